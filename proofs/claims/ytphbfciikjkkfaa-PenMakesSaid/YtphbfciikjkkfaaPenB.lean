/- Pen: a flag that is put in and taken out again. -/
import Derived.Test.YtphbfciikjkkfaaPenJ
namespace Go.Proofs.Ytphbfciikjkkfaa.Pm
open Go.Proofs.Ytphbfciikjkkfaa.Args
open Go.ChangeShapes Go.WideShapes Go.ChangeAt Go.RowKit
set_option linter.unusedVariables false
set_option linter.unusedSimpArgs false
set_option maxRecDepth 100000
theorem bits_back : ∀ a : Fin 256, ∀ z ∈ [4, 8, 16, 32, 64, 128], bitI .andNot .i64 (bitI .or .i64 (a.val : Int) z) z = bitI .andNot .i64 (a.val : Int) z ∧ bitI .andNot .i64 (bitI .or .i64 (a.val : Int) z) (bitI .andNot .i64 (bitI .or .i64 (a.val : Int) z) z) ≠ 0 ∧ bitI .andNot .i64 (bitI .andNot .i64 (bitI .or .i64 (a.val : Int) z) z) (a.val : Int) = 0 := by decide +kernel
theorem back_bits {a z : Int} (h : 0 ≤ a ∧ a ≤ 255) (hz : z ∈ [4, 8, 16, 32, 64, 128]) : bitI .andNot .i64 (bitI .or .i64 a z) z = bitI .andNot .i64 a z ∧ bitI .andNot .i64 (bitI .or .i64 a z) (bitI .andNot .i64 (bitI .or .i64 a z) z) ≠ 0 ∧ bitI .andNot .i64 (bitI .andNot .i64 (bitI .or .i64 a z) z) a = 0 := by
  have := bits_back ⟨a.toNat, by omega⟩ z hz
  rwa [show ((a.toNat : Nat) : Int) = a by omega] at this
theorem flag_of (n : Int) (h : 3 ≤ n ∧ n ≤ 9 ∧ n ≠ 6) : ∃ z, f46 n = some z ∧ z ∈ [4, 8, 16, 32, 64, 128] := by
  obtain ⟨z, h1, _, h3⟩ := f46_eq n (by omega)
  refine ⟨z, h1, ?_⟩
  have : n = 3 ∨ n = 4 ∨ n = 5 ∨ n = 7 ∨ n = 8 ∨ n = 9 := by omega
  rcases this with rfl | rfl | rfl | rfl | rfl | rfl <;> subst h3 <;> decide
theorem one_flag (n z : Int) (p : GPen) (h : 3 ≤ n ∧ n ≤ 9 ∧ n ≠ 6) (hz : f46 n = some z) : f52 n p = some ⟨bitI .or .i64 p.Flags z, p.Fore, p.Back⟩ := by
  unfold f52 f52_j7 f52_j3
  simp only [decide_eq_false (show ¬ (40 : Int) ≤ n by omega), decide_eq_false (show ¬ (100 : Int) ≤ n by omega), decide_eq_false (show ¬ n = 0 by omega), decide_eq_true (show n ≤ 9 by omega), cond_false, cond_true, hz, Option.bind_some]
theorem one_unflag (n z : Int) (p : GPen) (h : 3 ≤ n ∧ n ≤ 9 ∧ n ≠ 6) (hz : f46 n = some z) : f52 (n + 20) p = some ⟨bitI .andNot .i64 p.Flags z, p.Fore, p.Back⟩ := by
  unfold f52 f52_j7 f52_j3
  have e : IntKind.i64.wrap (n + 20 - 20) = n := by rw [i64w _ (by omega)]; omega
  simp only [decide_eq_false (show ¬ (40 : Int) ≤ n + 20 by omega), decide_eq_false (show ¬ (100 : Int) ≤ n + 20 by omega), decide_eq_false (show ¬ n + 20 = 0 by omega), decide_eq_false (show ¬ n + 20 ≤ 9 by omega), decide_eq_false (show ¬ n + 20 = 22 by omega), decide_eq_true (show (23 : Int) ≤ n + 20 by omega), decide_eq_true (show n + 20 ≤ 29 by omega), cond_false, cond_true, e, hz, Option.bind_some]
theorem single (n : Int) (p q : GPen) (hp : okP p) (hn : argP n) (h38 : n ≠ 38 ∧ n ≠ 48) (hq : f52 n p = some q) : f32 p [n] = some (q, 0) := by
  have hm : maxL [n] = [n] := by unfold maxL; simp; intro h; have := hn.1; omega
  rcases sgr_eq p [n] (by simp) with ⟨_, h⟩ | ⟨_, _, _, _, x, h1, h2, _⟩
  · refine absurd ?_ h
    unfold sgrE
    rw [if_neg (by simpa using hp), if_neg (by rintro (h | ⟨x, hx, h⟩); simp at h; simp at hx; subst hx; unfold argP at hn; omega), if_neg (by simp)]
  · rw [hm] at h1
    obtain ⟨e1, _⟩ := round_eq p [n] p [n] 0 (by simpa using hn) (by simp) (by simp)
    rw [List.drop_zero, rs_cons, if_pos h38, hq] at e1
    have e2 := loopO_next e1 (loopO_done (end_ok p [n] q [n]))
    have h1' : loopO (f32_l4 p [n]) (p, [n], ((0 : Nat) : Int)) = some x := h1
    rw [e2] at h1'
    cases h1'; exact h2
theorem penBack (p : GPen) (n : Int) : f12 p n = some true := by
  unfold f12
  rw [lives, f33_eq]
  simp only [Option.bind_some, Bool.not_true, cond_false]
  by_cases hp : okP p
  · rw [if_pos hp]
    simp only [decide_true, Bool.not_true, cond_false]
    by_cases h1 : n < 3
    · rw [decide_eq_true h1]; rfl
    · rw [decide_eq_false h1]
      by_cases h2 : 9 < n
      · rw [decide_eq_true h2]; rfl
      · rw [decide_eq_false h2]
        by_cases h3 : n = 6
        · rw [decide_eq_true h3]; rfl
        · rw [decide_eq_false h3]
          simp only [cond_false]
          unfold f12_j0
          have hn : 3 ≤ n ∧ n ≤ 9 ∧ n ≠ 6 := by omega
          obtain ⟨z, hz, hm⟩ := flag_of n hn
          obtain ⟨b1, b2, b3⟩ := back_bits ⟨hp.1, hp.2.1⟩ hm
          have hx : okP ⟨bitI .or .i64 p.Flags z, p.Fore, p.Back⟩ := by
            obtain ⟨q, e, h, _⟩ := one_ok n p ⟨by omega, by omega⟩
            rw [one_flag n z p hn hz] at e
            cases e; exact h hp
          have w : IntKind.i64.wrap (n + 20) = n + 20 := i64w _ (by omega)
          rw [w, single n p _ hp ⟨by omega, by omega⟩ ⟨by omega, by omega⟩ (one_flag n z p hn hz)]
          simp only [Option.bind_some]
          rw [single (n + 20) _ _ hx ⟨by omega, by omega⟩ ⟨by omega, by omega⟩ (one_unflag n z _ hn hz), single (n + 20) p _ hp ⟨by omega, by omega⟩ ⟨by omega, by omega⟩ (one_unflag n z p hn hz)]
          simp only [Option.bind_some, b1, decide_true, cond_true, Bool.and_self]
          rw [b1] at b2 b3
          rw [decide_eq_false b2, decide_eq_true b3]; rfl
  · rw [if_neg hp]; rfl
theorem PenBack_walk (v0 v1 : Value) (w : World) (h0 : Arg none Go.Proofs.Try.prog w 54 v0) (h1 : Arg none Go.Proofs.Try.prog w 3 v1) :
    Calls Go.Proofs.Try.prog 12 #[v0, v1] w fun e w' => e = .returned (.bool true) ∧ Below w.heap.size w w' :=
  PenBack_calls none (fun p n _ _ => penBack p n) v0 v1 w h0 h1
end Go.Proofs.Ytphbfciikjkkfaa.Pm
