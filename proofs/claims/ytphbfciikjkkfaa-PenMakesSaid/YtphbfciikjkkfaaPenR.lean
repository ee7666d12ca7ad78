/- Pen: behind a 0, or where nothing is given, it is no matter what was ahead. -/
import Derived.Test.YtphbfciikjkkfaaPenQ
import Derived.Test.YtphbfciikjkkfaaDPenZ
namespace Go.Proofs.Ytphbfciikjkkfaa.Pm
open Go.Proofs.Ytphbfciikjkkfaa.Args
open Go.ChangeShapes Go.WideShapes Go.ChangeAt Go.RowKit
set_option linter.unusedVariables false
set_option linter.unusedSimpArgs false
set_option maxRecDepth 100000
theorem sgr_lives : f32 ⟨0, 0, 0⟩ [1, 31] = some (⟨1, 2, 0⟩, 0) := by
  rcases sgr_eq ⟨0, 0, 0⟩ [1, 31] (by decide) with ⟨_, h⟩ | ⟨_, _, _, _, q, h1, h2, _⟩
  · exact absurd (by decide) h
  · have h3 : loopO (f32_l4 ⟨0, 0, 0⟩ [1, 31]) (⟨0, 0, 0⟩, maxL [1, 31], 0) = some ⟨1, 2, 0⟩ := loopO_of (n := 4) (by kernel_rfl)
    rw [h3] at h1
    cases h1; exact h2
theorem change_lives : f29 ⟨0, 0, 0⟩ ⟨1, 2, 0⟩ = some ([1, 31], 0) := by
  have e : f29 ⟨0, 0, 0⟩ ⟨1, 2, 0⟩ = f29_j1 ⟨0, 0, 0⟩ ⟨1, 2, 0⟩ ⟨0, 0, 0⟩ [] := by kernel_rfl
  rw [e]
  unfold f29_j1
  have h3 : loopO (f29_l4 ⟨0, 0, 0⟩ ⟨1, 2, 0⟩) (⟨0, 0, 0⟩, [], 1) = some (⟨0, 0, 0⟩, [1]) := loopO_of (n := 11) (by kernel_rfl)
  rw [h3]
  show f29_j2 _ _ _ _ = _
  exact (by kernel_rfl : f29_j2 ⟨0, 0, 0⟩ ⟨1, 2, 0⟩ ⟨0, 0, 0⟩ [1] = some ([1, 31], 0))
theorem equal_lives : f48 [1, 31] [1, 31] = some true := by
  have e : f48 [1, 31] [1, 31] = f48_j0 [1, 31] [1, 31] := by kernel_rfl
  rw [e]
  unfold f48_j0
  have h3 : loopO (f48_l1 [1, 31] [1, 31]) 0 = some (.inl ()) := loopO_of (n := 4) (by kernel_rfl)
  rw [h3]; rfl
theorem lives : f30 = some true := by
  unfold f30
  simp only [sgr_lives, change_lives, Option.bind_some, equal_lives]
  decide
theorem f49_24 : f49 24 = some 16777216 := by
  unfold f49
  have h3 : loopO (f49_l0 24) (1, 0) = some 16777216 := loopO_of (n := 26) (by kernel_rfl)
  rw [h3]; rfl
theorem f49_25 : f49 25 = some 33554432 := by
  unfold f49
  have h3 : loopO (f49_l0 25) (1, 0) = some 33554432 := loopO_of (n := 27) (by kernel_rfl)
  rw [h3]; rfl
theorem f44_eq (n a b : Int) : f44 n a b = some (decide (a ≤ n ∧ n ≤ b)) := by
  unfold f44
  simp only [Bool.cond_decide]
  repeat' split
  all_goals first | exact congrArg some (decide_eq_true (by omega)).symm | exact congrArg some (decide_eq_false (by omega)).symm
theorem right_step (p : GPen) (i : Nat) (z : Int) (hz : ([p.Fore, p.Back] : List Int)[i]? = some z) : f31_l1 p (i : Int) = some (if colorP z then .inl ((i + 1 : Nat) : Int) else .inr (.inr 4)) := by
  have hi : i < 2 := by
    have := (List.getElem?_eq_some_iff.1 hz).1
    simpa using this
  unfold f31_l1 f31_l1_j2 f31_l1_j3
  rw [decide_eq_true (p := (i : Int) < ((([p.Fore, p.Back] : List Int).length : Nat) : Int)) (by show (i : Int) < 2; omega)]
  have hin : inR (i : Int) (([p.Fore, p.Back] : List Int).length) = some i := by
    unfold inR
    rw [if_pos (by show (0 : Int) ≤ i ∧ (i : Int) < 2; omega)]; simp
  simp only [cond_true, hin, Option.bind_some, hz, f44_eq, f49_24, f49_25]
  rw [i64w ((i : Int) + 1) (by omega), i64w (33554432 - 1) (by omega)]
  by_cases h1 : 0 ≤ z ∧ z ≤ 256
  · rw [decide_eq_true h1, if_pos (.inl h1)]; rfl
  · rw [decide_eq_false h1]
    simp only [Bool.not_false, cond_true]
    by_cases h2 : 16777216 ≤ z ∧ z ≤ 33554432 - 1
    · rw [decide_eq_true h2, if_pos (.inr (by omega))]; rfl
    · rw [decide_eq_false h2, if_neg (by unfold colorP; omega)]; rfl
theorem right_eq (p : GPen) : f31 p = some (if okP p then 0 else 4) := by
  unfold f31
  have s0 : f31_l1 p 0 = some (if colorP p.Fore then .inl 1 else .inr (.inr 4)) := right_step p 0 p.Fore rfl
  have s1 : f31_l1 p 1 = some (if colorP p.Back then .inl 2 else .inr (.inr 4)) := right_step p 1 p.Back rfl
  have s2 : f31_l1 p 2 = some (.inr (.inl ())) := rfl
  by_cases hc : colorP p.Fore
  · rw [if_pos hc] at s0
    by_cases hd : colorP p.Back
    · rw [if_pos hd] at s1
      rw [loopO_next s0 (loopO_next s1 (loopO_done s2))]
      simp only [Option.bind_some, Sum.elim_inl]
      unfold f31_j0
      simp only [f44_eq, Option.bind_some]
      by_cases hf : 0 ≤ p.Flags ∧ p.Flags ≤ 255
      · rw [decide_eq_true hf, if_pos ⟨hf.1, hf.2, hc, hd⟩]; rfl
      · rw [decide_eq_false hf, if_neg (fun h => hf ⟨h.1, h.2.1⟩)]; rfl
    · rw [if_neg hd] at s1
      rw [loopO_next s0 (loopO_done s1), if_neg (fun h => hd h.2.2.2)]; rfl
  · rw [if_neg hc] at s0
    rw [loopO_done s0, if_neg (fun h => hc h.2.2.1)]; rfl
theorem fit_app (m : Option Nat) (hm : m = none ∨ m = some 1048576) (a n : Nat) (ha : a ≤ 100) (h : FitN m n 8) : (a + n) * 8 ≤ 140737488355328 ∧ (((a + n : Nat) : Int) < 9223372036854775807) := by
  rcases hm with rfl | rfl
  · have : n * 8 ≤ 140737488351232 := h
    omega
  · have : n ≤ 1048576 := h
    omega
theorem penZero (m : Option Nat) (hm : m = none ∨ m = some 1048576) (p q : GPen) (l : List Int) (hl : FitN m l.length 8) : f11 p q l = some true := by
  obtain ⟨f1, f2⟩ := fit_app m hm 1 l.length (by omega) hl
  unfold f11
  have a1 : app? 8 [0] l = some (0 :: l) := by unfold app?; rw [if_pos (by simpa using f1)]; rfl
  have a2 : app? 8 [-1] l = some (-1 :: l) := by unfold app?; rw [if_pos (by simpa using f1)]; rfl
  have len1 : (((0 :: l : List Int).length : Nat) : Int) < 9223372036854775807 := by rw [List.length_cons, Nat.add_comm]; exact f2
  have len2 : (((-1 :: l : List Int).length : Nat) : Int) < 9223372036854775807 := by rw [List.length_cons, Nat.add_comm]; exact f2
  rw [a1, Option.bind_some]
  rcases sgr_eq p (0 :: l) len1 with ⟨e1, n1⟩ | ⟨z1, k1, c1, d1, x, g1, e1, o1⟩
  · rw [e1, Option.bind_some, a2, Option.bind_some]
    obtain ⟨y, hy⟩ : ∃ y, f32 q (-1 :: l) = some y := by
      rcases sgr_eq q (-1 :: l) len2 with ⟨e2, _⟩ | ⟨_, _, _, _, y, _, e2, _⟩
      · exact ⟨_, e2⟩
      · exact ⟨_, e2⟩
    rw [hy, Option.bind_some, lives]
    simp only [Option.bind_some, Bool.not_true, cond_false, decide_eq_false n1, Bool.not_false, cond_true]
  · rw [e1, Option.bind_some, a2, Option.bind_some]
    rcases sgr_eq q (-1 :: l) len2 with ⟨e2, n2⟩ | ⟨z2, k2, c2, d2, y, g2, e2, o2⟩
    · rw [e2, Option.bind_some, lives]
      simp only [Option.bind_some, Bool.not_true, cond_false, decide_true, decide_eq_false n2, Bool.not_false, cond_true]
    · rw [e2, Option.bind_some, lives]
      simp only [Option.bind_some, Bool.not_true, cond_false, decide_true]
      have hmax : maxL (-1 :: l) = maxL (0 :: l) := rfl
      have harg := maxL_arg d1
      have hmlen : (maxL (0 :: l)).length ≤ 1000 := by unfold maxL; rw [List.length_map]; omega
      have go : ∀ (a : GPen) (r : List Int) (s : GPen), ∃ x, f32_l4 a r (s, maxL (0 :: l), 0) = some (.inl (⟨0, 0, 0⟩, maxL (0 :: l), 1)) := fun a r s => by
        rcases round_ok a r s (maxL (0 :: l)) 0 harg hmlen (by unfold maxL; simp) with ⟨b, j, e, _, _, _, h⟩ | ⟨_, h⟩
        · obtain ⟨rfl, rfl⟩ := h rfl
          exact ⟨0, e⟩
        · exact absurd rfl h
      have hxy : x = y := by
        obtain ⟨_, s1⟩ := go p (0 :: l) p
        obtain ⟨_, s2⟩ := go q (-1 :: l) q
        obtain ⟨u, hu, _⟩ := run_ok p (0 :: l) (maxL (0 :: l)) harg hmlen ⟨0, 0, 0⟩ 1 (by unfold maxL; simp)
        have t1 := loopO_next s1 hu
        have t2 := loopO_next s2 (by rw [l4_same q p (-1 :: l) (0 :: l)]; exact hu)
        rw [t1] at g1
        rw [hmax, t2] at g2
        cases g1; cases g2; rfl
      subst hxy
      unfold f11_j0
      rw [right_eq, if_pos o1]
      simp
theorem PenZero_walk (v0 v1 v2 : Value) (w : World) (h0 : Arg none Go.Proofs.Try.prog w 54 v0) (h1 : Arg none Go.Proofs.Try.prog w 54 v1) (h2 : Arg none Go.Proofs.Try.prog w 55 v2) :
    Calls Go.Proofs.Try.prog 11 #[v0, v1, v2] w fun e w' => e = .returned (.bool true) ∧ Below w.heap.size w w' :=
  PenZero_calls none (fun p q l _ _ hl => penZero none (.inl rfl) p q l hl.1) v0 v1 v2 w h0 h1 h2
end Go.Proofs.Ytphbfciikjkkfaa.Pm
