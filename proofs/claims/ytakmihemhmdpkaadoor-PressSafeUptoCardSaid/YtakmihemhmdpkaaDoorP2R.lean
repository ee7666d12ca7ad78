/- Parse: numbers between semicolons (args.Read), rows of numbers that are the same. -/
import Derived.Test.YtakmihemhmdpkaaDoorDP2Z
import Derived.Test.YtakmihemhmdpkaaDoorBas
namespace Go.Proofs.YtakmihemhmdpkaaDoor.Pm
open Go.Proofs.YtakmihemhmdpkaaDoor.Args
open Go.ChangeShapes Go.WideShapes Go.ChangeAt Go.RowKit
set_option linter.unusedVariables false
set_option linter.unusedSimpArgs false
set_option maxRecDepth 100000
abbrev Str := List UInt8
def okB (b : UInt8) : Bool := decide (b.toNat = 59) || (decide (48 ≤ b.toNat) && decide (b.toNat ≤ 57))
def numS (n : Int) (z : UInt8) : Int := if 16383 < (if 0 > n then 0 else n) * 10 + ((z - 48).toNat : Int) then 16383 else (if 0 > n then 0 else n) * 10 + ((z - 48).toNat : Int)
def num (w : List UInt8) : Int := w.foldl numS (-1)
def readA (s : List UInt8) : List Int × Int := if s.all okB then (((splitC 59 s).map num).take 32, 0) else ([], 4)
theorem numS_b (n : Int) (z : UInt8) (h : -1 ≤ n ∧ n ≤ 16383) : 0 ≤ numS n z ∧ numS n z ≤ 16383 := by
  unfold numS
  have := u8_lt (z - 48)
  constructor <;> split <;> split at * <;> omega
theorem num_loop (a1 : List UInt8) (out : List Int) (ps : List (List UInt8)) (k j : Int) : ∀ (suf pre : List UInt8) (n : Int), -1 ≤ n ∧ n ≤ 16383 → (pre ++ suf).length ≤ 100000000 →
    loopO (f31_l2_l6 a1) (out, pre ++ suf, n, ps, k, j, ((pre ++ suf).length : Int), (pre.length : Int)) = some (out, suf.foldl numS n, ps, k, j)
  | [], pre, n, h, hl => loopO_done (by
      unfold f31_l2_l6 f31_l2_l6_j7
      simp only [lt_end, cond_false]; rfl)
  | z :: t, pre, n, h, hl => by
    have e1 : pre ++ z :: t = (pre ++ [z]) ++ t := by simp
    have hb := numS_b n z h
    have ih := num_loop a1 out ps k j t (pre ++ [z]) (numS n z) ⟨by omega, hb.2⟩ (by rw [← e1]; exact hl)
    rw [← e1] at ih
    refine loopO_next ?_ ih
    unfold f31_l2_l6 f31_l2_l6_j7 f31_l2_l6_j8
    simp only [lt_mid, cond_true, idx_mid, Option.bind_some]
    have hp : pre.length < 1000000000 := by simp at hl; omega
    have hz := u8_lt (z - 48)
    have w1 : IntKind.i64.wrap ((if 0 > n then 0 else n) * 10) = (if 0 > n then 0 else n) * 10 := i64w _ (by split <;> omega)
    have w2 : IntKind.i64.wrap ((if 0 > n then 0 else n) * 10 + ((z - 48).toNat : Int)) = (if 0 > n then 0 else n) * 10 + ((z - 48).toNat : Int) := i64w _ (by split <;> omega)
    rw [wrap_nx pre z hp, w1, w2]
    rfl
theorem parts_loop (a1 : List UInt8) (ps : List (List UInt8)) (hps : ∀ w ∈ ps, w.length ≤ 100000000) (hl : ps.length ≤ 100000000) : ∀ (suf pre : List (List UInt8)) (out : List Int), ps = pre ++ suf → out.length ≤ 32 →
    loopO (f31_l2 a1) (out, ps, (ps.length : Int), (pre.length : Int)) = some (out ++ (suf.map num).take (32 - out.length))
  | [], pre, out, e, h => loopO_done (by
      subst e
      unfold f31_l2 f31_l2_j3
      simp only [lt_end, cond_false]
      simp)
  | w :: t, pre, out, e, h => by
    have hp : pre.length < 1000000000 := by rw [e] at hl; simp at hl; omega
    by_cases h32 : out.length = 32
    · refine loopO_done ?_
      subst e
      unfold f31_l2 f31_l2_j3 f31_l2_j4
      simp only [lt_mid, cond_true, idx_mid, Option.bind_some]
      rw [decide_eq_true (show (out.length : Int) = 32 by omega), h32]
      simp
    · have ih := parts_loop a1 ps hps hl t (pre ++ [w]) (out ++ [num w]) (by rw [e]; simp) (by simp; omega)
      have hw := num_loop a1 out ps (ps.length : Int) (pre.length : Int) w [] (-1) (by omega) (by have := hps w (by rw [e]; simp); simpa using this)
      simp only [List.nil_append, List.length_nil] at hw
      have e3 : 32 - out.length = (32 - (out ++ [num w]).length) + 1 := by simp; omega
      have e2 : out ++ ((w :: t).map num).take (32 - out.length) = out ++ [num w] ++ (t.map num).take (32 - (out ++ [num w]).length) := by
        rw [e3, List.map_cons, List.take_succ_cons]; simp
      rw [e2]
      refine loopO_next ?_ ih
      have hx : idx ps (pre.length : Int) = some w := by rw [e]; exact idx_mid pre w t
      have hlt : decide ((pre.length : Int) < (ps.length : Int)) = true := by rw [e]; exact lt_mid pre w t
      unfold f31_l2 f31_l2_j3 f31_l2_j4 f31_l2_j5
      simp only [hlt, hx, cond_true, Option.bind_some]
      rw [decide_eq_false (show ¬ (out.length : Int) = 32 by omega)]
      simp only [cond_false]
      have h0 : (0 : Int) = ((0 : Nat) : Int) := rfl
      rw [h0, hw]
      simp only [Option.bind_some]
      rw [app_ok 8 _ _ (by simp; omega)]
      simp only [Option.bind_some]
      rw [wrap_nx pre w hp]; rfl
theorem check_loop (a1 : List UInt8) : ∀ (suf pre : List UInt8), a1 = pre ++ suf → a1.length ≤ 100000000 →
    loopO (f31_l9 a1) (pre.length : Int) = some (if suf.all okB then .inl () else .inr ([], 4))
  | [], pre, e, h => loopO_done (by
      subst e
      unfold f31_l9 f31_l9_j10
      simp only [lt_end, cond_false]; rfl)
  | z :: t, pre, e, h => by
    have hp : pre.length < 1000000000 := by rw [e] at h; simp at h; omega
    have hx : idx a1 (pre.length : Int) = some z := by rw [e]; exact idx_mid pre z t
    have hlt : decide ((pre.length : Int) < (a1.length : Int)) = true := by rw [e]; exact lt_mid pre z t
    by_cases hz : okB z = true
    · have ih := check_loop a1 t (pre ++ [z]) (by rw [e]; simp) h
      rw [List.all_cons, hz, Bool.true_and]
      refine loopO_next ?_ ih
      unfold f31_l9 f31_l9_j10 f31_l9_j11
      simp only [hlt, hx, cond_true, Option.bind_some]
      rw [wrap_nx pre z hp]
      by_cases h59 : z.toNat = 59
      · rw [decide_eq_true (show (z.toNat : Int) = 59 by omega)]; rfl
      · rw [decide_eq_false (show ¬ (z.toNat : Int) = 59 by omega)]
        unfold okB at hz
        simp [h59] at hz
        rw [decide_eq_false (show ¬ (z.toNat : Int) < 48 by omega), decide_eq_false (show ¬ (57 : Int) < (z.toNat : Int) by omega)]; rfl
    · rw [List.all_cons, Bool.eq_false_iff.2 hz, Bool.false_and]
      refine loopO_done ?_
      unfold f31_l9 f31_l9_j10 f31_l9_j11
      simp only [hlt, hx, cond_true, Option.bind_some]
      unfold okB at hz
      simp at hz
      rw [decide_eq_false (show ¬ (z.toNat : Int) = 59 by omega)]
      simp only [Bool.not_false, cond_true]
      by_cases h48 : z.toNat < 48
      · rw [decide_eq_true (show (z.toNat : Int) < 48 by omega)]; rfl
      · rw [decide_eq_false (show ¬ (z.toNat : Int) < 48 by omega)]
        simp only [cond_false]
        rw [decide_eq_true (show (57 : Int) < (z.toNat : Int) by omega)]; rfl
theorem okB_mem (b : UInt8) (h : okB b = true) : b ∈ ([48, 49, 50, 51, 52, 53, 54, 55, 56, 57, 59] : List UInt8) := by
  unfold okB at h
  have hb : b = UInt8.ofNat b.toNat := u8_of rfl b.toNat_lt
  have : b.toNat = 48 ∨ b.toNat = 49 ∨ b.toNat = 50 ∨ b.toNat = 51 ∨ b.toNat = 52 ∨ b.toNat = 53 ∨ b.toNat = 54 ∨ b.toNat = 55 ∨ b.toNat = 56 ∨ b.toNat = 57 ∨ b.toNat = 59 := by simp at h; omega
  rcases this with e | e | e | e | e | e | e | e | e | e | e <;> rw [hb, e] <;> decide
theorem read_ok (s : List UInt8) (h : s.length ≤ 10000000) : f31 s = some (readA s) := by
  unfold f31 libTrim
  rw [if_pos ⟨by omega, by simp, by decide⟩, bs]
  have hc := check_loop s s [] rfl (by omega)
  have h0 : (0 : Int) = (([] : List UInt8).length : Int) := rfl
  unfold readA
  cases ha : s.all okB with
  | true =>
    rw [ha] at hc
    have ht : Lib.trimS s [48, 49, 50, 51, 52, 53, 54, 55, 56, 57, 59] = [] := trim_all s _ fun b hb => okB_mem b (List.all_eq_true.1 ha b hb)
    rw [ht, decide_eq_true rfl, Bool.not_true, cf]
    unfold f31_j0
    rw [h0, hc, bs, if_pos rfl, Sum.elim_inl]
    unfold f31_j1
    rw [split_ok s 59 (by omega), bs]
    have hp := parts_loop s (splitC 59 s) (fun w hw => by have := (splitC_part 59 s w hw).1; omega) (by have := splitC_len 59 s; omega) (splitC 59 s) [] [] rfl (by simp)
    simp only [List.length_nil, List.nil_append] at hp
    rw [h0, show ((([] : List UInt8).length : Int)) = ((0 : Nat) : Int) from rfl, hp, bs]
    rfl
  | false =>
    rw [ha] at hc
    by_cases ht : Lib.trimS s [48, 49, 50, 51, 52, 53, 54, 55, 56, 57, 59] = []
    · rw [ht, decide_eq_true rfl, Bool.not_true, cf]
      unfold f31_j0
      rw [h0, hc, bs, if_neg (by simp), Sum.elim_inr]; rfl
    · rw [decide_eq_false ht, Bool.not_false, ct]; rfl
theorem readA_len (s : List UInt8) : (readA s).1.length ≤ 32 := by
  unfold readA
  split
  · simp; omega
  · simp
end Go.Proofs.YtakmihemhmdpkaaDoor.Pm
