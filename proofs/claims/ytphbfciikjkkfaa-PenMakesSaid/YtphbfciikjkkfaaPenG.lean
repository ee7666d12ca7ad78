/- Pen: the numbers of a change make the one pen of the other. -/
import Derived.Test.YtphbfciikjkkfaaPenF
namespace Go.Proofs.Ytphbfciikjkkfaa.Pm
open Go.Proofs.Ytphbfciikjkkfaa.Args
open Go.ChangeShapes Go.WideShapes Go.ChangeAt Go.RowKit
set_option linter.unusedVariables false
set_option linter.unusedSimpArgs false
set_option maxRecDepth 100000
/-- Rounds that go on to the end. -/
inductive Runs : GPen → List Int → GPen → Prop
  | nil (p : GPen) : Runs p [] p
  | step {p : GPen} {l : List Int} {q : GPen} {k : Nat} {r : GPen} : rs p l = some (q, k) → Runs q (l.drop k) r → Runs p l r
theorem runs_nil {p q : GPen} (h : Runs p [] q) : p = q := by
  generalize hl : ([] : List Int) = l at h
  cases h with
  | nil => rfl
  | step hs _ => subst hl; cases hs
theorem runs_eq (a1 : GPen) (a2 l : List Int) (h : ∀ x ∈ l, argP x) (hl : l.length ≤ 1000) {p : GPen} {t : List Int} {r : GPen} (hr : Runs p t r) : ∀ i, i ≤ l.length → l.drop i = t → loopO (f32_l4 a1 a2) (p, l, (i : Int)) = some r := by
  induction hr with
  | nil p =>
    intro i hi hd
    have : i = l.length := by have := congrArg List.length hd; simp at this; omega
    subst this; exact loopO_done (end_ok a1 a2 p l)
  | @step p t q k r hs _ ih =>
    intro i hi hd
    obtain ⟨e, kk⟩ := round_eq a1 a2 p l i h hl hi
    rw [hd, hs] at e
    have kk := kk q k (by rw [hd]; exact hs)
    exact loopO_next e (ih (i + k) kk.2 (by rw [← List.drop_drop, hd]))
theorem f46_tbl (i : Nat) (h : i ≤ 9) : f46 (i : Int) = some (tbl i) := by
  unfold f46 inR; rw [if_pos (by omega)]; rfl
theorem rs_flag (p : GPen) (i : Nat) (h : 1 ≤ i ∧ i ≤ 9) (t : List Int) : rs p ((i : Int) :: t) = some (⟨bitI .or .i64 p.Flags (tbl i), p.Fore, p.Back⟩, 1) := by
  rw [rs_cons, if_pos (by omega)]
  have : f52 (i : Int) p = some ⟨bitI .or .i64 p.Flags (tbl i), p.Fore, p.Back⟩ := by
    unfold f52 f52_j7 f52_j3
    simp only [decide_eq_false (show ¬ (40 : Int) ≤ (i : Int) by omega), decide_eq_false (show ¬ (100 : Int) ≤ (i : Int) by omega), decide_eq_false (show ¬ (i : Int) = 0 by omega), decide_eq_true (show (i : Int) ≤ 9 by omega), cond_false, cond_true, f46_tbl i h.2, Option.bind_some]
  rw [this]; rfl
theorem runs_flags (F B : Int) (r : GPen) (t : List Int) : ∀ (is : List Nat) (s : Int), (∀ i ∈ is, 1 ≤ i ∧ i ≤ 9) → Runs ⟨is.foldl (fun s i => bitI .or .i64 s (tbl i)) s, F, B⟩ t r → Runs ⟨s, F, B⟩ (is.map (fun (i : Nat) => (i : Int)) ++ t) r
  | [], s, _, h => h
  | i :: is, s, hi, h => Runs.step (rs_flag ⟨s, F, B⟩ i (hi i (List.mem_cons_self ..)) _) (runs_flags F B r t is _ (fun j hj => hi j (List.mem_cons_of_mem _ hj)) h)
theorem take_ten : ∀ i, i < 9 → ([1, 2, 3, 4, 5, 6, 7, 8, 9] : List Nat).take (i + 1) = ([1, 2, 3, 4, 5, 6, 7, 8, 9] : List Nat).take i ++ [i + 1] := by decide
theorem chg_loop (a1 q b : GPen) (pre : List Int) (hp : pre.length ≤ 1) : loopO (f29_l4 a1 q) (b, pre, 1) = some (b, pre ++ (flg b.Flags q.Flags).map fun (i : Nat) => (i : Int)) := by
  obtain ⟨r, h1, h2⟩ := loopO_ind (body := f29_l4 a1 q) (fun n x => ∃ i : Nat, x = (b, pre ++ ((([1, 2, 3, 4, 5, 6, 7, 8, 9] : List Nat).take i).filter (want b.Flags q.Flags)).map (fun (i : Nat) => (i : Int)), ((i + 1 : Nat) : Int)) ∧ i ≤ 9 ∧ n = 9 - i) (fun r => r = (b, pre ++ (flg b.Flags q.Flags).map fun (i : Nat) => (i : Int))) (by
    rintro n x ⟨i, rfl, hi, rfl⟩
    by_cases hlt : i < 9
    · left
      refine ⟨(b, pre ++ ((([1, 2, 3, 4, 5, 6, 7, 8, 9] : List Nat).take (i + 1)).filter (want b.Flags q.Flags)).map (fun (i : Nat) => (i : Int)), ((i + 1 + 1 : Nat) : Int)), 9 - (i + 1), ?_, by omega, i + 1, rfl, by omega, rfl⟩
      rw [take_ten i hlt, List.filter_append, List.map_append]
      have hlen : ((([1, 2, 3, 4, 5, 6, 7, 8, 9] : List Nat).take i).filter (want b.Flags q.Flags)).length ≤ 9 := Nat.le_trans (List.length_filter_le _ _) (by rw [List.length_take]; exact Nat.min_le_right _ _)
      generalize (([1, 2, 3, 4, 5, 6, 7, 8, 9] : List Nat).take i).filter (want b.Flags q.Flags) = fl at *
      have happ : ∀ z : Int, app? 8 (pre ++ fl.map (fun (i : Nat) => (i : Int))) [z] = some (pre ++ fl.map (fun (i : Nat) => (i : Int)) ++ [z]) := fun z => by
        unfold app?; rw [if_pos (by simp; omega)]
      unfold f29_l4 f29_l4_j5
      rw [decide_eq_true (by show ((i + 1 : Nat) : Int) ≤ 9; omega)]
      simp only [cond_true, f46_tbl (i + 1) (by omega), Option.bind_some, happ]
      rw [i64w _ (by omega)]
      have hw : want b.Flags q.Flags (i + 1) = !decide (bitI .andNot .i64 (bitI .and .i64 (tbl (i + 1)) q.Flags) b.Flags = 0) := rfl
      rw [← hw]
      cases hww : want b.Flags q.Flags (i + 1) with
      | true => simp only [cond_true, List.filter_cons_of_pos hww, List.filter_nil, List.map_cons, List.map_nil, List.append_assoc]; rfl
      | false => simp only [cond_false, List.filter_cons_of_neg (by rw [hww]; decide : ¬ want b.Flags q.Flags (i + 1) = true), List.filter_nil, List.map_nil, List.append_nil]; rfl
    · right
      have : i = 9 := by omega
      subst this
      exact ⟨_, rfl, rfl⟩) (n := 9) (x := (b, pre, 1)) ⟨0, by simp, by omega, rfl⟩
  rw [h1, h2]
theorem and_255 (x : Int) (h : 0 ≤ x ∧ x < 9223372036854775808) : bitI .and .i64 x 255 = x % 256 := by
  obtain ⟨n, rfl⟩ := Int.eq_ofNat_of_zero_le h.1
  show IntKind.i64.wrap ((BitVec.ofInt 64 (n : Int) &&& BitVec.ofInt 64 255).toNat : Int) = (n : Int) % 256
  have e1 : (BitVec.ofInt 64 (n : Int)).toNat = n := by
    rw [BitVec.ofInt_natCast, BitVec.toNat_ofNat]; omega
  have e2 : (BitVec.ofInt 64 255).toNat = 2 ^ 8 - 1 := by decide
  rw [BitVec.toNat_and, e1, e2, Nat.and_two_pow_sub_one_eq_mod, i64w _ (by omega)]
  omega
theorem f53_five (c : Int) (t : List Int) (h : 17 ≤ c ∧ c ≤ 256) : f53 (5 :: (c - 1) :: t) = some (c, 2) := by
  unfold f53
  rw [decide_eq_true (p := (2 : Int) ≤ ((5 :: (c - 1) :: t).length : Int)) (by simp; omega)]
  simp only [cond_true, idx_at (5 :: (c - 1) :: t) 0 0 rfl (by simp), idx_at (5 :: (c - 1) :: t) 1 1 rfl (by simp), List.getElem_cons_zero, List.getElem_cons_succ, Option.bind_some, f62_eq, decide_true]
  rw [decide_eq_false (p := (255 : Int) < c - 1) (by omega)]
  unfold f53_j0
  simp only [Bool.not_false, cond_true, idx_at (5 :: (c - 1) :: t) 1 1 rfl (by simp), List.getElem_cons_zero, List.getElem_cons_succ, Option.bind_some]
  rw [i64w _ (by omega), show c - 1 + 1 = c by omega]
theorem f53_two (r g b : Int) (t : List Int) (hr : 0 ≤ r ∧ r ≤ 255) (hg : 0 ≤ g ∧ g ≤ 255) (hb : 0 ≤ b ∧ b ≤ 255) : f53 (2 :: r :: g :: b :: t) = some (16777216 + r * 65536 + g * 256 + b, 4) := by
  unfold f53
  have i0 := idx_at (2 :: r :: g :: b :: t) 0 0 rfl (by simp)
  have i1 := idx_at (2 :: r :: g :: b :: t) 1 1 rfl (by simp)
  have i2 := idx_at (2 :: r :: g :: b :: t) 2 2 rfl (by simp)
  have i3 := idx_at (2 :: r :: g :: b :: t) 3 3 rfl (by simp)
  have hs : sub? (2 :: r :: g :: b :: t) 1 4 = some [r, g, b] := by unfold sub?; rw [if_pos (by simp only [List.length_cons]; omega)]; rfl
  have hf : f50v1 [r, g, b] = some false := by
    rw [f50v1_eq _ (by simp)]
    simp only [List.any_cons, List.any_nil, decide_eq_false (show ¬ (255 : Int) < r by omega), decide_eq_false (show ¬ (255 : Int) < g by omega), decide_eq_false (show ¬ (255 : Int) < b by omega)]; rfl
  simp only [List.getElem_cons_zero, List.getElem_cons_succ] at i0 i1 i2 i3
  rw [decide_eq_true (p := (2 : Int) ≤ ((2 :: r :: g :: b :: t).length : Int)) (by simp; omega)]
  simp only [cond_true, i0, Option.bind_some, decide_eq_false (show ¬ (2 : Int) = 5 by decide), cond_false]
  unfold f53_j0
  rw [decide_eq_true (p := (4 : Int) ≤ ((2 :: r :: g :: b :: t).length : Int)) (by simp only [List.length_cons]; omega)]
  simp only [cond_true, cond_false, i0, Option.bind_some, decide_true, hs, hf, Bool.not_false]
  unfold f53_j1
  simp only [cond_true, i1, i2, i3, Option.bind_some]
  have e1 : (2 : Int) ^ 16 = 65536 := rfl
  have e2 : (2 : Int) ^ 8 = 256 := rfl
  rw [e1, e2, i64w (r * 65536) (by omega), i64w (16777216 + r * 65536) (by omega), i64w (g * 256) (by omega), i64w (16777216 + r * 65536 + g * 256) (by omega), i64w (16777216 + r * 65536 + g * 256 + b) (by omega)]
end Go.Proofs.Ytphbfciikjkkfaa.Pm
