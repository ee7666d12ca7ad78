/- Pen: the numbers of a change make the one pen of the other: the law. -/
import Derived.Test.YtphbfciikjkkfaaPenG
namespace Go.Proofs.Ytphbfciikjkkfaa.Pm
open Go.Proofs.Ytphbfciikjkkfaa.Args
open Go.ChangeShapes Go.WideShapes Go.ChangeAt Go.RowKit
set_option linter.unusedVariables false
set_option linter.unusedSimpArgs false
set_option maxRecDepth 100000
/-- A colour put on the one place or the other. -/
def dye (a : Int) (p : GPen) (c : Int) : GPen := if a = 30 then ⟨p.Flags, c, p.Back⟩ else ⟨p.Flags, p.Fore, c⟩
theorem one_dye (a n c : Int) (p : GPen) (ha : a = 30 ∨ a = 40) (h : (1 ≤ c ∧ c ≤ 8 ∧ n = a + c - 1) ∨ (9 ≤ c ∧ c ≤ 16 ∧ n = a + 60 + c - 9)) : f52 n p = some (dye a p c) := by
  unfold dye
  rcases ha with rfl | rfl
  · rw [if_pos rfl]
    unfold f52 f52_j7 f52_j3
    rcases h with ⟨h1, h2, rfl⟩ | ⟨h1, h2, rfl⟩
    · simp only [decide_eq_false (show ¬ (40 : Int) ≤ 30 + c - 1 by omega), decide_eq_false (show ¬ (100 : Int) ≤ 30 + c - 1 by omega), decide_eq_false (show ¬ 30 + c - 1 = 0 by omega), decide_eq_false (show ¬ 30 + c - 1 ≤ 9 by omega), decide_eq_false (show ¬ 30 + c - 1 = 22 by omega), decide_eq_true (show (23 : Int) ≤ 30 + c - 1 by omega), decide_eq_false (show ¬ 30 + c - 1 ≤ 29 by omega), cond_false, cond_true]
      unfold f52_j4
      rw [decide_eq_true (show (30 : Int) ≤ 30 + c - 1 by omega), decide_eq_true (show 30 + c - 1 ≤ 37 by omega), i64w (30 + c - 1 - 30) (by omega), i64w _ (by omega), show 30 + c - 1 - 30 + 1 = c by omega]; rfl
    · have e : 30 + 60 + c - 9 = 81 + c := by omega
      rw [e]
      simp only [decide_eq_true (show (40 : Int) ≤ 81 + c by omega), decide_eq_false (show ¬ 81 + c ≤ 49 by omega), decide_eq_false (show ¬ (100 : Int) ≤ 81 + c by omega), decide_eq_false (show ¬ 81 + c = 0 by omega), decide_eq_false (show ¬ 81 + c ≤ 9 by omega), decide_eq_false (show ¬ 81 + c = 22 by omega), decide_eq_true (show (23 : Int) ≤ 81 + c by omega), decide_eq_false (show ¬ 81 + c ≤ 29 by omega), cond_false, cond_true]
      unfold f52_j4 f52_j5
      rw [decide_eq_true (show (30 : Int) ≤ 81 + c by omega), decide_eq_false (show ¬ 81 + c ≤ 37 by omega), decide_eq_false (show ¬ 81 + c = 39 by omega), decide_eq_true (show (90 : Int) ≤ 81 + c by omega), decide_eq_true (show 81 + c ≤ 97 by omega), i64w (81 + c - 30) (by omega), i64w (81 + c - 30 - 60) (by omega), i64w (81 + c - 30 - 60 + 9) (by omega), show 81 + c - 30 - 60 + 9 = c by omega]; rfl
  · rw [if_neg (by decide)]
    unfold f52 f52_j6 f52_j0
    rcases h with ⟨h1, h2, rfl⟩ | ⟨h1, h2, rfl⟩
    · simp only [decide_eq_true (show (40 : Int) ≤ 40 + c - 1 by omega), decide_eq_true (show 40 + c - 1 ≤ 49 by omega), decide_eq_false (show ¬ 40 + c - 1 = 0 by omega), decide_eq_false (show ¬ 40 + c - 1 ≤ 9 by omega), decide_eq_false (show ¬ 40 + c - 1 = 22 by omega), decide_eq_true (show (23 : Int) ≤ 40 + c - 1 by omega), decide_eq_false (show ¬ 40 + c - 1 ≤ 29 by omega), cond_false, cond_true]
      unfold f52_j1
      rw [decide_eq_true (show (40 : Int) ≤ 40 + c - 1 by omega), decide_eq_true (show 40 + c - 1 ≤ 47 by omega), i64w (40 + c - 1 - 40) (by omega), i64w _ (by omega), show 40 + c - 1 - 40 + 1 = c by omega]; rfl
    · have e : 40 + 60 + c - 9 = 91 + c := by omega
      rw [e]
      simp only [decide_eq_true (show (40 : Int) ≤ 91 + c by omega), decide_eq_false (show ¬ 91 + c ≤ 49 by omega), decide_eq_true (show (100 : Int) ≤ 91 + c by omega), decide_eq_true (show 91 + c ≤ 107 by omega), decide_eq_false (show ¬ 91 + c = 0 by omega), decide_eq_false (show ¬ 91 + c ≤ 9 by omega), decide_eq_false (show ¬ 91 + c = 22 by omega), decide_eq_true (show (23 : Int) ≤ 91 + c by omega), decide_eq_false (show ¬ 91 + c ≤ 29 by omega), cond_false, cond_true]
      unfold f52_j1 f52_j2
      rw [decide_eq_true (show (40 : Int) ≤ 91 + c by omega), decide_eq_false (show ¬ 91 + c ≤ 47 by omega), decide_eq_false (show ¬ 91 + c = 49 by omega), decide_eq_true (show (100 : Int) ≤ 91 + c by omega), decide_eq_true (show 91 + c ≤ 107 by omega), i64w (91 + c - 40) (by omega), i64w (91 + c - 40 - 60) (by omega), i64w (91 + c - 40 - 60 + 9) (by omega), show 91 + c - 40 - 60 + 9 = c by omega]; rfl
theorem rs_one (p q : GPen) (n : Int) (t : List Int) (h : n ≠ 38 ∧ n ≠ 48) (hq : f52 n p = some q) : rs p (n :: t) = some (q, 1) := by
  rw [rs_cons, if_pos h, hq]; rfl
theorem rs_ext (a c : Int) (k : Nat) (p : GPen) (t : List Int) (ha : a = 30 ∨ a = 40) (hk : 0 < k) (h : f53 t = some (c, (k : Int))) : rs p ((a + 8) :: t) = some (dye a p c, k + 1) := by
  rw [rs_cons, if_neg (by omega), h]
  simp only [if_neg (show ¬ ((k : Int) = 0) by omega), Int.toNat_natCast]
  unfold dye
  rcases ha with rfl | rfl
  · rfl
  · rfl
theorem paint_ok (c a : Int) (hc : colorP c) (h1 : 1 ≤ c) (ha : a = 30 ∨ a = 40) : ∃ l, f47 c a = some l ∧ 0 < l.length ∧ l.length ≤ 5 ∧ (∀ x ∈ l, argP x) ∧ ∀ (p : GPen) (t : List Int) (r : GPen), Runs (dye a p c) t r → Runs p (l ++ t) r := by
  unfold f47
  by_cases c8 : c ≤ 8
  · rw [decide_eq_true c8, i64w (a + c) (by omega), i64w _ (by omega)]
    refine ⟨_, rfl, by simp, by simp, ?_, fun p t r hr => ?_⟩
    · intro x hx; simp at hx; subst hx; unfold argP; omega
    · exact Runs.step (rs_one p _ _ t (by omega) (one_dye a _ c p ha (.inl ⟨h1, c8, rfl⟩))) hr
  rw [decide_eq_false c8]
  simp only [cond_false]
  by_cases c16 : c ≤ 16
  · rw [decide_eq_true c16, i64w (a + 60) (by omega), i64w (a + 60 + c) (by omega), i64w _ (by omega)]
    refine ⟨_, rfl, by simp, by simp, ?_, fun p t r hr => ?_⟩
    · intro x hx; simp at hx; subst hx; unfold argP; omega
    · exact Runs.step (rs_one p _ _ t (by omega) (one_dye a _ c p ha (.inr ⟨by omega, c16, rfl⟩))) hr
  rw [decide_eq_false c16]
  simp only [cond_false]
  by_cases c256 : c ≤ 256
  · rw [decide_eq_true c256, i64w (a + 8) (by omega), i64w (c - 1) (by omega)]
    refine ⟨_, rfl, by simp, by simp, ?_, fun p t r hr => ?_⟩
    · intro x hx; simp at hx; unfold argP; omega
    · exact Runs.step (rs_ext a c 2 p _ ha (by decide) (f53_five c t (by omega))) hr
  rw [decide_eq_false c256]
  simp only [cond_false]
  unfold f47_j0
  have hbig : 16777216 ≤ c ∧ c < 33554432 := by unfold colorP at hc; omega
  have e1 : (2 : Int) ^ 16 = 65536 := rfl
  have e2 : (2 : Int) ^ 8 = 256 := rfl
  rw [e1, e2, Int.fdiv_eq_ediv_of_nonneg _ (by decide), Int.fdiv_eq_ediv_of_nonneg _ (by decide), and_255 _ (by omega), and_255 _ (by omega), and_255 _ (by omega), i64w (a + 8) (by omega)]
  refine ⟨_, rfl, by simp, by simp, ?_, fun p t r hr => ?_⟩
  · intro x hx; simp at hx; unfold argP; omega
  · have h4 := f53_two (c / 65536 % 256) (c / 256 % 256) (c % 256) t (by omega) (by omega) (by omega)
    have ec : 16777216 + c / 65536 % 256 * 65536 + c / 256 % 256 * 256 + c % 256 = c := by omega
    rw [ec] at h4
    exact Runs.step (rs_ext a c 4 p _ ha (by decide) h4) hr
theorem app_ok {α : Type} (u : Nat) (a b : List α) (h : u * (a.length + b.length) ≤ 1000000) (hu : u = 8) : app? u a b = some (a ++ b) := by
  subst hu; unfold app?; rw [if_pos (by omega)]
/-- A part of a change: nothing where the colours are the same. -/
theorem part_ok (c d a : Int) (hc : colorP c) (h : c ≠ d → 1 ≤ c) (ha : a = 30 ∨ a = 40) (pre : List Int) (hp : pre.length ≤ 100) {β : Type} (K : List Int → Option β) :
    ∃ l : List Int, (bif (!decide (c = d)) then ((f47 c a).bind fun z => ((app? 8 pre z).bind fun y => K y)) else K pre) = K (pre ++ l) ∧ l.length ≤ 5 ∧ (c = d → l = []) ∧ (∀ x ∈ l, argP x) ∧ ∀ (p : GPen) (t : List Int) (r : GPen), (c = d → dye a p c = p) → Runs (dye a p c) t r → Runs p (l ++ t) r := by
  by_cases e : c = d
  · refine ⟨[], by rw [decide_eq_true e]; simp, by simp, fun _ => rfl, by simp, fun p t r h1 h2 => ?_⟩
    rw [h1 e] at h2; exact h2
  · obtain ⟨l, h1, h2, h3, h4, h5⟩ := paint_ok c a hc (h e) ha
    refine ⟨l, ?_, h3, fun h => absurd h e, h4, fun p t r _ hr => h5 p t r hr⟩
    rw [decide_eq_false e, h1]
    simp only [Bool.not_false, cond_true, Option.bind_some, app_ok 8 pre l (by omega) rfl]
theorem change_ok (a1 q b : GPen) (pre : List Int) (hb : okP b) (hq : okP q) (hpre : pre.length ≤ 1) (hF : bitI .andNot .i64 b.Flags q.Flags = 0) (hf : q.Fore = 0 → b.Fore = 0) (hB : q.Back = 0 → b.Back = 0) :
    ∃ l, f29_j1 a1 q b pre = some (pre ++ l, 0) ∧ l.length ≤ 18 ∧ (∀ x ∈ l, argP x) ∧ Runs b l q ∧ (b = q → l = []) := by
  obtain ⟨f1, f2⟩ := flags_ok b.Flags q.Flags ⟨hb.1, hb.2.1⟩ ⟨hq.1, hq.2.1⟩ hF
  have hfm : ∀ i ∈ flg b.Flags q.Flags, 1 ≤ i ∧ i ≤ 9 := fun i hi => by
    have := (List.mem_filter.1 hi).1
    simp at this; omega
  have hc1 : q.Fore ≠ b.Fore → 1 ≤ q.Fore := fun h => by
    have := hq.2.2.1; unfold colorP at this
    by_cases e : q.Fore = 0
    · exact absurd (e.trans (hf e).symm) h
    · omega
  have hc2 : q.Back ≠ b.Back → 1 ≤ q.Back := fun h => by
    have := hq.2.2.2; unfold colorP at this
    by_cases e : q.Back = 0
    · exact absurd (e.trans (hB e).symm) h
    · omega
  have hfl : ((flg b.Flags q.Flags).map fun (i : Nat) => (i : Int)).length ≤ 8 := by rw [List.length_map]; exact f2
  obtain ⟨l1, g1, g2, g3, g4, g5⟩ := part_ok q.Fore b.Fore 30 hq.2.2.1 hc1 (.inl rfl) (pre ++ (flg b.Flags q.Flags).map fun (i : Nat) => (i : Int)) (by rw [List.length_append]; omega) (fun z => f29_j3 a1 q b z)
  obtain ⟨l2, k1, k2, k3, k4, k5⟩ := part_ok q.Back b.Back 40 hq.2.2.2 hc2 (.inr rfl) (pre ++ ((flg b.Flags q.Flags).map fun (i : Nat) => (i : Int)) ++ l1) (by rw [List.length_append, List.length_append]; omega) (fun z => some (z, (0 : Int)))
  refine ⟨((flg b.Flags q.Flags).map fun (i : Nat) => (i : Int)) ++ (l1 ++ l2), ?_, ?_, ?_, ?_, ?_⟩
  · unfold f29_j1
    rw [chg_loop a1 q b pre hpre, Option.bind_some]
    show f29_j2 a1 q b (pre ++ (flg b.Flags q.Flags).map fun (i : Nat) => (i : Int)) = _
    unfold f29_j2
    rw [g1]
    unfold f29_j3
    rw [k1, List.append_assoc, List.append_assoc]
  · rw [List.length_append, List.length_append]; omega
  · intro x hx
    rcases List.mem_append.1 hx with h | h
    · obtain ⟨i, hi, rfl⟩ := List.mem_map.1 h
      have := hfm i hi
      unfold argP; omega
    · rcases List.mem_append.1 h with h | h
      · exact g4 x h
      · exact k4 x h
  · have r0 : Runs q [] q := Runs.nil q
    have d2 : dye 40 ⟨q.Flags, q.Fore, b.Back⟩ q.Back = q := rfl
    have r1 : Runs ⟨q.Flags, q.Fore, b.Back⟩ (l2 ++ []) q := k5 _ [] q (fun h => by rw [d2, ← h]) (by rw [d2]; exact r0)
    rw [List.append_nil] at r1
    have d1 : dye 30 ⟨q.Flags, b.Fore, b.Back⟩ q.Fore = ⟨q.Flags, q.Fore, b.Back⟩ := rfl
    have r2 : Runs ⟨q.Flags, b.Fore, b.Back⟩ (l1 ++ l2) q := g5 _ l2 q (fun h => by rw [d1, ← h]) (by rw [d1]; exact r1)
    have r3 := runs_flags b.Fore b.Back q (l1 ++ l2) (flg b.Flags q.Flags) b.Flags hfm (by rw [f1]; exact r2)
    exact r3
  · intro e
    subst e
    rw [(flags_same b.Flags ⟨hb.1, hb.2.1⟩).1, g3 rfl, k3 rfl]; rfl
theorem penMakes (p q : GPen) : f10 p q = some true := by
  have eqT : p = q → (decide (p.Flags = q.Flags) && (decide (p.Fore = q.Fore) && (decide (p.Back = q.Back) && true))) = true := by
    intro h; subst h; simp
  have eqF : p ≠ q → (decide (p.Flags = q.Flags) && (decide (p.Fore = q.Fore) && (decide (p.Back = q.Back) && true))) = false := by
    intro h
    rw [Bool.eq_false_iff]
    intro h2
    refine h ?_
    cases p; cases q
    simp at h2
    obtain ⟨a, b, c⟩ := h2
    subst a b c; rfl
  -- what a change that is refused says
  have refused : ∀ z : Int, z ≠ 0 → (¬ (okP p ∧ okP q)) → f10_j1 p q [] z = some true := by
    intro z hz hn
    unfold f10_j1
    rw [lives, right_eq]
    simp only [Option.bind_some, cond_true, decide_eq_false hz, cond_false]
    by_cases e : p = q
    · rw [eqT e]
      have : ¬ okP q := fun h => hn ⟨e ▸ h, h⟩
      rw [if_neg this]; rfl
    · rw [eqF e]; rfl
  unfold f10
  by_cases hp : okP p
  rotate_left
  · have e : f29 p q = some ([], 4) := by
      unfold f29 f29_j8
      rw [f33_eq, if_neg hp]; rfl
    rw [e, lives]
    exact refused 4 (by decide) fun h => hp h.1
  by_cases hq : okP q
  rotate_left
  · have e : f29 p q = some ([], 4) := by
      unfold f29 f29_j8
      rw [f33_eq, if_pos hp]
      simp only [Option.bind_some, decide_true, Bool.not_true, cond_false]
      unfold f29_j9
      rw [f33_eq, if_neg hq]; rfl
    rw [e, lives]
    exact refused 4 (by decide) fun h => hq h.2
  have main : ∃ l : List Int, f29 p q = some (l, 0) ∧ l.length ≤ 19 ∧ (∀ x ∈ l, argP x) ∧ Runs p l q ∧ (p = q → l = []) := by
    have e : f29 p q = f29_j0 p q := by
      unfold f29 f29_j8
      rw [f33_eq, if_pos hp]
      simp only [Option.bind_some, decide_true, Bool.not_true, cond_false]
      unfold f29_j9
      rw [f33_eq, if_pos hq]
      simp only [Option.bind_some, decide_true, Bool.not_true, cond_false]
    have zero : okP ⟨0, 0, 0⟩ := by decide
    have h6 : (p ≠ q) → ∃ l : List Int, f29_j6 p q = some (l, 0) ∧ l.length ≤ 19 ∧ (∀ x ∈ l, argP x) ∧ Runs p l q ∧ (p = q → l = []) := by
      intro hne
      obtain ⟨n, hn⟩ : ∃ n : Nat, q.Flags = (n : Int) := Int.eq_ofNat_of_zero_le hq.1
      have hz : bitI .andNot .i64 (0 : Int) q.Flags = 0 := by
        have := hq.2.1
        rw [hn]
        have := bitI_not 0 n (by decide) (by omega)
        rw [show ((0 : Nat) : Int) = 0 from rfl] at this
        rw [this]
        exact congrArg Int.ofNat (Nat.zero_and _)
      obtain ⟨l, c1, c2, c3, c4, _⟩ := change_ok p q ⟨0, 0, 0⟩ [0] zero hq (by simp) hz (fun _ => rfl) (fun _ => rfl)
      refine ⟨[0] ++ l, ?_, by simp; omega, ?_, ?_, fun h => absurd h hne⟩
      · unfold f29_j6
        rw [app_ok 8 [] [0] (by simp) rfl, Option.bind_some]
        exact c1
      · intro x hx
        rcases List.mem_append.1 hx with h | h
        · simp at h; subst h; unfold argP; omega
        · exact c3 x h
      · obtain ⟨s, hs, _, h0⟩ := one_ok 0 p ⟨by decide, by decide⟩
        rw [h0 rfl] at hs
        exact Runs.step (rs_one p _ 0 l (by decide) hs) c4
    have h7 : bitI .andNot .i64 p.Flags q.Flags = 0 → (q.Fore = 0 → p.Fore = 0) → (q.Back = 0 → p.Back = 0) → ∃ l : List Int, f29_j7 p q = some (l, 0) ∧ l.length ≤ 19 ∧ (∀ x ∈ l, argP x) ∧ Runs p l q ∧ (p = q → l = []) := by
      intro a b c
      obtain ⟨l, c1, c2, c3, c4, c5⟩ := change_ok p q p [] hp hq (by simp) a b c
      exact ⟨l, c1, by omega, c3, c4, c5⟩
    rw [e]
    unfold f29_j0
    by_cases x1 : bitI .andNot .i64 p.Flags q.Flags = 0
    rotate_left
    · rw [decide_eq_false x1]
      exact h6 fun h => x1 (h ▸ (flags_same p.Flags ⟨hp.1, hp.2.1⟩).2)
    rw [decide_eq_true x1]
    simp only [Bool.not_true, cond_false]
    have back : (q.Fore = 0 → p.Fore = 0) → ∃ l : List Int, (bif (!decide (p.Back = 0)) then (bif (decide (q.Back = 0)) then (f29_j6 p q ) else (f29_j7 p q )) else (f29_j7 p q )) = some (l, 0) ∧ l.length ≤ 19 ∧ (∀ x ∈ l, argP x) ∧ Runs p l q ∧ (p = q → l = []) := by
      intro hf
      by_cases y1 : p.Back = 0
      · rw [decide_eq_true y1]
        exact h7 x1 hf fun _ => y1
      · rw [decide_eq_false y1]
        by_cases y2 : q.Back = 0
        · rw [decide_eq_true y2]
          exact h6 fun h => y1 (h ▸ y2)
        · rw [decide_eq_false y2]
          exact h7 x1 hf fun h => absurd h y2
    by_cases x2 : p.Fore = 0
    · rw [decide_eq_true x2]
      exact back fun _ => x2
    · rw [decide_eq_false x2]
      by_cases x3 : q.Fore = 0
      · rw [decide_eq_true x3]
        exact h6 fun h => x2 (h ▸ x3)
      · rw [decide_eq_false x3]
        exact back fun h => absurd h x3
  obtain ⟨l, e, h19, harg, hr, hsame⟩ := main
  rw [e, lives]
  simp only [Option.bind_some, Bool.not_true, cond_false, decide_true]
  by_cases h0 : l.length = 0
  · have : l = [] := List.eq_nil_of_length_eq_zero h0
    subst this
    have hpq := runs_nil hr
    rw [decide_eq_true (p := (([] : List Int).length : Int) = 0) (by simp)]
    simp only [cond_true]
    unfold f10_j1
    rw [lives, right_eq, eqT hpq, if_pos hq]; rfl
  · rw [decide_eq_false (p := (l.length : Int) = 0) (by omega)]
    simp only [cond_false]
    have hne : p ≠ q := fun h => h0 (by rw [hsame h]; rfl)
    have hm : maxL l = l := by
      unfold maxL
      conv => rhs; rw [← List.map_id l]
      exact List.map_congr_left fun x hx => if_neg (by have := (harg x hx).1; omega)
    have hs : f32 p l = some (q, 0) := by
      rcases sgr_eq p l (by omega) with ⟨_, h⟩ | ⟨_, _, _, _, x, h1, h2, _⟩
      · refine absurd ?_ h
        unfold sgrE
        rw [if_neg (by simpa using hp), if_neg (by
          rintro (h | ⟨x, hx, h⟩)
          · exact h0 h
          · have := harg x hx; unfold argP at this; omega), if_neg (by omega)]
      · rw [hm] at h1
        have h3 := runs_eq p l l harg (by omega) hr 0 (by omega) rfl
        rw [show ((0 : Nat) : Int) = 0 from rfl, h1] at h3
        cases h3; exact h2
    unfold f10_j0
    rw [hs]
    simp only [Option.bind_some]
    rw [eqF hne, decide_eq_true (p := (l.length : Int) ≤ 19) (by omega)]
    simp
theorem PenMakes_walk (v0 v1 : Value) (w : World) (h0 : Arg none Go.Proofs.Try.prog w 54 v0) (h1 : Arg none Go.Proofs.Try.prog w 54 v1) :
    Calls Go.Proofs.Try.prog 10 #[v0, v1] w fun e w' => e = .returned (.bool true) ∧ Below w.heap.size w w' :=
  PenMakes_calls none (fun p q _ _ => penMakes p q) v0 v1 w h0 h1
end Go.Proofs.Ytphbfciikjkkfaa.Pm
