/- Pen: Sgr answers, whatever it is given. -/
import Derived.Test.YtjoccdgmcdkbkaaGreatDoorSsG
namespace Go.Proofs.YtjoccdgmcdkbkaaGreatDoor.Pm
open Go.Proofs.YtjoccdgmcdkbkaaGreatDoor.Args
open Go.ChangeShapes Go.WideShapes Go.ChangeAt Go.RowKit
set_option linter.unusedVariables false
set_option linter.unusedSimpArgs false
set_option maxRecDepth 100000
def colorP (n : Int) : Prop := (0 ≤ n ∧ n ≤ 256) ∨ (16777216 ≤ n ∧ n < 33554432)
instance (n : Int) : Decidable (colorP n) := by unfold colorP; infer_instance
def okP (p : GPen) : Prop := 0 ≤ p.Flags ∧ p.Flags ≤ 255 ∧ colorP p.Fore ∧ colorP p.Back
instance (p : GPen) : Decidable (okP p) := by unfold okP; infer_instance
theorem f54_eq (n : Int) : f78 n = some (decide (colorP n)) := by
  unfold f78 colorP
  simp only [Bool.cond_decide]
  repeat' split
  all_goals first | exact congrArg some (decide_eq_true (by omega)).symm | exact congrArg some (decide_eq_false (by omega)).symm
theorem f33_eq (p : GPen) : f50 p = some (if okP p then 0 else 4) := by
  unfold f50
  simp only [Bool.cond_decide, f54_eq, Option.bind_some]
  by_cases hok : okP p
  · rw [if_pos hok]
    obtain ⟨a, b, c, d⟩ := hok
    rw [if_neg (by omega), if_neg (by omega), decide_eq_true c, decide_eq_true d]; rfl
  · rw [if_neg hok]
    split
    · rfl
    · split
      · rfl
      · by_cases c : colorP p.Fore
        · by_cases d : colorP p.Back
          · exact absurd ⟨by omega, by omega, c, d⟩ hok
          · rw [decide_eq_true c, decide_eq_false d]; rfl
        · rw [decide_eq_false c]; rfl
theorem f51_eq (n : Int) : f128 n = some (decide (n < -1 ∨ 16383 < n)) := by
  unfold f128
  simp only [Bool.cond_decide]
  repeat' split
  all_goals first | exact congrArg some (decide_eq_true (by omega)).symm | exact congrArg some (decide_eq_false (by omega)).symm
theorem idx_get {α : Type} (l : List α) (i : Nat) (h : i < l.length) : idx l (i : Int) = some l[i] := by
  unfold idx; rw [if_pos (by omega)]; simp [h]
/-- A search: the first one that is wanted. -/
theorem search {α : Type} {body : Int → Option (Int ⊕ (Unit ⊕ Int))} {l : List α} {q : α → Bool} (hl : (l.length : Int) < 9223372036854775807)
    (hb : ∀ i : Nat, ∀ h : i < l.length, body i = some (if q l[i] = true then .inr (.inr (i : Int)) else .inl (IntKind.i64.wrap ((i : Int) + 1)))) (he : body (l.length : Int) = some (.inr (.inl ()))) :
    ∃ r, loopO body 0 = some r ∧ ((∃ i : Int, 0 ≤ i ∧ r = .inr i) ↔ l.any q = true) := by
  have key := loopO_ind (body := body) (fun n x => ∃ i : Nat, x = (i : Int) ∧ i ≤ l.length ∧ n = l.length - i ∧ (l.take i).any q = false) (fun r => (∃ i : Int, 0 ≤ i ∧ r = .inr i) ↔ l.any q = true) (by
    rintro n x ⟨i, rfl, hi, rfl, ha⟩
    by_cases h : i < l.length
    · by_cases hq : q l[i] = true
      · right
        refine ⟨.inr (i : Int), by rw [hb i h, if_pos hq], ⟨fun _ => ?_, fun _ => ⟨i, by omega, rfl⟩⟩⟩
        exact List.any_eq_true.2 ⟨l[i], List.getElem_mem h, hq⟩
      · left
        refine ⟨((i + 1 : Nat) : Int), l.length - (i + 1), ?_, by omega, i + 1, rfl, by omega, rfl, ?_⟩
        · rw [hb i h, if_neg hq, i64w _ (by omega)]; rfl
        · rw [List.take_add_one, List.any_append, ha]; simp [h, hq]
    · right
      have : i = l.length := by omega
      subst this
      refine ⟨.inl (), he, ⟨(by rintro ⟨j, _, hj⟩; cases hj), fun hh => ?_⟩⟩
      rw [List.take_length] at ha; rw [ha] at hh; cases hh) (n := l.length) (x := 0) ⟨0, rfl, by omega, rfl, by simp⟩
  exact key
theorem f50_eq (l : List Int) (hl : (l.length : Int) < 9223372036854775807) : f61v1 l = some (l.any fun n => decide (n < -1 ∨ 16383 < n)) := by
  unfold f61v1 f84v1
  obtain ⟨r, h1, h2⟩ := search (body := f84v1_l0 l) (q := fun n => decide (n < -1 ∨ 16383 < n)) hl (fun i h => by
    unfold f84v1_l0 f84v1_l0_j1 f84v1_l0_j2
    rw [decide_eq_true (p := (i : Int) < (l.length : Int)) (by omega)]
    simp only [cond_true, idx_get l i h, f51_eq, Option.bind_some]
    generalize decide (l[i] < -1 ∨ 16383 < l[i]) = b
    cases b <;> rfl) (by
    unfold f84v1_l0 f84v1_l0_j1
    simp only [Bool.cond_decide]
    rw [if_neg (by omega)]; rfl)
  rw [h1]
  simp only [Option.bind_some]
  cases r with
  | inl u =>
    have : ¬ (l.any fun n => decide (n < -1 ∨ 16383 < n)) = true := fun h => by
      obtain ⟨i, _, hi⟩ := h2.2 h
      cases hi
    simp only [Sum.elim_inl, Option.bind_some]
    have e : (l.any fun n => decide (n < -1 ∨ 16383 < n)) = false := by simpa using this
    rw [e]; rfl
  | inr i =>
    have hn : (l.any fun n => decide (n < -1 ∨ 16383 < n)) = true ↔ 0 ≤ i := by
      rw [← h2]; exact ⟨fun ⟨j, hj, e⟩ => by cases e; exact hj, fun h => ⟨i, h, rfl⟩⟩
    simp only [Sum.elim_inr, Option.bind_some, Bool.cond_decide]
    by_cases h : 0 ≤ i
    · rw [if_pos h, hn.2 h]
    · rw [if_neg h]
      have : (l.any fun n => decide (n < -1 ∨ 16383 < n)) = false := by simpa using fun hh => h (hn.1 hh)
      rw [this]
theorem f62_eq (n : Int) : f135 n = some (decide (255 < n)) := by
  unfold f135
  simp only [Bool.cond_decide]
  repeat' split
  all_goals first | exact congrArg some (decide_eq_true (by omega)).symm | exact congrArg some (decide_eq_false (by omega)).symm
theorem f50v1_eq (l : List Int) (hl : (l.length : Int) < 9223372036854775807) : f61v2 l = some (l.any fun n => decide (255 < n)) := by
  unfold f61v2 f84v2
  obtain ⟨r, h1, h2⟩ := search (body := f84v2_l0 l) (q := fun n => decide (255 < n)) hl (fun i h => by
    unfold f84v2_l0 f84v2_l0_j1 f84v2_l0_j2
    rw [decide_eq_true (p := (i : Int) < (l.length : Int)) (by omega)]
    simp only [cond_true, idx_get l i h, f62_eq, Option.bind_some]
    generalize decide (255 < l[i]) = b
    cases b <;> rfl) (by
    unfold f84v2_l0 f84v2_l0_j1
    simp only [Bool.cond_decide]
    rw [if_neg (by omega)]; rfl)
  rw [h1]
  simp only [Option.bind_some]
  cases r with
  | inl u =>
    have : ¬ (l.any fun n => decide (255 < n)) = true := fun h => by
      obtain ⟨i, _, hi⟩ := h2.2 h
      cases hi
    simp only [Sum.elim_inl, Option.bind_some]
    have e : (l.any fun n => decide (255 < n)) = false := by simpa using this
    rw [e]; rfl
  | inr i =>
    have hn : (l.any fun n => decide (255 < n)) = true ↔ 0 ≤ i := by
      rw [← h2]; exact ⟨fun ⟨j, hj, e⟩ => by cases e; exact hj, fun h => ⟨i, h, rfl⟩⟩
    simp only [Sum.elim_inr, Option.bind_some, Bool.cond_decide]
    by_cases h : 0 ≤ i
    · rw [if_pos h, hn.2 h]
    · rw [if_neg h]
      have : (l.any fun n => decide (255 < n)) = false := by simpa using fun hh => h (hn.1 hh)
      rw [this]
/-- A number that may be given. -/
def argP (n : Int) : Prop := 0 ≤ n ∧ n ≤ 16383
theorem bits_ok : ∀ a : Fin 256, ∀ z ∈ [0, 1, 2, 4, 8, 16, 32, 64, 128, 3], (0 ≤ bitI .or .i64 (a.val : Int) z ∧ bitI .or .i64 (a.val : Int) z ≤ 255) ∧ 0 ≤ bitI .andNot .i64 (a.val : Int) z ∧ bitI .andNot .i64 (a.val : Int) z ≤ 255 := by decide +kernel
theorem or_ok {a z : Int} (h : 0 ≤ a ∧ a ≤ 255) (hz : z ∈ [0, 1, 2, 4, 8, 16, 32, 64, 128, 3]) : 0 ≤ bitI .or .i64 a z ∧ bitI .or .i64 a z ≤ 255 := by
  have := (bits_ok ⟨a.toNat, by omega⟩ z hz).1
  rwa [show ((a.toNat : Nat) : Int) = a by omega] at this
theorem andNot_ok {a z : Int} (h : 0 ≤ a ∧ a ≤ 255) (hz : z ∈ [0, 1, 2, 4, 8, 16, 32, 64, 128, 3]) : 0 ≤ bitI .andNot .i64 a z ∧ bitI .andNot .i64 a z ≤ 255 := by
  have := (bits_ok ⟨a.toNat, by omega⟩ z hz).2
  rwa [show ((a.toNat : Nat) : Int) = a by omega] at this
theorem f46_eq (n : Int) (h : 0 ≤ n ∧ n ≤ 9) : ∃ z, f134 n = some z ∧ z ∈ [0, 1, 2, 4, 8, 16, 32, 64, 128, 3] ∧ z = ([0, 1, 2, 4, 8, 16, 0, 32, 64, 128] : List Int).getD n.toNat 0 := by
  unfold f134 inR
  rw [if_pos (by omega)]
  refine ⟨_, rfl, ?_, rfl⟩
  have : n.toNat < 10 := by omega
  revert this
  generalize n.toNat = k
  intro hk
  match k, hk with
  | 0, _ => decide
  | 1, _ => decide
  | 2, _ => decide
  | 3, _ => decide
  | 4, _ => decide
  | 5, _ => decide
  | 6, _ => decide
  | 7, _ => decide
  | 8, _ => decide
  | 9, _ => decide
  | k + 10, h => exact absurd h (by omega)

set_option maxHeartbeats 4000000 in
theorem one_ok (n : Int) (p : GPen) (h : argP n) : ∃ q, f129 n p = some q ∧ (okP p → okP q) ∧ (n = 0 → q = ⟨0, 0, 0⟩) := by
  obtain ⟨h0, h1⟩ := h
  have zero : okP ⟨0, 0, 0⟩ := by decide
  have hj0 : ∃ q, f129_j0 n p = some q ∧ (okP p → okP q) ∧ (n = 0 → q = ⟨0, 0, 0⟩) := by
    unfold f129_j0 f129_j1 f129_j2
    simp only [Bool.cond_decide]
    repeat' split
    all_goals first
      | (refine ⟨_, rfl, fun hp => ?_, fun e => by first | rfl | omega⟩
         obtain ⟨a, b, c, d⟩ := hp
         first
         | exact zero
         | exact ⟨a, b, c, d⟩
         | (refine ⟨a, b, c, ?_⟩; simp only [i64w _ (show -9223372036854775808 ≤ n - 40 ∧ n - 40 ≤ 9223372036854775807 by omega), i64w _ (show -9223372036854775808 ≤ n - 40 - 60 ∧ n - 40 - 60 ≤ 9223372036854775807 by omega), i64w _ (show -9223372036854775808 ≤ n - 40 - 60 + 9 ∧ n - 40 - 60 + 9 ≤ 9223372036854775807 by omega), i64w _ (show -9223372036854775808 ≤ n - 40 + 1 ∧ n - 40 + 1 ≤ 9223372036854775807 by omega)]; unfold colorP; omega)
         | exact ⟨(andNot_ok ⟨a, b⟩ (by decide)).1, (andNot_ok ⟨a, b⟩ (by decide)).2, c, d⟩)
      | (obtain ⟨z, hz1, hz2, _⟩ := f46_eq n (by omega)
         rw [hz1]
         exact ⟨_, rfl, fun hp => ⟨(or_ok ⟨hp.1, hp.2.1⟩ hz2).1, (or_ok ⟨hp.1, hp.2.1⟩ hz2).2, hp.2.2.1, hp.2.2.2⟩, fun e => by omega⟩)
      | (obtain ⟨z, hz1, hz2, _⟩ := f46_eq (n - 20) (by omega)
         rw [i64w _ (by omega), hz1]
         exact ⟨_, rfl, fun hp => ⟨(andNot_ok ⟨hp.1, hp.2.1⟩ hz2).1, (andNot_ok ⟨hp.1, hp.2.1⟩ hz2).2, hp.2.2.1, hp.2.2.2⟩, fun e => by omega⟩)
  have hj3 : ∃ q, f129_j3 n p = some q ∧ (okP p → okP q) ∧ (n = 0 → q = ⟨0, 0, 0⟩) := by
    unfold f129_j3 f129_j4 f129_j5
    simp only [Bool.cond_decide]
    repeat' split
    all_goals first
      | (refine ⟨_, rfl, fun hp => ?_, fun e => by first | rfl | omega⟩
         obtain ⟨a, b, c, d⟩ := hp
         first
         | exact zero
         | exact ⟨a, b, c, d⟩
         | (refine ⟨a, b, ?_, d⟩; simp only [i64w _ (show -9223372036854775808 ≤ n - 30 ∧ n - 30 ≤ 9223372036854775807 by omega), i64w _ (show -9223372036854775808 ≤ n - 30 - 60 ∧ n - 30 - 60 ≤ 9223372036854775807 by omega), i64w _ (show -9223372036854775808 ≤ n - 30 - 60 + 9 ∧ n - 30 - 60 + 9 ≤ 9223372036854775807 by omega), i64w _ (show -9223372036854775808 ≤ n - 30 + 1 ∧ n - 30 + 1 ≤ 9223372036854775807 by omega)]; unfold colorP; omega)
         | exact ⟨(andNot_ok ⟨a, b⟩ (by decide)).1, (andNot_ok ⟨a, b⟩ (by decide)).2, c, d⟩)
      | (obtain ⟨z, hz1, hz2, _⟩ := f46_eq n (by omega)
         rw [hz1]
         exact ⟨_, rfl, fun hp => ⟨(or_ok ⟨hp.1, hp.2.1⟩ hz2).1, (or_ok ⟨hp.1, hp.2.1⟩ hz2).2, hp.2.2.1, hp.2.2.2⟩, fun e => by omega⟩)
      | (obtain ⟨z, hz1, hz2, _⟩ := f46_eq (n - 20) (by omega)
         rw [i64w _ (by omega), hz1]
         exact ⟨_, rfl, fun hp => ⟨(andNot_ok ⟨hp.1, hp.2.1⟩ hz2).1, (andNot_ok ⟨hp.1, hp.2.1⟩ hz2).2, hp.2.2.1, hp.2.2.2⟩, fun e => by omega⟩)
  unfold f129 f129_j6 f129_j7
  simp only [Bool.cond_decide]
  repeat' split
  all_goals first | exact hj0 | exact hj3
theorem idx_at {α : Type} (l : List α) (i : Nat) (j : Int) (e : j = (i : Int)) (h : i < l.length) : idx l j = some l[i] := by subst e; exact idx_get l i h
set_option maxHeartbeats 2000000 in
theorem ext_ok (l : List Int) (h : ∀ x ∈ l, argP x) (hl : l.length ≤ 1000) : ∃ c n, f130 l = some (c, n) ∧ (n = 0 ∨ ((n = 2 ∨ n = 4) ∧ n ≤ (l.length : Int) ∧ colorP c)) := by
  have tail : ∃ c n, f130_j0 l false = some (c, n) ∧ (n = 0 ∨ ((n = 2 ∨ n = 4) ∧ n ≤ (l.length : Int) ∧ colorP c)) := by
    unfold f130_j0
    simp only [cond_false]
    by_cases h4 : 4 ≤ l.length
    · rw [decide_eq_true (p := (4 : Int) ≤ (l.length : Int)) (by omega)]
      simp only [cond_true, idx_at l 0 0 rfl (by omega), Option.bind_some]
      by_cases h0 : l[0] = 2
      · rw [decide_eq_true h0]
        have hs : sub? l 1 4 = some ((l.take 4).drop 1) := by unfold sub?; rw [if_pos (by omega)]; rfl
        simp only [cond_true, hs, Option.bind_some]
        rw [f50v1_eq _ (by simp; omega)]
        simp only [Option.bind_some]
        cases hb : ((l.take 4).drop 1).any fun n => decide (255 < n) with
        | true => exact ⟨0, 0, rfl, .inl rfl⟩
        | false =>
          unfold f130_j1
          simp only [Bool.not_false, cond_true, idx_at l 1 1 rfl (by omega), idx_at l 2 2 rfl (by omega), idx_at l 3 3 rfl (by omega), Option.bind_some]
          refine ⟨_, _, rfl, .inr ⟨.inr rfl, by omega, ?_⟩⟩
          have small : ∀ i, 1 ≤ i → (hi : i < 4) → (hj : i < l.length) → 0 ≤ l[i] ∧ l[i] ≤ 255 := fun i h1 hi hj => by
            have := List.any_eq_false.1 hb l[i] (by
              refine List.mem_iff_getElem?.2 ⟨i - 1, ?_⟩
              rw [List.getElem?_drop, show 1 + (i - 1) = i by omega, List.getElem?_take, if_pos hi]; simp [hj])
            have h2 := (h l[i] (List.getElem_mem hj)).1
            simp at this; omega
          have a1 := small 1 (by omega) (by omega) (by omega)
          have a2 := small 2 (by omega) (by omega) (by omega)
          have a3 := small 3 (by omega) (by omega) (by omega)
          generalize l[1] = x1 at *
          generalize l[2] = x2 at *
          generalize l[3] = x3 at *
          have e1 : (2 : Int) ^ 16 = 65536 := rfl
          have e2 : (2 : Int) ^ 8 = 256 := rfl
          rw [e1, e2, i64w (x1 * 65536) (by omega), i64w (16777216 + x1 * 65536) (by omega), i64w (x2 * 256) (by omega), i64w (16777216 + x1 * 65536 + x2 * 256) (by omega), i64w (16777216 + x1 * 65536 + x2 * 256 + x3) (by omega)]
          unfold colorP; omega
      · rw [decide_eq_false h0]
        exact ⟨0, 0, rfl, .inl rfl⟩
    · rw [decide_eq_false (p := (4 : Int) ≤ (l.length : Int)) (by omega)]
      exact ⟨0, 0, rfl, .inl rfl⟩
  unfold f130
  by_cases h2 : 2 ≤ l.length
  · rw [decide_eq_true (p := (2 : Int) ≤ (l.length : Int)) (by omega)]
    simp only [cond_true, idx_at l 0 0 rfl (by omega), Option.bind_some]
    by_cases h0 : l[0] = 5
    · rw [decide_eq_true h0]
      simp only [cond_true, idx_at l 1 1 rfl (by omega), Option.bind_some, f62_eq]
      by_cases hb : (255 : Int) < l[1]
      · rw [decide_eq_true hb]; exact tail
      · rw [decide_eq_false hb]
        unfold f130_j0
        simp only [Bool.not_false, cond_true, idx_at l 1 1 rfl (by omega), Option.bind_some]
        have := (h l[1] (List.getElem_mem _)).1
        refine ⟨_, _, rfl, .inr ⟨.inl rfl, by omega, ?_⟩⟩
        rw [i64w _ (by omega)]
        unfold colorP; omega
    · rw [decide_eq_false h0]; exact tail
  · rw [decide_eq_false (p := (2 : Int) ≤ (l.length : Int)) (by omega)]; exact tail
/-- One round of Sgr. -/
theorem round_ok (a1 : GPen) (a2 : List Int) (p : GPen) (l : List Int) (i : Nat) (h : ∀ x ∈ l, argP x) (hl : l.length ≤ 1000) (hi : i < l.length) :
    (∃ q j, f122_l4 a1 a2 (p, l, (i : Int)) = some (.inl (q, l, ((j : Nat) : Int))) ∧ i < j ∧ j ≤ l.length ∧ (okP p → okP q) ∧ (l[i] = 0 → q = ⟨0, 0, 0⟩ ∧ j = i + 1)) ∨ (f122_l4 a1 a2 (p, l, (i : Int)) = some (.inr p) ∧ l[i] ≠ 0) := by
  have hin : inR (i : Int) l.length = some i := by unfold inR; rw [if_pos (by omega)]; simp
  have hg : l[i]? = some l[i] := by simp [hi]
  have hw : IntKind.i64.wrap ((i : Int) + 1) = ((i + 1 : Nat) : Int) := by rw [i64w _ (by omega)]; rfl
  have hargs : ∀ x ∈ l.drop (i + 1), argP x := fun x hx => h x (List.mem_of_mem_drop hx)
  unfold f122_l4
  rw [decide_eq_true (p := (p, l, (i : Int)).2.2 < (((p, l, (i : Int)).2.1.length : Nat) : Int)) (by show (i : Int) < (l.length : Int); omega)]
  simp only [cond_true]
  unfold f122_l4_j5 f122_l4_j8 f122_l4_j6 f122_l4_j7
  simp only [hin, hg, Option.bind_some, hw]
  have ext : ∀ (b : Bool) (u : l[i] ≠ 0), (∃ q j, ((chk (decide (0 ≤ ((i + 1 : Nat) : Int)) && decide (((i + 1 : Nat) : Int) ≤ (l.length : Int)) && decide ((l.length : Int) ≤ (l.length : Int)))).bind fun z138 => ((part? l ((((i + 1 : Nat) : Int) : Int).toNat) (((l.length : Int) : Int).toNat - (((i + 1 : Nat) : Int) : Int).toNat)).bind fun z139 => ((f130 z139).bind fun z140 => (bif (decide (z140.2 = 0)) then (some (.inr p)) else ((bif b then (some (.inl ((GPen.mk p.Flags z140.1 p.Back), l, (IntKind.i64.wrap ((IntKind.i64.wrap ((i : Int) + z140.2)) + 1))))) else (some (.inl ((GPen.mk p.Flags p.Fore z140.1), l, (IntKind.i64.wrap ((IntKind.i64.wrap ((i : Int) + z140.2)) + 1)))))))))) : Option ((GPen × (List Int) × Int) ⊕ GPen)) = some (.inl (q, l, ((j : Nat) : Int))) ∧ i < j ∧ j ≤ l.length ∧ (okP p → okP q) ∧ (l[i] = 0 → q = ⟨0, 0, 0⟩ ∧ j = i + 1)) ∨ (((chk (decide (0 ≤ ((i + 1 : Nat) : Int)) && decide (((i + 1 : Nat) : Int) ≤ (l.length : Int)) && decide ((l.length : Int) ≤ (l.length : Int)))).bind fun z138 => ((part? l ((((i + 1 : Nat) : Int) : Int).toNat) (((l.length : Int) : Int).toNat - (((i + 1 : Nat) : Int) : Int).toNat)).bind fun z139 => ((f130 z139).bind fun z140 => (bif (decide (z140.2 = 0)) then (some (.inr p)) else ((bif b then (some (.inl ((GPen.mk p.Flags z140.1 p.Back), l, (IntKind.i64.wrap ((IntKind.i64.wrap ((i : Int) + z140.2)) + 1))))) else (some (.inl ((GPen.mk p.Flags p.Fore z140.1), l, (IntKind.i64.wrap ((IntKind.i64.wrap ((i : Int) + z140.2)) + 1)))))))))) : Option ((GPen × (List Int) × Int) ⊕ GPen)) = some (.inr p) ∧ l[i] ≠ 0) := by
    intro b u
    have hc : chk (decide (0 ≤ ((i + 1 : Nat) : Int)) && decide (((i + 1 : Nat) : Int) ≤ (l.length : Int)) && decide ((l.length : Int) ≤ (l.length : Int))) = some () := by
      unfold chk; rw [if_pos]; simp only [Bool.and_eq_true, decide_eq_true_eq]; omega
    have hp : part? l ((((i + 1 : Nat) : Int) : Int).toNat) (((l.length : Int) : Int).toNat - (((i + 1 : Nat) : Int) : Int).toNat) = some (l.drop (i + 1)) := by
      simp only [Int.toNat_natCast]
      unfold part?; rw [if_pos (by omega)]
      rw [List.take_of_length_le (by simp)]
    rw [hc, Option.bind_some, hp, Option.bind_some]
    obtain ⟨c, n, e1, e2⟩ := ext_ok (l.drop (i + 1)) hargs (by simp; omega)
    rw [e1, Option.bind_some]
    rcases e2 with rfl | ⟨hn, hn2, hcol⟩
    · right; exact ⟨rfl, u⟩
    · left
      simp at hn2
      have hne : n ≠ 0 := by omega
      simp only [decide_eq_false hne, cond_false]
      have hj : IntKind.i64.wrap (IntKind.i64.wrap ((i : Int) + n) + 1) = (((i + n.toNat + 1 : Nat)) : Int) := by
        rw [i64w ((i : Int) + n) (by omega), i64w ((i : Int) + n + 1) (by omega)]; omega
      rw [hj]
      cases b
      · exact ⟨_, _, rfl, by omega, by omega, fun ⟨a, b, c, d⟩ => ⟨a, b, c, hcol⟩, fun e => absurd e u⟩
      · exact ⟨_, _, rfl, by omega, by omega, fun ⟨a, b, c, d⟩ => ⟨a, b, hcol, d⟩, fun e => absurd e u⟩
  by_cases h38 : l[i] = 38
  · rw [decide_eq_true h38]
    simp only [Bool.not_true, cond_false]
    exact ext true (by omega)
  · rw [decide_eq_false h38]
    simp only [Bool.not_false, cond_true]
    by_cases h48 : l[i] = 48
    · rw [decide_eq_true h48]
      simp only [Bool.not_true, cond_false]
      exact ext false (by omega)
    · rw [decide_eq_false h48]
      simp only [Bool.not_false, cond_true]
      obtain ⟨q, hq, hok, hz⟩ := one_ok l[i] p (h _ (List.getElem_mem hi))
      rw [hq, Option.bind_some]
      left
      exact ⟨q, i + 1, rfl, by omega, by omega, hok, fun e => ⟨hz e, rfl⟩⟩
theorem end_ok (a1 : GPen) (a2 : List Int) (p : GPen) (l : List Int) : f122_l4 a1 a2 (p, l, (l.length : Int)) = some (.inr p) := by
  unfold f122_l4
  rw [decide_eq_false (p := (p, l, (l.length : Int)).2.2 < (((p, l, (l.length : Int)).2.1.length : Nat) : Int)) (by show ¬ (l.length : Int) < (l.length : Int); omega)]
  rfl
theorem l4_same (a1 b1 : GPen) (a2 b2 : List Int) : f122_l4 a1 a2 = f122_l4 b1 b2 := by
  funext x; unfold f122_l4 f122_l4_j5; rfl
theorem run_ok (a1 : GPen) (a2 : List Int) (l : List Int) (h : ∀ x ∈ l, argP x) (hl : l.length ≤ 1000) (p : GPen) (i : Nat) (hi : i ≤ l.length) : ∃ q, loopO (f122_l4 a1 a2) (p, l, (i : Int)) = some q ∧ (okP p → okP q) :=
  loopO_ind (fun n x => ∃ (p' : GPen) (i : Nat), x = (p', l, (i : Int)) ∧ i ≤ l.length ∧ n = l.length - i ∧ (okP p → okP p')) (fun q => okP p → okP q) (by
    rintro n x ⟨p', i, rfl, hi, rfl, hok⟩
    by_cases hlt : i < l.length
    · rcases round_ok a1 a2 p' l i h hl hlt with ⟨q, j, e, h1, h2, h3, _⟩ | ⟨e, _⟩
      · exact .inl ⟨_, l.length - j, e, by omega, q, j, rfl, h2, rfl, fun hp => h3 (hok hp)⟩
      · exact .inr ⟨p', e, hok⟩
    · have : i = l.length := by omega
      subst this
      exact .inr ⟨p', end_ok a1 a2 p' l, hok⟩) ⟨p, i, rfl, hi, rfl, id⟩
/-- The numbers, none below 0. -/
def maxL (l : List Int) : List Int := l.map fun z => if 0 > z then 0 else z
theorem l6_ok (a1 : GPen) (l : List Int) (hl : l.length ≤ 1000) : loopO (f122_l9 a1 l) ([], 0) = some (maxL l) := by
  obtain ⟨r, h1, h2⟩ := loopO_ind (body := f122_l9 a1 l) (fun n x => ∃ i : Nat, x = (maxL (l.take i), (i : Int)) ∧ i ≤ l.length ∧ n = l.length - i) (fun r => r = maxL l) (by
    rintro n x ⟨i, rfl, hi, rfl⟩
    by_cases hlt : i < l.length
    · left
      refine ⟨(maxL (l.take (i + 1)), ((i + 1 : Nat) : Int)), l.length - (i + 1), ?_, by omega, i + 1, rfl, by omega, rfl⟩
      unfold f122_l9 f122_l9_j10 f122_l9_j11
      rw [decide_eq_true (p := (maxL (l.take i), (i : Int)).2 < (l.length : Int)) (by show (i : Int) < _; omega)]
      simp only [cond_true, idx_get l i hlt, Option.bind_some]
      have ha : app? 8 (maxL (l.take i)) [if 0 > l[i] then 0 else l[i]] = some (maxL (l.take (i + 1))) := by
        unfold app?
        have hlen : (maxL (l.take i)).length = i := by unfold maxL; rw [List.length_map, List.length_take]; omega
        rw [if_pos (by rw [hlen]; show (i + 1) * 8 ≤ _; omega)]
        unfold maxL
        rw [List.take_add_one, List.map_append, List.getElem?_eq_getElem hlt]; rfl
      rw [ha, Option.bind_some, i64w _ (by omega)]; rfl
    · right
      have : i = l.length := by omega
      subst this
      refine ⟨maxL l, ?_, rfl⟩
      unfold f122_l9 f122_l9_j10
      rw [decide_eq_false (p := (maxL (l.take l.length), (l.length : Int)).2 < (l.length : Int)) (by show ¬ (l.length : Int) < _; omega)]
      simp) (n := l.length) (x := ([], 0)) ⟨0, rfl, by omega, rfl⟩
  rw [h1, h2]
theorem maxL_arg {l : List Int} (h : ∀ x ∈ l, ¬ (x < -1 ∨ 16383 < x)) : ∀ x ∈ maxL l, argP x := by
  intro x hx
  obtain ⟨y, hy, rfl⟩ := List.mem_map.1 hx
  have := h y hy
  unfold argP
  split <;> omega
/-- What makes Sgr say no, and what. -/
def sgrE (p : GPen) (l : List Int) : Int := if ¬ okP p then 4 else if l.length = 0 ∨ (∃ x ∈ l, x < -1 ∨ 16383 < x) then 1 else if 32 < l.length then 2 else 0
theorem sgr_eq (p : GPen) (l : List Int) (hl : (l.length : Int) < 9223372036854775807) :
    (f122 p l = some (p, sgrE p l) ∧ sgrE p l ≠ 0) ∨ (sgrE p l = 0 ∧ okP p ∧ l.length ≤ 32 ∧ (∀ x ∈ l, ¬ (x < -1 ∨ 16383 < x)) ∧ ∃ q, loopO (f122_l4 p l) (p, maxL l, 0) = some q ∧ f122 p l = some (q, 0) ∧ okP q) := by
  unfold f122
  rw [f33_eq]
  simp only [Option.bind_some]
  by_cases hok : okP p
  · rw [if_pos hok]
    simp only [decide_true, Bool.not_true, cond_false]
    unfold f122_j0
    by_cases h0 : l.length = 0
    · left
      have e : sgrE p l = 1 := by unfold sgrE; rw [if_neg (by simpa using hok), if_pos (.inl h0)]
      rw [decide_eq_true (p := (l.length : Int) = 0) (by omega), e]
      exact ⟨rfl, by decide⟩
    · rw [decide_eq_false (p := (l.length : Int) = 0) (by omega)]
      simp only [cond_false, f50_eq l hl, Option.bind_some]
      by_cases hb : ∃ x ∈ l, x < -1 ∨ 16383 < x
      · left
        have e : sgrE p l = 1 := by unfold sgrE; rw [if_neg (by simpa using hok), if_pos (.inr hb)]
        have ha : (l.any fun n => decide (n < -1 ∨ 16383 < n)) = true := by
          obtain ⟨x, hx, h⟩ := hb
          exact List.any_eq_true.2 ⟨x, hx, decide_eq_true h⟩
        rw [ha, e]; exact ⟨rfl, by decide⟩
      · have hall : ∀ x ∈ l, ¬ (x < -1 ∨ 16383 < x) := fun x hx h => hb ⟨x, hx, h⟩
        have ha : (l.any fun n => decide (n < -1 ∨ 16383 < n)) = false := by
          rw [List.any_eq_false]; intro x hx; simpa using hall x hx
        rw [ha]
        simp only [cond_false]
        unfold f122_j1
        by_cases h32 : 32 < l.length
        · left
          have e : sgrE p l = 2 := by unfold sgrE; rw [if_neg (by simpa using hok), if_neg (fun h => h.elim h0 hb), if_pos h32]
          rw [decide_eq_true (p := (32 : Int) < (l.length : Int)) (by omega), e]
          exact ⟨rfl, by decide⟩
        · right
          have e : sgrE p l = 0 := by unfold sgrE; rw [if_neg (by simpa using hok), if_neg (fun h => h.elim h0 hb), if_neg h32]
          rw [decide_eq_false (p := (32 : Int) < (l.length : Int)) (by omega)]
          simp only [cond_false]
          unfold f122_j2 f122_j3
          rw [l6_ok p l (by omega)]
          simp only [Option.bind_some]
          obtain ⟨q, h1, h2⟩ := run_ok p l (maxL l) (maxL_arg hall) (by simp [maxL]; omega) p 0 (by omega)
          rw [show (p, maxL l, ((0 : Nat) : Int)) = (p, maxL l, 0) from rfl] at h1
          refine ⟨e, hok, by omega, hall, q, h1, ?_, h2 hok⟩
          rw [h1]; rfl
  · left
    have e : sgrE p l = 4 := by unfold sgrE; rw [if_pos hok]
    rw [if_neg hok, e]
    exact ⟨rfl, by decide⟩
end Go.Proofs.YtjoccdgmcdkbkaaGreatDoor.Pm
