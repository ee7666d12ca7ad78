/- Pen: what the typed functions come to. -/
import Derived.Test.YtphbfciikjkkfaaDPenE
import Derived.Test.YtphbfciikjkkfaaPb
namespace Go.Proofs.Ytphbfciikjkkfaa.Pm
open Go.Proofs.Ytphbfciikjkkfaa.Args
set_option linter.unusedVariables false
set_option linter.unusedSimpArgs false
set_option maxRecDepth 100000
def colorP (n : Int) : Prop := (0 ≤ n ∧ n ≤ 256) ∨ (16777216 ≤ n ∧ n < 33554432)
instance (n : Int) : Decidable (colorP n) := by unfold colorP; infer_instance
def okP (p : GPen) : Prop := 0 ≤ p.Flags ∧ p.Flags ≤ 255 ∧ colorP p.Fore ∧ colorP p.Back
instance (p : GPen) : Decidable (okP p) := by unfold okP; infer_instance
theorem f54_eq (n : Int) : f54 n = some (decide (colorP n)) := by
  unfold f54 colorP
  simp only [Bool.cond_decide]
  repeat' split
  all_goals first | exact congrArg some (decide_eq_true (by omega)).symm | exact congrArg some (decide_eq_false (by omega)).symm
theorem f33_eq (p : GPen) : f33 p = some (if okP p then 0 else 4) := by
  unfold f33
  simp only [Bool.cond_decide, f54_eq, Option.bind_some]
  by_cases hok : okP p
  · rw [if_pos hok]
    obtain ⟨a, b, c, d⟩ := hok
    rw [if_neg (by omega), if_neg (by omega), decide_eq_true c, decide_eq_true d]; rfl
  · rw [if_neg hok]
    split
    · rfl
    · split
      · rfl
      · by_cases c : colorP p.Fore
        · by_cases d : colorP p.Back
          · exact absurd ⟨by omega, by omega, c, d⟩ hok
          · rw [decide_eq_true c, decide_eq_false d]; rfl
        · rw [decide_eq_false c]; rfl
theorem i64w (n : Int) (h : -9223372036854775808 ≤ n ∧ n ≤ 9223372036854775807) : IntKind.i64.wrap n = n := IntWalk.i64_in n h
theorem f51_eq (n : Int) : f51 n = some (decide (n < -1 ∨ 16383 < n)) := by
  unfold f51
  simp only [Bool.cond_decide]
  repeat' split
  all_goals first | exact congrArg some (decide_eq_true (by omega)).symm | exact congrArg some (decide_eq_false (by omega)).symm
theorem idx_get {α : Type} (l : List α) (i : Nat) (h : i < l.length) : idx l (i : Int) = some l[i] := by
  unfold idx; rw [if_pos (by omega)]; simp [h]
/-- A search: the first one that is wanted. -/
theorem search {α : Type} {body : Int → Option (Int ⊕ (Unit ⊕ Int))} {l : List α} {q : α → Bool} (hl : (l.length : Int) < 9223372036854775807)
    (hb : ∀ i : Nat, ∀ h : i < l.length, body i = some (if q l[i] = true then .inr (.inr (i : Int)) else .inl (IntKind.i64.wrap ((i : Int) + 1)))) (he : body (l.length : Int) = some (.inr (.inl ()))) :
    ∃ r, loopO body 0 = some r ∧ ((∃ i : Int, 0 ≤ i ∧ r = .inr i) ↔ l.any q = true) := by
  have key := loopO_ind (body := body) (fun n x => ∃ i : Nat, x = (i : Int) ∧ i ≤ l.length ∧ n = l.length - i ∧ (l.take i).any q = false) (fun r => (∃ i : Int, 0 ≤ i ∧ r = .inr i) ↔ l.any q = true) (by
    rintro n x ⟨i, rfl, hi, rfl, ha⟩
    by_cases h : i < l.length
    · by_cases hq : q l[i] = true
      · right
        refine ⟨.inr (i : Int), by rw [hb i h, if_pos hq], ⟨fun _ => ?_, fun _ => ⟨i, by omega, rfl⟩⟩⟩
        exact List.any_eq_true.2 ⟨l[i], List.getElem_mem h, hq⟩
      · left
        refine ⟨((i + 1 : Nat) : Int), l.length - (i + 1), ?_, by omega, i + 1, rfl, by omega, rfl, ?_⟩
        · rw [hb i h, if_neg hq, i64w _ (by omega)]; rfl
        · rw [List.take_add_one, List.any_append, ha]; simp [h, hq]
    · right
      have : i = l.length := by omega
      subst this
      refine ⟨.inl (), he, ⟨(by rintro ⟨j, _, hj⟩; cases hj), fun hh => ?_⟩⟩
      rw [List.take_length] at ha; rw [ha] at hh; cases hh) (n := l.length) (x := 0) ⟨0, rfl, by omega, rfl, by simp⟩
  exact key
theorem f50_eq (l : List Int) (hl : (l.length : Int) < 9223372036854775807) : f50 l = some (l.any fun n => decide (n < -1 ∨ 16383 < n)) := by
  unfold f50 f61
  obtain ⟨r, h1, h2⟩ := search (body := f61_l0 l) (q := fun n => decide (n < -1 ∨ 16383 < n)) hl (fun i h => by
    unfold f61_l0 f61_l0_j1 f61_l0_j2
    rw [decide_eq_true (p := (i : Int) < (l.length : Int)) (by omega)]
    simp only [cond_true, idx_get l i h, f51_eq, Option.bind_some]
    generalize decide (l[i] < -1 ∨ 16383 < l[i]) = b
    cases b <;> rfl) (by
    unfold f61_l0 f61_l0_j1
    simp only [Bool.cond_decide]
    rw [if_neg (by omega)]; rfl)
  rw [h1]
  simp only [Option.bind_some]
  cases r with
  | inl u =>
    have : ¬ (l.any fun n => decide (n < -1 ∨ 16383 < n)) = true := fun h => by
      obtain ⟨i, _, hi⟩ := h2.2 h
      cases hi
    simp only [Sum.elim_inl, Option.bind_some]
    have e : (l.any fun n => decide (n < -1 ∨ 16383 < n)) = false := by simpa using this
    rw [e]; rfl
  | inr i =>
    have hn : (l.any fun n => decide (n < -1 ∨ 16383 < n)) = true ↔ 0 ≤ i := by
      rw [← h2]; exact ⟨fun ⟨j, hj, e⟩ => by cases e; exact hj, fun h => ⟨i, h, rfl⟩⟩
    simp only [Sum.elim_inr, Option.bind_some, Bool.cond_decide]
    by_cases h : 0 ≤ i
    · rw [if_pos h, hn.2 h]
    · rw [if_neg h]
      have : (l.any fun n => decide (n < -1 ∨ 16383 < n)) = false := by simpa using fun hh => h (hn.1 hh)
      rw [this]
theorem f62_eq (n : Int) : f62 n = some (decide (255 < n)) := by
  unfold f62
  simp only [Bool.cond_decide]
  repeat' split
  all_goals first | exact congrArg some (decide_eq_true (by omega)).symm | exact congrArg some (decide_eq_false (by omega)).symm
theorem f50v1_eq (l : List Int) (hl : (l.length : Int) < 9223372036854775807) : f50v1 l = some (l.any fun n => decide (255 < n)) := by
  unfold f50v1 f61v1
  obtain ⟨r, h1, h2⟩ := search (body := f61v1_l0 l) (q := fun n => decide (255 < n)) hl (fun i h => by
    unfold f61v1_l0 f61v1_l0_j1 f61v1_l0_j2
    rw [decide_eq_true (p := (i : Int) < (l.length : Int)) (by omega)]
    simp only [cond_true, idx_get l i h, f62_eq, Option.bind_some]
    generalize decide (255 < l[i]) = b
    cases b <;> rfl) (by
    unfold f61v1_l0 f61v1_l0_j1
    simp only [Bool.cond_decide]
    rw [if_neg (by omega)]; rfl)
  rw [h1]
  simp only [Option.bind_some]
  cases r with
  | inl u =>
    have : ¬ (l.any fun n => decide (255 < n)) = true := fun h => by
      obtain ⟨i, _, hi⟩ := h2.2 h
      cases hi
    simp only [Sum.elim_inl, Option.bind_some]
    have e : (l.any fun n => decide (255 < n)) = false := by simpa using this
    rw [e]; rfl
  | inr i =>
    have hn : (l.any fun n => decide (255 < n)) = true ↔ 0 ≤ i := by
      rw [← h2]; exact ⟨fun ⟨j, hj, e⟩ => by cases e; exact hj, fun h => ⟨i, h, rfl⟩⟩
    simp only [Sum.elim_inr, Option.bind_some, Bool.cond_decide]
    by_cases h : 0 ≤ i
    · rw [if_pos h, hn.2 h]
    · rw [if_neg h]
      have : (l.any fun n => decide (255 < n)) = false := by simpa using fun hh => h (hn.1 hh)
      rw [this]
/-- A number that may be given. -/
def argP (n : Int) : Prop := 0 ≤ n ∧ n ≤ 16383
theorem bits_ok : ∀ a : Fin 256, ∀ z ∈ [0, 1, 2, 4, 8, 16, 32, 64, 128, 3], (0 ≤ bitI .or .i64 (a.val : Int) z ∧ bitI .or .i64 (a.val : Int) z ≤ 255) ∧ 0 ≤ bitI .andNot .i64 (a.val : Int) z ∧ bitI .andNot .i64 (a.val : Int) z ≤ 255 := by decide +kernel
theorem or_ok {a z : Int} (h : 0 ≤ a ∧ a ≤ 255) (hz : z ∈ [0, 1, 2, 4, 8, 16, 32, 64, 128, 3]) : 0 ≤ bitI .or .i64 a z ∧ bitI .or .i64 a z ≤ 255 := by
  have := (bits_ok ⟨a.toNat, by omega⟩ z hz).1
  rwa [show ((a.toNat : Nat) : Int) = a by omega] at this
theorem andNot_ok {a z : Int} (h : 0 ≤ a ∧ a ≤ 255) (hz : z ∈ [0, 1, 2, 4, 8, 16, 32, 64, 128, 3]) : 0 ≤ bitI .andNot .i64 a z ∧ bitI .andNot .i64 a z ≤ 255 := by
  have := (bits_ok ⟨a.toNat, by omega⟩ z hz).2
  rwa [show ((a.toNat : Nat) : Int) = a by omega] at this
theorem f46_eq (n : Int) (h : 0 ≤ n ∧ n ≤ 9) : ∃ z, f46 n = some z ∧ z ∈ [0, 1, 2, 4, 8, 16, 32, 64, 128, 3] ∧ z = ([0, 1, 2, 4, 8, 16, 0, 32, 64, 128] : List Int).getD n.toNat 0 := by
  unfold f46 inR
  rw [if_pos (by omega)]
  refine ⟨_, rfl, ?_, rfl⟩
  have : n.toNat < 10 := by omega
  revert this
  generalize n.toNat = k
  intro hk
  match k, hk with
  | 0, _ => decide
  | 1, _ => decide
  | 2, _ => decide
  | 3, _ => decide
  | 4, _ => decide
  | 5, _ => decide
  | 6, _ => decide
  | 7, _ => decide
  | 8, _ => decide
  | 9, _ => decide
  | k + 10, h => exact absurd h (by omega)

set_option maxHeartbeats 4000000 in
theorem one_ok (n : Int) (p : GPen) (h : argP n) : ∃ q, f52 n p = some q ∧ (okP p → okP q) ∧ (n = 0 → q = ⟨0, 0, 0⟩) := by
  obtain ⟨h0, h1⟩ := h
  have zero : okP ⟨0, 0, 0⟩ := by decide
  have hj0 : ∃ q, f52_j0 n p = some q ∧ (okP p → okP q) ∧ (n = 0 → q = ⟨0, 0, 0⟩) := by
    unfold f52_j0 f52_j1 f52_j2
    simp only [Bool.cond_decide]
    repeat' split
    all_goals first
      | (refine ⟨_, rfl, fun hp => ?_, fun e => by first | rfl | omega⟩
         obtain ⟨a, b, c, d⟩ := hp
         first
         | exact zero
         | exact ⟨a, b, c, d⟩
         | (refine ⟨a, b, c, ?_⟩; simp only [i64w _ (show -9223372036854775808 ≤ n - 40 ∧ n - 40 ≤ 9223372036854775807 by omega), i64w _ (show -9223372036854775808 ≤ n - 40 - 60 ∧ n - 40 - 60 ≤ 9223372036854775807 by omega), i64w _ (show -9223372036854775808 ≤ n - 40 - 60 + 9 ∧ n - 40 - 60 + 9 ≤ 9223372036854775807 by omega), i64w _ (show -9223372036854775808 ≤ n - 40 + 1 ∧ n - 40 + 1 ≤ 9223372036854775807 by omega)]; unfold colorP; omega)
         | exact ⟨(andNot_ok ⟨a, b⟩ (by decide)).1, (andNot_ok ⟨a, b⟩ (by decide)).2, c, d⟩)
      | (obtain ⟨z, hz1, hz2, _⟩ := f46_eq n (by omega)
         rw [hz1]
         exact ⟨_, rfl, fun hp => ⟨(or_ok ⟨hp.1, hp.2.1⟩ hz2).1, (or_ok ⟨hp.1, hp.2.1⟩ hz2).2, hp.2.2.1, hp.2.2.2⟩, fun e => by omega⟩)
      | (obtain ⟨z, hz1, hz2, _⟩ := f46_eq (n - 20) (by omega)
         rw [i64w _ (by omega), hz1]
         exact ⟨_, rfl, fun hp => ⟨(andNot_ok ⟨hp.1, hp.2.1⟩ hz2).1, (andNot_ok ⟨hp.1, hp.2.1⟩ hz2).2, hp.2.2.1, hp.2.2.2⟩, fun e => by omega⟩)
  have hj3 : ∃ q, f52_j3 n p = some q ∧ (okP p → okP q) ∧ (n = 0 → q = ⟨0, 0, 0⟩) := by
    unfold f52_j3 f52_j4 f52_j5
    simp only [Bool.cond_decide]
    repeat' split
    all_goals first
      | (refine ⟨_, rfl, fun hp => ?_, fun e => by first | rfl | omega⟩
         obtain ⟨a, b, c, d⟩ := hp
         first
         | exact zero
         | exact ⟨a, b, c, d⟩
         | (refine ⟨a, b, ?_, d⟩; simp only [i64w _ (show -9223372036854775808 ≤ n - 30 ∧ n - 30 ≤ 9223372036854775807 by omega), i64w _ (show -9223372036854775808 ≤ n - 30 - 60 ∧ n - 30 - 60 ≤ 9223372036854775807 by omega), i64w _ (show -9223372036854775808 ≤ n - 30 - 60 + 9 ∧ n - 30 - 60 + 9 ≤ 9223372036854775807 by omega), i64w _ (show -9223372036854775808 ≤ n - 30 + 1 ∧ n - 30 + 1 ≤ 9223372036854775807 by omega)]; unfold colorP; omega)
         | exact ⟨(andNot_ok ⟨a, b⟩ (by decide)).1, (andNot_ok ⟨a, b⟩ (by decide)).2, c, d⟩)
      | (obtain ⟨z, hz1, hz2, _⟩ := f46_eq n (by omega)
         rw [hz1]
         exact ⟨_, rfl, fun hp => ⟨(or_ok ⟨hp.1, hp.2.1⟩ hz2).1, (or_ok ⟨hp.1, hp.2.1⟩ hz2).2, hp.2.2.1, hp.2.2.2⟩, fun e => by omega⟩)
      | (obtain ⟨z, hz1, hz2, _⟩ := f46_eq (n - 20) (by omega)
         rw [i64w _ (by omega), hz1]
         exact ⟨_, rfl, fun hp => ⟨(andNot_ok ⟨hp.1, hp.2.1⟩ hz2).1, (andNot_ok ⟨hp.1, hp.2.1⟩ hz2).2, hp.2.2.1, hp.2.2.2⟩, fun e => by omega⟩)
  unfold f52 f52_j6 f52_j7
  simp only [Bool.cond_decide]
  repeat' split
  all_goals first | exact hj0 | exact hj3
end Go.Proofs.Ytphbfciikjkkfaa.Pm
