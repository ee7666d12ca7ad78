/- chg_sgr: what the typed functions compute, and the laws. -/
import Derived.Test.YtbokpgemkkebnaaGreatDoorDWyZ
import Derived.Test.YtbokpgemkkebnaaGreatDoorBas
namespace Go.Proofs.YtbokpgemkkebnaaGreatDoor.Pe
open Go.Proofs.YtbokpgemkkebnaaGreatDoor.Pm
open Go.Proofs.YtbokpgemkkebnaaGreatDoor.Args
open Go.ChangeShapes Go.WideShapes Go.ChangeAt Go.RowKit
set_option linter.unusedVariables false
set_option linter.unusedSimpArgs false
set_option maxRecDepth 100000
set_option maxHeartbeats 4000000
set_option maxHeartbeats 4000000 in
set_option maxHeartbeats 2000000 in
def colorP (n : Int) : Prop := (0 ≤ n ∧ n ≤ 256) ∨ (16777216 ≤ n ∧ n < 33554432)
instance (n : Int) : Decidable (colorP n) := by unfold colorP; infer_instance
def okP (p : GPen) : Prop := 0 ≤ p.Flags ∧ p.Flags ≤ 255 ∧ colorP p.Fore ∧ colorP p.Back
instance (p : GPen) : Decidable (okP p) := by unfold okP; infer_instance
theorem f54_eq (n : Int) : f39 n = some (decide (colorP n)) := by
 unfold f39 colorP
 simp only [Bool.cond_decide]
 repeat' split
 all_goals first | exact congrArg some (decide_eq_true (by omega)).symm | exact congrArg some (decide_eq_false (by omega)).symm
theorem f33_eq (p : GPen) : f21 p = some (if okP p then 0 else 4) := by
 unfold f21
 simp only [Bool.cond_decide, f54_eq, Option.bind_some]
 by_cases hok : okP p
 ·rw [if_pos hok]
  obtain ⟨a, b, c, d⟩ := hok
  rw [if_neg (by omega), if_neg (by omega), decide_eq_true c, decide_eq_true d]; rfl
 ·rw [if_neg hok]
  split
  ·rfl
  ·split
   ·rfl
   ·by_cases c : colorP p.Fore
    ·by_cases d : colorP p.Back
     ·exact absurd ⟨by omega, by omega, c, d⟩ hok
     ·rw [decide_eq_true c, decide_eq_false d]; rfl
    ·rw [decide_eq_false c]; rfl
theorem f51_eq (n : Int) : f150 n = some (decide (n < -1 ∨ 16383 < n)) := by
 unfold f150
 simp only [Bool.cond_decide]
 repeat' split
 all_goals first | exact congrArg some (decide_eq_true (by omega)).symm | exact congrArg some (decide_eq_false (by omega)).symm
theorem idx_get {α : Type} (l : List α) (i : Nat) (h : i < l.length) : idx l (i : Int) = some l[i] := by
 unfold idx; rw [if_pos (by omega)]; simp [h]
theorem search {α : Type} {body : Int → Option (Int ⊕ (Unit ⊕ Int))} {l : List α} {q : α → Bool} (hl : (l.length : Int) < 9223372036854775807)
  (hb : ∀ i : Nat, ∀ h : i < l.length, body i = some (if q l[i] = true then .inr (.inr (i : Int)) else .inl (IntKind.i64.wrap ((i : Int) + 1)))) (he : body (l.length : Int) = some (.inr (.inl ()))) :
  ∃ r, loopO body 0 = some r ∧ ((∃ i : Int, 0 ≤ i ∧ r = .inr i) ↔ l.any q = true) := by
 have key := loopO_ind (body := body) (fun n x => ∃ i : Nat, x = (i : Int) ∧ i ≤ l.length ∧ n = l.length - i ∧ (l.take i).any q = false) (fun r => (∃ i : Int, 0 ≤ i ∧ r = .inr i) ↔ l.any q = true) (by
  rintro n x ⟨i, rfl, hi, rfl, ha⟩
  by_cases h : i < l.length
  ·by_cases hq : q l[i] = true
   ·right
    refine ⟨.inr (i : Int), by rw [hb i h, if_pos hq], ⟨fun _ => ?_, fun _ => ⟨i, by omega, rfl⟩⟩⟩
    exact List.any_eq_true.2 ⟨l[i], List.getElem_mem h, hq⟩
   ·left
    refine ⟨((i + 1 : Nat) : Int), l.length - (i + 1), ?_, by omega, i + 1, rfl, by omega, rfl, ?_⟩
    ·rw [hb i h, if_neg hq, i64w _ (by omega)]; rfl
    ·rw [List.take_add_one, List.any_append, ha]; simp [h, hq]
  ·right
   have : i = l.length := by omega
   subst this
   refine ⟨.inl (), he, ⟨(by rintro ⟨j, _, hj⟩; cases hj), fun hh => ?_⟩⟩
   rw [List.take_length] at ha; rw [ha] at hh; cases hh) (n := l.length) (x := 0) ⟨0, rfl, by omega, rfl, by simp⟩
 exact key
theorem f50_eq (l : List Int) (hl : (l.length : Int) < 9223372036854775807) : f59v2 l = some (l.any fun n => decide (n < -1 ∨ 16383 < n)) := by
 unfold f59v2 f82v2
 obtain ⟨r, h1, h2⟩ := search (body := f82v2_l0 l) (q := fun n => decide (n < -1 ∨ 16383 < n)) hl (fun i h => by
  unfold f82v2_l0 f82v2_l0_j1 f82v2_l0_j2
  rw [decide_eq_true (p := (i : Int) < (l.length : Int)) (by omega)]
  simp only [cond_true, idx_get l i h, f51_eq, Option.bind_some]
  generalize decide (l[i] < -1 ∨ 16383 < l[i]) = b
  cases b <;> rfl) (by
  unfold f82v2_l0 f82v2_l0_j1
  simp only [Bool.cond_decide]
  rw [if_neg (by omega)]; rfl)
 rw [h1]
 simp only [Option.bind_some]
 cases r with
 | inl u =>
  have : ¬ (l.any fun n => decide (n < -1 ∨ 16383 < n)) = true := fun h => by
   obtain ⟨i, _, hi⟩ := h2.2 h
   cases hi
  simp only [Sum.elim_inl, Option.bind_some]
  have e : (l.any fun n => decide (n < -1 ∨ 16383 < n)) = false := by simpa using this
  rw [e]; rfl
 | inr i =>
  have hn : (l.any fun n => decide (n < -1 ∨ 16383 < n)) = true ↔ 0 ≤ i := by
   rw [← h2]; exact ⟨fun ⟨j, hj, e⟩ => by cases e; exact hj, fun h => ⟨i, h, rfl⟩⟩
  simp only [Sum.elim_inr, Option.bind_some, Bool.cond_decide]
  by_cases h : 0 ≤ i
  ·rw [if_pos h, hn.2 h]
  ·rw [if_neg h]
   have : (l.any fun n => decide (n < -1 ∨ 16383 < n)) = false := by simpa using fun hh => h (hn.1 hh)
   rw [this]
theorem f62_eq (n : Int) : f165 n = some (decide (255 < n)) := by
 unfold f165
 simp only [Bool.cond_decide]
 repeat' split
 all_goals first | exact congrArg some (decide_eq_true (by omega)).symm | exact congrArg some (decide_eq_false (by omega)).symm
theorem f50v1_eq (l : List Int) (hl : (l.length : Int) < 9223372036854775807) : f59v3 l = some (l.any fun n => decide (255 < n)) := by
 unfold f59v3 f82v3
 obtain ⟨r, h1, h2⟩ := search (body := f82v3_l0 l) (q := fun n => decide (255 < n)) hl (fun i h => by
  unfold f82v3_l0 f82v3_l0_j1 f82v3_l0_j2
  rw [decide_eq_true (p := (i : Int) < (l.length : Int)) (by omega)]
  simp only [cond_true, idx_get l i h, f62_eq, Option.bind_some]
  generalize decide (255 < l[i]) = b
  cases b <;> rfl) (by
  unfold f82v3_l0 f82v3_l0_j1
  simp only [Bool.cond_decide]
  rw [if_neg (by omega)]; rfl)
 rw [h1]
 simp only [Option.bind_some]
 cases r with
 | inl u =>
  have : ¬ (l.any fun n => decide (255 < n)) = true := fun h => by
   obtain ⟨i, _, hi⟩ := h2.2 h
   cases hi
  simp only [Sum.elim_inl, Option.bind_some]
  have e : (l.any fun n => decide (255 < n)) = false := by simpa using this
  rw [e]; rfl
 | inr i =>
  have hn : (l.any fun n => decide (255 < n)) = true ↔ 0 ≤ i := by
   rw [← h2]; exact ⟨fun ⟨j, hj, e⟩ => by cases e; exact hj, fun h => ⟨i, h, rfl⟩⟩
  simp only [Sum.elim_inr, Option.bind_some, Bool.cond_decide]
  by_cases h : 0 ≤ i
  ·rw [if_pos h, hn.2 h]
  ·rw [if_neg h]
   have : (l.any fun n => decide (255 < n)) = false := by simpa using fun hh => h (hn.1 hh)
   rw [this]
def argP (n : Int) : Prop := 0 ≤ n ∧ n ≤ 16383
theorem bits_ok : ∀ a : Fin 256, ∀ z ∈ [0, 1, 2, 4, 8, 16, 32, 64, 128, 3], (0 ≤ bitI .or .i64 (a.val : Int) z ∧ bitI .or .i64 (a.val : Int) z ≤ 255) ∧ 0 ≤ bitI .andNot .i64 (a.val : Int) z ∧ bitI .andNot .i64 (a.val : Int) z ≤ 255 := by decide +kernel
theorem or_ok {a z : Int} (h : 0 ≤ a ∧ a ≤ 255) (hz : z ∈ [0, 1, 2, 4, 8, 16, 32, 64, 128, 3]) : 0 ≤ bitI .or .i64 a z ∧ bitI .or .i64 a z ≤ 255 := by
 have := (bits_ok ⟨a.toNat, by omega⟩ z hz).1
 rwa [show ((a.toNat : Nat) : Int) = a by omega] at this
theorem andNot_ok {a z : Int} (h : 0 ≤ a ∧ a ≤ 255) (hz : z ∈ [0, 1, 2, 4, 8, 16, 32, 64, 128, 3]) : 0 ≤ bitI .andNot .i64 a z ∧ bitI .andNot .i64 a z ≤ 255 := by
 have := (bits_ok ⟨a.toNat, by omega⟩ z hz).2
 rwa [show ((a.toNat : Nat) : Int) = a by omega] at this
theorem f46_eq (n : Int) (h : 0 ≤ n ∧ n ≤ 9) : ∃ z, f48 n = some z ∧ z ∈ [0, 1, 2, 4, 8, 16, 32, 64, 128, 3] ∧ z = ([0, 1, 2, 4, 8, 16, 0, 32, 64, 128] : List Int).getD n.toNat 0 := by
 unfold f48 inR
 rw [if_pos (by omega)]
 refine ⟨_, rfl, ?_, rfl⟩
 have : n.toNat < 10 := by omega
 revert this
 generalize n.toNat = k
 intro hk
 match k, hk with
 | 0, _ => decide
 | 1, _ => decide
 | 2, _ => decide
 | 3, _ => decide
 | 4, _ => decide
 | 5, _ => decide
 | 6, _ => decide
 | 7, _ => decide
 | 8, _ => decide
 | 9, _ => decide
 | k + 10, h => exact absurd h (by omega)

theorem one_ok (n : Int) (p : GPen) (h : argP n) : ∃ q, f151 n p = some q ∧ (okP p → okP q) ∧ (n = 0 → q = ⟨0, 0, 0⟩) := by
 obtain ⟨h0, h1⟩ := h
 have zero : okP ⟨0, 0, 0⟩ := by decide
 have hj0 : ∃ q, f151_j0 n p = some q ∧ (okP p → okP q) ∧ (n = 0 → q = ⟨0, 0, 0⟩) := by
  unfold f151_j0 f151_j1 f151_j2
  simp only [Bool.cond_decide]
  repeat' split
  all_goals first
   | (refine ⟨_, rfl, fun hp => ?_, fun e => by first | rfl | omega⟩
      obtain ⟨a, b, c, d⟩ := hp
      first
      | exact zero
      | exact ⟨a, b, c, d⟩
      | (refine ⟨a, b, c, ?_⟩; simp only [i64w _ (show -9223372036854775808 ≤ n - 40 ∧ n - 40 ≤ 9223372036854775807 by omega), i64w _ (show -9223372036854775808 ≤ n - 40 - 60 ∧ n - 40 - 60 ≤ 9223372036854775807 by omega), i64w _ (show -9223372036854775808 ≤ n - 40 - 60 + 9 ∧ n - 40 - 60 + 9 ≤ 9223372036854775807 by omega), i64w _ (show -9223372036854775808 ≤ n - 40 + 1 ∧ n - 40 + 1 ≤ 9223372036854775807 by omega)]; unfold colorP; omega)
      | exact ⟨(andNot_ok ⟨a, b⟩ (by decide)).1, (andNot_ok ⟨a, b⟩ (by decide)).2, c, d⟩)
   | (obtain ⟨z, hz1, hz2, _⟩ := f46_eq n (by omega)
      rw [hz1]
      exact ⟨_, rfl, fun hp => ⟨(or_ok ⟨hp.1, hp.2.1⟩ hz2).1, (or_ok ⟨hp.1, hp.2.1⟩ hz2).2, hp.2.2.1, hp.2.2.2⟩, fun e => by omega⟩)
   | (obtain ⟨z, hz1, hz2, _⟩ := f46_eq (n - 20) (by omega)
      rw [i64w _ (by omega), hz1]
      exact ⟨_, rfl, fun hp => ⟨(andNot_ok ⟨hp.1, hp.2.1⟩ hz2).1, (andNot_ok ⟨hp.1, hp.2.1⟩ hz2).2, hp.2.2.1, hp.2.2.2⟩, fun e => by omega⟩)
 have hj3 : ∃ q, f151_j3 n p = some q ∧ (okP p → okP q) ∧ (n = 0 → q = ⟨0, 0, 0⟩) := by
  unfold f151_j3 f151_j4 f151_j5
  simp only [Bool.cond_decide]
  repeat' split
  all_goals first
   | (refine ⟨_, rfl, fun hp => ?_, fun e => by first | rfl | omega⟩
      obtain ⟨a, b, c, d⟩ := hp
      first
      | exact zero
      | exact ⟨a, b, c, d⟩
      | (refine ⟨a, b, ?_, d⟩; simp only [i64w _ (show -9223372036854775808 ≤ n - 30 ∧ n - 30 ≤ 9223372036854775807 by omega), i64w _ (show -9223372036854775808 ≤ n - 30 - 60 ∧ n - 30 - 60 ≤ 9223372036854775807 by omega), i64w _ (show -9223372036854775808 ≤ n - 30 - 60 + 9 ∧ n - 30 - 60 + 9 ≤ 9223372036854775807 by omega), i64w _ (show -9223372036854775808 ≤ n - 30 + 1 ∧ n - 30 + 1 ≤ 9223372036854775807 by omega)]; unfold colorP; omega)
      | exact ⟨(andNot_ok ⟨a, b⟩ (by decide)).1, (andNot_ok ⟨a, b⟩ (by decide)).2, c, d⟩)
   | (obtain ⟨z, hz1, hz2, _⟩ := f46_eq n (by omega)
      rw [hz1]
      exact ⟨_, rfl, fun hp => ⟨(or_ok ⟨hp.1, hp.2.1⟩ hz2).1, (or_ok ⟨hp.1, hp.2.1⟩ hz2).2, hp.2.2.1, hp.2.2.2⟩, fun e => by omega⟩)
   | (obtain ⟨z, hz1, hz2, _⟩ := f46_eq (n - 20) (by omega)
      rw [i64w _ (by omega), hz1]
      exact ⟨_, rfl, fun hp => ⟨(andNot_ok ⟨hp.1, hp.2.1⟩ hz2).1, (andNot_ok ⟨hp.1, hp.2.1⟩ hz2).2, hp.2.2.1, hp.2.2.2⟩, fun e => by omega⟩)
 unfold f151 f151_j6 f151_j7
 simp only [Bool.cond_decide]
 repeat' split
 all_goals first | exact hj0 | exact hj3
theorem idx_at {α : Type} (l : List α) (i : Nat) (j : Int) (e : j = (i : Int)) (h : i < l.length) : idx l j = some l[i] := by subst e; exact idx_get l i h
theorem ext_ok (l : List Int) (h : ∀ x ∈ l, argP x) (hl : l.length ≤ 1000) : ∃ c n, f152 l = some (c, n) ∧ (n = 0 ∨ ((n = 2 ∨ n = 4) ∧ n ≤ (l.length : Int) ∧ colorP c)) := by
 have tail : ∃ c n, f152_j0 l false = some (c, n) ∧ (n = 0 ∨ ((n = 2 ∨ n = 4) ∧ n ≤ (l.length : Int) ∧ colorP c)) := by
  unfold f152_j0
  simp only [cond_false]
  by_cases h4 : 4 ≤ l.length
  ·rw [decide_eq_true (p := (4 : Int) ≤ (l.length : Int)) (by omega)]
   simp only [cond_true, idx_at l 0 0 rfl (by omega), Option.bind_some]
   by_cases h0 : l[0] = 2
   ·rw [decide_eq_true h0]
    have hs : sub? l 1 4 = some ((l.take 4).drop 1) := by unfold sub?; rw [if_pos (by omega)]; rfl
    simp only [cond_true, hs, Option.bind_some]
    rw [f50v1_eq _ (by simp; omega)]
    simp only [Option.bind_some]
    cases hb : ((l.take 4).drop 1).any fun n => decide (255 < n) with
    | true => exact ⟨0, 0, rfl, .inl rfl⟩
    | false =>
     unfold f152_j1
     simp only [Bool.not_false, cond_true, idx_at l 1 1 rfl (by omega), idx_at l 2 2 rfl (by omega), idx_at l 3 3 rfl (by omega), Option.bind_some]
     refine ⟨_, _, rfl, .inr ⟨.inr rfl, by omega, ?_⟩⟩
     have small : ∀ i, 1 ≤ i → (hi : i < 4) → (hj : i < l.length) → 0 ≤ l[i] ∧ l[i] ≤ 255 := fun i h1 hi hj => by
      have := List.any_eq_false.1 hb l[i] (by
       refine List.mem_iff_getElem?.2 ⟨i - 1, ?_⟩
       rw [List.getElem?_drop, show 1 + (i - 1) = i by omega, List.getElem?_take, if_pos hi]; simp [hj])
      have h2 := (h l[i] (List.getElem_mem hj)).1
      simp at this; omega
     have a1 := small 1 (by omega) (by omega) (by omega)
     have a2 := small 2 (by omega) (by omega) (by omega)
     have a3 := small 3 (by omega) (by omega) (by omega)
     generalize l[1] = x1 at *
     generalize l[2] = x2 at *
     generalize l[3] = x3 at *
     have e1 : (2 : Int) ^ 16 = 65536 := rfl
     have e2 : (2 : Int) ^ 8 = 256 := rfl
     rw [e1, e2, i64w (x1 * 65536) (by omega), i64w (16777216 + x1 * 65536) (by omega), i64w (x2 * 256) (by omega), i64w (16777216 + x1 * 65536 + x2 * 256) (by omega), i64w (16777216 + x1 * 65536 + x2 * 256 + x3) (by omega)]
     unfold colorP; omega
   ·rw [decide_eq_false h0]
    exact ⟨0, 0, rfl, .inl rfl⟩
  ·rw [decide_eq_false (p := (4 : Int) ≤ (l.length : Int)) (by omega)]
   exact ⟨0, 0, rfl, .inl rfl⟩
 unfold f152
 by_cases h2 : 2 ≤ l.length
 ·rw [decide_eq_true (p := (2 : Int) ≤ (l.length : Int)) (by omega)]
  simp only [cond_true, idx_at l 0 0 rfl (by omega), Option.bind_some]
  by_cases h0 : l[0] = 5
  ·rw [decide_eq_true h0]
   simp only [cond_true, idx_at l 1 1 rfl (by omega), Option.bind_some, f62_eq]
   by_cases hb : (255 : Int) < l[1]
   ·rw [decide_eq_true hb]; exact tail
   ·rw [decide_eq_false hb]
    unfold f152_j0
    simp only [Bool.not_false, cond_true, idx_at l 1 1 rfl (by omega), Option.bind_some]
    have := (h l[1] (List.getElem_mem _)).1
    refine ⟨_, _, rfl, .inr ⟨.inl rfl, by omega, ?_⟩⟩
    rw [i64w _ (by omega)]
    unfold colorP; omega
  ·rw [decide_eq_false h0]; exact tail
 ·rw [decide_eq_false (p := (2 : Int) ≤ (l.length : Int)) (by omega)]; exact tail
theorem round_ok (a1 : GPen) (a2 : List Int) (p : GPen) (l : List Int) (i : Nat) (h : ∀ x ∈ l, argP x) (hl : l.length ≤ 1000) (hi : i < l.length) :
  (∃ q j, f132_l4 a1 a2 (p, l, (i : Int)) = some (.inl (q, l, ((j : Nat) : Int))) ∧ i < j ∧ j ≤ l.length ∧ (okP p → okP q) ∧ (l[i] = 0 → q = ⟨0, 0, 0⟩ ∧ j = i + 1)) ∨ (f132_l4 a1 a2 (p, l, (i : Int)) = some (.inr p) ∧ l[i] ≠ 0) := by
 have hin : inR (i : Int) l.length = some i := by unfold inR; rw [if_pos (by omega)]; simp
 have hg : l[i]? = some l[i] := by simp [hi]
 have hw : IntKind.i64.wrap ((i : Int) + 1) = ((i + 1 : Nat) : Int) := by rw [i64w _ (by omega)]; rfl
 have hargs : ∀ x ∈ l.drop (i + 1), argP x := fun x hx => h x (List.mem_of_mem_drop hx)
 unfold f132_l4
 rw [decide_eq_true (p := (p, l, (i : Int)).2.2 < (((p, l, (i : Int)).2.1.length : Nat) : Int)) (by show (i : Int) < (l.length : Int); omega)]
 simp only [cond_true]
 unfold f132_l4_j5 f132_l4_j8 f132_l4_j6 f132_l4_j7
 simp only [hin, hg, Option.bind_some, hw]
 have ext : ∀ (b : Bool) (u : l[i] ≠ 0), (∃ q j, ((chk (decide (0 ≤ ((i + 1 : Nat) : Int)) && decide (((i + 1 : Nat) : Int) ≤ (l.length : Int)) && decide ((l.length : Int) ≤ (l.length : Int)))).bind fun z138 => ((part? l ((((i + 1 : Nat) : Int) : Int).toNat) (((l.length : Int) : Int).toNat - (((i + 1 : Nat) : Int) : Int).toNat)).bind fun z139 => ((f152 z139).bind fun z140 => (bif (decide (z140.2 = 0)) then (some (.inr p)) else ((bif b then (some (.inl ((GPen.mk p.Flags z140.1 p.Back), l, (IntKind.i64.wrap ((IntKind.i64.wrap ((i : Int) + z140.2)) + 1))))) else (some (.inl ((GPen.mk p.Flags p.Fore z140.1), l, (IntKind.i64.wrap ((IntKind.i64.wrap ((i : Int) + z140.2)) + 1)))))))))) : Option ((GPen × (List Int) × Int) ⊕ GPen)) = some (.inl (q, l, ((j : Nat) : Int))) ∧ i < j ∧ j ≤ l.length ∧ (okP p → okP q) ∧ (l[i] = 0 → q = ⟨0, 0, 0⟩ ∧ j = i + 1)) ∨ (((chk (decide (0 ≤ ((i + 1 : Nat) : Int)) && decide (((i + 1 : Nat) : Int) ≤ (l.length : Int)) && decide ((l.length : Int) ≤ (l.length : Int)))).bind fun z138 => ((part? l ((((i + 1 : Nat) : Int) : Int).toNat) (((l.length : Int) : Int).toNat - (((i + 1 : Nat) : Int) : Int).toNat)).bind fun z139 => ((f152 z139).bind fun z140 => (bif (decide (z140.2 = 0)) then (some (.inr p)) else ((bif b then (some (.inl ((GPen.mk p.Flags z140.1 p.Back), l, (IntKind.i64.wrap ((IntKind.i64.wrap ((i : Int) + z140.2)) + 1))))) else (some (.inl ((GPen.mk p.Flags p.Fore z140.1), l, (IntKind.i64.wrap ((IntKind.i64.wrap ((i : Int) + z140.2)) + 1)))))))))) : Option ((GPen × (List Int) × Int) ⊕ GPen)) = some (.inr p) ∧ l[i] ≠ 0) := by
  intro b u
  have hc : chk (decide (0 ≤ ((i + 1 : Nat) : Int)) && decide (((i + 1 : Nat) : Int) ≤ (l.length : Int)) && decide ((l.length : Int) ≤ (l.length : Int))) = some () := by
   unfold chk; rw [if_pos]; simp only [Bool.and_eq_true, decide_eq_true_eq]; omega
  have hp : part? l ((((i + 1 : Nat) : Int) : Int).toNat) (((l.length : Int) : Int).toNat - (((i + 1 : Nat) : Int) : Int).toNat) = some (l.drop (i + 1)) := by
   simp only [Int.toNat_natCast]
   unfold part?; rw [if_pos (by omega)]
   rw [List.take_of_length_le (by simp)]
  rw [hc, Option.bind_some, hp, Option.bind_some]
  obtain ⟨c, n, e1, e2⟩ := ext_ok (l.drop (i + 1)) hargs (by simp; omega)
  rw [e1, Option.bind_some]
  rcases e2 with rfl | ⟨hn, hn2, hcol⟩
  ·right; exact ⟨rfl, u⟩
  ·left
   simp at hn2
   have hne : n ≠ 0 := by omega
   simp only [decide_eq_false hne, cond_false]
   have hj : IntKind.i64.wrap (IntKind.i64.wrap ((i : Int) + n) + 1) = (((i + n.toNat + 1 : Nat)) : Int) := by
    rw [i64w ((i : Int) + n) (by omega), i64w ((i : Int) + n + 1) (by omega)]; omega
   rw [hj]
   cases b
   ·exact ⟨_, _, rfl, by omega, by omega, fun ⟨a, b, c, d⟩ => ⟨a, b, c, hcol⟩, fun e => absurd e u⟩
   ·exact ⟨_, _, rfl, by omega, by omega, fun ⟨a, b, c, d⟩ => ⟨a, b, hcol, d⟩, fun e => absurd e u⟩
 by_cases h38 : l[i] = 38
 ·rw [decide_eq_true h38]
  simp only [Bool.not_true, cond_false]
  exact ext true (by omega)
 ·rw [decide_eq_false h38]
  simp only [Bool.not_false, cond_true]
  by_cases h48 : l[i] = 48
  ·rw [decide_eq_true h48]
   simp only [Bool.not_true, cond_false]
   exact ext false (by omega)
  ·rw [decide_eq_false h48]
   simp only [Bool.not_false, cond_true]
   obtain ⟨q, hq, hok, hz⟩ := one_ok l[i] p (h _ (List.getElem_mem hi))
   rw [hq, Option.bind_some]
   left
   exact ⟨q, i + 1, rfl, by omega, by omega, hok, fun e => ⟨hz e, rfl⟩⟩
theorem end_ok (a1 : GPen) (a2 : List Int) (p : GPen) (l : List Int) : f132_l4 a1 a2 (p, l, (l.length : Int)) = some (.inr p) := by
 unfold f132_l4
 rw [decide_eq_false (p := (p, l, (l.length : Int)).2.2 < (((p, l, (l.length : Int)).2.1.length : Nat) : Int)) (by show ¬ (l.length : Int) < (l.length : Int); omega)]
 rfl
theorem run_ok (a1 : GPen) (a2 : List Int) (l : List Int) (h : ∀ x ∈ l, argP x) (hl : l.length ≤ 1000) (p : GPen) (i : Nat) (hi : i ≤ l.length) : ∃ q, loopO (f132_l4 a1 a2) (p, l, (i : Int)) = some q ∧ (okP p → okP q) :=
 loopO_ind (fun n x => ∃ (p' : GPen) (i : Nat), x = (p', l, (i : Int)) ∧ i ≤ l.length ∧ n = l.length - i ∧ (okP p → okP p')) (fun q => okP p → okP q) (by
  rintro n x ⟨p', i, rfl, hi, rfl, hok⟩
  by_cases hlt : i < l.length
  ·rcases round_ok a1 a2 p' l i h hl hlt with ⟨q, j, e, h1, h2, h3, _⟩ | ⟨e, _⟩
   ·exact .inl ⟨_, l.length - j, e, by omega, q, j, rfl, h2, rfl, fun hp => h3 (hok hp)⟩
   ·exact .inr ⟨p', e, hok⟩
  ·have : i = l.length := by omega
   subst this
   exact .inr ⟨p', end_ok a1 a2 p' l, hok⟩) ⟨p, i, rfl, hi, rfl, id⟩
def maxL (l : List Int) : List Int := l.map fun z => if 0 > z then 0 else z
theorem l6_ok (a1 : GPen) (l : List Int) (hl : l.length ≤ 1000) : loopO (f132_l9 a1 l) ([], 0) = some (maxL l) := by
 obtain ⟨r, h1, h2⟩ := loopO_ind (body := f132_l9 a1 l) (fun n x => ∃ i : Nat, x = (maxL (l.take i), (i : Int)) ∧ i ≤ l.length ∧ n = l.length - i) (fun r => r = maxL l) (by
  rintro n x ⟨i, rfl, hi, rfl⟩
  by_cases hlt : i < l.length
  ·left
   refine ⟨(maxL (l.take (i + 1)), ((i + 1 : Nat) : Int)), l.length - (i + 1), ?_, by omega, i + 1, rfl, by omega, rfl⟩
   unfold f132_l9 f132_l9_j10 f132_l9_j11
   rw [decide_eq_true (p := (maxL (l.take i), (i : Int)).2 < (l.length : Int)) (by show (i : Int) < _; omega)]
   simp only [cond_true, idx_get l i hlt, Option.bind_some]
   have ha : app? 8 (maxL (l.take i)) [if 0 > l[i] then 0 else l[i]] = some (maxL (l.take (i + 1))) := by
    unfold app?
    have hlen : (maxL (l.take i)).length = i := by unfold maxL; rw [List.length_map, List.length_take]; omega
    rw [if_pos (by rw [hlen]; show (i + 1) * 8 ≤ _; omega)]
    unfold maxL
    rw [List.take_add_one, List.map_append, List.getElem?_eq_getElem hlt]; rfl
   rw [ha, Option.bind_some, i64w _ (by omega)]; rfl
  ·right
   have : i = l.length := by omega
   subst this
   refine ⟨maxL l, ?_, rfl⟩
   unfold f132_l9 f132_l9_j10
   rw [decide_eq_false (p := (maxL (l.take l.length), (l.length : Int)).2 < (l.length : Int)) (by show ¬ (l.length : Int) < _; omega)]
   simp) (n := l.length) (x := ([], 0)) ⟨0, rfl, by omega, rfl⟩
 rw [h1, h2]
theorem maxL_arg {l : List Int} (h : ∀ x ∈ l, ¬ (x < -1 ∨ 16383 < x)) : ∀ x ∈ maxL l, argP x := by
 intro x hx
 obtain ⟨y, hy, rfl⟩ := List.mem_map.1 hx
 have := h y hy
 unfold argP
 split <;> omega
def sgrE (p : GPen) (l : List Int) : Int := if ¬ okP p then 4 else if l.length = 0 ∨ (∃ x ∈ l, x < -1 ∨ 16383 < x) then 1 else if 32 < l.length then 2 else 0
theorem sgr_eq (p : GPen) (l : List Int) (hl : (l.length : Int) < 9223372036854775807) :
  (f132 p l = some (p, sgrE p l) ∧ sgrE p l ≠ 0) ∨ (sgrE p l = 0 ∧ okP p ∧ l.length ≤ 32 ∧ (∀ x ∈ l, ¬ (x < -1 ∨ 16383 < x)) ∧ ∃ q, loopO (f132_l4 p l) (p, maxL l, 0) = some q ∧ f132 p l = some (q, 0) ∧ okP q) := by
 unfold f132
 rw [f33_eq]
 simp only [Option.bind_some]
 by_cases hok : okP p
 ·rw [if_pos hok]
  simp only [decide_true, Bool.not_true, cond_false]
  unfold f132_j0
  by_cases h0 : l.length = 0
  ·left
   have e : sgrE p l = 1 := by unfold sgrE; rw [if_neg (by simpa using hok), if_pos (.inl h0)]
   rw [decide_eq_true (p := (l.length : Int) = 0) (by omega), e]
   exact ⟨rfl, by decide⟩
  ·rw [decide_eq_false (p := (l.length : Int) = 0) (by omega)]
   simp only [cond_false, f50_eq l hl, Option.bind_some]
   by_cases hb : ∃ x ∈ l, x < -1 ∨ 16383 < x
   ·left
    have e : sgrE p l = 1 := by unfold sgrE; rw [if_neg (by simpa using hok), if_pos (.inr hb)]
    have ha : (l.any fun n => decide (n < -1 ∨ 16383 < n)) = true := by
     obtain ⟨x, hx, h⟩ := hb
     exact List.any_eq_true.2 ⟨x, hx, decide_eq_true h⟩
    rw [ha, e]; exact ⟨rfl, by decide⟩
   ·have hall : ∀ x ∈ l, ¬ (x < -1 ∨ 16383 < x) := fun x hx h => hb ⟨x, hx, h⟩
    have ha : (l.any fun n => decide (n < -1 ∨ 16383 < n)) = false := by
     rw [List.any_eq_false]; intro x hx; simpa using hall x hx
    rw [ha]
    simp only [cond_false]
    unfold f132_j1
    by_cases h32 : 32 < l.length
    ·left
     have e : sgrE p l = 2 := by unfold sgrE; rw [if_neg (by simpa using hok), if_neg (fun h => h.elim h0 hb), if_pos h32]
     rw [decide_eq_true (p := (32 : Int) < (l.length : Int)) (by omega), e]
     exact ⟨rfl, by decide⟩
    ·right
     have e : sgrE p l = 0 := by unfold sgrE; rw [if_neg (by simpa using hok), if_neg (fun h => h.elim h0 hb), if_neg h32]
     rw [decide_eq_false (p := (32 : Int) < (l.length : Int)) (by omega)]
     simp only [cond_false]
     unfold f132_j2 f132_j3
     rw [l6_ok p l (by omega)]
     simp only [Option.bind_some]
     obtain ⟨q, h1, h2⟩ := run_ok p l (maxL l) (maxL_arg hall) (by simp [maxL]; omega) p 0 (by omega)
     rw [show (p, maxL l, ((0 : Nat) : Int)) = (p, maxL l, 0) from rfl] at h1
     refine ⟨e, hok, by omega, hall, q, h1, ?_, h2 hok⟩
     rw [h1]; rfl
 ·left
  have e : sgrE p l = 4 := by unfold sgrE; rw [if_pos hok]
  rw [if_neg hok, e]
  exact ⟨rfl, by decide⟩

noncomputable def rs (p : GPen) : List Int → Option (GPen × Nat)
 | [] => none
 | x :: t => if x ≠ 38 ∧ x ≠ 48 then some ((f151 x p).getD p, 1) else match f152 t with
  | some (c, n) => if n = 0 then none else some (if x = 38 then GPen.mk p.Flags c p.Back else GPen.mk p.Flags p.Fore c, n.toNat + 1)
  | none => none
theorem rs_cons (p : GPen) (x : Int) (t : List Int) : rs p (x :: t) = if x ≠ 38 ∧ x ≠ 48 then some ((f151 x p).getD p, 1) else match f152 t with
  | some (c, n) => if n = 0 then none else some (if x = 38 then GPen.mk p.Flags c p.Back else GPen.mk p.Flags p.Fore c, n.toNat + 1)
  | none => none := rfl
theorem round_eq (a1 : GPen) (a2 : List Int) (p : GPen) (l : List Int) (i : Nat) (h : ∀ x ∈ l, argP x) (hl : l.length ≤ 1000) (hi : i ≤ l.length) :
  f132_l4 a1 a2 (p, l, (i : Int)) = some (match rs p (l.drop i) with | some (q, k) => .inl (q, l, ((i + k : Nat) : Int)) | none => .inr p) ∧ ∀ q k, rs p (l.drop i) = some (q, k) → 0 < k ∧ i + k ≤ l.length := by
 by_cases hlt : i < l.length
 rotate_left
 ·have : i = l.length := by omega
  subst this
  rw [List.drop_length]
  exact ⟨end_ok a1 a2 p l, fun q k hk => by cases hk⟩
 have hdrop : l.drop i = l[i] :: l.drop (i + 1) := List.drop_eq_getElem_cons hlt
 have hin : inR (i : Int) l.length = some i := by unfold inR; rw [if_pos (by omega)]; simp
 have hg : l[i]? = some l[i] := by simp [hlt]
 have hw : IntKind.i64.wrap ((i : Int) + 1) = ((i + 1 : Nat) : Int) := by rw [i64w _ (by omega)]; rfl
 have hargs : ∀ x ∈ l.drop (i + 1), argP x := fun x hx => h x (List.mem_of_mem_drop hx)
 have hc : chk (decide (0 ≤ ((i + 1 : Nat) : Int)) && decide (((i + 1 : Nat) : Int) ≤ (l.length : Int)) && decide ((l.length : Int) ≤ (l.length : Int))) = some () := by
  unfold chk; rw [if_pos]; simp only [Bool.and_eq_true, decide_eq_true_eq]; omega
 have hp : part? l ((((i + 1 : Nat) : Int) : Int).toNat) (((l.length : Int) : Int).toNat - (((i + 1 : Nat) : Int) : Int).toNat) = some (l.drop (i + 1)) := by
  simp only [Int.toNat_natCast]
  unfold part?; rw [if_pos (by omega)]
  rw [List.take_of_length_le (by simp)]
 obtain ⟨c, n, e1, e2⟩ := ext_ok (l.drop (i + 1)) hargs (by simp; omega)
 rw [hdrop]
 unfold f132_l4
 rw [decide_eq_true (p := (p, l, (i : Int)).2.2 < (((p, l, (i : Int)).2.1.length : Nat) : Int)) (by show (i : Int) < (l.length : Int); omega)]
 simp only [cond_true]
 unfold f132_l4_j5 f132_l4_j8 f132_l4_j6 f132_l4_j7
 simp only [hin, hg, Option.bind_some, hw, hc, hp, e1, rs_cons]
 by_cases h38 : l[i] = 38
 ·rw [decide_eq_true h38, if_neg (show ¬ (l[i] ≠ 38 ∧ l[i] ≠ 48) from fun hh => hh.1 h38)]
  simp only [Bool.not_true, cond_false, e1, cond_true]
  rcases e2 with rfl | ⟨hn, hn2, hcol⟩
  ·exact ⟨rfl, fun q k hk => by simp at hk⟩
  ·simp at hn2
   have hne : n ≠ 0 := by omega
   have hj : IntKind.i64.wrap (IntKind.i64.wrap ((i : Int) + n) + 1) = (((i + (n.toNat + 1) : Nat)) : Int) := by
    rw [i64w ((i : Int) + n) (by omega), i64w ((i : Int) + n + 1) (by omega)]; omega
   simp only [decide_eq_false hne, cond_false, if_neg hne, hj, if_pos h38]
   exact ⟨trivial, fun q k hk => by cases hk; omega⟩
 ·rw [decide_eq_false h38]
  simp only [Bool.not_false, cond_true]
  by_cases h48 : l[i] = 48
  ·rw [decide_eq_true h48, if_neg (show ¬ (l[i] ≠ 38 ∧ l[i] ≠ 48) from fun hh => hh.2 h48)]
   simp only [Bool.not_true, cond_false, e1]
   rcases e2 with rfl | ⟨hn, hn2, hcol⟩
   ·exact ⟨rfl, fun q k hk => by simp at hk⟩
   ·simp at hn2
    have hne : n ≠ 0 := by omega
    have hj : IntKind.i64.wrap (IntKind.i64.wrap ((i : Int) + n) + 1) = (((i + (n.toNat + 1) : Nat)) : Int) := by
     rw [i64w ((i : Int) + n) (by omega), i64w ((i : Int) + n + 1) (by omega)]; omega
    simp only [decide_eq_false hne, cond_false, if_neg hne, hj, if_neg h38]
    exact ⟨trivial, fun q k hk => by cases hk; omega⟩
  ·rw [decide_eq_false h48, if_pos ⟨h38, h48⟩]
   simp only [Bool.not_false, cond_true]
   obtain ⟨q, hq, hok, hz⟩ := one_ok l[i] p (h _ (List.getElem_mem hlt))
   rw [hq, Option.bind_some]
   exact ⟨rfl, fun q k hk => by cases hk; omega⟩
def tbl (i : Nat) : Int := ([0, 1, 2, 4, 8, 16, 0, 32, 64, 128] : List Int).getD i 0
def want (b q : Int) (i : Nat) : Bool := !decide (bitI .andNot .i64 (bitI .and .i64 (tbl i) q) b = 0)
def flg (b q : Int) : List Nat := [1, 2, 3, 4, 5, 6, 7, 8, 9].filter (want b q)
def tblN (i : Nat) : Nat := ([0, 1, 2, 4, 8, 16, 0, 32, 64, 128] : List Nat).getD i 0
def wantN (b q i : Nat) : Bool := !Nat.beq (Nat.land (Nat.land (tblN i) q) (18446744073709551615 - b)) 0
def flgN (b q : Nat) : List Nat := [1, 2, 3, 4, 5, 6, 7, 8, 9].filter (wantN b q)
def foldN (b q : Nat) : Nat := (flgN b q).foldl (fun s i => Nat.lor s (tblN i)) b
theorem tblN_lt (i : Nat) : tblN i < 256 := by
 match i with
 | 0 | 1 | 2 | 3 | 4 | 5 | 6 | 7 | 8 | 9 => decide
 | i + 10 => exact (by decide : (0 : Nat) < 256)
theorem tbl_eq (i : Nat) : tbl i = (tblN i : Int) := by
 match i with
 | 0 | 1 | 2 | 3 | 4 | 5 | 6 | 7 | 8 | 9 => rfl
 | i + 10 => rfl
theorem ofI (n : Nat) (h : n < 18446744073709551616) : (BitVec.ofInt 64 (n : Int)).toNat = n := by
 rw [BitVec.ofInt_natCast, BitVec.toNat_ofNat]; exact Nat.mod_eq_of_lt h
theorem bitI_or (a b : Nat) (ha : a < 256) (hb : b < 256) : bitI .or .i64 (a : Int) (b : Int) = ((Nat.lor a b : Nat) : Int) ∧ Nat.lor a b < 256 := by
 have hlt : a ||| b < 2 ^ 8 := Nat.or_lt_two_pow ha hb
 refine ⟨?_, hlt⟩
 show IntKind.i64.wrap ((BitVec.ofInt 64 (a : Int) ||| BitVec.ofInt 64 (b : Int)).toNat : Int) = ((a ||| b : Nat) : Int)
 rw [BitVec.toNat_or, ofI a (by omega), ofI b (by omega), i64w _ (by omega)]
theorem bitI_and (a b : Nat) (ha : a < 256) (hb : b < 256) : bitI .and .i64 (a : Int) (b : Int) = ((Nat.land a b : Nat) : Int) ∧ Nat.land a b < 256 := by
 have hle : a &&& b ≤ a := Nat.and_le_left
 refine ⟨?_, Nat.lt_of_le_of_lt hle ha⟩
 show IntKind.i64.wrap ((BitVec.ofInt 64 (a : Int) &&& BitVec.ofInt 64 (b : Int)).toNat : Int) = ((a &&& b : Nat) : Int)
 rw [BitVec.toNat_and, ofI a (by omega), ofI b (by omega), i64w _ (by omega)]
theorem bitI_not (a b : Nat) (ha : a < 256) (hb : b < 256) : bitI .andNot .i64 (a : Int) (b : Int) = ((Nat.land a (18446744073709551615 - b) : Nat) : Int) := by
 have hle : a &&& (18446744073709551615 - b) ≤ a := Nat.and_le_left
 show IntKind.i64.wrap ((BitVec.ofInt 64 (a : Int) &&& ~~~ BitVec.ofInt 64 (b : Int)).toNat : Int) = ((a &&& (18446744073709551615 - b) : Nat) : Int)
 rw [BitVec.toNat_and, BitVec.toNat_not, ofI a (by omega), ofI b (by omega)]
 rw [show 2 ^ 64 - 1 - b = 18446744073709551615 - b from rfl, i64w _ (by omega)]
theorem want_eq (b q i : Nat) (hb : b < 256) (hq : q < 256) : want (b : Int) (q : Int) i = wantN b q i := by
 unfold want wantN
 obtain ⟨e1, l1⟩ := bitI_and (tblN i) q (tblN_lt i) hq
 rw [tbl_eq, e1, bitI_not _ _ l1 hb]
 generalize Nat.land (Nat.land (tblN i) q) (18446744073709551615 - b) = z
 cases z with
 | zero => rfl
 | succ z => rw [decide_eq_false (by omega)]; rfl
theorem flg_eq (b q : Nat) (hb : b < 256) (hq : q < 256) : flg (b : Int) (q : Int) = flgN b q := by
 unfold flg flgN
 exact congrArg (fun f => List.filter f _) (funext fun i => want_eq b q i hb hq)
theorem foldl_or : ∀ (is : List Nat) (s : Nat), s < 256 → is.foldl (fun s i => bitI .or .i64 s (tbl i)) (s : Int) = ((is.foldl (fun s i => Nat.lor s (tblN i)) s : Nat) : Int)
 | [], s, _ => rfl
 | i :: is, s, h => by
  obtain ⟨e, l⟩ := bitI_or s (tblN i) h (tblN_lt i)
  rw [List.foldl_cons, List.foldl_cons, tbl_eq, e]
  exact foldl_or is _ l
theorem fold_test : ∀ b : Fin 256, ∀ q : Fin 256, Nat.land b.val (18446744073709551615 - q.val) = 0 → foldN b.val q.val = q.val ∧ (flgN b.val q.val).length ≤ 8 := by decide +kernel
theorem same_test : ∀ b : Fin 256, flgN b.val b.val = [] := by decide +kernel
theorem flags_ok (b q : Int) (hb : 0 ≤ b ∧ b ≤ 255) (hq : 0 ≤ q ∧ q ≤ 255) (h : bitI .andNot .i64 b q = 0) : (flg b q).foldl (fun s i => bitI .or .i64 s (tbl i)) b = q ∧ (flg b q).length ≤ 8 := by
 obtain ⟨b, rfl⟩ := Int.eq_ofNat_of_zero_le hb.1
 obtain ⟨q, rfl⟩ := Int.eq_ofNat_of_zero_le hq.1
 have hb' : b < 256 := by omega
 have hq' : q < 256 := by omega
 rw [bitI_not b q hb' hq'] at h
 obtain ⟨h1, h2⟩ := fold_test ⟨b, hb'⟩ ⟨q, hq'⟩ (by simpa using h)
 rw [flg_eq b q hb' hq', foldl_or _ b hb']
 exact ⟨congrArg Int.ofNat h1, h2⟩
theorem andNot_self : ∀ q : Fin 256, bitI .andNot .i64 (q.val : Int) (q.val : Int) = 0 := by decide +kernel
theorem flags_same (q : Int) (hq : 0 ≤ q ∧ q ≤ 255) : flg q q = [] ∧ bitI .andNot .i64 q q = 0 := by
 obtain ⟨q, rfl⟩ := Int.eq_ofNat_of_zero_le hq.1
 have hq' : q < 256 := by omega
 refine ⟨by rw [flg_eq q q hq' hq']; exact same_test ⟨q, hq'⟩, ?_⟩
 have := andNot_self ⟨q, hq'⟩
 exact this

inductive Runs : GPen → List Int → GPen → Prop
 | nil (p : GPen) : Runs p [] p
 | step {p : GPen} {l : List Int} {q : GPen} {k : Nat} {r : GPen} : rs p l = some (q, k) → Runs q (l.drop k) r → Runs p l r
theorem runs_nil {p q : GPen} (h : Runs p [] q) : p = q := by
 generalize hl : ([] : List Int) = l at h
 cases h with
 | nil => rfl
 | step hs _ => subst hl; cases hs
theorem runs_eq (a1 : GPen) (a2 l : List Int) (h : ∀ x ∈ l, argP x) (hl : l.length ≤ 1000) {p : GPen} {t : List Int} {r : GPen} (hr : Runs p t r) : ∀ i, i ≤ l.length → l.drop i = t → loopO (f132_l4 a1 a2) (p, l, (i : Int)) = some r := by
 induction hr with
 | nil p =>
  intro i hi hd
  have : i = l.length := by have := congrArg List.length hd; simp at this; omega
  subst this; exact loopO_done (end_ok a1 a2 p l)
 | @step p t q k r hs _ ih =>
  intro i hi hd
  obtain ⟨e, kk⟩ := round_eq a1 a2 p l i h hl hi
  rw [hd, hs] at e
  have kk := kk q k (by rw [hd]; exact hs)
  exact loopO_next e (ih (i + k) kk.2 (by rw [← List.drop_drop, hd]))
theorem flag_tbl (i : Nat) (h : i ≤ 9) : f48 (i : Int) = some (tbl i) := by
 unfold f48 inR; rw [if_pos (by omega)]; rfl
theorem rs_flag (p : GPen) (i : Nat) (h : 1 ≤ i ∧ i ≤ 9) (t : List Int) : rs p ((i : Int) :: t) = some (⟨bitI .or .i64 p.Flags (tbl i), p.Fore, p.Back⟩, 1) := by
 rw [rs_cons, if_pos (by omega)]
 have : f151 (i : Int) p = some ⟨bitI .or .i64 p.Flags (tbl i), p.Fore, p.Back⟩ := by
  unfold f151 f151_j7 f151_j3
  simp only [decide_eq_false (show ¬ (40 : Int) ≤ (i : Int) by omega), decide_eq_false (show ¬ (100 : Int) ≤ (i : Int) by omega), decide_eq_false (show ¬ (i : Int) = 0 by omega), decide_eq_true (show (i : Int) ≤ 9 by omega), cond_false, cond_true, flag_tbl i h.2, Option.bind_some]
 rw [this]; rfl
theorem runs_flags (F B : Int) (r : GPen) (t : List Int) : ∀ (is : List Nat) (s : Int), (∀ i ∈ is, 1 ≤ i ∧ i ≤ 9) → Runs ⟨is.foldl (fun s i => bitI .or .i64 s (tbl i)) s, F, B⟩ t r → Runs ⟨s, F, B⟩ (is.map (fun (i : Nat) => (i : Int)) ++ t) r
 | [], s, _, h => h
 | i :: is, s, hi, h => Runs.step (rs_flag ⟨s, F, B⟩ i (hi i (List.mem_cons_self ..)) _) (runs_flags F B r t is _ (fun j hj => hi j (List.mem_cons_of_mem _ hj)) h)
theorem take_ten : ∀ i, i < 9 → ([1, 2, 3, 4, 5, 6, 7, 8, 9] : List Nat).take (i + 1) = ([1, 2, 3, 4, 5, 6, 7, 8, 9] : List Nat).take i ++ [i + 1] := by decide
theorem chg_loop (a1 q b : GPen) (pre : List Int) (hp : pre.length ≤ 1) : loopO (f27_l4 a1 q) (b, pre, 1) = some (b, pre ++ (flg b.Flags q.Flags).map fun (i : Nat) => (i : Int)) := by
 obtain ⟨r, h1, h2⟩ := loopO_ind (body := f27_l4 a1 q) (fun n x => ∃ i : Nat, x = (b, pre ++ ((([1, 2, 3, 4, 5, 6, 7, 8, 9] : List Nat).take i).filter (want b.Flags q.Flags)).map (fun (i : Nat) => (i : Int)), ((i + 1 : Nat) : Int)) ∧ i ≤ 9 ∧ n = 9 - i) (fun r => r = (b, pre ++ (flg b.Flags q.Flags).map fun (i : Nat) => (i : Int))) (by
  rintro n x ⟨i, rfl, hi, rfl⟩
  by_cases hlt : i < 9
  ·left
   refine ⟨(b, pre ++ ((([1, 2, 3, 4, 5, 6, 7, 8, 9] : List Nat).take (i + 1)).filter (want b.Flags q.Flags)).map (fun (i : Nat) => (i : Int)), ((i + 1 + 1 : Nat) : Int)), 9 - (i + 1), ?_, by omega, i + 1, rfl, by omega, rfl⟩
   rw [take_ten i hlt, List.filter_append, List.map_append]
   have hlen : ((([1, 2, 3, 4, 5, 6, 7, 8, 9] : List Nat).take i).filter (want b.Flags q.Flags)).length ≤ 9 := Nat.le_trans (List.length_filter_le _ _) (by rw [List.length_take]; exact Nat.min_le_right _ _)
   generalize (([1, 2, 3, 4, 5, 6, 7, 8, 9] : List Nat).take i).filter (want b.Flags q.Flags) = fl at *
   have happ : ∀ z : Int, app? 8 (pre ++ fl.map (fun (i : Nat) => (i : Int))) [z] = some (pre ++ fl.map (fun (i : Nat) => (i : Int)) ++ [z]) := fun z => by
    unfold app?; rw [if_pos (by simp; omega)]
   unfold f27_l4 f27_l4_j5
   rw [decide_eq_true (by show ((i + 1 : Nat) : Int) ≤ 9; omega)]
   simp only [cond_true, flag_tbl (i + 1) (by omega), Option.bind_some, happ]
   rw [i64w _ (by omega)]
   have hw : want b.Flags q.Flags (i + 1) = !decide (bitI .andNot .i64 (bitI .and .i64 (tbl (i + 1)) q.Flags) b.Flags = 0) := rfl
   rw [← hw]
   cases hww : want b.Flags q.Flags (i + 1) with
   | true => simp only [cond_true, List.filter_cons_of_pos hww, List.filter_nil, List.map_cons, List.map_nil, List.append_assoc]; rfl
   | false => simp only [cond_false, List.filter_cons_of_neg (by rw [hww]; decide : ¬ want b.Flags q.Flags (i + 1) = true), List.filter_nil, List.map_nil, List.append_nil]; rfl
  ·right
   have : i = 9 := by omega
   subst this
   exact ⟨_, rfl, rfl⟩) (n := 9) (x := (b, pre, 1)) ⟨0, by simp, by omega, rfl⟩
 rw [h1, h2]
theorem and_255 (x : Int) (h : 0 ≤ x ∧ x < 9223372036854775808) : bitI .and .i64 x 255 = x % 256 := by
 obtain ⟨n, rfl⟩ := Int.eq_ofNat_of_zero_le h.1
 show IntKind.i64.wrap ((BitVec.ofInt 64 (n : Int) &&& BitVec.ofInt 64 255).toNat : Int) = (n : Int) % 256
 have e1 : (BitVec.ofInt 64 (n : Int)).toNat = n := by
  rw [BitVec.ofInt_natCast, BitVec.toNat_ofNat]; omega
 have e2 : (BitVec.ofInt 64 255).toNat = 2 ^ 8 - 1 := by decide
 rw [BitVec.toNat_and, e1, e2, Nat.and_two_pow_sub_one_eq_mod, i64w _ (by omega)]
 omega
theorem ext_five (c : Int) (t : List Int) (h : 17 ≤ c ∧ c ≤ 256) : f152 (5 :: (c - 1) :: t) = some (c, 2) := by
 unfold f152
 rw [decide_eq_true (p := (2 : Int) ≤ ((5 :: (c - 1) :: t).length : Int)) (by simp; omega)]
 simp only [cond_true, idx_at (5 :: (c - 1) :: t) 0 0 rfl (by simp), idx_at (5 :: (c - 1) :: t) 1 1 rfl (by simp), List.getElem_cons_zero, List.getElem_cons_succ, Option.bind_some, f62_eq, decide_true]
 rw [decide_eq_false (p := (255 : Int) < c - 1) (by omega)]
 unfold f152_j0
 simp only [Bool.not_false, cond_true, idx_at (5 :: (c - 1) :: t) 1 1 rfl (by simp), List.getElem_cons_zero, List.getElem_cons_succ, Option.bind_some]
 rw [i64w _ (by omega), show c - 1 + 1 = c by omega]
theorem ext_two (r g b : Int) (t : List Int) (hr : 0 ≤ r ∧ r ≤ 255) (hg : 0 ≤ g ∧ g ≤ 255) (hb : 0 ≤ b ∧ b ≤ 255) : f152 (2 :: r :: g :: b :: t) = some (16777216 + r * 65536 + g * 256 + b, 4) := by
 unfold f152
 have i0 := idx_at (2 :: r :: g :: b :: t) 0 0 rfl (by simp)
 have i1 := idx_at (2 :: r :: g :: b :: t) 1 1 rfl (by simp)
 have i2 := idx_at (2 :: r :: g :: b :: t) 2 2 rfl (by simp)
 have i3 := idx_at (2 :: r :: g :: b :: t) 3 3 rfl (by simp)
 have hs : sub? (2 :: r :: g :: b :: t) 1 4 = some [r, g, b] := by unfold sub?; rw [if_pos (by simp only [List.length_cons]; omega)]; rfl
 have hf : f59v3 [r, g, b] = some false := by
  rw [f50v1_eq _ (by simp)]
  simp only [List.any_cons, List.any_nil, decide_eq_false (show ¬ (255 : Int) < r by omega), decide_eq_false (show ¬ (255 : Int) < g by omega), decide_eq_false (show ¬ (255 : Int) < b by omega)]; rfl
 simp only [List.getElem_cons_zero, List.getElem_cons_succ] at i0 i1 i2 i3
 rw [decide_eq_true (p := (2 : Int) ≤ ((2 :: r :: g :: b :: t).length : Int)) (by simp; omega)]
 simp only [cond_true, i0, Option.bind_some, decide_eq_false (show ¬ (2 : Int) = 5 by decide), cond_false]
 unfold f152_j0
 rw [decide_eq_true (p := (4 : Int) ≤ ((2 :: r :: g :: b :: t).length : Int)) (by simp only [List.length_cons]; omega)]
 simp only [cond_true, cond_false, i0, Option.bind_some, decide_true, hs, hf, Bool.not_false]
 unfold f152_j1
 simp only [cond_true, i1, i2, i3, Option.bind_some]
 have e1 : (2 : Int) ^ 16 = 65536 := rfl
 have e2 : (2 : Int) ^ 8 = 256 := rfl
 rw [e1, e2, i64w (r * 65536) (by omega), i64w (16777216 + r * 65536) (by omega), i64w (g * 256) (by omega), i64w (16777216 + r * 65536 + g * 256) (by omega), i64w (16777216 + r * 65536 + g * 256 + b) (by omega)]

def dye (a : Int) (p : GPen) (c : Int) : GPen := if a = 30 then ⟨p.Flags, c, p.Back⟩ else ⟨p.Flags, p.Fore, c⟩
theorem one_dye (a n c : Int) (p : GPen) (ha : a = 30 ∨ a = 40) (h : (1 ≤ c ∧ c ≤ 8 ∧ n = a + c - 1) ∨ (9 ≤ c ∧ c ≤ 16 ∧ n = a + 60 + c - 9)) : f151 n p = some (dye a p c) := by
 unfold dye
 rcases ha with rfl | rfl
 ·rw [if_pos rfl]
  unfold f151 f151_j7 f151_j3
  rcases h with ⟨h1, h2, rfl⟩ | ⟨h1, h2, rfl⟩
  ·simp only [decide_eq_false (show ¬ (40 : Int) ≤ 30 + c - 1 by omega), decide_eq_false (show ¬ (100 : Int) ≤ 30 + c - 1 by omega), decide_eq_false (show ¬ 30 + c - 1 = 0 by omega), decide_eq_false (show ¬ 30 + c - 1 ≤ 9 by omega), decide_eq_false (show ¬ 30 + c - 1 = 22 by omega), decide_eq_true (show (23 : Int) ≤ 30 + c - 1 by omega), decide_eq_false (show ¬ 30 + c - 1 ≤ 29 by omega), cond_false, cond_true]
   unfold f151_j4
   rw [decide_eq_true (show (30 : Int) ≤ 30 + c - 1 by omega), decide_eq_true (show 30 + c - 1 ≤ 37 by omega), i64w (30 + c - 1 - 30) (by omega), i64w _ (by omega), show 30 + c - 1 - 30 + 1 = c by omega]; rfl
  ·have e : 30 + 60 + c - 9 = 81 + c := by omega
   rw [e]
   simp only [decide_eq_true (show (40 : Int) ≤ 81 + c by omega), decide_eq_false (show ¬ 81 + c ≤ 49 by omega), decide_eq_false (show ¬ (100 : Int) ≤ 81 + c by omega), decide_eq_false (show ¬ 81 + c = 0 by omega), decide_eq_false (show ¬ 81 + c ≤ 9 by omega), decide_eq_false (show ¬ 81 + c = 22 by omega), decide_eq_true (show (23 : Int) ≤ 81 + c by omega), decide_eq_false (show ¬ 81 + c ≤ 29 by omega), cond_false, cond_true]
   unfold f151_j4 f151_j5
   rw [decide_eq_true (show (30 : Int) ≤ 81 + c by omega), decide_eq_false (show ¬ 81 + c ≤ 37 by omega), decide_eq_false (show ¬ 81 + c = 39 by omega), decide_eq_true (show (90 : Int) ≤ 81 + c by omega), decide_eq_true (show 81 + c ≤ 97 by omega), i64w (81 + c - 30) (by omega), i64w (81 + c - 30 - 60) (by omega), i64w (81 + c - 30 - 60 + 9) (by omega), show 81 + c - 30 - 60 + 9 = c by omega]; rfl
 ·rw [if_neg (by decide)]
  unfold f151 f151_j6 f151_j0
  rcases h with ⟨h1, h2, rfl⟩ | ⟨h1, h2, rfl⟩
  ·simp only [decide_eq_true (show (40 : Int) ≤ 40 + c - 1 by omega), decide_eq_true (show 40 + c - 1 ≤ 49 by omega), decide_eq_false (show ¬ 40 + c - 1 = 0 by omega), decide_eq_false (show ¬ 40 + c - 1 ≤ 9 by omega), decide_eq_false (show ¬ 40 + c - 1 = 22 by omega), decide_eq_true (show (23 : Int) ≤ 40 + c - 1 by omega), decide_eq_false (show ¬ 40 + c - 1 ≤ 29 by omega), cond_false, cond_true]
   unfold f151_j1
   rw [decide_eq_true (show (40 : Int) ≤ 40 + c - 1 by omega), decide_eq_true (show 40 + c - 1 ≤ 47 by omega), i64w (40 + c - 1 - 40) (by omega), i64w _ (by omega), show 40 + c - 1 - 40 + 1 = c by omega]; rfl
  ·have e : 40 + 60 + c - 9 = 91 + c := by omega
   rw [e]
   simp only [decide_eq_true (show (40 : Int) ≤ 91 + c by omega), decide_eq_false (show ¬ 91 + c ≤ 49 by omega), decide_eq_true (show (100 : Int) ≤ 91 + c by omega), decide_eq_true (show 91 + c ≤ 107 by omega), decide_eq_false (show ¬ 91 + c = 0 by omega), decide_eq_false (show ¬ 91 + c ≤ 9 by omega), decide_eq_false (show ¬ 91 + c = 22 by omega), decide_eq_true (show (23 : Int) ≤ 91 + c by omega), decide_eq_false (show ¬ 91 + c ≤ 29 by omega), cond_false, cond_true]
   unfold f151_j1 f151_j2
   rw [decide_eq_true (show (40 : Int) ≤ 91 + c by omega), decide_eq_false (show ¬ 91 + c ≤ 47 by omega), decide_eq_false (show ¬ 91 + c = 49 by omega), decide_eq_true (show (100 : Int) ≤ 91 + c by omega), decide_eq_true (show 91 + c ≤ 107 by omega), i64w (91 + c - 40) (by omega), i64w (91 + c - 40 - 60) (by omega), i64w (91 + c - 40 - 60 + 9) (by omega), show 91 + c - 40 - 60 + 9 = c by omega]; rfl
theorem rs_one (p q : GPen) (n : Int) (t : List Int) (h : n ≠ 38 ∧ n ≠ 48) (hq : f151 n p = some q) : rs p (n :: t) = some (q, 1) := by
 rw [rs_cons, if_pos h, hq]; rfl
theorem rs_ext (a c : Int) (k : Nat) (p : GPen) (t : List Int) (ha : a = 30 ∨ a = 40) (hk : 0 < k) (h : f152 t = some (c, (k : Int))) : rs p ((a + 8) :: t) = some (dye a p c, k + 1) := by
 rw [rs_cons, if_neg (by omega), h]
 simp only [if_neg (show ¬ ((k : Int) = 0) by omega), Int.toNat_natCast]
 unfold dye
 rcases ha with rfl | rfl
 ·rfl
 ·rfl
theorem paint_ok (c a : Int) (hc : colorP c) (h1 : 1 ≤ c) (ha : a = 30 ∨ a = 40) : ∃ l, f49 c a = some l ∧ 0 < l.length ∧ l.length ≤ 5 ∧ (∀ x ∈ l, argP x) ∧ ∀ (p : GPen) (t : List Int) (r : GPen), Runs (dye a p c) t r → Runs p (l ++ t) r := by
 unfold f49
 by_cases c8 : c ≤ 8
 ·rw [decide_eq_true c8, i64w (a + c) (by omega), i64w _ (by omega)]
  refine ⟨_, rfl, by simp, by simp, ?_, fun p t r hr => ?_⟩
  ·intro x hx; simp at hx; subst hx; unfold argP; omega
  ·exact Runs.step (rs_one p _ _ t (by omega) (one_dye a _ c p ha (.inl ⟨h1, c8, rfl⟩))) hr
 rw [decide_eq_false c8]
 simp only [cond_false]
 by_cases c16 : c ≤ 16
 ·rw [decide_eq_true c16, i64w (a + 60) (by omega), i64w (a + 60 + c) (by omega), i64w _ (by omega)]
  refine ⟨_, rfl, by simp, by simp, ?_, fun p t r hr => ?_⟩
  ·intro x hx; simp at hx; subst hx; unfold argP; omega
  ·exact Runs.step (rs_one p _ _ t (by omega) (one_dye a _ c p ha (.inr ⟨by omega, c16, rfl⟩))) hr
 rw [decide_eq_false c16]
 simp only [cond_false]
 by_cases c256 : c ≤ 256
 ·rw [decide_eq_true c256, i64w (a + 8) (by omega), i64w (c - 1) (by omega)]
  refine ⟨_, rfl, by simp, by simp, ?_, fun p t r hr => ?_⟩
  ·intro x hx; simp at hx; unfold argP; omega
  ·exact Runs.step (rs_ext a c 2 p _ ha (by decide) (ext_five c t (by omega))) hr
 rw [decide_eq_false c256]
 simp only [cond_false]
 unfold f49_j0
 have hbig : 16777216 ≤ c ∧ c < 33554432 := by unfold colorP at hc; omega
 have e1 : (2 : Int) ^ 16 = 65536 := rfl
 have e2 : (2 : Int) ^ 8 = 256 := rfl
 rw [e1, e2, Int.fdiv_eq_ediv_of_nonneg _ (by decide), Int.fdiv_eq_ediv_of_nonneg _ (by decide), and_255 _ (by omega), and_255 _ (by omega), and_255 _ (by omega), i64w (a + 8) (by omega)]
 refine ⟨_, rfl, by simp, by simp, ?_, fun p t r hr => ?_⟩
 ·intro x hx; simp at hx; unfold argP; omega
 ·have h4 := ext_two (c / 65536 % 256) (c / 256 % 256) (c % 256) t (by omega) (by omega) (by omega)
  have ec : 16777216 + c / 65536 % 256 * 65536 + c / 256 % 256 * 256 + c % 256 = c := by omega
  rw [ec] at h4
  exact Runs.step (rs_ext a c 4 p _ ha (by decide) h4) hr
theorem app_ok {α : Type} (u : Nat) (a b : List α) (h : u * (a.length + b.length) ≤ 1000000) (hu : u = 8) : app? u a b = some (a ++ b) := by
 subst hu; unfold app?; rw [if_pos (by omega)]
theorem part_ok (c d a : Int) (hc : colorP c) (h : c ≠ d → 1 ≤ c) (ha : a = 30 ∨ a = 40) (pre : List Int) (hp : pre.length ≤ 100) {β : Type} (K : List Int → Option β) :
  ∃ l : List Int, (bif (!decide (c = d)) then ((f49 c a).bind fun z => ((app? 8 pre z).bind fun y => K y)) else K pre) = K (pre ++ l) ∧ l.length ≤ 5 ∧ (c = d → l = []) ∧ (∀ x ∈ l, argP x) ∧ ∀ (p : GPen) (t : List Int) (r : GPen), (c = d → dye a p c = p) → Runs (dye a p c) t r → Runs p (l ++ t) r := by
 by_cases e : c = d
 ·refine ⟨[], by rw [decide_eq_true e]; simp, by simp, fun _ => rfl, by simp, fun p t r h1 h2 => ?_⟩
  rw [h1 e] at h2; exact h2
 ·obtain ⟨l, h1, h2, h3, h4, h5⟩ := paint_ok c a hc (h e) ha
  refine ⟨l, ?_, h3, fun h => absurd h e, h4, fun p t r _ hr => h5 p t r hr⟩
  rw [decide_eq_false e, h1]
  simp only [Bool.not_false, cond_true, Option.bind_some, app_ok 8 pre l (by omega) rfl]
theorem change_ok (a1 q b : GPen) (pre : List Int) (hb : okP b) (hq : okP q) (hpre : pre.length ≤ 1) (hF : bitI .andNot .i64 b.Flags q.Flags = 0) (hf : q.Fore = 0 → b.Fore = 0) (hB : q.Back = 0 → b.Back = 0) :
  ∃ l, f27_j1 a1 q b pre = some (pre ++ l, 0) ∧ l.length ≤ 18 ∧ (∀ x ∈ l, argP x) ∧ Runs b l q ∧ (b = q → l = []) := by
 obtain ⟨f1, f2⟩ := flags_ok b.Flags q.Flags ⟨hb.1, hb.2.1⟩ ⟨hq.1, hq.2.1⟩ hF
 have hfm : ∀ i ∈ flg b.Flags q.Flags, 1 ≤ i ∧ i ≤ 9 := fun i hi => by
  have := (List.mem_filter.1 hi).1
  simp at this; omega
 have hc1 : q.Fore ≠ b.Fore → 1 ≤ q.Fore := fun h => by
  have := hq.2.2.1; unfold colorP at this
  by_cases e : q.Fore = 0
  ·exact absurd (e.trans (hf e).symm) h
  ·omega
 have hc2 : q.Back ≠ b.Back → 1 ≤ q.Back := fun h => by
  have := hq.2.2.2; unfold colorP at this
  by_cases e : q.Back = 0
  ·exact absurd (e.trans (hB e).symm) h
  ·omega
 have hfl : ((flg b.Flags q.Flags).map fun (i : Nat) => (i : Int)).length ≤ 8 := by rw [List.length_map]; exact f2
 obtain ⟨l1, g1, g2, g3, g4, g5⟩ := part_ok q.Fore b.Fore 30 hq.2.2.1 hc1 (.inl rfl) (pre ++ (flg b.Flags q.Flags).map fun (i : Nat) => (i : Int)) (by rw [List.length_append]; omega) (fun z => f27_j3 a1 q b z)
 obtain ⟨l2, k1, k2, k3, k4, k5⟩ := part_ok q.Back b.Back 40 hq.2.2.2 hc2 (.inr rfl) (pre ++ ((flg b.Flags q.Flags).map fun (i : Nat) => (i : Int)) ++ l1) (by rw [List.length_append, List.length_append]; omega) (fun z => some (z, (0 : Int)))
 refine ⟨((flg b.Flags q.Flags).map fun (i : Nat) => (i : Int)) ++ (l1 ++ l2), ?_, ?_, ?_, ?_, ?_⟩
 ·unfold f27_j1
  rw [chg_loop a1 q b pre hpre, Option.bind_some]
  show f27_j2 a1 q b (pre ++ (flg b.Flags q.Flags).map fun (i : Nat) => (i : Int)) = _
  unfold f27_j2
  rw [g1]
  unfold f27_j3
  rw [k1, List.append_assoc, List.append_assoc]
 ·rw [List.length_append, List.length_append]; omega
 ·intro x hx
  rcases List.mem_append.1 hx with h | h
  ·obtain ⟨i, hi, rfl⟩ := List.mem_map.1 h
   have := hfm i hi
   unfold argP; omega
  ·rcases List.mem_append.1 h with h | h
   ·exact g4 x h
   ·exact k4 x h
 ·have r0 : Runs q [] q := Runs.nil q
  have d2 : dye 40 ⟨q.Flags, q.Fore, b.Back⟩ q.Back = q := rfl
  have r1 : Runs ⟨q.Flags, q.Fore, b.Back⟩ (l2 ++ []) q := k5 _ [] q (fun h => by rw [d2, ← h]) (by rw [d2]; exact r0)
  rw [List.append_nil] at r1
  have d1 : dye 30 ⟨q.Flags, b.Fore, b.Back⟩ q.Fore = ⟨q.Flags, q.Fore, b.Back⟩ := rfl
  have r2 : Runs ⟨q.Flags, b.Fore, b.Back⟩ (l1 ++ l2) q := g5 _ l2 q (fun h => by rw [d1, ← h]) (by rw [d1]; exact r1)
  have r3 := runs_flags b.Fore b.Back q (l1 ++ l2) (flg b.Flags q.Flags) b.Flags hfm (by rw [f1]; exact r2)
  exact r3
 ·intro e
  subst e
  rw [(flags_same b.Flags ⟨hb.1, hb.2.1⟩).1, g3 rfl, k3 rfl]; rfl
theorem chg_sgr (p q : GPen) (hp : okP p) (hq : okP q) : ∃ l : List Int, f27 p q = some (l, 0) ∧ l.length ≤ 19 ∧ (∀ x ∈ l, argP x) ∧ (l = [] → p = q) ∧ (l ≠ [] → f132 p l = some (q, 0)) := by
 have main : ∃ l : List Int, f27 p q = some (l, 0) ∧ l.length ≤ 19 ∧ (∀ x ∈ l, argP x) ∧ Runs p l q ∧ (p = q → l = []) := by
  have e : f27 p q = f27_j0 p q := by
   unfold f27 f27_j8
   rw [f33_eq, if_pos hp]
   simp only [Option.bind_some, decide_true, Bool.not_true, cond_false]
   unfold f27_j9
   rw [f33_eq, if_pos hq]
   simp only [Option.bind_some, decide_true, Bool.not_true, cond_false]
  have zero : okP ⟨0, 0, 0⟩ := by decide
  have h6 : (p ≠ q) → ∃ l : List Int, f27_j6 p q = some (l, 0) ∧ l.length ≤ 19 ∧ (∀ x ∈ l, argP x) ∧ Runs p l q ∧ (p = q → l = []) := by
   intro hne
   obtain ⟨n, hn⟩ : ∃ n : Nat, q.Flags = (n : Int) := Int.eq_ofNat_of_zero_le hq.1
   have hz : bitI .andNot .i64 (0 : Int) q.Flags = 0 := by
    have := hq.2.1
    rw [hn]
    have := bitI_not 0 n (by decide) (by omega)
    rw [show ((0 : Nat) : Int) = 0 from rfl] at this
    rw [this]
    exact congrArg Int.ofNat (Nat.zero_and _)
   obtain ⟨l, c1, c2, c3, c4, _⟩ := change_ok p q ⟨0, 0, 0⟩ [0] zero hq (by simp) hz (fun _ => rfl) (fun _ => rfl)
   refine ⟨[0] ++ l, ?_, by simp; omega, ?_, ?_, fun h => absurd h hne⟩
   ·unfold f27_j6
    rw [app_ok 8 [] [0] (by simp) rfl, Option.bind_some]
    exact c1
   ·intro x hx
    rcases List.mem_append.1 hx with h | h
    ·simp at h; subst h; unfold argP; omega
    ·exact c3 x h
   ·obtain ⟨s, hs, _, h0⟩ := one_ok 0 p ⟨by decide, by decide⟩
    rw [h0 rfl] at hs
    exact Runs.step (rs_one p _ 0 l (by decide) hs) c4
  have h7 : bitI .andNot .i64 p.Flags q.Flags = 0 → (q.Fore = 0 → p.Fore = 0) → (q.Back = 0 → p.Back = 0) → ∃ l : List Int, f27_j7 p q = some (l, 0) ∧ l.length ≤ 19 ∧ (∀ x ∈ l, argP x) ∧ Runs p l q ∧ (p = q → l = []) := by
   intro a b c
   obtain ⟨l, c1, c2, c3, c4, c5⟩ := change_ok p q p [] hp hq (by simp) a b c
   exact ⟨l, c1, by omega, c3, c4, c5⟩
  rw [e]
  unfold f27_j0
  by_cases x1 : bitI .andNot .i64 p.Flags q.Flags = 0
  rotate_left
  ·rw [decide_eq_false x1]
   exact h6 fun h => x1 (h ▸ (flags_same p.Flags ⟨hp.1, hp.2.1⟩).2)
  rw [decide_eq_true x1]
  simp only [Bool.not_true, cond_false]
  have back : (q.Fore = 0 → p.Fore = 0) → ∃ l : List Int, (bif (!decide (p.Back = 0)) then (bif (decide (q.Back = 0)) then (f27_j6 p q ) else (f27_j7 p q )) else (f27_j7 p q )) = some (l, 0) ∧ l.length ≤ 19 ∧ (∀ x ∈ l, argP x) ∧ Runs p l q ∧ (p = q → l = []) := by
   intro hf
   by_cases y1 : p.Back = 0
   ·rw [decide_eq_true y1]
    exact h7 x1 hf fun _ => y1
   ·rw [decide_eq_false y1]
    by_cases y2 : q.Back = 0
    ·rw [decide_eq_true y2]
     exact h6 fun h => y1 (h ▸ y2)
    ·rw [decide_eq_false y2]
     exact h7 x1 hf fun h => absurd h y2
  by_cases x2 : p.Fore = 0
  ·rw [decide_eq_true x2]
   exact back fun _ => x2
  ·rw [decide_eq_false x2]
   by_cases x3 : q.Fore = 0
   ·rw [decide_eq_true x3]
    exact h6 fun h => x2 (h ▸ x3)
   ·rw [decide_eq_false x3]
    exact back fun h => absurd h x3
 obtain ⟨l, e, h19, harg, hr, hsame⟩ := main
 refine ⟨l, e, h19, harg, fun h => by subst h; exact runs_nil hr, fun hne => ?_⟩
 have h0 : ¬ l.length = 0 := fun h => hne (List.eq_nil_of_length_eq_zero h)
 have hm : maxL l = l := by
  unfold maxL
  conv => rhs; rw [← List.map_id l]
  exact List.map_congr_left fun x hx => if_neg (by have := (harg x hx).1; omega)
 rcases sgr_eq p l (by omega) with ⟨_, h⟩ | ⟨_, _, _, _, x, h1, h2, _⟩
 ·refine absurd ?_ h
  unfold sgrE
  rw [if_neg (by simpa using hp), if_neg (by
   rintro (h | ⟨x, hx, h⟩)
   ·exact h0 h
   ·have := harg x hx; unfold argP at this; omega), if_neg (by omega)]
 ·rw [hm] at h1
  have h3 := runs_eq p l l harg (by omega) hr 0 (by omega) rfl
  rw [show ((0 : Nat) : Int) = 0 from rfl, h1] at h3
  cases h3; exact h2
end Go.Proofs.YtbokpgemkkebnaaGreatDoor.Pe
