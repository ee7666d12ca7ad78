/- Qneg: a command, or an ask, leaves all else as it was: the plain law. -/
import Derived.Test.YtddnpgmmlfbhfaaDQZ
namespace Go.Proofs.Ytddnpgmmlfbhfaa.Pm
open Go.Proofs.Ytddnpgmmlfbhfaa.Args
open Go.ChangeShapes Go.WideShapes Go.ChangeAt Go.RowKit
set_option linter.unusedVariables false
set_option linter.unusedSimpArgs false
set_option maxRecDepth 100000
theorem i64w (n : Int) (h : -9223372036854775808 ≤ n ∧ n ≤ 9223372036854775807) : IntKind.i64.wrap n = n := IntWalk.i64_in n h
def okN (n : GNeg) : Prop := ∀ i, i < 256 → (n.Us i).toNat ≤ 5 ∧ (n.Him i).toNat ≤ 5
theorem scan {body : Int → Option (Int ⊕ (Unit ⊕ Int))} {q : Nat → Prop} (hb : ∀ i : Nat, i < 256 → (q i ∧ body i = some (.inl ((i + 1 : Nat) : Int))) ∨ (¬ q i ∧ body i = some (.inr (.inr 4)))) (he : body 256 = some (.inr (.inl ()))) :
    ((∀ i, i < 256 → q i) ∧ loopO body 0 = some (.inl ())) ∨ (¬ (∀ i, i < 256 → q i) ∧ loopO body 0 = some (.inr 4)) := by
  obtain ⟨r, h1, h2⟩ := loopO_ind (body := body) (fun n x => ∃ i : Nat, x = (i : Int) ∧ i ≤ 256 ∧ n = 256 - i ∧ ∀ j, j < i → q j) (fun r => ((∀ i, i < 256 → q i) ∧ r = .inl ()) ∨ (¬ (∀ i, i < 256 → q i) ∧ r = .inr 4)) (by
    rintro n x ⟨i, rfl, hi, rfl, ha⟩
    by_cases h : i < 256
    · rcases hb i h with ⟨hq, e⟩ | ⟨hq, e⟩
      · exact .inl ⟨_, 256 - (i + 1), e, by omega, i + 1, rfl, by omega, rfl, fun j hj => by
          by_cases hji : j = i
          · subst hji; exact hq
          · exact ha j (by omega)⟩
      · exact .inr ⟨_, e, .inr ⟨fun hh => hq (hh i h), rfl⟩⟩
    · have : i = 256 := by omega
      subst this
      exact .inr ⟨_, he, .inl ⟨ha, rfl⟩⟩) (n := 256) (x := 0) ⟨0, rfl, by omega, rfl, fun j hj => by omega⟩
  rw [h1]
  rcases h2 with ⟨a, rfl⟩ | ⟨a, rfl⟩
  · exact .inl ⟨a, rfl⟩
  · exact .inr ⟨a, rfl⟩
theorem inR_nat (i n : Nat) (h : i < n) : inR (i : Int) n = some i := by unfold inR; rw [if_pos (by omega)]; simp
theorem f14_eq (n : Int) : f14 n = some (decide (0 ≤ n ∧ n ≤ 5)) := by
  unfold f14
  simp only [Bool.cond_decide]
  repeat' split
  all_goals first | exact congrArg some (decide_eq_true (by omega)).symm | exact congrArg some (decide_eq_false (by omega)).symm
theorem us_scan (a : GNeg) : ((∀ i, i < 256 → (a.Us i).toNat ≤ 5) ∧ loopO (f15_l1 a) 0 = some (.inl ())) ∨ (¬ (∀ i, i < 256 → (a.Us i).toNat ≤ 5) ∧ loopO (f15_l1 a) 0 = some (.inr 4)) :=
  scan (body := f15_l1 a) (q := fun i => (a.Us i).toNat ≤ 5) (fun i h => by
    unfold f15_l1 f15_l1_j2 f15_l1_j3
    rw [decide_eq_true (p := (i : Int) < 256) (by omega)]
    simp only [cond_true, inR_nat i 256 h, Option.bind_some, f14_eq]
    by_cases hq : (a.Us i).toNat ≤ 5
    · left
      rw [decide_eq_true (by omega), i64w _ (by omega)]
      exact ⟨hq, rfl⟩
    · right
      rw [decide_eq_false (by omega)]
      exact ⟨hq, rfl⟩) rfl
theorem him_scan (a : GNeg) : ((∀ i, i < 256 → (a.Him i).toNat ≤ 5) ∧ loopO (f15_l5 a) 0 = some (.inl ())) ∨ (¬ (∀ i, i < 256 → (a.Him i).toNat ≤ 5) ∧ loopO (f15_l5 a) 0 = some (.inr 4)) :=
  scan (body := f15_l5 a) (q := fun i => (a.Him i).toNat ≤ 5) (fun i h => by
    unfold f15_l5 f15_l5_j6 f15_l5_j7
    rw [decide_eq_true (p := (i : Int) < 256) (by omega)]
    simp only [cond_true, inR_nat i 256 h, Option.bind_some, f14_eq]
    by_cases hq : (a.Him i).toNat ≤ 5
    · left
      rw [decide_eq_true (by omega), i64w _ (by omega)]
      exact ⟨hq, rfl⟩
    · right
      rw [decide_eq_false (by omega)]
      exact ⟨hq, rfl⟩) rfl
theorem f15_eq (a : GNeg) : (okN a ∧ f15 a = some 0) ∨ (¬ okN a ∧ f15 a = some 4) := by
  unfold f15 f15_j0
  rcases us_scan a with ⟨h1, e1⟩ | ⟨h1, e1⟩
  · rw [e1]
    simp only [Option.bind_some, Sum.elim_inl]
    unfold f15_j4
    rcases him_scan a with ⟨h2, e2⟩ | ⟨h2, e2⟩
    · rw [e2]; exact .inl ⟨fun i hi => ⟨h1 i hi, h2 i hi⟩, rfl⟩
    · rw [e2]; exact .inr ⟨fun h => h2 fun i hi => (h i hi).2, rfl⟩
  · rw [e1]; exact .inr ⟨fun h => h1 fun i hi => (h i hi).1, rfl⟩
theorem f19_eq (n : Int) (h : 0 ≤ n ∧ n ≤ 5) : f19 n 0 5 = some true := by
  unfold f19
  rw [decide_eq_true h.1, decide_eq_true h.2]; rfl
theorem f13_eq (a : GNeg) (h : okN a) : f13 a = some 0 := by
  unfold f13
  have := scan (body := f13_l0 a) (q := fun i => True) (fun i hi => by
    left
    refine ⟨trivial, ?_⟩
    have hh := h i hi
    unfold f13_l0 f13_l0_j1 f13_l0_j2
    rw [decide_eq_true (p := (i : Int) < 256) (by omega)]
    simp only [cond_true, inR_nat i 256 hi, Option.bind_some]
    rw [f19_eq _ (by omega)]
    simp only [Option.bind_some, Bool.not_true, cond_false]
    rw [f19_eq _ (by omega), i64w _ (by omega)]; rfl) rfl
  rcases this with ⟨_, e⟩ | ⟨n, _⟩
  · rw [e]; rfl
  · exact absurd (fun _ _ => trivial) n
theorem six (s : Int) (h : 0 ≤ s ∧ s ≤ 5) : s = 0 ∨ s = 1 ∨ s = 2 ∨ s = 3 ∨ s = 4 ∨ s = 5 := by omega
theorem f8_in (s : Int) (b c : Bool) (h : 0 ≤ s ∧ s ≤ 5) : ∃ z, f8 s b c = some z ∧ 0 ≤ z.1 ∧ z.1 ≤ 5 := by
  rcases six s h with rfl | rfl | rfl | rfl | rfl | rfl <;> cases b <;> cases c <;> exact ⟨_, rfl, by decide, by decide⟩
theorem f10_in (s : Int) (b : Bool) (h : 0 ≤ s ∧ s ≤ 5) : ∃ z, f10 s b = some z ∧ 0 ≤ z.1 ∧ z.1 ≤ 5 := by
  rcases six s h with rfl | rfl | rfl | rfl | rfl | rfl <;> cases b <;> exact ⟨_, rfl, by decide, by decide⟩
theorem f18_in (b : Bool) (s c : Int) : ∃ z, f18 b s c = some z := by
  unfold f18 f18_j0 f18_j1
  by_cases h : s = 0
  · rw [decide_eq_true h]; exact ⟨_, rfl⟩
  · rw [decide_eq_false h]; cases b <;> exact ⟨_, rfl⟩
theorem u8_5 (z : Int) (h : 0 ≤ z ∧ z ≤ 5) : (u8 z).toNat ≤ 5 := by have := u8_u8 z; omega
theorem okN_us (a : GNeg) (h : okN a) (m : Nat) (z : Int) (hz : 0 ≤ z ∧ z ≤ 5) : okN ⟨upd a.Us m (u8 z), a.Him, a.UsOk, a.HimOk⟩ := fun i hi => by
  refine ⟨?_, (h i hi).2⟩
  show (upd a.Us m (u8 z) i).toNat ≤ 5
  unfold upd
  split
  · exact u8_5 z hz
  · exact (h i hi).1
theorem okN_him (a : GNeg) (h : okN a) (m : Nat) (z : Int) (hz : 0 ≤ z ∧ z ≤ 5) : okN ⟨a.Us, upd a.Him m (u8 z), a.UsOk, a.HimOk⟩ := fun i hi => by
  refine ⟨(h i hi).1, ?_⟩
  show (upd a.Him m (u8 z) i).toNat ≤ 5
  unfold upd
  split
  · exact u8_5 z hz
  · exact (h i hi).2
theorem rowEq_all {α : Type} [DecidableEq α] (n : Nat) (f g : Nat → α) (h : ∀ i, i < n → f i = g i) : rowEq n f g = true := by
  unfold rowEq
  rw [List.all_eq_true]
  intro i hi
  exact decide_eq_true (h i (List.mem_range.1 hi))
theorem rowEq_same {α : Type} [DecidableEq α] (n : Nat) (f : Nat → α) : rowEq n f f = true := rowEq_all n f f fun _ _ => rfl
theorem rowEq_back {α : Type} [DecidableEq α] (n : Nat) (f : Nat → α) (m : Nat) (x : α) : rowEq n (upd (upd f m x) m (f m)) f = true := rowEq_all n _ _ fun i _ => by
  unfold upd
  by_cases h : i = m
  · rw [if_pos h, h]
  · rw [if_neg h, if_neg h]
theorem rowEq_same2 {α : Type} [DecidableEq α] (n : Nat) (f : Nat → α) (m : Nat) : rowEq n (upd f m (f m)) f = true := rowEq_all n _ _ fun i _ => by
  unfold upd
  by_cases h : i = m
  · rw [if_pos h, h]
  · rw [if_neg h]
/-- A neg that differs in one place at most. -/
def oneOff (a n : GNeg) (m : Nat) : Prop := (∃ x, n = ⟨upd a.Us m x, a.Him, a.UsOk, a.HimOk⟩) ∨ ∃ x, n = ⟨a.Us, upd a.Him m x, a.UsOk, a.HimOk⟩
theorem off_eq {a n : GNeg} {m : Nat} (h : oneOff a n m) : (rowEq 256 (upd n.Us m (a.Us m)) a.Us && (rowEq 256 (upd n.Him m (a.Him m)) a.Him && (rowEq 4 n.UsOk a.UsOk && (rowEq 4 n.HimOk a.HimOk && true)))) = true := by
  rcases h with ⟨x, rfl⟩ | ⟨x, rfl⟩
  · simp only [rowEq_back, rowEq_same, rowEq_same2, Bool.and_self]
  · simp only [rowEq_back, rowEq_same, rowEq_same2, Bool.and_self]
end Go.Proofs.Ytddnpgmmlfbhfaa.Pm
