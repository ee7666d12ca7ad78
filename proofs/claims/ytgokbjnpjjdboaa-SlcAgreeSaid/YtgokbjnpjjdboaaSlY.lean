/- SlcAgree: Check, Take and all, whatever they are given. -/
import Derived.Test.YtgokbjnpjjdboaaSlZ
namespace Go.Proofs.Ytgokbjnpjjdboaa.Pm
open Go.Proofs.Ytgokbjnpjjdboaa.Args
open Go.Proofs.Ytgokbjnpjjdboaa.Sl (Ky tripleS takeL setK)
set_option linter.unusedVariables false
set_option linter.unusedSimpArgs false
set_option maxRecDepth 100000
def fine (k : Ky) : Prop := (∀ i, i < 19 → k.lv i ≤ 2) ∧ k.lv 0 = 0 ∧ k.ch 0 = 0
theorem inR_nat (i n : Nat) (h : i < n) : inR (i : Int) n = some i := by unfold inR; rw [if_pos (by omega)]; simp
theorem scan {body : Int → Option (Int ⊕ (Unit ⊕ Int))} {q : Nat → Prop} (m : Nat) (hb : ∀ i : Nat, i < m → (q i ∧ body i = some (.inl ((i + 1 : Nat) : Int))) ∨ (¬ q i ∧ body i = some (.inr (.inr 4)))) (he : body (m : Int) = some (.inr (.inl ()))) :
    ((∀ i, i < m → q i) ∧ loopO body 0 = some (.inl ())) ∨ (¬ (∀ i, i < m → q i) ∧ loopO body 0 = some (.inr 4)) := by
  obtain ⟨r, h1, h2⟩ := loopO_ind (body := body) (fun n x => ∃ i : Nat, x = (i : Int) ∧ i ≤ m ∧ n = m - i ∧ ∀ j, j < i → q j) (fun r => ((∀ i, i < m → q i) ∧ r = .inl ()) ∨ (¬ (∀ i, i < m → q i) ∧ r = .inr 4)) (by
    rintro n x ⟨i, rfl, hi, rfl, ha⟩
    by_cases h : i < m
    · rcases hb i h with ⟨hq, e⟩ | ⟨hq, e⟩
      · exact .inl ⟨_, m - (i + 1), e, by omega, i + 1, rfl, by omega, rfl, fun j hj => by
          by_cases hji : j = i
          · subst hji; exact hq
          · exact ha j (by omega)⟩
      · exact .inr ⟨_, e, .inr ⟨fun hh => hq (hh i h), rfl⟩⟩
    · have : i = m := by omega
      subst this
      exact .inr ⟨_, he, .inl ⟨ha, rfl⟩⟩) (n := m) (x := 0) ⟨0, rfl, by omega, rfl, fun j hj => by omega⟩
  rw [h1]
  rcases h2 with ⟨a, rfl⟩ | ⟨a, rfl⟩
  · exact .inl ⟨a, rfl⟩
  · exact .inr ⟨a, rfl⟩
theorem lv_scan (a : GKeys) : ((∀ i, i < 19 → (ky a).lv i ≤ 2) ∧ loopO (f36_l1 a) 0 = some (.inl ())) ∨ (¬ (∀ i, i < 19 → (ky a).lv i ≤ 2) ∧ loopO (f36_l1 a) 0 = some (.inr 4)) :=
  scan (body := f36_l1 a) (q := fun i => (ky a).lv i ≤ 2) 19 (fun i h => by
    have e : (ky a).lv i = ((a.Levels i).toNat : Int) := rfl
    unfold f36_l1 f36_l1_j2 f36_l1_j3
    rw [decide_eq_true (p := (i : Int) < 19) (by omega)]
    simp only [cond_true, inR_nat i 19 h, Option.bind_some]
    by_cases hq : (ky a).lv i ≤ 2
    · left
      rw [decide_eq_false (by omega), i64w _ (by omega)]
      exact ⟨hq, rfl⟩
    · right
      rw [decide_eq_true (by omega)]
      exact ⟨hq, rfl⟩) rfl
theorem f36_eq (a : GKeys) : (fine (ky a) ∧ f36 a = some 0) ∨ (¬ fine (ky a) ∧ f36 a = some 4) := by
  unfold f36
  have e1 : (ky a).lv 0 = ((a.Levels 0).toNat : Int) := rfl
  have e2 : (ky a).ch 0 = ((a.Chars 0).toNat : Int) := rfl
  rcases lv_scan a with ⟨h1, e⟩ | ⟨h1, e⟩
  · rw [e]
    simp only [Option.bind_some, Sum.elim_inl]
    unfold f36_j0
    rw [← e1, ← e2]
    by_cases h2 : (ky a).lv 0 = 0
    · by_cases h3 : (ky a).ch 0 = 0
      · left; rw [decide_eq_true h2, decide_eq_true h3]; exact ⟨⟨h1, h2, h3⟩, rfl⟩
      · right; rw [decide_eq_true h2, decide_eq_false h3]; exact ⟨fun h => h3 h.2.2, rfl⟩
    · right; rw [decide_eq_false h2]; exact ⟨fun h => h2 h.2.1, rfl⟩
  · rw [e]; exact .inr ⟨fun h => h1 h.1, rfl⟩
theorem f28_eq (a : GKeys) (h : fine (ky a)) : f28 a = some 0 := by
  have e1 : (ky a).lv 0 = ((a.Levels 0).toNat : Int) := rfl
  have e2 : (ky a).ch 0 = ((a.Chars 0).toNat : Int) := rfl
  have z1 : a.Levels 0 = 0 := UInt8.toNat_inj.1 (by have := h.2.1; rw [e1] at this; exact Int.ofNat.inj this)
  have z2 : a.Chars 0 = 0 := UInt8.toNat_inj.1 (by have := h.2.2; rw [e2] at this; exact Int.ofNat.inj this)
  unfold f28
  have := scan (body := f28_l1 a) (q := fun i => True) 19 (fun i hi => by
    left
    refine ⟨trivial, ?_⟩
    have e : (ky a).lv i = ((a.Levels i).toNat : Int) := rfl
    have hh := h.1 i hi
    unfold f28_l1 f28_l1_j2 f28_l1_j3
    rw [decide_eq_true (p := (i : Int) < 19) (by omega)]
    simp only [cond_true, inR_nat i 19 hi, Option.bind_some]
    rw [decide_eq_false (by omega)]
    by_cases h0 : i = 0
    · subst h0
      rw [z1, z2]; rfl
    · rw [decide_eq_false (p := (i : Int) = 0) (by omega), i64w _ (by omega)]; rfl) rfl
  rcases this with ⟨_, e⟩ | ⟨n, _⟩
  · rw [e]
    simp only [Option.bind_some, Sum.elim_inl]
    unfold f28_j0
    rw [z2]; rfl
  · exact absurd (fun _ _ => trivial) n
theorem takeL_cons (k : Ky) (f g c : Int) (r : List Int) : takeL k (f :: g :: c :: r) = ((takeL (tripleS k f g c).1 r).1, (tripleS k f g c).2 ++ (takeL (tripleS k f g c).1 r).2) := by rw [takeL]
theorem tripleS_len (k : Ky) (f g c : Int) : (tripleS k f g c).2.length ≤ 3 := by
  unfold tripleS
  repeat' split
  all_goals simp
/-- Threes, one behind the other. -/
theorem take_loop (a1 : GKeys) (p : GKeys) (L : List UInt8) (hL : L.length ≤ 300) (h3 : L.length % 3 = 0) : ∀ (n i : Nat) (k : GKeys) (o : List UInt8), 3 * i ≤ L.length → L.length / 3 - i = n → o.length ≤ 3 * i →
    ∃ k' o', loopO (f26_l3 a1 L) (k, p, o, ((3 * i : Nat) : Int)) = some (k', p, o') ∧ ky k' = (takeL (ky k) (nums (L.drop (3 * i)))).1 ∧ nums o' = nums o ++ (takeL (ky k) (nums (L.drop (3 * i)))).2 := by
  intro n
  induction n with
  | zero =>
    intro i k o hi hn ho
    have : 3 * i = L.length := by omega
    refine ⟨k, o, loopO_done ?_, ?_, ?_⟩
    · unfold f26_l3
      rw [decide_eq_false (by show ¬ ((3 * i : Nat) : Int) < (L.length : Int); omega)]; rfl
    · rw [this, List.drop_length]; simp [nums, takeL]
    · rw [this, List.drop_length]; simp [nums, takeL]
  | succ n ih =>
    intro i k o hi hn ho
    have h0 : 3 * i < L.length := by omega
    have h1 : 3 * i + 1 < L.length := by omega
    have h2 : 3 * i + 2 < L.length := by omega
    have hd : L.drop (3 * i) = L[3 * i] :: L[3 * i + 1] :: L[3 * i + 2] :: L.drop (3 * (i + 1)) := by
      rw [List.drop_eq_getElem_cons h0, List.drop_eq_getElem_cons h1, List.drop_eq_getElem_cons h2]; rfl
    obtain ⟨k1, o1, e1, e2, e3⟩ := f37_eq L[3 * i] L[3 * i + 1] L[3 * i + 2] k
    have hl1 : o1.length ≤ 3 := by
      have := congrArg List.length e3
      have h := tripleS_len (ky k) (L[3 * i].toNat : Int) (L[3 * i + 1].toNat : Int) (L[3 * i + 2].toNat : Int)
      rw [← e3] at h
      simpa [nums] using h
    obtain ⟨k', o', g1, g2, g3⟩ := ih (i + 1) k1 (o ++ o1) (by omega) (by omega) (by rw [List.length_append]; omega)
    have get : ∀ (j : Nat) (z : Int) (hj : j < L.length), z = (j : Int) → idx L z = some L[j] := fun j z hj e => by
      subst e; unfold idx; rw [if_pos (by omega)]; simp [hj]
    refine ⟨k', o', loopO_next (y := (k1, p, o ++ o1, ((3 * (i + 1) : Nat) : Int))) ?_ g1, ?_, ?_⟩
    · unfold f26_l3 f26_l3_j4
      rw [decide_eq_true (by show ((3 * i : Nat) : Int) < (L.length : Int); omega)]
      simp only [cond_true]
      rw [i64w _ (by omega), i64w _ (by omega), i64w _ (by omega), get (3 * i) _ h0 rfl, get (3 * i + 1) _ h1 (by omega), get (3 * i + 2) _ h2 (by omega)]
      simp only [Option.bind_some, e1]
      have ha : app? 1 o o1 = some (o ++ o1) := by unfold app?; rw [if_pos (by omega)]
      rw [ha]
      simp only [Option.bind_some]
      rw [show ((3 * i : Nat) : Int) + 3 = ((3 * (i + 1) : Nat) : Int) by omega]
    · rw [g2, e2, hd]; simp only [nums, List.map_cons, takeL_cons]
    · rw [g3, e2, hd]; simp only [nums, List.map_cons, List.map_append, takeL_cons, List.append_assoc] at *
      rw [e3]
/-- Take, of right keys and whole threes. -/
theorem f26_eq (a : GKeys) (L : List UInt8) (ha : fine (ky a)) (hL : L.length ≤ 300) (h3 : L.length % 3 = 0) : ∃ k o, f26 a L = some (k, o, 0) ∧ ky k = (takeL (ky a) (nums L)).1 ∧ nums o = (takeL (ky a) (nums L)).2 := by
  unfold f26
  rcases f36_eq a with ⟨_, e⟩ | ⟨h, _⟩
  rotate_left
  · exact absurd ha h
  rw [e]
  simp only [Option.bind_some, decide_true, Bool.not_true, cond_false]
  unfold f26_j0 f26_j1 f26_j2
  have tm : Int.tmod (L.length : Int) 3 = 0 := by rw [Int.tmod_eq_emod_of_nonneg (by omega)]; omega
  rw [tm, decide_eq_false (p := (300 : Int) < (L.length : Int)) (by omega)]
  simp only [decide_true, Bool.not_true, cond_false]
  obtain ⟨k, o, g1, g2, g3⟩ := take_loop a ⟨fun _ => 0, fun _ => 0⟩ L hL h3 _ 0 a [] (by omega) rfl (by simp)
  rw [show ((3 * 0 : Nat) : Int) = 0 from rfl] at g1
  rw [g1]
  exact ⟨k, o, rfl, g2, g3⟩
end Go.Proofs.Ytgokbjnpjjdboaa.Pm
