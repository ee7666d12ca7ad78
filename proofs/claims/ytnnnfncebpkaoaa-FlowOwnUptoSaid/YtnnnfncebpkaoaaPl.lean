/- The small machine: how its steps are read where numbers are known by what lies ahead. No program is named here. -/
import Derived.Test.YtnnnfncebpkaoaaPk
namespace Go.Proofs.Ytnnnfncebpkaoaa.Pm
/-- The condition is read first, and the way that is not gone is not looked at. -/
@[congr] theorem guardS_congr {b b' : Option Bool} (w : Bool) (x y : Prop) (h : b = b') : guardS b w x y = guardS b' w x y := by rw [h]
@[congr] theorem condB_congr {b b' : Option Bool} (x y : Prop) (h : b = b') : condB b x y = condB b' x y := by rw [h]
@[congr] theorem optS_congr {o o' : Option St} (K : St → Prop) (h : o = o') : optS o K = optS o' K := by rw [h]
@[congr] theorem optT_congr {o o' : Option (St × List (Nat × Bool))} (K : List (Nat × Bool) → St → Prop) (h : o = o') : optT o K = optT o' K := by rw [h]
section
variable {p : Prop} [Decidable p] {x y : Prop}
theorem condB_dt (h : p) : condB (some (decide p)) x y = x := by simp [h, condB]
theorem condB_df (h : ¬p) : condB (some (decide p)) x y = y := by simp [h, condB]
theorem condB_nt (h : ¬p) : condB (some (!decide p)) x y = x := by simp [h, condB]
theorem condB_nf (h : p) : condB (some (!decide p)) x y = y := by simp [h, condB]
theorem guardS_tt (h : p) : guardS (some (decide p)) true x y = x := by simp [h, guardS]
theorem guardS_tf (h : ¬p) : guardS (some (decide p)) true x y = y := by simp [h, guardS]
theorem guardS_ft (h : ¬p) : guardS (some (decide p)) false x y = x := by simp [h, guardS]
theorem guardS_ff (h : p) : guardS (some (decide p)) false x y = y := by simp [h, guardS]
theorem guardS_ntt (h : ¬p) : guardS (some (!decide p)) true x y = x := by simp [h, guardS]
theorem guardS_ntf (h : p) : guardS (some (!decide p)) true x y = y := by simp [h, guardS]
theorem guardS_nft (h : p) : guardS (some (!decide p)) false x y = x := by simp [h, guardS]
theorem guardS_nff (h : ¬p) : guardS (some (!decide p)) false x y = y := by simp [h, guardS]
theorem guardS_ttf : guardS (some true) false x y = y := by simp [guardS]
theorem guardS_fft : guardS (some false) true x y = y := by simp [guardS]
end
theorem wrap_i64 (n : Int) (h : -9223372036854775808 ≤ n ∧ n ≤ 9223372036854775807) : IntKind.i64.wrap n = n := IntWalk.i64_in n h
theorem wrap_u8 (n : Int) (h : 0 ≤ n ∧ n ≤ 255) : IntKind.u8.wrap n = n := IntWalk.u8_in n h
theorem part_one (cs : List PV) (o n : Nat) : part false cs o n = cs[o]? := rfl
theorem R_regDc {γ : Orc} {Q : PX → St → Prop} (pos : List PO) (x : Nat × Nat) (prs : List (Nat × Nat)) (k : List It) (st : St) : R γ Q (.regD pos (x :: prs)) k st = RD γ Q (x :: prs) k [] pos st := R_regD pos _ k st
/-- The slots that are still read, and no others, are carried on. -/
theorem R_cut {γ : Orc} {Q : PX → St → Prop} {c : PCode} {k : List It} {s0 : Nat → PV} {h : Nat → Cel} (L : List (Nat × PV)) (hs : ∀ x ∈ L, s0 x.1 = x.2) (H : ∀ s : Nat → PV, (∀ x ∈ L, s x.1 = x.2) → R γ Q c k ⟨s, h⟩) : R γ Q c k ⟨s0, h⟩ := H s0 hs
theorem range1 : List.range 1 = [0] := rfl
theorem range2 : List.range 2 = [0, 1] := rfl
theorem range3 : List.range 3 = [0, 1, 2] := rfl
theorem splice_cons {α : Type} (a : α) (cs new : List α) (n : Nat) : splice (a :: cs) (n + 1) new = a :: splice cs n new := by simp [splice, Nat.add_right_comm]
theorem splice_zero {α : Type} (cs new : List α) : splice cs 0 new = new ++ cs.drop new.length := by simp [splice]
theorem splice_length {α : Type} (cs new : List α) (o : Nat) (h : o + new.length ≤ cs.length) : (splice cs o new).length = cs.length := by simp [splice]; omega
theorem outL_d {H : Nat → Cel} {m : Nat} : ∀ (l : List PV) (ids : List Nat), (∀ p ∈ l, ∃ x, p = .d x) → outL H m l ids = some (l, ids)
  | [], ids, _ => rfl
  | p :: l, ids, h => by
    obtain ⟨x, rfl⟩ := h p (by simp)
    simp only [outL, outV, outL_d l ids (fun q hq => h q (by simp [hq]))]
theorem splice_get {α : Type} (cs : List α) (o : Nat) (x : α) (h : o < cs.length) (j : Nat) : (splice cs o [x])[j]? = if j = o then some x else cs[j]? := by
  unfold splice
  by_cases h1 : j < o
  · rw [if_neg (by omega), List.append_assoc, List.getElem?_append_left (by simp; omega)]; simp [h1]
  · by_cases h2 : j = o
    · subst h2; simp [show min j cs.length = j by omega]
    · rw [if_neg h2, List.getElem?_append_right (by simp; omega)]; simp [show min o cs.length = o by omega]; congr 1; omega
end Go.Proofs.Ytnnnfncebpkaoaa.Pm
