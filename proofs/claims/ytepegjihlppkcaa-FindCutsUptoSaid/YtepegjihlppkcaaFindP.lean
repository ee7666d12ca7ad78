/- Plain mathematics of patterns: the longest beginning of a pattern that is an end of a text. No program is named here. -/
import Derived.WalkKit
namespace Go.Proofs.Ytepegjihlppkcaa.FindP
abbrev L := List Int

theorem suf_snoc {p t : L} {k : Nat} {c : Int} (hk : k < p.length) : p.take (k + 1) <:+ t ++ [c] ↔ (p.take k <:+ t ∧ p[k]? = some c) := by
  have e : p.take (k + 1) = p.take k ++ [p[k]] := List.take_succ_eq_append_getElem hk
  rw [e]
  constructor
  · rintro ⟨s, hs⟩
    rw [← List.append_assoc] at hs
    obtain ⟨h1, h2⟩ := List.append_inj' hs rfl
    refine ⟨⟨s, h1⟩, ?_⟩
    rw [List.getElem?_eq_getElem hk]; simpa using h2
  · rintro ⟨⟨s, hs⟩, h2⟩
    rw [List.getElem?_eq_getElem hk] at h2
    simp at h2
    exact ⟨s, by rw [← List.append_assoc, hs, h2]⟩
theorem suf_suf {p t : L} {j k : Nat} (hj : j ≤ k) (h1 : p.take j <:+ t) (h2 : p.take k <:+ t) : p.take j <:+ p.take k := by
  refine List.suffix_of_suffix_length_le h1 h2 ?_
  simp; omega
/-- k is the length of the longest proper border of the first i of p. -/
structure Bord (p : L) (i k : Nat) : Prop where
  lt : k < i
  suf : p.take k <:+ p.take i
  max : ∀ j, j < i → p.take j <:+ p.take i → j ≤ k
/-- k is the length of the longest beginning of p that is an end of t. -/
structure Mat (p t : L) (k : Nat) : Prop where
  le : k ≤ p.length
  suf : p.take k <:+ t
  max : ∀ j, j ≤ p.length → p.take j <:+ t → j ≤ k
theorem Mat.nil (p : L) : Mat p [] 0 := ⟨Nat.zero_le _, by simp, fun j hj h => by
  have := h.length_le
  simp at this
  rcases this with h | h
  · omega
  · subst h; simp at hj; omega⟩
theorem Bord.one (p : L) : Bord p 1 0 := ⟨by omega, by simp, fun j hj _ => by omega⟩
/-- On the way to the next one: k is a beginning of p that ends t, and none that ends t and c behind it is longer than k + 1. -/
structure Way (p t : L) (n : Nat) (c : Int) (k : Nat) : Prop where
  le : k ≤ p.length
  suf : p.take k <:+ t
  max : ∀ j, j < n → p.take j <:+ t → p[j]? = some c → j ≤ k
theorem Mat.way {p t : L} {k : Nat} (h : Mat p t k) (c : Int) : Way p t p.length c k := ⟨h.le, h.suf, fun j hj hs _ => h.max j (by omega) hs⟩
/-- A step back. -/
theorem Way.back {p t : L} {n k b : Nat} {c : Int} (h : Way p t n c k) (hb : Bord p k b) (hne : p[k]? ≠ some c) : Way p t n c b := by
  refine ⟨by have := hb.lt; have := h.le; omega, hb.suf.trans h.suf, fun j hj hs hc => ?_⟩
  have h1 := h.max j hj hs hc
  have h2 : j ≠ k := fun e => hne (by rw [← e]; exact hc)
  exact hb.max j (by omega) (suf_suf (by omega) hs h.suf)
theorem Way.mat_yes {p t : L} {k : Nat} {c : Int} (h : Way p t p.length c k) (hc : p[k]? = some c) : Mat p (t ++ [c]) (k + 1) := by
  have hk : k < p.length := (List.getElem?_eq_some_iff.1 hc).1
  refine ⟨by omega, (suf_snoc hk).2 ⟨h.suf, hc⟩, fun j hj hs => ?_⟩
  cases j with
  | zero => omega
  | succ j =>
    obtain ⟨h1, h2⟩ := (suf_snoc (by omega)).1 hs
    have := h.max j (by omega) h1 h2
    omega
theorem Way.mat_no {p t : L} {c : Int} (h : Way p t p.length c 0) (hc : p[0]? ≠ some c) : Mat p (t ++ [c]) 0 := by
  refine ⟨Nat.zero_le _, by simp, fun j hj hs => ?_⟩
  cases j with
  | zero => omega
  | succ j =>
    obtain ⟨h1, h2⟩ := (suf_snoc (by omega)).1 hs
    have h3 := h.max j (by omega) h1 h2
    have : j = 0 := by omega
    subst this
    exact absurd h2 hc
theorem Bord.way {p : L} {i k : Nat} (hi : i < p.length) (h : Bord p i k) : Way p (p.take i) i p[i] k :=
  ⟨by have := h.lt; omega, h.suf, fun j hj hs _ => h.max j hj hs⟩
theorem take_next (p : L) (i : Nat) (hi : i < p.length) : p.take (i + 1) = p.take i ++ [p[i]] := List.take_succ_eq_append_getElem hi
theorem Way.bord_yes {p : L} {i k : Nat} (hi : i < p.length) (h : Way p (p.take i) i p[i] k) (hk : k < i) (hc : p[k]? = some p[i]) : Bord p (i + 1) (k + 1) := by
  refine ⟨by omega, ?_, fun j hj hs => ?_⟩
  · rw [take_next p i hi]; exact (suf_snoc (by omega)).2 ⟨h.suf, hc⟩
  · cases j with
    | zero => omega
    | succ j =>
      rw [take_next p i hi] at hs
      obtain ⟨h1, h2⟩ := (suf_snoc (by omega)).1 hs
      have := h.max j (by omega) h1 h2
      omega
theorem Way.bord_no {p : L} {i : Nat} (hi : i < p.length) (h : Way p (p.take i) i p[i] 0) (hc : p[0]? ≠ some p[i]) : Bord p (i + 1) 0 := by
  refine ⟨by omega, by simp, fun j hj hs => ?_⟩
  cases j with
  | zero => omega
  | succ j =>
    rw [take_next p i hi] at hs
    obtain ⟨h1, h2⟩ := (suf_snoc (by omega)).1 hs
    have h3 := h.max j (by omega) h1 h2
    have : j = 0 := by omega
    subst this
    exact absurd h2 hc
theorem Bord.uniq {p : L} {i k k' : Nat} (h : Bord p i k) (h' : Bord p i k') : k = k' := by
  have := h.max k' h'.lt h'.suf; have := h'.max k h.lt h.suf; omega
/-- At most one more than ahead. -/
theorem Bord.step {p : L} {i k k' : Nat} (hi : i < p.length) (h : Bord p i k) (h' : Bord p (i + 1) k') : k' ≤ k + 1 := by
  cases k' with
  | zero => omega
  | succ j =>
    have hs := h'.suf
    rw [take_next p i hi] at hs
    have hlt := h'.lt
    obtain ⟨h1, _⟩ := (suf_snoc (by omega)).1 hs
    have := h.max j (by omega) h1
    omega
/-- The list of all borders. -/
def Bords (p : L) (bs : List Nat) : Prop := bs.length = p.length ∧ ∀ i k, bs[i]? = some k → Bord p (i + 1) k

/-! ### where a pattern stands -/
def occ (p t : L) : List Nat := (List.range (t.length + 1 - p.length)).filter fun j => decide ((t.drop j).take p.length = p)
theorem mem_occ {p t : L} {j : Nat} : j ∈ occ p t ↔ j + p.length ≤ t.length ∧ (t.drop j).take p.length = p := by
  unfold occ
  simp only [List.mem_filter, List.mem_range, decide_eq_true_eq]
  constructor
  · rintro ⟨h1, h2⟩; exact ⟨by omega, h2⟩
  · rintro ⟨h1, h2⟩; exact ⟨by omega, h2⟩
theorem occ_nil (p : L) (hp : 1 ≤ p.length) : occ p [] = [] := by
  unfold occ
  rw [show ([] : L).length + 1 - p.length = 0 by simp; omega]; rfl
theorem suf_iff {p t : L} (h : p.length ≤ t.length) : p <:+ t ↔ t.drop (t.length - p.length) = p := by
  constructor
  · rintro ⟨s, rfl⟩
    rw [List.length_append, Nat.add_sub_cancel, List.drop_left]
  · intro h; rw [← h]; exact List.drop_suffix _ _
theorem occ_snoc (p t : L) (c : Int) (hp : 1 ≤ p.length) : occ p (t ++ [c]) = occ p t ++ if p <:+ t ++ [c] then [t.length + 1 - p.length] else [] := by
  by_cases hl : p.length ≤ t.length + 1
  · have e : (t ++ [c]).length + 1 - p.length = (t.length + 1 - p.length) + 1 := by simp; omega
    unfold occ
    rw [e, List.range_succ, List.filter_append]
    congr 1
    · refine List.filter_congr fun j hj => ?_
      have hj' : j < t.length + 1 - p.length := by simpa using hj
      have e2 : ((t ++ [c]).drop j).take p.length = (t.drop j).take p.length := by
        rw [List.drop_append_of_le_length (by omega), List.take_append_of_le_length (by simp; omega)]
      rw [e2]
    · have e3 : ((t ++ [c]).drop (t.length + 1 - p.length)).take p.length = (t ++ [c]).drop (t.length + 1 - p.length) := List.take_of_length_le (by simp; omega)
      have e4 := suf_iff (p := p) (t := t ++ [c]) (by simp; omega)
      rw [List.length_append, List.length_singleton] at e4
      simp only [List.filter_cons, List.filter_nil, e3]
      by_cases h : p <:+ t ++ [c]
      · rw [if_pos h, if_pos (by simpa using e4.1 h)]
      · rw [if_neg h, if_neg (by simpa using fun h' => h (e4.2 h'))]
  · have h1 : ¬ p <:+ t ++ [c] := fun h => by have := h.length_le; simp at this; omega
    rw [if_neg h1]
    unfold occ
    rw [show (t ++ [c]).length + 1 - p.length = 0 by simp; omega, show t.length + 1 - p.length = 0 by omega]; rfl
theorem Mat.full {p t : L} {k : Nat} (h : Mat p t k) : k = p.length ↔ p <:+ t := by
  constructor
  · intro e; have := h.suf; rw [e, List.take_length] at this; exact this
  · intro hs
    have := h.max p.length (Nat.le_refl _) (by rw [List.take_length]; exact hs)
    have := h.le; omega
theorem occ_sorted (p t : L) : (occ p t).Pairwise (· < ·) := List.Pairwise.filter _ List.pairwise_lt_range
theorem occ_len (p t : L) : (occ p t).length ≤ t.length + 1 := by
  unfold occ
  have := List.length_filter_le (fun j => decide ((t.drop j).take p.length = p)) (List.range (t.length + 1 - p.length))
  simp at this ⊢; omega

/-! ### the laws -/
theorem filter_sub {f g : Nat → Bool} (h : ∀ x, f x = true → g x = true) : ∀ l : List Nat, (l.filter f).Sublist (l.filter g)
  | [] => by simp
  | x :: l => by
    have ih := filter_sub h l
    by_cases hf : f x = true
    · rw [List.filter_cons_of_pos hf, List.filter_cons_of_pos (h x hf)]; exact ih.cons_cons x
    · rw [List.filter_cons_of_neg hf]
      by_cases hg : g x = true
      · rw [List.filter_cons_of_pos hg]; exact ih.cons x
      · rw [List.filter_cons_of_neg hg]; exact ih
theorem less_sub (p t : L) (n : Nat) (hn : n ≤ p.length) : (occ p t).Sublist (occ (p.take n) t) := by
  have hl : (p.take n).length = n := by simp; omega
  unfold occ
  rw [hl]
  have h1 : (List.range (t.length + 1 - p.length)).Sublist (List.range (t.length + 1 - n)) := List.range_sublist.2 (by omega)
  refine (List.Sublist.filter _ h1).trans ?_
  refine filter_sub (fun j hj => ?_) _
  have : (t.drop j).take p.length = p := by simpa using hj
  have h3 : (t.drop j).take n = p.take n := by
    have h4 := congrArg (List.take n) this
    rw [List.take_take, Nat.min_eq_left hn] at h4
    exact h4
  simpa using h3
theorem two_zero (p : L) (k : Nat) : 0 ∈ occ p (p ++ p.drop k) := by
  rw [mem_occ]
  refine ⟨by simp, ?_⟩
  simp
theorem two_back (p : L) (k : Nat) (hk : Bord p p.length k) : p.length - k ∈ occ p (p ++ p.drop k) := by
  rw [mem_occ]
  have hlt := hk.lt
  refine ⟨by simp; omega, ?_⟩
  have hs := hk.suf
  rw [List.take_length] at hs
  have h1 : p.drop (p.length - k) = p.take k := by
    have := (suf_iff (p := p.take k) (t := p) (by simp; omega)).1 hs
    rw [show (p.take k).length = k by simp; omega] at this
    exact this
  rw [List.drop_append_of_le_length (by omega), h1, List.take_append_drop, List.take_length]
theorem cut_front (p a b : L) : (occ p (a ++ b)).filter (fun i => decide (i + p.length ≤ a.length)) = occ p a := by
  by_cases hp : p.length ≤ a.length
  · unfold occ
    rw [List.filter_filter]
    have e : (a ++ b).length + 1 - p.length = (a.length + 1 - p.length) + b.length := by simp; omega
    rw [e, List.range_add, List.filter_append]
    have e2 : (List.map (fun x => (a.length + 1 - p.length) + x) (List.range b.length)).filter (fun j => decide (j + p.length ≤ a.length) && decide (((a ++ b).drop j).take p.length = p)) = [] := by
      rw [List.filter_eq_nil_iff]
      intro j hj
      simp only [List.mem_map, List.mem_range] at hj
      obtain ⟨i, _, rfl⟩ := hj
      simp; omega
    rw [e2, List.append_nil]
    refine List.filter_congr fun j hj => ?_
    have hj' : j < a.length + 1 - p.length := by simpa using hj
    have e3 : ((a ++ b).drop j).take p.length = (a.drop j).take p.length := by
      rw [List.drop_append_of_le_length (by omega), List.take_append_of_le_length (by simp; omega)]
    rw [e3]
    simp; omega
  · have e1 : occ p a = [] := by unfold occ; rw [show a.length + 1 - p.length = 0 by omega]; rfl
    rw [e1, List.filter_eq_nil_iff]
    intro j _
    simp; omega
theorem cut_behind (p a b : L) : ((occ p (a ++ b)).filter (fun i => decide (a.length ≤ i))).map (fun i => i - a.length) = occ p b := by
  by_cases hp : p.length ≤ b.length
  · unfold occ
    rw [List.filter_filter]
    have e : (a ++ b).length + 1 - p.length = a.length + (b.length + 1 - p.length) := by simp; omega
    rw [e, List.range_add, List.filter_append]
    have e2 : (List.range a.length).filter (fun j => decide (a.length ≤ j) && decide (((a ++ b).drop j).take p.length = p)) = [] := by
      rw [List.filter_eq_nil_iff]
      intro j hj
      have : j < a.length := by simpa using hj
      simp; omega
    rw [e2, List.nil_append, List.filter_map, List.map_map]
    have e3 : ((fun j => decide (a.length ≤ j) && decide (((a ++ b).drop j).take p.length = p)) ∘ fun x => a.length + x) = fun j => decide ((b.drop j).take p.length = p) := by
      funext j
      simp
    rw [e3]
    have e4 : ((fun i => i - a.length) ∘ fun x => a.length + x) = id := by funext j; simp
    rw [e4, List.map_id]
  · have e1 : occ p b = [] := by unfold occ; rw [show b.length + 1 - p.length = 0 by omega]; rfl
    rw [e1, List.map_eq_nil_iff, List.filter_eq_nil_iff]
    intro j hj
    have := (mem_occ.1 hj).1
    simp at this ⊢; omega
end Go.Proofs.Ytepegjihlppkcaa.FindP
