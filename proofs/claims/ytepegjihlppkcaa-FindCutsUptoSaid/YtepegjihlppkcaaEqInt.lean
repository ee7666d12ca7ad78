/- The contract of slices.Equal at []int: whether the elements are the same. -/
import Derived.Test.YtepegjihlppkcaaCom
import Derived.BigQuiet
namespace Go.Proofs.Ytepegjihlppkcaa.EqInt
open Go.ChangeShapes Go.WideShapes Go.ChangeAt Go.RowKit
open Go.Proofs.Ytepegjihlppkcaa.Com
set_option maxRecDepth 100000

def ints (xs : List Int) : List Value := xs.map (Value.int .i64)
theorem ints_len (xs : List Int) : (ints xs).length = xs.length := by simp [ints]
theorem ints_get (xs : List Int) (i : Nat) (h : i < xs.length) : (ints xs)[i]? = some (.int .i64 xs[i]) := by simp [ints, h]

/-- The lengths differ. -/
theorem eq_len (a1 a2 : Option Addr) (l1 l2 c1 c2 : Nat) (w : World) (h : l1 ≠ l2) :
    Calls Try.prog 15 #[.slice a1 l1 c1, .slice a2 l2 c2] w fun e w' => e = .returned (.bool false) ∧ w = w' := by
  have h' : ((l1 : Int) != l2) = true := by simp; omega
  have h'' : ((l1 : Int) == l2) = false := by simp; omega
  clear h
  go_enter Try.func15, Try.ntmps15
  go_wp2
  go_ret
  exact ⟨rfl, rfl⟩
theorem eq_none (a1 a2 : Option Addr) (c1 c2 : Nat) (w : World) :
    Calls Try.prog 15 #[.slice a1 0 c1, .slice a2 0 c2] w fun e w' => e = .returned (.bool true) ∧ w = w' := by
  go_enter Try.func15, Try.ntmps15
  go_wp2
  go_loopw [13] (fun i wr => i = .int .i64 0 ∧ wr = w) (fun _ _ => 0)
  case atStart => exact ⟨rfl, rfl⟩
  case round =>
    obtain ⟨rfl, rfl⟩ := hrel
    go_wp2
    go_ret
    exact ⟨rfl, rfl⟩
theorem eq_loop (xs ys : List Int) (b1 o1 c1 b2 o2 c2 : Nat) (w : World) (hl : ys.length = xs.length) (hm : xs.length ≤ maxLen)
    (h1 : ∀ i x, (ints xs)[i]? = some x → w.cell? ⟨b1, o1 + i, none⟩ = some x) (h2 : ∀ i x, (ints ys)[i]? = some x → w.cell? ⟨b2, o2 + i, none⟩ = some x) :
    Calls Try.prog 15 #[.slice (some ⟨b1, o1, none⟩) xs.length c1, .slice (some ⟨b2, o2, none⟩) xs.length c2] w fun e w' => e = .returned (.bool (decide (xs = ys))) ∧ Below w.heap.size w w' := by
  unfold maxLen at hm
  have H1 := Lib.hid h1; have H2 := Lib.hid h2; have HL := Lib.hid hl; clear h1 h2 hl
  go_enter Try.func15, Try.ntmps15
  go_wp2
  go_loopw [13] (fun i wr => ∃ k : Nat, k ≤ xs.length ∧ i = .int .i64 k ∧ Hid (xs.take k = ys.take k) ∧ Below w.heap.size w wr) (fun i _ => xs.length - (intOf i).toNat)
  case atStart => exact ⟨0, Nat.zero_le _, rfl, rfl, Below.refl _ _⟩
  case round =>
    obtain ⟨k, hk, rfl, ht, hb⟩ := hrel
    by_cases hlt : k < xs.length
    · have g1 := cell_keep (H1.out k _ (ints_get xs k hlt)) hb
      have hlt2 : k < ys.length := by rw [HL.out]; exact hlt
      have g2 := cell_keep (H2.out k _ (ints_get ys k hlt2)) hb
      have e1 : Hid (xs.take (k+1) = xs.take k ++ [xs[k]]) := List.take_succ_eq_append_getElem hlt
      have e2 : Hid (ys.take (k+1) = ys.take k ++ [ys[k]]) := List.take_succ_eq_append_getElem hlt2
      generalize xs[k] = x at *
      generalize ys[k] = y at *
      clear hlt2
      have i1 : (0 : Int) ≤ k := by omega
      have i2 : (k : Int) < xs.length := by omega
      by_cases hxy : x = y
      · have HT : Hid (xs.take (k+1) = ys.take (k+1)) := by show _ = _; rw [e1.out, e2.out, ht.out, hxy]
        have q1 : (x != y) = false := by simp [hxy]
        have q2 : (x == y) = true := by simp [hxy]
        clear hxy
        go_wp2
        go_quiet (fail)
        go_wp2
        go_roundw
        case rel => exact ⟨k + 1, by omega, by go_num, HT, Joins.below_draws _ _ _ |> hb.trans⟩
        case measure => simp [intOf]; omega
      · have HF : Hid (decide (xs = ys) = false) := by
          show _ = _
          refine decide_eq_false fun h => hxy ?_
          have : xs.take (k+1) = ys.take (k+1) := by rw [h]
          rw [e1.out, e2.out, ht.out] at this
          simpa using this
        have q1 : (x != y) = true := by simp [hxy]
        have q2 : (x == y) = false := by simp [hxy]
        clear hxy
        go_wp2
        go_quiet (fail)
        go_wp2
        go_ret
        exact ⟨by rw [HF.out]; rfl, hb.trans (Joins.below_draws _ _ _)⟩
    · have HF : Hid (decide (xs = ys) = true) := by
        show _ = _
        refine decide_eq_true ?_
        have := ht.out
        rwa [List.take_of_length_le (by omega), List.take_of_length_le (by have := HL.out; omega)] at this
      go_wp2
      go_ret
      exact ⟨by rw [HF.out]; rfl, hb⟩
theorem eq_ints (v1 v2 : Value) (xs ys : List Int) (w : World) (h1 : Rs w v1 (ints xs)) (h2 : Rs w v2 (ints ys)) :
    Calls Try.prog 15 #[v1, v2] w fun e w' => e = .returned (.bool (decide (xs = ys))) ∧ Below w.heap.size w w' := by
  have hm1 := h1.len
  rw [ints_len] at hm1
  have sh : ∀ {v : Value} {zs : List Int}, Rs w v (ints zs) → ∃ a c, v = .slice a zs.length c := by
    intro v zs h
    rcases h with ⟨h0, a, c, rfl⟩ | ⟨b, o, c, rfl, _⟩
    · have : zs = [] := by simpa [ints] using h0
      subst this; exact ⟨a, c, rfl⟩
    · exact ⟨_, c, by rw [ints_len]⟩
  by_cases hl : xs.length = ys.length
  · by_cases h0 : xs.length = 0
    · have e1 : xs = [] := List.eq_nil_of_length_eq_zero h0
      have e2 : ys = [] := List.eq_nil_of_length_eq_zero (by omega)
      subst e1 e2
      obtain ⟨a1, c1, rfl⟩ := sh h1
      obtain ⟨a2, c2, rfl⟩ := sh h2
      exact (eq_none a1 a2 c1 c2 w).mono fun _ _ ⟨h, h'⟩ => ⟨by simpa using h, h' ▸ Below.refl _ _⟩
    · rcases h1 with ⟨h1, _⟩ | ⟨b1, o1, c1, rfl, _, _, g1⟩
      · exact absurd (by simpa [ints] using h1) (fun e : xs = [] => h0 (by rw [e]; rfl))
      · rcases h2 with ⟨h2, _⟩ | ⟨b2, o2, c2, rfl, _, _, g2⟩
        · exact absurd (by simpa [ints] using h2) (fun e : ys = [] => h0 (by rw [hl, e]; rfl))
        · rw [ints_len, ints_len, ← hl]
          exact eq_loop xs ys b1 o1 c1 b2 o2 c2 w hl.symm hm1 g1 g2
  · obtain ⟨a1, c1, rfl⟩ := sh h1
    obtain ⟨a2, c2, rfl⟩ := sh h2
    refine (eq_len a1 a2 _ _ c1 c2 w hl).mono fun _ _ ⟨h, h'⟩ => ?_
    rw [decide_eq_false (fun e => hl (by rw [e]))]
    exact ⟨h, h' ▸ Below.refl _ _⟩
end Go.Proofs.Ytepegjihlppkcaa.EqInt
