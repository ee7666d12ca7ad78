/- flow: spoil, walked by hand. (r29) -/
import Derived.Test.YtnnnfncebpkaoaaFoA
namespace Go.Proofs.Ytnnnfncebpkaoaa.Fo
open Go Go.Proofs Go.RowKit Go.Proofs.Ytnnnfncebpkaoaa.Com Go.Proofs.Ytnnnfncebpkaoaa.Pm
set_option linter.unusedVariables false
theorem FrI.set {W : World} {B : Nat} {s : Value} (h : FrI W B s) (g i : Nat) (v : Value) : FrI (W.setCell ⟨g, i, none⟩ v) B s := by
  rcases h with h | ⟨b, n, c, cur, h1, h2, ⟨f, h3, h4⟩, h5, h6⟩
  · exact .inl h
  · by_cases e : b = g
    · subst e
      exact .inr ⟨b, n, c, _, h1, h2, ⟨f, Go.Lib.heap_setCell_same h3 v, by rw [Array.size_setIfInBounds]; exact h4⟩, by rw [Array.size_setIfInBounds]; exact h5, h6⟩
    · exact .inr ⟨b, n, c, cur, h1, h2, ⟨f, (Below.heap_setCell _ _ _ _ e).trans h3, h4⟩, h5, h6⟩
/-- What spoiling keeps: all below B, all blocks of another kind, all that is new stays a slice of its own. -/
def Sp (B : Nat) (W W' : World) : Prop := Below B W W' ∧ (∀ (b T : Nat) cur f, T ≠ 3 → W.heap[b]? = some (.cells cur T f) → W'.heap[b]? = some (.cells cur T f)) ∧ ∀ s, FrI W B s → FrI W' B s
theorem Sp.refl (B : Nat) (W : World) : Sp B W W := ⟨Below.refl _ _, fun _ _ _ _ _ h => h, fun _ h => h⟩
theorem Sp.trans {B : Nat} {X Y Z : World} (h : Sp B X Y) (k : Sp B Y Z) : Sp B X Z := ⟨h.1.trans k.1, fun b T cur f hT q => k.2.1 b T cur f hT (h.2.1 b T cur f hT q), fun s q => k.2.2 s (h.2.2 s q)⟩
theorem Sp.set {B : Nat} {X Y : World} (h : Sp B X Y) {b : Nat} {cur : Array Value} (hb : B ≤ b) (hr : RowAt Y b cur 3) (i : Nat) (u : Value) : Sp B X (Y.setCell ⟨b, i, none⟩ u) := by
  refine ⟨h.1.setCell hb _, fun b' T cur' f hT q => ?_, fun s q => (h.2.2 s q).set _ _ _⟩
  have q := h.2.1 b' T cur' f hT q
  have hne : b' ≠ b := fun e => by
    obtain ⟨f', h1, _⟩ := hr
    subst e; rw [h1] at q; cases q; exact hT rfl
  exact (Below.heap_setCell _ _ _ _ hne).trans q
theorem wr_one (j c : Nat) (h : j < c) (hc : c ≤ maxLen) : j + 1 ≤ 9223372036854775807 := by
  unfold maxLen at hc
  omega
set_option maxRecDepth 100000 in
set_option maxHeartbeats 4000000 in
theorem spoil_walk (w : World) (B : Nat) (s : Value) (h : FrI w B s) :
    Calls Go.Proofs.Try.prog 13 #[s] w fun e W => (∃ v, e = .returned v) ∧ Sp B w W := by
  go_enter Go.Proofs.Try.func13, Go.Proofs.Try.ntmps13
  rcases h with ⟨a, rfl⟩ | ⟨b, n, c, cur, rfl, hb, hrow, hsz, hnc, hcm⟩
  · go_wp2_with fail
    go_loopw [9] (fun i wr => i = .int .i64 0 ∧ Sp B w wr) (fun _ _ => 0)
    case atStart => exact ⟨rfl, Sp.refl _ _⟩
    case round =>
      obtain ⟨rfl, hS⟩ := hrel
      go_wp2_with fail
      go_end0
      exact ⟨⟨_, rfl⟩, hS⟩
  · have h0 : FrI w B (.slice (some ⟨b, 0, none⟩) n c) := .inr ⟨b, n, c, cur, rfl, hb, hrow, hsz, hnc, hcm⟩
    go_wp2_with fail
    go_loopw [9] (fun i wr => ∃ j : Nat, j ≤ c ∧ i = .int .i64 j ∧ Sp B w wr) (fun i _ => c - (intOf i).toNat)
    case atStart => exact ⟨0, Nat.zero_le _, rfl, Sp.refl _ _⟩
    case round =>
      obtain ⟨j, hj, rfl, hS⟩ := hrel
      by_cases hlj : j < c
      · rcases hS.2.2 _ h0 with ⟨a', e'⟩ | ⟨b', n', c', cur2, e', hb2, hrow2, hsz2, hnc2, hcm2⟩
        · cases e'; omega
        · cases e'
          have hjs : j < cur2.size := by omega
          have l0 := (hrow2.cell j).trans (Array.getElem?_eq_getElem hjs)
          have f0 := hrow2.free _ hjs
          have hjb := wr_one j c hlj hcm2
          go_wp2_with fail
          go_roundw
          case rel => exact ⟨j + 1, hlj, rfl, hS.set hb2 hrow2 _ _⟩
          case measure => simp [intOf]; omega
      · obtain rfl : j = c := by omega
        go_wp2_with fail
        go_end0
        exact ⟨⟨_, rfl⟩, hS⟩
end Go.Proofs.Ytnnnfncebpkaoaa.Fo
