/- Environ: EnvironOwn, walked by hand over what the small machine tells. -/
import Derived.Test.YtdphimcpcclifaaCom
import Derived.Test.YtdphimcpcclifaaEnC
import Derived.Lib.BufferMore
import Derived.StillTactics
import Derived.Deep.DeepCutAuto
namespace Go.Proofs.Ytdphimcpcclifaa.Pm
open Go.RowKit Go.Proofs.Ytdphimcpcclifaa.Com
set_option linter.unusedVariables false
/-- A slice of variables that lies in a block from B on, all its room there, none of it frozen. -/
def Fr (W : World) (B : Nat) (s : Value) : Prop :=
  (∃ a, s = .slice a 0 0) ∨ ∃ b n c cur, s = .slice (some ⟨b, 0, none⟩) n c ∧ B ≤ b ∧ RowAt W b cur 25 ∧ cur.size = c * 4 ∧ n ≤ c ∧ c ≤ maxLen
theorem RowAt.lt {w : World} {b : Nat} {cur : Array Value} {e : TypeId} (h : RowAt w b cur e) : b < w.heap.size := by
  obtain ⟨f, h1, _⟩ := h
  exact (Array.getElem?_eq_some_iff.1 h1).1
theorem RowAt.setc {w : World} {b i : Nat} {cur : Array Value} {e : TypeId} (h : RowAt w b cur e) (v : Value) : RowAt (w.setCell ⟨b, i, none⟩ v) b (cur.setIfInBounds i v) e := by
  obtain ⟨f, h1, h2⟩ := h
  exact ⟨f, Go.Lib.heap_setCell_same h1 v, by rw [Array.size_setIfInBounds]; exact h2⟩
/-- A slice value that holds a row of variables, in a block from B on. -/
def Cont (W : World) (B : Nat) (row : List Value) (v : Value) : Prop :=
  (row = [] ∧ ∃ a, v = .slice a 0 0) ∨ ∃ b n c cur, v = .slice (some ⟨b, 0, none⟩) n c ∧ row.length = n * 4 ∧ n ≤ c ∧ c ≤ maxLen ∧ B ≤ b ∧ RowAt W b cur 25 ∧ cur.size = c * 4 ∧ cur.toList.take row.length = row
theorem Cont.keepB {W W' : World} {B : Nat} {row : List Value} {v : Value} (h : Cont W B row v) (hb : ∀ k, B ≤ k → k < W.heap.size → W'.heap[k]? = W.heap[k]?) : Cont W' B row v := by
  rcases h with h | ⟨b, n, c, cur, h1, h2, h3, h4, h5, h6, h7⟩
  · exact .inl h
  · exact .inr ⟨b, n, c, cur, h1, h2, h3, h4, h5, h6.keep (hb b h5 h6.lt), h7⟩
theorem Cont.keep {W W' : World} {B : Nat} {row : List Value} {v : Value} (h : Cont W B row v) (hb : Below W.heap.size W W') : Cont W' B row v := h.keepB fun k _ hk => hb.block k hk
theorem Cont.sl {W : World} {B : Nat} {row : List Value} {v : Value} (h : Cont W B row v) : ∃ a m c, v = .slice a m c := by
  rcases h with ⟨_, a, rfl⟩ | ⟨b, n, c, cur, rfl, _⟩ <;> exact ⟨_, _, _, rfl⟩
theorem Cont.fr {W : World} {B : Nat} {row : List Value} {v : Value} (h : Cont W B row v) : Fr W B v := by
  rcases h with ⟨_, a, rfl⟩ | ⟨b, n, c, cur, h1, h2, h3, h4, h5, h6, h7, h8⟩
  · exact .inl ⟨_, rfl⟩
  · exact .inr ⟨b, n, c, cur, h1, h5, h6, h7, h3, h4⟩
theorem Fr.keep {W W' : World} {B : Nat} {s : Value} (h : Fr W B s) (hb : Below W.heap.size W W') : Fr W' B s := by
  rcases h with h | ⟨b, n, c, cur, h1, h2, h3, h4⟩
  · exact .inl h
  · exact .inr ⟨b, n, c, cur, h1, h2, h3.keep (hb.block b h3.lt), h4⟩
theorem Fr.set {W : World} {B : Nat} {s : Value} (h : Fr W B s) (g i : Nat) (v : Value) : Fr (W.setCell ⟨g, i, none⟩ v) B s := by
  rcases h with h | ⟨b, n, c, cur, h1, h2, h3, h4, h5⟩
  · exact .inl h
  · by_cases e : b = g
    · subst e
      exact .inr ⟨b, n, c, _, h1, h2, h3.setc v, by rw [Array.size_setIfInBounds]; exact h4, h5⟩
    · exact .inr ⟨b, n, c, cur, h1, h2, h3.keep (Below.heap_setCell _ _ _ _ e), h4, h5⟩
theorem wr_one (j c : Nat) (h : j < c) (hc : c ≤ maxLen) : j + 1 ≤ 9223372036854775807 := by
  unfold maxLen at hc
  omega
theorem four_in {c : Nat} {cur : Array Value} (h : cur.size = c * 4) (j i : Nat) (hj : j < c) (hi : i < 4) : j * 4 + i < cur.size := by omega
set_option maxRecDepth 100000 in
set_option maxHeartbeats 4000000 in
theorem own_walk (w : World) (pa : Option Addr) (hn pc : Nat) (data : ByteArray) (er : Int) (rowH rowL : List Value)
    (K5 : ∀ W, Below w.heap.size w W → Calls Go.Proofs.Try.prog 5 #[.slice pa hn pc] W fun e W' => ∃ s, e = .returned s ∧ Below W.heap.size W W' ∧ Cont W' W.heap.size rowH s)
    (K6 : ∀ W, Below w.heap.size w W → Calls Go.Proofs.Try.prog 6 #[.slice pa hn pc, .string data] W fun e W' => ∃ v, e = .returned v ∧ Below W.heap.size W W')
    (K7 : ∀ W, Calls Go.Proofs.Try.prog 7 #[.string data] W fun e W' => ∃ s, e = .returned (.tuple #[s, .int .i64 er]) ∧ Below W.heap.size W W' ∧ Cont W' W.heap.size rowL s)
    (K5b : ∀ W B v, Cont W B rowL v → Calls Go.Proofs.Try.prog 5 #[v] W fun e W' => ∃ s, e = .returned s ∧ Below W.heap.size W W' ∧ Cont W' W.heap.size rowL s)
    (K8 : ∀ W, Calls Go.Proofs.Try.prog 8 #[] W fun e W' => e = .returned (.bool true) ∧ Below W.heap.size W W')
    (K9 : ∀ W B v, Below w.heap.size w W → Cont W B rowH v → Calls Go.Proofs.Try.prog 9 #[.slice pa hn pc, v] W fun e W' => e = .returned (.bool true) ∧ Below W.heap.size W W')
    (K9b : ∀ W B B' u v, Cont W B rowL u → Cont W B' rowL v → Calls Go.Proofs.Try.prog 9 #[u, v] W fun e W' => e = .returned (.bool true) ∧ Below W.heap.size W W') :
    Calls Go.Proofs.Try.prog 3 #[.slice pa hn pc, .string data] w fun e w' => e = .returned (.bool true) ∧ Below w.heap.size w w' := by
  go_enter Go.Proofs.Try.func3, Go.Proofs.Try.ntmps3
  go_wp2_with fail
  refine (K5 w (.refl _ _)).mono ?_
  rintro e w1 ⟨s1, rfl, b1, t1⟩
  obtain ⟨a1, m1, c1, rfl⟩ := t1.sl
  go_wp2_with fail
  refine (K6 w1 b1).mono ?_
  rintro e w2 ⟨v2, rfl, b2⟩
  have B2 : Below w.heap.size w w2 := b1.trans (b2.mono b1.size)
  have T0 : Cont w2 w.heap.size rowH (.slice a1 m1 c1) := t1.keep b2
  go_wp2_with fail
  refine (K7 w2).mono ?_
  rintro e w3 ⟨s3, rfl, b3, t3⟩
  obtain ⟨a3, m3, c3, rfl⟩ := t3.sl
  go_wp2_with fail
  refine (K5b w3 _ _ t3).mono ?_
  rintro e w4 ⟨s4, rfl, b4, t4⟩
  obtain ⟨a4, m4, c4, rfl⟩ := t4.sl
  have B3 : Below w2.heap.size w2 w4 := b3.trans (b4.mono b3.size)
  have F3 : Fr w4 w2.heap.size (.slice a3 m3 c3) := t3.fr.keep b4
  have hb3 : ∀ b o, a3 = some ⟨b, o, none⟩ → 0 < c3 → b < w3.heap.size := by
    rintro b o rfl hc
    rcases t3.fr with ⟨a, e⟩ | ⟨b', n', c', cur, e, _, h3, _⟩
    · cases e; omega
    · cases e; exact h3.lt
  have hc3 : c3 ≤ maxLen ∧ m3 ≤ c3 := by
    rcases F3 with ⟨a, e⟩ | ⟨b', n', c', cur, e, _, h3, _, h4, h5⟩
    · cases e; exact ⟨by unfold maxLen; omega, Nat.le_refl _⟩
    · cases e; exact ⟨h5, h4⟩
  obtain ⟨hc3m, hc3n⟩ := hc3
  clear b1 t1
  have fin : ∀ (wr : World), Below w2.heap.size w2 wr → Cont wr w3.heap.size rowL (.slice a4 m4 c4) → True := fun _ _ _ => trivial
  go_wp2_with fail
  go_loopw [30] (fun i wr => ∃ j : Nat, j ≤ c3 ∧ i = .int .i64 j ∧ Below w2.heap.size w2 wr ∧ Fr wr w2.heap.size (.slice a3 m3 c3) ∧ Cont wr w3.heap.size rowL (.slice a4 m4 c4)) (fun i _ => c3 - (intOf i).toNat)
  case atStart => exact ⟨0, Nat.zero_le _, rfl, B3, F3, t4⟩
  case round =>
    obtain ⟨j, hj, rfl, hX, hF, hC⟩ := hrel
    have hF2 := hF
    by_cases hlj : j < c3
    · rcases hF with ⟨a', e'⟩ | ⟨b, n', c', cur, e', hBb, hrow, hsz, hnc, hcm⟩
      · cases e'; omega
      · cases e'
        have hbs := hb3 b 0 rfl (by omega)
        have cell : ∀ i, i < 4 → ∃ v, wr.cell? ⟨b, j * 4 + i, none⟩ = some v ∧ wr.frozen? ⟨b, j * 4 + i, none⟩ = false := fun i hi => ⟨_, (hrow.cell _).trans (Array.getElem?_eq_getElem (four_in hsz j i hlj hi)), hrow.free _ (four_in hsz j i hlj hi)⟩
        obtain ⟨o0, l0, f0⟩ := cell 0 (by decide)
        obtain ⟨o1, l1, f1⟩ := cell 1 (by decide)
        obtain ⟨o2, l2, f2⟩ := cell 2 (by decide)
        obtain ⟨o3, l3, f3⟩ := cell 3 (by decide)
        rw [Nat.add_zero] at l0 f0
        clear cell
        have hjb := wr_one j c3 hlj hc3m
        go_wp2
        go_roundw
        case rel =>
          refine ⟨j + 1, hlj, rfl, (((hX.setCell hBb _).setCell hBb _).setCell hBb _).setCell hBb _, (((Fr.set hF2 _ _ _).set _ _ _).set _ _ _).set _ _ _, hC.keepB fun k hk1 hk2 => ?_⟩
          have hne : k ≠ b := by omega
          rw [Below.heap_setCell _ _ _ _ hne, Below.heap_setCell _ _ _ _ hne, Below.heap_setCell _ _ _ _ hne, Below.heap_setCell _ _ _ _ hne]
        case measure => simp [intOf]; omega
    · obtain rfl : j = c3 := by omega
      have hwr : Below w.heap.size w wr := B2.trans (hX.mono B2.size)
      clear hF hF2 F3
      go_wp2_with fail
      refine (K7 wr).mono ?_
      rintro e w5 ⟨s5, rfl, b5, t5⟩
      obtain ⟨a5, m5, c5, rfl⟩ := t5.sl
      have C5 := hC.keep b5
      have B5 : Below w.heap.size w w5 := hwr.trans (b5.mono hwr.size)
      have T5 := T0.keep (hX.trans (b5.mono hX.size))
      go_wp2_with fail
      refine (K8 w5).mono ?_
      rintro e w6 ⟨rfl, b6⟩
      have C6 := C5.keep b6
      have B6 : Below w.heap.size w w6 := B5.trans (b6.mono B5.size)
      have T6 := T5.keep b6
      have D6 := t5.keep b6
      go_wp2_with fail
      refine (K9 w6 _ _ B6 T6).mono ?_
      rintro e w7 ⟨rfl, b7⟩
      have C7 := C6.keep b7
      have B7 : Below w.heap.size w w7 := B6.trans (b7.mono B6.size)
      have D7 := D6.keep b7
      go_wp2_with fail
      refine (K9b w7 _ _ _ _ D7 C7).mono ?_
      rintro e w8 ⟨rfl, b8⟩
      go_wp2
      go_ret
      exact ⟨rfl, B7.trans (b8.mono B7.size)⟩
end Go.Proofs.Ytdphimcpcclifaa.Pm
