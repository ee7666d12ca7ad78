/- clip: ClipOwn, walked by hand over what its functions tell. -/
import Derived.Test.YtioikkmmjljedaaGreatDoorRow
import Derived.Test.YtioikkmmjljedaaGreatDoorClW
import Derived.Test.YtioikkmmjljedaaGreatDoorPb
import Derived.Lib.BufferMore
import Derived.StillTactics
import Derived.Deep.QuietTactic
import Derived.BigQuiet
import Derived.Deep.DeepCutAuto
namespace Go.Proofs.YtioikkmmjljedaaGreatDoor.Oc
open Go Go.Proofs Go.RowKit Go.Shelf Go.Proofs.YtioikkmmjljedaaGreatDoor.Com Go.Proofs.YtioikkmmjljedaaGreatDoor.Pm Go.Proofs.YtioikkmmjljedaaGreatDoor.Cl
set_option linter.unusedVariables false
theorem RowAt.lt {w : World} {b : Nat} {cur : Array Value} {e : TypeId} (h : RowAt w b cur e) : b < w.heap.size := by
  obtain ⟨f, h1, _⟩ := h
  exact (Array.getElem?_eq_some_iff.1 h1).1
theorem RowAt.setc {w : World} {b i : Nat} {cur : Array Value} {e : TypeId} (h : RowAt w b cur e) (v : Value) : RowAt (w.setCell ⟨b, i, none⟩ v) b (cur.setIfInBounds i v) e := by
  obtain ⟨f, h1, h2⟩ := h
  exact ⟨f, Go.Lib.heap_setCell_same h1 v, by rw [Array.size_setIfInBounds]; exact h2⟩
/-- A slice of cells in a block between B and B', all its room there, none of it frozen. -/
def FrB (W : World) (B B' : Nat) (s : Value) : Prop :=
  (∃ a, s = .slice a 0 0) ∨ ∃ b n c cur, s = .slice (some ⟨b, 0, none⟩) n c ∧ B ≤ b ∧ b < B' ∧ RowAt W b cur 51 ∧ cur.size = c * 4 ∧ n ≤ c ∧ c ≤ maxLen
theorem FrB.keep {W W' : World} {B B' : Nat} {s : Value} (h : FrB W B B' s) (hb : Below W.heap.size W W') : FrB W' B B' s := by
  rcases h with h | ⟨b, n, c, cur, h1, h2, h3, h4, h5⟩
  · exact .inl h
  · exact .inr ⟨b, n, c, cur, h1, h2, h3, h4.keep (hb.block b (RowAt.lt h4)), h5⟩
theorem FrB.set {W : World} {B B' : Nat} {s : Value} (h : FrB W B B' s) (g i : Nat) (v : Value) : FrB (W.setCell ⟨g, i, none⟩ v) B B' s := by
  rcases h with h | ⟨b, n, c, cur, h1, h2, h3, h4, h5, h6⟩
  · exact .inl h
  · by_cases e : b = g
    · subst e
      exact .inr ⟨b, n, c, _, h1, h2, h3, RowAt.setc h4 v, by rw [Array.size_setIfInBounds]; exact h5, h6⟩
    · exact .inr ⟨b, n, c, cur, h1, h2, h3, h4.keep (Below.heap_setCell _ _ _ _ e), h5, h6⟩
theorem Cont.frb {W : World} {B : Nat} {row : List Value} {s : Value} (h : Cont W B 51 4 row s) : FrB W B W.heap.size s := by
  rcases h with ⟨_, a, rfl⟩ | ⟨b, n, c, cur, f, rfl, h2, h3, h4, h5, h6, h7, h8, h9⟩
  · exact .inl ⟨_, rfl⟩
  · exact .inr ⟨b, n, c, cur, rfl, h5, (Array.getElem?_eq_some_iff.1 h6).1, ⟨f, h6, h8⟩, h9, h3, h4⟩
theorem Cont.keepB {W W' : World} {B : Nat} {row : List Value} {v : Value} (h : Cont W B 51 4 row v) (hb : ∀ k, B ≤ k → k < W.heap.size → W'.heap[k]? = W.heap[k]?) : Cont W' B 51 4 row v := by
  rcases h with h | ⟨b, n, c, cur, f, h1, h2, h3, h4, h5, h6, h7⟩
  · exact .inl h
  · exact .inr ⟨b, n, c, cur, f, h1, h2, h3, h4, h5, (hb b h5 (Array.getElem?_eq_some_iff.1 h6).1).trans h6, h7⟩
theorem Cont.keepW {W W' : World} {B : Nat} {row : List Value} {v : Value} (h : Cont W B 51 4 row v) (hb : Below W.heap.size W W') : Cont W' B 51 4 row v := Cont.keepB h fun k _ hk => hb.block k hk
theorem Cont.sl {W : World} {B : Nat} {row : List Value} {v : Value} (h : Cont W B 51 4 row v) : ∃ a n c, v = .slice a n c ∧ row.length = n * 4 := by
  rcases h with ⟨rfl, a, rfl⟩ | ⟨b, n, c, cur, f, rfl, h2, _⟩
  · exact ⟨_, _, _, rfl, rfl⟩
  · exact ⟨_, _, _, rfl, h2⟩
theorem Cont.get {W : World} {B : Nat} {row : List Value} {a : Option Addr} {n c : Nat} (h : Cont W B 51 4 row (.slice a n c)) (i : Nat) (u : Value) (hu : row[i]? = some u) : ∃ b, a = some ⟨b, 0, none⟩ ∧ W.cell? ⟨b, i, none⟩ = some u := by
  rcases h with ⟨rfl, _, _⟩ | ⟨b, n', c', cur, f, e, h2, h3, h4, h5, h6, h7, _⟩
  · simp at hu
  · cases e
    refine ⟨b, rfl, ?_⟩
    rw [cell_of_row _ _ _ _ _ _ h6]
    have hjl := (List.getElem?_eq_some_iff.1 hu).1
    rw [← h7, List.getElem?_take, if_pos hjl] at hu
    simpa using hu
theorem ownsRow_below {W W' : World} {base e size n : Nat} {v : Value} {xs : List Value} (h : W.ownsRow base e size v n xs) (hB : Below W.heap.size W W') : W'.ownsRow base e size v n xs :=
  ⟨h.1, h.2.imp id fun ⟨g, cap, cur, q1, q2, q3, q4⟩ => ⟨g, cap, cur, q1, q2, (hB.block _ (Array.getElem?_eq_some_iff.1 q3).1).trans q3, q4⟩⟩
theorem own_sl {W : World} {B e : Nat} {v : Value} {n : Nat} {xs : List Value} (h : W.ownsRow B e 1 v n xs) : ∃ a c, v = .slice a n c := by
  rcases h.2 with ⟨rfl, rfl⟩ | ⟨g, cap, cur, rfl, _⟩ <;> exact ⟨_, _, rfl⟩
theorem own_get {W : World} {B e : Nat} {a : Option Addr} {n c : Nat} {xs : List Value} (h : W.ownsRow B e 1 (.slice a n c) n xs) (k : Nat) (hk : k < n) : ∃ g u, a = some ⟨g, 0, none⟩ ∧ xs[k]? = some u ∧ W.cell? ⟨g, k, none⟩ = some u := by
  have hl := h.1
  rcases h.2 with ⟨_, rfl⟩ | ⟨g, cap, cur, e1, _⟩
  · omega
  · cases e1
    have h1 := World.ownsRow.cellAt h k (by omega)
    obtain ⟨u, hu⟩ : ∃ u, xs[k]? = some u := ⟨_, List.getElem?_eq_getElem (by omega)⟩
    exact ⟨g, u, rfl, hu, h1.trans hu⟩
/-- Rows that one may spoil. -/
def SP (B B' : Nat) (v : Value) (xs : List Value) (W : World) : Prop := W.ownsRow B 22 1 v xs.length xs ∧ ∀ (i : Nat) u, xs[i]? = some u → FrB W B B' u
theorem SP.keep {B B' : Nat} {v : Value} {xs : List Value} {W W' : World} (h : SP B B' v xs W) (hb : Below W.heap.size W W') : SP B B' v xs W' :=
  ⟨ownsRow_below h.1 hb, fun i u hu => (h.2 i u hu).keep hb⟩
theorem SP.set {B B' : Nat} {v : Value} {xs : List Value} {W : World} (h : SP B B' v xs W) {b : Nat} {cur : Array Value} (hr : RowAt W b cur 51) (i : Nat) (u : Value) : SP B B' v xs (W.setCell ⟨b, i, none⟩ u) := by
  refine ⟨⟨h.1.1, h.1.2.imp id fun ⟨g, cap, cur', q1, q2, q3, q4⟩ => ⟨g, cap, cur', q1, q2, ?_, q4⟩⟩, fun j w hw => (h.2 j w hw).set _ _ _⟩
  have hne : g ≠ b := fun e => by
    obtain ⟨f, h1, _⟩ := hr
    subst e; rw [h1] at q3; cases q3
  exact (Below.heap_setCell _ _ _ _ hne).trans q3
theorem wr_one (j c : Nat) (h : j < c) (hc : c ≤ maxLen) : j + 1 ≤ 9223372036854775807 := by
  unfold maxLen at hc
  omega
theorem four_in {c : Nat} {cur : Array Value} (h : cur.size = c * 4) (j i : Nat) (hj : j < c) (hi : i < 4) : j * 4 + i < cur.size := by omega
theorem ix_facts (k pn d un m : Nat) (hd : k - pn = d) (hk : pn ≤ k) (hk2 : k ≤ 200000) (hu : un ≤ 100000) (hm : m < un) :
    wrap64 ((k : Int) - (pn : Int)) = (d : Int) ∧ wrap64 ((d : Int) * (un : Int)) = ((d * un : Nat) : Int) ∧ wrap64 (((d * un : Nat) : Int) + (m : Int)) = ((d * un + m : Nat) : Int) := by
  have hdw : d * un ≤ 200000 * 100000 := Nat.mul_le_mul (by omega) hu
  refine ⟨?_, ?_, ?_⟩
  · rw [show (k : Int) - (pn : Int) = (d : Int) by omega]; exact IntWalk.wrap64_in _ (by omega)
  · rw [← Int.natCast_mul]; exact IntWalk.wrap64_in _ (by omega)
  · rw [← Int.natCast_add]; exact IntWalk.wrap64_in _ (by omega)
theorem ix_int (d un m gn2 : Nat) (hd : d ≤ 200000) (hu : un ≤ 100000) (hm : m < un) (h : d * un + m < gn2) :
    0 ≤ (d : Int) * (un : Int) ∧ (d : Int) * (un : Int) ≤ 20000000000 ∧ (d : Int) * (un : Int) + (m : Int) < (gn2 : Int) ∧ d * un + m = ((d : Int) * (un : Int) + (m : Int)).toNat := by
  have hdw : d * un ≤ 200000 * 100000 := Nat.mul_le_mul hd hu
  rw [← Int.natCast_mul]
  refine ⟨by omega, by omega, by omega, by omega⟩
theorem ix_all (k pn d un m : Nat) (hd : k - pn = d) (hk : pn ≤ k) (hk2 : k ≤ 200000) (hu : un ≤ 100000) (hm : m < un) :
    ∃ (DI : Int) (E : Nat) (kI dI : Int), (k : Int) = kI ∧ decide (kI < (pn : Int)) = false ∧ decide ((pn : Int) ≤ kI) = true ∧ (∀ [Inhabited Nat], wrap64 (kI - (pn : Int)) = dI) ∧ (∀ [Inhabited Nat], wrap64 (dI * (un : Int)) = DI) ∧ (∀ [Inhabited Nat], wrap64 (DI + (m : Int)) = (E : Int)) ∧ d * un + m = E := by
  obtain ⟨s1, s2, s3⟩ := ix_facts k pn d un m hd hk hk2 hu hm
  exact ⟨_, _, _, _, rfl, decide_eq_false (by omega), decide_eq_true (by omega), s1, s2, s3, rfl⟩
theorem ix_lt {rowG : List Value} {x gn2 : Nat} {u : Value} (h : rowG[x * 4 + 3]? = some u) (hl : rowG.length = gn2 * 4) : x < gn2 := by
  have := (List.getElem?_eq_some_iff.1 h).1
  omega
theorem info36 : (Go.Proofs.Tryz.prog.info? 36).map (·.size) = some 33 := by kernel_rfl
set_option maxRecDepth 100000 in
set_option maxHeartbeats 8000000 in
theorem clip_walk (w : World) (vs : Array Value) (ga : Option Addr) (gn gc : Nat) (wd : Int) (pa : Option Addr) (pn pc : Nat) (R : List (List Value)) (rowG : List Value) (k0 : Int)
    (hvs : vs.size = 33) (h0 : vs[0]? = some (.int .i64 wd)) (h2 : vs[2]? = some (.slice ga gn gc)) (h32 : vs[32]? = some (.slice pa pn pc))
    (hpast : ∀ (k : Nat) row, k < pn → R[k]? = some row → ∃ pb po ca n cc, pa = some ⟨pb, po, none⟩ ∧ pb < w.heap.size ∧ w.cell? ⟨pb, po + k, none⟩ = some (.slice ca n cc) ∧ row.length = n * 4 ∧ ∀ (j : Nat) u, row[j]? = some u → ∃ cb co, ca = some ⟨cb, co, none⟩ ∧ cb < w.heap.size ∧ w.cell? ⟨cb, co + j, none⟩ = some u)
    (hgrid : ∀ (k : Nat) row, pn ≤ k → R[k]? = some row → ∃ W : Nat, wd = W ∧ W ≤ 100000 ∧ row.length = W * 4 ∧ ∀ (j : Nat) u, row[j]? = some u → rowG[(k - pn) * W * 4 + j]? = some u)
    (hint : ∀ row ∈ R, ∀ u ∈ row, ∃ n, u = .int .i64 n) (hRl : R.length ≤ 200000) (hrl : ∀ row ∈ R, row.length ≤ 4000000)
    (KR : ∀ W, Below w.heap.size w W → Calls Go.Proofs.Tryz.prog 10 #[.agg vs] W fun e W' => ∃ v xs, e = .returned (.tuple #[v, .int .i64 k0]) ∧ Below W.heap.size W W' ∧ xs.length = R.length ∧ W'.ownsRow W.heap.size 22 1 v xs.length xs ∧ Conts W.heap.size 51 4 R xs W')
    (KC : ∀ W, Below w.heap.size w W → Calls Go.Proofs.Tryz.prog 11 #[.slice ga gn gc] W fun e W' => ∃ s, e = .returned s ∧ Below W.heap.size W W' ∧ Cont W' W.heap.size 51 4 rowG s)
    (KE : ∀ W B v, Below w.heap.size w W → Cont W B 51 4 rowG v → Calls Go.Proofs.Tryz.prog 12 #[.slice ga gn gc, v] W fun e W' => e = .returned (.bool true) ∧ Below W.heap.size W W')
    (KL : ∀ W, Below w.heap.size w W → Calls Go.Proofs.Tryz.prog 8 #[] W fun e W' => e = .returned (.bool true) ∧ Below W.heap.size W W') :
    Calls Go.Proofs.Tryz.prog 6 #[.agg vs] w fun e w' => e = .returned (.bool true) ∧ Below w.heap.size w w' := by
  go_enter Go.Proofs.Tryz.func6, Go.Proofs.Tryz.ntmps6
  go_upto_region 1 with fail
  obtain ⟨b0, hb0⟩ : ∃ b, w.heap.size = b := ⟨_, rfl⟩
  obtain ⟨w0, hw0⟩ : ∃ x, w.alloc (.cells vs 36) = x := ⟨_, rfl⟩
  have hB0 : Below w.heap.size w w0 := by subst hw0; exact (Below.refl _ w).alloc (Nat.le_refl _) _
  have hs0 : w0.heap.size = b0 + 1 := by subst hw0; rw [World.size_alloc, hb0]
  have hr0 : w0.heap[b0]? = some (.cells vs 36 (0, 0)) := by subst hw0; subst hb0; exact World.alloc_heap_new w _
  rw [hw0, hb0]
  have hsz : (Go.Proofs.Tryz.prog.info? 36).map (·.size) = some vs.toList.length := by
    have : vs.toList.length = 33 := by simpa using hvs
    rw [this]; exact info36
  have cellB : ∀ W, Below w0.heap.size w0 W → ∀ (j : Nat) v, vs[j]? = some v → W.cell? ⟨b0, j, none⟩ = some v := fun W hW j v hj => by
    have h : W.heap[b0]? = some (.cells vs 36 (0, 0)) := (hW.block b0 (by omega)).trans hr0
    rw [cell_of_row _ _ _ _ _ _ h]; exact hj
  have cellA : ∀ W, Below w0.heap.size w0 W → ∀ (j : Nat) v, vs.toList[j]? = some v → W.cell? ((⟨b0, 0, none⟩ : Addr).add j) = some v := fun W hW j v hj => by
    rw [show ((⟨b0, 0, none⟩ : Addr).add j) = ⟨b0, j, none⟩ from by unfold Addr.add; split <;> simp_all]
    exact cellB W hW j v (by simpa using hj)
  go_wp2_with (with_reducible show wpList _ _ _ (Oper.mk _ (Op.load 36 _) _ _ _ _ :: _) _ _; refine Row.wpList_load_part rfl 36 _ rfl ⟨b0, 0, none⟩ rfl _ Go.Proofs.Tryz.underlying36 rfl vs.toList hsz (cellA w0 (.refl _ _)) ?_)
  refine (KR w0 hB0).mono ?_
  rintro e w1 ⟨v1, xs1, rfl, b1, hl1, o1, c1⟩
  obtain ⟨va, vc, rfl⟩ := own_sl o1
  have hX1 : Below w0.heap.size w0 w1 := b1
  have g2 : w1.cell? ⟨b0, 2, none⟩ = some (.slice ga gn gc) := cellB w1 hX1 2 _ h2
  go_wp2_with fail
  refine (KC w1 (hB0.trans (b1.mono hB0.size))).mono ?_
  rintro e w2 ⟨s2, rfl, b2, t2⟩
  obtain ⟨ga2, gn2, gc2, rfl, hgn⟩ := Cont.sl t2
  have hX2 : Below w0.heap.size w0 w2 := hX1.trans (b2.mono hX1.size)
  have S2 : SP w0.heap.size w1.heap.size (.slice va xs1.length vc) xs1 w2 := SP.keep ⟨o1, fun i u hu => by obtain ⟨row, _, h⟩ := c1 i u hu; exact Cont.frb h⟩ b2
  go_wp2_with fail
  go_loopw [26] (fun i wr => ∃ k : Nat, k ≤ xs1.length ∧ i = .int .i64 k ∧ Below w0.heap.size w0 wr ∧ SP w0.heap.size w1.heap.size (.slice va xs1.length vc) xs1 wr ∧ Cont wr w1.heap.size 51 4 rowG (.slice ga2 gn2 gc2)) (fun i _ => xs1.length - (intOf i).toNat)
  case atStart => exact ⟨0, Nat.zero_le _, rfl, hX2, S2, t2⟩
  case round =>
    obtain ⟨k, hk, rfl, hX, hS, hG⟩ := hrel
    by_cases hlt : k < xs1.length
    · obtain ⟨g, u, rfl, hu, hcu⟩ := own_get hS.1 k hlt
      rcases hS.2 k u hu with ⟨a', rfl⟩ | ⟨b, n, c, cur, rfl, hb1, hb2, hrow, hsz2, hnc, hcm⟩
      · go_wp2_with fail
        go_loopw [36] (fun i wr => i = .int .i64 0 ∧ Below w0.heap.size w0 wr ∧ SP w0.heap.size w1.heap.size (.slice (some ⟨g, 0, none⟩) xs1.length vc) xs1 wr ∧ Cont wr w1.heap.size 51 4 rowG (.slice ga2 gn2 gc2)) (fun i _ => 0)
        case atStart => exact ⟨rfl, hX, hS, hG⟩
        case round =>
          obtain ⟨rfl, hX3, hS3, hG3⟩ := hrel
          go_wp2_with fail
          go_roundw
          case rel => exact ⟨k + 1, by omega, by simp, hX3, hS3, hG3⟩
          case measure => simp [intOf]; omega
      · go_wp2_with fail
        go_loopw [36] (fun i wr => ∃ j : Nat, j ≤ c ∧ i = .int .i64 j ∧ Below w0.heap.size w0 wr ∧ SP w0.heap.size w1.heap.size (.slice (some ⟨g, 0, none⟩) xs1.length vc) xs1 wr ∧ Cont wr w1.heap.size 51 4 rowG (.slice ga2 gn2 gc2)) (fun i _ => c - (intOf i).toNat)
        case atStart => exact ⟨0, Nat.zero_le _, rfl, hX, hS, hG⟩
        case round =>
          obtain ⟨j, hj, rfl, hX3, hS3, hG3⟩ := hrel
          by_cases hlj : j < c
          · rcases hS3.2 k _ hu with ⟨a', e'⟩ | ⟨b', n', c', cur2, e', hBb2, hBb3, hrow2, hsz3, hnc2, hcm2⟩
            · cases e'; omega
            · cases e'
              have cell : ∀ i, i < 4 → ∃ v, wr.cell? ⟨b, j * 4 + i, none⟩ = some v ∧ wr.frozen? ⟨b, j * 4 + i, none⟩ = false := fun i hi => ⟨_, (hrow2.cell _).trans (Array.getElem?_eq_getElem (four_in hsz3 j i hlj hi)), hrow2.free _ (four_in hsz3 j i hlj hi)⟩
              obtain ⟨o0, l0, f0⟩ := cell 0 (by decide)
              obtain ⟨o1', l1, f1⟩ := cell 1 (by decide)
              obtain ⟨o2, l2, f2⟩ := cell 2 (by decide)
              obtain ⟨o3, l3, f3⟩ := cell 3 (by decide)
              rw [Nat.add_zero] at l0 f0
              clear cell
              have hjb := wr_one j c hlj hcm2
              go_wp2_with fail
              go_roundw
              case rel =>
                have r1 := RowAt.setc (i := j * 4) hrow2 (.int .i64 77)
                have r2 := RowAt.setc (i := j * 4 + 1) r1 (.int .i64 0)
                have r3 := RowAt.setc (i := j * 4 + 2) r2 (.int .i64 0)
                refine ⟨j + 1, hlj, rfl, (((hX3.setCell hBb2 _).setCell hBb2 _).setCell hBb2 _).setCell hBb2 _, (((hS3.set hrow2 _ _).set r1 _ _).set r2 _ _).set r3 _ _, Cont.keepB hG3 fun q hq1 hq2 => ?_⟩
                have hne : q ≠ b := by omega
                rw [Below.heap_setCell _ _ _ _ hne, Below.heap_setCell _ _ _ _ hne, Below.heap_setCell _ _ _ _ hne, Below.heap_setCell _ _ _ _ hne]
              case measure => simp [intOf]; omega
          · obtain rfl : j = c := by omega
            go_wp2_with fail
            go_roundw
            case rel => exact ⟨k + 1, by omega, by simp, hX3, hS3, hG3⟩
            case measure => simp [intOf]; omega
    · obtain rfl : k = xs1.length := by omega
      go_wp2_with (with_reducible show wpList _ _ _ (Oper.mk _ (Op.load 36 _) _ _ _ _ :: _) _ _; refine Row.wpList_load_part rfl 36 _ rfl ⟨b0, 0, none⟩ rfl _ Go.Proofs.Tryz.underlying36 rfl vs.toList hsz (cellA wr hX) ?_)
      have hBr : Below w.heap.size w wr := hB0.trans (hX.mono hB0.size)
      refine (KR wr hBr).mono ?_
      rintro e w5 ⟨v5, xs5, rfl, b5, hl5, o5, c5⟩
      obtain ⟨va5, vc5, rfl⟩ := own_sl o5
      have hX5 : Below w0.heap.size w0 w5 := hX.trans (b5.mono hX.size)
      have hk5 : xs5.length ≤ 200000 := by omega
      have hG5 := Cont.keepW hG b5
      have g5 : w5.cell? ⟨b0, 2, none⟩ = some (.slice ga gn gc) := cellB w5 hX5 2 _ h2
      go_wp2_with fail
      refine (KE w5 _ _ (hBr.trans (b5.mono hBr.size)) hG5).mono ?_
      rintro e w6 ⟨rfl, b6⟩
      have hX6 : Below w0.heap.size w0 w6 := hX5.trans (b6.mono hX5.size)
      have hG6 := Cont.keepW hG5 b6
      have o6 := ownsRow_below o5 b6
      have c6 : ∀ (i : Nat) (u : Value), xs5[i]? = some u → ∃ row, R[i]? = some row ∧ Cont w6 wr.heap.size 51 4 row u := fun i u hu => by
        obtain ⟨row, q1, q2⟩ := c5 i u hu; exact ⟨row, q1, Cont.keepW q2 b6⟩
      go_wp2_with fail
      go_loopw [11, 57] (fun f i wr => f = .bool true ∧ ∃ k : Nat, k ≤ xs5.length ∧ i = .int .i64 k ∧ Below w6.heap.size w6 wr) (fun _ i _ => xs5.length - (intOf i).toNat)
      case atStart => exact ⟨rfl, 0, Nat.zero_le _, rfl, .refl _ _⟩
      case round =>
        obtain ⟨rfl, k, hk, rfl, hY⟩ := hrel
        by_cases hlt : k < xs5.length
        · obtain ⟨g, u, rfl, hu, hcu⟩ := own_get (ownsRow_below o6 hY) k hlt
          obtain ⟨row, hRk, hct⟩ := c6 k u hu
          obtain ⟨ua, un, uc, rfl, hrn⟩ := Cont.sl hct
          go_wp2_with fail
          go_loopw [11, 65] (fun f i wr => f = .bool true ∧ ∃ m : Nat, m ≤ un ∧ i = .int .i64 m ∧ Below w6.heap.size w6 wr) (fun _ i _ => un - (intOf i).toNat)
          case atStart => exact ⟨rfl, 0, Nat.zero_le _, rfl, hY⟩
          case round =>
            obtain ⟨rfl, m, hm, rfl, hZ⟩ := hrel
            by_cases hlm : m < un
            · have hXx : Below w0.heap.size w0 wr := hX6.trans (hZ.mono hX6.size)
              have hBx : Below w.heap.size w wr := hB0.trans (hXx.mono hB0.size)
              have hrow : row ∈ R := List.mem_of_getElem? hRk
              have cu : ∀ i, i < 4 → ∃ n, row[m * 4 + i]? = some (.int .i64 n) := fun i hi => by
                have hil : m * 4 + i < row.length := by omega
                obtain ⟨n, hn⟩ := hint row hrow _ (List.getElem_mem hil)
                exact ⟨n, by rw [List.getElem?_eq_getElem hil, hn]⟩
              obtain ⟨n0, u0⟩ := cu 0 (by decide)
              obtain ⟨n1, u1⟩ := cu 1 (by decide)
              obtain ⟨n2, u2⟩ := cu 2 (by decide)
              obtain ⟨n3, u3⟩ := cu 3 (by decide)
              rw [Nat.add_zero] at u0
              clear cu
              have hcx := Cont.keepW hct hZ
              obtain ⟨ub, rfl, q0⟩ := Cont.get hcx _ _ u0
              obtain ⟨ub1, e1, q1⟩ := Cont.get hcx _ _ u1
              obtain ⟨ub2, e2, q2⟩ := Cont.get hcx _ _ u2
              obtain ⟨ub3, e3, q3⟩ := Cont.get hcx _ _ u3
              cases e1; cases e2; cases e3
              go_upto_region 21 with fail
              obtain ⟨bz, hbz⟩ : ∃ b, wr.heap.size = b := ⟨_, rfl⟩
              obtain ⟨wz, hwz⟩ : ∃ x, wr.alloc (.cells #[.int .i64 n0, .int .i64 n1, .int .i64 n2, .int .i64 n3] 51) = x := ⟨_, rfl⟩
              have hNz : Below wr.heap.size wr wz := by subst hwz; exact (Below.refl _ wr).alloc (Nat.le_refl _) _
              have rz : wz.heap[bz]? = some (.cells #[.int .i64 n0, .int .i64 n1, .int .i64 n2, .int .i64 n3] 51 (0, 0)) := by subst hwz; subst hbz; exact World.alloc_heap_new wr _
              have z0 : wz.cell? ⟨bz, 0, none⟩ = some (.int .i64 n0) := by rw [cell_of_row _ _ _ _ _ _ rz]; rfl
              have z1 : wz.cell? ⟨bz, 1, none⟩ = some (.int .i64 n1) := by rw [cell_of_row _ _ _ _ _ _ rz]; rfl
              have z2 : wz.cell? ⟨bz, 2, none⟩ = some (.int .i64 n2) := by rw [cell_of_row _ _ _ _ _ _ rz]; rfl
              have z3 : wz.cell? ⟨bz, 3, none⟩ = some (.int .i64 n3) := by rw [cell_of_row _ _ _ _ _ _ rz]; rfl
              have hXz : Below w0.heap.size w0 wz := hXx.trans (hNz.mono hXx.size)
              have hBz : Below w.heap.size w wz := hBx.trans (hNz.mono hBx.size)
              have hZz : Below w6.heap.size w6 wz := hZ.trans (hNz.mono hZ.size)
              have p32 : wz.cell? ⟨b0, 32, none⟩ = some (.slice pa pn pc) := cellB wz hXz 32 _ h32
              have p0 : wz.cell? ⟨b0, 0, none⟩ = some (.int .i64 wd) := cellB wz hXz 0 _ h0
              rw [hwz, hbz]
              clear hwz q0 q1 q2 q3 hcx
              have hmb : m + 1 ≤ 9223372036854775807 := by have := hrl row hrow; omega
              by_cases hkp : k < pn
              · obtain ⟨pb, po, ca, n, cc, rfl, hpb, hpc, hrl2, hcs⟩ := hpast k row hkp hRk
                obtain rfl : n = un := by omega
                obtain ⟨cb, co, rfl, hcb, y0⟩ := hcs _ _ u0
                obtain ⟨_, _, e1, _, y1⟩ := hcs _ _ u1
                cases e1
                obtain ⟨_, _, e2, _, y2⟩ := hcs _ _ u2
                cases e2
                obtain ⟨_, _, e3, _, y3⟩ := hcs _ _ u3
                cases e3
                have pk : wz.cell? ⟨pb, po + k, none⟩ = some (.slice (some ⟨cb, co, none⟩) n cc) := (hBz.cell (p := ⟨pb, po + k, none⟩) hpb).trans hpc
                have y0 : wz.cell? ⟨cb, co + m * 4, none⟩ = some (.int .i64 n0) := (hBz.cell (p := ⟨cb, co + m * 4, none⟩) hcb).trans y0
                have y1 : wz.cell? ⟨cb, co + m * 4 + 1, none⟩ = some (.int .i64 n1) := (hBz.cell (p := ⟨cb, co + m * 4 + 1, none⟩) hcb).trans (by rw [Nat.add_assoc]; exact y1)
                have y2 : wz.cell? ⟨cb, co + m * 4 + 2, none⟩ = some (.int .i64 n2) := (hBz.cell (p := ⟨cb, co + m * 4 + 2, none⟩) hcb).trans (by rw [Nat.add_assoc]; exact y2)
                have y3 : wz.cell? ⟨cb, co + m * 4 + 3, none⟩ = some (.int .i64 n3) := (hBz.cell (p := ⟨cb, co + m * 4 + 3, none⟩) hcb).trans (by rw [Nat.add_assoc]; exact y3)
                clear hcs hpc
                go_quiet (fail)
                have hDz : Below w6.heap.size w6 (wz.drewN nq) := ⟨hZz.os, hZz.tape, hZz.output, hZz.size, hZz.block⟩
                go_wp2_with fail
                go_roundw
                case rel => exact ⟨rfl, m + 1, by omega, by simp, hDz⟩
                case measure => simp [intOf]; omega
              · obtain ⟨W, rfl, hW, hrl2, hgs⟩ := hgrid k row (by omega) hRk
                obtain rfl : un = W := by omega
                obtain ⟨d, hd⟩ : ∃ d, k - pn = d := ⟨_, rfl⟩
                rw [hd] at hgs
                have hGz := Cont.keepW hG6 hZz
                have ix : ∀ i, d * un * 4 + (m * 4 + i) = (d * un + m) * 4 + i := fun i => by rw [Nat.add_mul]; omega
                have ix0 : d * un * 4 + m * 4 = (d * un + m) * 4 := by rw [Nat.add_mul]
                have y0 := hgs _ _ u0
                have y1 := hgs _ _ u1
                have y2 := hgs _ _ u2
                have y3 := hgs _ _ u3
                rw [ix] at y1 y2 y3
                rw [ix0] at y0
                have hix : d * un + m < gn2 := ix_lt y3 hgn
                obtain ⟨DI, E, kI, dI, hkI, cA, cB, sA, sB, sC, hE⟩ := ix_all k pn d un m hd (Nat.le_of_not_lt hkp) (Nat.le_trans (Nat.le_of_lt hlt) hk5) hW hlm
                rw [hE] at y0 y1 y2 y3 hix
                obtain ⟨gb, rfl, y0⟩ := Cont.get hGz _ _ y0
                obtain ⟨_, e1, y1⟩ := Cont.get hGz _ _ y1
                cases e1
                obtain ⟨_, e2, y2⟩ := Cont.get hGz _ _ y2
                cases e2
                obtain ⟨_, e3, y3⟩ := Cont.get hGz _ _ y3
                cases e3
                rw [hkI]
                clear hgs ix ix0 hd hkp hE
                clear hGz hG6 hG5 c6 c5 o6 o5 hct u0 u1 u2 u3 KR KC KE KL hpast hgrid hint hrl cellA cellB hsz h0 h2 h32 hvs hRk hrow hrl2 hrn hXx hBx hXz hBz rz hNz hcu hu hm hl5 hk5
                go_quiet (fail)
                have hDz : Below w6.heap.size w6 (wz.drewN nq) := ⟨hZz.os, hZz.tape, hZz.output, hZz.size, hZz.block⟩
                clear cA cB sA sB sC
                subst hkI
                go_wp2_with fail
                go_roundw
                case rel => exact ⟨rfl, m + 1, by omega, by simp, hDz⟩
                case measure => simp [intOf]; omega
            · obtain rfl : m = un := by omega
              go_wp2_with fail
              go_roundw
              case rel => exact ⟨rfl, k + 1, by omega, by simp, hZ⟩
              case measure => simp [intOf]; omega
        · obtain rfl : k = xs5.length := by omega
          have hBx : Below w.heap.size w wr := hB0.trans ((hX6.trans (hY.mono hX6.size)).mono hB0.size)
          go_wp2_with fail
          refine (KL wr hBx).mono ?_
          rintro e w7 ⟨rfl, b7⟩
          go_wp2
          go_ret
          exact ⟨rfl, hBx.trans (b7.mono hBx.size)⟩
end Go.Proofs.YtioikkmmjljedaaGreatDoor.Oc
