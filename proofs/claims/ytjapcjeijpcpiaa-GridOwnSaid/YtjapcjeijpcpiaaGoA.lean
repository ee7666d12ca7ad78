/- Grid: GridOwn, walked by hand over what the small machine tells of the grid's functions. -/
import Derived.Test.YtjapcjeijpcpiaaCom
import Derived.Test.YtjapcjeijpcpiaaGoG
import Derived.Lib.BufferMore
import Derived.Deep.RegionHeld3
import Derived.StillTactics
import Derived.Deep.DeepCutAuto
namespace Go.Proofs.Ytjapcjeijpcpiaa.Pm
open Go.RowKit Go.Proofs.Ytjapcjeijpcpiaa.Com
set_option linter.unusedVariables false
/-- A slice of cells that lies in a block from B on, all its room there, none of it frozen. -/
def Fr (W : World) (B : Nat) (s : Value) : Prop :=
  (∃ a, s = .slice a 0 0) ∨ ∃ b n c cur, s = .slice (some ⟨b, 0, none⟩) n c ∧ B ≤ b ∧ RowAt W b cur 36 ∧ cur.size = c * 4 ∧ n ≤ c ∧ c ≤ maxLen
theorem RowAt.lt {w : World} {b : Nat} {cur : Array Value} {e : TypeId} (h : RowAt w b cur e) : b < w.heap.size := by
  obtain ⟨f, h1, _⟩ := h
  exact (Array.getElem?_eq_some_iff.1 h1).1
theorem RowAt.setc {w : World} {b i : Nat} {cur : Array Value} {e : TypeId} (h : RowAt w b cur e) (v : Value) : RowAt (w.setCell ⟨b, i, none⟩ v) b (cur.setIfInBounds i v) e := by
  obtain ⟨f, h1, h2⟩ := h
  exact ⟨f, Go.Lib.heap_setCell_same h1 v, by rw [Array.size_setIfInBounds]; exact h2⟩
/-- Cells that are all numbers. -/
def pInt : PD → Bool
  | .int .i64 _ => true
  | _ => false
def rowI : List PD → List Value
  | [] => []
  | .int k n :: r => .int k n :: rowI r
  | _ :: r => undef :: rowI r
theorem rowI_len : ∀ cs : List PD, (rowI cs).length = cs.length
  | [] => rfl
  | .int _ _ :: r => congrArg (· + 1) (rowI_len r)
  | .bool _ :: r => congrArg (· + 1) (rowI_len r)
  | .str _ :: r => congrArg (· + 1) (rowI_len r)
  | .sl _ _ :: r => congrArg (· + 1) (rowI_len r)
  | .un :: r => congrArg (· + 1) (rowI_len r)
  | .err _ :: r => congrArg (· + 1) (rowI_len r)
theorem pInt_ex {x : PD} (h : pInt x = true) : ∃ n, x = .int .i64 n := by
  unfold pInt at h
  split at h
  · exact ⟨_, rfl⟩
  · cases h
theorem rowI_rep {X : Nat → Prop} {w : World} {R : Ref → Value → Prop} : ∀ {cs : List PD} {us : List Value}, cs.all pInt = true → RepL X w R (cs.map .d) us → us = rowI cs
  | [], us, _, h => h
  | c :: cs, us, hp, ⟨v, r, e, h1, h2⟩ => by
    rw [List.all_cons, Bool.and_eq_true] at hp
    obtain ⟨n, rfl⟩ := pInt_ex hp.1
    have h1 : v = _ := h1
    subst h1; subst e
    rw [rowI_rep hp.2 h2]; rfl
theorem rowI_get {X : Nat → Prop} {w : World} : ∀ {cs : List PD} (j : Nat) (x : PD), cs.all pInt = true → cs[j]? = some x → ∃ v, (rowI cs)[j]? = some v ∧ RepD X w x v
  | [], j, x, _, h => by simp at h
  | c :: cs, 0, x, hp, h => by
    rw [List.all_cons, Bool.and_eq_true] at hp
    obtain ⟨n, rfl⟩ := pInt_ex hp.1
    simp at h; subst h
    exact ⟨_, rfl, rfl⟩
  | c :: cs, j + 1, x, hp, h => by
    rw [List.all_cons, Bool.and_eq_true] at hp
    obtain ⟨n, rfl⟩ := pInt_ex hp.1
    simp at h
    obtain ⟨v, h1, h2⟩ := rowI_get (X := X) (w := w) j x hp.2 h
    exact ⟨v, h1, h2⟩
theorem cellsInt : ∀ xs : List GCell, (e_GCell.cells xs).all pInt = true
  | [] => rfl
  | x :: xs => by
    have e : e_GCell.cells (x :: xs) = e_GCell.enc x ++ e_GCell.cells xs := rfl
    rw [e, List.all_append, cellsInt xs]; rfl
/-- A slice value that holds a row of cells, in a block from B on. -/
def Cont (W : World) (B : Nat) (row : List Value) (v : Value) : Prop :=
  (row = [] ∧ ∃ a, v = .slice a 0 0) ∨ ∃ b n c cur, v = .slice (some ⟨b, 0, none⟩) n c ∧ row.length = n * 4 ∧ n ≤ c ∧ c ≤ maxLen ∧ B ≤ b ∧ RowAt W b cur 36 ∧ cur.toList.take row.length = row
theorem Cont.keepB {W W' : World} {B : Nat} {row : List Value} {v : Value} (h : Cont W B row v) (hb : ∀ k, B ≤ k → k < W.heap.size → W'.heap[k]? = W.heap[k]?) : Cont W' B row v := by
  rcases h with h | ⟨b, n, c, cur, h1, h2, h3, h4, h5, h6, h7⟩
  · exact .inl h
  · exact .inr ⟨b, n, c, cur, h1, h2, h3, h4, h5, h6.keep (hb b h5 h6.lt), h7⟩
theorem Cont.keep {W W' : World} {B : Nat} {row : List Value} {v : Value} (h : Cont W B row v) (hb : Below W.heap.size W W') : Cont W' B row v := h.keepB fun k _ hk => hb.block k hk
theorem Cont.mono {W : World} {B B' : Nat} {row : List Value} {v : Value} (h : Cont W B row v) (hb : B' ≤ B) : Cont W B' row v := by
  rcases h with h | ⟨b, n, c, cur, h1, h2, h3, h4, h5, h6, h7⟩
  · exact .inl h
  · exact .inr ⟨b, n, c, cur, h1, h2, h3, h4, Nat.le_trans hb h5, h6, h7⟩
theorem Cont.sl {W : World} {B : Nat} {row : List Value} {v : Value} (h : Cont W B row v) : ∃ a m c, v = .slice a m c := by
  rcases h with ⟨_, a, rfl⟩ | ⟨b, n, c, cur, rfl, _⟩ <;> exact ⟨_, _, _, rfl⟩
theorem Fr.keep {W W' : World} {B : Nat} {s : Value} (h : Fr W B s) (hb : Below W.heap.size W W') : Fr W' B s := by
  rcases h with h | ⟨b, n, c, cur, h1, h2, h3, h4⟩
  · exact .inl h
  · exact .inr ⟨b, n, c, cur, h1, h2, h3.keep (hb.block b h3.lt), h4⟩
theorem Fr.mono {W : World} {B B' : Nat} {s : Value} (h : Fr W B s) (hb : B' ≤ B) : Fr W B' s := by
  rcases h with h | ⟨b, n, c, cur, h1, h2, h3⟩
  · exact .inl h
  · exact .inr ⟨b, n, c, cur, h1, Nat.le_trans hb h2, h3⟩
theorem Fr.sl {W : World} {B : Nat} {s : Value} (h : Fr W B s) : ∃ a m c, s = .slice a m c := by
  rcases h with ⟨a, rfl⟩ | ⟨b, n, c, cur, rfl, _⟩ <;> exact ⟨_, _, _, rfl⟩
theorem Fr.set {W : World} {B : Nat} {s : Value} (h : Fr W B s) (g i : Nat) (v : Value) : Fr (W.setCell ⟨g, i, none⟩ v) B s := by
  rcases h with h | ⟨b, n, c, cur, h1, h2, h3, h4, h5⟩
  · exact .inl h
  · by_cases e : b = g
    · subst e
      exact .inr ⟨b, n, c, _, h1, h2, h3.setc v, by rw [Array.size_setIfInBounds]; exact h4, h5⟩
    · exact .inr ⟨b, n, c, cur, h1, h2, h3.keep (Below.heap_setCell _ _ _ _ e), h4, h5⟩
/-- Five grids in a row, their cells from B on, below the row. -/
def Arr (W : World) (bA B : Nat) : Prop := ∀ k, k < 5 → ∃ x y a n c, W.cell? ⟨bA, k * 3, none⟩ = some (.int .i64 x) ∧ W.cell? ⟨bA, k * 3 + 1, none⟩ = some (.int .i64 y) ∧ W.cell? ⟨bA, k * 3 + 2, none⟩ = some (.slice a n c) ∧ Fr W B (.slice a n c) ∧ ∀ b o, a = some ⟨b, o, none⟩ → 0 < c → b < bA
theorem Arr.keep {W W' : World} {bA B : Nat} (h : Arr W bA B) (hb : Below W.heap.size W W') : Arr W' bA B := fun k hk => by
  obtain ⟨x, y, a, n, c, h0, h1, h2, h3, h4⟩ := h k hk
  exact ⟨x, y, a, n, c, cell_keep h0 hb, cell_keep h1 hb, cell_keep h2 hb, h3.keep hb, h4⟩
theorem Arr.set {W : World} {bA B : Nat} (h : Arr W bA B) (g i : Nat) (v : Value) (hg : g < bA) : Arr (W.setCell ⟨g, i, none⟩ v) bA B := fun k hk => by
  obtain ⟨x, y, a, n, c, h0, h1, h2, h3, h4⟩ := h k hk
  have e : ∀ o, (W.setCell ⟨g, i, none⟩ v).cell? ⟨bA, o, none⟩ = W.cell? ⟨bA, o, none⟩ := fun o => World.cell?_of_block (w := W) (Below.heap_setCell _ _ _ _ (by show bA ≠ g; omega))
  exact ⟨x, y, a, n, c, (e _).trans h0, (e _).trans h1, (e _).trans h2, h3.set _ _ _, h4⟩
theorem Fr.blk {W : World} {B : Nat} {a : Option Addr} {n c : Nat} (h : Fr W B (.slice a n c)) : ∀ b o, a = some ⟨b, o, none⟩ → 0 < c → b < W.heap.size := by
  rintro b o rfl hc
  rcases h with ⟨a, e⟩ | ⟨b', n', c', cur, e, _, h3, _⟩
  · cases e; omega
  · cases e; exact h3.lt
def C3 (W : World) (b : Nat) (u0 u1 u2 : Value) : Prop := W.cell? ⟨b, 0, none⟩ = some u0 ∧ W.cell? ⟨b, 1, none⟩ = some u1 ∧ W.cell? ⟨b, 2, none⟩ = some u2
theorem C3.keep {W W' : World} {b : Nat} {u0 u1 u2 : Value} (h : C3 W b u0 u1 u2) (hb : Below W.heap.size W W') : C3 W' b u0 u1 u2 :=
  ⟨cell_keep h.1 hb, cell_keep h.2.1 hb, cell_keep h.2.2 hb⟩
/-- What one of the grid's functions tells. -/
def Tells (P : Program) (f : Nat) (args : Array Value) (W : World) : Prop :=
  Calls P f args W fun e W' => ∃ (x y : Int) (s : Value) (k : Int), e = .returned (.tuple #[.agg #[.int .i64 x, .int .i64 y, s], .int .i64 k]) ∧ Below W.heap.size W W' ∧ Fr W' W.heap.size s
theorem wr_len (j c : Nat) (h : j < c) (hc : c ≤ maxLen) : j + 1 ≤ 9223372036854775807 := by
  unfold maxLen at hc
  omega
set_option maxRecDepth 100000 in
set_option maxHeartbeats 4000000 in
theorem own_walk (w : World) (gw gh r f t n p0 p1 p2 : Int) (ga : Option Addr) (gn gc : Nat) (row : List Value)
    (hC : ∀ W, Below w.heap.size w W → Calls Go.Proofs.Try.prog 10 #[.slice ga gn gc] W fun e W' => ∃ s, e = .returned s ∧ Below W.heap.size W W' ∧ Cont W' W.heap.size row s)
    (k7 : ∀ W, Below w.heap.size w W → Tells Go.Proofs.Try.prog 7 #[.agg #[.int .i64 gw, .int .i64 gh, .slice ga gn gc], .int .i64 r, .int .i64 f, .int .i64 120, .agg #[.int .i64 p0, .int .i64 p1, .int .i64 p2]] W)
    (k8 : ∀ W, Below w.heap.size w W → Tells Go.Proofs.Try.prog 8 #[.agg #[.int .i64 gw, .int .i64 gh, .slice ga gn gc], .int .i64 r, .int .i64 f, .int .i64 t, .agg #[.int .i64 p0, .int .i64 p1, .int .i64 p2]] W)
    (k9 : ∀ W, Below w.heap.size w W → Tells Go.Proofs.Try.prog 9 #[.agg #[.int .i64 gw, .int .i64 gh, .slice ga gn gc], .int .i64 r, .int .i64 f, .int .i64 t, .int .i64 n, .agg #[.int .i64 p0, .int .i64 p1, .int .i64 p2]] W)
    (k11 : ∀ W, Below w.heap.size w W → Tells Go.Proofs.Try.prog 11 #[.agg #[.int .i64 gw, .int .i64 gh, .slice ga gn gc], .int .i64 f, .int .i64 t, .int .i64 n, .agg #[.int .i64 p0, .int .i64 p1, .int .i64 p2]] W)
    (k12 : ∀ W, Below w.heap.size w W → Tells Go.Proofs.Try.prog 12 #[.agg #[.int .i64 gw, .int .i64 gh, .slice ga gn gc], .int .i64 gw, .int .i64 gh, .agg #[.int .i64 p0, .int .i64 p1, .int .i64 p2]] W)
    (k13 : ∀ W B a m c, Below w.heap.size w W → Cont W B row (.slice a m c) → Calls Go.Proofs.Try.prog 13 #[.agg #[.int .i64 gw, .int .i64 gh, .slice ga gn gc], .agg #[.int .i64 gw, .int .i64 gh, .slice a m c]] W fun e W' => e = .returned (.bool true) ∧ Below W.heap.size W W')
    (k5 : ∀ W, Calls Go.Proofs.Try.prog 5 #[] W fun e W' => e = .returned (.bool true) ∧ Below W.heap.size W W') :
    Calls Go.Proofs.Try.prog 4 #[.agg #[.int .i64 gw, .int .i64 gh, .slice ga gn gc], .int .i64 r, .int .i64 f, .int .i64 t, .int .i64 n, .agg #[.int .i64 p0, .int .i64 p1, .int .i64 p2]] w fun e w' => e = .returned (.bool true) ∧ Below w.heap.size w w' := by
  go_enter Go.Proofs.Try.func4, Go.Proofs.Try.ntmps4
  go_wp2_with fail
  obtain ⟨w1, hw1⟩ : ∃ w1, (w.alloc (.cells #[.int .i64 gw, .int .i64 gh, .slice ga gn gc] 24)).alloc (.cells #[.int .i64 p0, .int .i64 p1, .int .i64 p2] 26) = w1 := ⟨_, rfl⟩
  have hg : C3 w1 w.heap.size (.int .i64 gw) (.int .i64 gh) (.slice ga gn gc) := by subst hw1; exact ⟨by simp, by simp, by simp⟩
  have hp : C3 w1 (w.heap.size + 1) (.int .i64 p0) (.int .i64 p1) (.int .i64 p2) := by subst hw1; exact ⟨by simp, by simp, by simp⟩
  have hb1 : Below w.heap.size w w1 := by subst hw1; exact ((Below.refl _ w).alloc (Nat.le_refl _) _).alloc (by simp) _
  have hs1 : w1.heap.size = w.heap.size + 2 := by subst hw1; simp
  rw [hw1]
  clear hw1
  obtain ⟨bg, hbg⟩ : ∃ bg, w.heap.size = bg := ⟨_, rfl⟩
  rw [hbg] at hg hp hs1 ⊢
  obtain ⟨g0, g1, g2⟩ := hg
  have hlt : bg + 1 < w1.heap.size := by omega
  have hne : bg ≠ w1.heap.size := by omega
  have hne' : w1.heap.size ≠ bg := by omega
  clear hs1
  have KC : ∀ W, Below w1.heap.size w1 W → Calls Go.Proofs.Try.prog 10 #[.slice ga gn gc] W fun e W' => ∃ a m c, e = .returned (.slice a m c) ∧ W'.cell? ⟨bg, 0, none⟩ = some (.int .i64 gw) ∧ W'.cell? ⟨bg, 1, none⟩ = some (.int .i64 gh) ∧ W'.cell? ⟨bg, 2, none⟩ = some (.slice ga gn gc) ∧ bg ≠ W'.heap.size ∧ Below W.heap.size W W' ∧ Cont W' W.heap.size row (.slice a m c) := by
    intro W hW
    have hWs := hW.size
    have c0 : W.cell? ⟨bg, 0, none⟩ = some (.int .i64 gw) := cell_keep g0 hW
    have c1 : W.cell? ⟨bg, 1, none⟩ = some (.int .i64 gh) := cell_keep g1 hW
    have c2 : W.cell? ⟨bg, 2, none⟩ = some (.slice ga gn gc) := cell_keep g2 hW
    refine (hC _ (hb1.trans (hW.mono (by omega)))).mono ?_
    rintro e W' ⟨s, rfl, h1, h2⟩
    obtain ⟨a, m, c, rfl⟩ := h2.sl
    have h3 := h1.size
    exact ⟨a, m, c, rfl, cell_keep c0 h1, cell_keep c1 h1, cell_keep c2 h1, by omega, h1, h2⟩
  have hBd : Below w1.heap.size w1 w1.drew := (Below.refl _ _).drew
  have hBa : Below w1.heap.size w1 (w1.alloc (.cells #[.int .i64 0, .int .i64 0, .slice none 0 0] 24)).drew := ((Below.refl _ _).alloc (Nat.le_refl _) _).drew
  have KD : Calls Go.Proofs.Try.prog 10 #[.slice ga gn gc] (w1.alloc (.cells #[.int .i64 0, .int .i64 0, .slice none 0 0] 24)).drew fun e W' => ∃ a m c, e = .returned (.slice a m c) ∧ W'.cell? ⟨bg, 0, none⟩ = some (.int .i64 gw) ∧ W'.cell? ⟨bg, 1, none⟩ = some (.int .i64 gh) ∧ W'.cell? ⟨bg, 2, none⟩ = some (.slice ga gn gc) ∧ bg ≠ W'.heap.size ∧
      (W'.cell? ⟨w1.heap.size, 0, none⟩ = some (.int .i64 0) ∧ W'.cell? ⟨w1.heap.size, 1, none⟩ = some (.int .i64 0) ∧ W'.cell? ⟨w1.heap.size, 2, none⟩ = some (.slice none 0 0) ∧ W'.frozen? ⟨w1.heap.size, 0, none⟩ = false ∧ W'.frozen? ⟨w1.heap.size, 1, none⟩ = false ∧ W'.frozen? ⟨w1.heap.size, 2, none⟩ = false) ∧ Below (w1.heap.size + 1) (w1.alloc (.cells #[.int .i64 0, .int .i64 0, .slice none 0 0] 24)).drew W' ∧ Cont W' (w1.heap.size + 1) row (.slice a m c) := by
    refine (KC _ hBa).mono ?_
    rintro e W' ⟨a, m, c, rfl, h1, h2, h3, h4, h5, h6⟩
    have es : (w1.alloc (.cells #[.int .i64 0, .int .i64 0, .slice none 0 0] 24)).drew.heap.size = w1.heap.size + 1 := by simp
    rw [es] at h5 h6
    have hn : W'.heap[w1.heap.size]? = some (.cells #[.int .i64 0, .int .i64 0, .slice none 0 0] 24 (0, 0)) := (h5.block _ (Nat.lt_succ_self _)).trans (heap_alloc_new w1 _)
    exact ⟨a, m, c, rfl, h1, h2, h3, h4, ⟨by rw [cell_of_row _ _ _ _ _ _ hn]; rfl, by rw [cell_of_row _ _ _ _ _ _ hn]; rfl, by rw [cell_of_row _ _ _ _ _ _ hn]; rfl, frozen_of_row _ _ _ _ _ hn, frozen_of_row _ _ _ _ _ hn, frozen_of_row _ _ _ _ _ hn⟩, h5, h6⟩
  go_cut [13] (fun s wx => ∃ bb a m c, s = .pointer (some ⟨bb, 0, none⟩) ∧ Below w1.heap.size w1 wx ∧ C3 wx bb (.int .i64 gw) (.int .i64 gh) (.slice a m c) ∧ Cont wx w1.heap.size row (.slice a m c))
  case first =>
    go_region_held3 (fun W => W.cell? ⟨bg, 0, none⟩ = some (.int .i64 gw) ∧ W.cell? ⟨bg, 1, none⟩ = some (.int .i64 gh) ∧ W.cell? ⟨bg, 2, none⟩ = some (.slice ga gn gc)) (first | exact ⟨g0, g1, g2⟩ | go_keep | (refine ⟨?_, ?_, ?_⟩ <;> simp [*]))
      (first
        | (go_at_call 10; refine (KC _ hBd).mono ?_; rintro e w2 ⟨a, m, c, rfl, z0, z1, z2, z3, z4, z5⟩)
        | (go_at_call 10; refine KD.mono ?_; rintro e w2 ⟨a, m, c, rfl, z0, z1, z2, z3, ⟨y0, y1, y2, y3, y4, y5⟩, z4, z5⟩))
    · go_wp2_with fail
      go_meet
      exact ⟨_, a, m, c, rfl, (hBd.trans z4).alloc (hBd.trans z4).size _, ⟨by simp, by simp, by simp⟩, z5.keep ((Below.refl _ _).alloc (Nat.le_refl _) _)⟩
    · go_wp2_with fail
      go_meet
      have r0 : w2.heap[w1.heap.size]? = some (.cells #[.int .i64 0, .int .i64 0, .slice none 0 0] 24 (0, 0)) := (z4.block _ (Nat.lt_succ_self _)).trans (heap_alloc_new w1 _)
      have r1 := Go.Lib.heap_setCell_same (i := 0) r0 (.int .i64 gw)
      have r2 := Go.Lib.heap_setCell_same (i := 1) r1 (.int .i64 gh)
      have r3 := Go.Lib.heap_setCell_same (i := 2) r2 (.slice a m c)
      refine ⟨_, a, m, c, rfl, ?_, ⟨by rw [cell_of_row _ _ _ _ _ _ r3]; rfl, by rw [cell_of_row _ _ _ _ _ _ r3]; rfl, by rw [cell_of_row _ _ _ _ _ _ r3]; rfl⟩, (z5.keepB fun k hk1 hk2 => ?_).mono (Nat.le_succ _)⟩
      · exact (((hBa.trans (z4.mono (Nat.le_succ _))).setCell (Nat.le_refl _) _).setCell (Nat.le_refl _) _).setCell (Nat.le_refl _) _
      · rw [Below.heap_setCell _ _ _ _ (by simp; omega), Below.heap_setCell _ _ _ _ (by simp; omega), Below.heap_setCell _ _ _ _ (by simp; omega)]
  case rest =>
    obtain ⟨bb, a, m, c, rfl, hX1, hbf, hct⟩ := hcut
    have hBw : Below w.heap.size w wc := hb1.trans (hX1.mono hb1.size)
    have hszw : w.heap.size ≤ wc.heap.size := hBw.size
    have X0 : Below wc.heap.size wc wc := .refl _ _
    obtain ⟨q0, q1, q2⟩ := hp
    have g0 := cell_keep g0 hX1
    have g1 := cell_keep g1 hX1
    have g2 := cell_keep g2 hX1
    have q0 := cell_keep q0 hX1
    have q1 := cell_keep q1 hX1
    have q2 := cell_keep q2 hX1
    have hgW : C3 wc bg (.int .i64 gw) (.int .i64 gh) (.slice ga gn gc) := ⟨g0, g1, g2⟩
    -- call 1
    go_wp2_with fail
    refine (k7 _ (hBw.trans (X0.mono hszw))).mono ?_
    rintro e v1 ⟨x1, y1, s1, e1, rfl, h1, F1⟩
    obtain ⟨a1, n1, c1, rfl⟩ := F1.sl
    go_upto_region 3 with fail
    obtain ⟨u1, hu1⟩ : ∃ u1, v1.alloc (.cells #[.int .i64 x1, .int .i64 y1, .slice a1 n1 c1] 24) = u1 := ⟨_, rfl⟩
    have N1 : Below v1.heap.size v1 u1 := by subst hu1; exact (Below.refl _ _).alloc (Nat.le_refl _) _
    have D1 : C3 u1 v1.heap.size (.int .i64 x1) (.int .i64 y1) (.slice a1 n1 c1) := by subst hu1; exact ⟨by simp, by simp, by simp⟩
    rw [hu1]
    clear hu1
    have Y1 : Below wc.heap.size wc u1 := h1.trans (N1.mono h1.size)
    have X1 : Below wc.heap.size wc u1 := X0.trans (Y1.mono X0.size)
    have F1 : Fr u1 wc.heap.size (.slice a1 n1 c1) := (F1.keep N1).mono X0.size
    obtain ⟨b1, hv1⟩ : ∃ b, v1.heap.size = b := ⟨_, rfl⟩
    rw [hv1] at D1 ⊢
    clear hv1 N1
    have g0 := cell_keep g0 Y1
    have g1 := cell_keep g1 Y1
    have g2 := cell_keep g2 Y1
    have q0 := cell_keep q0 Y1
    have q1 := cell_keep q1 Y1
    have q2 := cell_keep q2 Y1
    clear Y1 h1
    -- call 2
    go_wp2_with fail
    refine (k8 _ (hBw.trans (X1.mono hszw))).mono ?_
    rintro e v2 ⟨x2, y2, s2, e2, rfl, h2, F2⟩
    obtain ⟨a2, n2, c2, rfl⟩ := F2.sl
    go_upto_region 4 with fail
    obtain ⟨u2, hu2⟩ : ∃ u2, v2.alloc (.cells #[.int .i64 x2, .int .i64 y2, .slice a2 n2 c2] 24) = u2 := ⟨_, rfl⟩
    have N2 : Below v2.heap.size v2 u2 := by subst hu2; exact (Below.refl _ _).alloc (Nat.le_refl _) _
    have D2 : C3 u2 v2.heap.size (.int .i64 x2) (.int .i64 y2) (.slice a2 n2 c2) := by subst hu2; exact ⟨by simp, by simp, by simp⟩
    rw [hu2]
    clear hu2
    have Y2 : Below u1.heap.size u1 u2 := h2.trans (N2.mono h2.size)
    have X2 : Below wc.heap.size wc u2 := X1.trans (Y2.mono X1.size)
    have F2 : Fr u2 wc.heap.size (.slice a2 n2 c2) := (F2.keep N2).mono X1.size
    have F1 := F1.keep Y2
    have D1 := D1.keep Y2
    obtain ⟨b2, hv2⟩ : ∃ b, v2.heap.size = b := ⟨_, rfl⟩
    rw [hv2] at D2 ⊢
    clear hv2 N2
    have g0 := cell_keep g0 Y2
    have g1 := cell_keep g1 Y2
    have g2 := cell_keep g2 Y2
    have q0 := cell_keep q0 Y2
    have q1 := cell_keep q1 Y2
    have q2 := cell_keep q2 Y2
    clear Y2 h2 X1
    -- call 3
    go_wp2_with fail
    refine (k9 _ (hBw.trans (X2.mono hszw))).mono ?_
    rintro e v3 ⟨x3, y3, s3, e3, rfl, h3, F3⟩
    obtain ⟨a3, n3, c3, rfl⟩ := F3.sl
    go_upto_region 5 with fail
    obtain ⟨u3, hu3⟩ : ∃ u3, v3.alloc (.cells #[.int .i64 x3, .int .i64 y3, .slice a3 n3 c3] 24) = u3 := ⟨_, rfl⟩
    have N3 : Below v3.heap.size v3 u3 := by subst hu3; exact (Below.refl _ _).alloc (Nat.le_refl _) _
    have D3 : C3 u3 v3.heap.size (.int .i64 x3) (.int .i64 y3) (.slice a3 n3 c3) := by subst hu3; exact ⟨by simp, by simp, by simp⟩
    rw [hu3]
    clear hu3
    have Y3 : Below u2.heap.size u2 u3 := h3.trans (N3.mono h3.size)
    have X3 : Below wc.heap.size wc u3 := X2.trans (Y3.mono X2.size)
    have F3 : Fr u3 wc.heap.size (.slice a3 n3 c3) := (F3.keep N3).mono X2.size
    have F1 := F1.keep Y3
    have D1 := D1.keep Y3
    have F2 := F2.keep Y3
    have D2 := D2.keep Y3
    obtain ⟨b3, hv3⟩ : ∃ b, v3.heap.size = b := ⟨_, rfl⟩
    rw [hv3] at D3 ⊢
    clear hv3 N3
    have g0 := cell_keep g0 Y3
    have g1 := cell_keep g1 Y3
    have g2 := cell_keep g2 Y3
    have q0 := cell_keep q0 Y3
    have q1 := cell_keep q1 Y3
    have q2 := cell_keep q2 Y3
    clear Y3 h3 X2
    -- call 4
    go_wp2_with fail
    refine (k11 _ (hBw.trans (X3.mono hszw))).mono ?_
    rintro e v4 ⟨x4, y4, s4, e4, rfl, h4, F4⟩
    obtain ⟨a4, n4, c4, rfl⟩ := F4.sl
    go_upto_region 6 with fail
    obtain ⟨u4, hu4⟩ : ∃ u4, v4.alloc (.cells #[.int .i64 x4, .int .i64 y4, .slice a4 n4 c4] 24) = u4 := ⟨_, rfl⟩
    have N4 : Below v4.heap.size v4 u4 := by subst hu4; exact (Below.refl _ _).alloc (Nat.le_refl _) _
    have D4 : C3 u4 v4.heap.size (.int .i64 x4) (.int .i64 y4) (.slice a4 n4 c4) := by subst hu4; exact ⟨by simp, by simp, by simp⟩
    rw [hu4]
    clear hu4
    have Y4 : Below u3.heap.size u3 u4 := h4.trans (N4.mono h4.size)
    have X4 : Below wc.heap.size wc u4 := X3.trans (Y4.mono X3.size)
    have F4 : Fr u4 wc.heap.size (.slice a4 n4 c4) := (F4.keep N4).mono X3.size
    have F1 := F1.keep Y4
    have D1 := D1.keep Y4
    have F2 := F2.keep Y4
    have D2 := D2.keep Y4
    have F3 := F3.keep Y4
    have D3 := D3.keep Y4
    obtain ⟨b4, hv4⟩ : ∃ b, v4.heap.size = b := ⟨_, rfl⟩
    rw [hv4] at D4 ⊢
    clear hv4 N4
    have g0 := cell_keep g0 Y4
    have g1 := cell_keep g1 Y4
    have g2 := cell_keep g2 Y4
    have q0 := cell_keep q0 Y4
    have q1 := cell_keep q1 Y4
    have q2 := cell_keep q2 Y4
    clear Y4 h4 X3
    -- call 5
    go_wp2_with fail
    refine (k12 _ (hBw.trans (X4.mono hszw))).mono ?_
    rintro e v5 ⟨x5, y5, s5, e5, rfl, h5, F5⟩
    obtain ⟨a5, n5, c5, rfl⟩ := F5.sl
    go_upto_region 7 with fail
    obtain ⟨u5, hu5⟩ : ∃ u5, v5.alloc (.cells #[.int .i64 x5, .int .i64 y5, .slice a5 n5 c5] 24) = u5 := ⟨_, rfl⟩
    have N5 : Below v5.heap.size v5 u5 := by subst hu5; exact (Below.refl _ _).alloc (Nat.le_refl _) _
    have D5 : C3 u5 v5.heap.size (.int .i64 x5) (.int .i64 y5) (.slice a5 n5 c5) := by subst hu5; exact ⟨by simp, by simp, by simp⟩
    rw [hu5]
    clear hu5
    have Y5 : Below u4.heap.size u4 u5 := h5.trans (N5.mono h5.size)
    have X5 : Below wc.heap.size wc u5 := X4.trans (Y5.mono X4.size)
    have F5 : Fr u5 wc.heap.size (.slice a5 n5 c5) := (F5.keep N5).mono X4.size
    have F1 := F1.keep Y5
    have D1 := D1.keep Y5
    have F2 := F2.keep Y5
    have D2 := D2.keep Y5
    have F3 := F3.keep Y5
    have D3 := D3.keep Y5
    have F4 := F4.keep Y5
    have D4 := D4.keep Y5
    obtain ⟨b5, hv5⟩ : ∃ b, v5.heap.size = b := ⟨_, rfl⟩
    rw [hv5] at D5 ⊢
    clear hv5 N5
    have g0 := cell_keep g0 Y5
    have g1 := cell_keep g1 Y5
    have g2 := cell_keep g2 Y5
    have q0 := cell_keep q0 Y5
    have q1 := cell_keep q1 Y5
    have q2 := cell_keep q2 Y5
    clear Y5 h5 X4
    obtain ⟨d0, d1, d2⟩ := hbf.keep X5
    have hct5 := hct.keep X5
    go_wp2_with fail
    refine (k13 u5 w1.heap.size a m c (hBw.trans (X5.mono hszw)) hct5).mono ?_
    rintro e v6 ⟨rfl, h6⟩
    have F1 := F1.keep h6
    have F2 := F2.keep h6
    have F3 := F3.keep h6
    have F4 := F4.keep h6
    have F5 := F5.keep h6
    obtain ⟨D10, D11, D12⟩ := D1.keep h6
    obtain ⟨D20, D21, D22⟩ := D2.keep h6
    obtain ⟨D30, D31, D32⟩ := D3.keep h6
    obtain ⟨D40, D41, D42⟩ := D4.keep h6
    obtain ⟨D50, D51, D52⟩ := D5.keep h6
    have X6 : Below wc.heap.size wc v6 := X5.trans (h6.mono X5.size)
    clear h6 X5 D1 D2 D3 D4 D5 g0 g1 g2 q0 q1 q2 d0 d1 d2
    go_wp2_with fail
    obtain ⟨u6, hu6⟩ : ∃ u6, v6.alloc (.cells #[.int .i64 x1, .int .i64 y1, .slice a1 n1 c1, .int .i64 x2, .int .i64 y2, .slice a2 n2 c2, .int .i64 x3, .int .i64 y3, .slice a3 n3 c3, .int .i64 x4, .int .i64 y4, .slice a4 n4 c4, .int .i64 x5, .int .i64 y5, .slice a5 n5 c5] 24) = u6 := ⟨_, rfl⟩
    have N6 : Below v6.heap.size v6 u6 := by subst hu6; exact (Below.refl _ _).alloc (Nat.le_refl _) _
    have hr : u6.heap[v6.heap.size]? = some (.cells #[.int .i64 x1, .int .i64 y1, .slice a1 n1 c1, .int .i64 x2, .int .i64 y2, .slice a2 n2 c2, .int .i64 x3, .int .i64 y3, .slice a3 n3 c3, .int .i64 x4, .int .i64 y4, .slice a4 n4 c4, .int .i64 x5, .int .i64 y5, .slice a5 n5 c5] 24 (0, 0)) := by subst hu6; exact heap_alloc_new _ _
    have hA : Arr u6 v6.heap.size wc.heap.size := by
      intro k hk
      match k, hk with
      | 0, _ => exact ⟨x1, y1, a1, n1, c1, by rw [cell_of_row _ _ _ _ _ _ hr]; rfl, by rw [cell_of_row _ _ _ _ _ _ hr]; rfl, by rw [cell_of_row _ _ _ _ _ _ hr]; rfl, F1.keep N6, F1.blk⟩
      | 1, _ => exact ⟨x2, y2, a2, n2, c2, by rw [cell_of_row _ _ _ _ _ _ hr]; rfl, by rw [cell_of_row _ _ _ _ _ _ hr]; rfl, by rw [cell_of_row _ _ _ _ _ _ hr]; rfl, F2.keep N6, F2.blk⟩
      | 2, _ => exact ⟨x3, y3, a3, n3, c3, by rw [cell_of_row _ _ _ _ _ _ hr]; rfl, by rw [cell_of_row _ _ _ _ _ _ hr]; rfl, by rw [cell_of_row _ _ _ _ _ _ hr]; rfl, F3.keep N6, F3.blk⟩
      | 3, _ => exact ⟨x4, y4, a4, n4, c4, by rw [cell_of_row _ _ _ _ _ _ hr]; rfl, by rw [cell_of_row _ _ _ _ _ _ hr]; rfl, by rw [cell_of_row _ _ _ _ _ _ hr]; rfl, F4.keep N6, F4.blk⟩
      | 4, _ => exact ⟨x5, y5, a5, n5, c5, by rw [cell_of_row _ _ _ _ _ _ hr]; rfl, by rw [cell_of_row _ _ _ _ _ _ hr]; rfl, by rw [cell_of_row _ _ _ _ _ _ hr]; rfl, F5.keep N6, F5.blk⟩
    have X7 : Below wc.heap.size wc u6 := X6.trans (N6.mono X6.size)
    rw [hu6]
    clear hu6 hr N6 X6 F1 F2 F3 F4 F5
    obtain ⟨bA, hbA⟩ : ∃ bA, v6.heap.size = bA := ⟨_, rfl⟩
    rw [hbA] at hA ⊢
    clear hbA
    go_loopw [93] (fun i wr => ∃ k : Nat, k ≤ 5 ∧ i = .int .i64 k ∧ Below wc.heap.size wc wr ∧ Arr wr bA wc.heap.size) (fun i _ => 5 - (intOf i).toNat)
    case atStart => exact ⟨0, Nat.zero_le _, rfl, X7, hA⟩
    case round =>
      obtain ⟨k, hk, rfl, hX, hAr⟩ := hrel
      by_cases hlt : k < 5
      · obtain ⟨x, y, a, n, c, A0, A1, A2, FF, Fb⟩ := hAr k hlt
        rcases FF with ⟨a', e'⟩ | ⟨b, n', c', cur, e', hBb, hrow, hsz, hnc, hcm⟩
        · cases e'
          go_wp2
          go_loopw [105] (fun i wr => i = .int .i64 0 ∧ Below wc.heap.size wc wr ∧ Arr wr bA wc.heap.size) (fun i _ => 0)
          case atStart => exact ⟨rfl, hX.alloc hX.size _, hAr.keep ((Below.refl _ _).alloc (Nat.le_refl _) _)⟩
          case round =>
            obtain ⟨rfl, hX2, hAr2⟩ := hrel
            go_wp2
            go_roundw
            case rel => exact ⟨k + 1, by omega, by simp, hX2, hAr2⟩
            case measure => simp [intOf]; omega
        · cases e'
          go_wp2
          have hFb : Fr (wr.alloc (.cells #[.int .i64 x, .int .i64 y, .slice (some ⟨b, 0, none⟩) n c] 24)) wc.heap.size (.slice (some ⟨b, 0, none⟩) n c) := Fr.keep (.inr ⟨b, n, c, cur, rfl, hBb, hrow, hsz, hnc, hcm⟩) ((Below.refl _ _).alloc (Nat.le_refl _) _)
          go_loopw [105] (fun i wr => ∃ j : Nat, j ≤ c ∧ i = .int .i64 j ∧ Below wc.heap.size wc wr ∧ Arr wr bA wc.heap.size ∧ Fr wr wc.heap.size (.slice (some ⟨b, 0, none⟩) n c)) (fun i _ => c - (intOf i).toNat)
          case atStart => exact ⟨0, Nat.zero_le _, rfl, hX.alloc hX.size _, hAr.keep ((Below.refl _ _).alloc (Nat.le_refl _) _), hFb⟩
          case round =>
            obtain ⟨j, hj, rfl, hX2, hAr2, hF2⟩ := hrel
            by_cases hlj : j < c
            · rcases hF2 with ⟨a', e'⟩ | ⟨b', n', c', cur2, e', hBb2, hrow2, hsz2, hnc2, hcm2⟩
              · cases e'
                omega
              · cases e'
                have hbA : b < bA := Fb b 0 rfl (by omega)
                have cell : ∀ i, i < 4 → ∃ v, wr.cell? ⟨b, j * 4 + i, none⟩ = some v ∧ wr.frozen? ⟨b, j * 4 + i, none⟩ = false := fun i hi => ⟨_, (hrow2.cell _).trans (Array.getElem?_eq_getElem (by omega)), hrow2.free _ (by omega)⟩
                obtain ⟨o0, l0, f0⟩ := cell 0 (by decide)
                obtain ⟨o1, l1, f1⟩ := cell 1 (by decide)
                obtain ⟨o2, l2, f2⟩ := cell 2 (by decide)
                obtain ⟨o3, l3, f3⟩ := cell 3 (by decide)
                rw [Nat.add_zero] at l0 f0
                clear cell
                have hjb := wr_len j c hlj hcm2
                go_wp2
                go_roundw
                case rel => exact ⟨j + 1, hlj, by simp, (((hX2.setCell hBb2 _).setCell hBb2 _).setCell hBb2 _).setCell hBb2 _, (((hAr2.set _ _ _ hbA).set _ _ _ hbA).set _ _ _ hbA).set _ _ _ hbA, Fr.set (Fr.set (Fr.set (Fr.set (.inr ⟨b, n, c, cur2, rfl, hBb2, hrow2, hsz2, hnc2, hcm2⟩) _ _ _) _ _ _) _ _ _) _ _ _⟩
                case measure => simp [intOf]; omega
            · obtain rfl : j = c := by omega
              go_wp2
              go_roundw
              case rel => exact ⟨k + 1, by omega, by simp, hX2, hAr2⟩
              case measure => simp [intOf]; omega
      · obtain rfl : k = 5 := by omega
        obtain ⟨d0, d1, d2⟩ := hbf.keep hX
        obtain ⟨g0, g1, g2⟩ := hgW.keep hX
        have hctr := hct.keep hX
        go_wp2_with fail
        refine (k5 _).mono ?_
        rintro e v7 ⟨rfl, h7⟩
        have d0 := cell_keep d0 h7
        have d1 := cell_keep d1 h7
        have d2 := cell_keep d2 h7
        have g0 := cell_keep g0 h7
        have g1 := cell_keep g1 h7
        have g2 := cell_keep g2 h7
        have X8 : Below wc.heap.size wc v7 := hX.trans (h7.mono hX.size)
        go_wp2_with fail
        refine (k13 v7 w1.heap.size a m c (hBw.trans (X8.mono hszw)) (hctr.keep h7)).mono ?_
        rintro e v8 ⟨rfl, h8⟩
        go_wp2
        go_ret
        exact ⟨rfl, (hBw.trans (X8.mono hszw)).trans (h8.mono (Nat.le_trans hszw X8.size))⟩
theorem rep_on {E : Nat → Prop} {w W : World} {x : PD} {v : Value} (hB : Below w.heap.size w W) (h : RepD E w x v) : RepD NoX W x v :=
  RepD.keep ⟨hB.size, fun b hb _ => ⟨hB.block b hb, fun h => h.elim⟩⟩ x v h
/-- A slice of its own that a call told is a row of cells. -/
theorem told_of {n f : Nat} {args : List PV} {m : Nat} {cs : List PD} (h : lev codes base0 n f args [] = some (.r (.own 0 36 4 m cs), [])) (hcs : cs.all pInt = true) {W : World} {vs : List Value} (hargs : RepL NoX W (fun _ _ => False) args vs) :
    Calls Go.Proofs.Try.prog f vs.toArray W fun e W' => ∃ s, e = .returned s ∧ Below W.heap.size W W' ∧ Cont W' W.heap.size (rowI cs) s := by
  refine (lev_calls (base0_snd _) codes_ok h hargs).mono ?_
  rintro e w' ⟨v, φ1, β, rfl, hbl, ho⟩
  refine ⟨v, rfl, hbl, ?_⟩
  have hr : RefOut φ1 [] β (.own 0 36 4 m cs) v := ho.rep
  have hown := ho.own (0, .own 36 4 cs) (by show _ ∈ [(0, Blk.own 36 4 cs)]; simp)
  obtain ⟨_, hlen, hr⟩ := hr
  cases hβ : β 0 with
  | nil a =>
    simp only [hβ] at hr
    obtain ⟨rfl, rfl⟩ := hr
    exact .inl ⟨rfl, _, rfl⟩
  | blk b c =>
    simp only [hβ] at hr hown
    obtain ⟨rfl, hmc⟩ := hr
    obtain ⟨_, cur, xs, p1, p2, p3, p4, p5, p6, p7⟩ := hown
    have hx := rowI_rep hcs p7
    exact .inr ⟨b, m, c, cur, rfl, by rw [rowI_len, hlen], hmc, p3, (ho.new 0 b c hβ).1, p1, by rw [rowI_len, p6, hx]⟩
/-- What the grid's functions tell. -/
theorem tells_of {n f : Nat} {args : List PV} {m : Nat} {cs : List PD} {x y k : Int} (h : lev codes base0 n f args [] = some (.tup [.agg [.d (.int .i64 x), .d (.int .i64 y), .r (.own 0 36 4 m cs)], .d (.int .i64 k)], [])) {W : World} {vs : List Value} (hargs : RepL NoX W (fun _ _ => False) args vs) :
    Tells Go.Proofs.Try.prog f vs.toArray W := by
  refine (lev_calls (base0_snd _) codes_ok h hargs).mono ?_
  rintro e w' ⟨v, φ1, β, rfl, hbl, ho⟩
  have hr : RepV _ w' (RefOut φ1 [] β) (.tup [.agg [.d (.int .i64 x), .d (.int .i64 y), .r (.own 0 36 4 m cs)], .d (.int .i64 k)]) v := ho.rep
  have hown := ho.own (0, .own 36 4 cs) (by show _ ∈ [(0, Blk.own 36 4 cs)]; simp)
  obtain ⟨⟨l⟩, rfl, v1, r1, e1, ⟨⟨l2⟩, rfl, u1, s1, g1, hu1, u2, s2, g2, hu2, u3, s3, g3, hu3, hs3⟩, v2, r2, e2, hv2, hr2⟩ := hr
  have hu1 : u1 = .int .i64 x := hu1
  have hu2 : u2 = .int .i64 y := hu2
  have hv2 : v2 = .int .i64 k := hv2
  have hs3 : s3 = [] := hs3
  have hr2 : r2 = [] := hr2
  have hr : RefOut φ1 [] β (.own 0 36 4 m cs) u3 := hu3
  have g1 : l2 = u1 :: s1 := g1
  have e1 : l = .agg ⟨l2⟩ :: r1 := e1
  subst hr2 hs3 e2 g3 g2 g1 e1 hu1 hu2 hv2
  refine ⟨x, y, u3, k, rfl, hbl, ?_⟩
  obtain ⟨_, hlen, hr⟩ := hr
  cases hβ : β 0 with
  | nil a =>
    simp only [hβ] at hr
    obtain ⟨rfl, rfl⟩ := hr
    exact .inl ⟨_, rfl⟩
  | blk b c =>
    simp only [hβ] at hr hown
    obtain ⟨rfl, hmc⟩ := hr
    obtain ⟨_, cur, xs, p1, p2, p3, p4, p5, p6, p7⟩ := hown
    exact .inr ⟨b, m, c, cur, rfl, (ho.new 0 b c hβ).1, p1, p2, hmc, p3⟩
theorem cont_rep {W : World} {B : Nat} {cs : List PD} {u : Value} (hp : cs.all pInt = true) (h : Cont W B (rowI cs) u) : RepD NoX W (.sl (cs.length / 4) cs) u := by
  rcases h with ⟨h1, a, rfl⟩ | ⟨b, n, c, cur, rfl, h2, h3, h4, h5, h6, h7⟩
  · have : cs = [] := List.eq_nil_of_length_eq_zero (by rw [← rowI_len, h1]; rfl)
    subst this
    exact ⟨a, 0, rfl, Nat.le_refl _, Nat.zero_le _, fun _ => rfl, .inl rfl⟩
  · rw [rowI_len] at h2
    refine ⟨some ⟨b, 0, none⟩, c, by rw [h2, Nat.mul_div_cancel _ (by decide)], by omega, h4, nofun, .inr ⟨b, 0, rfl, fun hx => hx.elim, h6.lt, RepC.of fun j x hj => ?_⟩⟩
    obtain ⟨v, q1, q2⟩ := rowI_get (X := NoX) (w := W) j x hp hj
    refine ⟨v, ?_, q2⟩
    rw [Nat.zero_add, h6.cell]
    have hjl : j < (rowI cs).length := (List.getElem?_eq_some_iff.1 q1).1
    rw [← h7, List.getElem?_take, if_pos hjl] at q1
    simpa using q1
theorem wr1b (i : Nat) (h : i < 5000000000000) : IntKind.i64.wrap ((i : Int) + 1) = ((i + 1 : Nat) : Int) := by rw [i64w _ (by omega)]; omega
theorem same_cells2 (l : List GCell) (hl : l.length ≤ 4398046511104) : f30 l l = some true := by
  unfold f30
  rw [dt rfl, Bool.not_true, cf]
  unfold f30_j0
  have h := loop_to (body := f30_l1 l l) (fun i => (i : Int)) (.inl ()) l.length ?_ 0 (by omega) ?_
  · have h' : loopO (f30_l1 l l) 0 = some (.inl ()) := h
    rw [h', bs]; rfl
  · unfold f30_l1 f30_l1_j2
    rw [bcf (df (by omega)), cf]
  · intro i _ hi
    unfold f30_l1 f30_l1_j2 f30_l1_j3
    rw [bct (dt (by omega)), ct, idx_nat l i ⟨0, ⟨0, 0, 0⟩⟩ hi, bs, bs, dt rfl, dt rfl, dt rfl, dt rfl, wr1b i (by omega)]
    rfl
theorem same_grid2 (g : GGrid) (hl : g.Cells.length ≤ 4398046511104) : f13 g g = some true := by
  unfold f13
  rw [bct (dt rfl), bct (dt rfl), same_cells2 _ hl, bs]
theorem clone2 (l : List GCell) (hl : l.length ≤ 4398046511104) : f10 l = some l := by
  unfold f10; rw [app_ok 32 [] l (by simp; omega), bs]; rfl
end Go.Proofs.Ytjapcjeijpcpiaa.Pm
