/- clip: slices.Collect over rows of a screen, walked: a range over a function. -/
import Derived.Test.YtioikkmmjljedaaGreatDoorLb0
import Derived.RangeFuncNested
import Derived.RangeFuncBound
import Derived.RangeFuncCalls
import Derived.RangeFuncLeaves
import Derived.RangeFuncFrom
import Derived.RangeFuncBox
import Derived.Shelf.Abstract
import Derived.Shelf.RegionOpen
import Derived.OwnWalkIn
import Derived.TacticsInMore
import Derived.LoopNIn
import Derived.LoopIn
import Derived.Maps.AppendAt
import Derived.Test.YtioikkmmjljedaaGreatDoorProg
namespace Go.Proofs.YtioikkmmjljedaaGreatDoor.Cl
open Go Go.Proofs Go.RowKit Go.Shelf
attribute [local go_sem] Oper.semAt_some
set_option linter.unusedVariables false
/-- A range over a function whose body goes on in every round; what is handed over (C) may speak of the world. -/
theorem wp_rangeC {P : Program} {g : Operand} {t : Tmp} {assign body : Code} {Q : Exit → Act → World → Prop} {a : Act} {w : World} {gf : Nat} {lb : Array Value} (hg : a.eval g = .func (.func gf) #[] lb) (eg : ∀ args w, (callFunc gf args).run P w = .ok (.enter gf args) w)
    (C : List Value → Value → World → Prop) (Kp : World → World → Prop) (S : List Value → Prop)
    (hKt : ∀ {A B C : World}, Kp A B → Kp B C → Kp A C) (hKb : ∀ (W : World) (l : Nat) (o o' : Obj), w.heap.size ≤ l → W.heap[l]? = some o → o.isCells = false → Kp W (W.putObj l o'))
    (hseq : ∀ (l : Nat) (J : List Value → World → Prop) (W : World), Below w.heap.size w W → AbidesFrom W.heap.size J →
      (∀ pre x W1, J pre W1 → C pre x W1 → YieldAt Fence.wide 7 P l #[x] W1 fun e W' => e = .returned (.bool true) ∧ J (pre ++ [x]) W' ∧ Kp W1 W') → J [] W →
      CallsIn Fence.wide 8 P gf (#[.func (.yield l) #[] #[]] ++ lb) W fun e W' => (∃ v, e = .returned v) ∧ ∃ xs, S xs ∧ J xs W')
    (I : List Value → World → Prop) (hI : OwnFrom w.heap.size I) (hC : ∀ pre x, OwnFrom w.heap.size (fun (_ : Unit) W => C pre x W)) (h0 : I [] w) (a₁ : Value → Act)
    (hassign : ∀ (l : Nat) (x : Value) (W : World) (K : Act → World → Prop), K (a₁ x) W → assign.wpIn (Fence.wide.inRound l) 7 P (Exit.then K (fun _ _ _ => False)) { tmps := a.tmps.setIfInBounds t x, defers := [] } W)
    (hbody : ∀ (l : Nat) (pre : List Value) (x : Value) (W : World), I pre W → C pre x W → body.wpIn (Fence.wide.inRound l) 7 P (fun e _ W' => e = .normal ∧ KeepsOthers W W' ∧ Kp W W' ∧ I (pre ++ [x]) W') (a₁ x) W)
    (hdone : ∀ (D : Nat) (xs : List Value) (W : World), w.heap.size ≤ D → S xs → I xs W → W.heap[D]? = some (.deferred (some [])) → Q .normal { a with defers := { target := .collected D, args := #[] } :: a.defers } W) :
    (Code.rangeFunc g #[t] assign body).wpIn Fence.wide 9 P Q a w := by
  refine wpIn_rangeFunc fun fn hfn => ?_
  obtain ⟨rec, hrec⟩ : ∃ rec : LoopState → Loop, rec = fun st => { state := st, pending := none, fn, tmps := a.tmps, params := #[t], assign, body, defers := w.heap.size } := ⟨_, rfl⟩
  obtain ⟨W1, hW1⟩ : ∃ W1, (w.alloc (.deferred (some []))).alloc (.loop (rec .ready)) = W1 := ⟨_, rfl⟩
  have hs1 : W1.heap.size = w.heap.size + 2 := by rw [← hW1]; simp
  have hL1 : W1.heap[w.heap.size + 1]? = some (.loop (rec .ready)) := by
    rw [← hW1]; have := World.alloc_heap_new (w.alloc (.deferred (some []))) (.loop (rec .ready)); rwa [World.size_alloc] at this
  have hK1 : W1.heap[w.heap.size]? = some (.deferred (some [])) := by
    rw [← hW1]; exact (Below.heap_alloc _ _ _ (by simp)).trans (World.alloc_heap_new w _)
  have hI1 : I [] W1 := by rw [← hW1]; exact hI.alloc _ (hI.alloc _ h0)
  have hb1 : Below w.heap.size w W1 := by rw [← hW1]; exact ((Below.refl _ w).alloc (Nat.le_refl _) _).alloc (by simp) _
  refine ⟨w.heap.size + 1, [{ target := .collected w.heap.size, args := #[] }], W1, { target := .fn (.func gf) lb, args := #[.func (.yield (w.heap.size + 1)) #[] #[]] }, W1, gf, #[.func (.yield (w.heap.size + 1)) #[] #[]] ++ lb, W1, ?_, ?_, ?_, ?_, fun _ => by decide, ?_⟩
  · rw [← hW1, hrec]; exact run_enterLoop_outer _ _ _ _ _
  · simp only [resolve, hg]; simp [go_sem]
  · intro f' _; trivial
  · simp [invoke, go_sem, eg]
  · have up : ∀ {A B : World} {row : Option Nat}, (∀ r, row = some r → W1.heap.size ≤ r ∧ ∃ o : Obj, A.heap[r]? = some o ∧ o.isWalk = true) → ∀ r, row = some r → w.heap.size ≤ r ∧ ∃ o : Obj, A.heap[r]? = some o ∧ o.isCells = false :=
      fun hr r e => by obtain ⟨h, o, ho, hw⟩ := hr r e; exact ⟨by omega, o, ho, Obj.not_cells_of_walk hw⟩
    refine (hseq (w.heap.size + 1) (fun pre W => I pre W ∧ W.heap[w.heap.size + 1]? = some (.loop (rec .ready)) ∧ W.heap[w.heap.size]? = some (.deferred (some []))) W1 hb1
      (fun s A B row hs hg' hr => ⟨hI s A B row hs.1 hg' (up (B := B) hr), (grownBy_keeps hg' (fun r e => (hr r e).2) hs.2.1 rfl).trans hs.2.1, (grownBy_keeps hg' (fun r e => (hr r e).2) hs.2.2 rfl).trans hs.2.2⟩) ?_ ⟨hI1, hL1, hK1⟩).mono ?_
    · rintro pre x W ⟨hi, hl, hk⟩ hc
      have hlt : w.heap.size + 1 < W.heap.size := (Array.getElem?_eq_some_iff.1 hl).1
      have hy : (Instr.yield (w.heap.size + 1) #[x]).run P W = .ok (.round (w.heap.size + 1) fn (a.tmps.setIfInBounds t x) assign body) W := by
        have h := run_yield (P := P) (args := #[x]) hl (by rw [hrec]; rfl)
        rw [hrec] at h
        simpa using h
      refine ⟨fn, _, assign, body, hy, roundIn_of_wpIn hfn (hassign _ x W _ ⟨_, run_beginRound hl (by rw [hrec]), ?_⟩)⟩
      obtain ⟨W2, hW2⟩ : ∃ W2, W.putObj (w.heap.size + 1) (.loop { rec .ready with state := .busy }) = W2 := ⟨_, rfl⟩
      rw [hW2]
      have hl2 : W2.heap[w.heap.size + 1]? = some (.loop { rec .ready with state := .busy }) := by rw [← hW2]; exact World.putObj_heap_same hlt
      have hk2 : W2.heap[w.heap.size]? = some (.deferred (some [])) := by rw [← hW2]; exact (World.putObj_heap_other (by omega)).trans hk
      have hw2 : Kp W W2 := by rw [← hW2]; exact hKb _ _ _ _ (by omega) hl rfl
      have hi2 : I pre W2 := by rw [← hW2]; exact hI.putObj _ hi (by omega) hl rfl
      have hc2 : C pre x W2 := by rw [← hW2]; exact (hC pre x).putObj (s := ()) _ hc (by omega) hl rfl
      refine wpIn_mono (hbody _ pre x _ hi2 hc2) ?_
      rintro e a3 W3 ⟨rfl, hk3, hkp3, hi3⟩
      have hl3 := hk3.same _ _ hl2 rfl
      have he := run_endRound (P := P) none hl3
      rw [hrec] at he hl3
      refine ⟨_, _, he, rfl, ⟨hI.putObj _ hi3 (by omega) hl3 rfl, ?_, (World.putObj_heap_other (by omega)).trans (hk3.same _ _ hk2 rfl)⟩, hKt (hKt hw2 hkp3) (hKb _ _ _ _ (by omega) hl3 rfl)⟩
      rw [hrec]
      exact World.putObj_heap_same (Array.getElem?_eq_some_iff.1 hl3).1
    · rintro e W2 ⟨⟨v, rfl⟩, xs, hS, hi, hl, hk⟩
      refine ⟨none, _, by have := run_endLoop (P := P) hl (by rw [hrec]; simp); rw [hrec] at this; exact this, hdone _ xs _ (Nat.le_refl _) hS (hI.putObj _ hi (by omega) hl rfl) ((World.putObj_heap_other (by omega)).trans hk)⟩
/-- A slice value that holds a row of cells, in a block of its own kind. -/
def Cont (W : World) (B T k : Nat) (row : List Value) (v : Value) : Prop :=
  (row = [] ∧ ∃ a, v = .slice a 0 0) ∨ ∃ b n c cur f, v = .slice (some ⟨b, 0, none⟩) n c ∧ row.length = n * k ∧ n ≤ c ∧ c ≤ maxLen ∧ B ≤ b ∧ W.heap[b]? = some (.cells cur T f) ∧ cur.toList.take row.length = row ∧ (f = (0, 0) ∨ cur.size ≤ f.1) ∧ cur.size = c * k
def KeepT (T : Nat) (W W' : World) : Prop := ∀ (b : Nat) (cur : Array Value) (f : Nat × Nat), W.heap[b]? = some (.cells cur T f) → W'.heap[b]? = some (.cells cur T f)
theorem KeepT.refl (T : Nat) (W : World) : KeepT T W W := fun _ _ _ h => h
theorem KeepT.trans {T : Nat} {A B C : World} (h : KeepT T A B) (k : KeepT T B C) : KeepT T A C := fun b cur f q => k b cur f (h b cur f q)
theorem KeepT.grown {T : Nat} {W W' : World} {row : Option Nat} (h : W.grownBy W' row) (hr : ∀ r, row = some r → ∀ cur f, W.heap[r]? ≠ some (.cells cur T f)) : KeepT T W W' := fun b cur f q => by
  have hb : b < W.heap.size := (Array.getElem?_eq_some_iff.1 q).1
  rw [h.block b hb (fun e => hr b e.symm cur f q)]; exact q
theorem Cont.keep {W W' : World} {B T k : Nat} {row : List Value} {v : Value} (h : Cont W B T k row v) (hk : KeepT T W W') : Cont W' B T k row v := by
  rcases h with h | ⟨b, n, c, cur, f, h1, h2, h3, h4, h5, h6, h7⟩
  · exact .inl h
  · exact .inr ⟨b, n, c, cur, f, h1, h2, h3, h4, h5, hk _ _ _ h6, h7⟩
def Conts (B T k : Nat) (rows : List (List Value)) (pre : List Value) (W : World) : Prop := ∀ (i : Nat) (v : Value), pre[i]? = some v → ∃ row, rows[i]? = some row ∧ Cont W B T k row v
theorem Conts.keep {W W' : World} {B T k : Nat} {rows : List (List Value)} {pre : List Value} (h : Conts B T k rows pre W) (hk : KeepT T W W') : Conts B T k rows pre W' := fun i v hv => by
  obtain ⟨row, h1, h2⟩ := h i v hv
  exact ⟨row, h1, h2.keep hk⟩
theorem keepT_turn {T : Nat} {X Y : World} {row : Option Nat} {B : Nat} (hg : X.grownBy Y row) (hr : ∀ r, row = some r → B ≤ r ∧ ∃ o : Obj, X.heap[r]? = some o ∧ o.isCells = false) : KeepT T X Y :=
  KeepT.grown hg fun r e cur f q => by
    obtain ⟨_, o, ho, hc⟩ := hr r e
    rw [ho] at q; cases q; cases hc
theorem keepT_put {T : Nat} (W : World) (l : Nat) (o o' : Obj) (hl : W.heap[l]? = some o) (hc : o.isCells = false) : KeepT T W (W.putObj l o') := fun b cur f q => by
  have : b ≠ l := fun e => by subst e; rw [hl] at q; cases q; cases hc
  rw [World.putObj_heap_other this]; exact q
theorem infoRow : (Go.Proofs.Tryz.prog.info? 22).map (fun i => (i.zero, i.size, i.bytes)) = some (some (.slice none 0 0), 1, 24) := by kernel_rfl
set_option maxRecDepth 100000 in
set_option maxHeartbeats 2000000 in
/-- slices.AppendSeq(nil, seq): whatever comes, in a slice of its own. -/
theorem appendSeq (w : World) {gf : Nat} {lb : Array Value} (eg : ∀ args w, (callFunc gf args).run Go.Proofs.Tryz.prog w = .ok (.enter gf args) w) (rows : List (List Value)) (hrows : rows.length ≤ 1000000)
    (hseq : ∀ (l : Nat) (J : List Value → World → Prop) (W : World), Below w.heap.size w W → AbidesFrom W.heap.size J →
      (∀ pre x W1, J pre W1 → (∃ row, rows[pre.length]? = some row ∧ Cont W1 w.heap.size 51 4 row x) → YieldAt Fence.wide 7 Go.Proofs.Tryz.prog l #[x] W1 fun e W' => e = .returned (.bool true) ∧ J (pre ++ [x]) W' ∧ (KeepT 51 W1 W' ∧ Below w.heap.size W1 W')) → J [] W →
      CallsIn Fence.wide 8 Go.Proofs.Tryz.prog gf (#[.func (.yield l) #[] #[]] ++ lb) W fun e W' => (∃ v, e = .returned v) ∧ ∃ xs : List Value, xs.length = rows.length ∧ J xs W') :
    CallsIn Fence.wide 9 Go.Proofs.Tryz.prog 31 #[.slice none 0 0, .func (.func gf) #[] lb] w fun e W =>
      ∃ v, e = .returned v ∧ Below w.heap.size w W ∧ ∃ xs : List Value, xs.length = rows.length ∧ W.ownsRow w.heap.size 22 1 v xs.length xs ∧ Conts w.heap.size 51 4 rows xs W := by
  obtain ⟨i0, hi, hz0, hz1, hz2⟩ := info_parts infoRow
  refine callsIn_of_wp_marks Go.Proofs.Tryz.func31 rfl trivial ?_ rfl
  simp only [Go.Proofs.Tryz.ntmps31, List.size_toArray, List.length_cons, List.length_nil, Nat.reduceAdd, Nat.reduceSub, Array.replicate_succ, Array.replicate_zero, List.push_toArray, List.append_toArray, List.nil_append, List.cons_append]
  gi_wp2
  have hbx : Boxed (w.alloc (.cells #[.slice none 0 0] 47)) w.heap.size 47 (.slice none 0 0) := Boxed.new w 47 _
  refine wp_rangeC (P := Go.Proofs.Tryz.prog) rfl eg (fun pre x W => ∃ row, rows[pre.length]? = some row ∧ Cont W w.heap.size 51 4 row x) (fun W W' => KeepT 51 W W' ∧ Below w.heap.size W W') (fun xs => xs.length = rows.length)
    (fun h k => ⟨h.1.trans k.1, h.2.trans k.2⟩) (fun W l o o' hl h hc => ⟨keepT_put W l o o' h hc, (Below.refl w.heap.size W).grown (grownBy_putObj' W l o') (by have := (Array.getElem?_eq_some_iff.1 h).1; simp at hl; omega) (fun k e => by cases e; simp at hl; omega)⟩)
    (fun l J W hb hJ hY h0 => hseq l J W (((Below.refl _ w).alloc (Nat.le_refl _) _).trans (hb.mono (by simp))) hJ hY h0)
    (fun pre W => ((∃ v, Boxed W w.heap.size 47 v ∧ W.ownsRow w.heap.size 22 1 v pre.length pre ∧ True) ∧ Below w.heap.size w W) ∧ Conts w.heap.size 51 4 rows pre W ∧ pre.length ≤ rows.length)
    ?hI ?hC ?h0 (fun x => { tmps := #[.slice none 0 0, .func (.func gf) #[] lb, .pointer (some ⟨w.heap.size, 0, none⟩), undef, .slice none 0 0, x, .func (.func gf) #[] lb, x, undef, undef, undef, undef, undef], defers := [] }) ?assign ?body ?done
  case hI =>
    refine OwnFrom.and (OwnFrom.and (Own.from (holdsRow_own w.heap.size w.heap.size 47 22 1 (fun pre => pre.length) (fun pre => pre) (fun _ _ => True)) _) (ownFrom_below (Nat.le_refl _) (by simp))) ?_
    exact fun s A B row hs hg hr => ⟨hs.1.keep (keepT_turn hg hr), hs.2⟩
  case hC =>
    rintro pre x s A B row ⟨r, h1, h2⟩ hg hr
    exact ⟨r, h1, h2.keep (keepT_turn hg hr)⟩
  case h0 =>
    exact ⟨⟨⟨_, hbx, World.ownsRow_nil .., trivial⟩, (Below.refl _ w).alloc (Nat.le_refl _) _⟩, fun i v h => by simp at h, Nat.zero_le _⟩
  case assign =>
    intro l x W K hK
    gi_wp2
    exact hK
  case body =>
    rintro l pre x W ⟨⟨⟨v, hv, hrow, _⟩, hB⟩, hcs, hlen⟩ ⟨row, hr1, hr2⟩
    have hlt : pre.length < rows.length := (List.getElem?_eq_some_iff.1 hr1).1
    obtain ⟨xa, xn, xc, rfl⟩ : ∃ a n c, x = .slice a n c := by
      rcases hr2 with ⟨_, a, rfl⟩ | ⟨b, n, c, _, _, rfl, _⟩ <;> exact ⟨_, _, _, rfl⟩
    have hle := hB.size
    have hc := hv.cell
    gi_wp2_with (gi_at_builtin; refine wpListIn_append_own _ rfl _ _ 47 rfl w.heap.size 22 i0 (.slice none 0 0) 1 24 Go.Proofs.Tryz.underlying47 hi hz0 hz1 hz2 rfl (by decide) _ _ _ rfl (hrow.alloc _) ⟨W.heap.size, 0, none⟩ 1 1 [.slice xa xn xc] rfl rfl (cell_one_new _ _ _) (by simp [Value.oneCell']) (by unfold maxLen; omega) (by omega) (by simp; omega) ?_; intro v' w1 hown' hgrow _; obtain ⟨g', cap', rfl⟩ := ownsRow_succ hown'; obtain ⟨hv1, hv2, hw2, hk2, hb2⟩ := hv.appended (by decide) hrow hle (Nat.le_refl _) hown' hgrow; have hc1 := hv1.cell; have hf1 := hv1.frozen)
    have hkt : KeepT 51 W (w1.setCell ⟨w.heap.size, 0, none⟩ (.slice (some ⟨g', 0, none⟩) (pre.length + 1) cap')) := by
      have k1 : KeepT 51 W w1 := by
        have q : W.grownBy w1 v.ownBlock := (World.grownBy_alloc W _ v.ownBlock).trans hgrow
        refine KeepT.grown q fun r e cur f hc => ?_
        rcases hrow.2 with ⟨rfl, _⟩ | ⟨g, cap, cur', rfl, _, hgb, _⟩
        · cases e
        · cases e; rw [hgb] at hc; cases hc
      refine k1.trans fun b cur f q => ?_
      rw [Below.heap_setCell _ _ _ _ (fun e => ?_)]; · exact q
      subst e
      have := hv1
      unfold Boxed at this
      rw [this] at q; cases q
    refine ⟨hkt, ⟨⟨_, hv2, by simpa using hw2⟩, hB.trans hb2⟩, fun i u hu => ?_, hlt⟩
    · skip
      rw [List.getElem?_append] at hu
      split at hu
      · obtain ⟨rw', h1, h2⟩ := hcs i u hu
        exact ⟨rw', h1, h2.keep hkt⟩
      · rename_i hi
        have hi0 : i = pre.length := by
          have := (List.getElem?_eq_some_iff.1 hu).1
          simp at this; omega
        subst hi0
        simp at hu; subst hu
        exact ⟨row, hr1, hr2.keep hkt⟩
  case done =>
    rintro D ys W hD hS ⟨⟨⟨v, hv, hrow, _⟩, hB⟩, hcs, hlen⟩ hK
    have hc := hv.cell
    gi_wp2
    refine ⟨by simp, .inl ⟨_, _, rfl, run_takeDeferred hK, ?_⟩⟩
    refine ⟨_, results_tmp rfl _ _ _, _, rfl, ?_, ys, hS, ?_, ?_⟩
    · exact hB.trans (belowK_b (w := w) (Nat.le_refl _) W D _ _ (by simp at hD; omega) hK rfl rfl)
    · exact ownsRow_putObj hrow _ hK rfl
    · exact hcs.keep (keepT_put W D _ _ hK rfl)
set_option maxRecDepth 100000 in
set_option maxHeartbeats 2000000 in
/-- slices.Collect(seq). -/
theorem collect (w : World) {gf : Nat} {lb : Array Value} (eg : ∀ args w, (callFunc gf args).run Go.Proofs.Tryz.prog w = .ok (.enter gf args) w) (rows : List (List Value)) (hrows : rows.length ≤ 1000000)
    (hseq : ∀ (l : Nat) (J : List Value → World → Prop) (W : World), Below w.heap.size w W → AbidesFrom W.heap.size J →
      (∀ pre x W1, J pre W1 → (∃ row, rows[pre.length]? = some row ∧ Cont W1 w.heap.size 51 4 row x) → YieldAt Fence.wide 7 Go.Proofs.Tryz.prog l #[x] W1 fun e W' => e = .returned (.bool true) ∧ J (pre ++ [x]) W' ∧ (KeepT 51 W1 W' ∧ Below w.heap.size W1 W')) → J [] W →
      CallsIn Fence.wide 8 Go.Proofs.Tryz.prog gf (#[.func (.yield l) #[] #[]] ++ lb) W fun e W' => (∃ v, e = .returned v) ∧ ∃ xs : List Value, xs.length = rows.length ∧ J xs W') :
    Calls Go.Proofs.Tryz.prog 18 #[.func (.func gf) #[] lb] w fun e W =>
      ∃ v, e = .returned v ∧ Below w.heap.size w W ∧ ∃ xs : List Value, xs.length = rows.length ∧ W.ownsRow w.heap.size 22 1 v xs.length xs ∧ Conts w.heap.size 51 4 rows xs W := by
  have hA := callsIn_wide.1 (appendSeq w eg rows hrows hseq)
  go_enter Go.Proofs.Tryz.func18, Go.Proofs.Tryz.ntmps18
  go_wp2_with fail
  refine hA.mono ?_
  rintro e w1 ⟨v, rfl, h1, h2⟩
  go_wp2
  go_ret
  exact ⟨_, rfl, h1, h2⟩
/-- What a clone tells. -/
def Told (P : Program) (f : Nat) (args : Array Value) (W : World) (row : List Value) : Prop :=
  Calls P f args W fun e W' => ∃ v, e = .returned v ∧ Below W.heap.size W W' ∧ Cont W' W.heap.size 51 4 row v
theorem Cont.mono {W : World} {B B' T k : Nat} {row : List Value} {v : Value} (h : Cont W B T k row v) (hb : B' ≤ B) : Cont W B' T k row v := by
  rcases h with h | ⟨b, n, c, cur, f, h1, h2, h3, h4, h5, h6, h7⟩
  · exact .inl h
  · exact .inr ⟨b, n, c, cur, f, h1, h2, h3, h4, Nat.le_trans hb h5, h6, h7⟩
set_option maxRecDepth 100000 in
set_option maxHeartbeats 4000000 in
/-- clip.rows$1: the rows that are past, then those of the grid. -/
theorem rowsIter (w : World) (bs o : Nat) (hbs : bs < w.heap.size) (pa : Option Addr) (pn pc : Nat) (pv : Nat → Value) (g0 g1 g2 : Value) (hi : Nat) (rows : List (List Value)) (hlen : rows.length = pn + hi) (hsm : pn + hi ≤ 1000000)
    (hP : w.cell? ⟨bs, o + 32, none⟩ = some (.slice pa pn pc)) (h0 : w.cell? ⟨bs, o, none⟩ = some g0) (h1 : w.cell? ⟨bs, o + 1, none⟩ = some (.int .i64 hi)) (h2 : w.cell? ⟨bs, o + 2, none⟩ = some g2)
    (hpv : ∀ j, j < pn → ∃ pb po, pa = some ⟨pb, po, none⟩ ∧ pb < w.heap.size ∧ w.cell? ⟨pb, po + j, none⟩ = some (pv j)) (hsl : ∀ j, j < pn → ∃ a n c, pv j = .slice a n c)
    (kC : ∀ (W : World) (j : Nat) row, Below w.heap.size w W → j < pn → rows[j]? = some row → Told Go.Proofs.Tryz.prog 11 #[pv j] W row)
    (kR : ∀ (W : World) (j : Nat) row, Below w.heap.size w W → j < hi → rows[pn + j]? = some row → Told Go.Proofs.Tryz.prog 33 #[.agg #[g0, .int .i64 hi, g2], .int .i64 j] W row) :
    ∀ (l : Nat) (J : List Value → World → Prop) (W : World), Below w.heap.size w W → AbidesFrom W.heap.size J →
      (∀ pre x W1, J pre W1 → (∃ row, rows[pre.length]? = some row ∧ Cont W1 w.heap.size 51 4 row x) → YieldAt Fence.wide 7 Go.Proofs.Tryz.prog l #[x] W1 fun e W' => e = .returned (.bool true) ∧ J (pre ++ [x]) W' ∧ (KeepT 51 W1 W' ∧ Below w.heap.size W1 W')) → J [] W →
      CallsIn Fence.wide 8 Go.Proofs.Tryz.prog 32 (#[.func (.yield l) #[] #[]] ++ #[.pointer (some ⟨bs, o, none⟩)]) W fun e W' => (∃ v, e = .returned v) ∧ ∃ xs : List Value, xs.length = rows.length ∧ J xs W' := by
  intro l J W hb hJ hY hJ0
  have hP' := (hb.cell (p := ⟨bs, o + 32, none⟩) hbs).trans hP
  refine callsIn_of_wp Go.Proofs.Tryz.func32 rfl trivial ?_ rfl
  simp only [Go.Proofs.Tryz.ntmps32, List.size_toArray, List.length_cons, List.length_nil, Nat.reduceAdd, Nat.reduceSub, Array.replicate_succ, Array.replicate_zero, List.push_toArray, List.append_toArray, List.nil_append, List.cons_append]
  gi_wp2
  gi_loopw [9] (fun i wr => ∃ k : Nat, k ≤ pn ∧ i = .int .i64 k ∧ (∃ xs : List Value, xs.length = k ∧ J xs wr) ∧ Below w.heap.size w wr ∧ W.heap.size ≤ wr.heap.size)
    (fun i _ => pn - (intOf i).toNat)
  case atStart => exact ⟨0, Nat.zero_le _, rfl, ⟨[], rfl, hJ0⟩, hb, Nat.le_refl _⟩
  case round =>
    obtain ⟨k, hk, rfl, ⟨xs, hxs, hJs⟩, hbr, hsz⟩ := hrel
    by_cases hlt : k < pn
    · obtain ⟨pb, po, rfl, hpb, hcell⟩ := hpv k hlt
      obtain ⟨ca, cn, cc, hpvk⟩ := hsl k hlt
      rw [hpvk] at hcell
      have hcell' := (hbr.cell (p := ⟨pb, po + k, none⟩) hpb).trans hcell
      gi_wp2_with fail
      obtain ⟨row, hrow⟩ : ∃ row, rows[k]? = some row := ⟨_, List.getElem?_eq_getElem (by omega)⟩
      have hba : Below w.heap.size w (wr.alloc (.cells #[.slice ca cn cc] 56)) := hbr.alloc (hbr.size) _
      refine ⟨trivial, (callsIn_wide.2 (hpvk ▸ kC _ k row hba hlt hrow)).mono ?_⟩
      rintro e w2 ⟨v, rfl, hB2, hC2⟩
      have hb2 : Below w.heap.size w w2 := hba.trans (hB2.mono hba.size)
      have hJ2 : J xs w2 := hJ _ _ _ none (hJ _ _ _ none hJs (World.grownBy_alloc _ _ _) (fun r e => by cases e)) ⟨hB2.os, hB2.tape, hB2.output, hB2.size, fun b hb _ => hB2.block b hb⟩ (fun r e => by cases e)
      obtain ⟨fn, tmps, assign, body, hy, hR⟩ := hY xs v w2 hJ2 ⟨row, by rw [hxs]; exact hrow, hC2.mono (by have := hbr.size; simp; omega)⟩
      gi_wp2
      refine hR.mono ?_
      rintro e w3 ⟨rfl, hJ3, hk3, hb3⟩
      gi_wp2
      go_roundw
      case rel => exact ⟨k + 1, by omega, by simp, ⟨xs ++ [v], by simp [hxs], hJ3⟩, hb2.trans hb3, by have := hB2.size; have := hb3.size; simp at *; omega⟩
      case measure => simp [intOf]; omega
    · obtain rfl : k = pn := by omega
      have h1' := (hbr.cell (p := ⟨bs, o + 1, none⟩) hbs).trans h1
      gi_wp2
      gi_loopw [23] (fun i wr => ∃ k2 : Nat, k2 ≤ hi ∧ i = .int .i64 k2 ∧ (∃ xs : List Value, xs.length = k + k2 ∧ J xs wr) ∧ Below w.heap.size w wr ∧ W.heap.size ≤ wr.heap.size)
        (fun i _ => hi - (intOf i).toNat)
      case atStart => exact ⟨0, Nat.zero_le _, rfl, ⟨xs, by omega, hJs⟩, hbr, hsz⟩
      case round =>
        obtain ⟨k2, hk2, rfl, ⟨ys, hys, hJy⟩, hbr2, hsz2⟩ := hrel
        by_cases hlt2 : k2 < hi
        · have h0' := (hbr2.cell (p := ⟨bs, o, none⟩) hbs).trans h0
          have h1'' := (hbr2.cell (p := ⟨bs, o + 1, none⟩) hbs).trans h1
          have h2' := (hbr2.cell (p := ⟨bs, o + 2, none⟩) hbs).trans h2
          gi_wp2_with fail
          obtain ⟨row, hrow⟩ : ∃ row, rows[k + k2]? = some row := ⟨_, List.getElem?_eq_getElem (by omega)⟩
          refine ⟨trivial, (callsIn_wide.2 (kR _ k2 row hbr2 hlt2 hrow)).mono ?_⟩
          rintro e w2 ⟨v, rfl, hB2, hC2⟩
          have hb2 : Below w.heap.size w w2 := hbr2.trans (hB2.mono hbr2.size)
          have hJ2 : J ys w2 := hJ _ _ _ none hJy ⟨hB2.os, hB2.tape, hB2.output, hB2.size, fun b hb _ => hB2.block b hb⟩ (fun r e => by cases e)
          obtain ⟨fn, tmps, assign, body, hy, hR⟩ := hY ys v w2 hJ2 ⟨row, by rw [hys]; exact hrow, hC2.mono hbr2.size⟩
          gi_wp2
          refine hR.mono ?_
          rintro e w3 ⟨rfl, hJ3, hk3, hb3⟩
          gi_wp2
          go_roundw
          case rel => exact ⟨k2 + 1, by omega, by simp, ⟨ys ++ [v], by simp [hys]; omega, hJ3⟩, hb2.trans hb3, by have := hB2.size; have := hb3.size; omega⟩
          case measure => simp [intOf]; omega
        · obtain rfl : k2 = hi := by omega
          gi_wp2
          go_end0
          exact ⟨⟨_, rfl⟩, ys, by omega, hJy⟩
/-- slices.Collect(rows(s)). -/
theorem collectRows (w : World) (bs o : Nat) (hbs : bs < w.heap.size) (pa : Option Addr) (pn pc : Nat) (pv : Nat → Value) (g0 g2 : Value) (hi : Nat) (rows : List (List Value)) (hlen : rows.length = pn + hi) (hsm : pn + hi ≤ 1000000)
    (hP : w.cell? ⟨bs, o + 32, none⟩ = some (.slice pa pn pc)) (h0 : w.cell? ⟨bs, o, none⟩ = some g0) (h1 : w.cell? ⟨bs, o + 1, none⟩ = some (.int .i64 hi)) (h2 : w.cell? ⟨bs, o + 2, none⟩ = some g2)
    (hpv : ∀ j, j < pn → ∃ pb po, pa = some ⟨pb, po, none⟩ ∧ pb < w.heap.size ∧ w.cell? ⟨pb, po + j, none⟩ = some (pv j)) (hsl : ∀ j, j < pn → ∃ a n c, pv j = .slice a n c)
    (kC : ∀ (W : World) (j : Nat) row, Below w.heap.size w W → j < pn → rows[j]? = some row → Told Go.Proofs.Tryz.prog 11 #[pv j] W row)
    (kR : ∀ (W : World) (j : Nat) row, Below w.heap.size w W → j < hi → rows[pn + j]? = some row → Told Go.Proofs.Tryz.prog 33 #[.agg #[g0, .int .i64 hi, g2], .int .i64 j] W row) :
    Calls Go.Proofs.Tryz.prog 18 #[.func (.func 32) #[] #[.pointer (some ⟨bs, o, none⟩)]] w fun e W =>
      ∃ v, e = .returned v ∧ Below w.heap.size w W ∧ ∃ xs : List Value, xs.length = rows.length ∧ W.ownsRow w.heap.size 22 1 v xs.length xs ∧ Conts w.heap.size 51 4 rows xs W :=
  collect w (enters_of Go.Proofs.Tryz.func32 (by kernel_rfl) rfl) rows (by omega) (rowsIter w bs o hbs pa pn pc pv g0 (.int .i64 hi) g2 hi rows hlen hsm hP h0 h1 h2 hpv hsl kC kR)
end Go.Proofs.YtioikkmmjljedaaGreatDoor.Cl
