/- client.New: its loop over a map of its own, walked: whatever the order, ten cells are written. -/
import Derived.Test.YtobkkblijfhpoaaGreatDoorMpR
import Derived.Test.YtobkkblijfhpoaaGreatDoorProg
import Derived.Lib.BufferMore
namespace Go.Proofs.YtobkkblijfhpoaaGreatDoor.Mp
open Go Go.Proofs Go.RowKit Go.Proofs.YtobkkblijfhpoaaGreatDoor.Pm Go.Maps
set_option linter.unusedVariables false
set_option linter.unusedSimpArgs false
section
variable {P : Program} {ops : Array Oper} {rest : List Oper} {o : Oper} {a : Act} {w w' : World} {Q : Exit → Act → World → Prop}
theorem wpl {v : Value} (hg : o.guard = none) (hr : (execOp a.eval o).run P w = .ok (.value v) w') (h : wpList P ops Q rest (a.put o.dst v) w') : wpList P ops Q (o :: rest) a w :=
 wpList_plain hg fun K hK => by unfold Oper.wp; rw [hr]; exact hK _ _ h
theorem wps (hg : o.guard = none) (hr : (execOp a.eval o).run P w = .ok .skip w') (h : wpList P ops Q rest (a.put o.dst undef) w') : wpList P ops Q (o :: rest) a w :=
 wpList_plain hg fun K hK => by unfold Oper.wp; rw [hr]; exact hK _ _ h
end
theorem ev_same {a : Act} {d : Nat} {v : Value} (h : d < a.tmps.size) : (a.put (some d) v).eval (.tmp d) = v := by rw [eval_put h, if_pos rfl]
theorem ev_ne {a : Act} {d t : Nat} {v : Value} (h : t ≠ d) : (a.put (some d) v).eval (.tmp t) = a.eval (.tmp t) := by
 simp only [Act.put, Act.eval, Array.getD_eq_getD_getElem?, Array.getElem?_setIfInBounds_ne (Ne.symm h)]
theorem put_size {a : Act} {x : Option Nat} {v : Value} : (a.put x v).tmps.size = a.tmps.size := by cases x <;> simp [Act.put]
theorem put_def {a : Act} {x : Option Nat} {v : Value} : (a.put x v).defers = a.defers := by cases x <;> rfl
theorem ev_const {a : Act} {v : Value} : a.eval (.const v) = v := rfl
theorem put_none {a : Act} {v : Value} : a.put none v = a := rfl
theorem grown_trans {a b c : World} {row : Option Nat} (h : a.grownBy b row) (k : b.grownBy c row) : a.grownBy c row :=
 ⟨k.os.trans h.os, k.tape.trans h.tape, k.output.trans h.output, Nat.le_trans h.size k.size, fun i hi hr => (k.block i (Nat.lt_of_lt_of_le hi h.size) hr).trans (h.block i hi hr)⟩
def T (t : Nat) : Bool := Nat.beq t 18 || Nat.beq t 19 || (Nat.ble 58 t && Nat.ble t 75)
def ks : List (Int × Int) := [(10, 127), (11, 21), (12, 23), (13, 18), (14, 22)]
def D5 : DataW Unit := .map (ks.map fun x => (.int .i64 x.1, .lit (.int .u8 x.2)))
def fs : Code → Code
 | .seq x _ => x
 | c => c
def sn : Code → Code
 | .seq _ y => y
 | c => c
noncomputable def newBody : Code := match Go.Proofs.Tryz.f11.body with
 | some c => c
 | none => .skip
noncomputable def newL : Code := fs (sn (sn (sn (sn (sn (sn newBody))))))
def cel (o0 : Nat) (left : Lit → Bool) (vs : List Value) (j : Nat) : Option Value :=
 if o0 + 578 ≤ j ∧ j ≤ o0 + 582 ∧ left (.int .i64 ((j - o0 - 568 : Nat) : Int)) = false then some (.int .u8 2)
 else if o0 + 597 ≤ j ∧ j ≤ o0 + 601 ∧ left (.int .i64 ((j - o0 - 587 : Nat) : Int)) = false then some (.int .u8 ([127, 21, 23, 18, 22].getD (j - o0 - 597) 0)) else vs[j]?
structure LI (a0 : Act) (w0 : World) (bC : Nat) (T0 : TypeId) (o0 : Nat) (vs : List Value) (b r : Nat) (a : Act) (w : World) (left : Lit → Bool) (cnt : Nat) : Prop where
 size : a.tmps.size = 76
 defers : a.defers = a0.defers
 frame : ∀ t, T t = false → a.eval (.tmp t) = a0.eval (.tmp t)
 it : a.eval (.tmp 60) = .pointer (some ⟨r, 0, none⟩)
 rg : w.ranges Go.Proofs.Tryz.prog 3 (plainElem (H := Unit) Go.Proofs.Tryz.prog 5) b r 5 D5 left cnt
 sub : ∀ k, left k = true → Maps.has D5 k = true
 row : ∃ cur : Array Value, w.heap[bC]? = some (.cells cur T0 (0, 0)) ∧ cur.size = vs.length ∧ ∀ j, cur.toList[j]? = cel o0 left vs j
 gr : w0.grownBy w (some bC)
theorem cel_start (o0 : Nat) (vs : List Value) (j : Nat) : cel o0 (Maps.has D5) vs j = vs[j]? := by
 unfold cel
 have h1 : ¬ (o0 + 578 ≤ j ∧ j ≤ o0 + 582 ∧ Maps.has D5 (.int .i64 ((j - o0 - 568 : Nat) : Int)) = false) := by
  rintro ⟨h1, h2, h3⟩
  obtain ⟨q, hq⟩ : ∃ q, j - o0 - 568 = q := ⟨_, rfl⟩
  rw [hq] at h3
  have : q = 10 ∨ q = 11 ∨ q = 12 ∨ q = 13 ∨ q = 14 := by omega
  rcases this with rfl | rfl | rfl | rfl | rfl <;> cases h3
 have h2 : ¬ (o0 + 597 ≤ j ∧ j ≤ o0 + 601 ∧ Maps.has D5 (.int .i64 ((j - o0 - 587 : Nat) : Int)) = false) := by
  rintro ⟨h1, h2, h3⟩
  obtain ⟨q, hq⟩ : ∃ q, j - o0 - 587 = q := ⟨_, rfl⟩
  rw [hq] at h3
  have : q = 10 ∨ q = 11 ∨ q = 12 ∨ q = 13 ∨ q = 14 := by omega
  rcases this with rfl | rfl | rfl | rfl | rfl <;> cases h3
 rw [if_neg h1, if_neg h2]
theorem keys5 {x c : Int} (h : Maps.has D5 (.int .i64 x) = true) (hat : ∀ zd, D5.atKey (.int .i64 x) zd = .lit (.int .u8 c)) : ∃ m : Nat, m < 5 ∧ x = 10 + m ∧ c = [127, 21, 23, 18, 22].getD m 0 := by
 have hx : x = 10 ∨ x = 11 ∨ x = 12 ∨ x = 13 ∨ x = 14 := by
  simp [D5, ks, Maps.has, Lit.sameKey] at h
  omega
 have h0 := hat (.map [])
 rcases hx with rfl | rfl | rfl | rfl | rfl
 ·have h0 : (DataW.lit (.int .u8 127) : DataW Unit) = .lit (.int .u8 c) := h0
  cases h0; exact ⟨0, by decide, rfl, rfl⟩
 ·have h0 : (DataW.lit (.int .u8 21) : DataW Unit) = .lit (.int .u8 c) := h0
  cases h0; exact ⟨1, by decide, rfl, rfl⟩
 ·have h0 : (DataW.lit (.int .u8 23) : DataW Unit) = .lit (.int .u8 c) := h0
  cases h0; exact ⟨2, by decide, rfl, rfl⟩
 ·have h0 : (DataW.lit (.int .u8 18) : DataW Unit) = .lit (.int .u8 c) := h0
  cases h0; exact ⟨3, by decide, rfl, rfl⟩
 ·have h0 : (DataW.lit (.int .u8 22) : DataW Unit) = .lit (.int .u8 c) := h0
  cases h0; exact ⟨4, by decide, rfl, rfl⟩
theorem cel_step (o0 : Nat) (left : Lit → Bool) (vs : List Value) {m : Nat} (hm : m < 5) {c : Int} (hc : c = [127, 21, 23, 18, 22].getD m 0) (cur : List Value) (hl : o0 + 613 ≤ cur.length) (h : ∀ j, cur[j]? = cel o0 left vs j) (j : Nat) :
  ((cur.set (o0 + 578 + m) (.int .u8 2)).set (o0 + 597 + m) (.int .u8 c))[j]? = cel o0 (fun z => left z && !z.sameKey (.int .i64 (10 + m))) vs j := by
 have hk : ∀ y : Nat, (Lit.int .i64 (y : Int)).sameKey (.int .i64 (10 + m)) = decide (y = 10 + m) := fun y => by
  show decide (_ ∧ _) = _
  congr 1
  apply propext; constructor
  ·rintro ⟨_, h⟩; omega
  ·intro h; exact ⟨rfl, by omega⟩
 by_cases h2 : j = o0 + 597 + m
 ·subst h2
  rw [List.getElem?_set_self (by simp; omega)]
  unfold cel
  rw [if_neg (by omega), if_pos ⟨by omega, by omega, by show (left _ && !Lit.sameKey _ _) = false; rw [hk]; simp; omega⟩, hc, show o0 + 597 + m - o0 - 597 = m by omega]
 ·rw [List.getElem?_set_ne (Ne.symm h2)]
  by_cases h1 : j = o0 + 578 + m
  ·subst h1
   rw [List.getElem?_set_self (by omega)]
   unfold cel
   rw [if_pos ⟨by omega, by omega, by show (left _ && !Lit.sameKey _ _) = false; rw [hk]; simp; omega⟩]
  ·rw [List.getElem?_set_ne (Ne.symm h1), h j]
   unfold cel
   by_cases a1 : o0 + 578 ≤ j ∧ j ≤ o0 + 582
   ·have : decide (j - o0 - 568 = 10 + m) = false := by simp; omega
    have n2 : ∀ p : Prop, ¬ (o0 + 597 ≤ j ∧ j ≤ o0 + 601 ∧ p) := fun p q => by omega
    simp only [hk, this, Bool.not_false, Bool.and_true, if_neg (n2 _)]
   ·have n1 : ∀ p : Prop, ¬ (o0 + 578 ≤ j ∧ j ≤ o0 + 582 ∧ p) := fun p q => a1 ⟨q.1, q.2.1⟩
    by_cases a2 : o0 + 597 ≤ j ∧ j ≤ o0 + 601
    ·have : decide (j - o0 - 587 = 10 + m) = false := by simp; omega
     simp only [hk, this, Bool.not_false, Bool.and_true, if_neg (n1 _)]
    ·have n2 : ∀ p : Prop, ¬ (o0 + 597 ≤ j ∧ j ≤ o0 + 601 ∧ p) := fun p q => a2 ⟨q.1, q.2.1⟩
     simp only [if_neg (n1 _), if_neg (n2 _)]
theorem run_store1 {b o : Nat} {cur : Array Value} {T0 : TypeId} {w : World} {v : Int} (hb : w.heap[b]? = some (.cells cur T0 (0, 0))) (ho : o < cur.size) :
  (Instr.storeAt 5 (.pointer (some ⟨b, o, none⟩)) (.int .u8 v)).run Go.Proofs.Tryz.prog w = .ok () (w.setCell ⟨b, o, none⟩ (.int .u8 v)) := by
 have hr : RowAt w b cur T0 := .of hb
 obtain ⟨x, hx⟩ : ∃ x, w.cell? ⟨b, o, none⟩ = some x := ⟨cur[o], by rw [hr.cell]; simp [ho]⟩
 have hf := hr.free o ho
 have hn : sz? Go.Proofs.Tryz.prog 5 = some 1 := by kernel_rfl
 have hc : (Value.int .u8 v).cells = #[.int .u8 v] := rfl
 unfold Instr.storeAt Instr.sureAddr storeVar
 simp [run_sizeT hn, Sem.run_bind, Result.andThen, hc]
 have hst : (store ((⟨b, o, none⟩ : Addr).add 0) (.int .u8 v)).run Go.Proofs.Tryz.prog w = .ok () (w.setCell ⟨b, o, none⟩ (.int .u8 v)) := by
  rw [add_off, Nat.add_zero, run_store _ w _ _ _ rfl, hx]
  simp [hf]
 have hsc : (storeCells ⟨b, o, none⟩ [.int .u8 v]).run Go.Proofs.Tryz.prog w = .ok () (w.setCell ⟨b, o, none⟩ (.int .u8 v)) := by
  simp only [storeCells, Sem.run_bind, hst, Result.andThen_ok, Sem.run_pure]
 rw [hsc]
theorem wpi {ops : Array Oper} {rest : List Oper} {o : Oper} {a : Act} {w : World} {Q : Exit → Act → World → Prop} (hg : o.guard = none) (m x v : Operand) (hop : o.op = .insert 111 m x v) (hd : o.dst = none) {b n : Nat} {D : DataW Unit}
  (hm : a.eval m = .map (some b)) (hown : w.ownsMap Go.Proofs.Tryz.prog 3 (plainElem Go.Proofs.Tryz.prog 5) b n D) (hn : n < 100) {k c : Int} (hx : a.eval x = .int .i64 k) (hv : a.eval v = .int .u8 c) (hk : (Lit.int .i64 k).wf = true) (hc : (Lit.int .u8 c).wf = true)
  (hK : ∀ w', w'.ownsMap Go.Proofs.Tryz.prog 3 (plainElem Go.Proofs.Tryz.prog 5) b (n + 1) (D.put (.int .i64 k) (.lit (.int .u8 c))) → w.grownBy w' (some b) → wpList Go.Proofs.Tryz.prog ops Q rest a w') :
  wpList Go.Proofs.Tryz.prog ops Q (o :: rest) a w := by
 obtain ⟨w', hrun, r1, r2⟩ := hown.update (int_keyed Go.Proofs.Tryz.underlying3) Go.Proofs.Tryz.underlying111 (Nat.lt_of_lt_of_le hn (by unfold maxLen; omega)) (keyOf_int_mk Go.Proofs.Tryz.underlying3 hk) (plainElem_int Go.Proofs.Tryz.underlying5 hc)
 refine wpList_plain hg fun K' hK' => ?_
 unfold Oper.wp
 simp [execOp, hop, hm, hx, hv, hrun, Result.andThen]
 have := hK' _ _ (hK w' r1 r2)
 rw [Oper.upon_skip, hd]; exact this
theorem grown_new {w w' w'' : World} {b : Nat} (hb : b = w.heap.size) (h : w.grownBy w' none) (k : w'.grownBy w'' (some b)) : w.grownBy w'' none :=
 h.andThen k fun j e => by cases e; exact .inl (by omega)
set_option maxHeartbeats 1000000 in
set_option maxRecDepth 100000 in
theorem mapL {a : Act} {w : World} {Q : Exit → Act → World → Prop} {bC o0 : Nat} {T0 : TypeId} {vs : Array Value} (h14 : a.eval (.tmp 14) = .pointer (some ⟨bC, o0, none⟩)) (hN : a.tmps.size = 76) (hb : w.heap[bC]? = some (.cells vs T0 (0, 0))) (hsz : o0 + 613 ≤ vs.size)
  (hQ : ∀ a' w', a'.tmps.size = 76 → a'.defers = a.defers → (∀ t, T t = false → a'.eval (.tmp t) = a.eval (.tmp t)) → w.grownBy w' (some bC) → (∃ cur : Array Value, w'.heap[bC]? = some (.cells cur T0 (0, 0)) ∧ cur.size = vs.toList.length ∧ ∀ j, cur.toList[j]? = cel o0 (fun _ => false) vs.toList j) → Q .normal a' w') :
  newL.wp Go.Proofs.Tryz.prog Q a w := by
 unfold newL newBody
 simp only [fs, sn, Go.Proofs.Tryz.f11]
 refine wp_seq ?_
 refine wp_region_list ?_
 refine wpl rfl (v := .map (some w.heap.size)) (w' := w.alloc (.map #[] 0)) (by simp [execOp, run_makeMap]) ?_
 have K : Keyed Go.Proofs.Tryz.prog 3 := int_keyed Go.Proofs.Tryz.underlying3
 have hT : Go.Proofs.Tryz.prog.underlying 111 = some (.map 3 5) := Go.Proofs.Tryz.underlying111
 have o0 := World.ownsMap_made w Go.Proofs.Tryz.prog 3 (plainElem (H := Unit) Go.Proofs.Tryz.prog 5)
 have g0 : w.grownBy (w.alloc (.map #[] 0)) none := World.grownBy_alloc w _ none
 have hbw : bC < w.heap.size := (Array.getElem?_eq_some_iff.1 hb).1
 have e58 : (a.put (some 58) (.map (some w.heap.size))).eval (.tmp 58) = .map (some w.heap.size) := ev_same (by omega)
 generalize w.alloc (.map #[] 0) = w1 at *
 refine wpi rfl (.tmp 58) _ _ rfl rfl e58 o0 (by omega) rfl rfl (by decide) (by decide) fun w2 o1 g1 => ?_
 replace g1 := grown_new rfl g0 g1
 clear o0 g0
 refine wpi rfl (.tmp 58) _ _ rfl rfl e58 o1 (by omega) rfl rfl (by decide) (by decide) fun w3 o2 g2 => ?_
 replace g2 := grown_new rfl g1 g2
 clear o1 g1
 refine wpi rfl (.tmp 58) _ _ rfl rfl e58 o2 (by omega) rfl rfl (by decide) (by decide) fun w4 o3 g3 => ?_
 replace g3 := grown_new rfl g2 g3
 clear o2 g2
 refine wpi rfl (.tmp 58) _ _ rfl rfl e58 o3 (by omega) rfl rfl (by decide) (by decide) fun w5 o4 g4 => ?_
 replace g4 := grown_new rfl g3 g4
 clear o3 g3
 refine wpi rfl (.tmp 58) _ _ rfl rfl e58 o4 (by omega) rfl rfl (by decide) (by decide) fun w6 o5 g5 => ?_
 replace g5 := grown_new rfl g4 g5
 clear o4 g4
 replace o5 : w6.ownsMap Go.Proofs.Tryz.prog 3 (plainElem (H := Unit) Go.Proofs.Tryz.prog 5) w.heap.size 5 D5 := o5
 refine wpl rfl (v := .map (some w.heap.size)) (w' := w6) (by simp [execOp, e58]) ?_
 refine wpList_range_own w6 rfl (.tmp 59) 111 rfl 3 5 K hT (plainElem (H := Unit) Go.Proofs.Tryz.prog 5) w.heap.size 5 D5 (ev_same (by rw [put_size]; omega)) o5 ?_
 intro w7 r7 g7 hs7
 have gw : w.grownBy w7 none := g5.andThen g7 fun j e => by cases e
 have hr6 : w.heap.size < w6.heap.size := o5.lt
 obtain ⟨r, hr⟩ : ∃ r, w6.heap.size = r := ⟨_, rfl⟩
 rw [hr] at r7 hr6 ⊢
 clear o5 g5 g7
 refine wp_block ?_
 refine wp_loop (fun a' w' => ∃ left cnt, LI a w bC T0 o0 vs.toList w.heap.size r a' w' left cnt) (fun _ w' => w'.rangeLeft w.heap.size r) ⟨Maps.has D5, Maps.size D5, ?_⟩ ?_
 ·refine ⟨by simp only [put_size, hN], by simp only [put_def], fun t ht => ?_, ev_same (by simp only [put_size]; omega), r7, fun _ h => h, ⟨vs, (gw.block bC hbw (by simp)).trans hb, by simp, fun j => (cel_start _ _ _).symm⟩, ⟨gw.os, gw.tape, gw.output, gw.size, fun i hi _ => gw.block i hi (by simp)⟩⟩
  have h58 : t ≠ 58 := by rintro rfl; cases ht
  have h59 : t ≠ 59 := by rintro rfl; cases ht
  have h60 : t ≠ 60 := by rintro rfl; cases ht
  rw [ev_ne h60, ev_ne h59, ev_ne h58]
 clear r7 e58
 rintro a1 v1 ⟨left, cnt, L⟩
 refine wp_seq ?_
 refine wp_region_list ?_
 refine wpList_next_ranges_ii v1 rfl (.tmp 60) rfl 3 5 .i64 .u8 K Go.Proofs.Tryz.underlying3 Go.Proofs.Tryz.underlying5 w.heap.size r 5 D5 left cnt L.it L.rg ?_ ?_
 ·intro h0 hall
  refine wpl rfl (v := .bool false) (w' := v1) (by simp [execOp, ev_same (show 61 < a1.tmps.size by rw [L.size]; omega), Instr.extract]) ?_
  refine wp_seq ?_
  refine wp_cond_false (ev_same (by simp only [put_size, L.size]; omega)) ?_
  refine wp_exit ?_
  simp only [Exit.then, Exit.inBlock, if_true]
  have el : left = fun _ => false := funext hall
  subst el
  refine hQ _ _ (by simp only [put_size, L.size]) (by simp only [put_def, L.defers]) (fun t ht => ?_) L.gr L.row
  have h61 : t ≠ 61 := by rintro rfl; cases ht
  have h62 : t ≠ 62 := by rintro rfl; cases ht
  rw [ev_ne h62, ev_ne h61, L.frame t ht]
 ·intro x c v2 cnt' hwx hwc hlx hat hrg hlt hgr hsz2 hen
  obtain ⟨m, hm, rfl, hc⟩ := keys5 (L.sub _ hlx) hat
  obtain ⟨cur, hcur, hcs, hcl⟩ := L.row
  have hcz : o0 + 613 ≤ cur.size := by rw [hcs]; simpa using hsz
  have hbC1 : bC < v1.heap.size := Nat.lt_of_lt_of_le hbw L.gr.size
  have hcur2 : v2.heap[bC]? = some (.cells cur T0 (0, 0)) := (hgr.block bC hbC1 (by intro e; cases e; omega)).trans hcur
  have gr2 : w.grownBy v2 (some bC) := ⟨hgr.os.trans L.gr.os, hgr.tape.trans L.gr.tape, hgr.output.trans L.gr.output, Nat.le_trans L.gr.size hgr.size, fun i hi hne => (hgr.block i (Nat.lt_of_lt_of_le hi L.gr.size) (by intro e; cases e; omega)).trans (L.gr.block i hi hne)⟩
  have s0 : a1.tmps.size = 76 := L.size
  have f0 := L.frame 14 rfl
  rw [h14] at f0
  have i0 := L.it
  refine wpl rfl (v := .bool true) (w' := v2) (by simp [execOp, ev_same (show 61 < a1.tmps.size by omega), Instr.extract]) ?_
  refine wp_seq ?_
  refine wp_cond_true (ev_same (by simp only [put_size]; omega)) ?_
  refine wp_skip ?_
  refine wp_block ?_
  refine wp_seq ?_
  refine wp_region_list ?_
  have s2 : ((a1.put (some 61) (.tuple #[.bool true, .int .i64 (10 + m), .int .u8 c])).put (some 62) (.bool true)).tmps.size = 76 := by simp only [put_size, s0]
  have i2 : ((a1.put (some 61) (.tuple #[.bool true, .int .i64 (10 + m), .int .u8 c])).put (some 62) (.bool true)).eval (.tmp 60) = .pointer (some ⟨r, 0, none⟩) := by rw [ev_ne (by decide), ev_ne (by decide), i0]
  have f2 : ∀ t, T t = false → ((a1.put (some 61) (.tuple #[.bool true, .int .i64 (10 + m), .int .u8 c])).put (some 62) (.bool true)).eval (.tmp t) = a.eval (.tmp t) := fun t ht => by
   have h61 : t ≠ 61 := by rintro rfl; cases ht
   have h62 : t ≠ 62 := by rintro rfl; cases ht
   rw [ev_ne h62, ev_ne h61, L.frame t ht]
  have d2 : ((a1.put (some 61) (.tuple #[.bool true, .int .i64 (10 + m), .int .u8 c])).put (some 62) (.bool true)).defers = a.defers := by simp only [put_def, L.defers]
  show wpList _ _ _ _ ((a1.put (some 61) (.tuple #[.bool true, .int .i64 (10 + m), .int .u8 c])).put (some 62) (.bool true)) v2
  generalize (a1.put (some 61) (.tuple #[.bool true, .int .i64 (10 + m), .int .u8 c])).put (some 62) (.bool true) = a2 at s2 i2 f2 d2 ⊢
  refine wpl rfl (v := .tuple #[.int .i64 (10 + m), .int .u8 c]) (w' := v2) (by simp [execOp, i2, hen]) ?_
  refine wpl rfl (v := .int .i64 (10 + m)) (w' := v2) (by simp [execOp, ev_same, put_size, s2, Instr.extract]) ?_
  refine wpl rfl (v := .int .u8 c) (w' := v2) (by simp [execOp, ev_same, ev_ne, put_size, s2, Instr.extract]) ?_
  refine wpl rfl (v := .int .i64 (10 + m)) (w' := v2) (by simp [execOp, ev_same, ev_ne, put_size, s2]) ?_
  refine wpl rfl (v := .int .u8 c) (w' := v2) (by simp [execOp, ev_same, ev_ne, put_size, s2]) ?_
  have f14 := f2 14 rfl
  rw [h14] at f14
  refine wp_region_list ?_
  refine wpl rfl (v := .int .i64 (10 + m)) (w' := v2) (by simp [execOp, ev_same, ev_ne, put_size, s2]) ?_
  refine wpl rfl (v := .int .i64 (10 + m)) (w' := v2) (by simp [execOp, ev_same, ev_ne, put_size, s2]) ?_
  refine wpl rfl (v := .int .u8 c) (w' := v2) (by simp [execOp, ev_same, ev_ne, put_size, s2]) ?_
  have n54 : sz? Go.Proofs.Tryz.prog 54 = some 38 := by kernel_rfl
  have n52 : sz? Go.Proofs.Tryz.prog 52 = some 19 := by kernel_rfl
  have n5 : sz? Go.Proofs.Tryz.prog 5 = some 1 := by kernel_rfl
  have hm0 : (0 : Int) ≤ 10 + m ∧ (10 + m : Int) < (19 : Nat) := by omega
  have hm1 : (10 + (m : Int)).toNat = 10 + m := by omega
  have F0 : ∀ W, (Instr.fieldAt 59 (.pointer (some ⟨bC, o0, none⟩)) 8).run Go.Proofs.Tryz.prog W = .ok (.pointer (some ⟨bC, o0 + 568, none⟩)) W := fun W => (run_fieldAt Go.Proofs.Tryz.underlying59 rfl n54 (by decide) bC o0).trans rfl
  have F1 : ∀ W, (Instr.fieldAt 54 (.pointer (some ⟨bC, o0 + 568, none⟩)) 0).run Go.Proofs.Tryz.prog W = .ok (.pointer (some ⟨bC, o0 + 568, none⟩)) W := fun W => (run_fieldAt Go.Proofs.Tryz.underlying54 rfl n52 (by decide) bC (o0 + 568)).trans rfl
  have F2 : ∀ W, (Instr.fieldAt 54 (.pointer (some ⟨bC, o0 + 568, none⟩)) 1).run Go.Proofs.Tryz.prog W = .ok (.pointer (some ⟨bC, o0 + 587, none⟩)) W := fun W => (run_fieldAt Go.Proofs.Tryz.underlying54 rfl n52 (by decide) bC (o0 + 568)).trans rfl
  have X1 : ∀ W, (Instr.indexAt 52 (.pointer (some ⟨bC, o0 + 568, none⟩)) (.int .i64 (10 + m))).run Go.Proofs.Tryz.prog W = .ok (.pointer (some ⟨bC, o0 + 578 + m, none⟩)) W := fun W => (run_ixA Go.Proofs.Tryz.underlying52 n5 bC (o0 + 568) .i64 _ hm0).trans (by rw [hm1, show o0 + 568 + (10 + m) * 1 = o0 + 578 + m by omega])
  have X2 : ∀ W, (Instr.indexAt 52 (.pointer (some ⟨bC, o0 + 587, none⟩)) (.int .i64 (10 + m))).run Go.Proofs.Tryz.prog W = .ok (.pointer (some ⟨bC, o0 + 597 + m, none⟩)) W := fun W => (run_ixA Go.Proofs.Tryz.underlying52 n5 bC (o0 + 587) .i64 _ hm0).trans (by rw [hm1, show o0 + 587 + (10 + m) * 1 = o0 + 597 + m by omega])
  refine wpl rfl (v := .pointer (some ⟨bC, o0 + 568, none⟩)) (w' := v2) (by simp [execOp, ev_same, ev_ne, put_size, s2, f14, F0]) ?_
  refine wpl rfl (v := .pointer (some ⟨bC, o0 + 568, none⟩)) (w' := v2) (by simp [execOp, ev_same, ev_ne, put_size, s2, f14, F1]) ?_
  refine wpl rfl (v := .pointer (some ⟨bC, o0 + 578 + m, none⟩)) (w' := v2) (by simp [execOp, ev_same, ev_ne, put_size, s2, f14, X1]) ?_
  have S1 := run_store1 (v := 2) hcur2 (o := o0 + 578 + m) (by omega)
  refine wps rfl (w' := v2.setCell ⟨bC, o0 + 578 + m, none⟩ (.int .u8 2)) (by simp [execOp, ev_same, ev_ne, put_size, s2, S1, ev_const]) ?_
  have hcur3 : (v2.setCell ⟨bC, o0 + 578 + m, none⟩ (.int .u8 2)).heap[bC]? = some (.cells (cur.setIfInBounds (o0 + 578 + m) (.int .u8 2)) T0 (0, 0)) := Go.Lib.heap_setCell_same hcur2 _
  have S2 := run_store1 (v := c) hcur3 (o := o0 + 597 + m) (by simp; omega)
  refine wpl rfl (v := .pointer (some ⟨bC, o0 + 568, none⟩)) (w' := _) (by simp [execOp, ev_same, ev_ne, put_size, put_none, s2, f14, F0]; rfl) ?_
  refine wpl rfl (v := .pointer (some ⟨bC, o0 + 587, none⟩)) (w' := _) (by simp [execOp, ev_same, ev_ne, put_size, put_none, s2, f14, F2]; rfl) ?_
  refine wpl rfl (v := .pointer (some ⟨bC, o0 + 597 + m, none⟩)) (w' := _) (by simp [execOp, ev_same, ev_ne, put_size, put_none, s2, f14, X2]; rfl) ?_
  refine wps rfl (w' := (v2.setCell ⟨bC, o0 + 578 + m, none⟩ (.int .u8 2)).setCell ⟨bC, o0 + 597 + m, none⟩ (.int .u8 c)) (by simp [execOp, ev_same, ev_ne, put_size, put_none, s2, S2]) ?_
  have hcur4 := Go.Lib.heap_setCell_same hcur3 (i := o0 + 597 + m) (.int .u8 c)
  have hother : ∀ i, i ≠ bC → ((v2.setCell ⟨bC, o0 + 578 + m, none⟩ (.int .u8 2)).setCell ⟨bC, o0 + 597 + m, none⟩ (.int .u8 c)).heap[i]? = v2.heap[i]? := fun i hi => by
   rw [Below.heap_setCell _ _ _ _ hi, Below.heap_setCell _ _ _ _ hi]
  have hsz4 : ((v2.setCell ⟨bC, o0 + 578 + m, none⟩ (.int .u8 2)).setCell ⟨bC, o0 + 597 + m, none⟩ (.int .u8 c)).heap.size = v2.heap.size := by simp [World.setCell]
  have g24 : v2.grownBy ((v2.setCell ⟨bC, o0 + 578 + m, none⟩ (.int .u8 2)).setCell ⟨bC, o0 + 597 + m, none⟩ (.int .u8 c)) (some bC) := ⟨rfl, rfl, rfl, by rw [hsz4]; exact Nat.le_refl _, fun i _ hne => hother i fun e => hne (by rw [e])⟩
  clear hother S1 S2 F0 F1 F2 X1 X2 hcur3 hcur2 hen
  generalize (v2.setCell ⟨bC, o0 + 578 + m, none⟩ (.int .u8 2)).setCell ⟨bC, o0 + 597 + m, none⟩ (.int .u8 c) = v4 at *
  have hne1 : some w.heap.size ≠ some bC := by intro e; cases e; omega
  have hne2 : some r ≠ some bC := by intro e; cases e; omega
  have rg4 := hrg.kept g24 hne1 hne2
  show (∃ left' cnt', LI a w bC T0 o0 vs.toList w.heap.size r _ v4 left' cnt') ∧ v4.rangeLeft w.heap.size r < v1.rangeLeft w.heap.size r
  refine ⟨⟨fun z => left z && !z.sameKey (.int .i64 (10 + m)), cnt', by simp only [put_size, s2], by simp only [put_def, d2], fun t ht => ?_, ?_, rg4, fun k hk => L.sub k (by simp at hk; exact hk.1), ⟨_, hcur4, by simp [hcs], fun j => ?_⟩, grown_trans gr2 g24⟩, ?_⟩
  ·have hn : ∀ d, T d = true → t ≠ d := by rintro d hd rfl; rw [ht] at hd; cases hd
   rw [put_none]
   simp only [ev_ne (hn 74 rfl), ev_ne (hn 73 rfl), ev_ne (hn 72 rfl), ev_ne (hn 71 rfl), ev_ne (hn 70 rfl), ev_ne (hn 69 rfl), ev_ne (hn 68 rfl), ev_ne (hn 67 rfl), ev_ne (hn 66 rfl), ev_ne (hn 19 rfl), ev_ne (hn 18 rfl), ev_ne (hn 65 rfl), ev_ne (hn 64 rfl), ev_ne (hn 63 rfl), put_none, f2 t ht]
  ·simp [ev_ne, put_none, i2]
  ·rw [← cel_step o0 left vs.toList hm hc cur.toList (by simpa using hcz) hcl j]
   simp
  ·rw [rg4.left_eq, L.rg.left_eq]; exact hlt
end Go.Proofs.YtobkkblijfhpoaaGreatDoor.Mp
