/- Typed functions, and that the codes are these. Printed by dec.py. -/
import Derived.Test.YtjapcjeijpcpiaaDGoD
namespace Go.Proofs.Ytjapcjeijpcpiaa.Pm
set_option maxRecDepth 1000000
set_option maxHeartbeats 20000000
set_option linter.unusedVariables false
/- farwriter/grid.Text -/
def f15_fin (p89 : List Int) (p90 : Int) : St := ⟨(up (up (fun _ => .un) 5 (.d (.int .i64 p90))) 4 (.r (.msl 393 0 0 p89.length))), (up (hB fun _ => 0) 393 ⟨0, some (.own 3 1 ((eInt .i64).cells p89))⟩)⟩
theorem f15_out (p89 : List Int) (p90 : Int) : outR (f15_fin p89 p90) 0 c15.res = some ((.tup [(.r (.own 0 3 1 p89.length ((eInt .i64).cells p89))), (.d (.int .i64 p90))]), []) := by
  exact out_of (ids := []) (ids' := [393]) (l := [(.r (.msl 393 0 0 p89.length)), (.d (.int .i64 p90))]) (by kernel_rfl) (by kernel_rfl) (o_tup (o_cons (o_own (eInt .i64) (e := 3) (k := 1) (xs := p89) (by kernel_rfl) rfl rfl rfl rfl) (o_cons rfl o_nil)))
def f15_Q (r : (List Int) × Int) (e : PX) (st : St) : Prop := DoneF c15 0 ((.tup [(.r (.own 0 3 1 r.1.length ((eInt .i64).cells r.1))), (.d (.int .i64 r.2))]), []) e st
def f15_l2_J (a1 : GGrid) (a2 : Int) (x : (List Int) × (List GCell) × Nat × Nat × Int × Int) : St := ⟨(up (up (up (up (fun _ => .un) 31 (.d (.int .i64 x.2.2.2.2.2))) 30 (.d (.int .i64 x.2.2.2.2.1))) 29 (.r (.msl 176 0 x.2.2.1 x.2.2.2.1))) 7 (.r (.msl 64 0 0 x.1.length))), (up (up (hB fun _ => 0) 176 ⟨0, some (.own 36 4 (e_GCell.cells x.2.1))⟩) 64 ⟨0, some (.own 3 1 ((eInt .i64).cells x.1))⟩)⟩
def f15_l2_H (a1 : GGrid) (a2 : Int) (x : (List Int) × (List GCell) × Nat × Nat × Int × Int) (st : St) : Prop := keepSt [7, 29, 30, 31] [(64, .id 64), (176, .id 176)] [] st = f15_l2_J a1 a2 x
def f15_l2_e0_J (a1 : GGrid) (a2 : Int) (p185 : List Int) : St := ⟨(up (fun _ => .un) 7 (.r (.msl 64 0 0 p185.length))), (up (hB fun _ => 0) 64 ⟨0, some (.own 3 1 ((eInt .i64).cells p185))⟩)⟩
def f15_l2_X (a1 : GGrid) (a2 : Int) (z : ((List Int))) (e : PX) (st : St) : Prop := e = .exit 0 ∧ st = f15_l2_e0_J a1 a2 z
def f15_l2_j4_J (a1 : GGrid) (a2 : Int) (p200 : List Int) (p201 : List GCell) (p202 : Nat) (p203 : Nat) (p204 : Int) (p205 : Int) : St := ⟨(up (up (up (up (fun _ => .un) 31 (.d (.int .i64 p205))) 30 (.d (.int .i64 p204))) 29 (.r (.msl 176 0 p202 p203))) 7 (.r (.msl 64 0 0 p200.length))), (up (up (hB fun _ => 0) 176 ⟨0, some (.own 36 4 (e_GCell.cells p201))⟩) 64 ⟨0, some (.own 3 1 ((eInt .i64).cells p200))⟩)⟩
noncomputable def f15_l2_j4 (a1 : GGrid) (a2 : Int) (p200 : List Int) (p201 : List GCell) (p202 : Nat) (p203 : Nat) (p204 : Int) (p205 : Int) : Option (((List Int) × (List GCell) × Nat × Nat × Int × Int) ⊕ (((List Int)))) := ((inR p205 p203).bind fun m29 => ((p201[(p202 + m29)]?).bind fun z30 => (bif (!decide (z30.Rune = 0)) then ((app? 8 p200 ([z30.Rune] : List Int)).bind fun z31 => (some (.inl (z31, p201, p202, p203, p204, (IntKind.i64.wrap (p205 + 1)))))) else (some (.inl (p200, p201, p202, p203, p204, (IntKind.i64.wrap (p205 + 1))))))))
theorem f15_l2_j4_ok {base : Orc} {d : Nat} (hd : 6 ≤ d) (a1 : GGrid) (a2 : Int) {r : ((List Int) × (List GCell) × Nat × Nat × Int × Int) ⊕ (((List Int)))} {Q : PX → St → Prop} (hQ : ∀ e st', finL (f15_l2_H a1 a2) (f15_l2_X a1 a2) r e st' → Q e st') (p200 : List Int) (p201 : List GCell) (p202 : Nat) (p203 : Nat) (p204 : Int) (p205 : Int) (hS : f15_l2_j4 a1 a2 p200 p201 p202 p203 p204 p205 = some r) {st : St} (he : keepSt [7, 29, 30, 31] [(64, .id 64), (176, .id 176)] [] st = f15_l2_j4_J a1 a2 p200 p201 p202 p203 p204 p205) : ZR (lev codes base (d - 1)) Q c15_1 [] st := by
  refine zrKeep he ?_
  unfold f15_l2_j4 at hS
  refine zrSeq ?_
  refine zrBlk ?_
  refine zrSeq ?_
  refine zrReg ?_
  refine bindE hS (fun m29 hm29 hS => ?_)
  refine zlOp (d := some 33) (op := (.ixS 36 4 (.tmp 29) (.tmp 31))) (g := none) (v := (.r (.ptr 176 0 ((p202 + m29) * 4)))) (ups := []) (j := 1) rfl (by kernel_rfl) (by kernel_rfl) (ev_ixM (kk := .i64) (b := 176) (g := 0) (l := p202) (n := p203) (j := p205) (cs := e_GCell.cells p201) (by kernel_rfl) (by kernel_rfl) (by kernel_rfl) hm29) ?_
  refine bindE hS (fun z30 hz30 hS => ?_)
  refine zlOp (d := some 34) (op := (.load .true 4 (.tmp 33))) (g := none) (v := (.agg ((.d (.int .i64 z30.Rune)) :: ((.d (.int .i64 z30.Pen.Flags)) :: ((.d (.int .i64 z30.Pen.Fore)) :: ((.d (.int .i64 z30.Pen.Back)) :: [])))))) (ups := []) (j := 2) rfl (by kernel_rfl) (by kernel_rfl) (ev_loadM e_GCell (b := 176) (g := 0) (o := (p202 + m29) * 4) (e := 36) (k := 4) (m := (p202 + m29)) (fo := 0) (xs := p201) (by kernel_rfl) (by kernel_rfl) rfl hz30 (by kernel_rfl) (by kernel_rfl) (by kernel_rfl)) ?_
  refine zlRun (n := 2) (j := 4) rfl (by kernel_rfl) ?_
  refine zlEnd (by kernel_rfl) ?_
  refine zkSeq ?_
  refine zrSeq ?_
  refine zrReg ?_
  refine zlRun (n := 2) (j := 2) rfl (by kernel_rfl) ?_
  refine zlBool (d := 37) (op := (.cmpI .neq (.tmp 36) (.const (.int .i64 0)))) (g := none) (j := 3) (!decide (z30.Rune = 0)) rfl (by kernel_rfl) (by kernel_rfl) (by kernel_rfl) (fun hc => ?_) (fun hc => ?_)
  · replace hS := cond_t hc hS
    refine zlEnd (by kernel_rfl) ?_
    refine zkSeq ?_
    refine zrCondT (by kernel_rfl) ?_
    refine zrReg ?_
    refine zlRun (n := 4) (j := 4) rfl (by kernel_rfl) ?_
    refine bindE hS (fun z31 hz31 hS => ?_)
    refine zlOp (d := some 42) (op := (.app 3 1 8 (.tmp 38) (.tmp 41))) (g := none) (v := (.r (.msl 64 1 0 z31.length))) (ups := [(64, ⟨1, some (.own 3 1 ((eInt .i64).cells z31))⟩)]) (j := 5) rfl (by kernel_rfl) (by kernel_rfl) (ev_app (eInt .i64) (b := 64) (g := 0) (n := p200.length) (xs := p200) (ys := [z30.Rune]) ((congrArg (asL _) (by kernel_rfl : ρof _ (.tmp 41) = (.r (.msl 336 1 0 (([z30.Rune] : List Int).length))))).trans (as_whole (eInt .i64) (e := 3) (k := 1) (xs := [z30.Rune]) (by kernel_rfl) rfl rfl)) rfl (by kernel_rfl) rfl (by kernel_rfl) rfl hz31) ?_
    refine zlRun (n := 1) (j := 6) rfl (by kernel_rfl) ?_
    refine zlEnd (by kernel_rfl) ?_
    refine zkBlk ?_
    refine zkSeq ?_
    refine zrReg ?_
    refine zlRun (n := 2) (j := 2) rfl (by kernel_rfl) ?_
    refine zlEnd (by kernel_rfl) ?_
    refine zkNil ?_
    exact endQ hS hQ (finL_n (by show keepSt _ _ _ _ = _; kernel_rfl))
  · replace hS := cond_f hc hS
    refine zlEnd (by kernel_rfl) ?_
    refine zkSeq ?_
    refine zrCondF (by kernel_rfl) ?_
    refine zrSkip ?_
    refine zkBlk ?_
    refine zkSeq ?_
    refine zrReg ?_
    refine zlRun (n := 2) (j := 2) rfl (by kernel_rfl) ?_
    refine zlEnd (by kernel_rfl) ?_
    refine zkNil ?_
    exact endQ hS hQ (finL_n (by show keepSt _ _ _ _ = _; kernel_rfl))
def f15_l2_j3_J (a1 : GGrid) (a2 : Int) (p193 : List Int) (p194 : List GCell) (p195 : Nat) (p196 : Nat) (p197 : Int) (p198 : Int) (p199 : Bool) : St := ⟨(up (up (up (up (up (fun _ => .un) 32 (.d (.bool p199))) 31 (.d (.int .i64 p198))) 30 (.d (.int .i64 p197))) 29 (.r (.msl 176 0 p195 p196))) 7 (.r (.msl 64 0 0 p193.length))), (up (up (hB fun _ => 0) 176 ⟨0, some (.own 36 4 (e_GCell.cells p194))⟩) 64 ⟨0, some (.own 3 1 ((eInt .i64).cells p193))⟩)⟩
noncomputable def f15_l2_j3 (a1 : GGrid) (a2 : Int) (p193 : List Int) (p194 : List GCell) (p195 : Nat) (p196 : Nat) (p197 : Int) (p198 : Int) (p199 : Bool) : Option (((List Int) × (List GCell) × Nat × Nat × Int × Int) ⊕ (((List Int)))) := (bif p199 then (f15_l2_j4 a1 a2 p193 p194 p195 p196 p197 p198) else (some (.inr p193)))
theorem f15_l2_j3_ok {base : Orc} {d : Nat} (hd : 6 ≤ d) (a1 : GGrid) (a2 : Int) {r : ((List Int) × (List GCell) × Nat × Nat × Int × Int) ⊕ (((List Int)))} {Q : PX → St → Prop} (hQ : ∀ e st', finL (f15_l2_H a1 a2) (f15_l2_X a1 a2) r e st' → Q e st') (p193 : List Int) (p194 : List GCell) (p195 : Nat) (p196 : Nat) (p197 : Int) (p198 : Int) (p199 : Bool) (hS : f15_l2_j3 a1 a2 p193 p194 p195 p196 p197 p198 p199 = some r) {st : St} (he : keepSt [7, 29, 30, 31, 32] [(64, .id 64), (176, .id 176)] [] st = f15_l2_j3_J a1 a2 p193 p194 p195 p196 p197 p198 p199) : ZR (lev codes base (d - 1)) Q c15_2 [] st := by
  refine zrKeep he ?_
  unfold f15_l2_j3 at hS
  refine zrSeq ?_
  refine zrSplit 32 p199 (by kernel_rfl) (fun hc => ?_) (fun hc => ?_)
  · replace hS := cond_t hc hS
    refine zrCondT (by kernel_rfl) ?_
    refine zrSkip ?_
    refine zkSeq ?_
    exact f15_l2_j4_ok hd a1 a2 hQ p193 p194 p195 p196 p197 p198 hS (by kernel_rfl)
  · replace hS := cond_f hc hS
    refine zrCondF (by kernel_rfl) ?_
    refine zrKeep (J := f15_l2_e0_J a1 a2 p193) (by kernel_rfl) ?_
    refine zrExit ?_
    refine zkSeqX ?_
    refine zkNil ?_
    exact endQ hS hQ (finL_x (by intro h; cases h) (by show _ = _ ∧ _ = _; exact ⟨rfl, rfl⟩))
noncomputable def f15_l2 (a1 : GGrid) (a2 : Int) (x : (List Int) × (List GCell) × Nat × Nat × Int × Int) : Option (((List Int) × (List GCell) × Nat × Nat × Int × Int) ⊕ (((List Int)))) := (bif (decide (x.2.2.2.2.2 < x.2.2.2.2.1)) then (f15_l2_j3 a1 a2 x.1 x.2.1 x.2.2.1 x.2.2.2.1 x.2.2.2.2.1 x.2.2.2.2.2 true) else (f15_l2_j3 a1 a2 x.1 x.2.1 x.2.2.1 x.2.2.2.1 x.2.2.2.2.1 x.2.2.2.2.2 false))
theorem f15_l2_ok {base : Orc} {d : Nat} (hd : 6 ≤ d) (a1 : GGrid) (a2 : Int) {r : ((List Int) × (List GCell) × Nat × Nat × Int × Int) ⊕ (((List Int)))} {Q : PX → St → Prop} (hQ : ∀ e st', finL (f15_l2_H a1 a2) (f15_l2_X a1 a2) r e st' → Q e st') {x : (List Int) × (List GCell) × Nat × Nat × Int × Int} (hS : f15_l2 a1 a2 x = some r) {st : St} (he : f15_l2_H a1 a2 x st) : ZR (lev codes base (d - 1)) Q c15_3 [] st := by
  refine zrKeep he ?_
  unfold f15_l2 at hS
  refine zrSeq ?_
  refine zrReg ?_
  refine zlBool (d := 32) (op := (.cmpI .lss (.tmp 31) (.tmp 30))) (g := none) (j := 1) (decide (x.2.2.2.2.2 < x.2.2.2.2.1)) rfl (by kernel_rfl) (by kernel_rfl) (by kernel_rfl) (fun hc => ?_) (fun hc => ?_)
  · replace hS := cond_t hc hS
    refine zlEnd (by kernel_rfl) ?_
    refine zkSeq ?_
    exact f15_l2_j3_ok hd a1 a2 hQ x.1 x.2.1 x.2.2.1 x.2.2.2.1 x.2.2.2.2.1 x.2.2.2.2.2 true hS (by kernel_rfl)
  · replace hS := cond_f hc hS
    refine zlEnd (by kernel_rfl) ?_
    refine zkSeq ?_
    exact f15_l2_j3_ok hd a1 a2 hQ x.1 x.2.1 x.2.2.1 x.2.2.2.1 x.2.2.2.2.1 x.2.2.2.2.2 false hS (by kernel_rfl)
def f15_j1_J (a1 : GGrid) (a2 : Int) (p108 : Int) (p109 : Int) (p110 : List GCell) : St := ⟨(up (up (fun _ => .un) 2 (.r (.ptr 24 0 0))) 1 (.d (.int .i64 a2))), (up (up (hB fun _ => 0) 176 ⟨0, some (.own 36 4 (e_GCell.cells p110))⟩) 24 ⟨0, some (.box ((.d (.int .i64 p108)) :: ((.d (.int .i64 p109)) :: ((.r (.msl 176 0 0 p110.length)) :: []))))⟩)⟩
noncomputable def f15_j1 (a1 : GGrid) (a2 : Int) (p108 : Int) (p109 : Int) (p110 : List GCell) : Option ((List Int) × Int) := ((f18v1 p108 p109 a2 p110).bind fun z18 => ((chk (decide (z18.1.length = p110.length))).bind fun z19 => ((loopO (f15_l2 a1 a2) ([], z18.1, z18.2.1, z18.2.2, (z18.2.2 : Int), 0)).bind fun z32 => (some (z32, 0)))))
theorem f15_j1_ok {base : Orc} {d : Nat} (hd : 6 ≤ d) (a1 : GGrid) (a2 : Int) {r : (List Int) × Int} {Q : PX → St → Prop} (hQ : ∀ e st', f15_Q r e st' → Q e st') (p108 : Int) (p109 : Int) (p110 : List GCell) (hS : f15_j1 a1 a2 p108 p109 p110 = some r) {st : St} (he : keepSt [1, 2] [(24, .id 24), (176, .id 176)] [] st = f15_j1_J a1 a2 p108 p109 p110) : ZR (lev codes base (d - 1)) Q c15_4 [] st := by
  refine zrKeep he ?_
  unfold f15_j1 at hS
  refine zrSeq ?_
  refine zrReg ?_
  refine zlRun (n := 1) (j := 1) rfl (by kernel_rfl) ?_
  refine zlEnd (by kernel_rfl) ?_
  refine zkSeq ?_
  refine zrSeq ?_
  refine zrSeq ?_
  refine zrReg ?_
  refine zlRun (n := 2) (j := 2) rfl (by kernel_rfl) ?_
  refine bindE hS (fun z18 hz18 hS => ?_)
  refine bindE hS (fun z19 hz19 hS => ?_)
  refine zlOp (d := some 29) (op := (.callr 18 [(.tmp 27), (.tmp 28)])) (g := none) (j := 3) rfl (by kernel_rfl) (by kernel_rfl) (ev_callrXA (ids := [176]) (bs := [(.own 36 4 (e_GCell.cells p110))]) (by kernel_rfl) (by kernel_rfl) (by kernel_rfl) (by kernel_rfl) (f18v1_ok base (d - 1) (dpt hd rfl) p108 p109 a2 p110 z18 hz18) (by kernel_rfl) (sm_own e_GCell (e1 := 36) (k1 := 4) (xs := p110) (ys := z18.1) (by kernel_rfl) hz19 sm_nil) (by kernel_rfl)) ?_
  have lz19 : p110.length = z18.1.length := (of_decide_eq_true (chk_t hz19)).symm
  try delta f15_j1_J
  try rw [lz19]
  refine zlRun (n := 2) (j := 5) rfl (by kernel_rfl) ?_
  refine zlEnd (by kernel_rfl) ?_
  refine zkSeq ?_
  refine zrBlk ?_
  refine bindE hS (fun z32 hz32 hS => ?_)
  refine zrLoop (f15_l2_H a1 a2) (f15_l2_X a1 a2) (fun x st r Q h0 hS hQ => f15_l2_ok hd a1 a2 hQ hS h0) (x := ([], z18.1, z18.2.1, z18.2.2, (z18.2.2 : Int), 0)) (z := z32) (by show keepSt _ _ _ _ = _; kernel_rfl) hz32 ?_
  intro e st' _ hX
  obtain ⟨rfl, rfl⟩ : _ ∧ _ := hX
  refine zkBlkX ?_
  refine zkSeq ?_
  refine zrSeq ?_
  refine zrReg ?_
  refine zlRun (n := 3) (j := 3) rfl (by kernel_rfl) ?_
  refine zlEnd (by kernel_rfl) ?_
  refine zkSeq ?_
  refine zrRet ?_
  refine zkNil ?_
  exact endQ hS hQ (fRet (by kernel_rfl) ((congrArg (fun s => outR s 0 c15.res) (by kernel_rfl : finSt c15.fin _ = f15_fin z32 0)).trans (f15_out z32 0)))
def f15_j0_J (a1 : GGrid) (a2 : Int) (p99 : Int) (p100 : Int) (p101 : List GCell) (p102 : Int) : St := ⟨(up (up (up (fun _ => .un) 6 (.d (.int .i64 p102))) 2 (.r (.ptr 24 0 0))) 1 (.d (.int .i64 a2))), (up (up (hB fun _ => 0) 176 ⟨0, some (.own 36 4 (e_GCell.cells p101))⟩) 24 ⟨0, some (.box ((.d (.int .i64 p99)) :: ((.d (.int .i64 p100)) :: ((.r (.msl 176 0 0 p101.length)) :: []))))⟩)⟩
noncomputable def f15_j0 (a1 : GGrid) (a2 : Int) (p99 : Int) (p100 : Int) (p101 : List GCell) (p102 : Int) : Option ((List Int) × Int) := (bif (!decide (p102 = 0)) then (some ([], p102)) else (f15_j1 a1 a2 p99 p100 p101))
theorem f15_j0_ok {base : Orc} {d : Nat} (hd : 6 ≤ d) (a1 : GGrid) (a2 : Int) {r : (List Int) × Int} {Q : PX → St → Prop} (hQ : ∀ e st', f15_Q r e st' → Q e st') (p99 : Int) (p100 : Int) (p101 : List GCell) (p102 : Int) (hS : f15_j0 a1 a2 p99 p100 p101 p102 = some r) {st : St} (he : keepSt [1, 2, 6] [(24, .id 24), (176, .id 176)] [] st = f15_j0_J a1 a2 p99 p100 p101 p102) : ZR (lev codes base (d - 1)) Q c15_5 [] st := by
  refine zrKeep he ?_
  unfold f15_j0 at hS
  refine zrSeq ?_
  refine zrSeq ?_
  refine zrReg ?_
  refine zlRun (n := 1) (j := 1) rfl (by kernel_rfl) ?_
  refine zlBool (d := 25) (op := (.cmpI .neq (.tmp 24) (.const (.int .i64 0)))) (g := none) (j := 2) (!decide (p102 = 0)) rfl (by kernel_rfl) (by kernel_rfl) (by kernel_rfl) (fun hc => ?_) (fun hc => ?_)
  · replace hS := cond_t hc hS
    refine zlEnd (by kernel_rfl) ?_
    refine zkSeq ?_
    refine zrCondT (by kernel_rfl) ?_
    refine zrSeq ?_
    refine zrReg ?_
    refine zlRun (n := 3) (j := 3) rfl (by kernel_rfl) ?_
    refine zlEnd (by kernel_rfl) ?_
    refine zkSeq ?_
    refine zrRet ?_
    refine zkSeqR ?_
    refine zkNil ?_
    exact endQ hS hQ (fRet (by kernel_rfl) ((congrArg (fun s => outR s 0 c15.res) (by kernel_rfl : finSt c15.fin _ = f15_fin [] p102)).trans (f15_out [] p102)))
  · replace hS := cond_f hc hS
    refine zlEnd (by kernel_rfl) ?_
    refine zkSeq ?_
    refine zrCondF (by kernel_rfl) ?_
    refine zrSkip ?_
    refine zkSeq ?_
    exact f15_j1_ok hd a1 a2 hQ p99 p100 p101 hS (by kernel_rfl)
noncomputable def f15 (a1 : GGrid) (a2 : Int) : Option ((List Int) × Int) := (bif (decide (0 ≤ a2)) then (bif (decide (a2 < a1.High)) then ((f22 a1 true (GPen.mk 0 0 0)).bind fun z33 => (f15_j0 a1 a2 z33.1 z33.2.1 z33.2.2.1 z33.2.2.2)) else ((f22 a1 false (GPen.mk 0 0 0)).bind fun z34 => (f15_j0 a1 a2 z34.1 z34.2.1 z34.2.2.1 z34.2.2.2))) else ((f22 a1 false (GPen.mk 0 0 0)).bind fun z35 => (f15_j0 a1 a2 z35.1 z35.2.1 z35.2.2.1 z35.2.2.2)))
theorem f15_ok (base : Orc) (d : Nat) (hd : 6 ≤ d) (a1 : GGrid) (a2 : Int) (r : (List Int) × Int) (hS : f15 a1 a2 = some r) : lev codes base d 15 [(.agg ((.d (.int .i64 a1.Wide)) :: ((.d (.int .i64 a1.High)) :: ((.d (.sl a1.Cells.length (e_GCell.cells a1.Cells))) :: [])))), (.d (.int .i64 a2))] [] = some ((.tup [(.r (.own 0 3 1 r.1.length ((eInt .i64).cells r.1))), (.d (.int .i64 r.2))]), []) := by
  refine lev_go codes15 rfl rfl (Nat.le_trans (Nat.le_of_ble_eq_true rfl) hd) fun Q hQ => ?_
  unfold f15 at hS
  show ZR _ Q c15_b [] _
  replace hQ : ∀ e st', f15_Q r e st' → Q e st' := hQ
  refine zrSeq ?_
  refine zrReg ?_
  refine zlRun (n := 3) (j := 3) rfl (by kernel_rfl) ?_
  refine zlEnd (by kernel_rfl) ?_
  refine zkSeq ?_
  refine zrSeq ?_
  refine zrReg ?_
  refine zlRun (n := 2) (j := 2) rfl (by kernel_rfl) ?_
  refine zlBool (d := 13) (op := (.cmpI .geq (.tmp 12) (.const (.int .i64 0)))) (g := none) (j := 3) (decide (0 ≤ a2)) rfl (by kernel_rfl) (by kernel_rfl) (by kernel_rfl) (fun hc => ?_) (fun hc => ?_)
  · replace hS := cond_t hc hS
    refine zlRun (n := 4) (j := 7) rfl (by kernel_rfl) ?_
    refine zlBool (d := 18) (op := (.cmpI .lss (.tmp 15) (.tmp 17))) (g := (some (14, true))) (j := 8) (decide (a2 < a1.High)) rfl (by kernel_rfl) (by kernel_rfl) (by kernel_rfl) (fun hc => ?_) (fun hc => ?_)
    · replace hS := cond_t hc hS
      refine zlRun (n := 2) (j := 10) rfl (by kernel_rfl) ?_
      refine bindE hS (fun z33 hz33 hS => ?_)
      refine zlOp (d := some 21) (op := (.callf 22 [(.tmp 11), (.tmp 19), (.tmp 20)])) (g := none) (v := (.tup [(.agg ((.d (.int .i64 z33.1)) :: ((.d (.int .i64 z33.2.1)) :: ((.r (.msl 176 1 0 z33.2.2.1.length)) :: [])))), (.d (.int .i64 z33.2.2.2))])) (ups := [(176, ⟨1, some (.own 36 4 (e_GCell.cells z33.2.2.1))⟩)]) (j := 11) rfl (by kernel_rfl) (by kernel_rfl) (ev_callF (args := [(.agg ((.d (.int .i64 a1.Wide)) :: ((.d (.int .i64 a1.High)) :: ((.d (.sl a1.Cells.length (e_GCell.cells a1.Cells))) :: [])))), (.d (.bool true)), (.agg ((.d (.int .i64 0)) :: ((.d (.int .i64 0)) :: ((.d (.int .i64 0)) :: []))))]) (args' := [(.agg ((.d (.int .i64 a1.Wide)) :: ((.d (.int .i64 a1.High)) :: ((.d (.sl a1.Cells.length (e_GCell.cells a1.Cells))) :: [])))), (.d (.bool true)), (.agg ((.d (.int .i64 0)) :: ((.d (.int .i64 0)) :: ((.d (.int .i64 0)) :: []))))]) (l := [(.agg ((.d (.int .i64 a1.Wide)) :: ((.d (.int .i64 a1.High)) :: ((.d (.sl a1.Cells.length (e_GCell.cells a1.Cells))) :: [])))), (.d (.bool true)), (.agg ((.d (.int .i64 0)) :: ((.d (.int .i64 0)) :: ((.d (.int .i64 0)) :: []))))]) (refs := []) (r := (.tup [(.agg ((.d (.int .i64 z33.1)) :: ((.d (.int .i64 z33.2.1)) :: ((.r (.own 0 36 4 z33.2.2.1.length (e_GCell.cells z33.2.2.1))) :: [])))), (.d (.int .i64 z33.2.2.2))])) (v := (.tup [(.agg ((.d (.int .i64 z33.1)) :: ((.d (.int .i64 z33.2.1)) :: ((.r (.msl 176 1 0 z33.2.2.1.length)) :: [])))), (.d (.int .i64 z33.2.2.2))])) (ups' := [(176, ⟨1, some (.own 36 4 (e_GCell.cells z33.2.2.1))⟩)]) (by kernel_rfl) (by kernel_rfl) (by kernel_rfl) (fz_cons rfl (fz_cons rfl (fz_cons rfl fz_nil))) (by kernel_rfl) (f22_ok base (d - 1) (dpt hd rfl) a1 true (GPen.mk 0 0 0) z33 hz33) (by kernel_rfl) (by kernel_rfl) (by kernel_rfl) (by kernel_rfl)) ?_
      refine zlRun (n := 5) (j := 16) rfl (by kernel_rfl) ?_
      refine zlEnd (by kernel_rfl) ?_
      refine zkSeq ?_
      exact f15_j0_ok hd a1 a2 hQ z33.1 z33.2.1 z33.2.2.1 z33.2.2.2 hS (by kernel_rfl)
    · replace hS := cond_f hc hS
      refine zlRun (n := 2) (j := 10) rfl (by kernel_rfl) ?_
      refine bindE hS (fun z34 hz34 hS => ?_)
      refine zlOp (d := some 21) (op := (.callf 22 [(.tmp 11), (.tmp 19), (.tmp 20)])) (g := none) (v := (.tup [(.agg ((.d (.int .i64 z34.1)) :: ((.d (.int .i64 z34.2.1)) :: ((.r (.msl 176 1 0 z34.2.2.1.length)) :: [])))), (.d (.int .i64 z34.2.2.2))])) (ups := [(176, ⟨1, some (.own 36 4 (e_GCell.cells z34.2.2.1))⟩)]) (j := 11) rfl (by kernel_rfl) (by kernel_rfl) (ev_callF (args := [(.agg ((.d (.int .i64 a1.Wide)) :: ((.d (.int .i64 a1.High)) :: ((.d (.sl a1.Cells.length (e_GCell.cells a1.Cells))) :: [])))), (.d (.bool false)), (.agg ((.d (.int .i64 0)) :: ((.d (.int .i64 0)) :: ((.d (.int .i64 0)) :: []))))]) (args' := [(.agg ((.d (.int .i64 a1.Wide)) :: ((.d (.int .i64 a1.High)) :: ((.d (.sl a1.Cells.length (e_GCell.cells a1.Cells))) :: [])))), (.d (.bool false)), (.agg ((.d (.int .i64 0)) :: ((.d (.int .i64 0)) :: ((.d (.int .i64 0)) :: []))))]) (l := [(.agg ((.d (.int .i64 a1.Wide)) :: ((.d (.int .i64 a1.High)) :: ((.d (.sl a1.Cells.length (e_GCell.cells a1.Cells))) :: [])))), (.d (.bool false)), (.agg ((.d (.int .i64 0)) :: ((.d (.int .i64 0)) :: ((.d (.int .i64 0)) :: []))))]) (refs := []) (r := (.tup [(.agg ((.d (.int .i64 z34.1)) :: ((.d (.int .i64 z34.2.1)) :: ((.r (.own 0 36 4 z34.2.2.1.length (e_GCell.cells z34.2.2.1))) :: [])))), (.d (.int .i64 z34.2.2.2))])) (v := (.tup [(.agg ((.d (.int .i64 z34.1)) :: ((.d (.int .i64 z34.2.1)) :: ((.r (.msl 176 1 0 z34.2.2.1.length)) :: [])))), (.d (.int .i64 z34.2.2.2))])) (ups' := [(176, ⟨1, some (.own 36 4 (e_GCell.cells z34.2.2.1))⟩)]) (by kernel_rfl) (by kernel_rfl) (by kernel_rfl) (fz_cons rfl (fz_cons rfl (fz_cons rfl fz_nil))) (by kernel_rfl) (f22_ok base (d - 1) (dpt hd rfl) a1 false (GPen.mk 0 0 0) z34 hz34) (by kernel_rfl) (by kernel_rfl) (by kernel_rfl) (by kernel_rfl)) ?_
      refine zlRun (n := 5) (j := 16) rfl (by kernel_rfl) ?_
      refine zlEnd (by kernel_rfl) ?_
      refine zkSeq ?_
      exact f15_j0_ok hd a1 a2 hQ z34.1 z34.2.1 z34.2.2.1 z34.2.2.2 hS (by kernel_rfl)
  · replace hS := cond_f hc hS
    refine zlRun (n := 7) (j := 10) rfl (by kernel_rfl) ?_
    refine bindE hS (fun z35 hz35 hS => ?_)
    refine zlOp (d := some 21) (op := (.callf 22 [(.tmp 11), (.tmp 19), (.tmp 20)])) (g := none) (v := (.tup [(.agg ((.d (.int .i64 z35.1)) :: ((.d (.int .i64 z35.2.1)) :: ((.r (.msl 176 1 0 z35.2.2.1.length)) :: [])))), (.d (.int .i64 z35.2.2.2))])) (ups := [(176, ⟨1, some (.own 36 4 (e_GCell.cells z35.2.2.1))⟩)]) (j := 11) rfl (by kernel_rfl) (by kernel_rfl) (ev_callF (args := [(.agg ((.d (.int .i64 a1.Wide)) :: ((.d (.int .i64 a1.High)) :: ((.d (.sl a1.Cells.length (e_GCell.cells a1.Cells))) :: [])))), (.d (.bool false)), (.agg ((.d (.int .i64 0)) :: ((.d (.int .i64 0)) :: ((.d (.int .i64 0)) :: []))))]) (args' := [(.agg ((.d (.int .i64 a1.Wide)) :: ((.d (.int .i64 a1.High)) :: ((.d (.sl a1.Cells.length (e_GCell.cells a1.Cells))) :: [])))), (.d (.bool false)), (.agg ((.d (.int .i64 0)) :: ((.d (.int .i64 0)) :: ((.d (.int .i64 0)) :: []))))]) (l := [(.agg ((.d (.int .i64 a1.Wide)) :: ((.d (.int .i64 a1.High)) :: ((.d (.sl a1.Cells.length (e_GCell.cells a1.Cells))) :: [])))), (.d (.bool false)), (.agg ((.d (.int .i64 0)) :: ((.d (.int .i64 0)) :: ((.d (.int .i64 0)) :: []))))]) (refs := []) (r := (.tup [(.agg ((.d (.int .i64 z35.1)) :: ((.d (.int .i64 z35.2.1)) :: ((.r (.own 0 36 4 z35.2.2.1.length (e_GCell.cells z35.2.2.1))) :: [])))), (.d (.int .i64 z35.2.2.2))])) (v := (.tup [(.agg ((.d (.int .i64 z35.1)) :: ((.d (.int .i64 z35.2.1)) :: ((.r (.msl 176 1 0 z35.2.2.1.length)) :: [])))), (.d (.int .i64 z35.2.2.2))])) (ups' := [(176, ⟨1, some (.own 36 4 (e_GCell.cells z35.2.2.1))⟩)]) (by kernel_rfl) (by kernel_rfl) (by kernel_rfl) (fz_cons rfl (fz_cons rfl (fz_cons rfl fz_nil))) (by kernel_rfl) (f22_ok base (d - 1) (dpt hd rfl) a1 false (GPen.mk 0 0 0) z35 hz35) (by kernel_rfl) (by kernel_rfl) (by kernel_rfl) (by kernel_rfl)) ?_
    refine zlRun (n := 5) (j := 16) rfl (by kernel_rfl) ?_
    refine zlEnd (by kernel_rfl) ?_
    refine zkSeq ?_
    exact f15_j0_ok hd a1 a2 hQ z35.1 z35.2.1 z35.2.2.1 z35.2.2.2 hS (by kernel_rfl)
/- slices.Equal[[]int,int] -/
def f16_fin (p14 : Bool) : St := ⟨(up (fun _ => .un) 4 (.d (.bool p14))), (hB fun _ => 0)⟩
theorem f16_out (p14 : Bool) : outR (f16_fin p14) 0 c16.res = some ((.d (.bool p14)), []) := by
  kernel_rfl
def f16_Q (r : Bool) (e : PX) (st : St) : Prop := DoneF c16 0 ((.d (.bool r)), []) e st
def f16_l1_J (a1 : List Int) (a2 : List Int) (x : Int) : St := ⟨(up (up (up (up (fun _ => .un) 13 (.d (.int .i64 x))) 12 (.d (.int .i64 (a1.length : Int)))) 1 (.d (.sl a2.length ((eInt .i64).cells a2)))) 0 (.d (.sl a1.length ((eInt .i64).cells a1)))), (hB fun _ => 0)⟩
def f16_l1_H (a1 : List Int) (a2 : List Int) (x : Int) (st : St) : Prop := keepSt [0, 1, 12, 13] [] [] st = f16_l1_J a1 a2 x
def f16_l1_e0_J (a1 : List Int) (a2 : List Int) : St := ⟨(fun _ => .un), (hB fun _ => 0)⟩
def f16_l1_X (a1 : List Int) (a2 : List Int) (z : Unit ⊕ Bool) (e : PX) (st : St) : Prop := (match z with | .inl z => e = .exit 0 ∧ st = f16_l1_e0_J a1 a2 | .inr z => e = .ret ∧ finSt c16.fin st = f16_fin z)
def f16_l1_j3_J (a1 : List Int) (a2 : List Int) (p20 : Int) : St := ⟨(up (up (up (up (fun _ => .un) 13 (.d (.int .i64 p20))) 12 (.d (.int .i64 (a1.length : Int)))) 1 (.d (.sl a2.length ((eInt .i64).cells a2)))) 0 (.d (.sl a1.length ((eInt .i64).cells a1)))), (hB fun _ => 0)⟩
noncomputable def f16_l1_j3 (a1 : List Int) (a2 : List Int) (p20 : Int) : Option (Int ⊕ (Unit ⊕ Bool)) := ((idx a1 p20).bind fun z7 => ((idx a2 p20).bind fun z8 => (bif (!decide (z7 = z8)) then (some (.inr (.inr false))) else (some (.inl (IntKind.i64.wrap (p20 + 1)))))))
theorem f16_l1_j3_ok {base : Orc} {d : Nat} (hd : 1 ≤ d) (a1 : List Int) (a2 : List Int) {r : Int ⊕ (Unit ⊕ Bool)} {Q : PX → St → Prop} (hQ : ∀ e st', finL (f16_l1_H a1 a2) (f16_l1_X a1 a2) r e st' → Q e st') (p20 : Int) (hS : f16_l1_j3 a1 a2 p20 = some r) {st : St} (he : keepSt [0, 1, 12, 13] [] [] st = f16_l1_j3_J a1 a2 p20) : ZR (lev codes base (d - 1)) Q c16_1 [] st := by
  refine zrKeep he ?_
  unfold f16_l1_j3 at hS
  refine zrSeq ?_
  refine zrBlk ?_
  refine zrSeq ?_
  refine zrReg ?_
  refine zlRun (n := 2) (j := 2) rfl (by kernel_rfl) ?_
  refine zlEnd (by kernel_rfl) ?_
  refine zkSeq ?_
  refine zrSeq ?_
  refine zrRegD ?_
  refine zdRun (n := 2) (j := 2) (ts := [[], []]) (acc' := [[], []]) rfl (by kernel_rfl) (by kernel_rfl) (by kernel_rfl) ?_
  refine bindE hS (fun z7 hz7 hS => ?_)
  refine zdOp (d := some 18) (op := (.ixS 3 1 (.tmp 16) (.tmp 17))) (g := none) (v := (.rptr ((eInt .i64).enc z7 ++ ((eInt .i64).cells (a1.drop ((p20 : Int).toNat + 1)))))) (ups := []) (j := 3) (t1 := []) (acc' := [[], [], []]) (by kernel_rfl) (by kernel_rfl) rfl (by kernel_rfl) (by kernel_rfl) (ev_ixS (eInt .i64) (kk := .i64) (xs := a1) (j := p20) (by kernel_rfl) (by kernel_rfl) hz7 rfl (by intro h; cases h)) ?_
  refine zdRun (n := 3) (j := 6) (ts := [[], [], []]) (acc' := [[], [], [], [], [], []]) rfl (by kernel_rfl) (by kernel_rfl) (by kernel_rfl) ?_
  refine bindE hS (fun z8 hz8 hS => ?_)
  refine zdOp (d := some 22) (op := (.ixS 3 1 (.tmp 20) (.tmp 21))) (g := none) (v := (.rptr ((eInt .i64).enc z8 ++ ((eInt .i64).cells (a2.drop ((p20 : Int).toNat + 1)))))) (ups := []) (j := 7) (t1 := []) (acc' := [[], [], [], [], [], [], []]) (by kernel_rfl) (by kernel_rfl) rfl (by kernel_rfl) (by kernel_rfl) (ev_ixS (eInt .i64) (kk := .i64) (xs := a2) (j := p20) (by kernel_rfl) (by kernel_rfl) hz8 rfl (by intro h; cases h)) ?_
  refine zdRun (n := 1) (j := 8) (ts := [[]]) (acc' := [[], [], [], [], [], [], [], []]) rfl (by kernel_rfl) (by kernel_rfl) (by kernel_rfl) ?_
  refine zdBool (d := 24) (op := (.cmpI .neq (.tmp 19) (.tmp 23))) (g := none) (j := 9) (t1 := []) (acc' := [[], [], [], [], [], [], [], [], []]) (!decide (z7 = z8)) (by kernel_rfl) (by kernel_rfl) rfl (by kernel_rfl) (by kernel_rfl) (by kernel_rfl) (fun hc => ?_) (fun hc => ?_)
  · replace hS := cond_t hc hS
    refine zdEnd (by kernel_rfl) (by kernel_rfl) ?_
    refine zkSeq ?_
    refine zrCondT (by kernel_rfl) ?_
    refine zrSeq ?_
    refine zrReg ?_
    refine zlRun (n := 1) (j := 1) rfl (by kernel_rfl) ?_
    refine zlEnd (by kernel_rfl) ?_
    refine zkSeq ?_
    refine zrRet ?_
    refine zkBlkR ?_
    refine zkSeqR ?_
    refine zkNil ?_
    exact endQ hS hQ (finL_x (by intro h; cases h) (by show _ = _ ∧ _ = _; exact ⟨rfl, by kernel_rfl⟩))
  · replace hS := cond_f hc hS
    refine zdEnd (by kernel_rfl) (by kernel_rfl) ?_
    refine zkSeq ?_
    refine zrCondF (by kernel_rfl) ?_
    refine zrSkip ?_
    refine zkBlk ?_
    refine zkSeq ?_
    refine zrReg ?_
    refine zlRun (n := 2) (j := 2) rfl (by kernel_rfl) ?_
    refine zlEnd (by kernel_rfl) ?_
    refine zkNil ?_
    exact endQ hS hQ (finL_n (by show keepSt _ _ _ _ = _; kernel_rfl))
def f16_l1_j2_J (a1 : List Int) (a2 : List Int) (p18 : Int) (p19 : Bool) : St := ⟨(up (up (up (up (up (fun _ => .un) 14 (.d (.bool p19))) 13 (.d (.int .i64 p18))) 12 (.d (.int .i64 (a1.length : Int)))) 1 (.d (.sl a2.length ((eInt .i64).cells a2)))) 0 (.d (.sl a1.length ((eInt .i64).cells a1)))), (hB fun _ => 0)⟩
noncomputable def f16_l1_j2 (a1 : List Int) (a2 : List Int) (p18 : Int) (p19 : Bool) : Option (Int ⊕ (Unit ⊕ Bool)) := (bif p19 then (f16_l1_j3 a1 a2 p18) else (some (.inr (.inl ()))))
theorem f16_l1_j2_ok {base : Orc} {d : Nat} (hd : 1 ≤ d) (a1 : List Int) (a2 : List Int) {r : Int ⊕ (Unit ⊕ Bool)} {Q : PX → St → Prop} (hQ : ∀ e st', finL (f16_l1_H a1 a2) (f16_l1_X a1 a2) r e st' → Q e st') (p18 : Int) (p19 : Bool) (hS : f16_l1_j2 a1 a2 p18 p19 = some r) {st : St} (he : keepSt [0, 1, 12, 13, 14] [] [] st = f16_l1_j2_J a1 a2 p18 p19) : ZR (lev codes base (d - 1)) Q c16_2 [] st := by
  refine zrKeep he ?_
  unfold f16_l1_j2 at hS
  refine zrSeq ?_
  refine zrSplit 14 p19 (by kernel_rfl) (fun hc => ?_) (fun hc => ?_)
  · replace hS := cond_t hc hS
    refine zrCondT (by kernel_rfl) ?_
    refine zrSkip ?_
    refine zkSeq ?_
    exact f16_l1_j3_ok hd a1 a2 hQ p18 hS (by kernel_rfl)
  · replace hS := cond_f hc hS
    refine zrCondF (by kernel_rfl) ?_
    refine zrKeep (J := f16_l1_e0_J a1 a2) (by kernel_rfl) ?_
    refine zrExit ?_
    refine zkSeqX ?_
    refine zkNil ?_
    exact endQ hS hQ (finL_x (by intro h; cases h) (by show _ = _ ∧ _ = _; exact ⟨rfl, rfl⟩))
noncomputable def f16_l1 (a1 : List Int) (a2 : List Int) (x : Int) : Option (Int ⊕ (Unit ⊕ Bool)) := (bif (decide (x < (a1.length : Int))) then (f16_l1_j2 a1 a2 x true) else (f16_l1_j2 a1 a2 x false))
theorem f16_l1_ok {base : Orc} {d : Nat} (hd : 1 ≤ d) (a1 : List Int) (a2 : List Int) {r : Int ⊕ (Unit ⊕ Bool)} {Q : PX → St → Prop} (hQ : ∀ e st', finL (f16_l1_H a1 a2) (f16_l1_X a1 a2) r e st' → Q e st') {x : Int} (hS : f16_l1 a1 a2 x = some r) {st : St} (he : f16_l1_H a1 a2 x st) : ZR (lev codes base (d - 1)) Q c16_3 [] st := by
  refine zrKeep he ?_
  unfold f16_l1 at hS
  refine zrSeq ?_
  refine zrReg ?_
  refine zlBool (d := 14) (op := (.cmpI .lss (.tmp 13) (.tmp 12))) (g := none) (j := 1) (decide (x < (a1.length : Int))) rfl (by kernel_rfl) (by kernel_rfl) (by kernel_rfl) (fun hc => ?_) (fun hc => ?_)
  · replace hS := cond_t hc hS
    refine zlEnd (by kernel_rfl) ?_
    refine zkSeq ?_
    exact f16_l1_j2_ok hd a1 a2 hQ x true hS (by kernel_rfl)
  · replace hS := cond_f hc hS
    refine zlEnd (by kernel_rfl) ?_
    refine zkSeq ?_
    exact f16_l1_j2_ok hd a1 a2 hQ x false hS (by kernel_rfl)
def f16_j0_J (a1 : List Int) (a2 : List Int) : St := ⟨(up (up (fun _ => .un) 1 (.d (.sl a2.length ((eInt .i64).cells a2)))) 0 (.d (.sl a1.length ((eInt .i64).cells a1)))), (hB fun _ => 0)⟩
noncomputable def f16_j0 (a1 : List Int) (a2 : List Int) : Option (Bool) := ((loopO (f16_l1 a1 a2) 0).bind fun z9 => (Sum.elim (fun z10 => (some true)) (fun z11 => (some z11)) z9))
theorem f16_j0_ok {base : Orc} {d : Nat} (hd : 1 ≤ d) (a1 : List Int) (a2 : List Int) {r : Bool} {Q : PX → St → Prop} (hQ : ∀ e st', f16_Q r e st' → Q e st')  (hS : f16_j0 a1 a2 = some r) {st : St} (he : keepSt [0, 1] [] [] st = f16_j0_J a1 a2) : ZR (lev codes base (d - 1)) Q c16_4 [] st := by
  refine zrKeep he ?_
  unfold f16_j0 at hS
  refine zrSeq ?_
  refine zrSeq ?_
  refine zrReg ?_
  refine zlRun (n := 3) (j := 3) rfl (by kernel_rfl) ?_
  refine zlEnd (by kernel_rfl) ?_
  refine zkSeq ?_
  refine zrBlk ?_
  refine bindE hS (fun z9 hz9 hS => ?_)
  refine zrLoop (f16_l1_H a1 a2) (f16_l1_X a1 a2) (fun x st r Q h0 hS hQ => f16_l1_ok hd a1 a2 hQ hS h0) (x := 0) (z := z9) (by show keepSt _ _ _ _ = _; kernel_rfl) hz9 ?_
  rcases z9 with z10 | z11
  · replace hS := (show _ = _ from hS)
    simp only [Sum.elim_inl] at hS
    intro e st' _ hX
    obtain ⟨rfl, rfl⟩ : _ ∧ _ := hX
    refine zkBlkX ?_
    refine zkSeq ?_
    refine zrSeq ?_
    refine zrReg ?_
    refine zlRun (n := 1) (j := 1) rfl (by kernel_rfl) ?_
    refine zlEnd (by kernel_rfl) ?_
    refine zkSeq ?_
    refine zrRet ?_
    refine zkNil ?_
    exact endQ hS hQ (fRet (by kernel_rfl) ((congrArg (fun s => outR s 0 c16.res) (by kernel_rfl : finSt c16.fin _ = f16_fin true)).trans (f16_out true)))
  · simp only [Sum.elim_inr] at hS
    intro e st' _ hX
    obtain ⟨rfl, hX⟩ : _ ∧ _ := hX
    refine zkBlkR ?_
    refine zkSeqR ?_
    refine zkNil ?_
    exact endQ hS hQ (fRet (by kernel_rfl) ((congrArg (fun s => outR s 0 c16.res) hX).trans (f16_out z11)))
noncomputable def f16 (a1 : List Int) (a2 : List Int) : Option (Bool) := (bif (!decide ((a1.length : Int) = (a2.length : Int))) then (some false) else (f16_j0 a1 a2 ))
theorem f16_ok (base : Orc) (d : Nat) (hd : 1 ≤ d) (a1 : List Int) (a2 : List Int) (r : Bool) (hS : f16 a1 a2 = some r) : lev codes base d 16 [(.d (.sl a1.length ((eInt .i64).cells a1))), (.d (.sl a2.length ((eInt .i64).cells a2)))] [] = some ((.d (.bool r)), []) := by
  refine lev_go codes16 rfl rfl (Nat.le_trans (Nat.le_of_ble_eq_true rfl) hd) fun Q hQ => ?_
  unfold f16 at hS
  show ZR _ Q c16_b [] _
  replace hQ : ∀ e st', f16_Q r e st' → Q e st' := hQ
  refine zrSeq ?_
  refine zrReg ?_
  refine zlRun (n := 1) (j := 1) rfl (by kernel_rfl) ?_
  refine zlEnd (by kernel_rfl) ?_
  refine zkSeq ?_
  refine zrSeq ?_
  refine zrSeq ?_
  refine zrReg ?_
  refine zlRun (n := 4) (j := 4) rfl (by kernel_rfl) ?_
  refine zlBool (d := 10) (op := (.cmpI .neq (.tmp 7) (.tmp 9))) (g := none) (j := 5) (!decide ((a1.length : Int) = (a2.length : Int))) rfl (by kernel_rfl) (by kernel_rfl) (by kernel_rfl) (fun hc => ?_) (fun hc => ?_)
  · replace hS := cond_t hc hS
    refine zlEnd (by kernel_rfl) ?_
    refine zkSeq ?_
    refine zrCondT (by kernel_rfl) ?_
    refine zrSeq ?_
    refine zrReg ?_
    refine zlRun (n := 1) (j := 1) rfl (by kernel_rfl) ?_
    refine zlEnd (by kernel_rfl) ?_
    refine zkSeq ?_
    refine zrRet ?_
    refine zkSeqR ?_
    refine zkNil ?_
    exact endQ hS hQ (fRet (by kernel_rfl) ((congrArg (fun s => outR s 0 c16.res) (by kernel_rfl : finSt c16.fin _ = f16_fin false)).trans (f16_out false)))
  · replace hS := cond_f hc hS
    refine zlEnd (by kernel_rfl) ?_
    refine zkSeq ?_
    refine zrCondF (by kernel_rfl) ?_
    refine zrSkip ?_
    refine zkSeq ?_
    exact f16_j0_ok hd a1 a2 hQ  hS (by kernel_rfl)
/- farwriter/farkeep.gridLives -/
def f5_fin (p5 : Bool) : St := ⟨(up (fun _ => .un) 0 (.d (.bool p5))), (hB fun _ => 0)⟩
theorem f5_out (p5 : Bool) : outR (f5_fin p5) 0 c5.res = some ((.d (.bool p5)), []) := by
  kernel_rfl
def f5_Q (r : Bool) (e : PX) (st : St) : Prop := DoneF c5 0 ((.d (.bool r)), []) e st
noncomputable def f5  : Option (Bool) := ((f14 4 1 (GPen.mk 0 0 0)).bind fun z6 => ((f7 (GGrid.mk z6.1 z6.2.1 z6.2.2.1) 0 0 97 (GPen.mk 0 0 0)).bind fun z7 => ((f7 (GGrid.mk z7.1 z7.2.1 z7.2.2.1) 0 1 20013 (GPen.mk 1 0 0)).bind fun z8 => ((f15 (GGrid.mk z8.1 z8.2.1 z8.2.2.1) 0).bind fun z9 => (bif (decide (z6.2.2.2 = 0)) then (bif (decide (z7.2.2.2 = 0)) then (bif (decide (z8.2.2.2 = 0)) then (bif (decide (z9.2 = 0)) then ((f16 z9.1 [97, 20013, 32]).bind fun z10 => (some z10)) else (some false)) else (some false)) else (some false)) else (some false))))))
theorem f5_ok (base : Orc) (d : Nat) (hd : 7 ≤ d)  (r : Bool) (hS : f5 = some r) : lev codes base d 5 [] [] = some ((.d (.bool r)), []) := by
  refine lev_go codes5 rfl rfl (Nat.le_trans (Nat.le_of_ble_eq_true rfl) hd) fun Q hQ => ?_
  unfold f5 at hS
  show ZR _ Q c5_b [] _
  replace hQ : ∀ e st', f5_Q r e st' → Q e st' := hQ
  refine zrSeq ?_
  refine zrReg ?_
  refine zlRun (n := 1) (j := 1) rfl (by kernel_rfl) ?_
  refine zlEnd (by kernel_rfl) ?_
  refine zkSeq ?_
  refine zrSeq ?_
  refine zrReg ?_
  refine zlRun (n := 1) (j := 1) rfl (by kernel_rfl) ?_
  refine bindE hS (fun z6 hz6 hS => ?_)
  refine zlOp (d := some 9) (op := (.call 14 [(.const (.int .i64 4)), (.const (.int .i64 1)), (.tmp 8)])) (g := none) (j := 2) rfl (by kernel_rfl) (by kernel_rfl) (ev_callA (by kernel_rfl) (f14_ok base (d - 1) (dpt hd rfl) 4 1 (GPen.mk 0 0 0) z6 hz6) (by kernel_rfl) (by kernel_rfl)) ?_
  refine zlRun (n := 6) (j := 8) rfl (by kernel_rfl) ?_
  refine zlEnd (by kernel_rfl) ?_
  refine zkSeq ?_
  refine zrSeq ?_
  refine zrReg ?_
  refine zlRun (n := 2) (j := 2) rfl (by kernel_rfl) ?_
  refine bindE hS (fun z7 hz7 hS => ?_)
  refine zlOp (d := some 15) (op := (.callf 7 [(.tmp 13), (.const (.int .i64 0)), (.const (.int .i64 0)), (.const (.int .i64 97)), (.tmp 14)])) (g := none) (v := (.tup [(.agg ((.d (.int .i64 z7.1)) :: ((.d (.int .i64 z7.2.1)) :: ((.r (.msl 128 1 0 z7.2.2.1.length)) :: [])))), (.d (.int .i64 z7.2.2.2))])) (ups := [(80, ⟨2, none⟩), (128, ⟨1, some (.own 36 4 (e_GCell.cells z7.2.2.1))⟩)]) (j := 3) rfl (by kernel_rfl) (by kernel_rfl) (ev_callF (args := [(.agg ((.d (.int .i64 z6.1)) :: ((.d (.int .i64 z6.2.1)) :: ((.r (.msl 80 1 0 z6.2.2.1.length)) :: [])))), (.d (.int .i64 0)), (.d (.int .i64 0)), (.d (.int .i64 97)), (.agg ((.d (.int .i64 0)) :: ((.d (.int .i64 0)) :: ((.d (.int .i64 0)) :: []))))]) (args' := [(.agg ((.d (.int .i64 z6.1)) :: ((.d (.int .i64 z6.2.1)) :: ((.d (.sl z6.2.2.1.length (e_GCell.cells z6.2.2.1))) :: [])))), (.d (.int .i64 0)), (.d (.int .i64 0)), (.d (.int .i64 97)), (.agg ((.d (.int .i64 0)) :: ((.d (.int .i64 0)) :: ((.d (.int .i64 0)) :: []))))]) (l := [(.agg ((.d (.int .i64 z6.1)) :: ((.d (.int .i64 z6.2.1)) :: ((.d (.sl z6.2.2.1.length (e_GCell.cells z6.2.2.1))) :: [])))), (.d (.int .i64 0)), (.d (.int .i64 0)), (.d (.int .i64 97)), (.agg ((.d (.int .i64 0)) :: ((.d (.int .i64 0)) :: ((.d (.int .i64 0)) :: []))))]) (refs := [80]) (r := (.tup [(.agg ((.d (.int .i64 z7.1)) :: ((.d (.int .i64 z7.2.1)) :: ((.r (.own 0 36 4 z7.2.2.1.length (e_GCell.cells z7.2.2.1))) :: [])))), (.d (.int .i64 z7.2.2.2))])) (v := (.tup [(.agg ((.d (.int .i64 z7.1)) :: ((.d (.int .i64 z7.2.1)) :: ((.r (.msl 128 1 0 z7.2.2.1.length)) :: [])))), (.d (.int .i64 z7.2.2.2))])) (ups' := [(128, ⟨1, some (.own 36 4 (e_GCell.cells z7.2.2.1))⟩)]) (by kernel_rfl) (by kernel_rfl) (by kernel_rfl) (fz_cons (fz_agg (fz_cons (by kernel_rfl) (fz_cons (by kernel_rfl) (fz_cons (fz_own e_GCell (e := 36) (k := 4) (xs := z6.2.2.1) (by kernel_rfl) (by kernel_rfl) rfl rfl) fz_nil)))) (fz_cons rfl (fz_cons rfl (fz_cons rfl (fz_cons rfl fz_nil))))) (by kernel_rfl) (f7_ok base (d - 1) (dpt hd rfl) (GGrid.mk z6.1 z6.2.1 z6.2.2.1) 0 0 97 (GPen.mk 0 0 0) z7 hz7) (by kernel_rfl) (by kernel_rfl) (by kernel_rfl) (by kernel_rfl)) ?_
  refine zlRun (n := 5) (j := 8) rfl (by kernel_rfl) ?_
  refine zlEnd (by kernel_rfl) ?_
  refine zkSeq ?_
  refine zrSeq ?_
  refine zrReg ?_
  refine zlRun (n := 2) (j := 2) rfl (by kernel_rfl) ?_
  refine bindE hS (fun z8 hz8 hS => ?_)
  refine zlOp (d := some 21) (op := (.callf 7 [(.tmp 19), (.const (.int .i64 0)), (.const (.int .i64 1)), (.const (.int .i64 20013)), (.tmp 20)])) (g := none) (v := (.tup [(.agg ((.d (.int .i64 z8.1)) :: ((.d (.int .i64 z8.2.1)) :: ((.r (.msl 176 1 0 z8.2.2.1.length)) :: [])))), (.d (.int .i64 z8.2.2.2))])) (ups := [(128, ⟨2, none⟩), (176, ⟨1, some (.own 36 4 (e_GCell.cells z8.2.2.1))⟩)]) (j := 3) rfl (by kernel_rfl) (by kernel_rfl) (ev_callF (args := [(.agg ((.d (.int .i64 z7.1)) :: ((.d (.int .i64 z7.2.1)) :: ((.r (.msl 128 1 0 z7.2.2.1.length)) :: [])))), (.d (.int .i64 0)), (.d (.int .i64 1)), (.d (.int .i64 20013)), (.agg ((.d (.int .i64 1)) :: ((.d (.int .i64 0)) :: ((.d (.int .i64 0)) :: []))))]) (args' := [(.agg ((.d (.int .i64 z7.1)) :: ((.d (.int .i64 z7.2.1)) :: ((.d (.sl z7.2.2.1.length (e_GCell.cells z7.2.2.1))) :: [])))), (.d (.int .i64 0)), (.d (.int .i64 1)), (.d (.int .i64 20013)), (.agg ((.d (.int .i64 1)) :: ((.d (.int .i64 0)) :: ((.d (.int .i64 0)) :: []))))]) (l := [(.agg ((.d (.int .i64 z7.1)) :: ((.d (.int .i64 z7.2.1)) :: ((.d (.sl z7.2.2.1.length (e_GCell.cells z7.2.2.1))) :: [])))), (.d (.int .i64 0)), (.d (.int .i64 1)), (.d (.int .i64 20013)), (.agg ((.d (.int .i64 1)) :: ((.d (.int .i64 0)) :: ((.d (.int .i64 0)) :: []))))]) (refs := [128]) (r := (.tup [(.agg ((.d (.int .i64 z8.1)) :: ((.d (.int .i64 z8.2.1)) :: ((.r (.own 0 36 4 z8.2.2.1.length (e_GCell.cells z8.2.2.1))) :: [])))), (.d (.int .i64 z8.2.2.2))])) (v := (.tup [(.agg ((.d (.int .i64 z8.1)) :: ((.d (.int .i64 z8.2.1)) :: ((.r (.msl 176 1 0 z8.2.2.1.length)) :: [])))), (.d (.int .i64 z8.2.2.2))])) (ups' := [(176, ⟨1, some (.own 36 4 (e_GCell.cells z8.2.2.1))⟩)]) (by kernel_rfl) (by kernel_rfl) (by kernel_rfl) (fz_cons (fz_agg (fz_cons (by kernel_rfl) (fz_cons (by kernel_rfl) (fz_cons (fz_own e_GCell (e := 36) (k := 4) (xs := z7.2.2.1) (by kernel_rfl) (by kernel_rfl) rfl rfl) fz_nil)))) (fz_cons rfl (fz_cons rfl (fz_cons rfl (fz_cons rfl fz_nil))))) (by kernel_rfl) (f7_ok base (d - 1) (dpt hd rfl) (GGrid.mk z7.1 z7.2.1 z7.2.2.1) 0 1 20013 (GPen.mk 1 0 0) z8 hz8) (by kernel_rfl) (by kernel_rfl) (by kernel_rfl) (by kernel_rfl)) ?_
  refine zlRun (n := 5) (j := 8) rfl (by kernel_rfl) ?_
  refine zlEnd (by kernel_rfl) ?_
  refine zkSeq ?_
  refine zrSeq ?_
  refine zrReg ?_
  refine zlRun (n := 1) (j := 1) rfl (by kernel_rfl) ?_
  refine bindE hS (fun z9 hz9 hS => ?_)
  refine zlOp (d := some 26) (op := (.call 15 [(.tmp 25), (.const (.int .i64 0))])) (g := none) (j := 2) rfl (by kernel_rfl) (by kernel_rfl) (ev_callB (args := [(.agg ((.d (.int .i64 z8.1)) :: ((.d (.int .i64 z8.2.1)) :: ((.r (.msl 176 1 0 z8.2.2.1.length)) :: [])))), (.d (.int .i64 0))]) (by kernel_rfl) (l_cons (l_agg (l_cons (by kernel_rfl) (l_cons (by kernel_rfl) (l_cons (l_own e_GCell (e := 36) (k := 4) (xs := z8.2.2.1) (by kernel_rfl) rfl rfl) l_nil)))) (l_cons (by kernel_rfl) l_nil)) (f15_ok base (d - 1) (dpt hd rfl) (GGrid.mk z8.1 z8.2.1 z8.2.2.1) 0 z9 hz9) (by simp only [free_own (eInt .i64) (fun _ => rfl), free_tup, free_agg, free_nl, free_cs, free_int, free_bool, free_str, free_un, free_ni, free_s0, Bool.and_true, Bool.or_true, Bool.and_self]) (by kernel_rfl)) ?_
  refine zlRun (n := 5) (j := 7) rfl (by kernel_rfl) ?_
  refine zlEnd (by kernel_rfl) ?_
  refine zkSeq ?_
  refine zrSeq ?_
  refine zrReg ?_
  refine zlRun (n := 1) (j := 1) rfl (by kernel_rfl) ?_
  refine zlBool (d := 30) (op := (.cmpI .eql (.tmp 29) (.const (.int .i64 0)))) (g := none) (j := 2) (decide (z6.2.2.2 = 0)) rfl (by kernel_rfl) (by kernel_rfl) (by kernel_rfl) (fun hc => ?_) (fun hc => ?_)
  · replace hS := cond_t hc hS
    refine zlRun (n := 2) (j := 4) rfl (by kernel_rfl) ?_
    refine zlBool (d := 33) (op := (.cmpI .eql (.tmp 32) (.const (.int .i64 0)))) (g := (some (31, true))) (j := 5) (decide (z7.2.2.2 = 0)) rfl (by kernel_rfl) (by kernel_rfl) (by kernel_rfl) (fun hc => ?_) (fun hc => ?_)
    · replace hS := cond_t hc hS
      refine zlRun (n := 3) (j := 8) rfl (by kernel_rfl) ?_
      refine zlBool (d := 37) (op := (.cmpI .eql (.tmp 36) (.const (.int .i64 0)))) (g := (some (35, true))) (j := 9) (decide (z8.2.2.2 = 0)) rfl (by kernel_rfl) (by kernel_rfl) (by kernel_rfl) (fun hc => ?_) (fun hc => ?_)
      · replace hS := cond_t hc hS
        refine zlRun (n := 3) (j := 12) rfl (by kernel_rfl) ?_
        refine zlBool (d := 41) (op := (.cmpI .eql (.tmp 40) (.const (.int .i64 0)))) (g := (some (39, true))) (j := 13) (decide (z9.2 = 0)) rfl (by kernel_rfl) (by kernel_rfl) (by kernel_rfl) (fun hc => ?_) (fun hc => ?_)
        · replace hS := cond_t hc hS
          refine zlRun (n := 4) (j := 17) rfl (by kernel_rfl) ?_
          refine bindE hS (fun z10 hz10 hS => ?_)
          refine zlOp (d := some 46) (op := (.call 16 [(.tmp 44), (.tmp 45)])) (g := (some (43, true))) (j := 18) rfl (by kernel_rfl) (by kernel_rfl) (ev_callB (args := [(.r (.msl 216 1 0 z9.1.length)), (.r (.msl 368 1 0 (([97, 20013, 32] : List Int).length)))]) (by kernel_rfl) (l_cons (l_own (eInt .i64) (e := 3) (k := 1) (xs := z9.1) (by kernel_rfl) rfl rfl) (l_cons (l_own (eInt .i64) (e := 3) (k := 1) (xs := [97, 20013, 32]) (by kernel_rfl) rfl rfl) l_nil)) (f16_ok base (d - 1) (dpt hd rfl) z9.1 [97, 20013, 32] z10 hz10) (by kernel_rfl) (by kernel_rfl)) ?_
          refine zlRun (n := 2) (j := 20) rfl (by kernel_rfl) ?_
          refine zlEnd (by kernel_rfl) ?_
          refine zkSeq ?_
          refine zrRet ?_
          refine zkNil ?_
          exact endQ hS hQ (fRet (by kernel_rfl) ((congrArg (fun s => outR s 0 c5.res) (by kernel_rfl : finSt c5.fin _ = f5_fin z10)).trans (f5_out z10)))
        · replace hS := cond_f hc hS
          refine zlRun (n := 7) (j := 20) rfl (by kernel_rfl) ?_
          refine zlEnd (by kernel_rfl) ?_
          refine zkSeq ?_
          refine zrRet ?_
          refine zkNil ?_
          exact endQ hS hQ (fRet (by kernel_rfl) ((congrArg (fun s => outR s 0 c5.res) (by kernel_rfl : finSt c5.fin _ = f5_fin false)).trans (f5_out false)))
      · replace hS := cond_f hc hS
        refine zlRun (n := 11) (j := 20) rfl (by kernel_rfl) ?_
        refine zlEnd (by kernel_rfl) ?_
        refine zkSeq ?_
        refine zrRet ?_
        refine zkNil ?_
        exact endQ hS hQ (fRet (by kernel_rfl) ((congrArg (fun s => outR s 0 c5.res) (by kernel_rfl : finSt c5.fin _ = f5_fin false)).trans (f5_out false)))
    · replace hS := cond_f hc hS
      refine zlRun (n := 15) (j := 20) rfl (by kernel_rfl) ?_
      refine zlEnd (by kernel_rfl) ?_
      refine zkSeq ?_
      refine zrRet ?_
      refine zkNil ?_
      exact endQ hS hQ (fRet (by kernel_rfl) ((congrArg (fun s => outR s 0 c5.res) (by kernel_rfl : finSt c5.fin _ = f5_fin false)).trans (f5_out false)))
  · replace hS := cond_f hc hS
    refine zlRun (n := 18) (j := 20) rfl (by kernel_rfl) ?_
    refine zlEnd (by kernel_rfl) ?_
    refine zkSeq ?_
    refine zrRet ?_
    refine zkNil ?_
    exact endQ hS hQ (fRet (by kernel_rfl) ((congrArg (fun s => outR s 0 c5.res) (by kernel_rfl : finSt c5.fin _ = f5_fin false)).trans (f5_out false)))
/- farwriter/grid.span -/
def f24_fin (p6 : Bool) : St := ⟨(up (fun _ => .un) 8 (.d (.bool p6))), (hB fun _ => 0)⟩
theorem f24_out (p6 : Bool) : outR (f24_fin p6) 0 c24.res = some ((.d (.bool p6)), []) := by
  kernel_rfl
def f24_Q (r : Bool) (e : PX) (st : St) : Prop := DoneF c24 0 ((.d (.bool r)), []) e st
noncomputable def f24 (a1 : GGrid) (a2 : Int) (a3 : Int) (a4 : Int) : Option (Bool) := (bif (decide (0 ≤ a2)) then (bif (decide (a2 < a1.High)) then (bif (decide (0 ≤ a3)) then (bif (decide (a3 ≤ a4)) then (bif (decide (a4 ≤ a1.Wide)) then (some true) else (some false)) else (some false)) else (some false)) else (some false)) else (some false))
theorem f24_ok (base : Orc) (d : Nat) (hd : 1 ≤ d) (a1 : GGrid) (a2 : Int) (a3 : Int) (a4 : Int) (r : Bool) (hS : f24 a1 a2 a3 a4 = some r) : lev codes base d 24 [(.agg ((.d (.int .i64 a1.Wide)) :: ((.d (.int .i64 a1.High)) :: ((.d (.sl a1.Cells.length (e_GCell.cells a1.Cells))) :: [])))), (.d (.int .i64 a2)), (.d (.int .i64 a3)), (.d (.int .i64 a4))] [] = some ((.d (.bool r)), []) := by
  refine lev_go codes24 rfl rfl (Nat.le_trans (Nat.le_of_ble_eq_true rfl) hd) fun Q hQ => ?_
  unfold f24 at hS
  show ZR _ Q c24_b [] _
  replace hQ : ∀ e st', f24_Q r e st' → Q e st' := hQ
  refine zrSeq ?_
  refine zrReg ?_
  refine zlRun (n := 2) (j := 2) rfl (by kernel_rfl) ?_
  refine zlEnd (by kernel_rfl) ?_
  refine zkSeq ?_
  refine zrSeq ?_
  refine zrReg ?_
  refine zlRun (n := 1) (j := 1) rfl (by kernel_rfl) ?_
  refine zlBool (d := 10) (op := (.cmpI .geq (.tmp 9) (.const (.int .i64 0)))) (g := none) (j := 2) (decide (0 ≤ a2)) rfl (by kernel_rfl) (by kernel_rfl) (by kernel_rfl) (fun hc => ?_) (fun hc => ?_)
  · replace hS := cond_t hc hS
    refine zlRun (n := 4) (j := 6) rfl (by kernel_rfl) ?_
    refine zlBool (d := 15) (op := (.cmpI .lss (.tmp 12) (.tmp 14))) (g := (some (11, true))) (j := 7) (decide (a2 < a1.High)) rfl (by kernel_rfl) (by kernel_rfl) (by kernel_rfl) (fun hc => ?_) (fun hc => ?_)
    · replace hS := cond_t hc hS
      refine zlRun (n := 3) (j := 10) rfl (by kernel_rfl) ?_
      refine zlBool (d := 19) (op := (.cmpI .geq (.tmp 18) (.const (.int .i64 0)))) (g := (some (17, true))) (j := 11) (decide (0 ≤ a3)) rfl (by kernel_rfl) (by kernel_rfl) (by kernel_rfl) (fun hc => ?_) (fun hc => ?_)
      · replace hS := cond_t hc hS
        refine zlRun (n := 4) (j := 15) rfl (by kernel_rfl) ?_
        refine zlBool (d := 24) (op := (.cmpI .leq (.tmp 22) (.tmp 23))) (g := (some (21, true))) (j := 16) (decide (a3 ≤ a4)) rfl (by kernel_rfl) (by kernel_rfl) (by kernel_rfl) (fun hc => ?_) (fun hc => ?_)
        · replace hS := cond_t hc hS
          refine zlRun (n := 5) (j := 21) rfl (by kernel_rfl) ?_
          refine zlBool (d := 30) (op := (.cmpI .leq (.tmp 27) (.tmp 29))) (g := (some (26, true))) (j := 22) (decide (a4 ≤ a1.Wide)) rfl (by kernel_rfl) (by kernel_rfl) (by kernel_rfl) (fun hc => ?_) (fun hc => ?_)
          · replace hS := cond_t hc hS
            refine zlRun (n := 2) (j := 24) rfl (by kernel_rfl) ?_
            refine zlEnd (by kernel_rfl) ?_
            refine zkSeq ?_
            refine zrRet ?_
            refine zkNil ?_
            exact endQ hS hQ (fRet (by kernel_rfl) ((congrArg (fun s => outR s 0 c24.res) (by kernel_rfl : finSt c24.fin _ = f24_fin true)).trans (f24_out true)))
          · replace hS := cond_f hc hS
            refine zlRun (n := 2) (j := 24) rfl (by kernel_rfl) ?_
            refine zlEnd (by kernel_rfl) ?_
            refine zkSeq ?_
            refine zrRet ?_
            refine zkNil ?_
            exact endQ hS hQ (fRet (by kernel_rfl) ((congrArg (fun s => outR s 0 c24.res) (by kernel_rfl : finSt c24.fin _ = f24_fin false)).trans (f24_out false)))
        · replace hS := cond_f hc hS
          refine zlRun (n := 8) (j := 24) rfl (by kernel_rfl) ?_
          refine zlEnd (by kernel_rfl) ?_
          refine zkSeq ?_
          refine zrRet ?_
          refine zkNil ?_
          exact endQ hS hQ (fRet (by kernel_rfl) ((congrArg (fun s => outR s 0 c24.res) (by kernel_rfl : finSt c24.fin _ = f24_fin false)).trans (f24_out false)))
      · replace hS := cond_f hc hS
        refine zlRun (n := 13) (j := 24) rfl (by kernel_rfl) ?_
        refine zlEnd (by kernel_rfl) ?_
        refine zkSeq ?_
        refine zrRet ?_
        refine zkNil ?_
        exact endQ hS hQ (fRet (by kernel_rfl) ((congrArg (fun s => outR s 0 c24.res) (by kernel_rfl : finSt c24.fin _ = f24_fin false)).trans (f24_out false)))
    · replace hS := cond_f hc hS
      refine zlRun (n := 17) (j := 24) rfl (by kernel_rfl) ?_
      refine zlEnd (by kernel_rfl) ?_
      refine zkSeq ?_
      refine zrRet ?_
      refine zkNil ?_
      exact endQ hS hQ (fRet (by kernel_rfl) ((congrArg (fun s => outR s 0 c24.res) (by kernel_rfl : finSt c24.fin _ = f24_fin false)).trans (f24_out false)))
  · replace hS := cond_f hc hS
    refine zlRun (n := 22) (j := 24) rfl (by kernel_rfl) ?_
    refine zlEnd (by kernel_rfl) ?_
    refine zkSeq ?_
    refine zrRet ?_
    refine zkNil ?_
    exact endQ hS hQ (fRet (by kernel_rfl) ((congrArg (fun s => outR s 0 c24.res) (by kernel_rfl : finSt c24.fin _ = f24_fin false)).trans (f24_out false)))
/- farwriter/grid.FillIn -/
def f25_fin (p29 : List GCell) : St := ⟨(up (fun _ => .un) 2000000 .un), (up (hB fun _ => 0) 0 ⟨0, some (.own 36 4 (e_GCell.cells p29))⟩)⟩
theorem f25_out (p29 : List GCell) : outR (f25_fin p29) 1 c25.res = some ((.tup []), [(.own 36 4 (e_GCell.cells p29))]) := by
  kernel_rfl
def f25_Q (r : (List GCell)) (e : PX) (st : St) : Prop := DoneF c25 1 ((.tup []), [(.own 36 4 (e_GCell.cells r)), .box []]) e st
def f25_l0_J (a1 : Int) (a2 : Int) (a3 : Int) (a4 : Int) (a5 : Int) (a6 : GPen) (a7 : List GCell) (x : (List GCell) × Nat × Nat × Int) : St := ⟨(up (up (up (up (fun _ => .un) 11 (.d (.int .i64 x.2.2.2))) 10 (.r (.msl 0 0 x.2.1 x.2.2.1))) 9 (.r (.ptr 80 0 0))) 3 (.d (.int .i64 a5))), (up (up (hB fun _ => 0) 80 ⟨0, some (.box ((.d (.int .i64 a6.Flags)) :: ((.d (.int .i64 a6.Fore)) :: ((.d (.int .i64 a6.Back)) :: []))))⟩) 0 ⟨0, some (.own 36 4 (e_GCell.cells x.1))⟩)⟩
def f25_l0_H (a1 : Int) (a2 : Int) (a3 : Int) (a4 : Int) (a5 : Int) (a6 : GPen) (a7 : List GCell) (x : (List GCell) × Nat × Nat × Int) (st : St) : Prop := keepSt [3, 9, 10, 11] [(0, .id 0), (80, .id 80)] [] st = f25_l0_J a1 a2 a3 a4 a5 a6 a7 x
def f25_l0_e0_J (a1 : Int) (a2 : Int) (a3 : Int) (a4 : Int) (a5 : Int) (a6 : GPen) (a7 : List GCell) (p55 : List GCell) (p56 : Nat) (p57 : Nat) : St := ⟨(up (fun _ => .un) 10 (.r (.msl 0 0 p56 p57))), (up (hB fun _ => 0) 0 ⟨0, some (.own 36 4 (e_GCell.cells p55))⟩)⟩
def f25_l0_X (a1 : Int) (a2 : Int) (a3 : Int) (a4 : Int) (a5 : Int) (a6 : GPen) (a7 : List GCell) (z : ((List GCell) × Nat × Nat)) (e : PX) (st : St) : Prop := e = .exit 0 ∧ st = f25_l0_e0_J a1 a2 a3 a4 a5 a6 a7 z.1 z.2.1 z.2.2
def f25_l0_j1_J (a1 : Int) (a2 : Int) (a3 : Int) (a4 : Int) (a5 : Int) (a6 : GPen) (a7 : List GCell) (p63 : List GCell) (p64 : Nat) (p65 : Nat) (p66 : Int) : St := ⟨(up (up (up (up (fun _ => .un) 11 (.d (.int .i64 p66))) 10 (.r (.msl 0 0 p64 p65))) 9 (.r (.ptr 80 0 0))) 3 (.d (.int .i64 a5))), (up (up (hB fun _ => 0) 80 ⟨0, some (.box ((.d (.int .i64 a6.Flags)) :: ((.d (.int .i64 a6.Fore)) :: ((.d (.int .i64 a6.Back)) :: []))))⟩) 0 ⟨0, some (.own 36 4 (e_GCell.cells p63))⟩)⟩
noncomputable def f25_l0_j1 (a1 : Int) (a2 : Int) (a3 : Int) (a4 : Int) (a5 : Int) (a6 : GPen) (a7 : List GCell) (p63 : List GCell) (p64 : Nat) (p65 : Nat) (p66 : Int) : Option (((List GCell) × Nat × Nat × Int) ⊕ (((List GCell) × Nat × Nat))) := ((f36 a6).bind fun z31 => ((inR p66 p65).bind fun m32 => ((p63[(p64 + m32)]?).bind fun z33 => ((some (p63.set (p64 + m32) z31)).bind fun z34 => (some (.inl (z34, p64, p65, (IntKind.i64.wrap (p66 + 1)))))))))
theorem f25_l0_j1_ok {base : Orc} {d : Nat} (hd : 5 ≤ d) (a1 : Int) (a2 : Int) (a3 : Int) (a4 : Int) (a5 : Int) (a6 : GPen) (a7 : List GCell) {r : ((List GCell) × Nat × Nat × Int) ⊕ (((List GCell) × Nat × Nat))} {Q : PX → St → Prop} (hQ : ∀ e st', finL (f25_l0_H a1 a2 a3 a4 a5 a6 a7) (f25_l0_X a1 a2 a3 a4 a5 a6 a7) r e st' → Q e st') (p63 : List GCell) (p64 : Nat) (p65 : Nat) (p66 : Int) (hS : f25_l0_j1 a1 a2 a3 a4 a5 a6 a7 p63 p64 p65 p66 = some r) {st : St} (he : keepSt [3, 9, 10, 11] [(0, .id 0), (80, .id 80)] [] st = f25_l0_j1_J a1 a2 a3 a4 a5 a6 a7 p63 p64 p65 p66) : ZR (lev codes base (d - 1)) Q c25_1 [] st := by
  refine zrKeep he ?_
  unfold f25_l0_j1 at hS
  refine zrSeq ?_
  refine zrBlk ?_
  refine zrReg ?_
  refine zlRun (n := 3) (j := 3) rfl (by kernel_rfl) ?_
  refine bindE hS (fun z31 hz31 hS => ?_)
  refine zlOp (d := some 24) (op := (.call 36 [(.tmp 23)])) (g := none) (j := 4) rfl (by kernel_rfl) (by kernel_rfl) (ev_callA (by kernel_rfl) (f36_ok base (d - 1) (dpt hd rfl) a6 z31 hz31) (by kernel_rfl) (by kernel_rfl)) ?_
  refine bindE hS (fun m32 hm32 hS => ?_)
  refine zlOp (d := some 25) (op := (.ixS 36 4 (.tmp 21) (.tmp 22))) (g := none) (v := (.r (.ptr 0 0 ((p64 + m32) * 4)))) (ups := []) (j := 5) rfl (by kernel_rfl) (by kernel_rfl) (ev_ixM (kk := .i64) (b := 0) (g := 0) (l := p64) (n := p65) (j := p66) (cs := e_GCell.cells p63) (by kernel_rfl) (by kernel_rfl) (by kernel_rfl) hm32) ?_
  refine bindE hS (fun z33 hz33 hS => ?_)
  refine bindE hS (fun z34 hz34 hS => ?_)
  refine zlOp (d := none) (op := (.store 4 (.tmp 25) (.tmp 24))) (g := none) (v := .un) (ups := [(0, ⟨0, some (.own 36 4 (e_GCell.cells (p63.set (p64 + m32) z31)))⟩)]) (j := 6) rfl (by kernel_rfl) (by kernel_rfl) (ev_storeM e_GCell (b := 0) (g := 0) (o := (p64 + m32) * 4) (e := 36) (k := 4) (m := (p64 + m32)) (fo := 0) (xs := p63) (z := z33) (z' := z31) (by kernel_rfl) (new := ((.d (.int .i64 z31.Rune)) :: ((.d (.int .i64 z31.Pen.Flags)) :: ((.d (.int .i64 z31.Pen.Fore)) :: ((.d (.int .i64 z31.Pen.Back)) :: []))))) (ds := [.int .i64 z31.Rune, .int .i64 z31.Pen.Flags, .int .i64 z31.Pen.Fore, .int .i64 z31.Pen.Back]) (by kernel_rfl) (by kernel_rfl) (by kernel_rfl) rfl hz33 (by kernel_rfl) (by kernel_rfl) (by kernel_rfl)) ?_
  have ez34 := Option.some.inj hz34
  have lz34 : p63.length = z34.length := by rw [← ez34, List.length_set]
  rw [ez34]
  try delta f25_l0_j1_J
  try rw [lz34]
  refine zlEnd (by kernel_rfl) ?_
  refine zkBlk ?_
  refine zkSeq ?_
  refine zrReg ?_
  refine zlRun (n := 3) (j := 3) rfl (by kernel_rfl) ?_
  refine zlEnd (by kernel_rfl) ?_
  refine zkNil ?_
  exact endQ hS hQ (finL_n (by show keepSt _ _ _ _ = _; kernel_rfl))
noncomputable def f25_l0 (a1 : Int) (a2 : Int) (a3 : Int) (a4 : Int) (a5 : Int) (a6 : GPen) (a7 : List GCell) (x : (List GCell) × Nat × Nat × Int) : Option (((List GCell) × Nat × Nat × Int) ⊕ (((List GCell) × Nat × Nat))) := (bif (decide (x.2.2.2 < a5)) then (f25_l0_j1 a1 a2 a3 a4 a5 a6 a7 x.1 x.2.1 x.2.2.1 x.2.2.2) else (some (.inr (x.1, x.2.1, x.2.2.1))))
theorem f25_l0_ok {base : Orc} {d : Nat} (hd : 5 ≤ d) (a1 : Int) (a2 : Int) (a3 : Int) (a4 : Int) (a5 : Int) (a6 : GPen) (a7 : List GCell) {r : ((List GCell) × Nat × Nat × Int) ⊕ (((List GCell) × Nat × Nat))} {Q : PX → St → Prop} (hQ : ∀ e st', finL (f25_l0_H a1 a2 a3 a4 a5 a6 a7) (f25_l0_X a1 a2 a3 a4 a5 a6 a7) r e st' → Q e st') {x : (List GCell) × Nat × Nat × Int} (hS : f25_l0 a1 a2 a3 a4 a5 a6 a7 x = some r) {st : St} (he : f25_l0_H a1 a2 a3 a4 a5 a6 a7 x st) : ZR (lev codes base (d - 1)) Q c25_2 [] st := by
  refine zrKeep he ?_
  unfold f25_l0 at hS
  refine zrSeq ?_
  refine zrSeq ?_
  refine zrReg ?_
  refine zlRun (n := 2) (j := 2) rfl (by kernel_rfl) ?_
  refine zlBool (d := 18) (op := (.cmpI .lss (.tmp 16) (.tmp 17))) (g := none) (j := 3) (decide (x.2.2.2 < a5)) rfl (by kernel_rfl) (by kernel_rfl) (by kernel_rfl) (fun hc => ?_) (fun hc => ?_)
  · replace hS := cond_t hc hS
    refine zlEnd (by kernel_rfl) ?_
    refine zkSeq ?_
    refine zrCondT (by kernel_rfl) ?_
    refine zrSkip ?_
    refine zkSeq ?_
    exact f25_l0_j1_ok hd a1 a2 a3 a4 a5 a6 a7 hQ x.1 x.2.1 x.2.2.1 x.2.2.2 hS (by kernel_rfl)
  · replace hS := cond_f hc hS
    refine zlEnd (by kernel_rfl) ?_
    refine zkSeq ?_
    refine zrCondF (by kernel_rfl) ?_
    refine zrKeep (J := f25_l0_e0_J a1 a2 a3 a4 a5 a6 a7 x.1 x.2.1 x.2.2.1) (by kernel_rfl) ?_
    refine zrExit ?_
    refine zkSeqX ?_
    refine zkNil ?_
    exact endQ hS hQ (finL_x (by intro h; cases h) (by show _ = _ ∧ _ = _; exact ⟨rfl, rfl⟩))
noncomputable def f25 (a1 : Int) (a2 : Int) (a3 : Int) (a4 : Int) (a5 : Int) (a6 : GPen) (a7 : List GCell) : Option ((List GCell)) := ((f18v1 a1 a2 a3 a7).bind fun z17 => ((chk (decide (z17.1.length = a7.length))).bind fun z18 => ((loopO (f25_l0 a1 a2 a3 a4 a5 a6 a7) (z17.1, z17.2.1, z17.2.2, a4)).bind fun z35 => ((f29 z35.2.1 z35.2.2 z35.1).bind fun z36 => ((chk (decide (z36.length = z35.1.length))).bind fun z37 => (some z36))))))
theorem f25_ok (base : Orc) (d : Nat) (hd : 5 ≤ d) (a1 : Int) (a2 : Int) (a3 : Int) (a4 : Int) (a5 : Int) (a6 : GPen) (a7 : List GCell) (r : (List GCell)) (hS : f25 a1 a2 a3 a4 a5 a6 a7 = some r) : lev codes base d 25 [(.agg ((.d (.int .i64 a1)) :: ((.d (.int .i64 a2)) :: ((.r (.msl 0 0 0 a7.length)) :: [])))), (.d (.int .i64 a3)), (.d (.int .i64 a4)), (.d (.int .i64 a5)), (.agg ((.d (.int .i64 a6.Flags)) :: ((.d (.int .i64 a6.Fore)) :: ((.d (.int .i64 a6.Back)) :: []))))] [(.own 36 4 (e_GCell.cells a7))] = some ((.tup []), [(.own 36 4 (e_GCell.cells r)), .box []]) := by
  refine lev_go codes25 rfl rfl (Nat.le_trans (Nat.le_of_ble_eq_true rfl) hd) fun Q hQ => ?_
  unfold f25 at hS
  show ZR _ Q c25_b [] _
  replace hQ : ∀ e st', f25_Q r e st' → Q e st' := hQ
  refine zrSeq ?_
  refine zrReg ?_
  refine zlRun (n := 2) (j := 2) rfl (by kernel_rfl) ?_
  refine zlEnd (by kernel_rfl) ?_
  refine zkSeq ?_
  refine zrSeq ?_
  refine zrReg ?_
  refine zlRun (n := 2) (j := 2) rfl (by kernel_rfl) ?_
  refine bindE hS (fun z17 hz17 hS => ?_)
  refine bindE hS (fun z18 hz18 hS => ?_)
  refine zlOp (d := some 14) (op := (.callr 18 [(.tmp 12), (.tmp 13)])) (g := none) (j := 3) rfl (by kernel_rfl) (by kernel_rfl) (ev_callrXA (ids := [0]) (bs := [(.own 36 4 (e_GCell.cells a7))]) (by kernel_rfl) (by kernel_rfl) (by kernel_rfl) (by kernel_rfl) (f18v1_ok base (d - 1) (dpt hd rfl) a1 a2 a3 a7 z17 hz17) (by kernel_rfl) (sm_own e_GCell (e1 := 36) (k1 := 4) (xs := a7) (ys := z17.1) (by kernel_rfl) hz18 sm_nil) (by kernel_rfl)) ?_
  have lz18 : a7.length = z17.1.length := (of_decide_eq_true (chk_t hz18)).symm
  skip
  try rw [lz18]
  refine zlRun (n := 1) (j := 4) rfl (by kernel_rfl) ?_
  refine zlEnd (by kernel_rfl) ?_
  refine zkSeq ?_
  refine zrSeq ?_
  refine zrSeq ?_
  refine zrReg ?_
  refine zlRun (n := 2) (j := 2) rfl (by kernel_rfl) ?_
  refine zlEnd (by kernel_rfl) ?_
  refine zkSeq ?_
  refine zrBlk ?_
  refine bindE hS (fun z35 hz35 hS => ?_)
  refine zrLoop (f25_l0_H a1 a2 a3 a4 a5 a6 a7) (f25_l0_X a1 a2 a3 a4 a5 a6 a7) (fun x st r Q h0 hS hQ => f25_l0_ok hd a1 a2 a3 a4 a5 a6 a7 hQ hS h0) (x := (z17.1, z17.2.1, z17.2.2, a4)) (z := z35) (by show keepSt _ _ _ _ = _; kernel_rfl) hz35 ?_
  intro e st' _ hX
  obtain ⟨rfl, rfl⟩ : _ ∧ _ := hX
  refine zkBlkX ?_
  refine zkSeq ?_
  refine zrReg ?_
  refine zlRun (n := 1) (j := 1) rfl (by kernel_rfl) ?_
  refine bindE hS (fun z36 hz36 hS => ?_)
  refine bindE hS (fun z37 hz37 hS => ?_)
  refine zlOp (d := some 27) (op := (.callr 29 [(.tmp 26)])) (g := none) (j := 2) rfl (by kernel_rfl) (by kernel_rfl) (ev_callrXA (ids := [0]) (bs := [(.own 36 4 (e_GCell.cells z35.1))]) (by kernel_rfl) (by kernel_rfl) (by kernel_rfl) (by kernel_rfl) (f29_ok base (d - 1) (dpt hd rfl) z35.2.1 z35.2.2 z35.1 z36 hz36) (by kernel_rfl) (sm_own e_GCell (e1 := 36) (k1 := 4) (xs := z35.1) (ys := z36) (by kernel_rfl) hz37 sm_nil) (by kernel_rfl)) ?_
  have lz37 : z35.1.length = z36.length := (of_decide_eq_true (chk_t hz37)).symm
  skip
  try rw [lz37]
  refine zlEnd (by kernel_rfl) ?_
  refine zkNil ?_
  exact endQ hS hQ (fNormX (by kernel_rfl) (by kernel_rfl : finSt c25.fin _ = f25_fin z36) (by kernel_rfl) (f25_out z36))
/- farwriter/grid.Fill -/
def f8_fin (p6 : Int) (p7 : Int) (p8 : List GCell) (p9 : Int) : St := ⟨(up (up (fun _ => .un) 11 (.d (.int .i64 p9))) 10 (.r (.ptr 88 0 0))), (up (up (hB fun _ => 0) 176 ⟨0, some (.own 36 4 (e_GCell.cells p8))⟩) 88 ⟨0, some (.box ((.d (.int .i64 p6)) :: ((.d (.int .i64 p7)) :: ((.r (.msl 176 0 0 p8.length)) :: []))))⟩)⟩
theorem f8_out (p6 : Int) (p7 : Int) (p8 : List GCell) (p9 : Int) : outR (f8_fin p6 p7 p8 p9) 0 c8.res = some ((.tup [(.agg ((.d (.int .i64 p6)) :: ((.d (.int .i64 p7)) :: ((.r (.own 0 36 4 p8.length (e_GCell.cells p8))) :: [])))), (.d (.int .i64 p9))]), []) := by
  exact out_of (ids := []) (ids' := [176]) (l := [(.agg ((.d (.int .i64 p6)) :: ((.d (.int .i64 p7)) :: ((.r (.msl 176 0 0 p8.length)) :: [])))), (.d (.int .i64 p9))]) (by kernel_rfl) (by kernel_rfl) (o_tup (o_cons (o_agg (o_cons rfl (o_cons rfl (o_cons (o_own e_GCell (e := 36) (k := 4) (xs := p8) (by kernel_rfl) rfl rfl rfl rfl) o_nil)))) (o_cons rfl o_nil)))
def f8_Q (r : Int × Int × (List GCell) × Int) (e : PX) (st : St) : Prop := DoneF c8 0 ((.tup [(.agg ((.d (.int .i64 r.1)) :: ((.d (.int .i64 r.2.1)) :: ((.r (.own 0 36 4 r.2.2.1.length (e_GCell.cells r.2.2.1))) :: [])))), (.d (.int .i64 r.2.2.2))]), []) e st
def f8_j0_J (a1 : GGrid) (a2 : Int) (a3 : Int) (a4 : Int) (a5 : GPen) (p15 : Int) (p16 : Int) (p17 : List GCell) : St := ⟨(up (up (up (up (up (up (fun _ => .un) 10 (.r (.ptr 88 0 0))) 9 (.r (.ptr 80 0 0))) 5 (.r (.ptr 48 0 0))) 3 (.d (.int .i64 a4))) 2 (.d (.int .i64 a3))) 1 (.d (.int .i64 a2))), (up (up (up (up (hB fun _ => 0) 88 ⟨0, some (.box ((.d (.int .i64 0)) :: ((.d (.int .i64 0)) :: ((.d (.sl ([] : List GCell).length (e_GCell.cells ([])))) :: []))))⟩) 80 ⟨0, some (.box ((.d (.int .i64 a5.Flags)) :: ((.d (.int .i64 a5.Fore)) :: ((.d (.int .i64 a5.Back)) :: []))))⟩) 176 ⟨0, some (.own 36 4 (e_GCell.cells p17))⟩) 48 ⟨0, some (.box ((.d (.int .i64 p15)) :: ((.d (.int .i64 p16)) :: ((.r (.msl 176 0 0 p17.length)) :: []))))⟩)⟩
noncomputable def f8_j0 (a1 : GGrid) (a2 : Int) (a3 : Int) (a4 : Int) (a5 : GPen) (p15 : Int) (p16 : Int) (p17 : List GCell) : Option (Int × Int × (List GCell) × Int) := ((f25 p15 p16 a2 a3 a4 a5 p17).bind fun z7 => ((chk (decide (z7.length = p17.length))).bind fun z8 => (some (p15, p16, z7, 0))))
theorem f8_j0_ok {base : Orc} {d : Nat} (hd : 6 ≤ d) (a1 : GGrid) (a2 : Int) (a3 : Int) (a4 : Int) (a5 : GPen) {r : Int × Int × (List GCell) × Int} {Q : PX → St → Prop} (hQ : ∀ e st', f8_Q r e st' → Q e st') (p15 : Int) (p16 : Int) (p17 : List GCell) (hS : f8_j0 a1 a2 a3 a4 a5 p15 p16 p17 = some r) {st : St} (he : keepSt [1, 2, 3, 5, 9, 10] [(48, .id 48), (176, .id 176), (80, .id 80), (88, .id 88)] [.cell 88 2 0 0 1] st = f8_j0_J a1 a2 a3 a4 a5 p15 p16 p17) : ZR (lev codes base (d - 1)) Q c8_1 [] st := by
  refine zrKeep he ?_
  unfold f8_j0 at hS
  refine zrSeq ?_
  refine zrReg ?_
  refine zlRun (n := 5) (j := 5) rfl (by kernel_rfl) ?_
  refine bindE hS (fun z7 hz7 hS => ?_)
  refine bindE hS (fun z8 hz8 hS => ?_)
  refine zlOp (d := some 33) (op := (.callr 25 [(.tmp 28), (.tmp 29), (.tmp 30), (.tmp 31), (.tmp 32)])) (g := none) (j := 6) rfl (by kernel_rfl) (by kernel_rfl) (ev_callrXA (ids := [176]) (bs := [(.own 36 4 (e_GCell.cells p17))]) (by kernel_rfl) (by kernel_rfl) (by kernel_rfl) (by kernel_rfl) (f25_ok base (d - 1) (dpt hd rfl) p15 p16 a2 a3 a4 a5 p17 z7 hz7) (by kernel_rfl) (sm_own e_GCell (e1 := 36) (k1 := 4) (xs := p17) (ys := z7) (by kernel_rfl) hz8 sm_nil) (by kernel_rfl)) ?_
  have lz8 : p17.length = z7.length := (of_decide_eq_true (chk_t hz8)).symm
  try delta f8_j0_J
  try rw [lz8]
  refine zlEnd (by kernel_rfl) ?_
  refine zkSeq ?_
  refine zrSeq ?_
  refine zrReg ?_
  refine zlRun (n := 3) (j := 3) rfl (by kernel_rfl) ?_
  refine zlEnd (by kernel_rfl) ?_
  refine zkSeq ?_
  refine zrRet ?_
  refine zkNil ?_
  exact endQ hS hQ (fRet (by kernel_rfl) ((congrArg (fun s => outR s 0 c8.res) (by kernel_rfl : finSt c8.fin _ = f8_fin p15 p16 z7 0)).trans (f8_out p15 p16 z7 0)))
noncomputable def f8 (a1 : GGrid) (a2 : Int) (a3 : Int) (a4 : Int) (a5 : GPen) : Option (Int × Int × (List GCell) × Int) := ((f24 a1 a2 a3 a4).bind fun z5 => ((f22 a1 z5 a5).bind fun z6 => (bif (!decide (z6.2.2.2 = 0)) then (some (z6.1, z6.2.1, z6.2.2.1, z6.2.2.2)) else (f8_j0 a1 a2 a3 a4 a5 z6.1 z6.2.1 z6.2.2.1))))
theorem f8_ok (base : Orc) (d : Nat) (hd : 6 ≤ d) (a1 : GGrid) (a2 : Int) (a3 : Int) (a4 : Int) (a5 : GPen) (r : Int × Int × (List GCell) × Int) (hS : f8 a1 a2 a3 a4 a5 = some r) : lev codes base d 8 [(.agg ((.d (.int .i64 a1.Wide)) :: ((.d (.int .i64 a1.High)) :: ((.d (.sl a1.Cells.length (e_GCell.cells a1.Cells))) :: [])))), (.d (.int .i64 a2)), (.d (.int .i64 a3)), (.d (.int .i64 a4)), (.agg ((.d (.int .i64 a5.Flags)) :: ((.d (.int .i64 a5.Fore)) :: ((.d (.int .i64 a5.Back)) :: []))))] [] = some ((.tup [(.agg ((.d (.int .i64 r.1)) :: ((.d (.int .i64 r.2.1)) :: ((.r (.own 0 36 4 r.2.2.1.length (e_GCell.cells r.2.2.1))) :: [])))), (.d (.int .i64 r.2.2.2))]), []) := by
  refine lev_go codes8 rfl rfl (Nat.le_trans (Nat.le_of_ble_eq_true rfl) hd) fun Q hQ => ?_
  unfold f8 at hS
  show ZR _ Q c8_b [] _
  replace hQ : ∀ e st', f8_Q r e st' → Q e st' := hQ
  refine zrSeq ?_
  refine zrReg ?_
  refine zlRun (n := 4) (j := 4) rfl (by kernel_rfl) ?_
  refine zlEnd (by kernel_rfl) ?_
  refine zkSeq ?_
  refine zrSeq ?_
  refine zrRegD ?_
  refine zdRun (n := 5) (j := 5) (ts := [[(48, false)], [(48, false)], [], [], []]) (acc' := [[(48, false)], [(48, false)], [], [], []]) rfl (by kernel_rfl) (by kernel_rfl) (by kernel_rfl) ?_
  refine bindE hS (fun z5 hz5 hS => ?_)
  refine zdOp (d := some 19) (op := (.call 24 [(.tmp 15), (.tmp 16), (.tmp 17), (.tmp 18)])) (g := none) (j := 6) (t1 := [(160, true), (161, true), (162, true), (163, true), (164, true), (165, true), (166, true), (167, true)]) (acc' := [[(48, false)], [(48, false)], [], [], [], [(160, true), (161, true), (162, true), (163, true), (164, true), (165, true), (166, true), (167, true)]]) (by kernel_rfl) (by kernel_rfl) rfl (by kernel_rfl) (by kernel_rfl) (ev_callA (by kernel_rfl) (f24_ok base (d - 1) (dpt hd rfl) a1 a2 a3 a4 z5 hz5) (by kernel_rfl) (by kernel_rfl)) ?_
  refine zdRun (n := 1) (j := 7) (ts := [[(80, false)]]) (acc' := [[(48, false)], [(48, false)], [], [], [], [(160, true), (161, true), (162, true), (163, true), (164, true), (165, true), (166, true), (167, true)], [(80, false)]]) rfl (by kernel_rfl) (by kernel_rfl) (by kernel_rfl) ?_
  refine bindE hS (fun z6 hz6 hS => ?_)
  refine zdOp (d := some 21) (op := (.callf 22 [(.tmp 14), (.tmp 19), (.tmp 20)])) (g := none) (v := (.tup [(.agg ((.d (.int .i64 z6.1)) :: ((.d (.int .i64 z6.2.1)) :: ((.r (.msl 176 1 0 z6.2.2.1.length)) :: [])))), (.d (.int .i64 z6.2.2.2))])) (ups := [(176, ⟨1, some (.own 36 4 (e_GCell.cells z6.2.2.1))⟩)]) (j := 8) (t1 := [(176, true), (177, true), (178, true), (179, true), (180, true), (181, true), (182, true), (183, true)]) (acc' := [[(48, false)], [(48, false)], [], [], [], [(160, true), (161, true), (162, true), (163, true), (164, true), (165, true), (166, true), (167, true)], [(80, false)], [(176, true), (177, true), (178, true), (179, true), (180, true), (181, true), (182, true), (183, true)]]) (by kernel_rfl) (by kernel_rfl) rfl (by kernel_rfl) (by kernel_rfl) (ev_callF (args := [(.agg ((.d (.int .i64 a1.Wide)) :: ((.d (.int .i64 a1.High)) :: ((.d (.sl a1.Cells.length (e_GCell.cells a1.Cells))) :: [])))), (.d (.bool z5)), (.agg ((.d (.int .i64 a5.Flags)) :: ((.d (.int .i64 a5.Fore)) :: ((.d (.int .i64 a5.Back)) :: []))))]) (args' := [(.agg ((.d (.int .i64 a1.Wide)) :: ((.d (.int .i64 a1.High)) :: ((.d (.sl a1.Cells.length (e_GCell.cells a1.Cells))) :: [])))), (.d (.bool z5)), (.agg ((.d (.int .i64 a5.Flags)) :: ((.d (.int .i64 a5.Fore)) :: ((.d (.int .i64 a5.Back)) :: []))))]) (l := [(.agg ((.d (.int .i64 a1.Wide)) :: ((.d (.int .i64 a1.High)) :: ((.d (.sl a1.Cells.length (e_GCell.cells a1.Cells))) :: [])))), (.d (.bool z5)), (.agg ((.d (.int .i64 a5.Flags)) :: ((.d (.int .i64 a5.Fore)) :: ((.d (.int .i64 a5.Back)) :: []))))]) (refs := []) (r := (.tup [(.agg ((.d (.int .i64 z6.1)) :: ((.d (.int .i64 z6.2.1)) :: ((.r (.own 0 36 4 z6.2.2.1.length (e_GCell.cells z6.2.2.1))) :: [])))), (.d (.int .i64 z6.2.2.2))])) (v := (.tup [(.agg ((.d (.int .i64 z6.1)) :: ((.d (.int .i64 z6.2.1)) :: ((.r (.msl 176 1 0 z6.2.2.1.length)) :: [])))), (.d (.int .i64 z6.2.2.2))])) (ups' := [(176, ⟨1, some (.own 36 4 (e_GCell.cells z6.2.2.1))⟩)]) (by kernel_rfl) (by kernel_rfl) (by kernel_rfl) (fz_cons rfl (fz_cons rfl (fz_cons rfl fz_nil))) (by kernel_rfl) (f22_ok base (d - 1) (dpt hd rfl) a1 z5 a5 z6 hz6) (by kernel_rfl) (by kernel_rfl) (by kernel_rfl) (by kernel_rfl)) ?_
  refine zdRun (n := 5) (j := 13) (ts := [[], [], [], [(48, true)], []]) (acc' := [[(48, false)], [(48, false)], [], [], [], [(160, true), (161, true), (162, true), (163, true), (164, true), (165, true), (166, true), (167, true)], [(80, false)], [(176, true), (177, true), (178, true), (179, true), (180, true), (181, true), (182, true), (183, true)], [], [], [], [(48, true)], []]) rfl (by kernel_rfl) (by kernel_rfl) (by kernel_rfl) ?_
  refine zdEnd (by kernel_rfl) (by kernel_rfl) ?_
  refine zkSeq ?_
  refine zrSeq ?_
  refine zrSeq ?_
  refine zrReg ?_
  refine zlRun (n := 1) (j := 1) rfl (by kernel_rfl) ?_
  refine zlBool (d := 25) (op := (.cmpI .neq (.tmp 24) (.const (.int .i64 0)))) (g := none) (j := 2) (!decide (z6.2.2.2 = 0)) rfl (by kernel_rfl) (by kernel_rfl) (by kernel_rfl) (fun hc => ?_) (fun hc => ?_)
  · replace hS := cond_t hc hS
    refine zlEnd (by kernel_rfl) ?_
    refine zkSeq ?_
    refine zrCondT (by kernel_rfl) ?_
    refine zrSeq ?_
    refine zrReg ?_
    refine zlRun (n := 4) (j := 4) rfl (by kernel_rfl) ?_
    refine zlEnd (by kernel_rfl) ?_
    refine zkSeq ?_
    refine zrRet ?_
    refine zkSeqR ?_
    refine zkNil ?_
    exact endQ hS hQ (fRet (by kernel_rfl) ((congrArg (fun s => outR s 0 c8.res) (by kernel_rfl : finSt c8.fin _ = f8_fin z6.1 z6.2.1 z6.2.2.1 z6.2.2.2)).trans (f8_out z6.1 z6.2.1 z6.2.2.1 z6.2.2.2)))
  · replace hS := cond_f hc hS
    refine zlEnd (by kernel_rfl) ?_
    refine zkSeq ?_
    refine zrCondF (by kernel_rfl) ?_
    refine zrSkip ?_
    refine zkSeq ?_
    exact f8_j0_ok hd a1 a2 a3 a4 a5 hQ z6.1 z6.2.1 z6.2.2.1 hS (by kernel_rfl)
/- farwriter/grid.far -/
def f26_fin (p3 : Bool) : St := ⟨(up (fun _ => .un) 2 (.d (.bool p3))), (hB fun _ => 0)⟩
theorem f26_out (p3 : Bool) : outR (f26_fin p3) 0 c26.res = some ((.d (.bool p3)), []) := by
  kernel_rfl
def f26_Q (r : Bool) (e : PX) (st : St) : Prop := DoneF c26 0 ((.d (.bool r)), []) e st
noncomputable def f26 (a1 : Int) : Option (Bool) := (bif (decide ((-16383) ≤ a1)) then (bif (decide (a1 ≤ 16383)) then (some true) else (some false)) else (some false))
theorem f26_ok (base : Orc) (d : Nat) (hd : 1 ≤ d) (a1 : Int) (r : Bool) (hS : f26 a1 = some r) : lev codes base d 26 [(.d (.int .i64 a1))] [] = some ((.d (.bool r)), []) := by
  refine lev_go codes26 rfl rfl (Nat.le_trans (Nat.le_of_ble_eq_true rfl) hd) fun Q hQ => ?_
  unfold f26 at hS
  show ZR _ Q c26_b [] _
  replace hQ : ∀ e st', f26_Q r e st' → Q e st' := hQ
  refine zrSeq ?_
  refine zrReg ?_
  refine zlRun (n := 1) (j := 1) rfl (by kernel_rfl) ?_
  refine zlEnd (by kernel_rfl) ?_
  refine zkSeq ?_
  refine zrSeq ?_
  refine zrReg ?_
  refine zlRun (n := 1) (j := 1) rfl (by kernel_rfl) ?_
  refine zlBool (d := 4) (op := (.cmpI .geq (.tmp 3) (.const (.int .i64 (-16383))))) (g := none) (j := 2) (decide ((-16383) ≤ a1)) rfl (by kernel_rfl) (by kernel_rfl) (by kernel_rfl) (fun hc => ?_) (fun hc => ?_)
  · replace hS := cond_t hc hS
    refine zlRun (n := 2) (j := 4) rfl (by kernel_rfl) ?_
    refine zlBool (d := 7) (op := (.cmpI .leq (.tmp 6) (.const (.int .i64 16383)))) (g := (some (5, true))) (j := 5) (decide (a1 ≤ 16383)) rfl (by kernel_rfl) (by kernel_rfl) (by kernel_rfl) (fun hc => ?_) (fun hc => ?_)
    · replace hS := cond_t hc hS
      refine zlRun (n := 2) (j := 7) rfl (by kernel_rfl) ?_
      refine zlEnd (by kernel_rfl) ?_
      refine zkSeq ?_
      refine zrRet ?_
      refine zkNil ?_
      exact endQ hS hQ (fRet (by kernel_rfl) ((congrArg (fun s => outR s 0 c26.res) (by kernel_rfl : finSt c26.fin _ = f26_fin true)).trans (f26_out true)))
    · replace hS := cond_f hc hS
      refine zlRun (n := 2) (j := 7) rfl (by kernel_rfl) ?_
      refine zlEnd (by kernel_rfl) ?_
      refine zkSeq ?_
      refine zrRet ?_
      refine zkNil ?_
      exact endQ hS hQ (fRet (by kernel_rfl) ((congrArg (fun s => outR s 0 c26.res) (by kernel_rfl : finSt c26.fin _ = f26_fin false)).trans (f26_out false)))
  · replace hS := cond_f hc hS
    refine zlRun (n := 5) (j := 7) rfl (by kernel_rfl) ?_
    refine zlEnd (by kernel_rfl) ?_
    refine zkSeq ?_
    refine zrRet ?_
    refine zkNil ?_
    exact endQ hS hQ (fRet (by kernel_rfl) ((congrArg (fun s => outR s 0 c26.res) (by kernel_rfl : finSt c26.fin _ = f26_fin false)).trans (f26_out false)))
/- farwriter/grid.ShiftIn$1 -/
def f38_fin (p1 : GCell) : St := ⟨(up (fun _ => .un) 1 (.r (.ptr 16 0 0))), (up (hB fun _ => 0) 16 ⟨0, some (.box ((.d (.int .i64 p1.Rune)) :: ((.d (.int .i64 p1.Pen.Flags)) :: ((.d (.int .i64 p1.Pen.Fore)) :: ((.d (.int .i64 p1.Pen.Back)) :: [])))))⟩)⟩
theorem f38_out (p1 : GCell) : outR (f38_fin p1) 0 c38.res = some ((.agg ((.d (.int .i64 p1.Rune)) :: ((.d (.int .i64 p1.Pen.Flags)) :: ((.d (.int .i64 p1.Pen.Fore)) :: ((.d (.int .i64 p1.Pen.Back)) :: []))))), []) := by
  kernel_rfl
def f38_Q (r : GCell) (e : PX) (st : St) : Prop := DoneF c38 0 ((.agg ((.d (.int .i64 r.Rune)) :: ((.d (.int .i64 r.Pen.Flags)) :: ((.d (.int .i64 r.Pen.Fore)) :: ((.d (.int .i64 r.Pen.Back)) :: []))))), []) e st
noncomputable def f38 (a1 : GPen) (a2 : List PD) : Option (GCell) := ((f36 a1).bind fun z2 => (some z2))
theorem f38_ok (base : Orc) (d : Nat) (hd : 2 ≤ d) (a1 : GPen) (a2 : List PD) (r : GCell) (hS : f38 a1 a2 = some r) : lev codes base d 38 [(.rptr (e_GPen.enc a1 ++ a2))] [] = some ((.agg ((.d (.int .i64 r.Rune)) :: ((.d (.int .i64 r.Pen.Flags)) :: ((.d (.int .i64 r.Pen.Fore)) :: ((.d (.int .i64 r.Pen.Back)) :: []))))), []) := by
  refine lev_go codes38 rfl rfl (Nat.le_trans (Nat.le_of_ble_eq_true rfl) hd) fun Q hQ => ?_
  unfold f38 at hS
  show ZR _ Q c38_b [] _
  replace hQ : ∀ e st', f38_Q r e st' → Q e st' := hQ
  refine zrSeq ?_
  refine zrReg ?_
  refine zlRun (n := 1) (j := 1) rfl (by kernel_rfl) ?_
  refine zlEnd (by kernel_rfl) ?_
  refine zkSeq ?_
  refine zrSeq ?_
  refine zrReg ?_
  refine zlRun (n := 1) (j := 1) rfl (by kernel_rfl) ?_
  refine bindE hS (fun z2 hz2 hS => ?_)
  refine zlOp (d := some 3) (op := (.call 36 [(.tmp 2)])) (g := none) (j := 2) rfl (by kernel_rfl) (by kernel_rfl) (ev_callA (by kernel_rfl) (f36_ok base (d - 1) (dpt hd rfl) a1 z2 hz2) (by kernel_rfl) (by kernel_rfl)) ?_
  refine zlRun (n := 1) (j := 3) rfl (by kernel_rfl) ?_
  refine zlEnd (by kernel_rfl) ?_
  refine zkSeq ?_
  refine zrRet ?_
  refine zkNil ?_
  exact endQ hS hQ (fRet (by kernel_rfl) ((congrArg (fun s => outR s 0 c38.res) (by kernel_rfl : finSt c38.fin _ = f38_fin z2)).trans (f38_out z2)))
/- farwriter/grid.move[farwriter/api.Cell] -/
def f37_fin (p41 : List GCell) : St := ⟨(up (fun _ => .un) 6 (.r (.msl 64 0 0 p41.length))), (up (hB fun _ => 0) 64 ⟨0, some (.own 36 4 (e_GCell.cells p41))⟩)⟩
theorem f37_out (p41 : List GCell) : outR (f37_fin p41) 0 c37.res = some ((.r (.own 0 36 4 p41.length (e_GCell.cells p41))), []) := by
  exact out_of (ids := []) (ids' := [64]) (l := [(.r (.msl 64 0 0 p41.length))]) (by kernel_rfl) (by kernel_rfl) (o_own e_GCell (e := 36) (k := 4) (xs := p41) (by kernel_rfl) rfl rfl rfl rfl)
def f37_Q (r : (List GCell)) (e : PX) (st : St) : Prop := DoneF c37 0 ((.r (.own 0 36 4 r.length (e_GCell.cells r))), []) e st
def f37_l0_J (a1 : List GCell) (a2 : Int) (a3 : GPen) (a4 : List PD) (x : (List GCell) × Int) : St := ⟨(up (up (up (up (up (up (fun _ => .un) 12 (.d (.int .i64 x.2))) 11 (.d (.int .i64 (a1.length : Int)))) 7 (.r (.msl 64 0 0 x.1.length))) 2 (.fn 38 [(.rptr (e_GPen.enc a3 ++ a4))])) 1 (.d (.int .i64 a2))) 0 (.d (.sl a1.length (e_GCell.cells a1)))), (up (hB fun _ => 0) 64 ⟨0, some (.own 36 4 (e_GCell.cells x.1))⟩)⟩
def f37_l0_H (a1 : List GCell) (a2 : Int) (a3 : GPen) (a4 : List PD) (x : (List GCell) × Int) (st : St) : Prop := keepSt [0, 1, 2, 7, 11, 12] [(64, .id 64)] [] st = f37_l0_J a1 a2 a3 a4 x
def f37_l0_e0_J (a1 : List GCell) (a2 : Int) (a3 : GPen) (a4 : List PD) (p40 : List GCell) : St := ⟨(up (fun _ => .un) 7 (.r (.msl 64 0 0 p40.length))), (up (hB fun _ => 0) 64 ⟨0, some (.own 36 4 (e_GCell.cells p40))⟩)⟩
def f37_l0_X (a1 : List GCell) (a2 : Int) (a3 : GPen) (a4 : List PD) (z : ((List GCell))) (e : PX) (st : St) : Prop := e = .exit 0 ∧ st = f37_l0_e0_J a1 a2 a3 a4 z
def f37_l0_j3_J (a1 : List GCell) (a2 : Int) (a3 : GPen) (a4 : List PD) (p52 : List GCell) (p53 : Int) : St := ⟨(up (up (up (up (up (up (fun _ => .un) 12 (.d (.int .i64 p53))) 11 (.d (.int .i64 (a1.length : Int)))) 7 (.r (.msl 64 0 0 p52.length))) 2 (.fn 38 [(.rptr (e_GPen.enc a3 ++ a4))])) 1 (.d (.int .i64 a2))) 0 (.d (.sl a1.length (e_GCell.cells a1)))), (up (hB fun _ => 0) 64 ⟨0, some (.own 36 4 (e_GCell.cells p52))⟩)⟩
noncomputable def f37_l0_j3 (a1 : List GCell) (a2 : Int) (a3 : GPen) (a4 : List PD) (p52 : List GCell) (p53 : Int) : Option (((List GCell) × Int) ⊕ (((List GCell)))) := ((f38 a3 a4).bind fun z13 => ((app? 32 p52 ([z13] : List GCell)).bind fun z14 => (some (.inl (z14, (IntKind.i64.wrap (p53 + 1)))))))
theorem f37_l0_j3_ok {base : Orc} {d : Nat} (hd : 3 ≤ d) (a1 : List GCell) (a2 : Int) (a3 : GPen) (a4 : List PD) {r : ((List GCell) × Int) ⊕ (((List GCell)))} {Q : PX → St → Prop} (hQ : ∀ e st', finL (f37_l0_H a1 a2 a3 a4) (f37_l0_X a1 a2 a3 a4) r e st' → Q e st') (p52 : List GCell) (p53 : Int) (hS : f37_l0_j3 a1 a2 a3 a4 p52 p53 = some r) {st : St} (he : keepSt [0, 1, 2, 7, 11, 12] [(64, .id 64)] [] st = f37_l0_j3_J a1 a2 a3 a4 p52 p53) : ZR (lev codes base (d - 1)) Q c37_1 [.blk 1, .seq c37_2] st := by
  refine zrKeep he ?_
  unfold f37_l0_j3 at hS
  refine zrReg ?_
  refine zlRun (n := 2) (j := 2) rfl (by kernel_rfl) ?_
  refine bindE hS (fun z13 hz13 hS => ?_)
  refine zlOp (d := some 35) (op := (.callv (.tmp 34) [])) (g := none) (v := (.agg ((.d (.int .i64 z13.Rune)) :: ((.d (.int .i64 z13.Pen.Flags)) :: ((.d (.int .i64 z13.Pen.Fore)) :: ((.d (.int .i64 z13.Pen.Back)) :: [])))))) (ups := []) (j := 3) rfl (by kernel_rfl) (by kernel_rfl) (ev_callv (f := 38) (cs := [(.rptr (e_GPen.enc a3 ++ a4))]) (by kernel_rfl) (args := [(.rptr (e_GPen.enc a3 ++ a4))]) (l := [(.rptr (e_GPen.enc a3 ++ a4))]) (r := (.agg ((.d (.int .i64 z13.Rune)) :: ((.d (.int .i64 z13.Pen.Flags)) :: ((.d (.int .i64 z13.Pen.Fore)) :: ((.d (.int .i64 z13.Pen.Back)) :: [])))))) (by kernel_rfl) (by kernel_rfl) (f38_ok base (d - 1) (dpt hd rfl) a3 a4 z13 hz13) (by kernel_rfl) (by kernel_rfl) (by kernel_rfl)) ?_
  refine zlRun (n := 1) (j := 4) rfl (by kernel_rfl) ?_
  refine bindE hS (fun z14 hz14 hS => ?_)
  refine zlOp (d := some 37) (op := (.app 36 4 32 (.tmp 33) (.tmp 36))) (g := none) (v := (.r (.msl 64 1 0 z14.length))) (ups := [(64, ⟨1, some (.own 36 4 (e_GCell.cells z14))⟩)]) (j := 5) rfl (by kernel_rfl) (by kernel_rfl) (ev_app e_GCell (b := 64) (g := 0) (n := p52.length) (xs := p52) (ys := [z13]) ((congrArg (asL _) (by kernel_rfl : ρof _ (.tmp 36) = (.r (.msl 296 1 0 (([z13] : List GCell).length))))).trans (as_whole e_GCell (e := 36) (k := 4) (xs := [z13]) (by kernel_rfl) rfl rfl)) rfl (by kernel_rfl) rfl (by kernel_rfl) rfl hz14) ?_
  refine zlRun (n := 1) (j := 6) rfl (by kernel_rfl) ?_
  refine zlEnd (by kernel_rfl) ?_
  refine zkBlk ?_
  refine zkSeq ?_
  refine zrReg ?_
  refine zlRun (n := 2) (j := 2) rfl (by kernel_rfl) ?_
  refine zlEnd (by kernel_rfl) ?_
  refine zkNil ?_
  exact endQ hS hQ (finL_n (by show keepSt _ _ _ _ = _; kernel_rfl))
def f37_l0_j2_J (a1 : List GCell) (a2 : Int) (a3 : GPen) (a4 : List PD) (p48 : List GCell) (p49 : Int) : St := ⟨(up (up (up (up (up (up (fun _ => .un) 12 (.d (.int .i64 p49))) 11 (.d (.int .i64 (a1.length : Int)))) 7 (.r (.msl 64 0 0 p48.length))) 2 (.fn 38 [(.rptr (e_GPen.enc a3 ++ a4))])) 1 (.d (.int .i64 a2))) 0 (.d (.sl a1.length (e_GCell.cells a1)))), (up (hB fun _ => 0) 64 ⟨0, some (.own 36 4 (e_GCell.cells p48))⟩)⟩
noncomputable def f37_l0_j2 (a1 : List GCell) (a2 : Int) (a3 : GPen) (a4 : List PD) (p48 : List GCell) (p49 : Int) : Option (((List GCell) × Int) ⊕ (((List GCell)))) := (bif (decide (0 ≤ (IntKind.i64.wrap (p49 - a2)))) then (bif (decide ((IntKind.i64.wrap (p49 - a2)) < (a1.length : Int))) then ((idx a1 (IntKind.i64.wrap (p49 - a2))).bind fun z15 => ((app? 32 p48 ([z15] : List GCell)).bind fun z16 => (some (.inl (z16, (IntKind.i64.wrap (p49 + 1))))))) else (f37_l0_j3 a1 a2 a3 a4 p48 p49)) else (f37_l0_j3 a1 a2 a3 a4 p48 p49))
theorem f37_l0_j2_ok {base : Orc} {d : Nat} (hd : 3 ≤ d) (a1 : List GCell) (a2 : Int) (a3 : GPen) (a4 : List PD) {r : ((List GCell) × Int) ⊕ (((List GCell)))} {Q : PX → St → Prop} (hQ : ∀ e st', finL (f37_l0_H a1 a2 a3 a4) (f37_l0_X a1 a2 a3 a4) r e st' → Q e st') (p48 : List GCell) (p49 : Int) (hS : f37_l0_j2 a1 a2 a3 a4 p48 p49 = some r) {st : St} (he : keepSt [0, 1, 2, 7, 11, 12] [(64, .id 64)] [] st = f37_l0_j2_J a1 a2 a3 a4 p48 p49) : ZR (lev codes base (d - 1)) Q c37_3 [] st := by
  refine zrKeep he ?_
  unfold f37_l0_j2 at hS
  refine zrSeq ?_
  refine zrBlk ?_
  refine zrSeq ?_
  refine zrReg ?_
  refine zlRun (n := 2) (j := 2) rfl (by kernel_rfl) ?_
  refine zlEnd (by kernel_rfl) ?_
  refine zkSeq ?_
  refine zrSeq ?_
  refine zrReg ?_
  refine zlRun (n := 4) (j := 4) rfl (by kernel_rfl) ?_
  refine zlEnd (by kernel_rfl) ?_
  refine zkSeq ?_
  refine zrSeq ?_
  refine zrReg ?_
  refine zlRun (n := 1) (j := 1) rfl (by kernel_rfl) ?_
  refine zlBool (d := 19) (op := (.cmpI .geq (.tmp 18) (.const (.int .i64 0)))) (g := none) (j := 2) (decide (0 ≤ (IntKind.i64.wrap (p49 - a2)))) rfl (by kernel_rfl) (by kernel_rfl) (by kernel_rfl) (fun hc => ?_) (fun hc => ?_)
  · replace hS := cond_t hc hS
    refine zlRun (n := 4) (j := 6) rfl (by kernel_rfl) ?_
    refine zlBool (d := 24) (op := (.cmpI .lss (.tmp 21) (.tmp 23))) (g := (some (20, true))) (j := 7) (decide ((IntKind.i64.wrap (p49 - a2)) < (a1.length : Int))) rfl (by kernel_rfl) (by kernel_rfl) (by kernel_rfl) (fun hc => ?_) (fun hc => ?_)
    · replace hS := cond_t hc hS
      refine zlRun (n := 1) (j := 8) rfl (by kernel_rfl) ?_
      refine zlEnd (by kernel_rfl) ?_
      refine zkSeq ?_
      refine zrCondT (by kernel_rfl) ?_
      refine zrReg ?_
      refine zlRun (n := 3) (j := 3) rfl (by kernel_rfl) ?_
      refine bindE hS (fun z15 hz15 hS => ?_)
      refine zlOp (d := some 29) (op := (.ixS 36 4 (.tmp 27) (.tmp 28))) (g := none) (v := (.rptr (e_GCell.enc z15 ++ (e_GCell.cells (a1.drop (((IntKind.i64.wrap (p49 - a2)) : Int).toNat + 1)))))) (ups := []) (j := 4) rfl (by kernel_rfl) (by kernel_rfl) (ev_ixS e_GCell (kk := .i64) (xs := a1) (j := (IntKind.i64.wrap (p49 - a2))) (by kernel_rfl) (by kernel_rfl) hz15 rfl (by intro h; cases h)) ?_
      refine zlRun (n := 2) (j := 6) rfl (by kernel_rfl) ?_
      refine bindE hS (fun z16 hz16 hS => ?_)
      refine zlOp (d := some 32) (op := (.app 36 4 32 (.tmp 26) (.tmp 31))) (g := none) (v := (.r (.msl 64 1 0 z16.length))) (ups := [(64, ⟨1, some (.own 36 4 (e_GCell.cells z16))⟩)]) (j := 7) rfl (by kernel_rfl) (by kernel_rfl) (ev_app e_GCell (b := 64) (g := 0) (n := p48.length) (xs := p48) (ys := [z15]) ((congrArg (asL _) (by kernel_rfl : ρof _ (.tmp 31) = (.r (.msl 256 1 0 (([z15] : List GCell).length))))).trans (as_whole e_GCell (e := 36) (k := 4) (xs := [z15]) (by kernel_rfl) rfl rfl)) rfl (by kernel_rfl) rfl (by kernel_rfl) rfl hz16) ?_
      refine zlRun (n := 1) (j := 8) rfl (by kernel_rfl) ?_
      refine zlEnd (by kernel_rfl) ?_
      refine zkBlk ?_
      refine zkSeq ?_
      refine zrReg ?_
      refine zlRun (n := 2) (j := 2) rfl (by kernel_rfl) ?_
      refine zlEnd (by kernel_rfl) ?_
      refine zkNil ?_
      exact endQ hS hQ (finL_n (by show keepSt _ _ _ _ = _; kernel_rfl))
    · replace hS := cond_f hc hS
      refine zlRun (n := 1) (j := 8) rfl (by kernel_rfl) ?_
      refine zlEnd (by kernel_rfl) ?_
      refine zkSeq ?_
      refine zrCondF (by kernel_rfl) ?_
      exact f37_l0_j3_ok hd a1 a2 a3 a4 hQ p48 p49 hS (by kernel_rfl)
  · replace hS := cond_f hc hS
    refine zlRun (n := 6) (j := 8) rfl (by kernel_rfl) ?_
    refine zlEnd (by kernel_rfl) ?_
    refine zkSeq ?_
    refine zrCondF (by kernel_rfl) ?_
    exact f37_l0_j3_ok hd a1 a2 a3 a4 hQ p48 p49 hS (by kernel_rfl)
def f37_l0_j1_J (a1 : List GCell) (a2 : Int) (a3 : GPen) (a4 : List PD) (p45 : List GCell) (p46 : Int) (p47 : Bool) : St := ⟨(up (up (up (up (up (up (up (fun _ => .un) 13 (.d (.bool p47))) 12 (.d (.int .i64 p46))) 11 (.d (.int .i64 (a1.length : Int)))) 7 (.r (.msl 64 0 0 p45.length))) 2 (.fn 38 [(.rptr (e_GPen.enc a3 ++ a4))])) 1 (.d (.int .i64 a2))) 0 (.d (.sl a1.length (e_GCell.cells a1)))), (up (hB fun _ => 0) 64 ⟨0, some (.own 36 4 (e_GCell.cells p45))⟩)⟩
noncomputable def f37_l0_j1 (a1 : List GCell) (a2 : Int) (a3 : GPen) (a4 : List PD) (p45 : List GCell) (p46 : Int) (p47 : Bool) : Option (((List GCell) × Int) ⊕ (((List GCell)))) := (bif p47 then (f37_l0_j2 a1 a2 a3 a4 p45 p46) else (some (.inr p45)))
theorem f37_l0_j1_ok {base : Orc} {d : Nat} (hd : 3 ≤ d) (a1 : List GCell) (a2 : Int) (a3 : GPen) (a4 : List PD) {r : ((List GCell) × Int) ⊕ (((List GCell)))} {Q : PX → St → Prop} (hQ : ∀ e st', finL (f37_l0_H a1 a2 a3 a4) (f37_l0_X a1 a2 a3 a4) r e st' → Q e st') (p45 : List GCell) (p46 : Int) (p47 : Bool) (hS : f37_l0_j1 a1 a2 a3 a4 p45 p46 p47 = some r) {st : St} (he : keepSt [0, 1, 2, 7, 11, 12, 13] [(64, .id 64)] [] st = f37_l0_j1_J a1 a2 a3 a4 p45 p46 p47) : ZR (lev codes base (d - 1)) Q c37_4 [] st := by
  refine zrKeep he ?_
  unfold f37_l0_j1 at hS
  refine zrSeq ?_
  refine zrSplit 13 p47 (by kernel_rfl) (fun hc => ?_) (fun hc => ?_)
  · replace hS := cond_t hc hS
    refine zrCondT (by kernel_rfl) ?_
    refine zrSkip ?_
    refine zkSeq ?_
    exact f37_l0_j2_ok hd a1 a2 a3 a4 hQ p45 p46 hS (by kernel_rfl)
  · replace hS := cond_f hc hS
    refine zrCondF (by kernel_rfl) ?_
    refine zrKeep (J := f37_l0_e0_J a1 a2 a3 a4 p45) (by kernel_rfl) ?_
    refine zrExit ?_
    refine zkSeqX ?_
    refine zkNil ?_
    exact endQ hS hQ (finL_x (by intro h; cases h) (by show _ = _ ∧ _ = _; exact ⟨rfl, rfl⟩))
noncomputable def f37_l0 (a1 : List GCell) (a2 : Int) (a3 : GPen) (a4 : List PD) (x : (List GCell) × Int) : Option (((List GCell) × Int) ⊕ (((List GCell)))) := (bif (decide (x.2 < (a1.length : Int))) then (f37_l0_j1 a1 a2 a3 a4 x.1 x.2 true) else (f37_l0_j1 a1 a2 a3 a4 x.1 x.2 false))
theorem f37_l0_ok {base : Orc} {d : Nat} (hd : 3 ≤ d) (a1 : List GCell) (a2 : Int) (a3 : GPen) (a4 : List PD) {r : ((List GCell) × Int) ⊕ (((List GCell)))} {Q : PX → St → Prop} (hQ : ∀ e st', finL (f37_l0_H a1 a2 a3 a4) (f37_l0_X a1 a2 a3 a4) r e st' → Q e st') {x : (List GCell) × Int} (hS : f37_l0 a1 a2 a3 a4 x = some r) {st : St} (he : f37_l0_H a1 a2 a3 a4 x st) : ZR (lev codes base (d - 1)) Q c37_5 [] st := by
  refine zrKeep he ?_
  unfold f37_l0 at hS
  refine zrSeq ?_
  refine zrReg ?_
  refine zlBool (d := 13) (op := (.cmpI .lss (.tmp 12) (.tmp 11))) (g := none) (j := 1) (decide (x.2 < (a1.length : Int))) rfl (by kernel_rfl) (by kernel_rfl) (by kernel_rfl) (fun hc => ?_) (fun hc => ?_)
  · replace hS := cond_t hc hS
    refine zlEnd (by kernel_rfl) ?_
    refine zkSeq ?_
    exact f37_l0_j1_ok hd a1 a2 a3 a4 hQ x.1 x.2 true hS (by kernel_rfl)
  · replace hS := cond_f hc hS
    refine zlEnd (by kernel_rfl) ?_
    refine zkSeq ?_
    exact f37_l0_j1_ok hd a1 a2 a3 a4 hQ x.1 x.2 false hS (by kernel_rfl)
noncomputable def f37 (a1 : List GCell) (a2 : Int) (a3 : GPen) (a4 : List PD) : Option ((List GCell)) := ((loopO (f37_l0 a1 a2 a3 a4) ([], 0)).bind fun z17 => (some z17))
theorem f37_ok (base : Orc) (d : Nat) (hd : 3 ≤ d) (a1 : List GCell) (a2 : Int) (a3 : GPen) (a4 : List PD) (r : (List GCell)) (hS : f37 a1 a2 a3 a4 = some r) : lev codes base d 37 [(.d (.sl a1.length (e_GCell.cells a1))), (.d (.int .i64 a2)), (.fn 38 [(.rptr (e_GPen.enc a3 ++ a4))])] [] = some ((.r (.own 0 36 4 r.length (e_GCell.cells r))), []) := by
  refine lev_go codes37 rfl rfl (Nat.le_trans (Nat.le_of_ble_eq_true rfl) hd) fun Q hQ => ?_
  unfold f37 at hS
  show ZR _ Q c37_b [] _
  replace hQ : ∀ e st', f37_Q r e st' → Q e st' := hQ
  refine zrSeq ?_
  refine zrReg ?_
  refine zlRun (n := 1) (j := 1) rfl (by kernel_rfl) ?_
  refine zlEnd (by kernel_rfl) ?_
  refine zkSeq ?_
  refine zrSeq ?_
  refine zrReg ?_
  refine zlRun (n := 1) (j := 1) rfl (by kernel_rfl) ?_
  refine zlEnd (by kernel_rfl) ?_
  refine zkSeq ?_
  refine zrSeq ?_
  refine zrSeq ?_
  refine zrReg ?_
  refine zlRun (n := 3) (j := 3) rfl (by kernel_rfl) ?_
  refine zlEnd (by kernel_rfl) ?_
  refine zkSeq ?_
  refine zrBlk ?_
  refine bindE hS (fun z17 hz17 hS => ?_)
  refine zrLoop (f37_l0_H a1 a2 a3 a4) (f37_l0_X a1 a2 a3 a4) (fun x st r Q h0 hS hQ => f37_l0_ok hd a1 a2 a3 a4 hQ hS h0) (x := ([], 0)) (z := z17) (by show keepSt _ _ _ _ = _; kernel_rfl) hz17 ?_
  intro e st' _ hX
  obtain ⟨rfl, rfl⟩ : _ ∧ _ := hX
  refine zkBlkX ?_
  refine zkSeq ?_
  refine zrSeq ?_
  refine zrReg ?_
  refine zlRun (n := 2) (j := 2) rfl (by kernel_rfl) ?_
  refine zlEnd (by kernel_rfl) ?_
  refine zkSeq ?_
  refine zrRet ?_
  refine zkNil ?_
  exact endQ hS hQ (fRet (by kernel_rfl) ((congrArg (fun s => outR s 0 c37.res) (by kernel_rfl : finSt c37.fin _ = f37_fin z17)).trans (f37_out z17)))
/- farwriter/grid.ShiftIn -/
def f27_fin (p1 : List GCell) : St := ⟨(up (fun _ => .un) 2000000 .un), (up (hB fun _ => 0) 0 ⟨0, some (.own 36 4 (e_GCell.cells p1))⟩)⟩
theorem f27_out (p1 : List GCell) : outR (f27_fin p1) 1 c27.res = some ((.tup []), [(.own 36 4 (e_GCell.cells p1))]) := by
  kernel_rfl
def f27_Q (r : (List GCell)) (e : PX) (st : St) : Prop := DoneF c27 1 ((.tup []), [(.own 36 4 (e_GCell.cells r)), .box []]) e st
noncomputable def f27 (a1 : Int) (a2 : Int) (a3 : Int) (a4 : Int) (a5 : Int) (a6 : Int) (a7 : GPen) (a8 : List GCell) : Option ((List GCell)) := ((f18v1 a1 a2 a3 a8).bind fun z11 => ((chk (decide (z11.1.length = a8.length))).bind fun z12 => ((chk (decide (0 ≤ a4) && decide (a4 ≤ a5) && decide (a5 ≤ (z11.2.2 : Int)))).bind fun z13 => ((chk (decide (0 ≤ a4) && decide (a4 ≤ a5) && decide (a5 ≤ (z11.2.2 : Int)))).bind fun z14 => ((part? z11.1 (z11.2.1 + (a4 : Int).toNat) ((a5 : Int).toNat - (a4 : Int).toNat)).bind fun z15 => ((f37 z15 a6 a7 []).bind fun z16 => ((chk (decide ((z11.2.1 + (a4 : Int).toNat) + ((a5 : Int).toNat - (a4 : Int).toNat) ≤ z11.1.length))).bind fun z17 => ((some (cpyL z11.1 (z11.2.1 + (a4 : Int).toNat) ((a5 : Int).toNat - (a4 : Int).toNat) z16)).bind fun z18 => ((f29 z11.2.1 z11.2.2 z18).bind fun z19 => ((chk (decide (z19.length = z18.length))).bind fun z20 => (some z19)))))))))))
theorem f27_ok (base : Orc) (d : Nat) (hd : 5 ≤ d) (a1 : Int) (a2 : Int) (a3 : Int) (a4 : Int) (a5 : Int) (a6 : Int) (a7 : GPen) (a8 : List GCell) (r : (List GCell)) (hS : f27 a1 a2 a3 a4 a5 a6 a7 a8 = some r) : lev codes base d 27 [(.agg ((.d (.int .i64 a1)) :: ((.d (.int .i64 a2)) :: ((.r (.msl 0 0 0 a8.length)) :: [])))), (.d (.int .i64 a3)), (.d (.int .i64 a4)), (.d (.int .i64 a5)), (.d (.int .i64 a6)), (.agg ((.d (.int .i64 a7.Flags)) :: ((.d (.int .i64 a7.Fore)) :: ((.d (.int .i64 a7.Back)) :: []))))] [(.own 36 4 (e_GCell.cells a8))] = some ((.tup []), [(.own 36 4 (e_GCell.cells r)), .box []]) := by
  refine lev_go codes27 rfl rfl (Nat.le_trans (Nat.le_of_ble_eq_true rfl) hd) fun Q hQ => ?_
  unfold f27 at hS
  show ZR _ Q c27_b [] _
  replace hQ : ∀ e st', f27_Q r e st' → Q e st' := hQ
  refine zrSeq ?_
  refine zrReg ?_
  refine zlRun (n := 2) (j := 2) rfl (by kernel_rfl) ?_
  refine zlEnd (by kernel_rfl) ?_
  refine zkSeq ?_
  refine zrSeq ?_
  refine zrReg ?_
  refine zlRun (n := 2) (j := 2) rfl (by kernel_rfl) ?_
  refine bindE hS (fun z11 hz11 hS => ?_)
  refine bindE hS (fun z12 hz12 hS => ?_)
  refine zlOp (d := some 15) (op := (.callr 18 [(.tmp 13), (.tmp 14)])) (g := none) (j := 3) rfl (by kernel_rfl) (by kernel_rfl) (ev_callrXA (ids := [0]) (bs := [(.own 36 4 (e_GCell.cells a8))]) (by kernel_rfl) (by kernel_rfl) (by kernel_rfl) (by kernel_rfl) (f18v1_ok base (d - 1) (dpt hd rfl) a1 a2 a3 a8 z11 hz11) (by kernel_rfl) (sm_own e_GCell (e1 := 36) (k1 := 4) (xs := a8) (ys := z11.1) (by kernel_rfl) hz12 sm_nil) (by kernel_rfl)) ?_
  have lz12 : a8.length = z11.1.length := (of_decide_eq_true (chk_t hz12)).symm
  skip
  try rw [lz12]
  refine zlRun (n := 1) (j := 4) rfl (by kernel_rfl) ?_
  refine zlEnd (by kernel_rfl) ?_
  refine zkSeq ?_
  refine zrSeq ?_
  refine zrRegD ?_
  refine zdRun (n := 3) (j := 3) (ts := [[], [], []]) (acc' := [[], [], []]) rfl (by kernel_rfl) (by kernel_rfl) (by kernel_rfl) ?_
  refine bindE hS (fun z13 hz13 hS => ?_)
  refine zdOp (d := some 19) (op := (.slS 36 4 (.tmp 16) (.some (.tmp 17)) (.some (.tmp 18)))) (g := none) (v := (.r (.msl 0 0 (z11.2.1 + (a4 : Int).toNat) ((a5 : Int).toNat - (a4 : Int).toNat)))) (ups := []) (j := 4) (t1 := [(0, false)]) (acc' := [[], [], [], [(0, false)]]) (by kernel_rfl) (by kernel_rfl) rfl (by kernel_rfl) (by kernel_rfl) (ev_slM (b := 0) (g := 0) (e := 36) (a := a4) (c := a5) (l := z11.2.1) (n := z11.2.2) (l' := (z11.2.1 + (a4 : Int).toNat)) (n' := ((a5 : Int).toNat - (a4 : Int).toNat)) (cs := e_GCell.cells z11.1) (by kernel_rfl) (by kernel_rfl) (bnd_s _ (kk := .i64) (j := a4) (by kernel_rfl)) (bnd_s _ (kk := .i64) (j := a5) (by kernel_rfl)) hz13 (by simp) rfl) ?_
  refine zdRun (n := 3) (j := 7) (ts := [[], [], []]) (acc' := [[], [], [], [(0, false)], [], [], []]) rfl (by kernel_rfl) (by kernel_rfl) (by kernel_rfl) ?_
  refine bindE hS (fun z14 hz14 hS => ?_)
  refine zdOp (d := some 23) (op := (.slS 36 4 (.tmp 20) (.some (.tmp 21)) (.some (.tmp 22)))) (g := none) (v := (.r (.msl 0 0 (z11.2.1 + (a4 : Int).toNat) ((a5 : Int).toNat - (a4 : Int).toNat)))) (ups := []) (j := 8) (t1 := [(0, false)]) (acc' := [[], [], [], [(0, false)], [], [], [], [(0, false)]]) (by kernel_rfl) (by kernel_rfl) rfl (by kernel_rfl) (by kernel_rfl) (ev_slM (b := 0) (g := 0) (e := 36) (a := a4) (c := a5) (l := z11.2.1) (n := z11.2.2) (l' := (z11.2.1 + (a4 : Int).toNat)) (n' := ((a5 : Int).toNat - (a4 : Int).toNat)) (cs := e_GCell.cells z11.1) (by kernel_rfl) (by kernel_rfl) (bnd_s _ (kk := .i64) (j := a4) (by kernel_rfl)) (bnd_s _ (kk := .i64) (j := a5) (by kernel_rfl)) hz14 (by simp) rfl) ?_
  refine zdRun (n := 2) (j := 10) (ts := [[], []]) (acc' := [[], [], [], [(0, false)], [], [], [], [(0, false)], [], []]) rfl (by kernel_rfl) (by kernel_rfl) (by kernel_rfl) ?_
  refine bindE hS (fun z15 hz15 hS => ?_)
  refine bindE hS (fun z16 hz16 hS => ?_)
  refine zdOp (d := some 26) (op := (.call 37 [(.tmp 23), (.tmp 24), (.tmp 25)])) (g := none) (j := 11) (t1 := [(0, false), (96, false), (216, true), (217, true), (218, true), (219, true), (220, true), (221, true), (222, true), (223, true)]) (acc' := [[], [], [], [(0, false)], [], [], [], [(0, false)], [], [], [(0, false), (96, false), (216, true), (217, true), (218, true), (219, true), (220, true), (221, true), (222, true), (223, true)]]) (by kernel_rfl) (by kernel_rfl) rfl (by kernel_rfl) (by kernel_rfl) (ev_callB (args := [(.r (.msl 0 0 (z11.2.1 + (a4 : Int).toNat) ((a5 : Int).toNat - (a4 : Int).toNat))), (.d (.int .i64 a6)), (.fn 38 [(.r (.ptr 96 1 0))])]) (by kernel_rfl) (l_cons (l_part e_GCell (e := 36) (k := 4) (xs := z11.1) (by kernel_rfl) rfl hz15) (l_cons (by kernel_rfl) (l_cons (by kernel_rfl) l_nil))) (f37_ok base (d - 1) (dpt hd rfl) z15 a6 a7 [] z16 hz16) (by simp only [free_own e_GCell (fun _ => rfl), free_tup, free_agg, free_nl, free_cs, free_int, free_bool, free_str, free_un, free_ni, free_s0, Bool.and_true, Bool.or_true, Bool.and_self]) (by kernel_rfl)) ?_
  refine bindE hS (fun z17 hz17 hS => ?_)
  refine bindE hS (fun z18 hz18 hS => ?_)
  refine zdOp (d := some 27) (op := (.cpy 4 (.tmp 19) (.tmp 26))) (g := none) (v := (.d (.int .i64 ((min z16.length ((a5 : Int).toNat - (a4 : Int).toNat) : Nat) : Int)))) (ups := [(0, ⟨0, some (.own 36 4 (e_GCell.cells (cpyL z11.1 (z11.2.1 + (a4 : Int).toNat) ((a5 : Int).toNat - (a4 : Int).toNat) z16)))⟩)]) (j := 12) (t1 := [(0, true), (216, false)]) (acc' := [[], [], [], [(0, false)], [], [], [], [(0, false)], [], [], [(0, false), (96, false), (216, true), (217, true), (218, true), (219, true), (220, true), (221, true), (222, true), (223, true)], [(0, true), (216, false)]]) (by kernel_rfl) (by kernel_rfl) rfl (by kernel_rfl) (by kernel_rfl) (ev_cpy e_GCell (b := 0) (g := 0) (l := (z11.2.1 + (a4 : Int).toNat)) (n := ((a5 : Int).toNat - (a4 : Int).toNat)) (e := 36) (xs := z11.1) (ys := z16) (by kernel_rfl) (by kernel_rfl) rfl ((congrArg (asL _) (by kernel_rfl : ρof _ (.tmp 26) = (.r (.msl 216 1 0 z16.length)))).trans (as_whole e_GCell (e := 36) (k := 4) (xs := z16) (by kernel_rfl) rfl rfl)) hz17) ?_
  have ez18 := Option.some.inj hz18
  have lz18 : z11.1.length = z18.length := by rw [← ez18]; exact (cpyL_len (of_decide_eq_true (chk_t hz17))).symm
  rw [ez18]
  skip
  try rw [lz18]
  refine zdEnd (by kernel_rfl) (by kernel_rfl) ?_
  refine zkSeq ?_
  refine zrReg ?_
  refine zlRun (n := 1) (j := 1) rfl (by kernel_rfl) ?_
  refine bindE hS (fun z19 hz19 hS => ?_)
  refine bindE hS (fun z20 hz20 hS => ?_)
  refine zlOp (d := some 29) (op := (.callr 29 [(.tmp 28)])) (g := none) (j := 2) rfl (by kernel_rfl) (by kernel_rfl) (ev_callrXA (ids := [0]) (bs := [(.own 36 4 (e_GCell.cells z18))]) (by kernel_rfl) (by kernel_rfl) (by kernel_rfl) (by kernel_rfl) (f29_ok base (d - 1) (dpt hd rfl) z11.2.1 z11.2.2 z18 z19 hz19) (by kernel_rfl) (sm_own e_GCell (e1 := 36) (k1 := 4) (xs := z18) (ys := z19) (by kernel_rfl) hz20 sm_nil) (by kernel_rfl)) ?_
  have lz20 : z18.length = z19.length := (of_decide_eq_true (chk_t hz20)).symm
  skip
  try rw [lz20]
  refine zlEnd (by kernel_rfl) ?_
  refine zkNil ?_
  exact endQ hS hQ (fNormX (by kernel_rfl) (by kernel_rfl : finSt c27.fin _ = f27_fin z19) (by kernel_rfl) (f27_out z19))
/- farwriter/grid.Shift -/
def f9_fin (p10 : Int) (p11 : Int) (p12 : List GCell) (p13 : Int) : St := ⟨(up (up (fun _ => .un) 13 (.d (.int .i64 p13))) 12 (.r (.ptr 104 0 0))), (up (up (hB fun _ => 0) 224 ⟨0, some (.own 36 4 (e_GCell.cells p12))⟩) 104 ⟨0, some (.box ((.d (.int .i64 p10)) :: ((.d (.int .i64 p11)) :: ((.r (.msl 224 0 0 p12.length)) :: []))))⟩)⟩
theorem f9_out (p10 : Int) (p11 : Int) (p12 : List GCell) (p13 : Int) : outR (f9_fin p10 p11 p12 p13) 0 c9.res = some ((.tup [(.agg ((.d (.int .i64 p10)) :: ((.d (.int .i64 p11)) :: ((.r (.own 0 36 4 p12.length (e_GCell.cells p12))) :: [])))), (.d (.int .i64 p13))]), []) := by
  exact out_of (ids := []) (ids' := [224]) (l := [(.agg ((.d (.int .i64 p10)) :: ((.d (.int .i64 p11)) :: ((.r (.msl 224 0 0 p12.length)) :: [])))), (.d (.int .i64 p13))]) (by kernel_rfl) (by kernel_rfl) (o_tup (o_cons (o_agg (o_cons rfl (o_cons rfl (o_cons (o_own e_GCell (e := 36) (k := 4) (xs := p12) (by kernel_rfl) rfl rfl rfl rfl) o_nil)))) (o_cons rfl o_nil)))
def f9_Q (r : Int × Int × (List GCell) × Int) (e : PX) (st : St) : Prop := DoneF c9 0 ((.tup [(.agg ((.d (.int .i64 r.1)) :: ((.d (.int .i64 r.2.1)) :: ((.r (.own 0 36 4 r.2.2.1.length (e_GCell.cells r.2.2.1))) :: [])))), (.d (.int .i64 r.2.2.2))]), []) e st
def f9_j1_J (a1 : GGrid) (a2 : Int) (a3 : Int) (a4 : Int) (a5 : Int) (a6 : GPen) (p27 : Int) (p28 : Int) (p29 : List GCell) : St := ⟨(up (up (up (up (up (up (up (fun _ => .un) 12 (.r (.ptr 104 0 0))) 11 (.r (.ptr 96 0 0))) 6 (.r (.ptr 56 0 0))) 4 (.d (.int .i64 a5))) 3 (.d (.int .i64 a4))) 2 (.d (.int .i64 a3))) 1 (.d (.int .i64 a2))), (up (up (up (up (hB fun _ => 0) 104 ⟨0, some (.box ((.d (.int .i64 0)) :: ((.d (.int .i64 0)) :: ((.d (.sl ([] : List GCell).length (e_GCell.cells ([])))) :: []))))⟩) 96 ⟨0, some (.box ((.d (.int .i64 a6.Flags)) :: ((.d (.int .i64 a6.Fore)) :: ((.d (.int .i64 a6.Back)) :: []))))⟩) 224 ⟨0, some (.own 36 4 (e_GCell.cells p29))⟩) 56 ⟨0, some (.box ((.d (.int .i64 p27)) :: ((.d (.int .i64 p28)) :: ((.r (.msl 224 0 0 p29.length)) :: []))))⟩)⟩
noncomputable def f9_j1 (a1 : GGrid) (a2 : Int) (a3 : Int) (a4 : Int) (a5 : Int) (a6 : GPen) (p27 : Int) (p28 : Int) (p29 : List GCell) : Option (Int × Int × (List GCell) × Int) := ((f27 p27 p28 a2 a3 a4 a5 a6 p29).bind fun z11 => ((chk (decide (z11.length = p29.length))).bind fun z12 => (some (p27, p28, z11, 0))))
theorem f9_j1_ok {base : Orc} {d : Nat} (hd : 6 ≤ d) (a1 : GGrid) (a2 : Int) (a3 : Int) (a4 : Int) (a5 : Int) (a6 : GPen) {r : Int × Int × (List GCell) × Int} {Q : PX → St → Prop} (hQ : ∀ e st', f9_Q r e st' → Q e st') (p27 : Int) (p28 : Int) (p29 : List GCell) (hS : f9_j1 a1 a2 a3 a4 a5 a6 p27 p28 p29 = some r) {st : St} (he : keepSt [1, 2, 3, 4, 6, 11, 12] [(56, .id 56), (224, .id 224), (96, .id 96), (104, .id 104)] [] st = f9_j1_J a1 a2 a3 a4 a5 a6 p27 p28 p29) : ZR (lev codes base (d - 1)) Q c9_1 [] st := by
  refine zrKeep he ?_
  unfold f9_j1 at hS
  refine zrSeq ?_
  refine zrReg ?_
  refine zlRun (n := 6) (j := 6) rfl (by kernel_rfl) ?_
  refine bindE hS (fun z11 hz11 hS => ?_)
  refine bindE hS (fun z12 hz12 hS => ?_)
  refine zlOp (d := some 40) (op := (.callr 27 [(.tmp 34), (.tmp 35), (.tmp 36), (.tmp 37), (.tmp 38), (.tmp 39)])) (g := none) (j := 7) rfl (by kernel_rfl) (by kernel_rfl) (ev_callrXA (ids := [224]) (bs := [(.own 36 4 (e_GCell.cells p29))]) (by kernel_rfl) (by kernel_rfl) (by kernel_rfl) (by kernel_rfl) (f27_ok base (d - 1) (dpt hd rfl) p27 p28 a2 a3 a4 a5 a6 p29 z11 hz11) (by kernel_rfl) (sm_own e_GCell (e1 := 36) (k1 := 4) (xs := p29) (ys := z11) (by kernel_rfl) hz12 sm_nil) (by kernel_rfl)) ?_
  have lz12 : p29.length = z11.length := (of_decide_eq_true (chk_t hz12)).symm
  try delta f9_j1_J
  try rw [lz12]
  refine zlEnd (by kernel_rfl) ?_
  refine zkSeq ?_
  refine zrSeq ?_
  refine zrReg ?_
  refine zlRun (n := 3) (j := 3) rfl (by kernel_rfl) ?_
  refine zlEnd (by kernel_rfl) ?_
  refine zkSeq ?_
  refine zrRet ?_
  refine zkNil ?_
  exact endQ hS hQ (fRet (by kernel_rfl) ((congrArg (fun s => outR s 0 c9.res) (by kernel_rfl : finSt c9.fin _ = f9_fin p27 p28 z11 0)).trans (f9_out p27 p28 z11 0)))
def f9_j0_J (a1 : GGrid) (a2 : Int) (a3 : Int) (a4 : Int) (a5 : Int) (a6 : GPen) (p18 : Int) (p19 : Int) (p20 : List GCell) (p21 : Int) : St := ⟨(up (up (up (up (up (up (up (up (fun _ => .un) 14 (.d (.int .i64 p21))) 12 (.r (.ptr 104 0 0))) 11 (.r (.ptr 96 0 0))) 6 (.r (.ptr 56 0 0))) 4 (.d (.int .i64 a5))) 3 (.d (.int .i64 a4))) 2 (.d (.int .i64 a3))) 1 (.d (.int .i64 a2))), (up (up (up (up (hB fun _ => 0) 104 ⟨0, some (.box ((.d (.int .i64 0)) :: ((.d (.int .i64 0)) :: ((.d (.sl ([] : List GCell).length (e_GCell.cells ([])))) :: []))))⟩) 96 ⟨0, some (.box ((.d (.int .i64 a6.Flags)) :: ((.d (.int .i64 a6.Fore)) :: ((.d (.int .i64 a6.Back)) :: []))))⟩) 224 ⟨0, some (.own 36 4 (e_GCell.cells p20))⟩) 56 ⟨0, some (.box ((.d (.int .i64 p18)) :: ((.d (.int .i64 p19)) :: ((.r (.msl 224 0 0 p20.length)) :: []))))⟩)⟩
noncomputable def f9_j0 (a1 : GGrid) (a2 : Int) (a3 : Int) (a4 : Int) (a5 : Int) (a6 : GPen) (p18 : Int) (p19 : Int) (p20 : List GCell) (p21 : Int) : Option (Int × Int × (List GCell) × Int) := (bif (!decide (p21 = 0)) then (some (p18, p19, p20, p21)) else (f9_j1 a1 a2 a3 a4 a5 a6 p18 p19 p20))
theorem f9_j0_ok {base : Orc} {d : Nat} (hd : 6 ≤ d) (a1 : GGrid) (a2 : Int) (a3 : Int) (a4 : Int) (a5 : Int) (a6 : GPen) {r : Int × Int × (List GCell) × Int} {Q : PX → St → Prop} (hQ : ∀ e st', f9_Q r e st' → Q e st') (p18 : Int) (p19 : Int) (p20 : List GCell) (p21 : Int) (hS : f9_j0 a1 a2 a3 a4 a5 a6 p18 p19 p20 p21 = some r) {st : St} (he : keepSt [1, 2, 3, 4, 6, 11, 12, 14] [(56, .id 56), (224, .id 224), (96, .id 96), (104, .id 104)] [.cell 104 2 0 0 1] st = f9_j0_J a1 a2 a3 a4 a5 a6 p18 p19 p20 p21) : ZR (lev codes base (d - 1)) Q c9_2 [] st := by
  refine zrKeep he ?_
  unfold f9_j0 at hS
  refine zrSeq ?_
  refine zrSeq ?_
  refine zrReg ?_
  refine zlRun (n := 1) (j := 1) rfl (by kernel_rfl) ?_
  refine zlBool (d := 31) (op := (.cmpI .neq (.tmp 30) (.const (.int .i64 0)))) (g := none) (j := 2) (!decide (p21 = 0)) rfl (by kernel_rfl) (by kernel_rfl) (by kernel_rfl) (fun hc => ?_) (fun hc => ?_)
  · replace hS := cond_t hc hS
    refine zlEnd (by kernel_rfl) ?_
    refine zkSeq ?_
    refine zrCondT (by kernel_rfl) ?_
    refine zrSeq ?_
    refine zrReg ?_
    refine zlRun (n := 4) (j := 4) rfl (by kernel_rfl) ?_
    refine zlEnd (by kernel_rfl) ?_
    refine zkSeq ?_
    refine zrRet ?_
    refine zkSeqR ?_
    refine zkNil ?_
    exact endQ hS hQ (fRet (by kernel_rfl) ((congrArg (fun s => outR s 0 c9.res) (by kernel_rfl : finSt c9.fin _ = f9_fin p18 p19 p20 p21)).trans (f9_out p18 p19 p20 p21)))
  · replace hS := cond_f hc hS
    refine zlEnd (by kernel_rfl) ?_
    refine zkSeq ?_
    refine zrCondF (by kernel_rfl) ?_
    refine zrSkip ?_
    refine zkSeq ?_
    exact f9_j1_ok hd a1 a2 a3 a4 a5 a6 hQ p18 p19 p20 hS (by kernel_rfl)
noncomputable def f9 (a1 : GGrid) (a2 : Int) (a3 : Int) (a4 : Int) (a5 : Int) (a6 : GPen) : Option (Int × Int × (List GCell) × Int) := ((f24 a1 a2 a3 a4).bind fun z13 => (bif z13 then ((f26 a5).bind fun z14 => ((f22 a1 z14 a6).bind fun z15 => (f9_j0 a1 a2 a3 a4 a5 a6 z15.1 z15.2.1 z15.2.2.1 z15.2.2.2))) else ((f22 a1 false a6).bind fun z16 => (f9_j0 a1 a2 a3 a4 a5 a6 z16.1 z16.2.1 z16.2.2.1 z16.2.2.2))))
theorem f9_ok (base : Orc) (d : Nat) (hd : 6 ≤ d) (a1 : GGrid) (a2 : Int) (a3 : Int) (a4 : Int) (a5 : Int) (a6 : GPen) (r : Int × Int × (List GCell) × Int) (hS : f9 a1 a2 a3 a4 a5 a6 = some r) : lev codes base d 9 [(.agg ((.d (.int .i64 a1.Wide)) :: ((.d (.int .i64 a1.High)) :: ((.d (.sl a1.Cells.length (e_GCell.cells a1.Cells))) :: [])))), (.d (.int .i64 a2)), (.d (.int .i64 a3)), (.d (.int .i64 a4)), (.d (.int .i64 a5)), (.agg ((.d (.int .i64 a6.Flags)) :: ((.d (.int .i64 a6.Fore)) :: ((.d (.int .i64 a6.Back)) :: []))))] [] = some ((.tup [(.agg ((.d (.int .i64 r.1)) :: ((.d (.int .i64 r.2.1)) :: ((.r (.own 0 36 4 r.2.2.1.length (e_GCell.cells r.2.2.1))) :: [])))), (.d (.int .i64 r.2.2.2))]), []) := by
  refine lev_go codes9 rfl rfl (Nat.le_trans (Nat.le_of_ble_eq_true rfl) hd) fun Q hQ => ?_
  unfold f9 at hS
  show ZR _ Q c9_b [] _
  replace hQ : ∀ e st', f9_Q r e st' → Q e st' := hQ
  refine zrSeq ?_
  refine zrReg ?_
  refine zlRun (n := 4) (j := 4) rfl (by kernel_rfl) ?_
  refine zlEnd (by kernel_rfl) ?_
  refine zkSeq ?_
  refine zrSeq ?_
  refine zrRegD ?_
  refine zdRun (n := 5) (j := 5) (ts := [[(56, false)], [(56, false)], [], [], []]) (acc' := [[(56, false)], [(56, false)], [], [], []]) rfl (by kernel_rfl) (by kernel_rfl) (by kernel_rfl) ?_
  refine bindE hS (fun z13 hz13 hS => ?_)
  refine zdOp (d := some 21) (op := (.call 24 [(.tmp 17), (.tmp 18), (.tmp 19), (.tmp 20)])) (g := none) (j := 6) (t1 := [(176, true), (177, true), (178, true), (179, true), (180, true), (181, true), (182, true), (183, true)]) (acc' := [[(56, false)], [(56, false)], [], [], [], [(176, true), (177, true), (178, true), (179, true), (180, true), (181, true), (182, true), (183, true)]]) (by kernel_rfl) (by kernel_rfl) rfl (by kernel_rfl) (by kernel_rfl) (ev_callA (by kernel_rfl) (f24_ok base (d - 1) (dpt hd rfl) a1 a2 a3 a4 z13 hz13) (by kernel_rfl) (by kernel_rfl)) ?_
  refine zdRun (n := 1) (j := 7) (ts := [[]]) (acc' := [[(56, false)], [(56, false)], [], [], [], [(176, true), (177, true), (178, true), (179, true), (180, true), (181, true), (182, true), (183, true)], []]) rfl (by kernel_rfl) (by kernel_rfl) (by kernel_rfl) ?_
  refine zdSplit 22 z13 (by kernel_rfl) (fun hc => ?_) (fun hc => ?_)
  · replace hS := cond_t hc hS
    refine zdRun (n := 1) (j := 8) (ts := [[]]) (acc' := [[(56, false)], [(56, false)], [], [], [], [(176, true), (177, true), (178, true), (179, true), (180, true), (181, true), (182, true), (183, true)], [], []]) rfl (by kernel_rfl) (by kernel_rfl) (by kernel_rfl) ?_
    refine bindE hS (fun z14 hz14 hS => ?_)
    refine zdOp (d := some 24) (op := (.call 26 [(.tmp 23)])) (g := (some (22, true))) (j := 9) (t1 := [(200, true), (201, true), (202, true), (203, true), (204, true), (205, true), (206, true), (207, true)]) (acc' := [[(56, false)], [(56, false)], [], [], [], [(176, true), (177, true), (178, true), (179, true), (180, true), (181, true), (182, true), (183, true)], [], [], [(200, true), (201, true), (202, true), (203, true), (204, true), (205, true), (206, true), (207, true)]]) (by kernel_rfl) (by kernel_rfl) rfl (by kernel_rfl) (by kernel_rfl) (ev_callA (by kernel_rfl) (f26_ok base (d - 1) (dpt hd rfl) a5 z14 hz14) (by kernel_rfl) (by kernel_rfl)) ?_
    refine zdRun (n := 2) (j := 11) (ts := [[], [(96, false)]]) (acc' := [[(56, false)], [(56, false)], [], [], [], [(176, true), (177, true), (178, true), (179, true), (180, true), (181, true), (182, true), (183, true)], [], [], [(200, true), (201, true), (202, true), (203, true), (204, true), (205, true), (206, true), (207, true)], [], [(96, false)]]) rfl (by kernel_rfl) (by kernel_rfl) (by kernel_rfl) ?_
    refine bindE hS (fun z15 hz15 hS => ?_)
    refine zdOp (d := some 27) (op := (.callf 22 [(.tmp 16), (.tmp 25), (.tmp 26)])) (g := none) (v := (.tup [(.agg ((.d (.int .i64 z15.1)) :: ((.d (.int .i64 z15.2.1)) :: ((.r (.msl 224 1 0 z15.2.2.1.length)) :: [])))), (.d (.int .i64 z15.2.2.2))])) (ups := [(224, ⟨1, some (.own 36 4 (e_GCell.cells z15.2.2.1))⟩)]) (j := 12) (t1 := [(224, true), (225, true), (226, true), (227, true), (228, true), (229, true), (230, true), (231, true)]) (acc' := [[(56, false)], [(56, false)], [], [], [], [(176, true), (177, true), (178, true), (179, true), (180, true), (181, true), (182, true), (183, true)], [], [], [(200, true), (201, true), (202, true), (203, true), (204, true), (205, true), (206, true), (207, true)], [], [(96, false)], [(224, true), (225, true), (226, true), (227, true), (228, true), (229, true), (230, true), (231, true)]]) (by kernel_rfl) (by kernel_rfl) rfl (by kernel_rfl) (by kernel_rfl) (ev_callF (args := [(.agg ((.d (.int .i64 a1.Wide)) :: ((.d (.int .i64 a1.High)) :: ((.d (.sl a1.Cells.length (e_GCell.cells a1.Cells))) :: [])))), (.d (.bool z14)), (.agg ((.d (.int .i64 a6.Flags)) :: ((.d (.int .i64 a6.Fore)) :: ((.d (.int .i64 a6.Back)) :: []))))]) (args' := [(.agg ((.d (.int .i64 a1.Wide)) :: ((.d (.int .i64 a1.High)) :: ((.d (.sl a1.Cells.length (e_GCell.cells a1.Cells))) :: [])))), (.d (.bool z14)), (.agg ((.d (.int .i64 a6.Flags)) :: ((.d (.int .i64 a6.Fore)) :: ((.d (.int .i64 a6.Back)) :: []))))]) (l := [(.agg ((.d (.int .i64 a1.Wide)) :: ((.d (.int .i64 a1.High)) :: ((.d (.sl a1.Cells.length (e_GCell.cells a1.Cells))) :: [])))), (.d (.bool z14)), (.agg ((.d (.int .i64 a6.Flags)) :: ((.d (.int .i64 a6.Fore)) :: ((.d (.int .i64 a6.Back)) :: []))))]) (refs := []) (r := (.tup [(.agg ((.d (.int .i64 z15.1)) :: ((.d (.int .i64 z15.2.1)) :: ((.r (.own 0 36 4 z15.2.2.1.length (e_GCell.cells z15.2.2.1))) :: [])))), (.d (.int .i64 z15.2.2.2))])) (v := (.tup [(.agg ((.d (.int .i64 z15.1)) :: ((.d (.int .i64 z15.2.1)) :: ((.r (.msl 224 1 0 z15.2.2.1.length)) :: [])))), (.d (.int .i64 z15.2.2.2))])) (ups' := [(224, ⟨1, some (.own 36 4 (e_GCell.cells z15.2.2.1))⟩)]) (by kernel_rfl) (by kernel_rfl) (by kernel_rfl) (fz_cons rfl (fz_cons rfl (fz_cons rfl fz_nil))) (by kernel_rfl) (f22_ok base (d - 1) (dpt hd rfl) a1 z14 a6 z15 hz15) (by kernel_rfl) (by kernel_rfl) (by kernel_rfl) (by kernel_rfl)) ?_
    refine zdRun (n := 5) (j := 17) (ts := [[], [], [], [(56, true)], []]) (acc' := [[(56, false)], [(56, false)], [], [], [], [(176, true), (177, true), (178, true), (179, true), (180, true), (181, true), (182, true), (183, true)], [], [], [(200, true), (201, true), (202, true), (203, true), (204, true), (205, true), (206, true), (207, true)], [], [(96, false)], [(224, true), (225, true), (226, true), (227, true), (228, true), (229, true), (230, true), (231, true)], [], [], [], [(56, true)], []]) rfl (by kernel_rfl) (by kernel_rfl) (by kernel_rfl) ?_
    refine zdEnd (by kernel_rfl) (by kernel_rfl) ?_
    refine zkSeq ?_
    exact f9_j0_ok hd a1 a2 a3 a4 a5 a6 hQ z15.1 z15.2.1 z15.2.2.1 z15.2.2.2 hS (by kernel_rfl)
  · replace hS := cond_f hc hS
    refine zdRun (n := 4) (j := 11) (ts := [[], [], [], [(96, false)]]) (acc' := [[(56, false)], [(56, false)], [], [], [], [(176, true), (177, true), (178, true), (179, true), (180, true), (181, true), (182, true), (183, true)], [], [], [], [], [(96, false)]]) rfl (by kernel_rfl) (by kernel_rfl) (by kernel_rfl) ?_
    refine bindE hS (fun z16 hz16 hS => ?_)
    refine zdOp (d := some 27) (op := (.callf 22 [(.tmp 16), (.tmp 25), (.tmp 26)])) (g := none) (v := (.tup [(.agg ((.d (.int .i64 z16.1)) :: ((.d (.int .i64 z16.2.1)) :: ((.r (.msl 224 1 0 z16.2.2.1.length)) :: [])))), (.d (.int .i64 z16.2.2.2))])) (ups := [(224, ⟨1, some (.own 36 4 (e_GCell.cells z16.2.2.1))⟩)]) (j := 12) (t1 := [(224, true), (225, true), (226, true), (227, true), (228, true), (229, true), (230, true), (231, true)]) (acc' := [[(56, false)], [(56, false)], [], [], [], [(176, true), (177, true), (178, true), (179, true), (180, true), (181, true), (182, true), (183, true)], [], [], [], [], [(96, false)], [(224, true), (225, true), (226, true), (227, true), (228, true), (229, true), (230, true), (231, true)]]) (by kernel_rfl) (by kernel_rfl) rfl (by kernel_rfl) (by kernel_rfl) (ev_callF (args := [(.agg ((.d (.int .i64 a1.Wide)) :: ((.d (.int .i64 a1.High)) :: ((.d (.sl a1.Cells.length (e_GCell.cells a1.Cells))) :: [])))), (.d (.bool false)), (.agg ((.d (.int .i64 a6.Flags)) :: ((.d (.int .i64 a6.Fore)) :: ((.d (.int .i64 a6.Back)) :: []))))]) (args' := [(.agg ((.d (.int .i64 a1.Wide)) :: ((.d (.int .i64 a1.High)) :: ((.d (.sl a1.Cells.length (e_GCell.cells a1.Cells))) :: [])))), (.d (.bool false)), (.agg ((.d (.int .i64 a6.Flags)) :: ((.d (.int .i64 a6.Fore)) :: ((.d (.int .i64 a6.Back)) :: []))))]) (l := [(.agg ((.d (.int .i64 a1.Wide)) :: ((.d (.int .i64 a1.High)) :: ((.d (.sl a1.Cells.length (e_GCell.cells a1.Cells))) :: [])))), (.d (.bool false)), (.agg ((.d (.int .i64 a6.Flags)) :: ((.d (.int .i64 a6.Fore)) :: ((.d (.int .i64 a6.Back)) :: []))))]) (refs := []) (r := (.tup [(.agg ((.d (.int .i64 z16.1)) :: ((.d (.int .i64 z16.2.1)) :: ((.r (.own 0 36 4 z16.2.2.1.length (e_GCell.cells z16.2.2.1))) :: [])))), (.d (.int .i64 z16.2.2.2))])) (v := (.tup [(.agg ((.d (.int .i64 z16.1)) :: ((.d (.int .i64 z16.2.1)) :: ((.r (.msl 224 1 0 z16.2.2.1.length)) :: [])))), (.d (.int .i64 z16.2.2.2))])) (ups' := [(224, ⟨1, some (.own 36 4 (e_GCell.cells z16.2.2.1))⟩)]) (by kernel_rfl) (by kernel_rfl) (by kernel_rfl) (fz_cons rfl (fz_cons rfl (fz_cons rfl fz_nil))) (by kernel_rfl) (f22_ok base (d - 1) (dpt hd rfl) a1 false a6 z16 hz16) (by kernel_rfl) (by kernel_rfl) (by kernel_rfl) (by kernel_rfl)) ?_
    refine zdRun (n := 5) (j := 17) (ts := [[], [], [], [(56, true)], []]) (acc' := [[(56, false)], [(56, false)], [], [], [], [(176, true), (177, true), (178, true), (179, true), (180, true), (181, true), (182, true), (183, true)], [], [], [], [], [(96, false)], [(224, true), (225, true), (226, true), (227, true), (228, true), (229, true), (230, true), (231, true)], [], [], [], [(56, true)], []]) rfl (by kernel_rfl) (by kernel_rfl) (by kernel_rfl) ?_
    refine zdEnd (by kernel_rfl) (by kernel_rfl) ?_
    refine zkSeq ?_
    exact f9_j0_ok hd a1 a2 a3 a4 a5 a6 hQ z16.1 z16.2.1 z16.2.2.1 z16.2.2.2 hS (by kernel_rfl)
/- farwriter/farkeep.GridAlone -/
def f3_fin (p494 : Bool) : St := ⟨(up (fun _ => .un) 14 (.d (.bool p494))), (hB fun _ => 0)⟩
theorem f3_out (p494 : Bool) : outR (f3_fin p494) 0 c3.res = some ((.d (.bool p494)), []) := by
  kernel_rfl
def f3_Q (r : Bool) (e : PX) (st : St) : Prop := DoneF c3 0 ((.d (.bool r)), []) e st
def f3_l1_J (a1 : GGrid) (a2 : Int) (a3 : Int) (a4 : Int) (a5 : Int) (a6 : Int) (a7 : GPen) (x : Int × Int × Int × (List GGrid) × Int × Int) : St := ⟨(up (up (up (up (up (up (up (up (fun _ => .un) 65 (.d (.int .i64 x.2.2.2.2.2))) 64 (.d (.int .i64 x.2.2.2.2.1))) 63 (.r (.msl 512 0 0 x.2.2.2.1.length))) 20 (.d (.int .i64 x.2.2.1))) 18 (.d (.int .i64 x.2.1))) 16 (.d (.int .i64 x.1))) 7 (.r (.ptr 64 0 0))) 1 (.d (.int .i64 a2))), (up (up (hB fun _ => 0) 512 ⟨0, some (.own 24 3 (e_GGrid.cells x.2.2.2.1))⟩) 64 ⟨0, some (.box ((.d (.int .i64 a1.Wide)) :: ((.d (.int .i64 a1.High)) :: ((.d (.sl a1.Cells.length (e_GCell.cells a1.Cells))) :: []))))⟩)⟩
def f3_l1_H (a1 : GGrid) (a2 : Int) (a3 : Int) (a4 : Int) (a5 : Int) (a6 : Int) (a7 : GPen) (x : Int × Int × Int × (List GGrid) × Int × Int) (st : St) : Prop := keepSt [1, 7, 16, 18, 20, 63, 64, 65] [(64, .id 64), (512, .id 512)] [] st = f3_l1_J a1 a2 a3 a4 a5 a6 a7 x
def f3_l1_e0_J (a1 : GGrid) (a2 : Int) (a3 : Int) (a4 : Int) (a5 : Int) (a6 : Int) (a7 : GPen) : St := ⟨(fun _ => .un), (hB fun _ => 0)⟩
def f3_l1_X (a1 : GGrid) (a2 : Int) (a3 : Int) (a4 : Int) (a5 : Int) (a6 : Int) (a7 : GPen) (z : Unit ⊕ Bool) (e : PX) (st : St) : Prop := (match z with | .inl z => e = .exit 0 ∧ st = f3_l1_e0_J a1 a2 a3 a4 a5 a6 a7 | .inr z => e = .ret ∧ finSt c3.fin st = f3_fin z)
def f3_l1_l6_J (a1 : GGrid) (a2 : Int) (a3 : Int) (a4 : Int) (a5 : Int) (a6 : Int) (a7 : GPen) (x : Int × Int × Int × GGrid × (List GGrid) × Int × Int × Int) : St := ⟨(up (up (up (up (up (up (up (up (up (up (up (fun _ => .un) 87 (.d (.int .i64 x.2.2.2.2.2.2.2))) 86 (.d (.int .i64 (a1.Cells.length : Int)))) 65 (.d (.int .i64 x.2.2.2.2.2.2.1))) 64 (.d (.int .i64 x.2.2.2.2.2.1))) 63 (.r (.msl 512 0 0 x.2.2.2.2.1.length))) 22 (.r (.ptr 184 0 0))) 20 (.d (.int .i64 x.2.2.1))) 18 (.d (.int .i64 x.2.1))) 16 (.d (.int .i64 x.1))) 7 (.r (.ptr 64 0 0))) 1 (.d (.int .i64 a2))), (up (up (up (hB fun _ => 0) 512 ⟨0, some (.own 24 3 (e_GGrid.cells x.2.2.2.2.1))⟩) 184 ⟨0, some (.box ((.d (.int .i64 x.2.2.2.1.Wide)) :: ((.d (.int .i64 x.2.2.2.1.High)) :: ((.d (.sl x.2.2.2.1.Cells.length (e_GCell.cells x.2.2.2.1.Cells))) :: []))))⟩) 64 ⟨0, some (.box ((.d (.int .i64 a1.Wide)) :: ((.d (.int .i64 a1.High)) :: ((.d (.sl a1.Cells.length (e_GCell.cells a1.Cells))) :: []))))⟩)⟩
def f3_l1_l6_H (a1 : GGrid) (a2 : Int) (a3 : Int) (a4 : Int) (a5 : Int) (a6 : Int) (a7 : GPen) (x : Int × Int × Int × GGrid × (List GGrid) × Int × Int × Int) (st : St) : Prop := keepSt [1, 7, 16, 18, 20, 22, 63, 64, 65, 86, 87] [(64, .id 64), (184, .id 184), (512, .id 512)] [] st = f3_l1_l6_J a1 a2 a3 a4 a5 a6 a7 x
def f3_l1_l6_e2_J (a1 : GGrid) (a2 : Int) (a3 : Int) (a4 : Int) (a5 : Int) (a6 : Int) (a7 : GPen) (p1167 : Int) (p1168 : Int) (p1169 : Int) (p1170 : List GGrid) (p1171 : Int) (p1172 : Int) : St := ⟨(up (up (up (up (up (up (up (up (fun _ => .un) 65 (.d (.int .i64 p1172))) 64 (.d (.int .i64 p1171))) 63 (.r (.msl 512 0 0 p1170.length))) 20 (.d (.int .i64 p1169))) 18 (.d (.int .i64 p1168))) 16 (.d (.int .i64 p1167))) 7 (.r (.ptr 64 0 0))) 1 (.d (.int .i64 a2))), (up (up (hB fun _ => 0) 512 ⟨0, some (.own 24 3 (e_GGrid.cells p1170))⟩) 64 ⟨0, some (.box ((.d (.int .i64 a1.Wide)) :: ((.d (.int .i64 a1.High)) :: ((.d (.sl a1.Cells.length (e_GCell.cells a1.Cells))) :: []))))⟩)⟩
def f3_l1_l6_X (a1 : GGrid) (a2 : Int) (a3 : Int) (a4 : Int) (a5 : Int) (a6 : Int) (a7 : GPen) (z : (Int × Int × Int × (List GGrid) × Int × Int) ⊕ Bool) (e : PX) (st : St) : Prop := (match z with | .inl z => e = .exit 2 ∧ st = f3_l1_l6_e2_J a1 a2 a3 a4 a5 a6 a7 z.1 z.2.1 z.2.2.1 z.2.2.2.1 z.2.2.2.2.1 z.2.2.2.2.2 | .inr z => e = .ret ∧ finSt c3.fin st = f3_fin z)
def f3_l1_l6_j8_J (a1 : GGrid) (a2 : Int) (a3 : Int) (a4 : Int) (a5 : Int) (a6 : Int) (a7 : GPen) (p1191 : Int) (p1192 : Int) (p1193 : Int) (p1194 : GGrid) (p1195 : List GGrid) (p1196 : Int) (p1197 : Int) (p1198 : Int) : St := ⟨(up (up (up (up (up (up (up (up (up (up (up (fun _ => .un) 87 (.d (.int .i64 p1198))) 86 (.d (.int .i64 (a1.Cells.length : Int)))) 65 (.d (.int .i64 p1197))) 64 (.d (.int .i64 p1196))) 63 (.r (.msl 512 0 0 p1195.length))) 22 (.r (.ptr 184 0 0))) 20 (.d (.int .i64 p1193))) 18 (.d (.int .i64 p1192))) 16 (.d (.int .i64 p1191))) 7 (.r (.ptr 64 0 0))) 1 (.d (.int .i64 a2))), (up (up (up (hB fun _ => 0) 512 ⟨0, some (.own 24 3 (e_GGrid.cells p1195))⟩) 184 ⟨0, some (.box ((.d (.int .i64 p1194.Wide)) :: ((.d (.int .i64 p1194.High)) :: ((.d (.sl p1194.Cells.length (e_GCell.cells p1194.Cells))) :: []))))⟩) 64 ⟨0, some (.box ((.d (.int .i64 a1.Wide)) :: ((.d (.int .i64 a1.High)) :: ((.d (.sl a1.Cells.length (e_GCell.cells a1.Cells))) :: []))))⟩)⟩
noncomputable def f3_l1_l6_j8 (a1 : GGrid) (a2 : Int) (a3 : Int) (a4 : Int) (a5 : Int) (a6 : Int) (a7 : GPen) (p1191 : Int) (p1192 : Int) (p1193 : Int) (p1194 : GGrid) (p1195 : List GGrid) (p1196 : Int) (p1197 : Int) (p1198 : Int) : Option ((Int × Int × Int × GGrid × (List GGrid) × Int × Int × Int) ⊕ ((Int × Int × Int × (List GGrid) × Int × Int) ⊕ Bool)) := ((chk (!decide (a1.Wide = 0))).bind fun z95 => (bif (!decide ((IntKind.i64.wrap (Int.tdiv p1198 a1.Wide)) = a2)) then ((idx p1194.Cells p1198).bind fun z96 => ((idx a1.Cells p1198).bind fun z97 => (bif (!(decide (z96.Rune = z97.Rune) && (decide (z96.Pen.Flags = z97.Pen.Flags) && (decide (z96.Pen.Fore = z97.Pen.Fore) && (decide (z96.Pen.Back = z97.Pen.Back) && true))))) then (some (.inr (.inr false))) else (some (.inl (p1191, p1192, p1193, p1194, p1195, p1196, p1197, (IntKind.i64.wrap (p1198 + 1)))))))) else (some (.inl (p1191, p1192, p1193, p1194, p1195, p1196, p1197, (IntKind.i64.wrap (p1198 + 1)))))))
theorem f3_l1_l6_j8_ok {base : Orc} {d : Nat} (hd : 8 ≤ d) (a1 : GGrid) (a2 : Int) (a3 : Int) (a4 : Int) (a5 : Int) (a6 : Int) (a7 : GPen) {r : (Int × Int × Int × GGrid × (List GGrid) × Int × Int × Int) ⊕ ((Int × Int × Int × (List GGrid) × Int × Int) ⊕ Bool)} {Q : PX → St → Prop} (hQ : ∀ e st', finL (f3_l1_l6_H a1 a2 a3 a4 a5 a6 a7) (f3_l1_l6_X a1 a2 a3 a4 a5 a6 a7) r e st' → Q e st') (p1191 : Int) (p1192 : Int) (p1193 : Int) (p1194 : GGrid) (p1195 : List GGrid) (p1196 : Int) (p1197 : Int) (p1198 : Int) (hS : f3_l1_l6_j8 a1 a2 a3 a4 a5 a6 a7 p1191 p1192 p1193 p1194 p1195 p1196 p1197 p1198 = some r) {st : St} (he : keepSt [1, 7, 16, 18, 20, 22, 63, 64, 65, 86, 87] [(64, .id 64), (184, .id 184), (512, .id 512)] [] st = f3_l1_l6_j8_J a1 a2 a3 a4 a5 a6 a7 p1191 p1192 p1193 p1194 p1195 p1196 p1197 p1198) : ZR (lev codes base (d - 1)) Q c3_1 [] st := by
  refine zrKeep he ?_
  unfold f3_l1_l6_j8 at hS
  refine zrSeq ?_
  refine zrBlk ?_
  refine zrSeq ?_
  refine zrReg ?_
  refine zlRun (n := 2) (j := 2) rfl (by kernel_rfl) ?_
  refine zlEnd (by kernel_rfl) ?_
  refine zkSeq ?_
  refine zrSeq ?_
  refine zrRegD ?_
  refine zdRun (n := 3) (j := 3) (ts := [[], [], [(64, false)]]) (acc' := [[], [], [(64, false)]]) rfl (by kernel_rfl) (by kernel_rfl) (by kernel_rfl) ?_
  refine bindE hS (fun z95 hz95 hS => ?_)
  refine zdOp (d := some 93) (op := (.arI .quo (.tmp 90) (.tmp 92))) (g := none) (v := (.d (.int .i64 (IntKind.i64.wrap (Int.tdiv p1198 a1.Wide))))) (ups := []) (j := 4) (t1 := []) (acc' := [[], [], [(64, false)], []]) (by kernel_rfl) (by kernel_rfl) rfl (by kernel_rfl) (by kernel_rfl) (ev_arI (kk := .i64) (a := p1198) (c := a1.Wide) (by kernel_rfl) (by kernel_rfl) (div_ok hz95)) ?_
  refine zdRun (n := 1) (j := 5) (ts := [[]]) (acc' := [[], [], [(64, false)], [], []]) rfl (by kernel_rfl) (by kernel_rfl) (by kernel_rfl) ?_
  refine zdBool (d := 95) (op := (.cmpI .neq (.tmp 93) (.tmp 94))) (g := none) (j := 6) (t1 := []) (acc' := [[], [], [(64, false)], [], [], []]) (!decide ((IntKind.i64.wrap (Int.tdiv p1198 a1.Wide)) = a2)) (by kernel_rfl) (by kernel_rfl) rfl (by kernel_rfl) (by kernel_rfl) (by kernel_rfl) (fun hc => ?_) (fun hc => ?_)
  · replace hS := cond_t hc hS
    refine zdRun (n := 4) (j := 10) (ts := [[], [], [(184, false)], []]) (acc' := [[], [], [(64, false)], [], [], [], [], [], [(184, false)], []]) rfl (by kernel_rfl) (by kernel_rfl) (by kernel_rfl) ?_
    refine bindE hS (fun z96 hz96 hS => ?_)
    refine zdOp (d := some 100) (op := (.ixS 36 4 (.tmp 98) (.tmp 99))) (g := (some (96, true))) (v := (.rptr (e_GCell.enc z96 ++ (e_GCell.cells (p1194.Cells.drop ((p1198 : Int).toNat + 1)))))) (ups := []) (j := 11) (t1 := []) (acc' := [[], [], [(64, false)], [], [], [], [], [], [(184, false)], [], []]) (by kernel_rfl) (by kernel_rfl) rfl (by kernel_rfl) (by kernel_rfl) (ev_ixS e_GCell (kk := .i64) (xs := p1194.Cells) (j := p1198) (by kernel_rfl) (by kernel_rfl) hz96 rfl (by intro h; cases h)) ?_
    refine zdRun (n := 4) (j := 15) (ts := [[], [], [(64, false)], []]) (acc' := [[], [], [(64, false)], [], [], [], [], [], [(184, false)], [], [], [], [], [(64, false)], []]) rfl (by kernel_rfl) (by kernel_rfl) (by kernel_rfl) ?_
    refine bindE hS (fun z97 hz97 hS => ?_)
    refine zdOp (d := some 105) (op := (.ixS 36 4 (.tmp 103) (.tmp 104))) (g := (some (96, true))) (v := (.rptr (e_GCell.enc z97 ++ (e_GCell.cells (a1.Cells.drop ((p1198 : Int).toNat + 1)))))) (ups := []) (j := 16) (t1 := []) (acc' := [[], [], [(64, false)], [], [], [], [], [], [(184, false)], [], [], [], [], [(64, false)], [], []]) (by kernel_rfl) (by kernel_rfl) rfl (by kernel_rfl) (by kernel_rfl) (ev_ixS e_GCell (kk := .i64) (xs := a1.Cells) (j := p1198) (by kernel_rfl) (by kernel_rfl) hz97 rfl (by intro h; cases h)) ?_
    refine zdRun (n := 1) (j := 17) (ts := [[]]) (acc' := [[], [], [(64, false)], [], [], [], [], [], [(184, false)], [], [], [], [], [(64, false)], [], [], []]) rfl (by kernel_rfl) (by kernel_rfl) (by kernel_rfl) ?_
    refine zdBool (d := 107) (op := (.eqA .true [(4, .int)] (.tmp 101) (.tmp 106))) (g := (some (96, true))) (j := 18) (t1 := []) (acc' := [[], [], [(64, false)], [], [], [], [], [], [(184, false)], [], [], [], [], [(64, false)], [], [], [], []]) (!(decide (z96.Rune = z97.Rune) && (decide (z96.Pen.Flags = z97.Pen.Flags) && (decide (z96.Pen.Fore = z97.Pen.Fore) && (decide (z96.Pen.Back = z97.Pen.Back) && true))))) (by kernel_rfl) (by kernel_rfl) rfl (by kernel_rfl) (by kernel_rfl) (by kernel_rfl) (fun hc => ?_) (fun hc => ?_)
    · replace hS := cond_t hc hS
      refine zdRun (n := 1) (j := 19) (ts := [[]]) (acc' := [[], [], [(64, false)], [], [], [], [], [], [(184, false)], [], [], [], [], [(64, false)], [], [], [], [], []]) rfl (by kernel_rfl) (by kernel_rfl) (by kernel_rfl) ?_
      refine zdEnd (by kernel_rfl) (by kernel_rfl) ?_
      refine zkSeq ?_
      refine zrCondT (by kernel_rfl) ?_
      refine zrSeq ?_
      refine zrReg ?_
      refine zlRun (n := 1) (j := 1) rfl (by kernel_rfl) ?_
      refine zlEnd (by kernel_rfl) ?_
      refine zkSeq ?_
      refine zrRet ?_
      refine zkBlkR ?_
      refine zkSeqR ?_
      refine zkNil ?_
      exact endQ hS hQ (finL_x (by intro h; cases h) (by show _ = _ ∧ _ = _; exact ⟨rfl, by kernel_rfl⟩))
    · replace hS := cond_f hc hS
      refine zdRun (n := 1) (j := 19) (ts := [[]]) (acc' := [[], [], [(64, false)], [], [], [], [], [], [(184, false)], [], [], [], [], [(64, false)], [], [], [], [], []]) rfl (by kernel_rfl) (by kernel_rfl) (by kernel_rfl) ?_
      refine zdEnd (by kernel_rfl) (by kernel_rfl) ?_
      refine zkSeq ?_
      refine zrCondF (by kernel_rfl) ?_
      refine zrSkip ?_
      refine zkBlk ?_
      refine zkSeq ?_
      refine zrReg ?_
      refine zlRun (n := 2) (j := 2) rfl (by kernel_rfl) ?_
      refine zlEnd (by kernel_rfl) ?_
      refine zkNil ?_
      exact endQ hS hQ (finL_n (by show keepSt _ _ _ _ = _; kernel_rfl))
  · replace hS := cond_f hc hS
    refine zdRun (n := 13) (j := 19) (ts := [[], [], [], [], [], [], [], [], [], [], [], [], []]) (acc' := [[], [], [(64, false)], [], [], [], [], [], [], [], [], [], [], [], [], [], [], [], []]) rfl (by kernel_rfl) (by kernel_rfl) (by kernel_rfl) ?_
    refine zdEnd (by kernel_rfl) (by kernel_rfl) ?_
    refine zkSeq ?_
    refine zrCondF (by kernel_rfl) ?_
    refine zrSkip ?_
    refine zkBlk ?_
    refine zkSeq ?_
    refine zrReg ?_
    refine zlRun (n := 2) (j := 2) rfl (by kernel_rfl) ?_
    refine zlEnd (by kernel_rfl) ?_
    refine zkNil ?_
    exact endQ hS hQ (finL_n (by show keepSt _ _ _ _ = _; kernel_rfl))
def f3_l1_l6_j7_J (a1 : GGrid) (a2 : Int) (a3 : Int) (a4 : Int) (a5 : Int) (a6 : Int) (a7 : GPen) (p1182 : Int) (p1183 : Int) (p1184 : Int) (p1185 : GGrid) (p1186 : List GGrid) (p1187 : Int) (p1188 : Int) (p1189 : Int) (p1190 : Bool) : St := ⟨(up (up (up (up (up (up (up (up (up (up (up (up (fun _ => .un) 88 (.d (.bool p1190))) 87 (.d (.int .i64 p1189))) 86 (.d (.int .i64 (a1.Cells.length : Int)))) 65 (.d (.int .i64 p1188))) 64 (.d (.int .i64 p1187))) 63 (.r (.msl 512 0 0 p1186.length))) 22 (.r (.ptr 184 0 0))) 20 (.d (.int .i64 p1184))) 18 (.d (.int .i64 p1183))) 16 (.d (.int .i64 p1182))) 7 (.r (.ptr 64 0 0))) 1 (.d (.int .i64 a2))), (up (up (up (hB fun _ => 0) 512 ⟨0, some (.own 24 3 (e_GGrid.cells p1186))⟩) 184 ⟨0, some (.box ((.d (.int .i64 p1185.Wide)) :: ((.d (.int .i64 p1185.High)) :: ((.d (.sl p1185.Cells.length (e_GCell.cells p1185.Cells))) :: []))))⟩) 64 ⟨0, some (.box ((.d (.int .i64 a1.Wide)) :: ((.d (.int .i64 a1.High)) :: ((.d (.sl a1.Cells.length (e_GCell.cells a1.Cells))) :: []))))⟩)⟩
noncomputable def f3_l1_l6_j7 (a1 : GGrid) (a2 : Int) (a3 : Int) (a4 : Int) (a5 : Int) (a6 : Int) (a7 : GPen) (p1182 : Int) (p1183 : Int) (p1184 : Int) (p1185 : GGrid) (p1186 : List GGrid) (p1187 : Int) (p1188 : Int) (p1189 : Int) (p1190 : Bool) : Option ((Int × Int × Int × GGrid × (List GGrid) × Int × Int × Int) ⊕ ((Int × Int × Int × (List GGrid) × Int × Int) ⊕ Bool)) := (bif p1190 then (f3_l1_l6_j8 a1 a2 a3 a4 a5 a6 a7 p1182 p1183 p1184 p1185 p1186 p1187 p1188 p1189) else (some (.inr (.inl (p1182, p1183, p1184, p1186, p1187, p1188)))))
theorem f3_l1_l6_j7_ok {base : Orc} {d : Nat} (hd : 8 ≤ d) (a1 : GGrid) (a2 : Int) (a3 : Int) (a4 : Int) (a5 : Int) (a6 : Int) (a7 : GPen) {r : (Int × Int × Int × GGrid × (List GGrid) × Int × Int × Int) ⊕ ((Int × Int × Int × (List GGrid) × Int × Int) ⊕ Bool)} {Q : PX → St → Prop} (hQ : ∀ e st', finL (f3_l1_l6_H a1 a2 a3 a4 a5 a6 a7) (f3_l1_l6_X a1 a2 a3 a4 a5 a6 a7) r e st' → Q e st') (p1182 : Int) (p1183 : Int) (p1184 : Int) (p1185 : GGrid) (p1186 : List GGrid) (p1187 : Int) (p1188 : Int) (p1189 : Int) (p1190 : Bool) (hS : f3_l1_l6_j7 a1 a2 a3 a4 a5 a6 a7 p1182 p1183 p1184 p1185 p1186 p1187 p1188 p1189 p1190 = some r) {st : St} (he : keepSt [1, 7, 16, 18, 20, 22, 63, 64, 65, 86, 87, 88] [(64, .id 64), (184, .id 184), (512, .id 512)] [] st = f3_l1_l6_j7_J a1 a2 a3 a4 a5 a6 a7 p1182 p1183 p1184 p1185 p1186 p1187 p1188 p1189 p1190) : ZR (lev codes base (d - 1)) Q c3_2 [] st := by
  refine zrKeep he ?_
  unfold f3_l1_l6_j7 at hS
  refine zrSeq ?_
  refine zrSplit 88 p1190 (by kernel_rfl) (fun hc => ?_) (fun hc => ?_)
  · replace hS := cond_t hc hS
    refine zrCondT (by kernel_rfl) ?_
    refine zrSkip ?_
    refine zkSeq ?_
    exact f3_l1_l6_j8_ok hd a1 a2 a3 a4 a5 a6 a7 hQ p1182 p1183 p1184 p1185 p1186 p1187 p1188 p1189 hS (by kernel_rfl)
  · replace hS := cond_f hc hS
    refine zrCondF (by kernel_rfl) ?_
    refine zrKeep (J := f3_l1_l6_e2_J a1 a2 a3 a4 a5 a6 a7 p1182 p1183 p1184 p1186 p1187 p1188) (by kernel_rfl) ?_
    refine zrExit ?_
    refine zkSeqX ?_
    refine zkNil ?_
    exact endQ hS hQ (finL_x (by intro h; cases h) (by show _ = _ ∧ _ = _; exact ⟨rfl, rfl⟩))
noncomputable def f3_l1_l6 (a1 : GGrid) (a2 : Int) (a3 : Int) (a4 : Int) (a5 : Int) (a6 : Int) (a7 : GPen) (x : Int × Int × Int × GGrid × (List GGrid) × Int × Int × Int) : Option ((Int × Int × Int × GGrid × (List GGrid) × Int × Int × Int) ⊕ ((Int × Int × Int × (List GGrid) × Int × Int) ⊕ Bool)) := (bif (decide (x.2.2.2.2.2.2.2 < (a1.Cells.length : Int))) then (f3_l1_l6_j7 a1 a2 a3 a4 a5 a6 a7 x.1 x.2.1 x.2.2.1 x.2.2.2.1 x.2.2.2.2.1 x.2.2.2.2.2.1 x.2.2.2.2.2.2.1 x.2.2.2.2.2.2.2 true) else (f3_l1_l6_j7 a1 a2 a3 a4 a5 a6 a7 x.1 x.2.1 x.2.2.1 x.2.2.2.1 x.2.2.2.2.1 x.2.2.2.2.2.1 x.2.2.2.2.2.2.1 x.2.2.2.2.2.2.2 false))
theorem f3_l1_l6_ok {base : Orc} {d : Nat} (hd : 8 ≤ d) (a1 : GGrid) (a2 : Int) (a3 : Int) (a4 : Int) (a5 : Int) (a6 : Int) (a7 : GPen) {r : (Int × Int × Int × GGrid × (List GGrid) × Int × Int × Int) ⊕ ((Int × Int × Int × (List GGrid) × Int × Int) ⊕ Bool)} {Q : PX → St → Prop} (hQ : ∀ e st', finL (f3_l1_l6_H a1 a2 a3 a4 a5 a6 a7) (f3_l1_l6_X a1 a2 a3 a4 a5 a6 a7) r e st' → Q e st') {x : Int × Int × Int × GGrid × (List GGrid) × Int × Int × Int} (hS : f3_l1_l6 a1 a2 a3 a4 a5 a6 a7 x = some r) {st : St} (he : f3_l1_l6_H a1 a2 a3 a4 a5 a6 a7 x st) : ZR (lev codes base (d - 1)) Q c3_3 [] st := by
  refine zrKeep he ?_
  unfold f3_l1_l6 at hS
  refine zrSeq ?_
  refine zrReg ?_
  refine zlBool (d := 88) (op := (.cmpI .lss (.tmp 87) (.tmp 86))) (g := none) (j := 1) (decide (x.2.2.2.2.2.2.2 < (a1.Cells.length : Int))) rfl (by kernel_rfl) (by kernel_rfl) (by kernel_rfl) (fun hc => ?_) (fun hc => ?_)
  · replace hS := cond_t hc hS
    refine zlEnd (by kernel_rfl) ?_
    refine zkSeq ?_
    exact f3_l1_l6_j7_ok hd a1 a2 a3 a4 a5 a6 a7 hQ x.1 x.2.1 x.2.2.1 x.2.2.2.1 x.2.2.2.2.1 x.2.2.2.2.2.1 x.2.2.2.2.2.2.1 x.2.2.2.2.2.2.2 true hS (by kernel_rfl)
  · replace hS := cond_f hc hS
    refine zlEnd (by kernel_rfl) ?_
    refine zkSeq ?_
    exact f3_l1_l6_j7_ok hd a1 a2 a3 a4 a5 a6 a7 hQ x.1 x.2.1 x.2.2.1 x.2.2.2.1 x.2.2.2.2.1 x.2.2.2.2.2.1 x.2.2.2.2.2.2.1 x.2.2.2.2.2.2.2 false hS (by kernel_rfl)
def f3_l1_j5_J (a1 : GGrid) (a2 : Int) (a3 : Int) (a4 : Int) (a5 : Int) (a6 : Int) (a7 : GPen) (p1031 : Int) (p1032 : Int) (p1033 : Int) (p1034 : GGrid) (p1035 : List GGrid) (p1036 : Int) (p1037 : Int) : St := ⟨(up (up (up (up (up (up (up (up (up (fun _ => .un) 65 (.d (.int .i64 p1037))) 64 (.d (.int .i64 p1036))) 63 (.r (.msl 512 0 0 p1035.length))) 22 (.r (.ptr 184 0 0))) 20 (.d (.int .i64 p1033))) 18 (.d (.int .i64 p1032))) 16 (.d (.int .i64 p1031))) 7 (.r (.ptr 64 0 0))) 1 (.d (.int .i64 a2))), (up (up (up (hB fun _ => 0) 512 ⟨0, some (.own 24 3 (e_GGrid.cells p1035))⟩) 184 ⟨0, some (.box ((.d (.int .i64 p1034.Wide)) :: ((.d (.int .i64 p1034.High)) :: ((.d (.sl p1034.Cells.length (e_GCell.cells p1034.Cells))) :: []))))⟩) 64 ⟨0, some (.box ((.d (.int .i64 a1.Wide)) :: ((.d (.int .i64 a1.High)) :: ((.d (.sl a1.Cells.length (e_GCell.cells a1.Cells))) :: []))))⟩)⟩
noncomputable def f3_l1_j5 (a1 : GGrid) (a2 : Int) (a3 : Int) (a4 : Int) (a5 : Int) (a6 : Int) (a7 : GPen) (p1031 : Int) (p1032 : Int) (p1033 : Int) (p1034 : GGrid) (p1035 : List GGrid) (p1036 : Int) (p1037 : Int) : Option ((Int × Int × Int × (List GGrid) × Int × Int) ⊕ (Unit ⊕ Bool)) := ((loopO (f3_l1_l6 a1 a2 a3 a4 a5 a6 a7) (p1031, p1032, p1033, p1034, p1035, p1036, p1037, 0)).bind fun z98 => (Sum.elim (fun z99 => (some (.inl (z99.1, z99.2.1, z99.2.2.1, z99.2.2.2.1, z99.2.2.2.2.1, (IntKind.i64.wrap (z99.2.2.2.2.2 + 1)))))) (fun z100 => (some (.inr (.inr z100)))) z98))
theorem f3_l1_j5_ok {base : Orc} {d : Nat} (hd : 8 ≤ d) (a1 : GGrid) (a2 : Int) (a3 : Int) (a4 : Int) (a5 : Int) (a6 : Int) (a7 : GPen) {r : (Int × Int × Int × (List GGrid) × Int × Int) ⊕ (Unit ⊕ Bool)} {Q : PX → St → Prop} (hQ : ∀ e st', finL (f3_l1_H a1 a2 a3 a4 a5 a6 a7) (f3_l1_X a1 a2 a3 a4 a5 a6 a7) r e st' → Q e st') (p1031 : Int) (p1032 : Int) (p1033 : Int) (p1034 : GGrid) (p1035 : List GGrid) (p1036 : Int) (p1037 : Int) (hS : f3_l1_j5 a1 a2 a3 a4 a5 a6 a7 p1031 p1032 p1033 p1034 p1035 p1036 p1037 = some r) {st : St} (he : keepSt [1, 7, 16, 18, 20, 22, 63, 64, 65] [(64, .id 64), (184, .id 184), (512, .id 512)] [] st = f3_l1_j5_J a1 a2 a3 a4 a5 a6 a7 p1031 p1032 p1033 p1034 p1035 p1036 p1037) : ZR (lev codes base (d - 1)) Q c3_4 [.blk 1, .seq c3_5] st := by
  refine zrKeep he ?_
  unfold f3_l1_j5 at hS
  refine zrSeq ?_
  refine zrReg ?_
  refine zlRun (n := 4) (j := 4) rfl (by kernel_rfl) ?_
  refine zlEnd (by kernel_rfl) ?_
  refine zkSeq ?_
  refine zrBlk ?_
  refine bindE hS (fun z98 hz98 hS => ?_)
  refine zrLoop (f3_l1_l6_H a1 a2 a3 a4 a5 a6 a7) (f3_l1_l6_X a1 a2 a3 a4 a5 a6 a7) (fun x st r Q h0 hS hQ => f3_l1_l6_ok hd a1 a2 a3 a4 a5 a6 a7 hQ hS h0) (x := (p1031, p1032, p1033, p1034, p1035, p1036, p1037, 0)) (z := z98) (by show keepSt _ _ _ _ = _; kernel_rfl) hz98 ?_
  rcases z98 with z99 | z100
  · replace hS := (show _ = _ from hS)
    simp only [Sum.elim_inl] at hS
    intro e st' _ hX
    obtain ⟨rfl, rfl⟩ : _ ∧ _ := hX
    refine zkBlkX ?_
    refine zkBlk ?_
    refine zkSeq ?_
    refine zrReg ?_
    refine zlRun (n := 2) (j := 2) rfl (by kernel_rfl) ?_
    refine zlEnd (by kernel_rfl) ?_
    refine zkNil ?_
    exact endQ hS hQ (finL_n (by show keepSt _ _ _ _ = _; kernel_rfl))
  · simp only [Sum.elim_inr] at hS
    intro e st' _ hX
    obtain ⟨rfl, hX⟩ : _ ∧ _ := hX
    refine zkBlkR ?_
    refine zkBlkR ?_
    refine zkSeqR ?_
    refine zkNil ?_
    exact endQ hS hQ (finL_x (by intro h; cases h) (by show _ = _ ∧ _ = _; exact ⟨rfl, hX⟩))
def f3_l1_j4_J (a1 : GGrid) (a2 : Int) (a3 : Int) (a4 : Int) (a5 : Int) (a6 : Int) (a7 : GPen) (p1016 : Int) (p1017 : Int) (p1018 : Int) (p1019 : GGrid) (p1020 : List GGrid) (p1021 : Int) (p1022 : Int) : St := ⟨(up (up (up (up (up (up (up (up (up (fun _ => .un) 65 (.d (.int .i64 p1022))) 64 (.d (.int .i64 p1021))) 63 (.r (.msl 512 0 0 p1020.length))) 22 (.r (.ptr 184 0 0))) 20 (.d (.int .i64 p1018))) 18 (.d (.int .i64 p1017))) 16 (.d (.int .i64 p1016))) 7 (.r (.ptr 64 0 0))) 1 (.d (.int .i64 a2))), (up (up (up (hB fun _ => 0) 512 ⟨0, some (.own 24 3 (e_GGrid.cells p1020))⟩) 184 ⟨0, some (.box ((.d (.int .i64 p1019.Wide)) :: ((.d (.int .i64 p1019.High)) :: ((.d (.sl p1019.Cells.length (e_GCell.cells p1019.Cells))) :: []))))⟩) 64 ⟨0, some (.box ((.d (.int .i64 a1.Wide)) :: ((.d (.int .i64 a1.High)) :: ((.d (.sl a1.Cells.length (e_GCell.cells a1.Cells))) :: []))))⟩)⟩
noncomputable def f3_l1_j4 (a1 : GGrid) (a2 : Int) (a3 : Int) (a4 : Int) (a5 : Int) (a6 : Int) (a7 : GPen) (p1016 : Int) (p1017 : Int) (p1018 : Int) (p1019 : GGrid) (p1020 : List GGrid) (p1021 : Int) (p1022 : Int) : Option ((Int × Int × Int × (List GGrid) × Int × Int) ⊕ (Unit ⊕ Bool)) := (bif (!decide ((p1019.Cells.length : Int) = (a1.Cells.length : Int))) then (some (.inr (.inr false))) else (f3_l1_j5 a1 a2 a3 a4 a5 a6 a7 p1016 p1017 p1018 p1019 p1020 p1021 p1022))
theorem f3_l1_j4_ok {base : Orc} {d : Nat} (hd : 8 ≤ d) (a1 : GGrid) (a2 : Int) (a3 : Int) (a4 : Int) (a5 : Int) (a6 : Int) (a7 : GPen) {r : (Int × Int × Int × (List GGrid) × Int × Int) ⊕ (Unit ⊕ Bool)} {Q : PX → St → Prop} (hQ : ∀ e st', finL (f3_l1_H a1 a2 a3 a4 a5 a6 a7) (f3_l1_X a1 a2 a3 a4 a5 a6 a7) r e st' → Q e st') (p1016 : Int) (p1017 : Int) (p1018 : Int) (p1019 : GGrid) (p1020 : List GGrid) (p1021 : Int) (p1022 : Int) (hS : f3_l1_j4 a1 a2 a3 a4 a5 a6 a7 p1016 p1017 p1018 p1019 p1020 p1021 p1022 = some r) {st : St} (he : keepSt [1, 7, 16, 18, 20, 22, 63, 64, 65] [(64, .id 64), (184, .id 184), (512, .id 512)] [] st = f3_l1_j4_J a1 a2 a3 a4 a5 a6 a7 p1016 p1017 p1018 p1019 p1020 p1021 p1022) : ZR (lev codes base (d - 1)) Q c3_6 [.blk 1, .seq c3_5] st := by
  refine zrKeep he ?_
  unfold f3_l1_j4 at hS
  refine zrSeq ?_
  refine zrSeq ?_
  refine zrReg ?_
  refine zlRun (n := 6) (j := 6) rfl (by kernel_rfl) ?_
  refine zlBool (d := 83) (op := (.cmpI .neq (.tmp 79) (.tmp 82))) (g := none) (j := 7) (!decide ((p1019.Cells.length : Int) = (a1.Cells.length : Int))) rfl (by kernel_rfl) (by kernel_rfl) (by kernel_rfl) (fun hc => ?_) (fun hc => ?_)
  · replace hS := cond_t hc hS
    refine zlEnd (by kernel_rfl) ?_
    refine zkSeq ?_
    refine zrCondT (by kernel_rfl) ?_
    refine zrSeq ?_
    refine zrReg ?_
    refine zlRun (n := 1) (j := 1) rfl (by kernel_rfl) ?_
    refine zlEnd (by kernel_rfl) ?_
    refine zkSeq ?_
    refine zrRet ?_
    refine zkSeqR ?_
    refine zkBlkR ?_
    refine zkSeqR ?_
    refine zkNil ?_
    exact endQ hS hQ (finL_x (by intro h; cases h) (by show _ = _ ∧ _ = _; exact ⟨rfl, by kernel_rfl⟩))
  · replace hS := cond_f hc hS
    refine zlEnd (by kernel_rfl) ?_
    refine zkSeq ?_
    refine zrCondF (by kernel_rfl) ?_
    refine zrSkip ?_
    refine zkSeq ?_
    exact f3_l1_j5_ok hd a1 a2 a3 a4 a5 a6 a7 hQ p1016 p1017 p1018 p1019 p1020 p1021 p1022 hS (by kernel_rfl)
def f3_l1_j3_J (a1 : GGrid) (a2 : Int) (a3 : Int) (a4 : Int) (a5 : Int) (a6 : Int) (a7 : GPen) (p1002 : Int) (p1003 : Int) (p1004 : Int) (p1005 : List GGrid) (p1006 : Int) (p1007 : Int) : St := ⟨(up (up (up (up (up (up (up (up (fun _ => .un) 65 (.d (.int .i64 p1007))) 64 (.d (.int .i64 p1006))) 63 (.r (.msl 512 0 0 p1005.length))) 20 (.d (.int .i64 p1004))) 18 (.d (.int .i64 p1003))) 16 (.d (.int .i64 p1002))) 7 (.r (.ptr 64 0 0))) 1 (.d (.int .i64 a2))), (up (up (hB fun _ => 0) 512 ⟨0, some (.own 24 3 (e_GGrid.cells p1005))⟩) 64 ⟨0, some (.box ((.d (.int .i64 a1.Wide)) :: ((.d (.int .i64 a1.High)) :: ((.d (.sl a1.Cells.length (e_GCell.cells a1.Cells))) :: []))))⟩)⟩
noncomputable def f3_l1_j3 (a1 : GGrid) (a2 : Int) (a3 : Int) (a4 : Int) (a5 : Int) (a6 : Int) (a7 : GPen) (p1002 : Int) (p1003 : Int) (p1004 : Int) (p1005 : List GGrid) (p1006 : Int) (p1007 : Int) : Option ((Int × Int × Int × (List GGrid) × Int × Int) ⊕ (Unit ⊕ Bool)) := ((inR p1007 p1005.length).bind fun m83 => ((p1005[m83]?).bind fun z84 => ((inR p1007 3).bind fun m101 => (bif (!decide ((([p1002, p1003, p1004] : List Int).getD m101 0) = 0)) then (some (.inl (p1002, p1003, p1004, p1005, p1006, (IntKind.i64.wrap (p1007 + 1))))) else (f3_l1_j4 a1 a2 a3 a4 a5 a6 a7 p1002 p1003 p1004 z84 p1005 p1006 p1007)))))
theorem f3_l1_j3_ok {base : Orc} {d : Nat} (hd : 8 ≤ d) (a1 : GGrid) (a2 : Int) (a3 : Int) (a4 : Int) (a5 : Int) (a6 : Int) (a7 : GPen) {r : (Int × Int × Int × (List GGrid) × Int × Int) ⊕ (Unit ⊕ Bool)} {Q : PX → St → Prop} (hQ : ∀ e st', finL (f3_l1_H a1 a2 a3 a4 a5 a6 a7) (f3_l1_X a1 a2 a3 a4 a5 a6 a7) r e st' → Q e st') (p1002 : Int) (p1003 : Int) (p1004 : Int) (p1005 : List GGrid) (p1006 : Int) (p1007 : Int) (hS : f3_l1_j3 a1 a2 a3 a4 a5 a6 a7 p1002 p1003 p1004 p1005 p1006 p1007 = some r) {st : St} (he : keepSt [1, 7, 16, 18, 20, 63, 64, 65] [(64, .id 64), (512, .id 512)] [] st = f3_l1_j3_J a1 a2 a3 a4 a5 a6 a7 p1002 p1003 p1004 p1005 p1006 p1007) : ZR (lev codes base (d - 1)) Q c3_7 [] st := by
  refine zrKeep he ?_
  unfold f3_l1_j3 at hS
  refine zrSeq ?_
  refine zrBlk ?_
  refine zrSeq ?_
  refine zrReg ?_
  refine zlRun (n := 1) (j := 1) rfl (by kernel_rfl) ?_
  refine bindE hS (fun m83 hm83 hS => ?_)
  refine zlOp (d := some 68) (op := (.ixS 24 3 (.tmp 63) (.tmp 65))) (g := none) (v := (.r (.ptr 512 0 ((0 + m83) * 3)))) (ups := []) (j := 2) rfl (by kernel_rfl) (by kernel_rfl) (ev_ixM (kk := .i64) (b := 512) (g := 0) (l := 0) (n := p1005.length) (j := p1007) (cs := e_GGrid.cells p1005) (by kernel_rfl) (by kernel_rfl) (by kernel_rfl) hm83) ?_
  refine bindE hS (fun z84 hz84 hS => ?_)
  refine zlOp (d := some 69) (op := (.load .true 3 (.tmp 68))) (g := none) (v := (.agg ((.d (.int .i64 z84.Wide)) :: ((.d (.int .i64 z84.High)) :: ((.d (.sl z84.Cells.length (e_GCell.cells z84.Cells))) :: []))))) (ups := []) (j := 3) rfl (by kernel_rfl) (by kernel_rfl) (ev_loadM e_GGrid (b := 512) (g := 0) (o := (0 + m83) * 3) (e := 24) (k := 3) (m := m83) (fo := 0) (xs := p1005) (by kernel_rfl) (by kernel_rfl) (by rw [Nat.zero_add]; rfl) hz84 (by kernel_rfl) (by kernel_rfl) (by kernel_rfl)) ?_
  refine zlRun (n := 3) (j := 6) rfl (by kernel_rfl) ?_
  refine zlEnd (by kernel_rfl) ?_
  refine zkSeq ?_
  refine zrSeq ?_
  refine zrSeq ?_
  refine zrReg ?_
  refine zlRun (n := 5) (j := 5) rfl (by kernel_rfl) ?_
  refine bindE hS (fun m101 hm101 hS => ?_)
  refine zlOp (d := some 75) (op := (.ixV .false 3 1 (.tmp 73) (.tmp 74))) (g := none) (v := (.d (.int .i64 (([p1002, p1003, p1004] : List Int).getD m101 0)))) (ups := []) (j := 6) rfl (by kernel_rfl) (by kernel_rfl) (ev_ixV (eInt .i64) (fun i => ([p1002, p1003, p1004] : List Int).getD i 0) (kk := .i64) (j := p1007) (by kernel_rfl) (by kernel_rfl) hm101 rfl (by kernel_rfl) (by kernel_rfl)) ?_
  refine zlBool (d := 76) (op := (.cmpI .neq (.tmp 75) (.const (.int .i64 0)))) (g := none) (j := 7) (!decide ((([p1002, p1003, p1004] : List Int).getD m101 0) = 0)) rfl (by kernel_rfl) (by kernel_rfl) (by kernel_rfl) (fun hc => ?_) (fun hc => ?_)
  · replace hS := cond_t hc hS
    refine zlEnd (by kernel_rfl) ?_
    refine zkSeq ?_
    refine zrCondT (by kernel_rfl) ?_
    refine zrExit ?_
    refine zkSeqX ?_
    refine zkBlkX ?_
    refine zkSeq ?_
    refine zrReg ?_
    refine zlRun (n := 2) (j := 2) rfl (by kernel_rfl) ?_
    refine zlEnd (by kernel_rfl) ?_
    refine zkNil ?_
    exact endQ hS hQ (finL_n (by show keepSt _ _ _ _ = _; kernel_rfl))
  · replace hS := cond_f hc hS
    refine zlEnd (by kernel_rfl) ?_
    refine zkSeq ?_
    refine zrCondF (by kernel_rfl) ?_
    refine zrSkip ?_
    refine zkSeq ?_
    exact f3_l1_j4_ok hd a1 a2 a3 a4 a5 a6 a7 hQ p1002 p1003 p1004 z84 p1005 p1006 p1007 hS (by kernel_rfl)
def f3_l1_j2_J (a1 : GGrid) (a2 : Int) (a3 : Int) (a4 : Int) (a5 : Int) (a6 : Int) (a7 : GPen) (p995 : Int) (p996 : Int) (p997 : Int) (p998 : List GGrid) (p999 : Int) (p1000 : Int) (p1001 : Bool) : St := ⟨(up (up (up (up (up (up (up (up (up (fun _ => .un) 66 (.d (.bool p1001))) 65 (.d (.int .i64 p1000))) 64 (.d (.int .i64 p999))) 63 (.r (.msl 512 0 0 p998.length))) 20 (.d (.int .i64 p997))) 18 (.d (.int .i64 p996))) 16 (.d (.int .i64 p995))) 7 (.r (.ptr 64 0 0))) 1 (.d (.int .i64 a2))), (up (up (hB fun _ => 0) 512 ⟨0, some (.own 24 3 (e_GGrid.cells p998))⟩) 64 ⟨0, some (.box ((.d (.int .i64 a1.Wide)) :: ((.d (.int .i64 a1.High)) :: ((.d (.sl a1.Cells.length (e_GCell.cells a1.Cells))) :: []))))⟩)⟩
noncomputable def f3_l1_j2 (a1 : GGrid) (a2 : Int) (a3 : Int) (a4 : Int) (a5 : Int) (a6 : Int) (a7 : GPen) (p995 : Int) (p996 : Int) (p997 : Int) (p998 : List GGrid) (p999 : Int) (p1000 : Int) (p1001 : Bool) : Option ((Int × Int × Int × (List GGrid) × Int × Int) ⊕ (Unit ⊕ Bool)) := (bif p1001 then (f3_l1_j3 a1 a2 a3 a4 a5 a6 a7 p995 p996 p997 p998 p999 p1000) else (some (.inr (.inl ()))))
theorem f3_l1_j2_ok {base : Orc} {d : Nat} (hd : 8 ≤ d) (a1 : GGrid) (a2 : Int) (a3 : Int) (a4 : Int) (a5 : Int) (a6 : Int) (a7 : GPen) {r : (Int × Int × Int × (List GGrid) × Int × Int) ⊕ (Unit ⊕ Bool)} {Q : PX → St → Prop} (hQ : ∀ e st', finL (f3_l1_H a1 a2 a3 a4 a5 a6 a7) (f3_l1_X a1 a2 a3 a4 a5 a6 a7) r e st' → Q e st') (p995 : Int) (p996 : Int) (p997 : Int) (p998 : List GGrid) (p999 : Int) (p1000 : Int) (p1001 : Bool) (hS : f3_l1_j2 a1 a2 a3 a4 a5 a6 a7 p995 p996 p997 p998 p999 p1000 p1001 = some r) {st : St} (he : keepSt [1, 7, 16, 18, 20, 63, 64, 65, 66] [(64, .id 64), (512, .id 512)] [] st = f3_l1_j2_J a1 a2 a3 a4 a5 a6 a7 p995 p996 p997 p998 p999 p1000 p1001) : ZR (lev codes base (d - 1)) Q c3_8 [] st := by
  refine zrKeep he ?_
  unfold f3_l1_j2 at hS
  refine zrSeq ?_
  refine zrSplit 66 p1001 (by kernel_rfl) (fun hc => ?_) (fun hc => ?_)
  · replace hS := cond_t hc hS
    refine zrCondT (by kernel_rfl) ?_
    refine zrSkip ?_
    refine zkSeq ?_
    exact f3_l1_j3_ok hd a1 a2 a3 a4 a5 a6 a7 hQ p995 p996 p997 p998 p999 p1000 hS (by kernel_rfl)
  · replace hS := cond_f hc hS
    refine zrCondF (by kernel_rfl) ?_
    refine zrKeep (J := f3_l1_e0_J a1 a2 a3 a4 a5 a6 a7) (by kernel_rfl) ?_
    refine zrExit ?_
    refine zkSeqX ?_
    refine zkNil ?_
    exact endQ hS hQ (finL_x (by intro h; cases h) (by show _ = _ ∧ _ = _; exact ⟨rfl, rfl⟩))
noncomputable def f3_l1 (a1 : GGrid) (a2 : Int) (a3 : Int) (a4 : Int) (a5 : Int) (a6 : Int) (a7 : GPen) (x : Int × Int × Int × (List GGrid) × Int × Int) : Option ((Int × Int × Int × (List GGrid) × Int × Int) ⊕ (Unit ⊕ Bool)) := (bif (decide (x.2.2.2.2.2 < x.2.2.2.2.1)) then (f3_l1_j2 a1 a2 a3 a4 a5 a6 a7 x.1 x.2.1 x.2.2.1 x.2.2.2.1 x.2.2.2.2.1 x.2.2.2.2.2 true) else (f3_l1_j2 a1 a2 a3 a4 a5 a6 a7 x.1 x.2.1 x.2.2.1 x.2.2.2.1 x.2.2.2.2.1 x.2.2.2.2.2 false))
theorem f3_l1_ok {base : Orc} {d : Nat} (hd : 8 ≤ d) (a1 : GGrid) (a2 : Int) (a3 : Int) (a4 : Int) (a5 : Int) (a6 : Int) (a7 : GPen) {r : (Int × Int × Int × (List GGrid) × Int × Int) ⊕ (Unit ⊕ Bool)} {Q : PX → St → Prop} (hQ : ∀ e st', finL (f3_l1_H a1 a2 a3 a4 a5 a6 a7) (f3_l1_X a1 a2 a3 a4 a5 a6 a7) r e st' → Q e st') {x : Int × Int × Int × (List GGrid) × Int × Int} (hS : f3_l1 a1 a2 a3 a4 a5 a6 a7 x = some r) {st : St} (he : f3_l1_H a1 a2 a3 a4 a5 a6 a7 x st) : ZR (lev codes base (d - 1)) Q c3_9 [] st := by
  refine zrKeep he ?_
  unfold f3_l1 at hS
  refine zrSeq ?_
  refine zrReg ?_
  refine zlBool (d := 66) (op := (.cmpI .lss (.tmp 65) (.tmp 64))) (g := none) (j := 1) (decide (x.2.2.2.2.2 < x.2.2.2.2.1)) rfl (by kernel_rfl) (by kernel_rfl) (by kernel_rfl) (fun hc => ?_) (fun hc => ?_)
  · replace hS := cond_t hc hS
    refine zlEnd (by kernel_rfl) ?_
    refine zkSeq ?_
    exact f3_l1_j2_ok hd a1 a2 a3 a4 a5 a6 a7 hQ x.1 x.2.1 x.2.2.1 x.2.2.2.1 x.2.2.2.2.1 x.2.2.2.2.2 true hS (by kernel_rfl)
  · replace hS := cond_f hc hS
    refine zlEnd (by kernel_rfl) ?_
    refine zkSeq ?_
    exact f3_l1_j2_ok hd a1 a2 a3 a4 a5 a6 a7 hQ x.1 x.2.1 x.2.2.1 x.2.2.2.1 x.2.2.2.2.1 x.2.2.2.2.2 false hS (by kernel_rfl)
def f3_j0_J (a1 : GGrid) (a2 : Int) (a3 : Int) (a4 : Int) (a5 : Int) (a6 : Int) (a7 : GPen) : St := ⟨(up (up (up (up (up (up (up (fun _ => .un) 13 (.r (.ptr 112 0 0))) 7 (.r (.ptr 64 0 0))) 5 (.d (.int .i64 a6))) 4 (.d (.int .i64 a5))) 3 (.d (.int .i64 a4))) 2 (.d (.int .i64 a3))) 1 (.d (.int .i64 a2))), (up (up (hB fun _ => 0) 112 ⟨0, some (.box ((.d (.int .i64 a7.Flags)) :: ((.d (.int .i64 a7.Fore)) :: ((.d (.int .i64 a7.Back)) :: []))))⟩) 64 ⟨0, some (.box ((.d (.int .i64 a1.Wide)) :: ((.d (.int .i64 a1.High)) :: ((.d (.sl a1.Cells.length (e_GCell.cells a1.Cells))) :: []))))⟩)⟩
noncomputable def f3_j0 (a1 : GGrid) (a2 : Int) (a3 : Int) (a4 : Int) (a5 : Int) (a6 : Int) (a7 : GPen) : Option (Bool) := ((f7 a1 a2 a3 a6 a7).bind fun z45 => ((f8 a1 a2 a3 a4 a7).bind fun z46 => ((f9 a1 a2 a3 a4 a5 a7).bind fun z47 => ((loopO (f3_l1 a1 a2 a3 a4 a5 a6 a7) (z45.2.2.2, z46.2.2.2, z47.2.2.2, [(GGrid.mk z45.1 z45.2.1 z45.2.2.1), (GGrid.mk z46.1 z46.2.1 z46.2.2.1), (GGrid.mk z47.1 z47.2.1 z47.2.2.1)], ((([(GGrid.mk z45.1 z45.2.1 z45.2.2.1), (GGrid.mk z46.1 z46.2.1 z46.2.2.1), (GGrid.mk z47.1 z47.2.1 z47.2.2.1)] : List GGrid).length) : Int), 0)).bind fun z102 => (Sum.elim (fun z103 => (some true)) (fun z104 => (some z104)) z102)))))
theorem f3_j0_ok {base : Orc} {d : Nat} (hd : 8 ≤ d) (a1 : GGrid) (a2 : Int) (a3 : Int) (a4 : Int) (a5 : Int) (a6 : Int) (a7 : GPen) {r : Bool} {Q : PX → St → Prop} (hQ : ∀ e st', f3_Q r e st' → Q e st')  (hS : f3_j0 a1 a2 a3 a4 a5 a6 a7 = some r) {st : St} (he : keepSt [1, 2, 3, 4, 5, 7, 13] [(64, .id 64), (112, .id 112)] [] st = f3_j0_J a1 a2 a3 a4 a5 a6 a7) : ZR (lev codes base (d - 1)) Q c3_10 [] st := by
  refine zrKeep he ?_
  unfold f3_j0 at hS
  refine zrSeq ?_
  refine zrReg ?_
  refine zlRun (n := 5) (j := 5) rfl (by kernel_rfl) ?_
  refine bindE hS (fun z45 hz45 hS => ?_)
  refine zlOp (d := some 38) (op := (.callf 7 [(.tmp 33), (.tmp 34), (.tmp 35), (.tmp 36), (.tmp 37)])) (g := none) (v := (.tup [(.agg ((.d (.int .i64 z45.1)) :: ((.d (.int .i64 z45.2.1)) :: ((.r (.msl 312 1 0 z45.2.2.1.length)) :: [])))), (.d (.int .i64 z45.2.2.2))])) (ups := [(312, ⟨1, some (.own 36 4 (e_GCell.cells z45.2.2.1))⟩)]) (j := 6) rfl (by kernel_rfl) (by kernel_rfl) (ev_callF (args := [(.agg ((.d (.int .i64 a1.Wide)) :: ((.d (.int .i64 a1.High)) :: ((.d (.sl a1.Cells.length (e_GCell.cells a1.Cells))) :: [])))), (.d (.int .i64 a2)), (.d (.int .i64 a3)), (.d (.int .i64 a6)), (.agg ((.d (.int .i64 a7.Flags)) :: ((.d (.int .i64 a7.Fore)) :: ((.d (.int .i64 a7.Back)) :: []))))]) (args' := [(.agg ((.d (.int .i64 a1.Wide)) :: ((.d (.int .i64 a1.High)) :: ((.d (.sl a1.Cells.length (e_GCell.cells a1.Cells))) :: [])))), (.d (.int .i64 a2)), (.d (.int .i64 a3)), (.d (.int .i64 a6)), (.agg ((.d (.int .i64 a7.Flags)) :: ((.d (.int .i64 a7.Fore)) :: ((.d (.int .i64 a7.Back)) :: []))))]) (l := [(.agg ((.d (.int .i64 a1.Wide)) :: ((.d (.int .i64 a1.High)) :: ((.d (.sl a1.Cells.length (e_GCell.cells a1.Cells))) :: [])))), (.d (.int .i64 a2)), (.d (.int .i64 a3)), (.d (.int .i64 a6)), (.agg ((.d (.int .i64 a7.Flags)) :: ((.d (.int .i64 a7.Fore)) :: ((.d (.int .i64 a7.Back)) :: []))))]) (refs := []) (r := (.tup [(.agg ((.d (.int .i64 z45.1)) :: ((.d (.int .i64 z45.2.1)) :: ((.r (.own 0 36 4 z45.2.2.1.length (e_GCell.cells z45.2.2.1))) :: [])))), (.d (.int .i64 z45.2.2.2))])) (v := (.tup [(.agg ((.d (.int .i64 z45.1)) :: ((.d (.int .i64 z45.2.1)) :: ((.r (.msl 312 1 0 z45.2.2.1.length)) :: [])))), (.d (.int .i64 z45.2.2.2))])) (ups' := [(312, ⟨1, some (.own 36 4 (e_GCell.cells z45.2.2.1))⟩)]) (by kernel_rfl) (by kernel_rfl) (by kernel_rfl) (fz_cons rfl (fz_cons rfl (fz_cons rfl (fz_cons rfl (fz_cons rfl fz_nil))))) (by kernel_rfl) (f7_ok base (d - 1) (dpt hd rfl) a1 a2 a3 a6 a7 z45 hz45) (by kernel_rfl) (by kernel_rfl) (by kernel_rfl) (by kernel_rfl)) ?_
  refine zlRun (n := 6) (j := 12) rfl (by kernel_rfl) ?_
  refine zlEnd (by kernel_rfl) ?_
  refine zkSeq ?_
  refine zrSeq ?_
  refine zrReg ?_
  refine zlRun (n := 5) (j := 5) rfl (by kernel_rfl) ?_
  refine bindE hS (fun z46 hz46 hS => ?_)
  refine zlOp (d := some 47) (op := (.callf 8 [(.tmp 42), (.tmp 43), (.tmp 44), (.tmp 45), (.tmp 46)])) (g := none) (v := (.tup [(.agg ((.d (.int .i64 z46.1)) :: ((.d (.int .i64 z46.2.1)) :: ((.r (.msl 384 1 0 z46.2.2.1.length)) :: [])))), (.d (.int .i64 z46.2.2.2))])) (ups := [(384, ⟨1, some (.own 36 4 (e_GCell.cells z46.2.2.1))⟩)]) (j := 6) rfl (by kernel_rfl) (by kernel_rfl) (ev_callF (args := [(.agg ((.d (.int .i64 a1.Wide)) :: ((.d (.int .i64 a1.High)) :: ((.d (.sl a1.Cells.length (e_GCell.cells a1.Cells))) :: [])))), (.d (.int .i64 a2)), (.d (.int .i64 a3)), (.d (.int .i64 a4)), (.agg ((.d (.int .i64 a7.Flags)) :: ((.d (.int .i64 a7.Fore)) :: ((.d (.int .i64 a7.Back)) :: []))))]) (args' := [(.agg ((.d (.int .i64 a1.Wide)) :: ((.d (.int .i64 a1.High)) :: ((.d (.sl a1.Cells.length (e_GCell.cells a1.Cells))) :: [])))), (.d (.int .i64 a2)), (.d (.int .i64 a3)), (.d (.int .i64 a4)), (.agg ((.d (.int .i64 a7.Flags)) :: ((.d (.int .i64 a7.Fore)) :: ((.d (.int .i64 a7.Back)) :: []))))]) (l := [(.agg ((.d (.int .i64 a1.Wide)) :: ((.d (.int .i64 a1.High)) :: ((.d (.sl a1.Cells.length (e_GCell.cells a1.Cells))) :: [])))), (.d (.int .i64 a2)), (.d (.int .i64 a3)), (.d (.int .i64 a4)), (.agg ((.d (.int .i64 a7.Flags)) :: ((.d (.int .i64 a7.Fore)) :: ((.d (.int .i64 a7.Back)) :: []))))]) (refs := []) (r := (.tup [(.agg ((.d (.int .i64 z46.1)) :: ((.d (.int .i64 z46.2.1)) :: ((.r (.own 0 36 4 z46.2.2.1.length (e_GCell.cells z46.2.2.1))) :: [])))), (.d (.int .i64 z46.2.2.2))])) (v := (.tup [(.agg ((.d (.int .i64 z46.1)) :: ((.d (.int .i64 z46.2.1)) :: ((.r (.msl 384 1 0 z46.2.2.1.length)) :: [])))), (.d (.int .i64 z46.2.2.2))])) (ups' := [(384, ⟨1, some (.own 36 4 (e_GCell.cells z46.2.2.1))⟩)]) (by kernel_rfl) (by kernel_rfl) (by kernel_rfl) (fz_cons rfl (fz_cons rfl (fz_cons rfl (fz_cons rfl (fz_cons rfl fz_nil))))) (by kernel_rfl) (f8_ok base (d - 1) (dpt hd rfl) a1 a2 a3 a4 a7 z46 hz46) (by kernel_rfl) (by kernel_rfl) (by kernel_rfl) (by kernel_rfl)) ?_
  refine zlRun (n := 6) (j := 12) rfl (by kernel_rfl) ?_
  refine zlEnd (by kernel_rfl) ?_
  refine zkSeq ?_
  refine zrSeq ?_
  refine zrReg ?_
  refine zlRun (n := 6) (j := 6) rfl (by kernel_rfl) ?_
  refine bindE hS (fun z47 hz47 hS => ?_)
  refine zlOp (d := some 57) (op := (.callf 9 [(.tmp 51), (.tmp 52), (.tmp 53), (.tmp 54), (.tmp 55), (.tmp 56)])) (g := none) (v := (.tup [(.agg ((.d (.int .i64 z47.1)) :: ((.d (.int .i64 z47.2.1)) :: ((.r (.msl 464 1 0 z47.2.2.1.length)) :: [])))), (.d (.int .i64 z47.2.2.2))])) (ups := [(464, ⟨1, some (.own 36 4 (e_GCell.cells z47.2.2.1))⟩)]) (j := 7) rfl (by kernel_rfl) (by kernel_rfl) (ev_callF (args := [(.agg ((.d (.int .i64 a1.Wide)) :: ((.d (.int .i64 a1.High)) :: ((.d (.sl a1.Cells.length (e_GCell.cells a1.Cells))) :: [])))), (.d (.int .i64 a2)), (.d (.int .i64 a3)), (.d (.int .i64 a4)), (.d (.int .i64 a5)), (.agg ((.d (.int .i64 a7.Flags)) :: ((.d (.int .i64 a7.Fore)) :: ((.d (.int .i64 a7.Back)) :: []))))]) (args' := [(.agg ((.d (.int .i64 a1.Wide)) :: ((.d (.int .i64 a1.High)) :: ((.d (.sl a1.Cells.length (e_GCell.cells a1.Cells))) :: [])))), (.d (.int .i64 a2)), (.d (.int .i64 a3)), (.d (.int .i64 a4)), (.d (.int .i64 a5)), (.agg ((.d (.int .i64 a7.Flags)) :: ((.d (.int .i64 a7.Fore)) :: ((.d (.int .i64 a7.Back)) :: []))))]) (l := [(.agg ((.d (.int .i64 a1.Wide)) :: ((.d (.int .i64 a1.High)) :: ((.d (.sl a1.Cells.length (e_GCell.cells a1.Cells))) :: [])))), (.d (.int .i64 a2)), (.d (.int .i64 a3)), (.d (.int .i64 a4)), (.d (.int .i64 a5)), (.agg ((.d (.int .i64 a7.Flags)) :: ((.d (.int .i64 a7.Fore)) :: ((.d (.int .i64 a7.Back)) :: []))))]) (refs := []) (r := (.tup [(.agg ((.d (.int .i64 z47.1)) :: ((.d (.int .i64 z47.2.1)) :: ((.r (.own 0 36 4 z47.2.2.1.length (e_GCell.cells z47.2.2.1))) :: [])))), (.d (.int .i64 z47.2.2.2))])) (v := (.tup [(.agg ((.d (.int .i64 z47.1)) :: ((.d (.int .i64 z47.2.1)) :: ((.r (.msl 464 1 0 z47.2.2.1.length)) :: [])))), (.d (.int .i64 z47.2.2.2))])) (ups' := [(464, ⟨1, some (.own 36 4 (e_GCell.cells z47.2.2.1))⟩)]) (by kernel_rfl) (by kernel_rfl) (by kernel_rfl) (fz_cons rfl (fz_cons rfl (fz_cons rfl (fz_cons rfl (fz_cons rfl (fz_cons rfl fz_nil)))))) (by kernel_rfl) (f9_ok base (d - 1) (dpt hd rfl) a1 a2 a3 a4 a5 a7 z47 hz47) (by kernel_rfl) (by kernel_rfl) (by kernel_rfl) (by kernel_rfl)) ?_
  refine zlRun (n := 6) (j := 13) rfl (by kernel_rfl) ?_
  refine zlEnd (by kernel_rfl) ?_
  refine zkSeq ?_
  refine zrSeq ?_
  refine zrSeq ?_
  refine zrReg ?_
  refine zlRun (n := 3) (j := 3) rfl (by kernel_rfl) ?_
  refine zlOp (d := some 63) (op := (.bsl 24 3 3 [(2, (.int .i64 0)), (1, (.slice .none 0 0)), (2, (.int .i64 0)), (1, (.slice .none 0 0)), (2, (.int .i64 0)), (1, (.slice .none 0 0))] [(0, (3, (.tmp 60))), (3, (3, (.tmp 61))), (6, (3, (.tmp 62)))])) (g := none) (v := (.r (.msl 512 1 0 (([(GGrid.mk z45.1 z45.2.1 z45.2.2.1), (GGrid.mk z46.1 z46.2.1 z46.2.2.1), (GGrid.mk z47.1 z47.2.1 z47.2.2.1)] : List GGrid).length)))) (ups := [(312, ⟨2, none⟩), (384, ⟨2, none⟩), (464, ⟨2, none⟩), (512, ⟨1, some (.own 24 3 (e_GGrid.cells ([(GGrid.mk z45.1 z45.2.1 z45.2.2.1), (GGrid.mk z46.1 z46.2.1 z46.2.2.1), (GGrid.mk z47.1 z47.2.1 z47.2.2.1)])))⟩)]) (j := 4) rfl (by kernel_rfl) (by kernel_rfl) ((by kernel_rfl : peval _ _ 63 (ρof _) (.bsl 24 3 3 [(2, (.int .i64 0)), (1, (.slice .none 0 0)), (2, (.int .i64 0)), (1, (.slice .none 0 0)), (2, (.int .i64 0)), (1, (.slice .none 0 0))] [(0, (3, (.tmp 60))), (3, (3, (.tmp 61))), (6, (3, (.tmp 62)))]) = some ((.r (.msl 512 1 0 (([(GGrid.mk z45.1 z45.2.1 z45.2.2.1), (GGrid.mk z46.1 z46.2.1 z46.2.2.1), (GGrid.mk z47.1 z47.2.1 z47.2.2.1)] : List GGrid).length))), [(312, ⟨2, none⟩), (384, ⟨2, none⟩), (464, ⟨2, none⟩), (512, ⟨1, some (.own 24 3 [.int .i64 z45.1, .int .i64 z45.2.1, .sl z45.2.2.1.length (((e_GCell.cells z45.2.2.1).drop (0 * e_GCell.k)).take (z45.2.2.1.length * e_GCell.k)), .int .i64 z46.1, .int .i64 z46.2.1, .sl z46.2.2.1.length (((e_GCell.cells z46.2.2.1).drop (0 * e_GCell.k)).take (z46.2.2.1.length * e_GCell.k)), .int .i64 z47.1, .int .i64 z47.2.1, .sl z47.2.2.1.length (((e_GCell.cells z47.2.2.1).drop (0 * e_GCell.k)).take (z47.2.2.1.length * e_GCell.k))])⟩)])).trans (by simp only [Enc.frz]; rfl)) ?_
  refine zlRun (n := 2) (j := 6) rfl (by kernel_rfl) ?_
  refine zlEnd (by kernel_rfl) ?_
  refine zkSeq ?_
  refine zrBlk ?_
  refine bindE hS (fun z102 hz102 hS => ?_)
  refine zrLoop (f3_l1_H a1 a2 a3 a4 a5 a6 a7) (f3_l1_X a1 a2 a3 a4 a5 a6 a7) (fun x st r Q h0 hS hQ => f3_l1_ok hd a1 a2 a3 a4 a5 a6 a7 hQ hS h0) (x := (z45.2.2.2, z46.2.2.2, z47.2.2.2, [(GGrid.mk z45.1 z45.2.1 z45.2.2.1), (GGrid.mk z46.1 z46.2.1 z46.2.2.1), (GGrid.mk z47.1 z47.2.1 z47.2.2.1)], ((([(GGrid.mk z45.1 z45.2.1 z45.2.2.1), (GGrid.mk z46.1 z46.2.1 z46.2.2.1), (GGrid.mk z47.1 z47.2.1 z47.2.2.1)] : List GGrid).length) : Int), 0)) (z := z102) (by show keepSt _ _ _ _ = _; kernel_rfl) hz102 ?_
  rcases z102 with z103 | z104
  · replace hS := (show _ = _ from hS)
    simp only [Sum.elim_inl] at hS
    intro e st' _ hX
    obtain ⟨rfl, rfl⟩ : _ ∧ _ := hX
    refine zkBlkX ?_
    refine zkSeq ?_
    refine zrSeq ?_
    refine zrReg ?_
    refine zlRun (n := 1) (j := 1) rfl (by kernel_rfl) ?_
    refine zlEnd (by kernel_rfl) ?_
    refine zkSeq ?_
    refine zrRet ?_
    refine zkNil ?_
    exact endQ hS hQ (fRet (by kernel_rfl) ((congrArg (fun s => outR s 0 c3.res) (by kernel_rfl : finSt c3.fin _ = f3_fin true)).trans (f3_out true)))
  · simp only [Sum.elim_inr] at hS
    intro e st' _ hX
    obtain ⟨rfl, hX⟩ : _ ∧ _ := hX
    refine zkBlkR ?_
    refine zkSeqR ?_
    refine zkNil ?_
    exact endQ hS hQ (fRet (by kernel_rfl) ((congrArg (fun s => outR s 0 c3.res) hX).trans (f3_out z104)))
noncomputable def f3 (a1 : GGrid) (a2 : Int) (a3 : Int) (a4 : Int) (a5 : Int) (a6 : Int) (a7 : GPen) : Option (Bool) := (f5.bind fun z105 => (bif (!z105) then (f5.bind fun z106 => (some z106)) else ((f6 a1).bind fun z107 => (bif (!decide (z107 = 0)) then (f5.bind fun z108 => (some z108)) else (f3_j0 a1 a2 a3 a4 a5 a6 a7 )))))
theorem f3_ok (base : Orc) (d : Nat) (hd : 8 ≤ d) (a1 : GGrid) (a2 : Int) (a3 : Int) (a4 : Int) (a5 : Int) (a6 : Int) (a7 : GPen) (r : Bool) (hS : f3 a1 a2 a3 a4 a5 a6 a7 = some r) : lev codes base d 3 [(.agg ((.d (.int .i64 a1.Wide)) :: ((.d (.int .i64 a1.High)) :: ((.d (.sl a1.Cells.length (e_GCell.cells a1.Cells))) :: [])))), (.d (.int .i64 a2)), (.d (.int .i64 a3)), (.d (.int .i64 a4)), (.d (.int .i64 a5)), (.d (.int .i64 a6)), (.agg ((.d (.int .i64 a7.Flags)) :: ((.d (.int .i64 a7.Fore)) :: ((.d (.int .i64 a7.Back)) :: []))))] [] = some ((.d (.bool r)), []) := by
  refine lev_go codes3 rfl rfl (Nat.le_trans (Nat.le_of_ble_eq_true rfl) hd) fun Q hQ => ?_
  unfold f3 at hS
  show ZR _ Q c3_b [] _
  replace hQ : ∀ e st', f3_Q r e st' → Q e st' := hQ
  refine zrSeq ?_
  refine zrReg ?_
  refine zlRun (n := 3) (j := 3) rfl (by kernel_rfl) ?_
  refine zlEnd (by kernel_rfl) ?_
  refine zkSeq ?_
  refine zrSeq ?_
  refine zrSeq ?_
  refine zrReg ?_
  refine bindE hS (fun z105 hz105 hS => ?_)
  refine zlOp (d := some 24) (op := (.call 5 [])) (g := none) (j := 1) rfl (by kernel_rfl) (by kernel_rfl) (ev_callA (by kernel_rfl) (f5_ok base (d - 1) (dpt hd rfl)  z105 hz105) (by kernel_rfl) (by kernel_rfl)) ?_
  refine zlRun (n := 2) (j := 3) rfl (by kernel_rfl) ?_
  refine zlSplit 26 (!z105) (by kernel_rfl) (fun hc => ?_) (fun hc => ?_)
  · replace hS := cond_t hc hS
    refine zlRun (n := 4) (j := 7) rfl (by kernel_rfl) ?_
    refine zlEnd (by kernel_rfl) ?_
    refine zkSeq ?_
    refine zrCondT (by kernel_rfl) ?_
    refine zrSeq ?_
    refine zrReg ?_
    refine bindE hS (fun z106 hz106 hS => ?_)
    refine zlOp (d := some 31) (op := (.call 5 [])) (g := none) (j := 1) rfl (by kernel_rfl) (by kernel_rfl) (ev_callA (by kernel_rfl) (f5_ok base (d - 1) (dpt hd rfl)  z106 hz106) (by kernel_rfl) (by kernel_rfl)) ?_
    refine zlRun (n := 1) (j := 2) rfl (by kernel_rfl) ?_
    refine zlEnd (by kernel_rfl) ?_
    refine zkSeq ?_
    refine zrRet ?_
    refine zkSeqR ?_
    refine zkNil ?_
    exact endQ hS hQ (fRet (by kernel_rfl) ((congrArg (fun s => outR s 0 c3.res) (by kernel_rfl : finSt c3.fin _ = f3_fin z106)).trans (f3_out z106)))
  · replace hS := cond_f hc hS
    refine zlRun (n := 1) (j := 4) rfl (by kernel_rfl) ?_
    refine bindE hS (fun z107 hz107 hS => ?_)
    refine zlOp (d := some 28) (op := (.call 6 [(.tmp 27)])) (g := (some (26, false))) (j := 5) rfl (by kernel_rfl) (by kernel_rfl) (ev_callA (by kernel_rfl) (f6_ok base (d - 1) (dpt hd rfl) a1 z107 hz107) (by kernel_rfl) (by kernel_rfl)) ?_
    refine zlBool (d := 29) (op := (.cmpI .neq (.tmp 28) (.const (.int .i64 0)))) (g := (some (26, false))) (j := 6) (!decide (z107 = 0)) rfl (by kernel_rfl) (by kernel_rfl) (by kernel_rfl) (fun hc => ?_) (fun hc => ?_)
    · replace hS := cond_t hc hS
      refine zlRun (n := 1) (j := 7) rfl (by kernel_rfl) ?_
      refine zlEnd (by kernel_rfl) ?_
      refine zkSeq ?_
      refine zrCondT (by kernel_rfl) ?_
      refine zrSeq ?_
      refine zrReg ?_
      refine bindE hS (fun z108 hz108 hS => ?_)
      refine zlOp (d := some 31) (op := (.call 5 [])) (g := none) (j := 1) rfl (by kernel_rfl) (by kernel_rfl) (ev_callA (by kernel_rfl) (f5_ok base (d - 1) (dpt hd rfl)  z108 hz108) (by kernel_rfl) (by kernel_rfl)) ?_
      refine zlRun (n := 1) (j := 2) rfl (by kernel_rfl) ?_
      refine zlEnd (by kernel_rfl) ?_
      refine zkSeq ?_
      refine zrRet ?_
      refine zkSeqR ?_
      refine zkNil ?_
      exact endQ hS hQ (fRet (by kernel_rfl) ((congrArg (fun s => outR s 0 c3.res) (by kernel_rfl : finSt c3.fin _ = f3_fin z108)).trans (f3_out z108)))
    · replace hS := cond_f hc hS
      refine zlRun (n := 1) (j := 7) rfl (by kernel_rfl) ?_
      refine zlEnd (by kernel_rfl) ?_
      refine zkSeq ?_
      refine zrCondF (by kernel_rfl) ?_
      refine zrSkip ?_
      refine zkSeq ?_
      exact f3_j0_ok hd a1 a2 a3 a4 a5 a6 a7 hQ  hS (by kernel_rfl)
/- farwriter/grid.ScrollIn$1 -/
def f40_fin (p1 : List GCell) : St := ⟨(up (fun _ => .un) 2 (.r (.msl 56 0 0 p1.length))), (up (hB fun _ => 0) 56 ⟨0, some (.own 36 4 (e_GCell.cells p1))⟩)⟩
theorem f40_out (p1 : List GCell) : outR (f40_fin p1) 0 c40.res = some ((.r (.own 0 36 4 p1.length (e_GCell.cells p1))), []) := by
  exact out_of (ids := []) (ids' := [56]) (l := [(.r (.msl 56 0 0 p1.length))]) (by kernel_rfl) (by kernel_rfl) (o_own e_GCell (e := 36) (k := 4) (xs := p1) (by kernel_rfl) rfl rfl rfl rfl)
def f40_Q (r : (List GCell)) (e : PX) (st : St) : Prop := DoneF c40 0 ((.r (.own 0 36 4 r.length (e_GCell.cells r))), []) e st
noncomputable def f40 (a1 : Int) (a2 : Int) (a3 : GPen) (a4 : List PD) : Option ((List GCell)) := ((f31 a1 1 a3).bind fun z2 => (some z2.2.2))
theorem f40_ok (base : Orc) (d : Nat) (hd : 5 ≤ d) (a1 : Int) (a2 : Int) (a3 : GPen) (a4 : List PD) (r : (List GCell)) (hS : f40 a1 a2 a3 a4 = some r) : lev codes base d 40 [(.rptr [.int .i64 a1, .int .i64 a2, .un]), (.rptr (e_GPen.enc a3 ++ a4))] [] = some ((.r (.own 0 36 4 r.length (e_GCell.cells r))), []) := by
  refine lev_go codes40 rfl rfl (Nat.le_trans (Nat.le_of_ble_eq_true rfl) hd) fun Q hQ => ?_
  unfold f40 at hS
  show ZR _ Q c40_b [] _
  replace hQ : ∀ e st', f40_Q r e st' → Q e st' := hQ
  refine zrSeq ?_
  refine zrReg ?_
  refine zlRun (n := 1) (j := 1) rfl (by kernel_rfl) ?_
  refine zlEnd (by kernel_rfl) ?_
  refine zkSeq ?_
  refine zrSeq ?_
  refine zrReg ?_
  refine zlRun (n := 3) (j := 3) rfl (by kernel_rfl) ?_
  refine bindE hS (fun z2 hz2 hS => ?_)
  refine zlOp (d := some 6) (op := (.call 31 [(.tmp 4), (.const (.int .i64 1)), (.tmp 5)])) (g := none) (j := 4) rfl (by kernel_rfl) (by kernel_rfl) (ev_callA (by kernel_rfl) (f31_ok base (d - 1) (dpt hd rfl) a1 1 a3 z2 hz2) (by kernel_rfl) (by kernel_rfl)) ?_
  refine zlRun (n := 2) (j := 6) rfl (by kernel_rfl) ?_
  refine zlEnd (by kernel_rfl) ?_
  refine zkSeq ?_
  refine zrRet ?_
  refine zkNil ?_
  exact endQ hS hQ (fRet (by kernel_rfl) ((congrArg (fun s => outR s 0 c40.res) (by kernel_rfl : finSt c40.fin _ = f40_fin z2.2.2)).trans (f40_out z2.2.2)))
end Go.Proofs.Ytjapcjeijpcpiaa.Pm
