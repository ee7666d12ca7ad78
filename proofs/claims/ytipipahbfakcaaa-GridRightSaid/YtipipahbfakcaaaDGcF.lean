/- Typed functions, and that the codes are these. Printed by dec.py. -/
import Derived.Test.YtipipahbfakcaaaDGcE
namespace Go.Proofs.Ytipipahbfakcaaa.Pm
set_option maxRecDepth 1000000
set_option maxHeartbeats 20000000
set_option linter.unusedVariables false
/- farwriter/grid.Size -/
def f24_fin (p78 : Int) (p79 : Int) (p80 : List GCell) (p81 : Int) : St := ⟨(up (up (fun _ => .un) 9 (.d (.int .i64 p81))) 8 (.r (.ptr 72 0 0))), (up (up (hB fun _ => 0) 490 ⟨0, some (.own 33 4 (e_GCell.cells p80))⟩) 72 ⟨0, some (.box ((.d (.int .i64 p78)) :: ((.d (.int .i64 p79)) :: ((.r (.msl 490 0 0 p80.length)) :: []))))⟩)⟩
theorem f24_out (p78 : Int) (p79 : Int) (p80 : List GCell) (p81 : Int) : outR (f24_fin p78 p79 p80 p81) 0 c24.res = some ((.tup [(.agg ((.d (.int .i64 p78)) :: ((.d (.int .i64 p79)) :: ((.r (.own 0 33 4 p80.length (e_GCell.cells p80))) :: [])))), (.d (.int .i64 p81))]), []) := by
  exact out_of (ids := []) (ids' := [490]) (l := [(.agg ((.d (.int .i64 p78)) :: ((.d (.int .i64 p79)) :: ((.r (.msl 490 0 0 p80.length)) :: [])))), (.d (.int .i64 p81))]) (by kernel_rfl) (by kernel_rfl) (o_tup (o_cons (o_agg (o_cons rfl (o_cons rfl (o_cons (o_own e_GCell (e := 33) (k := 4) (xs := p80) (by kernel_rfl) rfl rfl rfl rfl) o_nil)))) (o_cons rfl o_nil)))
def f24_Q (r : Int × Int × (List GCell) × Int) (e : PX) (st : St) : Prop := DoneF c24 0 ((.tup [(.agg ((.d (.int .i64 r.1)) :: ((.d (.int .i64 r.2.1)) :: ((.r (.own 0 33 4 r.2.2.1.length (e_GCell.cells r.2.2.1))) :: [])))), (.d (.int .i64 r.2.2.2))]), []) e st
def f24_l3_J (a1 : GGrid) (a2 : Int) (a3 : Int) (a4 : GPen) (x : Int × Int × (List GCell) × Int) : St := ⟨(up (up (up (up (fun _ => .un) 48 (.d (.int .i64 x.2.2.2))) 47 (.d (.int .i64 a3))) 11 (.r (.ptr 96 0 0))) 8 (.r (.ptr 72 0 0))), (up (up (up (hB fun _ => 0) 208 ⟨0, some (.own 33 4 (e_GCell.cells x.2.2.1))⟩) 96 ⟨0, some (.box ((.d (.int .i64 x.1)) :: ((.d (.int .i64 x.2.1)) :: ((.r (.msl 208 0 0 x.2.2.1.length)) :: []))))⟩) 72 ⟨0, some (.box ((.d (.int .i64 0)) :: ((.d (.int .i64 0)) :: ((.d (.sl ([] : List GCell).length (e_GCell.cells ([])))) :: []))))⟩)⟩
def f24_l3_H (a1 : GGrid) (a2 : Int) (a3 : Int) (a4 : GPen) (x : Int × Int × (List GCell) × Int) (st : St) : Prop := keepSt [8, 11, 47, 48] [(72, .id 72), (96, .id 96), (208, .id 208)] [] st = f24_l3_J a1 a2 a3 a4 x
def f24_l3_e2_J (a1 : GGrid) (a2 : Int) (a3 : Int) (a4 : GPen) (p148 : Int) (p149 : Int) (p150 : List GCell) : St := ⟨(up (up (fun _ => .un) 11 (.r (.ptr 96 0 0))) 8 (.r (.ptr 72 0 0))), (up (up (up (hB fun _ => 0) 208 ⟨0, some (.own 33 4 (e_GCell.cells p150))⟩) 96 ⟨0, some (.box ((.d (.int .i64 p148)) :: ((.d (.int .i64 p149)) :: ((.r (.msl 208 0 0 p150.length)) :: []))))⟩) 72 ⟨0, some (.box ((.d (.int .i64 0)) :: ((.d (.int .i64 0)) :: ((.d (.sl ([] : List GCell).length (e_GCell.cells ([])))) :: []))))⟩)⟩
def f24_l3_X (a1 : GGrid) (a2 : Int) (a3 : Int) (a4 : GPen) (z : (Int × Int × (List GCell))) (e : PX) (st : St) : Prop := e = .exit 2 ∧ st = f24_l3_e2_J a1 a2 a3 a4 z.1 z.2.1 z.2.2
def f24_l3_j5_J (a1 : GGrid) (a2 : Int) (a3 : Int) (a4 : GPen) (p161 : Int) (p162 : Int) (p163 : List GCell) (p164 : Int) : St := ⟨(up (up (up (up (fun _ => .un) 48 (.d (.int .i64 p164))) 47 (.d (.int .i64 a3))) 11 (.r (.ptr 96 0 0))) 8 (.r (.ptr 72 0 0))), (up (up (up (hB fun _ => 0) 208 ⟨0, some (.own 33 4 (e_GCell.cells p163))⟩) 96 ⟨0, some (.box ((.d (.int .i64 p161)) :: ((.d (.int .i64 p162)) :: ((.r (.msl 208 0 0 p163.length)) :: []))))⟩) 72 ⟨0, some (.box ((.d (.int .i64 0)) :: ((.d (.int .i64 0)) :: ((.d (.sl ([] : List GCell).length (e_GCell.cells ([])))) :: []))))⟩)⟩
noncomputable def f24_l3_j5 (a1 : GGrid) (a2 : Int) (a3 : Int) (a4 : GPen) (p161 : Int) (p162 : Int) (p163 : List GCell) (p164 : Int) : Option ((Int × Int × (List GCell) × Int) ⊕ ((Int × Int × (List GCell)))) := ((f33v1 p161 p162 p164 p163).bind fun z59 => ((chk (decide (z59.1.length = p163.length))).bind fun z60 => ((f46 z59.2.1 z59.2.2 z59.1).bind fun z61 => ((chk (decide (z61.length = z59.1.length))).bind fun z62 => (some (.inl (p161, p162, z61, (IntKind.i64.wrap (p164 + 1)))))))))
theorem f24_l3_j5_ok {base : Orc} {d : Nat} (hd : 6 ≤ d) (a1 : GGrid) (a2 : Int) (a3 : Int) (a4 : GPen) {r : (Int × Int × (List GCell) × Int) ⊕ ((Int × Int × (List GCell)))} {Q : PX → St → Prop} (hQ : ∀ e st', finL (f24_l3_H a1 a2 a3 a4) (f24_l3_X a1 a2 a3 a4) r e st' → Q e st') (p161 : Int) (p162 : Int) (p163 : List GCell) (p164 : Int) (hS : f24_l3_j5 a1 a2 a3 a4 p161 p162 p163 p164 = some r) {st : St} (he : keepSt [8, 11, 47, 48] [(72, .id 72), (96, .id 96), (208, .id 208)] [] st = f24_l3_j5_J a1 a2 a3 a4 p161 p162 p163 p164) : ZR (lev codes base (d - 1)) Q c24_1 [] st := by
  refine zrKeep he ?_
  unfold f24_l3_j5 at hS
  refine zrSeq ?_
  refine zrBlk ?_
  refine zrSeq ?_
  refine zrReg ?_
  refine zlRun (n := 2) (j := 2) rfl (by kernel_rfl) ?_
  refine zlEnd (by kernel_rfl) ?_
  refine zkSeq ?_
  refine zrReg ?_
  refine zlRun (n := 2) (j := 2) rfl (by kernel_rfl) ?_
  refine bindE hS (fun z59 hz59 hS => ?_)
  refine bindE hS (fun z60 hz60 hS => ?_)
  refine zlOp (d := some 53) (op := (.callr 33 [(.tmp 51), (.tmp 52)])) (g := none) (v := (.r (.msl 208 0 z59.2.1 z59.2.2))) (ups := [(208, ⟨0, some (.own 33 4 (e_GCell.cells z59.1))⟩)]) (j := 3) rfl (by kernel_rfl) (by kernel_rfl) (ev_callrX (args := [(.agg ((.d (.int .i64 p161)) :: ((.d (.int .i64 p162)) :: ((.r (.msl 208 0 0 p163.length)) :: [])))), (.d (.int .i64 p164))]) (ids := [208]) (bs := [(.own 33 4 (e_GCell.cells p163))]) (l := [(.agg ((.d (.int .i64 p161)) :: ((.d (.int .i64 p162)) :: ((.r (.msl 0 0 0 p163.length)) :: [])))), (.d (.int .i64 p164))]) (bt := [(.own 33 4 (e_GCell.cells p163))]) (r := (.r (.msl 0 0 z59.2.1 z59.2.2))) (bs' := [(.own 33 4 (e_GCell.cells z59.1)), .box []]) (by kernel_rfl) (by kernel_rfl) (by kernel_rfl) (by kernel_rfl) (by kernel_rfl) (f33v1_ok base (d - 1) (dpt hd rfl) p161 p162 p164 p163 z59 hz59) (by kernel_rfl) (sm_own e_GCell (e1 := 33) (k1 := 4) (xs := p163) (ys := z59.1) (by kernel_rfl) hz60 sm_nil) (by kernel_rfl) (by kernel_rfl)) ?_
  have lz60 : p163.length = z59.1.length := (of_decide_eq_true (chk_t hz60)).symm
  try delta f24_l3_j5_J
  try rw [lz60]
  refine bindE hS (fun z61 hz61 hS => ?_)
  refine bindE hS (fun z62 hz62 hS => ?_)
  refine zlOp (d := some 54) (op := (.callr 46 [(.tmp 53)])) (g := none) (v := (.tup [])) (ups := [(208, ⟨0, some (.own 33 4 (e_GCell.cells z61))⟩)]) (j := 4) rfl (by kernel_rfl) (by kernel_rfl) (ev_callrX (args := [(.r (.msl 208 0 z59.2.1 z59.2.2))]) (ids := [208]) (bs := [(.own 33 4 (e_GCell.cells z59.1))]) (l := [(.r (.msl 0 0 z59.2.1 z59.2.2))]) (bt := [(.own 33 4 (e_GCell.cells z59.1))]) (r := (.tup [])) (bs' := [(.own 33 4 (e_GCell.cells z61)), .box []]) (by kernel_rfl) (by kernel_rfl) (by kernel_rfl) (by kernel_rfl) (by kernel_rfl) (f46_ok base (d - 1) (dpt hd rfl) z59.2.1 z59.2.2 z59.1 z61 hz61) (by kernel_rfl) (sm_own e_GCell (e1 := 33) (k1 := 4) (xs := z59.1) (ys := z61) (by kernel_rfl) hz62 sm_nil) (by kernel_rfl) (by kernel_rfl)) ?_
  have lz62 : z59.1.length = z61.length := (of_decide_eq_true (chk_t hz62)).symm
  try delta f24_l3_j5_J
  try rw [lz62]
  refine zlEnd (by kernel_rfl) ?_
  refine zkBlk ?_
  refine zkSeq ?_
  refine zrReg ?_
  refine zlRun (n := 2) (j := 2) rfl (by kernel_rfl) ?_
  refine zlEnd (by kernel_rfl) ?_
  refine zkNil ?_
  exact endQ hS hQ (finL_n (by show keepSt _ _ _ _ = _; kernel_rfl))
def f24_l3_j4_J (a1 : GGrid) (a2 : Int) (a3 : Int) (a4 : GPen) (p156 : Int) (p157 : Int) (p158 : List GCell) (p159 : Int) (p160 : Bool) : St := ⟨(up (up (up (up (up (fun _ => .un) 49 (.d (.bool p160))) 48 (.d (.int .i64 p159))) 47 (.d (.int .i64 a3))) 11 (.r (.ptr 96 0 0))) 8 (.r (.ptr 72 0 0))), (up (up (up (hB fun _ => 0) 208 ⟨0, some (.own 33 4 (e_GCell.cells p158))⟩) 96 ⟨0, some (.box ((.d (.int .i64 p156)) :: ((.d (.int .i64 p157)) :: ((.r (.msl 208 0 0 p158.length)) :: []))))⟩) 72 ⟨0, some (.box ((.d (.int .i64 0)) :: ((.d (.int .i64 0)) :: ((.d (.sl ([] : List GCell).length (e_GCell.cells ([])))) :: []))))⟩)⟩
noncomputable def f24_l3_j4 (a1 : GGrid) (a2 : Int) (a3 : Int) (a4 : GPen) (p156 : Int) (p157 : Int) (p158 : List GCell) (p159 : Int) (p160 : Bool) : Option ((Int × Int × (List GCell) × Int) ⊕ ((Int × Int × (List GCell)))) := (bif p160 then (f24_l3_j5 a1 a2 a3 a4 p156 p157 p158 p159) else (some (.inr (p156, p157, p158))))
theorem f24_l3_j4_ok {base : Orc} {d : Nat} (hd : 6 ≤ d) (a1 : GGrid) (a2 : Int) (a3 : Int) (a4 : GPen) {r : (Int × Int × (List GCell) × Int) ⊕ ((Int × Int × (List GCell)))} {Q : PX → St → Prop} (hQ : ∀ e st', finL (f24_l3_H a1 a2 a3 a4) (f24_l3_X a1 a2 a3 a4) r e st' → Q e st') (p156 : Int) (p157 : Int) (p158 : List GCell) (p159 : Int) (p160 : Bool) (hS : f24_l3_j4 a1 a2 a3 a4 p156 p157 p158 p159 p160 = some r) {st : St} (he : keepSt [8, 11, 47, 48, 49] [(72, .id 72), (96, .id 96), (208, .id 208)] [] st = f24_l3_j4_J a1 a2 a3 a4 p156 p157 p158 p159 p160) : ZR (lev codes base (d - 1)) Q c24_2 [] st := by
  refine zrKeep he ?_
  unfold f24_l3_j4 at hS
  refine zrSeq ?_
  refine zrSplit 49 p160 (by kernel_rfl) (fun hc => ?_) (fun hc => ?_)
  · replace hS := cond_t hc hS
    refine zrCondT (by kernel_rfl) ?_
    refine zrSkip ?_
    refine zkSeq ?_
    exact f24_l3_j5_ok hd a1 a2 a3 a4 hQ p156 p157 p158 p159 hS (by kernel_rfl)
  · replace hS := cond_f hc hS
    refine zrCondF (by kernel_rfl) ?_
    refine zrKeep (J := f24_l3_e2_J a1 a2 a3 a4 p156 p157 p158) (by kernel_rfl) ?_
    refine zrExit ?_
    refine zkSeqX ?_
    refine zkNil ?_
    exact endQ hS hQ (finL_x (by intro h; cases h) (by show _ = _ ∧ _ = _; exact ⟨rfl, rfl⟩))
noncomputable def f24_l3 (a1 : GGrid) (a2 : Int) (a3 : Int) (a4 : GPen) (x : Int × Int × (List GCell) × Int) : Option ((Int × Int × (List GCell) × Int) ⊕ ((Int × Int × (List GCell)))) := (bif (decide (x.2.2.2 < a3)) then (f24_l3_j4 a1 a2 a3 a4 x.1 x.2.1 x.2.2.1 x.2.2.2 true) else (f24_l3_j4 a1 a2 a3 a4 x.1 x.2.1 x.2.2.1 x.2.2.2 false))
theorem f24_l3_ok {base : Orc} {d : Nat} (hd : 6 ≤ d) (a1 : GGrid) (a2 : Int) (a3 : Int) (a4 : GPen) {r : (Int × Int × (List GCell) × Int) ⊕ ((Int × Int × (List GCell)))} {Q : PX → St → Prop} (hQ : ∀ e st', finL (f24_l3_H a1 a2 a3 a4) (f24_l3_X a1 a2 a3 a4) r e st' → Q e st') {x : Int × Int × (List GCell) × Int} (hS : f24_l3 a1 a2 a3 a4 x = some r) {st : St} (he : f24_l3_H a1 a2 a3 a4 x st) : ZR (lev codes base (d - 1)) Q c24_3 [] st := by
  refine zrKeep he ?_
  unfold f24_l3 at hS
  refine zrSeq ?_
  refine zrReg ?_
  refine zlBool (d := 49) (op := (.cmpI .lss (.tmp 48) (.tmp 47))) (g := none) (j := 1) (decide (x.2.2.2 < a3)) rfl (by kernel_rfl) (by kernel_rfl) (by kernel_rfl) (fun hc => ?_) (fun hc => ?_)
  · replace hS := cond_t hc hS
    refine zlEnd (by kernel_rfl) ?_
    refine zkSeq ?_
    exact f24_l3_j4_ok hd a1 a2 a3 a4 hQ x.1 x.2.1 x.2.2.1 x.2.2.2 true hS (by kernel_rfl)
  · replace hS := cond_f hc hS
    refine zlEnd (by kernel_rfl) ?_
    refine zkSeq ?_
    exact f24_l3_j4_ok hd a1 a2 a3 a4 hQ x.1 x.2.1 x.2.2.1 x.2.2.2 false hS (by kernel_rfl)
def f24_j2_J (a1 : GGrid) (a2 : Int) (a3 : Int) (a4 : GPen) (p120 : Int) (p121 : Int) (p122 : List GCell) : St := ⟨(up (up (up (fun _ => .un) 11 (.r (.ptr 96 0 0))) 8 (.r (.ptr 72 0 0))) 2 (.d (.int .i64 a3))), (up (up (up (hB fun _ => 0) 208 ⟨0, some (.own 33 4 (e_GCell.cells p122))⟩) 96 ⟨0, some (.box ((.d (.int .i64 p120)) :: ((.d (.int .i64 p121)) :: ((.r (.msl 208 0 0 p122.length)) :: []))))⟩) 72 ⟨0, some (.box ((.d (.int .i64 0)) :: ((.d (.int .i64 0)) :: ((.d (.sl ([] : List GCell).length (e_GCell.cells ([])))) :: []))))⟩)⟩
noncomputable def f24_j2 (a1 : GGrid) (a2 : Int) (a3 : Int) (a4 : GPen) (p120 : Int) (p121 : Int) (p122 : List GCell) : Option (Int × Int × (List GCell) × Int) := ((loopO (f24_l3 a1 a2 a3 a4) (p120, p121, p122, 0)).bind fun z63 => (some (z63.1, z63.2.1, z63.2.2, 0)))
theorem f24_j2_ok {base : Orc} {d : Nat} (hd : 6 ≤ d) (a1 : GGrid) (a2 : Int) (a3 : Int) (a4 : GPen) {r : Int × Int × (List GCell) × Int} {Q : PX → St → Prop} (hQ : ∀ e st', f24_Q r e st' → Q e st') (p120 : Int) (p121 : Int) (p122 : List GCell) (hS : f24_j2 a1 a2 a3 a4 p120 p121 p122 = some r) {st : St} (he : keepSt [2, 8, 11] [(72, .id 72), (96, .id 96), (208, .id 208)] [] st = f24_j2_J a1 a2 a3 a4 p120 p121 p122) : ZR (lev codes base (d - 1)) Q c24_4 [] st := by
  refine zrKeep he ?_
  unfold f24_j2 at hS
  refine zrSeq ?_
  refine zrSeq ?_
  refine zrReg ?_
  refine zlRun (n := 2) (j := 2) rfl (by kernel_rfl) ?_
  refine zlEnd (by kernel_rfl) ?_
  refine zkSeq ?_
  refine zrBlk ?_
  refine bindE hS (fun z63 hz63 hS => ?_)
  refine zrLoop (f24_l3_H a1 a2 a3 a4) (f24_l3_X a1 a2 a3 a4) (fun x st r Q h0 hS hQ => f24_l3_ok hd a1 a2 a3 a4 hQ hS h0) (x := (p120, p121, p122, 0)) (z := z63) (by show keepSt _ _ _ _ = _; kernel_rfl) hz63 ?_
  intro e st' _ hX
  obtain ⟨rfl, rfl⟩ : _ ∧ _ := hX
  refine zkBlkX ?_
  refine zkSeq ?_
  refine zrSeq ?_
  refine zrReg ?_
  refine zlRun (n := 3) (j := 3) rfl (by kernel_rfl) ?_
  refine zlEnd (by kernel_rfl) ?_
  refine zkSeq ?_
  refine zrRet ?_
  refine zkNil ?_
  exact endQ hS hQ (fRet (by kernel_rfl) ((congrArg (fun s => outR s 0 c24.res) (by kernel_rfl : finSt c24.fin _ = f24_fin z63.1 z63.2.1 z63.2.2 0)).trans (f24_out z63.1 z63.2.1 z63.2.2 0)))
def f24_l6_J (a1 : GGrid) (a2 : Int) (a3 : Int) (a4 : GPen) (x : Int × Int × (List GCell) × Int) : St := ⟨(up (up (up (up (up (up (fun _ => .un) 36 (.d (.int .i64 x.2.2.2))) 35 (.d (.int .i64 (if a1.High < a3 then a1.High else a3)))) 11 (.r (.ptr 96 0 0))) 8 (.r (.ptr 72 0 0))) 4 (.r (.ptr 40 0 0))) 2 (.d (.int .i64 a3))), (up (up (up (up (hB fun _ => 0) 208 ⟨0, some (.own 33 4 (e_GCell.cells x.2.2.1))⟩) 96 ⟨0, some (.box ((.d (.int .i64 x.1)) :: ((.d (.int .i64 x.2.1)) :: ((.r (.msl 208 0 0 x.2.2.1.length)) :: []))))⟩) 72 ⟨0, some (.box ((.d (.int .i64 0)) :: ((.d (.int .i64 0)) :: ((.d (.sl ([] : List GCell).length (e_GCell.cells ([])))) :: []))))⟩) 40 ⟨0, some (.box ((.d (.int .i64 a1.Wide)) :: ((.d (.int .i64 a1.High)) :: ((.d (.sl a1.Cells.length (e_GCell.cells a1.Cells))) :: []))))⟩)⟩
def f24_l6_H (a1 : GGrid) (a2 : Int) (a3 : Int) (a4 : GPen) (x : Int × Int × (List GCell) × Int) (st : St) : Prop := keepSt [2, 4, 8, 11, 35, 36] [(40, .id 40), (72, .id 72), (96, .id 96), (208, .id 208)] [] st = f24_l6_J a1 a2 a3 a4 x
def f24_l6_e0_J (a1 : GGrid) (a2 : Int) (a3 : Int) (a4 : GPen) (p117 : Int) (p118 : Int) (p119 : List GCell) : St := ⟨(up (up (up (fun _ => .un) 11 (.r (.ptr 96 0 0))) 8 (.r (.ptr 72 0 0))) 2 (.d (.int .i64 a3))), (up (up (up (hB fun _ => 0) 208 ⟨0, some (.own 33 4 (e_GCell.cells p119))⟩) 96 ⟨0, some (.box ((.d (.int .i64 p117)) :: ((.d (.int .i64 p118)) :: ((.r (.msl 208 0 0 p119.length)) :: []))))⟩) 72 ⟨0, some (.box ((.d (.int .i64 0)) :: ((.d (.int .i64 0)) :: ((.d (.sl ([] : List GCell).length (e_GCell.cells ([])))) :: []))))⟩)⟩
def f24_l6_X (a1 : GGrid) (a2 : Int) (a3 : Int) (a4 : GPen) (z : (Int × Int × (List GCell))) (e : PX) (st : St) : Prop := e = .exit 0 ∧ st = f24_l6_e0_J a1 a2 a3 a4 z.1 z.2.1 z.2.2
def f24_l6_j8_J (a1 : GGrid) (a2 : Int) (a3 : Int) (a4 : GPen) (p175 : Int) (p176 : Int) (p177 : List GCell) (p178 : Int) : St := ⟨(up (up (up (up (up (up (fun _ => .un) 36 (.d (.int .i64 p178))) 35 (.d (.int .i64 (if a1.High < a3 then a1.High else a3)))) 11 (.r (.ptr 96 0 0))) 8 (.r (.ptr 72 0 0))) 4 (.r (.ptr 40 0 0))) 2 (.d (.int .i64 a3))), (up (up (up (up (hB fun _ => 0) 208 ⟨0, some (.own 33 4 (e_GCell.cells p177))⟩) 96 ⟨0, some (.box ((.d (.int .i64 p175)) :: ((.d (.int .i64 p176)) :: ((.r (.msl 208 0 0 p177.length)) :: []))))⟩) 72 ⟨0, some (.box ((.d (.int .i64 0)) :: ((.d (.int .i64 0)) :: ((.d (.sl ([] : List GCell).length (e_GCell.cells ([])))) :: []))))⟩) 40 ⟨0, some (.box ((.d (.int .i64 a1.Wide)) :: ((.d (.int .i64 a1.High)) :: ((.d (.sl a1.Cells.length (e_GCell.cells a1.Cells))) :: []))))⟩)⟩
noncomputable def f24_l6_j8 (a1 : GGrid) (a2 : Int) (a3 : Int) (a4 : GPen) (p175 : Int) (p176 : Int) (p177 : List GCell) (p178 : Int) : Option ((Int × Int × (List GCell) × Int) ⊕ ((Int × Int × (List GCell)))) := ((f33v1 p175 p176 p178 p177).bind fun z64 => ((chk (decide (z64.1.length = p177.length))).bind fun z65 => ((f33 a1 p178).bind fun z66 => ((chk (decide (z64.2.1 + z64.2.2 ≤ z64.1.length))).bind fun z67 => ((some (cpyL z64.1 z64.2.1 z64.2.2 z66)).bind fun z68 => (some (.inl (p175, p176, z68, (IntKind.i64.wrap (p178 + 1))))))))))
theorem f24_l6_j8_ok {base : Orc} {d : Nat} (hd : 6 ≤ d) (a1 : GGrid) (a2 : Int) (a3 : Int) (a4 : GPen) {r : (Int × Int × (List GCell) × Int) ⊕ ((Int × Int × (List GCell)))} {Q : PX → St → Prop} (hQ : ∀ e st', finL (f24_l6_H a1 a2 a3 a4) (f24_l6_X a1 a2 a3 a4) r e st' → Q e st') (p175 : Int) (p176 : Int) (p177 : List GCell) (p178 : Int) (hS : f24_l6_j8 a1 a2 a3 a4 p175 p176 p177 p178 = some r) {st : St} (he : keepSt [2, 4, 8, 11, 35, 36] [(40, .id 40), (72, .id 72), (96, .id 96), (208, .id 208)] [] st = f24_l6_j8_J a1 a2 a3 a4 p175 p176 p177 p178) : ZR (lev codes base (d - 1)) Q c24_5 [] st := by
  refine zrKeep he ?_
  unfold f24_l6_j8 at hS
  refine zrSeq ?_
  refine zrBlk ?_
  refine zrSeq ?_
  refine zrReg ?_
  refine zlRun (n := 2) (j := 2) rfl (by kernel_rfl) ?_
  refine zlEnd (by kernel_rfl) ?_
  refine zkSeq ?_
  refine zrRegD ?_
  refine zdRun (n := 2) (j := 2) (ts := [[(96, false)], []]) (acc' := [[(96, false)], []]) rfl (by kernel_rfl) (by kernel_rfl) (by kernel_rfl) ?_
  refine bindE hS (fun z64 hz64 hS => ?_)
  refine bindE hS (fun z65 hz65 hS => ?_)
  refine zdOp (d := some 41) (op := (.callr 33 [(.tmp 39), (.tmp 40)])) (g := none) (v := (.r (.msl 208 0 z64.2.1 z64.2.2))) (ups := [(208, ⟨0, some (.own 33 4 (e_GCell.cells z64.1))⟩)]) (j := 3) (t1 := [(208, true), (208, false), (336, true), (337, true), (338, true), (339, true), (340, true), (341, true), (342, true), (343, true)]) (acc' := [[(96, false)], [], [(208, true), (208, false), (336, true), (337, true), (338, true), (339, true), (340, true), (341, true), (342, true), (343, true)]]) (by kernel_rfl) (by kernel_rfl) rfl (by kernel_rfl) (by kernel_rfl) (ev_callrX (args := [(.agg ((.d (.int .i64 p175)) :: ((.d (.int .i64 p176)) :: ((.r (.msl 208 0 0 p177.length)) :: [])))), (.d (.int .i64 p178))]) (ids := [208]) (bs := [(.own 33 4 (e_GCell.cells p177))]) (l := [(.agg ((.d (.int .i64 p175)) :: ((.d (.int .i64 p176)) :: ((.r (.msl 0 0 0 p177.length)) :: [])))), (.d (.int .i64 p178))]) (bt := [(.own 33 4 (e_GCell.cells p177))]) (r := (.r (.msl 0 0 z64.2.1 z64.2.2))) (bs' := [(.own 33 4 (e_GCell.cells z64.1)), .box []]) (by kernel_rfl) (by kernel_rfl) (by kernel_rfl) (by kernel_rfl) (by kernel_rfl) (f33v1_ok base (d - 1) (dpt hd rfl) p175 p176 p178 p177 z64 hz64) (by kernel_rfl) (sm_own e_GCell (e1 := 33) (k1 := 4) (xs := p177) (ys := z64.1) (by kernel_rfl) hz65 sm_nil) (by kernel_rfl) (by kernel_rfl)) ?_
  have lz65 : p177.length = z64.1.length := (of_decide_eq_true (chk_t hz65)).symm
  try delta f24_l6_j8_J
  try rw [lz65]
  refine zdRun (n := 2) (j := 5) (ts := [[(40, false)], []]) (acc' := [[(96, false)], [], [(208, true), (208, false), (336, true), (337, true), (338, true), (339, true), (340, true), (341, true), (342, true), (343, true)], [(40, false)], []]) rfl (by kernel_rfl) (by kernel_rfl) (by kernel_rfl) ?_
  refine bindE hS (fun z66 hz66 hS => ?_)
  refine zdOp (d := some 44) (op := (.callr 33 [(.tmp 42), (.tmp 43)])) (g := none) (v := (.d (.sl z66.length (e_GCell.cells z66)))) (ups := []) (j := 6) (t1 := [(360, true), (361, true), (362, true), (363, true), (364, true), (365, true), (366, true), (367, true)]) (acc' := [[(96, false)], [], [(208, true), (208, false), (336, true), (337, true), (338, true), (339, true), (340, true), (341, true), (342, true), (343, true)], [(40, false)], [], [(360, true), (361, true), (362, true), (363, true), (364, true), (365, true), (366, true), (367, true)]]) (by kernel_rfl) (by kernel_rfl) rfl (by kernel_rfl) (by kernel_rfl) (ev_callrX (args := [(.agg ((.d (.int .i64 a1.Wide)) :: ((.d (.int .i64 a1.High)) :: ((.d (.sl a1.Cells.length (e_GCell.cells a1.Cells))) :: [])))), (.d (.int .i64 p178))]) (ids := []) (bs := []) (l := [(.agg ((.d (.int .i64 a1.Wide)) :: ((.d (.int .i64 a1.High)) :: ((.d (.sl a1.Cells.length (e_GCell.cells a1.Cells))) :: [])))), (.d (.int .i64 p178))]) (bt := []) (r := (.d (.sl z66.length (e_GCell.cells z66)))) (bs' := [.box []]) (by kernel_rfl) (by kernel_rfl) (by kernel_rfl) (by kernel_rfl) (by kernel_rfl) (f33_ok base (d - 1) (dpt hd rfl) a1 p178 z66 hz66) (by kernel_rfl) sm_nil (by kernel_rfl) (by kernel_rfl)) ?_
  refine bindE hS (fun z67 hz67 hS => ?_)
  refine bindE hS (fun z68 hz68 hS => ?_)
  refine zdOp (d := some 45) (op := (.cpy 4 (.tmp 41) (.tmp 44))) (g := none) (v := (.d (.int .i64 ((min z66.length z64.2.2 : Nat) : Int)))) (ups := [(208, ⟨0, some (.own 33 4 (e_GCell.cells (cpyL z64.1 z64.2.1 z64.2.2 z66)))⟩)]) (j := 7) (t1 := [(208, true)]) (acc' := [[(96, false)], [], [(208, true), (208, false), (336, true), (337, true), (338, true), (339, true), (340, true), (341, true), (342, true), (343, true)], [(40, false)], [], [(360, true), (361, true), (362, true), (363, true), (364, true), (365, true), (366, true), (367, true)], [(208, true)]]) (by kernel_rfl) (by kernel_rfl) rfl (by kernel_rfl) (by kernel_rfl) (ev_cpy e_GCell (b := 208) (g := 0) (l := z64.2.1) (n := z64.2.2) (e := 33) (xs := z64.1) (ys := z66) (by kernel_rfl) (by kernel_rfl) rfl ((congrArg (asL _) (by kernel_rfl : ρof _ (.tmp 44) = (.d (.sl z66.length (e_GCell.cells z66))))).trans (as_d _ _)) hz67) ?_
  have ez68 := Option.some.inj hz68
  have lz68 : z64.1.length = z68.length := by rw [← ez68]; exact (cpyL_len (of_decide_eq_true (chk_t hz67))).symm
  rw [ez68]
  try delta f24_l6_j8_J
  try rw [lz68]
  refine zdEnd (by kernel_rfl) (by kernel_rfl) ?_
  refine zkBlk ?_
  refine zkSeq ?_
  refine zrReg ?_
  refine zlRun (n := 2) (j := 2) rfl (by kernel_rfl) ?_
  refine zlEnd (by kernel_rfl) ?_
  refine zkNil ?_
  exact endQ hS hQ (finL_n (by show keepSt _ _ _ _ = _; kernel_rfl))
def f24_l6_j7_J (a1 : GGrid) (a2 : Int) (a3 : Int) (a4 : GPen) (p170 : Int) (p171 : Int) (p172 : List GCell) (p173 : Int) (p174 : Bool) : St := ⟨(up (up (up (up (up (up (up (fun _ => .un) 37 (.d (.bool p174))) 36 (.d (.int .i64 p173))) 35 (.d (.int .i64 (if a1.High < a3 then a1.High else a3)))) 11 (.r (.ptr 96 0 0))) 8 (.r (.ptr 72 0 0))) 4 (.r (.ptr 40 0 0))) 2 (.d (.int .i64 a3))), (up (up (up (up (hB fun _ => 0) 208 ⟨0, some (.own 33 4 (e_GCell.cells p172))⟩) 96 ⟨0, some (.box ((.d (.int .i64 p170)) :: ((.d (.int .i64 p171)) :: ((.r (.msl 208 0 0 p172.length)) :: []))))⟩) 72 ⟨0, some (.box ((.d (.int .i64 0)) :: ((.d (.int .i64 0)) :: ((.d (.sl ([] : List GCell).length (e_GCell.cells ([])))) :: []))))⟩) 40 ⟨0, some (.box ((.d (.int .i64 a1.Wide)) :: ((.d (.int .i64 a1.High)) :: ((.d (.sl a1.Cells.length (e_GCell.cells a1.Cells))) :: []))))⟩)⟩
noncomputable def f24_l6_j7 (a1 : GGrid) (a2 : Int) (a3 : Int) (a4 : GPen) (p170 : Int) (p171 : Int) (p172 : List GCell) (p173 : Int) (p174 : Bool) : Option ((Int × Int × (List GCell) × Int) ⊕ ((Int × Int × (List GCell)))) := (bif p174 then (f24_l6_j8 a1 a2 a3 a4 p170 p171 p172 p173) else (some (.inr (p170, p171, p172))))
theorem f24_l6_j7_ok {base : Orc} {d : Nat} (hd : 6 ≤ d) (a1 : GGrid) (a2 : Int) (a3 : Int) (a4 : GPen) {r : (Int × Int × (List GCell) × Int) ⊕ ((Int × Int × (List GCell)))} {Q : PX → St → Prop} (hQ : ∀ e st', finL (f24_l6_H a1 a2 a3 a4) (f24_l6_X a1 a2 a3 a4) r e st' → Q e st') (p170 : Int) (p171 : Int) (p172 : List GCell) (p173 : Int) (p174 : Bool) (hS : f24_l6_j7 a1 a2 a3 a4 p170 p171 p172 p173 p174 = some r) {st : St} (he : keepSt [2, 4, 8, 11, 35, 36, 37] [(40, .id 40), (72, .id 72), (96, .id 96), (208, .id 208)] [] st = f24_l6_j7_J a1 a2 a3 a4 p170 p171 p172 p173 p174) : ZR (lev codes base (d - 1)) Q c24_6 [] st := by
  refine zrKeep he ?_
  unfold f24_l6_j7 at hS
  refine zrSeq ?_
  refine zrSplit 37 p174 (by kernel_rfl) (fun hc => ?_) (fun hc => ?_)
  · replace hS := cond_t hc hS
    refine zrCondT (by kernel_rfl) ?_
    refine zrSkip ?_
    refine zkSeq ?_
    exact f24_l6_j8_ok hd a1 a2 a3 a4 hQ p170 p171 p172 p173 hS (by kernel_rfl)
  · replace hS := cond_f hc hS
    refine zrCondF (by kernel_rfl) ?_
    refine zrKeep (J := f24_l6_e0_J a1 a2 a3 a4 p170 p171 p172) (by kernel_rfl) ?_
    refine zrExit ?_
    refine zkSeqX ?_
    refine zkNil ?_
    exact endQ hS hQ (finL_x (by intro h; cases h) (by show _ = _ ∧ _ = _; exact ⟨rfl, rfl⟩))
noncomputable def f24_l6 (a1 : GGrid) (a2 : Int) (a3 : Int) (a4 : GPen) (x : Int × Int × (List GCell) × Int) : Option ((Int × Int × (List GCell) × Int) ⊕ ((Int × Int × (List GCell)))) := (bif (decide (x.2.2.2 < (if a1.High < a3 then a1.High else a3))) then (f24_l6_j7 a1 a2 a3 a4 x.1 x.2.1 x.2.2.1 x.2.2.2 true) else (f24_l6_j7 a1 a2 a3 a4 x.1 x.2.1 x.2.2.1 x.2.2.2 false))
theorem f24_l6_ok {base : Orc} {d : Nat} (hd : 6 ≤ d) (a1 : GGrid) (a2 : Int) (a3 : Int) (a4 : GPen) {r : (Int × Int × (List GCell) × Int) ⊕ ((Int × Int × (List GCell)))} {Q : PX → St → Prop} (hQ : ∀ e st', finL (f24_l6_H a1 a2 a3 a4) (f24_l6_X a1 a2 a3 a4) r e st' → Q e st') {x : Int × Int × (List GCell) × Int} (hS : f24_l6 a1 a2 a3 a4 x = some r) {st : St} (he : f24_l6_H a1 a2 a3 a4 x st) : ZR (lev codes base (d - 1)) Q c24_7 [] st := by
  refine zrKeep he ?_
  unfold f24_l6 at hS
  refine zrSeq ?_
  refine zrReg ?_
  refine zlBool (d := 37) (op := (.cmpI .lss (.tmp 36) (.tmp 35))) (g := none) (j := 1) (decide (x.2.2.2 < (if a1.High < a3 then a1.High else a3))) rfl (by kernel_rfl) (by kernel_rfl) (by kernel_rfl) (fun hc => ?_) (fun hc => ?_)
  · replace hS := cond_t hc hS
    refine zlEnd (by kernel_rfl) ?_
    refine zkSeq ?_
    exact f24_l6_j7_ok hd a1 a2 a3 a4 hQ x.1 x.2.1 x.2.2.1 x.2.2.2 true hS (by kernel_rfl)
  · replace hS := cond_f hc hS
    refine zlEnd (by kernel_rfl) ?_
    refine zkSeq ?_
    exact f24_l6_j7_ok hd a1 a2 a3 a4 hQ x.1 x.2.1 x.2.2.1 x.2.2.2 false hS (by kernel_rfl)
def f24_j1_J (a1 : GGrid) (a2 : Int) (a3 : Int) (a4 : GPen) (p89 : Int) (p90 : Int) (p91 : List GCell) : St := ⟨(up (up (up (up (fun _ => .un) 11 (.r (.ptr 96 0 0))) 8 (.r (.ptr 72 0 0))) 4 (.r (.ptr 40 0 0))) 2 (.d (.int .i64 a3))), (up (up (up (up (hB fun _ => 0) 208 ⟨0, some (.own 33 4 (e_GCell.cells p91))⟩) 96 ⟨0, some (.box ((.d (.int .i64 p89)) :: ((.d (.int .i64 p90)) :: ((.r (.msl 208 0 0 p91.length)) :: []))))⟩) 72 ⟨0, some (.box ((.d (.int .i64 0)) :: ((.d (.int .i64 0)) :: ((.d (.sl ([] : List GCell).length (e_GCell.cells ([])))) :: []))))⟩) 40 ⟨0, some (.box ((.d (.int .i64 a1.Wide)) :: ((.d (.int .i64 a1.High)) :: ((.d (.sl a1.Cells.length (e_GCell.cells a1.Cells))) :: []))))⟩)⟩
noncomputable def f24_j1 (a1 : GGrid) (a2 : Int) (a3 : Int) (a4 : GPen) (p89 : Int) (p90 : Int) (p91 : List GCell) : Option (Int × Int × (List GCell) × Int) := ((loopO (f24_l6 a1 a2 a3 a4) (p89, p90, p91, 0)).bind fun z69 => (f24_j2 a1 a2 a3 a4 z69.1 z69.2.1 z69.2.2))
theorem f24_j1_ok {base : Orc} {d : Nat} (hd : 6 ≤ d) (a1 : GGrid) (a2 : Int) (a3 : Int) (a4 : GPen) {r : Int × Int × (List GCell) × Int} {Q : PX → St → Prop} (hQ : ∀ e st', f24_Q r e st' → Q e st') (p89 : Int) (p90 : Int) (p91 : List GCell) (hS : f24_j1 a1 a2 a3 a4 p89 p90 p91 = some r) {st : St} (he : keepSt [2, 4, 8, 11] [(40, .id 40), (72, .id 72), (96, .id 96), (208, .id 208)] [] st = f24_j1_J a1 a2 a3 a4 p89 p90 p91) : ZR (lev codes base (d - 1)) Q c24_8 [] st := by
  refine zrKeep he ?_
  unfold f24_j1 at hS
  refine zrSeq ?_
  refine zrSeq ?_
  refine zrReg ?_
  refine zlRun (n := 5) (j := 5) rfl (by kernel_rfl) ?_
  refine zlEnd (by kernel_rfl) ?_
  refine zkSeq ?_
  refine zrBlk ?_
  refine bindE hS (fun z69 hz69 hS => ?_)
  refine zrLoop (f24_l6_H a1 a2 a3 a4) (f24_l6_X a1 a2 a3 a4) (fun x st r Q h0 hS hQ => f24_l6_ok hd a1 a2 a3 a4 hQ hS h0) (x := (p89, p90, p91, 0)) (z := z69) (by show keepSt _ _ _ _ = _; kernel_rfl) hz69 ?_
  intro e st' _ hX
  obtain ⟨rfl, rfl⟩ : _ ∧ _ := hX
  refine zkBlkX ?_
  refine zkSeq ?_
  exact f24_j2_ok hd a1 a2 a3 a4 hQ z69.1 z69.2.1 z69.2.2 hS (by kernel_rfl)
def f24_j0_J (a1 : GGrid) (a2 : Int) (a3 : Int) (a4 : GPen) : St := ⟨(up (up (up (up (up (fun _ => .un) 8 (.r (.ptr 72 0 0))) 7 (.r (.ptr 64 0 0))) 4 (.r (.ptr 40 0 0))) 2 (.d (.int .i64 a3))) 1 (.d (.int .i64 a2))), (up (up (up (hB fun _ => 0) 72 ⟨0, some (.box ((.d (.int .i64 0)) :: ((.d (.int .i64 0)) :: ((.d (.sl ([] : List GCell).length (e_GCell.cells ([])))) :: []))))⟩) 64 ⟨0, some (.box ((.d (.int .i64 a4.Flags)) :: ((.d (.int .i64 a4.Fore)) :: ((.d (.int .i64 a4.Back)) :: []))))⟩) 40 ⟨0, some (.box ((.d (.int .i64 a1.Wide)) :: ((.d (.int .i64 a1.High)) :: ((.d (.sl a1.Cells.length (e_GCell.cells a1.Cells))) :: []))))⟩)⟩
noncomputable def f24_j0 (a1 : GGrid) (a2 : Int) (a3 : Int) (a4 : GPen) : Option (Int × Int × (List GCell) × Int) := ((f31 a2 a3 a4).bind fun z31 => (bif (!decide (z31.2.2.2 = 0)) then (some (0, 0, [], z31.2.2.2)) else (f24_j1 a1 a2 a3 a4 z31.1 z31.2.1 z31.2.2.1)))
theorem f24_j0_ok {base : Orc} {d : Nat} (hd : 6 ≤ d) (a1 : GGrid) (a2 : Int) (a3 : Int) (a4 : GPen) {r : Int × Int × (List GCell) × Int} {Q : PX → St → Prop} (hQ : ∀ e st', f24_Q r e st' → Q e st')  (hS : f24_j0 a1 a2 a3 a4 = some r) {st : St} (he : keepSt [1, 2, 4, 7, 8] [(40, .id 40), (64, .id 64), (72, .id 72)] [.cell 72 2 0 0 1] st = f24_j0_J a1 a2 a3 a4) : ZR (lev codes base (d - 1)) Q c24_9 [] st := by
  refine zrKeep he ?_
  unfold f24_j0 at hS
  refine zrSeq ?_
  refine zrReg ?_
  refine zlRun (n := 3) (j := 3) rfl (by kernel_rfl) ?_
  refine bindE hS (fun z31 hz31 hS => ?_)
  refine zlOp (d := some 25) (op := (.call 31 [(.tmp 22), (.tmp 23), (.tmp 24)])) (g := none) (v := (.tup [(.agg ((.d (.int .i64 z31.1)) :: ((.d (.int .i64 z31.2.1)) :: ((.r (.msl 208 1 0 z31.2.2.1.length)) :: [])))), (.d (.int .i64 z31.2.2.2))])) (ups := [(208, ⟨1, some (.own 33 4 (e_GCell.cells z31.2.2.1))⟩)]) (j := 4) rfl (by kernel_rfl) (by kernel_rfl) (ev_call (args := [(.d (.int .i64 a2)), (.d (.int .i64 a3)), (.agg ((.d (.int .i64 a4.Flags)) :: ((.d (.int .i64 a4.Fore)) :: ((.d (.int .i64 a4.Back)) :: []))))]) (l := [(.d (.int .i64 a2)), (.d (.int .i64 a3)), (.agg ((.d (.int .i64 a4.Flags)) :: ((.d (.int .i64 a4.Fore)) :: ((.d (.int .i64 a4.Back)) :: []))))]) (r := (.tup [(.agg ((.d (.int .i64 z31.1)) :: ((.d (.int .i64 z31.2.1)) :: ((.r (.own 0 33 4 z31.2.2.1.length (e_GCell.cells z31.2.2.1))) :: [])))), (.d (.int .i64 z31.2.2.2))])) (by kernel_rfl) (by kernel_rfl) (f31_ok base (d - 1) (dpt hd rfl) a2 a3 a4 z31 hz31) (by kernel_rfl) (by kernel_rfl) (by kernel_rfl)) ?_
  refine zlRun (n := 6) (j := 10) rfl (by kernel_rfl) ?_
  refine zlEnd (by kernel_rfl) ?_
  refine zkSeq ?_
  refine zrSeq ?_
  refine zrSeq ?_
  refine zrReg ?_
  refine zlRun (n := 1) (j := 1) rfl (by kernel_rfl) ?_
  refine zlBool (d := 29) (op := (.cmpI .neq (.tmp 28) (.const (.int .i64 0)))) (g := none) (j := 2) (!decide (z31.2.2.2 = 0)) rfl (by kernel_rfl) (by kernel_rfl) (by kernel_rfl) (fun hc => ?_) (fun hc => ?_)
  · replace hS := cond_t hc hS
    refine zlEnd (by kernel_rfl) ?_
    refine zkSeq ?_
    refine zrCondT (by kernel_rfl) ?_
    refine zrSeq ?_
    refine zrReg ?_
    refine zlRun (n := 4) (j := 4) rfl (by kernel_rfl) ?_
    refine zlEnd (by kernel_rfl) ?_
    refine zkSeq ?_
    refine zrRet ?_
    refine zkSeqR ?_
    refine zkNil ?_
    exact endQ hS hQ (fRet (by kernel_rfl) ((congrArg (fun s => outR s 0 c24.res) (by kernel_rfl : finSt c24.fin _ = f24_fin 0 0 [] z31.2.2.2)).trans (f24_out 0 0 [] z31.2.2.2)))
  · replace hS := cond_f hc hS
    refine zlEnd (by kernel_rfl) ?_
    refine zkSeq ?_
    refine zrCondF (by kernel_rfl) ?_
    refine zrSkip ?_
    refine zkSeq ?_
    exact f24_j1_ok hd a1 a2 a3 a4 hQ z31.1 z31.2.1 z31.2.2.1 hS (by kernel_rfl)
noncomputable def f24 (a1 : GGrid) (a2 : Int) (a3 : Int) (a4 : GPen) : Option (Int × Int × (List GCell) × Int) := ((f18 a1).bind fun z70 => (bif (!decide (z70 = 0)) then (some (0, 0, [], z70)) else (f24_j0 a1 a2 a3 a4 )))
theorem f24_ok (base : Orc) (d : Nat) (hd : 6 ≤ d) (a1 : GGrid) (a2 : Int) (a3 : Int) (a4 : GPen) (r : Int × Int × (List GCell) × Int) (hS : f24 a1 a2 a3 a4 = some r) : lev codes base d 24 [(.agg ((.d (.int .i64 a1.Wide)) :: ((.d (.int .i64 a1.High)) :: ((.d (.sl a1.Cells.length (e_GCell.cells a1.Cells))) :: [])))), (.d (.int .i64 a2)), (.d (.int .i64 a3)), (.agg ((.d (.int .i64 a4.Flags)) :: ((.d (.int .i64 a4.Fore)) :: ((.d (.int .i64 a4.Back)) :: []))))] [] = some ((.tup [(.agg ((.d (.int .i64 r.1)) :: ((.d (.int .i64 r.2.1)) :: ((.r (.own 0 33 4 r.2.2.1.length (e_GCell.cells r.2.2.1))) :: [])))), (.d (.int .i64 r.2.2.2))]), []) := by
  refine lev_go codes24 rfl rfl (Nat.le_trans (Nat.le_of_ble_eq_true rfl) hd) fun Q hQ => ?_
  unfold f24 at hS
  show ZR _ Q c24_b [] _
  replace hQ : ∀ e st', f24_Q r e st' → Q e st' := hQ
  refine zrSeq ?_
  refine zrReg ?_
  refine zlRun (n := 4) (j := 4) rfl (by kernel_rfl) ?_
  refine zlEnd (by kernel_rfl) ?_
  refine zkSeq ?_
  refine zrSeq ?_
  refine zrSeq ?_
  refine zrReg ?_
  refine zlRun (n := 1) (j := 1) rfl (by kernel_rfl) ?_
  refine bindE hS (fun z70 hz70 hS => ?_)
  refine zlOp (d := some 16) (op := (.call 18 [(.tmp 15)])) (g := none) (v := (.d (.int .i64 z70))) (ups := []) (j := 2) rfl (by kernel_rfl) (by kernel_rfl) (ev_call (args := [(.agg ((.d (.int .i64 a1.Wide)) :: ((.d (.int .i64 a1.High)) :: ((.d (.sl a1.Cells.length (e_GCell.cells a1.Cells))) :: []))))]) (l := [(.agg ((.d (.int .i64 a1.Wide)) :: ((.d (.int .i64 a1.High)) :: ((.d (.sl a1.Cells.length (e_GCell.cells a1.Cells))) :: []))))]) (r := (.d (.int .i64 z70))) (by kernel_rfl) (by kernel_rfl) (f18_ok base (d - 1) (dpt hd rfl) a1 z70 hz70) (by kernel_rfl) (by kernel_rfl) (by kernel_rfl)) ?_
  refine zlRun (n := 1) (j := 3) rfl (by kernel_rfl) ?_
  refine zlEnd (by kernel_rfl) ?_
  refine zkSeq ?_
  refine zrSeq ?_
  refine zrReg ?_
  refine zlRun (n := 1) (j := 1) rfl (by kernel_rfl) ?_
  refine zlBool (d := 18) (op := (.cmpI .neq (.tmp 17) (.const (.int .i64 0)))) (g := none) (j := 2) (!decide (z70 = 0)) rfl (by kernel_rfl) (by kernel_rfl) (by kernel_rfl) (fun hc => ?_) (fun hc => ?_)
  · replace hS := cond_t hc hS
    refine zlEnd (by kernel_rfl) ?_
    refine zkSeq ?_
    refine zrCondT (by kernel_rfl) ?_
    refine zrSeq ?_
    refine zrReg ?_
    refine zlRun (n := 4) (j := 4) rfl (by kernel_rfl) ?_
    refine zlEnd (by kernel_rfl) ?_
    refine zkSeq ?_
    refine zrRet ?_
    refine zkSeqR ?_
    refine zkNil ?_
    exact endQ hS hQ (fRet (by kernel_rfl) ((congrArg (fun s => outR s 0 c24.res) (by kernel_rfl : finSt c24.fin _ = f24_fin 0 0 [] z70)).trans (f24_out 0 0 [] z70)))
  · replace hS := cond_f hc hS
    refine zlEnd (by kernel_rfl) ?_
    refine zkSeq ?_
    refine zrCondF (by kernel_rfl) ?_
    refine zrSkip ?_
    refine zkSeq ?_
    exact f24_j0_ok hd a1 a2 a3 a4 hQ  hS (by kernel_rfl)
/- farwriter/farref.Between -/
def f44_fin (p3 : Bool) : St := ⟨(up (fun _ => .un) 6 (.d (.bool p3))), (hB fun _ => 0)⟩
theorem f44_out (p3 : Bool) : outR (f44_fin p3) 0 c44.res = some ((.d (.bool p3)), []) := by
  kernel_rfl
def f44_Q (r : Bool) (e : PX) (st : St) : Prop := DoneF c44 0 ((.d (.bool r)), []) e st
noncomputable def f44 (a1 : Int) (a2 : Int) (a3 : Int) : Option (Bool) := (bif (decide (a2 ≤ a1)) then (bif (decide (a1 ≤ a3)) then (some true) else (some false)) else (some false))
theorem f44_ok (base : Orc) (d : Nat) (hd : 1 ≤ d) (a1 : Int) (a2 : Int) (a3 : Int) (r : Bool) (hS : f44 a1 a2 a3 = some r) : lev codes base d 44 [(.d (.int .i64 a1)), (.d (.int .i64 a2)), (.d (.int .i64 a3))] [] = some ((.d (.bool r)), []) := by
  refine lev_go codes44 rfl rfl (Nat.le_trans (Nat.le_of_ble_eq_true rfl) hd) fun Q hQ => ?_
  unfold f44 at hS
  show ZR _ Q c44_b [] _
  replace hQ : ∀ e st', f44_Q r e st' → Q e st' := hQ
  refine zrSeq ?_
  refine zrReg ?_
  refine zlRun (n := 1) (j := 1) rfl (by kernel_rfl) ?_
  refine zlEnd (by kernel_rfl) ?_
  refine zkSeq ?_
  refine zrSeq ?_
  refine zrReg ?_
  refine zlRun (n := 2) (j := 2) rfl (by kernel_rfl) ?_
  refine zlBool (d := 9) (op := (.cmpI .leq (.tmp 7) (.tmp 8))) (g := none) (j := 3) (decide (a2 ≤ a1)) rfl (by kernel_rfl) (by kernel_rfl) (by kernel_rfl) (fun hc => ?_) (fun hc => ?_)
  · replace hS := cond_t hc hS
    refine zlRun (n := 3) (j := 6) rfl (by kernel_rfl) ?_
    refine zlBool (d := 13) (op := (.cmpI .leq (.tmp 11) (.tmp 12))) (g := (some (10, true))) (j := 7) (decide (a1 ≤ a3)) rfl (by kernel_rfl) (by kernel_rfl) (by kernel_rfl) (fun hc => ?_) (fun hc => ?_)
    · replace hS := cond_t hc hS
      refine zlRun (n := 2) (j := 9) rfl (by kernel_rfl) ?_
      refine zlEnd (by kernel_rfl) ?_
      refine zkSeq ?_
      refine zrRet ?_
      refine zkNil ?_
      exact endQ hS hQ (fRet (by kernel_rfl) ((congrArg (fun s => outR s 0 c44.res) (by kernel_rfl : finSt c44.fin _ = f44_fin true)).trans (f44_out true)))
    · replace hS := cond_f hc hS
      refine zlRun (n := 2) (j := 9) rfl (by kernel_rfl) ?_
      refine zlEnd (by kernel_rfl) ?_
      refine zkSeq ?_
      refine zrRet ?_
      refine zkNil ?_
      exact endQ hS hQ (fRet (by kernel_rfl) ((congrArg (fun s => outR s 0 c44.res) (by kernel_rfl : finSt c44.fin _ = f44_fin false)).trans (f44_out false)))
  · replace hS := cond_f hc hS
    refine zlRun (n := 6) (j := 9) rfl (by kernel_rfl) ?_
    refine zlEnd (by kernel_rfl) ?_
    refine zkSeq ?_
    refine zrRet ?_
    refine zkNil ?_
    exact endQ hS hQ (fRet (by kernel_rfl) ((congrArg (fun s => outR s 0 c44.res) (by kernel_rfl : finSt c44.fin _ = f44_fin false)).trans (f44_out false)))
/- farwriter/farref.SizeRight -/
def f47_fin (p2 : Bool) : St := ⟨(up (fun _ => .un) 4 (.d (.bool p2))), (hB fun _ => 0)⟩
theorem f47_out (p2 : Bool) : outR (f47_fin p2) 0 c47.res = some ((.d (.bool p2)), []) := by
  kernel_rfl
def f47_Q (r : Bool) (e : PX) (st : St) : Prop := DoneF c47 0 ((.d (.bool r)), []) e st
noncomputable def f47 (a1 : Int) (a2 : Int) : Option (Bool) := ((f44 a1 1 160).bind fun z3 => (bif z3 then ((f44 a2 1 60).bind fun z4 => (some z4)) else (some false)))
theorem f47_ok (base : Orc) (d : Nat) (hd : 2 ≤ d) (a1 : Int) (a2 : Int) (r : Bool) (hS : f47 a1 a2 = some r) : lev codes base d 47 [(.d (.int .i64 a1)), (.d (.int .i64 a2))] [] = some ((.d (.bool r)), []) := by
  refine lev_go codes47 rfl rfl (Nat.le_trans (Nat.le_of_ble_eq_true rfl) hd) fun Q hQ => ?_
  unfold f47 at hS
  show ZR _ Q c47_b [] _
  replace hQ : ∀ e st', f47_Q r e st' → Q e st' := hQ
  refine zrSeq ?_
  refine zrReg ?_
  refine zlRun (n := 1) (j := 1) rfl (by kernel_rfl) ?_
  refine zlEnd (by kernel_rfl) ?_
  refine zkSeq ?_
  refine zrSeq ?_
  refine zrReg ?_
  refine zlRun (n := 1) (j := 1) rfl (by kernel_rfl) ?_
  refine bindE hS (fun z3 hz3 hS => ?_)
  refine zlOp (d := some 6) (op := (.call 44 [(.tmp 5), (.const (.int .i64 1)), (.const (.int .i64 160))])) (g := none) (v := (.d (.bool z3))) (ups := []) (j := 2) rfl (by kernel_rfl) (by kernel_rfl) (ev_call (args := [(.d (.int .i64 a1)), (.d (.int .i64 1)), (.d (.int .i64 160))]) (l := [(.d (.int .i64 a1)), (.d (.int .i64 1)), (.d (.int .i64 160))]) (r := (.d (.bool z3))) (by kernel_rfl) (by kernel_rfl) (f44_ok base (d - 1) (dpt hd rfl) a1 1 160 z3 hz3) (by kernel_rfl) (by kernel_rfl) (by kernel_rfl)) ?_
  refine zlRun (n := 1) (j := 3) rfl (by kernel_rfl) ?_
  refine zlSplit 7 z3 (by kernel_rfl) (fun hc => ?_) (fun hc => ?_)
  · replace hS := cond_t hc hS
    refine zlRun (n := 1) (j := 4) rfl (by kernel_rfl) ?_
    refine bindE hS (fun z4 hz4 hS => ?_)
    refine zlOp (d := some 9) (op := (.call 44 [(.tmp 8), (.const (.int .i64 1)), (.const (.int .i64 60))])) (g := (some (7, true))) (v := (.d (.bool z4))) (ups := []) (j := 5) rfl (by kernel_rfl) (by kernel_rfl) (ev_call (args := [(.d (.int .i64 a2)), (.d (.int .i64 1)), (.d (.int .i64 60))]) (l := [(.d (.int .i64 a2)), (.d (.int .i64 1)), (.d (.int .i64 60))]) (r := (.d (.bool z4))) (by kernel_rfl) (by kernel_rfl) (f44_ok base (d - 1) (dpt hd rfl) a2 1 60 z4 hz4) (by kernel_rfl) (by kernel_rfl) (by kernel_rfl)) ?_
    refine zlRun (n := 2) (j := 7) rfl (by kernel_rfl) ?_
    refine zlEnd (by kernel_rfl) ?_
    refine zkSeq ?_
    refine zrRet ?_
    refine zkNil ?_
    exact endQ hS hQ (fRet (by kernel_rfl) ((congrArg (fun s => outR s 0 c47.res) (by kernel_rfl : finSt c47.fin _ = f47_fin z4)).trans (f47_out z4)))
  · replace hS := cond_f hc hS
    refine zlRun (n := 4) (j := 7) rfl (by kernel_rfl) ?_
    refine zlEnd (by kernel_rfl) ?_
    refine zkSeq ?_
    refine zrRet ?_
    refine zkNil ?_
    exact endQ hS hQ (fRet (by kernel_rfl) ((congrArg (fun s => outR s 0 c47.res) (by kernel_rfl : finSt c47.fin _ = f47_fin false)).trans (f47_out false)))
/- farwriter/farref.Rows -/
def f48_fin (p13 : List (List GCell)) : St := ⟨(up (fun _ => .un) 2 (.r (.msl 32 0 0 p13.length))), (up (hB fun _ => 0) 32 ⟨0, some (.own 22 1 ((eSl e_GCell).cells p13))⟩)⟩
theorem f48_out (p13 : List (List GCell)) : outR (f48_fin p13) 0 c48.res = some ((.r (.own 0 22 1 p13.length ((eSl e_GCell).cells p13))), []) := by
  exact out_of (ids := []) (ids' := [32]) (l := [(.r (.msl 32 0 0 p13.length))]) (by kernel_rfl) (by kernel_rfl) (o_own (eSl e_GCell) (e := 22) (k := 1) (xs := p13) (by kernel_rfl) rfl rfl rfl rfl)
def f48_Q (r : (List (List GCell))) (e : PX) (st : St) : Prop := DoneF c48 0 ((.r (.own 0 22 1 r.length ((eSl e_GCell).cells r))), []) e st
def f48_l0_J (a1 : GGrid) (x : (List (List GCell)) × Int) : St := ⟨(up (up (up (fun _ => .un) 4 (.d (.int .i64 x.2))) 3 (.r (.msl 32 0 0 x.1.length))) 1 (.r (.ptr 16 0 0))), (up (up (hB fun _ => 0) 32 ⟨0, some (.own 22 1 ((eSl e_GCell).cells x.1))⟩) 16 ⟨0, some (.box ((.d (.int .i64 a1.Wide)) :: ((.d (.int .i64 a1.High)) :: ((.d (.sl a1.Cells.length (e_GCell.cells a1.Cells))) :: []))))⟩)⟩
def f48_l0_H (a1 : GGrid) (x : (List (List GCell)) × Int) (st : St) : Prop := keepSt [1, 3, 4] [(16, .id 16), (32, .id 32)] [] st = f48_l0_J a1 x
def f48_l0_e0_J (a1 : GGrid) (p12 : List (List GCell)) : St := ⟨(up (fun _ => .un) 3 (.r (.msl 32 0 0 p12.length))), (up (hB fun _ => 0) 32 ⟨0, some (.own 22 1 ((eSl e_GCell).cells p12))⟩)⟩
def f48_l0_X (a1 : GGrid) (z : ((List (List GCell)))) (e : PX) (st : St) : Prop := e = .exit 0 ∧ st = f48_l0_e0_J a1 z
def f48_l0_j1_J (a1 : GGrid) (p17 : List (List GCell)) (p18 : Int) : St := ⟨(up (up (up (fun _ => .un) 4 (.d (.int .i64 p18))) 3 (.r (.msl 32 0 0 p17.length))) 1 (.r (.ptr 16 0 0))), (up (up (hB fun _ => 0) 32 ⟨0, some (.own 22 1 ((eSl e_GCell).cells p17))⟩) 16 ⟨0, some (.box ((.d (.int .i64 a1.Wide)) :: ((.d (.int .i64 a1.High)) :: ((.d (.sl a1.Cells.length (e_GCell.cells a1.Cells))) :: []))))⟩)⟩
noncomputable def f48_l0_j1 (a1 : GGrid) (p17 : List (List GCell)) (p18 : Int) : Option (((List (List GCell)) × Int) ⊕ (((List (List GCell))))) := ((sub? a1.Cells (IntKind.i64.wrap (p18 * a1.Wide)) (IntKind.i64.wrap ((IntKind.i64.wrap (p18 + 1)) * a1.Wide))).bind fun z10 => ((f26 z10).bind fun z11 => ((app? 24 p17 ([z11] : List (List GCell))).bind fun z12 => (some (.inl (z12, (IntKind.i64.wrap (p18 + 1))))))))
theorem f48_l0_j1_ok {base : Orc} {d : Nat} (hd : 2 ≤ d) (a1 : GGrid) {r : ((List (List GCell)) × Int) ⊕ (((List (List GCell))))} {Q : PX → St → Prop} (hQ : ∀ e st', finL (f48_l0_H a1) (f48_l0_X a1) r e st' → Q e st') (p17 : List (List GCell)) (p18 : Int) (hS : f48_l0_j1 a1 p17 p18 = some r) {st : St} (he : keepSt [1, 3, 4] [(16, .id 16), (32, .id 32)] [] st = f48_l0_j1_J a1 p17 p18) : ZR (lev codes base (d - 1)) Q c48_1 [] st := by
  refine zrKeep he ?_
  unfold f48_l0_j1 at hS
  refine zrSeq ?_
  refine zrBlk ?_
  refine zrReg ?_
  refine zlRun (n := 12) (j := 12) rfl (by kernel_rfl) ?_
  refine bindE hS (fun z10 hz10 hS => ?_)
  refine zlOp (d := some 23) (op := (.slS 33 4 (.tmp 13) (.some (.tmp 17)) (.some (.tmp 22)))) (g := none) (v := (.d (.sl z10.length (e_GCell.cells z10)))) (ups := []) (j := 13) rfl (by kernel_rfl) (by kernel_rfl) (ev_slS e_GCell (xs := a1.Cells) (a := (IntKind.i64.wrap (p18 * a1.Wide))) (c := (IntKind.i64.wrap ((IntKind.i64.wrap (p18 + 1)) * a1.Wide))) (by kernel_rfl) rfl (bnd_s _ (kk := .i64) (j := (IntKind.i64.wrap (p18 * a1.Wide))) (by kernel_rfl)) (bnd_s _ (kk := .i64) (j := (IntKind.i64.wrap ((IntKind.i64.wrap (p18 + 1)) * a1.Wide))) (by kernel_rfl)) hz10) ?_
  refine bindE hS (fun z11 hz11 hS => ?_)
  refine zlOp (d := some 24) (op := (.call 26 [(.tmp 23)])) (g := none) (v := (.r (.msl 200 1 0 z11.length))) (ups := [(200, ⟨1, some (.own 33 4 (e_GCell.cells z11))⟩)]) (j := 14) rfl (by kernel_rfl) (by kernel_rfl) (ev_call (args := [(.d (.sl z10.length (e_GCell.cells z10)))]) (l := [(.d (.sl z10.length (e_GCell.cells z10)))]) (r := (.r (.own 0 33 4 z11.length (e_GCell.cells z11)))) (by kernel_rfl) (by kernel_rfl) (f26_ok base (d - 1) (dpt hd rfl) z10 z11 hz11) (by kernel_rfl) (by kernel_rfl) (by kernel_rfl)) ?_
  refine zlOp (d := some 25) (op := (.bsl 22 1 1 [(1, (.slice .none 0 0))] [(0, (1, (.tmp 24)))])) (g := none) (v := (.r (.msl 208 1 0 (([z11] : List (List GCell)).length)))) (ups := [(200, ⟨2, none⟩), (208, ⟨1, some (.own 22 1 ((eSl e_GCell).cells ([z11])))⟩)]) (j := 15) rfl (by kernel_rfl) (by kernel_rfl) ((by kernel_rfl : peval _ _ 25 (ρof _) (.bsl 22 1 1 [(1, (.slice .none 0 0))] [(0, (1, (.tmp 24)))]) = some ((.r (.msl 208 1 0 (([z11] : List (List GCell)).length))), [(200, ⟨2, none⟩), (208, ⟨1, some (.own 22 1 [.sl z11.length (((e_GCell.cells z11).drop (0 * e_GCell.k)).take (z11.length * e_GCell.k))])⟩)])).trans (by simp only [Enc.frz]; rfl)) ?_
  refine bindE hS (fun z12 hz12 hS => ?_)
  refine zlOp (d := some 26) (op := (.app 22 1 24 (.tmp 11) (.tmp 25))) (g := none) (v := (.r (.msl 32 1 0 z12.length))) (ups := [(32, ⟨1, some (.own 22 1 ((eSl e_GCell).cells z12))⟩)]) (j := 16) rfl (by kernel_rfl) (by kernel_rfl) (ev_app (eSl e_GCell) (b := 32) (g := 0) (n := p17.length) (xs := p17) (ys := [z11]) ((congrArg (asL _) (by kernel_rfl : ρof _ (.tmp 25) = (.r (.msl 208 1 0 (([z11] : List (List GCell)).length))))).trans (as_whole (eSl e_GCell) (e := 22) (k := 1) (xs := [z11]) (by kernel_rfl) rfl rfl)) rfl (by kernel_rfl) rfl (by kernel_rfl) rfl hz12) ?_
  refine zlRun (n := 1) (j := 17) rfl (by kernel_rfl) ?_
  refine zlEnd (by kernel_rfl) ?_
  refine zkBlk ?_
  refine zkSeq ?_
  refine zrReg ?_
  refine zlRun (n := 3) (j := 3) rfl (by kernel_rfl) ?_
  refine zlEnd (by kernel_rfl) ?_
  refine zkNil ?_
  exact endQ hS hQ (finL_n (by show keepSt _ _ _ _ = _; kernel_rfl))
noncomputable def f48_l0 (a1 : GGrid) (x : (List (List GCell)) × Int) : Option (((List (List GCell)) × Int) ⊕ (((List (List GCell))))) := (bif (decide (x.2 < a1.High)) then (f48_l0_j1 a1 x.1 x.2) else (some (.inr x.1)))
theorem f48_l0_ok {base : Orc} {d : Nat} (hd : 2 ≤ d) (a1 : GGrid) {r : ((List (List GCell)) × Int) ⊕ (((List (List GCell))))} {Q : PX → St → Prop} (hQ : ∀ e st', finL (f48_l0_H a1) (f48_l0_X a1) r e st' → Q e st') {x : (List (List GCell)) × Int} (hS : f48_l0 a1 x = some r) {st : St} (he : f48_l0_H a1 x st) : ZR (lev codes base (d - 1)) Q c48_2 [] st := by
  refine zrKeep he ?_
  unfold f48_l0 at hS
  refine zrSeq ?_
  refine zrSeq ?_
  refine zrReg ?_
  refine zlRun (n := 3) (j := 3) rfl (by kernel_rfl) ?_
  refine zlBool (d := 8) (op := (.cmpI .lss (.tmp 5) (.tmp 7))) (g := none) (j := 4) (decide (x.2 < a1.High)) rfl (by kernel_rfl) (by kernel_rfl) (by kernel_rfl) (fun hc => ?_) (fun hc => ?_)
  · replace hS := cond_t hc hS
    refine zlEnd (by kernel_rfl) ?_
    refine zkSeq ?_
    refine zrCondT (by kernel_rfl) ?_
    refine zrSkip ?_
    refine zkSeq ?_
    exact f48_l0_j1_ok hd a1 hQ x.1 x.2 hS (by kernel_rfl)
  · replace hS := cond_f hc hS
    refine zlEnd (by kernel_rfl) ?_
    refine zkSeq ?_
    refine zrCondF (by kernel_rfl) ?_
    refine zrKeep (J := f48_l0_e0_J a1 x.1) (by kernel_rfl) ?_
    refine zrExit ?_
    refine zkSeqX ?_
    refine zkNil ?_
    exact endQ hS hQ (finL_x (by intro h; cases h) (by show _ = _ ∧ _ = _; exact ⟨rfl, rfl⟩))
noncomputable def f48 (a1 : GGrid) : Option ((List (List GCell))) := ((loopO (f48_l0 a1) ([], 0)).bind fun z13 => (some z13))
theorem f48_ok (base : Orc) (d : Nat) (hd : 2 ≤ d) (a1 : GGrid) (r : (List (List GCell))) (hS : f48 a1 = some r) : lev codes base d 48 [(.agg ((.d (.int .i64 a1.Wide)) :: ((.d (.int .i64 a1.High)) :: ((.d (.sl a1.Cells.length (e_GCell.cells a1.Cells))) :: []))))] [] = some ((.r (.own 0 22 1 r.length ((eSl e_GCell).cells r))), []) := by
  refine lev_go codes48 rfl rfl (Nat.le_trans (Nat.le_of_ble_eq_true rfl) hd) fun Q hQ => ?_
  unfold f48 at hS
  show ZR _ Q c48_b [] _
  replace hQ : ∀ e st', f48_Q r e st' → Q e st' := hQ
  refine zrSeq ?_
  refine zrReg ?_
  refine zlRun (n := 2) (j := 2) rfl (by kernel_rfl) ?_
  refine zlEnd (by kernel_rfl) ?_
  refine zkSeq ?_
  refine zrSeq ?_
  refine zrReg ?_
  refine zlRun (n := 1) (j := 1) rfl (by kernel_rfl) ?_
  refine zlEnd (by kernel_rfl) ?_
  refine zkSeq ?_
  refine zrSeq ?_
  refine zrSeq ?_
  refine zrReg ?_
  refine zlRun (n := 1) (j := 1) rfl (by kernel_rfl) ?_
  refine zlEnd (by kernel_rfl) ?_
  refine zkSeq ?_
  refine zrBlk ?_
  refine bindE hS (fun z13 hz13 hS => ?_)
  refine zrLoop (f48_l0_H a1) (f48_l0_X a1) (fun x st r Q h0 hS hQ => f48_l0_ok hd a1 hQ hS h0) (x := ([], 0)) (z := z13) (by show keepSt _ _ _ _ = _; kernel_rfl) hz13 ?_
  intro e st' _ hX
  obtain ⟨rfl, rfl⟩ : _ ∧ _ := hX
  refine zkBlkX ?_
  refine zkSeq ?_
  refine zrSeq ?_
  refine zrReg ?_
  refine zlRun (n := 2) (j := 2) rfl (by kernel_rfl) ?_
  refine zlEnd (by kernel_rfl) ?_
  refine zkSeq ?_
  refine zrRet ?_
  refine zkNil ?_
  exact endQ hS hQ (fRet (by kernel_rfl) ((congrArg (fun s => outR s 0 c48.res) (by kernel_rfl : finSt c48.fin _ = f48_fin z13)).trans (f48_out z13)))
/- farwriter/farref.Two -/
def f45_fin (p13 : Int) : St := ⟨(up (fun _ => .un) 2 (.d (.int .i64 p13))), (hB fun _ => 0)⟩
theorem f45_out (p13 : Int) : outR (f45_fin p13) 0 c45.res = some ((.d (.int .i64 p13)), []) := by
  kernel_rfl
def f45_Q (r : Int) (e : PX) (st : St) : Prop := DoneF c45 0 ((.d (.int .i64 r)), []) e st
def f45_l0_J (a1 : Int) (x : Int × Int) : St := ⟨(up (up (up (fun _ => .un) 5 (.d (.int .i64 x.2))) 4 (.d (.int .i64 a1))) 3 (.d (.int .i64 x.1))), (hB fun _ => 0)⟩
def f45_l0_H (a1 : Int) (x : Int × Int) (st : St) : Prop := keepSt [3, 4, 5] [] [] st = f45_l0_J a1 x
def f45_l0_e0_J (a1 : Int) (p12 : Int) : St := ⟨(up (fun _ => .un) 3 (.d (.int .i64 p12))), (hB fun _ => 0)⟩
def f45_l0_X (a1 : Int) (z : Int) (e : PX) (st : St) : Prop := e = .exit 0 ∧ st = f45_l0_e0_J a1 z
def f45_l0_j1_J (a1 : Int) (p17 : Int) (p18 : Int) (p19 : Bool) : St := ⟨(up (up (up (up (fun _ => .un) 6 (.d (.bool p19))) 5 (.d (.int .i64 p18))) 4 (.d (.int .i64 a1))) 3 (.d (.int .i64 p17))), (hB fun _ => 0)⟩
noncomputable def f45_l0_j1 (a1 : Int) (p17 : Int) (p18 : Int) (p19 : Bool) : Option ((Int × Int) ⊕ Int) := (bif p19 then (some (.inl ((IntKind.i64.wrap (p17 * 2)), (IntKind.i64.wrap (p18 + 1))))) else (some (.inr p17)))
theorem f45_l0_j1_ok {base : Orc} {d : Nat} (hd : 1 ≤ d) (a1 : Int) {r : (Int × Int) ⊕ Int} {Q : PX → St → Prop} (hQ : ∀ e st', finL (f45_l0_H a1) (f45_l0_X a1) r e st' → Q e st') (p17 : Int) (p18 : Int) (p19 : Bool) (hS : f45_l0_j1 a1 p17 p18 p19 = some r) {st : St} (he : keepSt [3, 4, 5, 6] [] [] st = f45_l0_j1_J a1 p17 p18 p19) : ZR (lev codes base (d - 1)) Q c45_1 [] st := by
  refine zrKeep he ?_
  unfold f45_l0_j1 at hS
  refine zrSeq ?_
  refine zrSplit 6 p19 (by kernel_rfl) (fun hc => ?_) (fun hc => ?_)
  · replace hS := cond_t hc hS
    refine zrCondT (by kernel_rfl) ?_
    refine zrSkip ?_
    refine zkSeq ?_
    refine zrSeq ?_
    refine zrBlk ?_
    refine zrReg ?_
    refine zlRun (n := 3) (j := 3) rfl (by kernel_rfl) ?_
    refine zlEnd (by kernel_rfl) ?_
    refine zkBlk ?_
    refine zkSeq ?_
    refine zrReg ?_
    refine zlRun (n := 2) (j := 2) rfl (by kernel_rfl) ?_
    refine zlEnd (by kernel_rfl) ?_
    refine zkNil ?_
    exact endQ hS hQ (finL_n (by show keepSt _ _ _ _ = _; kernel_rfl))
  · replace hS := cond_f hc hS
    refine zrCondF (by kernel_rfl) ?_
    refine zrKeep (J := f45_l0_e0_J a1 p17) (by kernel_rfl) ?_
    refine zrExit ?_
    refine zkSeqX ?_
    refine zkNil ?_
    exact endQ hS hQ (finL_x (by intro h; cases h) (by show _ = _ ∧ _ = _; exact ⟨rfl, rfl⟩))
noncomputable def f45_l0 (a1 : Int) (x : Int × Int) : Option ((Int × Int) ⊕ Int) := (bif (decide (x.2 < a1)) then (f45_l0_j1 a1 x.1 x.2 true) else (f45_l0_j1 a1 x.1 x.2 false))
theorem f45_l0_ok {base : Orc} {d : Nat} (hd : 1 ≤ d) (a1 : Int) {r : (Int × Int) ⊕ Int} {Q : PX → St → Prop} (hQ : ∀ e st', finL (f45_l0_H a1) (f45_l0_X a1) r e st' → Q e st') {x : Int × Int} (hS : f45_l0 a1 x = some r) {st : St} (he : f45_l0_H a1 x st) : ZR (lev codes base (d - 1)) Q c45_2 [] st := by
  refine zrKeep he ?_
  unfold f45_l0 at hS
  refine zrSeq ?_
  refine zrReg ?_
  refine zlBool (d := 6) (op := (.cmpI .lss (.tmp 5) (.tmp 4))) (g := none) (j := 1) (decide (x.2 < a1)) rfl (by kernel_rfl) (by kernel_rfl) (by kernel_rfl) (fun hc => ?_) (fun hc => ?_)
  · replace hS := cond_t hc hS
    refine zlEnd (by kernel_rfl) ?_
    refine zkSeq ?_
    exact f45_l0_j1_ok hd a1 hQ x.1 x.2 true hS (by kernel_rfl)
  · replace hS := cond_f hc hS
    refine zlEnd (by kernel_rfl) ?_
    refine zkSeq ?_
    exact f45_l0_j1_ok hd a1 hQ x.1 x.2 false hS (by kernel_rfl)
noncomputable def f45 (a1 : Int) : Option (Int) := ((loopO (f45_l0 a1) (1, 0)).bind fun z1 => (some z1))
theorem f45_ok (base : Orc) (d : Nat) (hd : 1 ≤ d) (a1 : Int) (r : Int) (hS : f45 a1 = some r) : lev codes base d 45 [(.d (.int .i64 a1))] [] = some ((.d (.int .i64 r)), []) := by
  refine lev_go codes45 rfl rfl (Nat.le_trans (Nat.le_of_ble_eq_true rfl) hd) fun Q hQ => ?_
  unfold f45 at hS
  show ZR _ Q c45_b [] _
  replace hQ : ∀ e st', f45_Q r e st' → Q e st' := hQ
  refine zrSeq ?_
  refine zrReg ?_
  refine zlRun (n := 1) (j := 1) rfl (by kernel_rfl) ?_
  refine zlEnd (by kernel_rfl) ?_
  refine zkSeq ?_
  refine zrSeq ?_
  refine zrReg ?_
  refine zlRun (n := 1) (j := 1) rfl (by kernel_rfl) ?_
  refine zlEnd (by kernel_rfl) ?_
  refine zkSeq ?_
  refine zrSeq ?_
  refine zrSeq ?_
  refine zrReg ?_
  refine zlRun (n := 2) (j := 2) rfl (by kernel_rfl) ?_
  refine zlEnd (by kernel_rfl) ?_
  refine zkSeq ?_
  refine zrBlk ?_
  refine bindE hS (fun z1 hz1 hS => ?_)
  refine zrLoop (f45_l0_H a1) (f45_l0_X a1) (fun x st r Q h0 hS hQ => f45_l0_ok hd a1 hQ hS h0) (x := (1, 0)) (z := z1) (by show keepSt _ _ _ _ = _; kernel_rfl) hz1 ?_
  intro e st' _ hX
  obtain ⟨rfl, rfl⟩ : _ ∧ _ := hX
  refine zkBlkX ?_
  refine zkSeq ?_
  refine zrSeq ?_
  refine zrReg ?_
  refine zlRun (n := 2) (j := 2) rfl (by kernel_rfl) ?_
  refine zlEnd (by kernel_rfl) ?_
  refine zkSeq ?_
  refine zrRet ?_
  refine zkNil ?_
  exact endQ hS hQ (fRet (by kernel_rfl) ((congrArg (fun s => outR s 0 c45.res) (by kernel_rfl : finSt c45.fin _ = f45_fin z1)).trans (f45_out z1)))
/- farwriter/farref.PenRight -/
def f23_fin (p13 : Int) : St := ⟨(up (fun _ => .un) 2 (.d (.int .i64 p13))), (hB fun _ => 0)⟩
theorem f23_out (p13 : Int) : outR (f23_fin p13) 0 c23.res = some ((.d (.int .i64 p13)), []) := by
  kernel_rfl
def f23_Q (r : Int) (e : PX) (st : St) : Prop := DoneF c23 0 ((.d (.int .i64 r)), []) e st
def f23_j0_J (a1 : GPen) : St := ⟨(up (fun _ => .un) 1 (.r (.ptr 16 0 0))), (up (hB fun _ => 0) 16 ⟨0, some (.box ((.d (.int .i64 a1.Flags)) :: ((.d (.int .i64 a1.Fore)) :: ((.d (.int .i64 a1.Back)) :: []))))⟩)⟩
noncomputable def f23_j0 (a1 : GPen) : Option (Int) := ((f44 a1.Flags 0 255).bind fun z20 => (bif (!z20) then (some 4) else (some 0)))
theorem f23_j0_ok {base : Orc} {d : Nat} (hd : 2 ≤ d) (a1 : GPen) {r : Int} {Q : PX → St → Prop} (hQ : ∀ e st', f23_Q r e st' → Q e st')  (hS : f23_j0 a1 = some r) {st : St} (he : keepSt [1] [(16, .id 16)] [] st = f23_j0_J a1) : ZR (lev codes base (d - 1)) Q c23_1 [] st := by
  refine zrKeep he ?_
  unfold f23_j0 at hS
  refine zrSeq ?_
  refine zrSeq ?_
  refine zrReg ?_
  refine zlRun (n := 2) (j := 2) rfl (by kernel_rfl) ?_
  refine bindE hS (fun z20 hz20 hS => ?_)
  refine zlOp (d := some 29) (op := (.call 44 [(.tmp 28), (.const (.int .i64 0)), (.const (.int .i64 255))])) (g := none) (v := (.d (.bool z20))) (ups := []) (j := 3) rfl (by kernel_rfl) (by kernel_rfl) (ev_call (args := [(.d (.int .i64 a1.Flags)), (.d (.int .i64 0)), (.d (.int .i64 255))]) (l := [(.d (.int .i64 a1.Flags)), (.d (.int .i64 0)), (.d (.int .i64 255))]) (r := (.d (.bool z20))) (by kernel_rfl) (by kernel_rfl) (f44_ok base (d - 1) (dpt hd rfl) a1.Flags 0 255 z20 hz20) (by kernel_rfl) (by kernel_rfl) (by kernel_rfl)) ?_
  refine zlRun (n := 1) (j := 4) rfl (by kernel_rfl) ?_
  refine zlEnd (by kernel_rfl) ?_
  refine zkSeq ?_
  refine zrSplit 30 (!z20) (by kernel_rfl) (fun hc => ?_) (fun hc => ?_)
  · replace hS := cond_t hc hS
    refine zrCondT (by kernel_rfl) ?_
    refine zrSeq ?_
    refine zrReg ?_
    refine zlRun (n := 1) (j := 1) rfl (by kernel_rfl) ?_
    refine zlEnd (by kernel_rfl) ?_
    refine zkSeq ?_
    refine zrRet ?_
    refine zkSeqR ?_
    refine zkNil ?_
    exact endQ hS hQ (fRet (by kernel_rfl) ((congrArg (fun s => outR s 0 c23.res) (by kernel_rfl : finSt c23.fin _ = f23_fin 4)).trans (f23_out 4)))
  · replace hS := cond_f hc hS
    refine zrCondF (by kernel_rfl) ?_
    refine zrSkip ?_
    refine zkSeq ?_
    refine zrSeq ?_
    refine zrReg ?_
    refine zlRun (n := 1) (j := 1) rfl (by kernel_rfl) ?_
    refine zlEnd (by kernel_rfl) ?_
    refine zkSeq ?_
    refine zrRet ?_
    refine zkNil ?_
    exact endQ hS hQ (fRet (by kernel_rfl) ((congrArg (fun s => outR s 0 c23.res) (by kernel_rfl : finSt c23.fin _ = f23_fin 0)).trans (f23_out 0)))
def f23_l1_J (a1 : GPen) (x : Int) : St := ⟨(up (up (up (up (fun _ => .un) 11 (.d (.int .i64 x))) 10 (.d (.int .i64 ((([a1.Fore, a1.Back] : List Int).length) : Int)))) 9 (.r (.msl 80 0 0 (([a1.Fore, a1.Back] : List Int).length)))) 1 (.r (.ptr 16 0 0))), (up (up (hB fun _ => 0) 80 ⟨0, some (.own 3 1 ((eInt .i64).cells ([a1.Fore, a1.Back])))⟩) 16 ⟨0, some (.box ((.d (.int .i64 a1.Flags)) :: ((.d (.int .i64 a1.Fore)) :: ((.d (.int .i64 a1.Back)) :: []))))⟩)⟩
def f23_l1_H (a1 : GPen) (x : Int) (st : St) : Prop := keepSt [1, 9, 10, 11] [(16, .id 16), (80, .id 80)] [] st = f23_l1_J a1 x
def f23_l1_e0_J (a1 : GPen) : St := ⟨(up (fun _ => .un) 1 (.r (.ptr 16 0 0))), (up (hB fun _ => 0) 16 ⟨0, some (.box ((.d (.int .i64 a1.Flags)) :: ((.d (.int .i64 a1.Fore)) :: ((.d (.int .i64 a1.Back)) :: []))))⟩)⟩
def f23_l1_X (a1 : GPen) (z : Unit ⊕ Int) (e : PX) (st : St) : Prop := (match z with | .inl z => e = .exit 0 ∧ st = f23_l1_e0_J a1 | .inr z => e = .ret ∧ finSt c23.fin st = f23_fin z)
def f23_l1_j3_J (a1 : GPen) (p18 : Int) : St := ⟨(up (up (up (up (fun _ => .un) 11 (.d (.int .i64 p18))) 10 (.d (.int .i64 ((([a1.Fore, a1.Back] : List Int).length) : Int)))) 9 (.r (.msl 80 0 0 (([a1.Fore, a1.Back] : List Int).length)))) 1 (.r (.ptr 16 0 0))), (up (up (hB fun _ => 0) 80 ⟨0, some (.own 3 1 ((eInt .i64).cells ([a1.Fore, a1.Back])))⟩) 16 ⟨0, some (.box ((.d (.int .i64 a1.Flags)) :: ((.d (.int .i64 a1.Fore)) :: ((.d (.int .i64 a1.Back)) :: []))))⟩)⟩
noncomputable def f23_l1_j3 (a1 : GPen) (p18 : Int) : Option (Int ⊕ (Unit ⊕ Int)) := ((inR p18 (([a1.Fore, a1.Back] : List Int).length)).bind fun m21 => ((([a1.Fore, a1.Back])[m21]?).bind fun z22 => ((f44 z22 0 256).bind fun z23 => (bif (!z23) then ((f45 24).bind fun z24 => ((f45 25).bind fun z25 => ((f44 z22 z24 (IntKind.i64.wrap (z25 - 1))).bind fun z26 => (bif (!z26) then (some (.inr (.inr 4))) else (some (.inl (IntKind.i64.wrap (p18 + 1)))))))) else (some (.inl (IntKind.i64.wrap (p18 + 1))))))))
theorem f23_l1_j3_ok {base : Orc} {d : Nat} (hd : 2 ≤ d) (a1 : GPen) {r : Int ⊕ (Unit ⊕ Int)} {Q : PX → St → Prop} (hQ : ∀ e st', finL (f23_l1_H a1) (f23_l1_X a1) r e st' → Q e st') (p18 : Int) (hS : f23_l1_j3 a1 p18 = some r) {st : St} (he : keepSt [1, 9, 10, 11] [(16, .id 16), (80, .id 80)] [] st = f23_l1_j3_J a1 p18) : ZR (lev codes base (d - 1)) Q c23_2 [] st := by
  refine zrKeep he ?_
  unfold f23_l1_j3 at hS
  refine zrSeq ?_
  refine zrBlk ?_
  refine zrSeq ?_
  refine zrReg ?_
  refine bindE hS (fun m21 hm21 hS => ?_)
  refine zlOp (d := some 13) (op := (.ixS 3 1 (.tmp 9) (.tmp 11))) (g := none) (v := (.r (.ptr 80 0 ((0 + m21) * 1)))) (ups := []) (j := 1) rfl (by kernel_rfl) (by kernel_rfl) (ev_ixM (kk := .i64) (b := 80) (g := 0) (l := 0) (n := ([a1.Fore, a1.Back] : List Int).length) (j := p18) (cs := (eInt .i64).cells ([a1.Fore, a1.Back])) (by kernel_rfl) (by kernel_rfl) (by kernel_rfl) hm21) ?_
  refine bindE hS (fun z22 hz22 hS => ?_)
  refine zlOp (d := some 14) (op := (.load .false 1 (.tmp 13))) (g := none) (v := (.d (.int .i64 z22))) (ups := []) (j := 2) rfl (by kernel_rfl) (by kernel_rfl) (ev_loadM (eInt .i64) (b := 80) (g := 0) (o := (0 + m21) * 1) (e := 3) (k := 1) (m := m21) (fo := 0) (xs := [a1.Fore, a1.Back]) (by kernel_rfl) (by kernel_rfl) (by rw [Nat.zero_add]; rfl) hz22 (by kernel_rfl) (by kernel_rfl) (by kernel_rfl)) ?_
  refine zlRun (n := 1) (j := 3) rfl (by kernel_rfl) ?_
  refine zlEnd (by kernel_rfl) ?_
  refine zkSeq ?_
  refine zrSeq ?_
  refine zrReg ?_
  refine zlRun (n := 1) (j := 1) rfl (by kernel_rfl) ?_
  refine bindE hS (fun z23 hz23 hS => ?_)
  refine zlOp (d := some 16) (op := (.call 44 [(.tmp 15), (.const (.int .i64 0)), (.const (.int .i64 256))])) (g := none) (v := (.d (.bool z23))) (ups := []) (j := 2) rfl (by kernel_rfl) (by kernel_rfl) (ev_call (args := [(.d (.int .i64 z22)), (.d (.int .i64 0)), (.d (.int .i64 256))]) (l := [(.d (.int .i64 z22)), (.d (.int .i64 0)), (.d (.int .i64 256))]) (r := (.d (.bool z23))) (by kernel_rfl) (by kernel_rfl) (f44_ok base (d - 1) (dpt hd rfl) z22 0 256 z23 hz23) (by kernel_rfl) (by kernel_rfl) (by kernel_rfl)) ?_
  refine zlRun (n := 2) (j := 4) rfl (by kernel_rfl) ?_
  refine zlSplit 18 (!z23) (by kernel_rfl) (fun hc => ?_) (fun hc => ?_)
  · replace hS := cond_t hc hS
    refine zlRun (n := 1) (j := 5) rfl (by kernel_rfl) ?_
    refine bindE hS (fun z24 hz24 hS => ?_)
    refine zlOp (d := some 20) (op := (.call 45 [(.const (.int .i64 24))])) (g := (some (18, true))) (v := (.d (.int .i64 z24))) (ups := []) (j := 6) rfl (by kernel_rfl) (by kernel_rfl) (ev_call (args := [(.d (.int .i64 24))]) (l := [(.d (.int .i64 24))]) (r := (.d (.int .i64 z24))) (by kernel_rfl) (by kernel_rfl) (f45_ok base (d - 1) (dpt hd rfl) 24 z24 hz24) (by kernel_rfl) (by kernel_rfl) (by kernel_rfl)) ?_
    refine bindE hS (fun z25 hz25 hS => ?_)
    refine zlOp (d := some 21) (op := (.call 45 [(.const (.int .i64 25))])) (g := (some (18, true))) (v := (.d (.int .i64 z25))) (ups := []) (j := 7) rfl (by kernel_rfl) (by kernel_rfl) (ev_call (args := [(.d (.int .i64 25))]) (l := [(.d (.int .i64 25))]) (r := (.d (.int .i64 z25))) (by kernel_rfl) (by kernel_rfl) (f45_ok base (d - 1) (dpt hd rfl) 25 z25 hz25) (by kernel_rfl) (by kernel_rfl) (by kernel_rfl)) ?_
    refine zlRun (n := 1) (j := 8) rfl (by kernel_rfl) ?_
    refine bindE hS (fun z26 hz26 hS => ?_)
    refine zlOp (d := some 23) (op := (.call 44 [(.tmp 19), (.tmp 20), (.tmp 22)])) (g := (some (18, true))) (v := (.d (.bool z26))) (ups := []) (j := 9) rfl (by kernel_rfl) (by kernel_rfl) (ev_call (args := [(.d (.int .i64 z22)), (.d (.int .i64 z24)), (.d (.int .i64 (IntKind.i64.wrap (z25 - 1))))]) (l := [(.d (.int .i64 z22)), (.d (.int .i64 z24)), (.d (.int .i64 (IntKind.i64.wrap (z25 - 1))))]) (r := (.d (.bool z26))) (by kernel_rfl) (by kernel_rfl) (f44_ok base (d - 1) (dpt hd rfl) z22 z24 (IntKind.i64.wrap (z25 - 1)) z26 hz26) (by kernel_rfl) (by kernel_rfl) (by kernel_rfl)) ?_
    refine zlRun (n := 2) (j := 11) rfl (by kernel_rfl) ?_
    refine zlEnd (by kernel_rfl) ?_
    refine zkSeq ?_
    refine zrSplit 25 (!z26) (by kernel_rfl) (fun hc => ?_) (fun hc => ?_)
    · replace hS := cond_t hc hS
      refine zrCondT (by kernel_rfl) ?_
      refine zrSeq ?_
      refine zrReg ?_
      refine zlRun (n := 1) (j := 1) rfl (by kernel_rfl) ?_
      refine zlEnd (by kernel_rfl) ?_
      refine zkSeq ?_
      refine zrRet ?_
      refine zkBlkR ?_
      refine zkSeqR ?_
      refine zkNil ?_
      exact endQ hS hQ (finL_x (by intro h; cases h) (by show _ = _ ∧ _ = _; exact ⟨rfl, by kernel_rfl⟩))
    · replace hS := cond_f hc hS
      refine zrCondF (by kernel_rfl) ?_
      refine zrSkip ?_
      refine zkBlk ?_
      refine zkSeq ?_
      refine zrReg ?_
      refine zlRun (n := 2) (j := 2) rfl (by kernel_rfl) ?_
      refine zlEnd (by kernel_rfl) ?_
      refine zkNil ?_
      exact endQ hS hQ (finL_n (by show keepSt _ _ _ _ = _; kernel_rfl))
  · replace hS := cond_f hc hS
    refine zlRun (n := 7) (j := 11) rfl (by kernel_rfl) ?_
    refine zlEnd (by kernel_rfl) ?_
    refine zkSeq ?_
    refine zrCondF (by kernel_rfl) ?_
    refine zrSkip ?_
    refine zkBlk ?_
    refine zkSeq ?_
    refine zrReg ?_
    refine zlRun (n := 2) (j := 2) rfl (by kernel_rfl) ?_
    refine zlEnd (by kernel_rfl) ?_
    refine zkNil ?_
    exact endQ hS hQ (finL_n (by show keepSt _ _ _ _ = _; kernel_rfl))
def f23_l1_j2_J (a1 : GPen) (p16 : Int) (p17 : Bool) : St := ⟨(up (up (up (up (up (fun _ => .un) 12 (.d (.bool p17))) 11 (.d (.int .i64 p16))) 10 (.d (.int .i64 ((([a1.Fore, a1.Back] : List Int).length) : Int)))) 9 (.r (.msl 80 0 0 (([a1.Fore, a1.Back] : List Int).length)))) 1 (.r (.ptr 16 0 0))), (up (up (hB fun _ => 0) 80 ⟨0, some (.own 3 1 ((eInt .i64).cells ([a1.Fore, a1.Back])))⟩) 16 ⟨0, some (.box ((.d (.int .i64 a1.Flags)) :: ((.d (.int .i64 a1.Fore)) :: ((.d (.int .i64 a1.Back)) :: []))))⟩)⟩
noncomputable def f23_l1_j2 (a1 : GPen) (p16 : Int) (p17 : Bool) : Option (Int ⊕ (Unit ⊕ Int)) := (bif p17 then (f23_l1_j3 a1 p16) else (some (.inr (.inl ()))))
theorem f23_l1_j2_ok {base : Orc} {d : Nat} (hd : 2 ≤ d) (a1 : GPen) {r : Int ⊕ (Unit ⊕ Int)} {Q : PX → St → Prop} (hQ : ∀ e st', finL (f23_l1_H a1) (f23_l1_X a1) r e st' → Q e st') (p16 : Int) (p17 : Bool) (hS : f23_l1_j2 a1 p16 p17 = some r) {st : St} (he : keepSt [1, 9, 10, 11, 12] [(16, .id 16), (80, .id 80)] [] st = f23_l1_j2_J a1 p16 p17) : ZR (lev codes base (d - 1)) Q c23_3 [] st := by
  refine zrKeep he ?_
  unfold f23_l1_j2 at hS
  refine zrSeq ?_
  refine zrSplit 12 p17 (by kernel_rfl) (fun hc => ?_) (fun hc => ?_)
  · replace hS := cond_t hc hS
    refine zrCondT (by kernel_rfl) ?_
    refine zrSkip ?_
    refine zkSeq ?_
    exact f23_l1_j3_ok hd a1 hQ p16 hS (by kernel_rfl)
  · replace hS := cond_f hc hS
    refine zrCondF (by kernel_rfl) ?_
    refine zrKeep (J := f23_l1_e0_J a1) (by kernel_rfl) ?_
    refine zrExit ?_
    refine zkSeqX ?_
    refine zkNil ?_
    exact endQ hS hQ (finL_x (by intro h; cases h) (by show _ = _ ∧ _ = _; exact ⟨rfl, rfl⟩))
noncomputable def f23_l1 (a1 : GPen) (x : Int) : Option (Int ⊕ (Unit ⊕ Int)) := (bif (decide (x < ((([a1.Fore, a1.Back] : List Int).length) : Int))) then (f23_l1_j2 a1 x true) else (f23_l1_j2 a1 x false))
theorem f23_l1_ok {base : Orc} {d : Nat} (hd : 2 ≤ d) (a1 : GPen) {r : Int ⊕ (Unit ⊕ Int)} {Q : PX → St → Prop} (hQ : ∀ e st', finL (f23_l1_H a1) (f23_l1_X a1) r e st' → Q e st') {x : Int} (hS : f23_l1 a1 x = some r) {st : St} (he : f23_l1_H a1 x st) : ZR (lev codes base (d - 1)) Q c23_4 [] st := by
  refine zrKeep he ?_
  unfold f23_l1 at hS
  refine zrSeq ?_
  refine zrReg ?_
  refine zlBool (d := 12) (op := (.cmpI .lss (.tmp 11) (.tmp 10))) (g := none) (j := 1) (decide (x < ((([a1.Fore, a1.Back] : List Int).length) : Int))) rfl (by kernel_rfl) (by kernel_rfl) (by kernel_rfl) (fun hc => ?_) (fun hc => ?_)
  · replace hS := cond_t hc hS
    refine zlEnd (by kernel_rfl) ?_
    refine zkSeq ?_
    exact f23_l1_j2_ok hd a1 hQ x true hS (by kernel_rfl)
  · replace hS := cond_f hc hS
    refine zlEnd (by kernel_rfl) ?_
    refine zkSeq ?_
    exact f23_l1_j2_ok hd a1 hQ x false hS (by kernel_rfl)
noncomputable def f23 (a1 : GPen) : Option (Int) := ((loopO (f23_l1 a1) 0).bind fun z27 => (Sum.elim (fun z28 => (f23_j0 a1 )) (fun z29 => (some z29)) z27))
theorem f23_ok (base : Orc) (d : Nat) (hd : 2 ≤ d) (a1 : GPen) (r : Int) (hS : f23 a1 = some r) : lev codes base d 23 [(.agg ((.d (.int .i64 a1.Flags)) :: ((.d (.int .i64 a1.Fore)) :: ((.d (.int .i64 a1.Back)) :: []))))] [] = some ((.d (.int .i64 r)), []) := by
  refine lev_go codes23 rfl rfl (Nat.le_trans (Nat.le_of_ble_eq_true rfl) hd) fun Q hQ => ?_
  unfold f23 at hS
  show ZR _ Q c23_b [] _
  replace hQ : ∀ e st', f23_Q r e st' → Q e st' := hQ
  refine zrSeq ?_
  refine zrReg ?_
  refine zlRun (n := 2) (j := 2) rfl (by kernel_rfl) ?_
  refine zlEnd (by kernel_rfl) ?_
  refine zkSeq ?_
  refine zrSeq ?_
  refine zrSeq ?_
  refine zrReg ?_
  refine zlRun (n := 7) (j := 7) rfl (by kernel_rfl) ?_
  refine zlEnd (by kernel_rfl) ?_
  refine zkSeq ?_
  refine zrBlk ?_
  refine bindE hS (fun z27 hz27 hS => ?_)
  refine zrLoop (f23_l1_H a1) (f23_l1_X a1) (fun x st r Q h0 hS hQ => f23_l1_ok hd a1 hQ hS h0) (x := 0) (z := z27) (by show keepSt _ _ _ _ = _; kernel_rfl) hz27 ?_
  rcases z27 with z28 | z29
  · replace hS := (show _ = _ from hS)
    simp only [Sum.elim_inl] at hS
    intro e st' _ hX
    obtain ⟨rfl, rfl⟩ : _ ∧ _ := hX
    refine zkBlkX ?_
    refine zkSeq ?_
    exact f23_j0_ok hd a1 hQ  hS (by kernel_rfl)
  · simp only [Sum.elim_inr] at hS
    intro e st' _ hX
    obtain ⟨rfl, hX⟩ : _ ∧ _ := hX
    refine zkBlkR ?_
    refine zkSeqR ?_
    refine zkNil ?_
    exact endQ hS hQ (fRet (by kernel_rfl) ((congrArg (fun s => outR s 0 c23.res) hX).trans (f23_out z29)))
/- farwriter/farref.Rune -/
def f32_fin (p2 : Bool) : St := ⟨(up (fun _ => .un) 2 (.d (.bool p2))), (hB fun _ => 0)⟩
theorem f32_out (p2 : Bool) : outR (f32_fin p2) 0 c32.res = some ((.d (.bool p2)), []) := by
  kernel_rfl
def f32_Q (r : Bool) (e : PX) (st : St) : Prop := DoneF c32 0 ((.d (.bool r)), []) e st
noncomputable def f32 (a1 : Int) : Option (Bool) := ((f44 a1 0 55295).bind fun z3 => (bif z3 then (some true) else ((f44 a1 57344 1114111).bind fun z4 => (some z4))))
theorem f32_ok (base : Orc) (d : Nat) (hd : 2 ≤ d) (a1 : Int) (r : Bool) (hS : f32 a1 = some r) : lev codes base d 32 [(.d (.int .i64 a1))] [] = some ((.d (.bool r)), []) := by
  refine lev_go codes32 rfl rfl (Nat.le_trans (Nat.le_of_ble_eq_true rfl) hd) fun Q hQ => ?_
  unfold f32 at hS
  show ZR _ Q c32_b [] _
  replace hQ : ∀ e st', f32_Q r e st' → Q e st' := hQ
  refine zrSeq ?_
  refine zrReg ?_
  refine zlRun (n := 1) (j := 1) rfl (by kernel_rfl) ?_
  refine zlEnd (by kernel_rfl) ?_
  refine zkSeq ?_
  refine zrSeq ?_
  refine zrReg ?_
  refine zlRun (n := 1) (j := 1) rfl (by kernel_rfl) ?_
  refine bindE hS (fun z3 hz3 hS => ?_)
  refine zlOp (d := some 4) (op := (.call 44 [(.tmp 3), (.const (.int .i64 0)), (.const (.int .i64 55295))])) (g := none) (v := (.d (.bool z3))) (ups := []) (j := 2) rfl (by kernel_rfl) (by kernel_rfl) (ev_call (args := [(.d (.int .i64 a1)), (.d (.int .i64 0)), (.d (.int .i64 55295))]) (l := [(.d (.int .i64 a1)), (.d (.int .i64 0)), (.d (.int .i64 55295))]) (r := (.d (.bool z3))) (by kernel_rfl) (by kernel_rfl) (f44_ok base (d - 1) (dpt hd rfl) a1 0 55295 z3 hz3) (by kernel_rfl) (by kernel_rfl) (by kernel_rfl)) ?_
  refine zlRun (n := 1) (j := 3) rfl (by kernel_rfl) ?_
  refine zlSplit 5 z3 (by kernel_rfl) (fun hc => ?_) (fun hc => ?_)
  · replace hS := cond_t hc hS
    refine zlRun (n := 4) (j := 7) rfl (by kernel_rfl) ?_
    refine zlEnd (by kernel_rfl) ?_
    refine zkSeq ?_
    refine zrRet ?_
    refine zkNil ?_
    exact endQ hS hQ (fRet (by kernel_rfl) ((congrArg (fun s => outR s 0 c32.res) (by kernel_rfl : finSt c32.fin _ = f32_fin true)).trans (f32_out true)))
  · replace hS := cond_f hc hS
    refine zlRun (n := 1) (j := 4) rfl (by kernel_rfl) ?_
    refine bindE hS (fun z4 hz4 hS => ?_)
    refine zlOp (d := some 7) (op := (.call 44 [(.tmp 6), (.const (.int .i64 57344)), (.const (.int .i64 1114111))])) (g := (some (5, false))) (v := (.d (.bool z4))) (ups := []) (j := 5) rfl (by kernel_rfl) (by kernel_rfl) (ev_call (args := [(.d (.int .i64 a1)), (.d (.int .i64 57344)), (.d (.int .i64 1114111))]) (l := [(.d (.int .i64 a1)), (.d (.int .i64 57344)), (.d (.int .i64 1114111))]) (r := (.d (.bool z4))) (by kernel_rfl) (by kernel_rfl) (f44_ok base (d - 1) (dpt hd rfl) a1 57344 1114111 z4 hz4) (by kernel_rfl) (by kernel_rfl) (by kernel_rfl)) ?_
    refine zlRun (n := 2) (j := 7) rfl (by kernel_rfl) ?_
    refine zlEnd (by kernel_rfl) ?_
    refine zkSeq ?_
    refine zrRet ?_
    refine zkNil ?_
    exact endQ hS hQ (fRet (by kernel_rfl) ((congrArg (fun s => outR s 0 c32.res) (by kernel_rfl : finSt c32.fin _ = f32_fin z4)).trans (f32_out z4)))
/- farwriter/farref.Width -/
def f11_fin (p28 : Int) : St := ⟨(up (fun _ => .un) 2 (.d (.int .i64 p28))), (hB fun _ => 0)⟩
theorem f11_out (p28 : Int) : outR (f11_fin p28) 0 c11.res = some ((.d (.int .i64 p28)), []) := by
  kernel_rfl
def f11_Q (r : Int) (e : PX) (st : St) : Prop := DoneF c11 0 ((.d (.int .i64 r)), []) e st
def f11_l1_J (a1 : Int) (x : Int × Int) : St := ⟨(up (up (up (up (up (fun _ => .un) 45 (.d (.int .i64 x.2))) 44 (.d (.int .i64 ((([(0, 0), (32, 1), (127, 0), (160, 1), (768, 0), (880, 1), (4352, 2), (4448, 1), (8203, 0), (8208, 1), (11904, 2), (12351, 1), (12353, 2), (19904, 1), (19968, 2), (42192, 1), (44032, 2), (55204, 1), (63744, 2), (64256, 1), (65024, 0), (65040, 1), (65072, 2), (65136, 1), (65280, 2), (65377, 1), (65504, 2), (65511, 1), (127744, 2), (128592, 1), (129280, 2), (129536, 1), (131072, 2), (262142, 1)] : List (Int × Int)).length) : Int)))) 43 (.r (.msl 352 0 0 (([(0, 0), (32, 1), (127, 0), (160, 1), (768, 0), (880, 1), (4352, 2), (4448, 1), (8203, 0), (8208, 1), (11904, 2), (12351, 1), (12353, 2), (19904, 1), (19968, 2), (42192, 1), (44032, 2), (55204, 1), (63744, 2), (64256, 1), (65024, 0), (65040, 1), (65072, 2), (65136, 1), (65280, 2), (65377, 1), (65504, 2), (65511, 1), (127744, 2), (128592, 1), (129280, 2), (129536, 1), (131072, 2), (262142, 1)] : List (Int × Int)).length)))) 3 (.d (.int .i64 x.1))) 0 (.d (.int .i64 a1))), (up (hB fun _ => 0) 352 ⟨0, some (.own 61 2 (e_A61.cells ([(0, 0), (32, 1), (127, 0), (160, 1), (768, 0), (880, 1), (4352, 2), (4448, 1), (8203, 0), (8208, 1), (11904, 2), (12351, 1), (12353, 2), (19904, 1), (19968, 2), (42192, 1), (44032, 2), (55204, 1), (63744, 2), (64256, 1), (65024, 0), (65040, 1), (65072, 2), (65136, 1), (65280, 2), (65377, 1), (65504, 2), (65511, 1), (127744, 2), (128592, 1), (129280, 2), (129536, 1), (131072, 2), (262142, 1)])))⟩)⟩
def f11_l1_H (a1 : Int) (x : Int × Int) (st : St) : Prop := keepSt [0, 3, 43, 44, 45] [(352, .id 352)] [] st = f11_l1_J a1 x
def f11_l1_e0_J (a1 : Int) (p27 : Int) : St := ⟨(up (fun _ => .un) 3 (.d (.int .i64 p27))), (hB fun _ => 0)⟩
def f11_l1_X (a1 : Int) (z : Int) (e : PX) (st : St) : Prop := e = .exit 0 ∧ st = f11_l1_e0_J a1 z
def f11_l1_j3_J (a1 : Int) (p35 : Int) (p36 : Int) : St := ⟨(up (up (up (up (up (fun _ => .un) 45 (.d (.int .i64 p36))) 44 (.d (.int .i64 ((([(0, 0), (32, 1), (127, 0), (160, 1), (768, 0), (880, 1), (4352, 2), (4448, 1), (8203, 0), (8208, 1), (11904, 2), (12351, 1), (12353, 2), (19904, 1), (19968, 2), (42192, 1), (44032, 2), (55204, 1), (63744, 2), (64256, 1), (65024, 0), (65040, 1), (65072, 2), (65136, 1), (65280, 2), (65377, 1), (65504, 2), (65511, 1), (127744, 2), (128592, 1), (129280, 2), (129536, 1), (131072, 2), (262142, 1)] : List (Int × Int)).length) : Int)))) 43 (.r (.msl 352 0 0 (([(0, 0), (32, 1), (127, 0), (160, 1), (768, 0), (880, 1), (4352, 2), (4448, 1), (8203, 0), (8208, 1), (11904, 2), (12351, 1), (12353, 2), (19904, 1), (19968, 2), (42192, 1), (44032, 2), (55204, 1), (63744, 2), (64256, 1), (65024, 0), (65040, 1), (65072, 2), (65136, 1), (65280, 2), (65377, 1), (65504, 2), (65511, 1), (127744, 2), (128592, 1), (129280, 2), (129536, 1), (131072, 2), (262142, 1)] : List (Int × Int)).length)))) 3 (.d (.int .i64 p35))) 0 (.d (.int .i64 a1))), (up (hB fun _ => 0) 352 ⟨0, some (.own 61 2 (e_A61.cells ([(0, 0), (32, 1), (127, 0), (160, 1), (768, 0), (880, 1), (4352, 2), (4448, 1), (8203, 0), (8208, 1), (11904, 2), (12351, 1), (12353, 2), (19904, 1), (19968, 2), (42192, 1), (44032, 2), (55204, 1), (63744, 2), (64256, 1), (65024, 0), (65040, 1), (65072, 2), (65136, 1), (65280, 2), (65377, 1), (65504, 2), (65511, 1), (127744, 2), (128592, 1), (129280, 2), (129536, 1), (131072, 2), (262142, 1)])))⟩)⟩
noncomputable def f11_l1_j3 (a1 : Int) (p35 : Int) (p36 : Int) : Option ((Int × Int) ⊕ Int) := ((inR p36 (([(0, 0), (32, 1), (127, 0), (160, 1), (768, 0), (880, 1), (4352, 2), (4448, 1), (8203, 0), (8208, 1), (11904, 2), (12351, 1), (12353, 2), (19904, 1), (19968, 2), (42192, 1), (44032, 2), (55204, 1), (63744, 2), (64256, 1), (65024, 0), (65040, 1), (65072, 2), (65136, 1), (65280, 2), (65377, 1), (65504, 2), (65511, 1), (127744, 2), (128592, 1), (129280, 2), (129536, 1), (131072, 2), (262142, 1)] : List (Int × Int)).length)).bind fun m9 => ((([(0, 0), (32, 1), (127, 0), (160, 1), (768, 0), (880, 1), (4352, 2), (4448, 1), (8203, 0), (8208, 1), (11904, 2), (12351, 1), (12353, 2), (19904, 1), (19968, 2), (42192, 1), (44032, 2), (55204, 1), (63744, 2), (64256, 1), (65024, 0), (65040, 1), (65072, 2), (65136, 1), (65280, 2), (65377, 1), (65504, 2), (65511, 1), (127744, 2), (128592, 1), (129280, 2), (129536, 1), (131072, 2), (262142, 1)])[m9]?).bind fun z10 => (bif (decide (z10.1 ≤ a1)) then (some (.inl (z10.2, (IntKind.i64.wrap (p36 + 1))))) else (some (.inl (p35, (IntKind.i64.wrap (p36 + 1))))))))
theorem f11_l1_j3_ok {base : Orc} {d : Nat} (hd : 3 ≤ d) (a1 : Int) {r : (Int × Int) ⊕ Int} {Q : PX → St → Prop} (hQ : ∀ e st', finL (f11_l1_H a1) (f11_l1_X a1) r e st' → Q e st') (p35 : Int) (p36 : Int) (hS : f11_l1_j3 a1 p35 p36 = some r) {st : St} (he : keepSt [0, 3, 43, 44, 45] [(352, .id 352)] [] st = f11_l1_j3_J a1 p35 p36) : ZR (lev codes base (d - 1)) Q c11_1 [] st := by
  refine zrKeep he ?_
  unfold f11_l1_j3 at hS
  refine zrSeq ?_
  refine zrBlk ?_
  refine zrSeq ?_
  refine zrReg ?_
  refine bindE hS (fun m9 hm9 hS => ?_)
  refine zlOp (d := some 47) (op := (.ixS 61 2 (.tmp 43) (.tmp 45))) (g := none) (v := (.r (.ptr 352 0 ((0 + m9) * 2)))) (ups := []) (j := 1) rfl (by kernel_rfl) (by kernel_rfl) (ev_ixM (kk := .i64) (b := 352) (g := 0) (l := 0) (n := ([(0, 0), (32, 1), (127, 0), (160, 1), (768, 0), (880, 1), (4352, 2), (4448, 1), (8203, 0), (8208, 1), (11904, 2), (12351, 1), (12353, 2), (19904, 1), (19968, 2), (42192, 1), (44032, 2), (55204, 1), (63744, 2), (64256, 1), (65024, 0), (65040, 1), (65072, 2), (65136, 1), (65280, 2), (65377, 1), (65504, 2), (65511, 1), (127744, 2), (128592, 1), (129280, 2), (129536, 1), (131072, 2), (262142, 1)] : List (Int × Int)).length) (j := p36) (cs := e_A61.cells ([(0, 0), (32, 1), (127, 0), (160, 1), (768, 0), (880, 1), (4352, 2), (4448, 1), (8203, 0), (8208, 1), (11904, 2), (12351, 1), (12353, 2), (19904, 1), (19968, 2), (42192, 1), (44032, 2), (55204, 1), (63744, 2), (64256, 1), (65024, 0), (65040, 1), (65072, 2), (65136, 1), (65280, 2), (65377, 1), (65504, 2), (65511, 1), (127744, 2), (128592, 1), (129280, 2), (129536, 1), (131072, 2), (262142, 1)])) (by kernel_rfl) (by kernel_rfl) (by kernel_rfl) hm9) ?_
  refine bindE hS (fun z10 hz10 hS => ?_)
  refine zlOp (d := some 48) (op := (.load .true 2 (.tmp 47))) (g := none) (v := (.agg ((.d (.int .i64 z10.1)) :: ((.d (.int .i64 z10.2)) :: [])))) (ups := []) (j := 2) rfl (by kernel_rfl) (by kernel_rfl) (ev_loadM e_A61 (b := 352) (g := 0) (o := (0 + m9) * 2) (e := 61) (k := 2) (m := m9) (fo := 0) (xs := [(0, 0), (32, 1), (127, 0), (160, 1), (768, 0), (880, 1), (4352, 2), (4448, 1), (8203, 0), (8208, 1), (11904, 2), (12351, 1), (12353, 2), (19904, 1), (19968, 2), (42192, 1), (44032, 2), (55204, 1), (63744, 2), (64256, 1), (65024, 0), (65040, 1), (65072, 2), (65136, 1), (65280, 2), (65377, 1), (65504, 2), (65511, 1), (127744, 2), (128592, 1), (129280, 2), (129536, 1), (131072, 2), (262142, 1)]) (by kernel_rfl) (by kernel_rfl) (by rw [Nat.zero_add]; rfl) hz10 (by kernel_rfl) (by kernel_rfl) (by kernel_rfl)) ?_
  refine zlRun (n := 2) (j := 4) rfl (by kernel_rfl) ?_
  refine zlEnd (by kernel_rfl) ?_
  refine zkSeq ?_
  refine zrSeq ?_
  refine zrReg ?_
  refine zlRun (n := 3) (j := 3) rfl (by kernel_rfl) ?_
  refine zlBool (d := 52) (op := (.cmpI .geq (.tmp 49) (.tmp 51))) (g := none) (j := 4) (decide (z10.1 ≤ a1)) rfl (by kernel_rfl) (by kernel_rfl) (by kernel_rfl) (fun hc => ?_) (fun hc => ?_)
  · replace hS := cond_t hc hS
    refine zlEnd (by kernel_rfl) ?_
    refine zkSeq ?_
    refine zrCondT (by kernel_rfl) ?_
    refine zrReg ?_
    refine zlRun (n := 3) (j := 3) rfl (by kernel_rfl) ?_
    refine zlEnd (by kernel_rfl) ?_
    refine zkBlk ?_
    refine zkSeq ?_
    refine zrReg ?_
    refine zlRun (n := 2) (j := 2) rfl (by kernel_rfl) ?_
    refine zlEnd (by kernel_rfl) ?_
    refine zkNil ?_
    exact endQ hS hQ (finL_n (by show keepSt _ _ _ _ = _; kernel_rfl))
  · replace hS := cond_f hc hS
    refine zlEnd (by kernel_rfl) ?_
    refine zkSeq ?_
    refine zrCondF (by kernel_rfl) ?_
    refine zrSkip ?_
    refine zkBlk ?_
    refine zkSeq ?_
    refine zrReg ?_
    refine zlRun (n := 2) (j := 2) rfl (by kernel_rfl) ?_
    refine zlEnd (by kernel_rfl) ?_
    refine zkNil ?_
    exact endQ hS hQ (finL_n (by show keepSt _ _ _ _ = _; kernel_rfl))
def f11_l1_j2_J (a1 : Int) (p32 : Int) (p33 : Int) (p34 : Bool) : St := ⟨(up (up (up (up (up (up (fun _ => .un) 46 (.d (.bool p34))) 45 (.d (.int .i64 p33))) 44 (.d (.int .i64 ((([(0, 0), (32, 1), (127, 0), (160, 1), (768, 0), (880, 1), (4352, 2), (4448, 1), (8203, 0), (8208, 1), (11904, 2), (12351, 1), (12353, 2), (19904, 1), (19968, 2), (42192, 1), (44032, 2), (55204, 1), (63744, 2), (64256, 1), (65024, 0), (65040, 1), (65072, 2), (65136, 1), (65280, 2), (65377, 1), (65504, 2), (65511, 1), (127744, 2), (128592, 1), (129280, 2), (129536, 1), (131072, 2), (262142, 1)] : List (Int × Int)).length) : Int)))) 43 (.r (.msl 352 0 0 (([(0, 0), (32, 1), (127, 0), (160, 1), (768, 0), (880, 1), (4352, 2), (4448, 1), (8203, 0), (8208, 1), (11904, 2), (12351, 1), (12353, 2), (19904, 1), (19968, 2), (42192, 1), (44032, 2), (55204, 1), (63744, 2), (64256, 1), (65024, 0), (65040, 1), (65072, 2), (65136, 1), (65280, 2), (65377, 1), (65504, 2), (65511, 1), (127744, 2), (128592, 1), (129280, 2), (129536, 1), (131072, 2), (262142, 1)] : List (Int × Int)).length)))) 3 (.d (.int .i64 p32))) 0 (.d (.int .i64 a1))), (up (hB fun _ => 0) 352 ⟨0, some (.own 61 2 (e_A61.cells ([(0, 0), (32, 1), (127, 0), (160, 1), (768, 0), (880, 1), (4352, 2), (4448, 1), (8203, 0), (8208, 1), (11904, 2), (12351, 1), (12353, 2), (19904, 1), (19968, 2), (42192, 1), (44032, 2), (55204, 1), (63744, 2), (64256, 1), (65024, 0), (65040, 1), (65072, 2), (65136, 1), (65280, 2), (65377, 1), (65504, 2), (65511, 1), (127744, 2), (128592, 1), (129280, 2), (129536, 1), (131072, 2), (262142, 1)])))⟩)⟩
noncomputable def f11_l1_j2 (a1 : Int) (p32 : Int) (p33 : Int) (p34 : Bool) : Option ((Int × Int) ⊕ Int) := (bif p34 then (f11_l1_j3 a1 p32 p33) else (some (.inr p32)))
theorem f11_l1_j2_ok {base : Orc} {d : Nat} (hd : 3 ≤ d) (a1 : Int) {r : (Int × Int) ⊕ Int} {Q : PX → St → Prop} (hQ : ∀ e st', finL (f11_l1_H a1) (f11_l1_X a1) r e st' → Q e st') (p32 : Int) (p33 : Int) (p34 : Bool) (hS : f11_l1_j2 a1 p32 p33 p34 = some r) {st : St} (he : keepSt [0, 3, 43, 44, 45, 46] [(352, .id 352)] [] st = f11_l1_j2_J a1 p32 p33 p34) : ZR (lev codes base (d - 1)) Q c11_2 [] st := by
  refine zrKeep he ?_
  unfold f11_l1_j2 at hS
  refine zrSeq ?_
  refine zrSplit 46 p34 (by kernel_rfl) (fun hc => ?_) (fun hc => ?_)
  · replace hS := cond_t hc hS
    refine zrCondT (by kernel_rfl) ?_
    refine zrSkip ?_
    refine zkSeq ?_
    exact f11_l1_j3_ok hd a1 hQ p32 p33 hS (by kernel_rfl)
  · replace hS := cond_f hc hS
    refine zrCondF (by kernel_rfl) ?_
    refine zrKeep (J := f11_l1_e0_J a1 p32) (by kernel_rfl) ?_
    refine zrExit ?_
    refine zkSeqX ?_
    refine zkNil ?_
    exact endQ hS hQ (finL_x (by intro h; cases h) (by show _ = _ ∧ _ = _; exact ⟨rfl, rfl⟩))
noncomputable def f11_l1 (a1 : Int) (x : Int × Int) : Option ((Int × Int) ⊕ Int) := (bif (decide (x.2 < ((([(0, 0), (32, 1), (127, 0), (160, 1), (768, 0), (880, 1), (4352, 2), (4448, 1), (8203, 0), (8208, 1), (11904, 2), (12351, 1), (12353, 2), (19904, 1), (19968, 2), (42192, 1), (44032, 2), (55204, 1), (63744, 2), (64256, 1), (65024, 0), (65040, 1), (65072, 2), (65136, 1), (65280, 2), (65377, 1), (65504, 2), (65511, 1), (127744, 2), (128592, 1), (129280, 2), (129536, 1), (131072, 2), (262142, 1)] : List (Int × Int)).length) : Int))) then (f11_l1_j2 a1 x.1 x.2 true) else (f11_l1_j2 a1 x.1 x.2 false))
theorem f11_l1_ok {base : Orc} {d : Nat} (hd : 3 ≤ d) (a1 : Int) {r : (Int × Int) ⊕ Int} {Q : PX → St → Prop} (hQ : ∀ e st', finL (f11_l1_H a1) (f11_l1_X a1) r e st' → Q e st') {x : Int × Int} (hS : f11_l1 a1 x = some r) {st : St} (he : f11_l1_H a1 x st) : ZR (lev codes base (d - 1)) Q c11_3 [] st := by
  refine zrKeep he ?_
  unfold f11_l1 at hS
  refine zrSeq ?_
  refine zrReg ?_
  refine zlBool (d := 46) (op := (.cmpI .lss (.tmp 45) (.tmp 44))) (g := none) (j := 1) (decide (x.2 < ((([(0, 0), (32, 1), (127, 0), (160, 1), (768, 0), (880, 1), (4352, 2), (4448, 1), (8203, 0), (8208, 1), (11904, 2), (12351, 1), (12353, 2), (19904, 1), (19968, 2), (42192, 1), (44032, 2), (55204, 1), (63744, 2), (64256, 1), (65024, 0), (65040, 1), (65072, 2), (65136, 1), (65280, 2), (65377, 1), (65504, 2), (65511, 1), (127744, 2), (128592, 1), (129280, 2), (129536, 1), (131072, 2), (262142, 1)] : List (Int × Int)).length) : Int))) rfl (by kernel_rfl) (by kernel_rfl) (by kernel_rfl) (fun hc => ?_) (fun hc => ?_)
  · replace hS := cond_t hc hS
    refine zlEnd (by kernel_rfl) ?_
    refine zkSeq ?_
    exact f11_l1_j2_ok hd a1 hQ x.1 x.2 true hS (by kernel_rfl)
  · replace hS := cond_f hc hS
    refine zlEnd (by kernel_rfl) ?_
    refine zkSeq ?_
    exact f11_l1_j2_ok hd a1 hQ x.1 x.2 false hS (by kernel_rfl)
def f11_j0_J (a1 : Int) : St := ⟨(up (fun _ => .un) 0 (.d (.int .i64 a1))), (hB fun _ => 0)⟩
noncomputable def f11_j0 (a1 : Int) : Option (Int) := ((loopO (f11_l1 a1) (0, 0)).bind fun z11 => (some z11))
theorem f11_j0_ok {base : Orc} {d : Nat} (hd : 3 ≤ d) (a1 : Int) {r : Int} {Q : PX → St → Prop} (hQ : ∀ e st', f11_Q r e st' → Q e st')  (hS : f11_j0 a1 = some r) {st : St} (he : keepSt [0] [] [] st = f11_j0_J a1) : ZR (lev codes base (d - 1)) Q c11_4 [] st := by
  refine zrKeep he ?_
  unfold f11_j0 at hS
  refine zrSeq ?_
  refine zrReg ?_
  refine zlRun (n := 1) (j := 1) rfl (by kernel_rfl) ?_
  refine zlEnd (by kernel_rfl) ?_
  refine zkSeq ?_
  refine zrSeq ?_
  refine zrSeq ?_
  refine zrReg ?_
  refine zlRun (n := 37) (j := 37) rfl (by kernel_rfl) ?_
  refine zlEnd (by kernel_rfl) ?_
  refine zkSeq ?_
  refine zrBlk ?_
  refine bindE hS (fun z11 hz11 hS => ?_)
  refine zrLoop (f11_l1_H a1) (f11_l1_X a1) (fun x st r Q h0 hS hQ => f11_l1_ok hd a1 hQ hS h0) (x := (0, 0)) (z := z11) (by show keepSt _ _ _ _ = _; kernel_rfl) hz11 ?_
  intro e st' _ hX
  obtain ⟨rfl, rfl⟩ : _ ∧ _ := hX
  refine zkBlkX ?_
  refine zkSeq ?_
  refine zrSeq ?_
  refine zrReg ?_
  refine zlRun (n := 2) (j := 2) rfl (by kernel_rfl) ?_
  refine zlEnd (by kernel_rfl) ?_
  refine zkSeq ?_
  refine zrRet ?_
  refine zkNil ?_
  exact endQ hS hQ (fRet (by kernel_rfl) ((congrArg (fun s => outR s 0 c11.res) (by kernel_rfl : finSt c11.fin _ = f11_fin z11)).trans (f11_out z11)))
noncomputable def f11 (a1 : Int) : Option (Int) := ((f32 a1).bind fun z12 => (bif (!z12) then (some 0) else (f11_j0 a1 )))
theorem f11_ok (base : Orc) (d : Nat) (hd : 3 ≤ d) (a1 : Int) (r : Int) (hS : f11 a1 = some r) : lev codes base d 11 [(.d (.int .i64 a1))] [] = some ((.d (.int .i64 r)), []) := by
  refine lev_go codes11 rfl rfl (Nat.le_trans (Nat.le_of_ble_eq_true rfl) hd) fun Q hQ => ?_
  unfold f11 at hS
  show ZR _ Q c11_b [] _
  replace hQ : ∀ e st', f11_Q r e st' → Q e st' := hQ
  refine zrSeq ?_
  refine zrReg ?_
  refine zlRun (n := 1) (j := 1) rfl (by kernel_rfl) ?_
  refine zlEnd (by kernel_rfl) ?_
  refine zkSeq ?_
  refine zrSeq ?_
  refine zrSeq ?_
  refine zrReg ?_
  refine zlRun (n := 1) (j := 1) rfl (by kernel_rfl) ?_
  refine bindE hS (fun z12 hz12 hS => ?_)
  refine zlOp (d := some 7) (op := (.call 32 [(.tmp 6)])) (g := none) (v := (.d (.bool z12))) (ups := []) (j := 2) rfl (by kernel_rfl) (by kernel_rfl) (ev_call (args := [(.d (.int .i64 a1))]) (l := [(.d (.int .i64 a1))]) (r := (.d (.bool z12))) (by kernel_rfl) (by kernel_rfl) (f32_ok base (d - 1) (dpt hd rfl) a1 z12 hz12) (by kernel_rfl) (by kernel_rfl) (by kernel_rfl)) ?_
  refine zlRun (n := 1) (j := 3) rfl (by kernel_rfl) ?_
  refine zlEnd (by kernel_rfl) ?_
  refine zkSeq ?_
  refine zrSplit 8 (!z12) (by kernel_rfl) (fun hc => ?_) (fun hc => ?_)
  · replace hS := cond_t hc hS
    refine zrCondT (by kernel_rfl) ?_
    refine zrSeq ?_
    refine zrReg ?_
    refine zlRun (n := 1) (j := 1) rfl (by kernel_rfl) ?_
    refine zlEnd (by kernel_rfl) ?_
    refine zkSeq ?_
    refine zrRet ?_
    refine zkSeqR ?_
    refine zkNil ?_
    exact endQ hS hQ (fRet (by kernel_rfl) ((congrArg (fun s => outR s 0 c11.res) (by kernel_rfl : finSt c11.fin _ = f11_fin 0)).trans (f11_out 0)))
  · replace hS := cond_f hc hS
    refine zrCondF (by kernel_rfl) ?_
    refine zrSkip ?_
    refine zkSeq ?_
    exact f11_j0_ok hd a1 hQ  hS (by kernel_rfl)
/- farwriter/farref.wholeCell -/
def f49_fin (p8 : Bool) : St := ⟨(up (fun _ => .un) 4 (.d (.bool p8))), (hB fun _ => 0)⟩
theorem f49_out (p8 : Bool) : outR (f49_fin p8) 0 c49.res = some ((.d (.bool p8)), []) := by
  kernel_rfl
def f49_Q (r : Bool) (e : PX) (st : St) : Prop := DoneF c49 0 ((.d (.bool r)), []) e st
def f49_j0_J (a1 : List GCell) (a2 : Int) : St := ⟨(up (up (fun _ => .un) 1 (.d (.int .i64 a2))) 0 (.d (.sl a1.length (e_GCell.cells a1)))), (hB fun _ => 0)⟩
noncomputable def f49_j0 (a1 : List GCell) (a2 : Int) : Option (Bool) := ((idx a1 a2).bind fun z16 => ((f11 z16.Rune).bind fun z17 => (bif (!decide (z17 = 2)) then (some true) else (bif (decide ((IntKind.i64.wrap (a2 + 1)) < (a1.length : Int))) then ((idx a1 (IntKind.i64.wrap (a2 + 1))).bind fun z18 => (bif (decide (z18.Rune = 0)) then ((idx a1 (IntKind.i64.wrap (a2 + 1))).bind fun z19 => ((idx a1 a2).bind fun z20 => (bif (decide (z19.Pen.Flags = z20.Pen.Flags) && (decide (z19.Pen.Fore = z20.Pen.Fore) && (decide (z19.Pen.Back = z20.Pen.Back) && true))) then (some true) else (some false)))) else (some false))) else (some false)))))
theorem f49_j0_ok {base : Orc} {d : Nat} (hd : 4 ≤ d) (a1 : List GCell) (a2 : Int) {r : Bool} {Q : PX → St → Prop} (hQ : ∀ e st', f49_Q r e st' → Q e st')  (hS : f49_j0 a1 a2 = some r) {st : St} (he : keepSt [0, 1] [] [] st = f49_j0_J a1 a2) : ZR (lev codes base (d - 1)) Q c49_1 [] st := by
  refine zrKeep he ?_
  unfold f49_j0 at hS
  refine zrSeq ?_
  refine zrRegD ?_
  refine zdRun (n := 2) (j := 2) (ts := [[], []]) (acc' := [[], []]) rfl (by kernel_rfl) (by kernel_rfl) (by kernel_rfl) ?_
  refine bindE hS (fun z16 hz16 hS => ?_)
  refine zdOp (d := some 39) (op := (.ixS 33 4 (.tmp 37) (.tmp 38))) (g := none) (v := (.rptr (e_GCell.enc z16 ++ (e_GCell.cells (a1.drop ((a2 : Int).toNat + 1)))))) (ups := []) (j := 3) (t1 := []) (acc' := [[], [], []]) (by kernel_rfl) (by kernel_rfl) rfl (by kernel_rfl) (by kernel_rfl) (ev_ixS e_GCell (kk := .i64) (xs := a1) (j := a2) (by kernel_rfl) (by kernel_rfl) hz16 rfl (by intro h; cases h)) ?_
  refine zdRun (n := 2) (j := 5) (ts := [[], []]) (acc' := [[], [], [], [], []]) rfl (by kernel_rfl) (by kernel_rfl) (by kernel_rfl) ?_
  refine bindE hS (fun z17 hz17 hS => ?_)
  refine zdOp (d := some 42) (op := (.call 11 [(.tmp 41)])) (g := none) (v := (.d (.int .i64 z17))) (ups := []) (j := 6) (t1 := [(344, true), (345, true), (346, true), (347, true), (348, true), (349, true), (350, true), (351, true)]) (acc' := [[], [], [], [], [], [(344, true), (345, true), (346, true), (347, true), (348, true), (349, true), (350, true), (351, true)]]) (by kernel_rfl) (by kernel_rfl) rfl (by kernel_rfl) (by kernel_rfl) (ev_call (args := [(.d (.int .i64 z16.Rune))]) (l := [(.d (.int .i64 z16.Rune))]) (r := (.d (.int .i64 z17))) (by kernel_rfl) (by kernel_rfl) (f11_ok base (d - 1) (dpt hd rfl) z16.Rune z17 hz17) (by kernel_rfl) (by kernel_rfl) (by kernel_rfl)) ?_
  refine zdBool (d := 43) (op := (.cmpI .neq (.tmp 42) (.const (.int .i64 2)))) (g := none) (j := 7) (t1 := []) (acc' := [[], [], [], [], [], [(344, true), (345, true), (346, true), (347, true), (348, true), (349, true), (350, true), (351, true)], []]) (!decide (z17 = 2)) (by kernel_rfl) (by kernel_rfl) rfl (by kernel_rfl) (by kernel_rfl) (by kernel_rfl) (fun hc => ?_) (fun hc => ?_)
  · replace hS := cond_t hc hS
    refine zdRun (n := 31) (j := 38) (ts := [[], [], [], [], [], [], [], [], [], [], [], [], [], [], [], [], [], [], [], [], [], [], [], [], [], [], [], [], [], [], []]) (acc' := [[], [], [], [], [], [(344, true), (345, true), (346, true), (347, true), (348, true), (349, true), (350, true), (351, true)], [], [], [], [], [], [], [], [], [], [], [], [], [], [], [], [], [], [], [], [], [], [], [], [], [], [], [], [], [], [], [], []]) rfl (by kernel_rfl) (by kernel_rfl) (by kernel_rfl) ?_
    refine zdEnd (by kernel_rfl) (by kernel_rfl) ?_
    refine zkSeq ?_
    refine zrRet ?_
    refine zkNil ?_
    exact endQ hS hQ (fRet (by kernel_rfl) ((congrArg (fun s => outR s 0 c49.res) (by kernel_rfl : finSt c49.fin _ = f49_fin true)).trans (f49_out true)))
  · replace hS := cond_f hc hS
    refine zdRun (n := 5) (j := 12) (ts := [[], [], [], [], []]) (acc' := [[], [], [], [], [], [(344, true), (345, true), (346, true), (347, true), (348, true), (349, true), (350, true), (351, true)], [], [], [], [], [], []]) rfl (by kernel_rfl) (by kernel_rfl) (by kernel_rfl) ?_
    refine zdBool (d := 49) (op := (.cmpI .lss (.tmp 46) (.tmp 48))) (g := (some (44, false))) (j := 13) (t1 := []) (acc' := [[], [], [], [], [], [(344, true), (345, true), (346, true), (347, true), (348, true), (349, true), (350, true), (351, true)], [], [], [], [], [], [], []]) (decide ((IntKind.i64.wrap (a2 + 1)) < (a1.length : Int))) (by kernel_rfl) (by kernel_rfl) rfl (by kernel_rfl) (by kernel_rfl) (by kernel_rfl) (fun hc => ?_) (fun hc => ?_)
    · replace hS := cond_t hc hS
      refine zdRun (n := 4) (j := 17) (ts := [[], [], [], []]) (acc' := [[], [], [], [], [], [(344, true), (345, true), (346, true), (347, true), (348, true), (349, true), (350, true), (351, true)], [], [], [], [], [], [], [], [], [], [], []]) rfl (by kernel_rfl) (by kernel_rfl) (by kernel_rfl) ?_
      refine bindE hS (fun z18 hz18 hS => ?_)
      refine zdOp (d := some 54) (op := (.ixS 33 4 (.tmp 51) (.tmp 53))) (g := (some (50, true))) (v := (.rptr (e_GCell.enc z18 ++ (e_GCell.cells (a1.drop (((IntKind.i64.wrap (a2 + 1)) : Int).toNat + 1)))))) (ups := []) (j := 18) (t1 := []) (acc' := [[], [], [], [], [], [(344, true), (345, true), (346, true), (347, true), (348, true), (349, true), (350, true), (351, true)], [], [], [], [], [], [], [], [], [], [], [], []]) (by kernel_rfl) (by kernel_rfl) rfl (by kernel_rfl) (by kernel_rfl) (ev_ixS e_GCell (kk := .i64) (xs := a1) (j := (IntKind.i64.wrap (a2 + 1))) (by kernel_rfl) (by kernel_rfl) hz18 rfl (by intro h; cases h)) ?_
      refine zdRun (n := 2) (j := 20) (ts := [[], []]) (acc' := [[], [], [], [], [], [(344, true), (345, true), (346, true), (347, true), (348, true), (349, true), (350, true), (351, true)], [], [], [], [], [], [], [], [], [], [], [], [], [], []]) rfl (by kernel_rfl) (by kernel_rfl) (by kernel_rfl) ?_
      refine zdBool (d := 57) (op := (.cmpI .eql (.tmp 56) (.const (.int .i64 0)))) (g := (some (50, true))) (j := 21) (t1 := []) (acc' := [[], [], [], [], [], [(344, true), (345, true), (346, true), (347, true), (348, true), (349, true), (350, true), (351, true)], [], [], [], [], [], [], [], [], [], [], [], [], [], [], []]) (decide (z18.Rune = 0)) (by kernel_rfl) (by kernel_rfl) rfl (by kernel_rfl) (by kernel_rfl) (by kernel_rfl) (fun hc => ?_) (fun hc => ?_)
      · replace hS := cond_t hc hS
        refine zdRun (n := 5) (j := 26) (ts := [[], [], [], [], []]) (acc' := [[], [], [], [], [], [(344, true), (345, true), (346, true), (347, true), (348, true), (349, true), (350, true), (351, true)], [], [], [], [], [], [], [], [], [], [], [], [], [], [], [], [], [], [], [], []]) rfl (by kernel_rfl) (by kernel_rfl) (by kernel_rfl) ?_
        refine bindE hS (fun z19 hz19 hS => ?_)
        refine zdOp (d := some 63) (op := (.ixS 33 4 (.tmp 60) (.tmp 62))) (g := (some (59, true))) (v := (.rptr (e_GCell.enc z19 ++ (e_GCell.cells (a1.drop (((IntKind.i64.wrap (a2 + 1)) : Int).toNat + 1)))))) (ups := []) (j := 27) (t1 := []) (acc' := [[], [], [], [], [], [(344, true), (345, true), (346, true), (347, true), (348, true), (349, true), (350, true), (351, true)], [], [], [], [], [], [], [], [], [], [], [], [], [], [], [], [], [], [], [], [], []]) (by kernel_rfl) (by kernel_rfl) rfl (by kernel_rfl) (by kernel_rfl) (ev_ixS e_GCell (kk := .i64) (xs := a1) (j := (IntKind.i64.wrap (a2 + 1))) (by kernel_rfl) (by kernel_rfl) hz19 rfl (by intro h; cases h)) ?_
        refine zdRun (n := 4) (j := 31) (ts := [[], [], [], []]) (acc' := [[], [], [], [], [], [(344, true), (345, true), (346, true), (347, true), (348, true), (349, true), (350, true), (351, true)], [], [], [], [], [], [], [], [], [], [], [], [], [], [], [], [], [], [], [], [], [], [], [], [], []]) rfl (by kernel_rfl) (by kernel_rfl) (by kernel_rfl) ?_
        refine bindE hS (fun z20 hz20 hS => ?_)
        refine zdOp (d := some 68) (op := (.ixS 33 4 (.tmp 66) (.tmp 67))) (g := (some (59, true))) (v := (.rptr (e_GCell.enc z20 ++ (e_GCell.cells (a1.drop ((a2 : Int).toNat + 1)))))) (ups := []) (j := 32) (t1 := []) (acc' := [[], [], [], [], [], [(344, true), (345, true), (346, true), (347, true), (348, true), (349, true), (350, true), (351, true)], [], [], [], [], [], [], [], [], [], [], [], [], [], [], [], [], [], [], [], [], [], [], [], [], [], []]) (by kernel_rfl) (by kernel_rfl) rfl (by kernel_rfl) (by kernel_rfl) (ev_ixS e_GCell (kk := .i64) (xs := a1) (j := a2) (by kernel_rfl) (by kernel_rfl) hz20 rfl (by intro h; cases h)) ?_
        refine zdRun (n := 2) (j := 34) (ts := [[], []]) (acc' := [[], [], [], [], [], [(344, true), (345, true), (346, true), (347, true), (348, true), (349, true), (350, true), (351, true)], [], [], [], [], [], [], [], [], [], [], [], [], [], [], [], [], [], [], [], [], [], [], [], [], [], [], [], []]) rfl (by kernel_rfl) (by kernel_rfl) (by kernel_rfl) ?_
        refine zdBool (d := 71) (op := (.eqA .false [(3, .int)] (.tmp 65) (.tmp 70))) (g := (some (59, true))) (j := 35) (t1 := []) (acc' := [[], [], [], [], [], [(344, true), (345, true), (346, true), (347, true), (348, true), (349, true), (350, true), (351, true)], [], [], [], [], [], [], [], [], [], [], [], [], [], [], [], [], [], [], [], [], [], [], [], [], [], [], [], [], []]) (decide (z19.Pen.Flags = z20.Pen.Flags) && (decide (z19.Pen.Fore = z20.Pen.Fore) && (decide (z19.Pen.Back = z20.Pen.Back) && true))) (by kernel_rfl) (by kernel_rfl) rfl (by kernel_rfl) (by kernel_rfl) (by kernel_rfl) (fun hc => ?_) (fun hc => ?_)
        · replace hS := cond_t hc hS
          refine zdRun (n := 3) (j := 38) (ts := [[], [], []]) (acc' := [[], [], [], [], [], [(344, true), (345, true), (346, true), (347, true), (348, true), (349, true), (350, true), (351, true)], [], [], [], [], [], [], [], [], [], [], [], [], [], [], [], [], [], [], [], [], [], [], [], [], [], [], [], [], [], [], [], []]) rfl (by kernel_rfl) (by kernel_rfl) (by kernel_rfl) ?_
          refine zdEnd (by kernel_rfl) (by kernel_rfl) ?_
          refine zkSeq ?_
          refine zrRet ?_
          refine zkNil ?_
          exact endQ hS hQ (fRet (by kernel_rfl) ((congrArg (fun s => outR s 0 c49.res) (by kernel_rfl : finSt c49.fin _ = f49_fin true)).trans (f49_out true)))
        · replace hS := cond_f hc hS
          refine zdRun (n := 3) (j := 38) (ts := [[], [], []]) (acc' := [[], [], [], [], [], [(344, true), (345, true), (346, true), (347, true), (348, true), (349, true), (350, true), (351, true)], [], [], [], [], [], [], [], [], [], [], [], [], [], [], [], [], [], [], [], [], [], [], [], [], [], [], [], [], [], [], [], []]) rfl (by kernel_rfl) (by kernel_rfl) (by kernel_rfl) ?_
          refine zdEnd (by kernel_rfl) (by kernel_rfl) ?_
          refine zkSeq ?_
          refine zrRet ?_
          refine zkNil ?_
          exact endQ hS hQ (fRet (by kernel_rfl) ((congrArg (fun s => outR s 0 c49.res) (by kernel_rfl : finSt c49.fin _ = f49_fin false)).trans (f49_out false)))
      · replace hS := cond_f hc hS
        refine zdRun (n := 17) (j := 38) (ts := [[], [], [], [], [], [], [], [], [], [], [], [], [], [], [], [], []]) (acc' := [[], [], [], [], [], [(344, true), (345, true), (346, true), (347, true), (348, true), (349, true), (350, true), (351, true)], [], [], [], [], [], [], [], [], [], [], [], [], [], [], [], [], [], [], [], [], [], [], [], [], [], [], [], [], [], [], [], []]) rfl (by kernel_rfl) (by kernel_rfl) (by kernel_rfl) ?_
        refine zdEnd (by kernel_rfl) (by kernel_rfl) ?_
        refine zkSeq ?_
        refine zrRet ?_
        refine zkNil ?_
        exact endQ hS hQ (fRet (by kernel_rfl) ((congrArg (fun s => outR s 0 c49.res) (by kernel_rfl : finSt c49.fin _ = f49_fin false)).trans (f49_out false)))
    · replace hS := cond_f hc hS
      refine zdRun (n := 25) (j := 38) (ts := [[], [], [], [], [], [], [], [], [], [], [], [], [], [], [], [], [], [], [], [], [], [], [], [], []]) (acc' := [[], [], [], [], [], [(344, true), (345, true), (346, true), (347, true), (348, true), (349, true), (350, true), (351, true)], [], [], [], [], [], [], [], [], [], [], [], [], [], [], [], [], [], [], [], [], [], [], [], [], [], [], [], [], [], [], [], []]) rfl (by kernel_rfl) (by kernel_rfl) (by kernel_rfl) ?_
      refine zdEnd (by kernel_rfl) (by kernel_rfl) ?_
      refine zkSeq ?_
      refine zrRet ?_
      refine zkNil ?_
      exact endQ hS hQ (fRet (by kernel_rfl) ((congrArg (fun s => outR s 0 c49.res) (by kernel_rfl : finSt c49.fin _ = f49_fin false)).trans (f49_out false)))
noncomputable def f49 (a1 : List GCell) (a2 : Int) : Option (Bool) := ((idx a1 a2).bind fun z22 => (bif (decide (z22.Rune = 0)) then (bif (decide (0 < a2)) then ((idx a1 (IntKind.i64.wrap (a2 - 1))).bind fun z23 => ((f11 z23.Rune).bind fun z24 => (bif (decide (z24 = 2)) then ((idx a1 (IntKind.i64.wrap (a2 - 1))).bind fun z25 => ((idx a1 a2).bind fun z26 => (bif (decide (z25.Pen.Flags = z26.Pen.Flags) && (decide (z25.Pen.Fore = z26.Pen.Fore) && (decide (z25.Pen.Back = z26.Pen.Back) && true))) then (some true) else (some false)))) else (some false)))) else (some false)) else (f49_j0 a1 a2 )))
theorem f49_ok (base : Orc) (d : Nat) (hd : 4 ≤ d) (a1 : List GCell) (a2 : Int) (r : Bool) (hS : f49 a1 a2 = some r) : lev codes base d 49 [(.d (.sl a1.length (e_GCell.cells a1))), (.d (.int .i64 a2))] [] = some ((.d (.bool r)), []) := by
  refine lev_go codes49 rfl rfl (Nat.le_trans (Nat.le_of_ble_eq_true rfl) hd) fun Q hQ => ?_
  unfold f49 at hS
  show ZR _ Q c49_b [] _
  replace hQ : ∀ e st', f49_Q r e st' → Q e st' := hQ
  refine zrSeq ?_
  refine zrReg ?_
  refine zlRun (n := 1) (j := 1) rfl (by kernel_rfl) ?_
  refine zlEnd (by kernel_rfl) ?_
  refine zkSeq ?_
  refine zrSeq ?_
  refine zrSeq ?_
  refine zrReg ?_
  refine zlRun (n := 2) (j := 2) rfl (by kernel_rfl) ?_
  refine bindE hS (fun z22 hz22 hS => ?_)
  refine zlOp (d := some 7) (op := (.ixS 33 4 (.tmp 5) (.tmp 6))) (g := none) (v := (.rptr (e_GCell.enc z22 ++ (e_GCell.cells (a1.drop ((a2 : Int).toNat + 1)))))) (ups := []) (j := 3) rfl (by kernel_rfl) (by kernel_rfl) (ev_ixS e_GCell (kk := .i64) (xs := a1) (j := a2) (by kernel_rfl) (by kernel_rfl) hz22 rfl (by intro h; cases h)) ?_
  refine zlRun (n := 2) (j := 5) rfl (by kernel_rfl) ?_
  refine zlBool (d := 10) (op := (.cmpI .eql (.tmp 9) (.const (.int .i64 0)))) (g := none) (j := 6) (decide (z22.Rune = 0)) rfl (by kernel_rfl) (by kernel_rfl) (by kernel_rfl) (fun hc => ?_) (fun hc => ?_)
  · replace hS := cond_t hc hS
    refine zlEnd (by kernel_rfl) ?_
    refine zkSeq ?_
    refine zrCondT (by kernel_rfl) ?_
    refine zrSeq ?_
    refine zrRegD ?_
    refine zdRun (n := 1) (j := 1) (ts := [[]]) (acc' := [[]]) rfl (by kernel_rfl) (by kernel_rfl) (by kernel_rfl) ?_
    refine zdBool (d := 12) (op := (.cmpI .gtr (.tmp 11) (.const (.int .i64 0)))) (g := none) (j := 2) (t1 := []) (acc' := [[], []]) (decide (0 < a2)) (by kernel_rfl) (by kernel_rfl) rfl (by kernel_rfl) (by kernel_rfl) (by kernel_rfl) (fun hc => ?_) (fun hc => ?_)
    · replace hS := cond_t hc hS
      refine zdRun (n := 4) (j := 6) (ts := [[], [], [], []]) (acc' := [[], [], [], [], [], []]) rfl (by kernel_rfl) (by kernel_rfl) (by kernel_rfl) ?_
      refine bindE hS (fun z23 hz23 hS => ?_)
      refine zdOp (d := some 17) (op := (.ixS 33 4 (.tmp 14) (.tmp 16))) (g := (some (13, true))) (v := (.rptr (e_GCell.enc z23 ++ (e_GCell.cells (a1.drop (((IntKind.i64.wrap (a2 - 1)) : Int).toNat + 1)))))) (ups := []) (j := 7) (t1 := []) (acc' := [[], [], [], [], [], [], []]) (by kernel_rfl) (by kernel_rfl) rfl (by kernel_rfl) (by kernel_rfl) (ev_ixS e_GCell (kk := .i64) (xs := a1) (j := (IntKind.i64.wrap (a2 - 1))) (by kernel_rfl) (by kernel_rfl) hz23 rfl (by intro h; cases h)) ?_
      refine zdRun (n := 2) (j := 9) (ts := [[], []]) (acc' := [[], [], [], [], [], [], [], [], []]) rfl (by kernel_rfl) (by kernel_rfl) (by kernel_rfl) ?_
      refine bindE hS (fun z24 hz24 hS => ?_)
      refine zdOp (d := some 20) (op := (.call 11 [(.tmp 19)])) (g := (some (13, true))) (v := (.d (.int .i64 z24))) (ups := []) (j := 10) (t1 := [(168, true), (169, true), (170, true), (171, true), (172, true), (173, true), (174, true), (175, true)]) (acc' := [[], [], [], [], [], [], [], [], [], [(168, true), (169, true), (170, true), (171, true), (172, true), (173, true), (174, true), (175, true)]]) (by kernel_rfl) (by kernel_rfl) rfl (by kernel_rfl) (by kernel_rfl) (ev_call (args := [(.d (.int .i64 z23.Rune))]) (l := [(.d (.int .i64 z23.Rune))]) (r := (.d (.int .i64 z24))) (by kernel_rfl) (by kernel_rfl) (f11_ok base (d - 1) (dpt hd rfl) z23.Rune z24 hz24) (by kernel_rfl) (by kernel_rfl) (by kernel_rfl)) ?_
      refine zdBool (d := 21) (op := (.cmpI .eql (.tmp 20) (.const (.int .i64 2)))) (g := (some (13, true))) (j := 11) (t1 := []) (acc' := [[], [], [], [], [], [], [], [], [], [(168, true), (169, true), (170, true), (171, true), (172, true), (173, true), (174, true), (175, true)], []]) (decide (z24 = 2)) (by kernel_rfl) (by kernel_rfl) rfl (by kernel_rfl) (by kernel_rfl) (by kernel_rfl) (fun hc => ?_) (fun hc => ?_)
      · replace hS := cond_t hc hS
        refine zdRun (n := 5) (j := 16) (ts := [[], [], [], [], []]) (acc' := [[], [], [], [], [], [], [], [], [], [(168, true), (169, true), (170, true), (171, true), (172, true), (173, true), (174, true), (175, true)], [], [], [], [], [], []]) rfl (by kernel_rfl) (by kernel_rfl) (by kernel_rfl) ?_
        refine bindE hS (fun z25 hz25 hS => ?_)
        refine zdOp (d := some 27) (op := (.ixS 33 4 (.tmp 24) (.tmp 26))) (g := (some (23, true))) (v := (.rptr (e_GCell.enc z25 ++ (e_GCell.cells (a1.drop (((IntKind.i64.wrap (a2 - 1)) : Int).toNat + 1)))))) (ups := []) (j := 17) (t1 := []) (acc' := [[], [], [], [], [], [], [], [], [], [(168, true), (169, true), (170, true), (171, true), (172, true), (173, true), (174, true), (175, true)], [], [], [], [], [], [], []]) (by kernel_rfl) (by kernel_rfl) rfl (by kernel_rfl) (by kernel_rfl) (ev_ixS e_GCell (kk := .i64) (xs := a1) (j := (IntKind.i64.wrap (a2 - 1))) (by kernel_rfl) (by kernel_rfl) hz25 rfl (by intro h; cases h)) ?_
        refine zdRun (n := 4) (j := 21) (ts := [[], [], [], []]) (acc' := [[], [], [], [], [], [], [], [], [], [(168, true), (169, true), (170, true), (171, true), (172, true), (173, true), (174, true), (175, true)], [], [], [], [], [], [], [], [], [], [], []]) rfl (by kernel_rfl) (by kernel_rfl) (by kernel_rfl) ?_
        refine bindE hS (fun z26 hz26 hS => ?_)
        refine zdOp (d := some 32) (op := (.ixS 33 4 (.tmp 30) (.tmp 31))) (g := (some (23, true))) (v := (.rptr (e_GCell.enc z26 ++ (e_GCell.cells (a1.drop ((a2 : Int).toNat + 1)))))) (ups := []) (j := 22) (t1 := []) (acc' := [[], [], [], [], [], [], [], [], [], [(168, true), (169, true), (170, true), (171, true), (172, true), (173, true), (174, true), (175, true)], [], [], [], [], [], [], [], [], [], [], [], []]) (by kernel_rfl) (by kernel_rfl) rfl (by kernel_rfl) (by kernel_rfl) (ev_ixS e_GCell (kk := .i64) (xs := a1) (j := a2) (by kernel_rfl) (by kernel_rfl) hz26 rfl (by intro h; cases h)) ?_
        refine zdRun (n := 2) (j := 24) (ts := [[], []]) (acc' := [[], [], [], [], [], [], [], [], [], [(168, true), (169, true), (170, true), (171, true), (172, true), (173, true), (174, true), (175, true)], [], [], [], [], [], [], [], [], [], [], [], [], [], []]) rfl (by kernel_rfl) (by kernel_rfl) (by kernel_rfl) ?_
        refine zdBool (d := 35) (op := (.eqA .false [(3, .int)] (.tmp 29) (.tmp 34))) (g := (some (23, true))) (j := 25) (t1 := []) (acc' := [[], [], [], [], [], [], [], [], [], [(168, true), (169, true), (170, true), (171, true), (172, true), (173, true), (174, true), (175, true)], [], [], [], [], [], [], [], [], [], [], [], [], [], [], []]) (decide (z25.Pen.Flags = z26.Pen.Flags) && (decide (z25.Pen.Fore = z26.Pen.Fore) && (decide (z25.Pen.Back = z26.Pen.Back) && true))) (by kernel_rfl) (by kernel_rfl) rfl (by kernel_rfl) (by kernel_rfl) (by kernel_rfl) (fun hc => ?_) (fun hc => ?_)
        · replace hS := cond_t hc hS
          refine zdRun (n := 2) (j := 27) (ts := [[], []]) (acc' := [[], [], [], [], [], [], [], [], [], [(168, true), (169, true), (170, true), (171, true), (172, true), (173, true), (174, true), (175, true)], [], [], [], [], [], [], [], [], [], [], [], [], [], [], [], [], []]) rfl (by kernel_rfl) (by kernel_rfl) (by kernel_rfl) ?_
          refine zdEnd (by kernel_rfl) (by kernel_rfl) ?_
          refine zkSeq ?_
          refine zrRet ?_
          refine zkSeqR ?_
          refine zkNil ?_
          exact endQ hS hQ (fRet (by kernel_rfl) ((congrArg (fun s => outR s 0 c49.res) (by kernel_rfl : finSt c49.fin _ = f49_fin true)).trans (f49_out true)))
        · replace hS := cond_f hc hS
          refine zdRun (n := 2) (j := 27) (ts := [[], []]) (acc' := [[], [], [], [], [], [], [], [], [], [(168, true), (169, true), (170, true), (171, true), (172, true), (173, true), (174, true), (175, true)], [], [], [], [], [], [], [], [], [], [], [], [], [], [], [], [], []]) rfl (by kernel_rfl) (by kernel_rfl) (by kernel_rfl) ?_
          refine zdEnd (by kernel_rfl) (by kernel_rfl) ?_
          refine zkSeq ?_
          refine zrRet ?_
          refine zkSeqR ?_
          refine zkNil ?_
          exact endQ hS hQ (fRet (by kernel_rfl) ((congrArg (fun s => outR s 0 c49.res) (by kernel_rfl : finSt c49.fin _ = f49_fin false)).trans (f49_out false)))
      · replace hS := cond_f hc hS
        refine zdRun (n := 16) (j := 27) (ts := [[], [], [], [], [], [], [], [], [], [], [], [], [], [], [], []]) (acc' := [[], [], [], [], [], [], [], [], [], [(168, true), (169, true), (170, true), (171, true), (172, true), (173, true), (174, true), (175, true)], [], [], [], [], [], [], [], [], [], [], [], [], [], [], [], [], []]) rfl (by kernel_rfl) (by kernel_rfl) (by kernel_rfl) ?_
        refine zdEnd (by kernel_rfl) (by kernel_rfl) ?_
        refine zkSeq ?_
        refine zrRet ?_
        refine zkSeqR ?_
        refine zkNil ?_
        exact endQ hS hQ (fRet (by kernel_rfl) ((congrArg (fun s => outR s 0 c49.res) (by kernel_rfl : finSt c49.fin _ = f49_fin false)).trans (f49_out false)))
    · replace hS := cond_f hc hS
      refine zdRun (n := 25) (j := 27) (ts := [[], [], [], [], [], [], [], [], [], [], [], [], [], [], [], [], [], [], [], [], [], [], [], [], []]) (acc' := [[], [], [], [], [], [], [], [], [], [], [], [], [], [], [], [], [], [], [], [], [], [], [], [], [], [], []]) rfl (by kernel_rfl) (by kernel_rfl) (by kernel_rfl) ?_
      refine zdEnd (by kernel_rfl) (by kernel_rfl) ?_
      refine zkSeq ?_
      refine zrRet ?_
      refine zkSeqR ?_
      refine zkNil ?_
      exact endQ hS hQ (fRet (by kernel_rfl) ((congrArg (fun s => outR s 0 c49.res) (by kernel_rfl : finSt c49.fin _ = f49_fin false)).trans (f49_out false)))
  · replace hS := cond_f hc hS
    refine zlEnd (by kernel_rfl) ?_
    refine zkSeq ?_
    refine zrCondF (by kernel_rfl) ?_
    refine zrSkip ?_
    refine zkSeq ?_
    exact f49_j0_ok hd a1 a2 hQ  hS (by kernel_rfl)
/- farwriter/farref.GridRight -/
def f25_fin (p341 : Int) : St := ⟨(up (fun _ => .un) 2 (.d (.int .i64 p341))), (hB fun _ => 0)⟩
theorem f25_out (p341 : Int) : outR (f25_fin p341) 0 c25.res = some ((.d (.int .i64 p341)), []) := by
  kernel_rfl
def f25_Q (r : Int) (e : PX) (st : St) : Prop := DoneF c25 0 ((.d (.int .i64 r)), []) e st
def f25_l2_J (a1 : GGrid) (x : (List (List GCell)) × Int × Int) : St := ⟨(up (up (up (fun _ => .un) 25 (.d (.int .i64 x.2.2))) 24 (.d (.int .i64 x.2.1))) 23 (.r (.msl 192 0 0 x.1.length))), (up (hB fun _ => 0) 192 ⟨0, some (.own 22 1 ((eSl e_GCell).cells x.1))⟩)⟩
def f25_l2_H (a1 : GGrid) (x : (List (List GCell)) × Int × Int) (st : St) : Prop := keepSt [23, 24, 25] [(192, .id 192)] [] st = f25_l2_J a1 x
def f25_l2_e0_J (a1 : GGrid) : St := ⟨(fun _ => .un), (hB fun _ => 0)⟩
def f25_l2_X (a1 : GGrid) (z : Unit ⊕ Int) (e : PX) (st : St) : Prop := (match z with | .inl z => e = .exit 0 ∧ st = f25_l2_e0_J a1 | .inr z => e = .ret ∧ finSt c25.fin st = f25_fin z)
def f25_l2_l5_J (a1 : GGrid) (x : (List GCell) × (List (List GCell)) × Int × Int × (List GCell) × Int × Int) : St := ⟨(up (up (up (up (up (up (up (fun _ => .un) 31 (.d (.int .i64 x.2.2.2.2.2.2))) 30 (.d (.int .i64 x.2.2.2.2.2.1))) 29 (.d (.sl x.2.2.2.2.1.length (e_GCell.cells x.2.2.2.2.1)))) 25 (.d (.int .i64 x.2.2.2.1))) 24 (.d (.int .i64 x.2.2.1))) 23 (.r (.msl 192 0 0 x.2.1.length))) 4 (.d (.sl x.1.length (e_GCell.cells x.1)))), (up (hB fun _ => 0) 192 ⟨0, some (.own 22 1 ((eSl e_GCell).cells x.2.1))⟩)⟩
def f25_l2_l5_H (a1 : GGrid) (x : (List GCell) × (List (List GCell)) × Int × Int × (List GCell) × Int × Int) (st : St) : Prop := keepSt [4, 23, 24, 25, 29, 30, 31] [(192, .id 192)] [] st = f25_l2_l5_J a1 x
def f25_l2_l5_e2_J (a1 : GGrid) (p802 : List (List GCell)) (p803 : Int) (p804 : Int) : St := ⟨(up (up (up (fun _ => .un) 25 (.d (.int .i64 p804))) 24 (.d (.int .i64 p803))) 23 (.r (.msl 192 0 0 p802.length))), (up (hB fun _ => 0) 192 ⟨0, some (.own 22 1 ((eSl e_GCell).cells p802))⟩)⟩
def f25_l2_l5_X (a1 : GGrid) (z : ((List (List GCell)) × Int × Int) ⊕ Int) (e : PX) (st : St) : Prop := (match z with | .inl z => e = .exit 2 ∧ st = f25_l2_l5_e2_J a1 z.1 z.2.1 z.2.2 | .inr z => e = .ret ∧ finSt c25.fin st = f25_fin z)
def f25_l2_l5_j7_J (a1 : GGrid) (p821 : List GCell) (p822 : List (List GCell)) (p823 : Int) (p824 : Int) (p825 : List GCell) (p826 : Int) (p827 : Int) : St := ⟨(up (up (up (up (up (up (up (fun _ => .un) 31 (.d (.int .i64 p827))) 30 (.d (.int .i64 p826))) 29 (.d (.sl p825.length (e_GCell.cells p825)))) 25 (.d (.int .i64 p824))) 24 (.d (.int .i64 p823))) 23 (.r (.msl 192 0 0 p822.length))) 4 (.d (.sl p821.length (e_GCell.cells p821)))), (up (hB fun _ => 0) 192 ⟨0, some (.own 22 1 ((eSl e_GCell).cells p822))⟩)⟩
noncomputable def f25_l2_l5_j7 (a1 : GGrid) (p821 : List GCell) (p822 : List (List GCell)) (p823 : Int) (p824 : Int) (p825 : List GCell) (p826 : Int) (p827 : Int) : Option (((List GCell) × (List (List GCell)) × Int × Int × (List GCell) × Int × Int) ⊕ (((List (List GCell)) × Int × Int) ⊕ Int)) := ((idx p825 p827).bind fun z124 => ((f23 z124.Pen).bind fun z125 => (bif (!decide (z125 = 0)) then (some (.inr (.inr 4))) else (bif (!decide (z124.Rune = 0)) then ((f11 z124.Rune).bind fun z126 => (bif (decide (z126 = 0)) then (some (.inr (.inr 4))) else ((f49 p821 p827).bind fun z127 => (bif (!z127) then (some (.inr (.inr 4))) else (some (.inl (p821, p822, p823, p824, p825, p826, (IntKind.i64.wrap (p827 + 1))))))))) else ((f49 p821 p827).bind fun z128 => (bif (!z128) then (some (.inr (.inr 4))) else (some (.inl (p821, p822, p823, p824, p825, p826, (IntKind.i64.wrap (p827 + 1)))))))))))
theorem f25_l2_l5_j7_ok {base : Orc} {d : Nat} (hd : 5 ≤ d) (a1 : GGrid) {r : ((List GCell) × (List (List GCell)) × Int × Int × (List GCell) × Int × Int) ⊕ (((List (List GCell)) × Int × Int) ⊕ Int)} {Q : PX → St → Prop} (hQ : ∀ e st', finL (f25_l2_l5_H a1) (f25_l2_l5_X a1) r e st' → Q e st') (p821 : List GCell) (p822 : List (List GCell)) (p823 : Int) (p824 : Int) (p825 : List GCell) (p826 : Int) (p827 : Int) (hS : f25_l2_l5_j7 a1 p821 p822 p823 p824 p825 p826 p827 = some r) {st : St} (he : keepSt [4, 23, 24, 25, 29, 30, 31] [(192, .id 192)] [] st = f25_l2_l5_j7_J a1 p821 p822 p823 p824 p825 p826 p827) : ZR (lev codes base (d - 1)) Q c25_1 [] st := by
  refine zrKeep he ?_
  unfold f25_l2_l5_j7 at hS
  refine zrSeq ?_
  refine zrBlk ?_
  refine zrSeq ?_
  refine zrReg ?_
  refine zlRun (n := 1) (j := 1) rfl (by kernel_rfl) ?_
  refine bindE hS (fun z124 hz124 hS => ?_)
  refine zlOp (d := some 34) (op := (.ixS 33 4 (.tmp 29) (.tmp 31))) (g := none) (v := (.rptr (e_GCell.enc z124 ++ (e_GCell.cells (p825.drop ((p827 : Int).toNat + 1)))))) (ups := []) (j := 2) rfl (by kernel_rfl) (by kernel_rfl) (ev_ixS e_GCell (kk := .i64) (xs := p825) (j := p827) (by kernel_rfl) (by kernel_rfl) hz124 rfl (by intro h; cases h)) ?_
  refine zlRun (n := 4) (j := 6) rfl (by kernel_rfl) ?_
  refine zlEnd (by kernel_rfl) ?_
  refine zkSeq ?_
  refine zrSeq ?_
  refine zrReg ?_
  refine zlRun (n := 2) (j := 2) rfl (by kernel_rfl) ?_
  refine bindE hS (fun z125 hz125 hS => ?_)
  refine zlOp (d := some 38) (op := (.call 23 [(.tmp 37)])) (g := none) (v := (.d (.int .i64 z125))) (ups := []) (j := 3) rfl (by kernel_rfl) (by kernel_rfl) (ev_call (args := [(.agg ((.d (.int .i64 z124.Pen.Flags)) :: ((.d (.int .i64 z124.Pen.Fore)) :: ((.d (.int .i64 z124.Pen.Back)) :: []))))]) (l := [(.agg ((.d (.int .i64 z124.Pen.Flags)) :: ((.d (.int .i64 z124.Pen.Fore)) :: ((.d (.int .i64 z124.Pen.Back)) :: []))))]) (r := (.d (.int .i64 z125))) (by kernel_rfl) (by kernel_rfl) (f23_ok base (d - 1) (dpt hd rfl) z124.Pen z125 hz125) (by kernel_rfl) (by kernel_rfl) (by kernel_rfl)) ?_
  refine zlBool (d := 39) (op := (.cmpI .neq (.tmp 38) (.const (.int .i64 0)))) (g := none) (j := 4) (!decide (z125 = 0)) rfl (by kernel_rfl) (by kernel_rfl) (by kernel_rfl) (fun hc => ?_) (fun hc => ?_)
  · replace hS := cond_t hc hS
    refine zlRun (n := 17) (j := 21) rfl (by kernel_rfl) ?_
    refine zlEnd (by kernel_rfl) ?_
    refine zkSeq ?_
    refine zrCondT (by kernel_rfl) ?_
    refine zrSeq ?_
    refine zrReg ?_
    refine zlRun (n := 1) (j := 1) rfl (by kernel_rfl) ?_
    refine zlEnd (by kernel_rfl) ?_
    refine zkSeq ?_
    refine zrRet ?_
    refine zkBlkR ?_
    refine zkSeqR ?_
    refine zkNil ?_
    exact endQ hS hQ (finL_x (by intro h; cases h) (by show _ = _ ∧ _ = _; exact ⟨rfl, by kernel_rfl⟩))
  · replace hS := cond_f hc hS
    refine zlRun (n := 3) (j := 7) rfl (by kernel_rfl) ?_
    refine zlBool (d := 43) (op := (.cmpI .neq (.tmp 42) (.const (.int .i64 0)))) (g := (some (40, false))) (j := 8) (!decide (z124.Rune = 0)) rfl (by kernel_rfl) (by kernel_rfl) (by kernel_rfl) (fun hc => ?_) (fun hc => ?_)
    · replace hS := cond_t hc hS
      refine zlRun (n := 3) (j := 11) rfl (by kernel_rfl) ?_
      refine bindE hS (fun z126 hz126 hS => ?_)
      refine zlOp (d := some 47) (op := (.call 11 [(.tmp 46)])) (g := (some (44, true))) (v := (.d (.int .i64 z126))) (ups := []) (j := 12) rfl (by kernel_rfl) (by kernel_rfl) (ev_call (args := [(.d (.int .i64 z124.Rune))]) (l := [(.d (.int .i64 z124.Rune))]) (r := (.d (.int .i64 z126))) (by kernel_rfl) (by kernel_rfl) (f11_ok base (d - 1) (dpt hd rfl) z124.Rune z126 hz126) (by kernel_rfl) (by kernel_rfl) (by kernel_rfl)) ?_
      refine zlBool (d := 48) (op := (.cmpI .eql (.tmp 47) (.const (.int .i64 0)))) (g := (some (44, true))) (j := 13) (decide (z126 = 0)) rfl (by kernel_rfl) (by kernel_rfl) (by kernel_rfl) (fun hc => ?_) (fun hc => ?_)
      · replace hS := cond_t hc hS
        refine zlRun (n := 8) (j := 21) rfl (by kernel_rfl) ?_
        refine zlEnd (by kernel_rfl) ?_
        refine zkSeq ?_
        refine zrCondT (by kernel_rfl) ?_
        refine zrSeq ?_
        refine zrReg ?_
        refine zlRun (n := 1) (j := 1) rfl (by kernel_rfl) ?_
        refine zlEnd (by kernel_rfl) ?_
        refine zkSeq ?_
        refine zrRet ?_
        refine zkBlkR ?_
        refine zkSeqR ?_
        refine zkNil ?_
        exact endQ hS hQ (finL_x (by intro h; cases h) (by show _ = _ ∧ _ = _; exact ⟨rfl, by kernel_rfl⟩))
      · replace hS := cond_f hc hS
        refine zlRun (n := 5) (j := 18) rfl (by kernel_rfl) ?_
        refine bindE hS (fun z127 hz127 hS => ?_)
        refine zlOp (d := some 54) (op := (.call 49 [(.tmp 52), (.tmp 53)])) (g := (some (51, false))) (v := (.d (.bool z127))) (ups := []) (j := 19) rfl (by kernel_rfl) (by kernel_rfl) (ev_call (args := [(.d (.sl p821.length (e_GCell.cells p821))), (.d (.int .i64 p827))]) (l := [(.d (.sl p821.length (e_GCell.cells p821))), (.d (.int .i64 p827))]) (r := (.d (.bool z127))) (by kernel_rfl) (by kernel_rfl) (f49_ok base (d - 1) (dpt hd rfl) p821 p827 z127 hz127) (by kernel_rfl) (by kernel_rfl) (by kernel_rfl)) ?_
        refine zlRun (n := 2) (j := 21) rfl (by kernel_rfl) ?_
        refine zlEnd (by kernel_rfl) ?_
        refine zkSeq ?_
        refine zrSplit 56 (!z127) (by kernel_rfl) (fun hc => ?_) (fun hc => ?_)
        · replace hS := cond_t hc hS
          refine zrCondT (by kernel_rfl) ?_
          refine zrSeq ?_
          refine zrReg ?_
          refine zlRun (n := 1) (j := 1) rfl (by kernel_rfl) ?_
          refine zlEnd (by kernel_rfl) ?_
          refine zkSeq ?_
          refine zrRet ?_
          refine zkBlkR ?_
          refine zkSeqR ?_
          refine zkNil ?_
          exact endQ hS hQ (finL_x (by intro h; cases h) (by show _ = _ ∧ _ = _; exact ⟨rfl, by kernel_rfl⟩))
        · replace hS := cond_f hc hS
          refine zrCondF (by kernel_rfl) ?_
          refine zrSkip ?_
          refine zkBlk ?_
          refine zkSeq ?_
          refine zrReg ?_
          refine zlRun (n := 2) (j := 2) rfl (by kernel_rfl) ?_
          refine zlEnd (by kernel_rfl) ?_
          refine zkNil ?_
          exact endQ hS hQ (finL_n (by show keepSt _ _ _ _ = _; kernel_rfl))
    · replace hS := cond_f hc hS
      refine zlRun (n := 10) (j := 18) rfl (by kernel_rfl) ?_
      refine bindE hS (fun z128 hz128 hS => ?_)
      refine zlOp (d := some 54) (op := (.call 49 [(.tmp 52), (.tmp 53)])) (g := (some (51, false))) (v := (.d (.bool z128))) (ups := []) (j := 19) rfl (by kernel_rfl) (by kernel_rfl) (ev_call (args := [(.d (.sl p821.length (e_GCell.cells p821))), (.d (.int .i64 p827))]) (l := [(.d (.sl p821.length (e_GCell.cells p821))), (.d (.int .i64 p827))]) (r := (.d (.bool z128))) (by kernel_rfl) (by kernel_rfl) (f49_ok base (d - 1) (dpt hd rfl) p821 p827 z128 hz128) (by kernel_rfl) (by kernel_rfl) (by kernel_rfl)) ?_
      refine zlRun (n := 2) (j := 21) rfl (by kernel_rfl) ?_
      refine zlEnd (by kernel_rfl) ?_
      refine zkSeq ?_
      refine zrSplit 56 (!z128) (by kernel_rfl) (fun hc => ?_) (fun hc => ?_)
      · replace hS := cond_t hc hS
        refine zrCondT (by kernel_rfl) ?_
        refine zrSeq ?_
        refine zrReg ?_
        refine zlRun (n := 1) (j := 1) rfl (by kernel_rfl) ?_
        refine zlEnd (by kernel_rfl) ?_
        refine zkSeq ?_
        refine zrRet ?_
        refine zkBlkR ?_
        refine zkSeqR ?_
        refine zkNil ?_
        exact endQ hS hQ (finL_x (by intro h; cases h) (by show _ = _ ∧ _ = _; exact ⟨rfl, by kernel_rfl⟩))
      · replace hS := cond_f hc hS
        refine zrCondF (by kernel_rfl) ?_
        refine zrSkip ?_
        refine zkBlk ?_
        refine zkSeq ?_
        refine zrReg ?_
        refine zlRun (n := 2) (j := 2) rfl (by kernel_rfl) ?_
        refine zlEnd (by kernel_rfl) ?_
        refine zkNil ?_
        exact endQ hS hQ (finL_n (by show keepSt _ _ _ _ = _; kernel_rfl))
def f25_l2_l5_j6_J (a1 : GGrid) (p813 : List GCell) (p814 : List (List GCell)) (p815 : Int) (p816 : Int) (p817 : List GCell) (p818 : Int) (p819 : Int) (p820 : Bool) : St := ⟨(up (up (up (up (up (up (up (up (fun _ => .un) 32 (.d (.bool p820))) 31 (.d (.int .i64 p819))) 30 (.d (.int .i64 p818))) 29 (.d (.sl p817.length (e_GCell.cells p817)))) 25 (.d (.int .i64 p816))) 24 (.d (.int .i64 p815))) 23 (.r (.msl 192 0 0 p814.length))) 4 (.d (.sl p813.length (e_GCell.cells p813)))), (up (hB fun _ => 0) 192 ⟨0, some (.own 22 1 ((eSl e_GCell).cells p814))⟩)⟩
noncomputable def f25_l2_l5_j6 (a1 : GGrid) (p813 : List GCell) (p814 : List (List GCell)) (p815 : Int) (p816 : Int) (p817 : List GCell) (p818 : Int) (p819 : Int) (p820 : Bool) : Option (((List GCell) × (List (List GCell)) × Int × Int × (List GCell) × Int × Int) ⊕ (((List (List GCell)) × Int × Int) ⊕ Int)) := (bif p820 then (f25_l2_l5_j7 a1 p813 p814 p815 p816 p817 p818 p819) else (some (.inr (.inl (p814, p815, p816)))))
theorem f25_l2_l5_j6_ok {base : Orc} {d : Nat} (hd : 5 ≤ d) (a1 : GGrid) {r : ((List GCell) × (List (List GCell)) × Int × Int × (List GCell) × Int × Int) ⊕ (((List (List GCell)) × Int × Int) ⊕ Int)} {Q : PX → St → Prop} (hQ : ∀ e st', finL (f25_l2_l5_H a1) (f25_l2_l5_X a1) r e st' → Q e st') (p813 : List GCell) (p814 : List (List GCell)) (p815 : Int) (p816 : Int) (p817 : List GCell) (p818 : Int) (p819 : Int) (p820 : Bool) (hS : f25_l2_l5_j6 a1 p813 p814 p815 p816 p817 p818 p819 p820 = some r) {st : St} (he : keepSt [4, 23, 24, 25, 29, 30, 31, 32] [(192, .id 192)] [] st = f25_l2_l5_j6_J a1 p813 p814 p815 p816 p817 p818 p819 p820) : ZR (lev codes base (d - 1)) Q c25_2 [] st := by
  refine zrKeep he ?_
  unfold f25_l2_l5_j6 at hS
  refine zrSeq ?_
  refine zrSplit 32 p820 (by kernel_rfl) (fun hc => ?_) (fun hc => ?_)
  · replace hS := cond_t hc hS
    refine zrCondT (by kernel_rfl) ?_
    refine zrSkip ?_
    refine zkSeq ?_
    exact f25_l2_l5_j7_ok hd a1 hQ p813 p814 p815 p816 p817 p818 p819 hS (by kernel_rfl)
  · replace hS := cond_f hc hS
    refine zrCondF (by kernel_rfl) ?_
    refine zrKeep (J := f25_l2_l5_e2_J a1 p814 p815 p816) (by kernel_rfl) ?_
    refine zrExit ?_
    refine zkSeqX ?_
    refine zkNil ?_
    exact endQ hS hQ (finL_x (by intro h; cases h) (by show _ = _ ∧ _ = _; exact ⟨rfl, rfl⟩))
noncomputable def f25_l2_l5 (a1 : GGrid) (x : (List GCell) × (List (List GCell)) × Int × Int × (List GCell) × Int × Int) : Option (((List GCell) × (List (List GCell)) × Int × Int × (List GCell) × Int × Int) ⊕ (((List (List GCell)) × Int × Int) ⊕ Int)) := (bif (decide (x.2.2.2.2.2.2 < x.2.2.2.2.2.1)) then (f25_l2_l5_j6 a1 x.1 x.2.1 x.2.2.1 x.2.2.2.1 x.2.2.2.2.1 x.2.2.2.2.2.1 x.2.2.2.2.2.2 true) else (f25_l2_l5_j6 a1 x.1 x.2.1 x.2.2.1 x.2.2.2.1 x.2.2.2.2.1 x.2.2.2.2.2.1 x.2.2.2.2.2.2 false))
theorem f25_l2_l5_ok {base : Orc} {d : Nat} (hd : 5 ≤ d) (a1 : GGrid) {r : ((List GCell) × (List (List GCell)) × Int × Int × (List GCell) × Int × Int) ⊕ (((List (List GCell)) × Int × Int) ⊕ Int)} {Q : PX → St → Prop} (hQ : ∀ e st', finL (f25_l2_l5_H a1) (f25_l2_l5_X a1) r e st' → Q e st') {x : (List GCell) × (List (List GCell)) × Int × Int × (List GCell) × Int × Int} (hS : f25_l2_l5 a1 x = some r) {st : St} (he : f25_l2_l5_H a1 x st) : ZR (lev codes base (d - 1)) Q c25_3 [] st := by
  refine zrKeep he ?_
  unfold f25_l2_l5 at hS
  refine zrSeq ?_
  refine zrReg ?_
  refine zlBool (d := 32) (op := (.cmpI .lss (.tmp 31) (.tmp 30))) (g := none) (j := 1) (decide (x.2.2.2.2.2.2 < x.2.2.2.2.2.1)) rfl (by kernel_rfl) (by kernel_rfl) (by kernel_rfl) (fun hc => ?_) (fun hc => ?_)
  · replace hS := cond_t hc hS
    refine zlEnd (by kernel_rfl) ?_
    refine zkSeq ?_
    exact f25_l2_l5_j6_ok hd a1 hQ x.1 x.2.1 x.2.2.1 x.2.2.2.1 x.2.2.2.2.1 x.2.2.2.2.2.1 x.2.2.2.2.2.2 true hS (by kernel_rfl)
  · replace hS := cond_f hc hS
    refine zlEnd (by kernel_rfl) ?_
    refine zkSeq ?_
    exact f25_l2_l5_j6_ok hd a1 hQ x.1 x.2.1 x.2.2.1 x.2.2.2.1 x.2.2.2.2.1 x.2.2.2.2.2.1 x.2.2.2.2.2.2 false hS (by kernel_rfl)
def f25_l2_j4_J (a1 : GGrid) (p690 : List (List GCell)) (p691 : Int) (p692 : Int) : St := ⟨(up (up (up (fun _ => .un) 25 (.d (.int .i64 p692))) 24 (.d (.int .i64 p691))) 23 (.r (.msl 192 0 0 p690.length))), (up (hB fun _ => 0) 192 ⟨0, some (.own 22 1 ((eSl e_GCell).cells p690))⟩)⟩
noncomputable def f25_l2_j4 (a1 : GGrid) (p690 : List (List GCell)) (p691 : Int) (p692 : Int) : Option (((List (List GCell)) × Int × Int) ⊕ (Unit ⊕ Int)) := ((inR p692 p690.length).bind fun m107 => ((p690[m107]?).bind fun z108 => ((loopO (f25_l2_l5 a1) (z108, p690, p691, p692, z108, (z108.length : Int), 0)).bind fun z129 => (Sum.elim (fun z130 => (some (.inl (z130.1, z130.2.1, (IntKind.i64.wrap (z130.2.2 + 1)))))) (fun z131 => (some (.inr (.inr z131)))) z129))))
theorem f25_l2_j4_ok {base : Orc} {d : Nat} (hd : 5 ≤ d) (a1 : GGrid) {r : ((List (List GCell)) × Int × Int) ⊕ (Unit ⊕ Int)} {Q : PX → St → Prop} (hQ : ∀ e st', finL (f25_l2_H a1) (f25_l2_X a1) r e st' → Q e st') (p690 : List (List GCell)) (p691 : Int) (p692 : Int) (hS : f25_l2_j4 a1 p690 p691 p692 = some r) {st : St} (he : keepSt [23, 24, 25] [(192, .id 192)] [] st = f25_l2_j4_J a1 p690 p691 p692) : ZR (lev codes base (d - 1)) Q c25_4 [] st := by
  refine zrKeep he ?_
  unfold f25_l2_j4 at hS
  refine zrSeq ?_
  refine zrBlk ?_
  refine zrSeq ?_
  refine zrReg ?_
  refine bindE hS (fun m107 hm107 hS => ?_)
  refine zlOp (d := some 27) (op := (.ixS 22 1 (.tmp 23) (.tmp 25))) (g := none) (v := (.r (.ptr 192 0 ((0 + m107) * 1)))) (ups := []) (j := 1) rfl (by kernel_rfl) (by kernel_rfl) (ev_ixM (kk := .i64) (b := 192) (g := 0) (l := 0) (n := p690.length) (j := p692) (cs := (eSl e_GCell).cells p690) (by kernel_rfl) (by kernel_rfl) (by kernel_rfl) hm107) ?_
  refine bindE hS (fun z108 hz108 hS => ?_)
  refine zlOp (d := some 28) (op := (.load .false 1 (.tmp 27))) (g := none) (v := (.d (.sl z108.length (e_GCell.cells z108)))) (ups := []) (j := 2) rfl (by kernel_rfl) (by kernel_rfl) (ev_loadM (eSl e_GCell) (b := 192) (g := 0) (o := (0 + m107) * 1) (e := 22) (k := 1) (m := m107) (fo := 0) (xs := p690) (by kernel_rfl) (by kernel_rfl) (by rw [Nat.zero_add]; rfl) hz108 (by kernel_rfl) (by kernel_rfl) (by kernel_rfl)) ?_
  refine zlRun (n := 1) (j := 3) rfl (by kernel_rfl) ?_
  refine zlEnd (by kernel_rfl) ?_
  refine zkSeq ?_
  refine zrSeq ?_
  refine zrReg ?_
  refine zlRun (n := 3) (j := 3) rfl (by kernel_rfl) ?_
  refine zlEnd (by kernel_rfl) ?_
  refine zkSeq ?_
  refine zrBlk ?_
  refine bindE hS (fun z129 hz129 hS => ?_)
  refine zrLoop (f25_l2_l5_H a1) (f25_l2_l5_X a1) (fun x st r Q h0 hS hQ => f25_l2_l5_ok hd a1 hQ hS h0) (x := (z108, p690, p691, p692, z108, (z108.length : Int), 0)) (z := z129) (by show keepSt _ _ _ _ = _; kernel_rfl) hz129 ?_
  rcases z129 with z130 | z131
  · replace hS := (show _ = _ from hS)
    simp only [Sum.elim_inl] at hS
    intro e st' _ hX
    obtain ⟨rfl, rfl⟩ : _ ∧ _ := hX
    refine zkBlkX ?_
    refine zkBlk ?_
    refine zkSeq ?_
    refine zrReg ?_
    refine zlRun (n := 2) (j := 2) rfl (by kernel_rfl) ?_
    refine zlEnd (by kernel_rfl) ?_
    refine zkNil ?_
    exact endQ hS hQ (finL_n (by show keepSt _ _ _ _ = _; kernel_rfl))
  · simp only [Sum.elim_inr] at hS
    intro e st' _ hX
    obtain ⟨rfl, hX⟩ : _ ∧ _ := hX
    refine zkBlkR ?_
    refine zkBlkR ?_
    refine zkSeqR ?_
    refine zkNil ?_
    exact endQ hS hQ (finL_x (by intro h; cases h) (by show _ = _ ∧ _ = _; exact ⟨rfl, hX⟩))
def f25_l2_j3_J (a1 : GGrid) (p686 : List (List GCell)) (p687 : Int) (p688 : Int) (p689 : Bool) : St := ⟨(up (up (up (up (fun _ => .un) 26 (.d (.bool p689))) 25 (.d (.int .i64 p688))) 24 (.d (.int .i64 p687))) 23 (.r (.msl 192 0 0 p686.length))), (up (hB fun _ => 0) 192 ⟨0, some (.own 22 1 ((eSl e_GCell).cells p686))⟩)⟩
noncomputable def f25_l2_j3 (a1 : GGrid) (p686 : List (List GCell)) (p687 : Int) (p688 : Int) (p689 : Bool) : Option (((List (List GCell)) × Int × Int) ⊕ (Unit ⊕ Int)) := (bif p689 then (f25_l2_j4 a1 p686 p687 p688) else (some (.inr (.inl ()))))
theorem f25_l2_j3_ok {base : Orc} {d : Nat} (hd : 5 ≤ d) (a1 : GGrid) {r : ((List (List GCell)) × Int × Int) ⊕ (Unit ⊕ Int)} {Q : PX → St → Prop} (hQ : ∀ e st', finL (f25_l2_H a1) (f25_l2_X a1) r e st' → Q e st') (p686 : List (List GCell)) (p687 : Int) (p688 : Int) (p689 : Bool) (hS : f25_l2_j3 a1 p686 p687 p688 p689 = some r) {st : St} (he : keepSt [23, 24, 25, 26] [(192, .id 192)] [] st = f25_l2_j3_J a1 p686 p687 p688 p689) : ZR (lev codes base (d - 1)) Q c25_5 [] st := by
  refine zrKeep he ?_
  unfold f25_l2_j3 at hS
  refine zrSeq ?_
  refine zrSplit 26 p689 (by kernel_rfl) (fun hc => ?_) (fun hc => ?_)
  · replace hS := cond_t hc hS
    refine zrCondT (by kernel_rfl) ?_
    refine zrSkip ?_
    refine zkSeq ?_
    exact f25_l2_j4_ok hd a1 hQ p686 p687 p688 hS (by kernel_rfl)
  · replace hS := cond_f hc hS
    refine zrCondF (by kernel_rfl) ?_
    refine zrKeep (J := f25_l2_e0_J a1) (by kernel_rfl) ?_
    refine zrExit ?_
    refine zkSeqX ?_
    refine zkNil ?_
    exact endQ hS hQ (finL_x (by intro h; cases h) (by show _ = _ ∧ _ = _; exact ⟨rfl, rfl⟩))
noncomputable def f25_l2 (a1 : GGrid) (x : (List (List GCell)) × Int × Int) : Option (((List (List GCell)) × Int × Int) ⊕ (Unit ⊕ Int)) := (bif (decide (x.2.2 < x.2.1)) then (f25_l2_j3 a1 x.1 x.2.1 x.2.2 true) else (f25_l2_j3 a1 x.1 x.2.1 x.2.2 false))
theorem f25_l2_ok {base : Orc} {d : Nat} (hd : 5 ≤ d) (a1 : GGrid) {r : ((List (List GCell)) × Int × Int) ⊕ (Unit ⊕ Int)} {Q : PX → St → Prop} (hQ : ∀ e st', finL (f25_l2_H a1) (f25_l2_X a1) r e st' → Q e st') {x : (List (List GCell)) × Int × Int} (hS : f25_l2 a1 x = some r) {st : St} (he : f25_l2_H a1 x st) : ZR (lev codes base (d - 1)) Q c25_6 [] st := by
  refine zrKeep he ?_
  unfold f25_l2 at hS
  refine zrSeq ?_
  refine zrReg ?_
  refine zlBool (d := 26) (op := (.cmpI .lss (.tmp 25) (.tmp 24))) (g := none) (j := 1) (decide (x.2.2 < x.2.1)) rfl (by kernel_rfl) (by kernel_rfl) (by kernel_rfl) (fun hc => ?_) (fun hc => ?_)
  · replace hS := cond_t hc hS
    refine zlEnd (by kernel_rfl) ?_
    refine zkSeq ?_
    exact f25_l2_j3_ok hd a1 hQ x.1 x.2.1 x.2.2 true hS (by kernel_rfl)
  · replace hS := cond_f hc hS
    refine zlEnd (by kernel_rfl) ?_
    refine zkSeq ?_
    exact f25_l2_j3_ok hd a1 hQ x.1 x.2.1 x.2.2 false hS (by kernel_rfl)
def f25_j1_J (a1 : GGrid) : St := ⟨(up (fun _ => .un) 1 (.r (.ptr 16 0 0))), (up (hB fun _ => 0) 16 ⟨0, some (.box ((.d (.int .i64 a1.Wide)) :: ((.d (.int .i64 a1.High)) :: ((.d (.sl a1.Cells.length (e_GCell.cells a1.Cells))) :: []))))⟩)⟩
noncomputable def f25_j1 (a1 : GGrid) : Option (Int) := ((f48 a1).bind fun z55 => ((loopO (f25_l2 a1) (z55, (z55.length : Int), 0)).bind fun z132 => (Sum.elim (fun z133 => (some 0)) (fun z134 => (some z134)) z132)))
theorem f25_j1_ok {base : Orc} {d : Nat} (hd : 5 ≤ d) (a1 : GGrid) {r : Int} {Q : PX → St → Prop} (hQ : ∀ e st', f25_Q r e st' → Q e st')  (hS : f25_j1 a1 = some r) {st : St} (he : keepSt [1] [(16, .id 16)] [] st = f25_j1_J a1) : ZR (lev codes base (d - 1)) Q c25_7 [] st := by
  refine zrKeep he ?_
  unfold f25_j1 at hS
  refine zrSeq ?_
  refine zrSeq ?_
  refine zrReg ?_
  refine zlRun (n := 1) (j := 1) rfl (by kernel_rfl) ?_
  refine bindE hS (fun z55 hz55 hS => ?_)
  refine zlOp (d := some 23) (op := (.callf 48 [(.tmp 22)])) (g := none) (v := (.r (.msl 192 1 0 z55.length))) (ups := [(192, ⟨1, some (.own 22 1 ((eSl e_GCell).cells z55))⟩)]) (j := 2) rfl (by kernel_rfl) (by kernel_rfl) (ev_callF (args := [(.agg ((.d (.int .i64 a1.Wide)) :: ((.d (.int .i64 a1.High)) :: ((.d (.sl a1.Cells.length (e_GCell.cells a1.Cells))) :: []))))]) (args' := [(.agg ((.d (.int .i64 a1.Wide)) :: ((.d (.int .i64 a1.High)) :: ((.d (.sl a1.Cells.length (e_GCell.cells a1.Cells))) :: []))))]) (l := [(.agg ((.d (.int .i64 a1.Wide)) :: ((.d (.int .i64 a1.High)) :: ((.d (.sl a1.Cells.length (e_GCell.cells a1.Cells))) :: []))))]) (refs := []) (r := (.r (.own 0 22 1 z55.length ((eSl e_GCell).cells z55)))) (v := (.r (.msl 192 1 0 z55.length))) (ups' := [(192, ⟨1, some (.own 22 1 ((eSl e_GCell).cells z55))⟩)]) (by kernel_rfl) (by kernel_rfl) (by kernel_rfl) (fz_cons rfl fz_nil) (by kernel_rfl) (f48_ok base (d - 1) (dpt hd rfl) a1 z55 hz55) (by kernel_rfl) (by kernel_rfl) (by kernel_rfl) (by kernel_rfl)) ?_
  refine zlRun (n := 2) (j := 4) rfl (by kernel_rfl) ?_
  refine zlEnd (by kernel_rfl) ?_
  refine zkSeq ?_
  refine zrBlk ?_
  refine bindE hS (fun z132 hz132 hS => ?_)
  refine zrLoop (f25_l2_H a1) (f25_l2_X a1) (fun x st r Q h0 hS hQ => f25_l2_ok hd a1 hQ hS h0) (x := (z55, (z55.length : Int), 0)) (z := z132) (by show keepSt _ _ _ _ = _; kernel_rfl) hz132 ?_
  rcases z132 with z133 | z134
  · replace hS := (show _ = _ from hS)
    simp only [Sum.elim_inl] at hS
    intro e st' _ hX
    obtain ⟨rfl, rfl⟩ : _ ∧ _ := hX
    refine zkBlkX ?_
    refine zkSeq ?_
    refine zrSeq ?_
    refine zrReg ?_
    refine zlRun (n := 1) (j := 1) rfl (by kernel_rfl) ?_
    refine zlEnd (by kernel_rfl) ?_
    refine zkSeq ?_
    refine zrRet ?_
    refine zkNil ?_
    exact endQ hS hQ (fRet (by kernel_rfl) ((congrArg (fun s => outR s 0 c25.res) (by kernel_rfl : finSt c25.fin _ = f25_fin 0)).trans (f25_out 0)))
  · simp only [Sum.elim_inr] at hS
    intro e st' _ hX
    obtain ⟨rfl, hX⟩ : _ ∧ _ := hX
    refine zkBlkR ?_
    refine zkSeqR ?_
    refine zkNil ?_
    exact endQ hS hQ (fRet (by kernel_rfl) ((congrArg (fun s => outR s 0 c25.res) hX).trans (f25_out z134)))
def f25_j0_J (a1 : GGrid) : St := ⟨(up (fun _ => .un) 1 (.r (.ptr 16 0 0))), (up (hB fun _ => 0) 16 ⟨0, some (.box ((.d (.int .i64 a1.Wide)) :: ((.d (.int .i64 a1.High)) :: ((.d (.sl a1.Cells.length (e_GCell.cells a1.Cells))) :: []))))⟩)⟩
noncomputable def f25_j0 (a1 : GGrid) : Option (Int) := (bif (!decide ((a1.Cells.length : Int) = (IntKind.i64.wrap (a1.Wide * a1.High)))) then (some 4) else (f25_j1 a1 ))
theorem f25_j0_ok {base : Orc} {d : Nat} (hd : 5 ≤ d) (a1 : GGrid) {r : Int} {Q : PX → St → Prop} (hQ : ∀ e st', f25_Q r e st' → Q e st')  (hS : f25_j0 a1 = some r) {st : St} (he : keepSt [1] [(16, .id 16)] [] st = f25_j0_J a1) : ZR (lev codes base (d - 1)) Q c25_8 [] st := by
  refine zrKeep he ?_
  unfold f25_j0 at hS
  refine zrSeq ?_
  refine zrSeq ?_
  refine zrReg ?_
  refine zlRun (n := 8) (j := 8) rfl (by kernel_rfl) ?_
  refine zlBool (d := 21) (op := (.cmpI .neq (.tmp 15) (.tmp 20))) (g := none) (j := 9) (!decide ((a1.Cells.length : Int) = (IntKind.i64.wrap (a1.Wide * a1.High)))) rfl (by kernel_rfl) (by kernel_rfl) (by kernel_rfl) (fun hc => ?_) (fun hc => ?_)
  · replace hS := cond_t hc hS
    refine zlEnd (by kernel_rfl) ?_
    refine zkSeq ?_
    refine zrCondT (by kernel_rfl) ?_
    refine zrSeq ?_
    refine zrReg ?_
    refine zlRun (n := 1) (j := 1) rfl (by kernel_rfl) ?_
    refine zlEnd (by kernel_rfl) ?_
    refine zkSeq ?_
    refine zrRet ?_
    refine zkSeqR ?_
    refine zkNil ?_
    exact endQ hS hQ (fRet (by kernel_rfl) ((congrArg (fun s => outR s 0 c25.res) (by kernel_rfl : finSt c25.fin _ = f25_fin 4)).trans (f25_out 4)))
  · replace hS := cond_f hc hS
    refine zlEnd (by kernel_rfl) ?_
    refine zkSeq ?_
    refine zrCondF (by kernel_rfl) ?_
    refine zrSkip ?_
    refine zkSeq ?_
    exact f25_j1_ok hd a1 hQ  hS (by kernel_rfl)
noncomputable def f25 (a1 : GGrid) : Option (Int) := ((f47 a1.Wide a1.High).bind fun z135 => (bif (!z135) then (some 1) else (f25_j0 a1 )))
theorem f25_ok (base : Orc) (d : Nat) (hd : 5 ≤ d) (a1 : GGrid) (r : Int) (hS : f25 a1 = some r) : lev codes base d 25 [(.agg ((.d (.int .i64 a1.Wide)) :: ((.d (.int .i64 a1.High)) :: ((.d (.sl a1.Cells.length (e_GCell.cells a1.Cells))) :: []))))] [] = some ((.d (.int .i64 r)), []) := by
  refine lev_go codes25 rfl rfl (Nat.le_trans (Nat.le_of_ble_eq_true rfl) hd) fun Q hQ => ?_
  unfold f25 at hS
  show ZR _ Q c25_b [] _
  replace hQ : ∀ e st', f25_Q r e st' → Q e st' := hQ
  refine zrSeq ?_
  refine zrReg ?_
  refine zlRun (n := 2) (j := 2) rfl (by kernel_rfl) ?_
  refine zlEnd (by kernel_rfl) ?_
  refine zkSeq ?_
  refine zrSeq ?_
  refine zrSeq ?_
  refine zrReg ?_
  refine zlRun (n := 4) (j := 4) rfl (by kernel_rfl) ?_
  refine bindE hS (fun z135 hz135 hS => ?_)
  refine zlOp (d := some 11) (op := (.call 47 [(.tmp 8), (.tmp 10)])) (g := none) (v := (.d (.bool z135))) (ups := []) (j := 5) rfl (by kernel_rfl) (by kernel_rfl) (ev_call (args := [(.d (.int .i64 a1.Wide)), (.d (.int .i64 a1.High))]) (l := [(.d (.int .i64 a1.Wide)), (.d (.int .i64 a1.High))]) (r := (.d (.bool z135))) (by kernel_rfl) (by kernel_rfl) (f47_ok base (d - 1) (dpt hd rfl) a1.Wide a1.High z135 hz135) (by kernel_rfl) (by kernel_rfl) (by kernel_rfl)) ?_
  refine zlRun (n := 1) (j := 6) rfl (by kernel_rfl) ?_
  refine zlEnd (by kernel_rfl) ?_
  refine zkSeq ?_
  refine zrSplit 12 (!z135) (by kernel_rfl) (fun hc => ?_) (fun hc => ?_)
  · replace hS := cond_t hc hS
    refine zrCondT (by kernel_rfl) ?_
    refine zrSeq ?_
    refine zrReg ?_
    refine zlRun (n := 1) (j := 1) rfl (by kernel_rfl) ?_
    refine zlEnd (by kernel_rfl) ?_
    refine zkSeq ?_
    refine zrRet ?_
    refine zkSeqR ?_
    refine zkNil ?_
    exact endQ hS hQ (fRet (by kernel_rfl) ((congrArg (fun s => outR s 0 c25.res) (by kernel_rfl : finSt c25.fin _ = f25_fin 1)).trans (f25_out 1)))
  · replace hS := cond_f hc hS
    refine zrCondF (by kernel_rfl) ?_
    refine zrSkip ?_
    refine zkSeq ?_
    exact f25_j0_ok hd a1 hQ  hS (by kernel_rfl)
/- farwriter/grid.Text -/
def f13_fin (p89 : List Int) (p90 : Int) : St := ⟨(up (up (fun _ => .un) 5 (.d (.int .i64 p90))) 4 (.r (.msl 393 0 0 p89.length))), (up (hB fun _ => 0) 393 ⟨0, some (.own 3 1 ((eInt .i64).cells p89))⟩)⟩
theorem f13_out (p89 : List Int) (p90 : Int) : outR (f13_fin p89 p90) 0 c13.res = some ((.tup [(.r (.own 0 3 1 p89.length ((eInt .i64).cells p89))), (.d (.int .i64 p90))]), []) := by
  exact out_of (ids := []) (ids' := [393]) (l := [(.r (.msl 393 0 0 p89.length)), (.d (.int .i64 p90))]) (by kernel_rfl) (by kernel_rfl) (o_tup (o_cons (o_own (eInt .i64) (e := 3) (k := 1) (xs := p89) (by kernel_rfl) rfl rfl rfl rfl) (o_cons rfl o_nil)))
def f13_Q (r : (List Int) × Int) (e : PX) (st : St) : Prop := DoneF c13 0 ((.tup [(.r (.own 0 3 1 r.1.length ((eInt .i64).cells r.1))), (.d (.int .i64 r.2))]), []) e st
def f13_l2_J (a1 : GGrid) (a2 : Int) (x : (List Int) × (List GCell) × Nat × Nat × Int × Int) : St := ⟨(up (up (up (up (fun _ => .un) 31 (.d (.int .i64 x.2.2.2.2.2))) 30 (.d (.int .i64 x.2.2.2.2.1))) 29 (.r (.msl 176 0 x.2.2.1 x.2.2.2.1))) 7 (.r (.msl 64 0 0 x.1.length))), (up (up (hB fun _ => 0) 176 ⟨0, some (.own 33 4 (e_GCell.cells x.2.1))⟩) 64 ⟨0, some (.own 3 1 ((eInt .i64).cells x.1))⟩)⟩
def f13_l2_H (a1 : GGrid) (a2 : Int) (x : (List Int) × (List GCell) × Nat × Nat × Int × Int) (st : St) : Prop := keepSt [7, 29, 30, 31] [(64, .id 64), (176, .id 176)] [] st = f13_l2_J a1 a2 x
def f13_l2_e0_J (a1 : GGrid) (a2 : Int) (p185 : List Int) : St := ⟨(up (fun _ => .un) 7 (.r (.msl 64 0 0 p185.length))), (up (hB fun _ => 0) 64 ⟨0, some (.own 3 1 ((eInt .i64).cells p185))⟩)⟩
def f13_l2_X (a1 : GGrid) (a2 : Int) (z : ((List Int))) (e : PX) (st : St) : Prop := e = .exit 0 ∧ st = f13_l2_e0_J a1 a2 z
def f13_l2_j4_J (a1 : GGrid) (a2 : Int) (p200 : List Int) (p201 : List GCell) (p202 : Nat) (p203 : Nat) (p204 : Int) (p205 : Int) : St := ⟨(up (up (up (up (fun _ => .un) 31 (.d (.int .i64 p205))) 30 (.d (.int .i64 p204))) 29 (.r (.msl 176 0 p202 p203))) 7 (.r (.msl 64 0 0 p200.length))), (up (up (hB fun _ => 0) 176 ⟨0, some (.own 33 4 (e_GCell.cells p201))⟩) 64 ⟨0, some (.own 3 1 ((eInt .i64).cells p200))⟩)⟩
noncomputable def f13_l2_j4 (a1 : GGrid) (a2 : Int) (p200 : List Int) (p201 : List GCell) (p202 : Nat) (p203 : Nat) (p204 : Int) (p205 : Int) : Option (((List Int) × (List GCell) × Nat × Nat × Int × Int) ⊕ (((List Int)))) := ((inR p205 p203).bind fun m29 => ((p201[(p202 + m29)]?).bind fun z30 => (bif (!decide (z30.Rune = 0)) then ((app? 8 p200 ([z30.Rune] : List Int)).bind fun z31 => (some (.inl (z31, p201, p202, p203, p204, (IntKind.i64.wrap (p205 + 1)))))) else (some (.inl (p200, p201, p202, p203, p204, (IntKind.i64.wrap (p205 + 1))))))))
theorem f13_l2_j4_ok {base : Orc} {d : Nat} (hd : 6 ≤ d) (a1 : GGrid) (a2 : Int) {r : ((List Int) × (List GCell) × Nat × Nat × Int × Int) ⊕ (((List Int)))} {Q : PX → St → Prop} (hQ : ∀ e st', finL (f13_l2_H a1 a2) (f13_l2_X a1 a2) r e st' → Q e st') (p200 : List Int) (p201 : List GCell) (p202 : Nat) (p203 : Nat) (p204 : Int) (p205 : Int) (hS : f13_l2_j4 a1 a2 p200 p201 p202 p203 p204 p205 = some r) {st : St} (he : keepSt [7, 29, 30, 31] [(64, .id 64), (176, .id 176)] [] st = f13_l2_j4_J a1 a2 p200 p201 p202 p203 p204 p205) : ZR (lev codes base (d - 1)) Q c13_1 [] st := by
  refine zrKeep he ?_
  unfold f13_l2_j4 at hS
  refine zrSeq ?_
  refine zrBlk ?_
  refine zrSeq ?_
  refine zrReg ?_
  refine bindE hS (fun m29 hm29 hS => ?_)
  refine zlOp (d := some 33) (op := (.ixS 33 4 (.tmp 29) (.tmp 31))) (g := none) (v := (.r (.ptr 176 0 ((p202 + m29) * 4)))) (ups := []) (j := 1) rfl (by kernel_rfl) (by kernel_rfl) (ev_ixM (kk := .i64) (b := 176) (g := 0) (l := p202) (n := p203) (j := p205) (cs := e_GCell.cells p201) (by kernel_rfl) (by kernel_rfl) (by kernel_rfl) hm29) ?_
  refine bindE hS (fun z30 hz30 hS => ?_)
  refine zlOp (d := some 34) (op := (.load .true 4 (.tmp 33))) (g := none) (v := (.agg ((.d (.int .i64 z30.Rune)) :: ((.d (.int .i64 z30.Pen.Flags)) :: ((.d (.int .i64 z30.Pen.Fore)) :: ((.d (.int .i64 z30.Pen.Back)) :: [])))))) (ups := []) (j := 2) rfl (by kernel_rfl) (by kernel_rfl) (ev_loadM e_GCell (b := 176) (g := 0) (o := (p202 + m29) * 4) (e := 33) (k := 4) (m := (p202 + m29)) (fo := 0) (xs := p201) (by kernel_rfl) (by kernel_rfl) rfl hz30 (by kernel_rfl) (by kernel_rfl) (by kernel_rfl)) ?_
  refine zlRun (n := 2) (j := 4) rfl (by kernel_rfl) ?_
  refine zlEnd (by kernel_rfl) ?_
  refine zkSeq ?_
  refine zrSeq ?_
  refine zrReg ?_
  refine zlRun (n := 2) (j := 2) rfl (by kernel_rfl) ?_
  refine zlBool (d := 37) (op := (.cmpI .neq (.tmp 36) (.const (.int .i64 0)))) (g := none) (j := 3) (!decide (z30.Rune = 0)) rfl (by kernel_rfl) (by kernel_rfl) (by kernel_rfl) (fun hc => ?_) (fun hc => ?_)
  · replace hS := cond_t hc hS
    refine zlEnd (by kernel_rfl) ?_
    refine zkSeq ?_
    refine zrCondT (by kernel_rfl) ?_
    refine zrReg ?_
    refine zlRun (n := 4) (j := 4) rfl (by kernel_rfl) ?_
    refine bindE hS (fun z31 hz31 hS => ?_)
    refine zlOp (d := some 42) (op := (.app 3 1 8 (.tmp 38) (.tmp 41))) (g := none) (v := (.r (.msl 64 1 0 z31.length))) (ups := [(64, ⟨1, some (.own 3 1 ((eInt .i64).cells z31))⟩)]) (j := 5) rfl (by kernel_rfl) (by kernel_rfl) (ev_app (eInt .i64) (b := 64) (g := 0) (n := p200.length) (xs := p200) (ys := [z30.Rune]) ((congrArg (asL _) (by kernel_rfl : ρof _ (.tmp 41) = (.r (.msl 336 1 0 (([z30.Rune] : List Int).length))))).trans (as_whole (eInt .i64) (e := 3) (k := 1) (xs := [z30.Rune]) (by kernel_rfl) rfl rfl)) rfl (by kernel_rfl) rfl (by kernel_rfl) rfl hz31) ?_
    refine zlRun (n := 1) (j := 6) rfl (by kernel_rfl) ?_
    refine zlEnd (by kernel_rfl) ?_
    refine zkBlk ?_
    refine zkSeq ?_
    refine zrReg ?_
    refine zlRun (n := 2) (j := 2) rfl (by kernel_rfl) ?_
    refine zlEnd (by kernel_rfl) ?_
    refine zkNil ?_
    exact endQ hS hQ (finL_n (by show keepSt _ _ _ _ = _; kernel_rfl))
  · replace hS := cond_f hc hS
    refine zlEnd (by kernel_rfl) ?_
    refine zkSeq ?_
    refine zrCondF (by kernel_rfl) ?_
    refine zrSkip ?_
    refine zkBlk ?_
    refine zkSeq ?_
    refine zrReg ?_
    refine zlRun (n := 2) (j := 2) rfl (by kernel_rfl) ?_
    refine zlEnd (by kernel_rfl) ?_
    refine zkNil ?_
    exact endQ hS hQ (finL_n (by show keepSt _ _ _ _ = _; kernel_rfl))
def f13_l2_j3_J (a1 : GGrid) (a2 : Int) (p193 : List Int) (p194 : List GCell) (p195 : Nat) (p196 : Nat) (p197 : Int) (p198 : Int) (p199 : Bool) : St := ⟨(up (up (up (up (up (fun _ => .un) 32 (.d (.bool p199))) 31 (.d (.int .i64 p198))) 30 (.d (.int .i64 p197))) 29 (.r (.msl 176 0 p195 p196))) 7 (.r (.msl 64 0 0 p193.length))), (up (up (hB fun _ => 0) 176 ⟨0, some (.own 33 4 (e_GCell.cells p194))⟩) 64 ⟨0, some (.own 3 1 ((eInt .i64).cells p193))⟩)⟩
noncomputable def f13_l2_j3 (a1 : GGrid) (a2 : Int) (p193 : List Int) (p194 : List GCell) (p195 : Nat) (p196 : Nat) (p197 : Int) (p198 : Int) (p199 : Bool) : Option (((List Int) × (List GCell) × Nat × Nat × Int × Int) ⊕ (((List Int)))) := (bif p199 then (f13_l2_j4 a1 a2 p193 p194 p195 p196 p197 p198) else (some (.inr p193)))
theorem f13_l2_j3_ok {base : Orc} {d : Nat} (hd : 6 ≤ d) (a1 : GGrid) (a2 : Int) {r : ((List Int) × (List GCell) × Nat × Nat × Int × Int) ⊕ (((List Int)))} {Q : PX → St → Prop} (hQ : ∀ e st', finL (f13_l2_H a1 a2) (f13_l2_X a1 a2) r e st' → Q e st') (p193 : List Int) (p194 : List GCell) (p195 : Nat) (p196 : Nat) (p197 : Int) (p198 : Int) (p199 : Bool) (hS : f13_l2_j3 a1 a2 p193 p194 p195 p196 p197 p198 p199 = some r) {st : St} (he : keepSt [7, 29, 30, 31, 32] [(64, .id 64), (176, .id 176)] [] st = f13_l2_j3_J a1 a2 p193 p194 p195 p196 p197 p198 p199) : ZR (lev codes base (d - 1)) Q c13_2 [] st := by
  refine zrKeep he ?_
  unfold f13_l2_j3 at hS
  refine zrSeq ?_
  refine zrSplit 32 p199 (by kernel_rfl) (fun hc => ?_) (fun hc => ?_)
  · replace hS := cond_t hc hS
    refine zrCondT (by kernel_rfl) ?_
    refine zrSkip ?_
    refine zkSeq ?_
    exact f13_l2_j4_ok hd a1 a2 hQ p193 p194 p195 p196 p197 p198 hS (by kernel_rfl)
  · replace hS := cond_f hc hS
    refine zrCondF (by kernel_rfl) ?_
    refine zrKeep (J := f13_l2_e0_J a1 a2 p193) (by kernel_rfl) ?_
    refine zrExit ?_
    refine zkSeqX ?_
    refine zkNil ?_
    exact endQ hS hQ (finL_x (by intro h; cases h) (by show _ = _ ∧ _ = _; exact ⟨rfl, rfl⟩))
noncomputable def f13_l2 (a1 : GGrid) (a2 : Int) (x : (List Int) × (List GCell) × Nat × Nat × Int × Int) : Option (((List Int) × (List GCell) × Nat × Nat × Int × Int) ⊕ (((List Int)))) := (bif (decide (x.2.2.2.2.2 < x.2.2.2.2.1)) then (f13_l2_j3 a1 a2 x.1 x.2.1 x.2.2.1 x.2.2.2.1 x.2.2.2.2.1 x.2.2.2.2.2 true) else (f13_l2_j3 a1 a2 x.1 x.2.1 x.2.2.1 x.2.2.2.1 x.2.2.2.2.1 x.2.2.2.2.2 false))
theorem f13_l2_ok {base : Orc} {d : Nat} (hd : 6 ≤ d) (a1 : GGrid) (a2 : Int) {r : ((List Int) × (List GCell) × Nat × Nat × Int × Int) ⊕ (((List Int)))} {Q : PX → St → Prop} (hQ : ∀ e st', finL (f13_l2_H a1 a2) (f13_l2_X a1 a2) r e st' → Q e st') {x : (List Int) × (List GCell) × Nat × Nat × Int × Int} (hS : f13_l2 a1 a2 x = some r) {st : St} (he : f13_l2_H a1 a2 x st) : ZR (lev codes base (d - 1)) Q c13_3 [] st := by
  refine zrKeep he ?_
  unfold f13_l2 at hS
  refine zrSeq ?_
  refine zrReg ?_
  refine zlBool (d := 32) (op := (.cmpI .lss (.tmp 31) (.tmp 30))) (g := none) (j := 1) (decide (x.2.2.2.2.2 < x.2.2.2.2.1)) rfl (by kernel_rfl) (by kernel_rfl) (by kernel_rfl) (fun hc => ?_) (fun hc => ?_)
  · replace hS := cond_t hc hS
    refine zlEnd (by kernel_rfl) ?_
    refine zkSeq ?_
    exact f13_l2_j3_ok hd a1 a2 hQ x.1 x.2.1 x.2.2.1 x.2.2.2.1 x.2.2.2.2.1 x.2.2.2.2.2 true hS (by kernel_rfl)
  · replace hS := cond_f hc hS
    refine zlEnd (by kernel_rfl) ?_
    refine zkSeq ?_
    exact f13_l2_j3_ok hd a1 a2 hQ x.1 x.2.1 x.2.2.1 x.2.2.2.1 x.2.2.2.2.1 x.2.2.2.2.2 false hS (by kernel_rfl)
def f13_j1_J (a1 : GGrid) (a2 : Int) (p108 : Int) (p109 : Int) (p110 : List GCell) : St := ⟨(up (up (fun _ => .un) 2 (.r (.ptr 24 0 0))) 1 (.d (.int .i64 a2))), (up (up (hB fun _ => 0) 176 ⟨0, some (.own 33 4 (e_GCell.cells p110))⟩) 24 ⟨0, some (.box ((.d (.int .i64 p108)) :: ((.d (.int .i64 p109)) :: ((.r (.msl 176 0 0 p110.length)) :: []))))⟩)⟩
noncomputable def f13_j1 (a1 : GGrid) (a2 : Int) (p108 : Int) (p109 : Int) (p110 : List GCell) : Option ((List Int) × Int) := ((f33v1 p108 p109 a2 p110).bind fun z18 => ((chk (decide (z18.1.length = p110.length))).bind fun z19 => ((loopO (f13_l2 a1 a2) ([], z18.1, z18.2.1, z18.2.2, (z18.2.2 : Int), 0)).bind fun z32 => (some (z32, 0)))))
theorem f13_j1_ok {base : Orc} {d : Nat} (hd : 6 ≤ d) (a1 : GGrid) (a2 : Int) {r : (List Int) × Int} {Q : PX → St → Prop} (hQ : ∀ e st', f13_Q r e st' → Q e st') (p108 : Int) (p109 : Int) (p110 : List GCell) (hS : f13_j1 a1 a2 p108 p109 p110 = some r) {st : St} (he : keepSt [1, 2] [(24, .id 24), (176, .id 176)] [] st = f13_j1_J a1 a2 p108 p109 p110) : ZR (lev codes base (d - 1)) Q c13_4 [] st := by
  refine zrKeep he ?_
  unfold f13_j1 at hS
  refine zrSeq ?_
  refine zrReg ?_
  refine zlRun (n := 1) (j := 1) rfl (by kernel_rfl) ?_
  refine zlEnd (by kernel_rfl) ?_
  refine zkSeq ?_
  refine zrSeq ?_
  refine zrSeq ?_
  refine zrReg ?_
  refine zlRun (n := 2) (j := 2) rfl (by kernel_rfl) ?_
  refine bindE hS (fun z18 hz18 hS => ?_)
  refine bindE hS (fun z19 hz19 hS => ?_)
  refine zlOp (d := some 29) (op := (.callr 33 [(.tmp 27), (.tmp 28)])) (g := none) (v := (.r (.msl 176 0 z18.2.1 z18.2.2))) (ups := [(176, ⟨0, some (.own 33 4 (e_GCell.cells z18.1))⟩)]) (j := 3) rfl (by kernel_rfl) (by kernel_rfl) (ev_callrX (args := [(.agg ((.d (.int .i64 p108)) :: ((.d (.int .i64 p109)) :: ((.r (.msl 176 0 0 p110.length)) :: [])))), (.d (.int .i64 a2))]) (ids := [176]) (bs := [(.own 33 4 (e_GCell.cells p110))]) (l := [(.agg ((.d (.int .i64 p108)) :: ((.d (.int .i64 p109)) :: ((.r (.msl 0 0 0 p110.length)) :: [])))), (.d (.int .i64 a2))]) (bt := [(.own 33 4 (e_GCell.cells p110))]) (r := (.r (.msl 0 0 z18.2.1 z18.2.2))) (bs' := [(.own 33 4 (e_GCell.cells z18.1)), .box []]) (by kernel_rfl) (by kernel_rfl) (by kernel_rfl) (by kernel_rfl) (by kernel_rfl) (f33v1_ok base (d - 1) (dpt hd rfl) p108 p109 a2 p110 z18 hz18) (by kernel_rfl) (sm_own e_GCell (e1 := 33) (k1 := 4) (xs := p110) (ys := z18.1) (by kernel_rfl) hz19 sm_nil) (by kernel_rfl) (by kernel_rfl)) ?_
  have lz19 : p110.length = z18.1.length := (of_decide_eq_true (chk_t hz19)).symm
  try delta f13_j1_J
  try rw [lz19]
  refine zlRun (n := 2) (j := 5) rfl (by kernel_rfl) ?_
  refine zlEnd (by kernel_rfl) ?_
  refine zkSeq ?_
  refine zrBlk ?_
  refine bindE hS (fun z32 hz32 hS => ?_)
  refine zrLoop (f13_l2_H a1 a2) (f13_l2_X a1 a2) (fun x st r Q h0 hS hQ => f13_l2_ok hd a1 a2 hQ hS h0) (x := ([], z18.1, z18.2.1, z18.2.2, (z18.2.2 : Int), 0)) (z := z32) (by show keepSt _ _ _ _ = _; kernel_rfl) hz32 ?_
  intro e st' _ hX
  obtain ⟨rfl, rfl⟩ : _ ∧ _ := hX
  refine zkBlkX ?_
  refine zkSeq ?_
  refine zrSeq ?_
  refine zrReg ?_
  refine zlRun (n := 3) (j := 3) rfl (by kernel_rfl) ?_
  refine zlEnd (by kernel_rfl) ?_
  refine zkSeq ?_
  refine zrRet ?_
  refine zkNil ?_
  exact endQ hS hQ (fRet (by kernel_rfl) ((congrArg (fun s => outR s 0 c13.res) (by kernel_rfl : finSt c13.fin _ = f13_fin z32 0)).trans (f13_out z32 0)))
def f13_j0_J (a1 : GGrid) (a2 : Int) (p99 : Int) (p100 : Int) (p101 : List GCell) (p102 : Int) : St := ⟨(up (up (up (fun _ => .un) 6 (.d (.int .i64 p102))) 2 (.r (.ptr 24 0 0))) 1 (.d (.int .i64 a2))), (up (up (hB fun _ => 0) 176 ⟨0, some (.own 33 4 (e_GCell.cells p101))⟩) 24 ⟨0, some (.box ((.d (.int .i64 p99)) :: ((.d (.int .i64 p100)) :: ((.r (.msl 176 0 0 p101.length)) :: []))))⟩)⟩
noncomputable def f13_j0 (a1 : GGrid) (a2 : Int) (p99 : Int) (p100 : Int) (p101 : List GCell) (p102 : Int) : Option ((List Int) × Int) := (bif (!decide (p102 = 0)) then (some ([], p102)) else (f13_j1 a1 a2 p99 p100 p101))
theorem f13_j0_ok {base : Orc} {d : Nat} (hd : 6 ≤ d) (a1 : GGrid) (a2 : Int) {r : (List Int) × Int} {Q : PX → St → Prop} (hQ : ∀ e st', f13_Q r e st' → Q e st') (p99 : Int) (p100 : Int) (p101 : List GCell) (p102 : Int) (hS : f13_j0 a1 a2 p99 p100 p101 p102 = some r) {st : St} (he : keepSt [1, 2, 6] [(24, .id 24), (176, .id 176)] [] st = f13_j0_J a1 a2 p99 p100 p101 p102) : ZR (lev codes base (d - 1)) Q c13_5 [] st := by
  refine zrKeep he ?_
  unfold f13_j0 at hS
  refine zrSeq ?_
  refine zrSeq ?_
  refine zrReg ?_
  refine zlRun (n := 1) (j := 1) rfl (by kernel_rfl) ?_
  refine zlBool (d := 25) (op := (.cmpI .neq (.tmp 24) (.const (.int .i64 0)))) (g := none) (j := 2) (!decide (p102 = 0)) rfl (by kernel_rfl) (by kernel_rfl) (by kernel_rfl) (fun hc => ?_) (fun hc => ?_)
  · replace hS := cond_t hc hS
    refine zlEnd (by kernel_rfl) ?_
    refine zkSeq ?_
    refine zrCondT (by kernel_rfl) ?_
    refine zrSeq ?_
    refine zrReg ?_
    refine zlRun (n := 3) (j := 3) rfl (by kernel_rfl) ?_
    refine zlEnd (by kernel_rfl) ?_
    refine zkSeq ?_
    refine zrRet ?_
    refine zkSeqR ?_
    refine zkNil ?_
    exact endQ hS hQ (fRet (by kernel_rfl) ((congrArg (fun s => outR s 0 c13.res) (by kernel_rfl : finSt c13.fin _ = f13_fin [] p102)).trans (f13_out [] p102)))
  · replace hS := cond_f hc hS
    refine zlEnd (by kernel_rfl) ?_
    refine zkSeq ?_
    refine zrCondF (by kernel_rfl) ?_
    refine zrSkip ?_
    refine zkSeq ?_
    exact f13_j1_ok hd a1 a2 hQ p99 p100 p101 hS (by kernel_rfl)
noncomputable def f13 (a1 : GGrid) (a2 : Int) : Option ((List Int) × Int) := (bif (decide (0 ≤ a2)) then (bif (decide (a2 < a1.High)) then ((f29 a1 true (GPen.mk 0 0 0)).bind fun z33 => (f13_j0 a1 a2 z33.1 z33.2.1 z33.2.2.1 z33.2.2.2)) else ((f29 a1 false (GPen.mk 0 0 0)).bind fun z34 => (f13_j0 a1 a2 z34.1 z34.2.1 z34.2.2.1 z34.2.2.2))) else ((f29 a1 false (GPen.mk 0 0 0)).bind fun z35 => (f13_j0 a1 a2 z35.1 z35.2.1 z35.2.2.1 z35.2.2.2)))
theorem f13_ok (base : Orc) (d : Nat) (hd : 6 ≤ d) (a1 : GGrid) (a2 : Int) (r : (List Int) × Int) (hS : f13 a1 a2 = some r) : lev codes base d 13 [(.agg ((.d (.int .i64 a1.Wide)) :: ((.d (.int .i64 a1.High)) :: ((.d (.sl a1.Cells.length (e_GCell.cells a1.Cells))) :: [])))), (.d (.int .i64 a2))] [] = some ((.tup [(.r (.own 0 3 1 r.1.length ((eInt .i64).cells r.1))), (.d (.int .i64 r.2))]), []) := by
  refine lev_go codes13 rfl rfl (Nat.le_trans (Nat.le_of_ble_eq_true rfl) hd) fun Q hQ => ?_
  unfold f13 at hS
  show ZR _ Q c13_b [] _
  replace hQ : ∀ e st', f13_Q r e st' → Q e st' := hQ
  refine zrSeq ?_
  refine zrReg ?_
  refine zlRun (n := 3) (j := 3) rfl (by kernel_rfl) ?_
  refine zlEnd (by kernel_rfl) ?_
  refine zkSeq ?_
  refine zrSeq ?_
  refine zrReg ?_
  refine zlRun (n := 2) (j := 2) rfl (by kernel_rfl) ?_
  refine zlBool (d := 13) (op := (.cmpI .geq (.tmp 12) (.const (.int .i64 0)))) (g := none) (j := 3) (decide (0 ≤ a2)) rfl (by kernel_rfl) (by kernel_rfl) (by kernel_rfl) (fun hc => ?_) (fun hc => ?_)
  · replace hS := cond_t hc hS
    refine zlRun (n := 4) (j := 7) rfl (by kernel_rfl) ?_
    refine zlBool (d := 18) (op := (.cmpI .lss (.tmp 15) (.tmp 17))) (g := (some (14, true))) (j := 8) (decide (a2 < a1.High)) rfl (by kernel_rfl) (by kernel_rfl) (by kernel_rfl) (fun hc => ?_) (fun hc => ?_)
    · replace hS := cond_t hc hS
      refine zlRun (n := 2) (j := 10) rfl (by kernel_rfl) ?_
      refine bindE hS (fun z33 hz33 hS => ?_)
      refine zlOp (d := some 21) (op := (.callf 29 [(.tmp 11), (.tmp 19), (.tmp 20)])) (g := none) (v := (.tup [(.agg ((.d (.int .i64 z33.1)) :: ((.d (.int .i64 z33.2.1)) :: ((.r (.msl 176 1 0 z33.2.2.1.length)) :: [])))), (.d (.int .i64 z33.2.2.2))])) (ups := [(176, ⟨1, some (.own 33 4 (e_GCell.cells z33.2.2.1))⟩)]) (j := 11) rfl (by kernel_rfl) (by kernel_rfl) (ev_callF (args := [(.agg ((.d (.int .i64 a1.Wide)) :: ((.d (.int .i64 a1.High)) :: ((.d (.sl a1.Cells.length (e_GCell.cells a1.Cells))) :: [])))), (.d (.bool true)), (.agg ((.d (.int .i64 0)) :: ((.d (.int .i64 0)) :: ((.d (.int .i64 0)) :: []))))]) (args' := [(.agg ((.d (.int .i64 a1.Wide)) :: ((.d (.int .i64 a1.High)) :: ((.d (.sl a1.Cells.length (e_GCell.cells a1.Cells))) :: [])))), (.d (.bool true)), (.agg ((.d (.int .i64 0)) :: ((.d (.int .i64 0)) :: ((.d (.int .i64 0)) :: []))))]) (l := [(.agg ((.d (.int .i64 a1.Wide)) :: ((.d (.int .i64 a1.High)) :: ((.d (.sl a1.Cells.length (e_GCell.cells a1.Cells))) :: [])))), (.d (.bool true)), (.agg ((.d (.int .i64 0)) :: ((.d (.int .i64 0)) :: ((.d (.int .i64 0)) :: []))))]) (refs := []) (r := (.tup [(.agg ((.d (.int .i64 z33.1)) :: ((.d (.int .i64 z33.2.1)) :: ((.r (.own 0 33 4 z33.2.2.1.length (e_GCell.cells z33.2.2.1))) :: [])))), (.d (.int .i64 z33.2.2.2))])) (v := (.tup [(.agg ((.d (.int .i64 z33.1)) :: ((.d (.int .i64 z33.2.1)) :: ((.r (.msl 176 1 0 z33.2.2.1.length)) :: [])))), (.d (.int .i64 z33.2.2.2))])) (ups' := [(176, ⟨1, some (.own 33 4 (e_GCell.cells z33.2.2.1))⟩)]) (by kernel_rfl) (by kernel_rfl) (by kernel_rfl) (fz_cons rfl (fz_cons rfl (fz_cons rfl fz_nil))) (by kernel_rfl) (f29_ok base (d - 1) (dpt hd rfl) a1 true (GPen.mk 0 0 0) z33 hz33) (by kernel_rfl) (by kernel_rfl) (by kernel_rfl) (by kernel_rfl)) ?_
      refine zlRun (n := 5) (j := 16) rfl (by kernel_rfl) ?_
      refine zlEnd (by kernel_rfl) ?_
      refine zkSeq ?_
      exact f13_j0_ok hd a1 a2 hQ z33.1 z33.2.1 z33.2.2.1 z33.2.2.2 hS (by kernel_rfl)
    · replace hS := cond_f hc hS
      refine zlRun (n := 2) (j := 10) rfl (by kernel_rfl) ?_
      refine bindE hS (fun z34 hz34 hS => ?_)
      refine zlOp (d := some 21) (op := (.callf 29 [(.tmp 11), (.tmp 19), (.tmp 20)])) (g := none) (v := (.tup [(.agg ((.d (.int .i64 z34.1)) :: ((.d (.int .i64 z34.2.1)) :: ((.r (.msl 176 1 0 z34.2.2.1.length)) :: [])))), (.d (.int .i64 z34.2.2.2))])) (ups := [(176, ⟨1, some (.own 33 4 (e_GCell.cells z34.2.2.1))⟩)]) (j := 11) rfl (by kernel_rfl) (by kernel_rfl) (ev_callF (args := [(.agg ((.d (.int .i64 a1.Wide)) :: ((.d (.int .i64 a1.High)) :: ((.d (.sl a1.Cells.length (e_GCell.cells a1.Cells))) :: [])))), (.d (.bool false)), (.agg ((.d (.int .i64 0)) :: ((.d (.int .i64 0)) :: ((.d (.int .i64 0)) :: []))))]) (args' := [(.agg ((.d (.int .i64 a1.Wide)) :: ((.d (.int .i64 a1.High)) :: ((.d (.sl a1.Cells.length (e_GCell.cells a1.Cells))) :: [])))), (.d (.bool false)), (.agg ((.d (.int .i64 0)) :: ((.d (.int .i64 0)) :: ((.d (.int .i64 0)) :: []))))]) (l := [(.agg ((.d (.int .i64 a1.Wide)) :: ((.d (.int .i64 a1.High)) :: ((.d (.sl a1.Cells.length (e_GCell.cells a1.Cells))) :: [])))), (.d (.bool false)), (.agg ((.d (.int .i64 0)) :: ((.d (.int .i64 0)) :: ((.d (.int .i64 0)) :: []))))]) (refs := []) (r := (.tup [(.agg ((.d (.int .i64 z34.1)) :: ((.d (.int .i64 z34.2.1)) :: ((.r (.own 0 33 4 z34.2.2.1.length (e_GCell.cells z34.2.2.1))) :: [])))), (.d (.int .i64 z34.2.2.2))])) (v := (.tup [(.agg ((.d (.int .i64 z34.1)) :: ((.d (.int .i64 z34.2.1)) :: ((.r (.msl 176 1 0 z34.2.2.1.length)) :: [])))), (.d (.int .i64 z34.2.2.2))])) (ups' := [(176, ⟨1, some (.own 33 4 (e_GCell.cells z34.2.2.1))⟩)]) (by kernel_rfl) (by kernel_rfl) (by kernel_rfl) (fz_cons rfl (fz_cons rfl (fz_cons rfl fz_nil))) (by kernel_rfl) (f29_ok base (d - 1) (dpt hd rfl) a1 false (GPen.mk 0 0 0) z34 hz34) (by kernel_rfl) (by kernel_rfl) (by kernel_rfl) (by kernel_rfl)) ?_
      refine zlRun (n := 5) (j := 16) rfl (by kernel_rfl) ?_
      refine zlEnd (by kernel_rfl) ?_
      refine zkSeq ?_
      exact f13_j0_ok hd a1 a2 hQ z34.1 z34.2.1 z34.2.2.1 z34.2.2.2 hS (by kernel_rfl)
  · replace hS := cond_f hc hS
    refine zlRun (n := 7) (j := 10) rfl (by kernel_rfl) ?_
    refine bindE hS (fun z35 hz35 hS => ?_)
    refine zlOp (d := some 21) (op := (.callf 29 [(.tmp 11), (.tmp 19), (.tmp 20)])) (g := none) (v := (.tup [(.agg ((.d (.int .i64 z35.1)) :: ((.d (.int .i64 z35.2.1)) :: ((.r (.msl 176 1 0 z35.2.2.1.length)) :: [])))), (.d (.int .i64 z35.2.2.2))])) (ups := [(176, ⟨1, some (.own 33 4 (e_GCell.cells z35.2.2.1))⟩)]) (j := 11) rfl (by kernel_rfl) (by kernel_rfl) (ev_callF (args := [(.agg ((.d (.int .i64 a1.Wide)) :: ((.d (.int .i64 a1.High)) :: ((.d (.sl a1.Cells.length (e_GCell.cells a1.Cells))) :: [])))), (.d (.bool false)), (.agg ((.d (.int .i64 0)) :: ((.d (.int .i64 0)) :: ((.d (.int .i64 0)) :: []))))]) (args' := [(.agg ((.d (.int .i64 a1.Wide)) :: ((.d (.int .i64 a1.High)) :: ((.d (.sl a1.Cells.length (e_GCell.cells a1.Cells))) :: [])))), (.d (.bool false)), (.agg ((.d (.int .i64 0)) :: ((.d (.int .i64 0)) :: ((.d (.int .i64 0)) :: []))))]) (l := [(.agg ((.d (.int .i64 a1.Wide)) :: ((.d (.int .i64 a1.High)) :: ((.d (.sl a1.Cells.length (e_GCell.cells a1.Cells))) :: [])))), (.d (.bool false)), (.agg ((.d (.int .i64 0)) :: ((.d (.int .i64 0)) :: ((.d (.int .i64 0)) :: []))))]) (refs := []) (r := (.tup [(.agg ((.d (.int .i64 z35.1)) :: ((.d (.int .i64 z35.2.1)) :: ((.r (.own 0 33 4 z35.2.2.1.length (e_GCell.cells z35.2.2.1))) :: [])))), (.d (.int .i64 z35.2.2.2))])) (v := (.tup [(.agg ((.d (.int .i64 z35.1)) :: ((.d (.int .i64 z35.2.1)) :: ((.r (.msl 176 1 0 z35.2.2.1.length)) :: [])))), (.d (.int .i64 z35.2.2.2))])) (ups' := [(176, ⟨1, some (.own 33 4 (e_GCell.cells z35.2.2.1))⟩)]) (by kernel_rfl) (by kernel_rfl) (by kernel_rfl) (fz_cons rfl (fz_cons rfl (fz_cons rfl fz_nil))) (by kernel_rfl) (f29_ok base (d - 1) (dpt hd rfl) a1 false (GPen.mk 0 0 0) z35 hz35) (by kernel_rfl) (by kernel_rfl) (by kernel_rfl) (by kernel_rfl)) ?_
    refine zlRun (n := 5) (j := 16) rfl (by kernel_rfl) ?_
    refine zlEnd (by kernel_rfl) ?_
    refine zkSeq ?_
    exact f13_j0_ok hd a1 a2 hQ z35.1 z35.2.1 z35.2.2.1 z35.2.2.2 hS (by kernel_rfl)
/- slices.Equal[[]int,int] -/
def f16_fin (p14 : Bool) : St := ⟨(up (fun _ => .un) 4 (.d (.bool p14))), (hB fun _ => 0)⟩
theorem f16_out (p14 : Bool) : outR (f16_fin p14) 0 c16.res = some ((.d (.bool p14)), []) := by
  kernel_rfl
def f16_Q (r : Bool) (e : PX) (st : St) : Prop := DoneF c16 0 ((.d (.bool r)), []) e st
def f16_l1_J (a1 : List Int) (a2 : List Int) (x : Int) : St := ⟨(up (up (up (up (fun _ => .un) 13 (.d (.int .i64 x))) 12 (.d (.int .i64 (a1.length : Int)))) 1 (.d (.sl a2.length ((eInt .i64).cells a2)))) 0 (.d (.sl a1.length ((eInt .i64).cells a1)))), (hB fun _ => 0)⟩
def f16_l1_H (a1 : List Int) (a2 : List Int) (x : Int) (st : St) : Prop := keepSt [0, 1, 12, 13] [] [] st = f16_l1_J a1 a2 x
def f16_l1_e0_J (a1 : List Int) (a2 : List Int) : St := ⟨(fun _ => .un), (hB fun _ => 0)⟩
def f16_l1_X (a1 : List Int) (a2 : List Int) (z : Unit ⊕ Bool) (e : PX) (st : St) : Prop := (match z with | .inl z => e = .exit 0 ∧ st = f16_l1_e0_J a1 a2 | .inr z => e = .ret ∧ finSt c16.fin st = f16_fin z)
def f16_l1_j3_J (a1 : List Int) (a2 : List Int) (p20 : Int) : St := ⟨(up (up (up (up (fun _ => .un) 13 (.d (.int .i64 p20))) 12 (.d (.int .i64 (a1.length : Int)))) 1 (.d (.sl a2.length ((eInt .i64).cells a2)))) 0 (.d (.sl a1.length ((eInt .i64).cells a1)))), (hB fun _ => 0)⟩
noncomputable def f16_l1_j3 (a1 : List Int) (a2 : List Int) (p20 : Int) : Option (Int ⊕ (Unit ⊕ Bool)) := ((idx a1 p20).bind fun z7 => ((idx a2 p20).bind fun z8 => (bif (!decide (z7 = z8)) then (some (.inr (.inr false))) else (some (.inl (IntKind.i64.wrap (p20 + 1)))))))
theorem f16_l1_j3_ok {base : Orc} {d : Nat} (hd : 1 ≤ d) (a1 : List Int) (a2 : List Int) {r : Int ⊕ (Unit ⊕ Bool)} {Q : PX → St → Prop} (hQ : ∀ e st', finL (f16_l1_H a1 a2) (f16_l1_X a1 a2) r e st' → Q e st') (p20 : Int) (hS : f16_l1_j3 a1 a2 p20 = some r) {st : St} (he : keepSt [0, 1, 12, 13] [] [] st = f16_l1_j3_J a1 a2 p20) : ZR (lev codes base (d - 1)) Q c16_1 [] st := by
  refine zrKeep he ?_
  unfold f16_l1_j3 at hS
  refine zrSeq ?_
  refine zrBlk ?_
  refine zrSeq ?_
  refine zrReg ?_
  refine zlRun (n := 2) (j := 2) rfl (by kernel_rfl) ?_
  refine zlEnd (by kernel_rfl) ?_
  refine zkSeq ?_
  refine zrSeq ?_
  refine zrRegD ?_
  refine zdRun (n := 2) (j := 2) (ts := [[], []]) (acc' := [[], []]) rfl (by kernel_rfl) (by kernel_rfl) (by kernel_rfl) ?_
  refine bindE hS (fun z7 hz7 hS => ?_)
  refine zdOp (d := some 18) (op := (.ixS 3 1 (.tmp 16) (.tmp 17))) (g := none) (v := (.rptr ((eInt .i64).enc z7 ++ ((eInt .i64).cells (a1.drop ((p20 : Int).toNat + 1)))))) (ups := []) (j := 3) (t1 := []) (acc' := [[], [], []]) (by kernel_rfl) (by kernel_rfl) rfl (by kernel_rfl) (by kernel_rfl) (ev_ixS (eInt .i64) (kk := .i64) (xs := a1) (j := p20) (by kernel_rfl) (by kernel_rfl) hz7 rfl (by intro h; cases h)) ?_
  refine zdRun (n := 3) (j := 6) (ts := [[], [], []]) (acc' := [[], [], [], [], [], []]) rfl (by kernel_rfl) (by kernel_rfl) (by kernel_rfl) ?_
  refine bindE hS (fun z8 hz8 hS => ?_)
  refine zdOp (d := some 22) (op := (.ixS 3 1 (.tmp 20) (.tmp 21))) (g := none) (v := (.rptr ((eInt .i64).enc z8 ++ ((eInt .i64).cells (a2.drop ((p20 : Int).toNat + 1)))))) (ups := []) (j := 7) (t1 := []) (acc' := [[], [], [], [], [], [], []]) (by kernel_rfl) (by kernel_rfl) rfl (by kernel_rfl) (by kernel_rfl) (ev_ixS (eInt .i64) (kk := .i64) (xs := a2) (j := p20) (by kernel_rfl) (by kernel_rfl) hz8 rfl (by intro h; cases h)) ?_
  refine zdRun (n := 1) (j := 8) (ts := [[]]) (acc' := [[], [], [], [], [], [], [], []]) rfl (by kernel_rfl) (by kernel_rfl) (by kernel_rfl) ?_
  refine zdBool (d := 24) (op := (.cmpI .neq (.tmp 19) (.tmp 23))) (g := none) (j := 9) (t1 := []) (acc' := [[], [], [], [], [], [], [], [], []]) (!decide (z7 = z8)) (by kernel_rfl) (by kernel_rfl) rfl (by kernel_rfl) (by kernel_rfl) (by kernel_rfl) (fun hc => ?_) (fun hc => ?_)
  · replace hS := cond_t hc hS
    refine zdEnd (by kernel_rfl) (by kernel_rfl) ?_
    refine zkSeq ?_
    refine zrCondT (by kernel_rfl) ?_
    refine zrSeq ?_
    refine zrReg ?_
    refine zlRun (n := 1) (j := 1) rfl (by kernel_rfl) ?_
    refine zlEnd (by kernel_rfl) ?_
    refine zkSeq ?_
    refine zrRet ?_
    refine zkBlkR ?_
    refine zkSeqR ?_
    refine zkNil ?_
    exact endQ hS hQ (finL_x (by intro h; cases h) (by show _ = _ ∧ _ = _; exact ⟨rfl, by kernel_rfl⟩))
  · replace hS := cond_f hc hS
    refine zdEnd (by kernel_rfl) (by kernel_rfl) ?_
    refine zkSeq ?_
    refine zrCondF (by kernel_rfl) ?_
    refine zrSkip ?_
    refine zkBlk ?_
    refine zkSeq ?_
    refine zrReg ?_
    refine zlRun (n := 2) (j := 2) rfl (by kernel_rfl) ?_
    refine zlEnd (by kernel_rfl) ?_
    refine zkNil ?_
    exact endQ hS hQ (finL_n (by show keepSt _ _ _ _ = _; kernel_rfl))
def f16_l1_j2_J (a1 : List Int) (a2 : List Int) (p18 : Int) (p19 : Bool) : St := ⟨(up (up (up (up (up (fun _ => .un) 14 (.d (.bool p19))) 13 (.d (.int .i64 p18))) 12 (.d (.int .i64 (a1.length : Int)))) 1 (.d (.sl a2.length ((eInt .i64).cells a2)))) 0 (.d (.sl a1.length ((eInt .i64).cells a1)))), (hB fun _ => 0)⟩
noncomputable def f16_l1_j2 (a1 : List Int) (a2 : List Int) (p18 : Int) (p19 : Bool) : Option (Int ⊕ (Unit ⊕ Bool)) := (bif p19 then (f16_l1_j3 a1 a2 p18) else (some (.inr (.inl ()))))
theorem f16_l1_j2_ok {base : Orc} {d : Nat} (hd : 1 ≤ d) (a1 : List Int) (a2 : List Int) {r : Int ⊕ (Unit ⊕ Bool)} {Q : PX → St → Prop} (hQ : ∀ e st', finL (f16_l1_H a1 a2) (f16_l1_X a1 a2) r e st' → Q e st') (p18 : Int) (p19 : Bool) (hS : f16_l1_j2 a1 a2 p18 p19 = some r) {st : St} (he : keepSt [0, 1, 12, 13, 14] [] [] st = f16_l1_j2_J a1 a2 p18 p19) : ZR (lev codes base (d - 1)) Q c16_2 [] st := by
  refine zrKeep he ?_
  unfold f16_l1_j2 at hS
  refine zrSeq ?_
  refine zrSplit 14 p19 (by kernel_rfl) (fun hc => ?_) (fun hc => ?_)
  · replace hS := cond_t hc hS
    refine zrCondT (by kernel_rfl) ?_
    refine zrSkip ?_
    refine zkSeq ?_
    exact f16_l1_j3_ok hd a1 a2 hQ p18 hS (by kernel_rfl)
  · replace hS := cond_f hc hS
    refine zrCondF (by kernel_rfl) ?_
    refine zrKeep (J := f16_l1_e0_J a1 a2) (by kernel_rfl) ?_
    refine zrExit ?_
    refine zkSeqX ?_
    refine zkNil ?_
    exact endQ hS hQ (finL_x (by intro h; cases h) (by show _ = _ ∧ _ = _; exact ⟨rfl, rfl⟩))
noncomputable def f16_l1 (a1 : List Int) (a2 : List Int) (x : Int) : Option (Int ⊕ (Unit ⊕ Bool)) := (bif (decide (x < (a1.length : Int))) then (f16_l1_j2 a1 a2 x true) else (f16_l1_j2 a1 a2 x false))
theorem f16_l1_ok {base : Orc} {d : Nat} (hd : 1 ≤ d) (a1 : List Int) (a2 : List Int) {r : Int ⊕ (Unit ⊕ Bool)} {Q : PX → St → Prop} (hQ : ∀ e st', finL (f16_l1_H a1 a2) (f16_l1_X a1 a2) r e st' → Q e st') {x : Int} (hS : f16_l1 a1 a2 x = some r) {st : St} (he : f16_l1_H a1 a2 x st) : ZR (lev codes base (d - 1)) Q c16_3 [] st := by
  refine zrKeep he ?_
  unfold f16_l1 at hS
  refine zrSeq ?_
  refine zrReg ?_
  refine zlBool (d := 14) (op := (.cmpI .lss (.tmp 13) (.tmp 12))) (g := none) (j := 1) (decide (x < (a1.length : Int))) rfl (by kernel_rfl) (by kernel_rfl) (by kernel_rfl) (fun hc => ?_) (fun hc => ?_)
  · replace hS := cond_t hc hS
    refine zlEnd (by kernel_rfl) ?_
    refine zkSeq ?_
    exact f16_l1_j2_ok hd a1 a2 hQ x true hS (by kernel_rfl)
  · replace hS := cond_f hc hS
    refine zlEnd (by kernel_rfl) ?_
    refine zkSeq ?_
    exact f16_l1_j2_ok hd a1 a2 hQ x false hS (by kernel_rfl)
def f16_j0_J (a1 : List Int) (a2 : List Int) : St := ⟨(up (up (fun _ => .un) 1 (.d (.sl a2.length ((eInt .i64).cells a2)))) 0 (.d (.sl a1.length ((eInt .i64).cells a1)))), (hB fun _ => 0)⟩
noncomputable def f16_j0 (a1 : List Int) (a2 : List Int) : Option (Bool) := ((loopO (f16_l1 a1 a2) 0).bind fun z9 => (Sum.elim (fun z10 => (some true)) (fun z11 => (some z11)) z9))
theorem f16_j0_ok {base : Orc} {d : Nat} (hd : 1 ≤ d) (a1 : List Int) (a2 : List Int) {r : Bool} {Q : PX → St → Prop} (hQ : ∀ e st', f16_Q r e st' → Q e st')  (hS : f16_j0 a1 a2 = some r) {st : St} (he : keepSt [0, 1] [] [] st = f16_j0_J a1 a2) : ZR (lev codes base (d - 1)) Q c16_4 [] st := by
  refine zrKeep he ?_
  unfold f16_j0 at hS
  refine zrSeq ?_
  refine zrSeq ?_
  refine zrReg ?_
  refine zlRun (n := 3) (j := 3) rfl (by kernel_rfl) ?_
  refine zlEnd (by kernel_rfl) ?_
  refine zkSeq ?_
  refine zrBlk ?_
  refine bindE hS (fun z9 hz9 hS => ?_)
  refine zrLoop (f16_l1_H a1 a2) (f16_l1_X a1 a2) (fun x st r Q h0 hS hQ => f16_l1_ok hd a1 a2 hQ hS h0) (x := 0) (z := z9) (by show keepSt _ _ _ _ = _; kernel_rfl) hz9 ?_
  rcases z9 with z10 | z11
  · replace hS := (show _ = _ from hS)
    simp only [Sum.elim_inl] at hS
    intro e st' _ hX
    obtain ⟨rfl, rfl⟩ : _ ∧ _ := hX
    refine zkBlkX ?_
    refine zkSeq ?_
    refine zrSeq ?_
    refine zrReg ?_
    refine zlRun (n := 1) (j := 1) rfl (by kernel_rfl) ?_
    refine zlEnd (by kernel_rfl) ?_
    refine zkSeq ?_
    refine zrRet ?_
    refine zkNil ?_
    exact endQ hS hQ (fRet (by kernel_rfl) ((congrArg (fun s => outR s 0 c16.res) (by kernel_rfl : finSt c16.fin _ = f16_fin true)).trans (f16_out true)))
  · simp only [Sum.elim_inr] at hS
    intro e st' _ hX
    obtain ⟨rfl, hX⟩ : _ ∧ _ := hX
    refine zkBlkR ?_
    refine zkSeqR ?_
    refine zkNil ?_
    exact endQ hS hQ (fRet (by kernel_rfl) ((congrArg (fun s => outR s 0 c16.res) hX).trans (f16_out z11)))
noncomputable def f16 (a1 : List Int) (a2 : List Int) : Option (Bool) := (bif (!decide ((a1.length : Int) = (a2.length : Int))) then (some false) else (f16_j0 a1 a2 ))
theorem f16_ok (base : Orc) (d : Nat) (hd : 1 ≤ d) (a1 : List Int) (a2 : List Int) (r : Bool) (hS : f16 a1 a2 = some r) : lev codes base d 16 [(.d (.sl a1.length ((eInt .i64).cells a1))), (.d (.sl a2.length ((eInt .i64).cells a2)))] [] = some ((.d (.bool r)), []) := by
  refine lev_go codes16 rfl rfl (Nat.le_trans (Nat.le_of_ble_eq_true rfl) hd) fun Q hQ => ?_
  unfold f16 at hS
  show ZR _ Q c16_b [] _
  replace hQ : ∀ e st', f16_Q r e st' → Q e st' := hQ
  refine zrSeq ?_
  refine zrReg ?_
  refine zlRun (n := 1) (j := 1) rfl (by kernel_rfl) ?_
  refine zlEnd (by kernel_rfl) ?_
  refine zkSeq ?_
  refine zrSeq ?_
  refine zrSeq ?_
  refine zrReg ?_
  refine zlRun (n := 4) (j := 4) rfl (by kernel_rfl) ?_
  refine zlBool (d := 10) (op := (.cmpI .neq (.tmp 7) (.tmp 9))) (g := none) (j := 5) (!decide ((a1.length : Int) = (a2.length : Int))) rfl (by kernel_rfl) (by kernel_rfl) (by kernel_rfl) (fun hc => ?_) (fun hc => ?_)
  · replace hS := cond_t hc hS
    refine zlEnd (by kernel_rfl) ?_
    refine zkSeq ?_
    refine zrCondT (by kernel_rfl) ?_
    refine zrSeq ?_
    refine zrReg ?_
    refine zlRun (n := 1) (j := 1) rfl (by kernel_rfl) ?_
    refine zlEnd (by kernel_rfl) ?_
    refine zkSeq ?_
    refine zrRet ?_
    refine zkSeqR ?_
    refine zkNil ?_
    exact endQ hS hQ (fRet (by kernel_rfl) ((congrArg (fun s => outR s 0 c16.res) (by kernel_rfl : finSt c16.fin _ = f16_fin false)).trans (f16_out false)))
  · replace hS := cond_f hc hS
    refine zlEnd (by kernel_rfl) ?_
    refine zkSeq ?_
    refine zrCondF (by kernel_rfl) ?_
    refine zrSkip ?_
    refine zkSeq ?_
    exact f16_j0_ok hd a1 a2 hQ  hS (by kernel_rfl)
end Go.Proofs.Ytipipahbfakcaaa.Pm
