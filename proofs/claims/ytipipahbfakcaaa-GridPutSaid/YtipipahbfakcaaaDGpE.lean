/- Typed functions, and that the codes are these. Printed by dec.py. -/
import Derived.Test.YtipipahbfakcaaaDGpD
namespace Go.Proofs.Ytipipahbfakcaaa.Pm
set_option maxRecDepth 1000000
set_option maxHeartbeats 20000000
set_option linter.unusedVariables false
/- farwriter/grid.blanks -/
def f53_fin (p1 : Int) (p2 : Int) (p3 : List GCell) : St := ⟨(up (fun _ => .un) 6 (.r (.ptr 56 0 0))), (up (up (hB fun _ => 0) 128 ⟨0, some (.own 33 4 (e_GCell.cells p3))⟩) 56 ⟨0, some (.box ((.d (.int .i64 p1)) :: ((.d (.int .i64 p2)) :: ((.r (.msl 128 0 0 p3.length)) :: []))))⟩)⟩
theorem f53_out (p1 : Int) (p2 : Int) (p3 : List GCell) : outR (f53_fin p1 p2 p3) 0 c53.res = some ((.agg ((.d (.int .i64 p1)) :: ((.d (.int .i64 p2)) :: ((.r (.own 0 33 4 p3.length (e_GCell.cells p3))) :: [])))), []) := by
  exact out_of (ids := []) (ids' := [128]) (l := [(.agg ((.d (.int .i64 p1)) :: ((.d (.int .i64 p2)) :: ((.r (.msl 128 0 0 p3.length)) :: []))))]) (by kernel_rfl) (by kernel_rfl) (o_agg (o_cons rfl (o_cons rfl (o_cons (o_own e_GCell (e := 33) (k := 4) (xs := p3) (by kernel_rfl) rfl rfl rfl rfl) o_nil))))
def f53_Q (r : Int × Int × (List GCell)) (e : PX) (st : St) : Prop := DoneF c53 0 ((.agg ((.d (.int .i64 r.1)) :: ((.d (.int .i64 r.2.1)) :: ((.r (.own 0 33 4 r.2.2.length (e_GCell.cells r.2.2))) :: [])))), []) e st
noncomputable def f53 (a1 : Int) (a2 : Int) (a3 : GPen) : Option (Int × Int × (List GCell)) := ((f54 a3).bind fun z3 => ((f63 [z3] (IntKind.i64.wrap (a1 * a2))).bind fun z4 => (some (a1, a2, z4))))
theorem f53_ok (base : Orc) (d : Nat) (hd : 4 ≤ d) (a1 : Int) (a2 : Int) (a3 : GPen) (r : Int × Int × (List GCell)) (hS : f53 a1 a2 a3 = some r) : lev codes base d 53 [(.d (.int .i64 a1)), (.d (.int .i64 a2)), (.agg ((.d (.int .i64 a3.Flags)) :: ((.d (.int .i64 a3.Fore)) :: ((.d (.int .i64 a3.Back)) :: []))))] [] = some ((.agg ((.d (.int .i64 r.1)) :: ((.d (.int .i64 r.2.1)) :: ((.r (.own 0 33 4 r.2.2.length (e_GCell.cells r.2.2))) :: [])))), []) := by
  refine lev_go codes53 rfl rfl (Nat.le_trans (Nat.le_of_ble_eq_true rfl) hd) fun Q hQ => ?_
  unfold f53 at hS
  show ZR _ Q c53_b [] _
  replace hQ : ∀ e st', f53_Q r e st' → Q e st' := hQ
  refine zrSeq ?_
  refine zrReg ?_
  refine zlRun (n := 2) (j := 2) rfl (by kernel_rfl) ?_
  refine zlEnd (by kernel_rfl) ?_
  refine zkSeq ?_
  refine zrSeq ?_
  refine zrReg ?_
  refine zlRun (n := 3) (j := 3) rfl (by kernel_rfl) ?_
  refine bindE hS (fun z3 hz3 hS => ?_)
  refine zlOp (d := some 10) (op := (.call 54 [(.tmp 9)])) (g := none) (v := (.agg ((.d (.int .i64 z3.Rune)) :: ((.d (.int .i64 z3.Pen.Flags)) :: ((.d (.int .i64 z3.Pen.Fore)) :: ((.d (.int .i64 z3.Pen.Back)) :: [])))))) (ups := []) (j := 4) rfl (by kernel_rfl) (by kernel_rfl) (ev_call (args := [(.agg ((.d (.int .i64 a3.Flags)) :: ((.d (.int .i64 a3.Fore)) :: ((.d (.int .i64 a3.Back)) :: []))))]) (l := [(.agg ((.d (.int .i64 a3.Flags)) :: ((.d (.int .i64 a3.Fore)) :: ((.d (.int .i64 a3.Back)) :: []))))]) (r := (.agg ((.d (.int .i64 z3.Rune)) :: ((.d (.int .i64 z3.Pen.Flags)) :: ((.d (.int .i64 z3.Pen.Fore)) :: ((.d (.int .i64 z3.Pen.Back)) :: [])))))) (by kernel_rfl) (by kernel_rfl) (f54_ok base (d - 1) (dpt hd rfl) a3 z3 hz3) (by kernel_rfl) (by kernel_rfl) (by kernel_rfl)) ?_
  refine zlRun (n := 4) (j := 8) rfl (by kernel_rfl) ?_
  refine bindE hS (fun z4 hz4 hS => ?_)
  refine zlOp (d := some 15) (op := (.call 63 [(.tmp 11), (.tmp 14)])) (g := none) (v := (.r (.msl 128 1 0 z4.length))) (ups := [(128, ⟨1, some (.own 33 4 (e_GCell.cells z4))⟩)]) (j := 9) rfl (by kernel_rfl) (by kernel_rfl) (ev_call (args := [(.r (.msl 96 1 0 (([z3] : List GCell).length))), (.d (.int .i64 (IntKind.i64.wrap (a1 * a2))))]) (l := [(.d (.sl ([z3] : List GCell).length (e_GCell.cells ([z3])))), (.d (.int .i64 (IntKind.i64.wrap (a1 * a2))))]) (r := (.r (.own 0 33 4 z4.length (e_GCell.cells z4)))) (by kernel_rfl) (l_cons (l_own e_GCell (e := 33) (k := 4) (xs := [z3]) (by kernel_rfl) rfl rfl) (l_cons (by kernel_rfl) l_nil)) (f63_ok base (d - 1) (dpt hd rfl) [z3] (IntKind.i64.wrap (a1 * a2)) z4 hz4) (by simp only [free_own e_GCell (fun _ => rfl), free_tup, free_agg, free_nl, free_cs, free_int, free_bool, free_str, free_un, free_ni, free_s0, Bool.and_true, Bool.or_true, Bool.and_self]) (by kernel_rfl) (by kernel_rfl)) ?_
  refine zlRun (n := 2) (j := 11) rfl (by kernel_rfl) ?_
  refine zlEnd (by kernel_rfl) ?_
  refine zkSeq ?_
  refine zrRet ?_
  refine zkNil ?_
  exact endQ hS hQ (fRet (by kernel_rfl) ((congrArg (fun s => outR s 0 c53.res) (by kernel_rfl : finSt c53.fin _ = f53_fin a1 a2 z4)).trans (f53_out a1 a2 z4)))
/- farwriter/grid.New -/
def f31_fin (p5 : Int) (p6 : Int) (p7 : List GCell) (p8 : Int) : St := ⟨(up (up (fun _ => .un) 7 (.d (.int .i64 p8))) 6 (.r (.ptr 56 0 0))), (up (up (hB fun _ => 0) 216 ⟨0, some (.own 33 4 (e_GCell.cells p7))⟩) 56 ⟨0, some (.box ((.d (.int .i64 p5)) :: ((.d (.int .i64 p6)) :: ((.r (.msl 216 0 0 p7.length)) :: []))))⟩)⟩
theorem f31_out (p5 : Int) (p6 : Int) (p7 : List GCell) (p8 : Int) : outR (f31_fin p5 p6 p7 p8) 0 c31.res = some ((.tup [(.agg ((.d (.int .i64 p5)) :: ((.d (.int .i64 p6)) :: ((.r (.own 0 33 4 p7.length (e_GCell.cells p7))) :: [])))), (.d (.int .i64 p8))]), []) := by
  exact out_of (ids := []) (ids' := [216]) (l := [(.agg ((.d (.int .i64 p5)) :: ((.d (.int .i64 p6)) :: ((.r (.msl 216 0 0 p7.length)) :: [])))), (.d (.int .i64 p8))]) (by kernel_rfl) (by kernel_rfl) (o_tup (o_cons (o_agg (o_cons rfl (o_cons rfl (o_cons (o_own e_GCell (e := 33) (k := 4) (xs := p7) (by kernel_rfl) rfl rfl rfl rfl) o_nil)))) (o_cons rfl o_nil)))
def f31_Q (r : Int × Int × (List GCell) × Int) (e : PX) (st : St) : Prop := DoneF c31 0 ((.tup [(.agg ((.d (.int .i64 r.1)) :: ((.d (.int .i64 r.2.1)) :: ((.r (.own 0 33 4 r.2.2.1.length (e_GCell.cells r.2.2.1))) :: [])))), (.d (.int .i64 r.2.2.2))]), []) e st
def f31_j0_J (a1 : Int) (a2 : Int) (a3 : GPen) : St := ⟨(up (up (up (up (fun _ => .un) 6 (.r (.ptr 56 0 0))) 5 (.r (.ptr 48 0 0))) 1 (.d (.int .i64 a2))) 0 (.d (.int .i64 a1))), (up (up (hB fun _ => 0) 56 ⟨0, some (.box ((.d (.int .i64 0)) :: ((.d (.int .i64 0)) :: ((.d (.sl ([] : List GCell).length (e_GCell.cells ([])))) :: []))))⟩) 48 ⟨0, some (.box ((.d (.int .i64 a3.Flags)) :: ((.d (.int .i64 a3.Fore)) :: ((.d (.int .i64 a3.Back)) :: []))))⟩)⟩
noncomputable def f31_j0 (a1 : Int) (a2 : Int) (a3 : GPen) : Option (Int × Int × (List GCell) × Int) := ((f38 a3).bind fun z5 => (bif (!decide (z5 = 0)) then (some (0, 0, [], z5)) else ((f53 a1 a2 a3).bind fun z6 => (some (z6.1, z6.2.1, z6.2.2, 0)))))
theorem f31_j0_ok {base : Orc} {d : Nat} (hd : 5 ≤ d) (a1 : Int) (a2 : Int) (a3 : GPen) {r : Int × Int × (List GCell) × Int} {Q : PX → St → Prop} (hQ : ∀ e st', f31_Q r e st' → Q e st')  (hS : f31_j0 a1 a2 a3 = some r) {st : St} (he : keepSt [0, 1, 5, 6] [(48, .id 48), (56, .id 56)] [.cell 56 2 0 0 1] st = f31_j0_J a1 a2 a3) : ZR (lev codes base (d - 1)) Q c31_1 [] st := by
  refine zrKeep he ?_
  unfold f31_j0 at hS
  refine zrSeq ?_
  refine zrSeq ?_
  refine zrReg ?_
  refine zlRun (n := 1) (j := 1) rfl (by kernel_rfl) ?_
  refine bindE hS (fun z5 hz5 hS => ?_)
  refine zlOp (d := some 18) (op := (.call 38 [(.tmp 17)])) (g := none) (v := (.d (.int .i64 z5))) (ups := []) (j := 2) rfl (by kernel_rfl) (by kernel_rfl) (ev_call (args := [(.agg ((.d (.int .i64 a3.Flags)) :: ((.d (.int .i64 a3.Fore)) :: ((.d (.int .i64 a3.Back)) :: []))))]) (l := [(.agg ((.d (.int .i64 a3.Flags)) :: ((.d (.int .i64 a3.Fore)) :: ((.d (.int .i64 a3.Back)) :: []))))]) (r := (.d (.int .i64 z5))) (by kernel_rfl) (by kernel_rfl) (f38_ok base (d - 1) (dpt hd rfl) a3 z5 hz5) (by kernel_rfl) (by kernel_rfl) (by kernel_rfl)) ?_
  refine zlRun (n := 1) (j := 3) rfl (by kernel_rfl) ?_
  refine zlEnd (by kernel_rfl) ?_
  refine zkSeq ?_
  refine zrSeq ?_
  refine zrReg ?_
  refine zlRun (n := 1) (j := 1) rfl (by kernel_rfl) ?_
  refine zlBool (d := 20) (op := (.cmpI .neq (.tmp 19) (.const (.int .i64 0)))) (g := none) (j := 2) (!decide (z5 = 0)) rfl (by kernel_rfl) (by kernel_rfl) (by kernel_rfl) (fun hc => ?_) (fun hc => ?_)
  · replace hS := cond_t hc hS
    refine zlEnd (by kernel_rfl) ?_
    refine zkSeq ?_
    refine zrCondT (by kernel_rfl) ?_
    refine zrSeq ?_
    refine zrReg ?_
    refine zlRun (n := 4) (j := 4) rfl (by kernel_rfl) ?_
    refine zlEnd (by kernel_rfl) ?_
    refine zkSeq ?_
    refine zrRet ?_
    refine zkSeqR ?_
    refine zkNil ?_
    exact endQ hS hQ (fRet (by kernel_rfl) ((congrArg (fun s => outR s 0 c31.res) (by kernel_rfl : finSt c31.fin _ = f31_fin 0 0 [] z5)).trans (f31_out 0 0 [] z5)))
  · replace hS := cond_f hc hS
    refine zlEnd (by kernel_rfl) ?_
    refine zkSeq ?_
    refine zrCondF (by kernel_rfl) ?_
    refine zrSkip ?_
    refine zkSeq ?_
    refine zrSeq ?_
    refine zrReg ?_
    refine zlRun (n := 3) (j := 3) rfl (by kernel_rfl) ?_
    refine bindE hS (fun z6 hz6 hS => ?_)
    refine zlOp (d := some 26) (op := (.call 53 [(.tmp 23), (.tmp 24), (.tmp 25)])) (g := none) (v := (.agg ((.d (.int .i64 z6.1)) :: ((.d (.int .i64 z6.2.1)) :: ((.r (.msl 216 1 0 z6.2.2.length)) :: []))))) (ups := [(216, ⟨1, some (.own 33 4 (e_GCell.cells z6.2.2))⟩)]) (j := 4) rfl (by kernel_rfl) (by kernel_rfl) (ev_call (args := [(.d (.int .i64 a1)), (.d (.int .i64 a2)), (.agg ((.d (.int .i64 a3.Flags)) :: ((.d (.int .i64 a3.Fore)) :: ((.d (.int .i64 a3.Back)) :: []))))]) (l := [(.d (.int .i64 a1)), (.d (.int .i64 a2)), (.agg ((.d (.int .i64 a3.Flags)) :: ((.d (.int .i64 a3.Fore)) :: ((.d (.int .i64 a3.Back)) :: []))))]) (r := (.agg ((.d (.int .i64 z6.1)) :: ((.d (.int .i64 z6.2.1)) :: ((.r (.own 0 33 4 z6.2.2.length (e_GCell.cells z6.2.2))) :: []))))) (by kernel_rfl) (by kernel_rfl) (f53_ok base (d - 1) (dpt hd rfl) a1 a2 a3 z6 hz6) (by kernel_rfl) (by kernel_rfl) (by kernel_rfl)) ?_
    refine zlRun (n := 2) (j := 6) rfl (by kernel_rfl) ?_
    refine zlEnd (by kernel_rfl) ?_
    refine zkSeq ?_
    refine zrRet ?_
    refine zkNil ?_
    exact endQ hS hQ (fRet (by kernel_rfl) ((congrArg (fun s => outR s 0 c31.res) (by kernel_rfl : finSt c31.fin _ = f31_fin z6.1 z6.2.1 z6.2.2 0)).trans (f31_out z6.1 z6.2.1 z6.2.2 0)))
noncomputable def f31 (a1 : Int) (a2 : Int) (a3 : GPen) : Option (Int × Int × (List GCell) × Int) := ((f37 a1 a2).bind fun z7 => (bif (!decide (z7 = 0)) then (some (0, 0, [], z7)) else (f31_j0 a1 a2 a3 )))
theorem f31_ok (base : Orc) (d : Nat) (hd : 5 ≤ d) (a1 : Int) (a2 : Int) (a3 : GPen) (r : Int × Int × (List GCell) × Int) (hS : f31 a1 a2 a3 = some r) : lev codes base d 31 [(.d (.int .i64 a1)), (.d (.int .i64 a2)), (.agg ((.d (.int .i64 a3.Flags)) :: ((.d (.int .i64 a3.Fore)) :: ((.d (.int .i64 a3.Back)) :: []))))] [] = some ((.tup [(.agg ((.d (.int .i64 r.1)) :: ((.d (.int .i64 r.2.1)) :: ((.r (.own 0 33 4 r.2.2.1.length (e_GCell.cells r.2.2.1))) :: [])))), (.d (.int .i64 r.2.2.2))]), []) := by
  refine lev_go codes31 rfl rfl (Nat.le_trans (Nat.le_of_ble_eq_true rfl) hd) fun Q hQ => ?_
  unfold f31 at hS
  show ZR _ Q c31_b [] _
  replace hQ : ∀ e st', f31_Q r e st' → Q e st' := hQ
  refine zrSeq ?_
  refine zrReg ?_
  refine zlRun (n := 3) (j := 3) rfl (by kernel_rfl) ?_
  refine zlEnd (by kernel_rfl) ?_
  refine zkSeq ?_
  refine zrSeq ?_
  refine zrSeq ?_
  refine zrReg ?_
  refine zlRun (n := 2) (j := 2) rfl (by kernel_rfl) ?_
  refine bindE hS (fun z7 hz7 hS => ?_)
  refine zlOp (d := some 12) (op := (.call 37 [(.tmp 10), (.tmp 11)])) (g := none) (v := (.d (.int .i64 z7))) (ups := []) (j := 3) rfl (by kernel_rfl) (by kernel_rfl) (ev_call (args := [(.d (.int .i64 a1)), (.d (.int .i64 a2))]) (l := [(.d (.int .i64 a1)), (.d (.int .i64 a2))]) (r := (.d (.int .i64 z7))) (by kernel_rfl) (by kernel_rfl) (f37_ok base (d - 1) (dpt hd rfl) a1 a2 z7 hz7) (by kernel_rfl) (by kernel_rfl) (by kernel_rfl)) ?_
  refine zlRun (n := 1) (j := 4) rfl (by kernel_rfl) ?_
  refine zlEnd (by kernel_rfl) ?_
  refine zkSeq ?_
  refine zrSeq ?_
  refine zrReg ?_
  refine zlRun (n := 1) (j := 1) rfl (by kernel_rfl) ?_
  refine zlBool (d := 14) (op := (.cmpI .neq (.tmp 13) (.const (.int .i64 0)))) (g := none) (j := 2) (!decide (z7 = 0)) rfl (by kernel_rfl) (by kernel_rfl) (by kernel_rfl) (fun hc => ?_) (fun hc => ?_)
  · replace hS := cond_t hc hS
    refine zlEnd (by kernel_rfl) ?_
    refine zkSeq ?_
    refine zrCondT (by kernel_rfl) ?_
    refine zrSeq ?_
    refine zrReg ?_
    refine zlRun (n := 4) (j := 4) rfl (by kernel_rfl) ?_
    refine zlEnd (by kernel_rfl) ?_
    refine zkSeq ?_
    refine zrRet ?_
    refine zkSeqR ?_
    refine zkNil ?_
    exact endQ hS hQ (fRet (by kernel_rfl) ((congrArg (fun s => outR s 0 c31.res) (by kernel_rfl : finSt c31.fin _ = f31_fin 0 0 [] z7)).trans (f31_out 0 0 [] z7)))
  · replace hS := cond_f hc hS
    refine zlEnd (by kernel_rfl) ?_
    refine zkSeq ?_
    refine zrCondF (by kernel_rfl) ?_
    refine zrSkip ?_
    refine zkSeq ?_
    exact f31_j0_ok hd a1 a2 a3 hQ  hS (by kernel_rfl)
/- farwriter/grid.Text -/
def f13_fin (p89 : List Int) (p90 : Int) : St := ⟨(up (up (fun _ => .un) 5 (.d (.int .i64 p90))) 4 (.r (.msl 393 0 0 p89.length))), (up (hB fun _ => 0) 393 ⟨0, some (.own 3 1 ((eInt .i64).cells p89))⟩)⟩
theorem f13_out (p89 : List Int) (p90 : Int) : outR (f13_fin p89 p90) 0 c13.res = some ((.tup [(.r (.own 0 3 1 p89.length ((eInt .i64).cells p89))), (.d (.int .i64 p90))]), []) := by
  exact out_of (ids := []) (ids' := [393]) (l := [(.r (.msl 393 0 0 p89.length)), (.d (.int .i64 p90))]) (by kernel_rfl) (by kernel_rfl) (o_tup (o_cons (o_own (eInt .i64) (e := 3) (k := 1) (xs := p89) (by kernel_rfl) rfl rfl rfl rfl) (o_cons rfl o_nil)))
def f13_Q (r : (List Int) × Int) (e : PX) (st : St) : Prop := DoneF c13 0 ((.tup [(.r (.own 0 3 1 r.1.length ((eInt .i64).cells r.1))), (.d (.int .i64 r.2))]), []) e st
def f13_l2_J (a1 : GGrid) (a2 : Int) (x : (List Int) × (List GCell) × Nat × Nat × Int × Int) : St := ⟨(up (up (up (up (fun _ => .un) 31 (.d (.int .i64 x.2.2.2.2.2))) 30 (.d (.int .i64 x.2.2.2.2.1))) 29 (.r (.msl 176 0 x.2.2.1 x.2.2.2.1))) 7 (.r (.msl 64 0 0 x.1.length))), (up (up (hB fun _ => 0) 176 ⟨0, some (.own 33 4 (e_GCell.cells x.2.1))⟩) 64 ⟨0, some (.own 3 1 ((eInt .i64).cells x.1))⟩)⟩
def f13_l2_H (a1 : GGrid) (a2 : Int) (x : (List Int) × (List GCell) × Nat × Nat × Int × Int) (st : St) : Prop := keepSt [7, 29, 30, 31] [(64, .id 64), (176, .id 176)] [] st = f13_l2_J a1 a2 x
def f13_l2_e0_J (a1 : GGrid) (a2 : Int) (p185 : List Int) : St := ⟨(up (fun _ => .un) 7 (.r (.msl 64 0 0 p185.length))), (up (hB fun _ => 0) 64 ⟨0, some (.own 3 1 ((eInt .i64).cells p185))⟩)⟩
def f13_l2_X (a1 : GGrid) (a2 : Int) (z : ((List Int))) (e : PX) (st : St) : Prop := e = .exit 0 ∧ st = f13_l2_e0_J a1 a2 z
def f13_l2_j4_J (a1 : GGrid) (a2 : Int) (p200 : List Int) (p201 : List GCell) (p202 : Nat) (p203 : Nat) (p204 : Int) (p205 : Int) : St := ⟨(up (up (up (up (fun _ => .un) 31 (.d (.int .i64 p205))) 30 (.d (.int .i64 p204))) 29 (.r (.msl 176 0 p202 p203))) 7 (.r (.msl 64 0 0 p200.length))), (up (up (hB fun _ => 0) 176 ⟨0, some (.own 33 4 (e_GCell.cells p201))⟩) 64 ⟨0, some (.own 3 1 ((eInt .i64).cells p200))⟩)⟩
noncomputable def f13_l2_j4 (a1 : GGrid) (a2 : Int) (p200 : List Int) (p201 : List GCell) (p202 : Nat) (p203 : Nat) (p204 : Int) (p205 : Int) : Option (((List Int) × (List GCell) × Nat × Nat × Int × Int) ⊕ (((List Int)))) := ((inR p205 p203).bind fun m29 => ((p201[(p202 + m29)]?).bind fun z30 => (bif (!decide (z30.Rune = 0)) then ((app? 8 p200 ([z30.Rune] : List Int)).bind fun z31 => (some (.inl (z31, p201, p202, p203, p204, (IntKind.i64.wrap (p205 + 1)))))) else (some (.inl (p200, p201, p202, p203, p204, (IntKind.i64.wrap (p205 + 1))))))))
theorem f13_l2_j4_ok {base : Orc} {d : Nat} (hd : 6 ≤ d) (a1 : GGrid) (a2 : Int) {r : ((List Int) × (List GCell) × Nat × Nat × Int × Int) ⊕ (((List Int)))} {Q : PX → St → Prop} (hQ : ∀ e st', finL (f13_l2_H a1 a2) (f13_l2_X a1 a2) r e st' → Q e st') (p200 : List Int) (p201 : List GCell) (p202 : Nat) (p203 : Nat) (p204 : Int) (p205 : Int) (hS : f13_l2_j4 a1 a2 p200 p201 p202 p203 p204 p205 = some r) {st : St} (he : keepSt [7, 29, 30, 31] [(64, .id 64), (176, .id 176)] [] st = f13_l2_j4_J a1 a2 p200 p201 p202 p203 p204 p205) : ZR (lev codes base (d - 1)) Q c13_1 [] st := by
  refine zrKeep he ?_
  unfold f13_l2_j4 at hS
  refine zrSeq ?_
  refine zrBlk ?_
  refine zrSeq ?_
  refine zrReg ?_
  refine bindE hS (fun m29 hm29 hS => ?_)
  refine zlOp (d := some 33) (op := (.ixS 33 4 (.tmp 29) (.tmp 31))) (g := none) (v := (.r (.ptr 176 0 ((p202 + m29) * 4)))) (ups := []) (j := 1) rfl (by kernel_rfl) (by kernel_rfl) (ev_ixM (kk := .i64) (b := 176) (g := 0) (l := p202) (n := p203) (j := p205) (cs := e_GCell.cells p201) (by kernel_rfl) (by kernel_rfl) (by kernel_rfl) hm29) ?_
  refine bindE hS (fun z30 hz30 hS => ?_)
  refine zlOp (d := some 34) (op := (.load .true 4 (.tmp 33))) (g := none) (v := (.agg ((.d (.int .i64 z30.Rune)) :: ((.d (.int .i64 z30.Pen.Flags)) :: ((.d (.int .i64 z30.Pen.Fore)) :: ((.d (.int .i64 z30.Pen.Back)) :: [])))))) (ups := []) (j := 2) rfl (by kernel_rfl) (by kernel_rfl) (ev_loadM e_GCell (b := 176) (g := 0) (o := (p202 + m29) * 4) (e := 33) (k := 4) (m := (p202 + m29)) (fo := 0) (xs := p201) (by kernel_rfl) (by kernel_rfl) rfl hz30 (by kernel_rfl) (by kernel_rfl) (by kernel_rfl)) ?_
  refine zlRun (n := 2) (j := 4) rfl (by kernel_rfl) ?_
  refine zlEnd (by kernel_rfl) ?_
  refine zkSeq ?_
  refine zrSeq ?_
  refine zrReg ?_
  refine zlRun (n := 2) (j := 2) rfl (by kernel_rfl) ?_
  refine zlBool (d := 37) (op := (.cmpI .neq (.tmp 36) (.const (.int .i64 0)))) (g := none) (j := 3) (!decide (z30.Rune = 0)) rfl (by kernel_rfl) (by kernel_rfl) (by kernel_rfl) (fun hc => ?_) (fun hc => ?_)
  · replace hS := cond_t hc hS
    refine zlEnd (by kernel_rfl) ?_
    refine zkSeq ?_
    refine zrCondT (by kernel_rfl) ?_
    refine zrReg ?_
    refine zlRun (n := 4) (j := 4) rfl (by kernel_rfl) ?_
    refine bindE hS (fun z31 hz31 hS => ?_)
    refine zlOp (d := some 42) (op := (.app 3 1 8 (.tmp 38) (.tmp 41))) (g := none) (v := (.r (.msl 64 1 0 z31.length))) (ups := [(64, ⟨1, some (.own 3 1 ((eInt .i64).cells z31))⟩)]) (j := 5) rfl (by kernel_rfl) (by kernel_rfl) (ev_app (eInt .i64) (b := 64) (g := 0) (n := p200.length) (xs := p200) (ys := [z30.Rune]) ((congrArg (asL _) (by kernel_rfl : ρof _ (.tmp 41) = (.r (.msl 336 1 0 (([z30.Rune] : List Int).length))))).trans (as_whole (eInt .i64) (e := 3) (k := 1) (xs := [z30.Rune]) (by kernel_rfl) rfl rfl)) rfl (by kernel_rfl) rfl (by kernel_rfl) rfl hz31) ?_
    refine zlRun (n := 1) (j := 6) rfl (by kernel_rfl) ?_
    refine zlEnd (by kernel_rfl) ?_
    refine zkBlk ?_
    refine zkSeq ?_
    refine zrReg ?_
    refine zlRun (n := 2) (j := 2) rfl (by kernel_rfl) ?_
    refine zlEnd (by kernel_rfl) ?_
    refine zkNil ?_
    exact endQ hS hQ (finL_n (by show keepSt _ _ _ _ = _; kernel_rfl))
  · replace hS := cond_f hc hS
    refine zlEnd (by kernel_rfl) ?_
    refine zkSeq ?_
    refine zrCondF (by kernel_rfl) ?_
    refine zrSkip ?_
    refine zkBlk ?_
    refine zkSeq ?_
    refine zrReg ?_
    refine zlRun (n := 2) (j := 2) rfl (by kernel_rfl) ?_
    refine zlEnd (by kernel_rfl) ?_
    refine zkNil ?_
    exact endQ hS hQ (finL_n (by show keepSt _ _ _ _ = _; kernel_rfl))
def f13_l2_j3_J (a1 : GGrid) (a2 : Int) (p193 : List Int) (p194 : List GCell) (p195 : Nat) (p196 : Nat) (p197 : Int) (p198 : Int) (p199 : Bool) : St := ⟨(up (up (up (up (up (fun _ => .un) 32 (.d (.bool p199))) 31 (.d (.int .i64 p198))) 30 (.d (.int .i64 p197))) 29 (.r (.msl 176 0 p195 p196))) 7 (.r (.msl 64 0 0 p193.length))), (up (up (hB fun _ => 0) 176 ⟨0, some (.own 33 4 (e_GCell.cells p194))⟩) 64 ⟨0, some (.own 3 1 ((eInt .i64).cells p193))⟩)⟩
noncomputable def f13_l2_j3 (a1 : GGrid) (a2 : Int) (p193 : List Int) (p194 : List GCell) (p195 : Nat) (p196 : Nat) (p197 : Int) (p198 : Int) (p199 : Bool) : Option (((List Int) × (List GCell) × Nat × Nat × Int × Int) ⊕ (((List Int)))) := (bif p199 then (f13_l2_j4 a1 a2 p193 p194 p195 p196 p197 p198) else (some (.inr p193)))
theorem f13_l2_j3_ok {base : Orc} {d : Nat} (hd : 6 ≤ d) (a1 : GGrid) (a2 : Int) {r : ((List Int) × (List GCell) × Nat × Nat × Int × Int) ⊕ (((List Int)))} {Q : PX → St → Prop} (hQ : ∀ e st', finL (f13_l2_H a1 a2) (f13_l2_X a1 a2) r e st' → Q e st') (p193 : List Int) (p194 : List GCell) (p195 : Nat) (p196 : Nat) (p197 : Int) (p198 : Int) (p199 : Bool) (hS : f13_l2_j3 a1 a2 p193 p194 p195 p196 p197 p198 p199 = some r) {st : St} (he : keepSt [7, 29, 30, 31, 32] [(64, .id 64), (176, .id 176)] [] st = f13_l2_j3_J a1 a2 p193 p194 p195 p196 p197 p198 p199) : ZR (lev codes base (d - 1)) Q c13_2 [] st := by
  refine zrKeep he ?_
  unfold f13_l2_j3 at hS
  refine zrSeq ?_
  refine zrSplit 32 p199 (by kernel_rfl) (fun hc => ?_) (fun hc => ?_)
  · replace hS := cond_t hc hS
    refine zrCondT (by kernel_rfl) ?_
    refine zrSkip ?_
    refine zkSeq ?_
    exact f13_l2_j4_ok hd a1 a2 hQ p193 p194 p195 p196 p197 p198 hS (by kernel_rfl)
  · replace hS := cond_f hc hS
    refine zrCondF (by kernel_rfl) ?_
    refine zrKeep (J := f13_l2_e0_J a1 a2 p193) (by kernel_rfl) ?_
    refine zrExit ?_
    refine zkSeqX ?_
    refine zkNil ?_
    exact endQ hS hQ (finL_x (by intro h; cases h) (by show _ = _ ∧ _ = _; exact ⟨rfl, rfl⟩))
noncomputable def f13_l2 (a1 : GGrid) (a2 : Int) (x : (List Int) × (List GCell) × Nat × Nat × Int × Int) : Option (((List Int) × (List GCell) × Nat × Nat × Int × Int) ⊕ (((List Int)))) := (bif (decide (x.2.2.2.2.2 < x.2.2.2.2.1)) then (f13_l2_j3 a1 a2 x.1 x.2.1 x.2.2.1 x.2.2.2.1 x.2.2.2.2.1 x.2.2.2.2.2 true) else (f13_l2_j3 a1 a2 x.1 x.2.1 x.2.2.1 x.2.2.2.1 x.2.2.2.2.1 x.2.2.2.2.2 false))
theorem f13_l2_ok {base : Orc} {d : Nat} (hd : 6 ≤ d) (a1 : GGrid) (a2 : Int) {r : ((List Int) × (List GCell) × Nat × Nat × Int × Int) ⊕ (((List Int)))} {Q : PX → St → Prop} (hQ : ∀ e st', finL (f13_l2_H a1 a2) (f13_l2_X a1 a2) r e st' → Q e st') {x : (List Int) × (List GCell) × Nat × Nat × Int × Int} (hS : f13_l2 a1 a2 x = some r) {st : St} (he : f13_l2_H a1 a2 x st) : ZR (lev codes base (d - 1)) Q c13_3 [] st := by
  refine zrKeep he ?_
  unfold f13_l2 at hS
  refine zrSeq ?_
  refine zrReg ?_
  refine zlBool (d := 32) (op := (.cmpI .lss (.tmp 31) (.tmp 30))) (g := none) (j := 1) (decide (x.2.2.2.2.2 < x.2.2.2.2.1)) rfl (by kernel_rfl) (by kernel_rfl) (by kernel_rfl) (fun hc => ?_) (fun hc => ?_)
  · replace hS := cond_t hc hS
    refine zlEnd (by kernel_rfl) ?_
    refine zkSeq ?_
    exact f13_l2_j3_ok hd a1 a2 hQ x.1 x.2.1 x.2.2.1 x.2.2.2.1 x.2.2.2.2.1 x.2.2.2.2.2 true hS (by kernel_rfl)
  · replace hS := cond_f hc hS
    refine zlEnd (by kernel_rfl) ?_
    refine zkSeq ?_
    exact f13_l2_j3_ok hd a1 a2 hQ x.1 x.2.1 x.2.2.1 x.2.2.2.1 x.2.2.2.2.1 x.2.2.2.2.2 false hS (by kernel_rfl)
def f13_j1_J (a1 : GGrid) (a2 : Int) (p108 : Int) (p109 : Int) (p110 : List GCell) : St := ⟨(up (up (fun _ => .un) 2 (.r (.ptr 24 0 0))) 1 (.d (.int .i64 a2))), (up (up (hB fun _ => 0) 176 ⟨0, some (.own 33 4 (e_GCell.cells p110))⟩) 24 ⟨0, some (.box ((.d (.int .i64 p108)) :: ((.d (.int .i64 p109)) :: ((.r (.msl 176 0 0 p110.length)) :: []))))⟩)⟩
noncomputable def f13_j1 (a1 : GGrid) (a2 : Int) (p108 : Int) (p109 : Int) (p110 : List GCell) : Option ((List Int) × Int) := ((f33v1 p108 p109 a2 p110).bind fun z18 => ((chk (decide (z18.1.length = p110.length))).bind fun z19 => ((loopO (f13_l2 a1 a2) ([], z18.1, z18.2.1, z18.2.2, (z18.2.2 : Int), 0)).bind fun z32 => (some (z32, 0)))))
theorem f13_j1_ok {base : Orc} {d : Nat} (hd : 6 ≤ d) (a1 : GGrid) (a2 : Int) {r : (List Int) × Int} {Q : PX → St → Prop} (hQ : ∀ e st', f13_Q r e st' → Q e st') (p108 : Int) (p109 : Int) (p110 : List GCell) (hS : f13_j1 a1 a2 p108 p109 p110 = some r) {st : St} (he : keepSt [1, 2] [(24, .id 24), (176, .id 176)] [] st = f13_j1_J a1 a2 p108 p109 p110) : ZR (lev codes base (d - 1)) Q c13_4 [] st := by
  refine zrKeep he ?_
  unfold f13_j1 at hS
  refine zrSeq ?_
  refine zrReg ?_
  refine zlRun (n := 1) (j := 1) rfl (by kernel_rfl) ?_
  refine zlEnd (by kernel_rfl) ?_
  refine zkSeq ?_
  refine zrSeq ?_
  refine zrSeq ?_
  refine zrReg ?_
  refine zlRun (n := 2) (j := 2) rfl (by kernel_rfl) ?_
  refine bindE hS (fun z18 hz18 hS => ?_)
  refine bindE hS (fun z19 hz19 hS => ?_)
  refine zlOp (d := some 29) (op := (.callr 33 [(.tmp 27), (.tmp 28)])) (g := none) (v := (.r (.msl 176 0 z18.2.1 z18.2.2))) (ups := [(176, ⟨0, some (.own 33 4 (e_GCell.cells z18.1))⟩)]) (j := 3) rfl (by kernel_rfl) (by kernel_rfl) (ev_callrX (args := [(.agg ((.d (.int .i64 p108)) :: ((.d (.int .i64 p109)) :: ((.r (.msl 176 0 0 p110.length)) :: [])))), (.d (.int .i64 a2))]) (ids := [176]) (bs := [(.own 33 4 (e_GCell.cells p110))]) (l := [(.agg ((.d (.int .i64 p108)) :: ((.d (.int .i64 p109)) :: ((.r (.msl 0 0 0 p110.length)) :: [])))), (.d (.int .i64 a2))]) (bt := [(.own 33 4 (e_GCell.cells p110))]) (r := (.r (.msl 0 0 z18.2.1 z18.2.2))) (bs' := [(.own 33 4 (e_GCell.cells z18.1)), .box []]) (by kernel_rfl) (by kernel_rfl) (by kernel_rfl) (by kernel_rfl) (by kernel_rfl) (f33v1_ok base (d - 1) (dpt hd rfl) p108 p109 a2 p110 z18 hz18) (by kernel_rfl) (sm_own e_GCell (e1 := 33) (k1 := 4) (xs := p110) (ys := z18.1) (by kernel_rfl) hz19 sm_nil) (by kernel_rfl) (by kernel_rfl)) ?_
  have lz19 : p110.length = z18.1.length := (of_decide_eq_true (chk_t hz19)).symm
  try delta f13_j1_J
  try rw [lz19]
  refine zlRun (n := 2) (j := 5) rfl (by kernel_rfl) ?_
  refine zlEnd (by kernel_rfl) ?_
  refine zkSeq ?_
  refine zrBlk ?_
  refine bindE hS (fun z32 hz32 hS => ?_)
  refine zrLoop (f13_l2_H a1 a2) (f13_l2_X a1 a2) (fun x st r Q h0 hS hQ => f13_l2_ok hd a1 a2 hQ hS h0) (x := ([], z18.1, z18.2.1, z18.2.2, (z18.2.2 : Int), 0)) (z := z32) (by show keepSt _ _ _ _ = _; kernel_rfl) hz32 ?_
  intro e st' _ hX
  obtain ⟨rfl, rfl⟩ : _ ∧ _ := hX
  refine zkBlkX ?_
  refine zkSeq ?_
  refine zrSeq ?_
  refine zrReg ?_
  refine zlRun (n := 3) (j := 3) rfl (by kernel_rfl) ?_
  refine zlEnd (by kernel_rfl) ?_
  refine zkSeq ?_
  refine zrRet ?_
  refine zkNil ?_
  exact endQ hS hQ (fRet (by kernel_rfl) ((congrArg (fun s => outR s 0 c13.res) (by kernel_rfl : finSt c13.fin _ = f13_fin z32 0)).trans (f13_out z32 0)))
def f13_j0_J (a1 : GGrid) (a2 : Int) (p99 : Int) (p100 : Int) (p101 : List GCell) (p102 : Int) : St := ⟨(up (up (up (fun _ => .un) 6 (.d (.int .i64 p102))) 2 (.r (.ptr 24 0 0))) 1 (.d (.int .i64 a2))), (up (up (hB fun _ => 0) 176 ⟨0, some (.own 33 4 (e_GCell.cells p101))⟩) 24 ⟨0, some (.box ((.d (.int .i64 p99)) :: ((.d (.int .i64 p100)) :: ((.r (.msl 176 0 0 p101.length)) :: []))))⟩)⟩
noncomputable def f13_j0 (a1 : GGrid) (a2 : Int) (p99 : Int) (p100 : Int) (p101 : List GCell) (p102 : Int) : Option ((List Int) × Int) := (bif (!decide (p102 = 0)) then (some ([], p102)) else (f13_j1 a1 a2 p99 p100 p101))
theorem f13_j0_ok {base : Orc} {d : Nat} (hd : 6 ≤ d) (a1 : GGrid) (a2 : Int) {r : (List Int) × Int} {Q : PX → St → Prop} (hQ : ∀ e st', f13_Q r e st' → Q e st') (p99 : Int) (p100 : Int) (p101 : List GCell) (p102 : Int) (hS : f13_j0 a1 a2 p99 p100 p101 p102 = some r) {st : St} (he : keepSt [1, 2, 6] [(24, .id 24), (176, .id 176)] [] st = f13_j0_J a1 a2 p99 p100 p101 p102) : ZR (lev codes base (d - 1)) Q c13_5 [] st := by
  refine zrKeep he ?_
  unfold f13_j0 at hS
  refine zrSeq ?_
  refine zrSeq ?_
  refine zrReg ?_
  refine zlRun (n := 1) (j := 1) rfl (by kernel_rfl) ?_
  refine zlBool (d := 25) (op := (.cmpI .neq (.tmp 24) (.const (.int .i64 0)))) (g := none) (j := 2) (!decide (p102 = 0)) rfl (by kernel_rfl) (by kernel_rfl) (by kernel_rfl) (fun hc => ?_) (fun hc => ?_)
  · replace hS := cond_t hc hS
    refine zlEnd (by kernel_rfl) ?_
    refine zkSeq ?_
    refine zrCondT (by kernel_rfl) ?_
    refine zrSeq ?_
    refine zrReg ?_
    refine zlRun (n := 3) (j := 3) rfl (by kernel_rfl) ?_
    refine zlEnd (by kernel_rfl) ?_
    refine zkSeq ?_
    refine zrRet ?_
    refine zkSeqR ?_
    refine zkNil ?_
    exact endQ hS hQ (fRet (by kernel_rfl) ((congrArg (fun s => outR s 0 c13.res) (by kernel_rfl : finSt c13.fin _ = f13_fin [] p102)).trans (f13_out [] p102)))
  · replace hS := cond_f hc hS
    refine zlEnd (by kernel_rfl) ?_
    refine zkSeq ?_
    refine zrCondF (by kernel_rfl) ?_
    refine zrSkip ?_
    refine zkSeq ?_
    exact f13_j1_ok hd a1 a2 hQ p99 p100 p101 hS (by kernel_rfl)
noncomputable def f13 (a1 : GGrid) (a2 : Int) : Option ((List Int) × Int) := (bif (decide (0 ≤ a2)) then (bif (decide (a2 < a1.High)) then ((f29 a1 true (GPen.mk 0 0 0)).bind fun z33 => (f13_j0 a1 a2 z33.1 z33.2.1 z33.2.2.1 z33.2.2.2)) else ((f29 a1 false (GPen.mk 0 0 0)).bind fun z34 => (f13_j0 a1 a2 z34.1 z34.2.1 z34.2.2.1 z34.2.2.2))) else ((f29 a1 false (GPen.mk 0 0 0)).bind fun z35 => (f13_j0 a1 a2 z35.1 z35.2.1 z35.2.2.1 z35.2.2.2)))
theorem f13_ok (base : Orc) (d : Nat) (hd : 6 ≤ d) (a1 : GGrid) (a2 : Int) (r : (List Int) × Int) (hS : f13 a1 a2 = some r) : lev codes base d 13 [(.agg ((.d (.int .i64 a1.Wide)) :: ((.d (.int .i64 a1.High)) :: ((.d (.sl a1.Cells.length (e_GCell.cells a1.Cells))) :: [])))), (.d (.int .i64 a2))] [] = some ((.tup [(.r (.own 0 3 1 r.1.length ((eInt .i64).cells r.1))), (.d (.int .i64 r.2))]), []) := by
  refine lev_go codes13 rfl rfl (Nat.le_trans (Nat.le_of_ble_eq_true rfl) hd) fun Q hQ => ?_
  unfold f13 at hS
  show ZR _ Q c13_b [] _
  replace hQ : ∀ e st', f13_Q r e st' → Q e st' := hQ
  refine zrSeq ?_
  refine zrReg ?_
  refine zlRun (n := 3) (j := 3) rfl (by kernel_rfl) ?_
  refine zlEnd (by kernel_rfl) ?_
  refine zkSeq ?_
  refine zrSeq ?_
  refine zrReg ?_
  refine zlRun (n := 2) (j := 2) rfl (by kernel_rfl) ?_
  refine zlBool (d := 13) (op := (.cmpI .geq (.tmp 12) (.const (.int .i64 0)))) (g := none) (j := 3) (decide (0 ≤ a2)) rfl (by kernel_rfl) (by kernel_rfl) (by kernel_rfl) (fun hc => ?_) (fun hc => ?_)
  · replace hS := cond_t hc hS
    refine zlRun (n := 4) (j := 7) rfl (by kernel_rfl) ?_
    refine zlBool (d := 18) (op := (.cmpI .lss (.tmp 15) (.tmp 17))) (g := (some (14, true))) (j := 8) (decide (a2 < a1.High)) rfl (by kernel_rfl) (by kernel_rfl) (by kernel_rfl) (fun hc => ?_) (fun hc => ?_)
    · replace hS := cond_t hc hS
      refine zlRun (n := 2) (j := 10) rfl (by kernel_rfl) ?_
      refine bindE hS (fun z33 hz33 hS => ?_)
      refine zlOp (d := some 21) (op := (.callf 29 [(.tmp 11), (.tmp 19), (.tmp 20)])) (g := none) (v := (.tup [(.agg ((.d (.int .i64 z33.1)) :: ((.d (.int .i64 z33.2.1)) :: ((.r (.msl 176 1 0 z33.2.2.1.length)) :: [])))), (.d (.int .i64 z33.2.2.2))])) (ups := [(176, ⟨1, some (.own 33 4 (e_GCell.cells z33.2.2.1))⟩)]) (j := 11) rfl (by kernel_rfl) (by kernel_rfl) (ev_callF (args := [(.agg ((.d (.int .i64 a1.Wide)) :: ((.d (.int .i64 a1.High)) :: ((.d (.sl a1.Cells.length (e_GCell.cells a1.Cells))) :: [])))), (.d (.bool true)), (.agg ((.d (.int .i64 0)) :: ((.d (.int .i64 0)) :: ((.d (.int .i64 0)) :: []))))]) (args' := [(.agg ((.d (.int .i64 a1.Wide)) :: ((.d (.int .i64 a1.High)) :: ((.d (.sl a1.Cells.length (e_GCell.cells a1.Cells))) :: [])))), (.d (.bool true)), (.agg ((.d (.int .i64 0)) :: ((.d (.int .i64 0)) :: ((.d (.int .i64 0)) :: []))))]) (l := [(.agg ((.d (.int .i64 a1.Wide)) :: ((.d (.int .i64 a1.High)) :: ((.d (.sl a1.Cells.length (e_GCell.cells a1.Cells))) :: [])))), (.d (.bool true)), (.agg ((.d (.int .i64 0)) :: ((.d (.int .i64 0)) :: ((.d (.int .i64 0)) :: []))))]) (refs := []) (r := (.tup [(.agg ((.d (.int .i64 z33.1)) :: ((.d (.int .i64 z33.2.1)) :: ((.r (.own 0 33 4 z33.2.2.1.length (e_GCell.cells z33.2.2.1))) :: [])))), (.d (.int .i64 z33.2.2.2))])) (v := (.tup [(.agg ((.d (.int .i64 z33.1)) :: ((.d (.int .i64 z33.2.1)) :: ((.r (.msl 176 1 0 z33.2.2.1.length)) :: [])))), (.d (.int .i64 z33.2.2.2))])) (ups' := [(176, ⟨1, some (.own 33 4 (e_GCell.cells z33.2.2.1))⟩)]) (by kernel_rfl) (by kernel_rfl) (by kernel_rfl) (fz_cons rfl (fz_cons rfl (fz_cons rfl fz_nil))) (by kernel_rfl) (f29_ok base (d - 1) (dpt hd rfl) a1 true (GPen.mk 0 0 0) z33 hz33) (by kernel_rfl) (by kernel_rfl) (by kernel_rfl) (by kernel_rfl)) ?_
      refine zlRun (n := 5) (j := 16) rfl (by kernel_rfl) ?_
      refine zlEnd (by kernel_rfl) ?_
      refine zkSeq ?_
      exact f13_j0_ok hd a1 a2 hQ z33.1 z33.2.1 z33.2.2.1 z33.2.2.2 hS (by kernel_rfl)
    · replace hS := cond_f hc hS
      refine zlRun (n := 2) (j := 10) rfl (by kernel_rfl) ?_
      refine bindE hS (fun z34 hz34 hS => ?_)
      refine zlOp (d := some 21) (op := (.callf 29 [(.tmp 11), (.tmp 19), (.tmp 20)])) (g := none) (v := (.tup [(.agg ((.d (.int .i64 z34.1)) :: ((.d (.int .i64 z34.2.1)) :: ((.r (.msl 176 1 0 z34.2.2.1.length)) :: [])))), (.d (.int .i64 z34.2.2.2))])) (ups := [(176, ⟨1, some (.own 33 4 (e_GCell.cells z34.2.2.1))⟩)]) (j := 11) rfl (by kernel_rfl) (by kernel_rfl) (ev_callF (args := [(.agg ((.d (.int .i64 a1.Wide)) :: ((.d (.int .i64 a1.High)) :: ((.d (.sl a1.Cells.length (e_GCell.cells a1.Cells))) :: [])))), (.d (.bool false)), (.agg ((.d (.int .i64 0)) :: ((.d (.int .i64 0)) :: ((.d (.int .i64 0)) :: []))))]) (args' := [(.agg ((.d (.int .i64 a1.Wide)) :: ((.d (.int .i64 a1.High)) :: ((.d (.sl a1.Cells.length (e_GCell.cells a1.Cells))) :: [])))), (.d (.bool false)), (.agg ((.d (.int .i64 0)) :: ((.d (.int .i64 0)) :: ((.d (.int .i64 0)) :: []))))]) (l := [(.agg ((.d (.int .i64 a1.Wide)) :: ((.d (.int .i64 a1.High)) :: ((.d (.sl a1.Cells.length (e_GCell.cells a1.Cells))) :: [])))), (.d (.bool false)), (.agg ((.d (.int .i64 0)) :: ((.d (.int .i64 0)) :: ((.d (.int .i64 0)) :: []))))]) (refs := []) (r := (.tup [(.agg ((.d (.int .i64 z34.1)) :: ((.d (.int .i64 z34.2.1)) :: ((.r (.own 0 33 4 z34.2.2.1.length (e_GCell.cells z34.2.2.1))) :: [])))), (.d (.int .i64 z34.2.2.2))])) (v := (.tup [(.agg ((.d (.int .i64 z34.1)) :: ((.d (.int .i64 z34.2.1)) :: ((.r (.msl 176 1 0 z34.2.2.1.length)) :: [])))), (.d (.int .i64 z34.2.2.2))])) (ups' := [(176, ⟨1, some (.own 33 4 (e_GCell.cells z34.2.2.1))⟩)]) (by kernel_rfl) (by kernel_rfl) (by kernel_rfl) (fz_cons rfl (fz_cons rfl (fz_cons rfl fz_nil))) (by kernel_rfl) (f29_ok base (d - 1) (dpt hd rfl) a1 false (GPen.mk 0 0 0) z34 hz34) (by kernel_rfl) (by kernel_rfl) (by kernel_rfl) (by kernel_rfl)) ?_
      refine zlRun (n := 5) (j := 16) rfl (by kernel_rfl) ?_
      refine zlEnd (by kernel_rfl) ?_
      refine zkSeq ?_
      exact f13_j0_ok hd a1 a2 hQ z34.1 z34.2.1 z34.2.2.1 z34.2.2.2 hS (by kernel_rfl)
  · replace hS := cond_f hc hS
    refine zlRun (n := 7) (j := 10) rfl (by kernel_rfl) ?_
    refine bindE hS (fun z35 hz35 hS => ?_)
    refine zlOp (d := some 21) (op := (.callf 29 [(.tmp 11), (.tmp 19), (.tmp 20)])) (g := none) (v := (.tup [(.agg ((.d (.int .i64 z35.1)) :: ((.d (.int .i64 z35.2.1)) :: ((.r (.msl 176 1 0 z35.2.2.1.length)) :: [])))), (.d (.int .i64 z35.2.2.2))])) (ups := [(176, ⟨1, some (.own 33 4 (e_GCell.cells z35.2.2.1))⟩)]) (j := 11) rfl (by kernel_rfl) (by kernel_rfl) (ev_callF (args := [(.agg ((.d (.int .i64 a1.Wide)) :: ((.d (.int .i64 a1.High)) :: ((.d (.sl a1.Cells.length (e_GCell.cells a1.Cells))) :: [])))), (.d (.bool false)), (.agg ((.d (.int .i64 0)) :: ((.d (.int .i64 0)) :: ((.d (.int .i64 0)) :: []))))]) (args' := [(.agg ((.d (.int .i64 a1.Wide)) :: ((.d (.int .i64 a1.High)) :: ((.d (.sl a1.Cells.length (e_GCell.cells a1.Cells))) :: [])))), (.d (.bool false)), (.agg ((.d (.int .i64 0)) :: ((.d (.int .i64 0)) :: ((.d (.int .i64 0)) :: []))))]) (l := [(.agg ((.d (.int .i64 a1.Wide)) :: ((.d (.int .i64 a1.High)) :: ((.d (.sl a1.Cells.length (e_GCell.cells a1.Cells))) :: [])))), (.d (.bool false)), (.agg ((.d (.int .i64 0)) :: ((.d (.int .i64 0)) :: ((.d (.int .i64 0)) :: []))))]) (refs := []) (r := (.tup [(.agg ((.d (.int .i64 z35.1)) :: ((.d (.int .i64 z35.2.1)) :: ((.r (.own 0 33 4 z35.2.2.1.length (e_GCell.cells z35.2.2.1))) :: [])))), (.d (.int .i64 z35.2.2.2))])) (v := (.tup [(.agg ((.d (.int .i64 z35.1)) :: ((.d (.int .i64 z35.2.1)) :: ((.r (.msl 176 1 0 z35.2.2.1.length)) :: [])))), (.d (.int .i64 z35.2.2.2))])) (ups' := [(176, ⟨1, some (.own 33 4 (e_GCell.cells z35.2.2.1))⟩)]) (by kernel_rfl) (by kernel_rfl) (by kernel_rfl) (fz_cons rfl (fz_cons rfl (fz_cons rfl fz_nil))) (by kernel_rfl) (f29_ok base (d - 1) (dpt hd rfl) a1 false (GPen.mk 0 0 0) z35 hz35) (by kernel_rfl) (by kernel_rfl) (by kernel_rfl) (by kernel_rfl)) ?_
    refine zlRun (n := 5) (j := 16) rfl (by kernel_rfl) ?_
    refine zlEnd (by kernel_rfl) ?_
    refine zkSeq ?_
    exact f13_j0_ok hd a1 a2 hQ z35.1 z35.2.1 z35.2.2.1 z35.2.2.2 hS (by kernel_rfl)
/- slices.Equal[[]int,int] -/
def f16_fin (p14 : Bool) : St := ⟨(up (fun _ => .un) 4 (.d (.bool p14))), (hB fun _ => 0)⟩
theorem f16_out (p14 : Bool) : outR (f16_fin p14) 0 c16.res = some ((.d (.bool p14)), []) := by
  kernel_rfl
def f16_Q (r : Bool) (e : PX) (st : St) : Prop := DoneF c16 0 ((.d (.bool r)), []) e st
def f16_l1_J (a1 : List Int) (a2 : List Int) (x : Int) : St := ⟨(up (up (up (up (fun _ => .un) 13 (.d (.int .i64 x))) 12 (.d (.int .i64 (a1.length : Int)))) 1 (.d (.sl a2.length ((eInt .i64).cells a2)))) 0 (.d (.sl a1.length ((eInt .i64).cells a1)))), (hB fun _ => 0)⟩
def f16_l1_H (a1 : List Int) (a2 : List Int) (x : Int) (st : St) : Prop := keepSt [0, 1, 12, 13] [] [] st = f16_l1_J a1 a2 x
def f16_l1_e0_J (a1 : List Int) (a2 : List Int) : St := ⟨(fun _ => .un), (hB fun _ => 0)⟩
def f16_l1_X (a1 : List Int) (a2 : List Int) (z : Unit ⊕ Bool) (e : PX) (st : St) : Prop := (match z with | .inl z => e = .exit 0 ∧ st = f16_l1_e0_J a1 a2 | .inr z => e = .ret ∧ finSt c16.fin st = f16_fin z)
def f16_l1_j3_J (a1 : List Int) (a2 : List Int) (p20 : Int) : St := ⟨(up (up (up (up (fun _ => .un) 13 (.d (.int .i64 p20))) 12 (.d (.int .i64 (a1.length : Int)))) 1 (.d (.sl a2.length ((eInt .i64).cells a2)))) 0 (.d (.sl a1.length ((eInt .i64).cells a1)))), (hB fun _ => 0)⟩
noncomputable def f16_l1_j3 (a1 : List Int) (a2 : List Int) (p20 : Int) : Option (Int ⊕ (Unit ⊕ Bool)) := ((idx a1 p20).bind fun z7 => ((idx a2 p20).bind fun z8 => (bif (!decide (z7 = z8)) then (some (.inr (.inr false))) else (some (.inl (IntKind.i64.wrap (p20 + 1)))))))
theorem f16_l1_j3_ok {base : Orc} {d : Nat} (hd : 1 ≤ d) (a1 : List Int) (a2 : List Int) {r : Int ⊕ (Unit ⊕ Bool)} {Q : PX → St → Prop} (hQ : ∀ e st', finL (f16_l1_H a1 a2) (f16_l1_X a1 a2) r e st' → Q e st') (p20 : Int) (hS : f16_l1_j3 a1 a2 p20 = some r) {st : St} (he : keepSt [0, 1, 12, 13] [] [] st = f16_l1_j3_J a1 a2 p20) : ZR (lev codes base (d - 1)) Q c16_1 [] st := by
  refine zrKeep he ?_
  unfold f16_l1_j3 at hS
  refine zrSeq ?_
  refine zrBlk ?_
  refine zrSeq ?_
  refine zrReg ?_
  refine zlRun (n := 2) (j := 2) rfl (by kernel_rfl) ?_
  refine zlEnd (by kernel_rfl) ?_
  refine zkSeq ?_
  refine zrSeq ?_
  refine zrRegD ?_
  refine zdRun (n := 2) (j := 2) (ts := [[], []]) (acc' := [[], []]) rfl (by kernel_rfl) (by kernel_rfl) (by kernel_rfl) ?_
  refine bindE hS (fun z7 hz7 hS => ?_)
  refine zdOp (d := some 18) (op := (.ixS 3 1 (.tmp 16) (.tmp 17))) (g := none) (v := (.rptr ((eInt .i64).enc z7 ++ ((eInt .i64).cells (a1.drop ((p20 : Int).toNat + 1)))))) (ups := []) (j := 3) (t1 := []) (acc' := [[], [], []]) (by kernel_rfl) (by kernel_rfl) rfl (by kernel_rfl) (by kernel_rfl) (ev_ixS (eInt .i64) (kk := .i64) (xs := a1) (j := p20) (by kernel_rfl) (by kernel_rfl) hz7 rfl (by intro h; cases h)) ?_
  refine zdRun (n := 3) (j := 6) (ts := [[], [], []]) (acc' := [[], [], [], [], [], []]) rfl (by kernel_rfl) (by kernel_rfl) (by kernel_rfl) ?_
  refine bindE hS (fun z8 hz8 hS => ?_)
  refine zdOp (d := some 22) (op := (.ixS 3 1 (.tmp 20) (.tmp 21))) (g := none) (v := (.rptr ((eInt .i64).enc z8 ++ ((eInt .i64).cells (a2.drop ((p20 : Int).toNat + 1)))))) (ups := []) (j := 7) (t1 := []) (acc' := [[], [], [], [], [], [], []]) (by kernel_rfl) (by kernel_rfl) rfl (by kernel_rfl) (by kernel_rfl) (ev_ixS (eInt .i64) (kk := .i64) (xs := a2) (j := p20) (by kernel_rfl) (by kernel_rfl) hz8 rfl (by intro h; cases h)) ?_
  refine zdRun (n := 1) (j := 8) (ts := [[]]) (acc' := [[], [], [], [], [], [], [], []]) rfl (by kernel_rfl) (by kernel_rfl) (by kernel_rfl) ?_
  refine zdBool (d := 24) (op := (.cmpI .neq (.tmp 19) (.tmp 23))) (g := none) (j := 9) (t1 := []) (acc' := [[], [], [], [], [], [], [], [], []]) (!decide (z7 = z8)) (by kernel_rfl) (by kernel_rfl) rfl (by kernel_rfl) (by kernel_rfl) (by kernel_rfl) (fun hc => ?_) (fun hc => ?_)
  · replace hS := cond_t hc hS
    refine zdEnd (by kernel_rfl) (by kernel_rfl) ?_
    refine zkSeq ?_
    refine zrCondT (by kernel_rfl) ?_
    refine zrSeq ?_
    refine zrReg ?_
    refine zlRun (n := 1) (j := 1) rfl (by kernel_rfl) ?_
    refine zlEnd (by kernel_rfl) ?_
    refine zkSeq ?_
    refine zrRet ?_
    refine zkBlkR ?_
    refine zkSeqR ?_
    refine zkNil ?_
    exact endQ hS hQ (finL_x (by intro h; cases h) (by show _ = _ ∧ _ = _; exact ⟨rfl, by kernel_rfl⟩))
  · replace hS := cond_f hc hS
    refine zdEnd (by kernel_rfl) (by kernel_rfl) ?_
    refine zkSeq ?_
    refine zrCondF (by kernel_rfl) ?_
    refine zrSkip ?_
    refine zkBlk ?_
    refine zkSeq ?_
    refine zrReg ?_
    refine zlRun (n := 2) (j := 2) rfl (by kernel_rfl) ?_
    refine zlEnd (by kernel_rfl) ?_
    refine zkNil ?_
    exact endQ hS hQ (finL_n (by show keepSt _ _ _ _ = _; kernel_rfl))
def f16_l1_j2_J (a1 : List Int) (a2 : List Int) (p18 : Int) (p19 : Bool) : St := ⟨(up (up (up (up (up (fun _ => .un) 14 (.d (.bool p19))) 13 (.d (.int .i64 p18))) 12 (.d (.int .i64 (a1.length : Int)))) 1 (.d (.sl a2.length ((eInt .i64).cells a2)))) 0 (.d (.sl a1.length ((eInt .i64).cells a1)))), (hB fun _ => 0)⟩
noncomputable def f16_l1_j2 (a1 : List Int) (a2 : List Int) (p18 : Int) (p19 : Bool) : Option (Int ⊕ (Unit ⊕ Bool)) := (bif p19 then (f16_l1_j3 a1 a2 p18) else (some (.inr (.inl ()))))
theorem f16_l1_j2_ok {base : Orc} {d : Nat} (hd : 1 ≤ d) (a1 : List Int) (a2 : List Int) {r : Int ⊕ (Unit ⊕ Bool)} {Q : PX → St → Prop} (hQ : ∀ e st', finL (f16_l1_H a1 a2) (f16_l1_X a1 a2) r e st' → Q e st') (p18 : Int) (p19 : Bool) (hS : f16_l1_j2 a1 a2 p18 p19 = some r) {st : St} (he : keepSt [0, 1, 12, 13, 14] [] [] st = f16_l1_j2_J a1 a2 p18 p19) : ZR (lev codes base (d - 1)) Q c16_2 [] st := by
  refine zrKeep he ?_
  unfold f16_l1_j2 at hS
  refine zrSeq ?_
  refine zrSplit 14 p19 (by kernel_rfl) (fun hc => ?_) (fun hc => ?_)
  · replace hS := cond_t hc hS
    refine zrCondT (by kernel_rfl) ?_
    refine zrSkip ?_
    refine zkSeq ?_
    exact f16_l1_j3_ok hd a1 a2 hQ p18 hS (by kernel_rfl)
  · replace hS := cond_f hc hS
    refine zrCondF (by kernel_rfl) ?_
    refine zrKeep (J := f16_l1_e0_J a1 a2) (by kernel_rfl) ?_
    refine zrExit ?_
    refine zkSeqX ?_
    refine zkNil ?_
    exact endQ hS hQ (finL_x (by intro h; cases h) (by show _ = _ ∧ _ = _; exact ⟨rfl, rfl⟩))
noncomputable def f16_l1 (a1 : List Int) (a2 : List Int) (x : Int) : Option (Int ⊕ (Unit ⊕ Bool)) := (bif (decide (x < (a1.length : Int))) then (f16_l1_j2 a1 a2 x true) else (f16_l1_j2 a1 a2 x false))
theorem f16_l1_ok {base : Orc} {d : Nat} (hd : 1 ≤ d) (a1 : List Int) (a2 : List Int) {r : Int ⊕ (Unit ⊕ Bool)} {Q : PX → St → Prop} (hQ : ∀ e st', finL (f16_l1_H a1 a2) (f16_l1_X a1 a2) r e st' → Q e st') {x : Int} (hS : f16_l1 a1 a2 x = some r) {st : St} (he : f16_l1_H a1 a2 x st) : ZR (lev codes base (d - 1)) Q c16_3 [] st := by
  refine zrKeep he ?_
  unfold f16_l1 at hS
  refine zrSeq ?_
  refine zrReg ?_
  refine zlBool (d := 14) (op := (.cmpI .lss (.tmp 13) (.tmp 12))) (g := none) (j := 1) (decide (x < (a1.length : Int))) rfl (by kernel_rfl) (by kernel_rfl) (by kernel_rfl) (fun hc => ?_) (fun hc => ?_)
  · replace hS := cond_t hc hS
    refine zlEnd (by kernel_rfl) ?_
    refine zkSeq ?_
    exact f16_l1_j2_ok hd a1 a2 hQ x true hS (by kernel_rfl)
  · replace hS := cond_f hc hS
    refine zlEnd (by kernel_rfl) ?_
    refine zkSeq ?_
    exact f16_l1_j2_ok hd a1 a2 hQ x false hS (by kernel_rfl)
def f16_j0_J (a1 : List Int) (a2 : List Int) : St := ⟨(up (up (fun _ => .un) 1 (.d (.sl a2.length ((eInt .i64).cells a2)))) 0 (.d (.sl a1.length ((eInt .i64).cells a1)))), (hB fun _ => 0)⟩
noncomputable def f16_j0 (a1 : List Int) (a2 : List Int) : Option (Bool) := ((loopO (f16_l1 a1 a2) 0).bind fun z9 => (Sum.elim (fun z10 => (some true)) (fun z11 => (some z11)) z9))
theorem f16_j0_ok {base : Orc} {d : Nat} (hd : 1 ≤ d) (a1 : List Int) (a2 : List Int) {r : Bool} {Q : PX → St → Prop} (hQ : ∀ e st', f16_Q r e st' → Q e st')  (hS : f16_j0 a1 a2 = some r) {st : St} (he : keepSt [0, 1] [] [] st = f16_j0_J a1 a2) : ZR (lev codes base (d - 1)) Q c16_4 [] st := by
  refine zrKeep he ?_
  unfold f16_j0 at hS
  refine zrSeq ?_
  refine zrSeq ?_
  refine zrReg ?_
  refine zlRun (n := 3) (j := 3) rfl (by kernel_rfl) ?_
  refine zlEnd (by kernel_rfl) ?_
  refine zkSeq ?_
  refine zrBlk ?_
  refine bindE hS (fun z9 hz9 hS => ?_)
  refine zrLoop (f16_l1_H a1 a2) (f16_l1_X a1 a2) (fun x st r Q h0 hS hQ => f16_l1_ok hd a1 a2 hQ hS h0) (x := 0) (z := z9) (by show keepSt _ _ _ _ = _; kernel_rfl) hz9 ?_
  rcases z9 with z10 | z11
  · replace hS := (show _ = _ from hS)
    simp only [Sum.elim_inl] at hS
    intro e st' _ hX
    obtain ⟨rfl, rfl⟩ : _ ∧ _ := hX
    refine zkBlkX ?_
    refine zkSeq ?_
    refine zrSeq ?_
    refine zrReg ?_
    refine zlRun (n := 1) (j := 1) rfl (by kernel_rfl) ?_
    refine zlEnd (by kernel_rfl) ?_
    refine zkSeq ?_
    refine zrRet ?_
    refine zkNil ?_
    exact endQ hS hQ (fRet (by kernel_rfl) ((congrArg (fun s => outR s 0 c16.res) (by kernel_rfl : finSt c16.fin _ = f16_fin true)).trans (f16_out true)))
  · simp only [Sum.elim_inr] at hS
    intro e st' _ hX
    obtain ⟨rfl, hX⟩ : _ ∧ _ := hX
    refine zkBlkR ?_
    refine zkSeqR ?_
    refine zkNil ?_
    exact endQ hS hQ (fRet (by kernel_rfl) ((congrArg (fun s => outR s 0 c16.res) hX).trans (f16_out z11)))
noncomputable def f16 (a1 : List Int) (a2 : List Int) : Option (Bool) := (bif (!decide ((a1.length : Int) = (a2.length : Int))) then (some false) else (f16_j0 a1 a2 ))
theorem f16_ok (base : Orc) (d : Nat) (hd : 1 ≤ d) (a1 : List Int) (a2 : List Int) (r : Bool) (hS : f16 a1 a2 = some r) : lev codes base d 16 [(.d (.sl a1.length ((eInt .i64).cells a1))), (.d (.sl a2.length ((eInt .i64).cells a2)))] [] = some ((.d (.bool r)), []) := by
  refine lev_go codes16 rfl rfl (Nat.le_trans (Nat.le_of_ble_eq_true rfl) hd) fun Q hQ => ?_
  unfold f16 at hS
  show ZR _ Q c16_b [] _
  replace hQ : ∀ e st', f16_Q r e st' → Q e st' := hQ
  refine zrSeq ?_
  refine zrReg ?_
  refine zlRun (n := 1) (j := 1) rfl (by kernel_rfl) ?_
  refine zlEnd (by kernel_rfl) ?_
  refine zkSeq ?_
  refine zrSeq ?_
  refine zrSeq ?_
  refine zrReg ?_
  refine zlRun (n := 4) (j := 4) rfl (by kernel_rfl) ?_
  refine zlBool (d := 10) (op := (.cmpI .neq (.tmp 7) (.tmp 9))) (g := none) (j := 5) (!decide ((a1.length : Int) = (a2.length : Int))) rfl (by kernel_rfl) (by kernel_rfl) (by kernel_rfl) (fun hc => ?_) (fun hc => ?_)
  · replace hS := cond_t hc hS
    refine zlEnd (by kernel_rfl) ?_
    refine zkSeq ?_
    refine zrCondT (by kernel_rfl) ?_
    refine zrSeq ?_
    refine zrReg ?_
    refine zlRun (n := 1) (j := 1) rfl (by kernel_rfl) ?_
    refine zlEnd (by kernel_rfl) ?_
    refine zkSeq ?_
    refine zrRet ?_
    refine zkSeqR ?_
    refine zkNil ?_
    exact endQ hS hQ (fRet (by kernel_rfl) ((congrArg (fun s => outR s 0 c16.res) (by kernel_rfl : finSt c16.fin _ = f16_fin false)).trans (f16_out false)))
  · replace hS := cond_f hc hS
    refine zlEnd (by kernel_rfl) ?_
    refine zkSeq ?_
    refine zrCondF (by kernel_rfl) ?_
    refine zrSkip ?_
    refine zkSeq ?_
    exact f16_j0_ok hd a1 a2 hQ  hS (by kernel_rfl)
/- farwriter/farkeep.gridLives -/
def f10_fin (p5 : Bool) : St := ⟨(up (fun _ => .un) 0 (.d (.bool p5))), (hB fun _ => 0)⟩
theorem f10_out (p5 : Bool) : outR (f10_fin p5) 0 c10.res = some ((.d (.bool p5)), []) := by
  kernel_rfl
def f10_Q (r : Bool) (e : PX) (st : St) : Prop := DoneF c10 0 ((.d (.bool r)), []) e st
noncomputable def f10  : Option (Bool) := ((f31 4 1 (GPen.mk 0 0 0)).bind fun z6 => ((f9 (GGrid.mk z6.1 z6.2.1 z6.2.2.1) 0 0 97 (GPen.mk 0 0 0)).bind fun z7 => ((f9 (GGrid.mk z7.1 z7.2.1 z7.2.2.1) 0 1 20013 (GPen.mk 1 0 0)).bind fun z8 => ((f13 (GGrid.mk z8.1 z8.2.1 z8.2.2.1) 0).bind fun z9 => (bif (decide (z6.2.2.2 = 0)) then (bif (decide (z7.2.2.2 = 0)) then (bif (decide (z8.2.2.2 = 0)) then (bif (decide (z9.2 = 0)) then ((f16 z9.1 [97, 20013, 32]).bind fun z10 => (some z10)) else (some false)) else (some false)) else (some false)) else (some false))))))
theorem f10_ok (base : Orc) (d : Nat) (hd : 7 ≤ d)  (r : Bool) (hS : f10 = some r) : lev codes base d 10 [] [] = some ((.d (.bool r)), []) := by
  refine lev_go codes10 rfl rfl (Nat.le_trans (Nat.le_of_ble_eq_true rfl) hd) fun Q hQ => ?_
  unfold f10 at hS
  show ZR _ Q c10_b [] _
  replace hQ : ∀ e st', f10_Q r e st' → Q e st' := hQ
  refine zrSeq ?_
  refine zrReg ?_
  refine zlRun (n := 1) (j := 1) rfl (by kernel_rfl) ?_
  refine zlEnd (by kernel_rfl) ?_
  refine zkSeq ?_
  refine zrSeq ?_
  refine zrReg ?_
  refine zlRun (n := 1) (j := 1) rfl (by kernel_rfl) ?_
  refine bindE hS (fun z6 hz6 hS => ?_)
  refine zlOp (d := some 9) (op := (.call 31 [(.const (.int .i64 4)), (.const (.int .i64 1)), (.tmp 8)])) (g := none) (v := (.tup [(.agg ((.d (.int .i64 z6.1)) :: ((.d (.int .i64 z6.2.1)) :: ((.r (.msl 80 1 0 z6.2.2.1.length)) :: [])))), (.d (.int .i64 z6.2.2.2))])) (ups := [(80, ⟨1, some (.own 33 4 (e_GCell.cells z6.2.2.1))⟩)]) (j := 2) rfl (by kernel_rfl) (by kernel_rfl) (ev_call (args := [(.d (.int .i64 4)), (.d (.int .i64 1)), (.agg ((.d (.int .i64 0)) :: ((.d (.int .i64 0)) :: ((.d (.int .i64 0)) :: []))))]) (l := [(.d (.int .i64 4)), (.d (.int .i64 1)), (.agg ((.d (.int .i64 0)) :: ((.d (.int .i64 0)) :: ((.d (.int .i64 0)) :: []))))]) (r := (.tup [(.agg ((.d (.int .i64 z6.1)) :: ((.d (.int .i64 z6.2.1)) :: ((.r (.own 0 33 4 z6.2.2.1.length (e_GCell.cells z6.2.2.1))) :: [])))), (.d (.int .i64 z6.2.2.2))])) (by kernel_rfl) (by kernel_rfl) (f31_ok base (d - 1) (dpt hd rfl) 4 1 (GPen.mk 0 0 0) z6 hz6) (by kernel_rfl) (by kernel_rfl) (by kernel_rfl)) ?_
  refine zlRun (n := 6) (j := 8) rfl (by kernel_rfl) ?_
  refine zlEnd (by kernel_rfl) ?_
  refine zkSeq ?_
  refine zrSeq ?_
  refine zrReg ?_
  refine zlRun (n := 2) (j := 2) rfl (by kernel_rfl) ?_
  refine bindE hS (fun z7 hz7 hS => ?_)
  refine zlOp (d := some 15) (op := (.callf 9 [(.tmp 13), (.const (.int .i64 0)), (.const (.int .i64 0)), (.const (.int .i64 97)), (.tmp 14)])) (g := none) (v := (.tup [(.agg ((.d (.int .i64 z7.1)) :: ((.d (.int .i64 z7.2.1)) :: ((.r (.msl 128 1 0 z7.2.2.1.length)) :: [])))), (.d (.int .i64 z7.2.2.2))])) (ups := [(80, ⟨2, none⟩), (128, ⟨1, some (.own 33 4 (e_GCell.cells z7.2.2.1))⟩)]) (j := 3) rfl (by kernel_rfl) (by kernel_rfl) (ev_callF (args := [(.agg ((.d (.int .i64 z6.1)) :: ((.d (.int .i64 z6.2.1)) :: ((.r (.msl 80 1 0 z6.2.2.1.length)) :: [])))), (.d (.int .i64 0)), (.d (.int .i64 0)), (.d (.int .i64 97)), (.agg ((.d (.int .i64 0)) :: ((.d (.int .i64 0)) :: ((.d (.int .i64 0)) :: []))))]) (args' := [(.agg ((.d (.int .i64 z6.1)) :: ((.d (.int .i64 z6.2.1)) :: ((.d (.sl z6.2.2.1.length (e_GCell.cells z6.2.2.1))) :: [])))), (.d (.int .i64 0)), (.d (.int .i64 0)), (.d (.int .i64 97)), (.agg ((.d (.int .i64 0)) :: ((.d (.int .i64 0)) :: ((.d (.int .i64 0)) :: []))))]) (l := [(.agg ((.d (.int .i64 z6.1)) :: ((.d (.int .i64 z6.2.1)) :: ((.d (.sl z6.2.2.1.length (e_GCell.cells z6.2.2.1))) :: [])))), (.d (.int .i64 0)), (.d (.int .i64 0)), (.d (.int .i64 97)), (.agg ((.d (.int .i64 0)) :: ((.d (.int .i64 0)) :: ((.d (.int .i64 0)) :: []))))]) (refs := [80]) (r := (.tup [(.agg ((.d (.int .i64 z7.1)) :: ((.d (.int .i64 z7.2.1)) :: ((.r (.own 0 33 4 z7.2.2.1.length (e_GCell.cells z7.2.2.1))) :: [])))), (.d (.int .i64 z7.2.2.2))])) (v := (.tup [(.agg ((.d (.int .i64 z7.1)) :: ((.d (.int .i64 z7.2.1)) :: ((.r (.msl 128 1 0 z7.2.2.1.length)) :: [])))), (.d (.int .i64 z7.2.2.2))])) (ups' := [(128, ⟨1, some (.own 33 4 (e_GCell.cells z7.2.2.1))⟩)]) (by kernel_rfl) (by kernel_rfl) (by kernel_rfl) (fz_cons (fz_agg (fz_cons (by kernel_rfl) (fz_cons (by kernel_rfl) (fz_cons (fz_own e_GCell (e := 33) (k := 4) (xs := z6.2.2.1) (by kernel_rfl) (by kernel_rfl) rfl rfl) fz_nil)))) (fz_cons rfl (fz_cons rfl (fz_cons rfl (fz_cons rfl fz_nil))))) (by kernel_rfl) (f9_ok base (d - 1) (dpt hd rfl) (GGrid.mk z6.1 z6.2.1 z6.2.2.1) 0 0 97 (GPen.mk 0 0 0) z7 hz7) (by kernel_rfl) (by kernel_rfl) (by kernel_rfl) (by kernel_rfl)) ?_
  refine zlRun (n := 5) (j := 8) rfl (by kernel_rfl) ?_
  refine zlEnd (by kernel_rfl) ?_
  refine zkSeq ?_
  refine zrSeq ?_
  refine zrReg ?_
  refine zlRun (n := 2) (j := 2) rfl (by kernel_rfl) ?_
  refine bindE hS (fun z8 hz8 hS => ?_)
  refine zlOp (d := some 21) (op := (.callf 9 [(.tmp 19), (.const (.int .i64 0)), (.const (.int .i64 1)), (.const (.int .i64 20013)), (.tmp 20)])) (g := none) (v := (.tup [(.agg ((.d (.int .i64 z8.1)) :: ((.d (.int .i64 z8.2.1)) :: ((.r (.msl 176 1 0 z8.2.2.1.length)) :: [])))), (.d (.int .i64 z8.2.2.2))])) (ups := [(128, ⟨2, none⟩), (176, ⟨1, some (.own 33 4 (e_GCell.cells z8.2.2.1))⟩)]) (j := 3) rfl (by kernel_rfl) (by kernel_rfl) (ev_callF (args := [(.agg ((.d (.int .i64 z7.1)) :: ((.d (.int .i64 z7.2.1)) :: ((.r (.msl 128 1 0 z7.2.2.1.length)) :: [])))), (.d (.int .i64 0)), (.d (.int .i64 1)), (.d (.int .i64 20013)), (.agg ((.d (.int .i64 1)) :: ((.d (.int .i64 0)) :: ((.d (.int .i64 0)) :: []))))]) (args' := [(.agg ((.d (.int .i64 z7.1)) :: ((.d (.int .i64 z7.2.1)) :: ((.d (.sl z7.2.2.1.length (e_GCell.cells z7.2.2.1))) :: [])))), (.d (.int .i64 0)), (.d (.int .i64 1)), (.d (.int .i64 20013)), (.agg ((.d (.int .i64 1)) :: ((.d (.int .i64 0)) :: ((.d (.int .i64 0)) :: []))))]) (l := [(.agg ((.d (.int .i64 z7.1)) :: ((.d (.int .i64 z7.2.1)) :: ((.d (.sl z7.2.2.1.length (e_GCell.cells z7.2.2.1))) :: [])))), (.d (.int .i64 0)), (.d (.int .i64 1)), (.d (.int .i64 20013)), (.agg ((.d (.int .i64 1)) :: ((.d (.int .i64 0)) :: ((.d (.int .i64 0)) :: []))))]) (refs := [128]) (r := (.tup [(.agg ((.d (.int .i64 z8.1)) :: ((.d (.int .i64 z8.2.1)) :: ((.r (.own 0 33 4 z8.2.2.1.length (e_GCell.cells z8.2.2.1))) :: [])))), (.d (.int .i64 z8.2.2.2))])) (v := (.tup [(.agg ((.d (.int .i64 z8.1)) :: ((.d (.int .i64 z8.2.1)) :: ((.r (.msl 176 1 0 z8.2.2.1.length)) :: [])))), (.d (.int .i64 z8.2.2.2))])) (ups' := [(176, ⟨1, some (.own 33 4 (e_GCell.cells z8.2.2.1))⟩)]) (by kernel_rfl) (by kernel_rfl) (by kernel_rfl) (fz_cons (fz_agg (fz_cons (by kernel_rfl) (fz_cons (by kernel_rfl) (fz_cons (fz_own e_GCell (e := 33) (k := 4) (xs := z7.2.2.1) (by kernel_rfl) (by kernel_rfl) rfl rfl) fz_nil)))) (fz_cons rfl (fz_cons rfl (fz_cons rfl (fz_cons rfl fz_nil))))) (by kernel_rfl) (f9_ok base (d - 1) (dpt hd rfl) (GGrid.mk z7.1 z7.2.1 z7.2.2.1) 0 1 20013 (GPen.mk 1 0 0) z8 hz8) (by kernel_rfl) (by kernel_rfl) (by kernel_rfl) (by kernel_rfl)) ?_
  refine zlRun (n := 5) (j := 8) rfl (by kernel_rfl) ?_
  refine zlEnd (by kernel_rfl) ?_
  refine zkSeq ?_
  refine zrSeq ?_
  refine zrReg ?_
  refine zlRun (n := 1) (j := 1) rfl (by kernel_rfl) ?_
  refine bindE hS (fun z9 hz9 hS => ?_)
  refine zlOp (d := some 26) (op := (.call 13 [(.tmp 25), (.const (.int .i64 0))])) (g := none) (v := (.tup [(.r (.msl 216 1 0 z9.1.length)), (.d (.int .i64 z9.2))])) (ups := [(216, ⟨1, some (.own 3 1 ((eInt .i64).cells z9.1))⟩)]) (j := 2) rfl (by kernel_rfl) (by kernel_rfl) (ev_call (args := [(.agg ((.d (.int .i64 z8.1)) :: ((.d (.int .i64 z8.2.1)) :: ((.r (.msl 176 1 0 z8.2.2.1.length)) :: [])))), (.d (.int .i64 0))]) (l := [(.agg ((.d (.int .i64 z8.1)) :: ((.d (.int .i64 z8.2.1)) :: ((.d (.sl z8.2.2.1.length (e_GCell.cells z8.2.2.1))) :: [])))), (.d (.int .i64 0))]) (r := (.tup [(.r (.own 0 3 1 z9.1.length ((eInt .i64).cells z9.1))), (.d (.int .i64 z9.2))])) (by kernel_rfl) (l_cons (l_agg (l_cons (by kernel_rfl) (l_cons (by kernel_rfl) (l_cons (l_own e_GCell (e := 33) (k := 4) (xs := z8.2.2.1) (by kernel_rfl) rfl rfl) l_nil)))) (l_cons (by kernel_rfl) l_nil)) (f13_ok base (d - 1) (dpt hd rfl) (GGrid.mk z8.1 z8.2.1 z8.2.2.1) 0 z9 hz9) (by simp only [free_own (eInt .i64) (fun _ => rfl), free_tup, free_agg, free_nl, free_cs, free_int, free_bool, free_str, free_un, free_ni, free_s0, Bool.and_true, Bool.or_true, Bool.and_self]) (by kernel_rfl) (by kernel_rfl)) ?_
  refine zlRun (n := 5) (j := 7) rfl (by kernel_rfl) ?_
  refine zlEnd (by kernel_rfl) ?_
  refine zkSeq ?_
  refine zrSeq ?_
  refine zrReg ?_
  refine zlRun (n := 1) (j := 1) rfl (by kernel_rfl) ?_
  refine zlBool (d := 30) (op := (.cmpI .eql (.tmp 29) (.const (.int .i64 0)))) (g := none) (j := 2) (decide (z6.2.2.2 = 0)) rfl (by kernel_rfl) (by kernel_rfl) (by kernel_rfl) (fun hc => ?_) (fun hc => ?_)
  · replace hS := cond_t hc hS
    refine zlRun (n := 2) (j := 4) rfl (by kernel_rfl) ?_
    refine zlBool (d := 33) (op := (.cmpI .eql (.tmp 32) (.const (.int .i64 0)))) (g := (some (31, true))) (j := 5) (decide (z7.2.2.2 = 0)) rfl (by kernel_rfl) (by kernel_rfl) (by kernel_rfl) (fun hc => ?_) (fun hc => ?_)
    · replace hS := cond_t hc hS
      refine zlRun (n := 3) (j := 8) rfl (by kernel_rfl) ?_
      refine zlBool (d := 37) (op := (.cmpI .eql (.tmp 36) (.const (.int .i64 0)))) (g := (some (35, true))) (j := 9) (decide (z8.2.2.2 = 0)) rfl (by kernel_rfl) (by kernel_rfl) (by kernel_rfl) (fun hc => ?_) (fun hc => ?_)
      · replace hS := cond_t hc hS
        refine zlRun (n := 3) (j := 12) rfl (by kernel_rfl) ?_
        refine zlBool (d := 41) (op := (.cmpI .eql (.tmp 40) (.const (.int .i64 0)))) (g := (some (39, true))) (j := 13) (decide (z9.2 = 0)) rfl (by kernel_rfl) (by kernel_rfl) (by kernel_rfl) (fun hc => ?_) (fun hc => ?_)
        · replace hS := cond_t hc hS
          refine zlRun (n := 4) (j := 17) rfl (by kernel_rfl) ?_
          refine bindE hS (fun z10 hz10 hS => ?_)
          refine zlOp (d := some 46) (op := (.call 16 [(.tmp 44), (.tmp 45)])) (g := (some (43, true))) (v := (.d (.bool z10))) (ups := []) (j := 18) rfl (by kernel_rfl) (by kernel_rfl) (ev_call (args := [(.r (.msl 216 1 0 z9.1.length)), (.r (.msl 368 1 0 (([97, 20013, 32] : List Int).length)))]) (l := [(.d (.sl z9.1.length ((eInt .i64).cells z9.1))), (.d (.sl ([97, 20013, 32] : List Int).length ((eInt .i64).cells ([97, 20013, 32]))))]) (r := (.d (.bool z10))) (by kernel_rfl) (l_cons (l_own (eInt .i64) (e := 3) (k := 1) (xs := z9.1) (by kernel_rfl) rfl rfl) (l_cons (l_own (eInt .i64) (e := 3) (k := 1) (xs := [97, 20013, 32]) (by kernel_rfl) rfl rfl) l_nil)) (f16_ok base (d - 1) (dpt hd rfl) z9.1 [97, 20013, 32] z10 hz10) (by kernel_rfl) (by kernel_rfl) (by kernel_rfl)) ?_
          refine zlRun (n := 2) (j := 20) rfl (by kernel_rfl) ?_
          refine zlEnd (by kernel_rfl) ?_
          refine zkSeq ?_
          refine zrRet ?_
          refine zkNil ?_
          exact endQ hS hQ (fRet (by kernel_rfl) ((congrArg (fun s => outR s 0 c10.res) (by kernel_rfl : finSt c10.fin _ = f10_fin z10)).trans (f10_out z10)))
        · replace hS := cond_f hc hS
          refine zlRun (n := 7) (j := 20) rfl (by kernel_rfl) ?_
          refine zlEnd (by kernel_rfl) ?_
          refine zkSeq ?_
          refine zrRet ?_
          refine zkNil ?_
          exact endQ hS hQ (fRet (by kernel_rfl) ((congrArg (fun s => outR s 0 c10.res) (by kernel_rfl : finSt c10.fin _ = f10_fin false)).trans (f10_out false)))
      · replace hS := cond_f hc hS
        refine zlRun (n := 11) (j := 20) rfl (by kernel_rfl) ?_
        refine zlEnd (by kernel_rfl) ?_
        refine zkSeq ?_
        refine zrRet ?_
        refine zkNil ?_
        exact endQ hS hQ (fRet (by kernel_rfl) ((congrArg (fun s => outR s 0 c10.res) (by kernel_rfl : finSt c10.fin _ = f10_fin false)).trans (f10_out false)))
    · replace hS := cond_f hc hS
      refine zlRun (n := 15) (j := 20) rfl (by kernel_rfl) ?_
      refine zlEnd (by kernel_rfl) ?_
      refine zkSeq ?_
      refine zrRet ?_
      refine zkNil ?_
      exact endQ hS hQ (fRet (by kernel_rfl) ((congrArg (fun s => outR s 0 c10.res) (by kernel_rfl : finSt c10.fin _ = f10_fin false)).trans (f10_out false)))
  · replace hS := cond_f hc hS
    refine zlRun (n := 18) (j := 20) rfl (by kernel_rfl) ?_
    refine zlEnd (by kernel_rfl) ?_
    refine zkSeq ?_
    refine zrRet ?_
    refine zkNil ?_
    exact endQ hS hQ (fRet (by kernel_rfl) ((congrArg (fun s => outR s 0 c10.res) (by kernel_rfl : finSt c10.fin _ = f10_fin false)).trans (f10_out false)))
/- farwriter/farref.Between -/
def f44_fin (p3 : Bool) : St := ⟨(up (fun _ => .un) 6 (.d (.bool p3))), (hB fun _ => 0)⟩
theorem f44_out (p3 : Bool) : outR (f44_fin p3) 0 c44.res = some ((.d (.bool p3)), []) := by
  kernel_rfl
def f44_Q (r : Bool) (e : PX) (st : St) : Prop := DoneF c44 0 ((.d (.bool r)), []) e st
noncomputable def f44 (a1 : Int) (a2 : Int) (a3 : Int) : Option (Bool) := (bif (decide (a2 ≤ a1)) then (bif (decide (a1 ≤ a3)) then (some true) else (some false)) else (some false))
theorem f44_ok (base : Orc) (d : Nat) (hd : 1 ≤ d) (a1 : Int) (a2 : Int) (a3 : Int) (r : Bool) (hS : f44 a1 a2 a3 = some r) : lev codes base d 44 [(.d (.int .i64 a1)), (.d (.int .i64 a2)), (.d (.int .i64 a3))] [] = some ((.d (.bool r)), []) := by
  refine lev_go codes44 rfl rfl (Nat.le_trans (Nat.le_of_ble_eq_true rfl) hd) fun Q hQ => ?_
  unfold f44 at hS
  show ZR _ Q c44_b [] _
  replace hQ : ∀ e st', f44_Q r e st' → Q e st' := hQ
  refine zrSeq ?_
  refine zrReg ?_
  refine zlRun (n := 1) (j := 1) rfl (by kernel_rfl) ?_
  refine zlEnd (by kernel_rfl) ?_
  refine zkSeq ?_
  refine zrSeq ?_
  refine zrReg ?_
  refine zlRun (n := 2) (j := 2) rfl (by kernel_rfl) ?_
  refine zlBool (d := 9) (op := (.cmpI .leq (.tmp 7) (.tmp 8))) (g := none) (j := 3) (decide (a2 ≤ a1)) rfl (by kernel_rfl) (by kernel_rfl) (by kernel_rfl) (fun hc => ?_) (fun hc => ?_)
  · replace hS := cond_t hc hS
    refine zlRun (n := 3) (j := 6) rfl (by kernel_rfl) ?_
    refine zlBool (d := 13) (op := (.cmpI .leq (.tmp 11) (.tmp 12))) (g := (some (10, true))) (j := 7) (decide (a1 ≤ a3)) rfl (by kernel_rfl) (by kernel_rfl) (by kernel_rfl) (fun hc => ?_) (fun hc => ?_)
    · replace hS := cond_t hc hS
      refine zlRun (n := 2) (j := 9) rfl (by kernel_rfl) ?_
      refine zlEnd (by kernel_rfl) ?_
      refine zkSeq ?_
      refine zrRet ?_
      refine zkNil ?_
      exact endQ hS hQ (fRet (by kernel_rfl) ((congrArg (fun s => outR s 0 c44.res) (by kernel_rfl : finSt c44.fin _ = f44_fin true)).trans (f44_out true)))
    · replace hS := cond_f hc hS
      refine zlRun (n := 2) (j := 9) rfl (by kernel_rfl) ?_
      refine zlEnd (by kernel_rfl) ?_
      refine zkSeq ?_
      refine zrRet ?_
      refine zkNil ?_
      exact endQ hS hQ (fRet (by kernel_rfl) ((congrArg (fun s => outR s 0 c44.res) (by kernel_rfl : finSt c44.fin _ = f44_fin false)).trans (f44_out false)))
  · replace hS := cond_f hc hS
    refine zlRun (n := 6) (j := 9) rfl (by kernel_rfl) ?_
    refine zlEnd (by kernel_rfl) ?_
    refine zkSeq ?_
    refine zrRet ?_
    refine zkNil ?_
    exact endQ hS hQ (fRet (by kernel_rfl) ((congrArg (fun s => outR s 0 c44.res) (by kernel_rfl : finSt c44.fin _ = f44_fin false)).trans (f44_out false)))
/- farwriter/farref.Rune -/
def f32_fin (p2 : Bool) : St := ⟨(up (fun _ => .un) 2 (.d (.bool p2))), (hB fun _ => 0)⟩
theorem f32_out (p2 : Bool) : outR (f32_fin p2) 0 c32.res = some ((.d (.bool p2)), []) := by
  kernel_rfl
def f32_Q (r : Bool) (e : PX) (st : St) : Prop := DoneF c32 0 ((.d (.bool r)), []) e st
noncomputable def f32 (a1 : Int) : Option (Bool) := ((f44 a1 0 55295).bind fun z3 => (bif z3 then (some true) else ((f44 a1 57344 1114111).bind fun z4 => (some z4))))
theorem f32_ok (base : Orc) (d : Nat) (hd : 2 ≤ d) (a1 : Int) (r : Bool) (hS : f32 a1 = some r) : lev codes base d 32 [(.d (.int .i64 a1))] [] = some ((.d (.bool r)), []) := by
  refine lev_go codes32 rfl rfl (Nat.le_trans (Nat.le_of_ble_eq_true rfl) hd) fun Q hQ => ?_
  unfold f32 at hS
  show ZR _ Q c32_b [] _
  replace hQ : ∀ e st', f32_Q r e st' → Q e st' := hQ
  refine zrSeq ?_
  refine zrReg ?_
  refine zlRun (n := 1) (j := 1) rfl (by kernel_rfl) ?_
  refine zlEnd (by kernel_rfl) ?_
  refine zkSeq ?_
  refine zrSeq ?_
  refine zrReg ?_
  refine zlRun (n := 1) (j := 1) rfl (by kernel_rfl) ?_
  refine bindE hS (fun z3 hz3 hS => ?_)
  refine zlOp (d := some 4) (op := (.call 44 [(.tmp 3), (.const (.int .i64 0)), (.const (.int .i64 55295))])) (g := none) (v := (.d (.bool z3))) (ups := []) (j := 2) rfl (by kernel_rfl) (by kernel_rfl) (ev_call (args := [(.d (.int .i64 a1)), (.d (.int .i64 0)), (.d (.int .i64 55295))]) (l := [(.d (.int .i64 a1)), (.d (.int .i64 0)), (.d (.int .i64 55295))]) (r := (.d (.bool z3))) (by kernel_rfl) (by kernel_rfl) (f44_ok base (d - 1) (dpt hd rfl) a1 0 55295 z3 hz3) (by kernel_rfl) (by kernel_rfl) (by kernel_rfl)) ?_
  refine zlRun (n := 1) (j := 3) rfl (by kernel_rfl) ?_
  refine zlSplit 5 z3 (by kernel_rfl) (fun hc => ?_) (fun hc => ?_)
  · replace hS := cond_t hc hS
    refine zlRun (n := 4) (j := 7) rfl (by kernel_rfl) ?_
    refine zlEnd (by kernel_rfl) ?_
    refine zkSeq ?_
    refine zrRet ?_
    refine zkNil ?_
    exact endQ hS hQ (fRet (by kernel_rfl) ((congrArg (fun s => outR s 0 c32.res) (by kernel_rfl : finSt c32.fin _ = f32_fin true)).trans (f32_out true)))
  · replace hS := cond_f hc hS
    refine zlRun (n := 1) (j := 4) rfl (by kernel_rfl) ?_
    refine bindE hS (fun z4 hz4 hS => ?_)
    refine zlOp (d := some 7) (op := (.call 44 [(.tmp 6), (.const (.int .i64 57344)), (.const (.int .i64 1114111))])) (g := (some (5, false))) (v := (.d (.bool z4))) (ups := []) (j := 5) rfl (by kernel_rfl) (by kernel_rfl) (ev_call (args := [(.d (.int .i64 a1)), (.d (.int .i64 57344)), (.d (.int .i64 1114111))]) (l := [(.d (.int .i64 a1)), (.d (.int .i64 57344)), (.d (.int .i64 1114111))]) (r := (.d (.bool z4))) (by kernel_rfl) (by kernel_rfl) (f44_ok base (d - 1) (dpt hd rfl) a1 57344 1114111 z4 hz4) (by kernel_rfl) (by kernel_rfl) (by kernel_rfl)) ?_
    refine zlRun (n := 2) (j := 7) rfl (by kernel_rfl) ?_
    refine zlEnd (by kernel_rfl) ?_
    refine zkSeq ?_
    refine zrRet ?_
    refine zkNil ?_
    exact endQ hS hQ (fRet (by kernel_rfl) ((congrArg (fun s => outR s 0 c32.res) (by kernel_rfl : finSt c32.fin _ = f32_fin z4)).trans (f32_out z4)))
/- farwriter/farref.Width -/
def f11_fin (p28 : Int) : St := ⟨(up (fun _ => .un) 2 (.d (.int .i64 p28))), (hB fun _ => 0)⟩
theorem f11_out (p28 : Int) : outR (f11_fin p28) 0 c11.res = some ((.d (.int .i64 p28)), []) := by
  kernel_rfl
def f11_Q (r : Int) (e : PX) (st : St) : Prop := DoneF c11 0 ((.d (.int .i64 r)), []) e st
def f11_l1_J (a1 : Int) (x : Int × Int) : St := ⟨(up (up (up (up (up (fun _ => .un) 45 (.d (.int .i64 x.2))) 44 (.d (.int .i64 ((([(0, 0), (32, 1), (127, 0), (160, 1), (768, 0), (880, 1), (4352, 2), (4448, 1), (8203, 0), (8208, 1), (11904, 2), (12351, 1), (12353, 2), (19904, 1), (19968, 2), (42192, 1), (44032, 2), (55204, 1), (63744, 2), (64256, 1), (65024, 0), (65040, 1), (65072, 2), (65136, 1), (65280, 2), (65377, 1), (65504, 2), (65511, 1), (127744, 2), (128592, 1), (129280, 2), (129536, 1), (131072, 2), (262142, 1)] : List (Int × Int)).length) : Int)))) 43 (.r (.msl 352 0 0 (([(0, 0), (32, 1), (127, 0), (160, 1), (768, 0), (880, 1), (4352, 2), (4448, 1), (8203, 0), (8208, 1), (11904, 2), (12351, 1), (12353, 2), (19904, 1), (19968, 2), (42192, 1), (44032, 2), (55204, 1), (63744, 2), (64256, 1), (65024, 0), (65040, 1), (65072, 2), (65136, 1), (65280, 2), (65377, 1), (65504, 2), (65511, 1), (127744, 2), (128592, 1), (129280, 2), (129536, 1), (131072, 2), (262142, 1)] : List (Int × Int)).length)))) 3 (.d (.int .i64 x.1))) 0 (.d (.int .i64 a1))), (up (hB fun _ => 0) 352 ⟨0, some (.own 61 2 (e_A61.cells ([(0, 0), (32, 1), (127, 0), (160, 1), (768, 0), (880, 1), (4352, 2), (4448, 1), (8203, 0), (8208, 1), (11904, 2), (12351, 1), (12353, 2), (19904, 1), (19968, 2), (42192, 1), (44032, 2), (55204, 1), (63744, 2), (64256, 1), (65024, 0), (65040, 1), (65072, 2), (65136, 1), (65280, 2), (65377, 1), (65504, 2), (65511, 1), (127744, 2), (128592, 1), (129280, 2), (129536, 1), (131072, 2), (262142, 1)])))⟩)⟩
def f11_l1_H (a1 : Int) (x : Int × Int) (st : St) : Prop := keepSt [0, 3, 43, 44, 45] [(352, .id 352)] [] st = f11_l1_J a1 x
def f11_l1_e0_J (a1 : Int) (p27 : Int) : St := ⟨(up (fun _ => .un) 3 (.d (.int .i64 p27))), (hB fun _ => 0)⟩
def f11_l1_X (a1 : Int) (z : Int) (e : PX) (st : St) : Prop := e = .exit 0 ∧ st = f11_l1_e0_J a1 z
def f11_l1_j3_J (a1 : Int) (p35 : Int) (p36 : Int) : St := ⟨(up (up (up (up (up (fun _ => .un) 45 (.d (.int .i64 p36))) 44 (.d (.int .i64 ((([(0, 0), (32, 1), (127, 0), (160, 1), (768, 0), (880, 1), (4352, 2), (4448, 1), (8203, 0), (8208, 1), (11904, 2), (12351, 1), (12353, 2), (19904, 1), (19968, 2), (42192, 1), (44032, 2), (55204, 1), (63744, 2), (64256, 1), (65024, 0), (65040, 1), (65072, 2), (65136, 1), (65280, 2), (65377, 1), (65504, 2), (65511, 1), (127744, 2), (128592, 1), (129280, 2), (129536, 1), (131072, 2), (262142, 1)] : List (Int × Int)).length) : Int)))) 43 (.r (.msl 352 0 0 (([(0, 0), (32, 1), (127, 0), (160, 1), (768, 0), (880, 1), (4352, 2), (4448, 1), (8203, 0), (8208, 1), (11904, 2), (12351, 1), (12353, 2), (19904, 1), (19968, 2), (42192, 1), (44032, 2), (55204, 1), (63744, 2), (64256, 1), (65024, 0), (65040, 1), (65072, 2), (65136, 1), (65280, 2), (65377, 1), (65504, 2), (65511, 1), (127744, 2), (128592, 1), (129280, 2), (129536, 1), (131072, 2), (262142, 1)] : List (Int × Int)).length)))) 3 (.d (.int .i64 p35))) 0 (.d (.int .i64 a1))), (up (hB fun _ => 0) 352 ⟨0, some (.own 61 2 (e_A61.cells ([(0, 0), (32, 1), (127, 0), (160, 1), (768, 0), (880, 1), (4352, 2), (4448, 1), (8203, 0), (8208, 1), (11904, 2), (12351, 1), (12353, 2), (19904, 1), (19968, 2), (42192, 1), (44032, 2), (55204, 1), (63744, 2), (64256, 1), (65024, 0), (65040, 1), (65072, 2), (65136, 1), (65280, 2), (65377, 1), (65504, 2), (65511, 1), (127744, 2), (128592, 1), (129280, 2), (129536, 1), (131072, 2), (262142, 1)])))⟩)⟩
noncomputable def f11_l1_j3 (a1 : Int) (p35 : Int) (p36 : Int) : Option ((Int × Int) ⊕ Int) := ((inR p36 (([(0, 0), (32, 1), (127, 0), (160, 1), (768, 0), (880, 1), (4352, 2), (4448, 1), (8203, 0), (8208, 1), (11904, 2), (12351, 1), (12353, 2), (19904, 1), (19968, 2), (42192, 1), (44032, 2), (55204, 1), (63744, 2), (64256, 1), (65024, 0), (65040, 1), (65072, 2), (65136, 1), (65280, 2), (65377, 1), (65504, 2), (65511, 1), (127744, 2), (128592, 1), (129280, 2), (129536, 1), (131072, 2), (262142, 1)] : List (Int × Int)).length)).bind fun m9 => ((([(0, 0), (32, 1), (127, 0), (160, 1), (768, 0), (880, 1), (4352, 2), (4448, 1), (8203, 0), (8208, 1), (11904, 2), (12351, 1), (12353, 2), (19904, 1), (19968, 2), (42192, 1), (44032, 2), (55204, 1), (63744, 2), (64256, 1), (65024, 0), (65040, 1), (65072, 2), (65136, 1), (65280, 2), (65377, 1), (65504, 2), (65511, 1), (127744, 2), (128592, 1), (129280, 2), (129536, 1), (131072, 2), (262142, 1)])[m9]?).bind fun z10 => (bif (decide (z10.1 ≤ a1)) then (some (.inl (z10.2, (IntKind.i64.wrap (p36 + 1))))) else (some (.inl (p35, (IntKind.i64.wrap (p36 + 1))))))))
theorem f11_l1_j3_ok {base : Orc} {d : Nat} (hd : 3 ≤ d) (a1 : Int) {r : (Int × Int) ⊕ Int} {Q : PX → St → Prop} (hQ : ∀ e st', finL (f11_l1_H a1) (f11_l1_X a1) r e st' → Q e st') (p35 : Int) (p36 : Int) (hS : f11_l1_j3 a1 p35 p36 = some r) {st : St} (he : keepSt [0, 3, 43, 44, 45] [(352, .id 352)] [] st = f11_l1_j3_J a1 p35 p36) : ZR (lev codes base (d - 1)) Q c11_1 [] st := by
  refine zrKeep he ?_
  unfold f11_l1_j3 at hS
  refine zrSeq ?_
  refine zrBlk ?_
  refine zrSeq ?_
  refine zrReg ?_
  refine bindE hS (fun m9 hm9 hS => ?_)
  refine zlOp (d := some 47) (op := (.ixS 61 2 (.tmp 43) (.tmp 45))) (g := none) (v := (.r (.ptr 352 0 ((0 + m9) * 2)))) (ups := []) (j := 1) rfl (by kernel_rfl) (by kernel_rfl) (ev_ixM (kk := .i64) (b := 352) (g := 0) (l := 0) (n := ([(0, 0), (32, 1), (127, 0), (160, 1), (768, 0), (880, 1), (4352, 2), (4448, 1), (8203, 0), (8208, 1), (11904, 2), (12351, 1), (12353, 2), (19904, 1), (19968, 2), (42192, 1), (44032, 2), (55204, 1), (63744, 2), (64256, 1), (65024, 0), (65040, 1), (65072, 2), (65136, 1), (65280, 2), (65377, 1), (65504, 2), (65511, 1), (127744, 2), (128592, 1), (129280, 2), (129536, 1), (131072, 2), (262142, 1)] : List (Int × Int)).length) (j := p36) (cs := e_A61.cells ([(0, 0), (32, 1), (127, 0), (160, 1), (768, 0), (880, 1), (4352, 2), (4448, 1), (8203, 0), (8208, 1), (11904, 2), (12351, 1), (12353, 2), (19904, 1), (19968, 2), (42192, 1), (44032, 2), (55204, 1), (63744, 2), (64256, 1), (65024, 0), (65040, 1), (65072, 2), (65136, 1), (65280, 2), (65377, 1), (65504, 2), (65511, 1), (127744, 2), (128592, 1), (129280, 2), (129536, 1), (131072, 2), (262142, 1)])) (by kernel_rfl) (by kernel_rfl) (by kernel_rfl) hm9) ?_
  refine bindE hS (fun z10 hz10 hS => ?_)
  refine zlOp (d := some 48) (op := (.load .true 2 (.tmp 47))) (g := none) (v := (.agg ((.d (.int .i64 z10.1)) :: ((.d (.int .i64 z10.2)) :: [])))) (ups := []) (j := 2) rfl (by kernel_rfl) (by kernel_rfl) (ev_loadM e_A61 (b := 352) (g := 0) (o := (0 + m9) * 2) (e := 61) (k := 2) (m := m9) (fo := 0) (xs := [(0, 0), (32, 1), (127, 0), (160, 1), (768, 0), (880, 1), (4352, 2), (4448, 1), (8203, 0), (8208, 1), (11904, 2), (12351, 1), (12353, 2), (19904, 1), (19968, 2), (42192, 1), (44032, 2), (55204, 1), (63744, 2), (64256, 1), (65024, 0), (65040, 1), (65072, 2), (65136, 1), (65280, 2), (65377, 1), (65504, 2), (65511, 1), (127744, 2), (128592, 1), (129280, 2), (129536, 1), (131072, 2), (262142, 1)]) (by kernel_rfl) (by kernel_rfl) (by rw [Nat.zero_add]; rfl) hz10 (by kernel_rfl) (by kernel_rfl) (by kernel_rfl)) ?_
  refine zlRun (n := 2) (j := 4) rfl (by kernel_rfl) ?_
  refine zlEnd (by kernel_rfl) ?_
  refine zkSeq ?_
  refine zrSeq ?_
  refine zrReg ?_
  refine zlRun (n := 3) (j := 3) rfl (by kernel_rfl) ?_
  refine zlBool (d := 52) (op := (.cmpI .geq (.tmp 49) (.tmp 51))) (g := none) (j := 4) (decide (z10.1 ≤ a1)) rfl (by kernel_rfl) (by kernel_rfl) (by kernel_rfl) (fun hc => ?_) (fun hc => ?_)
  · replace hS := cond_t hc hS
    refine zlEnd (by kernel_rfl) ?_
    refine zkSeq ?_
    refine zrCondT (by kernel_rfl) ?_
    refine zrReg ?_
    refine zlRun (n := 3) (j := 3) rfl (by kernel_rfl) ?_
    refine zlEnd (by kernel_rfl) ?_
    refine zkBlk ?_
    refine zkSeq ?_
    refine zrReg ?_
    refine zlRun (n := 2) (j := 2) rfl (by kernel_rfl) ?_
    refine zlEnd (by kernel_rfl) ?_
    refine zkNil ?_
    exact endQ hS hQ (finL_n (by show keepSt _ _ _ _ = _; kernel_rfl))
  · replace hS := cond_f hc hS
    refine zlEnd (by kernel_rfl) ?_
    refine zkSeq ?_
    refine zrCondF (by kernel_rfl) ?_
    refine zrSkip ?_
    refine zkBlk ?_
    refine zkSeq ?_
    refine zrReg ?_
    refine zlRun (n := 2) (j := 2) rfl (by kernel_rfl) ?_
    refine zlEnd (by kernel_rfl) ?_
    refine zkNil ?_
    exact endQ hS hQ (finL_n (by show keepSt _ _ _ _ = _; kernel_rfl))
def f11_l1_j2_J (a1 : Int) (p32 : Int) (p33 : Int) (p34 : Bool) : St := ⟨(up (up (up (up (up (up (fun _ => .un) 46 (.d (.bool p34))) 45 (.d (.int .i64 p33))) 44 (.d (.int .i64 ((([(0, 0), (32, 1), (127, 0), (160, 1), (768, 0), (880, 1), (4352, 2), (4448, 1), (8203, 0), (8208, 1), (11904, 2), (12351, 1), (12353, 2), (19904, 1), (19968, 2), (42192, 1), (44032, 2), (55204, 1), (63744, 2), (64256, 1), (65024, 0), (65040, 1), (65072, 2), (65136, 1), (65280, 2), (65377, 1), (65504, 2), (65511, 1), (127744, 2), (128592, 1), (129280, 2), (129536, 1), (131072, 2), (262142, 1)] : List (Int × Int)).length) : Int)))) 43 (.r (.msl 352 0 0 (([(0, 0), (32, 1), (127, 0), (160, 1), (768, 0), (880, 1), (4352, 2), (4448, 1), (8203, 0), (8208, 1), (11904, 2), (12351, 1), (12353, 2), (19904, 1), (19968, 2), (42192, 1), (44032, 2), (55204, 1), (63744, 2), (64256, 1), (65024, 0), (65040, 1), (65072, 2), (65136, 1), (65280, 2), (65377, 1), (65504, 2), (65511, 1), (127744, 2), (128592, 1), (129280, 2), (129536, 1), (131072, 2), (262142, 1)] : List (Int × Int)).length)))) 3 (.d (.int .i64 p32))) 0 (.d (.int .i64 a1))), (up (hB fun _ => 0) 352 ⟨0, some (.own 61 2 (e_A61.cells ([(0, 0), (32, 1), (127, 0), (160, 1), (768, 0), (880, 1), (4352, 2), (4448, 1), (8203, 0), (8208, 1), (11904, 2), (12351, 1), (12353, 2), (19904, 1), (19968, 2), (42192, 1), (44032, 2), (55204, 1), (63744, 2), (64256, 1), (65024, 0), (65040, 1), (65072, 2), (65136, 1), (65280, 2), (65377, 1), (65504, 2), (65511, 1), (127744, 2), (128592, 1), (129280, 2), (129536, 1), (131072, 2), (262142, 1)])))⟩)⟩
noncomputable def f11_l1_j2 (a1 : Int) (p32 : Int) (p33 : Int) (p34 : Bool) : Option ((Int × Int) ⊕ Int) := (bif p34 then (f11_l1_j3 a1 p32 p33) else (some (.inr p32)))
theorem f11_l1_j2_ok {base : Orc} {d : Nat} (hd : 3 ≤ d) (a1 : Int) {r : (Int × Int) ⊕ Int} {Q : PX → St → Prop} (hQ : ∀ e st', finL (f11_l1_H a1) (f11_l1_X a1) r e st' → Q e st') (p32 : Int) (p33 : Int) (p34 : Bool) (hS : f11_l1_j2 a1 p32 p33 p34 = some r) {st : St} (he : keepSt [0, 3, 43, 44, 45, 46] [(352, .id 352)] [] st = f11_l1_j2_J a1 p32 p33 p34) : ZR (lev codes base (d - 1)) Q c11_2 [] st := by
  refine zrKeep he ?_
  unfold f11_l1_j2 at hS
  refine zrSeq ?_
  refine zrSplit 46 p34 (by kernel_rfl) (fun hc => ?_) (fun hc => ?_)
  · replace hS := cond_t hc hS
    refine zrCondT (by kernel_rfl) ?_
    refine zrSkip ?_
    refine zkSeq ?_
    exact f11_l1_j3_ok hd a1 hQ p32 p33 hS (by kernel_rfl)
  · replace hS := cond_f hc hS
    refine zrCondF (by kernel_rfl) ?_
    refine zrKeep (J := f11_l1_e0_J a1 p32) (by kernel_rfl) ?_
    refine zrExit ?_
    refine zkSeqX ?_
    refine zkNil ?_
    exact endQ hS hQ (finL_x (by intro h; cases h) (by show _ = _ ∧ _ = _; exact ⟨rfl, rfl⟩))
noncomputable def f11_l1 (a1 : Int) (x : Int × Int) : Option ((Int × Int) ⊕ Int) := (bif (decide (x.2 < ((([(0, 0), (32, 1), (127, 0), (160, 1), (768, 0), (880, 1), (4352, 2), (4448, 1), (8203, 0), (8208, 1), (11904, 2), (12351, 1), (12353, 2), (19904, 1), (19968, 2), (42192, 1), (44032, 2), (55204, 1), (63744, 2), (64256, 1), (65024, 0), (65040, 1), (65072, 2), (65136, 1), (65280, 2), (65377, 1), (65504, 2), (65511, 1), (127744, 2), (128592, 1), (129280, 2), (129536, 1), (131072, 2), (262142, 1)] : List (Int × Int)).length) : Int))) then (f11_l1_j2 a1 x.1 x.2 true) else (f11_l1_j2 a1 x.1 x.2 false))
theorem f11_l1_ok {base : Orc} {d : Nat} (hd : 3 ≤ d) (a1 : Int) {r : (Int × Int) ⊕ Int} {Q : PX → St → Prop} (hQ : ∀ e st', finL (f11_l1_H a1) (f11_l1_X a1) r e st' → Q e st') {x : Int × Int} (hS : f11_l1 a1 x = some r) {st : St} (he : f11_l1_H a1 x st) : ZR (lev codes base (d - 1)) Q c11_3 [] st := by
  refine zrKeep he ?_
  unfold f11_l1 at hS
  refine zrSeq ?_
  refine zrReg ?_
  refine zlBool (d := 46) (op := (.cmpI .lss (.tmp 45) (.tmp 44))) (g := none) (j := 1) (decide (x.2 < ((([(0, 0), (32, 1), (127, 0), (160, 1), (768, 0), (880, 1), (4352, 2), (4448, 1), (8203, 0), (8208, 1), (11904, 2), (12351, 1), (12353, 2), (19904, 1), (19968, 2), (42192, 1), (44032, 2), (55204, 1), (63744, 2), (64256, 1), (65024, 0), (65040, 1), (65072, 2), (65136, 1), (65280, 2), (65377, 1), (65504, 2), (65511, 1), (127744, 2), (128592, 1), (129280, 2), (129536, 1), (131072, 2), (262142, 1)] : List (Int × Int)).length) : Int))) rfl (by kernel_rfl) (by kernel_rfl) (by kernel_rfl) (fun hc => ?_) (fun hc => ?_)
  · replace hS := cond_t hc hS
    refine zlEnd (by kernel_rfl) ?_
    refine zkSeq ?_
    exact f11_l1_j2_ok hd a1 hQ x.1 x.2 true hS (by kernel_rfl)
  · replace hS := cond_f hc hS
    refine zlEnd (by kernel_rfl) ?_
    refine zkSeq ?_
    exact f11_l1_j2_ok hd a1 hQ x.1 x.2 false hS (by kernel_rfl)
def f11_j0_J (a1 : Int) : St := ⟨(up (fun _ => .un) 0 (.d (.int .i64 a1))), (hB fun _ => 0)⟩
noncomputable def f11_j0 (a1 : Int) : Option (Int) := ((loopO (f11_l1 a1) (0, 0)).bind fun z11 => (some z11))
theorem f11_j0_ok {base : Orc} {d : Nat} (hd : 3 ≤ d) (a1 : Int) {r : Int} {Q : PX → St → Prop} (hQ : ∀ e st', f11_Q r e st' → Q e st')  (hS : f11_j0 a1 = some r) {st : St} (he : keepSt [0] [] [] st = f11_j0_J a1) : ZR (lev codes base (d - 1)) Q c11_4 [] st := by
  refine zrKeep he ?_
  unfold f11_j0 at hS
  refine zrSeq ?_
  refine zrReg ?_
  refine zlRun (n := 1) (j := 1) rfl (by kernel_rfl) ?_
  refine zlEnd (by kernel_rfl) ?_
  refine zkSeq ?_
  refine zrSeq ?_
  refine zrSeq ?_
  refine zrReg ?_
  refine zlRun (n := 37) (j := 37) rfl (by kernel_rfl) ?_
  refine zlEnd (by kernel_rfl) ?_
  refine zkSeq ?_
  refine zrBlk ?_
  refine bindE hS (fun z11 hz11 hS => ?_)
  refine zrLoop (f11_l1_H a1) (f11_l1_X a1) (fun x st r Q h0 hS hQ => f11_l1_ok hd a1 hQ hS h0) (x := (0, 0)) (z := z11) (by show keepSt _ _ _ _ = _; kernel_rfl) hz11 ?_
  intro e st' _ hX
  obtain ⟨rfl, rfl⟩ : _ ∧ _ := hX
  refine zkBlkX ?_
  refine zkSeq ?_
  refine zrSeq ?_
  refine zrReg ?_
  refine zlRun (n := 2) (j := 2) rfl (by kernel_rfl) ?_
  refine zlEnd (by kernel_rfl) ?_
  refine zkSeq ?_
  refine zrRet ?_
  refine zkNil ?_
  exact endQ hS hQ (fRet (by kernel_rfl) ((congrArg (fun s => outR s 0 c11.res) (by kernel_rfl : finSt c11.fin _ = f11_fin z11)).trans (f11_out z11)))
noncomputable def f11 (a1 : Int) : Option (Int) := ((f32 a1).bind fun z12 => (bif (!z12) then (some 0) else (f11_j0 a1 )))
theorem f11_ok (base : Orc) (d : Nat) (hd : 3 ≤ d) (a1 : Int) (r : Int) (hS : f11 a1 = some r) : lev codes base d 11 [(.d (.int .i64 a1))] [] = some ((.d (.int .i64 r)), []) := by
  refine lev_go codes11 rfl rfl (Nat.le_trans (Nat.le_of_ble_eq_true rfl) hd) fun Q hQ => ?_
  unfold f11 at hS
  show ZR _ Q c11_b [] _
  replace hQ : ∀ e st', f11_Q r e st' → Q e st' := hQ
  refine zrSeq ?_
  refine zrReg ?_
  refine zlRun (n := 1) (j := 1) rfl (by kernel_rfl) ?_
  refine zlEnd (by kernel_rfl) ?_
  refine zkSeq ?_
  refine zrSeq ?_
  refine zrSeq ?_
  refine zrReg ?_
  refine zlRun (n := 1) (j := 1) rfl (by kernel_rfl) ?_
  refine bindE hS (fun z12 hz12 hS => ?_)
  refine zlOp (d := some 7) (op := (.call 32 [(.tmp 6)])) (g := none) (v := (.d (.bool z12))) (ups := []) (j := 2) rfl (by kernel_rfl) (by kernel_rfl) (ev_call (args := [(.d (.int .i64 a1))]) (l := [(.d (.int .i64 a1))]) (r := (.d (.bool z12))) (by kernel_rfl) (by kernel_rfl) (f32_ok base (d - 1) (dpt hd rfl) a1 z12 hz12) (by kernel_rfl) (by kernel_rfl) (by kernel_rfl)) ?_
  refine zlRun (n := 1) (j := 3) rfl (by kernel_rfl) ?_
  refine zlEnd (by kernel_rfl) ?_
  refine zkSeq ?_
  refine zrSplit 8 (!z12) (by kernel_rfl) (fun hc => ?_) (fun hc => ?_)
  · replace hS := cond_t hc hS
    refine zrCondT (by kernel_rfl) ?_
    refine zrSeq ?_
    refine zrReg ?_
    refine zlRun (n := 1) (j := 1) rfl (by kernel_rfl) ?_
    refine zlEnd (by kernel_rfl) ?_
    refine zkSeq ?_
    refine zrRet ?_
    refine zkSeqR ?_
    refine zkNil ?_
    exact endQ hS hQ (fRet (by kernel_rfl) ((congrArg (fun s => outR s 0 c11.res) (by kernel_rfl : finSt c11.fin _ = f11_fin 0)).trans (f11_out 0)))
  · replace hS := cond_f hc hS
    refine zrCondF (by kernel_rfl) ?_
    refine zrSkip ?_
    refine zkSeq ?_
    exact f11_j0_ok hd a1 hQ  hS (by kernel_rfl)
/- farwriter/farref.Blank -/
def f12_fin (p1 : GCell) : St := ⟨(up (fun _ => .un) 2 (.r (.ptr 24 0 0))), (up (hB fun _ => 0) 24 ⟨0, some (.box ((.d (.int .i64 p1.Rune)) :: ((.d (.int .i64 p1.Pen.Flags)) :: ((.d (.int .i64 p1.Pen.Fore)) :: ((.d (.int .i64 p1.Pen.Back)) :: [])))))⟩)⟩
theorem f12_out (p1 : GCell) : outR (f12_fin p1) 0 c12.res = some ((.agg ((.d (.int .i64 p1.Rune)) :: ((.d (.int .i64 p1.Pen.Flags)) :: ((.d (.int .i64 p1.Pen.Fore)) :: ((.d (.int .i64 p1.Pen.Back)) :: []))))), []) := by
  kernel_rfl
def f12_Q (r : GCell) (e : PX) (st : St) : Prop := DoneF c12 0 ((.agg ((.d (.int .i64 r.Rune)) :: ((.d (.int .i64 r.Pen.Flags)) :: ((.d (.int .i64 r.Pen.Fore)) :: ((.d (.int .i64 r.Pen.Back)) :: []))))), []) e st
noncomputable def f12 (a1 : GPen) : Option (GCell) := (some (GCell.mk 32 a1))
theorem f12_ok (base : Orc) (d : Nat) (hd : 1 ≤ d) (a1 : GPen) (r : GCell) (hS : f12 a1 = some r) : lev codes base d 12 [(.agg ((.d (.int .i64 a1.Flags)) :: ((.d (.int .i64 a1.Fore)) :: ((.d (.int .i64 a1.Back)) :: []))))] [] = some ((.agg ((.d (.int .i64 r.Rune)) :: ((.d (.int .i64 r.Pen.Flags)) :: ((.d (.int .i64 r.Pen.Fore)) :: ((.d (.int .i64 r.Pen.Back)) :: []))))), []) := by
  refine lev_go codes12 rfl rfl (Nat.le_trans (Nat.le_of_ble_eq_true rfl) hd) fun Q hQ => ?_
  unfold f12 at hS
  show ZR _ Q c12_b [] _
  replace hQ : ∀ e st', f12_Q r e st' → Q e st' := hQ
  refine zrSeq ?_
  refine zrReg ?_
  refine zlRun (n := 2) (j := 2) rfl (by kernel_rfl) ?_
  refine zlEnd (by kernel_rfl) ?_
  refine zkSeq ?_
  refine zrSeq ?_
  refine zrReg ?_
  refine zlRun (n := 3) (j := 3) rfl (by kernel_rfl) ?_
  refine zlEnd (by kernel_rfl) ?_
  refine zkSeq ?_
  refine zrRet ?_
  refine zkNil ?_
  exact endQ hS hQ (fRet (by kernel_rfl) ((congrArg (fun s => outR s 0 c12.res) (by kernel_rfl : finSt c12.fin _ = f12_fin (GCell.mk 32 a1))).trans (f12_out (GCell.mk 32 a1))))
/- farwriter/farkeep.GridPut -/
def f3_fin (p464 : Bool) : St := ⟨(up (fun _ => .un) 10 (.d (.bool p464))), (hB fun _ => 0)⟩
theorem f3_out (p464 : Bool) : outR (f3_fin p464) 0 c3.res = some ((.d (.bool p464)), []) := by
  kernel_rfl
def f3_Q (r : Bool) (e : PX) (st : St) : Prop := DoneF c3 0 ((.d (.bool r)), []) e st
def f3_l2_J (a1 : GGrid) (a2 : Int) (a3 : Int) (a4 : Int) (a5 : GPen) (x : Int × Int × (List GCell) × Int × Int) : St := ⟨(up (up (up (up (up (up (fun _ => .un) 80 (.d (.int .i64 x.2.2.2.2))) 79 (.d (.int .i64 (a1.Cells.length : Int)))) 14 (.d (.int .i64 x.2.2.2.1))) 13 (.d (.int .i64 (IntKind.i64.wrap ((IntKind.i64.wrap (a2 * a1.Wide)) + a3))))) 11 (.r (.ptr 96 0 0))) 5 (.r (.ptr 48 0 0))), (up (up (up (hB fun _ => 0) 184 ⟨0, some (.own 33 4 (e_GCell.cells x.2.2.1))⟩) 96 ⟨0, some (.box ((.d (.int .i64 x.1)) :: ((.d (.int .i64 x.2.1)) :: ((.r (.msl 184 0 0 x.2.2.1.length)) :: []))))⟩) 48 ⟨0, some (.box ((.d (.int .i64 a1.Wide)) :: ((.d (.int .i64 a1.High)) :: ((.d (.sl a1.Cells.length (e_GCell.cells a1.Cells))) :: []))))⟩)⟩
def f3_l2_H (a1 : GGrid) (a2 : Int) (a3 : Int) (a4 : Int) (a5 : GPen) (x : Int × Int × (List GCell) × Int × Int) (st : St) : Prop := keepSt [5, 11, 13, 14, 79, 80] [(48, .id 48), (96, .id 96), (184, .id 184)] [] st = f3_l2_J a1 a2 a3 a4 a5 x
def f3_l2_e0_J (a1 : GGrid) (a2 : Int) (a3 : Int) (a4 : Int) (a5 : GPen) : St := ⟨(fun _ => .un), (hB fun _ => 0)⟩
def f3_l2_X (a1 : GGrid) (a2 : Int) (a3 : Int) (a4 : Int) (a5 : GPen) (z : Unit ⊕ Bool) (e : PX) (st : St) : Prop := (match z with | .inl z => e = .exit 0 ∧ st = f3_l2_e0_J a1 a2 a3 a4 a5 | .inr z => e = .ret ∧ finSt c3.fin st = f3_fin z)
def f3_l2_j5_J (a1 : GGrid) (a2 : Int) (a3 : Int) (a4 : Int) (a5 : GPen) (p958 : Int) (p959 : Int) (p960 : List GCell) (p961 : Int) (p962 : Int) (p963 : Int) : St := ⟨(up (up (up (up (up (up (up (fun _ => .un) 80 (.d (.int .i64 p963))) 79 (.d (.int .i64 (a1.Cells.length : Int)))) 15 (.d (.int .i64 p962))) 14 (.d (.int .i64 p961))) 13 (.d (.int .i64 (IntKind.i64.wrap ((IntKind.i64.wrap (a2 * a1.Wide)) + a3))))) 11 (.r (.ptr 96 0 0))) 5 (.r (.ptr 48 0 0))), (up (up (up (hB fun _ => 0) 184 ⟨0, some (.own 33 4 (e_GCell.cells p960))⟩) 96 ⟨0, some (.box ((.d (.int .i64 p958)) :: ((.d (.int .i64 p959)) :: ((.r (.msl 184 0 0 p960.length)) :: []))))⟩) 48 ⟨0, some (.box ((.d (.int .i64 a1.Wide)) :: ((.d (.int .i64 a1.High)) :: ((.d (.sl a1.Cells.length (e_GCell.cells a1.Cells))) :: []))))⟩)⟩
noncomputable def f3_l2_j5 (a1 : GGrid) (a2 : Int) (a3 : Int) (a4 : Int) (a5 : GPen) (p958 : Int) (p959 : Int) (p960 : List GCell) (p961 : Int) (p962 : Int) (p963 : Int) : Option ((Int × Int × (List GCell) × Int × Int) ⊕ (Unit ⊕ Bool)) := ((inR p962 p960.length).bind fun m119 => ((p960[m119]?).bind fun z120 => ((idx a1.Cells p962).bind fun z121 => (bif (!(decide (z120.Rune = z121.Rune) && (decide (z120.Pen.Flags = z121.Pen.Flags) && (decide (z120.Pen.Fore = z121.Pen.Fore) && (decide (z120.Pen.Back = z121.Pen.Back) && true))))) then (some (.inr (.inr false))) else (some (.inl (p958, p959, p960, p961, (IntKind.i64.wrap (p963 + 1)))))))))
theorem f3_l2_j5_ok {base : Orc} {d : Nat} (hd : 8 ≤ d) (a1 : GGrid) (a2 : Int) (a3 : Int) (a4 : Int) (a5 : GPen) {r : (Int × Int × (List GCell) × Int × Int) ⊕ (Unit ⊕ Bool)} {Q : PX → St → Prop} (hQ : ∀ e st', finL (f3_l2_H a1 a2 a3 a4 a5) (f3_l2_X a1 a2 a3 a4 a5) r e st' → Q e st') (p958 : Int) (p959 : Int) (p960 : List GCell) (p961 : Int) (p962 : Int) (p963 : Int) (hS : f3_l2_j5 a1 a2 a3 a4 a5 p958 p959 p960 p961 p962 p963 = some r) {st : St} (he : keepSt [5, 11, 13, 14, 15, 79, 80] [(48, .id 48), (96, .id 96), (184, .id 184)] [] st = f3_l2_j5_J a1 a2 a3 a4 a5 p958 p959 p960 p961 p962 p963) : ZR (lev codes base (d - 1)) Q c3_1 [.blk 1, .seq c3_2] st := by
  refine zrKeep he ?_
  unfold f3_l2_j5 at hS
  refine zrSeq ?_
  refine zrRegD ?_
  refine zdRun (n := 3) (j := 3) (ts := [[], [(96, false)], []]) (acc' := [[], [(96, false)], []]) rfl (by kernel_rfl) (by kernel_rfl) (by kernel_rfl) ?_
  refine bindE hS (fun m119 hm119 hS => ?_)
  refine zdOp (d := some 97) (op := (.ixS 33 4 (.tmp 95) (.tmp 96))) (g := none) (v := (.r (.ptr 184 0 ((0 + m119) * 4)))) (ups := []) (j := 4) (t1 := [(184, false)]) (acc' := [[], [(96, false)], [], [(184, false)]]) (by kernel_rfl) (by kernel_rfl) rfl (by kernel_rfl) (by kernel_rfl) (ev_ixM (kk := .i64) (b := 184) (g := 0) (l := 0) (n := p960.length) (j := p962) (cs := e_GCell.cells p960) (by kernel_rfl) (by kernel_rfl) (by kernel_rfl) hm119) ?_
  refine bindE hS (fun z120 hz120 hS => ?_)
  refine zdOp (d := some 98) (op := (.load .true 4 (.tmp 97))) (g := none) (v := (.agg ((.d (.int .i64 z120.Rune)) :: ((.d (.int .i64 z120.Pen.Flags)) :: ((.d (.int .i64 z120.Pen.Fore)) :: ((.d (.int .i64 z120.Pen.Back)) :: [])))))) (ups := []) (j := 5) (t1 := [(184, false)]) (acc' := [[], [(96, false)], [], [(184, false)], [(184, false)]]) (by kernel_rfl) (by kernel_rfl) rfl (by kernel_rfl) (by kernel_rfl) (ev_loadM e_GCell (b := 184) (g := 0) (o := (0 + m119) * 4) (e := 33) (k := 4) (m := m119) (fo := 0) (xs := p960) (by kernel_rfl) (by kernel_rfl) (by rw [Nat.zero_add]; rfl) hz120 (by kernel_rfl) (by kernel_rfl) (by kernel_rfl)) ?_
  refine zdRun (n := 3) (j := 8) (ts := [[], [(48, false)], []]) (acc' := [[], [(96, false)], [], [(184, false)], [(184, false)], [], [(48, false)], []]) rfl (by kernel_rfl) (by kernel_rfl) (by kernel_rfl) ?_
  refine bindE hS (fun z121 hz121 hS => ?_)
  refine zdOp (d := some 102) (op := (.ixS 33 4 (.tmp 100) (.tmp 101))) (g := none) (v := (.rptr (e_GCell.enc z121 ++ (e_GCell.cells (a1.Cells.drop ((p962 : Int).toNat + 1)))))) (ups := []) (j := 9) (t1 := []) (acc' := [[], [(96, false)], [], [(184, false)], [(184, false)], [], [(48, false)], [], []]) (by kernel_rfl) (by kernel_rfl) rfl (by kernel_rfl) (by kernel_rfl) (ev_ixS e_GCell (kk := .i64) (xs := a1.Cells) (j := p962) (by kernel_rfl) (by kernel_rfl) hz121 rfl (by intro h; cases h)) ?_
  refine zdRun (n := 1) (j := 10) (ts := [[]]) (acc' := [[], [(96, false)], [], [(184, false)], [(184, false)], [], [(48, false)], [], [], []]) rfl (by kernel_rfl) (by kernel_rfl) (by kernel_rfl) ?_
  refine zdBool (d := 104) (op := (.eqA .true [(4, .int)] (.tmp 98) (.tmp 103))) (g := none) (j := 11) (t1 := []) (acc' := [[], [(96, false)], [], [(184, false)], [(184, false)], [], [(48, false)], [], [], [], []]) (!(decide (z120.Rune = z121.Rune) && (decide (z120.Pen.Flags = z121.Pen.Flags) && (decide (z120.Pen.Fore = z121.Pen.Fore) && (decide (z120.Pen.Back = z121.Pen.Back) && true))))) (by kernel_rfl) (by kernel_rfl) rfl (by kernel_rfl) (by kernel_rfl) (by kernel_rfl) (fun hc => ?_) (fun hc => ?_)
  · replace hS := cond_t hc hS
    refine zdEnd (by kernel_rfl) (by kernel_rfl) ?_
    refine zkSeq ?_
    refine zrCondT (by kernel_rfl) ?_
    refine zrSeq ?_
    refine zrReg ?_
    refine zlRun (n := 1) (j := 1) rfl (by kernel_rfl) ?_
    refine zlEnd (by kernel_rfl) ?_
    refine zkSeq ?_
    refine zrRet ?_
    refine zkBlkR ?_
    refine zkSeqR ?_
    refine zkNil ?_
    exact endQ hS hQ (finL_x (by intro h; cases h) (by show _ = _ ∧ _ = _; exact ⟨rfl, by kernel_rfl⟩))
  · replace hS := cond_f hc hS
    refine zdEnd (by kernel_rfl) (by kernel_rfl) ?_
    refine zkSeq ?_
    refine zrCondF (by kernel_rfl) ?_
    refine zrSkip ?_
    refine zkBlk ?_
    refine zkSeq ?_
    refine zrReg ?_
    refine zlRun (n := 2) (j := 2) rfl (by kernel_rfl) ?_
    refine zlEnd (by kernel_rfl) ?_
    refine zkNil ?_
    exact endQ hS hQ (finL_n (by show keepSt _ _ _ _ = _; kernel_rfl))
def f3_l2_j4_J (a1 : GGrid) (a2 : Int) (a3 : Int) (a4 : Int) (a5 : GPen) (p947 : Int) (p948 : Int) (p949 : List GCell) (p950 : Int) (p951 : Int) : St := ⟨(up (up (up (up (up (up (fun _ => .un) 80 (.d (.int .i64 p951))) 79 (.d (.int .i64 (a1.Cells.length : Int)))) 14 (.d (.int .i64 p950))) 13 (.d (.int .i64 (IntKind.i64.wrap ((IntKind.i64.wrap (a2 * a1.Wide)) + a3))))) 11 (.r (.ptr 96 0 0))) 5 (.r (.ptr 48 0 0))), (up (up (up (hB fun _ => 0) 184 ⟨0, some (.own 33 4 (e_GCell.cells p949))⟩) 96 ⟨0, some (.box ((.d (.int .i64 p947)) :: ((.d (.int .i64 p948)) :: ((.r (.msl 184 0 0 p949.length)) :: []))))⟩) 48 ⟨0, some (.box ((.d (.int .i64 a1.Wide)) :: ((.d (.int .i64 a1.High)) :: ((.d (.sl a1.Cells.length (e_GCell.cells a1.Cells))) :: []))))⟩)⟩
noncomputable def f3_l2_j4 (a1 : GGrid) (a2 : Int) (a3 : Int) (a4 : Int) (a5 : GPen) (p947 : Int) (p948 : Int) (p949 : List GCell) (p950 : Int) (p951 : Int) : Option ((Int × Int × (List GCell) × Int × Int) ⊕ (Unit ⊕ Bool)) := (bif (decide (p951 < (IntKind.i64.wrap ((IntKind.i64.wrap ((IntKind.i64.wrap (a2 * a1.Wide)) + a3)) - 1)))) then (f3_l2_j5 a1 a2 a3 a4 a5 p947 p948 p949 p950 p951 p951) else (bif (decide ((IntKind.i64.wrap ((IntKind.i64.wrap ((IntKind.i64.wrap (a2 * a1.Wide)) + a3)) + p950)) < p951)) then (f3_l2_j5 a1 a2 a3 a4 a5 p947 p948 p949 p950 p951 p951) else (bif (decide (p951 < (IntKind.i64.wrap ((IntKind.i64.wrap (a2 * a1.Wide)) + a3)))) then ((inR p951 p949.length).bind fun m122 => ((p949[m122]?).bind fun z123 => ((idx a1.Cells p951).bind fun z124 => (bif (!(decide (z123.Rune = z124.Rune) && (decide (z123.Pen.Flags = z124.Pen.Flags) && (decide (z123.Pen.Fore = z124.Pen.Fore) && (decide (z123.Pen.Back = z124.Pen.Back) && true))))) then ((inR p951 p949.length).bind fun m125 => ((p949[m125]?).bind fun z126 => ((idx a1.Cells p951).bind fun z127 => ((f12 z127.Pen).bind fun z128 => (bif (!(decide (z126.Rune = z128.Rune) && (decide (z126.Pen.Flags = z128.Pen.Flags) && (decide (z126.Pen.Fore = z128.Pen.Fore) && (decide (z126.Pen.Back = z128.Pen.Back) && true))))) then (some (.inr (.inr false))) else (some (.inl (p947, p948, p949, p950, (IntKind.i64.wrap (p951 + 1)))))))))) else (some (.inl (p947, p948, p949, p950, (IntKind.i64.wrap (p951 + 1))))))))) else (bif (decide ((IntKind.i64.wrap ((IntKind.i64.wrap ((IntKind.i64.wrap (a2 * a1.Wide)) + a3)) + p950)) ≤ p951)) then ((inR p951 p949.length).bind fun m129 => ((p949[m129]?).bind fun z130 => ((idx a1.Cells p951).bind fun z131 => (bif (!(decide (z130.Rune = z131.Rune) && (decide (z130.Pen.Flags = z131.Pen.Flags) && (decide (z130.Pen.Fore = z131.Pen.Fore) && (decide (z130.Pen.Back = z131.Pen.Back) && true))))) then ((inR p951 p949.length).bind fun m132 => ((p949[m132]?).bind fun z133 => ((idx a1.Cells p951).bind fun z134 => ((f12 z134.Pen).bind fun z135 => (bif (!(decide (z133.Rune = z135.Rune) && (decide (z133.Pen.Flags = z135.Pen.Flags) && (decide (z133.Pen.Fore = z135.Pen.Fore) && (decide (z133.Pen.Back = z135.Pen.Back) && true))))) then (some (.inr (.inr false))) else (some (.inl (p947, p948, p949, p950, (IntKind.i64.wrap (p951 + 1)))))))))) else (some (.inl (p947, p948, p949, p950, (IntKind.i64.wrap (p951 + 1))))))))) else (some (.inl (p947, p948, p949, p950, (IntKind.i64.wrap (p951 + 1)))))))))
theorem f3_l2_j4_ok {base : Orc} {d : Nat} (hd : 8 ≤ d) (a1 : GGrid) (a2 : Int) (a3 : Int) (a4 : Int) (a5 : GPen) {r : (Int × Int × (List GCell) × Int × Int) ⊕ (Unit ⊕ Bool)} {Q : PX → St → Prop} (hQ : ∀ e st', finL (f3_l2_H a1 a2 a3 a4 a5) (f3_l2_X a1 a2 a3 a4 a5) r e st' → Q e st') (p947 : Int) (p948 : Int) (p949 : List GCell) (p950 : Int) (p951 : Int) (hS : f3_l2_j4 a1 a2 a3 a4 a5 p947 p948 p949 p950 p951 = some r) {st : St} (he : keepSt [5, 11, 13, 14, 79, 80] [(48, .id 48), (96, .id 96), (184, .id 184)] [] st = f3_l2_j4_J a1 a2 a3 a4 a5 p947 p948 p949 p950 p951) : ZR (lev codes base (d - 1)) Q c3_3 [] st := by
  refine zrKeep he ?_
  unfold f3_l2_j4 at hS
  refine zrSeq ?_
  refine zrBlk ?_
  refine zrSeq ?_
  refine zrReg ?_
  refine zlRun (n := 2) (j := 2) rfl (by kernel_rfl) ?_
  refine zlEnd (by kernel_rfl) ?_
  refine zkSeq ?_
  refine zrSeq ?_
  refine zrReg ?_
  refine zlRun (n := 3) (j := 3) rfl (by kernel_rfl) ?_
  refine zlBool (d := 86) (op := (.cmpI .lss (.tmp 83) (.tmp 85))) (g := none) (j := 4) (decide (p951 < (IntKind.i64.wrap ((IntKind.i64.wrap ((IntKind.i64.wrap (a2 * a1.Wide)) + a3)) - 1)))) rfl (by kernel_rfl) (by kernel_rfl) (by kernel_rfl) (fun hc => ?_) (fun hc => ?_)
  · replace hS := cond_t hc hS
    refine zlRun (n := 7) (j := 11) rfl (by kernel_rfl) ?_
    refine zlEnd (by kernel_rfl) ?_
    refine zkSeq ?_
    refine zrCondT (by kernel_rfl) ?_
    exact f3_l2_j5_ok hd a1 a2 a3 a4 a5 hQ p947 p948 p949 p950 p951 p951 hS (by kernel_rfl)
  · replace hS := cond_f hc hS
    refine zlRun (n := 5) (j := 9) rfl (by kernel_rfl) ?_
    refine zlBool (d := 92) (op := (.cmpI .gtr (.tmp 88) (.tmp 91))) (g := (some (87, false))) (j := 10) (decide ((IntKind.i64.wrap ((IntKind.i64.wrap ((IntKind.i64.wrap (a2 * a1.Wide)) + a3)) + p950)) < p951)) rfl (by kernel_rfl) (by kernel_rfl) (by kernel_rfl) (fun hc => ?_) (fun hc => ?_)
    · replace hS := cond_t hc hS
      refine zlRun (n := 1) (j := 11) rfl (by kernel_rfl) ?_
      refine zlEnd (by kernel_rfl) ?_
      refine zkSeq ?_
      refine zrCondT (by kernel_rfl) ?_
      exact f3_l2_j5_ok hd a1 a2 a3 a4 a5 hQ p947 p948 p949 p950 p951 p951 hS (by kernel_rfl)
    · replace hS := cond_f hc hS
      refine zlRun (n := 1) (j := 11) rfl (by kernel_rfl) ?_
      refine zlEnd (by kernel_rfl) ?_
      refine zkSeq ?_
      refine zrCondF (by kernel_rfl) ?_
      refine zrSeq ?_
      refine zrRegD ?_
      refine zdRun (n := 2) (j := 2) (ts := [[], []]) (acc' := [[], []]) rfl (by kernel_rfl) (by kernel_rfl) (by kernel_rfl) ?_
      refine zdBool (d := 107) (op := (.cmpI .lss (.tmp 105) (.tmp 106))) (g := none) (j := 3) (t1 := []) (acc' := [[], [], []]) (decide (p951 < (IntKind.i64.wrap ((IntKind.i64.wrap (a2 * a1.Wide)) + a3)))) (by kernel_rfl) (by kernel_rfl) rfl (by kernel_rfl) (by kernel_rfl) (by kernel_rfl) (fun hc => ?_) (fun hc => ?_)
      · replace hS := cond_t hc hS
        refine zdRun (n := 11) (j := 14) (ts := [[], [], [], [], [], [], [], [], [], [(96, false)], []]) (acc' := [[], [], [], [], [], [], [], [], [], [], [], [], [(96, false)], []]) rfl (by kernel_rfl) (by kernel_rfl) (by kernel_rfl) ?_
        refine bindE hS (fun m122 hm122 hS => ?_)
        refine zdOp (d := some 119) (op := (.ixS 33 4 (.tmp 117) (.tmp 118))) (g := (some (115, true))) (v := (.r (.ptr 184 0 ((0 + m122) * 4)))) (ups := []) (j := 15) (t1 := [(184, false)]) (acc' := [[], [], [], [], [], [], [], [], [], [], [], [], [(96, false)], [], [(184, false)]]) (by kernel_rfl) (by kernel_rfl) rfl (by kernel_rfl) (by kernel_rfl) (ev_ixM (kk := .i64) (b := 184) (g := 0) (l := 0) (n := p949.length) (j := p951) (cs := e_GCell.cells p949) (by kernel_rfl) (by kernel_rfl) (by kernel_rfl) hm122) ?_
        refine bindE hS (fun z123 hz123 hS => ?_)
        refine zdOp (d := some 120) (op := (.load .true 4 (.tmp 119))) (g := (some (115, true))) (v := (.agg ((.d (.int .i64 z123.Rune)) :: ((.d (.int .i64 z123.Pen.Flags)) :: ((.d (.int .i64 z123.Pen.Fore)) :: ((.d (.int .i64 z123.Pen.Back)) :: [])))))) (ups := []) (j := 16) (t1 := [(184, false)]) (acc' := [[], [], [], [], [], [], [], [], [], [], [], [], [(96, false)], [], [(184, false)], [(184, false)]]) (by kernel_rfl) (by kernel_rfl) rfl (by kernel_rfl) (by kernel_rfl) (ev_loadM e_GCell (b := 184) (g := 0) (o := (0 + m122) * 4) (e := 33) (k := 4) (m := m122) (fo := 0) (xs := p949) (by kernel_rfl) (by kernel_rfl) (by rw [Nat.zero_add]; rfl) hz123 (by kernel_rfl) (by kernel_rfl) (by kernel_rfl)) ?_
        refine zdRun (n := 3) (j := 19) (ts := [[], [(48, false)], []]) (acc' := [[], [], [], [], [], [], [], [], [], [], [], [], [(96, false)], [], [(184, false)], [(184, false)], [], [(48, false)], []]) rfl (by kernel_rfl) (by kernel_rfl) (by kernel_rfl) ?_
        refine bindE hS (fun z124 hz124 hS => ?_)
        refine zdOp (d := some 124) (op := (.ixS 33 4 (.tmp 122) (.tmp 123))) (g := (some (115, true))) (v := (.rptr (e_GCell.enc z124 ++ (e_GCell.cells (a1.Cells.drop ((p951 : Int).toNat + 1)))))) (ups := []) (j := 20) (t1 := []) (acc' := [[], [], [], [], [], [], [], [], [], [], [], [], [(96, false)], [], [(184, false)], [(184, false)], [], [(48, false)], [], []]) (by kernel_rfl) (by kernel_rfl) rfl (by kernel_rfl) (by kernel_rfl) (ev_ixS e_GCell (kk := .i64) (xs := a1.Cells) (j := p951) (by kernel_rfl) (by kernel_rfl) hz124 rfl (by intro h; cases h)) ?_
        refine zdRun (n := 1) (j := 21) (ts := [[]]) (acc' := [[], [], [], [], [], [], [], [], [], [], [], [], [(96, false)], [], [(184, false)], [(184, false)], [], [(48, false)], [], [], []]) rfl (by kernel_rfl) (by kernel_rfl) (by kernel_rfl) ?_
        refine zdBool (d := 126) (op := (.eqA .true [(4, .int)] (.tmp 120) (.tmp 125))) (g := (some (115, true))) (j := 22) (t1 := []) (acc' := [[], [], [], [], [], [], [], [], [], [], [], [], [(96, false)], [], [(184, false)], [(184, false)], [], [(48, false)], [], [], [], []]) (!(decide (z123.Rune = z124.Rune) && (decide (z123.Pen.Flags = z124.Pen.Flags) && (decide (z123.Pen.Fore = z124.Pen.Fore) && (decide (z123.Pen.Back = z124.Pen.Back) && true))))) (by kernel_rfl) (by kernel_rfl) rfl (by kernel_rfl) (by kernel_rfl) (by kernel_rfl) (fun hc => ?_) (fun hc => ?_)
        · replace hS := cond_t hc hS
          refine zdRun (n := 5) (j := 27) (ts := [[], [], [], [(96, false)], []]) (acc' := [[], [], [], [], [], [], [], [], [], [], [], [], [(96, false)], [], [(184, false)], [(184, false)], [], [(48, false)], [], [], [], [], [], [], [], [(96, false)], []]) rfl (by kernel_rfl) (by kernel_rfl) (by kernel_rfl) ?_
          refine bindE hS (fun m125 hm125 hS => ?_)
          refine zdOp (d := some 132) (op := (.ixS 33 4 (.tmp 130) (.tmp 131))) (g := (some (128, true))) (v := (.r (.ptr 184 0 ((0 + m125) * 4)))) (ups := []) (j := 28) (t1 := [(184, false)]) (acc' := [[], [], [], [], [], [], [], [], [], [], [], [], [(96, false)], [], [(184, false)], [(184, false)], [], [(48, false)], [], [], [], [], [], [], [], [(96, false)], [], [(184, false)]]) (by kernel_rfl) (by kernel_rfl) rfl (by kernel_rfl) (by kernel_rfl) (ev_ixM (kk := .i64) (b := 184) (g := 0) (l := 0) (n := p949.length) (j := p951) (cs := e_GCell.cells p949) (by kernel_rfl) (by kernel_rfl) (by kernel_rfl) hm125) ?_
          refine bindE hS (fun z126 hz126 hS => ?_)
          refine zdOp (d := some 133) (op := (.load .true 4 (.tmp 132))) (g := (some (128, true))) (v := (.agg ((.d (.int .i64 z126.Rune)) :: ((.d (.int .i64 z126.Pen.Flags)) :: ((.d (.int .i64 z126.Pen.Fore)) :: ((.d (.int .i64 z126.Pen.Back)) :: [])))))) (ups := []) (j := 29) (t1 := [(184, false)]) (acc' := [[], [], [], [], [], [], [], [], [], [], [], [], [(96, false)], [], [(184, false)], [(184, false)], [], [(48, false)], [], [], [], [], [], [], [], [(96, false)], [], [(184, false)], [(184, false)]]) (by kernel_rfl) (by kernel_rfl) rfl (by kernel_rfl) (by kernel_rfl) (ev_loadM e_GCell (b := 184) (g := 0) (o := (0 + m125) * 4) (e := 33) (k := 4) (m := m125) (fo := 0) (xs := p949) (by kernel_rfl) (by kernel_rfl) (by rw [Nat.zero_add]; rfl) hz126 (by kernel_rfl) (by kernel_rfl) (by kernel_rfl)) ?_
          refine zdRun (n := 3) (j := 32) (ts := [[], [(48, false)], []]) (acc' := [[], [], [], [], [], [], [], [], [], [], [], [], [(96, false)], [], [(184, false)], [(184, false)], [], [(48, false)], [], [], [], [], [], [], [], [(96, false)], [], [(184, false)], [(184, false)], [], [(48, false)], []]) rfl (by kernel_rfl) (by kernel_rfl) (by kernel_rfl) ?_
          refine bindE hS (fun z127 hz127 hS => ?_)
          refine zdOp (d := some 137) (op := (.ixS 33 4 (.tmp 135) (.tmp 136))) (g := (some (128, true))) (v := (.rptr (e_GCell.enc z127 ++ (e_GCell.cells (a1.Cells.drop ((p951 : Int).toNat + 1)))))) (ups := []) (j := 33) (t1 := []) (acc' := [[], [], [], [], [], [], [], [], [], [], [], [], [(96, false)], [], [(184, false)], [(184, false)], [], [(48, false)], [], [], [], [], [], [], [], [(96, false)], [], [(184, false)], [(184, false)], [], [(48, false)], [], []]) (by kernel_rfl) (by kernel_rfl) rfl (by kernel_rfl) (by kernel_rfl) (ev_ixS e_GCell (kk := .i64) (xs := a1.Cells) (j := p951) (by kernel_rfl) (by kernel_rfl) hz127 rfl (by intro h; cases h)) ?_
          refine zdRun (n := 2) (j := 35) (ts := [[], []]) (acc' := [[], [], [], [], [], [], [], [], [], [], [], [], [(96, false)], [], [(184, false)], [(184, false)], [], [(48, false)], [], [], [], [], [], [], [], [(96, false)], [], [(184, false)], [(184, false)], [], [(48, false)], [], [], [], []]) rfl (by kernel_rfl) (by kernel_rfl) (by kernel_rfl) ?_
          refine bindE hS (fun z128 hz128 hS => ?_)
          refine zdOp (d := some 140) (op := (.call 12 [(.tmp 139)])) (g := (some (128, true))) (v := (.agg ((.d (.int .i64 z128.Rune)) :: ((.d (.int .i64 z128.Pen.Flags)) :: ((.d (.int .i64 z128.Pen.Fore)) :: ((.d (.int .i64 z128.Pen.Back)) :: [])))))) (ups := []) (j := 36) (t1 := [(1128, true), (1129, true), (1130, true), (1131, true), (1132, true), (1133, true), (1134, true), (1135, true)]) (acc' := [[], [], [], [], [], [], [], [], [], [], [], [], [(96, false)], [], [(184, false)], [(184, false)], [], [(48, false)], [], [], [], [], [], [], [], [(96, false)], [], [(184, false)], [(184, false)], [], [(48, false)], [], [], [], [], [(1128, true), (1129, true), (1130, true), (1131, true), (1132, true), (1133, true), (1134, true), (1135, true)]]) (by kernel_rfl) (by kernel_rfl) rfl (by kernel_rfl) (by kernel_rfl) (ev_call (args := [(.agg ((.d (.int .i64 z127.Pen.Flags)) :: ((.d (.int .i64 z127.Pen.Fore)) :: ((.d (.int .i64 z127.Pen.Back)) :: []))))]) (l := [(.agg ((.d (.int .i64 z127.Pen.Flags)) :: ((.d (.int .i64 z127.Pen.Fore)) :: ((.d (.int .i64 z127.Pen.Back)) :: []))))]) (r := (.agg ((.d (.int .i64 z128.Rune)) :: ((.d (.int .i64 z128.Pen.Flags)) :: ((.d (.int .i64 z128.Pen.Fore)) :: ((.d (.int .i64 z128.Pen.Back)) :: [])))))) (by kernel_rfl) (by kernel_rfl) (f12_ok base (d - 1) (dpt hd rfl) z127.Pen z128 hz128) (by kernel_rfl) (by kernel_rfl) (by kernel_rfl)) ?_
          refine zdBool (d := 141) (op := (.eqA .true [(4, .int)] (.tmp 133) (.tmp 140))) (g := (some (128, true))) (j := 37) (t1 := []) (acc' := [[], [], [], [], [], [], [], [], [], [], [], [], [(96, false)], [], [(184, false)], [(184, false)], [], [(48, false)], [], [], [], [], [], [], [], [(96, false)], [], [(184, false)], [(184, false)], [], [(48, false)], [], [], [], [], [(1128, true), (1129, true), (1130, true), (1131, true), (1132, true), (1133, true), (1134, true), (1135, true)], []]) (!(decide (z126.Rune = z128.Rune) && (decide (z126.Pen.Flags = z128.Pen.Flags) && (decide (z126.Pen.Fore = z128.Pen.Fore) && (decide (z126.Pen.Back = z128.Pen.Back) && true))))) (by kernel_rfl) (by kernel_rfl) rfl (by kernel_rfl) (by kernel_rfl) (by kernel_rfl) (fun hc => ?_) (fun hc => ?_)
          · replace hS := cond_t hc hS
            refine zdRun (n := 1) (j := 38) (ts := [[]]) (acc' := [[], [], [], [], [], [], [], [], [], [], [], [], [(96, false)], [], [(184, false)], [(184, false)], [], [(48, false)], [], [], [], [], [], [], [], [(96, false)], [], [(184, false)], [(184, false)], [], [(48, false)], [], [], [], [], [(1128, true), (1129, true), (1130, true), (1131, true), (1132, true), (1133, true), (1134, true), (1135, true)], [], []]) rfl (by kernel_rfl) (by kernel_rfl) (by kernel_rfl) ?_
            refine zdEnd (by kernel_rfl) (by kernel_rfl) ?_
            refine zkSeq ?_
            refine zrCondT (by kernel_rfl) ?_
            refine zrSeq ?_
            refine zrReg ?_
            refine zlRun (n := 1) (j := 1) rfl (by kernel_rfl) ?_
            refine zlEnd (by kernel_rfl) ?_
            refine zkSeq ?_
            refine zrRet ?_
            refine zkBlkR ?_
            refine zkSeqR ?_
            refine zkNil ?_
            exact endQ hS hQ (finL_x (by intro h; cases h) (by show _ = _ ∧ _ = _; exact ⟨rfl, by kernel_rfl⟩))
          · replace hS := cond_f hc hS
            refine zdRun (n := 1) (j := 38) (ts := [[]]) (acc' := [[], [], [], [], [], [], [], [], [], [], [], [], [(96, false)], [], [(184, false)], [(184, false)], [], [(48, false)], [], [], [], [], [], [], [], [(96, false)], [], [(184, false)], [(184, false)], [], [(48, false)], [], [], [], [], [(1128, true), (1129, true), (1130, true), (1131, true), (1132, true), (1133, true), (1134, true), (1135, true)], [], []]) rfl (by kernel_rfl) (by kernel_rfl) (by kernel_rfl) ?_
            refine zdEnd (by kernel_rfl) (by kernel_rfl) ?_
            refine zkSeq ?_
            refine zrCondF (by kernel_rfl) ?_
            refine zrSkip ?_
            refine zkBlk ?_
            refine zkSeq ?_
            refine zrReg ?_
            refine zlRun (n := 2) (j := 2) rfl (by kernel_rfl) ?_
            refine zlEnd (by kernel_rfl) ?_
            refine zkNil ?_
            exact endQ hS hQ (finL_n (by show keepSt _ _ _ _ = _; kernel_rfl))
        · replace hS := cond_f hc hS
          refine zdRun (n := 16) (j := 38) (ts := [[], [], [], [], [], [], [], [], [], [], [], [], [], [], [], []]) (acc' := [[], [], [], [], [], [], [], [], [], [], [], [], [(96, false)], [], [(184, false)], [(184, false)], [], [(48, false)], [], [], [], [], [], [], [], [], [], [], [], [], [], [], [], [], [], [], [], []]) rfl (by kernel_rfl) (by kernel_rfl) (by kernel_rfl) ?_
          refine zdEnd (by kernel_rfl) (by kernel_rfl) ?_
          refine zkSeq ?_
          refine zrCondF (by kernel_rfl) ?_
          refine zrSkip ?_
          refine zkBlk ?_
          refine zkSeq ?_
          refine zrReg ?_
          refine zlRun (n := 2) (j := 2) rfl (by kernel_rfl) ?_
          refine zlEnd (by kernel_rfl) ?_
          refine zkNil ?_
          exact endQ hS hQ (finL_n (by show keepSt _ _ _ _ = _; kernel_rfl))
      · replace hS := cond_f hc hS
        refine zdRun (n := 5) (j := 8) (ts := [[], [], [], [], []]) (acc' := [[], [], [], [], [], [], [], []]) rfl (by kernel_rfl) (by kernel_rfl) (by kernel_rfl) ?_
        refine zdBool (d := 113) (op := (.cmpI .geq (.tmp 109) (.tmp 112))) (g := (some (108, false))) (j := 9) (t1 := []) (acc' := [[], [], [], [], [], [], [], [], []]) (decide ((IntKind.i64.wrap ((IntKind.i64.wrap ((IntKind.i64.wrap (a2 * a1.Wide)) + a3)) + p950)) ≤ p951)) (by kernel_rfl) (by kernel_rfl) rfl (by kernel_rfl) (by kernel_rfl) (by kernel_rfl) (fun hc => ?_) (fun hc => ?_)
        · replace hS := cond_t hc hS
          refine zdRun (n := 5) (j := 14) (ts := [[], [], [], [(96, false)], []]) (acc' := [[], [], [], [], [], [], [], [], [], [], [], [], [(96, false)], []]) rfl (by kernel_rfl) (by kernel_rfl) (by kernel_rfl) ?_
          refine bindE hS (fun m129 hm129 hS => ?_)
          refine zdOp (d := some 119) (op := (.ixS 33 4 (.tmp 117) (.tmp 118))) (g := (some (115, true))) (v := (.r (.ptr 184 0 ((0 + m129) * 4)))) (ups := []) (j := 15) (t1 := [(184, false)]) (acc' := [[], [], [], [], [], [], [], [], [], [], [], [], [(96, false)], [], [(184, false)]]) (by kernel_rfl) (by kernel_rfl) rfl (by kernel_rfl) (by kernel_rfl) (ev_ixM (kk := .i64) (b := 184) (g := 0) (l := 0) (n := p949.length) (j := p951) (cs := e_GCell.cells p949) (by kernel_rfl) (by kernel_rfl) (by kernel_rfl) hm129) ?_
          refine bindE hS (fun z130 hz130 hS => ?_)
          refine zdOp (d := some 120) (op := (.load .true 4 (.tmp 119))) (g := (some (115, true))) (v := (.agg ((.d (.int .i64 z130.Rune)) :: ((.d (.int .i64 z130.Pen.Flags)) :: ((.d (.int .i64 z130.Pen.Fore)) :: ((.d (.int .i64 z130.Pen.Back)) :: [])))))) (ups := []) (j := 16) (t1 := [(184, false)]) (acc' := [[], [], [], [], [], [], [], [], [], [], [], [], [(96, false)], [], [(184, false)], [(184, false)]]) (by kernel_rfl) (by kernel_rfl) rfl (by kernel_rfl) (by kernel_rfl) (ev_loadM e_GCell (b := 184) (g := 0) (o := (0 + m129) * 4) (e := 33) (k := 4) (m := m129) (fo := 0) (xs := p949) (by kernel_rfl) (by kernel_rfl) (by rw [Nat.zero_add]; rfl) hz130 (by kernel_rfl) (by kernel_rfl) (by kernel_rfl)) ?_
          refine zdRun (n := 3) (j := 19) (ts := [[], [(48, false)], []]) (acc' := [[], [], [], [], [], [], [], [], [], [], [], [], [(96, false)], [], [(184, false)], [(184, false)], [], [(48, false)], []]) rfl (by kernel_rfl) (by kernel_rfl) (by kernel_rfl) ?_
          refine bindE hS (fun z131 hz131 hS => ?_)
          refine zdOp (d := some 124) (op := (.ixS 33 4 (.tmp 122) (.tmp 123))) (g := (some (115, true))) (v := (.rptr (e_GCell.enc z131 ++ (e_GCell.cells (a1.Cells.drop ((p951 : Int).toNat + 1)))))) (ups := []) (j := 20) (t1 := []) (acc' := [[], [], [], [], [], [], [], [], [], [], [], [], [(96, false)], [], [(184, false)], [(184, false)], [], [(48, false)], [], []]) (by kernel_rfl) (by kernel_rfl) rfl (by kernel_rfl) (by kernel_rfl) (ev_ixS e_GCell (kk := .i64) (xs := a1.Cells) (j := p951) (by kernel_rfl) (by kernel_rfl) hz131 rfl (by intro h; cases h)) ?_
          refine zdRun (n := 1) (j := 21) (ts := [[]]) (acc' := [[], [], [], [], [], [], [], [], [], [], [], [], [(96, false)], [], [(184, false)], [(184, false)], [], [(48, false)], [], [], []]) rfl (by kernel_rfl) (by kernel_rfl) (by kernel_rfl) ?_
          refine zdBool (d := 126) (op := (.eqA .true [(4, .int)] (.tmp 120) (.tmp 125))) (g := (some (115, true))) (j := 22) (t1 := []) (acc' := [[], [], [], [], [], [], [], [], [], [], [], [], [(96, false)], [], [(184, false)], [(184, false)], [], [(48, false)], [], [], [], []]) (!(decide (z130.Rune = z131.Rune) && (decide (z130.Pen.Flags = z131.Pen.Flags) && (decide (z130.Pen.Fore = z131.Pen.Fore) && (decide (z130.Pen.Back = z131.Pen.Back) && true))))) (by kernel_rfl) (by kernel_rfl) rfl (by kernel_rfl) (by kernel_rfl) (by kernel_rfl) (fun hc => ?_) (fun hc => ?_)
          · replace hS := cond_t hc hS
            refine zdRun (n := 5) (j := 27) (ts := [[], [], [], [(96, false)], []]) (acc' := [[], [], [], [], [], [], [], [], [], [], [], [], [(96, false)], [], [(184, false)], [(184, false)], [], [(48, false)], [], [], [], [], [], [], [], [(96, false)], []]) rfl (by kernel_rfl) (by kernel_rfl) (by kernel_rfl) ?_
            refine bindE hS (fun m132 hm132 hS => ?_)
            refine zdOp (d := some 132) (op := (.ixS 33 4 (.tmp 130) (.tmp 131))) (g := (some (128, true))) (v := (.r (.ptr 184 0 ((0 + m132) * 4)))) (ups := []) (j := 28) (t1 := [(184, false)]) (acc' := [[], [], [], [], [], [], [], [], [], [], [], [], [(96, false)], [], [(184, false)], [(184, false)], [], [(48, false)], [], [], [], [], [], [], [], [(96, false)], [], [(184, false)]]) (by kernel_rfl) (by kernel_rfl) rfl (by kernel_rfl) (by kernel_rfl) (ev_ixM (kk := .i64) (b := 184) (g := 0) (l := 0) (n := p949.length) (j := p951) (cs := e_GCell.cells p949) (by kernel_rfl) (by kernel_rfl) (by kernel_rfl) hm132) ?_
            refine bindE hS (fun z133 hz133 hS => ?_)
            refine zdOp (d := some 133) (op := (.load .true 4 (.tmp 132))) (g := (some (128, true))) (v := (.agg ((.d (.int .i64 z133.Rune)) :: ((.d (.int .i64 z133.Pen.Flags)) :: ((.d (.int .i64 z133.Pen.Fore)) :: ((.d (.int .i64 z133.Pen.Back)) :: [])))))) (ups := []) (j := 29) (t1 := [(184, false)]) (acc' := [[], [], [], [], [], [], [], [], [], [], [], [], [(96, false)], [], [(184, false)], [(184, false)], [], [(48, false)], [], [], [], [], [], [], [], [(96, false)], [], [(184, false)], [(184, false)]]) (by kernel_rfl) (by kernel_rfl) rfl (by kernel_rfl) (by kernel_rfl) (ev_loadM e_GCell (b := 184) (g := 0) (o := (0 + m132) * 4) (e := 33) (k := 4) (m := m132) (fo := 0) (xs := p949) (by kernel_rfl) (by kernel_rfl) (by rw [Nat.zero_add]; rfl) hz133 (by kernel_rfl) (by kernel_rfl) (by kernel_rfl)) ?_
            refine zdRun (n := 3) (j := 32) (ts := [[], [(48, false)], []]) (acc' := [[], [], [], [], [], [], [], [], [], [], [], [], [(96, false)], [], [(184, false)], [(184, false)], [], [(48, false)], [], [], [], [], [], [], [], [(96, false)], [], [(184, false)], [(184, false)], [], [(48, false)], []]) rfl (by kernel_rfl) (by kernel_rfl) (by kernel_rfl) ?_
            refine bindE hS (fun z134 hz134 hS => ?_)
            refine zdOp (d := some 137) (op := (.ixS 33 4 (.tmp 135) (.tmp 136))) (g := (some (128, true))) (v := (.rptr (e_GCell.enc z134 ++ (e_GCell.cells (a1.Cells.drop ((p951 : Int).toNat + 1)))))) (ups := []) (j := 33) (t1 := []) (acc' := [[], [], [], [], [], [], [], [], [], [], [], [], [(96, false)], [], [(184, false)], [(184, false)], [], [(48, false)], [], [], [], [], [], [], [], [(96, false)], [], [(184, false)], [(184, false)], [], [(48, false)], [], []]) (by kernel_rfl) (by kernel_rfl) rfl (by kernel_rfl) (by kernel_rfl) (ev_ixS e_GCell (kk := .i64) (xs := a1.Cells) (j := p951) (by kernel_rfl) (by kernel_rfl) hz134 rfl (by intro h; cases h)) ?_
            refine zdRun (n := 2) (j := 35) (ts := [[], []]) (acc' := [[], [], [], [], [], [], [], [], [], [], [], [], [(96, false)], [], [(184, false)], [(184, false)], [], [(48, false)], [], [], [], [], [], [], [], [(96, false)], [], [(184, false)], [(184, false)], [], [(48, false)], [], [], [], []]) rfl (by kernel_rfl) (by kernel_rfl) (by kernel_rfl) ?_
            refine bindE hS (fun z135 hz135 hS => ?_)
            refine zdOp (d := some 140) (op := (.call 12 [(.tmp 139)])) (g := (some (128, true))) (v := (.agg ((.d (.int .i64 z135.Rune)) :: ((.d (.int .i64 z135.Pen.Flags)) :: ((.d (.int .i64 z135.Pen.Fore)) :: ((.d (.int .i64 z135.Pen.Back)) :: [])))))) (ups := []) (j := 36) (t1 := [(1128, true), (1129, true), (1130, true), (1131, true), (1132, true), (1133, true), (1134, true), (1135, true)]) (acc' := [[], [], [], [], [], [], [], [], [], [], [], [], [(96, false)], [], [(184, false)], [(184, false)], [], [(48, false)], [], [], [], [], [], [], [], [(96, false)], [], [(184, false)], [(184, false)], [], [(48, false)], [], [], [], [], [(1128, true), (1129, true), (1130, true), (1131, true), (1132, true), (1133, true), (1134, true), (1135, true)]]) (by kernel_rfl) (by kernel_rfl) rfl (by kernel_rfl) (by kernel_rfl) (ev_call (args := [(.agg ((.d (.int .i64 z134.Pen.Flags)) :: ((.d (.int .i64 z134.Pen.Fore)) :: ((.d (.int .i64 z134.Pen.Back)) :: []))))]) (l := [(.agg ((.d (.int .i64 z134.Pen.Flags)) :: ((.d (.int .i64 z134.Pen.Fore)) :: ((.d (.int .i64 z134.Pen.Back)) :: []))))]) (r := (.agg ((.d (.int .i64 z135.Rune)) :: ((.d (.int .i64 z135.Pen.Flags)) :: ((.d (.int .i64 z135.Pen.Fore)) :: ((.d (.int .i64 z135.Pen.Back)) :: [])))))) (by kernel_rfl) (by kernel_rfl) (f12_ok base (d - 1) (dpt hd rfl) z134.Pen z135 hz135) (by kernel_rfl) (by kernel_rfl) (by kernel_rfl)) ?_
            refine zdBool (d := 141) (op := (.eqA .true [(4, .int)] (.tmp 133) (.tmp 140))) (g := (some (128, true))) (j := 37) (t1 := []) (acc' := [[], [], [], [], [], [], [], [], [], [], [], [], [(96, false)], [], [(184, false)], [(184, false)], [], [(48, false)], [], [], [], [], [], [], [], [(96, false)], [], [(184, false)], [(184, false)], [], [(48, false)], [], [], [], [], [(1128, true), (1129, true), (1130, true), (1131, true), (1132, true), (1133, true), (1134, true), (1135, true)], []]) (!(decide (z133.Rune = z135.Rune) && (decide (z133.Pen.Flags = z135.Pen.Flags) && (decide (z133.Pen.Fore = z135.Pen.Fore) && (decide (z133.Pen.Back = z135.Pen.Back) && true))))) (by kernel_rfl) (by kernel_rfl) rfl (by kernel_rfl) (by kernel_rfl) (by kernel_rfl) (fun hc => ?_) (fun hc => ?_)
            · replace hS := cond_t hc hS
              refine zdRun (n := 1) (j := 38) (ts := [[]]) (acc' := [[], [], [], [], [], [], [], [], [], [], [], [], [(96, false)], [], [(184, false)], [(184, false)], [], [(48, false)], [], [], [], [], [], [], [], [(96, false)], [], [(184, false)], [(184, false)], [], [(48, false)], [], [], [], [], [(1128, true), (1129, true), (1130, true), (1131, true), (1132, true), (1133, true), (1134, true), (1135, true)], [], []]) rfl (by kernel_rfl) (by kernel_rfl) (by kernel_rfl) ?_
              refine zdEnd (by kernel_rfl) (by kernel_rfl) ?_
              refine zkSeq ?_
              refine zrCondT (by kernel_rfl) ?_
              refine zrSeq ?_
              refine zrReg ?_
              refine zlRun (n := 1) (j := 1) rfl (by kernel_rfl) ?_
              refine zlEnd (by kernel_rfl) ?_
              refine zkSeq ?_
              refine zrRet ?_
              refine zkBlkR ?_
              refine zkSeqR ?_
              refine zkNil ?_
              exact endQ hS hQ (finL_x (by intro h; cases h) (by show _ = _ ∧ _ = _; exact ⟨rfl, by kernel_rfl⟩))
            · replace hS := cond_f hc hS
              refine zdRun (n := 1) (j := 38) (ts := [[]]) (acc' := [[], [], [], [], [], [], [], [], [], [], [], [], [(96, false)], [], [(184, false)], [(184, false)], [], [(48, false)], [], [], [], [], [], [], [], [(96, false)], [], [(184, false)], [(184, false)], [], [(48, false)], [], [], [], [], [(1128, true), (1129, true), (1130, true), (1131, true), (1132, true), (1133, true), (1134, true), (1135, true)], [], []]) rfl (by kernel_rfl) (by kernel_rfl) (by kernel_rfl) ?_
              refine zdEnd (by kernel_rfl) (by kernel_rfl) ?_
              refine zkSeq ?_
              refine zrCondF (by kernel_rfl) ?_
              refine zrSkip ?_
              refine zkBlk ?_
              refine zkSeq ?_
              refine zrReg ?_
              refine zlRun (n := 2) (j := 2) rfl (by kernel_rfl) ?_
              refine zlEnd (by kernel_rfl) ?_
              refine zkNil ?_
              exact endQ hS hQ (finL_n (by show keepSt _ _ _ _ = _; kernel_rfl))
          · replace hS := cond_f hc hS
            refine zdRun (n := 16) (j := 38) (ts := [[], [], [], [], [], [], [], [], [], [], [], [], [], [], [], []]) (acc' := [[], [], [], [], [], [], [], [], [], [], [], [], [(96, false)], [], [(184, false)], [(184, false)], [], [(48, false)], [], [], [], [], [], [], [], [], [], [], [], [], [], [], [], [], [], [], [], []]) rfl (by kernel_rfl) (by kernel_rfl) (by kernel_rfl) ?_
            refine zdEnd (by kernel_rfl) (by kernel_rfl) ?_
            refine zkSeq ?_
            refine zrCondF (by kernel_rfl) ?_
            refine zrSkip ?_
            refine zkBlk ?_
            refine zkSeq ?_
            refine zrReg ?_
            refine zlRun (n := 2) (j := 2) rfl (by kernel_rfl) ?_
            refine zlEnd (by kernel_rfl) ?_
            refine zkNil ?_
            exact endQ hS hQ (finL_n (by show keepSt _ _ _ _ = _; kernel_rfl))
        · replace hS := cond_f hc hS
          refine zdRun (n := 29) (j := 38) (ts := [[], [], [], [], [], [], [], [], [], [], [], [], [], [], [], [], [], [], [], [], [], [], [], [], [], [], [], [], []]) (acc' := [[], [], [], [], [], [], [], [], [], [], [], [], [], [], [], [], [], [], [], [], [], [], [], [], [], [], [], [], [], [], [], [], [], [], [], [], [], []]) rfl (by kernel_rfl) (by kernel_rfl) (by kernel_rfl) ?_
          refine zdEnd (by kernel_rfl) (by kernel_rfl) ?_
          refine zkSeq ?_
          refine zrCondF (by kernel_rfl) ?_
          refine zrSkip ?_
          refine zkBlk ?_
          refine zkSeq ?_
          refine zrReg ?_
          refine zlRun (n := 2) (j := 2) rfl (by kernel_rfl) ?_
          refine zlEnd (by kernel_rfl) ?_
          refine zkNil ?_
          exact endQ hS hQ (finL_n (by show keepSt _ _ _ _ = _; kernel_rfl))
def f3_l2_j3_J (a1 : GGrid) (a2 : Int) (a3 : Int) (a4 : Int) (a5 : GPen) (p941 : Int) (p942 : Int) (p943 : List GCell) (p944 : Int) (p945 : Int) (p946 : Bool) : St := ⟨(up (up (up (up (up (up (up (fun _ => .un) 81 (.d (.bool p946))) 80 (.d (.int .i64 p945))) 79 (.d (.int .i64 (a1.Cells.length : Int)))) 14 (.d (.int .i64 p944))) 13 (.d (.int .i64 (IntKind.i64.wrap ((IntKind.i64.wrap (a2 * a1.Wide)) + a3))))) 11 (.r (.ptr 96 0 0))) 5 (.r (.ptr 48 0 0))), (up (up (up (hB fun _ => 0) 184 ⟨0, some (.own 33 4 (e_GCell.cells p943))⟩) 96 ⟨0, some (.box ((.d (.int .i64 p941)) :: ((.d (.int .i64 p942)) :: ((.r (.msl 184 0 0 p943.length)) :: []))))⟩) 48 ⟨0, some (.box ((.d (.int .i64 a1.Wide)) :: ((.d (.int .i64 a1.High)) :: ((.d (.sl a1.Cells.length (e_GCell.cells a1.Cells))) :: []))))⟩)⟩
noncomputable def f3_l2_j3 (a1 : GGrid) (a2 : Int) (a3 : Int) (a4 : Int) (a5 : GPen) (p941 : Int) (p942 : Int) (p943 : List GCell) (p944 : Int) (p945 : Int) (p946 : Bool) : Option ((Int × Int × (List GCell) × Int × Int) ⊕ (Unit ⊕ Bool)) := (bif p946 then (f3_l2_j4 a1 a2 a3 a4 a5 p941 p942 p943 p944 p945) else (some (.inr (.inl ()))))
theorem f3_l2_j3_ok {base : Orc} {d : Nat} (hd : 8 ≤ d) (a1 : GGrid) (a2 : Int) (a3 : Int) (a4 : Int) (a5 : GPen) {r : (Int × Int × (List GCell) × Int × Int) ⊕ (Unit ⊕ Bool)} {Q : PX → St → Prop} (hQ : ∀ e st', finL (f3_l2_H a1 a2 a3 a4 a5) (f3_l2_X a1 a2 a3 a4 a5) r e st' → Q e st') (p941 : Int) (p942 : Int) (p943 : List GCell) (p944 : Int) (p945 : Int) (p946 : Bool) (hS : f3_l2_j3 a1 a2 a3 a4 a5 p941 p942 p943 p944 p945 p946 = some r) {st : St} (he : keepSt [5, 11, 13, 14, 79, 80, 81] [(48, .id 48), (96, .id 96), (184, .id 184)] [] st = f3_l2_j3_J a1 a2 a3 a4 a5 p941 p942 p943 p944 p945 p946) : ZR (lev codes base (d - 1)) Q c3_4 [] st := by
  refine zrKeep he ?_
  unfold f3_l2_j3 at hS
  refine zrSeq ?_
  refine zrSplit 81 p946 (by kernel_rfl) (fun hc => ?_) (fun hc => ?_)
  · replace hS := cond_t hc hS
    refine zrCondT (by kernel_rfl) ?_
    refine zrSkip ?_
    refine zkSeq ?_
    exact f3_l2_j4_ok hd a1 a2 a3 a4 a5 hQ p941 p942 p943 p944 p945 hS (by kernel_rfl)
  · replace hS := cond_f hc hS
    refine zrCondF (by kernel_rfl) ?_
    refine zrKeep (J := f3_l2_e0_J a1 a2 a3 a4 a5) (by kernel_rfl) ?_
    refine zrExit ?_
    refine zkSeqX ?_
    refine zkNil ?_
    exact endQ hS hQ (finL_x (by intro h; cases h) (by show _ = _ ∧ _ = _; exact ⟨rfl, rfl⟩))
noncomputable def f3_l2 (a1 : GGrid) (a2 : Int) (a3 : Int) (a4 : Int) (a5 : GPen) (x : Int × Int × (List GCell) × Int × Int) : Option ((Int × Int × (List GCell) × Int × Int) ⊕ (Unit ⊕ Bool)) := (bif (decide (x.2.2.2.2 < (a1.Cells.length : Int))) then (f3_l2_j3 a1 a2 a3 a4 a5 x.1 x.2.1 x.2.2.1 x.2.2.2.1 x.2.2.2.2 true) else (f3_l2_j3 a1 a2 a3 a4 a5 x.1 x.2.1 x.2.2.1 x.2.2.2.1 x.2.2.2.2 false))
theorem f3_l2_ok {base : Orc} {d : Nat} (hd : 8 ≤ d) (a1 : GGrid) (a2 : Int) (a3 : Int) (a4 : Int) (a5 : GPen) {r : (Int × Int × (List GCell) × Int × Int) ⊕ (Unit ⊕ Bool)} {Q : PX → St → Prop} (hQ : ∀ e st', finL (f3_l2_H a1 a2 a3 a4 a5) (f3_l2_X a1 a2 a3 a4 a5) r e st' → Q e st') {x : Int × Int × (List GCell) × Int × Int} (hS : f3_l2 a1 a2 a3 a4 a5 x = some r) {st : St} (he : f3_l2_H a1 a2 a3 a4 a5 x st) : ZR (lev codes base (d - 1)) Q c3_5 [] st := by
  refine zrKeep he ?_
  unfold f3_l2 at hS
  refine zrSeq ?_
  refine zrReg ?_
  refine zlBool (d := 81) (op := (.cmpI .lss (.tmp 80) (.tmp 79))) (g := none) (j := 1) (decide (x.2.2.2.2 < (a1.Cells.length : Int))) rfl (by kernel_rfl) (by kernel_rfl) (by kernel_rfl) (fun hc => ?_) (fun hc => ?_)
  · replace hS := cond_t hc hS
    refine zlEnd (by kernel_rfl) ?_
    refine zkSeq ?_
    exact f3_l2_j3_ok hd a1 a2 a3 a4 a5 hQ x.1 x.2.1 x.2.2.1 x.2.2.2.1 x.2.2.2.2 true hS (by kernel_rfl)
  · replace hS := cond_f hc hS
    refine zlEnd (by kernel_rfl) ?_
    refine zkSeq ?_
    exact f3_l2_j3_ok hd a1 a2 a3 a4 a5 hQ x.1 x.2.1 x.2.2.1 x.2.2.2.1 x.2.2.2.2 false hS (by kernel_rfl)
def f3_j1_J (a1 : GGrid) (a2 : Int) (a3 : Int) (a4 : Int) (a5 : GPen) (p497 : Int) (p498 : Int) (p499 : List GCell) (p500 : Int) : St := ⟨(up (up (up (up (fun _ => .un) 14 (.d (.int .i64 p500))) 13 (.d (.int .i64 (IntKind.i64.wrap ((IntKind.i64.wrap (a2 * a1.Wide)) + a3))))) 11 (.r (.ptr 96 0 0))) 5 (.r (.ptr 48 0 0))), (up (up (up (hB fun _ => 0) 184 ⟨0, some (.own 33 4 (e_GCell.cells p499))⟩) 96 ⟨0, some (.box ((.d (.int .i64 p497)) :: ((.d (.int .i64 p498)) :: ((.r (.msl 184 0 0 p499.length)) :: []))))⟩) 48 ⟨0, some (.box ((.d (.int .i64 a1.Wide)) :: ((.d (.int .i64 a1.High)) :: ((.d (.sl a1.Cells.length (e_GCell.cells a1.Cells))) :: []))))⟩)⟩
noncomputable def f3_j1 (a1 : GGrid) (a2 : Int) (a3 : Int) (a4 : Int) (a5 : GPen) (p497 : Int) (p498 : Int) (p499 : List GCell) (p500 : Int) : Option (Bool) := ((loopO (f3_l2 a1 a2 a3 a4 a5) (p497, p498, p499, p500, 0)).bind fun z136 => (Sum.elim (fun z137 => (some true)) (fun z138 => (some z138)) z136))
theorem f3_j1_ok {base : Orc} {d : Nat} (hd : 8 ≤ d) (a1 : GGrid) (a2 : Int) (a3 : Int) (a4 : Int) (a5 : GPen) {r : Bool} {Q : PX → St → Prop} (hQ : ∀ e st', f3_Q r e st' → Q e st') (p497 : Int) (p498 : Int) (p499 : List GCell) (p500 : Int) (hS : f3_j1 a1 a2 a3 a4 a5 p497 p498 p499 p500 = some r) {st : St} (he : keepSt [5, 11, 13, 14] [(48, .id 48), (96, .id 96), (184, .id 184)] [] st = f3_j1_J a1 a2 a3 a4 a5 p497 p498 p499 p500) : ZR (lev codes base (d - 1)) Q c3_6 [] st := by
  refine zrKeep he ?_
  unfold f3_j1 at hS
  refine zrSeq ?_
  refine zrSeq ?_
  refine zrReg ?_
  refine zlRun (n := 4) (j := 4) rfl (by kernel_rfl) ?_
  refine zlEnd (by kernel_rfl) ?_
  refine zkSeq ?_
  refine zrBlk ?_
  refine bindE hS (fun z136 hz136 hS => ?_)
  refine zrLoop (f3_l2_H a1 a2 a3 a4 a5) (f3_l2_X a1 a2 a3 a4 a5) (fun x st r Q h0 hS hQ => f3_l2_ok hd a1 a2 a3 a4 a5 hQ hS h0) (x := (p497, p498, p499, p500, 0)) (z := z136) (by show keepSt _ _ _ _ = _; kernel_rfl) hz136 ?_
  rcases z136 with z137 | z138
  · replace hS := (show _ = _ from hS)
    simp only [Sum.elim_inl] at hS
    intro e st' _ hX
    obtain ⟨rfl, rfl⟩ : _ ∧ _ := hX
    refine zkBlkX ?_
    refine zkSeq ?_
    refine zrSeq ?_
    refine zrReg ?_
    refine zlRun (n := 1) (j := 1) rfl (by kernel_rfl) ?_
    refine zlEnd (by kernel_rfl) ?_
    refine zkSeq ?_
    refine zrRet ?_
    refine zkNil ?_
    exact endQ hS hQ (fRet (by kernel_rfl) ((congrArg (fun s => outR s 0 c3.res) (by kernel_rfl : finSt c3.fin _ = f3_fin true)).trans (f3_out true)))
  · simp only [Sum.elim_inr] at hS
    intro e st' _ hX
    obtain ⟨rfl, hX⟩ : _ ∧ _ := hX
    refine zkBlkR ?_
    refine zkSeqR ?_
    refine zkNil ?_
    exact endQ hS hQ (fRet (by kernel_rfl) ((congrArg (fun s => outR s 0 c3.res) hX).trans (f3_out z138)))
def f3_j0_J (a1 : GGrid) (a2 : Int) (a3 : Int) (a4 : Int) (a5 : GPen) (p480 : Int) (p481 : Int) (p482 : List GCell) : St := ⟨(up (up (up (up (up (up (fun _ => .un) 11 (.r (.ptr 96 0 0))) 9 (.r (.ptr 80 0 0))) 5 (.r (.ptr 48 0 0))) 3 (.d (.int .i64 a4))) 2 (.d (.int .i64 a3))) 1 (.d (.int .i64 a2))), (up (up (up (up (hB fun _ => 0) 184 ⟨0, some (.own 33 4 (e_GCell.cells p482))⟩) 96 ⟨0, some (.box ((.d (.int .i64 p480)) :: ((.d (.int .i64 p481)) :: ((.r (.msl 184 0 0 p482.length)) :: []))))⟩) 80 ⟨0, some (.box ((.d (.int .i64 a5.Flags)) :: ((.d (.int .i64 a5.Fore)) :: ((.d (.int .i64 a5.Back)) :: []))))⟩) 48 ⟨0, some (.box ((.d (.int .i64 a1.Wide)) :: ((.d (.int .i64 a1.High)) :: ((.d (.sl a1.Cells.length (e_GCell.cells a1.Cells))) :: []))))⟩)⟩
noncomputable def f3_j0 (a1 : GGrid) (a2 : Int) (a3 : Int) (a4 : Int) (a5 : GPen) (p480 : Int) (p481 : Int) (p482 : List GCell) : Option (Bool) := ((f11 a4).bind fun z63 => ((inR (IntKind.i64.wrap ((IntKind.i64.wrap (a2 * a1.Wide)) + a3)) p482.length).bind fun m139 => ((p482[m139]?).bind fun z140 => (bif (!(decide (z140.Rune = a4) && (decide (z140.Pen.Flags = a5.Flags) && (decide (z140.Pen.Fore = a5.Fore) && (decide (z140.Pen.Back = a5.Back) && true))))) then (some false) else (bif (decide (z63 = 2)) then ((inR (IntKind.i64.wrap ((IntKind.i64.wrap ((IntKind.i64.wrap (a2 * a1.Wide)) + a3)) + 1)) p482.length).bind fun m141 => ((p482[m141]?).bind fun z142 => (bif (!(decide (z142.Rune = 0) && (decide (z142.Pen.Flags = a5.Flags) && (decide (z142.Pen.Fore = a5.Fore) && (decide (z142.Pen.Back = a5.Back) && true))))) then (some false) else (f3_j1 a1 a2 a3 a4 a5 p480 p481 p482 z63)))) else (f3_j1 a1 a2 a3 a4 a5 p480 p481 p482 z63))))))
theorem f3_j0_ok {base : Orc} {d : Nat} (hd : 8 ≤ d) (a1 : GGrid) (a2 : Int) (a3 : Int) (a4 : Int) (a5 : GPen) {r : Bool} {Q : PX → St → Prop} (hQ : ∀ e st', f3_Q r e st' → Q e st') (p480 : Int) (p481 : Int) (p482 : List GCell) (hS : f3_j0 a1 a2 a3 a4 a5 p480 p481 p482 = some r) {st : St} (he : keepSt [1, 2, 3, 5, 9, 11] [(48, .id 48), (80, .id 80), (96, .id 96), (184, .id 184)] [] st = f3_j0_J a1 a2 a3 a4 a5 p480 p481 p482) : ZR (lev codes base (d - 1)) Q c3_7 [] st := by
  refine zrKeep he ?_
  unfold f3_j0 at hS
  refine zrSeq ?_
  refine zrRegD ?_
  refine zdRun (n := 7) (j := 7) (ts := [[], [], [(48, false)], [], [], [], []]) (acc' := [[], [], [(48, false)], [], [], [], []]) rfl (by kernel_rfl) (by kernel_rfl) (by kernel_rfl) ?_
  refine bindE hS (fun z63 hz63 hS => ?_)
  refine zdOp (d := some 52) (op := (.call 11 [(.tmp 51)])) (g := none) (v := (.d (.int .i64 z63))) (ups := []) (j := 8) (t1 := [(424, true), (425, true), (426, true), (427, true), (428, true), (429, true), (430, true), (431, true)]) (acc' := [[], [], [(48, false)], [], [], [], [], [(424, true), (425, true), (426, true), (427, true), (428, true), (429, true), (430, true), (431, true)]]) (by kernel_rfl) (by kernel_rfl) rfl (by kernel_rfl) (by kernel_rfl) (ev_call (args := [(.d (.int .i64 a4))]) (l := [(.d (.int .i64 a4))]) (r := (.d (.int .i64 z63))) (by kernel_rfl) (by kernel_rfl) (f11_ok base (d - 1) (dpt hd rfl) a4 z63 hz63) (by kernel_rfl) (by kernel_rfl) (by kernel_rfl)) ?_
  refine zdRun (n := 2) (j := 10) (ts := [[], []]) (acc' := [[], [], [(48, false)], [], [], [], [], [(424, true), (425, true), (426, true), (427, true), (428, true), (429, true), (430, true), (431, true)], [], []]) rfl (by kernel_rfl) (by kernel_rfl) (by kernel_rfl) ?_
  refine zdEnd (by kernel_rfl) (by kernel_rfl) ?_
  refine zkSeq ?_
  refine zrSeq ?_
  refine zrSeq ?_
  refine zrRegD ?_
  refine zdRun (n := 3) (j := 3) (ts := [[], [(96, false)], []]) (acc' := [[], [(96, false)], []]) rfl (by kernel_rfl) (by kernel_rfl) (by kernel_rfl) ?_
  refine bindE hS (fun m139 hm139 hS => ?_)
  refine zdOp (d := some 56) (op := (.ixS 33 4 (.tmp 54) (.tmp 55))) (g := none) (v := (.r (.ptr 184 0 ((0 + m139) * 4)))) (ups := []) (j := 4) (t1 := [(184, false)]) (acc' := [[], [(96, false)], [], [(184, false)]]) (by kernel_rfl) (by kernel_rfl) rfl (by kernel_rfl) (by kernel_rfl) (ev_ixM (kk := .i64) (b := 184) (g := 0) (l := 0) (n := p482.length) (j := (IntKind.i64.wrap ((IntKind.i64.wrap (a2 * a1.Wide)) + a3))) (cs := e_GCell.cells p482) (by kernel_rfl) (by kernel_rfl) (by kernel_rfl) hm139) ?_
  refine bindE hS (fun z140 hz140 hS => ?_)
  refine zdOp (d := some 57) (op := (.load .true 4 (.tmp 56))) (g := none) (v := (.agg ((.d (.int .i64 z140.Rune)) :: ((.d (.int .i64 z140.Pen.Flags)) :: ((.d (.int .i64 z140.Pen.Fore)) :: ((.d (.int .i64 z140.Pen.Back)) :: [])))))) (ups := []) (j := 5) (t1 := [(184, false)]) (acc' := [[], [(96, false)], [], [(184, false)], [(184, false)]]) (by kernel_rfl) (by kernel_rfl) rfl (by kernel_rfl) (by kernel_rfl) (ev_loadM e_GCell (b := 184) (g := 0) (o := (0 + m139) * 4) (e := 33) (k := 4) (m := m139) (fo := 0) (xs := p482) (by kernel_rfl) (by kernel_rfl) (by rw [Nat.zero_add]; rfl) hz140 (by kernel_rfl) (by kernel_rfl) (by kernel_rfl)) ?_
  refine zdRun (n := 3) (j := 8) (ts := [[], [(80, false)], []]) (acc' := [[], [(96, false)], [], [(184, false)], [(184, false)], [], [(80, false)], []]) rfl (by kernel_rfl) (by kernel_rfl) (by kernel_rfl) ?_
  refine zdBool (d := 61) (op := (.eqA .true [(4, .int)] (.tmp 57) (.tmp 60))) (g := none) (j := 9) (t1 := []) (acc' := [[], [(96, false)], [], [(184, false)], [(184, false)], [], [(80, false)], [], []]) (!(decide (z140.Rune = a4) && (decide (z140.Pen.Flags = a5.Flags) && (decide (z140.Pen.Fore = a5.Fore) && (decide (z140.Pen.Back = a5.Back) && true))))) (by kernel_rfl) (by kernel_rfl) rfl (by kernel_rfl) (by kernel_rfl) (by kernel_rfl) (fun hc => ?_) (fun hc => ?_)
  · replace hS := cond_t hc hS
    refine zdRun (n := 15) (j := 24) (ts := [[], [], [], [], [], [], [], [], [], [], [], [], [], [], []]) (acc' := [[], [(96, false)], [], [(184, false)], [(184, false)], [], [(80, false)], [], [], [], [], [], [], [], [], [], [], [], [], [], [], [], [], []]) rfl (by kernel_rfl) (by kernel_rfl) (by kernel_rfl) ?_
    refine zdEnd (by kernel_rfl) (by kernel_rfl) ?_
    refine zkSeq ?_
    refine zrCondT (by kernel_rfl) ?_
    refine zrSeq ?_
    refine zrReg ?_
    refine zlRun (n := 1) (j := 1) rfl (by kernel_rfl) ?_
    refine zlEnd (by kernel_rfl) ?_
    refine zkSeq ?_
    refine zrRet ?_
    refine zkSeqR ?_
    refine zkNil ?_
    exact endQ hS hQ (fRet (by kernel_rfl) ((congrArg (fun s => outR s 0 c3.res) (by kernel_rfl : finSt c3.fin _ = f3_fin false)).trans (f3_out false)))
  · replace hS := cond_f hc hS
    refine zdRun (n := 2) (j := 11) (ts := [[], []]) (acc' := [[], [(96, false)], [], [(184, false)], [(184, false)], [], [(80, false)], [], [], [], []]) rfl (by kernel_rfl) (by kernel_rfl) (by kernel_rfl) ?_
    refine zdBool (d := 64) (op := (.cmpI .eql (.tmp 63) (.const (.int .i64 2)))) (g := (some (62, false))) (j := 12) (t1 := []) (acc' := [[], [(96, false)], [], [(184, false)], [(184, false)], [], [(80, false)], [], [], [], [], []]) (decide (z63 = 2)) (by kernel_rfl) (by kernel_rfl) rfl (by kernel_rfl) (by kernel_rfl) (by kernel_rfl) (fun hc => ?_) (fun hc => ?_)
    · replace hS := cond_t hc hS
      refine zdRun (n := 5) (j := 17) (ts := [[], [], [(96, false)], [], []]) (acc' := [[], [(96, false)], [], [(184, false)], [(184, false)], [], [(80, false)], [], [], [], [], [], [], [], [(96, false)], [], []]) rfl (by kernel_rfl) (by kernel_rfl) (by kernel_rfl) ?_
      refine bindE hS (fun m141 hm141 hS => ?_)
      refine zdOp (d := some 70) (op := (.ixS 33 4 (.tmp 67) (.tmp 69))) (g := (some (65, true))) (v := (.r (.ptr 184 0 ((0 + m141) * 4)))) (ups := []) (j := 18) (t1 := [(184, false)]) (acc' := [[], [(96, false)], [], [(184, false)], [(184, false)], [], [(80, false)], [], [], [], [], [], [], [], [(96, false)], [], [], [(184, false)]]) (by kernel_rfl) (by kernel_rfl) rfl (by kernel_rfl) (by kernel_rfl) (ev_ixM (kk := .i64) (b := 184) (g := 0) (l := 0) (n := p482.length) (j := (IntKind.i64.wrap ((IntKind.i64.wrap ((IntKind.i64.wrap (a2 * a1.Wide)) + a3)) + 1))) (cs := e_GCell.cells p482) (by kernel_rfl) (by kernel_rfl) (by kernel_rfl) hm141) ?_
      refine bindE hS (fun z142 hz142 hS => ?_)
      refine zdOp (d := some 71) (op := (.load .true 4 (.tmp 70))) (g := (some (65, true))) (v := (.agg ((.d (.int .i64 z142.Rune)) :: ((.d (.int .i64 z142.Pen.Flags)) :: ((.d (.int .i64 z142.Pen.Fore)) :: ((.d (.int .i64 z142.Pen.Back)) :: [])))))) (ups := []) (j := 19) (t1 := [(184, false)]) (acc' := [[], [(96, false)], [], [(184, false)], [(184, false)], [], [(80, false)], [], [], [], [], [], [], [], [(96, false)], [], [], [(184, false)], [(184, false)]]) (by kernel_rfl) (by kernel_rfl) rfl (by kernel_rfl) (by kernel_rfl) (ev_loadM e_GCell (b := 184) (g := 0) (o := (0 + m141) * 4) (e := 33) (k := 4) (m := m141) (fo := 0) (xs := p482) (by kernel_rfl) (by kernel_rfl) (by rw [Nat.zero_add]; rfl) hz142 (by kernel_rfl) (by kernel_rfl) (by kernel_rfl)) ?_
      refine zdRun (n := 2) (j := 21) (ts := [[(80, false)], []]) (acc' := [[], [(96, false)], [], [(184, false)], [(184, false)], [], [(80, false)], [], [], [], [], [], [], [], [(96, false)], [], [], [(184, false)], [(184, false)], [(80, false)], []]) rfl (by kernel_rfl) (by kernel_rfl) (by kernel_rfl) ?_
      refine zdBool (d := 74) (op := (.eqA .true [(4, .int)] (.tmp 71) (.tmp 73))) (g := (some (65, true))) (j := 22) (t1 := []) (acc' := [[], [(96, false)], [], [(184, false)], [(184, false)], [], [(80, false)], [], [], [], [], [], [], [], [(96, false)], [], [], [(184, false)], [(184, false)], [(80, false)], [], []]) (!(decide (z142.Rune = 0) && (decide (z142.Pen.Flags = a5.Flags) && (decide (z142.Pen.Fore = a5.Fore) && (decide (z142.Pen.Back = a5.Back) && true))))) (by kernel_rfl) (by kernel_rfl) rfl (by kernel_rfl) (by kernel_rfl) (by kernel_rfl) (fun hc => ?_) (fun hc => ?_)
      · replace hS := cond_t hc hS
        refine zdRun (n := 2) (j := 24) (ts := [[], []]) (acc' := [[], [(96, false)], [], [(184, false)], [(184, false)], [], [(80, false)], [], [], [], [], [], [], [], [(96, false)], [], [], [(184, false)], [(184, false)], [(80, false)], [], [], [], []]) rfl (by kernel_rfl) (by kernel_rfl) (by kernel_rfl) ?_
        refine zdEnd (by kernel_rfl) (by kernel_rfl) ?_
        refine zkSeq ?_
        refine zrCondT (by kernel_rfl) ?_
        refine zrSeq ?_
        refine zrReg ?_
        refine zlRun (n := 1) (j := 1) rfl (by kernel_rfl) ?_
        refine zlEnd (by kernel_rfl) ?_
        refine zkSeq ?_
        refine zrRet ?_
        refine zkSeqR ?_
        refine zkNil ?_
        exact endQ hS hQ (fRet (by kernel_rfl) ((congrArg (fun s => outR s 0 c3.res) (by kernel_rfl : finSt c3.fin _ = f3_fin false)).trans (f3_out false)))
      · replace hS := cond_f hc hS
        refine zdRun (n := 2) (j := 24) (ts := [[], []]) (acc' := [[], [(96, false)], [], [(184, false)], [(184, false)], [], [(80, false)], [], [], [], [], [], [], [], [(96, false)], [], [], [(184, false)], [(184, false)], [(80, false)], [], [], [], []]) rfl (by kernel_rfl) (by kernel_rfl) (by kernel_rfl) ?_
        refine zdEnd (by kernel_rfl) (by kernel_rfl) ?_
        refine zkSeq ?_
        refine zrCondF (by kernel_rfl) ?_
        refine zrSkip ?_
        refine zkSeq ?_
        exact f3_j1_ok hd a1 a2 a3 a4 a5 hQ p480 p481 p482 z63 hS (by kernel_rfl)
    · replace hS := cond_f hc hS
      refine zdRun (n := 12) (j := 24) (ts := [[], [], [], [], [], [], [], [], [], [], [], []]) (acc' := [[], [(96, false)], [], [(184, false)], [(184, false)], [], [(80, false)], [], [], [], [], [], [], [], [], [], [], [], [], [], [], [], [], []]) rfl (by kernel_rfl) (by kernel_rfl) (by kernel_rfl) ?_
      refine zdEnd (by kernel_rfl) (by kernel_rfl) ?_
      refine zkSeq ?_
      refine zrCondF (by kernel_rfl) ?_
      refine zrSkip ?_
      refine zkSeq ?_
      exact f3_j1_ok hd a1 a2 a3 a4 a5 hQ p480 p481 p482 z63 hS (by kernel_rfl)
def f3_j6_J (a1 : GGrid) (a2 : Int) (a3 : Int) (a4 : Int) (a5 : GPen) (p966 : Int) : St := ⟨(up (fun _ => .un) 12 (.d (.int .i64 p966))), (hB fun _ => 0)⟩
noncomputable def f3_j6 (a1 : GGrid) (a2 : Int) (a3 : Int) (a4 : Int) (a5 : GPen) (p966 : Int) : Option (Bool) := (f10.bind fun z144 => (bif z144 then (bif (!decide (p966 = 0)) then (some true) else (some false)) else (some false)))
theorem f3_j6_ok {base : Orc} {d : Nat} (hd : 8 ≤ d) (a1 : GGrid) (a2 : Int) (a3 : Int) (a4 : Int) (a5 : GPen) {r : Bool} {Q : PX → St → Prop} (hQ : ∀ e st', f3_Q r e st' → Q e st') (p966 : Int) (hS : f3_j6 a1 a2 a3 a4 a5 p966 = some r) {st : St} (he : keepSt [12] [] [] st = f3_j6_J a1 a2 a3 a4 a5 p966) : ZR (lev codes base (d - 1)) Q c3_8 [.seq c3_7] st := by
  refine zrKeep he ?_
  unfold f3_j6 at hS
  refine zrSeq ?_
  refine zrReg ?_
  refine bindE hS (fun z144 hz144 hS => ?_)
  refine zlOp (d := some 40) (op := (.call 10 [])) (g := none) (v := (.d (.bool z144))) (ups := []) (j := 1) rfl (by kernel_rfl) (by kernel_rfl) (ev_call (args := []) (l := []) (r := (.d (.bool z144))) (by kernel_rfl) (by kernel_rfl) (f10_ok base (d - 1) (dpt hd rfl)  z144 hz144) (by kernel_rfl) (by kernel_rfl) (by kernel_rfl)) ?_
  refine zlRun (n := 1) (j := 2) rfl (by kernel_rfl) ?_
  refine zlSplit 41 z144 (by kernel_rfl) (fun hc => ?_) (fun hc => ?_)
  · replace hS := cond_t hc hS
    refine zlRun (n := 1) (j := 3) rfl (by kernel_rfl) ?_
    refine zlBool (d := 43) (op := (.cmpI .neq (.tmp 42) (.const (.int .i64 0)))) (g := (some (41, true))) (j := 4) (!decide (p966 = 0)) rfl (by kernel_rfl) (by kernel_rfl) (by kernel_rfl) (fun hc => ?_) (fun hc => ?_)
    · replace hS := cond_t hc hS
      refine zlRun (n := 2) (j := 6) rfl (by kernel_rfl) ?_
      refine zlEnd (by kernel_rfl) ?_
      refine zkSeq ?_
      refine zrRet ?_
      refine zkSeqR ?_
      refine zkNil ?_
      exact endQ hS hQ (fRet (by kernel_rfl) ((congrArg (fun s => outR s 0 c3.res) (by kernel_rfl : finSt c3.fin _ = f3_fin true)).trans (f3_out true)))
    · replace hS := cond_f hc hS
      refine zlRun (n := 2) (j := 6) rfl (by kernel_rfl) ?_
      refine zlEnd (by kernel_rfl) ?_
      refine zkSeq ?_
      refine zrRet ?_
      refine zkSeqR ?_
      refine zkNil ?_
      exact endQ hS hQ (fRet (by kernel_rfl) ((congrArg (fun s => outR s 0 c3.res) (by kernel_rfl : finSt c3.fin _ = f3_fin false)).trans (f3_out false)))
  · replace hS := cond_f hc hS
    refine zlRun (n := 4) (j := 6) rfl (by kernel_rfl) ?_
    refine zlEnd (by kernel_rfl) ?_
    refine zkSeq ?_
    refine zrRet ?_
    refine zkSeqR ?_
    refine zkNil ?_
    exact endQ hS hQ (fRet (by kernel_rfl) ((congrArg (fun s => outR s 0 c3.res) (by kernel_rfl : finSt c3.fin _ = f3_fin false)).trans (f3_out false)))
noncomputable def f3 (a1 : GGrid) (a2 : Int) (a3 : Int) (a4 : Int) (a5 : GPen) : Option (Bool) := ((f9 a1 a2 a3 a4 a5).bind fun z60 => (f10.bind fun z145 => (bif (!z145) then (f3_j6 a1 a2 a3 a4 a5 z60.2.2.2) else (bif (!decide (z60.2.2.2 = 0)) then (f3_j6 a1 a2 a3 a4 a5 z60.2.2.2) else (bif (!decide ((z60.2.2.1.length : Int) = (a1.Cells.length : Int))) then (f3_j6 a1 a2 a3 a4 a5 z60.2.2.2) else (f3_j0 a1 a2 a3 a4 a5 z60.1 z60.2.1 z60.2.2.1))))))
theorem f3_ok (base : Orc) (d : Nat) (hd : 8 ≤ d) (a1 : GGrid) (a2 : Int) (a3 : Int) (a4 : Int) (a5 : GPen) (r : Bool) (hS : f3 a1 a2 a3 a4 a5 = some r) : lev codes base d 3 [(.agg ((.d (.int .i64 a1.Wide)) :: ((.d (.int .i64 a1.High)) :: ((.d (.sl a1.Cells.length (e_GCell.cells a1.Cells))) :: [])))), (.d (.int .i64 a2)), (.d (.int .i64 a3)), (.d (.int .i64 a4)), (.agg ((.d (.int .i64 a5.Flags)) :: ((.d (.int .i64 a5.Fore)) :: ((.d (.int .i64 a5.Back)) :: []))))] [] = some ((.d (.bool r)), []) := by
  refine lev_go codes3 rfl rfl (Nat.le_trans (Nat.le_of_ble_eq_true rfl) hd) fun Q hQ => ?_
  unfold f3 at hS
  show ZR _ Q c3_b [] _
  replace hQ : ∀ e st', f3_Q r e st' → Q e st' := hQ
  refine zrSeq ?_
  refine zrReg ?_
  refine zlRun (n := 3) (j := 3) rfl (by kernel_rfl) ?_
  refine zlEnd (by kernel_rfl) ?_
  refine zkSeq ?_
  refine zrSeq ?_
  refine zrReg ?_
  refine zlRun (n := 5) (j := 5) rfl (by kernel_rfl) ?_
  refine bindE hS (fun z60 hz60 hS => ?_)
  refine zlOp (d := some 22) (op := (.callf 9 [(.tmp 17), (.tmp 18), (.tmp 19), (.tmp 20), (.tmp 21)])) (g := none) (v := (.tup [(.agg ((.d (.int .i64 z60.1)) :: ((.d (.int .i64 z60.2.1)) :: ((.r (.msl 184 1 0 z60.2.2.1.length)) :: [])))), (.d (.int .i64 z60.2.2.2))])) (ups := [(184, ⟨1, some (.own 33 4 (e_GCell.cells z60.2.2.1))⟩)]) (j := 6) rfl (by kernel_rfl) (by kernel_rfl) (ev_callF (args := [(.agg ((.d (.int .i64 a1.Wide)) :: ((.d (.int .i64 a1.High)) :: ((.d (.sl a1.Cells.length (e_GCell.cells a1.Cells))) :: [])))), (.d (.int .i64 a2)), (.d (.int .i64 a3)), (.d (.int .i64 a4)), (.agg ((.d (.int .i64 a5.Flags)) :: ((.d (.int .i64 a5.Fore)) :: ((.d (.int .i64 a5.Back)) :: []))))]) (args' := [(.agg ((.d (.int .i64 a1.Wide)) :: ((.d (.int .i64 a1.High)) :: ((.d (.sl a1.Cells.length (e_GCell.cells a1.Cells))) :: [])))), (.d (.int .i64 a2)), (.d (.int .i64 a3)), (.d (.int .i64 a4)), (.agg ((.d (.int .i64 a5.Flags)) :: ((.d (.int .i64 a5.Fore)) :: ((.d (.int .i64 a5.Back)) :: []))))]) (l := [(.agg ((.d (.int .i64 a1.Wide)) :: ((.d (.int .i64 a1.High)) :: ((.d (.sl a1.Cells.length (e_GCell.cells a1.Cells))) :: [])))), (.d (.int .i64 a2)), (.d (.int .i64 a3)), (.d (.int .i64 a4)), (.agg ((.d (.int .i64 a5.Flags)) :: ((.d (.int .i64 a5.Fore)) :: ((.d (.int .i64 a5.Back)) :: []))))]) (refs := []) (r := (.tup [(.agg ((.d (.int .i64 z60.1)) :: ((.d (.int .i64 z60.2.1)) :: ((.r (.own 0 33 4 z60.2.2.1.length (e_GCell.cells z60.2.2.1))) :: [])))), (.d (.int .i64 z60.2.2.2))])) (v := (.tup [(.agg ((.d (.int .i64 z60.1)) :: ((.d (.int .i64 z60.2.1)) :: ((.r (.msl 184 1 0 z60.2.2.1.length)) :: [])))), (.d (.int .i64 z60.2.2.2))])) (ups' := [(184, ⟨1, some (.own 33 4 (e_GCell.cells z60.2.2.1))⟩)]) (by kernel_rfl) (by kernel_rfl) (by kernel_rfl) (fz_cons rfl (fz_cons rfl (fz_cons rfl (fz_cons rfl (fz_cons rfl fz_nil))))) (by kernel_rfl) (f9_ok base (d - 1) (dpt hd rfl) a1 a2 a3 a4 a5 z60 hz60) (by kernel_rfl) (by kernel_rfl) (by kernel_rfl) (by kernel_rfl)) ?_
  refine zlRun (n := 6) (j := 12) rfl (by kernel_rfl) ?_
  refine zlEnd (by kernel_rfl) ?_
  refine zkSeq ?_
  refine zrSeq ?_
  refine zrSeq ?_
  refine zrReg ?_
  refine bindE hS (fun z145 hz145 hS => ?_)
  refine zlOp (d := some 25) (op := (.call 10 [])) (g := none) (v := (.d (.bool z145))) (ups := []) (j := 1) rfl (by kernel_rfl) (by kernel_rfl) (ev_call (args := []) (l := []) (r := (.d (.bool z145))) (by kernel_rfl) (by kernel_rfl) (f10_ok base (d - 1) (dpt hd rfl)  z145 hz145) (by kernel_rfl) (by kernel_rfl) (by kernel_rfl)) ?_
  refine zlRun (n := 2) (j := 3) rfl (by kernel_rfl) ?_
  refine zlSplit 27 (!z145) (by kernel_rfl) (fun hc => ?_) (fun hc => ?_)
  · replace hS := cond_t hc hS
    refine zlRun (n := 12) (j := 15) rfl (by kernel_rfl) ?_
    refine zlEnd (by kernel_rfl) ?_
    refine zkSeq ?_
    refine zrCondT (by kernel_rfl) ?_
    exact f3_j6_ok hd a1 a2 a3 a4 a5 hQ z60.2.2.2 hS (by kernel_rfl)
  · replace hS := cond_f hc hS
    refine zlRun (n := 1) (j := 4) rfl (by kernel_rfl) ?_
    refine zlBool (d := 29) (op := (.cmpI .neq (.tmp 28) (.const (.int .i64 0)))) (g := (some (27, false))) (j := 5) (!decide (z60.2.2.2 = 0)) rfl (by kernel_rfl) (by kernel_rfl) (by kernel_rfl) (fun hc => ?_) (fun hc => ?_)
    · replace hS := cond_t hc hS
      refine zlRun (n := 10) (j := 15) rfl (by kernel_rfl) ?_
      refine zlEnd (by kernel_rfl) ?_
      refine zkSeq ?_
      refine zrCondT (by kernel_rfl) ?_
      exact f3_j6_ok hd a1 a2 a3 a4 a5 hQ z60.2.2.2 hS (by kernel_rfl)
    · replace hS := cond_f hc hS
      refine zlRun (n := 8) (j := 13) rfl (by kernel_rfl) ?_
      refine zlBool (d := 38) (op := (.cmpI .neq (.tmp 34) (.tmp 37))) (g := (some (31, false))) (j := 14) (!decide ((z60.2.2.1.length : Int) = (a1.Cells.length : Int))) rfl (by kernel_rfl) (by kernel_rfl) (by kernel_rfl) (fun hc => ?_) (fun hc => ?_)
      · replace hS := cond_t hc hS
        refine zlRun (n := 1) (j := 15) rfl (by kernel_rfl) ?_
        refine zlEnd (by kernel_rfl) ?_
        refine zkSeq ?_
        refine zrCondT (by kernel_rfl) ?_
        exact f3_j6_ok hd a1 a2 a3 a4 a5 hQ z60.2.2.2 hS (by kernel_rfl)
      · replace hS := cond_f hc hS
        refine zlRun (n := 1) (j := 15) rfl (by kernel_rfl) ?_
        refine zlEnd (by kernel_rfl) ?_
        refine zkSeq ?_
        refine zrCondF (by kernel_rfl) ?_
        refine zrSkip ?_
        refine zkSeq ?_
        exact f3_j0_ok hd a1 a2 a3 a4 a5 hQ z60.1 z60.2.1 z60.2.2.1 hS (by kernel_rfl)
end Go.Proofs.Ytipipahbfakcaaa.Pm
