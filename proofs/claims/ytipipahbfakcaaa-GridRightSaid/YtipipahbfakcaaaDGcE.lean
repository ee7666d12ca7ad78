/- Typed functions, and that the codes are these. Printed by dec.py. -/
import Derived.Test.YtipipahbfakcaaaDGcD
namespace Go.Proofs.Ytipipahbfakcaaa.Pm
set_option maxRecDepth 1000000
set_option maxHeartbeats 20000000
set_option linter.unusedVariables false
/- farwriter/grid.Fill -/
def f14_fin (p6 : Int) (p7 : Int) (p8 : List GCell) (p9 : Int) : St := ⟨(up (up (fun _ => .un) 11 (.d (.int .i64 p9))) 10 (.r (.ptr 88 0 0))), (up (up (hB fun _ => 0) 176 ⟨0, some (.own 33 4 (e_GCell.cells p8))⟩) 88 ⟨0, some (.box ((.d (.int .i64 p6)) :: ((.d (.int .i64 p7)) :: ((.r (.msl 176 0 0 p8.length)) :: []))))⟩)⟩
theorem f14_out (p6 : Int) (p7 : Int) (p8 : List GCell) (p9 : Int) : outR (f14_fin p6 p7 p8 p9) 0 c14.res = some ((.tup [(.agg ((.d (.int .i64 p6)) :: ((.d (.int .i64 p7)) :: ((.r (.own 0 33 4 p8.length (e_GCell.cells p8))) :: [])))), (.d (.int .i64 p9))]), []) := by
  exact out_of (ids := []) (ids' := [176]) (l := [(.agg ((.d (.int .i64 p6)) :: ((.d (.int .i64 p7)) :: ((.r (.msl 176 0 0 p8.length)) :: [])))), (.d (.int .i64 p9))]) (by kernel_rfl) (by kernel_rfl) (o_tup (o_cons (o_agg (o_cons rfl (o_cons rfl (o_cons (o_own e_GCell (e := 33) (k := 4) (xs := p8) (by kernel_rfl) rfl rfl rfl rfl) o_nil)))) (o_cons rfl o_nil)))
def f14_Q (r : Int × Int × (List GCell) × Int) (e : PX) (st : St) : Prop := DoneF c14 0 ((.tup [(.agg ((.d (.int .i64 r.1)) :: ((.d (.int .i64 r.2.1)) :: ((.r (.own 0 33 4 r.2.2.1.length (e_GCell.cells r.2.2.1))) :: [])))), (.d (.int .i64 r.2.2.2))]), []) e st
def f14_j0_J (a1 : GGrid) (a2 : Int) (a3 : Int) (a4 : Int) (a5 : GPen) (p15 : Int) (p16 : Int) (p17 : List GCell) : St := ⟨(up (up (up (up (up (up (fun _ => .un) 10 (.r (.ptr 88 0 0))) 9 (.r (.ptr 80 0 0))) 5 (.r (.ptr 48 0 0))) 3 (.d (.int .i64 a4))) 2 (.d (.int .i64 a3))) 1 (.d (.int .i64 a2))), (up (up (up (up (hB fun _ => 0) 88 ⟨0, some (.box ((.d (.int .i64 0)) :: ((.d (.int .i64 0)) :: ((.d (.sl ([] : List GCell).length (e_GCell.cells ([])))) :: []))))⟩) 80 ⟨0, some (.box ((.d (.int .i64 a5.Flags)) :: ((.d (.int .i64 a5.Fore)) :: ((.d (.int .i64 a5.Back)) :: []))))⟩) 176 ⟨0, some (.own 33 4 (e_GCell.cells p17))⟩) 48 ⟨0, some (.box ((.d (.int .i64 p15)) :: ((.d (.int .i64 p16)) :: ((.r (.msl 176 0 0 p17.length)) :: []))))⟩)⟩
noncomputable def f14_j0 (a1 : GGrid) (a2 : Int) (a3 : Int) (a4 : Int) (a5 : GPen) (p15 : Int) (p16 : Int) (p17 : List GCell) : Option (Int × Int × (List GCell) × Int) := ((f35 p15 p16 a2 a3 a4 a5 p17).bind fun z7 => ((chk (decide (z7.length = p17.length))).bind fun z8 => (some (p15, p16, z7, 0))))
theorem f14_j0_ok {base : Orc} {d : Nat} (hd : 6 ≤ d) (a1 : GGrid) (a2 : Int) (a3 : Int) (a4 : Int) (a5 : GPen) {r : Int × Int × (List GCell) × Int} {Q : PX → St → Prop} (hQ : ∀ e st', f14_Q r e st' → Q e st') (p15 : Int) (p16 : Int) (p17 : List GCell) (hS : f14_j0 a1 a2 a3 a4 a5 p15 p16 p17 = some r) {st : St} (he : keepSt [1, 2, 3, 5, 9, 10] [(48, .id 48), (176, .id 176), (80, .id 80), (88, .id 88)] [.cell 88 2 0 0 1] st = f14_j0_J a1 a2 a3 a4 a5 p15 p16 p17) : ZR (lev codes base (d - 1)) Q c14_1 [] st := by
  refine zrKeep he ?_
  unfold f14_j0 at hS
  refine zrSeq ?_
  refine zrReg ?_
  refine zlRun (n := 5) (j := 5) rfl (by kernel_rfl) ?_
  refine bindE hS (fun z7 hz7 hS => ?_)
  refine bindE hS (fun z8 hz8 hS => ?_)
  refine zlOp (d := some 33) (op := (.callr 35 [(.tmp 28), (.tmp 29), (.tmp 30), (.tmp 31), (.tmp 32)])) (g := none) (v := (.tup [])) (ups := [(176, ⟨0, some (.own 33 4 (e_GCell.cells z7))⟩)]) (j := 6) rfl (by kernel_rfl) (by kernel_rfl) (ev_callrX (args := [(.agg ((.d (.int .i64 p15)) :: ((.d (.int .i64 p16)) :: ((.r (.msl 176 0 0 p17.length)) :: [])))), (.d (.int .i64 a2)), (.d (.int .i64 a3)), (.d (.int .i64 a4)), (.agg ((.d (.int .i64 a5.Flags)) :: ((.d (.int .i64 a5.Fore)) :: ((.d (.int .i64 a5.Back)) :: []))))]) (ids := [176]) (bs := [(.own 33 4 (e_GCell.cells p17))]) (l := [(.agg ((.d (.int .i64 p15)) :: ((.d (.int .i64 p16)) :: ((.r (.msl 0 0 0 p17.length)) :: [])))), (.d (.int .i64 a2)), (.d (.int .i64 a3)), (.d (.int .i64 a4)), (.agg ((.d (.int .i64 a5.Flags)) :: ((.d (.int .i64 a5.Fore)) :: ((.d (.int .i64 a5.Back)) :: []))))]) (bt := [(.own 33 4 (e_GCell.cells p17))]) (r := (.tup [])) (bs' := [(.own 33 4 (e_GCell.cells z7)), .box []]) (by kernel_rfl) (by kernel_rfl) (by kernel_rfl) (by kernel_rfl) (by kernel_rfl) (f35_ok base (d - 1) (dpt hd rfl) p15 p16 a2 a3 a4 a5 p17 z7 hz7) (by kernel_rfl) (sm_own e_GCell (e1 := 33) (k1 := 4) (xs := p17) (ys := z7) (by kernel_rfl) hz8 sm_nil) (by kernel_rfl) (by kernel_rfl)) ?_
  have lz8 : p17.length = z7.length := (of_decide_eq_true (chk_t hz8)).symm
  try delta f14_j0_J
  try rw [lz8]
  refine zlEnd (by kernel_rfl) ?_
  refine zkSeq ?_
  refine zrSeq ?_
  refine zrReg ?_
  refine zlRun (n := 3) (j := 3) rfl (by kernel_rfl) ?_
  refine zlEnd (by kernel_rfl) ?_
  refine zkSeq ?_
  refine zrRet ?_
  refine zkNil ?_
  exact endQ hS hQ (fRet (by kernel_rfl) ((congrArg (fun s => outR s 0 c14.res) (by kernel_rfl : finSt c14.fin _ = f14_fin p15 p16 z7 0)).trans (f14_out p15 p16 z7 0)))
noncomputable def f14 (a1 : GGrid) (a2 : Int) (a3 : Int) (a4 : Int) (a5 : GPen) : Option (Int × Int × (List GCell) × Int) := ((f34 a1 a2 a3 a4).bind fun z5 => ((f29 a1 z5 a5).bind fun z6 => (bif (!decide (z6.2.2.2 = 0)) then (some (z6.1, z6.2.1, z6.2.2.1, z6.2.2.2)) else (f14_j0 a1 a2 a3 a4 a5 z6.1 z6.2.1 z6.2.2.1))))
theorem f14_ok (base : Orc) (d : Nat) (hd : 6 ≤ d) (a1 : GGrid) (a2 : Int) (a3 : Int) (a4 : Int) (a5 : GPen) (r : Int × Int × (List GCell) × Int) (hS : f14 a1 a2 a3 a4 a5 = some r) : lev codes base d 14 [(.agg ((.d (.int .i64 a1.Wide)) :: ((.d (.int .i64 a1.High)) :: ((.d (.sl a1.Cells.length (e_GCell.cells a1.Cells))) :: [])))), (.d (.int .i64 a2)), (.d (.int .i64 a3)), (.d (.int .i64 a4)), (.agg ((.d (.int .i64 a5.Flags)) :: ((.d (.int .i64 a5.Fore)) :: ((.d (.int .i64 a5.Back)) :: []))))] [] = some ((.tup [(.agg ((.d (.int .i64 r.1)) :: ((.d (.int .i64 r.2.1)) :: ((.r (.own 0 33 4 r.2.2.1.length (e_GCell.cells r.2.2.1))) :: [])))), (.d (.int .i64 r.2.2.2))]), []) := by
  refine lev_go codes14 rfl rfl (Nat.le_trans (Nat.le_of_ble_eq_true rfl) hd) fun Q hQ => ?_
  unfold f14 at hS
  show ZR _ Q c14_b [] _
  replace hQ : ∀ e st', f14_Q r e st' → Q e st' := hQ
  refine zrSeq ?_
  refine zrReg ?_
  refine zlRun (n := 4) (j := 4) rfl (by kernel_rfl) ?_
  refine zlEnd (by kernel_rfl) ?_
  refine zkSeq ?_
  refine zrSeq ?_
  refine zrRegD ?_
  refine zdRun (n := 5) (j := 5) (ts := [[(48, false)], [(48, false)], [], [], []]) (acc' := [[(48, false)], [(48, false)], [], [], []]) rfl (by kernel_rfl) (by kernel_rfl) (by kernel_rfl) ?_
  refine bindE hS (fun z5 hz5 hS => ?_)
  refine zdOp (d := some 19) (op := (.call 34 [(.tmp 15), (.tmp 16), (.tmp 17), (.tmp 18)])) (g := none) (v := (.d (.bool z5))) (ups := []) (j := 6) (t1 := [(160, true), (161, true), (162, true), (163, true), (164, true), (165, true), (166, true), (167, true)]) (acc' := [[(48, false)], [(48, false)], [], [], [], [(160, true), (161, true), (162, true), (163, true), (164, true), (165, true), (166, true), (167, true)]]) (by kernel_rfl) (by kernel_rfl) rfl (by kernel_rfl) (by kernel_rfl) (ev_call (args := [(.agg ((.d (.int .i64 a1.Wide)) :: ((.d (.int .i64 a1.High)) :: ((.d (.sl a1.Cells.length (e_GCell.cells a1.Cells))) :: [])))), (.d (.int .i64 a2)), (.d (.int .i64 a3)), (.d (.int .i64 a4))]) (l := [(.agg ((.d (.int .i64 a1.Wide)) :: ((.d (.int .i64 a1.High)) :: ((.d (.sl a1.Cells.length (e_GCell.cells a1.Cells))) :: [])))), (.d (.int .i64 a2)), (.d (.int .i64 a3)), (.d (.int .i64 a4))]) (r := (.d (.bool z5))) (by kernel_rfl) (by kernel_rfl) (f34_ok base (d - 1) (dpt hd rfl) a1 a2 a3 a4 z5 hz5) (by kernel_rfl) (by kernel_rfl) (by kernel_rfl)) ?_
  refine zdRun (n := 1) (j := 7) (ts := [[(80, false)]]) (acc' := [[(48, false)], [(48, false)], [], [], [], [(160, true), (161, true), (162, true), (163, true), (164, true), (165, true), (166, true), (167, true)], [(80, false)]]) rfl (by kernel_rfl) (by kernel_rfl) (by kernel_rfl) ?_
  refine bindE hS (fun z6 hz6 hS => ?_)
  refine zdOp (d := some 21) (op := (.callf 29 [(.tmp 14), (.tmp 19), (.tmp 20)])) (g := none) (v := (.tup [(.agg ((.d (.int .i64 z6.1)) :: ((.d (.int .i64 z6.2.1)) :: ((.r (.msl 176 1 0 z6.2.2.1.length)) :: [])))), (.d (.int .i64 z6.2.2.2))])) (ups := [(176, ⟨1, some (.own 33 4 (e_GCell.cells z6.2.2.1))⟩)]) (j := 8) (t1 := [(176, true), (177, true), (178, true), (179, true), (180, true), (181, true), (182, true), (183, true)]) (acc' := [[(48, false)], [(48, false)], [], [], [], [(160, true), (161, true), (162, true), (163, true), (164, true), (165, true), (166, true), (167, true)], [(80, false)], [(176, true), (177, true), (178, true), (179, true), (180, true), (181, true), (182, true), (183, true)]]) (by kernel_rfl) (by kernel_rfl) rfl (by kernel_rfl) (by kernel_rfl) (ev_callF (args := [(.agg ((.d (.int .i64 a1.Wide)) :: ((.d (.int .i64 a1.High)) :: ((.d (.sl a1.Cells.length (e_GCell.cells a1.Cells))) :: [])))), (.d (.bool z5)), (.agg ((.d (.int .i64 a5.Flags)) :: ((.d (.int .i64 a5.Fore)) :: ((.d (.int .i64 a5.Back)) :: []))))]) (args' := [(.agg ((.d (.int .i64 a1.Wide)) :: ((.d (.int .i64 a1.High)) :: ((.d (.sl a1.Cells.length (e_GCell.cells a1.Cells))) :: [])))), (.d (.bool z5)), (.agg ((.d (.int .i64 a5.Flags)) :: ((.d (.int .i64 a5.Fore)) :: ((.d (.int .i64 a5.Back)) :: []))))]) (l := [(.agg ((.d (.int .i64 a1.Wide)) :: ((.d (.int .i64 a1.High)) :: ((.d (.sl a1.Cells.length (e_GCell.cells a1.Cells))) :: [])))), (.d (.bool z5)), (.agg ((.d (.int .i64 a5.Flags)) :: ((.d (.int .i64 a5.Fore)) :: ((.d (.int .i64 a5.Back)) :: []))))]) (refs := []) (r := (.tup [(.agg ((.d (.int .i64 z6.1)) :: ((.d (.int .i64 z6.2.1)) :: ((.r (.own 0 33 4 z6.2.2.1.length (e_GCell.cells z6.2.2.1))) :: [])))), (.d (.int .i64 z6.2.2.2))])) (v := (.tup [(.agg ((.d (.int .i64 z6.1)) :: ((.d (.int .i64 z6.2.1)) :: ((.r (.msl 176 1 0 z6.2.2.1.length)) :: [])))), (.d (.int .i64 z6.2.2.2))])) (ups' := [(176, ⟨1, some (.own 33 4 (e_GCell.cells z6.2.2.1))⟩)]) (by kernel_rfl) (by kernel_rfl) (by kernel_rfl) (fz_cons rfl (fz_cons rfl (fz_cons rfl fz_nil))) (by kernel_rfl) (f29_ok base (d - 1) (dpt hd rfl) a1 z5 a5 z6 hz6) (by kernel_rfl) (by kernel_rfl) (by kernel_rfl) (by kernel_rfl)) ?_
  refine zdRun (n := 5) (j := 13) (ts := [[], [], [], [(48, true)], []]) (acc' := [[(48, false)], [(48, false)], [], [], [], [(160, true), (161, true), (162, true), (163, true), (164, true), (165, true), (166, true), (167, true)], [(80, false)], [(176, true), (177, true), (178, true), (179, true), (180, true), (181, true), (182, true), (183, true)], [], [], [], [(48, true)], []]) rfl (by kernel_rfl) (by kernel_rfl) (by kernel_rfl) ?_
  refine zdEnd (by kernel_rfl) (by kernel_rfl) ?_
  refine zkSeq ?_
  refine zrSeq ?_
  refine zrSeq ?_
  refine zrReg ?_
  refine zlRun (n := 1) (j := 1) rfl (by kernel_rfl) ?_
  refine zlBool (d := 25) (op := (.cmpI .neq (.tmp 24) (.const (.int .i64 0)))) (g := none) (j := 2) (!decide (z6.2.2.2 = 0)) rfl (by kernel_rfl) (by kernel_rfl) (by kernel_rfl) (fun hc => ?_) (fun hc => ?_)
  · replace hS := cond_t hc hS
    refine zlEnd (by kernel_rfl) ?_
    refine zkSeq ?_
    refine zrCondT (by kernel_rfl) ?_
    refine zrSeq ?_
    refine zrReg ?_
    refine zlRun (n := 4) (j := 4) rfl (by kernel_rfl) ?_
    refine zlEnd (by kernel_rfl) ?_
    refine zkSeq ?_
    refine zrRet ?_
    refine zkSeqR ?_
    refine zkNil ?_
    exact endQ hS hQ (fRet (by kernel_rfl) ((congrArg (fun s => outR s 0 c14.res) (by kernel_rfl : finSt c14.fin _ = f14_fin z6.1 z6.2.1 z6.2.2.1 z6.2.2.2)).trans (f14_out z6.1 z6.2.1 z6.2.2.1 z6.2.2.2)))
  · replace hS := cond_f hc hS
    refine zlEnd (by kernel_rfl) ?_
    refine zkSeq ?_
    refine zrCondF (by kernel_rfl) ?_
    refine zrSkip ?_
    refine zkSeq ?_
    exact f14_j0_ok hd a1 a2 a3 a4 a5 hQ z6.1 z6.2.1 z6.2.2.1 hS (by kernel_rfl)
/- farwriter/grid.far -/
def f40_fin (p3 : Bool) : St := ⟨(up (fun _ => .un) 2 (.d (.bool p3))), (hB fun _ => 0)⟩
theorem f40_out (p3 : Bool) : outR (f40_fin p3) 0 c40.res = some ((.d (.bool p3)), []) := by
  kernel_rfl
def f40_Q (r : Bool) (e : PX) (st : St) : Prop := DoneF c40 0 ((.d (.bool r)), []) e st
noncomputable def f40 (a1 : Int) : Option (Bool) := (bif (decide ((-16383) ≤ a1)) then (bif (decide (a1 ≤ 16383)) then (some true) else (some false)) else (some false))
theorem f40_ok (base : Orc) (d : Nat) (hd : 1 ≤ d) (a1 : Int) (r : Bool) (hS : f40 a1 = some r) : lev codes base d 40 [(.d (.int .i64 a1))] [] = some ((.d (.bool r)), []) := by
  refine lev_go codes40 rfl rfl (Nat.le_trans (Nat.le_of_ble_eq_true rfl) hd) fun Q hQ => ?_
  unfold f40 at hS
  show ZR _ Q c40_b [] _
  replace hQ : ∀ e st', f40_Q r e st' → Q e st' := hQ
  refine zrSeq ?_
  refine zrReg ?_
  refine zlRun (n := 1) (j := 1) rfl (by kernel_rfl) ?_
  refine zlEnd (by kernel_rfl) ?_
  refine zkSeq ?_
  refine zrSeq ?_
  refine zrReg ?_
  refine zlRun (n := 1) (j := 1) rfl (by kernel_rfl) ?_
  refine zlBool (d := 4) (op := (.cmpI .geq (.tmp 3) (.const (.int .i64 (-16383))))) (g := none) (j := 2) (decide ((-16383) ≤ a1)) rfl (by kernel_rfl) (by kernel_rfl) (by kernel_rfl) (fun hc => ?_) (fun hc => ?_)
  · replace hS := cond_t hc hS
    refine zlRun (n := 2) (j := 4) rfl (by kernel_rfl) ?_
    refine zlBool (d := 7) (op := (.cmpI .leq (.tmp 6) (.const (.int .i64 16383)))) (g := (some (5, true))) (j := 5) (decide (a1 ≤ 16383)) rfl (by kernel_rfl) (by kernel_rfl) (by kernel_rfl) (fun hc => ?_) (fun hc => ?_)
    · replace hS := cond_t hc hS
      refine zlRun (n := 2) (j := 7) rfl (by kernel_rfl) ?_
      refine zlEnd (by kernel_rfl) ?_
      refine zkSeq ?_
      refine zrRet ?_
      refine zkNil ?_
      exact endQ hS hQ (fRet (by kernel_rfl) ((congrArg (fun s => outR s 0 c40.res) (by kernel_rfl : finSt c40.fin _ = f40_fin true)).trans (f40_out true)))
    · replace hS := cond_f hc hS
      refine zlRun (n := 2) (j := 7) rfl (by kernel_rfl) ?_
      refine zlEnd (by kernel_rfl) ?_
      refine zkSeq ?_
      refine zrRet ?_
      refine zkNil ?_
      exact endQ hS hQ (fRet (by kernel_rfl) ((congrArg (fun s => outR s 0 c40.res) (by kernel_rfl : finSt c40.fin _ = f40_fin false)).trans (f40_out false)))
  · replace hS := cond_f hc hS
    refine zlRun (n := 5) (j := 7) rfl (by kernel_rfl) ?_
    refine zlEnd (by kernel_rfl) ?_
    refine zkSeq ?_
    refine zrRet ?_
    refine zkNil ?_
    exact endQ hS hQ (fRet (by kernel_rfl) ((congrArg (fun s => outR s 0 c40.res) (by kernel_rfl : finSt c40.fin _ = f40_fin false)).trans (f40_out false)))
/- farwriter/grid.ShiftIn$1 -/
def f60_fin (p1 : GCell) : St := ⟨(up (fun _ => .un) 1 (.r (.ptr 16 0 0))), (up (hB fun _ => 0) 16 ⟨0, some (.box ((.d (.int .i64 p1.Rune)) :: ((.d (.int .i64 p1.Pen.Flags)) :: ((.d (.int .i64 p1.Pen.Fore)) :: ((.d (.int .i64 p1.Pen.Back)) :: [])))))⟩)⟩
theorem f60_out (p1 : GCell) : outR (f60_fin p1) 0 c60.res = some ((.agg ((.d (.int .i64 p1.Rune)) :: ((.d (.int .i64 p1.Pen.Flags)) :: ((.d (.int .i64 p1.Pen.Fore)) :: ((.d (.int .i64 p1.Pen.Back)) :: []))))), []) := by
  kernel_rfl
def f60_Q (r : GCell) (e : PX) (st : St) : Prop := DoneF c60 0 ((.agg ((.d (.int .i64 r.Rune)) :: ((.d (.int .i64 r.Pen.Flags)) :: ((.d (.int .i64 r.Pen.Fore)) :: ((.d (.int .i64 r.Pen.Back)) :: []))))), []) e st
noncomputable def f60 (a1 : GPen) (a2 : List PD) : Option (GCell) := ((f54 a1).bind fun z2 => (some z2))
theorem f60_ok (base : Orc) (d : Nat) (hd : 2 ≤ d) (a1 : GPen) (a2 : List PD) (r : GCell) (hS : f60 a1 a2 = some r) : lev codes base d 60 [(.rptr (e_GPen.enc a1 ++ a2))] [] = some ((.agg ((.d (.int .i64 r.Rune)) :: ((.d (.int .i64 r.Pen.Flags)) :: ((.d (.int .i64 r.Pen.Fore)) :: ((.d (.int .i64 r.Pen.Back)) :: []))))), []) := by
  refine lev_go codes60 rfl rfl (Nat.le_trans (Nat.le_of_ble_eq_true rfl) hd) fun Q hQ => ?_
  unfold f60 at hS
  show ZR _ Q c60_b [] _
  replace hQ : ∀ e st', f60_Q r e st' → Q e st' := hQ
  refine zrSeq ?_
  refine zrReg ?_
  refine zlRun (n := 1) (j := 1) rfl (by kernel_rfl) ?_
  refine zlEnd (by kernel_rfl) ?_
  refine zkSeq ?_
  refine zrSeq ?_
  refine zrReg ?_
  refine zlRun (n := 1) (j := 1) rfl (by kernel_rfl) ?_
  refine bindE hS (fun z2 hz2 hS => ?_)
  refine zlOp (d := some 3) (op := (.call 54 [(.tmp 2)])) (g := none) (v := (.agg ((.d (.int .i64 z2.Rune)) :: ((.d (.int .i64 z2.Pen.Flags)) :: ((.d (.int .i64 z2.Pen.Fore)) :: ((.d (.int .i64 z2.Pen.Back)) :: [])))))) (ups := []) (j := 2) rfl (by kernel_rfl) (by kernel_rfl) (ev_call (args := [(.agg ((.d (.int .i64 a1.Flags)) :: ((.d (.int .i64 a1.Fore)) :: ((.d (.int .i64 a1.Back)) :: []))))]) (l := [(.agg ((.d (.int .i64 a1.Flags)) :: ((.d (.int .i64 a1.Fore)) :: ((.d (.int .i64 a1.Back)) :: []))))]) (r := (.agg ((.d (.int .i64 z2.Rune)) :: ((.d (.int .i64 z2.Pen.Flags)) :: ((.d (.int .i64 z2.Pen.Fore)) :: ((.d (.int .i64 z2.Pen.Back)) :: [])))))) (by kernel_rfl) (by kernel_rfl) (f54_ok base (d - 1) (dpt hd rfl) a1 z2 hz2) (by kernel_rfl) (by kernel_rfl) (by kernel_rfl)) ?_
  refine zlRun (n := 1) (j := 3) rfl (by kernel_rfl) ?_
  refine zlEnd (by kernel_rfl) ?_
  refine zkSeq ?_
  refine zrRet ?_
  refine zkNil ?_
  exact endQ hS hQ (fRet (by kernel_rfl) ((congrArg (fun s => outR s 0 c60.res) (by kernel_rfl : finSt c60.fin _ = f60_fin z2)).trans (f60_out z2)))
/- farwriter/grid.move[farwriter/api.Cell] -/
def f59_fin (p41 : List GCell) : St := ⟨(up (fun _ => .un) 6 (.r (.msl 64 0 0 p41.length))), (up (hB fun _ => 0) 64 ⟨0, some (.own 33 4 (e_GCell.cells p41))⟩)⟩
theorem f59_out (p41 : List GCell) : outR (f59_fin p41) 0 c59.res = some ((.r (.own 0 33 4 p41.length (e_GCell.cells p41))), []) := by
  exact out_of (ids := []) (ids' := [64]) (l := [(.r (.msl 64 0 0 p41.length))]) (by kernel_rfl) (by kernel_rfl) (o_own e_GCell (e := 33) (k := 4) (xs := p41) (by kernel_rfl) rfl rfl rfl rfl)
def f59_Q (r : (List GCell)) (e : PX) (st : St) : Prop := DoneF c59 0 ((.r (.own 0 33 4 r.length (e_GCell.cells r))), []) e st
def f59_l0_J (a1 : List GCell) (a2 : Int) (a3 : GPen) (a4 : List PD) (x : (List GCell) × Int) : St := ⟨(up (up (up (up (up (up (fun _ => .un) 12 (.d (.int .i64 x.2))) 11 (.d (.int .i64 (a1.length : Int)))) 7 (.r (.msl 64 0 0 x.1.length))) 2 (.fn 60 [(.rptr (e_GPen.enc a3 ++ a4))])) 1 (.d (.int .i64 a2))) 0 (.d (.sl a1.length (e_GCell.cells a1)))), (up (hB fun _ => 0) 64 ⟨0, some (.own 33 4 (e_GCell.cells x.1))⟩)⟩
def f59_l0_H (a1 : List GCell) (a2 : Int) (a3 : GPen) (a4 : List PD) (x : (List GCell) × Int) (st : St) : Prop := keepSt [0, 1, 2, 7, 11, 12] [(64, .id 64)] [] st = f59_l0_J a1 a2 a3 a4 x
def f59_l0_e0_J (a1 : List GCell) (a2 : Int) (a3 : GPen) (a4 : List PD) (p40 : List GCell) : St := ⟨(up (fun _ => .un) 7 (.r (.msl 64 0 0 p40.length))), (up (hB fun _ => 0) 64 ⟨0, some (.own 33 4 (e_GCell.cells p40))⟩)⟩
def f59_l0_X (a1 : List GCell) (a2 : Int) (a3 : GPen) (a4 : List PD) (z : ((List GCell))) (e : PX) (st : St) : Prop := e = .exit 0 ∧ st = f59_l0_e0_J a1 a2 a3 a4 z
def f59_l0_j3_J (a1 : List GCell) (a2 : Int) (a3 : GPen) (a4 : List PD) (p52 : List GCell) (p53 : Int) : St := ⟨(up (up (up (up (up (up (fun _ => .un) 12 (.d (.int .i64 p53))) 11 (.d (.int .i64 (a1.length : Int)))) 7 (.r (.msl 64 0 0 p52.length))) 2 (.fn 60 [(.rptr (e_GPen.enc a3 ++ a4))])) 1 (.d (.int .i64 a2))) 0 (.d (.sl a1.length (e_GCell.cells a1)))), (up (hB fun _ => 0) 64 ⟨0, some (.own 33 4 (e_GCell.cells p52))⟩)⟩
noncomputable def f59_l0_j3 (a1 : List GCell) (a2 : Int) (a3 : GPen) (a4 : List PD) (p52 : List GCell) (p53 : Int) : Option (((List GCell) × Int) ⊕ (((List GCell)))) := ((f60 a3 a4).bind fun z13 => ((app? 32 p52 ([z13] : List GCell)).bind fun z14 => (some (.inl (z14, (IntKind.i64.wrap (p53 + 1)))))))
theorem f59_l0_j3_ok {base : Orc} {d : Nat} (hd : 3 ≤ d) (a1 : List GCell) (a2 : Int) (a3 : GPen) (a4 : List PD) {r : ((List GCell) × Int) ⊕ (((List GCell)))} {Q : PX → St → Prop} (hQ : ∀ e st', finL (f59_l0_H a1 a2 a3 a4) (f59_l0_X a1 a2 a3 a4) r e st' → Q e st') (p52 : List GCell) (p53 : Int) (hS : f59_l0_j3 a1 a2 a3 a4 p52 p53 = some r) {st : St} (he : keepSt [0, 1, 2, 7, 11, 12] [(64, .id 64)] [] st = f59_l0_j3_J a1 a2 a3 a4 p52 p53) : ZR (lev codes base (d - 1)) Q c59_1 [.blk 1, .seq c59_2] st := by
  refine zrKeep he ?_
  unfold f59_l0_j3 at hS
  refine zrReg ?_
  refine zlRun (n := 2) (j := 2) rfl (by kernel_rfl) ?_
  refine bindE hS (fun z13 hz13 hS => ?_)
  refine zlOp (d := some 35) (op := (.callv (.tmp 34) [])) (g := none) (v := (.agg ((.d (.int .i64 z13.Rune)) :: ((.d (.int .i64 z13.Pen.Flags)) :: ((.d (.int .i64 z13.Pen.Fore)) :: ((.d (.int .i64 z13.Pen.Back)) :: [])))))) (ups := []) (j := 3) rfl (by kernel_rfl) (by kernel_rfl) (ev_callv (f := 60) (cs := [(.rptr (e_GPen.enc a3 ++ a4))]) (by kernel_rfl) (args := [(.rptr (e_GPen.enc a3 ++ a4))]) (l := [(.rptr (e_GPen.enc a3 ++ a4))]) (r := (.agg ((.d (.int .i64 z13.Rune)) :: ((.d (.int .i64 z13.Pen.Flags)) :: ((.d (.int .i64 z13.Pen.Fore)) :: ((.d (.int .i64 z13.Pen.Back)) :: [])))))) (by kernel_rfl) (by kernel_rfl) (f60_ok base (d - 1) (dpt hd rfl) a3 a4 z13 hz13) (by kernel_rfl) (by kernel_rfl) (by kernel_rfl)) ?_
  refine zlRun (n := 1) (j := 4) rfl (by kernel_rfl) ?_
  refine bindE hS (fun z14 hz14 hS => ?_)
  refine zlOp (d := some 37) (op := (.app 33 4 32 (.tmp 33) (.tmp 36))) (g := none) (v := (.r (.msl 64 1 0 z14.length))) (ups := [(64, ⟨1, some (.own 33 4 (e_GCell.cells z14))⟩)]) (j := 5) rfl (by kernel_rfl) (by kernel_rfl) (ev_app e_GCell (b := 64) (g := 0) (n := p52.length) (xs := p52) (ys := [z13]) ((congrArg (asL _) (by kernel_rfl : ρof _ (.tmp 36) = (.r (.msl 296 1 0 (([z13] : List GCell).length))))).trans (as_whole e_GCell (e := 33) (k := 4) (xs := [z13]) (by kernel_rfl) rfl rfl)) rfl (by kernel_rfl) rfl (by kernel_rfl) rfl hz14) ?_
  refine zlRun (n := 1) (j := 6) rfl (by kernel_rfl) ?_
  refine zlEnd (by kernel_rfl) ?_
  refine zkBlk ?_
  refine zkSeq ?_
  refine zrReg ?_
  refine zlRun (n := 2) (j := 2) rfl (by kernel_rfl) ?_
  refine zlEnd (by kernel_rfl) ?_
  refine zkNil ?_
  exact endQ hS hQ (finL_n (by show keepSt _ _ _ _ = _; kernel_rfl))
def f59_l0_j2_J (a1 : List GCell) (a2 : Int) (a3 : GPen) (a4 : List PD) (p48 : List GCell) (p49 : Int) : St := ⟨(up (up (up (up (up (up (fun _ => .un) 12 (.d (.int .i64 p49))) 11 (.d (.int .i64 (a1.length : Int)))) 7 (.r (.msl 64 0 0 p48.length))) 2 (.fn 60 [(.rptr (e_GPen.enc a3 ++ a4))])) 1 (.d (.int .i64 a2))) 0 (.d (.sl a1.length (e_GCell.cells a1)))), (up (hB fun _ => 0) 64 ⟨0, some (.own 33 4 (e_GCell.cells p48))⟩)⟩
noncomputable def f59_l0_j2 (a1 : List GCell) (a2 : Int) (a3 : GPen) (a4 : List PD) (p48 : List GCell) (p49 : Int) : Option (((List GCell) × Int) ⊕ (((List GCell)))) := (bif (decide (0 ≤ (IntKind.i64.wrap (p49 - a2)))) then (bif (decide ((IntKind.i64.wrap (p49 - a2)) < (a1.length : Int))) then ((idx a1 (IntKind.i64.wrap (p49 - a2))).bind fun z15 => ((app? 32 p48 ([z15] : List GCell)).bind fun z16 => (some (.inl (z16, (IntKind.i64.wrap (p49 + 1))))))) else (f59_l0_j3 a1 a2 a3 a4 p48 p49)) else (f59_l0_j3 a1 a2 a3 a4 p48 p49))
theorem f59_l0_j2_ok {base : Orc} {d : Nat} (hd : 3 ≤ d) (a1 : List GCell) (a2 : Int) (a3 : GPen) (a4 : List PD) {r : ((List GCell) × Int) ⊕ (((List GCell)))} {Q : PX → St → Prop} (hQ : ∀ e st', finL (f59_l0_H a1 a2 a3 a4) (f59_l0_X a1 a2 a3 a4) r e st' → Q e st') (p48 : List GCell) (p49 : Int) (hS : f59_l0_j2 a1 a2 a3 a4 p48 p49 = some r) {st : St} (he : keepSt [0, 1, 2, 7, 11, 12] [(64, .id 64)] [] st = f59_l0_j2_J a1 a2 a3 a4 p48 p49) : ZR (lev codes base (d - 1)) Q c59_3 [] st := by
  refine zrKeep he ?_
  unfold f59_l0_j2 at hS
  refine zrSeq ?_
  refine zrBlk ?_
  refine zrSeq ?_
  refine zrReg ?_
  refine zlRun (n := 2) (j := 2) rfl (by kernel_rfl) ?_
  refine zlEnd (by kernel_rfl) ?_
  refine zkSeq ?_
  refine zrSeq ?_
  refine zrReg ?_
  refine zlRun (n := 4) (j := 4) rfl (by kernel_rfl) ?_
  refine zlEnd (by kernel_rfl) ?_
  refine zkSeq ?_
  refine zrSeq ?_
  refine zrReg ?_
  refine zlRun (n := 1) (j := 1) rfl (by kernel_rfl) ?_
  refine zlBool (d := 19) (op := (.cmpI .geq (.tmp 18) (.const (.int .i64 0)))) (g := none) (j := 2) (decide (0 ≤ (IntKind.i64.wrap (p49 - a2)))) rfl (by kernel_rfl) (by kernel_rfl) (by kernel_rfl) (fun hc => ?_) (fun hc => ?_)
  · replace hS := cond_t hc hS
    refine zlRun (n := 4) (j := 6) rfl (by kernel_rfl) ?_
    refine zlBool (d := 24) (op := (.cmpI .lss (.tmp 21) (.tmp 23))) (g := (some (20, true))) (j := 7) (decide ((IntKind.i64.wrap (p49 - a2)) < (a1.length : Int))) rfl (by kernel_rfl) (by kernel_rfl) (by kernel_rfl) (fun hc => ?_) (fun hc => ?_)
    · replace hS := cond_t hc hS
      refine zlRun (n := 1) (j := 8) rfl (by kernel_rfl) ?_
      refine zlEnd (by kernel_rfl) ?_
      refine zkSeq ?_
      refine zrCondT (by kernel_rfl) ?_
      refine zrReg ?_
      refine zlRun (n := 3) (j := 3) rfl (by kernel_rfl) ?_
      refine bindE hS (fun z15 hz15 hS => ?_)
      refine zlOp (d := some 29) (op := (.ixS 33 4 (.tmp 27) (.tmp 28))) (g := none) (v := (.rptr (e_GCell.enc z15 ++ (e_GCell.cells (a1.drop (((IntKind.i64.wrap (p49 - a2)) : Int).toNat + 1)))))) (ups := []) (j := 4) rfl (by kernel_rfl) (by kernel_rfl) (ev_ixS e_GCell (kk := .i64) (xs := a1) (j := (IntKind.i64.wrap (p49 - a2))) (by kernel_rfl) (by kernel_rfl) hz15 rfl (by intro h; cases h)) ?_
      refine zlRun (n := 2) (j := 6) rfl (by kernel_rfl) ?_
      refine bindE hS (fun z16 hz16 hS => ?_)
      refine zlOp (d := some 32) (op := (.app 33 4 32 (.tmp 26) (.tmp 31))) (g := none) (v := (.r (.msl 64 1 0 z16.length))) (ups := [(64, ⟨1, some (.own 33 4 (e_GCell.cells z16))⟩)]) (j := 7) rfl (by kernel_rfl) (by kernel_rfl) (ev_app e_GCell (b := 64) (g := 0) (n := p48.length) (xs := p48) (ys := [z15]) ((congrArg (asL _) (by kernel_rfl : ρof _ (.tmp 31) = (.r (.msl 256 1 0 (([z15] : List GCell).length))))).trans (as_whole e_GCell (e := 33) (k := 4) (xs := [z15]) (by kernel_rfl) rfl rfl)) rfl (by kernel_rfl) rfl (by kernel_rfl) rfl hz16) ?_
      refine zlRun (n := 1) (j := 8) rfl (by kernel_rfl) ?_
      refine zlEnd (by kernel_rfl) ?_
      refine zkBlk ?_
      refine zkSeq ?_
      refine zrReg ?_
      refine zlRun (n := 2) (j := 2) rfl (by kernel_rfl) ?_
      refine zlEnd (by kernel_rfl) ?_
      refine zkNil ?_
      exact endQ hS hQ (finL_n (by show keepSt _ _ _ _ = _; kernel_rfl))
    · replace hS := cond_f hc hS
      refine zlRun (n := 1) (j := 8) rfl (by kernel_rfl) ?_
      refine zlEnd (by kernel_rfl) ?_
      refine zkSeq ?_
      refine zrCondF (by kernel_rfl) ?_
      exact f59_l0_j3_ok hd a1 a2 a3 a4 hQ p48 p49 hS (by kernel_rfl)
  · replace hS := cond_f hc hS
    refine zlRun (n := 6) (j := 8) rfl (by kernel_rfl) ?_
    refine zlEnd (by kernel_rfl) ?_
    refine zkSeq ?_
    refine zrCondF (by kernel_rfl) ?_
    exact f59_l0_j3_ok hd a1 a2 a3 a4 hQ p48 p49 hS (by kernel_rfl)
def f59_l0_j1_J (a1 : List GCell) (a2 : Int) (a3 : GPen) (a4 : List PD) (p45 : List GCell) (p46 : Int) (p47 : Bool) : St := ⟨(up (up (up (up (up (up (up (fun _ => .un) 13 (.d (.bool p47))) 12 (.d (.int .i64 p46))) 11 (.d (.int .i64 (a1.length : Int)))) 7 (.r (.msl 64 0 0 p45.length))) 2 (.fn 60 [(.rptr (e_GPen.enc a3 ++ a4))])) 1 (.d (.int .i64 a2))) 0 (.d (.sl a1.length (e_GCell.cells a1)))), (up (hB fun _ => 0) 64 ⟨0, some (.own 33 4 (e_GCell.cells p45))⟩)⟩
noncomputable def f59_l0_j1 (a1 : List GCell) (a2 : Int) (a3 : GPen) (a4 : List PD) (p45 : List GCell) (p46 : Int) (p47 : Bool) : Option (((List GCell) × Int) ⊕ (((List GCell)))) := (bif p47 then (f59_l0_j2 a1 a2 a3 a4 p45 p46) else (some (.inr p45)))
theorem f59_l0_j1_ok {base : Orc} {d : Nat} (hd : 3 ≤ d) (a1 : List GCell) (a2 : Int) (a3 : GPen) (a4 : List PD) {r : ((List GCell) × Int) ⊕ (((List GCell)))} {Q : PX → St → Prop} (hQ : ∀ e st', finL (f59_l0_H a1 a2 a3 a4) (f59_l0_X a1 a2 a3 a4) r e st' → Q e st') (p45 : List GCell) (p46 : Int) (p47 : Bool) (hS : f59_l0_j1 a1 a2 a3 a4 p45 p46 p47 = some r) {st : St} (he : keepSt [0, 1, 2, 7, 11, 12, 13] [(64, .id 64)] [] st = f59_l0_j1_J a1 a2 a3 a4 p45 p46 p47) : ZR (lev codes base (d - 1)) Q c59_4 [] st := by
  refine zrKeep he ?_
  unfold f59_l0_j1 at hS
  refine zrSeq ?_
  refine zrSplit 13 p47 (by kernel_rfl) (fun hc => ?_) (fun hc => ?_)
  · replace hS := cond_t hc hS
    refine zrCondT (by kernel_rfl) ?_
    refine zrSkip ?_
    refine zkSeq ?_
    exact f59_l0_j2_ok hd a1 a2 a3 a4 hQ p45 p46 hS (by kernel_rfl)
  · replace hS := cond_f hc hS
    refine zrCondF (by kernel_rfl) ?_
    refine zrKeep (J := f59_l0_e0_J a1 a2 a3 a4 p45) (by kernel_rfl) ?_
    refine zrExit ?_
    refine zkSeqX ?_
    refine zkNil ?_
    exact endQ hS hQ (finL_x (by intro h; cases h) (by show _ = _ ∧ _ = _; exact ⟨rfl, rfl⟩))
noncomputable def f59_l0 (a1 : List GCell) (a2 : Int) (a3 : GPen) (a4 : List PD) (x : (List GCell) × Int) : Option (((List GCell) × Int) ⊕ (((List GCell)))) := (bif (decide (x.2 < (a1.length : Int))) then (f59_l0_j1 a1 a2 a3 a4 x.1 x.2 true) else (f59_l0_j1 a1 a2 a3 a4 x.1 x.2 false))
theorem f59_l0_ok {base : Orc} {d : Nat} (hd : 3 ≤ d) (a1 : List GCell) (a2 : Int) (a3 : GPen) (a4 : List PD) {r : ((List GCell) × Int) ⊕ (((List GCell)))} {Q : PX → St → Prop} (hQ : ∀ e st', finL (f59_l0_H a1 a2 a3 a4) (f59_l0_X a1 a2 a3 a4) r e st' → Q e st') {x : (List GCell) × Int} (hS : f59_l0 a1 a2 a3 a4 x = some r) {st : St} (he : f59_l0_H a1 a2 a3 a4 x st) : ZR (lev codes base (d - 1)) Q c59_5 [] st := by
  refine zrKeep he ?_
  unfold f59_l0 at hS
  refine zrSeq ?_
  refine zrReg ?_
  refine zlBool (d := 13) (op := (.cmpI .lss (.tmp 12) (.tmp 11))) (g := none) (j := 1) (decide (x.2 < (a1.length : Int))) rfl (by kernel_rfl) (by kernel_rfl) (by kernel_rfl) (fun hc => ?_) (fun hc => ?_)
  · replace hS := cond_t hc hS
    refine zlEnd (by kernel_rfl) ?_
    refine zkSeq ?_
    exact f59_l0_j1_ok hd a1 a2 a3 a4 hQ x.1 x.2 true hS (by kernel_rfl)
  · replace hS := cond_f hc hS
    refine zlEnd (by kernel_rfl) ?_
    refine zkSeq ?_
    exact f59_l0_j1_ok hd a1 a2 a3 a4 hQ x.1 x.2 false hS (by kernel_rfl)
noncomputable def f59 (a1 : List GCell) (a2 : Int) (a3 : GPen) (a4 : List PD) : Option ((List GCell)) := ((loopO (f59_l0 a1 a2 a3 a4) ([], 0)).bind fun z17 => (some z17))
theorem f59_ok (base : Orc) (d : Nat) (hd : 3 ≤ d) (a1 : List GCell) (a2 : Int) (a3 : GPen) (a4 : List PD) (r : (List GCell)) (hS : f59 a1 a2 a3 a4 = some r) : lev codes base d 59 [(.d (.sl a1.length (e_GCell.cells a1))), (.d (.int .i64 a2)), (.fn 60 [(.rptr (e_GPen.enc a3 ++ a4))])] [] = some ((.r (.own 0 33 4 r.length (e_GCell.cells r))), []) := by
  refine lev_go codes59 rfl rfl (Nat.le_trans (Nat.le_of_ble_eq_true rfl) hd) fun Q hQ => ?_
  unfold f59 at hS
  show ZR _ Q c59_b [] _
  replace hQ : ∀ e st', f59_Q r e st' → Q e st' := hQ
  refine zrSeq ?_
  refine zrReg ?_
  refine zlRun (n := 1) (j := 1) rfl (by kernel_rfl) ?_
  refine zlEnd (by kernel_rfl) ?_
  refine zkSeq ?_
  refine zrSeq ?_
  refine zrReg ?_
  refine zlRun (n := 1) (j := 1) rfl (by kernel_rfl) ?_
  refine zlEnd (by kernel_rfl) ?_
  refine zkSeq ?_
  refine zrSeq ?_
  refine zrSeq ?_
  refine zrReg ?_
  refine zlRun (n := 3) (j := 3) rfl (by kernel_rfl) ?_
  refine zlEnd (by kernel_rfl) ?_
  refine zkSeq ?_
  refine zrBlk ?_
  refine bindE hS (fun z17 hz17 hS => ?_)
  refine zrLoop (f59_l0_H a1 a2 a3 a4) (f59_l0_X a1 a2 a3 a4) (fun x st r Q h0 hS hQ => f59_l0_ok hd a1 a2 a3 a4 hQ hS h0) (x := ([], 0)) (z := z17) (by show keepSt _ _ _ _ = _; kernel_rfl) hz17 ?_
  intro e st' _ hX
  obtain ⟨rfl, rfl⟩ : _ ∧ _ := hX
  refine zkBlkX ?_
  refine zkSeq ?_
  refine zrSeq ?_
  refine zrReg ?_
  refine zlRun (n := 2) (j := 2) rfl (by kernel_rfl) ?_
  refine zlEnd (by kernel_rfl) ?_
  refine zkSeq ?_
  refine zrRet ?_
  refine zkNil ?_
  exact endQ hS hQ (fRet (by kernel_rfl) ((congrArg (fun s => outR s 0 c59.res) (by kernel_rfl : finSt c59.fin _ = f59_fin z17)).trans (f59_out z17)))
/- farwriter/grid.ShiftIn -/
def f41_fin (p1 : List GCell) : St := ⟨(up (fun _ => .un) 2000000 .un), (up (hB fun _ => 0) 0 ⟨0, some (.own 33 4 (e_GCell.cells p1))⟩)⟩
theorem f41_out (p1 : List GCell) : outR (f41_fin p1) 1 c41.res = some ((.tup []), [(.own 33 4 (e_GCell.cells p1))]) := by
  kernel_rfl
def f41_Q (r : (List GCell)) (e : PX) (st : St) : Prop := DoneF c41 1 ((.tup []), [(.own 33 4 (e_GCell.cells r)), .box []]) e st
noncomputable def f41 (a1 : Int) (a2 : Int) (a3 : Int) (a4 : Int) (a5 : Int) (a6 : Int) (a7 : GPen) (a8 : List GCell) : Option ((List GCell)) := ((f33v1 a1 a2 a3 a8).bind fun z11 => ((chk (decide (z11.1.length = a8.length))).bind fun z12 => ((chk (decide (0 ≤ a4) && decide (a4 ≤ a5) && decide (a5 ≤ (z11.2.2 : Int)))).bind fun z13 => ((chk (decide (0 ≤ a4) && decide (a4 ≤ a5) && decide (a5 ≤ (z11.2.2 : Int)))).bind fun z14 => ((part? z11.1 (z11.2.1 + (a4 : Int).toNat) ((a5 : Int).toNat - (a4 : Int).toNat)).bind fun z15 => ((f59 z15 a6 a7 []).bind fun z16 => ((chk (decide ((z11.2.1 + (a4 : Int).toNat) + ((a5 : Int).toNat - (a4 : Int).toNat) ≤ z11.1.length))).bind fun z17 => ((some (cpyL z11.1 (z11.2.1 + (a4 : Int).toNat) ((a5 : Int).toNat - (a4 : Int).toNat) z16)).bind fun z18 => ((f46 z11.2.1 z11.2.2 z18).bind fun z19 => ((chk (decide (z19.length = z18.length))).bind fun z20 => (some z19)))))))))))
theorem f41_ok (base : Orc) (d : Nat) (hd : 5 ≤ d) (a1 : Int) (a2 : Int) (a3 : Int) (a4 : Int) (a5 : Int) (a6 : Int) (a7 : GPen) (a8 : List GCell) (r : (List GCell)) (hS : f41 a1 a2 a3 a4 a5 a6 a7 a8 = some r) : lev codes base d 41 [(.agg ((.d (.int .i64 a1)) :: ((.d (.int .i64 a2)) :: ((.r (.msl 0 0 0 a8.length)) :: [])))), (.d (.int .i64 a3)), (.d (.int .i64 a4)), (.d (.int .i64 a5)), (.d (.int .i64 a6)), (.agg ((.d (.int .i64 a7.Flags)) :: ((.d (.int .i64 a7.Fore)) :: ((.d (.int .i64 a7.Back)) :: []))))] [(.own 33 4 (e_GCell.cells a8))] = some ((.tup []), [(.own 33 4 (e_GCell.cells r)), .box []]) := by
  refine lev_go codes41 rfl rfl (Nat.le_trans (Nat.le_of_ble_eq_true rfl) hd) fun Q hQ => ?_
  unfold f41 at hS
  show ZR _ Q c41_b [] _
  replace hQ : ∀ e st', f41_Q r e st' → Q e st' := hQ
  refine zrSeq ?_
  refine zrReg ?_
  refine zlRun (n := 2) (j := 2) rfl (by kernel_rfl) ?_
  refine zlEnd (by kernel_rfl) ?_
  refine zkSeq ?_
  refine zrSeq ?_
  refine zrReg ?_
  refine zlRun (n := 2) (j := 2) rfl (by kernel_rfl) ?_
  refine bindE hS (fun z11 hz11 hS => ?_)
  refine bindE hS (fun z12 hz12 hS => ?_)
  refine zlOp (d := some 15) (op := (.callr 33 [(.tmp 13), (.tmp 14)])) (g := none) (v := (.r (.msl 0 0 z11.2.1 z11.2.2))) (ups := [(0, ⟨0, some (.own 33 4 (e_GCell.cells z11.1))⟩)]) (j := 3) rfl (by kernel_rfl) (by kernel_rfl) (ev_callrX (args := [(.agg ((.d (.int .i64 a1)) :: ((.d (.int .i64 a2)) :: ((.r (.msl 0 0 0 a8.length)) :: [])))), (.d (.int .i64 a3))]) (ids := [0]) (bs := [(.own 33 4 (e_GCell.cells a8))]) (l := [(.agg ((.d (.int .i64 a1)) :: ((.d (.int .i64 a2)) :: ((.r (.msl 0 0 0 a8.length)) :: [])))), (.d (.int .i64 a3))]) (bt := [(.own 33 4 (e_GCell.cells a8))]) (r := (.r (.msl 0 0 z11.2.1 z11.2.2))) (bs' := [(.own 33 4 (e_GCell.cells z11.1)), .box []]) (by kernel_rfl) (by kernel_rfl) (by kernel_rfl) (by kernel_rfl) (by kernel_rfl) (f33v1_ok base (d - 1) (dpt hd rfl) a1 a2 a3 a8 z11 hz11) (by kernel_rfl) (sm_own e_GCell (e1 := 33) (k1 := 4) (xs := a8) (ys := z11.1) (by kernel_rfl) hz12 sm_nil) (by kernel_rfl) (by kernel_rfl)) ?_
  have lz12 : a8.length = z11.1.length := (of_decide_eq_true (chk_t hz12)).symm
  skip
  try rw [lz12]
  refine zlRun (n := 1) (j := 4) rfl (by kernel_rfl) ?_
  refine zlEnd (by kernel_rfl) ?_
  refine zkSeq ?_
  refine zrSeq ?_
  refine zrRegD ?_
  refine zdRun (n := 3) (j := 3) (ts := [[], [], []]) (acc' := [[], [], []]) rfl (by kernel_rfl) (by kernel_rfl) (by kernel_rfl) ?_
  refine bindE hS (fun z13 hz13 hS => ?_)
  refine zdOp (d := some 19) (op := (.slS 33 4 (.tmp 16) (.some (.tmp 17)) (.some (.tmp 18)))) (g := none) (v := (.r (.msl 0 0 (z11.2.1 + (a4 : Int).toNat) ((a5 : Int).toNat - (a4 : Int).toNat)))) (ups := []) (j := 4) (t1 := [(0, false)]) (acc' := [[], [], [], [(0, false)]]) (by kernel_rfl) (by kernel_rfl) rfl (by kernel_rfl) (by kernel_rfl) (ev_slM (b := 0) (g := 0) (e := 33) (a := a4) (c := a5) (l := z11.2.1) (n := z11.2.2) (l' := (z11.2.1 + (a4 : Int).toNat)) (n' := ((a5 : Int).toNat - (a4 : Int).toNat)) (cs := e_GCell.cells z11.1) (by kernel_rfl) (by kernel_rfl) (bnd_s _ (kk := .i64) (j := a4) (by kernel_rfl)) (bnd_s _ (kk := .i64) (j := a5) (by kernel_rfl)) hz13 (by simp) rfl) ?_
  refine zdRun (n := 3) (j := 7) (ts := [[], [], []]) (acc' := [[], [], [], [(0, false)], [], [], []]) rfl (by kernel_rfl) (by kernel_rfl) (by kernel_rfl) ?_
  refine bindE hS (fun z14 hz14 hS => ?_)
  refine zdOp (d := some 23) (op := (.slS 33 4 (.tmp 20) (.some (.tmp 21)) (.some (.tmp 22)))) (g := none) (v := (.r (.msl 0 0 (z11.2.1 + (a4 : Int).toNat) ((a5 : Int).toNat - (a4 : Int).toNat)))) (ups := []) (j := 8) (t1 := [(0, false)]) (acc' := [[], [], [], [(0, false)], [], [], [], [(0, false)]]) (by kernel_rfl) (by kernel_rfl) rfl (by kernel_rfl) (by kernel_rfl) (ev_slM (b := 0) (g := 0) (e := 33) (a := a4) (c := a5) (l := z11.2.1) (n := z11.2.2) (l' := (z11.2.1 + (a4 : Int).toNat)) (n' := ((a5 : Int).toNat - (a4 : Int).toNat)) (cs := e_GCell.cells z11.1) (by kernel_rfl) (by kernel_rfl) (bnd_s _ (kk := .i64) (j := a4) (by kernel_rfl)) (bnd_s _ (kk := .i64) (j := a5) (by kernel_rfl)) hz14 (by simp) rfl) ?_
  refine zdRun (n := 2) (j := 10) (ts := [[], []]) (acc' := [[], [], [], [(0, false)], [], [], [], [(0, false)], [], []]) rfl (by kernel_rfl) (by kernel_rfl) (by kernel_rfl) ?_
  refine bindE hS (fun z15 hz15 hS => ?_)
  refine bindE hS (fun z16 hz16 hS => ?_)
  refine zdOp (d := some 26) (op := (.call 59 [(.tmp 23), (.tmp 24), (.tmp 25)])) (g := none) (v := (.r (.msl 216 1 0 z16.length))) (ups := [(216, ⟨1, some (.own 33 4 (e_GCell.cells z16))⟩)]) (j := 11) (t1 := [(0, false), (96, false), (216, true), (217, true), (218, true), (219, true), (220, true), (221, true), (222, true), (223, true)]) (acc' := [[], [], [], [(0, false)], [], [], [], [(0, false)], [], [], [(0, false), (96, false), (216, true), (217, true), (218, true), (219, true), (220, true), (221, true), (222, true), (223, true)]]) (by kernel_rfl) (by kernel_rfl) rfl (by kernel_rfl) (by kernel_rfl) (ev_call (args := [(.r (.msl 0 0 (z11.2.1 + (a4 : Int).toNat) ((a5 : Int).toNat - (a4 : Int).toNat))), (.d (.int .i64 a6)), (.fn 60 [(.r (.ptr 96 1 0))])]) (l := [(.d (.sl z15.length (e_GCell.cells z15))), (.d (.int .i64 a6)), (.fn 60 [(.rptr (e_GPen.enc a7 ++ []))])]) (r := (.r (.own 0 33 4 z16.length (e_GCell.cells z16)))) (by kernel_rfl) (l_cons (l_part e_GCell (e := 33) (k := 4) (xs := z11.1) (by kernel_rfl) rfl hz15) (l_cons (by kernel_rfl) (l_cons (by kernel_rfl) l_nil))) (f59_ok base (d - 1) (dpt hd rfl) z15 a6 a7 [] z16 hz16) (by simp only [free_own e_GCell (fun _ => rfl), free_tup, free_agg, free_nl, free_cs, free_int, free_bool, free_str, free_un, free_ni, free_s0, Bool.and_true, Bool.or_true, Bool.and_self]) (by kernel_rfl) (by kernel_rfl)) ?_
  refine bindE hS (fun z17 hz17 hS => ?_)
  refine bindE hS (fun z18 hz18 hS => ?_)
  refine zdOp (d := some 27) (op := (.cpy 4 (.tmp 19) (.tmp 26))) (g := none) (v := (.d (.int .i64 ((min z16.length ((a5 : Int).toNat - (a4 : Int).toNat) : Nat) : Int)))) (ups := [(0, ⟨0, some (.own 33 4 (e_GCell.cells (cpyL z11.1 (z11.2.1 + (a4 : Int).toNat) ((a5 : Int).toNat - (a4 : Int).toNat) z16)))⟩)]) (j := 12) (t1 := [(0, true), (216, false)]) (acc' := [[], [], [], [(0, false)], [], [], [], [(0, false)], [], [], [(0, false), (96, false), (216, true), (217, true), (218, true), (219, true), (220, true), (221, true), (222, true), (223, true)], [(0, true), (216, false)]]) (by kernel_rfl) (by kernel_rfl) rfl (by kernel_rfl) (by kernel_rfl) (ev_cpy e_GCell (b := 0) (g := 0) (l := (z11.2.1 + (a4 : Int).toNat)) (n := ((a5 : Int).toNat - (a4 : Int).toNat)) (e := 33) (xs := z11.1) (ys := z16) (by kernel_rfl) (by kernel_rfl) rfl ((congrArg (asL _) (by kernel_rfl : ρof _ (.tmp 26) = (.r (.msl 216 1 0 z16.length)))).trans (as_whole e_GCell (e := 33) (k := 4) (xs := z16) (by kernel_rfl) rfl rfl)) hz17) ?_
  have ez18 := Option.some.inj hz18
  have lz18 : z11.1.length = z18.length := by rw [← ez18]; exact (cpyL_len (of_decide_eq_true (chk_t hz17))).symm
  rw [ez18]
  skip
  try rw [lz18]
  refine zdEnd (by kernel_rfl) (by kernel_rfl) ?_
  refine zkSeq ?_
  refine zrReg ?_
  refine zlRun (n := 1) (j := 1) rfl (by kernel_rfl) ?_
  refine bindE hS (fun z19 hz19 hS => ?_)
  refine bindE hS (fun z20 hz20 hS => ?_)
  refine zlOp (d := some 29) (op := (.callr 46 [(.tmp 28)])) (g := none) (v := (.tup [])) (ups := [(0, ⟨0, some (.own 33 4 (e_GCell.cells z19))⟩)]) (j := 2) rfl (by kernel_rfl) (by kernel_rfl) (ev_callrX (args := [(.r (.msl 0 0 z11.2.1 z11.2.2))]) (ids := [0]) (bs := [(.own 33 4 (e_GCell.cells z18))]) (l := [(.r (.msl 0 0 z11.2.1 z11.2.2))]) (bt := [(.own 33 4 (e_GCell.cells z18))]) (r := (.tup [])) (bs' := [(.own 33 4 (e_GCell.cells z19)), .box []]) (by kernel_rfl) (by kernel_rfl) (by kernel_rfl) (by kernel_rfl) (by kernel_rfl) (f46_ok base (d - 1) (dpt hd rfl) z11.2.1 z11.2.2 z18 z19 hz19) (by kernel_rfl) (sm_own e_GCell (e1 := 33) (k1 := 4) (xs := z18) (ys := z19) (by kernel_rfl) hz20 sm_nil) (by kernel_rfl) (by kernel_rfl)) ?_
  have lz20 : z18.length = z19.length := (of_decide_eq_true (chk_t hz20)).symm
  skip
  try rw [lz20]
  refine zlEnd (by kernel_rfl) ?_
  refine zkNil ?_
  exact endQ hS hQ (fNormX (by kernel_rfl) (by kernel_rfl : finSt c41.fin _ = f41_fin z19) (by kernel_rfl) (f41_out z19))
/- farwriter/grid.Shift -/
def f19_fin (p10 : Int) (p11 : Int) (p12 : List GCell) (p13 : Int) : St := ⟨(up (up (fun _ => .un) 13 (.d (.int .i64 p13))) 12 (.r (.ptr 104 0 0))), (up (up (hB fun _ => 0) 224 ⟨0, some (.own 33 4 (e_GCell.cells p12))⟩) 104 ⟨0, some (.box ((.d (.int .i64 p10)) :: ((.d (.int .i64 p11)) :: ((.r (.msl 224 0 0 p12.length)) :: []))))⟩)⟩
theorem f19_out (p10 : Int) (p11 : Int) (p12 : List GCell) (p13 : Int) : outR (f19_fin p10 p11 p12 p13) 0 c19.res = some ((.tup [(.agg ((.d (.int .i64 p10)) :: ((.d (.int .i64 p11)) :: ((.r (.own 0 33 4 p12.length (e_GCell.cells p12))) :: [])))), (.d (.int .i64 p13))]), []) := by
  exact out_of (ids := []) (ids' := [224]) (l := [(.agg ((.d (.int .i64 p10)) :: ((.d (.int .i64 p11)) :: ((.r (.msl 224 0 0 p12.length)) :: [])))), (.d (.int .i64 p13))]) (by kernel_rfl) (by kernel_rfl) (o_tup (o_cons (o_agg (o_cons rfl (o_cons rfl (o_cons (o_own e_GCell (e := 33) (k := 4) (xs := p12) (by kernel_rfl) rfl rfl rfl rfl) o_nil)))) (o_cons rfl o_nil)))
def f19_Q (r : Int × Int × (List GCell) × Int) (e : PX) (st : St) : Prop := DoneF c19 0 ((.tup [(.agg ((.d (.int .i64 r.1)) :: ((.d (.int .i64 r.2.1)) :: ((.r (.own 0 33 4 r.2.2.1.length (e_GCell.cells r.2.2.1))) :: [])))), (.d (.int .i64 r.2.2.2))]), []) e st
def f19_j1_J (a1 : GGrid) (a2 : Int) (a3 : Int) (a4 : Int) (a5 : Int) (a6 : GPen) (p27 : Int) (p28 : Int) (p29 : List GCell) : St := ⟨(up (up (up (up (up (up (up (fun _ => .un) 12 (.r (.ptr 104 0 0))) 11 (.r (.ptr 96 0 0))) 6 (.r (.ptr 56 0 0))) 4 (.d (.int .i64 a5))) 3 (.d (.int .i64 a4))) 2 (.d (.int .i64 a3))) 1 (.d (.int .i64 a2))), (up (up (up (up (hB fun _ => 0) 104 ⟨0, some (.box ((.d (.int .i64 0)) :: ((.d (.int .i64 0)) :: ((.d (.sl ([] : List GCell).length (e_GCell.cells ([])))) :: []))))⟩) 96 ⟨0, some (.box ((.d (.int .i64 a6.Flags)) :: ((.d (.int .i64 a6.Fore)) :: ((.d (.int .i64 a6.Back)) :: []))))⟩) 224 ⟨0, some (.own 33 4 (e_GCell.cells p29))⟩) 56 ⟨0, some (.box ((.d (.int .i64 p27)) :: ((.d (.int .i64 p28)) :: ((.r (.msl 224 0 0 p29.length)) :: []))))⟩)⟩
noncomputable def f19_j1 (a1 : GGrid) (a2 : Int) (a3 : Int) (a4 : Int) (a5 : Int) (a6 : GPen) (p27 : Int) (p28 : Int) (p29 : List GCell) : Option (Int × Int × (List GCell) × Int) := ((f41 p27 p28 a2 a3 a4 a5 a6 p29).bind fun z11 => ((chk (decide (z11.length = p29.length))).bind fun z12 => (some (p27, p28, z11, 0))))
theorem f19_j1_ok {base : Orc} {d : Nat} (hd : 6 ≤ d) (a1 : GGrid) (a2 : Int) (a3 : Int) (a4 : Int) (a5 : Int) (a6 : GPen) {r : Int × Int × (List GCell) × Int} {Q : PX → St → Prop} (hQ : ∀ e st', f19_Q r e st' → Q e st') (p27 : Int) (p28 : Int) (p29 : List GCell) (hS : f19_j1 a1 a2 a3 a4 a5 a6 p27 p28 p29 = some r) {st : St} (he : keepSt [1, 2, 3, 4, 6, 11, 12] [(56, .id 56), (224, .id 224), (96, .id 96), (104, .id 104)] [] st = f19_j1_J a1 a2 a3 a4 a5 a6 p27 p28 p29) : ZR (lev codes base (d - 1)) Q c19_1 [] st := by
  refine zrKeep he ?_
  unfold f19_j1 at hS
  refine zrSeq ?_
  refine zrReg ?_
  refine zlRun (n := 6) (j := 6) rfl (by kernel_rfl) ?_
  refine bindE hS (fun z11 hz11 hS => ?_)
  refine bindE hS (fun z12 hz12 hS => ?_)
  refine zlOp (d := some 40) (op := (.callr 41 [(.tmp 34), (.tmp 35), (.tmp 36), (.tmp 37), (.tmp 38), (.tmp 39)])) (g := none) (v := (.tup [])) (ups := [(224, ⟨0, some (.own 33 4 (e_GCell.cells z11))⟩)]) (j := 7) rfl (by kernel_rfl) (by kernel_rfl) (ev_callrX (args := [(.agg ((.d (.int .i64 p27)) :: ((.d (.int .i64 p28)) :: ((.r (.msl 224 0 0 p29.length)) :: [])))), (.d (.int .i64 a2)), (.d (.int .i64 a3)), (.d (.int .i64 a4)), (.d (.int .i64 a5)), (.agg ((.d (.int .i64 a6.Flags)) :: ((.d (.int .i64 a6.Fore)) :: ((.d (.int .i64 a6.Back)) :: []))))]) (ids := [224]) (bs := [(.own 33 4 (e_GCell.cells p29))]) (l := [(.agg ((.d (.int .i64 p27)) :: ((.d (.int .i64 p28)) :: ((.r (.msl 0 0 0 p29.length)) :: [])))), (.d (.int .i64 a2)), (.d (.int .i64 a3)), (.d (.int .i64 a4)), (.d (.int .i64 a5)), (.agg ((.d (.int .i64 a6.Flags)) :: ((.d (.int .i64 a6.Fore)) :: ((.d (.int .i64 a6.Back)) :: []))))]) (bt := [(.own 33 4 (e_GCell.cells p29))]) (r := (.tup [])) (bs' := [(.own 33 4 (e_GCell.cells z11)), .box []]) (by kernel_rfl) (by kernel_rfl) (by kernel_rfl) (by kernel_rfl) (by kernel_rfl) (f41_ok base (d - 1) (dpt hd rfl) p27 p28 a2 a3 a4 a5 a6 p29 z11 hz11) (by kernel_rfl) (sm_own e_GCell (e1 := 33) (k1 := 4) (xs := p29) (ys := z11) (by kernel_rfl) hz12 sm_nil) (by kernel_rfl) (by kernel_rfl)) ?_
  have lz12 : p29.length = z11.length := (of_decide_eq_true (chk_t hz12)).symm
  try delta f19_j1_J
  try rw [lz12]
  refine zlEnd (by kernel_rfl) ?_
  refine zkSeq ?_
  refine zrSeq ?_
  refine zrReg ?_
  refine zlRun (n := 3) (j := 3) rfl (by kernel_rfl) ?_
  refine zlEnd (by kernel_rfl) ?_
  refine zkSeq ?_
  refine zrRet ?_
  refine zkNil ?_
  exact endQ hS hQ (fRet (by kernel_rfl) ((congrArg (fun s => outR s 0 c19.res) (by kernel_rfl : finSt c19.fin _ = f19_fin p27 p28 z11 0)).trans (f19_out p27 p28 z11 0)))
def f19_j0_J (a1 : GGrid) (a2 : Int) (a3 : Int) (a4 : Int) (a5 : Int) (a6 : GPen) (p18 : Int) (p19 : Int) (p20 : List GCell) (p21 : Int) : St := ⟨(up (up (up (up (up (up (up (up (fun _ => .un) 14 (.d (.int .i64 p21))) 12 (.r (.ptr 104 0 0))) 11 (.r (.ptr 96 0 0))) 6 (.r (.ptr 56 0 0))) 4 (.d (.int .i64 a5))) 3 (.d (.int .i64 a4))) 2 (.d (.int .i64 a3))) 1 (.d (.int .i64 a2))), (up (up (up (up (hB fun _ => 0) 104 ⟨0, some (.box ((.d (.int .i64 0)) :: ((.d (.int .i64 0)) :: ((.d (.sl ([] : List GCell).length (e_GCell.cells ([])))) :: []))))⟩) 96 ⟨0, some (.box ((.d (.int .i64 a6.Flags)) :: ((.d (.int .i64 a6.Fore)) :: ((.d (.int .i64 a6.Back)) :: []))))⟩) 224 ⟨0, some (.own 33 4 (e_GCell.cells p20))⟩) 56 ⟨0, some (.box ((.d (.int .i64 p18)) :: ((.d (.int .i64 p19)) :: ((.r (.msl 224 0 0 p20.length)) :: []))))⟩)⟩
noncomputable def f19_j0 (a1 : GGrid) (a2 : Int) (a3 : Int) (a4 : Int) (a5 : Int) (a6 : GPen) (p18 : Int) (p19 : Int) (p20 : List GCell) (p21 : Int) : Option (Int × Int × (List GCell) × Int) := (bif (!decide (p21 = 0)) then (some (p18, p19, p20, p21)) else (f19_j1 a1 a2 a3 a4 a5 a6 p18 p19 p20))
theorem f19_j0_ok {base : Orc} {d : Nat} (hd : 6 ≤ d) (a1 : GGrid) (a2 : Int) (a3 : Int) (a4 : Int) (a5 : Int) (a6 : GPen) {r : Int × Int × (List GCell) × Int} {Q : PX → St → Prop} (hQ : ∀ e st', f19_Q r e st' → Q e st') (p18 : Int) (p19 : Int) (p20 : List GCell) (p21 : Int) (hS : f19_j0 a1 a2 a3 a4 a5 a6 p18 p19 p20 p21 = some r) {st : St} (he : keepSt [1, 2, 3, 4, 6, 11, 12, 14] [(56, .id 56), (224, .id 224), (96, .id 96), (104, .id 104)] [.cell 104 2 0 0 1] st = f19_j0_J a1 a2 a3 a4 a5 a6 p18 p19 p20 p21) : ZR (lev codes base (d - 1)) Q c19_2 [] st := by
  refine zrKeep he ?_
  unfold f19_j0 at hS
  refine zrSeq ?_
  refine zrSeq ?_
  refine zrReg ?_
  refine zlRun (n := 1) (j := 1) rfl (by kernel_rfl) ?_
  refine zlBool (d := 31) (op := (.cmpI .neq (.tmp 30) (.const (.int .i64 0)))) (g := none) (j := 2) (!decide (p21 = 0)) rfl (by kernel_rfl) (by kernel_rfl) (by kernel_rfl) (fun hc => ?_) (fun hc => ?_)
  · replace hS := cond_t hc hS
    refine zlEnd (by kernel_rfl) ?_
    refine zkSeq ?_
    refine zrCondT (by kernel_rfl) ?_
    refine zrSeq ?_
    refine zrReg ?_
    refine zlRun (n := 4) (j := 4) rfl (by kernel_rfl) ?_
    refine zlEnd (by kernel_rfl) ?_
    refine zkSeq ?_
    refine zrRet ?_
    refine zkSeqR ?_
    refine zkNil ?_
    exact endQ hS hQ (fRet (by kernel_rfl) ((congrArg (fun s => outR s 0 c19.res) (by kernel_rfl : finSt c19.fin _ = f19_fin p18 p19 p20 p21)).trans (f19_out p18 p19 p20 p21)))
  · replace hS := cond_f hc hS
    refine zlEnd (by kernel_rfl) ?_
    refine zkSeq ?_
    refine zrCondF (by kernel_rfl) ?_
    refine zrSkip ?_
    refine zkSeq ?_
    exact f19_j1_ok hd a1 a2 a3 a4 a5 a6 hQ p18 p19 p20 hS (by kernel_rfl)
noncomputable def f19 (a1 : GGrid) (a2 : Int) (a3 : Int) (a4 : Int) (a5 : Int) (a6 : GPen) : Option (Int × Int × (List GCell) × Int) := ((f34 a1 a2 a3 a4).bind fun z13 => (bif z13 then ((f40 a5).bind fun z14 => ((f29 a1 z14 a6).bind fun z15 => (f19_j0 a1 a2 a3 a4 a5 a6 z15.1 z15.2.1 z15.2.2.1 z15.2.2.2))) else ((f29 a1 false a6).bind fun z16 => (f19_j0 a1 a2 a3 a4 a5 a6 z16.1 z16.2.1 z16.2.2.1 z16.2.2.2))))
theorem f19_ok (base : Orc) (d : Nat) (hd : 6 ≤ d) (a1 : GGrid) (a2 : Int) (a3 : Int) (a4 : Int) (a5 : Int) (a6 : GPen) (r : Int × Int × (List GCell) × Int) (hS : f19 a1 a2 a3 a4 a5 a6 = some r) : lev codes base d 19 [(.agg ((.d (.int .i64 a1.Wide)) :: ((.d (.int .i64 a1.High)) :: ((.d (.sl a1.Cells.length (e_GCell.cells a1.Cells))) :: [])))), (.d (.int .i64 a2)), (.d (.int .i64 a3)), (.d (.int .i64 a4)), (.d (.int .i64 a5)), (.agg ((.d (.int .i64 a6.Flags)) :: ((.d (.int .i64 a6.Fore)) :: ((.d (.int .i64 a6.Back)) :: []))))] [] = some ((.tup [(.agg ((.d (.int .i64 r.1)) :: ((.d (.int .i64 r.2.1)) :: ((.r (.own 0 33 4 r.2.2.1.length (e_GCell.cells r.2.2.1))) :: [])))), (.d (.int .i64 r.2.2.2))]), []) := by
  refine lev_go codes19 rfl rfl (Nat.le_trans (Nat.le_of_ble_eq_true rfl) hd) fun Q hQ => ?_
  unfold f19 at hS
  show ZR _ Q c19_b [] _
  replace hQ : ∀ e st', f19_Q r e st' → Q e st' := hQ
  refine zrSeq ?_
  refine zrReg ?_
  refine zlRun (n := 4) (j := 4) rfl (by kernel_rfl) ?_
  refine zlEnd (by kernel_rfl) ?_
  refine zkSeq ?_
  refine zrSeq ?_
  refine zrRegD ?_
  refine zdRun (n := 5) (j := 5) (ts := [[(56, false)], [(56, false)], [], [], []]) (acc' := [[(56, false)], [(56, false)], [], [], []]) rfl (by kernel_rfl) (by kernel_rfl) (by kernel_rfl) ?_
  refine bindE hS (fun z13 hz13 hS => ?_)
  refine zdOp (d := some 21) (op := (.call 34 [(.tmp 17), (.tmp 18), (.tmp 19), (.tmp 20)])) (g := none) (v := (.d (.bool z13))) (ups := []) (j := 6) (t1 := [(176, true), (177, true), (178, true), (179, true), (180, true), (181, true), (182, true), (183, true)]) (acc' := [[(56, false)], [(56, false)], [], [], [], [(176, true), (177, true), (178, true), (179, true), (180, true), (181, true), (182, true), (183, true)]]) (by kernel_rfl) (by kernel_rfl) rfl (by kernel_rfl) (by kernel_rfl) (ev_call (args := [(.agg ((.d (.int .i64 a1.Wide)) :: ((.d (.int .i64 a1.High)) :: ((.d (.sl a1.Cells.length (e_GCell.cells a1.Cells))) :: [])))), (.d (.int .i64 a2)), (.d (.int .i64 a3)), (.d (.int .i64 a4))]) (l := [(.agg ((.d (.int .i64 a1.Wide)) :: ((.d (.int .i64 a1.High)) :: ((.d (.sl a1.Cells.length (e_GCell.cells a1.Cells))) :: [])))), (.d (.int .i64 a2)), (.d (.int .i64 a3)), (.d (.int .i64 a4))]) (r := (.d (.bool z13))) (by kernel_rfl) (by kernel_rfl) (f34_ok base (d - 1) (dpt hd rfl) a1 a2 a3 a4 z13 hz13) (by kernel_rfl) (by kernel_rfl) (by kernel_rfl)) ?_
  refine zdRun (n := 1) (j := 7) (ts := [[]]) (acc' := [[(56, false)], [(56, false)], [], [], [], [(176, true), (177, true), (178, true), (179, true), (180, true), (181, true), (182, true), (183, true)], []]) rfl (by kernel_rfl) (by kernel_rfl) (by kernel_rfl) ?_
  refine zdSplit 22 z13 (by kernel_rfl) (fun hc => ?_) (fun hc => ?_)
  · replace hS := cond_t hc hS
    refine zdRun (n := 1) (j := 8) (ts := [[]]) (acc' := [[(56, false)], [(56, false)], [], [], [], [(176, true), (177, true), (178, true), (179, true), (180, true), (181, true), (182, true), (183, true)], [], []]) rfl (by kernel_rfl) (by kernel_rfl) (by kernel_rfl) ?_
    refine bindE hS (fun z14 hz14 hS => ?_)
    refine zdOp (d := some 24) (op := (.call 40 [(.tmp 23)])) (g := (some (22, true))) (v := (.d (.bool z14))) (ups := []) (j := 9) (t1 := [(200, true), (201, true), (202, true), (203, true), (204, true), (205, true), (206, true), (207, true)]) (acc' := [[(56, false)], [(56, false)], [], [], [], [(176, true), (177, true), (178, true), (179, true), (180, true), (181, true), (182, true), (183, true)], [], [], [(200, true), (201, true), (202, true), (203, true), (204, true), (205, true), (206, true), (207, true)]]) (by kernel_rfl) (by kernel_rfl) rfl (by kernel_rfl) (by kernel_rfl) (ev_call (args := [(.d (.int .i64 a5))]) (l := [(.d (.int .i64 a5))]) (r := (.d (.bool z14))) (by kernel_rfl) (by kernel_rfl) (f40_ok base (d - 1) (dpt hd rfl) a5 z14 hz14) (by kernel_rfl) (by kernel_rfl) (by kernel_rfl)) ?_
    refine zdRun (n := 2) (j := 11) (ts := [[], [(96, false)]]) (acc' := [[(56, false)], [(56, false)], [], [], [], [(176, true), (177, true), (178, true), (179, true), (180, true), (181, true), (182, true), (183, true)], [], [], [(200, true), (201, true), (202, true), (203, true), (204, true), (205, true), (206, true), (207, true)], [], [(96, false)]]) rfl (by kernel_rfl) (by kernel_rfl) (by kernel_rfl) ?_
    refine bindE hS (fun z15 hz15 hS => ?_)
    refine zdOp (d := some 27) (op := (.callf 29 [(.tmp 16), (.tmp 25), (.tmp 26)])) (g := none) (v := (.tup [(.agg ((.d (.int .i64 z15.1)) :: ((.d (.int .i64 z15.2.1)) :: ((.r (.msl 224 1 0 z15.2.2.1.length)) :: [])))), (.d (.int .i64 z15.2.2.2))])) (ups := [(224, ⟨1, some (.own 33 4 (e_GCell.cells z15.2.2.1))⟩)]) (j := 12) (t1 := [(224, true), (225, true), (226, true), (227, true), (228, true), (229, true), (230, true), (231, true)]) (acc' := [[(56, false)], [(56, false)], [], [], [], [(176, true), (177, true), (178, true), (179, true), (180, true), (181, true), (182, true), (183, true)], [], [], [(200, true), (201, true), (202, true), (203, true), (204, true), (205, true), (206, true), (207, true)], [], [(96, false)], [(224, true), (225, true), (226, true), (227, true), (228, true), (229, true), (230, true), (231, true)]]) (by kernel_rfl) (by kernel_rfl) rfl (by kernel_rfl) (by kernel_rfl) (ev_callF (args := [(.agg ((.d (.int .i64 a1.Wide)) :: ((.d (.int .i64 a1.High)) :: ((.d (.sl a1.Cells.length (e_GCell.cells a1.Cells))) :: [])))), (.d (.bool z14)), (.agg ((.d (.int .i64 a6.Flags)) :: ((.d (.int .i64 a6.Fore)) :: ((.d (.int .i64 a6.Back)) :: []))))]) (args' := [(.agg ((.d (.int .i64 a1.Wide)) :: ((.d (.int .i64 a1.High)) :: ((.d (.sl a1.Cells.length (e_GCell.cells a1.Cells))) :: [])))), (.d (.bool z14)), (.agg ((.d (.int .i64 a6.Flags)) :: ((.d (.int .i64 a6.Fore)) :: ((.d (.int .i64 a6.Back)) :: []))))]) (l := [(.agg ((.d (.int .i64 a1.Wide)) :: ((.d (.int .i64 a1.High)) :: ((.d (.sl a1.Cells.length (e_GCell.cells a1.Cells))) :: [])))), (.d (.bool z14)), (.agg ((.d (.int .i64 a6.Flags)) :: ((.d (.int .i64 a6.Fore)) :: ((.d (.int .i64 a6.Back)) :: []))))]) (refs := []) (r := (.tup [(.agg ((.d (.int .i64 z15.1)) :: ((.d (.int .i64 z15.2.1)) :: ((.r (.own 0 33 4 z15.2.2.1.length (e_GCell.cells z15.2.2.1))) :: [])))), (.d (.int .i64 z15.2.2.2))])) (v := (.tup [(.agg ((.d (.int .i64 z15.1)) :: ((.d (.int .i64 z15.2.1)) :: ((.r (.msl 224 1 0 z15.2.2.1.length)) :: [])))), (.d (.int .i64 z15.2.2.2))])) (ups' := [(224, ⟨1, some (.own 33 4 (e_GCell.cells z15.2.2.1))⟩)]) (by kernel_rfl) (by kernel_rfl) (by kernel_rfl) (fz_cons rfl (fz_cons rfl (fz_cons rfl fz_nil))) (by kernel_rfl) (f29_ok base (d - 1) (dpt hd rfl) a1 z14 a6 z15 hz15) (by kernel_rfl) (by kernel_rfl) (by kernel_rfl) (by kernel_rfl)) ?_
    refine zdRun (n := 5) (j := 17) (ts := [[], [], [], [(56, true)], []]) (acc' := [[(56, false)], [(56, false)], [], [], [], [(176, true), (177, true), (178, true), (179, true), (180, true), (181, true), (182, true), (183, true)], [], [], [(200, true), (201, true), (202, true), (203, true), (204, true), (205, true), (206, true), (207, true)], [], [(96, false)], [(224, true), (225, true), (226, true), (227, true), (228, true), (229, true), (230, true), (231, true)], [], [], [], [(56, true)], []]) rfl (by kernel_rfl) (by kernel_rfl) (by kernel_rfl) ?_
    refine zdEnd (by kernel_rfl) (by kernel_rfl) ?_
    refine zkSeq ?_
    exact f19_j0_ok hd a1 a2 a3 a4 a5 a6 hQ z15.1 z15.2.1 z15.2.2.1 z15.2.2.2 hS (by kernel_rfl)
  · replace hS := cond_f hc hS
    refine zdRun (n := 4) (j := 11) (ts := [[], [], [], [(96, false)]]) (acc' := [[(56, false)], [(56, false)], [], [], [], [(176, true), (177, true), (178, true), (179, true), (180, true), (181, true), (182, true), (183, true)], [], [], [], [], [(96, false)]]) rfl (by kernel_rfl) (by kernel_rfl) (by kernel_rfl) ?_
    refine bindE hS (fun z16 hz16 hS => ?_)
    refine zdOp (d := some 27) (op := (.callf 29 [(.tmp 16), (.tmp 25), (.tmp 26)])) (g := none) (v := (.tup [(.agg ((.d (.int .i64 z16.1)) :: ((.d (.int .i64 z16.2.1)) :: ((.r (.msl 224 1 0 z16.2.2.1.length)) :: [])))), (.d (.int .i64 z16.2.2.2))])) (ups := [(224, ⟨1, some (.own 33 4 (e_GCell.cells z16.2.2.1))⟩)]) (j := 12) (t1 := [(224, true), (225, true), (226, true), (227, true), (228, true), (229, true), (230, true), (231, true)]) (acc' := [[(56, false)], [(56, false)], [], [], [], [(176, true), (177, true), (178, true), (179, true), (180, true), (181, true), (182, true), (183, true)], [], [], [], [], [(96, false)], [(224, true), (225, true), (226, true), (227, true), (228, true), (229, true), (230, true), (231, true)]]) (by kernel_rfl) (by kernel_rfl) rfl (by kernel_rfl) (by kernel_rfl) (ev_callF (args := [(.agg ((.d (.int .i64 a1.Wide)) :: ((.d (.int .i64 a1.High)) :: ((.d (.sl a1.Cells.length (e_GCell.cells a1.Cells))) :: [])))), (.d (.bool false)), (.agg ((.d (.int .i64 a6.Flags)) :: ((.d (.int .i64 a6.Fore)) :: ((.d (.int .i64 a6.Back)) :: []))))]) (args' := [(.agg ((.d (.int .i64 a1.Wide)) :: ((.d (.int .i64 a1.High)) :: ((.d (.sl a1.Cells.length (e_GCell.cells a1.Cells))) :: [])))), (.d (.bool false)), (.agg ((.d (.int .i64 a6.Flags)) :: ((.d (.int .i64 a6.Fore)) :: ((.d (.int .i64 a6.Back)) :: []))))]) (l := [(.agg ((.d (.int .i64 a1.Wide)) :: ((.d (.int .i64 a1.High)) :: ((.d (.sl a1.Cells.length (e_GCell.cells a1.Cells))) :: [])))), (.d (.bool false)), (.agg ((.d (.int .i64 a6.Flags)) :: ((.d (.int .i64 a6.Fore)) :: ((.d (.int .i64 a6.Back)) :: []))))]) (refs := []) (r := (.tup [(.agg ((.d (.int .i64 z16.1)) :: ((.d (.int .i64 z16.2.1)) :: ((.r (.own 0 33 4 z16.2.2.1.length (e_GCell.cells z16.2.2.1))) :: [])))), (.d (.int .i64 z16.2.2.2))])) (v := (.tup [(.agg ((.d (.int .i64 z16.1)) :: ((.d (.int .i64 z16.2.1)) :: ((.r (.msl 224 1 0 z16.2.2.1.length)) :: [])))), (.d (.int .i64 z16.2.2.2))])) (ups' := [(224, ⟨1, some (.own 33 4 (e_GCell.cells z16.2.2.1))⟩)]) (by kernel_rfl) (by kernel_rfl) (by kernel_rfl) (fz_cons rfl (fz_cons rfl (fz_cons rfl fz_nil))) (by kernel_rfl) (f29_ok base (d - 1) (dpt hd rfl) a1 false a6 z16 hz16) (by kernel_rfl) (by kernel_rfl) (by kernel_rfl) (by kernel_rfl)) ?_
    refine zdRun (n := 5) (j := 17) (ts := [[], [], [], [(56, true)], []]) (acc' := [[(56, false)], [(56, false)], [], [], [], [(176, true), (177, true), (178, true), (179, true), (180, true), (181, true), (182, true), (183, true)], [], [], [], [], [(96, false)], [(224, true), (225, true), (226, true), (227, true), (228, true), (229, true), (230, true), (231, true)], [], [], [], [(56, true)], []]) rfl (by kernel_rfl) (by kernel_rfl) (by kernel_rfl) ?_
    refine zdEnd (by kernel_rfl) (by kernel_rfl) ?_
    refine zkSeq ?_
    exact f19_j0_ok hd a1 a2 a3 a4 a5 a6 hQ z16.1 z16.2.1 z16.2.2.1 z16.2.2.2 hS (by kernel_rfl)
/- math/bits.Mul64 -/
def f56_fin (p1 : Int) (p2 : Int) : St := ⟨(up (up (fun _ => .un) 5 (.d (.int .u64 p2))) 4 (.d (.int .u64 p1))), (hB fun _ => 0)⟩
theorem f56_out (p1 : Int) (p2 : Int) : outR (f56_fin p1 p2) 0 c56.res = some ((.tup [(.d (.int .u64 p1)), (.d (.int .u64 p2))]), []) := by
  kernel_rfl
def f56_Q (r : Int × Int) (e : PX) (st : St) : Prop := DoneF c56 0 ((.tup [(.d (.int .u64 r.1)), (.d (.int .u64 r.2))]), []) e st
noncomputable def f56 (a1 : Int) (a2 : Int) : Option (Int × Int) := (some ((IntKind.u64.wrap ((IntKind.u64.wrap ((IntKind.u64.wrap ((Int.fdiv a1 (2 ^ 32)) * (Int.fdiv a2 (2 ^ 32)))) + (Int.fdiv (IntKind.u64.wrap ((IntKind.u64.wrap ((Int.fdiv a1 (2 ^ 32)) * (bitI .and .u64 a2 4294967295))) + (Int.fdiv (IntKind.u64.wrap ((bitI .and .u64 a1 4294967295) * (bitI .and .u64 a2 4294967295))) (2 ^ 32)))) (2 ^ 32)))) + (Int.fdiv (IntKind.u64.wrap ((bitI .and .u64 (IntKind.u64.wrap ((IntKind.u64.wrap ((Int.fdiv a1 (2 ^ 32)) * (bitI .and .u64 a2 4294967295))) + (Int.fdiv (IntKind.u64.wrap ((bitI .and .u64 a1 4294967295) * (bitI .and .u64 a2 4294967295))) (2 ^ 32)))) 4294967295) + (IntKind.u64.wrap ((bitI .and .u64 a1 4294967295) * (Int.fdiv a2 (2 ^ 32)))))) (2 ^ 32)))), (IntKind.u64.wrap (a1 * a2))))
theorem f56_ok (base : Orc) (d : Nat) (hd : 1 ≤ d) (a1 : Int) (a2 : Int) (r : Int × Int) (hS : f56 a1 a2 = some r) : lev codes base d 56 [(.d (.int .u64 a1)), (.d (.int .u64 a2))] [] = some ((.tup [(.d (.int .u64 r.1)), (.d (.int .u64 r.2))]), []) := by
  refine lev_go codes56 rfl rfl (Nat.le_trans (Nat.le_of_ble_eq_true rfl) hd) fun Q hQ => ?_
  unfold f56 at hS
  show ZR _ Q c56_b [] _
  replace hQ : ∀ e st', f56_Q r e st' → Q e st' := hQ
  refine zrSeq ?_
  refine zrReg ?_
  refine zlRun (n := 2) (j := 2) rfl (by kernel_rfl) ?_
  refine zlEnd (by kernel_rfl) ?_
  refine zkSeq ?_
  refine zrSeq ?_
  refine zrReg ?_
  refine zlRun (n := 3) (j := 3) rfl (by kernel_rfl) ?_
  refine zlEnd (by kernel_rfl) ?_
  refine zkSeq ?_
  refine zrSeq ?_
  refine zrReg ?_
  refine zlRun (n := 3) (j := 3) rfl (by kernel_rfl) ?_
  refine zlEnd (by kernel_rfl) ?_
  refine zkSeq ?_
  refine zrSeq ?_
  refine zrReg ?_
  refine zlRun (n := 3) (j := 3) rfl (by kernel_rfl) ?_
  refine zlEnd (by kernel_rfl) ?_
  refine zkSeq ?_
  refine zrSeq ?_
  refine zrReg ?_
  refine zlRun (n := 3) (j := 3) rfl (by kernel_rfl) ?_
  refine zlEnd (by kernel_rfl) ?_
  refine zkSeq ?_
  refine zrSeq ?_
  refine zrReg ?_
  refine zlRun (n := 4) (j := 4) rfl (by kernel_rfl) ?_
  refine zlEnd (by kernel_rfl) ?_
  refine zkSeq ?_
  refine zrSeq ?_
  refine zrReg ?_
  refine zlRun (n := 7) (j := 7) rfl (by kernel_rfl) ?_
  refine zlEnd (by kernel_rfl) ?_
  refine zkSeq ?_
  refine zrSeq ?_
  refine zrReg ?_
  refine zlRun (n := 3) (j := 3) rfl (by kernel_rfl) ?_
  refine zlEnd (by kernel_rfl) ?_
  refine zkSeq ?_
  refine zrSeq ?_
  refine zrReg ?_
  refine zlRun (n := 3) (j := 3) rfl (by kernel_rfl) ?_
  refine zlEnd (by kernel_rfl) ?_
  refine zkSeq ?_
  refine zrSeq ?_
  refine zrReg ?_
  refine zlRun (n := 6) (j := 6) rfl (by kernel_rfl) ?_
  refine zlEnd (by kernel_rfl) ?_
  refine zkSeq ?_
  refine zrSeq ?_
  refine zrReg ?_
  refine zlRun (n := 9) (j := 9) rfl (by kernel_rfl) ?_
  refine zlEnd (by kernel_rfl) ?_
  refine zkSeq ?_
  refine zrSeq ?_
  refine zrReg ?_
  refine zlRun (n := 4) (j := 4) rfl (by kernel_rfl) ?_
  refine zlEnd (by kernel_rfl) ?_
  refine zkSeq ?_
  refine zrRet ?_
  refine zkNil ?_
  exact endQ hS hQ (fRet (by kernel_rfl) ((congrArg (fun s => outR s 0 c56.res) (by kernel_rfl : finSt c56.fin _ = f56_fin (IntKind.u64.wrap ((IntKind.u64.wrap ((IntKind.u64.wrap ((Int.fdiv a1 (2 ^ 32)) * (Int.fdiv a2 (2 ^ 32)))) + (Int.fdiv (IntKind.u64.wrap ((IntKind.u64.wrap ((Int.fdiv a1 (2 ^ 32)) * (bitI .and .u64 a2 4294967295))) + (Int.fdiv (IntKind.u64.wrap ((bitI .and .u64 a1 4294967295) * (bitI .and .u64 a2 4294967295))) (2 ^ 32)))) (2 ^ 32)))) + (Int.fdiv (IntKind.u64.wrap ((bitI .and .u64 (IntKind.u64.wrap ((IntKind.u64.wrap ((Int.fdiv a1 (2 ^ 32)) * (bitI .and .u64 a2 4294967295))) + (Int.fdiv (IntKind.u64.wrap ((bitI .and .u64 a1 4294967295) * (bitI .and .u64 a2 4294967295))) (2 ^ 32)))) 4294967295) + (IntKind.u64.wrap ((bitI .and .u64 a1 4294967295) * (Int.fdiv a2 (2 ^ 32)))))) (2 ^ 32)))) (IntKind.u64.wrap (a1 * a2)))).trans (f56_out (IntKind.u64.wrap ((IntKind.u64.wrap ((IntKind.u64.wrap ((Int.fdiv a1 (2 ^ 32)) * (Int.fdiv a2 (2 ^ 32)))) + (Int.fdiv (IntKind.u64.wrap ((IntKind.u64.wrap ((Int.fdiv a1 (2 ^ 32)) * (bitI .and .u64 a2 4294967295))) + (Int.fdiv (IntKind.u64.wrap ((bitI .and .u64 a1 4294967295) * (bitI .and .u64 a2 4294967295))) (2 ^ 32)))) (2 ^ 32)))) + (Int.fdiv (IntKind.u64.wrap ((bitI .and .u64 (IntKind.u64.wrap ((IntKind.u64.wrap ((Int.fdiv a1 (2 ^ 32)) * (bitI .and .u64 a2 4294967295))) + (Int.fdiv (IntKind.u64.wrap ((bitI .and .u64 a1 4294967295) * (bitI .and .u64 a2 4294967295))) (2 ^ 32)))) 4294967295) + (IntKind.u64.wrap ((bitI .and .u64 a1 4294967295) * (Int.fdiv a2 (2 ^ 32)))))) (2 ^ 32)))) (IntKind.u64.wrap (a1 * a2)))))
/- math/bits.Mul -/
def f36_fin (p1 : Int) (p2 : Int) : St := ⟨(up (up (fun _ => .un) 5 (.d (.int .u64 p2))) 4 (.d (.int .u64 p1))), (hB fun _ => 0)⟩
theorem f36_out (p1 : Int) (p2 : Int) : outR (f36_fin p1 p2) 0 c36.res = some ((.tup [(.d (.int .u64 p1)), (.d (.int .u64 p2))]), []) := by
  kernel_rfl
def f36_Q (r : Int × Int) (e : PX) (st : St) : Prop := DoneF c36 0 ((.tup [(.d (.int .u64 r.1)), (.d (.int .u64 r.2))]), []) e st
def f36_j0_J (a1 : Int) (a2 : Int) : St := ⟨(up (up (fun _ => .un) 1 (.d (.int .u64 a2))) 0 (.d (.int .u64 a1))), (hB fun _ => 0)⟩
noncomputable def f36_j0 (a1 : Int) (a2 : Int) : Option (Int × Int) := ((f56 a1 a2).bind fun z2 => (some (z2.1, z2.2)))
theorem f36_j0_ok {base : Orc} {d : Nat} (hd : 2 ≤ d) (a1 : Int) (a2 : Int) {r : Int × Int} {Q : PX → St → Prop} (hQ : ∀ e st', f36_Q r e st' → Q e st')  (hS : f36_j0 a1 a2 = some r) {st : St} (he : keepSt [0, 1] [] [] st = f36_j0_J a1 a2) : ZR (lev codes base (d - 1)) Q c36_1 [] st := by
  refine zrKeep he ?_
  unfold f36_j0 at hS
  refine zrSeq ?_
  refine zrReg ?_
  refine zlRun (n := 2) (j := 2) rfl (by kernel_rfl) ?_
  refine bindE hS (fun z2 hz2 hS => ?_)
  refine zlOp (d := some 25) (op := (.call 56 [(.tmp 23), (.tmp 24)])) (g := none) (v := (.tup [(.d (.int .u64 z2.1)), (.d (.int .u64 z2.2))])) (ups := []) (j := 3) rfl (by kernel_rfl) (by kernel_rfl) (ev_call (args := [(.d (.int .u64 a1)), (.d (.int .u64 a2))]) (l := [(.d (.int .u64 a1)), (.d (.int .u64 a2))]) (r := (.tup [(.d (.int .u64 z2.1)), (.d (.int .u64 z2.2))])) (by kernel_rfl) (by kernel_rfl) (f56_ok base (d - 1) (dpt hd rfl) a1 a2 z2 hz2) (by kernel_rfl) (by kernel_rfl) (by kernel_rfl)) ?_
  refine zlRun (n := 5) (j := 8) rfl (by kernel_rfl) ?_
  refine zlEnd (by kernel_rfl) ?_
  refine zkSeq ?_
  refine zrSeq ?_
  refine zrReg ?_
  refine zlRun (n := 4) (j := 4) rfl (by kernel_rfl) ?_
  refine zlEnd (by kernel_rfl) ?_
  refine zkSeq ?_
  refine zrRet ?_
  refine zkNil ?_
  exact endQ hS hQ (fRet (by kernel_rfl) ((congrArg (fun s => outR s 0 c36.res) (by kernel_rfl : finSt c36.fin _ = f36_fin z2.1 z2.2)).trans (f36_out z2.1 z2.2)))
noncomputable def f36 (a1 : Int) (a2 : Int) : Option (Int × Int) := (f36_j0 a1 a2 )
theorem f36_ok (base : Orc) (d : Nat) (hd : 2 ≤ d) (a1 : Int) (a2 : Int) (r : Int × Int) (hS : f36 a1 a2 = some r) : lev codes base d 36 [(.d (.int .u64 a1)), (.d (.int .u64 a2))] [] = some ((.tup [(.d (.int .u64 r.1)), (.d (.int .u64 r.2))]), []) := by
  refine lev_go codes36 rfl rfl (Nat.le_trans (Nat.le_of_ble_eq_true rfl) hd) fun Q hQ => ?_
  unfold f36 at hS
  show ZR _ Q c36_b [] _
  replace hQ : ∀ e st', f36_Q r e st' → Q e st' := hQ
  refine zrSeq ?_
  refine zrReg ?_
  refine zlRun (n := 2) (j := 2) rfl (by kernel_rfl) ?_
  refine zlEnd (by kernel_rfl) ?_
  refine zkSeq ?_
  refine zrSeq ?_
  refine zrCondF (by kernel_rfl) ?_
  refine zrSkip ?_
  refine zkSeq ?_
  exact f36_j0_ok hd a1 a2 hQ  hS (by kernel_rfl)
/- slices.Repeat[[]farwriter/api.Cell,farwriter/api.Cell] -/
def f63_fin (p17 : List GCell) : St := ⟨(up (fun _ => .un) 4 (.r (.msl 248 0 0 p17.length))), (up (hB fun _ => 0) 248 ⟨0, some (.own 33 4 (e_GCell.cells p17))⟩)⟩
theorem f63_out (p17 : List GCell) : outR (f63_fin p17) 0 c63.res = some ((.r (.own 0 33 4 p17.length (e_GCell.cells p17))), []) := by
  exact out_of (ids := []) (ids' := [248]) (l := [(.r (.msl 248 0 0 p17.length))]) (by kernel_rfl) (by kernel_rfl) (o_own e_GCell (e := 33) (k := 4) (xs := p17) (by kernel_rfl) rfl rfl rfl rfl)
def f63_Q (r : (List GCell)) (e : PX) (st : St) : Prop := DoneF c63 0 ((.r (.own 0 33 4 r.length (e_GCell.cells r))), []) e st
def f63_l2_J (a1 : List GCell) (a2 : Int) (x : (List GCell) × Int) : St := ⟨(up (up (fun _ => .un) 8 (.d (.int .i64 x.2))) 7 (.r (.msl 248 0 0 x.1.length))), (up (hB fun _ => 0) 248 ⟨0, some (.own 33 4 (e_GCell.cells x.1))⟩)⟩
def f63_l2_H (a1 : List GCell) (a2 : Int) (x : (List GCell) × Int) (st : St) : Prop := keepSt [7, 8] [(248, .id 248)] [] st = f63_l2_J a1 a2 x
def f63_l2_e0_J (a1 : List GCell) (a2 : Int) (p34 : List GCell) : St := ⟨(up (fun _ => .un) 7 (.r (.msl 248 0 0 p34.length))), (up (hB fun _ => 0) 248 ⟨0, some (.own 33 4 (e_GCell.cells p34))⟩)⟩
def f63_l2_X (a1 : List GCell) (a2 : Int) (z : ((List GCell))) (e : PX) (st : St) : Prop := e = .exit 0 ∧ st = f63_l2_e0_J a1 a2 z
def f63_l2_j3_J (a1 : List GCell) (a2 : Int) (p38 : List GCell) (p39 : Int) : St := ⟨(up (up (fun _ => .un) 8 (.d (.int .i64 p39))) 7 (.r (.msl 248 0 0 p38.length))), (up (hB fun _ => 0) 248 ⟨0, some (.own 33 4 (e_GCell.cells p38))⟩)⟩
noncomputable def f63_l2_j3 (a1 : List GCell) (a2 : Int) (p38 : List GCell) (p39 : Int) : Option (((List GCell) × Int) ⊕ (((List GCell)))) := ((chk (decide (0 ≤ p39) && decide (p39 ≤ (p38.length : Int)) && decide ((p38.length : Int) ≤ (p38.length : Int)))).bind fun z37 => ((chk (decide (0 ≤ 0) && decide (0 ≤ p39) && decide (p39 ≤ (p38.length : Int)))).bind fun z38 => ((part? p38 0 ((p39 : Int).toNat - (0 : Int).toNat)).bind fun z39 => ((chk (decide (((p39 : Int).toNat) + (((p38.length : Int) : Int).toNat - (p39 : Int).toNat) ≤ p38.length))).bind fun z40 => ((some (cpyL p38 ((p39 : Int).toNat) (((p38.length : Int) : Int).toNat - (p39 : Int).toNat) z39)).bind fun z41 => (some (.inl (z41, (IntKind.i64.wrap (p39 + ((min z39.length (((z41.length : Int) : Int).toNat - (p39 : Int).toNat) : Nat) : Int)))))))))))
theorem f63_l2_j3_ok {base : Orc} {d : Nat} (hd : 3 ≤ d) (a1 : List GCell) (a2 : Int) {r : ((List GCell) × Int) ⊕ (((List GCell)))} {Q : PX → St → Prop} (hQ : ∀ e st', finL (f63_l2_H a1 a2) (f63_l2_X a1 a2) r e st' → Q e st') (p38 : List GCell) (p39 : Int) (hS : f63_l2_j3 a1 a2 p38 p39 = some r) {st : St} (he : keepSt [7, 8] [(248, .id 248)] [] st = f63_l2_j3_J a1 a2 p38 p39) : ZR (lev codes base (d - 1)) Q c63_1 [] st := by
  refine zrKeep he ?_
  unfold f63_l2_j3 at hS
  refine zrBlk ?_
  refine zrRegD ?_
  refine zdRun (n := 3) (j := 3) (ts := [[], [], []]) (acc' := [[], [], []]) rfl (by kernel_rfl) (by kernel_rfl) (by kernel_rfl) ?_
  refine bindE hS (fun z37 hz37 hS => ?_)
  refine zdOp (d := some 41) (op := (.slS 33 4 (.tmp 39) (.some (.tmp 40)) .none)) (g := none) (v := (.r (.msl 248 0 ((p39 : Int).toNat) (((p38.length : Int) : Int).toNat - (p39 : Int).toNat)))) (ups := []) (j := 4) (t1 := [(248, false)]) (acc' := [[], [], [], [(248, false)]]) (by kernel_rfl) (by kernel_rfl) rfl (by kernel_rfl) (by kernel_rfl) (ev_slM (b := 248) (g := 0) (e := 33) (a := p39) (c := (p38.length : Int)) (l := 0) (n := p38.length) (l' := ((p39 : Int).toNat)) (n' := (((p38.length : Int) : Int).toNat - (p39 : Int).toNat)) (cs := e_GCell.cells p38) (by kernel_rfl) (by kernel_rfl) (bnd_s _ (kk := .i64) (j := p39) (by kernel_rfl)) (bnd_n _) hz37 (by simp) rfl) ?_
  refine zdRun (n := 2) (j := 6) (ts := [[], []]) (acc' := [[], [], [], [(248, false)], [], []]) rfl (by kernel_rfl) (by kernel_rfl) (by kernel_rfl) ?_
  refine bindE hS (fun z38 hz38 hS => ?_)
  refine zdOp (d := some 44) (op := (.slS 33 4 (.tmp 42) .none (.some (.tmp 43)))) (g := none) (v := (.r (.msl 248 0 0 ((p39 : Int).toNat - (0 : Int).toNat)))) (ups := []) (j := 7) (t1 := [(248, false)]) (acc' := [[], [], [], [(248, false)], [], [], [(248, false)]]) (by kernel_rfl) (by kernel_rfl) rfl (by kernel_rfl) (by kernel_rfl) (ev_slM (b := 248) (g := 0) (e := 33) (a := 0) (c := p39) (l := 0) (n := p38.length) (l' := 0) (n' := ((p39 : Int).toNat - (0 : Int).toNat)) (cs := e_GCell.cells p38) (by kernel_rfl) (by kernel_rfl) (bnd_n 0) (bnd_s _ (kk := .i64) (j := p39) (by kernel_rfl)) hz38 (by simp) rfl) ?_
  refine bindE hS (fun z39 hz39 hS => ?_)
  refine bindE hS (fun z40 hz40 hS => ?_)
  refine bindE hS (fun z41 hz41 hS => ?_)
  refine zdOp (d := some 45) (op := (.cpy 4 (.tmp 41) (.tmp 44))) (g := none) (v := (.d (.int .i64 ((min z39.length (((p38.length : Int) : Int).toNat - (p39 : Int).toNat) : Nat) : Int)))) (ups := [(248, ⟨0, some (.own 33 4 (e_GCell.cells (cpyL p38 ((p39 : Int).toNat) (((p38.length : Int) : Int).toNat - (p39 : Int).toNat) z39)))⟩)]) (j := 8) (t1 := [(248, true), (248, false)]) (acc' := [[], [], [], [(248, false)], [], [], [(248, false)], [(248, true), (248, false)]]) (by kernel_rfl) (by kernel_rfl) rfl (by kernel_rfl) (by kernel_rfl) (ev_cpy e_GCell (b := 248) (g := 0) (l := ((p39 : Int).toNat)) (n := (((p38.length : Int) : Int).toNat - (p39 : Int).toNat)) (e := 33) (xs := p38) (ys := z39) (by kernel_rfl) (by kernel_rfl) rfl ((congrArg (asL _) (by kernel_rfl : ρof _ (.tmp 44) = (.r (.msl 248 0 0 ((p39 : Int).toNat - (0 : Int).toNat))))).trans (as_part e_GCell (e := 33) (k := 4) (xs := p38) (by kernel_rfl) rfl hz39)) hz40) ?_
  have ez41 := Option.some.inj hz41
  have lz41 : p38.length = z41.length := by rw [← ez41]; exact (cpyL_len (of_decide_eq_true (chk_t hz40))).symm
  rw [ez41]
  try delta f63_l2_j3_J
  try rw [lz41]
  refine zdRun (n := 2) (j := 10) (ts := [[], []]) (acc' := [[], [], [], [(248, false)], [], [], [(248, false)], [(248, true), (248, false)], [], []]) rfl (by kernel_rfl) (by kernel_rfl) (by kernel_rfl) ?_
  refine zdEnd (by kernel_rfl) (by kernel_rfl) ?_
  refine zkBlk ?_
  refine zkNil ?_
  exact endQ hS hQ (finL_n (by show keepSt _ _ _ _ = _; kernel_rfl))
noncomputable def f63_l2 (a1 : List GCell) (a2 : Int) (x : (List GCell) × Int) : Option (((List GCell) × Int) ⊕ (((List GCell)))) := (bif (decide (x.2 < (x.1.length : Int))) then (f63_l2_j3 a1 a2 x.1 x.2) else (some (.inr x.1)))
theorem f63_l2_ok {base : Orc} {d : Nat} (hd : 3 ≤ d) (a1 : List GCell) (a2 : Int) {r : ((List GCell) × Int) ⊕ (((List GCell)))} {Q : PX → St → Prop} (hQ : ∀ e st', finL (f63_l2_H a1 a2) (f63_l2_X a1 a2) r e st' → Q e st') {x : (List GCell) × Int} (hS : f63_l2 a1 a2 x = some r) {st : St} (he : f63_l2_H a1 a2 x st) : ZR (lev codes base (d - 1)) Q c63_2 [] st := by
  refine zrKeep he ?_
  unfold f63_l2 at hS
  refine zrSeq ?_
  refine zrSeq ?_
  refine zrReg ?_
  refine zlRun (n := 3) (j := 3) rfl (by kernel_rfl) ?_
  refine zlBool (d := 37) (op := (.cmpI .lss (.tmp 34) (.tmp 36))) (g := none) (j := 4) (decide (x.2 < (x.1.length : Int))) rfl (by kernel_rfl) (by kernel_rfl) (by kernel_rfl) (fun hc => ?_) (fun hc => ?_)
  · replace hS := cond_t hc hS
    refine zlEnd (by kernel_rfl) ?_
    refine zkSeq ?_
    refine zrCondT (by kernel_rfl) ?_
    refine zrSkip ?_
    refine zkSeq ?_
    exact f63_l2_j3_ok hd a1 a2 hQ x.1 x.2 hS (by kernel_rfl)
  · replace hS := cond_f hc hS
    refine zlEnd (by kernel_rfl) ?_
    refine zkSeq ?_
    refine zrCondF (by kernel_rfl) ?_
    refine zrKeep (J := f63_l2_e0_J a1 a2 x.1) (by kernel_rfl) ?_
    refine zrExit ?_
    refine zkSeqX ?_
    refine zkNil ?_
    exact endQ hS hQ (finL_x (by intro h; cases h) (by show _ = _ ∧ _ = _; exact ⟨rfl, rfl⟩))
def f63_j1_J (a1 : List GCell) (a2 : Int) (p23 : Int) : St := ⟨(up (up (fun _ => .un) 6 (.d (.int .u64 p23))) 0 (.d (.sl a1.length (e_GCell.cells a1)))), (hB fun _ => 0)⟩
noncomputable def f63_j1 (a1 : List GCell) (a2 : Int) (p23 : Int) : Option ((List GCell)) := ((mk? 32 (IntKind.i64.wrap (p23)) (IntKind.i64.wrap (p23)) (GCell.mk 0 (GPen.mk 0 0 0))).bind fun z24 => ((chk (decide (0 + z24.length ≤ z24.length))).bind fun z25 => ((some (cpyL z24 0 z24.length a1)).bind fun z26 => ((loopO (f63_l2 a1 a2) (z26, ((min a1.length z26.length : Nat) : Int))).bind fun z42 => (some z42)))))
theorem f63_j1_ok {base : Orc} {d : Nat} (hd : 3 ≤ d) (a1 : List GCell) (a2 : Int) {r : (List GCell)} {Q : PX → St → Prop} (hQ : ∀ e st', f63_Q r e st' → Q e st') (p23 : Int) (hS : f63_j1 a1 a2 p23 = some r) {st : St} (he : keepSt [0, 6] [] [] st = f63_j1_J a1 a2 p23) : ZR (lev codes base (d - 1)) Q c63_3 [] st := by
  refine zrKeep he ?_
  unfold f63_j1 at hS
  refine zrSeq ?_
  refine zrReg ?_
  refine zlRun (n := 2) (j := 2) rfl (by kernel_rfl) ?_
  refine bindE hS (fun z24 hz24 hS => ?_)
  refine zlOp (d := some 30) (op := (.mks 33 4 32 [(4, (.int .i64 0))] (.tmp 29) (.tmp 29))) (g := none) (v := (.r (.msl 248 1 0 z24.length))) (ups := [(248, ⟨1, some (.own 33 4 (e_GCell.cells z24))⟩)]) (j := 3) rfl (by kernel_rfl) (by kernel_rfl) (ev_mks e_GCell (kl := .i64) (kc := .i64) (z0 := (GCell.mk 0 (GPen.mk 0 0 0))) (a := (IntKind.i64.wrap (p23))) (c := (IntKind.i64.wrap (p23))) (by kernel_rfl) (by kernel_rfl) (by kernel_rfl) rfl hz24) ?_
  refine zlRun (n := 1) (j := 4) rfl (by kernel_rfl) ?_
  refine zlEnd (by kernel_rfl) ?_
  refine zkSeq ?_
  refine zrSeq ?_
  refine zrReg ?_
  refine zlRun (n := 2) (j := 2) rfl (by kernel_rfl) ?_
  refine bindE hS (fun z25 hz25 hS => ?_)
  refine bindE hS (fun z26 hz26 hS => ?_)
  refine zlOp (d := some 33) (op := (.cpy 4 (.tmp 31) (.tmp 32))) (g := none) (v := (.d (.int .i64 ((min a1.length z24.length : Nat) : Int)))) (ups := [(248, ⟨1, some (.own 33 4 (e_GCell.cells (cpyL z24 0 z24.length a1)))⟩)]) (j := 3) rfl (by kernel_rfl) (by kernel_rfl) (ev_cpy e_GCell (b := 248) (g := 1) (l := 0) (n := z24.length) (e := 33) (xs := z24) (ys := a1) (by kernel_rfl) (by kernel_rfl) rfl ((congrArg (asL _) (by kernel_rfl : ρof _ (.tmp 32) = (.d (.sl a1.length (e_GCell.cells a1))))).trans (as_d _ _)) hz25) ?_
  have ez26 := Option.some.inj hz26
  have lz26 : z24.length = z26.length := by rw [← ez26]; exact (cpyL_len (of_decide_eq_true (chk_t hz25))).symm
  rw [ez26]
  try delta f63_j1_J
  try rw [lz26]
  refine zlRun (n := 1) (j := 4) rfl (by kernel_rfl) ?_
  refine zlEnd (by kernel_rfl) ?_
  refine zkSeq ?_
  refine zrSeq ?_
  refine zrBlk ?_
  refine bindE hS (fun z42 hz42 hS => ?_)
  refine zrLoop (f63_l2_H a1 a2) (f63_l2_X a1 a2) (fun x st r Q h0 hS hQ => f63_l2_ok hd a1 a2 hQ hS h0) (x := (z26, ((min a1.length z26.length : Nat) : Int))) (z := z42) (by show keepSt _ _ _ _ = _; kernel_rfl) hz42 ?_
  intro e st' _ hX
  obtain ⟨rfl, rfl⟩ : _ ∧ _ := hX
  refine zkBlkX ?_
  refine zkSeq ?_
  refine zrSeq ?_
  refine zrReg ?_
  refine zlRun (n := 2) (j := 2) rfl (by kernel_rfl) ?_
  refine zlEnd (by kernel_rfl) ?_
  refine zkSeq ?_
  refine zrRet ?_
  refine zkNil ?_
  exact endQ hS hQ (fRet (by kernel_rfl) ((congrArg (fun s => outR s 0 c63.res) (by kernel_rfl : finSt c63.fin _ = f63_fin z42)).trans (f63_out z42)))
def f63_j0_J (a1 : List GCell) (a2 : Int) : St := ⟨(up (up (fun _ => .un) 1 (.d (.int .i64 a2))) 0 (.d (.sl a1.length (e_GCell.cells a1)))), (hB fun _ => 0)⟩
noncomputable def f63_j0 (a1 : List GCell) (a2 : Int) : Option ((List GCell)) := ((f36 (IntKind.u64.wrap ((a1.length : Int))) (IntKind.u64.wrap (a2))).bind fun z21 => (bif (decide (0 < z21.1)) then ((chk false).bind fun z43 => ((chk false).bind fun z44 => (f63_j1 a1 a2 z21.2))) else (bif (decide (9223372036854775807 < z21.2)) then ((chk false).bind fun z45 => ((chk false).bind fun z46 => (f63_j1 a1 a2 z21.2))) else (f63_j1 a1 a2 z21.2))))
theorem f63_j0_ok {base : Orc} {d : Nat} (hd : 3 ≤ d) (a1 : List GCell) (a2 : Int) {r : (List GCell)} {Q : PX → St → Prop} (hQ : ∀ e st', f63_Q r e st' → Q e st')  (hS : f63_j0 a1 a2 = some r) {st : St} (he : keepSt [0, 1] [] [] st = f63_j0_J a1 a2) : ZR (lev codes base (d - 1)) Q c63_4 [] st := by
  refine zrKeep he ?_
  unfold f63_j0 at hS
  refine zrSeq ?_
  refine zrReg ?_
  refine zlRun (n := 5) (j := 5) rfl (by kernel_rfl) ?_
  refine bindE hS (fun z21 hz21 hS => ?_)
  refine zlOp (d := some 18) (op := (.call 36 [(.tmp 15), (.tmp 17)])) (g := none) (v := (.tup [(.d (.int .u64 z21.1)), (.d (.int .u64 z21.2))])) (ups := []) (j := 6) rfl (by kernel_rfl) (by kernel_rfl) (ev_call (args := [(.d (.int .u64 (IntKind.u64.wrap ((a1.length : Int))))), (.d (.int .u64 (IntKind.u64.wrap (a2))))]) (l := [(.d (.int .u64 (IntKind.u64.wrap ((a1.length : Int))))), (.d (.int .u64 (IntKind.u64.wrap (a2))))]) (r := (.tup [(.d (.int .u64 z21.1)), (.d (.int .u64 z21.2))])) (by kernel_rfl) (by kernel_rfl) (f36_ok base (d - 1) (dpt hd rfl) (IntKind.u64.wrap ((a1.length : Int))) (IntKind.u64.wrap (a2)) z21 hz21) (by kernel_rfl) (by kernel_rfl) (by kernel_rfl)) ?_
  refine zlRun (n := 5) (j := 11) rfl (by kernel_rfl) ?_
  refine zlEnd (by kernel_rfl) ?_
  refine zkSeq ?_
  refine zrSeq ?_
  refine zrSeq ?_
  refine zrReg ?_
  refine zlRun (n := 1) (j := 1) rfl (by kernel_rfl) ?_
  refine zlBool (d := 22) (op := (.cmpI .gtr (.tmp 21) (.const (.int .u64 0)))) (g := none) (j := 2) (decide (0 < z21.1)) rfl (by kernel_rfl) (by kernel_rfl) (by kernel_rfl) (fun hc => ?_) (fun hc => ?_)
  · replace hS := cond_t hc hS
    refine zlRun (n := 4) (j := 6) rfl (by kernel_rfl) ?_
    refine zlEnd (by kernel_rfl) ?_
    refine zkSeq ?_
    refine zrCondT (by kernel_rfl) ?_
    refine zrReg ?_
    refine bindE hS (fun z43 hz43 hS => ?_)
    refine zlOp (d := some 27) (op := (.mx [])) (g := none) (v := .un) (ups := []) (j := 1) rfl (by kernel_rfl) (by kernel_rfl) (by exact absurd hz43 (by simp [chk])) ?_
    refine bindE hS (fun z44 hz44 hS => ?_)
    refine zlOp (d := none) (op := (.mx [])) (g := none) (v := .un) (ups := []) (j := 2) rfl (by kernel_rfl) (by kernel_rfl) (by exact absurd hz44 (by simp [chk])) ?_
    refine zlEnd (by kernel_rfl) ?_
    refine zkSeq ?_
    exact f63_j1_ok hd a1 a2 hQ z21.2 hS (by kernel_rfl)
  · replace hS := cond_f hc hS
    refine zlRun (n := 2) (j := 4) rfl (by kernel_rfl) ?_
    refine zlBool (d := 25) (op := (.cmpI .gtr (.tmp 24) (.const (.int .u64 9223372036854775807)))) (g := (some (23, false))) (j := 5) (decide (9223372036854775807 < z21.2)) rfl (by kernel_rfl) (by kernel_rfl) (by kernel_rfl) (fun hc => ?_) (fun hc => ?_)
    · replace hS := cond_t hc hS
      refine zlRun (n := 1) (j := 6) rfl (by kernel_rfl) ?_
      refine zlEnd (by kernel_rfl) ?_
      refine zkSeq ?_
      refine zrCondT (by kernel_rfl) ?_
      refine zrReg ?_
      refine bindE hS (fun z45 hz45 hS => ?_)
      refine zlOp (d := some 27) (op := (.mx [])) (g := none) (v := .un) (ups := []) (j := 1) rfl (by kernel_rfl) (by kernel_rfl) (by exact absurd hz45 (by simp [chk])) ?_
      refine bindE hS (fun z46 hz46 hS => ?_)
      refine zlOp (d := none) (op := (.mx [])) (g := none) (v := .un) (ups := []) (j := 2) rfl (by kernel_rfl) (by kernel_rfl) (by exact absurd hz46 (by simp [chk])) ?_
      refine zlEnd (by kernel_rfl) ?_
      refine zkSeq ?_
      exact f63_j1_ok hd a1 a2 hQ z21.2 hS (by kernel_rfl)
    · replace hS := cond_f hc hS
      refine zlRun (n := 1) (j := 6) rfl (by kernel_rfl) ?_
      refine zlEnd (by kernel_rfl) ?_
      refine zkSeq ?_
      refine zrCondF (by kernel_rfl) ?_
      refine zrSkip ?_
      refine zkSeq ?_
      exact f63_j1_ok hd a1 a2 hQ z21.2 hS (by kernel_rfl)
noncomputable def f63 (a1 : List GCell) (a2 : Int) : Option ((List GCell)) := (bif (decide (a2 < 0)) then ((chk false).bind fun z47 => ((chk false).bind fun z48 => (f63_j0 a1 a2 ))) else (f63_j0 a1 a2 ))
theorem f63_ok (base : Orc) (d : Nat) (hd : 3 ≤ d) (a1 : List GCell) (a2 : Int) (r : (List GCell)) (hS : f63 a1 a2 = some r) : lev codes base d 63 [(.d (.sl a1.length (e_GCell.cells a1))), (.d (.int .i64 a2))] [] = some ((.r (.own 0 33 4 r.length (e_GCell.cells r))), []) := by
  refine lev_go codes63 rfl rfl (Nat.le_trans (Nat.le_of_ble_eq_true rfl) hd) fun Q hQ => ?_
  unfold f63 at hS
  show ZR _ Q c63_b [] _
  replace hQ : ∀ e st', f63_Q r e st' → Q e st' := hQ
  refine zrSeq ?_
  refine zrReg ?_
  refine zlRun (n := 1) (j := 1) rfl (by kernel_rfl) ?_
  refine zlEnd (by kernel_rfl) ?_
  refine zkSeq ?_
  refine zrSeq ?_
  refine zrSeq ?_
  refine zrReg ?_
  refine zlRun (n := 1) (j := 1) rfl (by kernel_rfl) ?_
  refine zlBool (d := 10) (op := (.cmpI .lss (.tmp 9) (.const (.int .i64 0)))) (g := none) (j := 2) (decide (a2 < 0)) rfl (by kernel_rfl) (by kernel_rfl) (by kernel_rfl) (fun hc => ?_) (fun hc => ?_)
  · replace hS := cond_t hc hS
    refine zlEnd (by kernel_rfl) ?_
    refine zkSeq ?_
    refine zrCondT (by kernel_rfl) ?_
    refine zrReg ?_
    refine bindE hS (fun z47 hz47 hS => ?_)
    refine zlOp (d := some 11) (op := (.mx [])) (g := none) (v := .un) (ups := []) (j := 1) rfl (by kernel_rfl) (by kernel_rfl) (by exact absurd hz47 (by simp [chk])) ?_
    refine bindE hS (fun z48 hz48 hS => ?_)
    refine zlOp (d := none) (op := (.mx [])) (g := none) (v := .un) (ups := []) (j := 2) rfl (by kernel_rfl) (by kernel_rfl) (by exact absurd hz48 (by simp [chk])) ?_
    refine zlEnd (by kernel_rfl) ?_
    refine zkSeq ?_
    exact f63_j0_ok hd a1 a2 hQ  hS (by kernel_rfl)
  · replace hS := cond_f hc hS
    refine zlEnd (by kernel_rfl) ?_
    refine zkSeq ?_
    refine zrCondF (by kernel_rfl) ?_
    refine zrSkip ?_
    refine zkSeq ?_
    exact f63_j0_ok hd a1 a2 hQ  hS (by kernel_rfl)
/- farwriter/grid.blanks -/
def f53_fin (p1 : Int) (p2 : Int) (p3 : List GCell) : St := ⟨(up (fun _ => .un) 6 (.r (.ptr 56 0 0))), (up (up (hB fun _ => 0) 128 ⟨0, some (.own 33 4 (e_GCell.cells p3))⟩) 56 ⟨0, some (.box ((.d (.int .i64 p1)) :: ((.d (.int .i64 p2)) :: ((.r (.msl 128 0 0 p3.length)) :: []))))⟩)⟩
theorem f53_out (p1 : Int) (p2 : Int) (p3 : List GCell) : outR (f53_fin p1 p2 p3) 0 c53.res = some ((.agg ((.d (.int .i64 p1)) :: ((.d (.int .i64 p2)) :: ((.r (.own 0 33 4 p3.length (e_GCell.cells p3))) :: [])))), []) := by
  exact out_of (ids := []) (ids' := [128]) (l := [(.agg ((.d (.int .i64 p1)) :: ((.d (.int .i64 p2)) :: ((.r (.msl 128 0 0 p3.length)) :: []))))]) (by kernel_rfl) (by kernel_rfl) (o_agg (o_cons rfl (o_cons rfl (o_cons (o_own e_GCell (e := 33) (k := 4) (xs := p3) (by kernel_rfl) rfl rfl rfl rfl) o_nil))))
def f53_Q (r : Int × Int × (List GCell)) (e : PX) (st : St) : Prop := DoneF c53 0 ((.agg ((.d (.int .i64 r.1)) :: ((.d (.int .i64 r.2.1)) :: ((.r (.own 0 33 4 r.2.2.length (e_GCell.cells r.2.2))) :: [])))), []) e st
noncomputable def f53 (a1 : Int) (a2 : Int) (a3 : GPen) : Option (Int × Int × (List GCell)) := ((f54 a3).bind fun z3 => ((f63 [z3] (IntKind.i64.wrap (a1 * a2))).bind fun z4 => (some (a1, a2, z4))))
theorem f53_ok (base : Orc) (d : Nat) (hd : 4 ≤ d) (a1 : Int) (a2 : Int) (a3 : GPen) (r : Int × Int × (List GCell)) (hS : f53 a1 a2 a3 = some r) : lev codes base d 53 [(.d (.int .i64 a1)), (.d (.int .i64 a2)), (.agg ((.d (.int .i64 a3.Flags)) :: ((.d (.int .i64 a3.Fore)) :: ((.d (.int .i64 a3.Back)) :: []))))] [] = some ((.agg ((.d (.int .i64 r.1)) :: ((.d (.int .i64 r.2.1)) :: ((.r (.own 0 33 4 r.2.2.length (e_GCell.cells r.2.2))) :: [])))), []) := by
  refine lev_go codes53 rfl rfl (Nat.le_trans (Nat.le_of_ble_eq_true rfl) hd) fun Q hQ => ?_
  unfold f53 at hS
  show ZR _ Q c53_b [] _
  replace hQ : ∀ e st', f53_Q r e st' → Q e st' := hQ
  refine zrSeq ?_
  refine zrReg ?_
  refine zlRun (n := 2) (j := 2) rfl (by kernel_rfl) ?_
  refine zlEnd (by kernel_rfl) ?_
  refine zkSeq ?_
  refine zrSeq ?_
  refine zrReg ?_
  refine zlRun (n := 3) (j := 3) rfl (by kernel_rfl) ?_
  refine bindE hS (fun z3 hz3 hS => ?_)
  refine zlOp (d := some 10) (op := (.call 54 [(.tmp 9)])) (g := none) (v := (.agg ((.d (.int .i64 z3.Rune)) :: ((.d (.int .i64 z3.Pen.Flags)) :: ((.d (.int .i64 z3.Pen.Fore)) :: ((.d (.int .i64 z3.Pen.Back)) :: [])))))) (ups := []) (j := 4) rfl (by kernel_rfl) (by kernel_rfl) (ev_call (args := [(.agg ((.d (.int .i64 a3.Flags)) :: ((.d (.int .i64 a3.Fore)) :: ((.d (.int .i64 a3.Back)) :: []))))]) (l := [(.agg ((.d (.int .i64 a3.Flags)) :: ((.d (.int .i64 a3.Fore)) :: ((.d (.int .i64 a3.Back)) :: []))))]) (r := (.agg ((.d (.int .i64 z3.Rune)) :: ((.d (.int .i64 z3.Pen.Flags)) :: ((.d (.int .i64 z3.Pen.Fore)) :: ((.d (.int .i64 z3.Pen.Back)) :: [])))))) (by kernel_rfl) (by kernel_rfl) (f54_ok base (d - 1) (dpt hd rfl) a3 z3 hz3) (by kernel_rfl) (by kernel_rfl) (by kernel_rfl)) ?_
  refine zlRun (n := 4) (j := 8) rfl (by kernel_rfl) ?_
  refine bindE hS (fun z4 hz4 hS => ?_)
  refine zlOp (d := some 15) (op := (.call 63 [(.tmp 11), (.tmp 14)])) (g := none) (v := (.r (.msl 128 1 0 z4.length))) (ups := [(128, ⟨1, some (.own 33 4 (e_GCell.cells z4))⟩)]) (j := 9) rfl (by kernel_rfl) (by kernel_rfl) (ev_call (args := [(.r (.msl 96 1 0 (([z3] : List GCell).length))), (.d (.int .i64 (IntKind.i64.wrap (a1 * a2))))]) (l := [(.d (.sl ([z3] : List GCell).length (e_GCell.cells ([z3])))), (.d (.int .i64 (IntKind.i64.wrap (a1 * a2))))]) (r := (.r (.own 0 33 4 z4.length (e_GCell.cells z4)))) (by kernel_rfl) (l_cons (l_own e_GCell (e := 33) (k := 4) (xs := [z3]) (by kernel_rfl) rfl rfl) (l_cons (by kernel_rfl) l_nil)) (f63_ok base (d - 1) (dpt hd rfl) [z3] (IntKind.i64.wrap (a1 * a2)) z4 hz4) (by simp only [free_own e_GCell (fun _ => rfl), free_tup, free_agg, free_nl, free_cs, free_int, free_bool, free_str, free_un, free_ni, free_s0, Bool.and_true, Bool.or_true, Bool.and_self]) (by kernel_rfl) (by kernel_rfl)) ?_
  refine zlRun (n := 2) (j := 11) rfl (by kernel_rfl) ?_
  refine zlEnd (by kernel_rfl) ?_
  refine zkSeq ?_
  refine zrRet ?_
  refine zkNil ?_
  exact endQ hS hQ (fRet (by kernel_rfl) ((congrArg (fun s => outR s 0 c53.res) (by kernel_rfl : finSt c53.fin _ = f53_fin a1 a2 z4)).trans (f53_out a1 a2 z4)))
/- farwriter/grid.ScrollIn$1 -/
def f62_fin (p1 : List GCell) : St := ⟨(up (fun _ => .un) 2 (.r (.msl 56 0 0 p1.length))), (up (hB fun _ => 0) 56 ⟨0, some (.own 33 4 (e_GCell.cells p1))⟩)⟩
theorem f62_out (p1 : List GCell) : outR (f62_fin p1) 0 c62.res = some ((.r (.own 0 33 4 p1.length (e_GCell.cells p1))), []) := by
  exact out_of (ids := []) (ids' := [56]) (l := [(.r (.msl 56 0 0 p1.length))]) (by kernel_rfl) (by kernel_rfl) (o_own e_GCell (e := 33) (k := 4) (xs := p1) (by kernel_rfl) rfl rfl rfl rfl)
def f62_Q (r : (List GCell)) (e : PX) (st : St) : Prop := DoneF c62 0 ((.r (.own 0 33 4 r.length (e_GCell.cells r))), []) e st
noncomputable def f62 (a1 : Int) (a2 : Int) (a3 : GPen) (a4 : List PD) : Option ((List GCell)) := ((f53 a1 1 a3).bind fun z2 => (some z2.2.2))
theorem f62_ok (base : Orc) (d : Nat) (hd : 5 ≤ d) (a1 : Int) (a2 : Int) (a3 : GPen) (a4 : List PD) (r : (List GCell)) (hS : f62 a1 a2 a3 a4 = some r) : lev codes base d 62 [(.rptr [.int .i64 a1, .int .i64 a2, .un]), (.rptr (e_GPen.enc a3 ++ a4))] [] = some ((.r (.own 0 33 4 r.length (e_GCell.cells r))), []) := by
  refine lev_go codes62 rfl rfl (Nat.le_trans (Nat.le_of_ble_eq_true rfl) hd) fun Q hQ => ?_
  unfold f62 at hS
  show ZR _ Q c62_b [] _
  replace hQ : ∀ e st', f62_Q r e st' → Q e st' := hQ
  refine zrSeq ?_
  refine zrReg ?_
  refine zlRun (n := 1) (j := 1) rfl (by kernel_rfl) ?_
  refine zlEnd (by kernel_rfl) ?_
  refine zkSeq ?_
  refine zrSeq ?_
  refine zrReg ?_
  refine zlRun (n := 3) (j := 3) rfl (by kernel_rfl) ?_
  refine bindE hS (fun z2 hz2 hS => ?_)
  refine zlOp (d := some 6) (op := (.call 53 [(.tmp 4), (.const (.int .i64 1)), (.tmp 5)])) (g := none) (v := (.agg ((.d (.int .i64 z2.1)) :: ((.d (.int .i64 z2.2.1)) :: ((.r (.msl 56 1 0 z2.2.2.length)) :: []))))) (ups := [(56, ⟨1, some (.own 33 4 (e_GCell.cells z2.2.2))⟩)]) (j := 4) rfl (by kernel_rfl) (by kernel_rfl) (ev_call (args := [(.d (.int .i64 a1)), (.d (.int .i64 1)), (.agg ((.d (.int .i64 a3.Flags)) :: ((.d (.int .i64 a3.Fore)) :: ((.d (.int .i64 a3.Back)) :: []))))]) (l := [(.d (.int .i64 a1)), (.d (.int .i64 1)), (.agg ((.d (.int .i64 a3.Flags)) :: ((.d (.int .i64 a3.Fore)) :: ((.d (.int .i64 a3.Back)) :: []))))]) (r := (.agg ((.d (.int .i64 z2.1)) :: ((.d (.int .i64 z2.2.1)) :: ((.r (.own 0 33 4 z2.2.2.length (e_GCell.cells z2.2.2))) :: []))))) (by kernel_rfl) (by kernel_rfl) (f53_ok base (d - 1) (dpt hd rfl) a1 1 a3 z2 hz2) (by kernel_rfl) (by kernel_rfl) (by kernel_rfl)) ?_
  refine zlRun (n := 2) (j := 6) rfl (by kernel_rfl) ?_
  refine zlEnd (by kernel_rfl) ?_
  refine zkSeq ?_
  refine zrRet ?_
  refine zkNil ?_
  exact endQ hS hQ (fRet (by kernel_rfl) ((congrArg (fun s => outR s 0 c62.res) (by kernel_rfl : finSt c62.fin _ = f62_fin z2.2.2)).trans (f62_out z2.2.2)))
/- farwriter/grid.move[[]farwriter/api.Cell] -/
def f61_fin (p41 : Int) (p42 : Int) (p43 : List GCell) (p44 : GPen) (p45 : List (List GCell)) (p46 : List (List GCell)) : St := ⟨(up (up (fun _ => .un) 2000000 .un) 6 (.r (.msl 64 0 0 p46.length))), (up (up (up (up (up (hB fun _ => 0) 64 ⟨0, some (.own 22 1 ((eSl e_GCell).cells p46))⟩) 0 ⟨0, some (.own 22 1 ((eSl e_GCell).cells p45))⟩) 2 ⟨0, some (.box ((.d (.int .i64 p44.Flags)) :: ((.d (.int .i64 p44.Fore)) :: ((.d (.int .i64 p44.Back)) :: []))))⟩) 3 ⟨0, some (.own 33 4 (e_GCell.cells p43))⟩) 1 ⟨0, some (.box ((.d (.int .i64 p41)) :: ((.d (.int .i64 p42)) :: ((.r (.msl 3 0 0 p43.length)) :: []))))⟩)⟩
theorem f61_out (p41 : Int) (p42 : Int) (p43 : List GCell) (p44 : GPen) (p45 : List (List GCell)) (p46 : List (List GCell)) : outR (f61_fin p41 p42 p43 p44 p45 p46) 4 c61.res = some ((.r (.own 0 22 1 p46.length ((eSl e_GCell).cells p46))), [(.own 22 1 ((eSl e_GCell).cells p45)), (.box ((.d (.int .i64 p41)) :: ((.d (.int .i64 p42)) :: ((.r (.msl 3 0 0 p43.length)) :: [])))), (.box ((.d (.int .i64 p44.Flags)) :: ((.d (.int .i64 p44.Fore)) :: ((.d (.int .i64 p44.Back)) :: [])))), (.own 33 4 (e_GCell.cells p43))]) := by
  exact out_of (ids := []) (ids' := [64]) (l := [(.r (.msl 64 0 0 p46.length))]) (by kernel_rfl) (by kernel_rfl) (o_own (eSl e_GCell) (e := 22) (k := 1) (xs := p46) (by kernel_rfl) rfl rfl rfl rfl)
def f61_Q (r : Int × Int × (List GCell) × GPen × (List (List GCell)) × (List (List GCell))) (e : PX) (st : St) : Prop := DoneF c61 4 ((.r (.own 0 22 1 r.2.2.2.2.2.length ((eSl e_GCell).cells r.2.2.2.2.2))), [(.own 22 1 ((eSl e_GCell).cells r.2.2.2.2.1)), (.box ((.d (.int .i64 r.1)) :: ((.d (.int .i64 r.2.1)) :: ((.r (.msl 3 0 0 r.2.2.1.length)) :: [])))), (.box ((.d (.int .i64 r.2.2.2.1.Flags)) :: ((.d (.int .i64 r.2.2.2.1.Fore)) :: ((.d (.int .i64 r.2.2.2.1.Back)) :: [])))), (.own 33 4 (e_GCell.cells r.2.2.1)), .box []]) e st
def f61_l0_J (a1 : Int) (a2 : List (List GCell)) (a3 : Int) (a4 : Int) (a5 : GPen) (a6 : List GCell) (x : (List (List GCell)) × Int) : St := ⟨(up (up (up (up (up (up (fun _ => .un) 12 (.d (.int .i64 x.2))) 11 (.d (.int .i64 (a2.length : Int)))) 7 (.r (.msl 64 0 0 x.1.length))) 2 (.fn 62 [(.r (.ptr 1 0 0)), (.r (.ptr 2 0 0))])) 1 (.d (.int .i64 a1))) 0 (.r (.msl 0 0 0 a2.length))), (up (up (up (up (up (hB fun _ => 0) 64 ⟨0, some (.own 22 1 ((eSl e_GCell).cells x.1))⟩) 0 ⟨0, some (.own 22 1 ((eSl e_GCell).cells a2))⟩) 2 ⟨0, some (.box ((.d (.int .i64 a5.Flags)) :: ((.d (.int .i64 a5.Fore)) :: ((.d (.int .i64 a5.Back)) :: []))))⟩) 3 ⟨0, some (.own 33 4 (e_GCell.cells a6))⟩) 1 ⟨0, some (.box ((.d (.int .i64 a3)) :: ((.d (.int .i64 a4)) :: ((.r (.msl 3 0 0 a6.length)) :: []))))⟩)⟩
def f61_l0_H (a1 : Int) (a2 : List (List GCell)) (a3 : Int) (a4 : Int) (a5 : GPen) (a6 : List GCell) (x : (List (List GCell)) × Int) (st : St) : Prop := keepSt [0, 1, 2, 7, 11, 12] [(1, .id 1), (3, .id 3), (2, .id 2), (0, .id 0), (64, .id 64)] [] st = f61_l0_J a1 a2 a3 a4 a5 a6 x
def f61_l0_e0_J (a1 : Int) (a2 : List (List GCell)) (a3 : Int) (a4 : Int) (a5 : GPen) (a6 : List GCell) (p40 : List (List GCell)) : St := ⟨(up (fun _ => .un) 7 (.r (.msl 64 0 0 p40.length))), (up (up (up (up (up (hB fun _ => 0) 64 ⟨0, some (.own 22 1 ((eSl e_GCell).cells p40))⟩) 0 ⟨0, some (.own 22 1 ((eSl e_GCell).cells a2))⟩) 2 ⟨0, some (.box ((.d (.int .i64 a5.Flags)) :: ((.d (.int .i64 a5.Fore)) :: ((.d (.int .i64 a5.Back)) :: []))))⟩) 3 ⟨0, some (.own 33 4 (e_GCell.cells a6))⟩) 1 ⟨0, some (.box ((.d (.int .i64 a3)) :: ((.d (.int .i64 a4)) :: ((.r (.msl 3 0 0 a6.length)) :: []))))⟩)⟩
def f61_l0_X (a1 : Int) (a2 : List (List GCell)) (a3 : Int) (a4 : Int) (a5 : GPen) (a6 : List GCell) (z : ((List (List GCell)))) (e : PX) (st : St) : Prop := e = .exit 0 ∧ st = f61_l0_e0_J a1 a2 a3 a4 a5 a6 z
def f61_l0_j3_J (a1 : Int) (a2 : List (List GCell)) (a3 : Int) (a4 : Int) (a5 : GPen) (a6 : List GCell) (p57 : List (List GCell)) (p58 : Int) : St := ⟨(up (up (up (up (up (up (fun _ => .un) 12 (.d (.int .i64 p58))) 11 (.d (.int .i64 (a2.length : Int)))) 7 (.r (.msl 64 0 0 p57.length))) 2 (.fn 62 [(.r (.ptr 1 0 0)), (.r (.ptr 2 0 0))])) 1 (.d (.int .i64 a1))) 0 (.r (.msl 0 0 0 a2.length))), (up (up (up (up (up (hB fun _ => 0) 64 ⟨0, some (.own 22 1 ((eSl e_GCell).cells p57))⟩) 0 ⟨0, some (.own 22 1 ((eSl e_GCell).cells a2))⟩) 2 ⟨0, some (.box ((.d (.int .i64 a5.Flags)) :: ((.d (.int .i64 a5.Fore)) :: ((.d (.int .i64 a5.Back)) :: []))))⟩) 3 ⟨0, some (.own 33 4 (e_GCell.cells a6))⟩) 1 ⟨0, some (.box ((.d (.int .i64 a3)) :: ((.d (.int .i64 a4)) :: ((.r (.msl 3 0 0 a6.length)) :: []))))⟩)⟩
noncomputable def f61_l0_j3 (a1 : Int) (a2 : List (List GCell)) (a3 : Int) (a4 : Int) (a5 : GPen) (a6 : List GCell) (p57 : List (List GCell)) (p58 : Int) : Option (((List (List GCell)) × Int) ⊕ (((List (List GCell))))) := ((f62 a3 a4 a5 []).bind fun z16 => ((app? 24 p57 ([z16] : List (List GCell))).bind fun z17 => (some (.inl (z17, (IntKind.i64.wrap (p58 + 1)))))))
theorem f61_l0_j3_ok {base : Orc} {d : Nat} (hd : 6 ≤ d) (a1 : Int) (a2 : List (List GCell)) (a3 : Int) (a4 : Int) (a5 : GPen) (a6 : List GCell) {r : ((List (List GCell)) × Int) ⊕ (((List (List GCell))))} {Q : PX → St → Prop} (hQ : ∀ e st', finL (f61_l0_H a1 a2 a3 a4 a5 a6) (f61_l0_X a1 a2 a3 a4 a5 a6) r e st' → Q e st') (p57 : List (List GCell)) (p58 : Int) (hS : f61_l0_j3 a1 a2 a3 a4 a5 a6 p57 p58 = some r) {st : St} (he : keepSt [0, 1, 2, 7, 11, 12] [(1, .id 1), (3, .id 3), (2, .id 2), (0, .id 0), (64, .id 64)] [] st = f61_l0_j3_J a1 a2 a3 a4 a5 a6 p57 p58) : ZR (lev codes base (d - 1)) Q c61_1 [.blk 1, .seq c61_2] st := by
  refine zrKeep he ?_
  unfold f61_l0_j3 at hS
  refine zrReg ?_
  refine zlRun (n := 2) (j := 2) rfl (by kernel_rfl) ?_
  refine bindE hS (fun z16 hz16 hS => ?_)
  refine zlOp (d := some 35) (op := (.callv (.tmp 34) [])) (g := none) (v := (.r (.msl 288 1 0 z16.length))) (ups := [(288, ⟨1, some (.own 33 4 (e_GCell.cells z16))⟩)]) (j := 3) rfl (by kernel_rfl) (by kernel_rfl) (ev_callv (f := 62) (cs := [(.r (.ptr 1 0 0)), (.r (.ptr 2 0 0))]) (by kernel_rfl) (args := [(.r (.ptr 1 0 0)), (.r (.ptr 2 0 0))]) (l := [(.rptr [.int .i64 a3, .int .i64 a4, .un]), (.rptr (e_GPen.enc a5 ++ []))]) (r := (.r (.own 0 33 4 z16.length (e_GCell.cells z16)))) (by kernel_rfl) (by kernel_rfl) (f62_ok base (d - 1) (dpt hd rfl) a3 a4 a5 [] z16 hz16) (by simp only [free_own e_GCell (fun _ => rfl), free_tup, free_agg, free_nl, free_cs, free_int, free_bool, free_str, free_un, free_ni, free_s0, Bool.and_true, Bool.or_true, Bool.and_self]) (by kernel_rfl) (by kernel_rfl)) ?_
  refine zlOp (d := some 36) (op := (.bsl 22 1 1 [(1, (.slice .none 0 0))] [(0, (1, (.tmp 35)))])) (g := none) (v := (.r (.msl 296 1 0 (([z16] : List (List GCell)).length)))) (ups := [(288, ⟨2, none⟩), (296, ⟨1, some (.own 22 1 ((eSl e_GCell).cells ([z16])))⟩)]) (j := 4) rfl (by kernel_rfl) (by kernel_rfl) ((by kernel_rfl : peval _ _ 36 (ρof _) (.bsl 22 1 1 [(1, (.slice .none 0 0))] [(0, (1, (.tmp 35)))]) = some ((.r (.msl 296 1 0 (([z16] : List (List GCell)).length))), [(288, ⟨2, none⟩), (296, ⟨1, some (.own 22 1 [.sl z16.length (((e_GCell.cells z16).drop (0 * e_GCell.k)).take (z16.length * e_GCell.k))])⟩)])).trans (by simp only [Enc.frz]; rfl)) ?_
  refine bindE hS (fun z17 hz17 hS => ?_)
  refine zlOp (d := some 37) (op := (.app 22 1 24 (.tmp 33) (.tmp 36))) (g := none) (v := (.r (.msl 64 1 0 z17.length))) (ups := [(64, ⟨1, some (.own 22 1 ((eSl e_GCell).cells z17))⟩)]) (j := 5) rfl (by kernel_rfl) (by kernel_rfl) (ev_app (eSl e_GCell) (b := 64) (g := 0) (n := p57.length) (xs := p57) (ys := [z16]) ((congrArg (asL _) (by kernel_rfl : ρof _ (.tmp 36) = (.r (.msl 296 1 0 (([z16] : List (List GCell)).length))))).trans (as_whole (eSl e_GCell) (e := 22) (k := 1) (xs := [z16]) (by kernel_rfl) rfl rfl)) rfl (by kernel_rfl) rfl (by kernel_rfl) rfl hz17) ?_
  refine zlRun (n := 1) (j := 6) rfl (by kernel_rfl) ?_
  refine zlEnd (by kernel_rfl) ?_
  refine zkBlk ?_
  refine zkSeq ?_
  refine zrReg ?_
  refine zlRun (n := 2) (j := 2) rfl (by kernel_rfl) ?_
  refine zlEnd (by kernel_rfl) ?_
  refine zkNil ?_
  exact endQ hS hQ (finL_n (by show keepSt _ _ _ _ = _; kernel_rfl))
def f61_l0_j2_J (a1 : Int) (a2 : List (List GCell)) (a3 : Int) (a4 : Int) (a5 : GPen) (a6 : List GCell) (p53 : List (List GCell)) (p54 : Int) : St := ⟨(up (up (up (up (up (up (fun _ => .un) 12 (.d (.int .i64 p54))) 11 (.d (.int .i64 (a2.length : Int)))) 7 (.r (.msl 64 0 0 p53.length))) 2 (.fn 62 [(.r (.ptr 1 0 0)), (.r (.ptr 2 0 0))])) 1 (.d (.int .i64 a1))) 0 (.r (.msl 0 0 0 a2.length))), (up (up (up (up (up (hB fun _ => 0) 64 ⟨0, some (.own 22 1 ((eSl e_GCell).cells p53))⟩) 0 ⟨0, some (.own 22 1 ((eSl e_GCell).cells a2))⟩) 2 ⟨0, some (.box ((.d (.int .i64 a5.Flags)) :: ((.d (.int .i64 a5.Fore)) :: ((.d (.int .i64 a5.Back)) :: []))))⟩) 3 ⟨0, some (.own 33 4 (e_GCell.cells a6))⟩) 1 ⟨0, some (.box ((.d (.int .i64 a3)) :: ((.d (.int .i64 a4)) :: ((.r (.msl 3 0 0 a6.length)) :: []))))⟩)⟩
noncomputable def f61_l0_j2 (a1 : Int) (a2 : List (List GCell)) (a3 : Int) (a4 : Int) (a5 : GPen) (a6 : List GCell) (p53 : List (List GCell)) (p54 : Int) : Option (((List (List GCell)) × Int) ⊕ (((List (List GCell))))) := (bif (decide (0 ≤ (IntKind.i64.wrap (p54 - a1)))) then (bif (decide ((IntKind.i64.wrap (p54 - a1)) < (a2.length : Int))) then ((inR (IntKind.i64.wrap (p54 - a1)) a2.length).bind fun m18 => ((a2[m18]?).bind fun z19 => ((app? 24 p53 ([z19] : List (List GCell))).bind fun z20 => (some (.inl (z20, (IntKind.i64.wrap (p54 + 1)))))))) else (f61_l0_j3 a1 a2 a3 a4 a5 a6 p53 p54)) else (f61_l0_j3 a1 a2 a3 a4 a5 a6 p53 p54))
theorem f61_l0_j2_ok {base : Orc} {d : Nat} (hd : 6 ≤ d) (a1 : Int) (a2 : List (List GCell)) (a3 : Int) (a4 : Int) (a5 : GPen) (a6 : List GCell) {r : ((List (List GCell)) × Int) ⊕ (((List (List GCell))))} {Q : PX → St → Prop} (hQ : ∀ e st', finL (f61_l0_H a1 a2 a3 a4 a5 a6) (f61_l0_X a1 a2 a3 a4 a5 a6) r e st' → Q e st') (p53 : List (List GCell)) (p54 : Int) (hS : f61_l0_j2 a1 a2 a3 a4 a5 a6 p53 p54 = some r) {st : St} (he : keepSt [0, 1, 2, 7, 11, 12] [(1, .id 1), (3, .id 3), (2, .id 2), (0, .id 0), (64, .id 64)] [] st = f61_l0_j2_J a1 a2 a3 a4 a5 a6 p53 p54) : ZR (lev codes base (d - 1)) Q c61_3 [] st := by
  refine zrKeep he ?_
  unfold f61_l0_j2 at hS
  refine zrSeq ?_
  refine zrBlk ?_
  refine zrSeq ?_
  refine zrReg ?_
  refine zlRun (n := 2) (j := 2) rfl (by kernel_rfl) ?_
  refine zlEnd (by kernel_rfl) ?_
  refine zkSeq ?_
  refine zrSeq ?_
  refine zrReg ?_
  refine zlRun (n := 4) (j := 4) rfl (by kernel_rfl) ?_
  refine zlEnd (by kernel_rfl) ?_
  refine zkSeq ?_
  refine zrSeq ?_
  refine zrReg ?_
  refine zlRun (n := 1) (j := 1) rfl (by kernel_rfl) ?_
  refine zlBool (d := 19) (op := (.cmpI .geq (.tmp 18) (.const (.int .i64 0)))) (g := none) (j := 2) (decide (0 ≤ (IntKind.i64.wrap (p54 - a1)))) rfl (by kernel_rfl) (by kernel_rfl) (by kernel_rfl) (fun hc => ?_) (fun hc => ?_)
  · replace hS := cond_t hc hS
    refine zlRun (n := 4) (j := 6) rfl (by kernel_rfl) ?_
    refine zlBool (d := 24) (op := (.cmpI .lss (.tmp 21) (.tmp 23))) (g := (some (20, true))) (j := 7) (decide ((IntKind.i64.wrap (p54 - a1)) < (a2.length : Int))) rfl (by kernel_rfl) (by kernel_rfl) (by kernel_rfl) (fun hc => ?_) (fun hc => ?_)
    · replace hS := cond_t hc hS
      refine zlRun (n := 1) (j := 8) rfl (by kernel_rfl) ?_
      refine zlEnd (by kernel_rfl) ?_
      refine zkSeq ?_
      refine zrCondT (by kernel_rfl) ?_
      refine zrReg ?_
      refine zlRun (n := 3) (j := 3) rfl (by kernel_rfl) ?_
      refine bindE hS (fun m18 hm18 hS => ?_)
      refine zlOp (d := some 29) (op := (.ixS 22 1 (.tmp 27) (.tmp 28))) (g := none) (v := (.r (.ptr 0 0 ((0 + m18) * 1)))) (ups := []) (j := 4) rfl (by kernel_rfl) (by kernel_rfl) (ev_ixM (kk := .i64) (b := 0) (g := 0) (l := 0) (n := a2.length) (j := (IntKind.i64.wrap (p54 - a1))) (cs := (eSl e_GCell).cells a2) (by kernel_rfl) (by kernel_rfl) (by kernel_rfl) hm18) ?_
      refine bindE hS (fun z19 hz19 hS => ?_)
      refine zlOp (d := some 30) (op := (.load .false 1 (.tmp 29))) (g := none) (v := (.d (.sl z19.length (e_GCell.cells z19)))) (ups := []) (j := 5) rfl (by kernel_rfl) (by kernel_rfl) (ev_loadM (eSl e_GCell) (b := 0) (g := 0) (o := (0 + m18) * 1) (e := 22) (k := 1) (m := m18) (fo := 0) (xs := a2) (by kernel_rfl) (by kernel_rfl) (by rw [Nat.zero_add]; rfl) hz19 (by kernel_rfl) (by kernel_rfl) (by kernel_rfl)) ?_
      refine zlRun (n := 1) (j := 6) rfl (by kernel_rfl) ?_
      refine bindE hS (fun z20 hz20 hS => ?_)
      refine zlOp (d := some 32) (op := (.app 22 1 24 (.tmp 26) (.tmp 31))) (g := none) (v := (.r (.msl 64 1 0 z20.length))) (ups := [(64, ⟨1, some (.own 22 1 ((eSl e_GCell).cells z20))⟩)]) (j := 7) rfl (by kernel_rfl) (by kernel_rfl) (ev_app (eSl e_GCell) (b := 64) (g := 0) (n := p53.length) (xs := p53) (ys := [z19]) ((congrArg (asL _) (by kernel_rfl : ρof _ (.tmp 31) = (.r (.msl 256 1 0 (([z19] : List (List GCell)).length))))).trans (as_whole (eSl e_GCell) (e := 22) (k := 1) (xs := [z19]) (by kernel_rfl) rfl rfl)) rfl (by kernel_rfl) rfl (by kernel_rfl) rfl hz20) ?_
      refine zlRun (n := 1) (j := 8) rfl (by kernel_rfl) ?_
      refine zlEnd (by kernel_rfl) ?_
      refine zkBlk ?_
      refine zkSeq ?_
      refine zrReg ?_
      refine zlRun (n := 2) (j := 2) rfl (by kernel_rfl) ?_
      refine zlEnd (by kernel_rfl) ?_
      refine zkNil ?_
      exact endQ hS hQ (finL_n (by show keepSt _ _ _ _ = _; kernel_rfl))
    · replace hS := cond_f hc hS
      refine zlRun (n := 1) (j := 8) rfl (by kernel_rfl) ?_
      refine zlEnd (by kernel_rfl) ?_
      refine zkSeq ?_
      refine zrCondF (by kernel_rfl) ?_
      exact f61_l0_j3_ok hd a1 a2 a3 a4 a5 a6 hQ p53 p54 hS (by kernel_rfl)
  · replace hS := cond_f hc hS
    refine zlRun (n := 6) (j := 8) rfl (by kernel_rfl) ?_
    refine zlEnd (by kernel_rfl) ?_
    refine zkSeq ?_
    refine zrCondF (by kernel_rfl) ?_
    exact f61_l0_j3_ok hd a1 a2 a3 a4 a5 a6 hQ p53 p54 hS (by kernel_rfl)
def f61_l0_j1_J (a1 : Int) (a2 : List (List GCell)) (a3 : Int) (a4 : Int) (a5 : GPen) (a6 : List GCell) (p50 : List (List GCell)) (p51 : Int) (p52 : Bool) : St := ⟨(up (up (up (up (up (up (up (fun _ => .un) 13 (.d (.bool p52))) 12 (.d (.int .i64 p51))) 11 (.d (.int .i64 (a2.length : Int)))) 7 (.r (.msl 64 0 0 p50.length))) 2 (.fn 62 [(.r (.ptr 1 0 0)), (.r (.ptr 2 0 0))])) 1 (.d (.int .i64 a1))) 0 (.r (.msl 0 0 0 a2.length))), (up (up (up (up (up (hB fun _ => 0) 64 ⟨0, some (.own 22 1 ((eSl e_GCell).cells p50))⟩) 0 ⟨0, some (.own 22 1 ((eSl e_GCell).cells a2))⟩) 2 ⟨0, some (.box ((.d (.int .i64 a5.Flags)) :: ((.d (.int .i64 a5.Fore)) :: ((.d (.int .i64 a5.Back)) :: []))))⟩) 3 ⟨0, some (.own 33 4 (e_GCell.cells a6))⟩) 1 ⟨0, some (.box ((.d (.int .i64 a3)) :: ((.d (.int .i64 a4)) :: ((.r (.msl 3 0 0 a6.length)) :: []))))⟩)⟩
noncomputable def f61_l0_j1 (a1 : Int) (a2 : List (List GCell)) (a3 : Int) (a4 : Int) (a5 : GPen) (a6 : List GCell) (p50 : List (List GCell)) (p51 : Int) (p52 : Bool) : Option (((List (List GCell)) × Int) ⊕ (((List (List GCell))))) := (bif p52 then (f61_l0_j2 a1 a2 a3 a4 a5 a6 p50 p51) else (some (.inr p50)))
theorem f61_l0_j1_ok {base : Orc} {d : Nat} (hd : 6 ≤ d) (a1 : Int) (a2 : List (List GCell)) (a3 : Int) (a4 : Int) (a5 : GPen) (a6 : List GCell) {r : ((List (List GCell)) × Int) ⊕ (((List (List GCell))))} {Q : PX → St → Prop} (hQ : ∀ e st', finL (f61_l0_H a1 a2 a3 a4 a5 a6) (f61_l0_X a1 a2 a3 a4 a5 a6) r e st' → Q e st') (p50 : List (List GCell)) (p51 : Int) (p52 : Bool) (hS : f61_l0_j1 a1 a2 a3 a4 a5 a6 p50 p51 p52 = some r) {st : St} (he : keepSt [0, 1, 2, 7, 11, 12, 13] [(1, .id 1), (3, .id 3), (2, .id 2), (0, .id 0), (64, .id 64)] [] st = f61_l0_j1_J a1 a2 a3 a4 a5 a6 p50 p51 p52) : ZR (lev codes base (d - 1)) Q c61_4 [] st := by
  refine zrKeep he ?_
  unfold f61_l0_j1 at hS
  refine zrSeq ?_
  refine zrSplit 13 p52 (by kernel_rfl) (fun hc => ?_) (fun hc => ?_)
  · replace hS := cond_t hc hS
    refine zrCondT (by kernel_rfl) ?_
    refine zrSkip ?_
    refine zkSeq ?_
    exact f61_l0_j2_ok hd a1 a2 a3 a4 a5 a6 hQ p50 p51 hS (by kernel_rfl)
  · replace hS := cond_f hc hS
    refine zrCondF (by kernel_rfl) ?_
    refine zrKeep (J := f61_l0_e0_J a1 a2 a3 a4 a5 a6 p50) (by kernel_rfl) ?_
    refine zrExit ?_
    refine zkSeqX ?_
    refine zkNil ?_
    exact endQ hS hQ (finL_x (by intro h; cases h) (by show _ = _ ∧ _ = _; exact ⟨rfl, rfl⟩))
noncomputable def f61_l0 (a1 : Int) (a2 : List (List GCell)) (a3 : Int) (a4 : Int) (a5 : GPen) (a6 : List GCell) (x : (List (List GCell)) × Int) : Option (((List (List GCell)) × Int) ⊕ (((List (List GCell))))) := (bif (decide (x.2 < (a2.length : Int))) then (f61_l0_j1 a1 a2 a3 a4 a5 a6 x.1 x.2 true) else (f61_l0_j1 a1 a2 a3 a4 a5 a6 x.1 x.2 false))
theorem f61_l0_ok {base : Orc} {d : Nat} (hd : 6 ≤ d) (a1 : Int) (a2 : List (List GCell)) (a3 : Int) (a4 : Int) (a5 : GPen) (a6 : List GCell) {r : ((List (List GCell)) × Int) ⊕ (((List (List GCell))))} {Q : PX → St → Prop} (hQ : ∀ e st', finL (f61_l0_H a1 a2 a3 a4 a5 a6) (f61_l0_X a1 a2 a3 a4 a5 a6) r e st' → Q e st') {x : (List (List GCell)) × Int} (hS : f61_l0 a1 a2 a3 a4 a5 a6 x = some r) {st : St} (he : f61_l0_H a1 a2 a3 a4 a5 a6 x st) : ZR (lev codes base (d - 1)) Q c61_5 [] st := by
  refine zrKeep he ?_
  unfold f61_l0 at hS
  refine zrSeq ?_
  refine zrReg ?_
  refine zlBool (d := 13) (op := (.cmpI .lss (.tmp 12) (.tmp 11))) (g := none) (j := 1) (decide (x.2 < (a2.length : Int))) rfl (by kernel_rfl) (by kernel_rfl) (by kernel_rfl) (fun hc => ?_) (fun hc => ?_)
  · replace hS := cond_t hc hS
    refine zlEnd (by kernel_rfl) ?_
    refine zkSeq ?_
    exact f61_l0_j1_ok hd a1 a2 a3 a4 a5 a6 hQ x.1 x.2 true hS (by kernel_rfl)
  · replace hS := cond_f hc hS
    refine zlEnd (by kernel_rfl) ?_
    refine zkSeq ?_
    exact f61_l0_j1_ok hd a1 a2 a3 a4 a5 a6 hQ x.1 x.2 false hS (by kernel_rfl)
noncomputable def f61 (a1 : Int) (a2 : List (List GCell)) (a3 : Int) (a4 : Int) (a5 : GPen) (a6 : List GCell) : Option (Int × Int × (List GCell) × GPen × (List (List GCell)) × (List (List GCell))) := ((loopO (f61_l0 a1 a2 a3 a4 a5 a6) ([], 0)).bind fun z21 => (some (a3, a4, a6, a5, a2, z21)))
theorem f61_ok (base : Orc) (d : Nat) (hd : 6 ≤ d) (a1 : Int) (a2 : List (List GCell)) (a3 : Int) (a4 : Int) (a5 : GPen) (a6 : List GCell) (r : Int × Int × (List GCell) × GPen × (List (List GCell)) × (List (List GCell))) (hS : f61 a1 a2 a3 a4 a5 a6 = some r) : lev codes base d 61 [(.r (.msl 0 0 0 a2.length)), (.d (.int .i64 a1)), (.fn 62 [(.r (.ptr 1 0 0)), (.r (.ptr 2 0 0))])] [(.own 22 1 ((eSl e_GCell).cells a2)), (.box ((.d (.int .i64 a3)) :: ((.d (.int .i64 a4)) :: ((.r (.msl 3 0 0 a6.length)) :: [])))), (.box ((.d (.int .i64 a5.Flags)) :: ((.d (.int .i64 a5.Fore)) :: ((.d (.int .i64 a5.Back)) :: [])))), (.own 33 4 (e_GCell.cells a6))] = some ((.r (.own 0 22 1 r.2.2.2.2.2.length ((eSl e_GCell).cells r.2.2.2.2.2))), [(.own 22 1 ((eSl e_GCell).cells r.2.2.2.2.1)), (.box ((.d (.int .i64 r.1)) :: ((.d (.int .i64 r.2.1)) :: ((.r (.msl 3 0 0 r.2.2.1.length)) :: [])))), (.box ((.d (.int .i64 r.2.2.2.1.Flags)) :: ((.d (.int .i64 r.2.2.2.1.Fore)) :: ((.d (.int .i64 r.2.2.2.1.Back)) :: [])))), (.own 33 4 (e_GCell.cells r.2.2.1)), .box []]) := by
  refine lev_go codes61 rfl rfl (Nat.le_trans (Nat.le_of_ble_eq_true rfl) hd) fun Q hQ => ?_
  unfold f61 at hS
  show ZR _ Q c61_b [] _
  replace hQ : ∀ e st', f61_Q r e st' → Q e st' := hQ
  refine zrSeq ?_
  refine zrReg ?_
  refine zlRun (n := 1) (j := 1) rfl (by kernel_rfl) ?_
  refine zlEnd (by kernel_rfl) ?_
  refine zkSeq ?_
  refine zrSeq ?_
  refine zrReg ?_
  refine zlRun (n := 1) (j := 1) rfl (by kernel_rfl) ?_
  refine zlEnd (by kernel_rfl) ?_
  refine zkSeq ?_
  refine zrSeq ?_
  refine zrSeq ?_
  refine zrReg ?_
  refine zlRun (n := 3) (j := 3) rfl (by kernel_rfl) ?_
  refine zlEnd (by kernel_rfl) ?_
  refine zkSeq ?_
  refine zrBlk ?_
  refine bindE hS (fun z21 hz21 hS => ?_)
  refine zrLoop (f61_l0_H a1 a2 a3 a4 a5 a6) (f61_l0_X a1 a2 a3 a4 a5 a6) (fun x st r Q h0 hS hQ => f61_l0_ok hd a1 a2 a3 a4 a5 a6 hQ hS h0) (x := ([], 0)) (z := z21) (by show keepSt _ _ _ _ = _; kernel_rfl) hz21 ?_
  intro e st' _ hX
  obtain ⟨rfl, rfl⟩ : _ ∧ _ := hX
  refine zkBlkX ?_
  refine zkSeq ?_
  refine zrSeq ?_
  refine zrReg ?_
  refine zlRun (n := 2) (j := 2) rfl (by kernel_rfl) ?_
  refine zlEnd (by kernel_rfl) ?_
  refine zkSeq ?_
  refine zrRet ?_
  refine zkNil ?_
  exact endQ hS hQ (fRetX (by kernel_rfl) (by kernel_rfl : finSt c61.fin _ = f61_fin a3 a4 a6 a5 a2 z21) (by kernel_rfl) (f61_out a3 a4 a6 a5 a2 z21))
/- farwriter/grid.ScrollIn -/
def f43_fin (p56 : List GCell) : St := ⟨(up (fun _ => .un) 2000000 .un), (up (hB fun _ => 0) 0 ⟨0, some (.own 33 4 (e_GCell.cells p56))⟩)⟩
theorem f43_out (p56 : List GCell) : outR (f43_fin p56) 1 c43.res = some ((.tup []), [(.own 33 4 (e_GCell.cells p56))]) := by
  kernel_rfl
def f43_Q (r : (List GCell)) (e : PX) (st : St) : Prop := DoneF c43 1 ((.tup []), [(.own 33 4 (e_GCell.cells r)), .box []]) e st
def f43_l1_J (a1 : Int) (a2 : Int) (a3 : Int) (a4 : Int) (a5 : Int) (a6 : GPen) (a7 : List GCell) (x : (List GCell) × Int × Int × (List (List GCell)) × Int × Int) : St := ⟨(up (up (up (up (up (fun _ => .un) 34 (.d (.int .i64 x.2.2.2.2.2))) 33 (.d (.int .i64 x.2.2.2.2.1))) 32 (.r (.msl 256 0 0 x.2.2.2.1.length))) 5 (.r (.ptr 48 0 0))) 1 (.d (.int .i64 a3))), (up (up (up (hB fun _ => 0) 256 ⟨0, some (.own 22 1 ((eSl e_GCell).cells x.2.2.2.1))⟩) 48 ⟨0, some (.box ((.d (.int .i64 x.2.1)) :: ((.d (.int .i64 x.2.2.1)) :: ((.r (.msl 0 0 0 x.1.length)) :: []))))⟩) 0 ⟨0, some (.own 33 4 (e_GCell.cells x.1))⟩)⟩
def f43_l1_H (a1 : Int) (a2 : Int) (a3 : Int) (a4 : Int) (a5 : Int) (a6 : GPen) (a7 : List GCell) (x : (List GCell) × Int × Int × (List (List GCell)) × Int × Int) (st : St) : Prop := keepSt [1, 5, 32, 33, 34] [(0, .id 0), (48, .id 48), (256, .id 256)] [] st = f43_l1_J a1 a2 a3 a4 a5 a6 a7 x
def f43_l1_e2_J (a1 : Int) (a2 : Int) (a3 : Int) (a4 : Int) (a5 : Int) (a6 : GPen) (a7 : List GCell) (p96 : List GCell) : St := ⟨(fun _ => .un), (up (hB fun _ => 0) 0 ⟨0, some (.own 33 4 (e_GCell.cells p96))⟩)⟩
def f43_l1_X (a1 : Int) (a2 : Int) (a3 : Int) (a4 : Int) (a5 : Int) (a6 : GPen) (a7 : List GCell) (z : ((List GCell))) (e : PX) (st : St) : Prop := e = .exit 2 ∧ st = f43_l1_e2_J a1 a2 a3 a4 a5 a6 a7 z
def f43_l1_j3_J (a1 : Int) (a2 : Int) (a3 : Int) (a4 : Int) (a5 : Int) (a6 : GPen) (a7 : List GCell) (p111 : List GCell) (p112 : Int) (p113 : Int) (p114 : List (List GCell)) (p115 : Int) (p116 : Int) : St := ⟨(up (up (up (up (up (fun _ => .un) 34 (.d (.int .i64 p116))) 33 (.d (.int .i64 p115))) 32 (.r (.msl 256 0 0 p114.length))) 5 (.r (.ptr 48 0 0))) 1 (.d (.int .i64 a3))), (up (up (up (hB fun _ => 0) 256 ⟨0, some (.own 22 1 ((eSl e_GCell).cells p114))⟩) 48 ⟨0, some (.box ((.d (.int .i64 p112)) :: ((.d (.int .i64 p113)) :: ((.r (.msl 0 0 0 p111.length)) :: []))))⟩) 0 ⟨0, some (.own 33 4 (e_GCell.cells p111))⟩)⟩
noncomputable def f43_l1_j3 (a1 : Int) (a2 : Int) (a3 : Int) (a4 : Int) (a5 : Int) (a6 : GPen) (a7 : List GCell) (p111 : List GCell) (p112 : Int) (p113 : Int) (p114 : List (List GCell)) (p115 : Int) (p116 : Int) : Option (((List GCell) × Int × Int × (List (List GCell)) × Int × Int) ⊕ (((List GCell)))) := ((inR p116 p114.length).bind fun m58 => ((p114[m58]?).bind fun z59 => ((f33v1 p112 p113 (IntKind.i64.wrap (a3 + p116)) p111).bind fun z60 => ((chk (decide (z60.1.length = p111.length))).bind fun z61 => ((chk (decide (z60.2.1 + z60.2.2 ≤ z60.1.length))).bind fun z62 => ((some (cpyL z60.1 z60.2.1 z60.2.2 z59)).bind fun z63 => (some (.inl (z63, p112, p113, p114, p115, (IntKind.i64.wrap (p116 + 1)))))))))))
theorem f43_l1_j3_ok {base : Orc} {d : Nat} (hd : 7 ≤ d) (a1 : Int) (a2 : Int) (a3 : Int) (a4 : Int) (a5 : Int) (a6 : GPen) (a7 : List GCell) {r : ((List GCell) × Int × Int × (List (List GCell)) × Int × Int) ⊕ (((List GCell)))} {Q : PX → St → Prop} (hQ : ∀ e st', finL (f43_l1_H a1 a2 a3 a4 a5 a6 a7) (f43_l1_X a1 a2 a3 a4 a5 a6 a7) r e st' → Q e st') (p111 : List GCell) (p112 : Int) (p113 : Int) (p114 : List (List GCell)) (p115 : Int) (p116 : Int) (hS : f43_l1_j3 a1 a2 a3 a4 a5 a6 a7 p111 p112 p113 p114 p115 p116 = some r) {st : St} (he : keepSt [1, 5, 32, 33, 34] [(0, .id 0), (48, .id 48), (256, .id 256)] [] st = f43_l1_j3_J a1 a2 a3 a4 a5 a6 a7 p111 p112 p113 p114 p115 p116) : ZR (lev codes base (d - 1)) Q c43_1 [] st := by
  refine zrKeep he ?_
  unfold f43_l1_j3 at hS
  refine zrSeq ?_
  refine zrBlk ?_
  refine zrSeq ?_
  refine zrReg ?_
  refine zlRun (n := 1) (j := 1) rfl (by kernel_rfl) ?_
  refine bindE hS (fun m58 hm58 hS => ?_)
  refine zlOp (d := some 37) (op := (.ixS 22 1 (.tmp 32) (.tmp 34))) (g := none) (v := (.r (.ptr 256 0 ((0 + m58) * 1)))) (ups := []) (j := 2) rfl (by kernel_rfl) (by kernel_rfl) (ev_ixM (kk := .i64) (b := 256) (g := 0) (l := 0) (n := p114.length) (j := p116) (cs := (eSl e_GCell).cells p114) (by kernel_rfl) (by kernel_rfl) (by kernel_rfl) hm58) ?_
  refine bindE hS (fun z59 hz59 hS => ?_)
  refine zlOp (d := some 38) (op := (.load .false 1 (.tmp 37))) (g := none) (v := (.d (.sl z59.length (e_GCell.cells z59)))) (ups := []) (j := 3) rfl (by kernel_rfl) (by kernel_rfl) (ev_loadM (eSl e_GCell) (b := 256) (g := 0) (o := (0 + m58) * 1) (e := 22) (k := 1) (m := m58) (fo := 0) (xs := p114) (by kernel_rfl) (by kernel_rfl) (by rw [Nat.zero_add]; rfl) hz59 (by kernel_rfl) (by kernel_rfl) (by kernel_rfl)) ?_
  refine zlRun (n := 2) (j := 5) rfl (by kernel_rfl) ?_
  refine zlEnd (by kernel_rfl) ?_
  refine zkSeq ?_
  refine zrReg ?_
  refine zlRun (n := 4) (j := 4) rfl (by kernel_rfl) ?_
  refine bindE hS (fun z60 hz60 hS => ?_)
  refine bindE hS (fun z61 hz61 hS => ?_)
  refine zlOp (d := some 43) (op := (.callr 33 [(.tmp 39), (.tmp 42)])) (g := none) (v := (.r (.msl 0 0 z60.2.1 z60.2.2))) (ups := [(0, ⟨0, some (.own 33 4 (e_GCell.cells z60.1))⟩)]) (j := 5) rfl (by kernel_rfl) (by kernel_rfl) (ev_callrX (args := [(.agg ((.d (.int .i64 p112)) :: ((.d (.int .i64 p113)) :: ((.r (.msl 0 0 0 p111.length)) :: [])))), (.d (.int .i64 (IntKind.i64.wrap (a3 + p116))))]) (ids := [0]) (bs := [(.own 33 4 (e_GCell.cells p111))]) (l := [(.agg ((.d (.int .i64 p112)) :: ((.d (.int .i64 p113)) :: ((.r (.msl 0 0 0 p111.length)) :: [])))), (.d (.int .i64 (IntKind.i64.wrap (a3 + p116))))]) (bt := [(.own 33 4 (e_GCell.cells p111))]) (r := (.r (.msl 0 0 z60.2.1 z60.2.2))) (bs' := [(.own 33 4 (e_GCell.cells z60.1)), .box []]) (by kernel_rfl) (by kernel_rfl) (by kernel_rfl) (by kernel_rfl) (by kernel_rfl) (f33v1_ok base (d - 1) (dpt hd rfl) p112 p113 (IntKind.i64.wrap (a3 + p116)) p111 z60 hz60) (by kernel_rfl) (sm_own e_GCell (e1 := 33) (k1 := 4) (xs := p111) (ys := z60.1) (by kernel_rfl) hz61 sm_nil) (by kernel_rfl) (by kernel_rfl)) ?_
  have lz61 : p111.length = z60.1.length := (of_decide_eq_true (chk_t hz61)).symm
  try delta f43_l1_j3_J
  try rw [lz61]
  refine zlRun (n := 1) (j := 6) rfl (by kernel_rfl) ?_
  refine bindE hS (fun z62 hz62 hS => ?_)
  refine bindE hS (fun z63 hz63 hS => ?_)
  refine zlOp (d := some 45) (op := (.cpy 4 (.tmp 43) (.tmp 44))) (g := none) (v := (.d (.int .i64 ((min z59.length z60.2.2 : Nat) : Int)))) (ups := [(0, ⟨0, some (.own 33 4 (e_GCell.cells (cpyL z60.1 z60.2.1 z60.2.2 z59)))⟩)]) (j := 7) rfl (by kernel_rfl) (by kernel_rfl) (ev_cpy e_GCell (b := 0) (g := 0) (l := z60.2.1) (n := z60.2.2) (e := 33) (xs := z60.1) (ys := z59) (by kernel_rfl) (by kernel_rfl) rfl ((congrArg (asL _) (by kernel_rfl : ρof _ (.tmp 44) = (.d (.sl z59.length (e_GCell.cells z59))))).trans (as_d _ _)) hz62) ?_
  have ez63 := Option.some.inj hz63
  have lz63 : z60.1.length = z63.length := by rw [← ez63]; exact (cpyL_len (of_decide_eq_true (chk_t hz62))).symm
  rw [ez63]
  try delta f43_l1_j3_J
  try rw [lz63]
  refine zlEnd (by kernel_rfl) ?_
  refine zkBlk ?_
  refine zkSeq ?_
  refine zrReg ?_
  refine zlRun (n := 2) (j := 2) rfl (by kernel_rfl) ?_
  refine zlEnd (by kernel_rfl) ?_
  refine zkNil ?_
  exact endQ hS hQ (finL_n (by show keepSt _ _ _ _ = _; kernel_rfl))
def f43_l1_j2_J (a1 : Int) (a2 : Int) (a3 : Int) (a4 : Int) (a5 : Int) (a6 : GPen) (a7 : List GCell) (p104 : List GCell) (p105 : Int) (p106 : Int) (p107 : List (List GCell)) (p108 : Int) (p109 : Int) (p110 : Bool) : St := ⟨(up (up (up (up (up (up (fun _ => .un) 35 (.d (.bool p110))) 34 (.d (.int .i64 p109))) 33 (.d (.int .i64 p108))) 32 (.r (.msl 256 0 0 p107.length))) 5 (.r (.ptr 48 0 0))) 1 (.d (.int .i64 a3))), (up (up (up (hB fun _ => 0) 256 ⟨0, some (.own 22 1 ((eSl e_GCell).cells p107))⟩) 48 ⟨0, some (.box ((.d (.int .i64 p105)) :: ((.d (.int .i64 p106)) :: ((.r (.msl 0 0 0 p104.length)) :: []))))⟩) 0 ⟨0, some (.own 33 4 (e_GCell.cells p104))⟩)⟩
noncomputable def f43_l1_j2 (a1 : Int) (a2 : Int) (a3 : Int) (a4 : Int) (a5 : Int) (a6 : GPen) (a7 : List GCell) (p104 : List GCell) (p105 : Int) (p106 : Int) (p107 : List (List GCell)) (p108 : Int) (p109 : Int) (p110 : Bool) : Option (((List GCell) × Int × Int × (List (List GCell)) × Int × Int) ⊕ (((List GCell)))) := (bif p110 then (f43_l1_j3 a1 a2 a3 a4 a5 a6 a7 p104 p105 p106 p107 p108 p109) else (some (.inr p104)))
theorem f43_l1_j2_ok {base : Orc} {d : Nat} (hd : 7 ≤ d) (a1 : Int) (a2 : Int) (a3 : Int) (a4 : Int) (a5 : Int) (a6 : GPen) (a7 : List GCell) {r : ((List GCell) × Int × Int × (List (List GCell)) × Int × Int) ⊕ (((List GCell)))} {Q : PX → St → Prop} (hQ : ∀ e st', finL (f43_l1_H a1 a2 a3 a4 a5 a6 a7) (f43_l1_X a1 a2 a3 a4 a5 a6 a7) r e st' → Q e st') (p104 : List GCell) (p105 : Int) (p106 : Int) (p107 : List (List GCell)) (p108 : Int) (p109 : Int) (p110 : Bool) (hS : f43_l1_j2 a1 a2 a3 a4 a5 a6 a7 p104 p105 p106 p107 p108 p109 p110 = some r) {st : St} (he : keepSt [1, 5, 32, 33, 34, 35] [(0, .id 0), (48, .id 48), (256, .id 256)] [] st = f43_l1_j2_J a1 a2 a3 a4 a5 a6 a7 p104 p105 p106 p107 p108 p109 p110) : ZR (lev codes base (d - 1)) Q c43_2 [] st := by
  refine zrKeep he ?_
  unfold f43_l1_j2 at hS
  refine zrSeq ?_
  refine zrSplit 35 p110 (by kernel_rfl) (fun hc => ?_) (fun hc => ?_)
  · replace hS := cond_t hc hS
    refine zrCondT (by kernel_rfl) ?_
    refine zrSkip ?_
    refine zkSeq ?_
    exact f43_l1_j3_ok hd a1 a2 a3 a4 a5 a6 a7 hQ p104 p105 p106 p107 p108 p109 hS (by kernel_rfl)
  · replace hS := cond_f hc hS
    refine zrCondF (by kernel_rfl) ?_
    refine zrKeep (J := f43_l1_e2_J a1 a2 a3 a4 a5 a6 a7 p104) (by kernel_rfl) ?_
    refine zrExit ?_
    refine zkSeqX ?_
    refine zkNil ?_
    exact endQ hS hQ (finL_x (by intro h; cases h) (by show _ = _ ∧ _ = _; exact ⟨rfl, rfl⟩))
noncomputable def f43_l1 (a1 : Int) (a2 : Int) (a3 : Int) (a4 : Int) (a5 : Int) (a6 : GPen) (a7 : List GCell) (x : (List GCell) × Int × Int × (List (List GCell)) × Int × Int) : Option (((List GCell) × Int × Int × (List (List GCell)) × Int × Int) ⊕ (((List GCell)))) := (bif (decide (x.2.2.2.2.2 < x.2.2.2.2.1)) then (f43_l1_j2 a1 a2 a3 a4 a5 a6 a7 x.1 x.2.1 x.2.2.1 x.2.2.2.1 x.2.2.2.2.1 x.2.2.2.2.2 true) else (f43_l1_j2 a1 a2 a3 a4 a5 a6 a7 x.1 x.2.1 x.2.2.1 x.2.2.2.1 x.2.2.2.2.1 x.2.2.2.2.2 false))
theorem f43_l1_ok {base : Orc} {d : Nat} (hd : 7 ≤ d) (a1 : Int) (a2 : Int) (a3 : Int) (a4 : Int) (a5 : Int) (a6 : GPen) (a7 : List GCell) {r : ((List GCell) × Int × Int × (List (List GCell)) × Int × Int) ⊕ (((List GCell)))} {Q : PX → St → Prop} (hQ : ∀ e st', finL (f43_l1_H a1 a2 a3 a4 a5 a6 a7) (f43_l1_X a1 a2 a3 a4 a5 a6 a7) r e st' → Q e st') {x : (List GCell) × Int × Int × (List (List GCell)) × Int × Int} (hS : f43_l1 a1 a2 a3 a4 a5 a6 a7 x = some r) {st : St} (he : f43_l1_H a1 a2 a3 a4 a5 a6 a7 x st) : ZR (lev codes base (d - 1)) Q c43_3 [] st := by
  refine zrKeep he ?_
  unfold f43_l1 at hS
  refine zrSeq ?_
  refine zrReg ?_
  refine zlBool (d := 35) (op := (.cmpI .lss (.tmp 34) (.tmp 33))) (g := none) (j := 1) (decide (x.2.2.2.2.2 < x.2.2.2.2.1)) rfl (by kernel_rfl) (by kernel_rfl) (by kernel_rfl) (fun hc => ?_) (fun hc => ?_)
  · replace hS := cond_t hc hS
    refine zlEnd (by kernel_rfl) ?_
    refine zkSeq ?_
    exact f43_l1_j2_ok hd a1 a2 a3 a4 a5 a6 a7 hQ x.1 x.2.1 x.2.2.1 x.2.2.2.1 x.2.2.2.2.1 x.2.2.2.2.2 true hS (by kernel_rfl)
  · replace hS := cond_f hc hS
    refine zlEnd (by kernel_rfl) ?_
    refine zkSeq ?_
    exact f43_l1_j2_ok hd a1 a2 a3 a4 a5 a6 a7 hQ x.1 x.2.1 x.2.2.1 x.2.2.2.1 x.2.2.2.2.1 x.2.2.2.2.2 false hS (by kernel_rfl)
def f43_j0_J (a1 : Int) (a2 : Int) (a3 : Int) (a4 : Int) (a5 : Int) (a6 : GPen) (a7 : List GCell) (p57 : List GCell) (p58 : List (List GCell)) : St := ⟨(up (up (up (up (up (fun _ => .un) 10 (.r (.msl 88 0 0 p58.length))) 9 (.r (.ptr 80 0 0))) 5 (.r (.ptr 48 0 0))) 3 (.d (.int .i64 a5))) 1 (.d (.int .i64 a3))), (up (up (up (up (hB fun _ => 0) 88 ⟨0, some (.own 22 1 ((eSl e_GCell).cells p58))⟩) 80 ⟨0, some (.box ((.d (.int .i64 a6.Flags)) :: ((.d (.int .i64 a6.Fore)) :: ((.d (.int .i64 a6.Back)) :: []))))⟩) 48 ⟨0, some (.box ((.d (.int .i64 a1)) :: ((.d (.int .i64 a2)) :: ((.r (.msl 0 0 0 p57.length)) :: []))))⟩) 0 ⟨0, some (.own 33 4 (e_GCell.cells p57))⟩)⟩
noncomputable def f43_j0 (a1 : Int) (a2 : Int) (a3 : Int) (a4 : Int) (a5 : Int) (a6 : GPen) (a7 : List GCell) (p57 : List GCell) (p58 : List (List GCell)) : Option ((List GCell)) := ((f61 (IntKind.i64.wrap (0 - a5)) p58 a1 a2 a6 p57).bind fun z37 => ((chk (decide (z37.2.2.1.length = p57.length))).bind fun z38 => ((chk (decide (z37.2.2.2.2.1.length = p58.length))).bind fun z39 => ((loopO (f43_l1 a1 a2 a3 a4 a5 a6 a7) (z37.2.2.1, z37.1, z37.2.1, z37.2.2.2.2.2, (z37.2.2.2.2.2.length : Int), 0)).bind fun z64 => (some z64)))))
theorem f43_j0_ok {base : Orc} {d : Nat} (hd : 7 ≤ d) (a1 : Int) (a2 : Int) (a3 : Int) (a4 : Int) (a5 : Int) (a6 : GPen) (a7 : List GCell) {r : (List GCell)} {Q : PX → St → Prop} (hQ : ∀ e st', f43_Q r e st' → Q e st') (p57 : List GCell) (p58 : List (List GCell)) (hS : f43_j0 a1 a2 a3 a4 a5 a6 a7 p57 p58 = some r) {st : St} (he : keepSt [1, 3, 5, 9, 10] [(0, .id 0), (48, .id 48), (80, .id 80), (88, .id 88)] [] st = f43_j0_J a1 a2 a3 a4 a5 a6 a7 p57 p58) : ZR (lev codes base (d - 1)) Q c43_4 [] st := by
  refine zrKeep he ?_
  unfold f43_j0 at hS
  refine zrSeq ?_
  refine zrReg ?_
  refine zlRun (n := 4) (j := 4) rfl (by kernel_rfl) ?_
  refine bindE hS (fun z37 hz37 hS => ?_)
  refine bindE hS (fun z38 hz38 hS => ?_)
  refine bindE hS (fun z39 hz39 hS => ?_)
  refine zlOp (d := some 31) (op := (.callr 61 [(.tmp 27), (.tmp 29), (.tmp 30)])) (g := none) (v := (.r (.msl 256 1 0 z37.2.2.2.2.2.length))) (ups := [(88, ⟨0, some (.own 22 1 ((eSl e_GCell).cells z37.2.2.2.2.1))⟩), (48, ⟨0, some (.box ((.d (.int .i64 z37.1)) :: ((.d (.int .i64 z37.2.1)) :: ((.r (.msl 0 0 0 z37.2.2.1.length)) :: []))))⟩), (80, ⟨0, some (.box ((.d (.int .i64 z37.2.2.2.1.Flags)) :: ((.d (.int .i64 z37.2.2.2.1.Fore)) :: ((.d (.int .i64 z37.2.2.2.1.Back)) :: []))))⟩), (0, ⟨0, some (.own 33 4 (e_GCell.cells z37.2.2.1))⟩), (256, ⟨1, some (.own 22 1 ((eSl e_GCell).cells z37.2.2.2.2.2))⟩)]) (j := 5) rfl (by kernel_rfl) (by kernel_rfl) (ev_callrX (args := [(.r (.msl 88 0 0 p58.length)), (.d (.int .i64 (IntKind.i64.wrap (0 - a5)))), (.fn 62 [(.r (.ptr 48 0 0)), (.r (.ptr 80 0 0))])]) (ids := [88, 48, 80, 0]) (bs := [(.own 22 1 ((eSl e_GCell).cells p58)), (.box ((.d (.int .i64 a1)) :: ((.d (.int .i64 a2)) :: ((.r (.msl 0 0 0 p57.length)) :: [])))), (.box ((.d (.int .i64 a6.Flags)) :: ((.d (.int .i64 a6.Fore)) :: ((.d (.int .i64 a6.Back)) :: [])))), (.own 33 4 (e_GCell.cells p57))]) (l := [(.r (.msl 0 0 0 p58.length)), (.d (.int .i64 (IntKind.i64.wrap (0 - a5)))), (.fn 62 [(.r (.ptr 1 0 0)), (.r (.ptr 2 0 0))])]) (bt := [(.own 22 1 ((eSl e_GCell).cells p58)), (.box ((.d (.int .i64 a1)) :: ((.d (.int .i64 a2)) :: ((.r (.msl 3 0 0 p57.length)) :: [])))), (.box ((.d (.int .i64 a6.Flags)) :: ((.d (.int .i64 a6.Fore)) :: ((.d (.int .i64 a6.Back)) :: [])))), (.own 33 4 (e_GCell.cells p57))]) (r := (.r (.own 0 22 1 z37.2.2.2.2.2.length ((eSl e_GCell).cells z37.2.2.2.2.2)))) (bs' := [(.own 22 1 ((eSl e_GCell).cells z37.2.2.2.2.1)), (.box ((.d (.int .i64 z37.1)) :: ((.d (.int .i64 z37.2.1)) :: ((.r (.msl 3 0 0 z37.2.2.1.length)) :: [])))), (.box ((.d (.int .i64 z37.2.2.2.1.Flags)) :: ((.d (.int .i64 z37.2.2.2.1.Fore)) :: ((.d (.int .i64 z37.2.2.2.1.Back)) :: [])))), (.own 33 4 (e_GCell.cells z37.2.2.1)), .box []]) (by kernel_rfl) (by kernel_rfl) (by kernel_rfl) (by kernel_rfl) (by kernel_rfl) (f61_ok base (d - 1) (dpt hd rfl) (IntKind.i64.wrap (0 - a5)) p58 a1 a2 a6 p57 z37 hz37) (by kernel_rfl) (sm_own (eSl e_GCell) (e1 := 22) (k1 := 1) (xs := p58) (ys := z37.2.2.2.2.1) (by kernel_rfl) hz39 (sm_box (cs := ((.d (.int .i64 a1)) :: ((.d (.int .i64 a2)) :: ((.r (.msl 0 0 0 p57.length)) :: [])))) (by kernel_rfl) (sm_box (cs := ((.d (.int .i64 a6.Flags)) :: ((.d (.int .i64 a6.Fore)) :: ((.d (.int .i64 a6.Back)) :: [])))) (by kernel_rfl) (sm_own e_GCell (e1 := 33) (k1 := 4) (xs := p57) (ys := z37.2.2.1) (by kernel_rfl) hz38 sm_nil)))) (by kernel_rfl) (by kernel_rfl)) ?_
  have lz38 : p57.length = z37.2.2.1.length := (of_decide_eq_true (chk_t hz38)).symm
  try delta f43_j0_J
  try rw [lz38]
  have lz39 : p58.length = z37.2.2.2.2.1.length := (of_decide_eq_true (chk_t hz39)).symm
  try delta f43_j0_J
  try rw [lz39]
  refine zlRun (n := 1) (j := 6) rfl (by kernel_rfl) ?_
  refine zlEnd (by kernel_rfl) ?_
  refine zkSeq ?_
  refine zrSeq ?_
  refine zrReg ?_
  refine zlRun (n := 3) (j := 3) rfl (by kernel_rfl) ?_
  refine zlEnd (by kernel_rfl) ?_
  refine zkSeq ?_
  refine zrBlk ?_
  refine bindE hS (fun z64 hz64 hS => ?_)
  refine zrLoop (f43_l1_H a1 a2 a3 a4 a5 a6 a7) (f43_l1_X a1 a2 a3 a4 a5 a6 a7) (fun x st r Q h0 hS hQ => f43_l1_ok hd a1 a2 a3 a4 a5 a6 a7 hQ hS h0) (x := (z37.2.2.1, z37.1, z37.2.1, z37.2.2.2.2.2, (z37.2.2.2.2.2.length : Int), 0)) (z := z64) (by show keepSt _ _ _ _ = _; kernel_rfl) hz64 ?_
  intro e st' _ hX
  obtain ⟨rfl, rfl⟩ : _ ∧ _ := hX
  refine zkBlkX ?_
  refine zkNil ?_
  exact endQ hS hQ (fNormX (by kernel_rfl) (by kernel_rfl : finSt c43.fin _ = f43_fin z64) (by kernel_rfl) (f43_out z64))
def f43_l4_J (a1 : Int) (a2 : Int) (a3 : Int) (a4 : Int) (a5 : Int) (a6 : GPen) (a7 : List GCell) (x : (List GCell) × (List (List GCell)) × Int) : St := ⟨(up (up (up (up (up (up (up (fun _ => .un) 11 (.d (.int .i64 x.2.2))) 10 (.r (.msl 88 0 0 x.2.1.length))) 9 (.r (.ptr 80 0 0))) 5 (.r (.ptr 48 0 0))) 3 (.d (.int .i64 a5))) 2 (.d (.int .i64 a4))) 1 (.d (.int .i64 a3))), (up (up (up (up (hB fun _ => 0) 88 ⟨0, some (.own 22 1 ((eSl e_GCell).cells x.2.1))⟩) 80 ⟨0, some (.box ((.d (.int .i64 a6.Flags)) :: ((.d (.int .i64 a6.Fore)) :: ((.d (.int .i64 a6.Back)) :: []))))⟩) 48 ⟨0, some (.box ((.d (.int .i64 a1)) :: ((.d (.int .i64 a2)) :: ((.r (.msl 0 0 0 x.1.length)) :: []))))⟩) 0 ⟨0, some (.own 33 4 (e_GCell.cells x.1))⟩)⟩
def f43_l4_H (a1 : Int) (a2 : Int) (a3 : Int) (a4 : Int) (a5 : Int) (a6 : GPen) (a7 : List GCell) (x : (List GCell) × (List (List GCell)) × Int) (st : St) : Prop := keepSt [1, 2, 3, 5, 9, 10, 11] [(0, .id 0), (48, .id 48), (80, .id 80), (88, .id 88)] [] st = f43_l4_J a1 a2 a3 a4 a5 a6 a7 x
def f43_l4_e0_J (a1 : Int) (a2 : Int) (a3 : Int) (a4 : Int) (a5 : Int) (a6 : GPen) (a7 : List GCell) (p16 : List GCell) (p17 : List (List GCell)) : St := ⟨(up (up (up (up (up (fun _ => .un) 10 (.r (.msl 88 0 0 p17.length))) 9 (.r (.ptr 80 0 0))) 5 (.r (.ptr 48 0 0))) 3 (.d (.int .i64 a5))) 1 (.d (.int .i64 a3))), (up (up (up (up (hB fun _ => 0) 88 ⟨0, some (.own 22 1 ((eSl e_GCell).cells p17))⟩) 80 ⟨0, some (.box ((.d (.int .i64 a6.Flags)) :: ((.d (.int .i64 a6.Fore)) :: ((.d (.int .i64 a6.Back)) :: []))))⟩) 48 ⟨0, some (.box ((.d (.int .i64 a1)) :: ((.d (.int .i64 a2)) :: ((.r (.msl 0 0 0 p16.length)) :: []))))⟩) 0 ⟨0, some (.own 33 4 (e_GCell.cells p16))⟩)⟩
def f43_l4_X (a1 : Int) (a2 : Int) (a3 : Int) (a4 : Int) (a5 : Int) (a6 : GPen) (a7 : List GCell) (z : ((List GCell) × (List (List GCell)))) (e : PX) (st : St) : Prop := e = .exit 0 ∧ st = f43_l4_e0_J a1 a2 a3 a4 a5 a6 a7 z.1 z.2
def f43_l4_j5_J (a1 : Int) (a2 : Int) (a3 : Int) (a4 : Int) (a5 : Int) (a6 : GPen) (a7 : List GCell) (p121 : List GCell) (p122 : List (List GCell)) (p123 : Int) : St := ⟨(up (up (up (up (up (up (up (fun _ => .un) 11 (.d (.int .i64 p123))) 10 (.r (.msl 88 0 0 p122.length))) 9 (.r (.ptr 80 0 0))) 5 (.r (.ptr 48 0 0))) 3 (.d (.int .i64 a5))) 2 (.d (.int .i64 a4))) 1 (.d (.int .i64 a3))), (up (up (up (up (hB fun _ => 0) 88 ⟨0, some (.own 22 1 ((eSl e_GCell).cells p122))⟩) 80 ⟨0, some (.box ((.d (.int .i64 a6.Flags)) :: ((.d (.int .i64 a6.Fore)) :: ((.d (.int .i64 a6.Back)) :: []))))⟩) 48 ⟨0, some (.box ((.d (.int .i64 a1)) :: ((.d (.int .i64 a2)) :: ((.r (.msl 0 0 0 p121.length)) :: []))))⟩) 0 ⟨0, some (.own 33 4 (e_GCell.cells p121))⟩)⟩
noncomputable def f43_l4_j5 (a1 : Int) (a2 : Int) (a3 : Int) (a4 : Int) (a5 : Int) (a6 : GPen) (a7 : List GCell) (p121 : List GCell) (p122 : List (List GCell)) (p123 : Int) : Option (((List GCell) × (List (List GCell)) × Int) ⊕ (((List GCell) × (List (List GCell))))) := ((f33v1 a1 a2 p123 p121).bind fun z65 => ((chk (decide (z65.1.length = p121.length))).bind fun z66 => ((part? z65.1 z65.2.1 z65.2.2).bind fun z67 => ((f26 z67).bind fun z68 => ((app? 24 p122 ([z68] : List (List GCell))).bind fun z69 => (some (.inl (z65.1, z69, (IntKind.i64.wrap (p123 + 1))))))))))
theorem f43_l4_j5_ok {base : Orc} {d : Nat} (hd : 7 ≤ d) (a1 : Int) (a2 : Int) (a3 : Int) (a4 : Int) (a5 : Int) (a6 : GPen) (a7 : List GCell) {r : ((List GCell) × (List (List GCell)) × Int) ⊕ (((List GCell) × (List (List GCell))))} {Q : PX → St → Prop} (hQ : ∀ e st', finL (f43_l4_H a1 a2 a3 a4 a5 a6 a7) (f43_l4_X a1 a2 a3 a4 a5 a6 a7) r e st' → Q e st') (p121 : List GCell) (p122 : List (List GCell)) (p123 : Int) (hS : f43_l4_j5 a1 a2 a3 a4 a5 a6 a7 p121 p122 p123 = some r) {st : St} (he : keepSt [1, 2, 3, 5, 9, 10, 11] [(0, .id 0), (48, .id 48), (80, .id 80), (88, .id 88)] [] st = f43_l4_j5_J a1 a2 a3 a4 a5 a6 a7 p121 p122 p123) : ZR (lev codes base (d - 1)) Q c43_5 [] st := by
  refine zrKeep he ?_
  unfold f43_l4_j5 at hS
  refine zrSeq ?_
  refine zrBlk ?_
  refine zrReg ?_
  refine zlRun (n := 3) (j := 3) rfl (by kernel_rfl) ?_
  refine bindE hS (fun z65 hz65 hS => ?_)
  refine bindE hS (fun z66 hz66 hS => ?_)
  refine zlOp (d := some 23) (op := (.callr 33 [(.tmp 21), (.tmp 22)])) (g := none) (v := (.r (.msl 0 0 z65.2.1 z65.2.2))) (ups := [(0, ⟨0, some (.own 33 4 (e_GCell.cells z65.1))⟩)]) (j := 4) rfl (by kernel_rfl) (by kernel_rfl) (ev_callrX (args := [(.agg ((.d (.int .i64 a1)) :: ((.d (.int .i64 a2)) :: ((.r (.msl 0 0 0 p121.length)) :: [])))), (.d (.int .i64 p123))]) (ids := [0]) (bs := [(.own 33 4 (e_GCell.cells p121))]) (l := [(.agg ((.d (.int .i64 a1)) :: ((.d (.int .i64 a2)) :: ((.r (.msl 0 0 0 p121.length)) :: [])))), (.d (.int .i64 p123))]) (bt := [(.own 33 4 (e_GCell.cells p121))]) (r := (.r (.msl 0 0 z65.2.1 z65.2.2))) (bs' := [(.own 33 4 (e_GCell.cells z65.1)), .box []]) (by kernel_rfl) (by kernel_rfl) (by kernel_rfl) (by kernel_rfl) (by kernel_rfl) (f33v1_ok base (d - 1) (dpt hd rfl) a1 a2 p123 p121 z65 hz65) (by kernel_rfl) (sm_own e_GCell (e1 := 33) (k1 := 4) (xs := p121) (ys := z65.1) (by kernel_rfl) hz66 sm_nil) (by kernel_rfl) (by kernel_rfl)) ?_
  have lz66 : p121.length = z65.1.length := (of_decide_eq_true (chk_t hz66)).symm
  try delta f43_l4_j5_J
  try rw [lz66]
  refine bindE hS (fun z67 hz67 hS => ?_)
  refine bindE hS (fun z68 hz68 hS => ?_)
  refine zlOp (d := some 24) (op := (.call 26 [(.tmp 23)])) (g := none) (v := (.r (.msl 200 1 0 z68.length))) (ups := [(200, ⟨1, some (.own 33 4 (e_GCell.cells z68))⟩)]) (j := 5) rfl (by kernel_rfl) (by kernel_rfl) (ev_call (args := [(.r (.msl 0 0 z65.2.1 z65.2.2))]) (l := [(.d (.sl z67.length (e_GCell.cells z67)))]) (r := (.r (.own 0 33 4 z68.length (e_GCell.cells z68)))) (by kernel_rfl) (l_cons (l_part e_GCell (e := 33) (k := 4) (xs := z65.1) (by kernel_rfl) rfl hz67) l_nil) (f26_ok base (d - 1) (dpt hd rfl) z67 z68 hz68) (by simp only [free_own e_GCell (fun _ => rfl), free_tup, free_agg, free_nl, free_cs, free_int, free_bool, free_str, free_un, free_ni, free_s0, Bool.and_true, Bool.or_true, Bool.and_self]) (by kernel_rfl) (by kernel_rfl)) ?_
  refine zlOp (d := some 25) (op := (.bsl 22 1 1 [(1, (.slice .none 0 0))] [(0, (1, (.tmp 24)))])) (g := none) (v := (.r (.msl 208 1 0 (([z68] : List (List GCell)).length)))) (ups := [(200, ⟨2, none⟩), (208, ⟨1, some (.own 22 1 ((eSl e_GCell).cells ([z68])))⟩)]) (j := 6) rfl (by kernel_rfl) (by kernel_rfl) ((by kernel_rfl : peval _ _ 25 (ρof _) (.bsl 22 1 1 [(1, (.slice .none 0 0))] [(0, (1, (.tmp 24)))]) = some ((.r (.msl 208 1 0 (([z68] : List (List GCell)).length))), [(200, ⟨2, none⟩), (208, ⟨1, some (.own 22 1 [.sl z68.length (((e_GCell.cells z68).drop (0 * e_GCell.k)).take (z68.length * e_GCell.k))])⟩)])).trans (by simp only [Enc.frz]; rfl)) ?_
  refine bindE hS (fun z69 hz69 hS => ?_)
  refine zlOp (d := some 26) (op := (.app 22 1 24 (.tmp 20) (.tmp 25))) (g := none) (v := (.r (.msl 88 1 0 z69.length))) (ups := [(88, ⟨1, some (.own 22 1 ((eSl e_GCell).cells z69))⟩)]) (j := 7) rfl (by kernel_rfl) (by kernel_rfl) (ev_app (eSl e_GCell) (b := 88) (g := 0) (n := p122.length) (xs := p122) (ys := [z68]) ((congrArg (asL _) (by kernel_rfl : ρof _ (.tmp 25) = (.r (.msl 208 1 0 (([z68] : List (List GCell)).length))))).trans (as_whole (eSl e_GCell) (e := 22) (k := 1) (xs := [z68]) (by kernel_rfl) rfl rfl)) rfl (by kernel_rfl) rfl (by kernel_rfl) rfl hz69) ?_
  refine zlRun (n := 1) (j := 8) rfl (by kernel_rfl) ?_
  refine zlEnd (by kernel_rfl) ?_
  refine zkBlk ?_
  refine zkSeq ?_
  refine zrReg ?_
  refine zlRun (n := 3) (j := 3) rfl (by kernel_rfl) ?_
  refine zlEnd (by kernel_rfl) ?_
  refine zkNil ?_
  exact endQ hS hQ (finL_n (by show keepSt _ _ _ _ = _; kernel_rfl))
noncomputable def f43_l4 (a1 : Int) (a2 : Int) (a3 : Int) (a4 : Int) (a5 : Int) (a6 : GPen) (a7 : List GCell) (x : (List GCell) × (List (List GCell)) × Int) : Option (((List GCell) × (List (List GCell)) × Int) ⊕ (((List GCell) × (List (List GCell))))) := (bif (decide (x.2.2 < a4)) then (f43_l4_j5 a1 a2 a3 a4 a5 a6 a7 x.1 x.2.1 x.2.2) else (some (.inr (x.1, x.2.1))))
theorem f43_l4_ok {base : Orc} {d : Nat} (hd : 7 ≤ d) (a1 : Int) (a2 : Int) (a3 : Int) (a4 : Int) (a5 : Int) (a6 : GPen) (a7 : List GCell) {r : ((List GCell) × (List (List GCell)) × Int) ⊕ (((List GCell) × (List (List GCell))))} {Q : PX → St → Prop} (hQ : ∀ e st', finL (f43_l4_H a1 a2 a3 a4 a5 a6 a7) (f43_l4_X a1 a2 a3 a4 a5 a6 a7) r e st' → Q e st') {x : (List GCell) × (List (List GCell)) × Int} (hS : f43_l4 a1 a2 a3 a4 a5 a6 a7 x = some r) {st : St} (he : f43_l4_H a1 a2 a3 a4 a5 a6 a7 x st) : ZR (lev codes base (d - 1)) Q c43_6 [] st := by
  refine zrKeep he ?_
  unfold f43_l4 at hS
  refine zrSeq ?_
  refine zrSeq ?_
  refine zrReg ?_
  refine zlRun (n := 2) (j := 2) rfl (by kernel_rfl) ?_
  refine zlBool (d := 17) (op := (.cmpI .lss (.tmp 15) (.tmp 16))) (g := none) (j := 3) (decide (x.2.2 < a4)) rfl (by kernel_rfl) (by kernel_rfl) (by kernel_rfl) (fun hc => ?_) (fun hc => ?_)
  · replace hS := cond_t hc hS
    refine zlEnd (by kernel_rfl) ?_
    refine zkSeq ?_
    refine zrCondT (by kernel_rfl) ?_
    refine zrSkip ?_
    refine zkSeq ?_
    exact f43_l4_j5_ok hd a1 a2 a3 a4 a5 a6 a7 hQ x.1 x.2.1 x.2.2 hS (by kernel_rfl)
  · replace hS := cond_f hc hS
    refine zlEnd (by kernel_rfl) ?_
    refine zkSeq ?_
    refine zrCondF (by kernel_rfl) ?_
    refine zrKeep (J := f43_l4_e0_J a1 a2 a3 a4 a5 a6 a7 x.1 x.2.1) (by kernel_rfl) ?_
    refine zrExit ?_
    refine zkSeqX ?_
    refine zkNil ?_
    exact endQ hS hQ (finL_x (by intro h; cases h) (by show _ = _ ∧ _ = _; exact ⟨rfl, rfl⟩))
noncomputable def f43 (a1 : Int) (a2 : Int) (a3 : Int) (a4 : Int) (a5 : Int) (a6 : GPen) (a7 : List GCell) : Option ((List GCell)) := ((loopO (f43_l4 a1 a2 a3 a4 a5 a6 a7) (a7, [], a3)).bind fun z70 => (f43_j0 a1 a2 a3 a4 a5 a6 a7 z70.1 z70.2))
theorem f43_ok (base : Orc) (d : Nat) (hd : 7 ≤ d) (a1 : Int) (a2 : Int) (a3 : Int) (a4 : Int) (a5 : Int) (a6 : GPen) (a7 : List GCell) (r : (List GCell)) (hS : f43 a1 a2 a3 a4 a5 a6 a7 = some r) : lev codes base d 43 [(.agg ((.d (.int .i64 a1)) :: ((.d (.int .i64 a2)) :: ((.r (.msl 0 0 0 a7.length)) :: [])))), (.d (.int .i64 a3)), (.d (.int .i64 a4)), (.d (.int .i64 a5)), (.agg ((.d (.int .i64 a6.Flags)) :: ((.d (.int .i64 a6.Fore)) :: ((.d (.int .i64 a6.Back)) :: []))))] [(.own 33 4 (e_GCell.cells a7))] = some ((.tup []), [(.own 33 4 (e_GCell.cells r)), .box []]) := by
  refine lev_go codes43 rfl rfl (Nat.le_trans (Nat.le_of_ble_eq_true rfl) hd) fun Q hQ => ?_
  unfold f43 at hS
  show ZR _ Q c43_b [] _
  replace hQ : ∀ e st', f43_Q r e st' → Q e st' := hQ
  refine zrSeq ?_
  refine zrReg ?_
  refine zlRun (n := 2) (j := 2) rfl (by kernel_rfl) ?_
  refine zlEnd (by kernel_rfl) ?_
  refine zkSeq ?_
  refine zrSeq ?_
  refine zrReg ?_
  refine zlRun (n := 1) (j := 1) rfl (by kernel_rfl) ?_
  refine zlEnd (by kernel_rfl) ?_
  refine zkSeq ?_
  refine zrSeq ?_
  refine zrSeq ?_
  refine zrReg ?_
  refine zlRun (n := 2) (j := 2) rfl (by kernel_rfl) ?_
  refine zlEnd (by kernel_rfl) ?_
  refine zkSeq ?_
  refine zrBlk ?_
  refine bindE hS (fun z70 hz70 hS => ?_)
  refine zrLoop (f43_l4_H a1 a2 a3 a4 a5 a6 a7) (f43_l4_X a1 a2 a3 a4 a5 a6 a7) (fun x st r Q h0 hS hQ => f43_l4_ok hd a1 a2 a3 a4 a5 a6 a7 hQ hS h0) (x := (a7, [], a3)) (z := z70) (by show keepSt _ _ _ _ = _; kernel_rfl) hz70 ?_
  intro e st' _ hX
  obtain ⟨rfl, rfl⟩ : _ ∧ _ := hX
  refine zkBlkX ?_
  refine zkSeq ?_
  exact f43_j0_ok hd a1 a2 a3 a4 a5 a6 a7 hQ z70.1 z70.2 hS (by kernel_rfl)
/- farwriter/grid.Scroll -/
def f22_fin (p18 : Int) (p19 : Int) (p20 : List GCell) (p21 : Int) : St := ⟨(up (up (fun _ => .un) 11 (.d (.int .i64 p21))) 10 (.r (.ptr 88 0 0))), (up (up (hB fun _ => 0) 272 ⟨0, some (.own 33 4 (e_GCell.cells p20))⟩) 88 ⟨0, some (.box ((.d (.int .i64 p18)) :: ((.d (.int .i64 p19)) :: ((.r (.msl 272 0 0 p20.length)) :: []))))⟩)⟩
theorem f22_out (p18 : Int) (p19 : Int) (p20 : List GCell) (p21 : Int) : outR (f22_fin p18 p19 p20 p21) 0 c22.res = some ((.tup [(.agg ((.d (.int .i64 p18)) :: ((.d (.int .i64 p19)) :: ((.r (.own 0 33 4 p20.length (e_GCell.cells p20))) :: [])))), (.d (.int .i64 p21))]), []) := by
  exact out_of (ids := []) (ids' := [272]) (l := [(.agg ((.d (.int .i64 p18)) :: ((.d (.int .i64 p19)) :: ((.r (.msl 272 0 0 p20.length)) :: [])))), (.d (.int .i64 p21))]) (by kernel_rfl) (by kernel_rfl) (o_tup (o_cons (o_agg (o_cons rfl (o_cons rfl (o_cons (o_own e_GCell (e := 33) (k := 4) (xs := p20) (by kernel_rfl) rfl rfl rfl rfl) o_nil)))) (o_cons rfl o_nil)))
def f22_Q (r : Int × Int × (List GCell) × Int) (e : PX) (st : St) : Prop := DoneF c22 0 ((.tup [(.agg ((.d (.int .i64 r.1)) :: ((.d (.int .i64 r.2.1)) :: ((.r (.own 0 33 4 r.2.2.1.length (e_GCell.cells r.2.2.1))) :: [])))), (.d (.int .i64 r.2.2.2))]), []) e st
def f22_j1_J (a1 : GGrid) (a2 : Int) (a3 : Int) (a4 : Int) (a5 : GPen) (p43 : Int) (p44 : Int) (p45 : List GCell) : St := ⟨(up (up (up (up (up (up (fun _ => .un) 10 (.r (.ptr 88 0 0))) 9 (.r (.ptr 80 0 0))) 5 (.r (.ptr 48 0 0))) 3 (.d (.int .i64 a4))) 2 (.d (.int .i64 a3))) 1 (.d (.int .i64 a2))), (up (up (up (up (hB fun _ => 0) 88 ⟨0, some (.box ((.d (.int .i64 0)) :: ((.d (.int .i64 0)) :: ((.d (.sl ([] : List GCell).length (e_GCell.cells ([])))) :: []))))⟩) 80 ⟨0, some (.box ((.d (.int .i64 a5.Flags)) :: ((.d (.int .i64 a5.Fore)) :: ((.d (.int .i64 a5.Back)) :: []))))⟩) 272 ⟨0, some (.own 33 4 (e_GCell.cells p45))⟩) 48 ⟨0, some (.box ((.d (.int .i64 p43)) :: ((.d (.int .i64 p44)) :: ((.r (.msl 272 0 0 p45.length)) :: []))))⟩)⟩
noncomputable def f22_j1 (a1 : GGrid) (a2 : Int) (a3 : Int) (a4 : Int) (a5 : GPen) (p43 : Int) (p44 : Int) (p45 : List GCell) : Option (Int × Int × (List GCell) × Int) := ((f43 p43 p44 a2 a3 a4 a5 p45).bind fun z13 => ((chk (decide (z13.length = p45.length))).bind fun z14 => (some (p43, p44, z13, 0))))
theorem f22_j1_ok {base : Orc} {d : Nat} (hd : 8 ≤ d) (a1 : GGrid) (a2 : Int) (a3 : Int) (a4 : Int) (a5 : GPen) {r : Int × Int × (List GCell) × Int} {Q : PX → St → Prop} (hQ : ∀ e st', f22_Q r e st' → Q e st') (p43 : Int) (p44 : Int) (p45 : List GCell) (hS : f22_j1 a1 a2 a3 a4 a5 p43 p44 p45 = some r) {st : St} (he : keepSt [1, 2, 3, 5, 9, 10] [(48, .id 48), (272, .id 272), (80, .id 80), (88, .id 88)] [] st = f22_j1_J a1 a2 a3 a4 a5 p43 p44 p45) : ZR (lev codes base (d - 1)) Q c22_1 [] st := by
  refine zrKeep he ?_
  unfold f22_j1 at hS
  refine zrSeq ?_
  refine zrReg ?_
  refine zlRun (n := 5) (j := 5) rfl (by kernel_rfl) ?_
  refine bindE hS (fun z13 hz13 hS => ?_)
  refine bindE hS (fun z14 hz14 hS => ?_)
  refine zlOp (d := some 45) (op := (.callr 43 [(.tmp 40), (.tmp 41), (.tmp 42), (.tmp 43), (.tmp 44)])) (g := none) (v := (.tup [])) (ups := [(272, ⟨0, some (.own 33 4 (e_GCell.cells z13))⟩)]) (j := 6) rfl (by kernel_rfl) (by kernel_rfl) (ev_callrX (args := [(.agg ((.d (.int .i64 p43)) :: ((.d (.int .i64 p44)) :: ((.r (.msl 272 0 0 p45.length)) :: [])))), (.d (.int .i64 a2)), (.d (.int .i64 a3)), (.d (.int .i64 a4)), (.agg ((.d (.int .i64 a5.Flags)) :: ((.d (.int .i64 a5.Fore)) :: ((.d (.int .i64 a5.Back)) :: []))))]) (ids := [272]) (bs := [(.own 33 4 (e_GCell.cells p45))]) (l := [(.agg ((.d (.int .i64 p43)) :: ((.d (.int .i64 p44)) :: ((.r (.msl 0 0 0 p45.length)) :: [])))), (.d (.int .i64 a2)), (.d (.int .i64 a3)), (.d (.int .i64 a4)), (.agg ((.d (.int .i64 a5.Flags)) :: ((.d (.int .i64 a5.Fore)) :: ((.d (.int .i64 a5.Back)) :: []))))]) (bt := [(.own 33 4 (e_GCell.cells p45))]) (r := (.tup [])) (bs' := [(.own 33 4 (e_GCell.cells z13)), .box []]) (by kernel_rfl) (by kernel_rfl) (by kernel_rfl) (by kernel_rfl) (by kernel_rfl) (f43_ok base (d - 1) (dpt hd rfl) p43 p44 a2 a3 a4 a5 p45 z13 hz13) (by kernel_rfl) (sm_own e_GCell (e1 := 33) (k1 := 4) (xs := p45) (ys := z13) (by kernel_rfl) hz14 sm_nil) (by kernel_rfl) (by kernel_rfl)) ?_
  have lz14 : p45.length = z13.length := (of_decide_eq_true (chk_t hz14)).symm
  try delta f22_j1_J
  try rw [lz14]
  refine zlEnd (by kernel_rfl) ?_
  refine zkSeq ?_
  refine zrSeq ?_
  refine zrReg ?_
  refine zlRun (n := 3) (j := 3) rfl (by kernel_rfl) ?_
  refine zlEnd (by kernel_rfl) ?_
  refine zkSeq ?_
  refine zrRet ?_
  refine zkNil ?_
  exact endQ hS hQ (fRet (by kernel_rfl) ((congrArg (fun s => outR s 0 c22.res) (by kernel_rfl : finSt c22.fin _ = f22_fin p43 p44 z13 0)).trans (f22_out p43 p44 z13 0)))
def f22_j0_J (a1 : GGrid) (a2 : Int) (a3 : Int) (a4 : Int) (a5 : GPen) (p34 : Int) (p35 : Int) (p36 : List GCell) (p37 : Int) : St := ⟨(up (up (up (up (up (up (up (fun _ => .un) 12 (.d (.int .i64 p37))) 10 (.r (.ptr 88 0 0))) 9 (.r (.ptr 80 0 0))) 5 (.r (.ptr 48 0 0))) 3 (.d (.int .i64 a4))) 2 (.d (.int .i64 a3))) 1 (.d (.int .i64 a2))), (up (up (up (up (hB fun _ => 0) 88 ⟨0, some (.box ((.d (.int .i64 0)) :: ((.d (.int .i64 0)) :: ((.d (.sl ([] : List GCell).length (e_GCell.cells ([])))) :: []))))⟩) 80 ⟨0, some (.box ((.d (.int .i64 a5.Flags)) :: ((.d (.int .i64 a5.Fore)) :: ((.d (.int .i64 a5.Back)) :: []))))⟩) 272 ⟨0, some (.own 33 4 (e_GCell.cells p36))⟩) 48 ⟨0, some (.box ((.d (.int .i64 p34)) :: ((.d (.int .i64 p35)) :: ((.r (.msl 272 0 0 p36.length)) :: []))))⟩)⟩
noncomputable def f22_j0 (a1 : GGrid) (a2 : Int) (a3 : Int) (a4 : Int) (a5 : GPen) (p34 : Int) (p35 : Int) (p36 : List GCell) (p37 : Int) : Option (Int × Int × (List GCell) × Int) := (bif (!decide (p37 = 0)) then (some (p34, p35, p36, p37)) else (f22_j1 a1 a2 a3 a4 a5 p34 p35 p36))
theorem f22_j0_ok {base : Orc} {d : Nat} (hd : 8 ≤ d) (a1 : GGrid) (a2 : Int) (a3 : Int) (a4 : Int) (a5 : GPen) {r : Int × Int × (List GCell) × Int} {Q : PX → St → Prop} (hQ : ∀ e st', f22_Q r e st' → Q e st') (p34 : Int) (p35 : Int) (p36 : List GCell) (p37 : Int) (hS : f22_j0 a1 a2 a3 a4 a5 p34 p35 p36 p37 = some r) {st : St} (he : keepSt [1, 2, 3, 5, 9, 10, 12] [(48, .id 48), (272, .id 272), (80, .id 80), (88, .id 88)] [.cell 88 2 0 0 1] st = f22_j0_J a1 a2 a3 a4 a5 p34 p35 p36 p37) : ZR (lev codes base (d - 1)) Q c22_2 [] st := by
  refine zrKeep he ?_
  unfold f22_j0 at hS
  refine zrSeq ?_
  refine zrSeq ?_
  refine zrReg ?_
  refine zlRun (n := 1) (j := 1) rfl (by kernel_rfl) ?_
  refine zlBool (d := 37) (op := (.cmpI .neq (.tmp 36) (.const (.int .i64 0)))) (g := none) (j := 2) (!decide (p37 = 0)) rfl (by kernel_rfl) (by kernel_rfl) (by kernel_rfl) (fun hc => ?_) (fun hc => ?_)
  · replace hS := cond_t hc hS
    refine zlEnd (by kernel_rfl) ?_
    refine zkSeq ?_
    refine zrCondT (by kernel_rfl) ?_
    refine zrSeq ?_
    refine zrReg ?_
    refine zlRun (n := 4) (j := 4) rfl (by kernel_rfl) ?_
    refine zlEnd (by kernel_rfl) ?_
    refine zkSeq ?_
    refine zrRet ?_
    refine zkSeqR ?_
    refine zkNil ?_
    exact endQ hS hQ (fRet (by kernel_rfl) ((congrArg (fun s => outR s 0 c22.res) (by kernel_rfl : finSt c22.fin _ = f22_fin p34 p35 p36 p37)).trans (f22_out p34 p35 p36 p37)))
  · replace hS := cond_f hc hS
    refine zlEnd (by kernel_rfl) ?_
    refine zkSeq ?_
    refine zrCondF (by kernel_rfl) ?_
    refine zrSkip ?_
    refine zkSeq ?_
    exact f22_j1_ok hd a1 a2 a3 a4 a5 hQ p34 p35 p36 hS (by kernel_rfl)
noncomputable def f22 (a1 : GGrid) (a2 : Int) (a3 : Int) (a4 : Int) (a5 : GPen) : Option (Int × Int × (List GCell) × Int) := (bif (decide (0 ≤ a2)) then (bif (decide (a2 ≤ a3)) then (bif (decide (a3 ≤ a1.High)) then ((f40 a4).bind fun z15 => ((f29 a1 z15 a5).bind fun z16 => (f22_j0 a1 a2 a3 a4 a5 z16.1 z16.2.1 z16.2.2.1 z16.2.2.2))) else ((f29 a1 false a5).bind fun z17 => (f22_j0 a1 a2 a3 a4 a5 z17.1 z17.2.1 z17.2.2.1 z17.2.2.2))) else ((f29 a1 false a5).bind fun z18 => (f22_j0 a1 a2 a3 a4 a5 z18.1 z18.2.1 z18.2.2.1 z18.2.2.2))) else ((f29 a1 false a5).bind fun z19 => (f22_j0 a1 a2 a3 a4 a5 z19.1 z19.2.1 z19.2.2.1 z19.2.2.2)))
theorem f22_ok (base : Orc) (d : Nat) (hd : 8 ≤ d) (a1 : GGrid) (a2 : Int) (a3 : Int) (a4 : Int) (a5 : GPen) (r : Int × Int × (List GCell) × Int) (hS : f22 a1 a2 a3 a4 a5 = some r) : lev codes base d 22 [(.agg ((.d (.int .i64 a1.Wide)) :: ((.d (.int .i64 a1.High)) :: ((.d (.sl a1.Cells.length (e_GCell.cells a1.Cells))) :: [])))), (.d (.int .i64 a2)), (.d (.int .i64 a3)), (.d (.int .i64 a4)), (.agg ((.d (.int .i64 a5.Flags)) :: ((.d (.int .i64 a5.Fore)) :: ((.d (.int .i64 a5.Back)) :: []))))] [] = some ((.tup [(.agg ((.d (.int .i64 r.1)) :: ((.d (.int .i64 r.2.1)) :: ((.r (.own 0 33 4 r.2.2.1.length (e_GCell.cells r.2.2.1))) :: [])))), (.d (.int .i64 r.2.2.2))]), []) := by
  refine lev_go codes22 rfl rfl (Nat.le_trans (Nat.le_of_ble_eq_true rfl) hd) fun Q hQ => ?_
  unfold f22 at hS
  show ZR _ Q c22_b [] _
  replace hQ : ∀ e st', f22_Q r e st' → Q e st' := hQ
  refine zrSeq ?_
  refine zrReg ?_
  refine zlRun (n := 4) (j := 4) rfl (by kernel_rfl) ?_
  refine zlEnd (by kernel_rfl) ?_
  refine zkSeq ?_
  refine zrSeq ?_
  refine zrRegD ?_
  refine zdRun (n := 2) (j := 2) (ts := [[(48, false)], []]) (acc' := [[(48, false)], []]) rfl (by kernel_rfl) (by kernel_rfl) (by kernel_rfl) ?_
  refine zdBool (d := 16) (op := (.cmpI .geq (.tmp 15) (.const (.int .i64 0)))) (g := none) (j := 3) (t1 := []) (acc' := [[(48, false)], [], []]) (decide (0 ≤ a2)) (by kernel_rfl) (by kernel_rfl) rfl (by kernel_rfl) (by kernel_rfl) (by kernel_rfl) (fun hc => ?_) (fun hc => ?_)
  · replace hS := cond_t hc hS
    refine zdRun (n := 3) (j := 6) (ts := [[], [], []]) (acc' := [[(48, false)], [], [], [], [], []]) rfl (by kernel_rfl) (by kernel_rfl) (by kernel_rfl) ?_
    refine zdBool (d := 20) (op := (.cmpI .leq (.tmp 18) (.tmp 19))) (g := (some (17, true))) (j := 7) (t1 := []) (acc' := [[(48, false)], [], [], [], [], [], []]) (decide (a2 ≤ a3)) (by kernel_rfl) (by kernel_rfl) rfl (by kernel_rfl) (by kernel_rfl) (by kernel_rfl) (fun hc => ?_) (fun hc => ?_)
    · replace hS := cond_t hc hS
      refine zdRun (n := 5) (j := 12) (ts := [[], [], [], [], [(48, false)]]) (acc' := [[(48, false)], [], [], [], [], [], [], [], [], [], [], [(48, false)]]) rfl (by kernel_rfl) (by kernel_rfl) (by kernel_rfl) ?_
      refine zdBool (d := 26) (op := (.cmpI .leq (.tmp 23) (.tmp 25))) (g := (some (22, true))) (j := 13) (t1 := []) (acc' := [[(48, false)], [], [], [], [], [], [], [], [], [], [], [(48, false)], []]) (decide (a3 ≤ a1.High)) (by kernel_rfl) (by kernel_rfl) rfl (by kernel_rfl) (by kernel_rfl) (by kernel_rfl) (fun hc => ?_) (fun hc => ?_)
      · replace hS := cond_t hc hS
        refine zdRun (n := 3) (j := 16) (ts := [[], [], []]) (acc' := [[(48, false)], [], [], [], [], [], [], [], [], [], [], [(48, false)], [], [], [], []]) rfl (by kernel_rfl) (by kernel_rfl) (by kernel_rfl) ?_
        refine bindE hS (fun z15 hz15 hS => ?_)
        refine zdOp (d := some 30) (op := (.call 40 [(.tmp 29)])) (g := (some (28, true))) (v := (.d (.bool z15))) (ups := []) (j := 17) (t1 := [(248, true), (249, true), (250, true), (251, true), (252, true), (253, true), (254, true), (255, true)]) (acc' := [[(48, false)], [], [], [], [], [], [], [], [], [], [], [(48, false)], [], [], [], [], [(248, true), (249, true), (250, true), (251, true), (252, true), (253, true), (254, true), (255, true)]]) (by kernel_rfl) (by kernel_rfl) rfl (by kernel_rfl) (by kernel_rfl) (ev_call (args := [(.d (.int .i64 a4))]) (l := [(.d (.int .i64 a4))]) (r := (.d (.bool z15))) (by kernel_rfl) (by kernel_rfl) (f40_ok base (d - 1) (dpt hd rfl) a4 z15 hz15) (by kernel_rfl) (by kernel_rfl) (by kernel_rfl)) ?_
        refine zdRun (n := 2) (j := 19) (ts := [[], [(80, false)]]) (acc' := [[(48, false)], [], [], [], [], [], [], [], [], [], [], [(48, false)], [], [], [], [], [(248, true), (249, true), (250, true), (251, true), (252, true), (253, true), (254, true), (255, true)], [], [(80, false)]]) rfl (by kernel_rfl) (by kernel_rfl) (by kernel_rfl) ?_
        refine bindE hS (fun z16 hz16 hS => ?_)
        refine zdOp (d := some 33) (op := (.callf 29 [(.tmp 14), (.tmp 31), (.tmp 32)])) (g := none) (v := (.tup [(.agg ((.d (.int .i64 z16.1)) :: ((.d (.int .i64 z16.2.1)) :: ((.r (.msl 272 1 0 z16.2.2.1.length)) :: [])))), (.d (.int .i64 z16.2.2.2))])) (ups := [(272, ⟨1, some (.own 33 4 (e_GCell.cells z16.2.2.1))⟩)]) (j := 20) (t1 := [(272, true), (273, true), (274, true), (275, true), (276, true), (277, true), (278, true), (279, true)]) (acc' := [[(48, false)], [], [], [], [], [], [], [], [], [], [], [(48, false)], [], [], [], [], [(248, true), (249, true), (250, true), (251, true), (252, true), (253, true), (254, true), (255, true)], [], [(80, false)], [(272, true), (273, true), (274, true), (275, true), (276, true), (277, true), (278, true), (279, true)]]) (by kernel_rfl) (by kernel_rfl) rfl (by kernel_rfl) (by kernel_rfl) (ev_callF (args := [(.agg ((.d (.int .i64 a1.Wide)) :: ((.d (.int .i64 a1.High)) :: ((.d (.sl a1.Cells.length (e_GCell.cells a1.Cells))) :: [])))), (.d (.bool z15)), (.agg ((.d (.int .i64 a5.Flags)) :: ((.d (.int .i64 a5.Fore)) :: ((.d (.int .i64 a5.Back)) :: []))))]) (args' := [(.agg ((.d (.int .i64 a1.Wide)) :: ((.d (.int .i64 a1.High)) :: ((.d (.sl a1.Cells.length (e_GCell.cells a1.Cells))) :: [])))), (.d (.bool z15)), (.agg ((.d (.int .i64 a5.Flags)) :: ((.d (.int .i64 a5.Fore)) :: ((.d (.int .i64 a5.Back)) :: []))))]) (l := [(.agg ((.d (.int .i64 a1.Wide)) :: ((.d (.int .i64 a1.High)) :: ((.d (.sl a1.Cells.length (e_GCell.cells a1.Cells))) :: [])))), (.d (.bool z15)), (.agg ((.d (.int .i64 a5.Flags)) :: ((.d (.int .i64 a5.Fore)) :: ((.d (.int .i64 a5.Back)) :: []))))]) (refs := []) (r := (.tup [(.agg ((.d (.int .i64 z16.1)) :: ((.d (.int .i64 z16.2.1)) :: ((.r (.own 0 33 4 z16.2.2.1.length (e_GCell.cells z16.2.2.1))) :: [])))), (.d (.int .i64 z16.2.2.2))])) (v := (.tup [(.agg ((.d (.int .i64 z16.1)) :: ((.d (.int .i64 z16.2.1)) :: ((.r (.msl 272 1 0 z16.2.2.1.length)) :: [])))), (.d (.int .i64 z16.2.2.2))])) (ups' := [(272, ⟨1, some (.own 33 4 (e_GCell.cells z16.2.2.1))⟩)]) (by kernel_rfl) (by kernel_rfl) (by kernel_rfl) (fz_cons rfl (fz_cons rfl (fz_cons rfl fz_nil))) (by kernel_rfl) (f29_ok base (d - 1) (dpt hd rfl) a1 z15 a5 z16 hz16) (by kernel_rfl) (by kernel_rfl) (by kernel_rfl) (by kernel_rfl)) ?_
        refine zdRun (n := 5) (j := 25) (ts := [[], [], [], [(48, true)], []]) (acc' := [[(48, false)], [], [], [], [], [], [], [], [], [], [], [(48, false)], [], [], [], [], [(248, true), (249, true), (250, true), (251, true), (252, true), (253, true), (254, true), (255, true)], [], [(80, false)], [(272, true), (273, true), (274, true), (275, true), (276, true), (277, true), (278, true), (279, true)], [], [], [], [(48, true)], []]) rfl (by kernel_rfl) (by kernel_rfl) (by kernel_rfl) ?_
        refine zdEnd (by kernel_rfl) (by kernel_rfl) ?_
        refine zkSeq ?_
        exact f22_j0_ok hd a1 a2 a3 a4 a5 hQ z16.1 z16.2.1 z16.2.2.1 z16.2.2.2 hS (by kernel_rfl)
      · replace hS := cond_f hc hS
        refine zdRun (n := 6) (j := 19) (ts := [[], [], [], [], [], [(80, false)]]) (acc' := [[(48, false)], [], [], [], [], [], [], [], [], [], [], [(48, false)], [], [], [], [], [], [], [(80, false)]]) rfl (by kernel_rfl) (by kernel_rfl) (by kernel_rfl) ?_
        refine bindE hS (fun z17 hz17 hS => ?_)
        refine zdOp (d := some 33) (op := (.callf 29 [(.tmp 14), (.tmp 31), (.tmp 32)])) (g := none) (v := (.tup [(.agg ((.d (.int .i64 z17.1)) :: ((.d (.int .i64 z17.2.1)) :: ((.r (.msl 272 1 0 z17.2.2.1.length)) :: [])))), (.d (.int .i64 z17.2.2.2))])) (ups := [(272, ⟨1, some (.own 33 4 (e_GCell.cells z17.2.2.1))⟩)]) (j := 20) (t1 := [(272, true), (273, true), (274, true), (275, true), (276, true), (277, true), (278, true), (279, true)]) (acc' := [[(48, false)], [], [], [], [], [], [], [], [], [], [], [(48, false)], [], [], [], [], [], [], [(80, false)], [(272, true), (273, true), (274, true), (275, true), (276, true), (277, true), (278, true), (279, true)]]) (by kernel_rfl) (by kernel_rfl) rfl (by kernel_rfl) (by kernel_rfl) (ev_callF (args := [(.agg ((.d (.int .i64 a1.Wide)) :: ((.d (.int .i64 a1.High)) :: ((.d (.sl a1.Cells.length (e_GCell.cells a1.Cells))) :: [])))), (.d (.bool false)), (.agg ((.d (.int .i64 a5.Flags)) :: ((.d (.int .i64 a5.Fore)) :: ((.d (.int .i64 a5.Back)) :: []))))]) (args' := [(.agg ((.d (.int .i64 a1.Wide)) :: ((.d (.int .i64 a1.High)) :: ((.d (.sl a1.Cells.length (e_GCell.cells a1.Cells))) :: [])))), (.d (.bool false)), (.agg ((.d (.int .i64 a5.Flags)) :: ((.d (.int .i64 a5.Fore)) :: ((.d (.int .i64 a5.Back)) :: []))))]) (l := [(.agg ((.d (.int .i64 a1.Wide)) :: ((.d (.int .i64 a1.High)) :: ((.d (.sl a1.Cells.length (e_GCell.cells a1.Cells))) :: [])))), (.d (.bool false)), (.agg ((.d (.int .i64 a5.Flags)) :: ((.d (.int .i64 a5.Fore)) :: ((.d (.int .i64 a5.Back)) :: []))))]) (refs := []) (r := (.tup [(.agg ((.d (.int .i64 z17.1)) :: ((.d (.int .i64 z17.2.1)) :: ((.r (.own 0 33 4 z17.2.2.1.length (e_GCell.cells z17.2.2.1))) :: [])))), (.d (.int .i64 z17.2.2.2))])) (v := (.tup [(.agg ((.d (.int .i64 z17.1)) :: ((.d (.int .i64 z17.2.1)) :: ((.r (.msl 272 1 0 z17.2.2.1.length)) :: [])))), (.d (.int .i64 z17.2.2.2))])) (ups' := [(272, ⟨1, some (.own 33 4 (e_GCell.cells z17.2.2.1))⟩)]) (by kernel_rfl) (by kernel_rfl) (by kernel_rfl) (fz_cons rfl (fz_cons rfl (fz_cons rfl fz_nil))) (by kernel_rfl) (f29_ok base (d - 1) (dpt hd rfl) a1 false a5 z17 hz17) (by kernel_rfl) (by kernel_rfl) (by kernel_rfl) (by kernel_rfl)) ?_
        refine zdRun (n := 5) (j := 25) (ts := [[], [], [], [(48, true)], []]) (acc' := [[(48, false)], [], [], [], [], [], [], [], [], [], [], [(48, false)], [], [], [], [], [], [], [(80, false)], [(272, true), (273, true), (274, true), (275, true), (276, true), (277, true), (278, true), (279, true)], [], [], [], [(48, true)], []]) rfl (by kernel_rfl) (by kernel_rfl) (by kernel_rfl) ?_
        refine zdEnd (by kernel_rfl) (by kernel_rfl) ?_
        refine zkSeq ?_
        exact f22_j0_ok hd a1 a2 a3 a4 a5 hQ z17.1 z17.2.1 z17.2.2.1 z17.2.2.2 hS (by kernel_rfl)
    · replace hS := cond_f hc hS
      refine zdRun (n := 12) (j := 19) (ts := [[], [], [], [], [], [], [], [], [], [], [], [(80, false)]]) (acc' := [[(48, false)], [], [], [], [], [], [], [], [], [], [], [], [], [], [], [], [], [], [(80, false)]]) rfl (by kernel_rfl) (by kernel_rfl) (by kernel_rfl) ?_
      refine bindE hS (fun z18 hz18 hS => ?_)
      refine zdOp (d := some 33) (op := (.callf 29 [(.tmp 14), (.tmp 31), (.tmp 32)])) (g := none) (v := (.tup [(.agg ((.d (.int .i64 z18.1)) :: ((.d (.int .i64 z18.2.1)) :: ((.r (.msl 272 1 0 z18.2.2.1.length)) :: [])))), (.d (.int .i64 z18.2.2.2))])) (ups := [(272, ⟨1, some (.own 33 4 (e_GCell.cells z18.2.2.1))⟩)]) (j := 20) (t1 := [(272, true), (273, true), (274, true), (275, true), (276, true), (277, true), (278, true), (279, true)]) (acc' := [[(48, false)], [], [], [], [], [], [], [], [], [], [], [], [], [], [], [], [], [], [(80, false)], [(272, true), (273, true), (274, true), (275, true), (276, true), (277, true), (278, true), (279, true)]]) (by kernel_rfl) (by kernel_rfl) rfl (by kernel_rfl) (by kernel_rfl) (ev_callF (args := [(.agg ((.d (.int .i64 a1.Wide)) :: ((.d (.int .i64 a1.High)) :: ((.d (.sl a1.Cells.length (e_GCell.cells a1.Cells))) :: [])))), (.d (.bool false)), (.agg ((.d (.int .i64 a5.Flags)) :: ((.d (.int .i64 a5.Fore)) :: ((.d (.int .i64 a5.Back)) :: []))))]) (args' := [(.agg ((.d (.int .i64 a1.Wide)) :: ((.d (.int .i64 a1.High)) :: ((.d (.sl a1.Cells.length (e_GCell.cells a1.Cells))) :: [])))), (.d (.bool false)), (.agg ((.d (.int .i64 a5.Flags)) :: ((.d (.int .i64 a5.Fore)) :: ((.d (.int .i64 a5.Back)) :: []))))]) (l := [(.agg ((.d (.int .i64 a1.Wide)) :: ((.d (.int .i64 a1.High)) :: ((.d (.sl a1.Cells.length (e_GCell.cells a1.Cells))) :: [])))), (.d (.bool false)), (.agg ((.d (.int .i64 a5.Flags)) :: ((.d (.int .i64 a5.Fore)) :: ((.d (.int .i64 a5.Back)) :: []))))]) (refs := []) (r := (.tup [(.agg ((.d (.int .i64 z18.1)) :: ((.d (.int .i64 z18.2.1)) :: ((.r (.own 0 33 4 z18.2.2.1.length (e_GCell.cells z18.2.2.1))) :: [])))), (.d (.int .i64 z18.2.2.2))])) (v := (.tup [(.agg ((.d (.int .i64 z18.1)) :: ((.d (.int .i64 z18.2.1)) :: ((.r (.msl 272 1 0 z18.2.2.1.length)) :: [])))), (.d (.int .i64 z18.2.2.2))])) (ups' := [(272, ⟨1, some (.own 33 4 (e_GCell.cells z18.2.2.1))⟩)]) (by kernel_rfl) (by kernel_rfl) (by kernel_rfl) (fz_cons rfl (fz_cons rfl (fz_cons rfl fz_nil))) (by kernel_rfl) (f29_ok base (d - 1) (dpt hd rfl) a1 false a5 z18 hz18) (by kernel_rfl) (by kernel_rfl) (by kernel_rfl) (by kernel_rfl)) ?_
      refine zdRun (n := 5) (j := 25) (ts := [[], [], [], [(48, true)], []]) (acc' := [[(48, false)], [], [], [], [], [], [], [], [], [], [], [], [], [], [], [], [], [], [(80, false)], [(272, true), (273, true), (274, true), (275, true), (276, true), (277, true), (278, true), (279, true)], [], [], [], [(48, true)], []]) rfl (by kernel_rfl) (by kernel_rfl) (by kernel_rfl) ?_
      refine zdEnd (by kernel_rfl) (by kernel_rfl) ?_
      refine zkSeq ?_
      exact f22_j0_ok hd a1 a2 a3 a4 a5 hQ z18.1 z18.2.1 z18.2.2.1 z18.2.2.2 hS (by kernel_rfl)
  · replace hS := cond_f hc hS
    refine zdRun (n := 16) (j := 19) (ts := [[], [], [], [], [], [], [], [], [], [], [], [], [], [], [], [(80, false)]]) (acc' := [[(48, false)], [], [], [], [], [], [], [], [], [], [], [], [], [], [], [], [], [], [(80, false)]]) rfl (by kernel_rfl) (by kernel_rfl) (by kernel_rfl) ?_
    refine bindE hS (fun z19 hz19 hS => ?_)
    refine zdOp (d := some 33) (op := (.callf 29 [(.tmp 14), (.tmp 31), (.tmp 32)])) (g := none) (v := (.tup [(.agg ((.d (.int .i64 z19.1)) :: ((.d (.int .i64 z19.2.1)) :: ((.r (.msl 272 1 0 z19.2.2.1.length)) :: [])))), (.d (.int .i64 z19.2.2.2))])) (ups := [(272, ⟨1, some (.own 33 4 (e_GCell.cells z19.2.2.1))⟩)]) (j := 20) (t1 := [(272, true), (273, true), (274, true), (275, true), (276, true), (277, true), (278, true), (279, true)]) (acc' := [[(48, false)], [], [], [], [], [], [], [], [], [], [], [], [], [], [], [], [], [], [(80, false)], [(272, true), (273, true), (274, true), (275, true), (276, true), (277, true), (278, true), (279, true)]]) (by kernel_rfl) (by kernel_rfl) rfl (by kernel_rfl) (by kernel_rfl) (ev_callF (args := [(.agg ((.d (.int .i64 a1.Wide)) :: ((.d (.int .i64 a1.High)) :: ((.d (.sl a1.Cells.length (e_GCell.cells a1.Cells))) :: [])))), (.d (.bool false)), (.agg ((.d (.int .i64 a5.Flags)) :: ((.d (.int .i64 a5.Fore)) :: ((.d (.int .i64 a5.Back)) :: []))))]) (args' := [(.agg ((.d (.int .i64 a1.Wide)) :: ((.d (.int .i64 a1.High)) :: ((.d (.sl a1.Cells.length (e_GCell.cells a1.Cells))) :: [])))), (.d (.bool false)), (.agg ((.d (.int .i64 a5.Flags)) :: ((.d (.int .i64 a5.Fore)) :: ((.d (.int .i64 a5.Back)) :: []))))]) (l := [(.agg ((.d (.int .i64 a1.Wide)) :: ((.d (.int .i64 a1.High)) :: ((.d (.sl a1.Cells.length (e_GCell.cells a1.Cells))) :: [])))), (.d (.bool false)), (.agg ((.d (.int .i64 a5.Flags)) :: ((.d (.int .i64 a5.Fore)) :: ((.d (.int .i64 a5.Back)) :: []))))]) (refs := []) (r := (.tup [(.agg ((.d (.int .i64 z19.1)) :: ((.d (.int .i64 z19.2.1)) :: ((.r (.own 0 33 4 z19.2.2.1.length (e_GCell.cells z19.2.2.1))) :: [])))), (.d (.int .i64 z19.2.2.2))])) (v := (.tup [(.agg ((.d (.int .i64 z19.1)) :: ((.d (.int .i64 z19.2.1)) :: ((.r (.msl 272 1 0 z19.2.2.1.length)) :: [])))), (.d (.int .i64 z19.2.2.2))])) (ups' := [(272, ⟨1, some (.own 33 4 (e_GCell.cells z19.2.2.1))⟩)]) (by kernel_rfl) (by kernel_rfl) (by kernel_rfl) (fz_cons rfl (fz_cons rfl (fz_cons rfl fz_nil))) (by kernel_rfl) (f29_ok base (d - 1) (dpt hd rfl) a1 false a5 z19 hz19) (by kernel_rfl) (by kernel_rfl) (by kernel_rfl) (by kernel_rfl)) ?_
    refine zdRun (n := 5) (j := 25) (ts := [[], [], [], [(48, true)], []]) (acc' := [[(48, false)], [], [], [], [], [], [], [], [], [], [], [], [], [], [], [], [], [], [(80, false)], [(272, true), (273, true), (274, true), (275, true), (276, true), (277, true), (278, true), (279, true)], [], [], [], [(48, true)], []]) rfl (by kernel_rfl) (by kernel_rfl) (by kernel_rfl) ?_
    refine zdEnd (by kernel_rfl) (by kernel_rfl) ?_
    refine zkSeq ?_
    exact f22_j0_ok hd a1 a2 a3 a4 a5 hQ z19.1 z19.2.1 z19.2.2.1 z19.2.2.2 hS (by kernel_rfl)
/- farwriter/grid.New -/
def f31_fin (p5 : Int) (p6 : Int) (p7 : List GCell) (p8 : Int) : St := ⟨(up (up (fun _ => .un) 7 (.d (.int .i64 p8))) 6 (.r (.ptr 56 0 0))), (up (up (hB fun _ => 0) 216 ⟨0, some (.own 33 4 (e_GCell.cells p7))⟩) 56 ⟨0, some (.box ((.d (.int .i64 p5)) :: ((.d (.int .i64 p6)) :: ((.r (.msl 216 0 0 p7.length)) :: []))))⟩)⟩
theorem f31_out (p5 : Int) (p6 : Int) (p7 : List GCell) (p8 : Int) : outR (f31_fin p5 p6 p7 p8) 0 c31.res = some ((.tup [(.agg ((.d (.int .i64 p5)) :: ((.d (.int .i64 p6)) :: ((.r (.own 0 33 4 p7.length (e_GCell.cells p7))) :: [])))), (.d (.int .i64 p8))]), []) := by
  exact out_of (ids := []) (ids' := [216]) (l := [(.agg ((.d (.int .i64 p5)) :: ((.d (.int .i64 p6)) :: ((.r (.msl 216 0 0 p7.length)) :: [])))), (.d (.int .i64 p8))]) (by kernel_rfl) (by kernel_rfl) (o_tup (o_cons (o_agg (o_cons rfl (o_cons rfl (o_cons (o_own e_GCell (e := 33) (k := 4) (xs := p7) (by kernel_rfl) rfl rfl rfl rfl) o_nil)))) (o_cons rfl o_nil)))
def f31_Q (r : Int × Int × (List GCell) × Int) (e : PX) (st : St) : Prop := DoneF c31 0 ((.tup [(.agg ((.d (.int .i64 r.1)) :: ((.d (.int .i64 r.2.1)) :: ((.r (.own 0 33 4 r.2.2.1.length (e_GCell.cells r.2.2.1))) :: [])))), (.d (.int .i64 r.2.2.2))]), []) e st
def f31_j0_J (a1 : Int) (a2 : Int) (a3 : GPen) : St := ⟨(up (up (up (up (fun _ => .un) 6 (.r (.ptr 56 0 0))) 5 (.r (.ptr 48 0 0))) 1 (.d (.int .i64 a2))) 0 (.d (.int .i64 a1))), (up (up (hB fun _ => 0) 56 ⟨0, some (.box ((.d (.int .i64 0)) :: ((.d (.int .i64 0)) :: ((.d (.sl ([] : List GCell).length (e_GCell.cells ([])))) :: []))))⟩) 48 ⟨0, some (.box ((.d (.int .i64 a3.Flags)) :: ((.d (.int .i64 a3.Fore)) :: ((.d (.int .i64 a3.Back)) :: []))))⟩)⟩
noncomputable def f31_j0 (a1 : Int) (a2 : Int) (a3 : GPen) : Option (Int × Int × (List GCell) × Int) := ((f38 a3).bind fun z5 => (bif (!decide (z5 = 0)) then (some (0, 0, [], z5)) else ((f53 a1 a2 a3).bind fun z6 => (some (z6.1, z6.2.1, z6.2.2, 0)))))
theorem f31_j0_ok {base : Orc} {d : Nat} (hd : 5 ≤ d) (a1 : Int) (a2 : Int) (a3 : GPen) {r : Int × Int × (List GCell) × Int} {Q : PX → St → Prop} (hQ : ∀ e st', f31_Q r e st' → Q e st')  (hS : f31_j0 a1 a2 a3 = some r) {st : St} (he : keepSt [0, 1, 5, 6] [(48, .id 48), (56, .id 56)] [.cell 56 2 0 0 1] st = f31_j0_J a1 a2 a3) : ZR (lev codes base (d - 1)) Q c31_1 [] st := by
  refine zrKeep he ?_
  unfold f31_j0 at hS
  refine zrSeq ?_
  refine zrSeq ?_
  refine zrReg ?_
  refine zlRun (n := 1) (j := 1) rfl (by kernel_rfl) ?_
  refine bindE hS (fun z5 hz5 hS => ?_)
  refine zlOp (d := some 18) (op := (.call 38 [(.tmp 17)])) (g := none) (v := (.d (.int .i64 z5))) (ups := []) (j := 2) rfl (by kernel_rfl) (by kernel_rfl) (ev_call (args := [(.agg ((.d (.int .i64 a3.Flags)) :: ((.d (.int .i64 a3.Fore)) :: ((.d (.int .i64 a3.Back)) :: []))))]) (l := [(.agg ((.d (.int .i64 a3.Flags)) :: ((.d (.int .i64 a3.Fore)) :: ((.d (.int .i64 a3.Back)) :: []))))]) (r := (.d (.int .i64 z5))) (by kernel_rfl) (by kernel_rfl) (f38_ok base (d - 1) (dpt hd rfl) a3 z5 hz5) (by kernel_rfl) (by kernel_rfl) (by kernel_rfl)) ?_
  refine zlRun (n := 1) (j := 3) rfl (by kernel_rfl) ?_
  refine zlEnd (by kernel_rfl) ?_
  refine zkSeq ?_
  refine zrSeq ?_
  refine zrReg ?_
  refine zlRun (n := 1) (j := 1) rfl (by kernel_rfl) ?_
  refine zlBool (d := 20) (op := (.cmpI .neq (.tmp 19) (.const (.int .i64 0)))) (g := none) (j := 2) (!decide (z5 = 0)) rfl (by kernel_rfl) (by kernel_rfl) (by kernel_rfl) (fun hc => ?_) (fun hc => ?_)
  · replace hS := cond_t hc hS
    refine zlEnd (by kernel_rfl) ?_
    refine zkSeq ?_
    refine zrCondT (by kernel_rfl) ?_
    refine zrSeq ?_
    refine zrReg ?_
    refine zlRun (n := 4) (j := 4) rfl (by kernel_rfl) ?_
    refine zlEnd (by kernel_rfl) ?_
    refine zkSeq ?_
    refine zrRet ?_
    refine zkSeqR ?_
    refine zkNil ?_
    exact endQ hS hQ (fRet (by kernel_rfl) ((congrArg (fun s => outR s 0 c31.res) (by kernel_rfl : finSt c31.fin _ = f31_fin 0 0 [] z5)).trans (f31_out 0 0 [] z5)))
  · replace hS := cond_f hc hS
    refine zlEnd (by kernel_rfl) ?_
    refine zkSeq ?_
    refine zrCondF (by kernel_rfl) ?_
    refine zrSkip ?_
    refine zkSeq ?_
    refine zrSeq ?_
    refine zrReg ?_
    refine zlRun (n := 3) (j := 3) rfl (by kernel_rfl) ?_
    refine bindE hS (fun z6 hz6 hS => ?_)
    refine zlOp (d := some 26) (op := (.call 53 [(.tmp 23), (.tmp 24), (.tmp 25)])) (g := none) (v := (.agg ((.d (.int .i64 z6.1)) :: ((.d (.int .i64 z6.2.1)) :: ((.r (.msl 216 1 0 z6.2.2.length)) :: []))))) (ups := [(216, ⟨1, some (.own 33 4 (e_GCell.cells z6.2.2))⟩)]) (j := 4) rfl (by kernel_rfl) (by kernel_rfl) (ev_call (args := [(.d (.int .i64 a1)), (.d (.int .i64 a2)), (.agg ((.d (.int .i64 a3.Flags)) :: ((.d (.int .i64 a3.Fore)) :: ((.d (.int .i64 a3.Back)) :: []))))]) (l := [(.d (.int .i64 a1)), (.d (.int .i64 a2)), (.agg ((.d (.int .i64 a3.Flags)) :: ((.d (.int .i64 a3.Fore)) :: ((.d (.int .i64 a3.Back)) :: []))))]) (r := (.agg ((.d (.int .i64 z6.1)) :: ((.d (.int .i64 z6.2.1)) :: ((.r (.own 0 33 4 z6.2.2.length (e_GCell.cells z6.2.2))) :: []))))) (by kernel_rfl) (by kernel_rfl) (f53_ok base (d - 1) (dpt hd rfl) a1 a2 a3 z6 hz6) (by kernel_rfl) (by kernel_rfl) (by kernel_rfl)) ?_
    refine zlRun (n := 2) (j := 6) rfl (by kernel_rfl) ?_
    refine zlEnd (by kernel_rfl) ?_
    refine zkSeq ?_
    refine zrRet ?_
    refine zkNil ?_
    exact endQ hS hQ (fRet (by kernel_rfl) ((congrArg (fun s => outR s 0 c31.res) (by kernel_rfl : finSt c31.fin _ = f31_fin z6.1 z6.2.1 z6.2.2 0)).trans (f31_out z6.1 z6.2.1 z6.2.2 0)))
noncomputable def f31 (a1 : Int) (a2 : Int) (a3 : GPen) : Option (Int × Int × (List GCell) × Int) := ((f37 a1 a2).bind fun z7 => (bif (!decide (z7 = 0)) then (some (0, 0, [], z7)) else (f31_j0 a1 a2 a3 )))
theorem f31_ok (base : Orc) (d : Nat) (hd : 5 ≤ d) (a1 : Int) (a2 : Int) (a3 : GPen) (r : Int × Int × (List GCell) × Int) (hS : f31 a1 a2 a3 = some r) : lev codes base d 31 [(.d (.int .i64 a1)), (.d (.int .i64 a2)), (.agg ((.d (.int .i64 a3.Flags)) :: ((.d (.int .i64 a3.Fore)) :: ((.d (.int .i64 a3.Back)) :: []))))] [] = some ((.tup [(.agg ((.d (.int .i64 r.1)) :: ((.d (.int .i64 r.2.1)) :: ((.r (.own 0 33 4 r.2.2.1.length (e_GCell.cells r.2.2.1))) :: [])))), (.d (.int .i64 r.2.2.2))]), []) := by
  refine lev_go codes31 rfl rfl (Nat.le_trans (Nat.le_of_ble_eq_true rfl) hd) fun Q hQ => ?_
  unfold f31 at hS
  show ZR _ Q c31_b [] _
  replace hQ : ∀ e st', f31_Q r e st' → Q e st' := hQ
  refine zrSeq ?_
  refine zrReg ?_
  refine zlRun (n := 3) (j := 3) rfl (by kernel_rfl) ?_
  refine zlEnd (by kernel_rfl) ?_
  refine zkSeq ?_
  refine zrSeq ?_
  refine zrSeq ?_
  refine zrReg ?_
  refine zlRun (n := 2) (j := 2) rfl (by kernel_rfl) ?_
  refine bindE hS (fun z7 hz7 hS => ?_)
  refine zlOp (d := some 12) (op := (.call 37 [(.tmp 10), (.tmp 11)])) (g := none) (v := (.d (.int .i64 z7))) (ups := []) (j := 3) rfl (by kernel_rfl) (by kernel_rfl) (ev_call (args := [(.d (.int .i64 a1)), (.d (.int .i64 a2))]) (l := [(.d (.int .i64 a1)), (.d (.int .i64 a2))]) (r := (.d (.int .i64 z7))) (by kernel_rfl) (by kernel_rfl) (f37_ok base (d - 1) (dpt hd rfl) a1 a2 z7 hz7) (by kernel_rfl) (by kernel_rfl) (by kernel_rfl)) ?_
  refine zlRun (n := 1) (j := 4) rfl (by kernel_rfl) ?_
  refine zlEnd (by kernel_rfl) ?_
  refine zkSeq ?_
  refine zrSeq ?_
  refine zrReg ?_
  refine zlRun (n := 1) (j := 1) rfl (by kernel_rfl) ?_
  refine zlBool (d := 14) (op := (.cmpI .neq (.tmp 13) (.const (.int .i64 0)))) (g := none) (j := 2) (!decide (z7 = 0)) rfl (by kernel_rfl) (by kernel_rfl) (by kernel_rfl) (fun hc => ?_) (fun hc => ?_)
  · replace hS := cond_t hc hS
    refine zlEnd (by kernel_rfl) ?_
    refine zkSeq ?_
    refine zrCondT (by kernel_rfl) ?_
    refine zrSeq ?_
    refine zrReg ?_
    refine zlRun (n := 4) (j := 4) rfl (by kernel_rfl) ?_
    refine zlEnd (by kernel_rfl) ?_
    refine zkSeq ?_
    refine zrRet ?_
    refine zkSeqR ?_
    refine zkNil ?_
    exact endQ hS hQ (fRet (by kernel_rfl) ((congrArg (fun s => outR s 0 c31.res) (by kernel_rfl : finSt c31.fin _ = f31_fin 0 0 [] z7)).trans (f31_out 0 0 [] z7)))
  · replace hS := cond_f hc hS
    refine zlEnd (by kernel_rfl) ?_
    refine zkSeq ?_
    refine zrCondF (by kernel_rfl) ?_
    refine zrSkip ?_
    refine zkSeq ?_
    exact f31_j0_ok hd a1 a2 a3 hQ  hS (by kernel_rfl)
end Go.Proofs.Ytipipahbfakcaaa.Pm
