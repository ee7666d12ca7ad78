/- Typed functions, and that the codes are these. Printed by dec.py. -/
import Derived.Test.YtipipahbfakcaaaDGcF
namespace Go.Proofs.Ytipipahbfakcaaa.Pm
set_option maxRecDepth 1000000
set_option maxHeartbeats 20000000
set_option linter.unusedVariables false
/- farwriter/farkeep.gridLives -/
def f10_fin (p5 : Bool) : St := ⟨(up (fun _ => .un) 0 (.d (.bool p5))), (hB fun _ => 0)⟩
theorem f10_out (p5 : Bool) : outR (f10_fin p5) 0 c10.res = some ((.d (.bool p5)), []) := by
  kernel_rfl
def f10_Q (r : Bool) (e : PX) (st : St) : Prop := DoneF c10 0 ((.d (.bool r)), []) e st
noncomputable def f10  : Option (Bool) := ((f31 4 1 (GPen.mk 0 0 0)).bind fun z6 => ((f9 (GGrid.mk z6.1 z6.2.1 z6.2.2.1) 0 0 97 (GPen.mk 0 0 0)).bind fun z7 => ((f9 (GGrid.mk z7.1 z7.2.1 z7.2.2.1) 0 1 20013 (GPen.mk 1 0 0)).bind fun z8 => ((f13 (GGrid.mk z8.1 z8.2.1 z8.2.2.1) 0).bind fun z9 => (bif (decide (z6.2.2.2 = 0)) then (bif (decide (z7.2.2.2 = 0)) then (bif (decide (z8.2.2.2 = 0)) then (bif (decide (z9.2 = 0)) then ((f16 z9.1 [97, 20013, 32]).bind fun z10 => (some z10)) else (some false)) else (some false)) else (some false)) else (some false))))))
theorem f10_ok (base : Orc) (d : Nat) (hd : 7 ≤ d)  (r : Bool) (hS : f10 = some r) : lev codes base d 10 [] [] = some ((.d (.bool r)), []) := by
  refine lev_go codes10 rfl rfl (Nat.le_trans (Nat.le_of_ble_eq_true rfl) hd) fun Q hQ => ?_
  unfold f10 at hS
  show ZR _ Q c10_b [] _
  replace hQ : ∀ e st', f10_Q r e st' → Q e st' := hQ
  refine zrSeq ?_
  refine zrReg ?_
  refine zlRun (n := 1) (j := 1) rfl (by kernel_rfl) ?_
  refine zlEnd (by kernel_rfl) ?_
  refine zkSeq ?_
  refine zrSeq ?_
  refine zrReg ?_
  refine zlRun (n := 1) (j := 1) rfl (by kernel_rfl) ?_
  refine bindE hS (fun z6 hz6 hS => ?_)
  refine zlOp (d := some 9) (op := (.call 31 [(.const (.int .i64 4)), (.const (.int .i64 1)), (.tmp 8)])) (g := none) (v := (.tup [(.agg ((.d (.int .i64 z6.1)) :: ((.d (.int .i64 z6.2.1)) :: ((.r (.msl 80 1 0 z6.2.2.1.length)) :: [])))), (.d (.int .i64 z6.2.2.2))])) (ups := [(80, ⟨1, some (.own 33 4 (e_GCell.cells z6.2.2.1))⟩)]) (j := 2) rfl (by kernel_rfl) (by kernel_rfl) (ev_call (args := [(.d (.int .i64 4)), (.d (.int .i64 1)), (.agg ((.d (.int .i64 0)) :: ((.d (.int .i64 0)) :: ((.d (.int .i64 0)) :: []))))]) (l := [(.d (.int .i64 4)), (.d (.int .i64 1)), (.agg ((.d (.int .i64 0)) :: ((.d (.int .i64 0)) :: ((.d (.int .i64 0)) :: []))))]) (r := (.tup [(.agg ((.d (.int .i64 z6.1)) :: ((.d (.int .i64 z6.2.1)) :: ((.r (.own 0 33 4 z6.2.2.1.length (e_GCell.cells z6.2.2.1))) :: [])))), (.d (.int .i64 z6.2.2.2))])) (by kernel_rfl) (by kernel_rfl) (f31_ok base (d - 1) (dpt hd rfl) 4 1 (GPen.mk 0 0 0) z6 hz6) (by kernel_rfl) (by kernel_rfl) (by kernel_rfl)) ?_
  refine zlRun (n := 6) (j := 8) rfl (by kernel_rfl) ?_
  refine zlEnd (by kernel_rfl) ?_
  refine zkSeq ?_
  refine zrSeq ?_
  refine zrReg ?_
  refine zlRun (n := 2) (j := 2) rfl (by kernel_rfl) ?_
  refine bindE hS (fun z7 hz7 hS => ?_)
  refine zlOp (d := some 15) (op := (.callf 9 [(.tmp 13), (.const (.int .i64 0)), (.const (.int .i64 0)), (.const (.int .i64 97)), (.tmp 14)])) (g := none) (v := (.tup [(.agg ((.d (.int .i64 z7.1)) :: ((.d (.int .i64 z7.2.1)) :: ((.r (.msl 128 1 0 z7.2.2.1.length)) :: [])))), (.d (.int .i64 z7.2.2.2))])) (ups := [(80, ⟨2, none⟩), (128, ⟨1, some (.own 33 4 (e_GCell.cells z7.2.2.1))⟩)]) (j := 3) rfl (by kernel_rfl) (by kernel_rfl) (ev_callF (args := [(.agg ((.d (.int .i64 z6.1)) :: ((.d (.int .i64 z6.2.1)) :: ((.r (.msl 80 1 0 z6.2.2.1.length)) :: [])))), (.d (.int .i64 0)), (.d (.int .i64 0)), (.d (.int .i64 97)), (.agg ((.d (.int .i64 0)) :: ((.d (.int .i64 0)) :: ((.d (.int .i64 0)) :: []))))]) (args' := [(.agg ((.d (.int .i64 z6.1)) :: ((.d (.int .i64 z6.2.1)) :: ((.d (.sl z6.2.2.1.length (e_GCell.cells z6.2.2.1))) :: [])))), (.d (.int .i64 0)), (.d (.int .i64 0)), (.d (.int .i64 97)), (.agg ((.d (.int .i64 0)) :: ((.d (.int .i64 0)) :: ((.d (.int .i64 0)) :: []))))]) (l := [(.agg ((.d (.int .i64 z6.1)) :: ((.d (.int .i64 z6.2.1)) :: ((.d (.sl z6.2.2.1.length (e_GCell.cells z6.2.2.1))) :: [])))), (.d (.int .i64 0)), (.d (.int .i64 0)), (.d (.int .i64 97)), (.agg ((.d (.int .i64 0)) :: ((.d (.int .i64 0)) :: ((.d (.int .i64 0)) :: []))))]) (refs := [80]) (r := (.tup [(.agg ((.d (.int .i64 z7.1)) :: ((.d (.int .i64 z7.2.1)) :: ((.r (.own 0 33 4 z7.2.2.1.length (e_GCell.cells z7.2.2.1))) :: [])))), (.d (.int .i64 z7.2.2.2))])) (v := (.tup [(.agg ((.d (.int .i64 z7.1)) :: ((.d (.int .i64 z7.2.1)) :: ((.r (.msl 128 1 0 z7.2.2.1.length)) :: [])))), (.d (.int .i64 z7.2.2.2))])) (ups' := [(128, ⟨1, some (.own 33 4 (e_GCell.cells z7.2.2.1))⟩)]) (by kernel_rfl) (by kernel_rfl) (by kernel_rfl) (fz_cons (fz_agg (fz_cons (by kernel_rfl) (fz_cons (by kernel_rfl) (fz_cons (fz_own e_GCell (e := 33) (k := 4) (xs := z6.2.2.1) (by kernel_rfl) (by kernel_rfl) rfl rfl) fz_nil)))) (fz_cons rfl (fz_cons rfl (fz_cons rfl (fz_cons rfl fz_nil))))) (by kernel_rfl) (f9_ok base (d - 1) (dpt hd rfl) (GGrid.mk z6.1 z6.2.1 z6.2.2.1) 0 0 97 (GPen.mk 0 0 0) z7 hz7) (by kernel_rfl) (by kernel_rfl) (by kernel_rfl) (by kernel_rfl)) ?_
  refine zlRun (n := 5) (j := 8) rfl (by kernel_rfl) ?_
  refine zlEnd (by kernel_rfl) ?_
  refine zkSeq ?_
  refine zrSeq ?_
  refine zrReg ?_
  refine zlRun (n := 2) (j := 2) rfl (by kernel_rfl) ?_
  refine bindE hS (fun z8 hz8 hS => ?_)
  refine zlOp (d := some 21) (op := (.callf 9 [(.tmp 19), (.const (.int .i64 0)), (.const (.int .i64 1)), (.const (.int .i64 20013)), (.tmp 20)])) (g := none) (v := (.tup [(.agg ((.d (.int .i64 z8.1)) :: ((.d (.int .i64 z8.2.1)) :: ((.r (.msl 176 1 0 z8.2.2.1.length)) :: [])))), (.d (.int .i64 z8.2.2.2))])) (ups := [(128, ⟨2, none⟩), (176, ⟨1, some (.own 33 4 (e_GCell.cells z8.2.2.1))⟩)]) (j := 3) rfl (by kernel_rfl) (by kernel_rfl) (ev_callF (args := [(.agg ((.d (.int .i64 z7.1)) :: ((.d (.int .i64 z7.2.1)) :: ((.r (.msl 128 1 0 z7.2.2.1.length)) :: [])))), (.d (.int .i64 0)), (.d (.int .i64 1)), (.d (.int .i64 20013)), (.agg ((.d (.int .i64 1)) :: ((.d (.int .i64 0)) :: ((.d (.int .i64 0)) :: []))))]) (args' := [(.agg ((.d (.int .i64 z7.1)) :: ((.d (.int .i64 z7.2.1)) :: ((.d (.sl z7.2.2.1.length (e_GCell.cells z7.2.2.1))) :: [])))), (.d (.int .i64 0)), (.d (.int .i64 1)), (.d (.int .i64 20013)), (.agg ((.d (.int .i64 1)) :: ((.d (.int .i64 0)) :: ((.d (.int .i64 0)) :: []))))]) (l := [(.agg ((.d (.int .i64 z7.1)) :: ((.d (.int .i64 z7.2.1)) :: ((.d (.sl z7.2.2.1.length (e_GCell.cells z7.2.2.1))) :: [])))), (.d (.int .i64 0)), (.d (.int .i64 1)), (.d (.int .i64 20013)), (.agg ((.d (.int .i64 1)) :: ((.d (.int .i64 0)) :: ((.d (.int .i64 0)) :: []))))]) (refs := [128]) (r := (.tup [(.agg ((.d (.int .i64 z8.1)) :: ((.d (.int .i64 z8.2.1)) :: ((.r (.own 0 33 4 z8.2.2.1.length (e_GCell.cells z8.2.2.1))) :: [])))), (.d (.int .i64 z8.2.2.2))])) (v := (.tup [(.agg ((.d (.int .i64 z8.1)) :: ((.d (.int .i64 z8.2.1)) :: ((.r (.msl 176 1 0 z8.2.2.1.length)) :: [])))), (.d (.int .i64 z8.2.2.2))])) (ups' := [(176, ⟨1, some (.own 33 4 (e_GCell.cells z8.2.2.1))⟩)]) (by kernel_rfl) (by kernel_rfl) (by kernel_rfl) (fz_cons (fz_agg (fz_cons (by kernel_rfl) (fz_cons (by kernel_rfl) (fz_cons (fz_own e_GCell (e := 33) (k := 4) (xs := z7.2.2.1) (by kernel_rfl) (by kernel_rfl) rfl rfl) fz_nil)))) (fz_cons rfl (fz_cons rfl (fz_cons rfl (fz_cons rfl fz_nil))))) (by kernel_rfl) (f9_ok base (d - 1) (dpt hd rfl) (GGrid.mk z7.1 z7.2.1 z7.2.2.1) 0 1 20013 (GPen.mk 1 0 0) z8 hz8) (by kernel_rfl) (by kernel_rfl) (by kernel_rfl) (by kernel_rfl)) ?_
  refine zlRun (n := 5) (j := 8) rfl (by kernel_rfl) ?_
  refine zlEnd (by kernel_rfl) ?_
  refine zkSeq ?_
  refine zrSeq ?_
  refine zrReg ?_
  refine zlRun (n := 1) (j := 1) rfl (by kernel_rfl) ?_
  refine bindE hS (fun z9 hz9 hS => ?_)
  refine zlOp (d := some 26) (op := (.call 13 [(.tmp 25), (.const (.int .i64 0))])) (g := none) (v := (.tup [(.r (.msl 216 1 0 z9.1.length)), (.d (.int .i64 z9.2))])) (ups := [(216, ⟨1, some (.own 3 1 ((eInt .i64).cells z9.1))⟩)]) (j := 2) rfl (by kernel_rfl) (by kernel_rfl) (ev_call (args := [(.agg ((.d (.int .i64 z8.1)) :: ((.d (.int .i64 z8.2.1)) :: ((.r (.msl 176 1 0 z8.2.2.1.length)) :: [])))), (.d (.int .i64 0))]) (l := [(.agg ((.d (.int .i64 z8.1)) :: ((.d (.int .i64 z8.2.1)) :: ((.d (.sl z8.2.2.1.length (e_GCell.cells z8.2.2.1))) :: [])))), (.d (.int .i64 0))]) (r := (.tup [(.r (.own 0 3 1 z9.1.length ((eInt .i64).cells z9.1))), (.d (.int .i64 z9.2))])) (by kernel_rfl) (l_cons (l_agg (l_cons (by kernel_rfl) (l_cons (by kernel_rfl) (l_cons (l_own e_GCell (e := 33) (k := 4) (xs := z8.2.2.1) (by kernel_rfl) rfl rfl) l_nil)))) (l_cons (by kernel_rfl) l_nil)) (f13_ok base (d - 1) (dpt hd rfl) (GGrid.mk z8.1 z8.2.1 z8.2.2.1) 0 z9 hz9) (by simp only [free_own (eInt .i64) (fun _ => rfl), free_tup, free_agg, free_nl, free_cs, free_int, free_bool, free_str, free_un, free_ni, free_s0, Bool.and_true, Bool.or_true, Bool.and_self]) (by kernel_rfl) (by kernel_rfl)) ?_
  refine zlRun (n := 5) (j := 7) rfl (by kernel_rfl) ?_
  refine zlEnd (by kernel_rfl) ?_
  refine zkSeq ?_
  refine zrSeq ?_
  refine zrReg ?_
  refine zlRun (n := 1) (j := 1) rfl (by kernel_rfl) ?_
  refine zlBool (d := 30) (op := (.cmpI .eql (.tmp 29) (.const (.int .i64 0)))) (g := none) (j := 2) (decide (z6.2.2.2 = 0)) rfl (by kernel_rfl) (by kernel_rfl) (by kernel_rfl) (fun hc => ?_) (fun hc => ?_)
  · replace hS := cond_t hc hS
    refine zlRun (n := 2) (j := 4) rfl (by kernel_rfl) ?_
    refine zlBool (d := 33) (op := (.cmpI .eql (.tmp 32) (.const (.int .i64 0)))) (g := (some (31, true))) (j := 5) (decide (z7.2.2.2 = 0)) rfl (by kernel_rfl) (by kernel_rfl) (by kernel_rfl) (fun hc => ?_) (fun hc => ?_)
    · replace hS := cond_t hc hS
      refine zlRun (n := 3) (j := 8) rfl (by kernel_rfl) ?_
      refine zlBool (d := 37) (op := (.cmpI .eql (.tmp 36) (.const (.int .i64 0)))) (g := (some (35, true))) (j := 9) (decide (z8.2.2.2 = 0)) rfl (by kernel_rfl) (by kernel_rfl) (by kernel_rfl) (fun hc => ?_) (fun hc => ?_)
      · replace hS := cond_t hc hS
        refine zlRun (n := 3) (j := 12) rfl (by kernel_rfl) ?_
        refine zlBool (d := 41) (op := (.cmpI .eql (.tmp 40) (.const (.int .i64 0)))) (g := (some (39, true))) (j := 13) (decide (z9.2 = 0)) rfl (by kernel_rfl) (by kernel_rfl) (by kernel_rfl) (fun hc => ?_) (fun hc => ?_)
        · replace hS := cond_t hc hS
          refine zlRun (n := 4) (j := 17) rfl (by kernel_rfl) ?_
          refine bindE hS (fun z10 hz10 hS => ?_)
          refine zlOp (d := some 46) (op := (.call 16 [(.tmp 44), (.tmp 45)])) (g := (some (43, true))) (v := (.d (.bool z10))) (ups := []) (j := 18) rfl (by kernel_rfl) (by kernel_rfl) (ev_call (args := [(.r (.msl 216 1 0 z9.1.length)), (.r (.msl 368 1 0 (([97, 20013, 32] : List Int).length)))]) (l := [(.d (.sl z9.1.length ((eInt .i64).cells z9.1))), (.d (.sl ([97, 20013, 32] : List Int).length ((eInt .i64).cells ([97, 20013, 32]))))]) (r := (.d (.bool z10))) (by kernel_rfl) (l_cons (l_own (eInt .i64) (e := 3) (k := 1) (xs := z9.1) (by kernel_rfl) rfl rfl) (l_cons (l_own (eInt .i64) (e := 3) (k := 1) (xs := [97, 20013, 32]) (by kernel_rfl) rfl rfl) l_nil)) (f16_ok base (d - 1) (dpt hd rfl) z9.1 [97, 20013, 32] z10 hz10) (by kernel_rfl) (by kernel_rfl) (by kernel_rfl)) ?_
          refine zlRun (n := 2) (j := 20) rfl (by kernel_rfl) ?_
          refine zlEnd (by kernel_rfl) ?_
          refine zkSeq ?_
          refine zrRet ?_
          refine zkNil ?_
          exact endQ hS hQ (fRet (by kernel_rfl) ((congrArg (fun s => outR s 0 c10.res) (by kernel_rfl : finSt c10.fin _ = f10_fin z10)).trans (f10_out z10)))
        · replace hS := cond_f hc hS
          refine zlRun (n := 7) (j := 20) rfl (by kernel_rfl) ?_
          refine zlEnd (by kernel_rfl) ?_
          refine zkSeq ?_
          refine zrRet ?_
          refine zkNil ?_
          exact endQ hS hQ (fRet (by kernel_rfl) ((congrArg (fun s => outR s 0 c10.res) (by kernel_rfl : finSt c10.fin _ = f10_fin false)).trans (f10_out false)))
      · replace hS := cond_f hc hS
        refine zlRun (n := 11) (j := 20) rfl (by kernel_rfl) ?_
        refine zlEnd (by kernel_rfl) ?_
        refine zkSeq ?_
        refine zrRet ?_
        refine zkNil ?_
        exact endQ hS hQ (fRet (by kernel_rfl) ((congrArg (fun s => outR s 0 c10.res) (by kernel_rfl : finSt c10.fin _ = f10_fin false)).trans (f10_out false)))
    · replace hS := cond_f hc hS
      refine zlRun (n := 15) (j := 20) rfl (by kernel_rfl) ?_
      refine zlEnd (by kernel_rfl) ?_
      refine zkSeq ?_
      refine zrRet ?_
      refine zkNil ?_
      exact endQ hS hQ (fRet (by kernel_rfl) ((congrArg (fun s => outR s 0 c10.res) (by kernel_rfl : finSt c10.fin _ = f10_fin false)).trans (f10_out false)))
  · replace hS := cond_f hc hS
    refine zlRun (n := 18) (j := 20) rfl (by kernel_rfl) ?_
    refine zlEnd (by kernel_rfl) ?_
    refine zkSeq ?_
    refine zrRet ?_
    refine zkNil ?_
    exact endQ hS hQ (fRet (by kernel_rfl) ((congrArg (fun s => outR s 0 c10.res) (by kernel_rfl : finSt c10.fin _ = f10_fin false)).trans (f10_out false)))
/- farwriter/farkeep.GridRight -/
def f7_fin (p428 : Bool) : St := ⟨(up (fun _ => .un) 14 (.d (.bool p428))), (hB fun _ => 0)⟩
theorem f7_out (p428 : Bool) : outR (f7_fin p428) 0 c7.res = some ((.d (.bool p428)), []) := by
  kernel_rfl
def f7_Q (r : Bool) (e : PX) (st : St) : Prop := DoneF c7 0 ((.d (.bool r)), []) e st
def f7_j0_J (a1 : GGrid) (a2 : Int) (a3 : Int) (a4 : Int) (a5 : Int) (a6 : Int) (a7 : GPen) (p847 : Int) (p848 : Int) (p849 : List GCell) (p850 : Int) : St := ⟨(up (up (up (up (fun _ => .un) 24 (.d (.int .i64 p850))) 23 (.r (.ptr 192 0 0))) 4 (.d (.int .i64 a5))) 3 (.d (.int .i64 a4))), (up (up (hB fun _ => 0) 568 ⟨0, some (.own 33 4 (e_GCell.cells p849))⟩) 192 ⟨0, some (.box ((.d (.int .i64 p847)) :: ((.d (.int .i64 p848)) :: ((.r (.msl 568 0 0 p849.length)) :: []))))⟩)⟩
noncomputable def f7_j0 (a1 : GGrid) (a2 : Int) (a3 : Int) (a4 : Int) (a5 : Int) (a6 : Int) (a7 : GPen) (p847 : Int) (p848 : Int) (p849 : List GCell) (p850 : Int) : Option (Bool) := (f10.bind fun z36 => (bif z36 then (bif (decide (p850 = 0)) then ((f25 (GGrid.mk p847 p848 p849)).bind fun z37 => (bif (decide (z37 = 0)) then (bif (!decide (p850 = 0)) then (some true) else (bif (decide (p847 = a4)) then (bif (decide (p848 = a5)) then (some true) else (some false)) else (some false))) else (some false))) else ((f25 (GGrid.mk p847 p848 p849)).bind fun z38 => (bif (decide (z38 = 0)) then (some false) else (bif (!decide (p850 = 0)) then (some true) else (bif (decide (p847 = a4)) then (bif (decide (p848 = a5)) then (some true) else (some false)) else (some false)))))) else (some false)))
theorem f7_j0_ok {base : Orc} {d : Nat} (hd : 9 ≤ d) (a1 : GGrid) (a2 : Int) (a3 : Int) (a4 : Int) (a5 : Int) (a6 : Int) (a7 : GPen) {r : Bool} {Q : PX → St → Prop} (hQ : ∀ e st', f7_Q r e st' → Q e st') (p847 : Int) (p848 : Int) (p849 : List GCell) (p850 : Int) (hS : f7_j0 a1 a2 a3 a4 a5 a6 a7 p847 p848 p849 p850 = some r) {st : St} (he : keepSt [3, 4, 23, 24] [(192, .id 192), (568, .id 568)] [] st = f7_j0_J a1 a2 a3 a4 a5 a6 a7 p847 p848 p849 p850) : ZR (lev codes base (d - 1)) Q c7_1 [] st := by
  refine zrKeep he ?_
  unfold f7_j0 at hS
  refine zrSeq ?_
  refine zrReg ?_
  refine bindE hS (fun z36 hz36 hS => ?_)
  refine zlOp (d := some 115) (op := (.call 10 [])) (g := none) (v := (.d (.bool z36))) (ups := []) (j := 1) rfl (by kernel_rfl) (by kernel_rfl) (ev_call (args := []) (l := []) (r := (.d (.bool z36))) (by kernel_rfl) (by kernel_rfl) (f10_ok base (d - 1) (dpt hd rfl)  z36 hz36) (by kernel_rfl) (by kernel_rfl) (by kernel_rfl)) ?_
  refine zlRun (n := 1) (j := 2) rfl (by kernel_rfl) ?_
  refine zlSplit 116 z36 (by kernel_rfl) (fun hc => ?_) (fun hc => ?_)
  · replace hS := cond_t hc hS
    refine zlRun (n := 1) (j := 3) rfl (by kernel_rfl) ?_
    refine zlBool (d := 118) (op := (.cmpI .eql (.tmp 117) (.const (.int .i64 0)))) (g := (some (116, true))) (j := 4) (decide (p850 = 0)) rfl (by kernel_rfl) (by kernel_rfl) (by kernel_rfl) (fun hc => ?_) (fun hc => ?_)
    · replace hS := cond_t hc hS
      refine zlRun (n := 1) (j := 5) rfl (by kernel_rfl) ?_
      refine bindE hS (fun z37 hz37 hS => ?_)
      refine zlOp (d := some 120) (op := (.call 25 [(.tmp 119)])) (g := (some (116, true))) (v := (.d (.int .i64 z37))) (ups := []) (j := 6) rfl (by kernel_rfl) (by kernel_rfl) (ev_call (args := [(.agg ((.d (.int .i64 p847)) :: ((.d (.int .i64 p848)) :: ((.r (.msl 568 0 0 p849.length)) :: []))))]) (l := [(.agg ((.d (.int .i64 p847)) :: ((.d (.int .i64 p848)) :: ((.d (.sl p849.length (e_GCell.cells p849))) :: []))))]) (r := (.d (.int .i64 z37))) (by kernel_rfl) (l_cons (l_agg (l_cons (by kernel_rfl) (l_cons (by kernel_rfl) (l_cons (l_own e_GCell (e := 33) (k := 4) (xs := p849) (by kernel_rfl) rfl rfl) l_nil)))) l_nil) (f25_ok base (d - 1) (dpt hd rfl) (GGrid.mk p847 p848 p849) z37 hz37) (by kernel_rfl) (by kernel_rfl) (by kernel_rfl)) ?_
      refine zlBool (d := 121) (op := (.cmpI .eql (.tmp 120) (.const (.int .i64 0)))) (g := (some (116, true))) (j := 7) (decide (z37 = 0)) rfl (by kernel_rfl) (by kernel_rfl) (by kernel_rfl) (fun hc => ?_) (fun hc => ?_)
      · replace hS := cond_t hc hS
        refine zlRun (n := 4) (j := 11) rfl (by kernel_rfl) ?_
        refine zlBool (d := 126) (op := (.cmpI .neq (.tmp 125) (.const (.int .i64 0)))) (g := (some (124, true))) (j := 12) (!decide (p850 = 0)) rfl (by kernel_rfl) (by kernel_rfl) (by kernel_rfl) (fun hc => ?_) (fun hc => ?_)
        · replace hS := cond_t hc hS
          refine zlRun (n := 14) (j := 26) rfl (by kernel_rfl) ?_
          refine zlEnd (by kernel_rfl) ?_
          refine zkSeq ?_
          refine zrRet ?_
          refine zkNil ?_
          exact endQ hS hQ (fRet (by kernel_rfl) ((congrArg (fun s => outR s 0 c7.res) (by kernel_rfl : finSt c7.fin _ = f7_fin true)).trans (f7_out true)))
        · replace hS := cond_f hc hS
          refine zlRun (n := 4) (j := 16) rfl (by kernel_rfl) ?_
          refine zlBool (d := 131) (op := (.cmpI .eql (.tmp 129) (.tmp 130))) (g := (some (127, false))) (j := 17) (decide (p847 = a4)) rfl (by kernel_rfl) (by kernel_rfl) (by kernel_rfl) (fun hc => ?_) (fun hc => ?_)
          · replace hS := cond_t hc hS
            refine zlRun (n := 4) (j := 21) rfl (by kernel_rfl) ?_
            refine zlBool (d := 136) (op := (.cmpI .eql (.tmp 134) (.tmp 135))) (g := (some (132, true))) (j := 22) (decide (p848 = a5)) rfl (by kernel_rfl) (by kernel_rfl) (by kernel_rfl) (fun hc => ?_) (fun hc => ?_)
            · replace hS := cond_t hc hS
              refine zlRun (n := 4) (j := 26) rfl (by kernel_rfl) ?_
              refine zlEnd (by kernel_rfl) ?_
              refine zkSeq ?_
              refine zrRet ?_
              refine zkNil ?_
              exact endQ hS hQ (fRet (by kernel_rfl) ((congrArg (fun s => outR s 0 c7.res) (by kernel_rfl : finSt c7.fin _ = f7_fin true)).trans (f7_out true)))
            · replace hS := cond_f hc hS
              refine zlRun (n := 4) (j := 26) rfl (by kernel_rfl) ?_
              refine zlEnd (by kernel_rfl) ?_
              refine zkSeq ?_
              refine zrRet ?_
              refine zkNil ?_
              exact endQ hS hQ (fRet (by kernel_rfl) ((congrArg (fun s => outR s 0 c7.res) (by kernel_rfl : finSt c7.fin _ = f7_fin false)).trans (f7_out false)))
          · replace hS := cond_f hc hS
            refine zlRun (n := 9) (j := 26) rfl (by kernel_rfl) ?_
            refine zlEnd (by kernel_rfl) ?_
            refine zkSeq ?_
            refine zrRet ?_
            refine zkNil ?_
            exact endQ hS hQ (fRet (by kernel_rfl) ((congrArg (fun s => outR s 0 c7.res) (by kernel_rfl : finSt c7.fin _ = f7_fin false)).trans (f7_out false)))
      · replace hS := cond_f hc hS
        refine zlRun (n := 19) (j := 26) rfl (by kernel_rfl) ?_
        refine zlEnd (by kernel_rfl) ?_
        refine zkSeq ?_
        refine zrRet ?_
        refine zkNil ?_
        exact endQ hS hQ (fRet (by kernel_rfl) ((congrArg (fun s => outR s 0 c7.res) (by kernel_rfl : finSt c7.fin _ = f7_fin false)).trans (f7_out false)))
    · replace hS := cond_f hc hS
      refine zlRun (n := 1) (j := 5) rfl (by kernel_rfl) ?_
      refine bindE hS (fun z38 hz38 hS => ?_)
      refine zlOp (d := some 120) (op := (.call 25 [(.tmp 119)])) (g := (some (116, true))) (v := (.d (.int .i64 z38))) (ups := []) (j := 6) rfl (by kernel_rfl) (by kernel_rfl) (ev_call (args := [(.agg ((.d (.int .i64 p847)) :: ((.d (.int .i64 p848)) :: ((.r (.msl 568 0 0 p849.length)) :: []))))]) (l := [(.agg ((.d (.int .i64 p847)) :: ((.d (.int .i64 p848)) :: ((.d (.sl p849.length (e_GCell.cells p849))) :: []))))]) (r := (.d (.int .i64 z38))) (by kernel_rfl) (l_cons (l_agg (l_cons (by kernel_rfl) (l_cons (by kernel_rfl) (l_cons (l_own e_GCell (e := 33) (k := 4) (xs := p849) (by kernel_rfl) rfl rfl) l_nil)))) l_nil) (f25_ok base (d - 1) (dpt hd rfl) (GGrid.mk p847 p848 p849) z38 hz38) (by kernel_rfl) (by kernel_rfl) (by kernel_rfl)) ?_
      refine zlBool (d := 121) (op := (.cmpI .eql (.tmp 120) (.const (.int .i64 0)))) (g := (some (116, true))) (j := 7) (decide (z38 = 0)) rfl (by kernel_rfl) (by kernel_rfl) (by kernel_rfl) (fun hc => ?_) (fun hc => ?_)
      · replace hS := cond_t hc hS
        refine zlRun (n := 19) (j := 26) rfl (by kernel_rfl) ?_
        refine zlEnd (by kernel_rfl) ?_
        refine zkSeq ?_
        refine zrRet ?_
        refine zkNil ?_
        exact endQ hS hQ (fRet (by kernel_rfl) ((congrArg (fun s => outR s 0 c7.res) (by kernel_rfl : finSt c7.fin _ = f7_fin false)).trans (f7_out false)))
      · replace hS := cond_f hc hS
        refine zlRun (n := 4) (j := 11) rfl (by kernel_rfl) ?_
        refine zlBool (d := 126) (op := (.cmpI .neq (.tmp 125) (.const (.int .i64 0)))) (g := (some (124, true))) (j := 12) (!decide (p850 = 0)) rfl (by kernel_rfl) (by kernel_rfl) (by kernel_rfl) (fun hc => ?_) (fun hc => ?_)
        · replace hS := cond_t hc hS
          refine zlRun (n := 14) (j := 26) rfl (by kernel_rfl) ?_
          refine zlEnd (by kernel_rfl) ?_
          refine zkSeq ?_
          refine zrRet ?_
          refine zkNil ?_
          exact endQ hS hQ (fRet (by kernel_rfl) ((congrArg (fun s => outR s 0 c7.res) (by kernel_rfl : finSt c7.fin _ = f7_fin true)).trans (f7_out true)))
        · replace hS := cond_f hc hS
          refine zlRun (n := 4) (j := 16) rfl (by kernel_rfl) ?_
          refine zlBool (d := 131) (op := (.cmpI .eql (.tmp 129) (.tmp 130))) (g := (some (127, false))) (j := 17) (decide (p847 = a4)) rfl (by kernel_rfl) (by kernel_rfl) (by kernel_rfl) (fun hc => ?_) (fun hc => ?_)
          · replace hS := cond_t hc hS
            refine zlRun (n := 4) (j := 21) rfl (by kernel_rfl) ?_
            refine zlBool (d := 136) (op := (.cmpI .eql (.tmp 134) (.tmp 135))) (g := (some (132, true))) (j := 22) (decide (p848 = a5)) rfl (by kernel_rfl) (by kernel_rfl) (by kernel_rfl) (fun hc => ?_) (fun hc => ?_)
            · replace hS := cond_t hc hS
              refine zlRun (n := 4) (j := 26) rfl (by kernel_rfl) ?_
              refine zlEnd (by kernel_rfl) ?_
              refine zkSeq ?_
              refine zrRet ?_
              refine zkNil ?_
              exact endQ hS hQ (fRet (by kernel_rfl) ((congrArg (fun s => outR s 0 c7.res) (by kernel_rfl : finSt c7.fin _ = f7_fin true)).trans (f7_out true)))
            · replace hS := cond_f hc hS
              refine zlRun (n := 4) (j := 26) rfl (by kernel_rfl) ?_
              refine zlEnd (by kernel_rfl) ?_
              refine zkSeq ?_
              refine zrRet ?_
              refine zkNil ?_
              exact endQ hS hQ (fRet (by kernel_rfl) ((congrArg (fun s => outR s 0 c7.res) (by kernel_rfl : finSt c7.fin _ = f7_fin false)).trans (f7_out false)))
          · replace hS := cond_f hc hS
            refine zlRun (n := 9) (j := 26) rfl (by kernel_rfl) ?_
            refine zlEnd (by kernel_rfl) ?_
            refine zkSeq ?_
            refine zrRet ?_
            refine zkNil ?_
            exact endQ hS hQ (fRet (by kernel_rfl) ((congrArg (fun s => outR s 0 c7.res) (by kernel_rfl : finSt c7.fin _ = f7_fin false)).trans (f7_out false)))
  · replace hS := cond_f hc hS
    refine zlRun (n := 24) (j := 26) rfl (by kernel_rfl) ?_
    refine zlEnd (by kernel_rfl) ?_
    refine zkSeq ?_
    refine zrRet ?_
    refine zkNil ?_
    exact endQ hS hQ (fRet (by kernel_rfl) ((congrArg (fun s => outR s 0 c7.res) (by kernel_rfl : finSt c7.fin _ = f7_fin false)).trans (f7_out false)))
def f7_l1_J (a1 : GGrid) (a2 : Int) (a3 : Int) (a4 : Int) (a5 : Int) (a6 : Int) (a7 : GPen) (x : Int × Int × Int × Int × Int × Int × (List GCell) × Int × (List GGrid) × Int × Int) : St := ⟨(up (up (up (up (up (up (up (up (up (up (up (up (fun _ => .un) 79 (.d (.int .i64 x.2.2.2.2.2.2.2.2.2.2))) 78 (.d (.int .i64 x.2.2.2.2.2.2.2.2.2.1))) 77 (.r (.msl 624 0 0 x.2.2.2.2.2.2.2.2.1.length))) 24 (.d (.int .i64 x.2.2.2.2.2.2.2.1))) 23 (.r (.ptr 192 0 0))) 22 (.d (.int .i64 x.2.2.2.1))) 20 (.d (.int .i64 x.2.2.1))) 18 (.d (.int .i64 x.2.1))) 16 (.d (.int .i64 x.1))) 7 (.r (.ptr 64 0 0))) 4 (.d (.int .i64 a5))) 3 (.d (.int .i64 a4))), (up (up (up (up (hB fun _ => 0) 624 ⟨0, some (.own 24 3 (e_GGrid.cells x.2.2.2.2.2.2.2.2.1))⟩) 568 ⟨0, some (.own 33 4 (e_GCell.cells x.2.2.2.2.2.2.1))⟩) 192 ⟨0, some (.box ((.d (.int .i64 x.2.2.2.2.1)) :: ((.d (.int .i64 x.2.2.2.2.2.1)) :: ((.r (.msl 568 0 0 x.2.2.2.2.2.2.1.length)) :: []))))⟩) 64 ⟨0, some (.box ((.d (.int .i64 a1.Wide)) :: ((.d (.int .i64 a1.High)) :: ((.d (.sl a1.Cells.length (e_GCell.cells a1.Cells))) :: []))))⟩)⟩
def f7_l1_H (a1 : GGrid) (a2 : Int) (a3 : Int) (a4 : Int) (a5 : Int) (a6 : Int) (a7 : GPen) (x : Int × Int × Int × Int × Int × Int × (List GCell) × Int × (List GGrid) × Int × Int) (st : St) : Prop := keepSt [3, 4, 7, 16, 18, 20, 22, 23, 24, 77, 78, 79] [(64, .id 64), (192, .id 192), (568, .id 568), (624, .id 624)] [] st = f7_l1_J a1 a2 a3 a4 a5 a6 a7 x
def f7_l1_e0_J (a1 : GGrid) (a2 : Int) (a3 : Int) (a4 : Int) (a5 : Int) (a6 : Int) (a7 : GPen) (p843 : Int) (p844 : Int) (p845 : List GCell) (p846 : Int) : St := ⟨(up (up (up (up (fun _ => .un) 24 (.d (.int .i64 p846))) 23 (.r (.ptr 192 0 0))) 4 (.d (.int .i64 a5))) 3 (.d (.int .i64 a4))), (up (up (hB fun _ => 0) 568 ⟨0, some (.own 33 4 (e_GCell.cells p845))⟩) 192 ⟨0, some (.box ((.d (.int .i64 p843)) :: ((.d (.int .i64 p844)) :: ((.r (.msl 568 0 0 p845.length)) :: []))))⟩)⟩
def f7_l1_X (a1 : GGrid) (a2 : Int) (a3 : Int) (a4 : Int) (a5 : Int) (a6 : Int) (a7 : GPen) (z : (Int × Int × (List GCell) × Int) ⊕ Bool) (e : PX) (st : St) : Prop := (match z with | .inl z => e = .exit 0 ∧ st = f7_l1_e0_J a1 a2 a3 a4 a5 a6 a7 z.1 z.2.1 z.2.2.1 z.2.2.2 | .inr z => e = .ret ∧ finSt c7.fin st = f7_fin z)
def f7_l1_j4_J (a1 : GGrid) (a2 : Int) (a3 : Int) (a4 : Int) (a5 : Int) (a6 : Int) (a7 : GPen) (p899 : Int) (p900 : Int) (p901 : Int) (p902 : Int) (p903 : Int) (p904 : Int) (p905 : List GCell) (p906 : Int) (p907 : GGrid) (p908 : Bool) (p909 : List GGrid) (p910 : Int) (p911 : Int) : St := ⟨(up (up (up (up (up (up (up (up (up (up (up (up (up (up (fun _ => .un) 79 (.d (.int .i64 p911))) 78 (.d (.int .i64 p910))) 77 (.r (.msl 624 0 0 p909.length))) 27 (.d (.bool p908))) 26 (.r (.ptr 216 0 0))) 24 (.d (.int .i64 p906))) 23 (.r (.ptr 192 0 0))) 22 (.d (.int .i64 p902))) 20 (.d (.int .i64 p901))) 18 (.d (.int .i64 p900))) 16 (.d (.int .i64 p899))) 7 (.r (.ptr 64 0 0))) 4 (.d (.int .i64 a5))) 3 (.d (.int .i64 a4))), (up (up (up (up (up (hB fun _ => 0) 624 ⟨0, some (.own 24 3 (e_GGrid.cells p909))⟩) 216 ⟨0, some (.box ((.d (.int .i64 p907.Wide)) :: ((.d (.int .i64 p907.High)) :: ((.d (.sl p907.Cells.length (e_GCell.cells p907.Cells))) :: []))))⟩) 568 ⟨0, some (.own 33 4 (e_GCell.cells p905))⟩) 192 ⟨0, some (.box ((.d (.int .i64 p903)) :: ((.d (.int .i64 p904)) :: ((.r (.msl 568 0 0 p905.length)) :: []))))⟩) 64 ⟨0, some (.box ((.d (.int .i64 a1.Wide)) :: ((.d (.int .i64 a1.High)) :: ((.d (.sl a1.Cells.length (e_GCell.cells a1.Cells))) :: []))))⟩)⟩
noncomputable def f7_l1_j4 (a1 : GGrid) (a2 : Int) (a3 : Int) (a4 : Int) (a5 : Int) (a6 : Int) (a7 : GPen) (p899 : Int) (p900 : Int) (p901 : Int) (p902 : Int) (p903 : Int) (p904 : Int) (p905 : List GCell) (p906 : Int) (p907 : GGrid) (p908 : Bool) (p909 : List GGrid) (p910 : Int) (p911 : Int) : Option ((Int × Int × Int × Int × Int × Int × (List GCell) × Int × (List GGrid) × Int × Int) ⊕ ((Int × Int × (List GCell) × Int) ⊕ Bool)) := ((f25 p907).bind fun z42 => (bif (decide (z42 = 0)) then (bif (!decide (p908 = true)) then (some (.inr (.inr false))) else (bif p908 then (bif (!decide (p907.Wide = a1.Wide)) then (some (.inr (.inr false))) else (bif (!decide (p907.High = a1.High)) then (some (.inr (.inr false))) else (some (.inl (p899, p900, p901, p902, p903, p904, p905, p906, p909, p910, (IntKind.i64.wrap (p911 + 1))))))) else (some (.inl (p899, p900, p901, p902, p903, p904, p905, p906, p909, p910, (IntKind.i64.wrap (p911 + 1))))))) else (bif (!decide (p908 = false)) then (some (.inr (.inr false))) else (bif p908 then (bif (!decide (p907.Wide = a1.Wide)) then (some (.inr (.inr false))) else (bif (!decide (p907.High = a1.High)) then (some (.inr (.inr false))) else (some (.inl (p899, p900, p901, p902, p903, p904, p905, p906, p909, p910, (IntKind.i64.wrap (p911 + 1))))))) else (some (.inl (p899, p900, p901, p902, p903, p904, p905, p906, p909, p910, (IntKind.i64.wrap (p911 + 1)))))))))
theorem f7_l1_j4_ok {base : Orc} {d : Nat} (hd : 9 ≤ d) (a1 : GGrid) (a2 : Int) (a3 : Int) (a4 : Int) (a5 : Int) (a6 : Int) (a7 : GPen) {r : (Int × Int × Int × Int × Int × Int × (List GCell) × Int × (List GGrid) × Int × Int) ⊕ ((Int × Int × (List GCell) × Int) ⊕ Bool)} {Q : PX → St → Prop} (hQ : ∀ e st', finL (f7_l1_H a1 a2 a3 a4 a5 a6 a7) (f7_l1_X a1 a2 a3 a4 a5 a6 a7) r e st' → Q e st') (p899 : Int) (p900 : Int) (p901 : Int) (p902 : Int) (p903 : Int) (p904 : Int) (p905 : List GCell) (p906 : Int) (p907 : GGrid) (p908 : Bool) (p909 : List GGrid) (p910 : Int) (p911 : Int) (hS : f7_l1_j4 a1 a2 a3 a4 a5 a6 a7 p899 p900 p901 p902 p903 p904 p905 p906 p907 p908 p909 p910 p911 = some r) {st : St} (he : keepSt [3, 4, 7, 16, 18, 20, 22, 23, 24, 26, 27, 77, 78, 79] [(64, .id 64), (192, .id 192), (568, .id 568), (216, .id 216), (624, .id 624)] [] st = f7_l1_j4_J a1 a2 a3 a4 a5 a6 a7 p899 p900 p901 p902 p903 p904 p905 p906 p907 p908 p909 p910 p911) : ZR (lev codes base (d - 1)) Q c7_2 [.blk 1, .seq c7_3] st := by
  refine zrKeep he ?_
  unfold f7_l1_j4 at hS
  refine zrSeq ?_
  refine zrReg ?_
  refine zlRun (n := 2) (j := 2) rfl (by kernel_rfl) ?_
  refine bindE hS (fun z42 hz42 hS => ?_)
  refine zlOp (d := some 94) (op := (.call 25 [(.tmp 93)])) (g := none) (v := (.d (.int .i64 z42))) (ups := []) (j := 3) rfl (by kernel_rfl) (by kernel_rfl) (ev_call (args := [(.agg ((.d (.int .i64 p907.Wide)) :: ((.d (.int .i64 p907.High)) :: ((.d (.sl p907.Cells.length (e_GCell.cells p907.Cells))) :: []))))]) (l := [(.agg ((.d (.int .i64 p907.Wide)) :: ((.d (.int .i64 p907.High)) :: ((.d (.sl p907.Cells.length (e_GCell.cells p907.Cells))) :: []))))]) (r := (.d (.int .i64 z42))) (by kernel_rfl) (by kernel_rfl) (f25_ok base (d - 1) (dpt hd rfl) p907 z42 hz42) (by kernel_rfl) (by kernel_rfl) (by kernel_rfl)) ?_
  refine zlBool (d := 95) (op := (.cmpI .eql (.tmp 94) (.const (.int .i64 0)))) (g := none) (j := 4) (decide (z42 = 0)) rfl (by kernel_rfl) (by kernel_rfl) (by kernel_rfl) (fun hc => ?_) (fun hc => ?_)
  · replace hS := cond_t hc hS
    refine zlBool (d := 96) (op := (.eqB .true (.tmp 92) (.tmp 95))) (g := none) (j := 5) (!decide (p908 = true)) rfl (by kernel_rfl) (by kernel_rfl) (by kernel_rfl) (fun hc => ?_) (fun hc => ?_)
    · replace hS := cond_t hc hS
      refine zlRun (n := 17) (j := 22) rfl (by kernel_rfl) ?_
      refine zlEnd (by kernel_rfl) ?_
      refine zkSeq ?_
      refine zrCondT (by kernel_rfl) ?_
      refine zrSeq ?_
      refine zrReg ?_
      refine zlRun (n := 1) (j := 1) rfl (by kernel_rfl) ?_
      refine zlEnd (by kernel_rfl) ?_
      refine zkSeq ?_
      refine zrRet ?_
      refine zkBlkR ?_
      refine zkSeqR ?_
      refine zkNil ?_
      exact endQ hS hQ (finL_x (by intro h; cases h) (by show _ = _ ∧ _ = _; exact ⟨rfl, by kernel_rfl⟩))
    · replace hS := cond_f hc hS
      refine zlRun (n := 3) (j := 8) rfl (by kernel_rfl) ?_
      refine zlSplit 99 p908 (by kernel_rfl) (fun hc => ?_) (fun hc => ?_)
      · replace hS := cond_t hc hS
        refine zlRun (n := 4) (j := 12) rfl (by kernel_rfl) ?_
        refine zlBool (d := 104) (op := (.cmpI .neq (.tmp 101) (.tmp 103))) (g := (some (99, true))) (j := 13) (!decide (p907.Wide = a1.Wide)) rfl (by kernel_rfl) (by kernel_rfl) (by kernel_rfl) (fun hc => ?_) (fun hc => ?_)
        · replace hS := cond_t hc hS
          refine zlRun (n := 9) (j := 22) rfl (by kernel_rfl) ?_
          refine zlEnd (by kernel_rfl) ?_
          refine zkSeq ?_
          refine zrCondT (by kernel_rfl) ?_
          refine zrSeq ?_
          refine zrReg ?_
          refine zlRun (n := 1) (j := 1) rfl (by kernel_rfl) ?_
          refine zlEnd (by kernel_rfl) ?_
          refine zkSeq ?_
          refine zrRet ?_
          refine zkBlkR ?_
          refine zkSeqR ?_
          refine zkNil ?_
          exact endQ hS hQ (finL_x (by intro h; cases h) (by show _ = _ ∧ _ = _; exact ⟨rfl, by kernel_rfl⟩))
        · replace hS := cond_f hc hS
          refine zlRun (n := 5) (j := 18) rfl (by kernel_rfl) ?_
          refine zlBool (d := 110) (op := (.cmpI .neq (.tmp 107) (.tmp 109))) (g := (some (105, false))) (j := 19) (!decide (p907.High = a1.High)) rfl (by kernel_rfl) (by kernel_rfl) (by kernel_rfl) (fun hc => ?_) (fun hc => ?_)
          · replace hS := cond_t hc hS
            refine zlRun (n := 3) (j := 22) rfl (by kernel_rfl) ?_
            refine zlEnd (by kernel_rfl) ?_
            refine zkSeq ?_
            refine zrCondT (by kernel_rfl) ?_
            refine zrSeq ?_
            refine zrReg ?_
            refine zlRun (n := 1) (j := 1) rfl (by kernel_rfl) ?_
            refine zlEnd (by kernel_rfl) ?_
            refine zkSeq ?_
            refine zrRet ?_
            refine zkBlkR ?_
            refine zkSeqR ?_
            refine zkNil ?_
            exact endQ hS hQ (finL_x (by intro h; cases h) (by show _ = _ ∧ _ = _; exact ⟨rfl, by kernel_rfl⟩))
          · replace hS := cond_f hc hS
            refine zlRun (n := 3) (j := 22) rfl (by kernel_rfl) ?_
            refine zlEnd (by kernel_rfl) ?_
            refine zkSeq ?_
            refine zrCondF (by kernel_rfl) ?_
            refine zrSkip ?_
            refine zkBlk ?_
            refine zkSeq ?_
            refine zrReg ?_
            refine zlRun (n := 2) (j := 2) rfl (by kernel_rfl) ?_
            refine zlEnd (by kernel_rfl) ?_
            refine zkNil ?_
            exact endQ hS hQ (finL_n (by show keepSt _ _ _ _ = _; kernel_rfl))
      · replace hS := cond_f hc hS
        refine zlRun (n := 14) (j := 22) rfl (by kernel_rfl) ?_
        refine zlEnd (by kernel_rfl) ?_
        refine zkSeq ?_
        refine zrCondF (by kernel_rfl) ?_
        refine zrSkip ?_
        refine zkBlk ?_
        refine zkSeq ?_
        refine zrReg ?_
        refine zlRun (n := 2) (j := 2) rfl (by kernel_rfl) ?_
        refine zlEnd (by kernel_rfl) ?_
        refine zkNil ?_
        exact endQ hS hQ (finL_n (by show keepSt _ _ _ _ = _; kernel_rfl))
  · replace hS := cond_f hc hS
    refine zlBool (d := 96) (op := (.eqB .true (.tmp 92) (.tmp 95))) (g := none) (j := 5) (!decide (p908 = false)) rfl (by kernel_rfl) (by kernel_rfl) (by kernel_rfl) (fun hc => ?_) (fun hc => ?_)
    · replace hS := cond_t hc hS
      refine zlRun (n := 17) (j := 22) rfl (by kernel_rfl) ?_
      refine zlEnd (by kernel_rfl) ?_
      refine zkSeq ?_
      refine zrCondT (by kernel_rfl) ?_
      refine zrSeq ?_
      refine zrReg ?_
      refine zlRun (n := 1) (j := 1) rfl (by kernel_rfl) ?_
      refine zlEnd (by kernel_rfl) ?_
      refine zkSeq ?_
      refine zrRet ?_
      refine zkBlkR ?_
      refine zkSeqR ?_
      refine zkNil ?_
      exact endQ hS hQ (finL_x (by intro h; cases h) (by show _ = _ ∧ _ = _; exact ⟨rfl, by kernel_rfl⟩))
    · replace hS := cond_f hc hS
      refine zlRun (n := 3) (j := 8) rfl (by kernel_rfl) ?_
      refine zlSplit 99 p908 (by kernel_rfl) (fun hc => ?_) (fun hc => ?_)
      · replace hS := cond_t hc hS
        refine zlRun (n := 4) (j := 12) rfl (by kernel_rfl) ?_
        refine zlBool (d := 104) (op := (.cmpI .neq (.tmp 101) (.tmp 103))) (g := (some (99, true))) (j := 13) (!decide (p907.Wide = a1.Wide)) rfl (by kernel_rfl) (by kernel_rfl) (by kernel_rfl) (fun hc => ?_) (fun hc => ?_)
        · replace hS := cond_t hc hS
          refine zlRun (n := 9) (j := 22) rfl (by kernel_rfl) ?_
          refine zlEnd (by kernel_rfl) ?_
          refine zkSeq ?_
          refine zrCondT (by kernel_rfl) ?_
          refine zrSeq ?_
          refine zrReg ?_
          refine zlRun (n := 1) (j := 1) rfl (by kernel_rfl) ?_
          refine zlEnd (by kernel_rfl) ?_
          refine zkSeq ?_
          refine zrRet ?_
          refine zkBlkR ?_
          refine zkSeqR ?_
          refine zkNil ?_
          exact endQ hS hQ (finL_x (by intro h; cases h) (by show _ = _ ∧ _ = _; exact ⟨rfl, by kernel_rfl⟩))
        · replace hS := cond_f hc hS
          refine zlRun (n := 5) (j := 18) rfl (by kernel_rfl) ?_
          refine zlBool (d := 110) (op := (.cmpI .neq (.tmp 107) (.tmp 109))) (g := (some (105, false))) (j := 19) (!decide (p907.High = a1.High)) rfl (by kernel_rfl) (by kernel_rfl) (by kernel_rfl) (fun hc => ?_) (fun hc => ?_)
          · replace hS := cond_t hc hS
            refine zlRun (n := 3) (j := 22) rfl (by kernel_rfl) ?_
            refine zlEnd (by kernel_rfl) ?_
            refine zkSeq ?_
            refine zrCondT (by kernel_rfl) ?_
            refine zrSeq ?_
            refine zrReg ?_
            refine zlRun (n := 1) (j := 1) rfl (by kernel_rfl) ?_
            refine zlEnd (by kernel_rfl) ?_
            refine zkSeq ?_
            refine zrRet ?_
            refine zkBlkR ?_
            refine zkSeqR ?_
            refine zkNil ?_
            exact endQ hS hQ (finL_x (by intro h; cases h) (by show _ = _ ∧ _ = _; exact ⟨rfl, by kernel_rfl⟩))
          · replace hS := cond_f hc hS
            refine zlRun (n := 3) (j := 22) rfl (by kernel_rfl) ?_
            refine zlEnd (by kernel_rfl) ?_
            refine zkSeq ?_
            refine zrCondF (by kernel_rfl) ?_
            refine zrSkip ?_
            refine zkBlk ?_
            refine zkSeq ?_
            refine zrReg ?_
            refine zlRun (n := 2) (j := 2) rfl (by kernel_rfl) ?_
            refine zlEnd (by kernel_rfl) ?_
            refine zkNil ?_
            exact endQ hS hQ (finL_n (by show keepSt _ _ _ _ = _; kernel_rfl))
      · replace hS := cond_f hc hS
        refine zlRun (n := 14) (j := 22) rfl (by kernel_rfl) ?_
        refine zlEnd (by kernel_rfl) ?_
        refine zkSeq ?_
        refine zrCondF (by kernel_rfl) ?_
        refine zrSkip ?_
        refine zkBlk ?_
        refine zkSeq ?_
        refine zrReg ?_
        refine zlRun (n := 2) (j := 2) rfl (by kernel_rfl) ?_
        refine zlEnd (by kernel_rfl) ?_
        refine zkNil ?_
        exact endQ hS hQ (finL_n (by show keepSt _ _ _ _ = _; kernel_rfl))
def f7_l1_j3_J (a1 : GGrid) (a2 : Int) (a3 : Int) (a4 : Int) (a5 : Int) (a6 : Int) (a7 : GPen) (p875 : Int) (p876 : Int) (p877 : Int) (p878 : Int) (p879 : Int) (p880 : Int) (p881 : List GCell) (p882 : Int) (p883 : List GGrid) (p884 : Int) (p885 : Int) : St := ⟨(up (up (up (up (up (up (up (up (up (up (up (up (fun _ => .un) 79 (.d (.int .i64 p885))) 78 (.d (.int .i64 p884))) 77 (.r (.msl 624 0 0 p883.length))) 24 (.d (.int .i64 p882))) 23 (.r (.ptr 192 0 0))) 22 (.d (.int .i64 p878))) 20 (.d (.int .i64 p877))) 18 (.d (.int .i64 p876))) 16 (.d (.int .i64 p875))) 7 (.r (.ptr 64 0 0))) 4 (.d (.int .i64 a5))) 3 (.d (.int .i64 a4))), (up (up (up (up (hB fun _ => 0) 624 ⟨0, some (.own 24 3 (e_GGrid.cells p883))⟩) 568 ⟨0, some (.own 33 4 (e_GCell.cells p881))⟩) 192 ⟨0, some (.box ((.d (.int .i64 p879)) :: ((.d (.int .i64 p880)) :: ((.r (.msl 568 0 0 p881.length)) :: []))))⟩) 64 ⟨0, some (.box ((.d (.int .i64 a1.Wide)) :: ((.d (.int .i64 a1.High)) :: ((.d (.sl a1.Cells.length (e_GCell.cells a1.Cells))) :: []))))⟩)⟩
noncomputable def f7_l1_j3 (a1 : GGrid) (a2 : Int) (a3 : Int) (a4 : Int) (a5 : Int) (a6 : Int) (a7 : GPen) (p875 : Int) (p876 : Int) (p877 : Int) (p878 : Int) (p879 : Int) (p880 : Int) (p881 : List GCell) (p882 : Int) (p883 : List GGrid) (p884 : Int) (p885 : Int) : Option ((Int × Int × Int × Int × Int × Int × (List GCell) × Int × (List GGrid) × Int × Int) ⊕ ((Int × Int × (List GCell) × Int) ⊕ Bool)) := ((inR p885 p883.length).bind fun m39 => ((p883[m39]?).bind fun z40 => ((inR p885 4).bind fun m43 => (bif (decide ((([p875, p876, p877, p878] : List Int).getD m43 0) = 0)) then (f7_l1_j4 a1 a2 a3 a4 a5 a6 a7 p875 p876 p877 p878 p879 p880 p881 p882 z40 true p883 p884 p885) else (f7_l1_j4 a1 a2 a3 a4 a5 a6 a7 p875 p876 p877 p878 p879 p880 p881 p882 z40 false p883 p884 p885)))))
theorem f7_l1_j3_ok {base : Orc} {d : Nat} (hd : 9 ≤ d) (a1 : GGrid) (a2 : Int) (a3 : Int) (a4 : Int) (a5 : Int) (a6 : Int) (a7 : GPen) {r : (Int × Int × Int × Int × Int × Int × (List GCell) × Int × (List GGrid) × Int × Int) ⊕ ((Int × Int × (List GCell) × Int) ⊕ Bool)} {Q : PX → St → Prop} (hQ : ∀ e st', finL (f7_l1_H a1 a2 a3 a4 a5 a6 a7) (f7_l1_X a1 a2 a3 a4 a5 a6 a7) r e st' → Q e st') (p875 : Int) (p876 : Int) (p877 : Int) (p878 : Int) (p879 : Int) (p880 : Int) (p881 : List GCell) (p882 : Int) (p883 : List GGrid) (p884 : Int) (p885 : Int) (hS : f7_l1_j3 a1 a2 a3 a4 a5 a6 a7 p875 p876 p877 p878 p879 p880 p881 p882 p883 p884 p885 = some r) {st : St} (he : keepSt [3, 4, 7, 16, 18, 20, 22, 23, 24, 77, 78, 79] [(64, .id 64), (192, .id 192), (568, .id 568), (624, .id 624)] [] st = f7_l1_j3_J a1 a2 a3 a4 a5 a6 a7 p875 p876 p877 p878 p879 p880 p881 p882 p883 p884 p885) : ZR (lev codes base (d - 1)) Q c7_4 [] st := by
  refine zrKeep he ?_
  unfold f7_l1_j3 at hS
  refine zrSeq ?_
  refine zrBlk ?_
  refine zrSeq ?_
  refine zrReg ?_
  refine zlRun (n := 1) (j := 1) rfl (by kernel_rfl) ?_
  refine bindE hS (fun m39 hm39 hS => ?_)
  refine zlOp (d := some 82) (op := (.ixS 24 3 (.tmp 77) (.tmp 79))) (g := none) (v := (.r (.ptr 624 0 ((0 + m39) * 3)))) (ups := []) (j := 2) rfl (by kernel_rfl) (by kernel_rfl) (ev_ixM (kk := .i64) (b := 624) (g := 0) (l := 0) (n := p883.length) (j := p885) (cs := e_GGrid.cells p883) (by kernel_rfl) (by kernel_rfl) (by kernel_rfl) hm39) ?_
  refine bindE hS (fun z40 hz40 hS => ?_)
  refine zlOp (d := some 83) (op := (.load .true 3 (.tmp 82))) (g := none) (v := (.agg ((.d (.int .i64 z40.Wide)) :: ((.d (.int .i64 z40.High)) :: ((.d (.sl z40.Cells.length (e_GCell.cells z40.Cells))) :: []))))) (ups := []) (j := 3) rfl (by kernel_rfl) (by kernel_rfl) (ev_loadM e_GGrid (b := 624) (g := 0) (o := (0 + m39) * 3) (e := 24) (k := 3) (m := m39) (fo := 0) (xs := p883) (by kernel_rfl) (by kernel_rfl) (by rw [Nat.zero_add]; rfl) hz40 (by kernel_rfl) (by kernel_rfl) (by kernel_rfl)) ?_
  refine zlRun (n := 3) (j := 6) rfl (by kernel_rfl) ?_
  refine zlEnd (by kernel_rfl) ?_
  refine zkSeq ?_
  refine zrSeq ?_
  refine zrReg ?_
  refine zlRun (n := 6) (j := 6) rfl (by kernel_rfl) ?_
  refine bindE hS (fun m43 hm43 hS => ?_)
  refine zlOp (d := some 90) (op := (.ixV .false 4 1 (.tmp 88) (.tmp 89))) (g := none) (v := (.d (.int .i64 (([p875, p876, p877, p878] : List Int).getD m43 0)))) (ups := []) (j := 7) rfl (by kernel_rfl) (by kernel_rfl) (ev_ixV (eInt .i64) (fun i => ([p875, p876, p877, p878] : List Int).getD i 0) (kk := .i64) (j := p885) (by kernel_rfl) (by kernel_rfl) hm43 rfl (by kernel_rfl) (by kernel_rfl)) ?_
  refine zlBool (d := 91) (op := (.cmpI .eql (.tmp 90) (.const (.int .i64 0)))) (g := none) (j := 8) (decide ((([p875, p876, p877, p878] : List Int).getD m43 0) = 0)) rfl (by kernel_rfl) (by kernel_rfl) (by kernel_rfl) (fun hc => ?_) (fun hc => ?_)
  · replace hS := cond_t hc hS
    refine zlRun (n := 1) (j := 9) rfl (by kernel_rfl) ?_
    refine zlEnd (by kernel_rfl) ?_
    refine zkSeq ?_
    exact f7_l1_j4_ok hd a1 a2 a3 a4 a5 a6 a7 hQ p875 p876 p877 p878 p879 p880 p881 p882 z40 true p883 p884 p885 hS (by kernel_rfl)
  · replace hS := cond_f hc hS
    refine zlRun (n := 1) (j := 9) rfl (by kernel_rfl) ?_
    refine zlEnd (by kernel_rfl) ?_
    refine zkSeq ?_
    exact f7_l1_j4_ok hd a1 a2 a3 a4 a5 a6 a7 hQ p875 p876 p877 p878 p879 p880 p881 p882 z40 false p883 p884 p885 hS (by kernel_rfl)
def f7_l1_j2_J (a1 : GGrid) (a2 : Int) (a3 : Int) (a4 : Int) (a5 : Int) (a6 : Int) (a7 : GPen) (p863 : Int) (p864 : Int) (p865 : Int) (p866 : Int) (p867 : Int) (p868 : Int) (p869 : List GCell) (p870 : Int) (p871 : List GGrid) (p872 : Int) (p873 : Int) (p874 : Bool) : St := ⟨(up (up (up (up (up (up (up (up (up (up (up (up (up (fun _ => .un) 80 (.d (.bool p874))) 79 (.d (.int .i64 p873))) 78 (.d (.int .i64 p872))) 77 (.r (.msl 624 0 0 p871.length))) 24 (.d (.int .i64 p870))) 23 (.r (.ptr 192 0 0))) 22 (.d (.int .i64 p866))) 20 (.d (.int .i64 p865))) 18 (.d (.int .i64 p864))) 16 (.d (.int .i64 p863))) 7 (.r (.ptr 64 0 0))) 4 (.d (.int .i64 a5))) 3 (.d (.int .i64 a4))), (up (up (up (up (hB fun _ => 0) 624 ⟨0, some (.own 24 3 (e_GGrid.cells p871))⟩) 568 ⟨0, some (.own 33 4 (e_GCell.cells p869))⟩) 192 ⟨0, some (.box ((.d (.int .i64 p867)) :: ((.d (.int .i64 p868)) :: ((.r (.msl 568 0 0 p869.length)) :: []))))⟩) 64 ⟨0, some (.box ((.d (.int .i64 a1.Wide)) :: ((.d (.int .i64 a1.High)) :: ((.d (.sl a1.Cells.length (e_GCell.cells a1.Cells))) :: []))))⟩)⟩
noncomputable def f7_l1_j2 (a1 : GGrid) (a2 : Int) (a3 : Int) (a4 : Int) (a5 : Int) (a6 : Int) (a7 : GPen) (p863 : Int) (p864 : Int) (p865 : Int) (p866 : Int) (p867 : Int) (p868 : Int) (p869 : List GCell) (p870 : Int) (p871 : List GGrid) (p872 : Int) (p873 : Int) (p874 : Bool) : Option ((Int × Int × Int × Int × Int × Int × (List GCell) × Int × (List GGrid) × Int × Int) ⊕ ((Int × Int × (List GCell) × Int) ⊕ Bool)) := (bif p874 then (f7_l1_j3 a1 a2 a3 a4 a5 a6 a7 p863 p864 p865 p866 p867 p868 p869 p870 p871 p872 p873) else (some (.inr (.inl (p867, p868, p869, p870)))))
theorem f7_l1_j2_ok {base : Orc} {d : Nat} (hd : 9 ≤ d) (a1 : GGrid) (a2 : Int) (a3 : Int) (a4 : Int) (a5 : Int) (a6 : Int) (a7 : GPen) {r : (Int × Int × Int × Int × Int × Int × (List GCell) × Int × (List GGrid) × Int × Int) ⊕ ((Int × Int × (List GCell) × Int) ⊕ Bool)} {Q : PX → St → Prop} (hQ : ∀ e st', finL (f7_l1_H a1 a2 a3 a4 a5 a6 a7) (f7_l1_X a1 a2 a3 a4 a5 a6 a7) r e st' → Q e st') (p863 : Int) (p864 : Int) (p865 : Int) (p866 : Int) (p867 : Int) (p868 : Int) (p869 : List GCell) (p870 : Int) (p871 : List GGrid) (p872 : Int) (p873 : Int) (p874 : Bool) (hS : f7_l1_j2 a1 a2 a3 a4 a5 a6 a7 p863 p864 p865 p866 p867 p868 p869 p870 p871 p872 p873 p874 = some r) {st : St} (he : keepSt [3, 4, 7, 16, 18, 20, 22, 23, 24, 77, 78, 79, 80] [(64, .id 64), (192, .id 192), (568, .id 568), (624, .id 624)] [] st = f7_l1_j2_J a1 a2 a3 a4 a5 a6 a7 p863 p864 p865 p866 p867 p868 p869 p870 p871 p872 p873 p874) : ZR (lev codes base (d - 1)) Q c7_5 [] st := by
  refine zrKeep he ?_
  unfold f7_l1_j2 at hS
  refine zrSeq ?_
  refine zrSplit 80 p874 (by kernel_rfl) (fun hc => ?_) (fun hc => ?_)
  · replace hS := cond_t hc hS
    refine zrCondT (by kernel_rfl) ?_
    refine zrSkip ?_
    refine zkSeq ?_
    exact f7_l1_j3_ok hd a1 a2 a3 a4 a5 a6 a7 hQ p863 p864 p865 p866 p867 p868 p869 p870 p871 p872 p873 hS (by kernel_rfl)
  · replace hS := cond_f hc hS
    refine zrCondF (by kernel_rfl) ?_
    refine zrKeep (J := f7_l1_e0_J a1 a2 a3 a4 a5 a6 a7 p867 p868 p869 p870) (by kernel_rfl) ?_
    refine zrExit ?_
    refine zkSeqX ?_
    refine zkNil ?_
    exact endQ hS hQ (finL_x (by intro h; cases h) (by show _ = _ ∧ _ = _; exact ⟨rfl, rfl⟩))
noncomputable def f7_l1 (a1 : GGrid) (a2 : Int) (a3 : Int) (a4 : Int) (a5 : Int) (a6 : Int) (a7 : GPen) (x : Int × Int × Int × Int × Int × Int × (List GCell) × Int × (List GGrid) × Int × Int) : Option ((Int × Int × Int × Int × Int × Int × (List GCell) × Int × (List GGrid) × Int × Int) ⊕ ((Int × Int × (List GCell) × Int) ⊕ Bool)) := (bif (decide (x.2.2.2.2.2.2.2.2.2.2 < x.2.2.2.2.2.2.2.2.2.1)) then (f7_l1_j2 a1 a2 a3 a4 a5 a6 a7 x.1 x.2.1 x.2.2.1 x.2.2.2.1 x.2.2.2.2.1 x.2.2.2.2.2.1 x.2.2.2.2.2.2.1 x.2.2.2.2.2.2.2.1 x.2.2.2.2.2.2.2.2.1 x.2.2.2.2.2.2.2.2.2.1 x.2.2.2.2.2.2.2.2.2.2 true) else (f7_l1_j2 a1 a2 a3 a4 a5 a6 a7 x.1 x.2.1 x.2.2.1 x.2.2.2.1 x.2.2.2.2.1 x.2.2.2.2.2.1 x.2.2.2.2.2.2.1 x.2.2.2.2.2.2.2.1 x.2.2.2.2.2.2.2.2.1 x.2.2.2.2.2.2.2.2.2.1 x.2.2.2.2.2.2.2.2.2.2 false))
theorem f7_l1_ok {base : Orc} {d : Nat} (hd : 9 ≤ d) (a1 : GGrid) (a2 : Int) (a3 : Int) (a4 : Int) (a5 : Int) (a6 : Int) (a7 : GPen) {r : (Int × Int × Int × Int × Int × Int × (List GCell) × Int × (List GGrid) × Int × Int) ⊕ ((Int × Int × (List GCell) × Int) ⊕ Bool)} {Q : PX → St → Prop} (hQ : ∀ e st', finL (f7_l1_H a1 a2 a3 a4 a5 a6 a7) (f7_l1_X a1 a2 a3 a4 a5 a6 a7) r e st' → Q e st') {x : Int × Int × Int × Int × Int × Int × (List GCell) × Int × (List GGrid) × Int × Int} (hS : f7_l1 a1 a2 a3 a4 a5 a6 a7 x = some r) {st : St} (he : f7_l1_H a1 a2 a3 a4 a5 a6 a7 x st) : ZR (lev codes base (d - 1)) Q c7_6 [] st := by
  refine zrKeep he ?_
  unfold f7_l1 at hS
  refine zrSeq ?_
  refine zrReg ?_
  refine zlBool (d := 80) (op := (.cmpI .lss (.tmp 79) (.tmp 78))) (g := none) (j := 1) (decide (x.2.2.2.2.2.2.2.2.2.2 < x.2.2.2.2.2.2.2.2.2.1)) rfl (by kernel_rfl) (by kernel_rfl) (by kernel_rfl) (fun hc => ?_) (fun hc => ?_)
  · replace hS := cond_t hc hS
    refine zlEnd (by kernel_rfl) ?_
    refine zkSeq ?_
    exact f7_l1_j2_ok hd a1 a2 a3 a4 a5 a6 a7 hQ x.1 x.2.1 x.2.2.1 x.2.2.2.1 x.2.2.2.2.1 x.2.2.2.2.2.1 x.2.2.2.2.2.2.1 x.2.2.2.2.2.2.2.1 x.2.2.2.2.2.2.2.2.1 x.2.2.2.2.2.2.2.2.2.1 x.2.2.2.2.2.2.2.2.2.2 true hS (by kernel_rfl)
  · replace hS := cond_f hc hS
    refine zlEnd (by kernel_rfl) ?_
    refine zkSeq ?_
    exact f7_l1_j2_ok hd a1 a2 a3 a4 a5 a6 a7 hQ x.1 x.2.1 x.2.2.1 x.2.2.2.1 x.2.2.2.2.1 x.2.2.2.2.2.1 x.2.2.2.2.2.2.1 x.2.2.2.2.2.2.2.1 x.2.2.2.2.2.2.2.2.1 x.2.2.2.2.2.2.2.2.2.1 x.2.2.2.2.2.2.2.2.2.2 false hS (by kernel_rfl)
noncomputable def f7 (a1 : GGrid) (a2 : Int) (a3 : Int) (a4 : Int) (a5 : Int) (a6 : Int) (a7 : GPen) : Option (Bool) := ((f9 a1 a2 a3 a6 a7).bind fun z20 => ((f14 a1 a2 a3 a4 a7).bind fun z21 => ((f19 a1 a2 a3 a4 a5 a7).bind fun z22 => ((f22 a1 a3 a4 a5 a7).bind fun z23 => ((f24 a1 a4 a5 a7).bind fun z24 => ((loopO (f7_l1 a1 a2 a3 a4 a5 a6 a7) (z20.2.2.2, z21.2.2.2, z22.2.2.2, z23.2.2.2, z24.1, z24.2.1, z24.2.2.1, z24.2.2.2, [(GGrid.mk z20.1 z20.2.1 z20.2.2.1), (GGrid.mk z21.1 z21.2.1 z21.2.2.1), (GGrid.mk z22.1 z22.2.1 z22.2.2.1), (GGrid.mk z23.1 z23.2.1 z23.2.2.1)], ((([(GGrid.mk z20.1 z20.2.1 z20.2.2.1), (GGrid.mk z21.1 z21.2.1 z21.2.2.1), (GGrid.mk z22.1 z22.2.1 z22.2.2.1), (GGrid.mk z23.1 z23.2.1 z23.2.2.1)] : List GGrid).length) : Int), 0)).bind fun z44 => (Sum.elim (fun z45 => (f7_j0 a1 a2 a3 a4 a5 a6 a7 z45.1 z45.2.1 z45.2.2.1 z45.2.2.2)) (fun z46 => (some z46)) z44)))))))
theorem f7_ok (base : Orc) (d : Nat) (hd : 9 ≤ d) (a1 : GGrid) (a2 : Int) (a3 : Int) (a4 : Int) (a5 : Int) (a6 : Int) (a7 : GPen) (r : Bool) (hS : f7 a1 a2 a3 a4 a5 a6 a7 = some r) : lev codes base d 7 [(.agg ((.d (.int .i64 a1.Wide)) :: ((.d (.int .i64 a1.High)) :: ((.d (.sl a1.Cells.length (e_GCell.cells a1.Cells))) :: [])))), (.d (.int .i64 a2)), (.d (.int .i64 a3)), (.d (.int .i64 a4)), (.d (.int .i64 a5)), (.d (.int .i64 a6)), (.agg ((.d (.int .i64 a7.Flags)) :: ((.d (.int .i64 a7.Fore)) :: ((.d (.int .i64 a7.Back)) :: []))))] [] = some ((.d (.bool r)), []) := by
  refine lev_go codes7 rfl rfl (Nat.le_trans (Nat.le_of_ble_eq_true rfl) hd) fun Q hQ => ?_
  unfold f7 at hS
  show ZR _ Q c7_b [] _
  replace hQ : ∀ e st', f7_Q r e st' → Q e st' := hQ
  refine zrSeq ?_
  refine zrReg ?_
  refine zlRun (n := 3) (j := 3) rfl (by kernel_rfl) ?_
  refine zlEnd (by kernel_rfl) ?_
  refine zkSeq ?_
  refine zrSeq ?_
  refine zrReg ?_
  refine zlRun (n := 5) (j := 5) rfl (by kernel_rfl) ?_
  refine bindE hS (fun z20 hz20 hS => ?_)
  refine zlOp (d := some 34) (op := (.callf 9 [(.tmp 29), (.tmp 30), (.tmp 31), (.tmp 32), (.tmp 33)])) (g := none) (v := (.tup [(.agg ((.d (.int .i64 z20.1)) :: ((.d (.int .i64 z20.2.1)) :: ((.r (.msl 280 1 0 z20.2.2.1.length)) :: [])))), (.d (.int .i64 z20.2.2.2))])) (ups := [(280, ⟨1, some (.own 33 4 (e_GCell.cells z20.2.2.1))⟩)]) (j := 6) rfl (by kernel_rfl) (by kernel_rfl) (ev_callF (args := [(.agg ((.d (.int .i64 a1.Wide)) :: ((.d (.int .i64 a1.High)) :: ((.d (.sl a1.Cells.length (e_GCell.cells a1.Cells))) :: [])))), (.d (.int .i64 a2)), (.d (.int .i64 a3)), (.d (.int .i64 a6)), (.agg ((.d (.int .i64 a7.Flags)) :: ((.d (.int .i64 a7.Fore)) :: ((.d (.int .i64 a7.Back)) :: []))))]) (args' := [(.agg ((.d (.int .i64 a1.Wide)) :: ((.d (.int .i64 a1.High)) :: ((.d (.sl a1.Cells.length (e_GCell.cells a1.Cells))) :: [])))), (.d (.int .i64 a2)), (.d (.int .i64 a3)), (.d (.int .i64 a6)), (.agg ((.d (.int .i64 a7.Flags)) :: ((.d (.int .i64 a7.Fore)) :: ((.d (.int .i64 a7.Back)) :: []))))]) (l := [(.agg ((.d (.int .i64 a1.Wide)) :: ((.d (.int .i64 a1.High)) :: ((.d (.sl a1.Cells.length (e_GCell.cells a1.Cells))) :: [])))), (.d (.int .i64 a2)), (.d (.int .i64 a3)), (.d (.int .i64 a6)), (.agg ((.d (.int .i64 a7.Flags)) :: ((.d (.int .i64 a7.Fore)) :: ((.d (.int .i64 a7.Back)) :: []))))]) (refs := []) (r := (.tup [(.agg ((.d (.int .i64 z20.1)) :: ((.d (.int .i64 z20.2.1)) :: ((.r (.own 0 33 4 z20.2.2.1.length (e_GCell.cells z20.2.2.1))) :: [])))), (.d (.int .i64 z20.2.2.2))])) (v := (.tup [(.agg ((.d (.int .i64 z20.1)) :: ((.d (.int .i64 z20.2.1)) :: ((.r (.msl 280 1 0 z20.2.2.1.length)) :: [])))), (.d (.int .i64 z20.2.2.2))])) (ups' := [(280, ⟨1, some (.own 33 4 (e_GCell.cells z20.2.2.1))⟩)]) (by kernel_rfl) (by kernel_rfl) (by kernel_rfl) (fz_cons rfl (fz_cons rfl (fz_cons rfl (fz_cons rfl (fz_cons rfl fz_nil))))) (by kernel_rfl) (f9_ok base (d - 1) (dpt hd rfl) a1 a2 a3 a6 a7 z20 hz20) (by kernel_rfl) (by kernel_rfl) (by kernel_rfl) (by kernel_rfl)) ?_
  refine zlRun (n := 6) (j := 12) rfl (by kernel_rfl) ?_
  refine zlEnd (by kernel_rfl) ?_
  refine zkSeq ?_
  refine zrSeq ?_
  refine zrReg ?_
  refine zlRun (n := 5) (j := 5) rfl (by kernel_rfl) ?_
  refine bindE hS (fun z21 hz21 hS => ?_)
  refine zlOp (d := some 43) (op := (.callf 14 [(.tmp 38), (.tmp 39), (.tmp 40), (.tmp 41), (.tmp 42)])) (g := none) (v := (.tup [(.agg ((.d (.int .i64 z21.1)) :: ((.d (.int .i64 z21.2.1)) :: ((.r (.msl 352 1 0 z21.2.2.1.length)) :: [])))), (.d (.int .i64 z21.2.2.2))])) (ups := [(352, ⟨1, some (.own 33 4 (e_GCell.cells z21.2.2.1))⟩)]) (j := 6) rfl (by kernel_rfl) (by kernel_rfl) (ev_callF (args := [(.agg ((.d (.int .i64 a1.Wide)) :: ((.d (.int .i64 a1.High)) :: ((.d (.sl a1.Cells.length (e_GCell.cells a1.Cells))) :: [])))), (.d (.int .i64 a2)), (.d (.int .i64 a3)), (.d (.int .i64 a4)), (.agg ((.d (.int .i64 a7.Flags)) :: ((.d (.int .i64 a7.Fore)) :: ((.d (.int .i64 a7.Back)) :: []))))]) (args' := [(.agg ((.d (.int .i64 a1.Wide)) :: ((.d (.int .i64 a1.High)) :: ((.d (.sl a1.Cells.length (e_GCell.cells a1.Cells))) :: [])))), (.d (.int .i64 a2)), (.d (.int .i64 a3)), (.d (.int .i64 a4)), (.agg ((.d (.int .i64 a7.Flags)) :: ((.d (.int .i64 a7.Fore)) :: ((.d (.int .i64 a7.Back)) :: []))))]) (l := [(.agg ((.d (.int .i64 a1.Wide)) :: ((.d (.int .i64 a1.High)) :: ((.d (.sl a1.Cells.length (e_GCell.cells a1.Cells))) :: [])))), (.d (.int .i64 a2)), (.d (.int .i64 a3)), (.d (.int .i64 a4)), (.agg ((.d (.int .i64 a7.Flags)) :: ((.d (.int .i64 a7.Fore)) :: ((.d (.int .i64 a7.Back)) :: []))))]) (refs := []) (r := (.tup [(.agg ((.d (.int .i64 z21.1)) :: ((.d (.int .i64 z21.2.1)) :: ((.r (.own 0 33 4 z21.2.2.1.length (e_GCell.cells z21.2.2.1))) :: [])))), (.d (.int .i64 z21.2.2.2))])) (v := (.tup [(.agg ((.d (.int .i64 z21.1)) :: ((.d (.int .i64 z21.2.1)) :: ((.r (.msl 352 1 0 z21.2.2.1.length)) :: [])))), (.d (.int .i64 z21.2.2.2))])) (ups' := [(352, ⟨1, some (.own 33 4 (e_GCell.cells z21.2.2.1))⟩)]) (by kernel_rfl) (by kernel_rfl) (by kernel_rfl) (fz_cons rfl (fz_cons rfl (fz_cons rfl (fz_cons rfl (fz_cons rfl fz_nil))))) (by kernel_rfl) (f14_ok base (d - 1) (dpt hd rfl) a1 a2 a3 a4 a7 z21 hz21) (by kernel_rfl) (by kernel_rfl) (by kernel_rfl) (by kernel_rfl)) ?_
  refine zlRun (n := 6) (j := 12) rfl (by kernel_rfl) ?_
  refine zlEnd (by kernel_rfl) ?_
  refine zkSeq ?_
  refine zrSeq ?_
  refine zrReg ?_
  refine zlRun (n := 6) (j := 6) rfl (by kernel_rfl) ?_
  refine bindE hS (fun z22 hz22 hS => ?_)
  refine zlOp (d := some 53) (op := (.callf 19 [(.tmp 47), (.tmp 48), (.tmp 49), (.tmp 50), (.tmp 51), (.tmp 52)])) (g := none) (v := (.tup [(.agg ((.d (.int .i64 z22.1)) :: ((.d (.int .i64 z22.2.1)) :: ((.r (.msl 432 1 0 z22.2.2.1.length)) :: [])))), (.d (.int .i64 z22.2.2.2))])) (ups := [(432, ⟨1, some (.own 33 4 (e_GCell.cells z22.2.2.1))⟩)]) (j := 7) rfl (by kernel_rfl) (by kernel_rfl) (ev_callF (args := [(.agg ((.d (.int .i64 a1.Wide)) :: ((.d (.int .i64 a1.High)) :: ((.d (.sl a1.Cells.length (e_GCell.cells a1.Cells))) :: [])))), (.d (.int .i64 a2)), (.d (.int .i64 a3)), (.d (.int .i64 a4)), (.d (.int .i64 a5)), (.agg ((.d (.int .i64 a7.Flags)) :: ((.d (.int .i64 a7.Fore)) :: ((.d (.int .i64 a7.Back)) :: []))))]) (args' := [(.agg ((.d (.int .i64 a1.Wide)) :: ((.d (.int .i64 a1.High)) :: ((.d (.sl a1.Cells.length (e_GCell.cells a1.Cells))) :: [])))), (.d (.int .i64 a2)), (.d (.int .i64 a3)), (.d (.int .i64 a4)), (.d (.int .i64 a5)), (.agg ((.d (.int .i64 a7.Flags)) :: ((.d (.int .i64 a7.Fore)) :: ((.d (.int .i64 a7.Back)) :: []))))]) (l := [(.agg ((.d (.int .i64 a1.Wide)) :: ((.d (.int .i64 a1.High)) :: ((.d (.sl a1.Cells.length (e_GCell.cells a1.Cells))) :: [])))), (.d (.int .i64 a2)), (.d (.int .i64 a3)), (.d (.int .i64 a4)), (.d (.int .i64 a5)), (.agg ((.d (.int .i64 a7.Flags)) :: ((.d (.int .i64 a7.Fore)) :: ((.d (.int .i64 a7.Back)) :: []))))]) (refs := []) (r := (.tup [(.agg ((.d (.int .i64 z22.1)) :: ((.d (.int .i64 z22.2.1)) :: ((.r (.own 0 33 4 z22.2.2.1.length (e_GCell.cells z22.2.2.1))) :: [])))), (.d (.int .i64 z22.2.2.2))])) (v := (.tup [(.agg ((.d (.int .i64 z22.1)) :: ((.d (.int .i64 z22.2.1)) :: ((.r (.msl 432 1 0 z22.2.2.1.length)) :: [])))), (.d (.int .i64 z22.2.2.2))])) (ups' := [(432, ⟨1, some (.own 33 4 (e_GCell.cells z22.2.2.1))⟩)]) (by kernel_rfl) (by kernel_rfl) (by kernel_rfl) (fz_cons rfl (fz_cons rfl (fz_cons rfl (fz_cons rfl (fz_cons rfl (fz_cons rfl fz_nil)))))) (by kernel_rfl) (f19_ok base (d - 1) (dpt hd rfl) a1 a2 a3 a4 a5 a7 z22 hz22) (by kernel_rfl) (by kernel_rfl) (by kernel_rfl) (by kernel_rfl)) ?_
  refine zlRun (n := 6) (j := 13) rfl (by kernel_rfl) ?_
  refine zlEnd (by kernel_rfl) ?_
  refine zkSeq ?_
  refine zrSeq ?_
  refine zrReg ?_
  refine zlRun (n := 5) (j := 5) rfl (by kernel_rfl) ?_
  refine bindE hS (fun z23 hz23 hS => ?_)
  refine zlOp (d := some 62) (op := (.callf 22 [(.tmp 57), (.tmp 58), (.tmp 59), (.tmp 60), (.tmp 61)])) (g := none) (v := (.tup [(.agg ((.d (.int .i64 z23.1)) :: ((.d (.int .i64 z23.2.1)) :: ((.r (.msl 504 1 0 z23.2.2.1.length)) :: [])))), (.d (.int .i64 z23.2.2.2))])) (ups := [(504, ⟨1, some (.own 33 4 (e_GCell.cells z23.2.2.1))⟩)]) (j := 6) rfl (by kernel_rfl) (by kernel_rfl) (ev_callF (args := [(.agg ((.d (.int .i64 a1.Wide)) :: ((.d (.int .i64 a1.High)) :: ((.d (.sl a1.Cells.length (e_GCell.cells a1.Cells))) :: [])))), (.d (.int .i64 a3)), (.d (.int .i64 a4)), (.d (.int .i64 a5)), (.agg ((.d (.int .i64 a7.Flags)) :: ((.d (.int .i64 a7.Fore)) :: ((.d (.int .i64 a7.Back)) :: []))))]) (args' := [(.agg ((.d (.int .i64 a1.Wide)) :: ((.d (.int .i64 a1.High)) :: ((.d (.sl a1.Cells.length (e_GCell.cells a1.Cells))) :: [])))), (.d (.int .i64 a3)), (.d (.int .i64 a4)), (.d (.int .i64 a5)), (.agg ((.d (.int .i64 a7.Flags)) :: ((.d (.int .i64 a7.Fore)) :: ((.d (.int .i64 a7.Back)) :: []))))]) (l := [(.agg ((.d (.int .i64 a1.Wide)) :: ((.d (.int .i64 a1.High)) :: ((.d (.sl a1.Cells.length (e_GCell.cells a1.Cells))) :: [])))), (.d (.int .i64 a3)), (.d (.int .i64 a4)), (.d (.int .i64 a5)), (.agg ((.d (.int .i64 a7.Flags)) :: ((.d (.int .i64 a7.Fore)) :: ((.d (.int .i64 a7.Back)) :: []))))]) (refs := []) (r := (.tup [(.agg ((.d (.int .i64 z23.1)) :: ((.d (.int .i64 z23.2.1)) :: ((.r (.own 0 33 4 z23.2.2.1.length (e_GCell.cells z23.2.2.1))) :: [])))), (.d (.int .i64 z23.2.2.2))])) (v := (.tup [(.agg ((.d (.int .i64 z23.1)) :: ((.d (.int .i64 z23.2.1)) :: ((.r (.msl 504 1 0 z23.2.2.1.length)) :: [])))), (.d (.int .i64 z23.2.2.2))])) (ups' := [(504, ⟨1, some (.own 33 4 (e_GCell.cells z23.2.2.1))⟩)]) (by kernel_rfl) (by kernel_rfl) (by kernel_rfl) (fz_cons rfl (fz_cons rfl (fz_cons rfl (fz_cons rfl (fz_cons rfl fz_nil))))) (by kernel_rfl) (f22_ok base (d - 1) (dpt hd rfl) a1 a3 a4 a5 a7 z23 hz23) (by kernel_rfl) (by kernel_rfl) (by kernel_rfl) (by kernel_rfl)) ?_
  refine zlRun (n := 6) (j := 12) rfl (by kernel_rfl) ?_
  refine zlEnd (by kernel_rfl) ?_
  refine zkSeq ?_
  refine zrSeq ?_
  refine zrReg ?_
  refine zlRun (n := 4) (j := 4) rfl (by kernel_rfl) ?_
  refine bindE hS (fun z24 hz24 hS => ?_)
  refine zlOp (d := some 70) (op := (.callf 24 [(.tmp 66), (.tmp 67), (.tmp 68), (.tmp 69)])) (g := none) (v := (.tup [(.agg ((.d (.int .i64 z24.1)) :: ((.d (.int .i64 z24.2.1)) :: ((.r (.msl 568 1 0 z24.2.2.1.length)) :: [])))), (.d (.int .i64 z24.2.2.2))])) (ups := [(568, ⟨1, some (.own 33 4 (e_GCell.cells z24.2.2.1))⟩)]) (j := 5) rfl (by kernel_rfl) (by kernel_rfl) (ev_callF (args := [(.agg ((.d (.int .i64 a1.Wide)) :: ((.d (.int .i64 a1.High)) :: ((.d (.sl a1.Cells.length (e_GCell.cells a1.Cells))) :: [])))), (.d (.int .i64 a4)), (.d (.int .i64 a5)), (.agg ((.d (.int .i64 a7.Flags)) :: ((.d (.int .i64 a7.Fore)) :: ((.d (.int .i64 a7.Back)) :: []))))]) (args' := [(.agg ((.d (.int .i64 a1.Wide)) :: ((.d (.int .i64 a1.High)) :: ((.d (.sl a1.Cells.length (e_GCell.cells a1.Cells))) :: [])))), (.d (.int .i64 a4)), (.d (.int .i64 a5)), (.agg ((.d (.int .i64 a7.Flags)) :: ((.d (.int .i64 a7.Fore)) :: ((.d (.int .i64 a7.Back)) :: []))))]) (l := [(.agg ((.d (.int .i64 a1.Wide)) :: ((.d (.int .i64 a1.High)) :: ((.d (.sl a1.Cells.length (e_GCell.cells a1.Cells))) :: [])))), (.d (.int .i64 a4)), (.d (.int .i64 a5)), (.agg ((.d (.int .i64 a7.Flags)) :: ((.d (.int .i64 a7.Fore)) :: ((.d (.int .i64 a7.Back)) :: []))))]) (refs := []) (r := (.tup [(.agg ((.d (.int .i64 z24.1)) :: ((.d (.int .i64 z24.2.1)) :: ((.r (.own 0 33 4 z24.2.2.1.length (e_GCell.cells z24.2.2.1))) :: [])))), (.d (.int .i64 z24.2.2.2))])) (v := (.tup [(.agg ((.d (.int .i64 z24.1)) :: ((.d (.int .i64 z24.2.1)) :: ((.r (.msl 568 1 0 z24.2.2.1.length)) :: [])))), (.d (.int .i64 z24.2.2.2))])) (ups' := [(568, ⟨1, some (.own 33 4 (e_GCell.cells z24.2.2.1))⟩)]) (by kernel_rfl) (by kernel_rfl) (by kernel_rfl) (fz_cons rfl (fz_cons rfl (fz_cons rfl (fz_cons rfl fz_nil)))) (by kernel_rfl) (f24_ok base (d - 1) (dpt hd rfl) a1 a4 a5 a7 z24 hz24) (by kernel_rfl) (by kernel_rfl) (by kernel_rfl) (by kernel_rfl)) ?_
  refine zlRun (n := 6) (j := 11) rfl (by kernel_rfl) ?_
  refine zlEnd (by kernel_rfl) ?_
  refine zkSeq ?_
  refine zrSeq ?_
  refine zrSeq ?_
  refine zrReg ?_
  refine zlRun (n := 4) (j := 4) rfl (by kernel_rfl) ?_
  refine zlOp (d := some 77) (op := (.bsl 24 3 4 [(2, (.int .i64 0)), (1, (.slice .none 0 0)), (2, (.int .i64 0)), (1, (.slice .none 0 0)), (2, (.int .i64 0)), (1, (.slice .none 0 0)), (2, (.int .i64 0)), (1, (.slice .none 0 0))] [(0, (3, (.tmp 73))), (3, (3, (.tmp 74))), (6, (3, (.tmp 75))), (9, (3, (.tmp 76)))])) (g := none) (v := (.r (.msl 624 1 0 (([(GGrid.mk z20.1 z20.2.1 z20.2.2.1), (GGrid.mk z21.1 z21.2.1 z21.2.2.1), (GGrid.mk z22.1 z22.2.1 z22.2.2.1), (GGrid.mk z23.1 z23.2.1 z23.2.2.1)] : List GGrid).length)))) (ups := [(280, ⟨2, none⟩), (352, ⟨2, none⟩), (432, ⟨2, none⟩), (504, ⟨2, none⟩), (624, ⟨1, some (.own 24 3 (e_GGrid.cells ([(GGrid.mk z20.1 z20.2.1 z20.2.2.1), (GGrid.mk z21.1 z21.2.1 z21.2.2.1), (GGrid.mk z22.1 z22.2.1 z22.2.2.1), (GGrid.mk z23.1 z23.2.1 z23.2.2.1)])))⟩)]) (j := 5) rfl (by kernel_rfl) (by kernel_rfl) ((by kernel_rfl : peval _ _ 77 (ρof _) (.bsl 24 3 4 [(2, (.int .i64 0)), (1, (.slice .none 0 0)), (2, (.int .i64 0)), (1, (.slice .none 0 0)), (2, (.int .i64 0)), (1, (.slice .none 0 0)), (2, (.int .i64 0)), (1, (.slice .none 0 0))] [(0, (3, (.tmp 73))), (3, (3, (.tmp 74))), (6, (3, (.tmp 75))), (9, (3, (.tmp 76)))]) = some ((.r (.msl 624 1 0 (([(GGrid.mk z20.1 z20.2.1 z20.2.2.1), (GGrid.mk z21.1 z21.2.1 z21.2.2.1), (GGrid.mk z22.1 z22.2.1 z22.2.2.1), (GGrid.mk z23.1 z23.2.1 z23.2.2.1)] : List GGrid).length))), [(280, ⟨2, none⟩), (352, ⟨2, none⟩), (432, ⟨2, none⟩), (504, ⟨2, none⟩), (624, ⟨1, some (.own 24 3 [.int .i64 z20.1, .int .i64 z20.2.1, .sl z20.2.2.1.length (((e_GCell.cells z20.2.2.1).drop (0 * e_GCell.k)).take (z20.2.2.1.length * e_GCell.k)), .int .i64 z21.1, .int .i64 z21.2.1, .sl z21.2.2.1.length (((e_GCell.cells z21.2.2.1).drop (0 * e_GCell.k)).take (z21.2.2.1.length * e_GCell.k)), .int .i64 z22.1, .int .i64 z22.2.1, .sl z22.2.2.1.length (((e_GCell.cells z22.2.2.1).drop (0 * e_GCell.k)).take (z22.2.2.1.length * e_GCell.k)), .int .i64 z23.1, .int .i64 z23.2.1, .sl z23.2.2.1.length (((e_GCell.cells z23.2.2.1).drop (0 * e_GCell.k)).take (z23.2.2.1.length * e_GCell.k))])⟩)])).trans (by simp only [Enc.frz]; rfl)) ?_
  refine zlRun (n := 2) (j := 7) rfl (by kernel_rfl) ?_
  refine zlEnd (by kernel_rfl) ?_
  refine zkSeq ?_
  refine zrBlk ?_
  refine bindE hS (fun z44 hz44 hS => ?_)
  refine zrLoop (f7_l1_H a1 a2 a3 a4 a5 a6 a7) (f7_l1_X a1 a2 a3 a4 a5 a6 a7) (fun x st r Q h0 hS hQ => f7_l1_ok hd a1 a2 a3 a4 a5 a6 a7 hQ hS h0) (x := (z20.2.2.2, z21.2.2.2, z22.2.2.2, z23.2.2.2, z24.1, z24.2.1, z24.2.2.1, z24.2.2.2, [(GGrid.mk z20.1 z20.2.1 z20.2.2.1), (GGrid.mk z21.1 z21.2.1 z21.2.2.1), (GGrid.mk z22.1 z22.2.1 z22.2.2.1), (GGrid.mk z23.1 z23.2.1 z23.2.2.1)], ((([(GGrid.mk z20.1 z20.2.1 z20.2.2.1), (GGrid.mk z21.1 z21.2.1 z21.2.2.1), (GGrid.mk z22.1 z22.2.1 z22.2.2.1), (GGrid.mk z23.1 z23.2.1 z23.2.2.1)] : List GGrid).length) : Int), 0)) (z := z44) (by show keepSt _ _ _ _ = _; kernel_rfl) hz44 ?_
  rcases z44 with z45 | z46
  · replace hS := (show _ = _ from hS)
    simp only [Sum.elim_inl] at hS
    intro e st' _ hX
    obtain ⟨rfl, rfl⟩ : _ ∧ _ := hX
    refine zkBlkX ?_
    refine zkSeq ?_
    exact f7_j0_ok hd a1 a2 a3 a4 a5 a6 a7 hQ z45.1 z45.2.1 z45.2.2.1 z45.2.2.2 hS (by kernel_rfl)
  · simp only [Sum.elim_inr] at hS
    intro e st' _ hX
    obtain ⟨rfl, hX⟩ : _ ∧ _ := hX
    refine zkBlkR ?_
    refine zkSeqR ?_
    refine zkNil ?_
    exact endQ hS hQ (fRet (by kernel_rfl) ((congrArg (fun s => outR s 0 c7.res) hX).trans (f7_out z46)))
end Go.Proofs.Ytipipahbfakcaaa.Pm
