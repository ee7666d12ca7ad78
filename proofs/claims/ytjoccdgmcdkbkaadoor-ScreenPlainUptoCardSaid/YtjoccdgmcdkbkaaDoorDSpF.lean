/- Typed functions, and that the codes are these. Printed by dec.py. -/
import Derived.Test.YtjoccdgmcdkbkaaDoorDSpE
namespace Go.Proofs.YtjoccdgmcdkbkaaDoor.Pm
set_option maxRecDepth 1000000
set_option maxHeartbeats 20000000
set_option linter.unusedVariables false
/- (*farwriter/screen.terminal).print -/
def f27_fin (p26 : Gterminal) : St := ⟨(up (up (up (fun _ => .un) 1000003 .un) 1000002 .un) 1000001 .un), (up (up (up (up (hB fun _ => 0) 3 ⟨1, some (.own 73 1 (e_GLine.cells p26.Screen.Past))⟩) 2 ⟨1, some (.own 46 4 (e_GCell.cells p26.Screen.Other.Cells))⟩) 1 ⟨1, some (.own 46 4 (e_GCell.cells p26.Screen.Grid.Cells))⟩) 0 ⟨0, some (.box (bx_Gterminal p26 (.r (.msl 1 1 0 p26.Screen.Grid.Cells.length)) (.r (.msl 2 1 0 p26.Screen.Other.Cells.length)) (.r (.msl 3 1 0 p26.Screen.Past.length))))⟩)⟩
theorem f27_out (p26 : Gterminal) : outR (f27_fin p26) 4 c27.res = some ((.tup []), [(.box (bx_Gterminal p26 (.r (.msl 1 0 0 p26.Screen.Grid.Cells.length)) (.r (.msl 2 0 0 p26.Screen.Other.Cells.length)) (.r (.msl 3 0 0 p26.Screen.Past.length)))), (.own 46 4 (e_GCell.cells p26.Screen.Grid.Cells)), (.own 46 4 (e_GCell.cells p26.Screen.Other.Cells)), (.own 73 1 (e_GLine.cells p26.Screen.Past))]) := by
  kernel_rfl
def f27_Q (r : Gterminal) (e : PX) (st : St) : Prop := DoneF c27 4 ((.tup []), [(.box (bx_Gterminal r (.r (.msl 1 0 0 r.Screen.Grid.Cells.length)) (.r (.msl 2 0 0 r.Screen.Other.Cells.length)) (.r (.msl 3 0 0 r.Screen.Past.length)))), (.own 46 4 (e_GCell.cells r.Screen.Grid.Cells)), (.own 46 4 (e_GCell.cells r.Screen.Other.Cells)), (.own 73 1 (e_GLine.cells r.Screen.Past))]) e st
def f27_j4_J (a1 : Int) (a2 : Gterminal) (p59 : Gterminal) (p60 : Int) (p61 : Int) : St := ⟨(up (up (up (up (up (up (up (fun _ => .un) 1000003 .un) 1000002 .un) 1000001 .un) 5 (.d (.int .i64 (IntKind.i64.wrap (a2.Screen.Grid.Wide - 1))))) 4 (.d (.int .i64 p61))) 1 (.d (.int .i64 p60))) 0 (.r (.ptr 0 0 0))), (up (up (up (up (hB fun _ => 0) 3 ⟨1, some (.own 73 1 (e_GLine.cells p59.Screen.Past))⟩) 2 ⟨1, some (.own 46 4 (e_GCell.cells p59.Screen.Other.Cells))⟩) 1 ⟨1, some (.own 46 4 (e_GCell.cells p59.Screen.Grid.Cells))⟩) 0 ⟨0, some (.box (bx_Gterminal p59 (.r (.msl 1 1 0 p59.Screen.Grid.Cells.length)) (.r (.msl 2 1 0 p59.Screen.Other.Cells.length)) (.r (.msl 3 1 0 p59.Screen.Past.length))))⟩)⟩
noncomputable def f27_j4 (a1 : Int) (a2 : Gterminal) (p59 : Gterminal) (p60 : Int) (p61 : Int) : Option (Gterminal) := ((f46 p59.Screen.Grid.Wide p59.Screen.Grid.High p59.Screen.Row p59.Screen.Col p60 p59.Screen.Pen p59.Screen.Grid.Cells).bind fun z38 => ((chk (decide (z38.length = p59.Screen.Grid.Cells.length))).bind fun z39 => (bif (decide ((IntKind.i64.wrap (a2.Screen.Grid.Wide - 1)) < (IntKind.i64.wrap (p59.Screen.Col + p61)))) then ((f43 (Gterminal.mk ({ p59.Screen with Grid := (GGrid.mk p59.Screen.Grid.Wide p59.Screen.Grid.High z38), Col := (IntKind.i64.wrap (p59.Screen.Col + p61)) }) p59.sent) [] 4).bind fun z40 => (some (Gterminal.mk ({ p59.Screen with Grid := (GGrid.mk p59.Screen.Grid.Wide p59.Screen.Grid.High z38), Col := (IntKind.i64.wrap (a2.Screen.Grid.Wide - 1)), Late := z40 }) p59.sent))) else (some (Gterminal.mk ({ p59.Screen with Grid := (GGrid.mk p59.Screen.Grid.Wide p59.Screen.Grid.High z38), Col := (IntKind.i64.wrap (p59.Screen.Col + p61)) }) p59.sent)))))
theorem f27_j4_ok {d : Nat} (hd : 6 ≤ d) (a1 : Int) (a2 : Gterminal) {r : Gterminal} {Q : PX → St → Prop} (hQ : ∀ e st', f27_Q r e st' → Q e st') (p59 : Gterminal) (p60 : Int) (p61 : Int) (hS : f27_j4 a1 a2 p59 p60 p61 = some r) {st : St} (he : keepSt [0, 1, 4, 5, 1000001, 1000002, 1000003] [(0, .id 0), (1, .id 1), (2, .id 2), (3, .id 3)] [] st = f27_j4_J a1 a2 p59 p60 p61) : ZR (lev codes baseL (d - 1)) Q c27_1 [] st := by
  refine zrKeep he ?_
  unfold f27_j4 at hS
  refine zrSeq ?_
  refine zrRegD ?_
  refine zdRun (n := 21) (j := 21) (ts := [[], [], [], [], [(0, false)], [], [], [], [], [(0, false)], [], [], [], [], [(0, false)], [], [], [], [], [], [(0, false)]]) (acc' := [[], [], [], [], [(0, false)], [], [], [], [], [(0, false)], [], [], [], [], [(0, false)], [], [], [], [], [], [(0, false)]]) rfl (by kernel_rfl) (by kernel_rfl) (by kernel_rfl) ?_
  refine bindE hS (fun z38 hz38 hS => ?_)
  refine bindE hS (fun z39 hz39 hS => ?_)
  refine zdOp (d := some 125) (op := (.callr 46 [(.tmp 108), (.tmp 113), (.tmp 118), (.tmp 119), (.tmp 124)])) (g := none) (j := 22) (t1 := [(1, true), (1, false), (1008, true), (1009, true), (1010, true), (1011, true), (1012, true), (1013, true), (1014, true), (1015, true)]) (acc' := [[], [], [], [], [(0, false)], [], [], [], [], [(0, false)], [], [], [], [], [(0, false)], [], [], [], [], [], [(0, false)], [(1, true), (1, false), (1008, true), (1009, true), (1010, true), (1011, true), (1012, true), (1013, true), (1014, true), (1015, true)]]) (by kernel_rfl) (by kernel_rfl) rfl (by kernel_rfl) (by kernel_rfl) (ev_callrXA (ids := [1]) (bs := [(.own 46 4 (e_GCell.cells p59.Screen.Grid.Cells))]) (by kernel_rfl) (by kernel_rfl) (by kernel_rfl) (by kernel_rfl) (f46_ok (d - 1) (dpt hd rfl) p59.Screen.Grid.Wide p59.Screen.Grid.High p59.Screen.Row p59.Screen.Col p60 p59.Screen.Pen p59.Screen.Grid.Cells z38 hz38) (by kernel_rfl) (sm_own e_GCell (e1 := 46) (k1 := 4) (xs := p59.Screen.Grid.Cells) (ys := z38) (by kernel_rfl) hz39 sm_nil) (by kernel_rfl)) ?_
  have lz39 : p59.Screen.Grid.Cells.length = z38.length := (of_decide_eq_true (chk_t hz39)).symm
  try delta f27_j4_J
  try rw [lz39]
  refine zdEnd (by kernel_rfl) (by kernel_rfl) ?_
  refine zkSeq ?_
  refine zrSeq ?_
  refine zrReg ?_
  refine zlRun (n := 11) (j := 11) rfl (by kernel_rfl) ?_
  refine zlEnd (by kernel_rfl) ?_
  refine zkSeq ?_
  refine zrSeq ?_
  refine zrReg ?_
  refine zlRun (n := 6) (j := 6) rfl (by kernel_rfl) ?_
  refine zlBool (d := 142) (op := (.cmpI .gtr (.tmp 140) (.tmp 141))) (g := none) (j := 7) (decide ((IntKind.i64.wrap (a2.Screen.Grid.Wide - 1)) < (IntKind.i64.wrap (p59.Screen.Col + p61)))) rfl (by kernel_rfl) (by kernel_rfl) (by kernel_rfl) (fun hc => ?_) (fun hc => ?_)
  · replace hS := cond_t hc hS
    refine zlEnd (by kernel_rfl) ?_
    refine zkSeq ?_
    refine zrCondT (by kernel_rfl) ?_
    refine zrReg ?_
    refine zlRun (n := 4) (j := 4) rfl (by kernel_rfl) ?_
    refine bindE hS (fun z40 hz40 hS => ?_)
    refine zlOp (d := some 147) (op := (.call 43 [(.tmp 146), (.const (.int .i64 4))])) (g := none) (j := 5) rfl (by kernel_rfl) (by kernel_rfl) (ev_callA (by kernel_rfl) (f43_ok (d - 1) (dpt hd rfl) (Gterminal.mk ({ p59.Screen with Grid := (GGrid.mk p59.Screen.Grid.Wide p59.Screen.Grid.High z38), Col := (IntKind.i64.wrap (p59.Screen.Col + p61)) }) p59.sent) [] 4 z40 hz40) (by kernel_rfl) (by kernel_rfl)) ?_
    refine zlRun (n := 8) (j := 13) rfl (by kernel_rfl) ?_
    refine zlEnd (by kernel_rfl) ?_
    refine zkNil ?_
    exact endQ hS hQ (fNorm (by kernel_rfl) ((congrArg (fun s => outR s 4 c27.res) (by kernel_rfl : finSt c27.fin _ = f27_fin (Gterminal.mk ({ p59.Screen with Grid := (GGrid.mk p59.Screen.Grid.Wide p59.Screen.Grid.High z38), Col := (IntKind.i64.wrap (a2.Screen.Grid.Wide - 1)), Late := z40 }) p59.sent))).trans (f27_out (Gterminal.mk ({ p59.Screen with Grid := (GGrid.mk p59.Screen.Grid.Wide p59.Screen.Grid.High z38), Col := (IntKind.i64.wrap (a2.Screen.Grid.Wide - 1)), Late := z40 }) p59.sent))))
  · replace hS := cond_f hc hS
    refine zlEnd (by kernel_rfl) ?_
    refine zkSeq ?_
    refine zrCondF (by kernel_rfl) ?_
    refine zrSkip ?_
    refine zkNil ?_
    exact endQ hS hQ (fNorm (by kernel_rfl) ((congrArg (fun s => outR s 4 c27.res) (by kernel_rfl : finSt c27.fin _ = f27_fin (Gterminal.mk ({ p59.Screen with Grid := (GGrid.mk p59.Screen.Grid.Wide p59.Screen.Grid.High z38), Col := (IntKind.i64.wrap (p59.Screen.Col + p61)) }) p59.sent))).trans (f27_out (Gterminal.mk ({ p59.Screen with Grid := (GGrid.mk p59.Screen.Grid.Wide p59.Screen.Grid.High z38), Col := (IntKind.i64.wrap (p59.Screen.Col + p61)) }) p59.sent))))
def f27_j3_J (a1 : Int) (a2 : Gterminal) (p56 : Gterminal) (p57 : Int) (p58 : Int) : St := ⟨(up (up (up (up (up (up (up (fun _ => .un) 1000003 .un) 1000002 .un) 1000001 .un) 5 (.d (.int .i64 (IntKind.i64.wrap (a2.Screen.Grid.Wide - 1))))) 4 (.d (.int .i64 p58))) 1 (.d (.int .i64 p57))) 0 (.r (.ptr 0 0 0))), (up (up (up (up (hB fun _ => 0) 3 ⟨1, some (.own 73 1 (e_GLine.cells p56.Screen.Past))⟩) 2 ⟨1, some (.own 46 4 (e_GCell.cells p56.Screen.Other.Cells))⟩) 1 ⟨1, some (.own 46 4 (e_GCell.cells p56.Screen.Grid.Cells))⟩) 0 ⟨0, some (.box (bx_Gterminal p56 (.r (.msl 1 1 0 p56.Screen.Grid.Cells.length)) (.r (.msl 2 1 0 p56.Screen.Other.Cells.length)) (.r (.msl 3 1 0 p56.Screen.Past.length))))⟩)⟩
noncomputable def f27_j3 (a1 : Int) (a2 : Gterminal) (p56 : Gterminal) (p57 : Int) (p58 : Int) : Option (Gterminal) := ((f43 p56 [] 1).bind fun z41 => (bif z41 then ((f45 p56 []).bind fun z42 => none) else (f27_j4 a1 a2 p56 p57 p58)))
theorem f27_j3_ok {d : Nat} (hd : 6 ≤ d) (a1 : Int) (a2 : Gterminal) {r : Gterminal} {Q : PX → St → Prop} (hQ : ∀ e st', f27_Q r e st' → Q e st') (p56 : Gterminal) (p57 : Int) (p58 : Int) (hS : f27_j3 a1 a2 p56 p57 p58 = some r) {st : St} (he : keepSt [0, 1, 4, 5, 1000001, 1000002, 1000003] [(0, .id 0), (1, .id 1), (2, .id 2), (3, .id 3)] [] st = f27_j3_J a1 a2 p56 p57 p58) : ZR (lev codes baseL (d - 1)) Q c27_2 [] st := by
  refine zrKeep he ?_
  unfold f27_j3 at hS
  refine zrSeq ?_
  refine zrSeq ?_
  refine zrReg ?_
  refine zlRun (n := 1) (j := 1) rfl (by kernel_rfl) ?_
  refine bindE hS (fun z41 hz41 hS => ?_)
  refine zlOp (d := some 78) (op := (.call 43 [(.tmp 77), (.const (.int .i64 1))])) (g := none) (j := 2) rfl (by kernel_rfl) (by kernel_rfl) (ev_callA (by kernel_rfl) (f43_ok (d - 1) (dpt hd rfl) p56 [] 1 z41 hz41) (by kernel_rfl) (by kernel_rfl)) ?_
  refine zlEnd (by kernel_rfl) ?_
  refine zkSeq ?_
  refine zrSplit 78 z41 (by kernel_rfl) (fun hc => ?_) (fun hc => ?_)
  · replace hS := cond_t hc hS
    refine zrCondT (by kernel_rfl) ?_
    refine zrRegD ?_
    refine zdRun (n := 23) (j := 23) (ts := [[], [], [], [], [(0, false)], [], [], [], [], [(0, false)], [], [], [], [], [(0, false)], [], [], [], [], [], [(0, false)], [], []]) (acc' := [[], [], [], [], [(0, false)], [], [], [], [], [(0, false)], [], [], [], [], [(0, false)], [], [], [], [], [], [(0, false)], [], []]) rfl (by kernel_rfl) (by kernel_rfl) (by kernel_rfl) ?_
    refine bindE hS (fun z42 hz42 hS => ?_)
    refine zdOp (d := some 102) (op := (.call 45 [(.tmp 101)])) (g := none) (j := 24) (t1 := [(0, false), (824, true), (825, true), (826, true), (827, true), (828, true), (829, true), (830, true), (831, true)]) (acc' := [[], [], [], [], [(0, false)], [], [], [], [], [(0, false)], [], [], [], [], [(0, false)], [], [], [], [], [], [(0, false)], [], [], [(0, false), (824, true), (825, true), (826, true), (827, true), (828, true), (829, true), (830, true), (831, true)]]) (by kernel_rfl) (by kernel_rfl) rfl (by kernel_rfl) (by kernel_rfl) (ev_callA (by kernel_rfl) (f45_ok (d - 1) (dpt hd rfl) p56 [] z42 hz42) (by kernel_rfl) (by kernel_rfl)) ?_
    cases hS
  · replace hS := cond_f hc hS
    refine zrCondF (by kernel_rfl) ?_
    refine zrSkip ?_
    refine zkSeq ?_
    exact f27_j4_ok hd a1 a2 hQ p56 p57 p58 hS (by kernel_rfl)
def f27_j5_J (a1 : Int) (a2 : Gterminal) (p65 : Gterminal) (p66 : Int) (p67 : Int) : St := ⟨(up (up (up (up (up (up (up (fun _ => .un) 1000003 .un) 1000002 .un) 1000001 .un) 5 (.d (.int .i64 (IntKind.i64.wrap (a2.Screen.Grid.Wide - 1))))) 4 (.d (.int .i64 p67))) 1 (.d (.int .i64 p66))) 0 (.r (.ptr 0 0 0))), (up (up (up (up (hB fun _ => 0) 3 ⟨1, some (.own 73 1 (e_GLine.cells p65.Screen.Past))⟩) 2 ⟨1, some (.own 46 4 (e_GCell.cells p65.Screen.Other.Cells))⟩) 1 ⟨1, some (.own 46 4 (e_GCell.cells p65.Screen.Grid.Cells))⟩) 0 ⟨0, some (.box (bx_Gterminal p65 (.r (.msl 1 1 0 p65.Screen.Grid.Cells.length)) (.r (.msl 2 1 0 p65.Screen.Other.Cells.length)) (.r (.msl 3 1 0 p65.Screen.Past.length))))⟩)⟩
noncomputable def f27_j5 (a1 : Int) (a2 : Gterminal) (p65 : Gterminal) (p66 : Int) (p67 : Int) : Option (Gterminal) := (f27_j3 a1 a2 p65 p66 p67)
theorem f27_j5_ok {d : Nat} (hd : 6 ≤ d) (a1 : Int) (a2 : Gterminal) {r : Gterminal} {Q : PX → St → Prop} (hQ : ∀ e st', f27_Q r e st' → Q e st') (p65 : Gterminal) (p66 : Int) (p67 : Int) (hS : f27_j5 a1 a2 p65 p66 p67 = some r) {st : St} (he : keepSt [0, 1, 4, 5, 1000001, 1000002, 1000003] [(0, .id 0), (1, .id 1), (2, .id 2), (3, .id 3)] [] st = f27_j5_J a1 a2 p65 p66 p67) : ZR (lev codes baseL (d - 1)) Q c27_3 [.seq c27_2] st := by
  refine zrKeep he ?_
  unfold f27_j5 at hS
  refine zrSkip ?_
  refine zkSeq ?_
  exact f27_j3_ok hd a1 a2 hQ p65 p66 p67 hS (by kernel_rfl)
def f27_j2_J (a1 : Int) (a2 : Gterminal) (p42 : Gterminal) (p43 : Int) (p44 : Int) : St := ⟨(up (up (up (up (up (up (up (fun _ => .un) 1000003 .un) 1000002 .un) 1000001 .un) 5 (.d (.int .i64 (IntKind.i64.wrap (a2.Screen.Grid.Wide - 1))))) 4 (.d (.int .i64 p44))) 1 (.d (.int .i64 p43))) 0 (.r (.ptr 0 0 0))), (up (up (up (up (hB fun _ => 0) 3 ⟨1, some (.own 73 1 (e_GLine.cells p42.Screen.Past))⟩) 2 ⟨1, some (.own 46 4 (e_GCell.cells p42.Screen.Other.Cells))⟩) 1 ⟨1, some (.own 46 4 (e_GCell.cells p42.Screen.Grid.Cells))⟩) 0 ⟨0, some (.box (bx_Gterminal p42 (.r (.msl 1 1 0 p42.Screen.Grid.Cells.length)) (.r (.msl 2 1 0 p42.Screen.Other.Cells.length)) (.r (.msl 3 1 0 p42.Screen.Past.length))))⟩)⟩
noncomputable def f27_j2 (a1 : Int) (a2 : Gterminal) (p42 : Gterminal) (p43 : Int) (p44 : Int) : Option (Gterminal) := (bif (decide (p44 = 2)) then (bif (decide (p42.Screen.Col = (IntKind.i64.wrap (a2.Screen.Grid.Wide - 1)))) then ((f43 p42 [] 4).bind fun z43 => (bif (!z43) then (some p42) else ((f41 0 p42).bind fun z44 => ((chk (decide (z44.Screen.Past.length = p42.Screen.Past.length))).bind fun z45 => ((chk (decide (z44.Screen.Other.Cells.length = p42.Screen.Other.Cells.length))).bind fun z46 => ((chk (decide (z44.Screen.Grid.Cells.length = p42.Screen.Grid.Cells.length))).bind fun z47 => ((f42 z44).bind fun z48 => (f27_j3 a1 a2 z48 p43 p44)))))))) else (f27_j5 a1 a2 p42 p43 p44)) else (f27_j5 a1 a2 p42 p43 p44))
theorem f27_j2_ok {d : Nat} (hd : 6 ≤ d) (a1 : Int) (a2 : Gterminal) {r : Gterminal} {Q : PX → St → Prop} (hQ : ∀ e st', f27_Q r e st' → Q e st') (p42 : Gterminal) (p43 : Int) (p44 : Int) (hS : f27_j2 a1 a2 p42 p43 p44 = some r) {st : St} (he : keepSt [0, 1, 4, 5, 1000001, 1000002, 1000003] [(0, .id 0), (1, .id 1), (2, .id 2), (3, .id 3)] [] st = f27_j2_J a1 a2 p42 p43 p44) : ZR (lev codes baseL (d - 1)) Q c27_4 [] st := by
  refine zrKeep he ?_
  unfold f27_j2 at hS
  refine zrSeq ?_
  refine zrSeq ?_
  refine zrReg ?_
  refine zlRun (n := 1) (j := 1) rfl (by kernel_rfl) ?_
  refine zlBool (d := 60) (op := (.cmpI .eql (.tmp 59) (.const (.int .i64 2)))) (g := none) (j := 2) (decide (p44 = 2)) rfl (by kernel_rfl) (by kernel_rfl) (by kernel_rfl) (fun hc => ?_) (fun hc => ?_)
  · replace hS := cond_t hc hS
    refine zlRun (n := 7) (j := 9) rfl (by kernel_rfl) ?_
    refine zlBool (d := 68) (op := (.cmpI .eql (.tmp 66) (.tmp 67))) (g := (some (61, true))) (j := 10) (decide (p42.Screen.Col = (IntKind.i64.wrap (a2.Screen.Grid.Wide - 1)))) rfl (by kernel_rfl) (by kernel_rfl) (by kernel_rfl) (fun hc => ?_) (fun hc => ?_)
    · replace hS := cond_t hc hS
      refine zlRun (n := 1) (j := 11) rfl (by kernel_rfl) ?_
      refine zlEnd (by kernel_rfl) ?_
      refine zkSeq ?_
      refine zrCondT (by kernel_rfl) ?_
      refine zrSeq ?_
      refine zrSeq ?_
      refine zrReg ?_
      refine zlRun (n := 1) (j := 1) rfl (by kernel_rfl) ?_
      refine bindE hS (fun z43 hz43 hS => ?_)
      refine zlOp (d := some 71) (op := (.call 43 [(.tmp 70), (.const (.int .i64 4))])) (g := none) (j := 2) rfl (by kernel_rfl) (by kernel_rfl) (ev_callA (by kernel_rfl) (f43_ok (d - 1) (dpt hd rfl) p42 [] 4 z43 hz43) (by kernel_rfl) (by kernel_rfl)) ?_
      refine zlRun (n := 1) (j := 3) rfl (by kernel_rfl) ?_
      refine zlEnd (by kernel_rfl) ?_
      refine zkSeq ?_
      refine zrSplit 72 (!z43) (by kernel_rfl) (fun hc => ?_) (fun hc => ?_)
      · replace hS := cond_t hc hS
        refine zrCondT (by kernel_rfl) ?_
        refine zrRet ?_
        refine zkSeqR ?_
        refine zkSeqR ?_
        refine zkNil ?_
        exact endQ hS hQ (fRet (by kernel_rfl) ((congrArg (fun s => outR s 4 c27.res) (by kernel_rfl : finSt c27.fin _ = f27_fin p42)).trans (f27_out p42)))
      · replace hS := cond_f hc hS
        refine zrCondF (by kernel_rfl) ?_
        refine zrSkip ?_
        refine zkSeq ?_
        refine zrSeq ?_
        refine zrReg ?_
        refine zlRun (n := 1) (j := 1) rfl (by kernel_rfl) ?_
        refine bindE hS (fun z44 hz44 hS => ?_)
        refine bindE hS (fun z45 hz45 hS => ?_)
        refine bindE hS (fun z46 hz46 hS => ?_)
        refine bindE hS (fun z47 hz47 hS => ?_)
        refine zlOp (d := some 74) (op := (.callr 41 [(.tmp 73), (.const (.int .i64 0))])) (g := none) (j := 2) rfl (by kernel_rfl) (by kernel_rfl) (ev_callrXA (ids := [0, 1, 2, 3]) (bs := [(.box (bx_Gterminal p42 (.r (.msl 1 1 0 p42.Screen.Grid.Cells.length)) (.r (.msl 2 1 0 p42.Screen.Other.Cells.length)) (.r (.msl 3 1 0 p42.Screen.Past.length)))), (.own 46 4 (e_GCell.cells p42.Screen.Grid.Cells)), (.own 46 4 (e_GCell.cells p42.Screen.Other.Cells)), (.own 73 1 (e_GLine.cells p42.Screen.Past))]) (by kernel_rfl) (by kernel_rfl) (by kernel_rfl) (by kernel_rfl) (f41_ok (d - 1) (dpt hd rfl) 0 p42 z44 hz44) (by kernel_rfl) (sm_box (cs := ((.d (.int .i64 p42.Screen.Grid.Wide)) :: ((.d (.int .i64 p42.Screen.Grid.High)) :: ((.r (.msl 1 1 0 p42.Screen.Grid.Cells.length)) :: ((.d (.int .i64 p42.Screen.Row)) :: ((.d (.int .i64 p42.Screen.Col)) :: ((.d (.bool p42.Screen.Late)) :: ((.d (.int .i64 p42.Screen.Top)) :: ((.d (.int .i64 p42.Screen.Bottom)) :: ((.d (.int .i64 p42.Screen.Pen.Flags)) :: ((.d (.int .i64 p42.Screen.Pen.Fore)) :: ((.d (.int .i64 p42.Screen.Pen.Back)) :: ((.d (.int .i64 p42.Screen.Modes)) :: (((eInt .u64).row 4 p42.Screen.Stops.Bits) ++ ((.d (.int .i64 p42.Screen.Pages.1)) :: ((.d (.int .i64 p42.Screen.Pages.2)) :: ((.d (.int .i64 p42.Screen.Shift)) :: ((.d (.int .i64 p42.Screen.Saved.Row)) :: ((.d (.int .i64 p42.Screen.Saved.Col)) :: ((.d (.int .i64 p42.Screen.Saved.Pen.Flags)) :: ((.d (.int .i64 p42.Screen.Saved.Pen.Fore)) :: ((.d (.int .i64 p42.Screen.Saved.Pen.Back)) :: ((.d (.bool p42.Screen.Saved.Origin)) :: ((.d (.int .i64 p42.Screen.Saved.Pages.1)) :: ((.d (.int .i64 p42.Screen.Saved.Pages.2)) :: ((.d (.int .i64 p42.Screen.Saved.Shift)) :: ((.d (.int .i64 p42.Screen.Other.Wide)) :: ((.d (.int .i64 p42.Screen.Other.High)) :: ((.r (.msl 2 1 0 p42.Screen.Other.Cells.length)) :: ((.d (.str p42.Screen.Title)) :: ((.r (.msl 3 1 0 p42.Screen.Past.length)) :: ((.d (.str p42.sent)) :: [])))))))))))))))))))))))))))))))) (by kernel_rfl) (sm_own e_GCell (e1 := 46) (k1 := 4) (xs := p42.Screen.Grid.Cells) (ys := z44.Screen.Grid.Cells) (by kernel_rfl) hz47 (sm_own e_GCell (e1 := 46) (k1 := 4) (xs := p42.Screen.Other.Cells) (ys := z44.Screen.Other.Cells) (by kernel_rfl) hz46 (sm_own e_GLine (e1 := 73) (k1 := 1) (xs := p42.Screen.Past) (ys := z44.Screen.Past) (by kernel_rfl) hz45 sm_nil)))) (by kernel_rfl)) ?_
        have lz45 : p42.Screen.Past.length = z44.Screen.Past.length := (of_decide_eq_true (chk_t hz45)).symm
        try delta f27_j2_J
        try rw [lz45]
        have lz46 : p42.Screen.Other.Cells.length = z44.Screen.Other.Cells.length := (of_decide_eq_true (chk_t hz46)).symm
        try delta f27_j2_J
        try rw [lz46]
        have lz47 : p42.Screen.Grid.Cells.length = z44.Screen.Grid.Cells.length := (of_decide_eq_true (chk_t hz47)).symm
        try delta f27_j2_J
        try rw [lz47]
        refine zlEnd (by kernel_rfl) ?_
        refine zkSeq ?_
        refine zrReg ?_
        refine zlRun (n := 1) (j := 1) rfl (by kernel_rfl) ?_
        refine bindE hS (fun z48 hz48 hS => ?_)
        refine zlOp (d := some 76) (op := (.callr 42 [(.tmp 75)])) (g := none) (j := 2) rfl (by kernel_rfl) (by kernel_rfl) (ev_callrA (ids := [0, 1, 2, 3]) (by kernel_rfl) (by kernel_rfl) (by kernel_rfl) (f42_ok (d - 1) (dpt hd rfl) z44 z48 hz48) (by kernel_rfl)) ?_
        refine zlEnd (by kernel_rfl) ?_
        refine zkSeq ?_
        exact f27_j3_ok hd a1 a2 hQ z48 p43 p44 hS (by kernel_rfl)
    · replace hS := cond_f hc hS
      refine zlRun (n := 1) (j := 11) rfl (by kernel_rfl) ?_
      refine zlEnd (by kernel_rfl) ?_
      refine zkSeq ?_
      refine zrCondF (by kernel_rfl) ?_
      exact f27_j5_ok hd a1 a2 hQ p42 p43 p44 hS (by kernel_rfl)
  · replace hS := cond_f hc hS
    refine zlRun (n := 9) (j := 11) rfl (by kernel_rfl) ?_
    refine zlEnd (by kernel_rfl) ?_
    refine zkSeq ?_
    refine zrCondF (by kernel_rfl) ?_
    exact f27_j5_ok hd a1 a2 hQ p42 p43 p44 hS (by kernel_rfl)
def f27_j1_J (a1 : Int) (a2 : Gterminal) (p37 : Int) (p38 : Int) : St := ⟨(up (up (up (up (up (up (up (fun _ => .un) 1000003 .un) 1000002 .un) 1000001 .un) 5 (.d (.int .i64 (IntKind.i64.wrap (a2.Screen.Grid.Wide - 1))))) 4 (.d (.int .i64 p38))) 1 (.d (.int .i64 p37))) 0 (.r (.ptr 0 0 0))), (up (up (up (up (hB fun _ => 0) 3 ⟨1, some (.own 73 1 (e_GLine.cells a2.Screen.Past))⟩) 2 ⟨1, some (.own 46 4 (e_GCell.cells a2.Screen.Other.Cells))⟩) 1 ⟨1, some (.own 46 4 (e_GCell.cells a2.Screen.Grid.Cells))⟩) 0 ⟨0, some (.box (bx_Gterminal a2 (.r (.msl 1 1 0 a2.Screen.Grid.Cells.length)) (.r (.msl 2 1 0 a2.Screen.Other.Cells.length)) (.r (.msl 3 1 0 a2.Screen.Past.length))))⟩)⟩
noncomputable def f27_j1 (a1 : Int) (a2 : Gterminal) (p37 : Int) (p38 : Int) : Option (Gterminal) := (bif a2.Screen.Late then ((f41 0 a2).bind fun z49 => ((chk (decide (z49.Screen.Past.length = a2.Screen.Past.length))).bind fun z50 => ((chk (decide (z49.Screen.Other.Cells.length = a2.Screen.Other.Cells.length))).bind fun z51 => ((chk (decide (z49.Screen.Grid.Cells.length = a2.Screen.Grid.Cells.length))).bind fun z52 => ((f42 z49).bind fun z53 => (f27_j2 a1 a2 z53 p37 p38)))))) else (f27_j2 a1 a2 a2 p37 p38))
theorem f27_j1_ok {d : Nat} (hd : 6 ≤ d) (a1 : Int) (a2 : Gterminal) {r : Gterminal} {Q : PX → St → Prop} (hQ : ∀ e st', f27_Q r e st' → Q e st') (p37 : Int) (p38 : Int) (hS : f27_j1 a1 a2 p37 p38 = some r) {st : St} (he : keepSt [0, 1, 4, 5, 1000001, 1000002, 1000003] [(0, .id 0), (1, .id 1), (2, .id 2), (3, .id 3)] [] st = f27_j1_J a1 a2 p37 p38) : ZR (lev codes baseL (d - 1)) Q c27_5 [] st := by
  refine zrKeep he ?_
  unfold f27_j1 at hS
  refine zrSeq ?_
  refine zrSeq ?_
  refine zrReg ?_
  refine zlRun (n := 5) (j := 5) rfl (by kernel_rfl) ?_
  refine zlEnd (by kernel_rfl) ?_
  refine zkSeq ?_
  refine zrSplit 54 a2.Screen.Late (by kernel_rfl) (fun hc => ?_) (fun hc => ?_)
  · replace hS := cond_t hc hS
    refine zrCondT (by kernel_rfl) ?_
    refine zrSeq ?_
    refine zrReg ?_
    refine zlRun (n := 1) (j := 1) rfl (by kernel_rfl) ?_
    refine bindE hS (fun z49 hz49 hS => ?_)
    refine bindE hS (fun z50 hz50 hS => ?_)
    refine bindE hS (fun z51 hz51 hS => ?_)
    refine bindE hS (fun z52 hz52 hS => ?_)
    refine zlOp (d := some 56) (op := (.callr 41 [(.tmp 55), (.const (.int .i64 0))])) (g := none) (j := 2) rfl (by kernel_rfl) (by kernel_rfl) (ev_callrXA (ids := [0, 1, 2, 3]) (bs := [(.box (bx_Gterminal a2 (.r (.msl 1 1 0 a2.Screen.Grid.Cells.length)) (.r (.msl 2 1 0 a2.Screen.Other.Cells.length)) (.r (.msl 3 1 0 a2.Screen.Past.length)))), (.own 46 4 (e_GCell.cells a2.Screen.Grid.Cells)), (.own 46 4 (e_GCell.cells a2.Screen.Other.Cells)), (.own 73 1 (e_GLine.cells a2.Screen.Past))]) (by kernel_rfl) (by kernel_rfl) (by kernel_rfl) (by kernel_rfl) (f41_ok (d - 1) (dpt hd rfl) 0 a2 z49 hz49) (by kernel_rfl) (sm_box (cs := ((.d (.int .i64 a2.Screen.Grid.Wide)) :: ((.d (.int .i64 a2.Screen.Grid.High)) :: ((.r (.msl 1 1 0 a2.Screen.Grid.Cells.length)) :: ((.d (.int .i64 a2.Screen.Row)) :: ((.d (.int .i64 a2.Screen.Col)) :: ((.d (.bool a2.Screen.Late)) :: ((.d (.int .i64 a2.Screen.Top)) :: ((.d (.int .i64 a2.Screen.Bottom)) :: ((.d (.int .i64 a2.Screen.Pen.Flags)) :: ((.d (.int .i64 a2.Screen.Pen.Fore)) :: ((.d (.int .i64 a2.Screen.Pen.Back)) :: ((.d (.int .i64 a2.Screen.Modes)) :: (((eInt .u64).row 4 a2.Screen.Stops.Bits) ++ ((.d (.int .i64 a2.Screen.Pages.1)) :: ((.d (.int .i64 a2.Screen.Pages.2)) :: ((.d (.int .i64 a2.Screen.Shift)) :: ((.d (.int .i64 a2.Screen.Saved.Row)) :: ((.d (.int .i64 a2.Screen.Saved.Col)) :: ((.d (.int .i64 a2.Screen.Saved.Pen.Flags)) :: ((.d (.int .i64 a2.Screen.Saved.Pen.Fore)) :: ((.d (.int .i64 a2.Screen.Saved.Pen.Back)) :: ((.d (.bool a2.Screen.Saved.Origin)) :: ((.d (.int .i64 a2.Screen.Saved.Pages.1)) :: ((.d (.int .i64 a2.Screen.Saved.Pages.2)) :: ((.d (.int .i64 a2.Screen.Saved.Shift)) :: ((.d (.int .i64 a2.Screen.Other.Wide)) :: ((.d (.int .i64 a2.Screen.Other.High)) :: ((.r (.msl 2 1 0 a2.Screen.Other.Cells.length)) :: ((.d (.str a2.Screen.Title)) :: ((.r (.msl 3 1 0 a2.Screen.Past.length)) :: ((.d (.str a2.sent)) :: [])))))))))))))))))))))))))))))))) (by kernel_rfl) (sm_own e_GCell (e1 := 46) (k1 := 4) (xs := a2.Screen.Grid.Cells) (ys := z49.Screen.Grid.Cells) (by kernel_rfl) hz52 (sm_own e_GCell (e1 := 46) (k1 := 4) (xs := a2.Screen.Other.Cells) (ys := z49.Screen.Other.Cells) (by kernel_rfl) hz51 (sm_own e_GLine (e1 := 73) (k1 := 1) (xs := a2.Screen.Past) (ys := z49.Screen.Past) (by kernel_rfl) hz50 sm_nil)))) (by kernel_rfl)) ?_
    have lz50 : a2.Screen.Past.length = z49.Screen.Past.length := (of_decide_eq_true (chk_t hz50)).symm
    try delta f27_j1_J
    try rw [lz50]
    have lz51 : a2.Screen.Other.Cells.length = z49.Screen.Other.Cells.length := (of_decide_eq_true (chk_t hz51)).symm
    try delta f27_j1_J
    try rw [lz51]
    have lz52 : a2.Screen.Grid.Cells.length = z49.Screen.Grid.Cells.length := (of_decide_eq_true (chk_t hz52)).symm
    try delta f27_j1_J
    try rw [lz52]
    refine zlEnd (by kernel_rfl) ?_
    refine zkSeq ?_
    refine zrReg ?_
    refine zlRun (n := 1) (j := 1) rfl (by kernel_rfl) ?_
    refine bindE hS (fun z53 hz53 hS => ?_)
    refine zlOp (d := some 58) (op := (.callr 42 [(.tmp 57)])) (g := none) (j := 2) rfl (by kernel_rfl) (by kernel_rfl) (ev_callrA (ids := [0, 1, 2, 3]) (by kernel_rfl) (by kernel_rfl) (by kernel_rfl) (f42_ok (d - 1) (dpt hd rfl) z49 z53 hz53) (by kernel_rfl)) ?_
    refine zlEnd (by kernel_rfl) ?_
    refine zkSeq ?_
    exact f27_j2_ok hd a1 a2 hQ z53 p37 p38 hS (by kernel_rfl)
  · replace hS := cond_f hc hS
    refine zrCondF (by kernel_rfl) ?_
    refine zrSkip ?_
    refine zkSeq ?_
    exact f27_j2_ok hd a1 a2 hQ a2 p37 p38 hS (by kernel_rfl)
def f27_j0_J (a1 : Int) (a2 : Gterminal) (p31 : Int) : St := ⟨(up (up (up (up (up (fun _ => .un) 1000003 .un) 1000002 .un) 1000001 .un) 1 (.d (.int .i64 p31))) 0 (.r (.ptr 0 0 0))), (up (up (up (up (hB fun _ => 0) 3 ⟨1, some (.own 73 1 (e_GLine.cells a2.Screen.Past))⟩) 2 ⟨1, some (.own 46 4 (e_GCell.cells a2.Screen.Other.Cells))⟩) 1 ⟨1, some (.own 46 4 (e_GCell.cells a2.Screen.Grid.Cells))⟩) 0 ⟨0, some (.box (bx_Gterminal a2 (.r (.msl 1 1 0 a2.Screen.Grid.Cells.length)) (.r (.msl 2 1 0 a2.Screen.Other.Cells.length)) (.r (.msl 3 1 0 a2.Screen.Past.length))))⟩)⟩
noncomputable def f27_j0 (a1 : Int) (a2 : Gterminal) (p31 : Int) : Option (Gterminal) := ((f37 p31).bind fun z24 => (bif (decide (z24 = 0)) then (some a2) else (bif (decide (a2.Screen.Grid.Wide < z24)) then (some a2) else (f27_j1 a1 a2 p31 z24))))
theorem f27_j0_ok {d : Nat} (hd : 6 ≤ d) (a1 : Int) (a2 : Gterminal) {r : Gterminal} {Q : PX → St → Prop} (hQ : ∀ e st', f27_Q r e st' → Q e st') (p31 : Int) (hS : f27_j0 a1 a2 p31 = some r) {st : St} (he : keepSt [0, 1, 1000001, 1000002, 1000003] [(0, .id 0), (1, .id 1), (2, .id 2), (3, .id 3)] [] st = f27_j0_J a1 a2 p31) : ZR (lev codes baseL (d - 1)) Q c27_6 [] st := by
  refine zrKeep he ?_
  unfold f27_j0 at hS
  refine zrSeq ?_
  refine zrRegD ?_
  refine zdRun (n := 1) (j := 1) (ts := [[]]) (acc' := [[]]) rfl (by kernel_rfl) (by kernel_rfl) (by kernel_rfl) ?_
  refine bindE hS (fun z24 hz24 hS => ?_)
  refine zdOp (d := some 30) (op := (.call 37 [(.tmp 29)])) (g := none) (j := 2) (t1 := [(248, true), (249, true), (250, true), (251, true), (252, true), (253, true), (254, true), (255, true)]) (acc' := [[], [(248, true), (249, true), (250, true), (251, true), (252, true), (253, true), (254, true), (255, true)]]) (by kernel_rfl) (by kernel_rfl) rfl (by kernel_rfl) (by kernel_rfl) (ev_callA (by kernel_rfl) (f37_ok (d - 1) (dpt hd rfl) p31 z24 hz24) (by kernel_rfl) (by kernel_rfl)) ?_
  refine zdRun (n := 9) (j := 11) (ts := [[], [], [], [], [], [(0, false)], [], [], []]) (acc' := [[], [(248, true), (249, true), (250, true), (251, true), (252, true), (253, true), (254, true), (255, true)], [], [], [], [], [], [(0, false)], [], [], []]) rfl (by kernel_rfl) (by kernel_rfl) (by kernel_rfl) ?_
  refine zdEnd (by kernel_rfl) (by kernel_rfl) ?_
  refine zkSeq ?_
  refine zrSeq ?_
  refine zrSeq ?_
  refine zrReg ?_
  refine zlRun (n := 1) (j := 1) rfl (by kernel_rfl) ?_
  refine zlBool (d := 39) (op := (.cmpI .eql (.tmp 38) (.const (.int .i64 0)))) (g := none) (j := 2) (decide (z24 = 0)) rfl (by kernel_rfl) (by kernel_rfl) (by kernel_rfl) (fun hc => ?_) (fun hc => ?_)
  · replace hS := cond_t hc hS
    refine zlRun (n := 10) (j := 12) rfl (by kernel_rfl) ?_
    refine zlEnd (by kernel_rfl) ?_
    refine zkSeq ?_
    refine zrCondT (by kernel_rfl) ?_
    refine zrRet ?_
    refine zkSeqR ?_
    refine zkNil ?_
    exact endQ hS hQ (fRet (by kernel_rfl) ((congrArg (fun s => outR s 4 c27.res) (by kernel_rfl : finSt c27.fin _ = f27_fin a2)).trans (f27_out a2)))
  · replace hS := cond_f hc hS
    refine zlRun (n := 8) (j := 10) rfl (by kernel_rfl) ?_
    refine zlBool (d := 48) (op := (.cmpI .gtr (.tmp 41) (.tmp 47))) (g := (some (40, false))) (j := 11) (decide (a2.Screen.Grid.Wide < z24)) rfl (by kernel_rfl) (by kernel_rfl) (by kernel_rfl) (fun hc => ?_) (fun hc => ?_)
    · replace hS := cond_t hc hS
      refine zlRun (n := 1) (j := 12) rfl (by kernel_rfl) ?_
      refine zlEnd (by kernel_rfl) ?_
      refine zkSeq ?_
      refine zrCondT (by kernel_rfl) ?_
      refine zrRet ?_
      refine zkSeqR ?_
      refine zkNil ?_
      exact endQ hS hQ (fRet (by kernel_rfl) ((congrArg (fun s => outR s 4 c27.res) (by kernel_rfl : finSt c27.fin _ = f27_fin a2)).trans (f27_out a2)))
    · replace hS := cond_f hc hS
      refine zlRun (n := 1) (j := 12) rfl (by kernel_rfl) ?_
      refine zlEnd (by kernel_rfl) ?_
      refine zkSeq ?_
      refine zrCondF (by kernel_rfl) ?_
      refine zrSkip ?_
      refine zkSeq ?_
      exact f27_j1_ok hd a1 a2 hQ p31 z24 hS (by kernel_rfl)
def f27_j6_J (a1 : Int) (a2 : Gterminal) : St := ⟨(up (up (up (up (up (fun _ => .un) 1000003 .un) 1000002 .un) 1000001 .un) 1 (.d (.int .i64 a1))) 0 (.r (.ptr 0 0 0))), (up (up (up (up (hB fun _ => 0) 3 ⟨1, some (.own 73 1 (e_GLine.cells a2.Screen.Past))⟩) 2 ⟨1, some (.own 46 4 (e_GCell.cells a2.Screen.Other.Cells))⟩) 1 ⟨1, some (.own 46 4 (e_GCell.cells a2.Screen.Grid.Cells))⟩) 0 ⟨0, some (.box (bx_Gterminal a2 (.r (.msl 1 1 0 a2.Screen.Grid.Cells.length)) (.r (.msl 2 1 0 a2.Screen.Other.Cells.length)) (.r (.msl 3 1 0 a2.Screen.Past.length))))⟩)⟩
noncomputable def f27_j6 (a1 : Int) (a2 : Gterminal) : Option (Gterminal) := (f27_j0 a1 a2 a1)
theorem f27_j6_ok {d : Nat} (hd : 6 ≤ d) (a1 : Int) (a2 : Gterminal) {r : Gterminal} {Q : PX → St → Prop} (hQ : ∀ e st', f27_Q r e st' → Q e st')  (hS : f27_j6 a1 a2 = some r) {st : St} (he : keepSt [0, 1, 1000001, 1000002, 1000003] [(0, .id 0), (1, .id 1), (2, .id 2), (3, .id 3)] [] st = f27_j6_J a1 a2) : ZR (lev codes baseL (d - 1)) Q c27_7 [.seq c27_6] st := by
  refine zrKeep he ?_
  unfold f27_j6 at hS
  refine zrSkip ?_
  refine zkSeq ?_
  exact f27_j0_ok hd a1 a2 hQ a1 hS (by kernel_rfl)
noncomputable def f27 (a1 : Int) (a2 : Gterminal) : Option (Gterminal) := (bif (decide (0 ≤ a1)) then (bif (decide (a1 ≤ 127)) then ((inR a2.Screen.Shift 2).bind fun m54 => (bif (decide (m54 = 0)) then ((f40 a2.Screen.Pages.1 (u8 a1)).bind fun z55 => (f27_j0 a1 a2 z55.1)) else ((f40 a2.Screen.Pages.2 (u8 a1)).bind fun z56 => (f27_j0 a1 a2 z56.1)))) else (f27_j6 a1 a2 )) else (f27_j6 a1 a2 ))
theorem f27_ok (d : Nat) (hd : 6 ≤ d) (a1 : Int) (a2 : Gterminal) (r : Gterminal) (hS : f27 a1 a2 = some r) : lev codes baseL d 27 [(.r (.ptr 0 0 0)), (.d (.int .i64 a1))] [(.box (bx_Gterminal a2 (.r (.msl 1 0 0 a2.Screen.Grid.Cells.length)) (.r (.msl 2 0 0 a2.Screen.Other.Cells.length)) (.r (.msl 3 0 0 a2.Screen.Past.length)))), (.own 46 4 (e_GCell.cells a2.Screen.Grid.Cells)), (.own 46 4 (e_GCell.cells a2.Screen.Other.Cells)), (.own 73 1 (e_GLine.cells a2.Screen.Past))] = some ((.tup []), [(.box (bx_Gterminal r (.r (.msl 1 0 0 r.Screen.Grid.Cells.length)) (.r (.msl 2 0 0 r.Screen.Other.Cells.length)) (.r (.msl 3 0 0 r.Screen.Past.length)))), (.own 46 4 (e_GCell.cells r.Screen.Grid.Cells)), (.own 46 4 (e_GCell.cells r.Screen.Other.Cells)), (.own 73 1 (e_GLine.cells r.Screen.Past))]) := by
  refine lev_go codes27 rfl rfl (Nat.le_trans (Nat.le_of_ble_eq_true rfl) hd) fun Q hQ => ?_
  unfold f27 at hS
  show ZR _ Q c27_b [] _
  replace hQ : ∀ e st', f27_Q r e st' → Q e st' := hQ
  refine zrSeq ?_
  refine zrSeq ?_
  refine zrReg ?_
  refine zlRun (n := 1) (j := 1) rfl (by kernel_rfl) ?_
  refine zlBool (d := 7) (op := (.cmpI .geq (.tmp 6) (.const (.int .i64 0)))) (g := none) (j := 2) (decide (0 ≤ a1)) rfl (by kernel_rfl) (by kernel_rfl) (by kernel_rfl) (fun hc => ?_) (fun hc => ?_)
  · replace hS := cond_t hc hS
    refine zlRun (n := 2) (j := 4) rfl (by kernel_rfl) ?_
    refine zlBool (d := 10) (op := (.cmpI .leq (.tmp 9) (.const (.int .i64 127)))) (g := (some (8, true))) (j := 5) (decide (a1 ≤ 127)) rfl (by kernel_rfl) (by kernel_rfl) (by kernel_rfl) (fun hc => ?_) (fun hc => ?_)
    · replace hS := cond_t hc hS
      refine zlRun (n := 1) (j := 6) rfl (by kernel_rfl) ?_
      refine zlEnd (by kernel_rfl) ?_
      refine zkSeq ?_
      refine zrCondT (by kernel_rfl) ?_
      refine zrRegD ?_
      refine zdRun (n := 9) (j := 9) (ts := [[], [], [], [], [], [(0, false)], [], [], []]) (acc' := [[], [], [], [], [], [(0, false)], [], [], []]) rfl (by kernel_rfl) (by kernel_rfl) (by kernel_rfl) ?_
      refine bindE hS (fun m54 hm54 hS => ?_)
      refine boolC (decide (m54 = 0)) (fun hc => ?_) (fun hc => ?_)
      · replace hS := cond_t hc hS
        refine zdOp (d := some 22) (op := (.ixA 2 1 (.tmp 21) (.tmp 18))) (g := none) (v := (.r (.ptr 0 0 16))) (ups := []) (j := 10) (t1 := []) (acc' := [[], [], [], [], [], [(0, false)], [], [], [], []]) (by kernel_rfl) (by kernel_rfl) rfl (by kernel_rfl) (by kernel_rfl) (ev_ixA0 (kk := .i64) (b := 0) (g := 0) (o := 16) (j := a2.Screen.Shift) (m := m54) (by kernel_rfl) (by kernel_rfl) hm54 hc) ?_
        refine zdRun (n := 2) (j := 12) (ts := [[(0, false)], []]) (acc' := [[], [], [], [], [], [(0, false)], [], [], [], [], [(0, false)], []]) rfl (by kernel_rfl) (by kernel_rfl) (by kernel_rfl) ?_
        refine zdOp (d := some 25) (op := (.cvI .u8 (.tmp 24))) (g := none) (v := (.d (.int .u8 ((u8 a1).toNat : Int)))) (ups := []) (j := 13) (t1 := []) (acc' := [[], [], [], [], [], [(0, false)], [], [], [], [], [(0, false)], [], []]) (by kernel_rfl) (by kernel_rfl) rfl (by kernel_rfl) (by kernel_rfl) (ev_cv (kk := .i64) (a := a1) (by kernel_rfl) (u8_wrap _)) ?_
        refine bindE hS (fun z55 hz55 hS => ?_)
        refine zdOp (d := some 26) (op := (.call 40 [(.tmp 23), (.tmp 25)])) (g := none) (j := 14) (t1 := [(216, true), (217, true), (218, true), (219, true), (220, true), (221, true), (222, true), (223, true)]) (acc' := [[], [], [], [], [], [(0, false)], [], [], [], [], [(0, false)], [], [], [(216, true), (217, true), (218, true), (219, true), (220, true), (221, true), (222, true), (223, true)]]) (by kernel_rfl) (by kernel_rfl) rfl (by kernel_rfl) (by kernel_rfl) (ev_callA (by kernel_rfl) (f40_ok (d - 1) (dpt hd rfl) a2.Screen.Pages.1 (u8 a1) z55 hz55) (by kernel_rfl) (by kernel_rfl)) ?_
        refine zdRun (n := 4) (j := 18) (ts := [[], [], [], []]) (acc' := [[], [], [], [], [], [(0, false)], [], [], [], [], [(0, false)], [], [], [(216, true), (217, true), (218, true), (219, true), (220, true), (221, true), (222, true), (223, true)], [], [], [], []]) rfl (by kernel_rfl) (by kernel_rfl) (by kernel_rfl) ?_
        refine zdEnd (by kernel_rfl) (by kernel_rfl) ?_
        refine zkSeq ?_
        exact f27_j0_ok hd a1 a2 hQ z55.1 hS (by kernel_rfl)
      · replace hS := cond_f hc hS
        refine zdOp (d := some 22) (op := (.ixA 2 1 (.tmp 21) (.tmp 18))) (g := none) (v := (.r (.ptr 0 0 17))) (ups := []) (j := 10) (t1 := []) (acc' := [[], [], [], [], [], [(0, false)], [], [], [], []]) (by kernel_rfl) (by kernel_rfl) rfl (by kernel_rfl) (by kernel_rfl) (ev_ixA1 (kk := .i64) (b := 0) (g := 0) (o := 16) (j := a2.Screen.Shift) (m := m54) (by kernel_rfl) (by kernel_rfl) hm54 hc) ?_
        refine zdRun (n := 2) (j := 12) (ts := [[(0, false)], []]) (acc' := [[], [], [], [], [], [(0, false)], [], [], [], [], [(0, false)], []]) rfl (by kernel_rfl) (by kernel_rfl) (by kernel_rfl) ?_
        refine zdOp (d := some 25) (op := (.cvI .u8 (.tmp 24))) (g := none) (v := (.d (.int .u8 ((u8 a1).toNat : Int)))) (ups := []) (j := 13) (t1 := []) (acc' := [[], [], [], [], [], [(0, false)], [], [], [], [], [(0, false)], [], []]) (by kernel_rfl) (by kernel_rfl) rfl (by kernel_rfl) (by kernel_rfl) (ev_cv (kk := .i64) (a := a1) (by kernel_rfl) (u8_wrap _)) ?_
        refine bindE hS (fun z56 hz56 hS => ?_)
        refine zdOp (d := some 26) (op := (.call 40 [(.tmp 23), (.tmp 25)])) (g := none) (j := 14) (t1 := [(216, true), (217, true), (218, true), (219, true), (220, true), (221, true), (222, true), (223, true)]) (acc' := [[], [], [], [], [], [(0, false)], [], [], [], [], [(0, false)], [], [], [(216, true), (217, true), (218, true), (219, true), (220, true), (221, true), (222, true), (223, true)]]) (by kernel_rfl) (by kernel_rfl) rfl (by kernel_rfl) (by kernel_rfl) (ev_callA (by kernel_rfl) (f40_ok (d - 1) (dpt hd rfl) a2.Screen.Pages.2 (u8 a1) z56 hz56) (by kernel_rfl) (by kernel_rfl)) ?_
        refine zdRun (n := 4) (j := 18) (ts := [[], [], [], []]) (acc' := [[], [], [], [], [], [(0, false)], [], [], [], [], [(0, false)], [], [], [(216, true), (217, true), (218, true), (219, true), (220, true), (221, true), (222, true), (223, true)], [], [], [], []]) rfl (by kernel_rfl) (by kernel_rfl) (by kernel_rfl) ?_
        refine zdEnd (by kernel_rfl) (by kernel_rfl) ?_
        refine zkSeq ?_
        exact f27_j0_ok hd a1 a2 hQ z56.1 hS (by kernel_rfl)
    · replace hS := cond_f hc hS
      refine zlRun (n := 1) (j := 6) rfl (by kernel_rfl) ?_
      refine zlEnd (by kernel_rfl) ?_
      refine zkSeq ?_
      refine zrCondF (by kernel_rfl) ?_
      exact f27_j6_ok hd a1 a2 hQ  hS (by kernel_rfl)
  · replace hS := cond_f hc hS
    refine zlRun (n := 4) (j := 6) rfl (by kernel_rfl) ?_
    refine zlEnd (by kernel_rfl) ?_
    refine zkSeq ?_
    refine zrCondF (by kernel_rfl) ?_
    exact f27_j6_ok hd a1 a2 hQ  hS (by kernel_rfl)
/- strings.HasPrefix -/
theorem libHasPrefix_ok (d : Nat) (hd : 0 ≤ d) (a1 : List UInt8) (a2 : List UInt8) (r : Bool) (hS : libHasPrefix a1 a2 = some r) : lev codes baseL d 31 [(.d (.str a1)), (.d (.str a2))] [] = some ((.d (.bool r)), []) := lib_call (l := libs) rfl rfl rfl (ossB_ hS) d
/- (*farwriter/screen.terminal).act -/
def f16_fin (p10 : Gterminal) : St := ⟨(up (up (up (fun _ => .un) 1000003 .un) 1000002 .un) 1000001 .un), (up (up (up (up (hB fun _ => 0) 3 ⟨1, some (.own 73 1 (e_GLine.cells p10.Screen.Past))⟩) 2 ⟨1, some (.own 46 4 (e_GCell.cells p10.Screen.Other.Cells))⟩) 1 ⟨1, some (.own 46 4 (e_GCell.cells p10.Screen.Grid.Cells))⟩) 0 ⟨0, some (.box (bx_Gterminal p10 (.r (.msl 1 1 0 p10.Screen.Grid.Cells.length)) (.r (.msl 2 1 0 p10.Screen.Other.Cells.length)) (.r (.msl 3 1 0 p10.Screen.Past.length))))⟩)⟩
theorem f16_out (p10 : Gterminal) : outR (f16_fin p10) 4 c16.res = some ((.tup []), [(.box (bx_Gterminal p10 (.r (.msl 1 0 0 p10.Screen.Grid.Cells.length)) (.r (.msl 2 0 0 p10.Screen.Other.Cells.length)) (.r (.msl 3 0 0 p10.Screen.Past.length)))), (.own 46 4 (e_GCell.cells p10.Screen.Grid.Cells)), (.own 46 4 (e_GCell.cells p10.Screen.Other.Cells)), (.own 73 1 (e_GLine.cells p10.Screen.Past))]) := by
  kernel_rfl
def f16_Q (r : Gterminal) (e : PX) (st : St) : Prop := DoneF c16 4 ((.tup []), [(.box (bx_Gterminal r (.r (.msl 1 0 0 r.Screen.Grid.Cells.length)) (.r (.msl 2 0 0 r.Screen.Other.Cells.length)) (.r (.msl 3 0 0 r.Screen.Past.length)))), (.own 46 4 (e_GCell.cells r.Screen.Grid.Cells)), (.own 46 4 (e_GCell.cells r.Screen.Other.Cells)), (.own 73 1 (e_GLine.cells r.Screen.Past))]) e st
def f16_j0_J (a1 : GAct) (a2 : Gterminal) : St := ⟨(up (up (up (up (up (fun _ => .un) 1000003 .un) 1000002 .un) 1000001 .un) 3 (.r (.ptr 32 0 0))) 0 (.r (.ptr 0 0 0))), (up (up (up (up (up (hB fun _ => 0) 32 ⟨0, some (.box (bx_GAct a1 (.d (.sl a1.Args.length ((eInt .i64).cells a1.Args)))))⟩) 3 ⟨1, some (.own 73 1 (e_GLine.cells a2.Screen.Past))⟩) 2 ⟨1, some (.own 46 4 (e_GCell.cells a2.Screen.Other.Cells))⟩) 1 ⟨1, some (.own 46 4 (e_GCell.cells a2.Screen.Grid.Cells))⟩) 0 ⟨0, some (.box (bx_Gterminal a2 (.r (.msl 1 1 0 a2.Screen.Grid.Cells.length)) (.r (.msl 2 1 0 a2.Screen.Other.Cells.length)) (.r (.msl 3 1 0 a2.Screen.Past.length))))⟩)⟩
noncomputable def f16_j0 (a1 : GAct) (a2 : Gterminal) : Option (Gterminal) := (bif (decide (a1.Kind = 3)) then none else (bif (decide (a1.Kind = 5)) then ((libHasPrefix a1.Text [48, 59]).bind fun z8 => (bif z8 then ((sub? a1.Text 2 (a1.Text.length : Int)).bind fun z9 => (some (Gterminal.mk ({ a2.Screen with Title := z9 }) a2.sent))) else ((libHasPrefix a1.Text [50, 59]).bind fun z10 => (bif z10 then ((sub? a1.Text 2 (a1.Text.length : Int)).bind fun z11 => (some (Gterminal.mk ({ a2.Screen with Title := z11 }) a2.sent))) else (some a2))))) else (bif (decide (a1.Kind = 4)) then (bif (decide (a1.Inter = ([] : List UInt8))) then none else (some a2)) else (some a2))))
theorem f16_j0_ok {d : Nat} (hd : 7 ≤ d) (a1 : GAct) (a2 : Gterminal) {r : Gterminal} {Q : PX → St → Prop} (hQ : ∀ e st', f16_Q r e st' → Q e st')  (hS : f16_j0 a1 a2 = some r) {st : St} (he : keepSt [0, 3, 1000001, 1000002, 1000003] [(0, .id 0), (1, .id 1), (2, .id 2), (3, .id 3), (32, .id 32)] [] st = f16_j0_J a1 a2) : ZR (lev codes baseL (d - 1)) Q c16_1 [.blk 0] st := by
  refine zrKeep he ?_
  unfold f16_j0 at hS
  refine zrSeq ?_
  refine zrReg ?_
  refine zlRun (n := 2) (j := 2) rfl (by kernel_rfl) ?_
  refine zlBool (d := 36) (op := (.cmpI .eql (.tmp 35) (.const (.int .i64 3)))) (g := none) (j := 3) (decide (a1.Kind = 3)) rfl (by kernel_rfl) (by kernel_rfl) (by kernel_rfl) (fun hc => ?_) (fun hc => ?_)
  · replace hS := cond_t hc hS
    refine zlRun (n := 1) (j := 4) rfl (by kernel_rfl) ?_
    refine zlEnd (by kernel_rfl) ?_
    refine zkSeq ?_
    refine zrCondT (by kernel_rfl) ?_
    refine zrReg ?_
    refine zlRun (n := 5) (j := 5) rfl (by kernel_rfl) ?_
    cases hS
  · replace hS := cond_f hc hS
    refine zlRun (n := 1) (j := 4) rfl (by kernel_rfl) ?_
    refine zlEnd (by kernel_rfl) ?_
    refine zkSeq ?_
    refine zrCondF (by kernel_rfl) ?_
    refine zrSeq ?_
    refine zrReg ?_
    refine zlRun (n := 2) (j := 2) rfl (by kernel_rfl) ?_
    refine zlBool (d := 46) (op := (.cmpI .eql (.tmp 45) (.const (.int .i64 5)))) (g := none) (j := 3) (decide (a1.Kind = 5)) rfl (by kernel_rfl) (by kernel_rfl) (by kernel_rfl) (fun hc => ?_) (fun hc => ?_)
    · replace hS := cond_t hc hS
      refine zlRun (n := 1) (j := 4) rfl (by kernel_rfl) ?_
      refine zlEnd (by kernel_rfl) ?_
      refine zkSeq ?_
      refine zrCondT (by kernel_rfl) ?_
      refine zrSeq ?_
      refine zrReg ?_
      refine zlRun (n := 2) (j := 2) rfl (by kernel_rfl) ?_
      refine bindE hS (fun z8 hz8 hS => ?_)
      refine zlOp (d := some 49) (op := (.call 31 [(.tmp 48), (.const (.string ⟨#[48, 59]⟩))])) (g := none) (j := 3) rfl (by kernel_rfl) (by kernel_rfl) (ev_callA (by kernel_rfl) (libHasPrefix_ok (d - 1) (dpt hd rfl) a1.Text [48, 59] z8 hz8) (by kernel_rfl) (by kernel_rfl)) ?_
      refine zlRun (n := 1) (j := 4) rfl (by kernel_rfl) ?_
      refine zlSplit 50 z8 (by kernel_rfl) (fun hc => ?_) (fun hc => ?_)
      · replace hS := cond_t hc hS
        refine zlRun (n := 4) (j := 8) rfl (by kernel_rfl) ?_
        refine zlEnd (by kernel_rfl) ?_
        refine zkSeq ?_
        refine zrCondT (by kernel_rfl) ?_
        refine zrReg ?_
        refine zlRun (n := 3) (j := 3) rfl (by kernel_rfl) ?_
        refine bindE hS (fun z9 hz9 hS => ?_)
        refine zlOp (d := some 58) (op := (.slStr (.tmp 57) (.some (.const (.int .i64 2))) .none)) (g := none) (v := (.d (.str z9))) (ups := []) (j := 4) rfl (by kernel_rfl) (by kernel_rfl) (ev_slStr (s := a1.Text) (a := 2) (c := (a1.Text.length : Int)) (by kernel_rfl) (bnd_s _ (kk := .i64) (j := 2) (by kernel_rfl)) (bnd_n _) hz9) ?_
        refine zlRun (n := 4) (j := 8) rfl (by kernel_rfl) ?_
        refine zlEnd (by kernel_rfl) ?_
        refine zkBlk ?_
        refine zkNil ?_
        exact endQ hS hQ (fNorm (by kernel_rfl) ((congrArg (fun s => outR s 4 c16.res) (by kernel_rfl : finSt c16.fin _ = f16_fin (Gterminal.mk ({ a2.Screen with Title := z9 }) a2.sent))).trans (f16_out (Gterminal.mk ({ a2.Screen with Title := z9 }) a2.sent))))
      · replace hS := cond_f hc hS
        refine zlRun (n := 2) (j := 6) rfl (by kernel_rfl) ?_
        refine bindE hS (fun z10 hz10 hS => ?_)
        refine zlOp (d := some 53) (op := (.call 31 [(.tmp 52), (.const (.string ⟨#[50, 59]⟩))])) (g := (some (50, false))) (j := 7) rfl (by kernel_rfl) (by kernel_rfl) (ev_callA (by kernel_rfl) (libHasPrefix_ok (d - 1) (dpt hd rfl) a1.Text [50, 59] z10 hz10) (by kernel_rfl) (by kernel_rfl)) ?_
        refine zlRun (n := 1) (j := 8) rfl (by kernel_rfl) ?_
        refine zlEnd (by kernel_rfl) ?_
        refine zkSeq ?_
        refine zrSplit 54 z10 (by kernel_rfl) (fun hc => ?_) (fun hc => ?_)
        · replace hS := cond_t hc hS
          refine zrCondT (by kernel_rfl) ?_
          refine zrReg ?_
          refine zlRun (n := 3) (j := 3) rfl (by kernel_rfl) ?_
          refine bindE hS (fun z11 hz11 hS => ?_)
          refine zlOp (d := some 58) (op := (.slStr (.tmp 57) (.some (.const (.int .i64 2))) .none)) (g := none) (v := (.d (.str z11))) (ups := []) (j := 4) rfl (by kernel_rfl) (by kernel_rfl) (ev_slStr (s := a1.Text) (a := 2) (c := (a1.Text.length : Int)) (by kernel_rfl) (bnd_s _ (kk := .i64) (j := 2) (by kernel_rfl)) (bnd_n _) hz11) ?_
          refine zlRun (n := 4) (j := 8) rfl (by kernel_rfl) ?_
          refine zlEnd (by kernel_rfl) ?_
          refine zkBlk ?_
          refine zkNil ?_
          exact endQ hS hQ (fNorm (by kernel_rfl) ((congrArg (fun s => outR s 4 c16.res) (by kernel_rfl : finSt c16.fin _ = f16_fin (Gterminal.mk ({ a2.Screen with Title := z11 }) a2.sent))).trans (f16_out (Gterminal.mk ({ a2.Screen with Title := z11 }) a2.sent))))
        · replace hS := cond_f hc hS
          refine zrCondF (by kernel_rfl) ?_
          refine zrSkip ?_
          refine zkBlk ?_
          refine zkNil ?_
          exact endQ hS hQ (fNorm (by kernel_rfl) ((congrArg (fun s => outR s 4 c16.res) (by kernel_rfl : finSt c16.fin _ = f16_fin a2)).trans (f16_out a2)))
    · replace hS := cond_f hc hS
      refine zlRun (n := 1) (j := 4) rfl (by kernel_rfl) ?_
      refine zlEnd (by kernel_rfl) ?_
      refine zkSeq ?_
      refine zrCondF (by kernel_rfl) ?_
      refine zrSeq ?_
      refine zrReg ?_
      refine zlRun (n := 2) (j := 2) rfl (by kernel_rfl) ?_
      refine zlBool (d := 65) (op := (.cmpI .eql (.tmp 64) (.const (.int .i64 4)))) (g := none) (j := 3) (decide (a1.Kind = 4)) rfl (by kernel_rfl) (by kernel_rfl) (by kernel_rfl) (fun hc => ?_) (fun hc => ?_)
      · replace hS := cond_t hc hS
        refine zlRun (n := 3) (j := 6) rfl (by kernel_rfl) ?_
        refine zlBool (d := 69) (op := (.strO .eql (.tmp 68) (.const (.string ⟨#[]⟩)))) (g := (some (66, true))) (j := 7) (decide (a1.Inter = ([] : List UInt8))) rfl (by kernel_rfl) (by kernel_rfl) (by kernel_rfl) (fun hc => ?_) (fun hc => ?_)
        · replace hS := cond_t hc hS
          refine zlRun (n := 2) (j := 9) rfl (by kernel_rfl) ?_
          refine zlEnd (by kernel_rfl) ?_
          refine zkSeq ?_
          refine zrCondT (by kernel_rfl) ?_
          refine zrReg ?_
          refine zlRun (n := 2) (j := 2) rfl (by kernel_rfl) ?_
          cases hS
        · replace hS := cond_f hc hS
          refine zlRun (n := 2) (j := 9) rfl (by kernel_rfl) ?_
          refine zlEnd (by kernel_rfl) ?_
          refine zkSeq ?_
          refine zrCondF (by kernel_rfl) ?_
          refine zrSkip ?_
          refine zkBlk ?_
          refine zkNil ?_
          exact endQ hS hQ (fNorm (by kernel_rfl) ((congrArg (fun s => outR s 4 c16.res) (by kernel_rfl : finSt c16.fin _ = f16_fin a2)).trans (f16_out a2)))
      · replace hS := cond_f hc hS
        refine zlRun (n := 6) (j := 9) rfl (by kernel_rfl) ?_
        refine zlEnd (by kernel_rfl) ?_
        refine zkSeq ?_
        refine zrCondF (by kernel_rfl) ?_
        refine zrSkip ?_
        refine zkBlk ?_
        refine zkNil ?_
        exact endQ hS hQ (fNorm (by kernel_rfl) ((congrArg (fun s => outR s 4 c16.res) (by kernel_rfl : finSt c16.fin _ = f16_fin a2)).trans (f16_out a2)))
noncomputable def f16 (a1 : GAct) (a2 : Gterminal) : Option (Gterminal) := (bif (decide (a1.Kind = 1)) then ((f27 a1.Code a2).bind fun z5 => (some z5)) else (bif (decide (a1.Kind = 2)) then none else (bif (decide (a1.Kind = 3)) then (bif (decide (a1.Inter = ([] : List UInt8))) then none else (f16_j0 a1 a2 )) else (f16_j0 a1 a2 ))))
theorem f16_ok (d : Nat) (hd : 7 ≤ d) (a1 : GAct) (a2 : Gterminal) (r : Gterminal) (hS : f16 a1 a2 = some r) : lev codes baseL d 16 [(.r (.ptr 0 0 0)), (.agg ((.d (.int .i64 a1.Kind)) :: ((.d (.int .i64 a1.Code)) :: ((.d (.int .i64 a1.Mark)) :: ((.d (.str a1.Inter)) :: ((.d (.sl a1.Args.length ((eInt .i64).cells a1.Args))) :: ((.d (.str a1.Text)) :: [])))))))] [(.box (bx_Gterminal a2 (.r (.msl 1 0 0 a2.Screen.Grid.Cells.length)) (.r (.msl 2 0 0 a2.Screen.Other.Cells.length)) (.r (.msl 3 0 0 a2.Screen.Past.length)))), (.own 46 4 (e_GCell.cells a2.Screen.Grid.Cells)), (.own 46 4 (e_GCell.cells a2.Screen.Other.Cells)), (.own 73 1 (e_GLine.cells a2.Screen.Past))] = some ((.tup []), [(.box (bx_Gterminal r (.r (.msl 1 0 0 r.Screen.Grid.Cells.length)) (.r (.msl 2 0 0 r.Screen.Other.Cells.length)) (.r (.msl 3 0 0 r.Screen.Past.length)))), (.own 46 4 (e_GCell.cells r.Screen.Grid.Cells)), (.own 46 4 (e_GCell.cells r.Screen.Other.Cells)), (.own 73 1 (e_GLine.cells r.Screen.Past))]) := by
  refine lev_go codes16 rfl rfl (Nat.le_trans (Nat.le_of_ble_eq_true rfl) hd) fun Q hQ => ?_
  unfold f16 at hS
  show ZR _ Q c16_b [] _
  replace hQ : ∀ e st', f16_Q r e st' → Q e st' := hQ
  refine zrSeq ?_
  refine zrReg ?_
  refine zlRun (n := 1) (j := 1) rfl (by kernel_rfl) ?_
  refine zlEnd (by kernel_rfl) ?_
  refine zkSeq ?_
  refine zrBlk ?_
  refine zrSeq ?_
  refine zrReg ?_
  refine zlRun (n := 2) (j := 2) rfl (by kernel_rfl) ?_
  refine zlBool (d := 7) (op := (.cmpI .eql (.tmp 6) (.const (.int .i64 1)))) (g := none) (j := 3) (decide (a1.Kind = 1)) rfl (by kernel_rfl) (by kernel_rfl) (by kernel_rfl) (fun hc => ?_) (fun hc => ?_)
  · replace hS := cond_t hc hS
    refine zlRun (n := 1) (j := 4) rfl (by kernel_rfl) ?_
    refine zlEnd (by kernel_rfl) ?_
    refine zkSeq ?_
    refine zrCondT (by kernel_rfl) ?_
    refine zrReg ?_
    refine zlRun (n := 3) (j := 3) rfl (by kernel_rfl) ?_
    refine bindE hS (fun z5 hz5 hS => ?_)
    refine zlOp (d := some 11) (op := (.callr 27 [(.tmp 8), (.tmp 10)])) (g := none) (j := 4) rfl (by kernel_rfl) (by kernel_rfl) (ev_callrA (ids := [0, 1, 2, 3]) (by kernel_rfl) (by kernel_rfl) (by kernel_rfl) (f27_ok (d - 1) (dpt hd rfl) a1.Code a2 z5 hz5) (by kernel_rfl)) ?_
    refine zlEnd (by kernel_rfl) ?_
    refine zkBlk ?_
    refine zkNil ?_
    exact endQ hS hQ (fNorm (by kernel_rfl) ((congrArg (fun s => outR s 4 c16.res) (by kernel_rfl : finSt c16.fin _ = f16_fin z5)).trans (f16_out z5)))
  · replace hS := cond_f hc hS
    refine zlRun (n := 1) (j := 4) rfl (by kernel_rfl) ?_
    refine zlEnd (by kernel_rfl) ?_
    refine zkSeq ?_
    refine zrCondF (by kernel_rfl) ?_
    refine zrSeq ?_
    refine zrReg ?_
    refine zlRun (n := 2) (j := 2) rfl (by kernel_rfl) ?_
    refine zlBool (d := 15) (op := (.cmpI .eql (.tmp 14) (.const (.int .i64 2)))) (g := none) (j := 3) (decide (a1.Kind = 2)) rfl (by kernel_rfl) (by kernel_rfl) (by kernel_rfl) (fun hc => ?_) (fun hc => ?_)
    · replace hS := cond_t hc hS
      refine zlRun (n := 1) (j := 4) rfl (by kernel_rfl) ?_
      refine zlEnd (by kernel_rfl) ?_
      refine zkSeq ?_
      refine zrCondT (by kernel_rfl) ?_
      refine zrReg ?_
      refine zlRun (n := 3) (j := 3) rfl (by kernel_rfl) ?_
      cases hS
    · replace hS := cond_f hc hS
      refine zlRun (n := 1) (j := 4) rfl (by kernel_rfl) ?_
      refine zlEnd (by kernel_rfl) ?_
      refine zkSeq ?_
      refine zrCondF (by kernel_rfl) ?_
      refine zrSeq ?_
      refine zrReg ?_
      refine zlRun (n := 2) (j := 2) rfl (by kernel_rfl) ?_
      refine zlBool (d := 23) (op := (.cmpI .eql (.tmp 22) (.const (.int .i64 3)))) (g := none) (j := 3) (decide (a1.Kind = 3)) rfl (by kernel_rfl) (by kernel_rfl) (by kernel_rfl) (fun hc => ?_) (fun hc => ?_)
      · replace hS := cond_t hc hS
        refine zlRun (n := 3) (j := 6) rfl (by kernel_rfl) ?_
        refine zlBool (d := 27) (op := (.strO .eql (.tmp 26) (.const (.string ⟨#[]⟩)))) (g := (some (24, true))) (j := 7) (decide (a1.Inter = ([] : List UInt8))) rfl (by kernel_rfl) (by kernel_rfl) (by kernel_rfl) (fun hc => ?_) (fun hc => ?_)
        · replace hS := cond_t hc hS
          refine zlRun (n := 2) (j := 9) rfl (by kernel_rfl) ?_
          refine zlEnd (by kernel_rfl) ?_
          refine zkSeq ?_
          refine zrCondT (by kernel_rfl) ?_
          refine zrReg ?_
          refine zlRun (n := 3) (j := 3) rfl (by kernel_rfl) ?_
          cases hS
        · replace hS := cond_f hc hS
          refine zlRun (n := 2) (j := 9) rfl (by kernel_rfl) ?_
          refine zlEnd (by kernel_rfl) ?_
          refine zkSeq ?_
          refine zrCondF (by kernel_rfl) ?_
          exact f16_j0_ok hd a1 a2 hQ  hS (by kernel_rfl)
      · replace hS := cond_f hc hS
        refine zlRun (n := 6) (j := 9) rfl (by kernel_rfl) ?_
        refine zlEnd (by kernel_rfl) ?_
        refine zkSeq ?_
        refine zrCondF (by kernel_rfl) ?_
        exact f16_j0_ok hd a1 a2 hQ  hS (by kernel_rfl)
/- farwriter/screen.Run -/
def f6_fin (p26 : GScreen) (p27 : List UInt8) (p28 : Int) : St := ⟨(up (up (up (fun _ => .un) 6 (.d (.int .i64 p28))) 5 (.d (.str p27))) 4 (.r (.ptr 40 0 0))), (up (up (up (up (hB fun _ => 0) 422 ⟨0, some (.own 73 1 (e_GLine.cells p26.Past))⟩) 421 ⟨0, some (.own 46 4 (e_GCell.cells p26.Other.Cells))⟩) 420 ⟨0, some (.own 46 4 (e_GCell.cells p26.Grid.Cells))⟩) 40 ⟨0, some (.box (bx_GScreen p26 (.r (.msl 420 0 0 p26.Grid.Cells.length)) (.r (.msl 421 0 0 p26.Other.Cells.length)) (.r (.msl 422 0 0 p26.Past.length))))⟩)⟩
theorem f6_out (p26 : GScreen) (p27 : List UInt8) (p28 : Int) : outR (f6_fin p26 p27 p28) 0 c6.res = some ((.tup [(.agg ((.d (.int .i64 p26.Grid.Wide)) :: ((.d (.int .i64 p26.Grid.High)) :: ((.r (.own 0 46 4 p26.Grid.Cells.length (e_GCell.cells p26.Grid.Cells))) :: ((.d (.int .i64 p26.Row)) :: ((.d (.int .i64 p26.Col)) :: ((.d (.bool p26.Late)) :: ((.d (.int .i64 p26.Top)) :: ((.d (.int .i64 p26.Bottom)) :: ((.d (.int .i64 p26.Pen.Flags)) :: ((.d (.int .i64 p26.Pen.Fore)) :: ((.d (.int .i64 p26.Pen.Back)) :: ((.d (.int .i64 p26.Modes)) :: (((eInt .u64).row 4 p26.Stops.Bits) ++ ((.d (.int .i64 p26.Pages.1)) :: ((.d (.int .i64 p26.Pages.2)) :: ((.d (.int .i64 p26.Shift)) :: ((.d (.int .i64 p26.Saved.Row)) :: ((.d (.int .i64 p26.Saved.Col)) :: ((.d (.int .i64 p26.Saved.Pen.Flags)) :: ((.d (.int .i64 p26.Saved.Pen.Fore)) :: ((.d (.int .i64 p26.Saved.Pen.Back)) :: ((.d (.bool p26.Saved.Origin)) :: ((.d (.int .i64 p26.Saved.Pages.1)) :: ((.d (.int .i64 p26.Saved.Pages.2)) :: ((.d (.int .i64 p26.Saved.Shift)) :: ((.d (.int .i64 p26.Other.Wide)) :: ((.d (.int .i64 p26.Other.High)) :: ((.r (.own 1 46 4 p26.Other.Cells.length (e_GCell.cells p26.Other.Cells))) :: ((.d (.str p26.Title)) :: ((.r (.own 2 73 1 p26.Past.length (e_GLine.cells p26.Past))) :: []))))))))))))))))))))))))))))))), (.d (.str p27)), (.d (.int .i64 p28))]), []) := by
  exact out_of (ids := []) (ids' := [420, 421, 422]) (l := [(.agg ((.d (.int .i64 p26.Grid.Wide)) :: ((.d (.int .i64 p26.Grid.High)) :: ((.r (.msl 420 0 0 p26.Grid.Cells.length)) :: ((.d (.int .i64 p26.Row)) :: ((.d (.int .i64 p26.Col)) :: ((.d (.bool p26.Late)) :: ((.d (.int .i64 p26.Top)) :: ((.d (.int .i64 p26.Bottom)) :: ((.d (.int .i64 p26.Pen.Flags)) :: ((.d (.int .i64 p26.Pen.Fore)) :: ((.d (.int .i64 p26.Pen.Back)) :: ((.d (.int .i64 p26.Modes)) :: (((eInt .u64).row 4 p26.Stops.Bits) ++ ((.d (.int .i64 p26.Pages.1)) :: ((.d (.int .i64 p26.Pages.2)) :: ((.d (.int .i64 p26.Shift)) :: ((.d (.int .i64 p26.Saved.Row)) :: ((.d (.int .i64 p26.Saved.Col)) :: ((.d (.int .i64 p26.Saved.Pen.Flags)) :: ((.d (.int .i64 p26.Saved.Pen.Fore)) :: ((.d (.int .i64 p26.Saved.Pen.Back)) :: ((.d (.bool p26.Saved.Origin)) :: ((.d (.int .i64 p26.Saved.Pages.1)) :: ((.d (.int .i64 p26.Saved.Pages.2)) :: ((.d (.int .i64 p26.Saved.Shift)) :: ((.d (.int .i64 p26.Other.Wide)) :: ((.d (.int .i64 p26.Other.High)) :: ((.r (.msl 421 0 0 p26.Other.Cells.length)) :: ((.d (.str p26.Title)) :: ((.r (.msl 422 0 0 p26.Past.length)) :: []))))))))))))))))))))))))))))))), (.d (.str p27)), (.d (.int .i64 p28))]) (by kernel_rfl) (by kernel_rfl) (o_tup (o_cons (o_agg (o_cons rfl (o_cons rfl (o_cons (o_own e_GCell (e := 46) (k := 4) (xs := p26.Grid.Cells) (by kernel_rfl) rfl rfl rfl rfl) (o_cons rfl (o_cons rfl (o_cons rfl (o_cons rfl (o_cons rfl (o_cons rfl (o_cons rfl (o_cons rfl (o_cons rfl (o_app (o_row (eInt .u64)) (o_cons rfl (o_cons rfl (o_cons rfl (o_cons rfl (o_cons rfl (o_cons rfl (o_cons rfl (o_cons rfl (o_cons rfl (o_cons rfl (o_cons rfl (o_cons rfl (o_cons rfl (o_cons rfl (o_cons (o_own e_GCell (e := 46) (k := 4) (xs := p26.Other.Cells) (by kernel_rfl) rfl rfl rfl rfl) (o_cons rfl (o_cons (o_own e_GLine (e := 73) (k := 1) (xs := p26.Past) (by kernel_rfl) rfl rfl rfl rfl) o_nil))))))))))))))))))))))))))))))) (o_cons rfl (o_cons rfl o_nil))))
def f6_Q (r : GScreen × (List UInt8) × Int) (e : PX) (st : St) : Prop := DoneF c6 0 ((.tup [(.agg ((.d (.int .i64 r.1.Grid.Wide)) :: ((.d (.int .i64 r.1.Grid.High)) :: ((.r (.own 0 46 4 r.1.Grid.Cells.length (e_GCell.cells r.1.Grid.Cells))) :: ((.d (.int .i64 r.1.Row)) :: ((.d (.int .i64 r.1.Col)) :: ((.d (.bool r.1.Late)) :: ((.d (.int .i64 r.1.Top)) :: ((.d (.int .i64 r.1.Bottom)) :: ((.d (.int .i64 r.1.Pen.Flags)) :: ((.d (.int .i64 r.1.Pen.Fore)) :: ((.d (.int .i64 r.1.Pen.Back)) :: ((.d (.int .i64 r.1.Modes)) :: (((eInt .u64).row 4 r.1.Stops.Bits) ++ ((.d (.int .i64 r.1.Pages.1)) :: ((.d (.int .i64 r.1.Pages.2)) :: ((.d (.int .i64 r.1.Shift)) :: ((.d (.int .i64 r.1.Saved.Row)) :: ((.d (.int .i64 r.1.Saved.Col)) :: ((.d (.int .i64 r.1.Saved.Pen.Flags)) :: ((.d (.int .i64 r.1.Saved.Pen.Fore)) :: ((.d (.int .i64 r.1.Saved.Pen.Back)) :: ((.d (.bool r.1.Saved.Origin)) :: ((.d (.int .i64 r.1.Saved.Pages.1)) :: ((.d (.int .i64 r.1.Saved.Pages.2)) :: ((.d (.int .i64 r.1.Saved.Shift)) :: ((.d (.int .i64 r.1.Other.Wide)) :: ((.d (.int .i64 r.1.Other.High)) :: ((.r (.own 1 46 4 r.1.Other.Cells.length (e_GCell.cells r.1.Other.Cells))) :: ((.d (.str r.1.Title)) :: ((.r (.own 2 73 1 r.1.Past.length (e_GLine.cells r.1.Past))) :: []))))))))))))))))))))))))))))))), (.d (.str r.2.1)), (.d (.int .i64 r.2.2))]), []) e st
def f6_j2_J (a1 : GScreen) (a2 : List GAct) (p47 : Gterminal) : St := ⟨(up (up (fun _ => .un) 9 (.r (.ptr 240 0 0))) 4 (.r (.ptr 40 0 0))), (up (up (up (up (up (hB fun _ => 0) 226 ⟨0, some (.own 73 1 (e_GLine.cells p47.Screen.Past))⟩) 225 ⟨0, some (.own 46 4 (e_GCell.cells p47.Screen.Other.Cells))⟩) 224 ⟨0, some (.own 46 4 (e_GCell.cells p47.Screen.Grid.Cells))⟩) 240 ⟨0, some (.box (bx_Gterminal p47 (.r (.msl 224 0 0 p47.Screen.Grid.Cells.length)) (.r (.msl 225 0 0 p47.Screen.Other.Cells.length)) (.r (.msl 226 0 0 p47.Screen.Past.length))))⟩) 40 ⟨0, some (.box (bx_GScreen (GScreen.mk (GGrid.mk 0 0 ([])) 0 0 false 0 0 (GPen.mk 0 0 0) 0 (GStops.mk (fun _ => 0)) (0, 0) 0 (GSaved.mk 0 0 (GPen.mk 0 0 0) false (0, 0) 0) (GGrid.mk 0 0 ([])) ([]) ([])) (.d (.sl ([] : List GCell).length (e_GCell.cells ([])))) (.d (.sl ([] : List GCell).length (e_GCell.cells ([])))) (.d (.sl ([] : List GLine).length (e_GLine.cells ([]))))))⟩)⟩
noncomputable def f6_j2 (a1 : GScreen) (a2 : List GAct) (p47 : Gterminal) : Option (GScreen × (List UInt8) × Int) := (some (p47.Screen, p47.sent, 0))
theorem f6_j2_ok {d : Nat} (hd : 8 ≤ d) (a1 : GScreen) (a2 : List GAct) {r : GScreen × (List UInt8) × Int} {Q : PX → St → Prop} (hQ : ∀ e st', f6_Q r e st' → Q e st') (p47 : Gterminal) (hS : f6_j2 a1 a2 p47 = some r) {st : St} (he : keepSt [4, 9] [(40, .id 40), (240, .id 240), (224, .id 224), (225, .id 225), (226, .id 226)] [] st = f6_j2_J a1 a2 p47) : ZR (lev codes baseL (d - 1)) Q c6_1 [] st := by
  refine zrKeep he ?_
  unfold f6_j2 at hS
  refine zrSeq ?_
  refine zrRegD ?_
  refine zdRun (n := 11) (j := 11) (ts := [[], [], [], [(240, false)], [], [], [], [(240, false)], [(40, true)], [], []]) (acc' := [[], [], [], [(240, false)], [], [], [], [(240, false)], [(40, true)], [], []]) rfl (by kernel_rfl) (by kernel_rfl) (by kernel_rfl) ?_
  refine zdEnd (by kernel_rfl) (by kernel_rfl) ?_
  refine zkSeq ?_
  refine zrRet ?_
  refine zkNil ?_
  exact endQ hS hQ (fRet (by kernel_rfl) ((congrArg (fun s => outR s 0 c6.res) (by kernel_rfl : finSt c6.fin _ = f6_fin p47.Screen p47.sent 0)).trans (f6_out p47.Screen p47.sent 0)))
def f6_l3_J (a1 : GScreen) (a2 : List GAct) (x : Gterminal × Int) : St := ⟨(up (up (up (up (up (fun _ => .un) 32 (.d (.int .i64 x.2))) 31 (.d (.int .i64 (a2.length : Int)))) 30 (.d (.sl a2.length (e_GAct.cells a2)))) 9 (.r (.ptr 240 0 0))) 4 (.r (.ptr 40 0 0))), (up (up (up (up (up (hB fun _ => 0) 226 ⟨0, some (.own 73 1 (e_GLine.cells x.1.Screen.Past))⟩) 225 ⟨0, some (.own 46 4 (e_GCell.cells x.1.Screen.Other.Cells))⟩) 224 ⟨0, some (.own 46 4 (e_GCell.cells x.1.Screen.Grid.Cells))⟩) 240 ⟨0, some (.box (bx_Gterminal x.1 (.r (.msl 224 0 0 x.1.Screen.Grid.Cells.length)) (.r (.msl 225 0 0 x.1.Screen.Other.Cells.length)) (.r (.msl 226 0 0 x.1.Screen.Past.length))))⟩) 40 ⟨0, some (.box (bx_GScreen (GScreen.mk (GGrid.mk 0 0 ([])) 0 0 false 0 0 (GPen.mk 0 0 0) 0 (GStops.mk (fun _ => 0)) (0, 0) 0 (GSaved.mk 0 0 (GPen.mk 0 0 0) false (0, 0) 0) (GGrid.mk 0 0 ([])) ([]) ([])) (.d (.sl ([] : List GCell).length (e_GCell.cells ([])))) (.d (.sl ([] : List GCell).length (e_GCell.cells ([])))) (.d (.sl ([] : List GLine).length (e_GLine.cells ([]))))))⟩)⟩
def f6_l3_H (a1 : GScreen) (a2 : List GAct) (x : Gterminal × Int) (st : St) : Prop := keepSt [4, 9, 30, 31, 32] [(40, .id 40), (240, .id 240), (224, .id 224), (225, .id 225), (226, .id 226)] [] st = f6_l3_J a1 a2 x
def f6_l3_e0_J (a1 : GScreen) (a2 : List GAct) (p46 : Gterminal) : St := ⟨(up (up (fun _ => .un) 9 (.r (.ptr 240 0 0))) 4 (.r (.ptr 40 0 0))), (up (up (up (up (up (hB fun _ => 0) 226 ⟨0, some (.own 73 1 (e_GLine.cells p46.Screen.Past))⟩) 225 ⟨0, some (.own 46 4 (e_GCell.cells p46.Screen.Other.Cells))⟩) 224 ⟨0, some (.own 46 4 (e_GCell.cells p46.Screen.Grid.Cells))⟩) 240 ⟨0, some (.box (bx_Gterminal p46 (.r (.msl 224 0 0 p46.Screen.Grid.Cells.length)) (.r (.msl 225 0 0 p46.Screen.Other.Cells.length)) (.r (.msl 226 0 0 p46.Screen.Past.length))))⟩) 40 ⟨0, some (.box (bx_GScreen (GScreen.mk (GGrid.mk 0 0 ([])) 0 0 false 0 0 (GPen.mk 0 0 0) 0 (GStops.mk (fun _ => 0)) (0, 0) 0 (GSaved.mk 0 0 (GPen.mk 0 0 0) false (0, 0) 0) (GGrid.mk 0 0 ([])) ([]) ([])) (.d (.sl ([] : List GCell).length (e_GCell.cells ([])))) (.d (.sl ([] : List GCell).length (e_GCell.cells ([])))) (.d (.sl ([] : List GLine).length (e_GLine.cells ([]))))))⟩)⟩
def f6_l3_X (a1 : GScreen) (a2 : List GAct) (z : Gterminal) (e : PX) (st : St) : Prop := e = .exit 0 ∧ st = f6_l3_e0_J a1 a2 z
def f6_l3_j5_J (a1 : GScreen) (a2 : List GAct) (p54 : Gterminal) (p55 : Int) : St := ⟨(up (up (up (up (up (fun _ => .un) 32 (.d (.int .i64 p55))) 31 (.d (.int .i64 (a2.length : Int)))) 30 (.d (.sl a2.length (e_GAct.cells a2)))) 9 (.r (.ptr 240 0 0))) 4 (.r (.ptr 40 0 0))), (up (up (up (up (up (hB fun _ => 0) 226 ⟨0, some (.own 73 1 (e_GLine.cells p54.Screen.Past))⟩) 225 ⟨0, some (.own 46 4 (e_GCell.cells p54.Screen.Other.Cells))⟩) 224 ⟨0, some (.own 46 4 (e_GCell.cells p54.Screen.Grid.Cells))⟩) 240 ⟨0, some (.box (bx_Gterminal p54 (.r (.msl 224 0 0 p54.Screen.Grid.Cells.length)) (.r (.msl 225 0 0 p54.Screen.Other.Cells.length)) (.r (.msl 226 0 0 p54.Screen.Past.length))))⟩) 40 ⟨0, some (.box (bx_GScreen (GScreen.mk (GGrid.mk 0 0 ([])) 0 0 false 0 0 (GPen.mk 0 0 0) 0 (GStops.mk (fun _ => 0)) (0, 0) 0 (GSaved.mk 0 0 (GPen.mk 0 0 0) false (0, 0) 0) (GGrid.mk 0 0 ([])) ([]) ([])) (.d (.sl ([] : List GCell).length (e_GCell.cells ([])))) (.d (.sl ([] : List GCell).length (e_GCell.cells ([])))) (.d (.sl ([] : List GLine).length (e_GLine.cells ([]))))))⟩)⟩
noncomputable def f6_l3_j5 (a1 : GScreen) (a2 : List GAct) (p54 : Gterminal) (p55 : Int) : Option ((Gterminal × Int) ⊕ Gterminal) := ((idx a2 p55).bind fun z23 => ((f16 z23 p54).bind fun z24 => (some (.inl (z24, (IntKind.i64.wrap (p55 + 1)))))))
theorem f6_l3_j5_ok {d : Nat} (hd : 8 ≤ d) (a1 : GScreen) (a2 : List GAct) {r : (Gterminal × Int) ⊕ Gterminal} {Q : PX → St → Prop} (hQ : ∀ e st', finL (f6_l3_H a1 a2) (f6_l3_X a1 a2) r e st' → Q e st') (p54 : Gterminal) (p55 : Int) (hS : f6_l3_j5 a1 a2 p54 p55 = some r) {st : St} (he : keepSt [4, 9, 30, 31, 32] [(40, .id 40), (240, .id 240), (224, .id 224), (225, .id 225), (226, .id 226)] [] st = f6_l3_j5_J a1 a2 p54 p55) : ZR (lev codes baseL (d - 1)) Q c6_2 [] st := by
  refine zrKeep he ?_
  unfold f6_l3_j5 at hS
  refine zrSeq ?_
  refine zrBlk ?_
  refine zrSeq ?_
  refine zrReg ?_
  refine bindE hS (fun z23 hz23 hS => ?_)
  refine zlOp (d := some 34) (op := (.ixS 55 6 (.tmp 30) (.tmp 32))) (g := none) (v := (.rptr (e_GAct.enc z23 ++ (e_GAct.cells (a2.drop ((p55 : Int).toNat + 1)))))) (ups := []) (j := 1) rfl (by kernel_rfl) (by kernel_rfl) (ev_ixS e_GAct (kk := .i64) (xs := a2) (j := p55) (by kernel_rfl) (by kernel_rfl) hz23 rfl (by intro h; cases h)) ?_
  refine zlRun (n := 3) (j := 4) rfl (by kernel_rfl) ?_
  refine zlEnd (by kernel_rfl) ?_
  refine zkSeq ?_
  refine zrReg ?_
  refine zlRun (n := 2) (j := 2) rfl (by kernel_rfl) ?_
  refine bindE hS (fun z24 hz24 hS => ?_)
  refine zlOp (d := some 38) (op := (.callr 16 [(.tmp 36), (.tmp 37)])) (g := none) (j := 3) rfl (by kernel_rfl) (by kernel_rfl) (ev_callrA (ids := [240, 224, 225, 226]) (by kernel_rfl) (by kernel_rfl) (by kernel_rfl) (f16_ok (d - 1) (dpt hd rfl) z23 p54 z24 hz24) (by kernel_rfl)) ?_
  refine zlEnd (by kernel_rfl) ?_
  refine zkBlk ?_
  refine zkSeq ?_
  refine zrReg ?_
  refine zlRun (n := 2) (j := 2) rfl (by kernel_rfl) ?_
  refine zlEnd (by kernel_rfl) ?_
  refine zkNil ?_
  exact endQ hS hQ (finL_n (by show keepSt _ _ _ _ = _; kernel_rfl))
def f6_l3_j4_J (a1 : GScreen) (a2 : List GAct) (p51 : Gterminal) (p52 : Int) (p53 : Bool) : St := ⟨(up (up (up (up (up (up (fun _ => .un) 33 (.d (.bool p53))) 32 (.d (.int .i64 p52))) 31 (.d (.int .i64 (a2.length : Int)))) 30 (.d (.sl a2.length (e_GAct.cells a2)))) 9 (.r (.ptr 240 0 0))) 4 (.r (.ptr 40 0 0))), (up (up (up (up (up (hB fun _ => 0) 226 ⟨0, some (.own 73 1 (e_GLine.cells p51.Screen.Past))⟩) 225 ⟨0, some (.own 46 4 (e_GCell.cells p51.Screen.Other.Cells))⟩) 224 ⟨0, some (.own 46 4 (e_GCell.cells p51.Screen.Grid.Cells))⟩) 240 ⟨0, some (.box (bx_Gterminal p51 (.r (.msl 224 0 0 p51.Screen.Grid.Cells.length)) (.r (.msl 225 0 0 p51.Screen.Other.Cells.length)) (.r (.msl 226 0 0 p51.Screen.Past.length))))⟩) 40 ⟨0, some (.box (bx_GScreen (GScreen.mk (GGrid.mk 0 0 ([])) 0 0 false 0 0 (GPen.mk 0 0 0) 0 (GStops.mk (fun _ => 0)) (0, 0) 0 (GSaved.mk 0 0 (GPen.mk 0 0 0) false (0, 0) 0) (GGrid.mk 0 0 ([])) ([]) ([])) (.d (.sl ([] : List GCell).length (e_GCell.cells ([])))) (.d (.sl ([] : List GCell).length (e_GCell.cells ([])))) (.d (.sl ([] : List GLine).length (e_GLine.cells ([]))))))⟩)⟩
noncomputable def f6_l3_j4 (a1 : GScreen) (a2 : List GAct) (p51 : Gterminal) (p52 : Int) (p53 : Bool) : Option ((Gterminal × Int) ⊕ Gterminal) := (bif p53 then (f6_l3_j5 a1 a2 p51 p52) else (some (.inr p51)))
theorem f6_l3_j4_ok {d : Nat} (hd : 8 ≤ d) (a1 : GScreen) (a2 : List GAct) {r : (Gterminal × Int) ⊕ Gterminal} {Q : PX → St → Prop} (hQ : ∀ e st', finL (f6_l3_H a1 a2) (f6_l3_X a1 a2) r e st' → Q e st') (p51 : Gterminal) (p52 : Int) (p53 : Bool) (hS : f6_l3_j4 a1 a2 p51 p52 p53 = some r) {st : St} (he : keepSt [4, 9, 30, 31, 32, 33] [(40, .id 40), (240, .id 240), (224, .id 224), (225, .id 225), (226, .id 226)] [] st = f6_l3_j4_J a1 a2 p51 p52 p53) : ZR (lev codes baseL (d - 1)) Q c6_3 [] st := by
  refine zrKeep he ?_
  unfold f6_l3_j4 at hS
  refine zrSeq ?_
  refine zrSplit 33 p53 (by kernel_rfl) (fun hc => ?_) (fun hc => ?_)
  · replace hS := cond_t hc hS
    refine zrCondT (by kernel_rfl) ?_
    refine zrSkip ?_
    refine zkSeq ?_
    exact f6_l3_j5_ok hd a1 a2 hQ p51 p52 hS (by kernel_rfl)
  · replace hS := cond_f hc hS
    refine zrCondF (by kernel_rfl) ?_
    refine zrKeep (J := f6_l3_e0_J a1 a2 p51) (by kernel_rfl) ?_
    refine zrExit ?_
    refine zkSeqX ?_
    refine zkNil ?_
    exact endQ hS hQ (finL_x (by intro h; cases h) (by show _ = _ ∧ _ = _; exact ⟨rfl, rfl⟩))
noncomputable def f6_l3 (a1 : GScreen) (a2 : List GAct) (x : Gterminal × Int) : Option ((Gterminal × Int) ⊕ Gterminal) := (bif (decide (x.2 < (a2.length : Int))) then (f6_l3_j4 a1 a2 x.1 x.2 true) else (f6_l3_j4 a1 a2 x.1 x.2 false))
theorem f6_l3_ok {d : Nat} (hd : 8 ≤ d) (a1 : GScreen) (a2 : List GAct) {r : (Gterminal × Int) ⊕ Gterminal} {Q : PX → St → Prop} (hQ : ∀ e st', finL (f6_l3_H a1 a2) (f6_l3_X a1 a2) r e st' → Q e st') {x : Gterminal × Int} (hS : f6_l3 a1 a2 x = some r) {st : St} (he : f6_l3_H a1 a2 x st) : ZR (lev codes baseL (d - 1)) Q c6_4 [] st := by
  refine zrKeep he ?_
  unfold f6_l3 at hS
  refine zrSeq ?_
  refine zrReg ?_
  refine zlBool (d := 33) (op := (.cmpI .lss (.tmp 32) (.tmp 31))) (g := none) (j := 1) (decide (x.2 < (a2.length : Int))) rfl (by kernel_rfl) (by kernel_rfl) (by kernel_rfl) (fun hc => ?_) (fun hc => ?_)
  · replace hS := cond_t hc hS
    refine zlEnd (by kernel_rfl) ?_
    refine zkSeq ?_
    exact f6_l3_j4_ok hd a1 a2 hQ x.1 x.2 true hS (by kernel_rfl)
  · replace hS := cond_f hc hS
    refine zlEnd (by kernel_rfl) ?_
    refine zkSeq ?_
    exact f6_l3_j4_ok hd a1 a2 hQ x.1 x.2 false hS (by kernel_rfl)
def f6_j1_J (a1 : GScreen) (a2 : List GAct) : St := ⟨(up (up (up (fun _ => .un) 4 (.r (.ptr 40 0 0))) 2 (.r (.ptr 24 0 0))) 1 (.d (.sl a2.length (e_GAct.cells a2)))), (up (up (hB fun _ => 0) 40 ⟨0, some (.box (bx_GScreen (GScreen.mk (GGrid.mk 0 0 ([])) 0 0 false 0 0 (GPen.mk 0 0 0) 0 (GStops.mk (fun _ => 0)) (0, 0) 0 (GSaved.mk 0 0 (GPen.mk 0 0 0) false (0, 0) 0) (GGrid.mk 0 0 ([])) ([]) ([])) (.d (.sl ([] : List GCell).length (e_GCell.cells ([])))) (.d (.sl ([] : List GCell).length (e_GCell.cells ([])))) (.d (.sl ([] : List GLine).length (e_GLine.cells ([]))))))⟩) 24 ⟨0, some (.box (bx_GScreen a1 (.d (.sl a1.Grid.Cells.length (e_GCell.cells a1.Grid.Cells))) (.d (.sl a1.Other.Cells.length (e_GCell.cells a1.Other.Cells))) (.d (.sl a1.Past.length (e_GLine.cells a1.Past)))))⟩)⟩
noncomputable def f6_j1 (a1 : GScreen) (a2 : List GAct) : Option (GScreen × (List UInt8) × Int) := ((f14 a1).bind fun z16 => ((loopO (f6_l3 a1 a2) ((Gterminal.mk z16 ([])), 0)).bind fun z25 => (f6_j2 a1 a2 z25)))
theorem f6_j1_ok {d : Nat} (hd : 8 ≤ d) (a1 : GScreen) (a2 : List GAct) {r : GScreen × (List UInt8) × Int} {Q : PX → St → Prop} (hQ : ∀ e st', f6_Q r e st' → Q e st')  (hS : f6_j1 a1 a2 = some r) {st : St} (he : keepSt [1, 2, 4] [(24, .id 24), (40, .id 40)] [] st = f6_j1_J a1 a2) : ZR (lev codes baseL (d - 1)) Q c6_5 [] st := by
  refine zrKeep he ?_
  unfold f6_j1 at hS
  refine zrSeq ?_
  refine zrReg ?_
  refine zlRun (n := 1) (j := 1) rfl (by kernel_rfl) ?_
  refine bindE hS (fun z16 hz16 hS => ?_)
  refine zlOp (d := some 27) (op := (.callf 14 [(.tmp 26)])) (g := none) (v := (.agg ((.d (.int .i64 z16.Grid.Wide)) :: ((.d (.int .i64 z16.Grid.High)) :: ((.r (.msl 224 1 0 z16.Grid.Cells.length)) :: ((.d (.int .i64 z16.Row)) :: ((.d (.int .i64 z16.Col)) :: ((.d (.bool z16.Late)) :: ((.d (.int .i64 z16.Top)) :: ((.d (.int .i64 z16.Bottom)) :: ((.d (.int .i64 z16.Pen.Flags)) :: ((.d (.int .i64 z16.Pen.Fore)) :: ((.d (.int .i64 z16.Pen.Back)) :: ((.d (.int .i64 z16.Modes)) :: (((eInt .u64).row 4 z16.Stops.Bits) ++ ((.d (.int .i64 z16.Pages.1)) :: ((.d (.int .i64 z16.Pages.2)) :: ((.d (.int .i64 z16.Shift)) :: ((.d (.int .i64 z16.Saved.Row)) :: ((.d (.int .i64 z16.Saved.Col)) :: ((.d (.int .i64 z16.Saved.Pen.Flags)) :: ((.d (.int .i64 z16.Saved.Pen.Fore)) :: ((.d (.int .i64 z16.Saved.Pen.Back)) :: ((.d (.bool z16.Saved.Origin)) :: ((.d (.int .i64 z16.Saved.Pages.1)) :: ((.d (.int .i64 z16.Saved.Pages.2)) :: ((.d (.int .i64 z16.Saved.Shift)) :: ((.d (.int .i64 z16.Other.Wide)) :: ((.d (.int .i64 z16.Other.High)) :: ((.r (.msl 225 1 0 z16.Other.Cells.length)) :: ((.d (.str z16.Title)) :: ((.r (.msl 226 1 0 z16.Past.length)) :: [])))))))))))))))))))))))))))))))) (ups := [(224, ⟨1, some (.own 46 4 (e_GCell.cells z16.Grid.Cells))⟩), (225, ⟨1, some (.own 46 4 (e_GCell.cells z16.Other.Cells))⟩), (226, ⟨1, some (.own 73 1 (e_GLine.cells z16.Past))⟩)]) (j := 2) rfl (by kernel_rfl) (by kernel_rfl) (ev_callF (args := [(.agg ((.d (.int .i64 a1.Grid.Wide)) :: ((.d (.int .i64 a1.Grid.High)) :: ((.d (.sl a1.Grid.Cells.length (e_GCell.cells a1.Grid.Cells))) :: ((.d (.int .i64 a1.Row)) :: ((.d (.int .i64 a1.Col)) :: ((.d (.bool a1.Late)) :: ((.d (.int .i64 a1.Top)) :: ((.d (.int .i64 a1.Bottom)) :: ((.d (.int .i64 a1.Pen.Flags)) :: ((.d (.int .i64 a1.Pen.Fore)) :: ((.d (.int .i64 a1.Pen.Back)) :: ((.d (.int .i64 a1.Modes)) :: (((eInt .u64).row 4 a1.Stops.Bits) ++ ((.d (.int .i64 a1.Pages.1)) :: ((.d (.int .i64 a1.Pages.2)) :: ((.d (.int .i64 a1.Shift)) :: ((.d (.int .i64 a1.Saved.Row)) :: ((.d (.int .i64 a1.Saved.Col)) :: ((.d (.int .i64 a1.Saved.Pen.Flags)) :: ((.d (.int .i64 a1.Saved.Pen.Fore)) :: ((.d (.int .i64 a1.Saved.Pen.Back)) :: ((.d (.bool a1.Saved.Origin)) :: ((.d (.int .i64 a1.Saved.Pages.1)) :: ((.d (.int .i64 a1.Saved.Pages.2)) :: ((.d (.int .i64 a1.Saved.Shift)) :: ((.d (.int .i64 a1.Other.Wide)) :: ((.d (.int .i64 a1.Other.High)) :: ((.d (.sl a1.Other.Cells.length (e_GCell.cells a1.Other.Cells))) :: ((.d (.str a1.Title)) :: ((.d (.sl a1.Past.length (e_GLine.cells a1.Past))) :: [])))))))))))))))))))))))))))))))]) (args' := [(.agg ((.d (.int .i64 a1.Grid.Wide)) :: ((.d (.int .i64 a1.Grid.High)) :: ((.d (.sl a1.Grid.Cells.length (e_GCell.cells a1.Grid.Cells))) :: ((.d (.int .i64 a1.Row)) :: ((.d (.int .i64 a1.Col)) :: ((.d (.bool a1.Late)) :: ((.d (.int .i64 a1.Top)) :: ((.d (.int .i64 a1.Bottom)) :: ((.d (.int .i64 a1.Pen.Flags)) :: ((.d (.int .i64 a1.Pen.Fore)) :: ((.d (.int .i64 a1.Pen.Back)) :: ((.d (.int .i64 a1.Modes)) :: (((eInt .u64).row 4 a1.Stops.Bits) ++ ((.d (.int .i64 a1.Pages.1)) :: ((.d (.int .i64 a1.Pages.2)) :: ((.d (.int .i64 a1.Shift)) :: ((.d (.int .i64 a1.Saved.Row)) :: ((.d (.int .i64 a1.Saved.Col)) :: ((.d (.int .i64 a1.Saved.Pen.Flags)) :: ((.d (.int .i64 a1.Saved.Pen.Fore)) :: ((.d (.int .i64 a1.Saved.Pen.Back)) :: ((.d (.bool a1.Saved.Origin)) :: ((.d (.int .i64 a1.Saved.Pages.1)) :: ((.d (.int .i64 a1.Saved.Pages.2)) :: ((.d (.int .i64 a1.Saved.Shift)) :: ((.d (.int .i64 a1.Other.Wide)) :: ((.d (.int .i64 a1.Other.High)) :: ((.d (.sl a1.Other.Cells.length (e_GCell.cells a1.Other.Cells))) :: ((.d (.str a1.Title)) :: ((.d (.sl a1.Past.length (e_GLine.cells a1.Past))) :: [])))))))))))))))))))))))))))))))]) (l := [(.agg ((.d (.int .i64 a1.Grid.Wide)) :: ((.d (.int .i64 a1.Grid.High)) :: ((.d (.sl a1.Grid.Cells.length (e_GCell.cells a1.Grid.Cells))) :: ((.d (.int .i64 a1.Row)) :: ((.d (.int .i64 a1.Col)) :: ((.d (.bool a1.Late)) :: ((.d (.int .i64 a1.Top)) :: ((.d (.int .i64 a1.Bottom)) :: ((.d (.int .i64 a1.Pen.Flags)) :: ((.d (.int .i64 a1.Pen.Fore)) :: ((.d (.int .i64 a1.Pen.Back)) :: ((.d (.int .i64 a1.Modes)) :: (((eInt .u64).row 4 a1.Stops.Bits) ++ ((.d (.int .i64 a1.Pages.1)) :: ((.d (.int .i64 a1.Pages.2)) :: ((.d (.int .i64 a1.Shift)) :: ((.d (.int .i64 a1.Saved.Row)) :: ((.d (.int .i64 a1.Saved.Col)) :: ((.d (.int .i64 a1.Saved.Pen.Flags)) :: ((.d (.int .i64 a1.Saved.Pen.Fore)) :: ((.d (.int .i64 a1.Saved.Pen.Back)) :: ((.d (.bool a1.Saved.Origin)) :: ((.d (.int .i64 a1.Saved.Pages.1)) :: ((.d (.int .i64 a1.Saved.Pages.2)) :: ((.d (.int .i64 a1.Saved.Shift)) :: ((.d (.int .i64 a1.Other.Wide)) :: ((.d (.int .i64 a1.Other.High)) :: ((.d (.sl a1.Other.Cells.length (e_GCell.cells a1.Other.Cells))) :: ((.d (.str a1.Title)) :: ((.d (.sl a1.Past.length (e_GLine.cells a1.Past))) :: [])))))))))))))))))))))))))))))))]) (refs := []) (r := (.agg ((.d (.int .i64 z16.Grid.Wide)) :: ((.d (.int .i64 z16.Grid.High)) :: ((.r (.own 0 46 4 z16.Grid.Cells.length (e_GCell.cells z16.Grid.Cells))) :: ((.d (.int .i64 z16.Row)) :: ((.d (.int .i64 z16.Col)) :: ((.d (.bool z16.Late)) :: ((.d (.int .i64 z16.Top)) :: ((.d (.int .i64 z16.Bottom)) :: ((.d (.int .i64 z16.Pen.Flags)) :: ((.d (.int .i64 z16.Pen.Fore)) :: ((.d (.int .i64 z16.Pen.Back)) :: ((.d (.int .i64 z16.Modes)) :: (((eInt .u64).row 4 z16.Stops.Bits) ++ ((.d (.int .i64 z16.Pages.1)) :: ((.d (.int .i64 z16.Pages.2)) :: ((.d (.int .i64 z16.Shift)) :: ((.d (.int .i64 z16.Saved.Row)) :: ((.d (.int .i64 z16.Saved.Col)) :: ((.d (.int .i64 z16.Saved.Pen.Flags)) :: ((.d (.int .i64 z16.Saved.Pen.Fore)) :: ((.d (.int .i64 z16.Saved.Pen.Back)) :: ((.d (.bool z16.Saved.Origin)) :: ((.d (.int .i64 z16.Saved.Pages.1)) :: ((.d (.int .i64 z16.Saved.Pages.2)) :: ((.d (.int .i64 z16.Saved.Shift)) :: ((.d (.int .i64 z16.Other.Wide)) :: ((.d (.int .i64 z16.Other.High)) :: ((.r (.own 1 46 4 z16.Other.Cells.length (e_GCell.cells z16.Other.Cells))) :: ((.d (.str z16.Title)) :: ((.r (.own 2 73 1 z16.Past.length (e_GLine.cells z16.Past))) :: [])))))))))))))))))))))))))))))))) (v := (.agg ((.d (.int .i64 z16.Grid.Wide)) :: ((.d (.int .i64 z16.Grid.High)) :: ((.r (.msl 224 1 0 z16.Grid.Cells.length)) :: ((.d (.int .i64 z16.Row)) :: ((.d (.int .i64 z16.Col)) :: ((.d (.bool z16.Late)) :: ((.d (.int .i64 z16.Top)) :: ((.d (.int .i64 z16.Bottom)) :: ((.d (.int .i64 z16.Pen.Flags)) :: ((.d (.int .i64 z16.Pen.Fore)) :: ((.d (.int .i64 z16.Pen.Back)) :: ((.d (.int .i64 z16.Modes)) :: (((eInt .u64).row 4 z16.Stops.Bits) ++ ((.d (.int .i64 z16.Pages.1)) :: ((.d (.int .i64 z16.Pages.2)) :: ((.d (.int .i64 z16.Shift)) :: ((.d (.int .i64 z16.Saved.Row)) :: ((.d (.int .i64 z16.Saved.Col)) :: ((.d (.int .i64 z16.Saved.Pen.Flags)) :: ((.d (.int .i64 z16.Saved.Pen.Fore)) :: ((.d (.int .i64 z16.Saved.Pen.Back)) :: ((.d (.bool z16.Saved.Origin)) :: ((.d (.int .i64 z16.Saved.Pages.1)) :: ((.d (.int .i64 z16.Saved.Pages.2)) :: ((.d (.int .i64 z16.Saved.Shift)) :: ((.d (.int .i64 z16.Other.Wide)) :: ((.d (.int .i64 z16.Other.High)) :: ((.r (.msl 225 1 0 z16.Other.Cells.length)) :: ((.d (.str z16.Title)) :: ((.r (.msl 226 1 0 z16.Past.length)) :: [])))))))))))))))))))))))))))))))) (ups' := [(224, ⟨1, some (.own 46 4 (e_GCell.cells z16.Grid.Cells))⟩), (225, ⟨1, some (.own 46 4 (e_GCell.cells z16.Other.Cells))⟩), (226, ⟨1, some (.own 73 1 (e_GLine.cells z16.Past))⟩)]) (by kernel_rfl) (by kernel_rfl) (by kernel_rfl) (fz_cons rfl fz_nil) (by kernel_rfl) (f14_ok (d - 1) (dpt hd rfl) a1 z16 hz16) (by kernel_rfl) (by kernel_rfl) (by kernel_rfl) (by kernel_rfl)) ?_
  refine zlRun (n := 3) (j := 5) rfl (by kernel_rfl) ?_
  refine zlEnd (by kernel_rfl) ?_
  refine zkSeq ?_
  refine zrSeq ?_
  refine zrSeq ?_
  refine zrReg ?_
  refine zlRun (n := 3) (j := 3) rfl (by kernel_rfl) ?_
  refine zlEnd (by kernel_rfl) ?_
  refine zkSeq ?_
  refine zrBlk ?_
  refine bindE hS (fun z25 hz25 hS => ?_)
  refine zrLoop (f6_l3_H a1 a2) (f6_l3_X a1 a2) (fun x st r Q h0 hS hQ => f6_l3_ok hd a1 a2 hQ hS h0) (x := ((Gterminal.mk z16 ([])), 0)) (z := z25) (by show keepSt _ _ _ _ = _; kernel_rfl) hz25 ?_
  intro e st' _ hX
  obtain ⟨rfl, rfl⟩ : _ ∧ _ := hX
  refine zkBlkX ?_
  refine zkSeq ?_
  exact f6_j2_ok hd a1 a2 hQ z25 hS (by kernel_rfl)
def f6_j0_J (a1 : GScreen) (a2 : List GAct) : St := ⟨(up (up (up (fun _ => .un) 4 (.r (.ptr 40 0 0))) 2 (.r (.ptr 24 0 0))) 1 (.d (.sl a2.length (e_GAct.cells a2)))), (up (up (hB fun _ => 0) 40 ⟨0, some (.box (bx_GScreen (GScreen.mk (GGrid.mk 0 0 ([])) 0 0 false 0 0 (GPen.mk 0 0 0) 0 (GStops.mk (fun _ => 0)) (0, 0) 0 (GSaved.mk 0 0 (GPen.mk 0 0 0) false (0, 0) 0) (GGrid.mk 0 0 ([])) ([]) ([])) (.d (.sl ([] : List GCell).length (e_GCell.cells ([])))) (.d (.sl ([] : List GCell).length (e_GCell.cells ([])))) (.d (.sl ([] : List GLine).length (e_GLine.cells ([]))))))⟩) 24 ⟨0, some (.box (bx_GScreen a1 (.d (.sl a1.Grid.Cells.length (e_GCell.cells a1.Grid.Cells))) (.d (.sl a1.Other.Cells.length (e_GCell.cells a1.Other.Cells))) (.d (.sl a1.Past.length (e_GLine.cells a1.Past)))))⟩)⟩
noncomputable def f6_j0 (a1 : GScreen) (a2 : List GAct) : Option (GScreen × (List UInt8) × Int) := ((f15 a2).bind fun z26 => (bif (!decide (z26 = 0)) then ((f14 a1).bind fun z27 => (some (z27, [], z26))) else (f6_j1 a1 a2 )))
theorem f6_j0_ok {d : Nat} (hd : 8 ≤ d) (a1 : GScreen) (a2 : List GAct) {r : GScreen × (List UInt8) × Int} {Q : PX → St → Prop} (hQ : ∀ e st', f6_Q r e st' → Q e st')  (hS : f6_j0 a1 a2 = some r) {st : St} (he : keepSt [1, 2, 4] [(24, .id 24), (40, .id 40)] [.cell 40 2 0 0 1, .cell 40 30 0 0 1, .cell 40 32 0 0 1] st = f6_j0_J a1 a2) : ZR (lev codes baseL (d - 1)) Q c6_6 [] st := by
  refine zrKeep he ?_
  unfold f6_j0 at hS
  refine zrSeq ?_
  refine zrSeq ?_
  refine zrReg ?_
  refine zlRun (n := 1) (j := 1) rfl (by kernel_rfl) ?_
  refine bindE hS (fun z26 hz26 hS => ?_)
  refine zlOp (d := some 20) (op := (.call 15 [(.tmp 19)])) (g := none) (j := 2) rfl (by kernel_rfl) (by kernel_rfl) (ev_callA (by kernel_rfl) (f15_ok (d - 1) (dpt hd rfl) a2 z26 hz26) (by kernel_rfl) (by kernel_rfl)) ?_
  refine zlRun (n := 1) (j := 3) rfl (by kernel_rfl) ?_
  refine zlEnd (by kernel_rfl) ?_
  refine zkSeq ?_
  refine zrSeq ?_
  refine zrReg ?_
  refine zlRun (n := 1) (j := 1) rfl (by kernel_rfl) ?_
  refine zlBool (d := 22) (op := (.cmpI .neq (.tmp 21) (.const (.int .i64 0)))) (g := none) (j := 2) (!decide (z26 = 0)) rfl (by kernel_rfl) (by kernel_rfl) (by kernel_rfl) (fun hc => ?_) (fun hc => ?_)
  · replace hS := cond_t hc hS
    refine zlEnd (by kernel_rfl) ?_
    refine zkSeq ?_
    refine zrCondT (by kernel_rfl) ?_
    refine zrSeq ?_
    refine zrReg ?_
    refine zlRun (n := 1) (j := 1) rfl (by kernel_rfl) ?_
    refine bindE hS (fun z27 hz27 hS => ?_)
    refine zlOp (d := some 24) (op := (.callf 14 [(.tmp 23)])) (g := none) (v := (.agg ((.d (.int .i64 z27.Grid.Wide)) :: ((.d (.int .i64 z27.Grid.High)) :: ((.r (.msl 200 1 0 z27.Grid.Cells.length)) :: ((.d (.int .i64 z27.Row)) :: ((.d (.int .i64 z27.Col)) :: ((.d (.bool z27.Late)) :: ((.d (.int .i64 z27.Top)) :: ((.d (.int .i64 z27.Bottom)) :: ((.d (.int .i64 z27.Pen.Flags)) :: ((.d (.int .i64 z27.Pen.Fore)) :: ((.d (.int .i64 z27.Pen.Back)) :: ((.d (.int .i64 z27.Modes)) :: (((eInt .u64).row 4 z27.Stops.Bits) ++ ((.d (.int .i64 z27.Pages.1)) :: ((.d (.int .i64 z27.Pages.2)) :: ((.d (.int .i64 z27.Shift)) :: ((.d (.int .i64 z27.Saved.Row)) :: ((.d (.int .i64 z27.Saved.Col)) :: ((.d (.int .i64 z27.Saved.Pen.Flags)) :: ((.d (.int .i64 z27.Saved.Pen.Fore)) :: ((.d (.int .i64 z27.Saved.Pen.Back)) :: ((.d (.bool z27.Saved.Origin)) :: ((.d (.int .i64 z27.Saved.Pages.1)) :: ((.d (.int .i64 z27.Saved.Pages.2)) :: ((.d (.int .i64 z27.Saved.Shift)) :: ((.d (.int .i64 z27.Other.Wide)) :: ((.d (.int .i64 z27.Other.High)) :: ((.r (.msl 201 1 0 z27.Other.Cells.length)) :: ((.d (.str z27.Title)) :: ((.r (.msl 202 1 0 z27.Past.length)) :: [])))))))))))))))))))))))))))))))) (ups := [(200, ⟨1, some (.own 46 4 (e_GCell.cells z27.Grid.Cells))⟩), (201, ⟨1, some (.own 46 4 (e_GCell.cells z27.Other.Cells))⟩), (202, ⟨1, some (.own 73 1 (e_GLine.cells z27.Past))⟩)]) (j := 2) rfl (by kernel_rfl) (by kernel_rfl) (ev_callF (args := [(.agg ((.d (.int .i64 a1.Grid.Wide)) :: ((.d (.int .i64 a1.Grid.High)) :: ((.d (.sl a1.Grid.Cells.length (e_GCell.cells a1.Grid.Cells))) :: ((.d (.int .i64 a1.Row)) :: ((.d (.int .i64 a1.Col)) :: ((.d (.bool a1.Late)) :: ((.d (.int .i64 a1.Top)) :: ((.d (.int .i64 a1.Bottom)) :: ((.d (.int .i64 a1.Pen.Flags)) :: ((.d (.int .i64 a1.Pen.Fore)) :: ((.d (.int .i64 a1.Pen.Back)) :: ((.d (.int .i64 a1.Modes)) :: (((eInt .u64).row 4 a1.Stops.Bits) ++ ((.d (.int .i64 a1.Pages.1)) :: ((.d (.int .i64 a1.Pages.2)) :: ((.d (.int .i64 a1.Shift)) :: ((.d (.int .i64 a1.Saved.Row)) :: ((.d (.int .i64 a1.Saved.Col)) :: ((.d (.int .i64 a1.Saved.Pen.Flags)) :: ((.d (.int .i64 a1.Saved.Pen.Fore)) :: ((.d (.int .i64 a1.Saved.Pen.Back)) :: ((.d (.bool a1.Saved.Origin)) :: ((.d (.int .i64 a1.Saved.Pages.1)) :: ((.d (.int .i64 a1.Saved.Pages.2)) :: ((.d (.int .i64 a1.Saved.Shift)) :: ((.d (.int .i64 a1.Other.Wide)) :: ((.d (.int .i64 a1.Other.High)) :: ((.d (.sl a1.Other.Cells.length (e_GCell.cells a1.Other.Cells))) :: ((.d (.str a1.Title)) :: ((.d (.sl a1.Past.length (e_GLine.cells a1.Past))) :: [])))))))))))))))))))))))))))))))]) (args' := [(.agg ((.d (.int .i64 a1.Grid.Wide)) :: ((.d (.int .i64 a1.Grid.High)) :: ((.d (.sl a1.Grid.Cells.length (e_GCell.cells a1.Grid.Cells))) :: ((.d (.int .i64 a1.Row)) :: ((.d (.int .i64 a1.Col)) :: ((.d (.bool a1.Late)) :: ((.d (.int .i64 a1.Top)) :: ((.d (.int .i64 a1.Bottom)) :: ((.d (.int .i64 a1.Pen.Flags)) :: ((.d (.int .i64 a1.Pen.Fore)) :: ((.d (.int .i64 a1.Pen.Back)) :: ((.d (.int .i64 a1.Modes)) :: (((eInt .u64).row 4 a1.Stops.Bits) ++ ((.d (.int .i64 a1.Pages.1)) :: ((.d (.int .i64 a1.Pages.2)) :: ((.d (.int .i64 a1.Shift)) :: ((.d (.int .i64 a1.Saved.Row)) :: ((.d (.int .i64 a1.Saved.Col)) :: ((.d (.int .i64 a1.Saved.Pen.Flags)) :: ((.d (.int .i64 a1.Saved.Pen.Fore)) :: ((.d (.int .i64 a1.Saved.Pen.Back)) :: ((.d (.bool a1.Saved.Origin)) :: ((.d (.int .i64 a1.Saved.Pages.1)) :: ((.d (.int .i64 a1.Saved.Pages.2)) :: ((.d (.int .i64 a1.Saved.Shift)) :: ((.d (.int .i64 a1.Other.Wide)) :: ((.d (.int .i64 a1.Other.High)) :: ((.d (.sl a1.Other.Cells.length (e_GCell.cells a1.Other.Cells))) :: ((.d (.str a1.Title)) :: ((.d (.sl a1.Past.length (e_GLine.cells a1.Past))) :: [])))))))))))))))))))))))))))))))]) (l := [(.agg ((.d (.int .i64 a1.Grid.Wide)) :: ((.d (.int .i64 a1.Grid.High)) :: ((.d (.sl a1.Grid.Cells.length (e_GCell.cells a1.Grid.Cells))) :: ((.d (.int .i64 a1.Row)) :: ((.d (.int .i64 a1.Col)) :: ((.d (.bool a1.Late)) :: ((.d (.int .i64 a1.Top)) :: ((.d (.int .i64 a1.Bottom)) :: ((.d (.int .i64 a1.Pen.Flags)) :: ((.d (.int .i64 a1.Pen.Fore)) :: ((.d (.int .i64 a1.Pen.Back)) :: ((.d (.int .i64 a1.Modes)) :: (((eInt .u64).row 4 a1.Stops.Bits) ++ ((.d (.int .i64 a1.Pages.1)) :: ((.d (.int .i64 a1.Pages.2)) :: ((.d (.int .i64 a1.Shift)) :: ((.d (.int .i64 a1.Saved.Row)) :: ((.d (.int .i64 a1.Saved.Col)) :: ((.d (.int .i64 a1.Saved.Pen.Flags)) :: ((.d (.int .i64 a1.Saved.Pen.Fore)) :: ((.d (.int .i64 a1.Saved.Pen.Back)) :: ((.d (.bool a1.Saved.Origin)) :: ((.d (.int .i64 a1.Saved.Pages.1)) :: ((.d (.int .i64 a1.Saved.Pages.2)) :: ((.d (.int .i64 a1.Saved.Shift)) :: ((.d (.int .i64 a1.Other.Wide)) :: ((.d (.int .i64 a1.Other.High)) :: ((.d (.sl a1.Other.Cells.length (e_GCell.cells a1.Other.Cells))) :: ((.d (.str a1.Title)) :: ((.d (.sl a1.Past.length (e_GLine.cells a1.Past))) :: [])))))))))))))))))))))))))))))))]) (refs := []) (r := (.agg ((.d (.int .i64 z27.Grid.Wide)) :: ((.d (.int .i64 z27.Grid.High)) :: ((.r (.own 0 46 4 z27.Grid.Cells.length (e_GCell.cells z27.Grid.Cells))) :: ((.d (.int .i64 z27.Row)) :: ((.d (.int .i64 z27.Col)) :: ((.d (.bool z27.Late)) :: ((.d (.int .i64 z27.Top)) :: ((.d (.int .i64 z27.Bottom)) :: ((.d (.int .i64 z27.Pen.Flags)) :: ((.d (.int .i64 z27.Pen.Fore)) :: ((.d (.int .i64 z27.Pen.Back)) :: ((.d (.int .i64 z27.Modes)) :: (((eInt .u64).row 4 z27.Stops.Bits) ++ ((.d (.int .i64 z27.Pages.1)) :: ((.d (.int .i64 z27.Pages.2)) :: ((.d (.int .i64 z27.Shift)) :: ((.d (.int .i64 z27.Saved.Row)) :: ((.d (.int .i64 z27.Saved.Col)) :: ((.d (.int .i64 z27.Saved.Pen.Flags)) :: ((.d (.int .i64 z27.Saved.Pen.Fore)) :: ((.d (.int .i64 z27.Saved.Pen.Back)) :: ((.d (.bool z27.Saved.Origin)) :: ((.d (.int .i64 z27.Saved.Pages.1)) :: ((.d (.int .i64 z27.Saved.Pages.2)) :: ((.d (.int .i64 z27.Saved.Shift)) :: ((.d (.int .i64 z27.Other.Wide)) :: ((.d (.int .i64 z27.Other.High)) :: ((.r (.own 1 46 4 z27.Other.Cells.length (e_GCell.cells z27.Other.Cells))) :: ((.d (.str z27.Title)) :: ((.r (.own 2 73 1 z27.Past.length (e_GLine.cells z27.Past))) :: [])))))))))))))))))))))))))))))))) (v := (.agg ((.d (.int .i64 z27.Grid.Wide)) :: ((.d (.int .i64 z27.Grid.High)) :: ((.r (.msl 200 1 0 z27.Grid.Cells.length)) :: ((.d (.int .i64 z27.Row)) :: ((.d (.int .i64 z27.Col)) :: ((.d (.bool z27.Late)) :: ((.d (.int .i64 z27.Top)) :: ((.d (.int .i64 z27.Bottom)) :: ((.d (.int .i64 z27.Pen.Flags)) :: ((.d (.int .i64 z27.Pen.Fore)) :: ((.d (.int .i64 z27.Pen.Back)) :: ((.d (.int .i64 z27.Modes)) :: (((eInt .u64).row 4 z27.Stops.Bits) ++ ((.d (.int .i64 z27.Pages.1)) :: ((.d (.int .i64 z27.Pages.2)) :: ((.d (.int .i64 z27.Shift)) :: ((.d (.int .i64 z27.Saved.Row)) :: ((.d (.int .i64 z27.Saved.Col)) :: ((.d (.int .i64 z27.Saved.Pen.Flags)) :: ((.d (.int .i64 z27.Saved.Pen.Fore)) :: ((.d (.int .i64 z27.Saved.Pen.Back)) :: ((.d (.bool z27.Saved.Origin)) :: ((.d (.int .i64 z27.Saved.Pages.1)) :: ((.d (.int .i64 z27.Saved.Pages.2)) :: ((.d (.int .i64 z27.Saved.Shift)) :: ((.d (.int .i64 z27.Other.Wide)) :: ((.d (.int .i64 z27.Other.High)) :: ((.r (.msl 201 1 0 z27.Other.Cells.length)) :: ((.d (.str z27.Title)) :: ((.r (.msl 202 1 0 z27.Past.length)) :: [])))))))))))))))))))))))))))))))) (ups' := [(200, ⟨1, some (.own 46 4 (e_GCell.cells z27.Grid.Cells))⟩), (201, ⟨1, some (.own 46 4 (e_GCell.cells z27.Other.Cells))⟩), (202, ⟨1, some (.own 73 1 (e_GLine.cells z27.Past))⟩)]) (by kernel_rfl) (by kernel_rfl) (by kernel_rfl) (fz_cons rfl fz_nil) (by kernel_rfl) (f14_ok (d - 1) (dpt hd rfl) a1 z27 hz27) (by kernel_rfl) (by kernel_rfl) (by kernel_rfl) (by kernel_rfl)) ?_
    refine zlRun (n := 4) (j := 6) rfl (by kernel_rfl) ?_
    refine zlEnd (by kernel_rfl) ?_
    refine zkSeq ?_
    refine zrRet ?_
    refine zkSeqR ?_
    refine zkNil ?_
    exact endQ hS hQ (fRet (by kernel_rfl) ((congrArg (fun s => outR s 0 c6.res) (by kernel_rfl : finSt c6.fin _ = f6_fin z27 [] z26)).trans (f6_out z27 [] z26)))
  · replace hS := cond_f hc hS
    refine zlEnd (by kernel_rfl) ?_
    refine zkSeq ?_
    refine zrCondF (by kernel_rfl) ?_
    refine zrSkip ?_
    refine zkSeq ?_
    exact f6_j1_ok hd a1 a2 hQ  hS (by kernel_rfl)
noncomputable def f6 (a1 : GScreen) (a2 : List GAct) : Option (GScreen × (List UInt8) × Int) := ((f13 a1).bind fun z28 => (bif (!decide (z28 = 0)) then ((f14 a1).bind fun z29 => (some (z29, [], z28))) else (f6_j0 a1 a2 )))
theorem f6_ok (d : Nat) (hd : 8 ≤ d) (a1 : GScreen) (a2 : List GAct) (r : GScreen × (List UInt8) × Int) (hS : f6 a1 a2 = some r) : lev codes baseL d 6 [(.agg ((.d (.int .i64 a1.Grid.Wide)) :: ((.d (.int .i64 a1.Grid.High)) :: ((.d (.sl a1.Grid.Cells.length (e_GCell.cells a1.Grid.Cells))) :: ((.d (.int .i64 a1.Row)) :: ((.d (.int .i64 a1.Col)) :: ((.d (.bool a1.Late)) :: ((.d (.int .i64 a1.Top)) :: ((.d (.int .i64 a1.Bottom)) :: ((.d (.int .i64 a1.Pen.Flags)) :: ((.d (.int .i64 a1.Pen.Fore)) :: ((.d (.int .i64 a1.Pen.Back)) :: ((.d (.int .i64 a1.Modes)) :: (((eInt .u64).row 4 a1.Stops.Bits) ++ ((.d (.int .i64 a1.Pages.1)) :: ((.d (.int .i64 a1.Pages.2)) :: ((.d (.int .i64 a1.Shift)) :: ((.d (.int .i64 a1.Saved.Row)) :: ((.d (.int .i64 a1.Saved.Col)) :: ((.d (.int .i64 a1.Saved.Pen.Flags)) :: ((.d (.int .i64 a1.Saved.Pen.Fore)) :: ((.d (.int .i64 a1.Saved.Pen.Back)) :: ((.d (.bool a1.Saved.Origin)) :: ((.d (.int .i64 a1.Saved.Pages.1)) :: ((.d (.int .i64 a1.Saved.Pages.2)) :: ((.d (.int .i64 a1.Saved.Shift)) :: ((.d (.int .i64 a1.Other.Wide)) :: ((.d (.int .i64 a1.Other.High)) :: ((.d (.sl a1.Other.Cells.length (e_GCell.cells a1.Other.Cells))) :: ((.d (.str a1.Title)) :: ((.d (.sl a1.Past.length (e_GLine.cells a1.Past))) :: []))))))))))))))))))))))))))))))), (.d (.sl a2.length (e_GAct.cells a2)))] [] = some ((.tup [(.agg ((.d (.int .i64 r.1.Grid.Wide)) :: ((.d (.int .i64 r.1.Grid.High)) :: ((.r (.own 0 46 4 r.1.Grid.Cells.length (e_GCell.cells r.1.Grid.Cells))) :: ((.d (.int .i64 r.1.Row)) :: ((.d (.int .i64 r.1.Col)) :: ((.d (.bool r.1.Late)) :: ((.d (.int .i64 r.1.Top)) :: ((.d (.int .i64 r.1.Bottom)) :: ((.d (.int .i64 r.1.Pen.Flags)) :: ((.d (.int .i64 r.1.Pen.Fore)) :: ((.d (.int .i64 r.1.Pen.Back)) :: ((.d (.int .i64 r.1.Modes)) :: (((eInt .u64).row 4 r.1.Stops.Bits) ++ ((.d (.int .i64 r.1.Pages.1)) :: ((.d (.int .i64 r.1.Pages.2)) :: ((.d (.int .i64 r.1.Shift)) :: ((.d (.int .i64 r.1.Saved.Row)) :: ((.d (.int .i64 r.1.Saved.Col)) :: ((.d (.int .i64 r.1.Saved.Pen.Flags)) :: ((.d (.int .i64 r.1.Saved.Pen.Fore)) :: ((.d (.int .i64 r.1.Saved.Pen.Back)) :: ((.d (.bool r.1.Saved.Origin)) :: ((.d (.int .i64 r.1.Saved.Pages.1)) :: ((.d (.int .i64 r.1.Saved.Pages.2)) :: ((.d (.int .i64 r.1.Saved.Shift)) :: ((.d (.int .i64 r.1.Other.Wide)) :: ((.d (.int .i64 r.1.Other.High)) :: ((.r (.own 1 46 4 r.1.Other.Cells.length (e_GCell.cells r.1.Other.Cells))) :: ((.d (.str r.1.Title)) :: ((.r (.own 2 73 1 r.1.Past.length (e_GLine.cells r.1.Past))) :: []))))))))))))))))))))))))))))))), (.d (.str r.2.1)), (.d (.int .i64 r.2.2))]), []) := by
  refine lev_go codes6 rfl rfl (Nat.le_trans (Nat.le_of_ble_eq_true rfl) hd) fun Q hQ => ?_
  unfold f6 at hS
  show ZR _ Q c6_b [] _
  replace hQ : ∀ e st', f6_Q r e st' → Q e st' := hQ
  refine zrSeq ?_
  refine zrReg ?_
  refine zlRun (n := 4) (j := 4) rfl (by kernel_rfl) ?_
  refine zlEnd (by kernel_rfl) ?_
  refine zkSeq ?_
  refine zrSeq ?_
  refine zrSeq ?_
  refine zrReg ?_
  refine zlRun (n := 1) (j := 1) rfl (by kernel_rfl) ?_
  refine bindE hS (fun z28 hz28 hS => ?_)
  refine zlOp (d := some 13) (op := (.call 13 [(.tmp 12)])) (g := none) (j := 2) rfl (by kernel_rfl) (by kernel_rfl) (ev_callA (by kernel_rfl) (f13_ok (d - 1) (dpt hd rfl) a1 z28 hz28) (by kernel_rfl) (by kernel_rfl)) ?_
  refine zlRun (n := 1) (j := 3) rfl (by kernel_rfl) ?_
  refine zlEnd (by kernel_rfl) ?_
  refine zkSeq ?_
  refine zrSeq ?_
  refine zrReg ?_
  refine zlRun (n := 1) (j := 1) rfl (by kernel_rfl) ?_
  refine zlBool (d := 15) (op := (.cmpI .neq (.tmp 14) (.const (.int .i64 0)))) (g := none) (j := 2) (!decide (z28 = 0)) rfl (by kernel_rfl) (by kernel_rfl) (by kernel_rfl) (fun hc => ?_) (fun hc => ?_)
  · replace hS := cond_t hc hS
    refine zlEnd (by kernel_rfl) ?_
    refine zkSeq ?_
    refine zrCondT (by kernel_rfl) ?_
    refine zrSeq ?_
    refine zrReg ?_
    refine zlRun (n := 1) (j := 1) rfl (by kernel_rfl) ?_
    refine bindE hS (fun z29 hz29 hS => ?_)
    refine zlOp (d := some 17) (op := (.callf 14 [(.tmp 16)])) (g := none) (v := (.agg ((.d (.int .i64 z29.Grid.Wide)) :: ((.d (.int .i64 z29.Grid.High)) :: ((.r (.msl 144 1 0 z29.Grid.Cells.length)) :: ((.d (.int .i64 z29.Row)) :: ((.d (.int .i64 z29.Col)) :: ((.d (.bool z29.Late)) :: ((.d (.int .i64 z29.Top)) :: ((.d (.int .i64 z29.Bottom)) :: ((.d (.int .i64 z29.Pen.Flags)) :: ((.d (.int .i64 z29.Pen.Fore)) :: ((.d (.int .i64 z29.Pen.Back)) :: ((.d (.int .i64 z29.Modes)) :: (((eInt .u64).row 4 z29.Stops.Bits) ++ ((.d (.int .i64 z29.Pages.1)) :: ((.d (.int .i64 z29.Pages.2)) :: ((.d (.int .i64 z29.Shift)) :: ((.d (.int .i64 z29.Saved.Row)) :: ((.d (.int .i64 z29.Saved.Col)) :: ((.d (.int .i64 z29.Saved.Pen.Flags)) :: ((.d (.int .i64 z29.Saved.Pen.Fore)) :: ((.d (.int .i64 z29.Saved.Pen.Back)) :: ((.d (.bool z29.Saved.Origin)) :: ((.d (.int .i64 z29.Saved.Pages.1)) :: ((.d (.int .i64 z29.Saved.Pages.2)) :: ((.d (.int .i64 z29.Saved.Shift)) :: ((.d (.int .i64 z29.Other.Wide)) :: ((.d (.int .i64 z29.Other.High)) :: ((.r (.msl 145 1 0 z29.Other.Cells.length)) :: ((.d (.str z29.Title)) :: ((.r (.msl 146 1 0 z29.Past.length)) :: [])))))))))))))))))))))))))))))))) (ups := [(144, ⟨1, some (.own 46 4 (e_GCell.cells z29.Grid.Cells))⟩), (145, ⟨1, some (.own 46 4 (e_GCell.cells z29.Other.Cells))⟩), (146, ⟨1, some (.own 73 1 (e_GLine.cells z29.Past))⟩)]) (j := 2) rfl (by kernel_rfl) (by kernel_rfl) (ev_callF (args := [(.agg ((.d (.int .i64 a1.Grid.Wide)) :: ((.d (.int .i64 a1.Grid.High)) :: ((.d (.sl a1.Grid.Cells.length (e_GCell.cells a1.Grid.Cells))) :: ((.d (.int .i64 a1.Row)) :: ((.d (.int .i64 a1.Col)) :: ((.d (.bool a1.Late)) :: ((.d (.int .i64 a1.Top)) :: ((.d (.int .i64 a1.Bottom)) :: ((.d (.int .i64 a1.Pen.Flags)) :: ((.d (.int .i64 a1.Pen.Fore)) :: ((.d (.int .i64 a1.Pen.Back)) :: ((.d (.int .i64 a1.Modes)) :: (((eInt .u64).row 4 a1.Stops.Bits) ++ ((.d (.int .i64 a1.Pages.1)) :: ((.d (.int .i64 a1.Pages.2)) :: ((.d (.int .i64 a1.Shift)) :: ((.d (.int .i64 a1.Saved.Row)) :: ((.d (.int .i64 a1.Saved.Col)) :: ((.d (.int .i64 a1.Saved.Pen.Flags)) :: ((.d (.int .i64 a1.Saved.Pen.Fore)) :: ((.d (.int .i64 a1.Saved.Pen.Back)) :: ((.d (.bool a1.Saved.Origin)) :: ((.d (.int .i64 a1.Saved.Pages.1)) :: ((.d (.int .i64 a1.Saved.Pages.2)) :: ((.d (.int .i64 a1.Saved.Shift)) :: ((.d (.int .i64 a1.Other.Wide)) :: ((.d (.int .i64 a1.Other.High)) :: ((.d (.sl a1.Other.Cells.length (e_GCell.cells a1.Other.Cells))) :: ((.d (.str a1.Title)) :: ((.d (.sl a1.Past.length (e_GLine.cells a1.Past))) :: [])))))))))))))))))))))))))))))))]) (args' := [(.agg ((.d (.int .i64 a1.Grid.Wide)) :: ((.d (.int .i64 a1.Grid.High)) :: ((.d (.sl a1.Grid.Cells.length (e_GCell.cells a1.Grid.Cells))) :: ((.d (.int .i64 a1.Row)) :: ((.d (.int .i64 a1.Col)) :: ((.d (.bool a1.Late)) :: ((.d (.int .i64 a1.Top)) :: ((.d (.int .i64 a1.Bottom)) :: ((.d (.int .i64 a1.Pen.Flags)) :: ((.d (.int .i64 a1.Pen.Fore)) :: ((.d (.int .i64 a1.Pen.Back)) :: ((.d (.int .i64 a1.Modes)) :: (((eInt .u64).row 4 a1.Stops.Bits) ++ ((.d (.int .i64 a1.Pages.1)) :: ((.d (.int .i64 a1.Pages.2)) :: ((.d (.int .i64 a1.Shift)) :: ((.d (.int .i64 a1.Saved.Row)) :: ((.d (.int .i64 a1.Saved.Col)) :: ((.d (.int .i64 a1.Saved.Pen.Flags)) :: ((.d (.int .i64 a1.Saved.Pen.Fore)) :: ((.d (.int .i64 a1.Saved.Pen.Back)) :: ((.d (.bool a1.Saved.Origin)) :: ((.d (.int .i64 a1.Saved.Pages.1)) :: ((.d (.int .i64 a1.Saved.Pages.2)) :: ((.d (.int .i64 a1.Saved.Shift)) :: ((.d (.int .i64 a1.Other.Wide)) :: ((.d (.int .i64 a1.Other.High)) :: ((.d (.sl a1.Other.Cells.length (e_GCell.cells a1.Other.Cells))) :: ((.d (.str a1.Title)) :: ((.d (.sl a1.Past.length (e_GLine.cells a1.Past))) :: [])))))))))))))))))))))))))))))))]) (l := [(.agg ((.d (.int .i64 a1.Grid.Wide)) :: ((.d (.int .i64 a1.Grid.High)) :: ((.d (.sl a1.Grid.Cells.length (e_GCell.cells a1.Grid.Cells))) :: ((.d (.int .i64 a1.Row)) :: ((.d (.int .i64 a1.Col)) :: ((.d (.bool a1.Late)) :: ((.d (.int .i64 a1.Top)) :: ((.d (.int .i64 a1.Bottom)) :: ((.d (.int .i64 a1.Pen.Flags)) :: ((.d (.int .i64 a1.Pen.Fore)) :: ((.d (.int .i64 a1.Pen.Back)) :: ((.d (.int .i64 a1.Modes)) :: (((eInt .u64).row 4 a1.Stops.Bits) ++ ((.d (.int .i64 a1.Pages.1)) :: ((.d (.int .i64 a1.Pages.2)) :: ((.d (.int .i64 a1.Shift)) :: ((.d (.int .i64 a1.Saved.Row)) :: ((.d (.int .i64 a1.Saved.Col)) :: ((.d (.int .i64 a1.Saved.Pen.Flags)) :: ((.d (.int .i64 a1.Saved.Pen.Fore)) :: ((.d (.int .i64 a1.Saved.Pen.Back)) :: ((.d (.bool a1.Saved.Origin)) :: ((.d (.int .i64 a1.Saved.Pages.1)) :: ((.d (.int .i64 a1.Saved.Pages.2)) :: ((.d (.int .i64 a1.Saved.Shift)) :: ((.d (.int .i64 a1.Other.Wide)) :: ((.d (.int .i64 a1.Other.High)) :: ((.d (.sl a1.Other.Cells.length (e_GCell.cells a1.Other.Cells))) :: ((.d (.str a1.Title)) :: ((.d (.sl a1.Past.length (e_GLine.cells a1.Past))) :: [])))))))))))))))))))))))))))))))]) (refs := []) (r := (.agg ((.d (.int .i64 z29.Grid.Wide)) :: ((.d (.int .i64 z29.Grid.High)) :: ((.r (.own 0 46 4 z29.Grid.Cells.length (e_GCell.cells z29.Grid.Cells))) :: ((.d (.int .i64 z29.Row)) :: ((.d (.int .i64 z29.Col)) :: ((.d (.bool z29.Late)) :: ((.d (.int .i64 z29.Top)) :: ((.d (.int .i64 z29.Bottom)) :: ((.d (.int .i64 z29.Pen.Flags)) :: ((.d (.int .i64 z29.Pen.Fore)) :: ((.d (.int .i64 z29.Pen.Back)) :: ((.d (.int .i64 z29.Modes)) :: (((eInt .u64).row 4 z29.Stops.Bits) ++ ((.d (.int .i64 z29.Pages.1)) :: ((.d (.int .i64 z29.Pages.2)) :: ((.d (.int .i64 z29.Shift)) :: ((.d (.int .i64 z29.Saved.Row)) :: ((.d (.int .i64 z29.Saved.Col)) :: ((.d (.int .i64 z29.Saved.Pen.Flags)) :: ((.d (.int .i64 z29.Saved.Pen.Fore)) :: ((.d (.int .i64 z29.Saved.Pen.Back)) :: ((.d (.bool z29.Saved.Origin)) :: ((.d (.int .i64 z29.Saved.Pages.1)) :: ((.d (.int .i64 z29.Saved.Pages.2)) :: ((.d (.int .i64 z29.Saved.Shift)) :: ((.d (.int .i64 z29.Other.Wide)) :: ((.d (.int .i64 z29.Other.High)) :: ((.r (.own 1 46 4 z29.Other.Cells.length (e_GCell.cells z29.Other.Cells))) :: ((.d (.str z29.Title)) :: ((.r (.own 2 73 1 z29.Past.length (e_GLine.cells z29.Past))) :: [])))))))))))))))))))))))))))))))) (v := (.agg ((.d (.int .i64 z29.Grid.Wide)) :: ((.d (.int .i64 z29.Grid.High)) :: ((.r (.msl 144 1 0 z29.Grid.Cells.length)) :: ((.d (.int .i64 z29.Row)) :: ((.d (.int .i64 z29.Col)) :: ((.d (.bool z29.Late)) :: ((.d (.int .i64 z29.Top)) :: ((.d (.int .i64 z29.Bottom)) :: ((.d (.int .i64 z29.Pen.Flags)) :: ((.d (.int .i64 z29.Pen.Fore)) :: ((.d (.int .i64 z29.Pen.Back)) :: ((.d (.int .i64 z29.Modes)) :: (((eInt .u64).row 4 z29.Stops.Bits) ++ ((.d (.int .i64 z29.Pages.1)) :: ((.d (.int .i64 z29.Pages.2)) :: ((.d (.int .i64 z29.Shift)) :: ((.d (.int .i64 z29.Saved.Row)) :: ((.d (.int .i64 z29.Saved.Col)) :: ((.d (.int .i64 z29.Saved.Pen.Flags)) :: ((.d (.int .i64 z29.Saved.Pen.Fore)) :: ((.d (.int .i64 z29.Saved.Pen.Back)) :: ((.d (.bool z29.Saved.Origin)) :: ((.d (.int .i64 z29.Saved.Pages.1)) :: ((.d (.int .i64 z29.Saved.Pages.2)) :: ((.d (.int .i64 z29.Saved.Shift)) :: ((.d (.int .i64 z29.Other.Wide)) :: ((.d (.int .i64 z29.Other.High)) :: ((.r (.msl 145 1 0 z29.Other.Cells.length)) :: ((.d (.str z29.Title)) :: ((.r (.msl 146 1 0 z29.Past.length)) :: [])))))))))))))))))))))))))))))))) (ups' := [(144, ⟨1, some (.own 46 4 (e_GCell.cells z29.Grid.Cells))⟩), (145, ⟨1, some (.own 46 4 (e_GCell.cells z29.Other.Cells))⟩), (146, ⟨1, some (.own 73 1 (e_GLine.cells z29.Past))⟩)]) (by kernel_rfl) (by kernel_rfl) (by kernel_rfl) (fz_cons rfl fz_nil) (by kernel_rfl) (f14_ok (d - 1) (dpt hd rfl) a1 z29 hz29) (by kernel_rfl) (by kernel_rfl) (by kernel_rfl) (by kernel_rfl)) ?_
    refine zlRun (n := 4) (j := 6) rfl (by kernel_rfl) ?_
    refine zlEnd (by kernel_rfl) ?_
    refine zkSeq ?_
    refine zrRet ?_
    refine zkSeqR ?_
    refine zkNil ?_
    exact endQ hS hQ (fRet (by kernel_rfl) ((congrArg (fun s => outR s 0 c6.res) (by kernel_rfl : finSt c6.fin _ = f6_fin z29 [] z28)).trans (f6_out z29 [] z28)))
  · replace hS := cond_f hc hS
    refine zlEnd (by kernel_rfl) ?_
    refine zkSeq ?_
    refine zrCondF (by kernel_rfl) ?_
    refine zrSkip ?_
    refine zkSeq ?_
    exact f6_j0_ok hd a1 a2 hQ  hS (by kernel_rfl)
/- farwriter/farref.Blank -/
def f8_fin (p1 : GCell) : St := ⟨(up (fun _ => .un) 2 (.r (.ptr 24 0 0))), (up (hB fun _ => 0) 24 ⟨0, some (.box ((.d (.int .i64 p1.Rune)) :: ((.d (.int .i64 p1.Pen.Flags)) :: ((.d (.int .i64 p1.Pen.Fore)) :: ((.d (.int .i64 p1.Pen.Back)) :: [])))))⟩)⟩
theorem f8_out (p1 : GCell) : outR (f8_fin p1) 0 c8.res = some ((.agg ((.d (.int .i64 p1.Rune)) :: ((.d (.int .i64 p1.Pen.Flags)) :: ((.d (.int .i64 p1.Pen.Fore)) :: ((.d (.int .i64 p1.Pen.Back)) :: []))))), []) := by
  kernel_rfl
def f8_Q (r : GCell) (e : PX) (st : St) : Prop := DoneF c8 0 ((.agg ((.d (.int .i64 r.Rune)) :: ((.d (.int .i64 r.Pen.Flags)) :: ((.d (.int .i64 r.Pen.Fore)) :: ((.d (.int .i64 r.Pen.Back)) :: []))))), []) e st
noncomputable def f8 (a1 : GPen) : Option (GCell) := (some (GCell.mk 32 a1))
theorem f8_ok (d : Nat) (hd : 1 ≤ d) (a1 : GPen) (r : GCell) (hS : f8 a1 = some r) : lev codes baseL d 8 [(.agg ((.d (.int .i64 a1.Flags)) :: ((.d (.int .i64 a1.Fore)) :: ((.d (.int .i64 a1.Back)) :: []))))] [] = some ((.agg ((.d (.int .i64 r.Rune)) :: ((.d (.int .i64 r.Pen.Flags)) :: ((.d (.int .i64 r.Pen.Fore)) :: ((.d (.int .i64 r.Pen.Back)) :: []))))), []) := by
  refine lev_go codes8 rfl rfl (Nat.le_trans (Nat.le_of_ble_eq_true rfl) hd) fun Q hQ => ?_
  unfold f8 at hS
  show ZR _ Q c8_b [] _
  replace hQ : ∀ e st', f8_Q r e st' → Q e st' := hQ
  refine zrSeq ?_
  refine zrReg ?_
  refine zlRun (n := 2) (j := 2) rfl (by kernel_rfl) ?_
  refine zlEnd (by kernel_rfl) ?_
  refine zkSeq ?_
  refine zrSeq ?_
  refine zrReg ?_
  refine zlRun (n := 3) (j := 3) rfl (by kernel_rfl) ?_
  refine zlEnd (by kernel_rfl) ?_
  refine zkSeq ?_
  refine zrRet ?_
  refine zkNil ?_
  exact endQ hS hQ (fRet (by kernel_rfl) ((congrArg (fun s => outR s 0 c8.res) (by kernel_rfl : finSt c8.fin _ = f8_fin (GCell.mk 32 a1))).trans (f8_out (GCell.mk 32 a1))))
/- farwriter/farkeep.ScreenPlain -/
def f3_fin (p104 : Bool) : St := ⟨(up (fun _ => .un) 6 (.d (.bool p104))), (hB fun _ => 0)⟩
theorem f3_out (p104 : Bool) : outR (f3_fin p104) 0 c3.res = some ((.d (.bool p104)), []) := by
  kernel_rfl
def f3_Q (r : Bool) (e : PX) (st : St) : Prop := DoneF c3 0 ((.d (.bool r)), []) e st
def f3_j4_J (a1 : Int) (a2 : Int) (a3 : List UInt8) (p210 : GScreen) (p211 : Int) : St := ⟨(up (up (up (fun _ => .un) 15 (.d (.int .i64 p211))) 10 (.r (.ptr 88 0 0))) 2 (.d (.str a3))), (up (up (up (up (hB fun _ => 0) 466 ⟨0, some (.own 73 1 (e_GLine.cells p210.Past))⟩) 465 ⟨0, some (.own 46 4 (e_GCell.cells p210.Other.Cells))⟩) 464 ⟨0, some (.own 46 4 (e_GCell.cells p210.Grid.Cells))⟩) 88 ⟨0, some (.box (bx_GScreen p210 (.r (.msl 464 0 0 p210.Grid.Cells.length)) (.r (.msl 465 0 0 p210.Other.Cells.length)) (.r (.msl 466 0 0 p210.Past.length))))⟩)⟩
noncomputable def f3_j4 (a1 : Int) (a2 : Int) (a3 : List UInt8) (p210 : GScreen) (p211 : Int) : Option (Bool) := (bif (decide (p211 = (a3.length : Int))) then (bif (decide ((p210.Past.length : Int) = 0)) then (some true) else (some false)) else (some false))
theorem f3_j4_ok {d : Nat} (hd : 9 ≤ d) (a1 : Int) (a2 : Int) (a3 : List UInt8) {r : Bool} {Q : PX → St → Prop} (hQ : ∀ e st', f3_Q r e st' → Q e st') (p210 : GScreen) (p211 : Int) (hS : f3_j4 a1 a2 a3 p210 p211 = some r) {st : St} (he : keepSt [2, 10, 15] [(88, .id 88), (464, .id 464), (465, .id 465), (466, .id 466)] [] st = f3_j4_J a1 a2 a3 p210 p211) : ZR (lev codes baseL (d - 1)) Q c3_1 [] st := by
  refine zrKeep he ?_
  unfold f3_j4 at hS
  refine zrSeq ?_
  refine zrReg ?_
  refine zlRun (n := 3) (j := 3) rfl (by kernel_rfl) ?_
  refine zlBool (d := 115) (op := (.cmpI .eql (.tmp 112) (.tmp 114))) (g := none) (j := 4) (decide (p211 = (a3.length : Int))) rfl (by kernel_rfl) (by kernel_rfl) (by kernel_rfl) (fun hc => ?_) (fun hc => ?_)
  · replace hS := cond_t hc hS
    refine zlRun (n := 4) (j := 8) rfl (by kernel_rfl) ?_
    refine zlBool (d := 120) (op := (.cmpI .eql (.tmp 119) (.const (.int .i64 0)))) (g := (some (116, true))) (j := 9) (decide ((p210.Past.length : Int) = 0)) rfl (by kernel_rfl) (by kernel_rfl) (by kernel_rfl) (fun hc => ?_) (fun hc => ?_)
    · replace hS := cond_t hc hS
      refine zlRun (n := 2) (j := 11) rfl (by kernel_rfl) ?_
      refine zlEnd (by kernel_rfl) ?_
      refine zkSeq ?_
      refine zrRet ?_
      refine zkNil ?_
      exact endQ hS hQ (fRet (by kernel_rfl) ((congrArg (fun s => outR s 0 c3.res) (by kernel_rfl : finSt c3.fin _ = f3_fin true)).trans (f3_out true)))
    · replace hS := cond_f hc hS
      refine zlRun (n := 2) (j := 11) rfl (by kernel_rfl) ?_
      refine zlEnd (by kernel_rfl) ?_
      refine zkSeq ?_
      refine zrRet ?_
      refine zkNil ?_
      exact endQ hS hQ (fRet (by kernel_rfl) ((congrArg (fun s => outR s 0 c3.res) (by kernel_rfl : finSt c3.fin _ = f3_fin false)).trans (f3_out false)))
  · replace hS := cond_f hc hS
    refine zlRun (n := 7) (j := 11) rfl (by kernel_rfl) ?_
    refine zlEnd (by kernel_rfl) ?_
    refine zkSeq ?_
    refine zrRet ?_
    refine zkNil ?_
    exact endQ hS hQ (fRet (by kernel_rfl) ((congrArg (fun s => outR s 0 c3.res) (by kernel_rfl : finSt c3.fin _ = f3_fin false)).trans (f3_out false)))
def f3_j3_J (a1 : Int) (a2 : Int) (a3 : List UInt8) (p207 : GScreen) : St := ⟨(up (up (up (fun _ => .un) 10 (.r (.ptr 88 0 0))) 2 (.d (.str a3))) 0 (.d (.int .i64 a1))), (up (up (up (up (hB fun _ => 0) 466 ⟨0, some (.own 73 1 (e_GLine.cells p207.Past))⟩) 465 ⟨0, some (.own 46 4 (e_GCell.cells p207.Other.Cells))⟩) 464 ⟨0, some (.own 46 4 (e_GCell.cells p207.Grid.Cells))⟩) 88 ⟨0, some (.box (bx_GScreen p207 (.r (.msl 464 0 0 p207.Grid.Cells.length)) (.r (.msl 465 0 0 p207.Other.Cells.length)) (.r (.msl 466 0 0 p207.Past.length))))⟩)⟩
noncomputable def f3_j3 (a1 : Int) (a2 : Int) (a3 : List UInt8) (p207 : GScreen) : Option (Bool) := (bif p207.Late then (f3_j4 a1 a2 a3 p207 (IntKind.i64.wrap ((IntKind.i64.wrap ((IntKind.i64.wrap (p207.Row * a1)) + p207.Col)) + 1))) else (f3_j4 a1 a2 a3 p207 (IntKind.i64.wrap ((IntKind.i64.wrap (p207.Row * a1)) + p207.Col))))
theorem f3_j3_ok {d : Nat} (hd : 9 ≤ d) (a1 : Int) (a2 : Int) (a3 : List UInt8) {r : Bool} {Q : PX → St → Prop} (hQ : ∀ e st', f3_Q r e st' → Q e st') (p207 : GScreen) (hS : f3_j3 a1 a2 a3 p207 = some r) {st : St} (he : keepSt [0, 2, 10] [(88, .id 88), (464, .id 464), (465, .id 465), (466, .id 466)] [] st = f3_j3_J a1 a2 a3 p207) : ZR (lev codes baseL (d - 1)) Q c3_2 [] st := by
  refine zrKeep he ?_
  unfold f3_j3 at hS
  refine zrSeq ?_
  refine zrReg ?_
  refine zlRun (n := 8) (j := 8) rfl (by kernel_rfl) ?_
  refine zlEnd (by kernel_rfl) ?_
  refine zkSeq ?_
  refine zrSeq ?_
  refine zrSeq ?_
  refine zrReg ?_
  refine zlRun (n := 2) (j := 2) rfl (by kernel_rfl) ?_
  refine zlEnd (by kernel_rfl) ?_
  refine zkSeq ?_
  refine zrSplit 109 p207.Late (by kernel_rfl) (fun hc => ?_) (fun hc => ?_)
  · replace hS := cond_t hc hS
    refine zrCondT (by kernel_rfl) ?_
    refine zrReg ?_
    refine zlRun (n := 3) (j := 3) rfl (by kernel_rfl) ?_
    refine zlEnd (by kernel_rfl) ?_
    refine zkSeq ?_
    exact f3_j4_ok hd a1 a2 a3 hQ p207 (IntKind.i64.wrap ((IntKind.i64.wrap ((IntKind.i64.wrap (p207.Row * a1)) + p207.Col)) + 1)) hS (by kernel_rfl)
  · replace hS := cond_f hc hS
    refine zrCondF (by kernel_rfl) ?_
    refine zrSkip ?_
    refine zkSeq ?_
    exact f3_j4_ok hd a1 a2 a3 hQ p207 (IntKind.i64.wrap ((IntKind.i64.wrap (p207.Row * a1)) + p207.Col)) hS (by kernel_rfl)
def f3_l5_J (a1 : Int) (a2 : Int) (a3 : List UInt8) (x : GScreen × Int × Int) : St := ⟨(up (up (up (up (up (up (fun _ => .un) 81 (.d (.int .i64 x.2.2))) 80 (.d (.int .i64 x.2.1))) 79 (.r (.msl 464 0 0 x.1.Grid.Cells.length))) 10 (.r (.ptr 88 0 0))) 2 (.d (.str a3))) 0 (.d (.int .i64 a1))), (up (up (up (up (hB fun _ => 0) 466 ⟨0, some (.own 73 1 (e_GLine.cells x.1.Past))⟩) 465 ⟨0, some (.own 46 4 (e_GCell.cells x.1.Other.Cells))⟩) 464 ⟨0, some (.own 46 4 (e_GCell.cells x.1.Grid.Cells))⟩) 88 ⟨0, some (.box (bx_GScreen x.1 (.r (.msl 464 0 0 x.1.Grid.Cells.length)) (.r (.msl 465 0 0 x.1.Other.Cells.length)) (.r (.msl 466 0 0 x.1.Past.length))))⟩)⟩
def f3_l5_H (a1 : Int) (a2 : Int) (a3 : List UInt8) (x : GScreen × Int × Int) (st : St) : Prop := keepSt [0, 2, 10, 79, 80, 81] [(88, .id 88), (464, .id 464), (465, .id 465), (466, .id 466)] [] st = f3_l5_J a1 a2 a3 x
def f3_l5_e2_J (a1 : Int) (a2 : Int) (a3 : List UInt8) (p206 : GScreen) : St := ⟨(up (up (up (fun _ => .un) 10 (.r (.ptr 88 0 0))) 2 (.d (.str a3))) 0 (.d (.int .i64 a1))), (up (up (up (up (hB fun _ => 0) 466 ⟨0, some (.own 73 1 (e_GLine.cells p206.Past))⟩) 465 ⟨0, some (.own 46 4 (e_GCell.cells p206.Other.Cells))⟩) 464 ⟨0, some (.own 46 4 (e_GCell.cells p206.Grid.Cells))⟩) 88 ⟨0, some (.box (bx_GScreen p206 (.r (.msl 464 0 0 p206.Grid.Cells.length)) (.r (.msl 465 0 0 p206.Other.Cells.length)) (.r (.msl 466 0 0 p206.Past.length))))⟩)⟩
def f3_l5_X (a1 : Int) (a2 : Int) (a3 : List UInt8) (z : GScreen ⊕ Bool) (e : PX) (st : St) : Prop := (match z with | .inl z => e = .exit 2 ∧ st = f3_l5_e2_J a1 a2 a3 z | .inr z => e = .ret ∧ finSt c3.fin st = f3_fin z)
def f3_l5_j7_J (a1 : Int) (a2 : Int) (a3 : List UInt8) (p220 : GScreen) (p221 : Int) (p222 : Int) : St := ⟨(up (up (up (up (up (up (fun _ => .un) 81 (.d (.int .i64 p222))) 80 (.d (.int .i64 p221))) 79 (.r (.msl 464 0 0 p220.Grid.Cells.length))) 10 (.r (.ptr 88 0 0))) 2 (.d (.str a3))) 0 (.d (.int .i64 a1))), (up (up (up (up (hB fun _ => 0) 466 ⟨0, some (.own 73 1 (e_GLine.cells p220.Past))⟩) 465 ⟨0, some (.own 46 4 (e_GCell.cells p220.Other.Cells))⟩) 464 ⟨0, some (.own 46 4 (e_GCell.cells p220.Grid.Cells))⟩) 88 ⟨0, some (.box (bx_GScreen p220 (.r (.msl 464 0 0 p220.Grid.Cells.length)) (.r (.msl 465 0 0 p220.Other.Cells.length)) (.r (.msl 466 0 0 p220.Past.length))))⟩)⟩
noncomputable def f3_l5_j7 (a1 : Int) (a2 : Int) (a3 : List UInt8) (p220 : GScreen) (p221 : Int) (p222 : Int) : Option ((GScreen × Int × Int) ⊕ (GScreen ⊕ Bool)) := ((inR p222 p220.Grid.Cells.length).bind fun m47 => ((p220.Grid.Cells[m47]?).bind fun z48 => ((f8 (GPen.mk 0 0 0)).bind fun z49 => (bif (decide (p222 < (a3.length : Int))) then ((idx a3 p222).bind fun z50 => (bif (!(decide (z48.Rune = (z50.toNat : Int)) && (decide (z48.Pen.Flags = z49.Pen.Flags) && (decide (z48.Pen.Fore = z49.Pen.Fore) && (decide (z48.Pen.Back = z49.Pen.Back) && true))))) then (some (.inr (.inr false))) else (some (.inl (p220, p221, (IntKind.i64.wrap (p222 + 1))))))) else (bif (!(decide (z48.Rune = z49.Rune) && (decide (z48.Pen.Flags = z49.Pen.Flags) && (decide (z48.Pen.Fore = z49.Pen.Fore) && (decide (z48.Pen.Back = z49.Pen.Back) && true))))) then (some (.inr (.inr false))) else (some (.inl (p220, p221, (IntKind.i64.wrap (p222 + 1))))))))))
theorem f3_l5_j7_ok {d : Nat} (hd : 9 ≤ d) (a1 : Int) (a2 : Int) (a3 : List UInt8) {r : (GScreen × Int × Int) ⊕ (GScreen ⊕ Bool)} {Q : PX → St → Prop} (hQ : ∀ e st', finL (f3_l5_H a1 a2 a3) (f3_l5_X a1 a2 a3) r e st' → Q e st') (p220 : GScreen) (p221 : Int) (p222 : Int) (hS : f3_l5_j7 a1 a2 a3 p220 p221 p222 = some r) {st : St} (he : keepSt [0, 2, 10, 79, 80, 81] [(88, .id 88), (464, .id 464), (465, .id 465), (466, .id 466)] [] st = f3_l5_j7_J a1 a2 a3 p220 p221 p222) : ZR (lev codes baseL (d - 1)) Q c3_3 [] st := by
  refine zrKeep he ?_
  unfold f3_l5_j7 at hS
  refine zrSeq ?_
  refine zrBlk ?_
  refine zrSeq ?_
  refine zrReg ?_
  refine zlRun (n := 1) (j := 1) rfl (by kernel_rfl) ?_
  refine bindE hS (fun m47 hm47 hS => ?_)
  refine zlOp (d := some 84) (op := (.ixS 46 4 (.tmp 79) (.tmp 81))) (g := none) (v := (.r (.ptr 464 0 ((0 + m47) * 4)))) (ups := []) (j := 2) rfl (by kernel_rfl) (by kernel_rfl) (ev_ixM (kk := .i64) (b := 464) (g := 0) (l := 0) (n := p220.Grid.Cells.length) (j := p222) (cs := e_GCell.cells p220.Grid.Cells) (by kernel_rfl) (by kernel_rfl) (by kernel_rfl) hm47) ?_
  refine bindE hS (fun z48 hz48 hS => ?_)
  refine zlOp (d := some 85) (op := (.load .true 4 (.tmp 84))) (g := none) (v := (.agg ((.d (.int .i64 z48.Rune)) :: ((.d (.int .i64 z48.Pen.Flags)) :: ((.d (.int .i64 z48.Pen.Fore)) :: ((.d (.int .i64 z48.Pen.Back)) :: [])))))) (ups := []) (j := 3) rfl (by kernel_rfl) (by kernel_rfl) (ev_loadM e_GCell (b := 464) (g := 0) (o := (0 + m47) * 4) (e := 46) (k := 4) (m := m47) (fo := 0) (xs := p220.Grid.Cells) (by kernel_rfl) (by kernel_rfl) (by rw [Nat.zero_add]; rfl) hz48 (by kernel_rfl) (by kernel_rfl) (by kernel_rfl)) ?_
  refine zlRun (n := 3) (j := 6) rfl (by kernel_rfl) ?_
  refine zlEnd (by kernel_rfl) ?_
  refine zkSeq ?_
  refine zrSeq ?_
  refine zrReg ?_
  refine zlRun (n := 1) (j := 1) rfl (by kernel_rfl) ?_
  refine bindE hS (fun z49 hz49 hS => ?_)
  refine zlOp (d := some 87) (op := (.call 8 [(.tmp 86)])) (g := none) (j := 2) rfl (by kernel_rfl) (by kernel_rfl) (ev_callA (by kernel_rfl) (f8_ok (d - 1) (dpt hd rfl) (GPen.mk 0 0 0) z49 hz49) (by kernel_rfl) (by kernel_rfl)) ?_
  refine zlRun (n := 2) (j := 4) rfl (by kernel_rfl) ?_
  refine zlEnd (by kernel_rfl) ?_
  refine zkSeq ?_
  refine zrSeq ?_
  refine zrSeq ?_
  refine zrReg ?_
  refine zlRun (n := 3) (j := 3) rfl (by kernel_rfl) ?_
  refine zlBool (d := 91) (op := (.cmpI .lss (.tmp 88) (.tmp 90))) (g := none) (j := 4) (decide (p222 < (a3.length : Int))) rfl (by kernel_rfl) (by kernel_rfl) (by kernel_rfl) (fun hc => ?_) (fun hc => ?_)
  · replace hS := cond_t hc hS
    refine zlEnd (by kernel_rfl) ?_
    refine zkSeq ?_
    refine zrCondT (by kernel_rfl) ?_
    refine zrReg ?_
    refine zlRun (n := 2) (j := 2) rfl (by kernel_rfl) ?_
    refine bindE hS (fun z50 hz50 hS => ?_)
    refine zlOp (d := some 94) (op := (.ixStr (.tmp 92) (.tmp 93))) (g := none) (v := (.d (.int .u8 (z50.toNat : Int)))) (ups := []) (j := 3) rfl (by kernel_rfl) (by kernel_rfl) (ev_ixStr (kk := .i64) (s := a3) (j := p222) (by kernel_rfl) (by kernel_rfl) hz50) ?_
    refine zlOp (d := some 95) (op := (.cvI .i64 (.tmp 94))) (g := none) (v := (.d (.int .i64 (z50.toNat : Int)))) (ups := []) (j := 4) rfl (by kernel_rfl) (by kernel_rfl) (ev_cv (kk := .u8) (a := (z50.toNat : Int)) (by kernel_rfl) (cv_i64 _)) ?_
    refine zlRun (n := 2) (j := 6) rfl (by kernel_rfl) ?_
    refine zlEnd (by kernel_rfl) ?_
    refine zkSeq ?_
    refine zrSeq ?_
    refine zrReg ?_
    refine zlRun (n := 2) (j := 2) rfl (by kernel_rfl) ?_
    refine zlBool (d := 99) (op := (.eqA .true [(4, .int)] (.tmp 97) (.tmp 98))) (g := none) (j := 3) (!(decide (z48.Rune = (z50.toNat : Int)) && (decide (z48.Pen.Flags = z49.Pen.Flags) && (decide (z48.Pen.Fore = z49.Pen.Fore) && (decide (z48.Pen.Back = z49.Pen.Back) && true))))) rfl (by kernel_rfl) (by kernel_rfl) (by kernel_rfl) (fun hc => ?_) (fun hc => ?_)
    · replace hS := cond_t hc hS
      refine zlEnd (by kernel_rfl) ?_
      refine zkSeq ?_
      refine zrCondT (by kernel_rfl) ?_
      refine zrSeq ?_
      refine zrReg ?_
      refine zlRun (n := 1) (j := 1) rfl (by kernel_rfl) ?_
      refine zlEnd (by kernel_rfl) ?_
      refine zkSeq ?_
      refine zrRet ?_
      refine zkBlkR ?_
      refine zkSeqR ?_
      refine zkNil ?_
      exact endQ hS hQ (finL_x (by intro h; cases h) (by show _ = _ ∧ _ = _; exact ⟨rfl, by kernel_rfl⟩))
    · replace hS := cond_f hc hS
      refine zlEnd (by kernel_rfl) ?_
      refine zkSeq ?_
      refine zrCondF (by kernel_rfl) ?_
      refine zrSkip ?_
      refine zkBlk ?_
      refine zkSeq ?_
      refine zrReg ?_
      refine zlRun (n := 2) (j := 2) rfl (by kernel_rfl) ?_
      refine zlEnd (by kernel_rfl) ?_
      refine zkNil ?_
      exact endQ hS hQ (finL_n (by show keepSt _ _ _ _ = _; kernel_rfl))
  · replace hS := cond_f hc hS
    refine zlEnd (by kernel_rfl) ?_
    refine zkSeq ?_
    refine zrCondF (by kernel_rfl) ?_
    refine zrSkip ?_
    refine zkSeq ?_
    refine zrSeq ?_
    refine zrReg ?_
    refine zlRun (n := 2) (j := 2) rfl (by kernel_rfl) ?_
    refine zlBool (d := 99) (op := (.eqA .true [(4, .int)] (.tmp 97) (.tmp 98))) (g := none) (j := 3) (!(decide (z48.Rune = z49.Rune) && (decide (z48.Pen.Flags = z49.Pen.Flags) && (decide (z48.Pen.Fore = z49.Pen.Fore) && (decide (z48.Pen.Back = z49.Pen.Back) && true))))) rfl (by kernel_rfl) (by kernel_rfl) (by kernel_rfl) (fun hc => ?_) (fun hc => ?_)
    · replace hS := cond_t hc hS
      refine zlEnd (by kernel_rfl) ?_
      refine zkSeq ?_
      refine zrCondT (by kernel_rfl) ?_
      refine zrSeq ?_
      refine zrReg ?_
      refine zlRun (n := 1) (j := 1) rfl (by kernel_rfl) ?_
      refine zlEnd (by kernel_rfl) ?_
      refine zkSeq ?_
      refine zrRet ?_
      refine zkBlkR ?_
      refine zkSeqR ?_
      refine zkNil ?_
      exact endQ hS hQ (finL_x (by intro h; cases h) (by show _ = _ ∧ _ = _; exact ⟨rfl, by kernel_rfl⟩))
    · replace hS := cond_f hc hS
      refine zlEnd (by kernel_rfl) ?_
      refine zkSeq ?_
      refine zrCondF (by kernel_rfl) ?_
      refine zrSkip ?_
      refine zkBlk ?_
      refine zkSeq ?_
      refine zrReg ?_
      refine zlRun (n := 2) (j := 2) rfl (by kernel_rfl) ?_
      refine zlEnd (by kernel_rfl) ?_
      refine zkNil ?_
      exact endQ hS hQ (finL_n (by show keepSt _ _ _ _ = _; kernel_rfl))
def f3_l5_j6_J (a1 : Int) (a2 : Int) (a3 : List UInt8) (p216 : GScreen) (p217 : Int) (p218 : Int) (p219 : Bool) : St := ⟨(up (up (up (up (up (up (up (fun _ => .un) 82 (.d (.bool p219))) 81 (.d (.int .i64 p218))) 80 (.d (.int .i64 p217))) 79 (.r (.msl 464 0 0 p216.Grid.Cells.length))) 10 (.r (.ptr 88 0 0))) 2 (.d (.str a3))) 0 (.d (.int .i64 a1))), (up (up (up (up (hB fun _ => 0) 466 ⟨0, some (.own 73 1 (e_GLine.cells p216.Past))⟩) 465 ⟨0, some (.own 46 4 (e_GCell.cells p216.Other.Cells))⟩) 464 ⟨0, some (.own 46 4 (e_GCell.cells p216.Grid.Cells))⟩) 88 ⟨0, some (.box (bx_GScreen p216 (.r (.msl 464 0 0 p216.Grid.Cells.length)) (.r (.msl 465 0 0 p216.Other.Cells.length)) (.r (.msl 466 0 0 p216.Past.length))))⟩)⟩
noncomputable def f3_l5_j6 (a1 : Int) (a2 : Int) (a3 : List UInt8) (p216 : GScreen) (p217 : Int) (p218 : Int) (p219 : Bool) : Option ((GScreen × Int × Int) ⊕ (GScreen ⊕ Bool)) := (bif p219 then (f3_l5_j7 a1 a2 a3 p216 p217 p218) else (some (.inr (.inl p216))))
theorem f3_l5_j6_ok {d : Nat} (hd : 9 ≤ d) (a1 : Int) (a2 : Int) (a3 : List UInt8) {r : (GScreen × Int × Int) ⊕ (GScreen ⊕ Bool)} {Q : PX → St → Prop} (hQ : ∀ e st', finL (f3_l5_H a1 a2 a3) (f3_l5_X a1 a2 a3) r e st' → Q e st') (p216 : GScreen) (p217 : Int) (p218 : Int) (p219 : Bool) (hS : f3_l5_j6 a1 a2 a3 p216 p217 p218 p219 = some r) {st : St} (he : keepSt [0, 2, 10, 79, 80, 81, 82] [(88, .id 88), (464, .id 464), (465, .id 465), (466, .id 466)] [] st = f3_l5_j6_J a1 a2 a3 p216 p217 p218 p219) : ZR (lev codes baseL (d - 1)) Q c3_4 [] st := by
  refine zrKeep he ?_
  unfold f3_l5_j6 at hS
  refine zrSeq ?_
  refine zrSplit 82 p219 (by kernel_rfl) (fun hc => ?_) (fun hc => ?_)
  · replace hS := cond_t hc hS
    refine zrCondT (by kernel_rfl) ?_
    refine zrSkip ?_
    refine zkSeq ?_
    exact f3_l5_j7_ok hd a1 a2 a3 hQ p216 p217 p218 hS (by kernel_rfl)
  · replace hS := cond_f hc hS
    refine zrCondF (by kernel_rfl) ?_
    refine zrKeep (J := f3_l5_e2_J a1 a2 a3 p216) (by kernel_rfl) ?_
    refine zrExit ?_
    refine zkSeqX ?_
    refine zkNil ?_
    exact endQ hS hQ (finL_x (by intro h; cases h) (by show _ = _ ∧ _ = _; exact ⟨rfl, rfl⟩))
noncomputable def f3_l5 (a1 : Int) (a2 : Int) (a3 : List UInt8) (x : GScreen × Int × Int) : Option ((GScreen × Int × Int) ⊕ (GScreen ⊕ Bool)) := (bif (decide (x.2.2 < x.2.1)) then (f3_l5_j6 a1 a2 a3 x.1 x.2.1 x.2.2 true) else (f3_l5_j6 a1 a2 a3 x.1 x.2.1 x.2.2 false))
theorem f3_l5_ok {d : Nat} (hd : 9 ≤ d) (a1 : Int) (a2 : Int) (a3 : List UInt8) {r : (GScreen × Int × Int) ⊕ (GScreen ⊕ Bool)} {Q : PX → St → Prop} (hQ : ∀ e st', finL (f3_l5_H a1 a2 a3) (f3_l5_X a1 a2 a3) r e st' → Q e st') {x : GScreen × Int × Int} (hS : f3_l5 a1 a2 a3 x = some r) {st : St} (he : f3_l5_H a1 a2 a3 x st) : ZR (lev codes baseL (d - 1)) Q c3_5 [] st := by
  refine zrKeep he ?_
  unfold f3_l5 at hS
  refine zrSeq ?_
  refine zrReg ?_
  refine zlBool (d := 82) (op := (.cmpI .lss (.tmp 81) (.tmp 80))) (g := none) (j := 1) (decide (x.2.2 < x.2.1)) rfl (by kernel_rfl) (by kernel_rfl) (by kernel_rfl) (fun hc => ?_) (fun hc => ?_)
  · replace hS := cond_t hc hS
    refine zlEnd (by kernel_rfl) ?_
    refine zkSeq ?_
    exact f3_l5_j6_ok hd a1 a2 a3 hQ x.1 x.2.1 x.2.2 true hS (by kernel_rfl)
  · replace hS := cond_f hc hS
    refine zlEnd (by kernel_rfl) ?_
    refine zkSeq ?_
    exact f3_l5_j6_ok hd a1 a2 a3 hQ x.1 x.2.1 x.2.2 false hS (by kernel_rfl)
def f3_j2_J (a1 : Int) (a2 : Int) (a3 : List UInt8) (p142 : GScreen) : St := ⟨(up (up (up (fun _ => .un) 10 (.r (.ptr 88 0 0))) 2 (.d (.str a3))) 0 (.d (.int .i64 a1))), (up (up (up (up (hB fun _ => 0) 466 ⟨0, some (.own 73 1 (e_GLine.cells p142.Past))⟩) 465 ⟨0, some (.own 46 4 (e_GCell.cells p142.Other.Cells))⟩) 464 ⟨0, some (.own 46 4 (e_GCell.cells p142.Grid.Cells))⟩) 88 ⟨0, some (.box (bx_GScreen p142 (.r (.msl 464 0 0 p142.Grid.Cells.length)) (.r (.msl 465 0 0 p142.Other.Cells.length)) (.r (.msl 466 0 0 p142.Past.length))))⟩)⟩
noncomputable def f3_j2 (a1 : Int) (a2 : Int) (a3 : List UInt8) (p142 : GScreen) : Option (Bool) := ((loopO (f3_l5 a1 a2 a3) (p142, (p142.Grid.Cells.length : Int), 0)).bind fun z51 => (Sum.elim (fun z52 => (f3_j3 a1 a2 a3 z52)) (fun z53 => (some z53)) z51))
theorem f3_j2_ok {d : Nat} (hd : 9 ≤ d) (a1 : Int) (a2 : Int) (a3 : List UInt8) {r : Bool} {Q : PX → St → Prop} (hQ : ∀ e st', f3_Q r e st' → Q e st') (p142 : GScreen) (hS : f3_j2 a1 a2 a3 p142 = some r) {st : St} (he : keepSt [0, 2, 10] [(88, .id 88), (464, .id 464), (465, .id 465), (466, .id 466)] [] st = f3_j2_J a1 a2 a3 p142) : ZR (lev codes baseL (d - 1)) Q c3_6 [] st := by
  refine zrKeep he ?_
  unfold f3_j2 at hS
  refine zrSeq ?_
  refine zrSeq ?_
  refine zrReg ?_
  refine zlRun (n := 5) (j := 5) rfl (by kernel_rfl) ?_
  refine zlEnd (by kernel_rfl) ?_
  refine zkSeq ?_
  refine zrBlk ?_
  refine bindE hS (fun z51 hz51 hS => ?_)
  refine zrLoop (f3_l5_H a1 a2 a3) (f3_l5_X a1 a2 a3) (fun x st r Q h0 hS hQ => f3_l5_ok hd a1 a2 a3 hQ hS h0) (x := (p142, (p142.Grid.Cells.length : Int), 0)) (z := z51) (by show keepSt _ _ _ _ = _; kernel_rfl) hz51 ?_
  rcases z51 with z52 | z53
  · replace hS := (show _ = _ from hS)
    simp only [Sum.elim_inl] at hS
    intro e st' _ hX
    obtain ⟨rfl, rfl⟩ : _ ∧ _ := hX
    refine zkBlkX ?_
    refine zkSeq ?_
    exact f3_j3_ok hd a1 a2 a3 hQ z52 hS (by kernel_rfl)
  · simp only [Sum.elim_inr] at hS
    intro e st' _ hX
    obtain ⟨rfl, hX⟩ : _ ∧ _ := hX
    refine zkBlkR ?_
    refine zkSeqR ?_
    refine zkNil ?_
    exact endQ hS hQ (fRet (by kernel_rfl) ((congrArg (fun s => outR s 0 c3.res) hX).trans (f3_out z53)))
def f3_j1_J (a1 : Int) (a2 : Int) (a3 : List UInt8) (p137 : GScreen) : St := ⟨(up (up (up (up (fun _ => .un) 7 (.r (.ptr 64 0 0))) 2 (.d (.str a3))) 1 (.d (.int .i64 a2))) 0 (.d (.int .i64 a1))), (up (up (up (hB fun _ => 0) 161 ⟨0, some (.own 46 4 (e_GCell.cells p137.Other.Cells))⟩) 160 ⟨0, some (.own 46 4 (e_GCell.cells p137.Grid.Cells))⟩) 64 ⟨0, some (.box (bx_GScreen p137 (.r (.msl 160 0 0 p137.Grid.Cells.length)) (.r (.msl 161 0 0 p137.Other.Cells.length)) .nil))⟩)⟩
noncomputable def f3_j1 (a1 : Int) (a2 : Int) (a3 : List UInt8) (p137 : GScreen) : Option (Bool) := ((f7 a3).bind fun z33 => ((f6 ({ p137 with Past := [] }) z33).bind fun z34 => (bif (!decide (z34.2.2 = 0)) then (some false) else (bif (!decide (z34.2.1 = ([] : List UInt8))) then (some false) else (bif (!decide ((z34.1.Grid.Cells.length : Int) = (IntKind.i64.wrap (a1 * a2)))) then (some false) else (f3_j2 a1 a2 a3 z34.1))))))
theorem f3_j1_ok {d : Nat} (hd : 9 ≤ d) (a1 : Int) (a2 : Int) (a3 : List UInt8) {r : Bool} {Q : PX → St → Prop} (hQ : ∀ e st', f3_Q r e st' → Q e st') (p137 : GScreen) (hS : f3_j1 a1 a2 a3 p137 = some r) {st : St} (he : keepSt [0, 1, 2, 7] [(64, .id 64), (160, .id 160), (161, .id 161)] [] st = f3_j1_J a1 a2 a3 p137) : ZR (lev codes baseL (d - 1)) Q c3_7 [] st := by
  refine zrKeep he ?_
  unfold f3_j1 at hS
  refine zrSeq ?_
  refine zrRegD ?_
  refine zdRun (n := 2) (j := 2) (ts := [[(64, false)], []]) (acc' := [[(64, false)], []]) rfl (by kernel_rfl) (by kernel_rfl) (by kernel_rfl) ?_
  refine bindE hS (fun z33 hz33 hS => ?_)
  refine zdOp (d := some 56) (op := (.call 7 [(.tmp 55)])) (g := none) (j := 3) (t1 := [(456, true), (457, true), (458, true), (459, true), (460, true), (461, true), (462, true), (463, true)]) (acc' := [[(64, false)], [], [(456, true), (457, true), (458, true), (459, true), (460, true), (461, true), (462, true), (463, true)]]) (by kernel_rfl) (by kernel_rfl) rfl (by kernel_rfl) (by kernel_rfl) (ev_callA (by kernel_rfl) (f7_ok (d - 1) (dpt hd rfl) a3 z33 hz33) (by kernel_rfl) (by kernel_rfl)) ?_
  refine bindE hS (fun z34 hz34 hS => ?_)
  refine zdOp (d := some 57) (op := (.callf 6 [(.tmp 54), (.tmp 56)])) (g := none) (v := (.tup [(.agg ((.d (.int .i64 z34.1.Grid.Wide)) :: ((.d (.int .i64 z34.1.Grid.High)) :: ((.r (.msl 464 1 0 z34.1.Grid.Cells.length)) :: ((.d (.int .i64 z34.1.Row)) :: ((.d (.int .i64 z34.1.Col)) :: ((.d (.bool z34.1.Late)) :: ((.d (.int .i64 z34.1.Top)) :: ((.d (.int .i64 z34.1.Bottom)) :: ((.d (.int .i64 z34.1.Pen.Flags)) :: ((.d (.int .i64 z34.1.Pen.Fore)) :: ((.d (.int .i64 z34.1.Pen.Back)) :: ((.d (.int .i64 z34.1.Modes)) :: (((eInt .u64).row 4 z34.1.Stops.Bits) ++ ((.d (.int .i64 z34.1.Pages.1)) :: ((.d (.int .i64 z34.1.Pages.2)) :: ((.d (.int .i64 z34.1.Shift)) :: ((.d (.int .i64 z34.1.Saved.Row)) :: ((.d (.int .i64 z34.1.Saved.Col)) :: ((.d (.int .i64 z34.1.Saved.Pen.Flags)) :: ((.d (.int .i64 z34.1.Saved.Pen.Fore)) :: ((.d (.int .i64 z34.1.Saved.Pen.Back)) :: ((.d (.bool z34.1.Saved.Origin)) :: ((.d (.int .i64 z34.1.Saved.Pages.1)) :: ((.d (.int .i64 z34.1.Saved.Pages.2)) :: ((.d (.int .i64 z34.1.Saved.Shift)) :: ((.d (.int .i64 z34.1.Other.Wide)) :: ((.d (.int .i64 z34.1.Other.High)) :: ((.r (.msl 465 1 0 z34.1.Other.Cells.length)) :: ((.d (.str z34.1.Title)) :: ((.r (.msl 466 1 0 z34.1.Past.length)) :: []))))))))))))))))))))))))))))))), (.d (.str z34.2.1)), (.d (.int .i64 z34.2.2))])) (ups := [(160, ⟨1, none⟩), (161, ⟨1, none⟩), (456, ⟨2, none⟩), (464, ⟨1, some (.own 46 4 (e_GCell.cells z34.1.Grid.Cells))⟩), (465, ⟨1, some (.own 46 4 (e_GCell.cells z34.1.Other.Cells))⟩), (466, ⟨1, some (.own 73 1 (e_GLine.cells z34.1.Past))⟩)]) (j := 4) (t1 := [(160, true), (161, true), (456, true), (464, true), (465, true), (466, true), (467, true), (468, true), (469, true), (470, true), (471, true)]) (acc' := [[(64, false)], [], [(456, true), (457, true), (458, true), (459, true), (460, true), (461, true), (462, true), (463, true)], [(160, true), (161, true), (456, true), (464, true), (465, true), (466, true), (467, true), (468, true), (469, true), (470, true), (471, true)]]) (by kernel_rfl) (by kernel_rfl) rfl (by kernel_rfl) (by kernel_rfl) (ev_callF (args := [(.agg ((.d (.int .i64 p137.Grid.Wide)) :: ((.d (.int .i64 p137.Grid.High)) :: ((.r (.msl 160 0 0 p137.Grid.Cells.length)) :: ((.d (.int .i64 p137.Row)) :: ((.d (.int .i64 p137.Col)) :: ((.d (.bool p137.Late)) :: ((.d (.int .i64 p137.Top)) :: ((.d (.int .i64 p137.Bottom)) :: ((.d (.int .i64 p137.Pen.Flags)) :: ((.d (.int .i64 p137.Pen.Fore)) :: ((.d (.int .i64 p137.Pen.Back)) :: ((.d (.int .i64 p137.Modes)) :: (((eInt .u64).row 4 p137.Stops.Bits) ++ ((.d (.int .i64 p137.Pages.1)) :: ((.d (.int .i64 p137.Pages.2)) :: ((.d (.int .i64 p137.Shift)) :: ((.d (.int .i64 p137.Saved.Row)) :: ((.d (.int .i64 p137.Saved.Col)) :: ((.d (.int .i64 p137.Saved.Pen.Flags)) :: ((.d (.int .i64 p137.Saved.Pen.Fore)) :: ((.d (.int .i64 p137.Saved.Pen.Back)) :: ((.d (.bool p137.Saved.Origin)) :: ((.d (.int .i64 p137.Saved.Pages.1)) :: ((.d (.int .i64 p137.Saved.Pages.2)) :: ((.d (.int .i64 p137.Saved.Shift)) :: ((.d (.int .i64 p137.Other.Wide)) :: ((.d (.int .i64 p137.Other.High)) :: ((.r (.msl 161 0 0 p137.Other.Cells.length)) :: ((.d (.str p137.Title)) :: (.nil :: []))))))))))))))))))))))))))))))), (.r (.msl 456 1 0 z33.length))]) (args' := [(.agg ((.d (.int .i64 p137.Grid.Wide)) :: ((.d (.int .i64 p137.Grid.High)) :: ((.d (.sl p137.Grid.Cells.length (e_GCell.cells p137.Grid.Cells))) :: ((.d (.int .i64 p137.Row)) :: ((.d (.int .i64 p137.Col)) :: ((.d (.bool p137.Late)) :: ((.d (.int .i64 p137.Top)) :: ((.d (.int .i64 p137.Bottom)) :: ((.d (.int .i64 p137.Pen.Flags)) :: ((.d (.int .i64 p137.Pen.Fore)) :: ((.d (.int .i64 p137.Pen.Back)) :: ((.d (.int .i64 p137.Modes)) :: (((eInt .u64).row 4 p137.Stops.Bits) ++ ((.d (.int .i64 p137.Pages.1)) :: ((.d (.int .i64 p137.Pages.2)) :: ((.d (.int .i64 p137.Shift)) :: ((.d (.int .i64 p137.Saved.Row)) :: ((.d (.int .i64 p137.Saved.Col)) :: ((.d (.int .i64 p137.Saved.Pen.Flags)) :: ((.d (.int .i64 p137.Saved.Pen.Fore)) :: ((.d (.int .i64 p137.Saved.Pen.Back)) :: ((.d (.bool p137.Saved.Origin)) :: ((.d (.int .i64 p137.Saved.Pages.1)) :: ((.d (.int .i64 p137.Saved.Pages.2)) :: ((.d (.int .i64 p137.Saved.Shift)) :: ((.d (.int .i64 p137.Other.Wide)) :: ((.d (.int .i64 p137.Other.High)) :: ((.d (.sl p137.Other.Cells.length (e_GCell.cells p137.Other.Cells))) :: ((.d (.str p137.Title)) :: (.nil :: []))))))))))))))))))))))))))))))), (.d (.sl z33.length (e_GAct.cells z33)))]) (l := [(.agg ((.d (.int .i64 p137.Grid.Wide)) :: ((.d (.int .i64 p137.Grid.High)) :: ((.d (.sl p137.Grid.Cells.length (e_GCell.cells p137.Grid.Cells))) :: ((.d (.int .i64 p137.Row)) :: ((.d (.int .i64 p137.Col)) :: ((.d (.bool p137.Late)) :: ((.d (.int .i64 p137.Top)) :: ((.d (.int .i64 p137.Bottom)) :: ((.d (.int .i64 p137.Pen.Flags)) :: ((.d (.int .i64 p137.Pen.Fore)) :: ((.d (.int .i64 p137.Pen.Back)) :: ((.d (.int .i64 p137.Modes)) :: (((eInt .u64).row 4 p137.Stops.Bits) ++ ((.d (.int .i64 p137.Pages.1)) :: ((.d (.int .i64 p137.Pages.2)) :: ((.d (.int .i64 p137.Shift)) :: ((.d (.int .i64 p137.Saved.Row)) :: ((.d (.int .i64 p137.Saved.Col)) :: ((.d (.int .i64 p137.Saved.Pen.Flags)) :: ((.d (.int .i64 p137.Saved.Pen.Fore)) :: ((.d (.int .i64 p137.Saved.Pen.Back)) :: ((.d (.bool p137.Saved.Origin)) :: ((.d (.int .i64 p137.Saved.Pages.1)) :: ((.d (.int .i64 p137.Saved.Pages.2)) :: ((.d (.int .i64 p137.Saved.Shift)) :: ((.d (.int .i64 p137.Other.Wide)) :: ((.d (.int .i64 p137.Other.High)) :: ((.d (.sl p137.Other.Cells.length (e_GCell.cells p137.Other.Cells))) :: ((.d (.str p137.Title)) :: ((.d (.sl ([] : List GLine).length (e_GLine.cells ([])))) :: []))))))))))))))))))))))))))))))), (.d (.sl z33.length (e_GAct.cells z33)))]) (refs := [160, 161, 456]) (r := (.tup [(.agg ((.d (.int .i64 z34.1.Grid.Wide)) :: ((.d (.int .i64 z34.1.Grid.High)) :: ((.r (.own 0 46 4 z34.1.Grid.Cells.length (e_GCell.cells z34.1.Grid.Cells))) :: ((.d (.int .i64 z34.1.Row)) :: ((.d (.int .i64 z34.1.Col)) :: ((.d (.bool z34.1.Late)) :: ((.d (.int .i64 z34.1.Top)) :: ((.d (.int .i64 z34.1.Bottom)) :: ((.d (.int .i64 z34.1.Pen.Flags)) :: ((.d (.int .i64 z34.1.Pen.Fore)) :: ((.d (.int .i64 z34.1.Pen.Back)) :: ((.d (.int .i64 z34.1.Modes)) :: (((eInt .u64).row 4 z34.1.Stops.Bits) ++ ((.d (.int .i64 z34.1.Pages.1)) :: ((.d (.int .i64 z34.1.Pages.2)) :: ((.d (.int .i64 z34.1.Shift)) :: ((.d (.int .i64 z34.1.Saved.Row)) :: ((.d (.int .i64 z34.1.Saved.Col)) :: ((.d (.int .i64 z34.1.Saved.Pen.Flags)) :: ((.d (.int .i64 z34.1.Saved.Pen.Fore)) :: ((.d (.int .i64 z34.1.Saved.Pen.Back)) :: ((.d (.bool z34.1.Saved.Origin)) :: ((.d (.int .i64 z34.1.Saved.Pages.1)) :: ((.d (.int .i64 z34.1.Saved.Pages.2)) :: ((.d (.int .i64 z34.1.Saved.Shift)) :: ((.d (.int .i64 z34.1.Other.Wide)) :: ((.d (.int .i64 z34.1.Other.High)) :: ((.r (.own 1 46 4 z34.1.Other.Cells.length (e_GCell.cells z34.1.Other.Cells))) :: ((.d (.str z34.1.Title)) :: ((.r (.own 2 73 1 z34.1.Past.length (e_GLine.cells z34.1.Past))) :: []))))))))))))))))))))))))))))))), (.d (.str z34.2.1)), (.d (.int .i64 z34.2.2))])) (v := (.tup [(.agg ((.d (.int .i64 z34.1.Grid.Wide)) :: ((.d (.int .i64 z34.1.Grid.High)) :: ((.r (.msl 464 1 0 z34.1.Grid.Cells.length)) :: ((.d (.int .i64 z34.1.Row)) :: ((.d (.int .i64 z34.1.Col)) :: ((.d (.bool z34.1.Late)) :: ((.d (.int .i64 z34.1.Top)) :: ((.d (.int .i64 z34.1.Bottom)) :: ((.d (.int .i64 z34.1.Pen.Flags)) :: ((.d (.int .i64 z34.1.Pen.Fore)) :: ((.d (.int .i64 z34.1.Pen.Back)) :: ((.d (.int .i64 z34.1.Modes)) :: (((eInt .u64).row 4 z34.1.Stops.Bits) ++ ((.d (.int .i64 z34.1.Pages.1)) :: ((.d (.int .i64 z34.1.Pages.2)) :: ((.d (.int .i64 z34.1.Shift)) :: ((.d (.int .i64 z34.1.Saved.Row)) :: ((.d (.int .i64 z34.1.Saved.Col)) :: ((.d (.int .i64 z34.1.Saved.Pen.Flags)) :: ((.d (.int .i64 z34.1.Saved.Pen.Fore)) :: ((.d (.int .i64 z34.1.Saved.Pen.Back)) :: ((.d (.bool z34.1.Saved.Origin)) :: ((.d (.int .i64 z34.1.Saved.Pages.1)) :: ((.d (.int .i64 z34.1.Saved.Pages.2)) :: ((.d (.int .i64 z34.1.Saved.Shift)) :: ((.d (.int .i64 z34.1.Other.Wide)) :: ((.d (.int .i64 z34.1.Other.High)) :: ((.r (.msl 465 1 0 z34.1.Other.Cells.length)) :: ((.d (.str z34.1.Title)) :: ((.r (.msl 466 1 0 z34.1.Past.length)) :: []))))))))))))))))))))))))))))))), (.d (.str z34.2.1)), (.d (.int .i64 z34.2.2))])) (ups' := [(464, ⟨1, some (.own 46 4 (e_GCell.cells z34.1.Grid.Cells))⟩), (465, ⟨1, some (.own 46 4 (e_GCell.cells z34.1.Other.Cells))⟩), (466, ⟨1, some (.own 73 1 (e_GLine.cells z34.1.Past))⟩)]) (by kernel_rfl) (by kernel_rfl) (by kernel_rfl) (fz_cons (fz_agg (fz_cons (by kernel_rfl) (fz_cons (by kernel_rfl) (fz_cons (fz_own e_GCell (e := 46) (k := 4) (xs := p137.Grid.Cells) (by kernel_rfl) (by kernel_rfl) rfl rfl) (fz_cons (by kernel_rfl) (fz_cons (by kernel_rfl) (fz_cons (by kernel_rfl) (fz_cons (by kernel_rfl) (fz_cons (by kernel_rfl) (fz_cons (by kernel_rfl) (fz_cons (by kernel_rfl) (fz_cons (by kernel_rfl) (fz_cons (by kernel_rfl) (fz_app (fz_row (eInt .u64)) (fz_cons (by kernel_rfl) (fz_cons (by kernel_rfl) (fz_cons (by kernel_rfl) (fz_cons (by kernel_rfl) (fz_cons (by kernel_rfl) (fz_cons (by kernel_rfl) (fz_cons (by kernel_rfl) (fz_cons (by kernel_rfl) (fz_cons (by kernel_rfl) (fz_cons (by kernel_rfl) (fz_cons (by kernel_rfl) (fz_cons (by kernel_rfl) (fz_cons (by kernel_rfl) (fz_cons (by kernel_rfl) (fz_cons (fz_own e_GCell (e := 46) (k := 4) (xs := p137.Other.Cells) (by kernel_rfl) (by kernel_rfl) rfl rfl) (fz_cons (by kernel_rfl) (fz_cons (by kernel_rfl) fz_nil))))))))))))))))))))))))))))))) (fz_cons (fz_own e_GAct (e := 55) (k := 6) (xs := z33) (by kernel_rfl) (by kernel_rfl) rfl rfl) fz_nil)) (by kernel_rfl) (f6_ok (d - 1) (dpt hd rfl) ({ p137 with Past := [] }) z33 z34 hz34) (by kernel_rfl) (by kernel_rfl) (by kernel_rfl) (by kernel_rfl)) ?_
  refine zdRun (n := 8) (j := 12) (ts := [[], [], [], [], [(88, true)], [(88, true)], [], []]) (acc' := [[(64, false)], [], [(456, true), (457, true), (458, true), (459, true), (460, true), (461, true), (462, true), (463, true)], [(160, true), (161, true), (456, true), (464, true), (465, true), (466, true), (467, true), (468, true), (469, true), (470, true), (471, true)], [], [], [], [], [(88, true)], [(88, true)], [], []]) rfl (by kernel_rfl) (by kernel_rfl) (by kernel_rfl) ?_
  refine zdEnd (by kernel_rfl) (by kernel_rfl) ?_
  refine zkSeq ?_
  refine zrSeq ?_
  refine zrSeq ?_
  refine zrReg ?_
  refine zlRun (n := 1) (j := 1) rfl (by kernel_rfl) ?_
  refine zlBool (d := 62) (op := (.cmpI .neq (.tmp 61) (.const (.int .i64 0)))) (g := none) (j := 2) (!decide (z34.2.2 = 0)) rfl (by kernel_rfl) (by kernel_rfl) (by kernel_rfl) (fun hc => ?_) (fun hc => ?_)
  · replace hS := cond_t hc hS
    refine zlRun (n := 14) (j := 16) rfl (by kernel_rfl) ?_
    refine zlEnd (by kernel_rfl) ?_
    refine zkSeq ?_
    refine zrCondT (by kernel_rfl) ?_
    refine zrSeq ?_
    refine zrReg ?_
    refine zlRun (n := 1) (j := 1) rfl (by kernel_rfl) ?_
    refine zlEnd (by kernel_rfl) ?_
    refine zkSeq ?_
    refine zrRet ?_
    refine zkSeqR ?_
    refine zkNil ?_
    exact endQ hS hQ (fRet (by kernel_rfl) ((congrArg (fun s => outR s 0 c3.res) (by kernel_rfl : finSt c3.fin _ = f3_fin false)).trans (f3_out false)))
  · replace hS := cond_f hc hS
    refine zlRun (n := 2) (j := 4) rfl (by kernel_rfl) ?_
    refine zlBool (d := 65) (op := (.strO .neq (.tmp 64) (.const (.string ⟨#[]⟩)))) (g := (some (63, false))) (j := 5) (!decide (z34.2.1 = ([] : List UInt8))) rfl (by kernel_rfl) (by kernel_rfl) (by kernel_rfl) (fun hc => ?_) (fun hc => ?_)
    · replace hS := cond_t hc hS
      refine zlRun (n := 11) (j := 16) rfl (by kernel_rfl) ?_
      refine zlEnd (by kernel_rfl) ?_
      refine zkSeq ?_
      refine zrCondT (by kernel_rfl) ?_
      refine zrSeq ?_
      refine zrReg ?_
      refine zlRun (n := 1) (j := 1) rfl (by kernel_rfl) ?_
      refine zlEnd (by kernel_rfl) ?_
      refine zkSeq ?_
      refine zrRet ?_
      refine zkSeqR ?_
      refine zkNil ?_
      exact endQ hS hQ (fRet (by kernel_rfl) ((congrArg (fun s => outR s 0 c3.res) (by kernel_rfl : finSt c3.fin _ = f3_fin false)).trans (f3_out false)))
    · replace hS := cond_f hc hS
      refine zlRun (n := 9) (j := 14) rfl (by kernel_rfl) ?_
      refine zlBool (d := 75) (op := (.cmpI .neq (.tmp 71) (.tmp 74))) (g := (some (67, false))) (j := 15) (!decide ((z34.1.Grid.Cells.length : Int) = (IntKind.i64.wrap (a1 * a2)))) rfl (by kernel_rfl) (by kernel_rfl) (by kernel_rfl) (fun hc => ?_) (fun hc => ?_)
      · replace hS := cond_t hc hS
        refine zlRun (n := 1) (j := 16) rfl (by kernel_rfl) ?_
        refine zlEnd (by kernel_rfl) ?_
        refine zkSeq ?_
        refine zrCondT (by kernel_rfl) ?_
        refine zrSeq ?_
        refine zrReg ?_
        refine zlRun (n := 1) (j := 1) rfl (by kernel_rfl) ?_
        refine zlEnd (by kernel_rfl) ?_
        refine zkSeq ?_
        refine zrRet ?_
        refine zkSeqR ?_
        refine zkNil ?_
        exact endQ hS hQ (fRet (by kernel_rfl) ((congrArg (fun s => outR s 0 c3.res) (by kernel_rfl : finSt c3.fin _ = f3_fin false)).trans (f3_out false)))
      · replace hS := cond_f hc hS
        refine zlRun (n := 1) (j := 16) rfl (by kernel_rfl) ?_
        refine zlEnd (by kernel_rfl) ?_
        refine zkSeq ?_
        refine zrCondF (by kernel_rfl) ?_
        refine zrSkip ?_
        refine zkSeq ?_
        exact f3_j2_ok hd a1 a2 a3 hQ z34.1 hS (by kernel_rfl)
def f3_l8_J (a1 : Int) (a2 : Int) (a3 : List UInt8) (x : GScreen × Int) : St := ⟨(up (up (up (up (up (up (fun _ => .un) 39 (.d (.int .i64 x.2))) 38 (.d (.int .i64 (a3.length : Int)))) 7 (.r (.ptr 64 0 0))) 2 (.d (.str a3))) 1 (.d (.int .i64 a2))) 0 (.d (.int .i64 a1))), (up (up (up (hB fun _ => 0) 161 ⟨0, some (.own 46 4 (e_GCell.cells x.1.Other.Cells))⟩) 160 ⟨0, some (.own 46 4 (e_GCell.cells x.1.Grid.Cells))⟩) 64 ⟨0, some (.box (bx_GScreen x.1 (.r (.msl 160 0 0 x.1.Grid.Cells.length)) (.r (.msl 161 0 0 x.1.Other.Cells.length)) .nil))⟩)⟩
def f3_l8_H (a1 : Int) (a2 : Int) (a3 : List UInt8) (x : GScreen × Int) (st : St) : Prop := keepSt [0, 1, 2, 7, 38, 39] [(64, .id 64), (160, .id 160), (161, .id 161)] [] st = f3_l8_J a1 a2 a3 x
def f3_l8_e0_J (a1 : Int) (a2 : Int) (a3 : List UInt8) (p136 : GScreen) : St := ⟨(up (up (up (up (fun _ => .un) 7 (.r (.ptr 64 0 0))) 2 (.d (.str a3))) 1 (.d (.int .i64 a2))) 0 (.d (.int .i64 a1))), (up (up (up (hB fun _ => 0) 161 ⟨0, some (.own 46 4 (e_GCell.cells p136.Other.Cells))⟩) 160 ⟨0, some (.own 46 4 (e_GCell.cells p136.Grid.Cells))⟩) 64 ⟨0, some (.box (bx_GScreen p136 (.r (.msl 160 0 0 p136.Grid.Cells.length)) (.r (.msl 161 0 0 p136.Other.Cells.length)) .nil))⟩)⟩
def f3_l8_X (a1 : Int) (a2 : Int) (a3 : List UInt8) (z : GScreen ⊕ Bool) (e : PX) (st : St) : Prop := (match z with | .inl z => e = .exit 0 ∧ st = f3_l8_e0_J a1 a2 a3 z | .inr z => e = .ret ∧ finSt c3.fin st = f3_fin z)
def f3_l8_j10_J (a1 : Int) (a2 : Int) (a3 : List UInt8) (p229 : GScreen) (p230 : Int) : St := ⟨(up (up (up (up (up (up (fun _ => .un) 39 (.d (.int .i64 p230))) 38 (.d (.int .i64 (a3.length : Int)))) 7 (.r (.ptr 64 0 0))) 2 (.d (.str a3))) 1 (.d (.int .i64 a2))) 0 (.d (.int .i64 a1))), (up (up (up (hB fun _ => 0) 161 ⟨0, some (.own 46 4 (e_GCell.cells p229.Other.Cells))⟩) 160 ⟨0, some (.own 46 4 (e_GCell.cells p229.Grid.Cells))⟩) 64 ⟨0, some (.box (bx_GScreen p229 (.r (.msl 160 0 0 p229.Grid.Cells.length)) (.r (.msl 161 0 0 p229.Other.Cells.length)) .nil))⟩)⟩
noncomputable def f3_l8_j10 (a1 : Int) (a2 : Int) (a3 : List UInt8) (p229 : GScreen) (p230 : Int) : Option ((GScreen × Int) ⊕ (GScreen ⊕ Bool)) := ((idx a3 p230).bind fun z54 => (bif (decide ((z54.toNat : Int) < 32)) then (some (.inr (.inr true))) else ((idx a3 p230).bind fun z55 => (bif (decide (126 < (z55.toNat : Int))) then (some (.inr (.inr true))) else (some (.inl ({ p229 with Past := [] }, (IntKind.i64.wrap (p230 + 1)))))))))
theorem f3_l8_j10_ok {d : Nat} (hd : 9 ≤ d) (a1 : Int) (a2 : Int) (a3 : List UInt8) {r : (GScreen × Int) ⊕ (GScreen ⊕ Bool)} {Q : PX → St → Prop} (hQ : ∀ e st', finL (f3_l8_H a1 a2 a3) (f3_l8_X a1 a2 a3) r e st' → Q e st') (p229 : GScreen) (p230 : Int) (hS : f3_l8_j10 a1 a2 a3 p229 p230 = some r) {st : St} (he : keepSt [0, 1, 2, 7, 38, 39] [(64, .id 64), (160, .id 160), (161, .id 161)] [] st = f3_l8_j10_J a1 a2 a3 p229 p230) : ZR (lev codes baseL (d - 1)) Q c3_8 [] st := by
  refine zrKeep he ?_
  unfold f3_l8_j10 at hS
  refine zrSeq ?_
  refine zrBlk ?_
  refine zrSeq ?_
  refine zrReg ?_
  refine zlRun (n := 2) (j := 2) rfl (by kernel_rfl) ?_
  refine zlEnd (by kernel_rfl) ?_
  refine zkSeq ?_
  refine zrSeq ?_
  refine zrReg ?_
  refine zlRun (n := 2) (j := 2) rfl (by kernel_rfl) ?_
  refine bindE hS (fun z54 hz54 hS => ?_)
  refine zlOp (d := some 44) (op := (.ixStr (.tmp 42) (.tmp 43))) (g := none) (v := (.d (.int .u8 (z54.toNat : Int)))) (ups := []) (j := 3) rfl (by kernel_rfl) (by kernel_rfl) (ev_ixStr (kk := .i64) (s := a3) (j := p230) (by kernel_rfl) (by kernel_rfl) hz54) ?_
  refine zlBool (d := 45) (op := (.cmpI .lss (.tmp 44) (.const (.int .u8 32)))) (g := none) (j := 4) (decide ((z54.toNat : Int) < 32)) rfl (by kernel_rfl) (by kernel_rfl) (by kernel_rfl) (fun hc => ?_) (fun hc => ?_)
  · replace hS := cond_t hc hS
    refine zlRun (n := 6) (j := 10) rfl (by kernel_rfl) ?_
    refine zlEnd (by kernel_rfl) ?_
    refine zkSeq ?_
    refine zrCondT (by kernel_rfl) ?_
    refine zrSeq ?_
    refine zrReg ?_
    refine zlRun (n := 1) (j := 1) rfl (by kernel_rfl) ?_
    refine zlEnd (by kernel_rfl) ?_
    refine zkSeq ?_
    refine zrRet ?_
    refine zkBlkR ?_
    refine zkSeqR ?_
    refine zkNil ?_
    exact endQ hS hQ (finL_x (by intro h; cases h) (by show _ = _ ∧ _ = _; exact ⟨rfl, by kernel_rfl⟩))
  · replace hS := cond_f hc hS
    refine zlRun (n := 3) (j := 7) rfl (by kernel_rfl) ?_
    refine bindE hS (fun z55 hz55 hS => ?_)
    refine zlOp (d := some 49) (op := (.ixStr (.tmp 47) (.tmp 48))) (g := (some (46, false))) (v := (.d (.int .u8 (z55.toNat : Int)))) (ups := []) (j := 8) rfl (by kernel_rfl) (by kernel_rfl) (ev_ixStr (kk := .i64) (s := a3) (j := p230) (by kernel_rfl) (by kernel_rfl) hz55) ?_
    refine zlBool (d := 50) (op := (.cmpI .gtr (.tmp 49) (.const (.int .u8 126)))) (g := (some (46, false))) (j := 9) (decide (126 < (z55.toNat : Int))) rfl (by kernel_rfl) (by kernel_rfl) (by kernel_rfl) (fun hc => ?_) (fun hc => ?_)
    · replace hS := cond_t hc hS
      refine zlRun (n := 1) (j := 10) rfl (by kernel_rfl) ?_
      refine zlEnd (by kernel_rfl) ?_
      refine zkSeq ?_
      refine zrCondT (by kernel_rfl) ?_
      refine zrSeq ?_
      refine zrReg ?_
      refine zlRun (n := 1) (j := 1) rfl (by kernel_rfl) ?_
      refine zlEnd (by kernel_rfl) ?_
      refine zkSeq ?_
      refine zrRet ?_
      refine zkBlkR ?_
      refine zkSeqR ?_
      refine zkNil ?_
      exact endQ hS hQ (finL_x (by intro h; cases h) (by show _ = _ ∧ _ = _; exact ⟨rfl, by kernel_rfl⟩))
    · replace hS := cond_f hc hS
      refine zlRun (n := 1) (j := 10) rfl (by kernel_rfl) ?_
      refine zlEnd (by kernel_rfl) ?_
      refine zkSeq ?_
      refine zrCondF (by kernel_rfl) ?_
      refine zrSkip ?_
      refine zkBlk ?_
      refine zkSeq ?_
      refine zrReg ?_
      refine zlRun (n := 2) (j := 2) rfl (by kernel_rfl) ?_
      refine zlEnd (by kernel_rfl) ?_
      refine zkNil ?_
      exact endQ hS hQ (finL_n (by show keepSt _ _ _ _ = _; kernel_rfl))
def f3_l8_j9_J (a1 : Int) (a2 : Int) (a3 : List UInt8) (p226 : GScreen) (p227 : Int) (p228 : Bool) : St := ⟨(up (up (up (up (up (up (up (fun _ => .un) 40 (.d (.bool p228))) 39 (.d (.int .i64 p227))) 38 (.d (.int .i64 (a3.length : Int)))) 7 (.r (.ptr 64 0 0))) 2 (.d (.str a3))) 1 (.d (.int .i64 a2))) 0 (.d (.int .i64 a1))), (up (up (up (hB fun _ => 0) 161 ⟨0, some (.own 46 4 (e_GCell.cells p226.Other.Cells))⟩) 160 ⟨0, some (.own 46 4 (e_GCell.cells p226.Grid.Cells))⟩) 64 ⟨0, some (.box (bx_GScreen p226 (.r (.msl 160 0 0 p226.Grid.Cells.length)) (.r (.msl 161 0 0 p226.Other.Cells.length)) .nil))⟩)⟩
noncomputable def f3_l8_j9 (a1 : Int) (a2 : Int) (a3 : List UInt8) (p226 : GScreen) (p227 : Int) (p228 : Bool) : Option ((GScreen × Int) ⊕ (GScreen ⊕ Bool)) := (bif p228 then (f3_l8_j10 a1 a2 a3 ({ p226 with Past := [] }) p227) else (some (.inr (.inl ({ p226 with Past := [] })))))
theorem f3_l8_j9_ok {d : Nat} (hd : 9 ≤ d) (a1 : Int) (a2 : Int) (a3 : List UInt8) {r : (GScreen × Int) ⊕ (GScreen ⊕ Bool)} {Q : PX → St → Prop} (hQ : ∀ e st', finL (f3_l8_H a1 a2 a3) (f3_l8_X a1 a2 a3) r e st' → Q e st') (p226 : GScreen) (p227 : Int) (p228 : Bool) (hS : f3_l8_j9 a1 a2 a3 p226 p227 p228 = some r) {st : St} (he : keepSt [0, 1, 2, 7, 38, 39, 40] [(64, .id 64), (160, .id 160), (161, .id 161)] [] st = f3_l8_j9_J a1 a2 a3 p226 p227 p228) : ZR (lev codes baseL (d - 1)) Q c3_9 [] st := by
  refine zrKeep he ?_
  unfold f3_l8_j9 at hS
  refine zrSeq ?_
  refine zrSplit 40 p228 (by kernel_rfl) (fun hc => ?_) (fun hc => ?_)
  · replace hS := cond_t hc hS
    refine zrCondT (by kernel_rfl) ?_
    refine zrSkip ?_
    refine zkSeq ?_
    exact f3_l8_j10_ok hd a1 a2 a3 hQ ({ p226 with Past := [] }) p227 hS (by kernel_rfl)
  · replace hS := cond_f hc hS
    refine zrCondF (by kernel_rfl) ?_
    refine zrKeep (J := f3_l8_e0_J a1 a2 a3 ({ p226 with Past := [] })) (by kernel_rfl) ?_
    refine zrExit ?_
    refine zkSeqX ?_
    refine zkNil ?_
    exact endQ hS hQ (finL_x (by intro h; cases h) (by show _ = _ ∧ _ = _; exact ⟨rfl, rfl⟩))
noncomputable def f3_l8 (a1 : Int) (a2 : Int) (a3 : List UInt8) (x : GScreen × Int) : Option ((GScreen × Int) ⊕ (GScreen ⊕ Bool)) := (bif (decide (x.2 < (a3.length : Int))) then (f3_l8_j9 a1 a2 a3 (GScreen.mk x.1.Grid x.1.Row x.1.Col x.1.Late x.1.Top x.1.Bottom x.1.Pen x.1.Modes x.1.Stops x.1.Pages x.1.Shift x.1.Saved x.1.Other x.1.Title ([])) x.2 true) else (f3_l8_j9 a1 a2 a3 (GScreen.mk x.1.Grid x.1.Row x.1.Col x.1.Late x.1.Top x.1.Bottom x.1.Pen x.1.Modes x.1.Stops x.1.Pages x.1.Shift x.1.Saved x.1.Other x.1.Title ([])) x.2 false))
theorem f3_l8_ok {d : Nat} (hd : 9 ≤ d) (a1 : Int) (a2 : Int) (a3 : List UInt8) {r : (GScreen × Int) ⊕ (GScreen ⊕ Bool)} {Q : PX → St → Prop} (hQ : ∀ e st', finL (f3_l8_H a1 a2 a3) (f3_l8_X a1 a2 a3) r e st' → Q e st') {x : GScreen × Int} (hS : f3_l8 a1 a2 a3 x = some r) {st : St} (he : f3_l8_H a1 a2 a3 x st) : ZR (lev codes baseL (d - 1)) Q c3_10 [] st := by
  refine zrKeep he ?_
  unfold f3_l8 at hS
  refine zrSeq ?_
  refine zrReg ?_
  refine zlBool (d := 40) (op := (.cmpI .lss (.tmp 39) (.tmp 38))) (g := none) (j := 1) (decide (x.2 < (a3.length : Int))) rfl (by kernel_rfl) (by kernel_rfl) (by kernel_rfl) (fun hc => ?_) (fun hc => ?_)
  · replace hS := cond_t hc hS
    refine zlEnd (by kernel_rfl) ?_
    refine zkSeq ?_
    exact f3_l8_j9_ok hd a1 a2 a3 hQ (GScreen.mk x.1.Grid x.1.Row x.1.Col x.1.Late x.1.Top x.1.Bottom x.1.Pen x.1.Modes x.1.Stops x.1.Pages x.1.Shift x.1.Saved x.1.Other x.1.Title ([])) x.2 true hS (by kernel_rfl)
  · replace hS := cond_f hc hS
    refine zlEnd (by kernel_rfl) ?_
    refine zkSeq ?_
    exact f3_l8_j9_ok hd a1 a2 a3 hQ (GScreen.mk x.1.Grid x.1.Row x.1.Col x.1.Late x.1.Top x.1.Bottom x.1.Pen x.1.Modes x.1.Stops x.1.Pages x.1.Shift x.1.Saved x.1.Other x.1.Title ([])) x.2 false hS (by kernel_rfl)
def f3_j0_J (a1 : Int) (a2 : Int) (a3 : List UInt8) (p109 : GScreen) : St := ⟨(up (up (up (up (fun _ => .un) 7 (.r (.ptr 64 0 0))) 2 (.d (.str a3))) 1 (.d (.int .i64 a2))) 0 (.d (.int .i64 a1))), (up (up (up (hB fun _ => 0) 161 ⟨0, some (.own 46 4 (e_GCell.cells p109.Other.Cells))⟩) 160 ⟨0, some (.own 46 4 (e_GCell.cells p109.Grid.Cells))⟩) 64 ⟨0, some (.box (bx_GScreen p109 (.r (.msl 160 0 0 p109.Grid.Cells.length)) (.r (.msl 161 0 0 p109.Other.Cells.length)) .nil))⟩)⟩
noncomputable def f3_j0 (a1 : Int) (a2 : Int) (a3 : List UInt8) (p109 : GScreen) : Option (Bool) := ((loopO (f3_l8 a1 a2 a3) ({ p109 with Past := [] }, 0)).bind fun z56 => (Sum.elim (fun z57 => (f3_j1 a1 a2 a3 (GScreen.mk z57.Grid z57.Row z57.Col z57.Late z57.Top z57.Bottom z57.Pen z57.Modes z57.Stops z57.Pages z57.Shift z57.Saved z57.Other z57.Title ([])))) (fun z58 => (some z58)) z56))
theorem f3_j0_ok {d : Nat} (hd : 9 ≤ d) (a1 : Int) (a2 : Int) (a3 : List UInt8) {r : Bool} {Q : PX → St → Prop} (hQ : ∀ e st', f3_Q r e st' → Q e st') (p109 : GScreen) (hS : f3_j0 a1 a2 a3 p109 = some r) {st : St} (he : keepSt [0, 1, 2, 7] [(64, .id 64), (160, .id 160), (161, .id 161)] [] st = f3_j0_J a1 a2 a3 p109) : ZR (lev codes baseL (d - 1)) Q c3_11 [] st := by
  refine zrKeep he ?_
  unfold f3_j0 at hS
  refine zrSeq ?_
  refine zrSeq ?_
  refine zrReg ?_
  refine zlRun (n := 3) (j := 3) rfl (by kernel_rfl) ?_
  refine zlEnd (by kernel_rfl) ?_
  refine zkSeq ?_
  refine zrBlk ?_
  refine bindE hS (fun z56 hz56 hS => ?_)
  refine zrLoop (f3_l8_H a1 a2 a3) (f3_l8_X a1 a2 a3) (fun x st r Q h0 hS hQ => f3_l8_ok hd a1 a2 a3 hQ hS h0) (x := ({ p109 with Past := [] }, 0)) (z := z56) (by show keepSt _ _ _ _ = _; kernel_rfl) hz56 ?_
  rcases z56 with z57 | z58
  · replace hS := (show _ = _ from hS)
    simp only [Sum.elim_inl] at hS
    intro e st' _ hX
    obtain ⟨rfl, rfl⟩ : _ ∧ _ := hX
    refine zkBlkX ?_
    refine zkSeq ?_
    exact f3_j1_ok hd a1 a2 a3 hQ (GScreen.mk z57.Grid z57.Row z57.Col z57.Late z57.Top z57.Bottom z57.Pen z57.Modes z57.Stops z57.Pages z57.Shift z57.Saved z57.Other z57.Title ([])) hS (by kernel_rfl)
  · simp only [Sum.elim_inr] at hS
    intro e st' _ hX
    obtain ⟨rfl, hX⟩ : _ ∧ _ := hX
    refine zkBlkR ?_
    refine zkSeqR ?_
    refine zkNil ?_
    exact endQ hS hQ (fRet (by kernel_rfl) ((congrArg (fun s => outR s 0 c3.res) hX).trans (f3_out z58)))
noncomputable def f3 (a1 : Int) (a2 : Int) (a3 : List UInt8) : Option (Bool) := ((f4 a1 a2).bind fun z24 => (libLives.bind fun z59 => (bif (!z59) then (libLives.bind fun z60 => (some z60)) else (bif (!decide (z24.2 = 0)) then (libLives.bind fun z61 => (some z61)) else (bif (decide ((IntKind.i64.wrap (a1 * a2)) ≤ (a3.length : Int))) then (libLives.bind fun z62 => (some z62)) else (f3_j0 a1 a2 a3 ({ z24.1 with Past := [] })))))))
theorem f3_ok (d : Nat) (hd : 9 ≤ d) (a1 : Int) (a2 : Int) (a3 : List UInt8) (r : Bool) (hS : f3 a1 a2 a3 = some r) : lev codes baseL d 3 [(.d (.int .i64 a1)), (.d (.int .i64 a2)), (.d (.str a3))] [] = some ((.d (.bool r)), []) := by
  refine lev_go codes3 rfl rfl (Nat.le_trans (Nat.le_of_ble_eq_true rfl) hd) fun Q hQ => ?_
  unfold f3 at hS
  show ZR _ Q c3_b [] _
  replace hQ : ∀ e st', f3_Q r e st' → Q e st' := hQ
  refine zrSeq ?_
  refine zrReg ?_
  refine zlRun (n := 1) (j := 1) rfl (by kernel_rfl) ?_
  refine zlEnd (by kernel_rfl) ?_
  refine zkSeq ?_
  refine zrSeq ?_
  refine zrReg ?_
  refine zlRun (n := 2) (j := 2) rfl (by kernel_rfl) ?_
  refine bindE hS (fun z24 hz24 hS => ?_)
  refine zlOp (d := some 19) (op := (.call 4 [(.tmp 17), (.tmp 18)])) (g := none) (j := 3) rfl (by kernel_rfl) (by kernel_rfl) (ev_callA (by kernel_rfl) (f4_ok (d - 1) (dpt hd rfl) a1 a2 z24 hz24) (by kernel_rfl) (by kernel_rfl)) ?_
  refine zlRun (n := 6) (j := 9) rfl (by kernel_rfl) ?_
  refine zlEnd (by kernel_rfl) ?_
  refine zkSeq ?_
  refine zrSeq ?_
  refine zrSeq ?_
  refine zrReg ?_
  refine bindE hS (fun z59 hz59 hS => ?_)
  refine zlOp (d := some 22) (op := (.call 5 [])) (g := none) (j := 1) rfl (by kernel_rfl) (by kernel_rfl) (ev_callA (by kernel_rfl) (libLives_ok (d - 1) (dpt hd rfl)  z59 hz59) (by kernel_rfl) (by kernel_rfl)) ?_
  refine zlRun (n := 2) (j := 3) rfl (by kernel_rfl) ?_
  refine zlSplit 24 (!z59) (by kernel_rfl) (fun hc => ?_) (fun hc => ?_)
  · replace hS := cond_t hc hS
    refine zlRun (n := 11) (j := 14) rfl (by kernel_rfl) ?_
    refine zlEnd (by kernel_rfl) ?_
    refine zkSeq ?_
    refine zrCondT (by kernel_rfl) ?_
    refine zrSeq ?_
    refine zrReg ?_
    refine bindE hS (fun z60 hz60 hS => ?_)
    refine zlOp (d := some 36) (op := (.call 5 [])) (g := none) (j := 1) rfl (by kernel_rfl) (by kernel_rfl) (ev_callA (by kernel_rfl) (libLives_ok (d - 1) (dpt hd rfl)  z60 hz60) (by kernel_rfl) (by kernel_rfl)) ?_
    refine zlRun (n := 1) (j := 2) rfl (by kernel_rfl) ?_
    refine zlEnd (by kernel_rfl) ?_
    refine zkSeq ?_
    refine zrRet ?_
    refine zkSeqR ?_
    refine zkNil ?_
    exact endQ hS hQ (fRet (by kernel_rfl) ((congrArg (fun s => outR s 0 c3.res) (by kernel_rfl : finSt c3.fin _ = f3_fin z60)).trans (f3_out z60)))
  · replace hS := cond_f hc hS
    refine zlRun (n := 1) (j := 4) rfl (by kernel_rfl) ?_
    refine zlBool (d := 26) (op := (.cmpI .neq (.tmp 25) (.const (.int .i64 0)))) (g := (some (24, false))) (j := 5) (!decide (z24.2 = 0)) rfl (by kernel_rfl) (by kernel_rfl) (by kernel_rfl) (fun hc => ?_) (fun hc => ?_)
    · replace hS := cond_t hc hS
      refine zlRun (n := 9) (j := 14) rfl (by kernel_rfl) ?_
      refine zlEnd (by kernel_rfl) ?_
      refine zkSeq ?_
      refine zrCondT (by kernel_rfl) ?_
      refine zrSeq ?_
      refine zrReg ?_
      refine bindE hS (fun z61 hz61 hS => ?_)
      refine zlOp (d := some 36) (op := (.call 5 [])) (g := none) (j := 1) rfl (by kernel_rfl) (by kernel_rfl) (ev_callA (by kernel_rfl) (libLives_ok (d - 1) (dpt hd rfl)  z61 hz61) (by kernel_rfl) (by kernel_rfl)) ?_
      refine zlRun (n := 1) (j := 2) rfl (by kernel_rfl) ?_
      refine zlEnd (by kernel_rfl) ?_
      refine zkSeq ?_
      refine zrRet ?_
      refine zkSeqR ?_
      refine zkNil ?_
      exact endQ hS hQ (fRet (by kernel_rfl) ((congrArg (fun s => outR s 0 c3.res) (by kernel_rfl : finSt c3.fin _ = f3_fin z61)).trans (f3_out z61)))
    · replace hS := cond_f hc hS
      refine zlRun (n := 7) (j := 12) rfl (by kernel_rfl) ?_
      refine zlBool (d := 34) (op := (.cmpI .geq (.tmp 30) (.tmp 33))) (g := (some (28, false))) (j := 13) (decide ((IntKind.i64.wrap (a1 * a2)) ≤ (a3.length : Int))) rfl (by kernel_rfl) (by kernel_rfl) (by kernel_rfl) (fun hc => ?_) (fun hc => ?_)
      · replace hS := cond_t hc hS
        refine zlRun (n := 1) (j := 14) rfl (by kernel_rfl) ?_
        refine zlEnd (by kernel_rfl) ?_
        refine zkSeq ?_
        refine zrCondT (by kernel_rfl) ?_
        refine zrSeq ?_
        refine zrReg ?_
        refine bindE hS (fun z62 hz62 hS => ?_)
        refine zlOp (d := some 36) (op := (.call 5 [])) (g := none) (j := 1) rfl (by kernel_rfl) (by kernel_rfl) (ev_callA (by kernel_rfl) (libLives_ok (d - 1) (dpt hd rfl)  z62 hz62) (by kernel_rfl) (by kernel_rfl)) ?_
        refine zlRun (n := 1) (j := 2) rfl (by kernel_rfl) ?_
        refine zlEnd (by kernel_rfl) ?_
        refine zkSeq ?_
        refine zrRet ?_
        refine zkSeqR ?_
        refine zkNil ?_
        exact endQ hS hQ (fRet (by kernel_rfl) ((congrArg (fun s => outR s 0 c3.res) (by kernel_rfl : finSt c3.fin _ = f3_fin z62)).trans (f3_out z62)))
      · replace hS := cond_f hc hS
        refine zlRun (n := 1) (j := 14) rfl (by kernel_rfl) ?_
        refine zlEnd (by kernel_rfl) ?_
        refine zkSeq ?_
        refine zrCondF (by kernel_rfl) ?_
        refine zrSkip ?_
        refine zkSeq ?_
        exact f3_j0_ok hd a1 a2 a3 hQ ({ z24.1 with Past := [] }) hS (by kernel_rfl)
end Go.Proofs.YtjoccdgmcdkbkaaDoor.Pm
