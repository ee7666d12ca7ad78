/- Typed functions, and that the codes are these. Printed by dec.py. -/
import Derived.Test.YtipipahbfakcaaaDGbD
namespace Go.Proofs.Ytipipahbfakcaaa.Pm
set_option maxRecDepth 1000000
set_option maxHeartbeats 20000000
set_option linter.unusedVariables false
/- farwriter/grid.Put -/
def f9_fin (p26 : Int) (p27 : Int) (p28 : List GCell) (p29 : Int) : St := ⟨(up (up (fun _ => .un) 11 (.d (.int .i64 p29))) 10 (.r (.ptr 88 0 0))), (up (up (hB fun _ => 0) 352 ⟨0, some (.own 33 4 (e_GCell.cells p28))⟩) 88 ⟨0, some (.box ((.d (.int .i64 p26)) :: ((.d (.int .i64 p27)) :: ((.r (.msl 352 0 0 p28.length)) :: []))))⟩)⟩
theorem f9_out (p26 : Int) (p27 : Int) (p28 : List GCell) (p29 : Int) : outR (f9_fin p26 p27 p28 p29) 0 c9.res = some ((.tup [(.agg ((.d (.int .i64 p26)) :: ((.d (.int .i64 p27)) :: ((.r (.own 0 33 4 p28.length (e_GCell.cells p28))) :: [])))), (.d (.int .i64 p29))]), []) := by
  exact out_of (ids := []) (ids' := [352]) (l := [(.agg ((.d (.int .i64 p26)) :: ((.d (.int .i64 p27)) :: ((.r (.msl 352 0 0 p28.length)) :: [])))), (.d (.int .i64 p29))]) (by kernel_rfl) (by kernel_rfl) (o_tup (o_cons (o_agg (o_cons rfl (o_cons rfl (o_cons (o_own e_GCell (e := 33) (k := 4) (xs := p28) (by kernel_rfl) rfl rfl rfl rfl) o_nil)))) (o_cons rfl o_nil)))
def f9_Q (r : Int × Int × (List GCell) × Int) (e : PX) (st : St) : Prop := DoneF c9 0 ((.tup [(.agg ((.d (.int .i64 r.1)) :: ((.d (.int .i64 r.2.1)) :: ((.r (.own 0 33 4 r.2.2.1.length (e_GCell.cells r.2.2.1))) :: [])))), (.d (.int .i64 r.2.2.2))]), []) e st
def f9_j1_J (a1 : GGrid) (a2 : Int) (a3 : Int) (a4 : Int) (a5 : GPen) (p59 : Int) (p60 : Int) (p61 : List GCell) : St := ⟨(up (up (up (up (up (up (fun _ => .un) 10 (.r (.ptr 88 0 0))) 9 (.r (.ptr 80 0 0))) 5 (.r (.ptr 48 0 0))) 3 (.d (.int .i64 a4))) 2 (.d (.int .i64 a3))) 1 (.d (.int .i64 a2))), (up (up (up (up (hB fun _ => 0) 88 ⟨0, some (.box ((.d (.int .i64 0)) :: ((.d (.int .i64 0)) :: ((.d (.sl ([] : List GCell).length (e_GCell.cells ([])))) :: []))))⟩) 80 ⟨0, some (.box ((.d (.int .i64 a5.Flags)) :: ((.d (.int .i64 a5.Fore)) :: ((.d (.int .i64 a5.Back)) :: []))))⟩) 352 ⟨0, some (.own 33 4 (e_GCell.cells p61))⟩) 48 ⟨0, some (.box ((.d (.int .i64 p59)) :: ((.d (.int .i64 p60)) :: ((.r (.msl 352 0 0 p61.length)) :: []))))⟩)⟩
noncomputable def f9_j1 (a1 : GGrid) (a2 : Int) (a3 : Int) (a4 : Int) (a5 : GPen) (p59 : Int) (p60 : Int) (p61 : List GCell) : Option (Int × Int × (List GCell) × Int) := ((f30 p59 p60 a2 a3 a4 a5 p61).bind fun z17 => ((chk (decide (z17.length = p61.length))).bind fun z18 => (some (p59, p60, z17, 0))))
theorem f9_j1_ok {base : Orc} {d : Nat} (hd : 6 ≤ d) (a1 : GGrid) (a2 : Int) (a3 : Int) (a4 : Int) (a5 : GPen) {r : Int × Int × (List GCell) × Int} {Q : PX → St → Prop} (hQ : ∀ e st', f9_Q r e st' → Q e st') (p59 : Int) (p60 : Int) (p61 : List GCell) (hS : f9_j1 a1 a2 a3 a4 a5 p59 p60 p61 = some r) {st : St} (he : keepSt [1, 2, 3, 5, 9, 10] [(48, .id 48), (352, .id 352), (80, .id 80), (88, .id 88)] [] st = f9_j1_J a1 a2 a3 a4 a5 p59 p60 p61) : ZR (lev codes base (d - 1)) Q c9_1 [] st := by
  refine zrKeep he ?_
  unfold f9_j1 at hS
  refine zrSeq ?_
  refine zrReg ?_
  refine zlRun (n := 5) (j := 5) rfl (by kernel_rfl) ?_
  refine bindE hS (fun z17 hz17 hS => ?_)
  refine bindE hS (fun z18 hz18 hS => ?_)
  refine zlOp (d := some 55) (op := (.callr 30 [(.tmp 50), (.tmp 51), (.tmp 52), (.tmp 53), (.tmp 54)])) (g := none) (v := (.tup [])) (ups := [(352, ⟨0, some (.own 33 4 (e_GCell.cells z17))⟩)]) (j := 6) rfl (by kernel_rfl) (by kernel_rfl) (ev_callrX (args := [(.agg ((.d (.int .i64 p59)) :: ((.d (.int .i64 p60)) :: ((.r (.msl 352 0 0 p61.length)) :: [])))), (.d (.int .i64 a2)), (.d (.int .i64 a3)), (.d (.int .i64 a4)), (.agg ((.d (.int .i64 a5.Flags)) :: ((.d (.int .i64 a5.Fore)) :: ((.d (.int .i64 a5.Back)) :: []))))]) (ids := [352]) (bs := [(.own 33 4 (e_GCell.cells p61))]) (l := [(.agg ((.d (.int .i64 p59)) :: ((.d (.int .i64 p60)) :: ((.r (.msl 0 0 0 p61.length)) :: [])))), (.d (.int .i64 a2)), (.d (.int .i64 a3)), (.d (.int .i64 a4)), (.agg ((.d (.int .i64 a5.Flags)) :: ((.d (.int .i64 a5.Fore)) :: ((.d (.int .i64 a5.Back)) :: []))))]) (bt := [(.own 33 4 (e_GCell.cells p61))]) (r := (.tup [])) (bs' := [(.own 33 4 (e_GCell.cells z17)), .box []]) (by kernel_rfl) (by kernel_rfl) (by kernel_rfl) (by kernel_rfl) (by kernel_rfl) (f30_ok base (d - 1) (dpt hd rfl) p59 p60 a2 a3 a4 a5 p61 z17 hz17) (by kernel_rfl) (sm_own e_GCell (e1 := 33) (k1 := 4) (xs := p61) (ys := z17) (by kernel_rfl) hz18 sm_nil) (by kernel_rfl) (by kernel_rfl)) ?_
  have lz18 : p61.length = z17.length := (of_decide_eq_true (chk_t hz18)).symm
  try delta f9_j1_J
  try rw [lz18]
  refine zlEnd (by kernel_rfl) ?_
  refine zkSeq ?_
  refine zrSeq ?_
  refine zrReg ?_
  refine zlRun (n := 3) (j := 3) rfl (by kernel_rfl) ?_
  refine zlEnd (by kernel_rfl) ?_
  refine zkSeq ?_
  refine zrRet ?_
  refine zkNil ?_
  exact endQ hS hQ (fRet (by kernel_rfl) ((congrArg (fun s => outR s 0 c9.res) (by kernel_rfl : finSt c9.fin _ = f9_fin p59 p60 z17 0)).trans (f9_out p59 p60 z17 0)))
def f9_j0_J (a1 : GGrid) (a2 : Int) (a3 : Int) (a4 : Int) (a5 : GPen) (p50 : Int) (p51 : Int) (p52 : List GCell) (p53 : Int) : St := ⟨(up (up (up (up (up (up (up (fun _ => .un) 13 (.d (.int .i64 p53))) 10 (.r (.ptr 88 0 0))) 9 (.r (.ptr 80 0 0))) 5 (.r (.ptr 48 0 0))) 3 (.d (.int .i64 a4))) 2 (.d (.int .i64 a3))) 1 (.d (.int .i64 a2))), (up (up (up (up (hB fun _ => 0) 88 ⟨0, some (.box ((.d (.int .i64 0)) :: ((.d (.int .i64 0)) :: ((.d (.sl ([] : List GCell).length (e_GCell.cells ([])))) :: []))))⟩) 80 ⟨0, some (.box ((.d (.int .i64 a5.Flags)) :: ((.d (.int .i64 a5.Fore)) :: ((.d (.int .i64 a5.Back)) :: []))))⟩) 352 ⟨0, some (.own 33 4 (e_GCell.cells p52))⟩) 48 ⟨0, some (.box ((.d (.int .i64 p50)) :: ((.d (.int .i64 p51)) :: ((.r (.msl 352 0 0 p52.length)) :: []))))⟩)⟩
noncomputable def f9_j0 (a1 : GGrid) (a2 : Int) (a3 : Int) (a4 : Int) (a5 : GPen) (p50 : Int) (p51 : Int) (p52 : List GCell) (p53 : Int) : Option (Int × Int × (List GCell) × Int) := (bif (!decide (p53 = 0)) then (some (p50, p51, p52, p53)) else (f9_j1 a1 a2 a3 a4 a5 p50 p51 p52))
theorem f9_j0_ok {base : Orc} {d : Nat} (hd : 6 ≤ d) (a1 : GGrid) (a2 : Int) (a3 : Int) (a4 : Int) (a5 : GPen) {r : Int × Int × (List GCell) × Int} {Q : PX → St → Prop} (hQ : ∀ e st', f9_Q r e st' → Q e st') (p50 : Int) (p51 : Int) (p52 : List GCell) (p53 : Int) (hS : f9_j0 a1 a2 a3 a4 a5 p50 p51 p52 p53 = some r) {st : St} (he : keepSt [1, 2, 3, 5, 9, 10, 13] [(48, .id 48), (352, .id 352), (80, .id 80), (88, .id 88)] [.cell 88 2 0 0 1] st = f9_j0_J a1 a2 a3 a4 a5 p50 p51 p52 p53) : ZR (lev codes base (d - 1)) Q c9_2 [] st := by
  refine zrKeep he ?_
  unfold f9_j0 at hS
  refine zrSeq ?_
  refine zrSeq ?_
  refine zrReg ?_
  refine zlRun (n := 1) (j := 1) rfl (by kernel_rfl) ?_
  refine zlBool (d := 47) (op := (.cmpI .neq (.tmp 46) (.const (.int .i64 0)))) (g := none) (j := 2) (!decide (p53 = 0)) rfl (by kernel_rfl) (by kernel_rfl) (by kernel_rfl) (fun hc => ?_) (fun hc => ?_)
  · replace hS := cond_t hc hS
    refine zlEnd (by kernel_rfl) ?_
    refine zkSeq ?_
    refine zrCondT (by kernel_rfl) ?_
    refine zrSeq ?_
    refine zrReg ?_
    refine zlRun (n := 4) (j := 4) rfl (by kernel_rfl) ?_
    refine zlEnd (by kernel_rfl) ?_
    refine zkSeq ?_
    refine zrRet ?_
    refine zkSeqR ?_
    refine zkNil ?_
    exact endQ hS hQ (fRet (by kernel_rfl) ((congrArg (fun s => outR s 0 c9.res) (by kernel_rfl : finSt c9.fin _ = f9_fin p50 p51 p52 p53)).trans (f9_out p50 p51 p52 p53)))
  · replace hS := cond_f hc hS
    refine zlEnd (by kernel_rfl) ?_
    refine zkSeq ?_
    refine zrCondF (by kernel_rfl) ?_
    refine zrSkip ?_
    refine zkSeq ?_
    exact f9_j1_ok hd a1 a2 a3 a4 a5 hQ p50 p51 p52 hS (by kernel_rfl)
noncomputable def f9 (a1 : GGrid) (a2 : Int) (a3 : Int) (a4 : Int) (a5 : GPen) : Option (Int × Int × (List GCell) × Int) := ((f28 a4).bind fun z10 => (bif (decide (0 ≤ a2)) then (bif (decide (a2 < a1.High)) then (bif (decide (0 < z10)) then (bif (decide (0 ≤ a3)) then (bif (decide (a3 ≤ (IntKind.i64.wrap (a1.Wide - z10)))) then ((f29 a1 true a5).bind fun z19 => (f9_j0 a1 a2 a3 a4 a5 z19.1 z19.2.1 z19.2.2.1 z19.2.2.2)) else ((f29 a1 false a5).bind fun z20 => (f9_j0 a1 a2 a3 a4 a5 z20.1 z20.2.1 z20.2.2.1 z20.2.2.2))) else ((f29 a1 false a5).bind fun z21 => (f9_j0 a1 a2 a3 a4 a5 z21.1 z21.2.1 z21.2.2.1 z21.2.2.2))) else ((f29 a1 false a5).bind fun z22 => (f9_j0 a1 a2 a3 a4 a5 z22.1 z22.2.1 z22.2.2.1 z22.2.2.2))) else ((f29 a1 false a5).bind fun z23 => (f9_j0 a1 a2 a3 a4 a5 z23.1 z23.2.1 z23.2.2.1 z23.2.2.2))) else ((f29 a1 false a5).bind fun z24 => (f9_j0 a1 a2 a3 a4 a5 z24.1 z24.2.1 z24.2.2.1 z24.2.2.2))))
theorem f9_ok (base : Orc) (d : Nat) (hd : 6 ≤ d) (a1 : GGrid) (a2 : Int) (a3 : Int) (a4 : Int) (a5 : GPen) (r : Int × Int × (List GCell) × Int) (hS : f9 a1 a2 a3 a4 a5 = some r) : lev codes base d 9 [(.agg ((.d (.int .i64 a1.Wide)) :: ((.d (.int .i64 a1.High)) :: ((.d (.sl a1.Cells.length (e_GCell.cells a1.Cells))) :: [])))), (.d (.int .i64 a2)), (.d (.int .i64 a3)), (.d (.int .i64 a4)), (.agg ((.d (.int .i64 a5.Flags)) :: ((.d (.int .i64 a5.Fore)) :: ((.d (.int .i64 a5.Back)) :: []))))] [] = some ((.tup [(.agg ((.d (.int .i64 r.1)) :: ((.d (.int .i64 r.2.1)) :: ((.r (.own 0 33 4 r.2.2.1.length (e_GCell.cells r.2.2.1))) :: [])))), (.d (.int .i64 r.2.2.2))]), []) := by
  refine lev_go codes9 rfl rfl (Nat.le_trans (Nat.le_of_ble_eq_true rfl) hd) fun Q hQ => ?_
  unfold f9 at hS
  show ZR _ Q c9_b [] _
  replace hQ : ∀ e st', f9_Q r e st' → Q e st' := hQ
  refine zrSeq ?_
  refine zrReg ?_
  refine zlRun (n := 4) (j := 4) rfl (by kernel_rfl) ?_
  refine zlEnd (by kernel_rfl) ?_
  refine zkSeq ?_
  refine zrSeq ?_
  refine zrReg ?_
  refine zlRun (n := 1) (j := 1) rfl (by kernel_rfl) ?_
  refine bindE hS (fun z10 hz10 hS => ?_)
  refine zlOp (d := some 15) (op := (.call 28 [(.tmp 14)])) (g := none) (v := (.d (.int .i64 z10))) (ups := []) (j := 2) rfl (by kernel_rfl) (by kernel_rfl) (ev_call (args := [(.d (.int .i64 a4))]) (l := [(.d (.int .i64 a4))]) (r := (.d (.int .i64 z10))) (by kernel_rfl) (by kernel_rfl) (f28_ok base (d - 1) (dpt hd rfl) a4 z10 hz10) (by kernel_rfl) (by kernel_rfl) (by kernel_rfl)) ?_
  refine zlRun (n := 1) (j := 3) rfl (by kernel_rfl) ?_
  refine zlEnd (by kernel_rfl) ?_
  refine zkSeq ?_
  refine zrSeq ?_
  refine zrReg ?_
  refine zlRun (n := 2) (j := 2) rfl (by kernel_rfl) ?_
  refine zlBool (d := 19) (op := (.cmpI .geq (.tmp 18) (.const (.int .i64 0)))) (g := none) (j := 3) (decide (0 ≤ a2)) rfl (by kernel_rfl) (by kernel_rfl) (by kernel_rfl) (fun hc => ?_) (fun hc => ?_)
  · replace hS := cond_t hc hS
    refine zlRun (n := 4) (j := 7) rfl (by kernel_rfl) ?_
    refine zlBool (d := 24) (op := (.cmpI .lss (.tmp 21) (.tmp 23))) (g := (some (20, true))) (j := 8) (decide (a2 < a1.High)) rfl (by kernel_rfl) (by kernel_rfl) (by kernel_rfl) (fun hc => ?_) (fun hc => ?_)
    · replace hS := cond_t hc hS
      refine zlRun (n := 3) (j := 11) rfl (by kernel_rfl) ?_
      refine zlBool (d := 28) (op := (.cmpI .gtr (.tmp 27) (.const (.int .i64 0)))) (g := (some (26, true))) (j := 12) (decide (0 < z10)) rfl (by kernel_rfl) (by kernel_rfl) (by kernel_rfl) (fun hc => ?_) (fun hc => ?_)
      · replace hS := cond_t hc hS
        refine zlRun (n := 3) (j := 15) rfl (by kernel_rfl) ?_
        refine zlBool (d := 32) (op := (.cmpI .geq (.tmp 31) (.const (.int .i64 0)))) (g := (some (30, true))) (j := 16) (decide (0 ≤ a3)) rfl (by kernel_rfl) (by kernel_rfl) (by kernel_rfl) (fun hc => ?_) (fun hc => ?_)
        · replace hS := cond_t hc hS
          refine zlRun (n := 7) (j := 23) rfl (by kernel_rfl) ?_
          refine zlBool (d := 40) (op := (.cmpI .leq (.tmp 35) (.tmp 39))) (g := (some (34, true))) (j := 24) (decide (a3 ≤ (IntKind.i64.wrap (a1.Wide - z10)))) rfl (by kernel_rfl) (by kernel_rfl) (by kernel_rfl) (fun hc => ?_) (fun hc => ?_)
          · replace hS := cond_t hc hS
            refine zlRun (n := 2) (j := 26) rfl (by kernel_rfl) ?_
            refine bindE hS (fun z19 hz19 hS => ?_)
            refine zlOp (d := some 43) (op := (.callf 29 [(.tmp 17), (.tmp 41), (.tmp 42)])) (g := none) (v := (.tup [(.agg ((.d (.int .i64 z19.1)) :: ((.d (.int .i64 z19.2.1)) :: ((.r (.msl 352 1 0 z19.2.2.1.length)) :: [])))), (.d (.int .i64 z19.2.2.2))])) (ups := [(352, ⟨1, some (.own 33 4 (e_GCell.cells z19.2.2.1))⟩)]) (j := 27) rfl (by kernel_rfl) (by kernel_rfl) (ev_callF (args := [(.agg ((.d (.int .i64 a1.Wide)) :: ((.d (.int .i64 a1.High)) :: ((.d (.sl a1.Cells.length (e_GCell.cells a1.Cells))) :: [])))), (.d (.bool true)), (.agg ((.d (.int .i64 a5.Flags)) :: ((.d (.int .i64 a5.Fore)) :: ((.d (.int .i64 a5.Back)) :: []))))]) (args' := [(.agg ((.d (.int .i64 a1.Wide)) :: ((.d (.int .i64 a1.High)) :: ((.d (.sl a1.Cells.length (e_GCell.cells a1.Cells))) :: [])))), (.d (.bool true)), (.agg ((.d (.int .i64 a5.Flags)) :: ((.d (.int .i64 a5.Fore)) :: ((.d (.int .i64 a5.Back)) :: []))))]) (l := [(.agg ((.d (.int .i64 a1.Wide)) :: ((.d (.int .i64 a1.High)) :: ((.d (.sl a1.Cells.length (e_GCell.cells a1.Cells))) :: [])))), (.d (.bool true)), (.agg ((.d (.int .i64 a5.Flags)) :: ((.d (.int .i64 a5.Fore)) :: ((.d (.int .i64 a5.Back)) :: []))))]) (refs := []) (r := (.tup [(.agg ((.d (.int .i64 z19.1)) :: ((.d (.int .i64 z19.2.1)) :: ((.r (.own 0 33 4 z19.2.2.1.length (e_GCell.cells z19.2.2.1))) :: [])))), (.d (.int .i64 z19.2.2.2))])) (v := (.tup [(.agg ((.d (.int .i64 z19.1)) :: ((.d (.int .i64 z19.2.1)) :: ((.r (.msl 352 1 0 z19.2.2.1.length)) :: [])))), (.d (.int .i64 z19.2.2.2))])) (ups' := [(352, ⟨1, some (.own 33 4 (e_GCell.cells z19.2.2.1))⟩)]) (by kernel_rfl) (by kernel_rfl) (by kernel_rfl) (fz_cons rfl (fz_cons rfl (fz_cons rfl fz_nil))) (by kernel_rfl) (f29_ok base (d - 1) (dpt hd rfl) a1 true a5 z19 hz19) (by kernel_rfl) (by kernel_rfl) (by kernel_rfl) (by kernel_rfl)) ?_
            refine zlRun (n := 5) (j := 32) rfl (by kernel_rfl) ?_
            refine zlEnd (by kernel_rfl) ?_
            refine zkSeq ?_
            exact f9_j0_ok hd a1 a2 a3 a4 a5 hQ z19.1 z19.2.1 z19.2.2.1 z19.2.2.2 hS (by kernel_rfl)
          · replace hS := cond_f hc hS
            refine zlRun (n := 2) (j := 26) rfl (by kernel_rfl) ?_
            refine bindE hS (fun z20 hz20 hS => ?_)
            refine zlOp (d := some 43) (op := (.callf 29 [(.tmp 17), (.tmp 41), (.tmp 42)])) (g := none) (v := (.tup [(.agg ((.d (.int .i64 z20.1)) :: ((.d (.int .i64 z20.2.1)) :: ((.r (.msl 352 1 0 z20.2.2.1.length)) :: [])))), (.d (.int .i64 z20.2.2.2))])) (ups := [(352, ⟨1, some (.own 33 4 (e_GCell.cells z20.2.2.1))⟩)]) (j := 27) rfl (by kernel_rfl) (by kernel_rfl) (ev_callF (args := [(.agg ((.d (.int .i64 a1.Wide)) :: ((.d (.int .i64 a1.High)) :: ((.d (.sl a1.Cells.length (e_GCell.cells a1.Cells))) :: [])))), (.d (.bool false)), (.agg ((.d (.int .i64 a5.Flags)) :: ((.d (.int .i64 a5.Fore)) :: ((.d (.int .i64 a5.Back)) :: []))))]) (args' := [(.agg ((.d (.int .i64 a1.Wide)) :: ((.d (.int .i64 a1.High)) :: ((.d (.sl a1.Cells.length (e_GCell.cells a1.Cells))) :: [])))), (.d (.bool false)), (.agg ((.d (.int .i64 a5.Flags)) :: ((.d (.int .i64 a5.Fore)) :: ((.d (.int .i64 a5.Back)) :: []))))]) (l := [(.agg ((.d (.int .i64 a1.Wide)) :: ((.d (.int .i64 a1.High)) :: ((.d (.sl a1.Cells.length (e_GCell.cells a1.Cells))) :: [])))), (.d (.bool false)), (.agg ((.d (.int .i64 a5.Flags)) :: ((.d (.int .i64 a5.Fore)) :: ((.d (.int .i64 a5.Back)) :: []))))]) (refs := []) (r := (.tup [(.agg ((.d (.int .i64 z20.1)) :: ((.d (.int .i64 z20.2.1)) :: ((.r (.own 0 33 4 z20.2.2.1.length (e_GCell.cells z20.2.2.1))) :: [])))), (.d (.int .i64 z20.2.2.2))])) (v := (.tup [(.agg ((.d (.int .i64 z20.1)) :: ((.d (.int .i64 z20.2.1)) :: ((.r (.msl 352 1 0 z20.2.2.1.length)) :: [])))), (.d (.int .i64 z20.2.2.2))])) (ups' := [(352, ⟨1, some (.own 33 4 (e_GCell.cells z20.2.2.1))⟩)]) (by kernel_rfl) (by kernel_rfl) (by kernel_rfl) (fz_cons rfl (fz_cons rfl (fz_cons rfl fz_nil))) (by kernel_rfl) (f29_ok base (d - 1) (dpt hd rfl) a1 false a5 z20 hz20) (by kernel_rfl) (by kernel_rfl) (by kernel_rfl) (by kernel_rfl)) ?_
            refine zlRun (n := 5) (j := 32) rfl (by kernel_rfl) ?_
            refine zlEnd (by kernel_rfl) ?_
            refine zkSeq ?_
            exact f9_j0_ok hd a1 a2 a3 a4 a5 hQ z20.1 z20.2.1 z20.2.2.1 z20.2.2.2 hS (by kernel_rfl)
        · replace hS := cond_f hc hS
          refine zlRun (n := 10) (j := 26) rfl (by kernel_rfl) ?_
          refine bindE hS (fun z21 hz21 hS => ?_)
          refine zlOp (d := some 43) (op := (.callf 29 [(.tmp 17), (.tmp 41), (.tmp 42)])) (g := none) (v := (.tup [(.agg ((.d (.int .i64 z21.1)) :: ((.d (.int .i64 z21.2.1)) :: ((.r (.msl 352 1 0 z21.2.2.1.length)) :: [])))), (.d (.int .i64 z21.2.2.2))])) (ups := [(352, ⟨1, some (.own 33 4 (e_GCell.cells z21.2.2.1))⟩)]) (j := 27) rfl (by kernel_rfl) (by kernel_rfl) (ev_callF (args := [(.agg ((.d (.int .i64 a1.Wide)) :: ((.d (.int .i64 a1.High)) :: ((.d (.sl a1.Cells.length (e_GCell.cells a1.Cells))) :: [])))), (.d (.bool false)), (.agg ((.d (.int .i64 a5.Flags)) :: ((.d (.int .i64 a5.Fore)) :: ((.d (.int .i64 a5.Back)) :: []))))]) (args' := [(.agg ((.d (.int .i64 a1.Wide)) :: ((.d (.int .i64 a1.High)) :: ((.d (.sl a1.Cells.length (e_GCell.cells a1.Cells))) :: [])))), (.d (.bool false)), (.agg ((.d (.int .i64 a5.Flags)) :: ((.d (.int .i64 a5.Fore)) :: ((.d (.int .i64 a5.Back)) :: []))))]) (l := [(.agg ((.d (.int .i64 a1.Wide)) :: ((.d (.int .i64 a1.High)) :: ((.d (.sl a1.Cells.length (e_GCell.cells a1.Cells))) :: [])))), (.d (.bool false)), (.agg ((.d (.int .i64 a5.Flags)) :: ((.d (.int .i64 a5.Fore)) :: ((.d (.int .i64 a5.Back)) :: []))))]) (refs := []) (r := (.tup [(.agg ((.d (.int .i64 z21.1)) :: ((.d (.int .i64 z21.2.1)) :: ((.r (.own 0 33 4 z21.2.2.1.length (e_GCell.cells z21.2.2.1))) :: [])))), (.d (.int .i64 z21.2.2.2))])) (v := (.tup [(.agg ((.d (.int .i64 z21.1)) :: ((.d (.int .i64 z21.2.1)) :: ((.r (.msl 352 1 0 z21.2.2.1.length)) :: [])))), (.d (.int .i64 z21.2.2.2))])) (ups' := [(352, ⟨1, some (.own 33 4 (e_GCell.cells z21.2.2.1))⟩)]) (by kernel_rfl) (by kernel_rfl) (by kernel_rfl) (fz_cons rfl (fz_cons rfl (fz_cons rfl fz_nil))) (by kernel_rfl) (f29_ok base (d - 1) (dpt hd rfl) a1 false a5 z21 hz21) (by kernel_rfl) (by kernel_rfl) (by kernel_rfl) (by kernel_rfl)) ?_
          refine zlRun (n := 5) (j := 32) rfl (by kernel_rfl) ?_
          refine zlEnd (by kernel_rfl) ?_
          refine zkSeq ?_
          exact f9_j0_ok hd a1 a2 a3 a4 a5 hQ z21.1 z21.2.1 z21.2.2.1 z21.2.2.2 hS (by kernel_rfl)
      · replace hS := cond_f hc hS
        refine zlRun (n := 14) (j := 26) rfl (by kernel_rfl) ?_
        refine bindE hS (fun z22 hz22 hS => ?_)
        refine zlOp (d := some 43) (op := (.callf 29 [(.tmp 17), (.tmp 41), (.tmp 42)])) (g := none) (v := (.tup [(.agg ((.d (.int .i64 z22.1)) :: ((.d (.int .i64 z22.2.1)) :: ((.r (.msl 352 1 0 z22.2.2.1.length)) :: [])))), (.d (.int .i64 z22.2.2.2))])) (ups := [(352, ⟨1, some (.own 33 4 (e_GCell.cells z22.2.2.1))⟩)]) (j := 27) rfl (by kernel_rfl) (by kernel_rfl) (ev_callF (args := [(.agg ((.d (.int .i64 a1.Wide)) :: ((.d (.int .i64 a1.High)) :: ((.d (.sl a1.Cells.length (e_GCell.cells a1.Cells))) :: [])))), (.d (.bool false)), (.agg ((.d (.int .i64 a5.Flags)) :: ((.d (.int .i64 a5.Fore)) :: ((.d (.int .i64 a5.Back)) :: []))))]) (args' := [(.agg ((.d (.int .i64 a1.Wide)) :: ((.d (.int .i64 a1.High)) :: ((.d (.sl a1.Cells.length (e_GCell.cells a1.Cells))) :: [])))), (.d (.bool false)), (.agg ((.d (.int .i64 a5.Flags)) :: ((.d (.int .i64 a5.Fore)) :: ((.d (.int .i64 a5.Back)) :: []))))]) (l := [(.agg ((.d (.int .i64 a1.Wide)) :: ((.d (.int .i64 a1.High)) :: ((.d (.sl a1.Cells.length (e_GCell.cells a1.Cells))) :: [])))), (.d (.bool false)), (.agg ((.d (.int .i64 a5.Flags)) :: ((.d (.int .i64 a5.Fore)) :: ((.d (.int .i64 a5.Back)) :: []))))]) (refs := []) (r := (.tup [(.agg ((.d (.int .i64 z22.1)) :: ((.d (.int .i64 z22.2.1)) :: ((.r (.own 0 33 4 z22.2.2.1.length (e_GCell.cells z22.2.2.1))) :: [])))), (.d (.int .i64 z22.2.2.2))])) (v := (.tup [(.agg ((.d (.int .i64 z22.1)) :: ((.d (.int .i64 z22.2.1)) :: ((.r (.msl 352 1 0 z22.2.2.1.length)) :: [])))), (.d (.int .i64 z22.2.2.2))])) (ups' := [(352, ⟨1, some (.own 33 4 (e_GCell.cells z22.2.2.1))⟩)]) (by kernel_rfl) (by kernel_rfl) (by kernel_rfl) (fz_cons rfl (fz_cons rfl (fz_cons rfl fz_nil))) (by kernel_rfl) (f29_ok base (d - 1) (dpt hd rfl) a1 false a5 z22 hz22) (by kernel_rfl) (by kernel_rfl) (by kernel_rfl) (by kernel_rfl)) ?_
        refine zlRun (n := 5) (j := 32) rfl (by kernel_rfl) ?_
        refine zlEnd (by kernel_rfl) ?_
        refine zkSeq ?_
        exact f9_j0_ok hd a1 a2 a3 a4 a5 hQ z22.1 z22.2.1 z22.2.2.1 z22.2.2.2 hS (by kernel_rfl)
    · replace hS := cond_f hc hS
      refine zlRun (n := 18) (j := 26) rfl (by kernel_rfl) ?_
      refine bindE hS (fun z23 hz23 hS => ?_)
      refine zlOp (d := some 43) (op := (.callf 29 [(.tmp 17), (.tmp 41), (.tmp 42)])) (g := none) (v := (.tup [(.agg ((.d (.int .i64 z23.1)) :: ((.d (.int .i64 z23.2.1)) :: ((.r (.msl 352 1 0 z23.2.2.1.length)) :: [])))), (.d (.int .i64 z23.2.2.2))])) (ups := [(352, ⟨1, some (.own 33 4 (e_GCell.cells z23.2.2.1))⟩)]) (j := 27) rfl (by kernel_rfl) (by kernel_rfl) (ev_callF (args := [(.agg ((.d (.int .i64 a1.Wide)) :: ((.d (.int .i64 a1.High)) :: ((.d (.sl a1.Cells.length (e_GCell.cells a1.Cells))) :: [])))), (.d (.bool false)), (.agg ((.d (.int .i64 a5.Flags)) :: ((.d (.int .i64 a5.Fore)) :: ((.d (.int .i64 a5.Back)) :: []))))]) (args' := [(.agg ((.d (.int .i64 a1.Wide)) :: ((.d (.int .i64 a1.High)) :: ((.d (.sl a1.Cells.length (e_GCell.cells a1.Cells))) :: [])))), (.d (.bool false)), (.agg ((.d (.int .i64 a5.Flags)) :: ((.d (.int .i64 a5.Fore)) :: ((.d (.int .i64 a5.Back)) :: []))))]) (l := [(.agg ((.d (.int .i64 a1.Wide)) :: ((.d (.int .i64 a1.High)) :: ((.d (.sl a1.Cells.length (e_GCell.cells a1.Cells))) :: [])))), (.d (.bool false)), (.agg ((.d (.int .i64 a5.Flags)) :: ((.d (.int .i64 a5.Fore)) :: ((.d (.int .i64 a5.Back)) :: []))))]) (refs := []) (r := (.tup [(.agg ((.d (.int .i64 z23.1)) :: ((.d (.int .i64 z23.2.1)) :: ((.r (.own 0 33 4 z23.2.2.1.length (e_GCell.cells z23.2.2.1))) :: [])))), (.d (.int .i64 z23.2.2.2))])) (v := (.tup [(.agg ((.d (.int .i64 z23.1)) :: ((.d (.int .i64 z23.2.1)) :: ((.r (.msl 352 1 0 z23.2.2.1.length)) :: [])))), (.d (.int .i64 z23.2.2.2))])) (ups' := [(352, ⟨1, some (.own 33 4 (e_GCell.cells z23.2.2.1))⟩)]) (by kernel_rfl) (by kernel_rfl) (by kernel_rfl) (fz_cons rfl (fz_cons rfl (fz_cons rfl fz_nil))) (by kernel_rfl) (f29_ok base (d - 1) (dpt hd rfl) a1 false a5 z23 hz23) (by kernel_rfl) (by kernel_rfl) (by kernel_rfl) (by kernel_rfl)) ?_
      refine zlRun (n := 5) (j := 32) rfl (by kernel_rfl) ?_
      refine zlEnd (by kernel_rfl) ?_
      refine zkSeq ?_
      exact f9_j0_ok hd a1 a2 a3 a4 a5 hQ z23.1 z23.2.1 z23.2.2.1 z23.2.2.2 hS (by kernel_rfl)
  · replace hS := cond_f hc hS
    refine zlRun (n := 23) (j := 26) rfl (by kernel_rfl) ?_
    refine bindE hS (fun z24 hz24 hS => ?_)
    refine zlOp (d := some 43) (op := (.callf 29 [(.tmp 17), (.tmp 41), (.tmp 42)])) (g := none) (v := (.tup [(.agg ((.d (.int .i64 z24.1)) :: ((.d (.int .i64 z24.2.1)) :: ((.r (.msl 352 1 0 z24.2.2.1.length)) :: [])))), (.d (.int .i64 z24.2.2.2))])) (ups := [(352, ⟨1, some (.own 33 4 (e_GCell.cells z24.2.2.1))⟩)]) (j := 27) rfl (by kernel_rfl) (by kernel_rfl) (ev_callF (args := [(.agg ((.d (.int .i64 a1.Wide)) :: ((.d (.int .i64 a1.High)) :: ((.d (.sl a1.Cells.length (e_GCell.cells a1.Cells))) :: [])))), (.d (.bool false)), (.agg ((.d (.int .i64 a5.Flags)) :: ((.d (.int .i64 a5.Fore)) :: ((.d (.int .i64 a5.Back)) :: []))))]) (args' := [(.agg ((.d (.int .i64 a1.Wide)) :: ((.d (.int .i64 a1.High)) :: ((.d (.sl a1.Cells.length (e_GCell.cells a1.Cells))) :: [])))), (.d (.bool false)), (.agg ((.d (.int .i64 a5.Flags)) :: ((.d (.int .i64 a5.Fore)) :: ((.d (.int .i64 a5.Back)) :: []))))]) (l := [(.agg ((.d (.int .i64 a1.Wide)) :: ((.d (.int .i64 a1.High)) :: ((.d (.sl a1.Cells.length (e_GCell.cells a1.Cells))) :: [])))), (.d (.bool false)), (.agg ((.d (.int .i64 a5.Flags)) :: ((.d (.int .i64 a5.Fore)) :: ((.d (.int .i64 a5.Back)) :: []))))]) (refs := []) (r := (.tup [(.agg ((.d (.int .i64 z24.1)) :: ((.d (.int .i64 z24.2.1)) :: ((.r (.own 0 33 4 z24.2.2.1.length (e_GCell.cells z24.2.2.1))) :: [])))), (.d (.int .i64 z24.2.2.2))])) (v := (.tup [(.agg ((.d (.int .i64 z24.1)) :: ((.d (.int .i64 z24.2.1)) :: ((.r (.msl 352 1 0 z24.2.2.1.length)) :: [])))), (.d (.int .i64 z24.2.2.2))])) (ups' := [(352, ⟨1, some (.own 33 4 (e_GCell.cells z24.2.2.1))⟩)]) (by kernel_rfl) (by kernel_rfl) (by kernel_rfl) (fz_cons rfl (fz_cons rfl (fz_cons rfl fz_nil))) (by kernel_rfl) (f29_ok base (d - 1) (dpt hd rfl) a1 false a5 z24 hz24) (by kernel_rfl) (by kernel_rfl) (by kernel_rfl) (by kernel_rfl)) ?_
    refine zlRun (n := 5) (j := 32) rfl (by kernel_rfl) ?_
    refine zlEnd (by kernel_rfl) ?_
    refine zkSeq ?_
    exact f9_j0_ok hd a1 a2 a3 a4 a5 hQ z24.1 z24.2.1 z24.2.2.1 z24.2.2.2 hS (by kernel_rfl)
/- farwriter/grid.Text -/
def f13_fin (p89 : List Int) (p90 : Int) : St := ⟨(up (up (fun _ => .un) 5 (.d (.int .i64 p90))) 4 (.r (.msl 393 0 0 p89.length))), (up (hB fun _ => 0) 393 ⟨0, some (.own 3 1 ((eInt .i64).cells p89))⟩)⟩
theorem f13_out (p89 : List Int) (p90 : Int) : outR (f13_fin p89 p90) 0 c13.res = some ((.tup [(.r (.own 0 3 1 p89.length ((eInt .i64).cells p89))), (.d (.int .i64 p90))]), []) := by
  exact out_of (ids := []) (ids' := [393]) (l := [(.r (.msl 393 0 0 p89.length)), (.d (.int .i64 p90))]) (by kernel_rfl) (by kernel_rfl) (o_tup (o_cons (o_own (eInt .i64) (e := 3) (k := 1) (xs := p89) (by kernel_rfl) rfl rfl rfl rfl) (o_cons rfl o_nil)))
def f13_Q (r : (List Int) × Int) (e : PX) (st : St) : Prop := DoneF c13 0 ((.tup [(.r (.own 0 3 1 r.1.length ((eInt .i64).cells r.1))), (.d (.int .i64 r.2))]), []) e st
def f13_l2_J (a1 : GGrid) (a2 : Int) (x : (List Int) × (List GCell) × Nat × Nat × Int × Int) : St := ⟨(up (up (up (up (fun _ => .un) 31 (.d (.int .i64 x.2.2.2.2.2))) 30 (.d (.int .i64 x.2.2.2.2.1))) 29 (.r (.msl 176 0 x.2.2.1 x.2.2.2.1))) 7 (.r (.msl 64 0 0 x.1.length))), (up (up (hB fun _ => 0) 176 ⟨0, some (.own 33 4 (e_GCell.cells x.2.1))⟩) 64 ⟨0, some (.own 3 1 ((eInt .i64).cells x.1))⟩)⟩
def f13_l2_H (a1 : GGrid) (a2 : Int) (x : (List Int) × (List GCell) × Nat × Nat × Int × Int) (st : St) : Prop := keepSt [7, 29, 30, 31] [(64, .id 64), (176, .id 176)] [] st = f13_l2_J a1 a2 x
def f13_l2_e0_J (a1 : GGrid) (a2 : Int) (p185 : List Int) : St := ⟨(up (fun _ => .un) 7 (.r (.msl 64 0 0 p185.length))), (up (hB fun _ => 0) 64 ⟨0, some (.own 3 1 ((eInt .i64).cells p185))⟩)⟩
def f13_l2_X (a1 : GGrid) (a2 : Int) (z : ((List Int))) (e : PX) (st : St) : Prop := e = .exit 0 ∧ st = f13_l2_e0_J a1 a2 z
def f13_l2_j4_J (a1 : GGrid) (a2 : Int) (p200 : List Int) (p201 : List GCell) (p202 : Nat) (p203 : Nat) (p204 : Int) (p205 : Int) : St := ⟨(up (up (up (up (fun _ => .un) 31 (.d (.int .i64 p205))) 30 (.d (.int .i64 p204))) 29 (.r (.msl 176 0 p202 p203))) 7 (.r (.msl 64 0 0 p200.length))), (up (up (hB fun _ => 0) 176 ⟨0, some (.own 33 4 (e_GCell.cells p201))⟩) 64 ⟨0, some (.own 3 1 ((eInt .i64).cells p200))⟩)⟩
noncomputable def f13_l2_j4 (a1 : GGrid) (a2 : Int) (p200 : List Int) (p201 : List GCell) (p202 : Nat) (p203 : Nat) (p204 : Int) (p205 : Int) : Option (((List Int) × (List GCell) × Nat × Nat × Int × Int) ⊕ (((List Int)))) := ((inR p205 p203).bind fun m29 => ((p201[(p202 + m29)]?).bind fun z30 => (bif (!decide (z30.Rune = 0)) then ((app? 8 p200 ([z30.Rune] : List Int)).bind fun z31 => (some (.inl (z31, p201, p202, p203, p204, (IntKind.i64.wrap (p205 + 1)))))) else (some (.inl (p200, p201, p202, p203, p204, (IntKind.i64.wrap (p205 + 1))))))))
theorem f13_l2_j4_ok {base : Orc} {d : Nat} (hd : 6 ≤ d) (a1 : GGrid) (a2 : Int) {r : ((List Int) × (List GCell) × Nat × Nat × Int × Int) ⊕ (((List Int)))} {Q : PX → St → Prop} (hQ : ∀ e st', finL (f13_l2_H a1 a2) (f13_l2_X a1 a2) r e st' → Q e st') (p200 : List Int) (p201 : List GCell) (p202 : Nat) (p203 : Nat) (p204 : Int) (p205 : Int) (hS : f13_l2_j4 a1 a2 p200 p201 p202 p203 p204 p205 = some r) {st : St} (he : keepSt [7, 29, 30, 31] [(64, .id 64), (176, .id 176)] [] st = f13_l2_j4_J a1 a2 p200 p201 p202 p203 p204 p205) : ZR (lev codes base (d - 1)) Q c13_1 [] st := by
  refine zrKeep he ?_
  unfold f13_l2_j4 at hS
  refine zrSeq ?_
  refine zrBlk ?_
  refine zrSeq ?_
  refine zrReg ?_
  refine bindE hS (fun m29 hm29 hS => ?_)
  refine zlOp (d := some 33) (op := (.ixS 33 4 (.tmp 29) (.tmp 31))) (g := none) (v := (.r (.ptr 176 0 ((p202 + m29) * 4)))) (ups := []) (j := 1) rfl (by kernel_rfl) (by kernel_rfl) (ev_ixM (kk := .i64) (b := 176) (g := 0) (l := p202) (n := p203) (j := p205) (cs := e_GCell.cells p201) (by kernel_rfl) (by kernel_rfl) (by kernel_rfl) hm29) ?_
  refine bindE hS (fun z30 hz30 hS => ?_)
  refine zlOp (d := some 34) (op := (.load .true 4 (.tmp 33))) (g := none) (v := (.agg ((.d (.int .i64 z30.Rune)) :: ((.d (.int .i64 z30.Pen.Flags)) :: ((.d (.int .i64 z30.Pen.Fore)) :: ((.d (.int .i64 z30.Pen.Back)) :: [])))))) (ups := []) (j := 2) rfl (by kernel_rfl) (by kernel_rfl) (ev_loadM e_GCell (b := 176) (g := 0) (o := (p202 + m29) * 4) (e := 33) (k := 4) (m := (p202 + m29)) (fo := 0) (xs := p201) (by kernel_rfl) (by kernel_rfl) rfl hz30 (by kernel_rfl) (by kernel_rfl) (by kernel_rfl)) ?_
  refine zlRun (n := 2) (j := 4) rfl (by kernel_rfl) ?_
  refine zlEnd (by kernel_rfl) ?_
  refine zkSeq ?_
  refine zrSeq ?_
  refine zrReg ?_
  refine zlRun (n := 2) (j := 2) rfl (by kernel_rfl) ?_
  refine zlBool (d := 37) (op := (.cmpI .neq (.tmp 36) (.const (.int .i64 0)))) (g := none) (j := 3) (!decide (z30.Rune = 0)) rfl (by kernel_rfl) (by kernel_rfl) (by kernel_rfl) (fun hc => ?_) (fun hc => ?_)
  · replace hS := cond_t hc hS
    refine zlEnd (by kernel_rfl) ?_
    refine zkSeq ?_
    refine zrCondT (by kernel_rfl) ?_
    refine zrReg ?_
    refine zlRun (n := 4) (j := 4) rfl (by kernel_rfl) ?_
    refine bindE hS (fun z31 hz31 hS => ?_)
    refine zlOp (d := some 42) (op := (.app 3 1 8 (.tmp 38) (.tmp 41))) (g := none) (v := (.r (.msl 64 1 0 z31.length))) (ups := [(64, ⟨1, some (.own 3 1 ((eInt .i64).cells z31))⟩)]) (j := 5) rfl (by kernel_rfl) (by kernel_rfl) (ev_app (eInt .i64) (b := 64) (g := 0) (n := p200.length) (xs := p200) (ys := [z30.Rune]) ((congrArg (asL _) (by kernel_rfl : ρof _ (.tmp 41) = (.r (.msl 336 1 0 (([z30.Rune] : List Int).length))))).trans (as_whole (eInt .i64) (e := 3) (k := 1) (xs := [z30.Rune]) (by kernel_rfl) rfl rfl)) rfl (by kernel_rfl) rfl (by kernel_rfl) rfl hz31) ?_
    refine zlRun (n := 1) (j := 6) rfl (by kernel_rfl) ?_
    refine zlEnd (by kernel_rfl) ?_
    refine zkBlk ?_
    refine zkSeq ?_
    refine zrReg ?_
    refine zlRun (n := 2) (j := 2) rfl (by kernel_rfl) ?_
    refine zlEnd (by kernel_rfl) ?_
    refine zkNil ?_
    exact endQ hS hQ (finL_n (by show keepSt _ _ _ _ = _; kernel_rfl))
  · replace hS := cond_f hc hS
    refine zlEnd (by kernel_rfl) ?_
    refine zkSeq ?_
    refine zrCondF (by kernel_rfl) ?_
    refine zrSkip ?_
    refine zkBlk ?_
    refine zkSeq ?_
    refine zrReg ?_
    refine zlRun (n := 2) (j := 2) rfl (by kernel_rfl) ?_
    refine zlEnd (by kernel_rfl) ?_
    refine zkNil ?_
    exact endQ hS hQ (finL_n (by show keepSt _ _ _ _ = _; kernel_rfl))
def f13_l2_j3_J (a1 : GGrid) (a2 : Int) (p193 : List Int) (p194 : List GCell) (p195 : Nat) (p196 : Nat) (p197 : Int) (p198 : Int) (p199 : Bool) : St := ⟨(up (up (up (up (up (fun _ => .un) 32 (.d (.bool p199))) 31 (.d (.int .i64 p198))) 30 (.d (.int .i64 p197))) 29 (.r (.msl 176 0 p195 p196))) 7 (.r (.msl 64 0 0 p193.length))), (up (up (hB fun _ => 0) 176 ⟨0, some (.own 33 4 (e_GCell.cells p194))⟩) 64 ⟨0, some (.own 3 1 ((eInt .i64).cells p193))⟩)⟩
noncomputable def f13_l2_j3 (a1 : GGrid) (a2 : Int) (p193 : List Int) (p194 : List GCell) (p195 : Nat) (p196 : Nat) (p197 : Int) (p198 : Int) (p199 : Bool) : Option (((List Int) × (List GCell) × Nat × Nat × Int × Int) ⊕ (((List Int)))) := (bif p199 then (f13_l2_j4 a1 a2 p193 p194 p195 p196 p197 p198) else (some (.inr p193)))
theorem f13_l2_j3_ok {base : Orc} {d : Nat} (hd : 6 ≤ d) (a1 : GGrid) (a2 : Int) {r : ((List Int) × (List GCell) × Nat × Nat × Int × Int) ⊕ (((List Int)))} {Q : PX → St → Prop} (hQ : ∀ e st', finL (f13_l2_H a1 a2) (f13_l2_X a1 a2) r e st' → Q e st') (p193 : List Int) (p194 : List GCell) (p195 : Nat) (p196 : Nat) (p197 : Int) (p198 : Int) (p199 : Bool) (hS : f13_l2_j3 a1 a2 p193 p194 p195 p196 p197 p198 p199 = some r) {st : St} (he : keepSt [7, 29, 30, 31, 32] [(64, .id 64), (176, .id 176)] [] st = f13_l2_j3_J a1 a2 p193 p194 p195 p196 p197 p198 p199) : ZR (lev codes base (d - 1)) Q c13_2 [] st := by
  refine zrKeep he ?_
  unfold f13_l2_j3 at hS
  refine zrSeq ?_
  refine zrSplit 32 p199 (by kernel_rfl) (fun hc => ?_) (fun hc => ?_)
  · replace hS := cond_t hc hS
    refine zrCondT (by kernel_rfl) ?_
    refine zrSkip ?_
    refine zkSeq ?_
    exact f13_l2_j4_ok hd a1 a2 hQ p193 p194 p195 p196 p197 p198 hS (by kernel_rfl)
  · replace hS := cond_f hc hS
    refine zrCondF (by kernel_rfl) ?_
    refine zrKeep (J := f13_l2_e0_J a1 a2 p193) (by kernel_rfl) ?_
    refine zrExit ?_
    refine zkSeqX ?_
    refine zkNil ?_
    exact endQ hS hQ (finL_x (by intro h; cases h) (by show _ = _ ∧ _ = _; exact ⟨rfl, rfl⟩))
noncomputable def f13_l2 (a1 : GGrid) (a2 : Int) (x : (List Int) × (List GCell) × Nat × Nat × Int × Int) : Option (((List Int) × (List GCell) × Nat × Nat × Int × Int) ⊕ (((List Int)))) := (bif (decide (x.2.2.2.2.2 < x.2.2.2.2.1)) then (f13_l2_j3 a1 a2 x.1 x.2.1 x.2.2.1 x.2.2.2.1 x.2.2.2.2.1 x.2.2.2.2.2 true) else (f13_l2_j3 a1 a2 x.1 x.2.1 x.2.2.1 x.2.2.2.1 x.2.2.2.2.1 x.2.2.2.2.2 false))
theorem f13_l2_ok {base : Orc} {d : Nat} (hd : 6 ≤ d) (a1 : GGrid) (a2 : Int) {r : ((List Int) × (List GCell) × Nat × Nat × Int × Int) ⊕ (((List Int)))} {Q : PX → St → Prop} (hQ : ∀ e st', finL (f13_l2_H a1 a2) (f13_l2_X a1 a2) r e st' → Q e st') {x : (List Int) × (List GCell) × Nat × Nat × Int × Int} (hS : f13_l2 a1 a2 x = some r) {st : St} (he : f13_l2_H a1 a2 x st) : ZR (lev codes base (d - 1)) Q c13_3 [] st := by
  refine zrKeep he ?_
  unfold f13_l2 at hS
  refine zrSeq ?_
  refine zrReg ?_
  refine zlBool (d := 32) (op := (.cmpI .lss (.tmp 31) (.tmp 30))) (g := none) (j := 1) (decide (x.2.2.2.2.2 < x.2.2.2.2.1)) rfl (by kernel_rfl) (by kernel_rfl) (by kernel_rfl) (fun hc => ?_) (fun hc => ?_)
  · replace hS := cond_t hc hS
    refine zlEnd (by kernel_rfl) ?_
    refine zkSeq ?_
    exact f13_l2_j3_ok hd a1 a2 hQ x.1 x.2.1 x.2.2.1 x.2.2.2.1 x.2.2.2.2.1 x.2.2.2.2.2 true hS (by kernel_rfl)
  · replace hS := cond_f hc hS
    refine zlEnd (by kernel_rfl) ?_
    refine zkSeq ?_
    exact f13_l2_j3_ok hd a1 a2 hQ x.1 x.2.1 x.2.2.1 x.2.2.2.1 x.2.2.2.2.1 x.2.2.2.2.2 false hS (by kernel_rfl)
def f13_j1_J (a1 : GGrid) (a2 : Int) (p108 : Int) (p109 : Int) (p110 : List GCell) : St := ⟨(up (up (fun _ => .un) 2 (.r (.ptr 24 0 0))) 1 (.d (.int .i64 a2))), (up (up (hB fun _ => 0) 176 ⟨0, some (.own 33 4 (e_GCell.cells p110))⟩) 24 ⟨0, some (.box ((.d (.int .i64 p108)) :: ((.d (.int .i64 p109)) :: ((.r (.msl 176 0 0 p110.length)) :: []))))⟩)⟩
noncomputable def f13_j1 (a1 : GGrid) (a2 : Int) (p108 : Int) (p109 : Int) (p110 : List GCell) : Option ((List Int) × Int) := ((f33v1 p108 p109 a2 p110).bind fun z18 => ((chk (decide (z18.1.length = p110.length))).bind fun z19 => ((loopO (f13_l2 a1 a2) ([], z18.1, z18.2.1, z18.2.2, (z18.2.2 : Int), 0)).bind fun z32 => (some (z32, 0)))))
theorem f13_j1_ok {base : Orc} {d : Nat} (hd : 6 ≤ d) (a1 : GGrid) (a2 : Int) {r : (List Int) × Int} {Q : PX → St → Prop} (hQ : ∀ e st', f13_Q r e st' → Q e st') (p108 : Int) (p109 : Int) (p110 : List GCell) (hS : f13_j1 a1 a2 p108 p109 p110 = some r) {st : St} (he : keepSt [1, 2] [(24, .id 24), (176, .id 176)] [] st = f13_j1_J a1 a2 p108 p109 p110) : ZR (lev codes base (d - 1)) Q c13_4 [] st := by
  refine zrKeep he ?_
  unfold f13_j1 at hS
  refine zrSeq ?_
  refine zrReg ?_
  refine zlRun (n := 1) (j := 1) rfl (by kernel_rfl) ?_
  refine zlEnd (by kernel_rfl) ?_
  refine zkSeq ?_
  refine zrSeq ?_
  refine zrSeq ?_
  refine zrReg ?_
  refine zlRun (n := 2) (j := 2) rfl (by kernel_rfl) ?_
  refine bindE hS (fun z18 hz18 hS => ?_)
  refine bindE hS (fun z19 hz19 hS => ?_)
  refine zlOp (d := some 29) (op := (.callr 33 [(.tmp 27), (.tmp 28)])) (g := none) (v := (.r (.msl 176 0 z18.2.1 z18.2.2))) (ups := [(176, ⟨0, some (.own 33 4 (e_GCell.cells z18.1))⟩)]) (j := 3) rfl (by kernel_rfl) (by kernel_rfl) (ev_callrX (args := [(.agg ((.d (.int .i64 p108)) :: ((.d (.int .i64 p109)) :: ((.r (.msl 176 0 0 p110.length)) :: [])))), (.d (.int .i64 a2))]) (ids := [176]) (bs := [(.own 33 4 (e_GCell.cells p110))]) (l := [(.agg ((.d (.int .i64 p108)) :: ((.d (.int .i64 p109)) :: ((.r (.msl 0 0 0 p110.length)) :: [])))), (.d (.int .i64 a2))]) (bt := [(.own 33 4 (e_GCell.cells p110))]) (r := (.r (.msl 0 0 z18.2.1 z18.2.2))) (bs' := [(.own 33 4 (e_GCell.cells z18.1)), .box []]) (by kernel_rfl) (by kernel_rfl) (by kernel_rfl) (by kernel_rfl) (by kernel_rfl) (f33v1_ok base (d - 1) (dpt hd rfl) p108 p109 a2 p110 z18 hz18) (by kernel_rfl) (sm_own e_GCell (e1 := 33) (k1 := 4) (xs := p110) (ys := z18.1) (by kernel_rfl) hz19 sm_nil) (by kernel_rfl) (by kernel_rfl)) ?_
  have lz19 : p110.length = z18.1.length := (of_decide_eq_true (chk_t hz19)).symm
  try delta f13_j1_J
  try rw [lz19]
  refine zlRun (n := 2) (j := 5) rfl (by kernel_rfl) ?_
  refine zlEnd (by kernel_rfl) ?_
  refine zkSeq ?_
  refine zrBlk ?_
  refine bindE hS (fun z32 hz32 hS => ?_)
  refine zrLoop (f13_l2_H a1 a2) (f13_l2_X a1 a2) (fun x st r Q h0 hS hQ => f13_l2_ok hd a1 a2 hQ hS h0) (x := ([], z18.1, z18.2.1, z18.2.2, (z18.2.2 : Int), 0)) (z := z32) (by show keepSt _ _ _ _ = _; kernel_rfl) hz32 ?_
  intro e st' _ hX
  obtain ⟨rfl, rfl⟩ : _ ∧ _ := hX
  refine zkBlkX ?_
  refine zkSeq ?_
  refine zrSeq ?_
  refine zrReg ?_
  refine zlRun (n := 3) (j := 3) rfl (by kernel_rfl) ?_
  refine zlEnd (by kernel_rfl) ?_
  refine zkSeq ?_
  refine zrRet ?_
  refine zkNil ?_
  exact endQ hS hQ (fRet (by kernel_rfl) ((congrArg (fun s => outR s 0 c13.res) (by kernel_rfl : finSt c13.fin _ = f13_fin z32 0)).trans (f13_out z32 0)))
def f13_j0_J (a1 : GGrid) (a2 : Int) (p99 : Int) (p100 : Int) (p101 : List GCell) (p102 : Int) : St := ⟨(up (up (up (fun _ => .un) 6 (.d (.int .i64 p102))) 2 (.r (.ptr 24 0 0))) 1 (.d (.int .i64 a2))), (up (up (hB fun _ => 0) 176 ⟨0, some (.own 33 4 (e_GCell.cells p101))⟩) 24 ⟨0, some (.box ((.d (.int .i64 p99)) :: ((.d (.int .i64 p100)) :: ((.r (.msl 176 0 0 p101.length)) :: []))))⟩)⟩
noncomputable def f13_j0 (a1 : GGrid) (a2 : Int) (p99 : Int) (p100 : Int) (p101 : List GCell) (p102 : Int) : Option ((List Int) × Int) := (bif (!decide (p102 = 0)) then (some ([], p102)) else (f13_j1 a1 a2 p99 p100 p101))
theorem f13_j0_ok {base : Orc} {d : Nat} (hd : 6 ≤ d) (a1 : GGrid) (a2 : Int) {r : (List Int) × Int} {Q : PX → St → Prop} (hQ : ∀ e st', f13_Q r e st' → Q e st') (p99 : Int) (p100 : Int) (p101 : List GCell) (p102 : Int) (hS : f13_j0 a1 a2 p99 p100 p101 p102 = some r) {st : St} (he : keepSt [1, 2, 6] [(24, .id 24), (176, .id 176)] [] st = f13_j0_J a1 a2 p99 p100 p101 p102) : ZR (lev codes base (d - 1)) Q c13_5 [] st := by
  refine zrKeep he ?_
  unfold f13_j0 at hS
  refine zrSeq ?_
  refine zrSeq ?_
  refine zrReg ?_
  refine zlRun (n := 1) (j := 1) rfl (by kernel_rfl) ?_
  refine zlBool (d := 25) (op := (.cmpI .neq (.tmp 24) (.const (.int .i64 0)))) (g := none) (j := 2) (!decide (p102 = 0)) rfl (by kernel_rfl) (by kernel_rfl) (by kernel_rfl) (fun hc => ?_) (fun hc => ?_)
  · replace hS := cond_t hc hS
    refine zlEnd (by kernel_rfl) ?_
    refine zkSeq ?_
    refine zrCondT (by kernel_rfl) ?_
    refine zrSeq ?_
    refine zrReg ?_
    refine zlRun (n := 3) (j := 3) rfl (by kernel_rfl) ?_
    refine zlEnd (by kernel_rfl) ?_
    refine zkSeq ?_
    refine zrRet ?_
    refine zkSeqR ?_
    refine zkNil ?_
    exact endQ hS hQ (fRet (by kernel_rfl) ((congrArg (fun s => outR s 0 c13.res) (by kernel_rfl : finSt c13.fin _ = f13_fin [] p102)).trans (f13_out [] p102)))
  · replace hS := cond_f hc hS
    refine zlEnd (by kernel_rfl) ?_
    refine zkSeq ?_
    refine zrCondF (by kernel_rfl) ?_
    refine zrSkip ?_
    refine zkSeq ?_
    exact f13_j1_ok hd a1 a2 hQ p99 p100 p101 hS (by kernel_rfl)
noncomputable def f13 (a1 : GGrid) (a2 : Int) : Option ((List Int) × Int) := (bif (decide (0 ≤ a2)) then (bif (decide (a2 < a1.High)) then ((f29 a1 true (GPen.mk 0 0 0)).bind fun z33 => (f13_j0 a1 a2 z33.1 z33.2.1 z33.2.2.1 z33.2.2.2)) else ((f29 a1 false (GPen.mk 0 0 0)).bind fun z34 => (f13_j0 a1 a2 z34.1 z34.2.1 z34.2.2.1 z34.2.2.2))) else ((f29 a1 false (GPen.mk 0 0 0)).bind fun z35 => (f13_j0 a1 a2 z35.1 z35.2.1 z35.2.2.1 z35.2.2.2)))
theorem f13_ok (base : Orc) (d : Nat) (hd : 6 ≤ d) (a1 : GGrid) (a2 : Int) (r : (List Int) × Int) (hS : f13 a1 a2 = some r) : lev codes base d 13 [(.agg ((.d (.int .i64 a1.Wide)) :: ((.d (.int .i64 a1.High)) :: ((.d (.sl a1.Cells.length (e_GCell.cells a1.Cells))) :: [])))), (.d (.int .i64 a2))] [] = some ((.tup [(.r (.own 0 3 1 r.1.length ((eInt .i64).cells r.1))), (.d (.int .i64 r.2))]), []) := by
  refine lev_go codes13 rfl rfl (Nat.le_trans (Nat.le_of_ble_eq_true rfl) hd) fun Q hQ => ?_
  unfold f13 at hS
  show ZR _ Q c13_b [] _
  replace hQ : ∀ e st', f13_Q r e st' → Q e st' := hQ
  refine zrSeq ?_
  refine zrReg ?_
  refine zlRun (n := 3) (j := 3) rfl (by kernel_rfl) ?_
  refine zlEnd (by kernel_rfl) ?_
  refine zkSeq ?_
  refine zrSeq ?_
  refine zrReg ?_
  refine zlRun (n := 2) (j := 2) rfl (by kernel_rfl) ?_
  refine zlBool (d := 13) (op := (.cmpI .geq (.tmp 12) (.const (.int .i64 0)))) (g := none) (j := 3) (decide (0 ≤ a2)) rfl (by kernel_rfl) (by kernel_rfl) (by kernel_rfl) (fun hc => ?_) (fun hc => ?_)
  · replace hS := cond_t hc hS
    refine zlRun (n := 4) (j := 7) rfl (by kernel_rfl) ?_
    refine zlBool (d := 18) (op := (.cmpI .lss (.tmp 15) (.tmp 17))) (g := (some (14, true))) (j := 8) (decide (a2 < a1.High)) rfl (by kernel_rfl) (by kernel_rfl) (by kernel_rfl) (fun hc => ?_) (fun hc => ?_)
    · replace hS := cond_t hc hS
      refine zlRun (n := 2) (j := 10) rfl (by kernel_rfl) ?_
      refine bindE hS (fun z33 hz33 hS => ?_)
      refine zlOp (d := some 21) (op := (.callf 29 [(.tmp 11), (.tmp 19), (.tmp 20)])) (g := none) (v := (.tup [(.agg ((.d (.int .i64 z33.1)) :: ((.d (.int .i64 z33.2.1)) :: ((.r (.msl 176 1 0 z33.2.2.1.length)) :: [])))), (.d (.int .i64 z33.2.2.2))])) (ups := [(176, ⟨1, some (.own 33 4 (e_GCell.cells z33.2.2.1))⟩)]) (j := 11) rfl (by kernel_rfl) (by kernel_rfl) (ev_callF (args := [(.agg ((.d (.int .i64 a1.Wide)) :: ((.d (.int .i64 a1.High)) :: ((.d (.sl a1.Cells.length (e_GCell.cells a1.Cells))) :: [])))), (.d (.bool true)), (.agg ((.d (.int .i64 0)) :: ((.d (.int .i64 0)) :: ((.d (.int .i64 0)) :: []))))]) (args' := [(.agg ((.d (.int .i64 a1.Wide)) :: ((.d (.int .i64 a1.High)) :: ((.d (.sl a1.Cells.length (e_GCell.cells a1.Cells))) :: [])))), (.d (.bool true)), (.agg ((.d (.int .i64 0)) :: ((.d (.int .i64 0)) :: ((.d (.int .i64 0)) :: []))))]) (l := [(.agg ((.d (.int .i64 a1.Wide)) :: ((.d (.int .i64 a1.High)) :: ((.d (.sl a1.Cells.length (e_GCell.cells a1.Cells))) :: [])))), (.d (.bool true)), (.agg ((.d (.int .i64 0)) :: ((.d (.int .i64 0)) :: ((.d (.int .i64 0)) :: []))))]) (refs := []) (r := (.tup [(.agg ((.d (.int .i64 z33.1)) :: ((.d (.int .i64 z33.2.1)) :: ((.r (.own 0 33 4 z33.2.2.1.length (e_GCell.cells z33.2.2.1))) :: [])))), (.d (.int .i64 z33.2.2.2))])) (v := (.tup [(.agg ((.d (.int .i64 z33.1)) :: ((.d (.int .i64 z33.2.1)) :: ((.r (.msl 176 1 0 z33.2.2.1.length)) :: [])))), (.d (.int .i64 z33.2.2.2))])) (ups' := [(176, ⟨1, some (.own 33 4 (e_GCell.cells z33.2.2.1))⟩)]) (by kernel_rfl) (by kernel_rfl) (by kernel_rfl) (fz_cons rfl (fz_cons rfl (fz_cons rfl fz_nil))) (by kernel_rfl) (f29_ok base (d - 1) (dpt hd rfl) a1 true (GPen.mk 0 0 0) z33 hz33) (by kernel_rfl) (by kernel_rfl) (by kernel_rfl) (by kernel_rfl)) ?_
      refine zlRun (n := 5) (j := 16) rfl (by kernel_rfl) ?_
      refine zlEnd (by kernel_rfl) ?_
      refine zkSeq ?_
      exact f13_j0_ok hd a1 a2 hQ z33.1 z33.2.1 z33.2.2.1 z33.2.2.2 hS (by kernel_rfl)
    · replace hS := cond_f hc hS
      refine zlRun (n := 2) (j := 10) rfl (by kernel_rfl) ?_
      refine bindE hS (fun z34 hz34 hS => ?_)
      refine zlOp (d := some 21) (op := (.callf 29 [(.tmp 11), (.tmp 19), (.tmp 20)])) (g := none) (v := (.tup [(.agg ((.d (.int .i64 z34.1)) :: ((.d (.int .i64 z34.2.1)) :: ((.r (.msl 176 1 0 z34.2.2.1.length)) :: [])))), (.d (.int .i64 z34.2.2.2))])) (ups := [(176, ⟨1, some (.own 33 4 (e_GCell.cells z34.2.2.1))⟩)]) (j := 11) rfl (by kernel_rfl) (by kernel_rfl) (ev_callF (args := [(.agg ((.d (.int .i64 a1.Wide)) :: ((.d (.int .i64 a1.High)) :: ((.d (.sl a1.Cells.length (e_GCell.cells a1.Cells))) :: [])))), (.d (.bool false)), (.agg ((.d (.int .i64 0)) :: ((.d (.int .i64 0)) :: ((.d (.int .i64 0)) :: []))))]) (args' := [(.agg ((.d (.int .i64 a1.Wide)) :: ((.d (.int .i64 a1.High)) :: ((.d (.sl a1.Cells.length (e_GCell.cells a1.Cells))) :: [])))), (.d (.bool false)), (.agg ((.d (.int .i64 0)) :: ((.d (.int .i64 0)) :: ((.d (.int .i64 0)) :: []))))]) (l := [(.agg ((.d (.int .i64 a1.Wide)) :: ((.d (.int .i64 a1.High)) :: ((.d (.sl a1.Cells.length (e_GCell.cells a1.Cells))) :: [])))), (.d (.bool false)), (.agg ((.d (.int .i64 0)) :: ((.d (.int .i64 0)) :: ((.d (.int .i64 0)) :: []))))]) (refs := []) (r := (.tup [(.agg ((.d (.int .i64 z34.1)) :: ((.d (.int .i64 z34.2.1)) :: ((.r (.own 0 33 4 z34.2.2.1.length (e_GCell.cells z34.2.2.1))) :: [])))), (.d (.int .i64 z34.2.2.2))])) (v := (.tup [(.agg ((.d (.int .i64 z34.1)) :: ((.d (.int .i64 z34.2.1)) :: ((.r (.msl 176 1 0 z34.2.2.1.length)) :: [])))), (.d (.int .i64 z34.2.2.2))])) (ups' := [(176, ⟨1, some (.own 33 4 (e_GCell.cells z34.2.2.1))⟩)]) (by kernel_rfl) (by kernel_rfl) (by kernel_rfl) (fz_cons rfl (fz_cons rfl (fz_cons rfl fz_nil))) (by kernel_rfl) (f29_ok base (d - 1) (dpt hd rfl) a1 false (GPen.mk 0 0 0) z34 hz34) (by kernel_rfl) (by kernel_rfl) (by kernel_rfl) (by kernel_rfl)) ?_
      refine zlRun (n := 5) (j := 16) rfl (by kernel_rfl) ?_
      refine zlEnd (by kernel_rfl) ?_
      refine zkSeq ?_
      exact f13_j0_ok hd a1 a2 hQ z34.1 z34.2.1 z34.2.2.1 z34.2.2.2 hS (by kernel_rfl)
  · replace hS := cond_f hc hS
    refine zlRun (n := 7) (j := 10) rfl (by kernel_rfl) ?_
    refine bindE hS (fun z35 hz35 hS => ?_)
    refine zlOp (d := some 21) (op := (.callf 29 [(.tmp 11), (.tmp 19), (.tmp 20)])) (g := none) (v := (.tup [(.agg ((.d (.int .i64 z35.1)) :: ((.d (.int .i64 z35.2.1)) :: ((.r (.msl 176 1 0 z35.2.2.1.length)) :: [])))), (.d (.int .i64 z35.2.2.2))])) (ups := [(176, ⟨1, some (.own 33 4 (e_GCell.cells z35.2.2.1))⟩)]) (j := 11) rfl (by kernel_rfl) (by kernel_rfl) (ev_callF (args := [(.agg ((.d (.int .i64 a1.Wide)) :: ((.d (.int .i64 a1.High)) :: ((.d (.sl a1.Cells.length (e_GCell.cells a1.Cells))) :: [])))), (.d (.bool false)), (.agg ((.d (.int .i64 0)) :: ((.d (.int .i64 0)) :: ((.d (.int .i64 0)) :: []))))]) (args' := [(.agg ((.d (.int .i64 a1.Wide)) :: ((.d (.int .i64 a1.High)) :: ((.d (.sl a1.Cells.length (e_GCell.cells a1.Cells))) :: [])))), (.d (.bool false)), (.agg ((.d (.int .i64 0)) :: ((.d (.int .i64 0)) :: ((.d (.int .i64 0)) :: []))))]) (l := [(.agg ((.d (.int .i64 a1.Wide)) :: ((.d (.int .i64 a1.High)) :: ((.d (.sl a1.Cells.length (e_GCell.cells a1.Cells))) :: [])))), (.d (.bool false)), (.agg ((.d (.int .i64 0)) :: ((.d (.int .i64 0)) :: ((.d (.int .i64 0)) :: []))))]) (refs := []) (r := (.tup [(.agg ((.d (.int .i64 z35.1)) :: ((.d (.int .i64 z35.2.1)) :: ((.r (.own 0 33 4 z35.2.2.1.length (e_GCell.cells z35.2.2.1))) :: [])))), (.d (.int .i64 z35.2.2.2))])) (v := (.tup [(.agg ((.d (.int .i64 z35.1)) :: ((.d (.int .i64 z35.2.1)) :: ((.r (.msl 176 1 0 z35.2.2.1.length)) :: [])))), (.d (.int .i64 z35.2.2.2))])) (ups' := [(176, ⟨1, some (.own 33 4 (e_GCell.cells z35.2.2.1))⟩)]) (by kernel_rfl) (by kernel_rfl) (by kernel_rfl) (fz_cons rfl (fz_cons rfl (fz_cons rfl fz_nil))) (by kernel_rfl) (f29_ok base (d - 1) (dpt hd rfl) a1 false (GPen.mk 0 0 0) z35 hz35) (by kernel_rfl) (by kernel_rfl) (by kernel_rfl) (by kernel_rfl)) ?_
    refine zlRun (n := 5) (j := 16) rfl (by kernel_rfl) ?_
    refine zlEnd (by kernel_rfl) ?_
    refine zkSeq ?_
    exact f13_j0_ok hd a1 a2 hQ z35.1 z35.2.1 z35.2.2.1 z35.2.2.2 hS (by kernel_rfl)
/- slices.Equal[[]int,int] -/
def f16_fin (p14 : Bool) : St := ⟨(up (fun _ => .un) 4 (.d (.bool p14))), (hB fun _ => 0)⟩
theorem f16_out (p14 : Bool) : outR (f16_fin p14) 0 c16.res = some ((.d (.bool p14)), []) := by
  kernel_rfl
def f16_Q (r : Bool) (e : PX) (st : St) : Prop := DoneF c16 0 ((.d (.bool r)), []) e st
def f16_l1_J (a1 : List Int) (a2 : List Int) (x : Int) : St := ⟨(up (up (up (up (fun _ => .un) 13 (.d (.int .i64 x))) 12 (.d (.int .i64 (a1.length : Int)))) 1 (.d (.sl a2.length ((eInt .i64).cells a2)))) 0 (.d (.sl a1.length ((eInt .i64).cells a1)))), (hB fun _ => 0)⟩
def f16_l1_H (a1 : List Int) (a2 : List Int) (x : Int) (st : St) : Prop := keepSt [0, 1, 12, 13] [] [] st = f16_l1_J a1 a2 x
def f16_l1_e0_J (a1 : List Int) (a2 : List Int) : St := ⟨(fun _ => .un), (hB fun _ => 0)⟩
def f16_l1_X (a1 : List Int) (a2 : List Int) (z : Unit ⊕ Bool) (e : PX) (st : St) : Prop := (match z with | .inl z => e = .exit 0 ∧ st = f16_l1_e0_J a1 a2 | .inr z => e = .ret ∧ finSt c16.fin st = f16_fin z)
def f16_l1_j3_J (a1 : List Int) (a2 : List Int) (p20 : Int) : St := ⟨(up (up (up (up (fun _ => .un) 13 (.d (.int .i64 p20))) 12 (.d (.int .i64 (a1.length : Int)))) 1 (.d (.sl a2.length ((eInt .i64).cells a2)))) 0 (.d (.sl a1.length ((eInt .i64).cells a1)))), (hB fun _ => 0)⟩
noncomputable def f16_l1_j3 (a1 : List Int) (a2 : List Int) (p20 : Int) : Option (Int ⊕ (Unit ⊕ Bool)) := ((idx a1 p20).bind fun z7 => ((idx a2 p20).bind fun z8 => (bif (!decide (z7 = z8)) then (some (.inr (.inr false))) else (some (.inl (IntKind.i64.wrap (p20 + 1)))))))
theorem f16_l1_j3_ok {base : Orc} {d : Nat} (hd : 1 ≤ d) (a1 : List Int) (a2 : List Int) {r : Int ⊕ (Unit ⊕ Bool)} {Q : PX → St → Prop} (hQ : ∀ e st', finL (f16_l1_H a1 a2) (f16_l1_X a1 a2) r e st' → Q e st') (p20 : Int) (hS : f16_l1_j3 a1 a2 p20 = some r) {st : St} (he : keepSt [0, 1, 12, 13] [] [] st = f16_l1_j3_J a1 a2 p20) : ZR (lev codes base (d - 1)) Q c16_1 [] st := by
  refine zrKeep he ?_
  unfold f16_l1_j3 at hS
  refine zrSeq ?_
  refine zrBlk ?_
  refine zrSeq ?_
  refine zrReg ?_
  refine zlRun (n := 2) (j := 2) rfl (by kernel_rfl) ?_
  refine zlEnd (by kernel_rfl) ?_
  refine zkSeq ?_
  refine zrSeq ?_
  refine zrRegD ?_
  refine zdRun (n := 2) (j := 2) (ts := [[], []]) (acc' := [[], []]) rfl (by kernel_rfl) (by kernel_rfl) (by kernel_rfl) ?_
  refine bindE hS (fun z7 hz7 hS => ?_)
  refine zdOp (d := some 18) (op := (.ixS 3 1 (.tmp 16) (.tmp 17))) (g := none) (v := (.rptr ((eInt .i64).enc z7 ++ ((eInt .i64).cells (a1.drop ((p20 : Int).toNat + 1)))))) (ups := []) (j := 3) (t1 := []) (acc' := [[], [], []]) (by kernel_rfl) (by kernel_rfl) rfl (by kernel_rfl) (by kernel_rfl) (ev_ixS (eInt .i64) (kk := .i64) (xs := a1) (j := p20) (by kernel_rfl) (by kernel_rfl) hz7 rfl (by intro h; cases h)) ?_
  refine zdRun (n := 3) (j := 6) (ts := [[], [], []]) (acc' := [[], [], [], [], [], []]) rfl (by kernel_rfl) (by kernel_rfl) (by kernel_rfl) ?_
  refine bindE hS (fun z8 hz8 hS => ?_)
  refine zdOp (d := some 22) (op := (.ixS 3 1 (.tmp 20) (.tmp 21))) (g := none) (v := (.rptr ((eInt .i64).enc z8 ++ ((eInt .i64).cells (a2.drop ((p20 : Int).toNat + 1)))))) (ups := []) (j := 7) (t1 := []) (acc' := [[], [], [], [], [], [], []]) (by kernel_rfl) (by kernel_rfl) rfl (by kernel_rfl) (by kernel_rfl) (ev_ixS (eInt .i64) (kk := .i64) (xs := a2) (j := p20) (by kernel_rfl) (by kernel_rfl) hz8 rfl (by intro h; cases h)) ?_
  refine zdRun (n := 1) (j := 8) (ts := [[]]) (acc' := [[], [], [], [], [], [], [], []]) rfl (by kernel_rfl) (by kernel_rfl) (by kernel_rfl) ?_
  refine zdBool (d := 24) (op := (.cmpI .neq (.tmp 19) (.tmp 23))) (g := none) (j := 9) (t1 := []) (acc' := [[], [], [], [], [], [], [], [], []]) (!decide (z7 = z8)) (by kernel_rfl) (by kernel_rfl) rfl (by kernel_rfl) (by kernel_rfl) (by kernel_rfl) (fun hc => ?_) (fun hc => ?_)
  · replace hS := cond_t hc hS
    refine zdEnd (by kernel_rfl) (by kernel_rfl) ?_
    refine zkSeq ?_
    refine zrCondT (by kernel_rfl) ?_
    refine zrSeq ?_
    refine zrReg ?_
    refine zlRun (n := 1) (j := 1) rfl (by kernel_rfl) ?_
    refine zlEnd (by kernel_rfl) ?_
    refine zkSeq ?_
    refine zrRet ?_
    refine zkBlkR ?_
    refine zkSeqR ?_
    refine zkNil ?_
    exact endQ hS hQ (finL_x (by intro h; cases h) (by show _ = _ ∧ _ = _; exact ⟨rfl, by kernel_rfl⟩))
  · replace hS := cond_f hc hS
    refine zdEnd (by kernel_rfl) (by kernel_rfl) ?_
    refine zkSeq ?_
    refine zrCondF (by kernel_rfl) ?_
    refine zrSkip ?_
    refine zkBlk ?_
    refine zkSeq ?_
    refine zrReg ?_
    refine zlRun (n := 2) (j := 2) rfl (by kernel_rfl) ?_
    refine zlEnd (by kernel_rfl) ?_
    refine zkNil ?_
    exact endQ hS hQ (finL_n (by show keepSt _ _ _ _ = _; kernel_rfl))
def f16_l1_j2_J (a1 : List Int) (a2 : List Int) (p18 : Int) (p19 : Bool) : St := ⟨(up (up (up (up (up (fun _ => .un) 14 (.d (.bool p19))) 13 (.d (.int .i64 p18))) 12 (.d (.int .i64 (a1.length : Int)))) 1 (.d (.sl a2.length ((eInt .i64).cells a2)))) 0 (.d (.sl a1.length ((eInt .i64).cells a1)))), (hB fun _ => 0)⟩
noncomputable def f16_l1_j2 (a1 : List Int) (a2 : List Int) (p18 : Int) (p19 : Bool) : Option (Int ⊕ (Unit ⊕ Bool)) := (bif p19 then (f16_l1_j3 a1 a2 p18) else (some (.inr (.inl ()))))
theorem f16_l1_j2_ok {base : Orc} {d : Nat} (hd : 1 ≤ d) (a1 : List Int) (a2 : List Int) {r : Int ⊕ (Unit ⊕ Bool)} {Q : PX → St → Prop} (hQ : ∀ e st', finL (f16_l1_H a1 a2) (f16_l1_X a1 a2) r e st' → Q e st') (p18 : Int) (p19 : Bool) (hS : f16_l1_j2 a1 a2 p18 p19 = some r) {st : St} (he : keepSt [0, 1, 12, 13, 14] [] [] st = f16_l1_j2_J a1 a2 p18 p19) : ZR (lev codes base (d - 1)) Q c16_2 [] st := by
  refine zrKeep he ?_
  unfold f16_l1_j2 at hS
  refine zrSeq ?_
  refine zrSplit 14 p19 (by kernel_rfl) (fun hc => ?_) (fun hc => ?_)
  · replace hS := cond_t hc hS
    refine zrCondT (by kernel_rfl) ?_
    refine zrSkip ?_
    refine zkSeq ?_
    exact f16_l1_j3_ok hd a1 a2 hQ p18 hS (by kernel_rfl)
  · replace hS := cond_f hc hS
    refine zrCondF (by kernel_rfl) ?_
    refine zrKeep (J := f16_l1_e0_J a1 a2) (by kernel_rfl) ?_
    refine zrExit ?_
    refine zkSeqX ?_
    refine zkNil ?_
    exact endQ hS hQ (finL_x (by intro h; cases h) (by show _ = _ ∧ _ = _; exact ⟨rfl, rfl⟩))
noncomputable def f16_l1 (a1 : List Int) (a2 : List Int) (x : Int) : Option (Int ⊕ (Unit ⊕ Bool)) := (bif (decide (x < (a1.length : Int))) then (f16_l1_j2 a1 a2 x true) else (f16_l1_j2 a1 a2 x false))
theorem f16_l1_ok {base : Orc} {d : Nat} (hd : 1 ≤ d) (a1 : List Int) (a2 : List Int) {r : Int ⊕ (Unit ⊕ Bool)} {Q : PX → St → Prop} (hQ : ∀ e st', finL (f16_l1_H a1 a2) (f16_l1_X a1 a2) r e st' → Q e st') {x : Int} (hS : f16_l1 a1 a2 x = some r) {st : St} (he : f16_l1_H a1 a2 x st) : ZR (lev codes base (d - 1)) Q c16_3 [] st := by
  refine zrKeep he ?_
  unfold f16_l1 at hS
  refine zrSeq ?_
  refine zrReg ?_
  refine zlBool (d := 14) (op := (.cmpI .lss (.tmp 13) (.tmp 12))) (g := none) (j := 1) (decide (x < (a1.length : Int))) rfl (by kernel_rfl) (by kernel_rfl) (by kernel_rfl) (fun hc => ?_) (fun hc => ?_)
  · replace hS := cond_t hc hS
    refine zlEnd (by kernel_rfl) ?_
    refine zkSeq ?_
    exact f16_l1_j2_ok hd a1 a2 hQ x true hS (by kernel_rfl)
  · replace hS := cond_f hc hS
    refine zlEnd (by kernel_rfl) ?_
    refine zkSeq ?_
    exact f16_l1_j2_ok hd a1 a2 hQ x false hS (by kernel_rfl)
def f16_j0_J (a1 : List Int) (a2 : List Int) : St := ⟨(up (up (fun _ => .un) 1 (.d (.sl a2.length ((eInt .i64).cells a2)))) 0 (.d (.sl a1.length ((eInt .i64).cells a1)))), (hB fun _ => 0)⟩
noncomputable def f16_j0 (a1 : List Int) (a2 : List Int) : Option (Bool) := ((loopO (f16_l1 a1 a2) 0).bind fun z9 => (Sum.elim (fun z10 => (some true)) (fun z11 => (some z11)) z9))
theorem f16_j0_ok {base : Orc} {d : Nat} (hd : 1 ≤ d) (a1 : List Int) (a2 : List Int) {r : Bool} {Q : PX → St → Prop} (hQ : ∀ e st', f16_Q r e st' → Q e st')  (hS : f16_j0 a1 a2 = some r) {st : St} (he : keepSt [0, 1] [] [] st = f16_j0_J a1 a2) : ZR (lev codes base (d - 1)) Q c16_4 [] st := by
  refine zrKeep he ?_
  unfold f16_j0 at hS
  refine zrSeq ?_
  refine zrSeq ?_
  refine zrReg ?_
  refine zlRun (n := 3) (j := 3) rfl (by kernel_rfl) ?_
  refine zlEnd (by kernel_rfl) ?_
  refine zkSeq ?_
  refine zrBlk ?_
  refine bindE hS (fun z9 hz9 hS => ?_)
  refine zrLoop (f16_l1_H a1 a2) (f16_l1_X a1 a2) (fun x st r Q h0 hS hQ => f16_l1_ok hd a1 a2 hQ hS h0) (x := 0) (z := z9) (by show keepSt _ _ _ _ = _; kernel_rfl) hz9 ?_
  rcases z9 with z10 | z11
  · replace hS := (show _ = _ from hS)
    simp only [Sum.elim_inl] at hS
    intro e st' _ hX
    obtain ⟨rfl, rfl⟩ : _ ∧ _ := hX
    refine zkBlkX ?_
    refine zkSeq ?_
    refine zrSeq ?_
    refine zrReg ?_
    refine zlRun (n := 1) (j := 1) rfl (by kernel_rfl) ?_
    refine zlEnd (by kernel_rfl) ?_
    refine zkSeq ?_
    refine zrRet ?_
    refine zkNil ?_
    exact endQ hS hQ (fRet (by kernel_rfl) ((congrArg (fun s => outR s 0 c16.res) (by kernel_rfl : finSt c16.fin _ = f16_fin true)).trans (f16_out true)))
  · simp only [Sum.elim_inr] at hS
    intro e st' _ hX
    obtain ⟨rfl, hX⟩ : _ ∧ _ := hX
    refine zkBlkR ?_
    refine zkSeqR ?_
    refine zkNil ?_
    exact endQ hS hQ (fRet (by kernel_rfl) ((congrArg (fun s => outR s 0 c16.res) hX).trans (f16_out z11)))
noncomputable def f16 (a1 : List Int) (a2 : List Int) : Option (Bool) := (bif (!decide ((a1.length : Int) = (a2.length : Int))) then (some false) else (f16_j0 a1 a2 ))
theorem f16_ok (base : Orc) (d : Nat) (hd : 1 ≤ d) (a1 : List Int) (a2 : List Int) (r : Bool) (hS : f16 a1 a2 = some r) : lev codes base d 16 [(.d (.sl a1.length ((eInt .i64).cells a1))), (.d (.sl a2.length ((eInt .i64).cells a2)))] [] = some ((.d (.bool r)), []) := by
  refine lev_go codes16 rfl rfl (Nat.le_trans (Nat.le_of_ble_eq_true rfl) hd) fun Q hQ => ?_
  unfold f16 at hS
  show ZR _ Q c16_b [] _
  replace hQ : ∀ e st', f16_Q r e st' → Q e st' := hQ
  refine zrSeq ?_
  refine zrReg ?_
  refine zlRun (n := 1) (j := 1) rfl (by kernel_rfl) ?_
  refine zlEnd (by kernel_rfl) ?_
  refine zkSeq ?_
  refine zrSeq ?_
  refine zrSeq ?_
  refine zrReg ?_
  refine zlRun (n := 4) (j := 4) rfl (by kernel_rfl) ?_
  refine zlBool (d := 10) (op := (.cmpI .neq (.tmp 7) (.tmp 9))) (g := none) (j := 5) (!decide ((a1.length : Int) = (a2.length : Int))) rfl (by kernel_rfl) (by kernel_rfl) (by kernel_rfl) (fun hc => ?_) (fun hc => ?_)
  · replace hS := cond_t hc hS
    refine zlEnd (by kernel_rfl) ?_
    refine zkSeq ?_
    refine zrCondT (by kernel_rfl) ?_
    refine zrSeq ?_
    refine zrReg ?_
    refine zlRun (n := 1) (j := 1) rfl (by kernel_rfl) ?_
    refine zlEnd (by kernel_rfl) ?_
    refine zkSeq ?_
    refine zrRet ?_
    refine zkSeqR ?_
    refine zkNil ?_
    exact endQ hS hQ (fRet (by kernel_rfl) ((congrArg (fun s => outR s 0 c16.res) (by kernel_rfl : finSt c16.fin _ = f16_fin false)).trans (f16_out false)))
  · replace hS := cond_f hc hS
    refine zlEnd (by kernel_rfl) ?_
    refine zkSeq ?_
    refine zrCondF (by kernel_rfl) ?_
    refine zrSkip ?_
    refine zkSeq ?_
    exact f16_j0_ok hd a1 a2 hQ  hS (by kernel_rfl)
/- farwriter/farkeep.gridLives -/
def f10_fin (p5 : Bool) : St := ⟨(up (fun _ => .un) 0 (.d (.bool p5))), (hB fun _ => 0)⟩
theorem f10_out (p5 : Bool) : outR (f10_fin p5) 0 c10.res = some ((.d (.bool p5)), []) := by
  kernel_rfl
def f10_Q (r : Bool) (e : PX) (st : St) : Prop := DoneF c10 0 ((.d (.bool r)), []) e st
noncomputable def f10  : Option (Bool) := ((f31 4 1 (GPen.mk 0 0 0)).bind fun z6 => ((f9 (GGrid.mk z6.1 z6.2.1 z6.2.2.1) 0 0 97 (GPen.mk 0 0 0)).bind fun z7 => ((f9 (GGrid.mk z7.1 z7.2.1 z7.2.2.1) 0 1 20013 (GPen.mk 1 0 0)).bind fun z8 => ((f13 (GGrid.mk z8.1 z8.2.1 z8.2.2.1) 0).bind fun z9 => (bif (decide (z6.2.2.2 = 0)) then (bif (decide (z7.2.2.2 = 0)) then (bif (decide (z8.2.2.2 = 0)) then (bif (decide (z9.2 = 0)) then ((f16 z9.1 [97, 20013, 32]).bind fun z10 => (some z10)) else (some false)) else (some false)) else (some false)) else (some false))))))
theorem f10_ok (base : Orc) (d : Nat) (hd : 7 ≤ d)  (r : Bool) (hS : f10 = some r) : lev codes base d 10 [] [] = some ((.d (.bool r)), []) := by
  refine lev_go codes10 rfl rfl (Nat.le_trans (Nat.le_of_ble_eq_true rfl) hd) fun Q hQ => ?_
  unfold f10 at hS
  show ZR _ Q c10_b [] _
  replace hQ : ∀ e st', f10_Q r e st' → Q e st' := hQ
  refine zrSeq ?_
  refine zrReg ?_
  refine zlRun (n := 1) (j := 1) rfl (by kernel_rfl) ?_
  refine zlEnd (by kernel_rfl) ?_
  refine zkSeq ?_
  refine zrSeq ?_
  refine zrReg ?_
  refine zlRun (n := 1) (j := 1) rfl (by kernel_rfl) ?_
  refine bindE hS (fun z6 hz6 hS => ?_)
  refine zlOp (d := some 9) (op := (.call 31 [(.const (.int .i64 4)), (.const (.int .i64 1)), (.tmp 8)])) (g := none) (v := (.tup [(.agg ((.d (.int .i64 z6.1)) :: ((.d (.int .i64 z6.2.1)) :: ((.r (.msl 80 1 0 z6.2.2.1.length)) :: [])))), (.d (.int .i64 z6.2.2.2))])) (ups := [(80, ⟨1, some (.own 33 4 (e_GCell.cells z6.2.2.1))⟩)]) (j := 2) rfl (by kernel_rfl) (by kernel_rfl) (ev_call (args := [(.d (.int .i64 4)), (.d (.int .i64 1)), (.agg ((.d (.int .i64 0)) :: ((.d (.int .i64 0)) :: ((.d (.int .i64 0)) :: []))))]) (l := [(.d (.int .i64 4)), (.d (.int .i64 1)), (.agg ((.d (.int .i64 0)) :: ((.d (.int .i64 0)) :: ((.d (.int .i64 0)) :: []))))]) (r := (.tup [(.agg ((.d (.int .i64 z6.1)) :: ((.d (.int .i64 z6.2.1)) :: ((.r (.own 0 33 4 z6.2.2.1.length (e_GCell.cells z6.2.2.1))) :: [])))), (.d (.int .i64 z6.2.2.2))])) (by kernel_rfl) (by kernel_rfl) (f31_ok base (d - 1) (dpt hd rfl) 4 1 (GPen.mk 0 0 0) z6 hz6) (by kernel_rfl) (by kernel_rfl) (by kernel_rfl)) ?_
  refine zlRun (n := 6) (j := 8) rfl (by kernel_rfl) ?_
  refine zlEnd (by kernel_rfl) ?_
  refine zkSeq ?_
  refine zrSeq ?_
  refine zrReg ?_
  refine zlRun (n := 2) (j := 2) rfl (by kernel_rfl) ?_
  refine bindE hS (fun z7 hz7 hS => ?_)
  refine zlOp (d := some 15) (op := (.callf 9 [(.tmp 13), (.const (.int .i64 0)), (.const (.int .i64 0)), (.const (.int .i64 97)), (.tmp 14)])) (g := none) (v := (.tup [(.agg ((.d (.int .i64 z7.1)) :: ((.d (.int .i64 z7.2.1)) :: ((.r (.msl 128 1 0 z7.2.2.1.length)) :: [])))), (.d (.int .i64 z7.2.2.2))])) (ups := [(80, ⟨2, none⟩), (128, ⟨1, some (.own 33 4 (e_GCell.cells z7.2.2.1))⟩)]) (j := 3) rfl (by kernel_rfl) (by kernel_rfl) (ev_callF (args := [(.agg ((.d (.int .i64 z6.1)) :: ((.d (.int .i64 z6.2.1)) :: ((.r (.msl 80 1 0 z6.2.2.1.length)) :: [])))), (.d (.int .i64 0)), (.d (.int .i64 0)), (.d (.int .i64 97)), (.agg ((.d (.int .i64 0)) :: ((.d (.int .i64 0)) :: ((.d (.int .i64 0)) :: []))))]) (args' := [(.agg ((.d (.int .i64 z6.1)) :: ((.d (.int .i64 z6.2.1)) :: ((.d (.sl z6.2.2.1.length (e_GCell.cells z6.2.2.1))) :: [])))), (.d (.int .i64 0)), (.d (.int .i64 0)), (.d (.int .i64 97)), (.agg ((.d (.int .i64 0)) :: ((.d (.int .i64 0)) :: ((.d (.int .i64 0)) :: []))))]) (l := [(.agg ((.d (.int .i64 z6.1)) :: ((.d (.int .i64 z6.2.1)) :: ((.d (.sl z6.2.2.1.length (e_GCell.cells z6.2.2.1))) :: [])))), (.d (.int .i64 0)), (.d (.int .i64 0)), (.d (.int .i64 97)), (.agg ((.d (.int .i64 0)) :: ((.d (.int .i64 0)) :: ((.d (.int .i64 0)) :: []))))]) (refs := [80]) (r := (.tup [(.agg ((.d (.int .i64 z7.1)) :: ((.d (.int .i64 z7.2.1)) :: ((.r (.own 0 33 4 z7.2.2.1.length (e_GCell.cells z7.2.2.1))) :: [])))), (.d (.int .i64 z7.2.2.2))])) (v := (.tup [(.agg ((.d (.int .i64 z7.1)) :: ((.d (.int .i64 z7.2.1)) :: ((.r (.msl 128 1 0 z7.2.2.1.length)) :: [])))), (.d (.int .i64 z7.2.2.2))])) (ups' := [(128, ⟨1, some (.own 33 4 (e_GCell.cells z7.2.2.1))⟩)]) (by kernel_rfl) (by kernel_rfl) (by kernel_rfl) (fz_cons (fz_agg (fz_cons (by kernel_rfl) (fz_cons (by kernel_rfl) (fz_cons (fz_own e_GCell (e := 33) (k := 4) (xs := z6.2.2.1) (by kernel_rfl) (by kernel_rfl) rfl rfl) fz_nil)))) (fz_cons rfl (fz_cons rfl (fz_cons rfl (fz_cons rfl fz_nil))))) (by kernel_rfl) (f9_ok base (d - 1) (dpt hd rfl) (GGrid.mk z6.1 z6.2.1 z6.2.2.1) 0 0 97 (GPen.mk 0 0 0) z7 hz7) (by kernel_rfl) (by kernel_rfl) (by kernel_rfl) (by kernel_rfl)) ?_
  refine zlRun (n := 5) (j := 8) rfl (by kernel_rfl) ?_
  refine zlEnd (by kernel_rfl) ?_
  refine zkSeq ?_
  refine zrSeq ?_
  refine zrReg ?_
  refine zlRun (n := 2) (j := 2) rfl (by kernel_rfl) ?_
  refine bindE hS (fun z8 hz8 hS => ?_)
  refine zlOp (d := some 21) (op := (.callf 9 [(.tmp 19), (.const (.int .i64 0)), (.const (.int .i64 1)), (.const (.int .i64 20013)), (.tmp 20)])) (g := none) (v := (.tup [(.agg ((.d (.int .i64 z8.1)) :: ((.d (.int .i64 z8.2.1)) :: ((.r (.msl 176 1 0 z8.2.2.1.length)) :: [])))), (.d (.int .i64 z8.2.2.2))])) (ups := [(128, ⟨2, none⟩), (176, ⟨1, some (.own 33 4 (e_GCell.cells z8.2.2.1))⟩)]) (j := 3) rfl (by kernel_rfl) (by kernel_rfl) (ev_callF (args := [(.agg ((.d (.int .i64 z7.1)) :: ((.d (.int .i64 z7.2.1)) :: ((.r (.msl 128 1 0 z7.2.2.1.length)) :: [])))), (.d (.int .i64 0)), (.d (.int .i64 1)), (.d (.int .i64 20013)), (.agg ((.d (.int .i64 1)) :: ((.d (.int .i64 0)) :: ((.d (.int .i64 0)) :: []))))]) (args' := [(.agg ((.d (.int .i64 z7.1)) :: ((.d (.int .i64 z7.2.1)) :: ((.d (.sl z7.2.2.1.length (e_GCell.cells z7.2.2.1))) :: [])))), (.d (.int .i64 0)), (.d (.int .i64 1)), (.d (.int .i64 20013)), (.agg ((.d (.int .i64 1)) :: ((.d (.int .i64 0)) :: ((.d (.int .i64 0)) :: []))))]) (l := [(.agg ((.d (.int .i64 z7.1)) :: ((.d (.int .i64 z7.2.1)) :: ((.d (.sl z7.2.2.1.length (e_GCell.cells z7.2.2.1))) :: [])))), (.d (.int .i64 0)), (.d (.int .i64 1)), (.d (.int .i64 20013)), (.agg ((.d (.int .i64 1)) :: ((.d (.int .i64 0)) :: ((.d (.int .i64 0)) :: []))))]) (refs := [128]) (r := (.tup [(.agg ((.d (.int .i64 z8.1)) :: ((.d (.int .i64 z8.2.1)) :: ((.r (.own 0 33 4 z8.2.2.1.length (e_GCell.cells z8.2.2.1))) :: [])))), (.d (.int .i64 z8.2.2.2))])) (v := (.tup [(.agg ((.d (.int .i64 z8.1)) :: ((.d (.int .i64 z8.2.1)) :: ((.r (.msl 176 1 0 z8.2.2.1.length)) :: [])))), (.d (.int .i64 z8.2.2.2))])) (ups' := [(176, ⟨1, some (.own 33 4 (e_GCell.cells z8.2.2.1))⟩)]) (by kernel_rfl) (by kernel_rfl) (by kernel_rfl) (fz_cons (fz_agg (fz_cons (by kernel_rfl) (fz_cons (by kernel_rfl) (fz_cons (fz_own e_GCell (e := 33) (k := 4) (xs := z7.2.2.1) (by kernel_rfl) (by kernel_rfl) rfl rfl) fz_nil)))) (fz_cons rfl (fz_cons rfl (fz_cons rfl (fz_cons rfl fz_nil))))) (by kernel_rfl) (f9_ok base (d - 1) (dpt hd rfl) (GGrid.mk z7.1 z7.2.1 z7.2.2.1) 0 1 20013 (GPen.mk 1 0 0) z8 hz8) (by kernel_rfl) (by kernel_rfl) (by kernel_rfl) (by kernel_rfl)) ?_
  refine zlRun (n := 5) (j := 8) rfl (by kernel_rfl) ?_
  refine zlEnd (by kernel_rfl) ?_
  refine zkSeq ?_
  refine zrSeq ?_
  refine zrReg ?_
  refine zlRun (n := 1) (j := 1) rfl (by kernel_rfl) ?_
  refine bindE hS (fun z9 hz9 hS => ?_)
  refine zlOp (d := some 26) (op := (.call 13 [(.tmp 25), (.const (.int .i64 0))])) (g := none) (v := (.tup [(.r (.msl 216 1 0 z9.1.length)), (.d (.int .i64 z9.2))])) (ups := [(216, ⟨1, some (.own 3 1 ((eInt .i64).cells z9.1))⟩)]) (j := 2) rfl (by kernel_rfl) (by kernel_rfl) (ev_call (args := [(.agg ((.d (.int .i64 z8.1)) :: ((.d (.int .i64 z8.2.1)) :: ((.r (.msl 176 1 0 z8.2.2.1.length)) :: [])))), (.d (.int .i64 0))]) (l := [(.agg ((.d (.int .i64 z8.1)) :: ((.d (.int .i64 z8.2.1)) :: ((.d (.sl z8.2.2.1.length (e_GCell.cells z8.2.2.1))) :: [])))), (.d (.int .i64 0))]) (r := (.tup [(.r (.own 0 3 1 z9.1.length ((eInt .i64).cells z9.1))), (.d (.int .i64 z9.2))])) (by kernel_rfl) (l_cons (l_agg (l_cons (by kernel_rfl) (l_cons (by kernel_rfl) (l_cons (l_own e_GCell (e := 33) (k := 4) (xs := z8.2.2.1) (by kernel_rfl) rfl rfl) l_nil)))) (l_cons (by kernel_rfl) l_nil)) (f13_ok base (d - 1) (dpt hd rfl) (GGrid.mk z8.1 z8.2.1 z8.2.2.1) 0 z9 hz9) (by simp only [free_own (eInt .i64) (fun _ => rfl), free_tup, free_agg, free_nl, free_cs, free_int, free_bool, free_str, free_un, free_ni, free_s0, Bool.and_true, Bool.or_true, Bool.and_self]) (by kernel_rfl) (by kernel_rfl)) ?_
  refine zlRun (n := 5) (j := 7) rfl (by kernel_rfl) ?_
  refine zlEnd (by kernel_rfl) ?_
  refine zkSeq ?_
  refine zrSeq ?_
  refine zrReg ?_
  refine zlRun (n := 1) (j := 1) rfl (by kernel_rfl) ?_
  refine zlBool (d := 30) (op := (.cmpI .eql (.tmp 29) (.const (.int .i64 0)))) (g := none) (j := 2) (decide (z6.2.2.2 = 0)) rfl (by kernel_rfl) (by kernel_rfl) (by kernel_rfl) (fun hc => ?_) (fun hc => ?_)
  · replace hS := cond_t hc hS
    refine zlRun (n := 2) (j := 4) rfl (by kernel_rfl) ?_
    refine zlBool (d := 33) (op := (.cmpI .eql (.tmp 32) (.const (.int .i64 0)))) (g := (some (31, true))) (j := 5) (decide (z7.2.2.2 = 0)) rfl (by kernel_rfl) (by kernel_rfl) (by kernel_rfl) (fun hc => ?_) (fun hc => ?_)
    · replace hS := cond_t hc hS
      refine zlRun (n := 3) (j := 8) rfl (by kernel_rfl) ?_
      refine zlBool (d := 37) (op := (.cmpI .eql (.tmp 36) (.const (.int .i64 0)))) (g := (some (35, true))) (j := 9) (decide (z8.2.2.2 = 0)) rfl (by kernel_rfl) (by kernel_rfl) (by kernel_rfl) (fun hc => ?_) (fun hc => ?_)
      · replace hS := cond_t hc hS
        refine zlRun (n := 3) (j := 12) rfl (by kernel_rfl) ?_
        refine zlBool (d := 41) (op := (.cmpI .eql (.tmp 40) (.const (.int .i64 0)))) (g := (some (39, true))) (j := 13) (decide (z9.2 = 0)) rfl (by kernel_rfl) (by kernel_rfl) (by kernel_rfl) (fun hc => ?_) (fun hc => ?_)
        · replace hS := cond_t hc hS
          refine zlRun (n := 4) (j := 17) rfl (by kernel_rfl) ?_
          refine bindE hS (fun z10 hz10 hS => ?_)
          refine zlOp (d := some 46) (op := (.call 16 [(.tmp 44), (.tmp 45)])) (g := (some (43, true))) (v := (.d (.bool z10))) (ups := []) (j := 18) rfl (by kernel_rfl) (by kernel_rfl) (ev_call (args := [(.r (.msl 216 1 0 z9.1.length)), (.r (.msl 368 1 0 (([97, 20013, 32] : List Int).length)))]) (l := [(.d (.sl z9.1.length ((eInt .i64).cells z9.1))), (.d (.sl ([97, 20013, 32] : List Int).length ((eInt .i64).cells ([97, 20013, 32]))))]) (r := (.d (.bool z10))) (by kernel_rfl) (l_cons (l_own (eInt .i64) (e := 3) (k := 1) (xs := z9.1) (by kernel_rfl) rfl rfl) (l_cons (l_own (eInt .i64) (e := 3) (k := 1) (xs := [97, 20013, 32]) (by kernel_rfl) rfl rfl) l_nil)) (f16_ok base (d - 1) (dpt hd rfl) z9.1 [97, 20013, 32] z10 hz10) (by kernel_rfl) (by kernel_rfl) (by kernel_rfl)) ?_
          refine zlRun (n := 2) (j := 20) rfl (by kernel_rfl) ?_
          refine zlEnd (by kernel_rfl) ?_
          refine zkSeq ?_
          refine zrRet ?_
          refine zkNil ?_
          exact endQ hS hQ (fRet (by kernel_rfl) ((congrArg (fun s => outR s 0 c10.res) (by kernel_rfl : finSt c10.fin _ = f10_fin z10)).trans (f10_out z10)))
        · replace hS := cond_f hc hS
          refine zlRun (n := 7) (j := 20) rfl (by kernel_rfl) ?_
          refine zlEnd (by kernel_rfl) ?_
          refine zkSeq ?_
          refine zrRet ?_
          refine zkNil ?_
          exact endQ hS hQ (fRet (by kernel_rfl) ((congrArg (fun s => outR s 0 c10.res) (by kernel_rfl : finSt c10.fin _ = f10_fin false)).trans (f10_out false)))
      · replace hS := cond_f hc hS
        refine zlRun (n := 11) (j := 20) rfl (by kernel_rfl) ?_
        refine zlEnd (by kernel_rfl) ?_
        refine zkSeq ?_
        refine zrRet ?_
        refine zkNil ?_
        exact endQ hS hQ (fRet (by kernel_rfl) ((congrArg (fun s => outR s 0 c10.res) (by kernel_rfl : finSt c10.fin _ = f10_fin false)).trans (f10_out false)))
    · replace hS := cond_f hc hS
      refine zlRun (n := 15) (j := 20) rfl (by kernel_rfl) ?_
      refine zlEnd (by kernel_rfl) ?_
      refine zkSeq ?_
      refine zrRet ?_
      refine zkNil ?_
      exact endQ hS hQ (fRet (by kernel_rfl) ((congrArg (fun s => outR s 0 c10.res) (by kernel_rfl : finSt c10.fin _ = f10_fin false)).trans (f10_out false)))
  · replace hS := cond_f hc hS
    refine zlRun (n := 18) (j := 20) rfl (by kernel_rfl) ?_
    refine zlEnd (by kernel_rfl) ?_
    refine zkSeq ?_
    refine zrRet ?_
    refine zkNil ?_
    exact endQ hS hQ (fRet (by kernel_rfl) ((congrArg (fun s => outR s 0 c10.res) (by kernel_rfl : finSt c10.fin _ = f10_fin false)).trans (f10_out false)))
/- farwriter/farkeep.GridBack$1 -/
def f21_fin (p2 : Bool) : St := ⟨(up (fun _ => .un) 2 (.d (.bool p2))), (hB fun _ => 0)⟩
theorem f21_out (p2 : Bool) : outR (f21_fin p2) 0 c21.res = some ((.d (.bool p2)), []) := by
  kernel_rfl
def f21_Q (r : Bool) (e : PX) (st : St) : Prop := DoneF c21 0 ((.d (.bool r)), []) e st
noncomputable def f21 (a1 : GCell) : Option (Bool) := (bif (decide (a1.Rune = 0)) then (some true) else (some false))
theorem f21_ok (base : Orc) (d : Nat) (hd : 1 ≤ d) (a1 : GCell) (r : Bool) (hS : f21 a1 = some r) : lev codes base d 21 [(.agg ((.d (.int .i64 a1.Rune)) :: ((.d (.int .i64 a1.Pen.Flags)) :: ((.d (.int .i64 a1.Pen.Fore)) :: ((.d (.int .i64 a1.Pen.Back)) :: [])))))] [] = some ((.d (.bool r)), []) := by
  refine lev_go codes21 rfl rfl (Nat.le_trans (Nat.le_of_ble_eq_true rfl) hd) fun Q hQ => ?_
  unfold f21 at hS
  show ZR _ Q c21_b [] _
  replace hQ : ∀ e st', f21_Q r e st' → Q e st' := hQ
  refine zrSeq ?_
  refine zrReg ?_
  refine zlRun (n := 2) (j := 2) rfl (by kernel_rfl) ?_
  refine zlEnd (by kernel_rfl) ?_
  refine zkSeq ?_
  refine zrSeq ?_
  refine zrReg ?_
  refine zlRun (n := 2) (j := 2) rfl (by kernel_rfl) ?_
  refine zlBool (d := 5) (op := (.cmpI .eql (.tmp 4) (.const (.int .i64 0)))) (g := none) (j := 3) (decide (a1.Rune = 0)) rfl (by kernel_rfl) (by kernel_rfl) (by kernel_rfl) (fun hc => ?_) (fun hc => ?_)
  · replace hS := cond_t hc hS
    refine zlRun (n := 1) (j := 4) rfl (by kernel_rfl) ?_
    refine zlEnd (by kernel_rfl) ?_
    refine zkSeq ?_
    refine zrRet ?_
    refine zkNil ?_
    exact endQ hS hQ (fRet (by kernel_rfl) ((congrArg (fun s => outR s 0 c21.res) (by kernel_rfl : finSt c21.fin _ = f21_fin true)).trans (f21_out true)))
  · replace hS := cond_f hc hS
    refine zlRun (n := 1) (j := 4) rfl (by kernel_rfl) ?_
    refine zlEnd (by kernel_rfl) ?_
    refine zkSeq ?_
    refine zrRet ?_
    refine zkNil ?_
    exact endQ hS hQ (fRet (by kernel_rfl) ((congrArg (fun s => outR s 0 c21.res) (by kernel_rfl : finSt c21.fin _ = f21_fin false)).trans (f21_out false)))
/- slices.IndexFunc[[]farwriter/api.Cell,farwriter/api.Cell] -/
def f42_fin (p8 : Int) : St := ⟨(up (fun _ => .un) 4 (.d (.int .i64 p8))), (hB fun _ => 0)⟩
theorem f42_out (p8 : Int) : outR (f42_fin p8) 0 c42.res = some ((.d (.int .i64 p8)), []) := by
  kernel_rfl
def f42_Q (r : Int) (e : PX) (st : St) : Prop := DoneF c42 0 ((.d (.int .i64 r)), []) e st
def f42_l0_J (a1 : List GCell) (x : Int) : St := ⟨(up (up (up (up (fun _ => .un) 8 (.d (.int .i64 x))) 7 (.d (.int .i64 (a1.length : Int)))) 1 (.fn 21 [])) 0 (.d (.sl a1.length (e_GCell.cells a1)))), (hB fun _ => 0)⟩
def f42_l0_H (a1 : List GCell) (x : Int) (st : St) : Prop := keepSt [0, 1, 7, 8] [] [] st = f42_l0_J a1 x
def f42_l0_e0_J (a1 : List GCell) : St := ⟨(fun _ => .un), (hB fun _ => 0)⟩
def f42_l0_X (a1 : List GCell) (z : Unit ⊕ Int) (e : PX) (st : St) : Prop := (match z with | .inl z => e = .exit 0 ∧ st = f42_l0_e0_J a1 | .inr z => e = .ret ∧ finSt c42.fin st = f42_fin z)
def f42_l0_j2_J (a1 : List GCell) (p13 : Int) : St := ⟨(up (up (up (up (fun _ => .un) 8 (.d (.int .i64 p13))) 7 (.d (.int .i64 (a1.length : Int)))) 1 (.fn 21 [])) 0 (.d (.sl a1.length (e_GCell.cells a1)))), (hB fun _ => 0)⟩
noncomputable def f42_l0_j2 (a1 : List GCell) (p13 : Int) : Option (Int ⊕ (Unit ⊕ Int)) := ((idx a1 p13).bind fun z7 => ((f21 z7).bind fun z8 => (bif z8 then (some (.inr (.inr p13))) else (some (.inl (IntKind.i64.wrap (p13 + 1)))))))
theorem f42_l0_j2_ok {base : Orc} {d : Nat} (hd : 2 ≤ d) (a1 : List GCell) {r : Int ⊕ (Unit ⊕ Int)} {Q : PX → St → Prop} (hQ : ∀ e st', finL (f42_l0_H a1) (f42_l0_X a1) r e st' → Q e st') (p13 : Int) (hS : f42_l0_j2 a1 p13 = some r) {st : St} (he : keepSt [0, 1, 7, 8] [] [] st = f42_l0_j2_J a1 p13) : ZR (lev codes base (d - 1)) Q c42_1 [] st := by
  refine zrKeep he ?_
  unfold f42_l0_j2 at hS
  refine zrSeq ?_
  refine zrBlk ?_
  refine zrSeq ?_
  refine zrReg ?_
  refine zlRun (n := 2) (j := 2) rfl (by kernel_rfl) ?_
  refine zlEnd (by kernel_rfl) ?_
  refine zkSeq ?_
  refine zrSeq ?_
  refine zrReg ?_
  refine zlRun (n := 3) (j := 3) rfl (by kernel_rfl) ?_
  refine bindE hS (fun z7 hz7 hS => ?_)
  refine zlOp (d := some 14) (op := (.ixS 33 4 (.tmp 12) (.tmp 13))) (g := none) (v := (.rptr (e_GCell.enc z7 ++ (e_GCell.cells (a1.drop ((p13 : Int).toNat + 1)))))) (ups := []) (j := 4) rfl (by kernel_rfl) (by kernel_rfl) (ev_ixS e_GCell (kk := .i64) (xs := a1) (j := p13) (by kernel_rfl) (by kernel_rfl) hz7 rfl (by intro h; cases h)) ?_
  refine zlRun (n := 1) (j := 5) rfl (by kernel_rfl) ?_
  refine bindE hS (fun z8 hz8 hS => ?_)
  refine zlOp (d := some 16) (op := (.callv (.tmp 11) [(.tmp 15)])) (g := none) (v := (.d (.bool z8))) (ups := []) (j := 6) rfl (by kernel_rfl) (by kernel_rfl) (ev_callv (f := 21) (cs := []) (by kernel_rfl) (args := [(.agg ((.d (.int .i64 z7.Rune)) :: ((.d (.int .i64 z7.Pen.Flags)) :: ((.d (.int .i64 z7.Pen.Fore)) :: ((.d (.int .i64 z7.Pen.Back)) :: [])))))]) (l := [(.agg ((.d (.int .i64 z7.Rune)) :: ((.d (.int .i64 z7.Pen.Flags)) :: ((.d (.int .i64 z7.Pen.Fore)) :: ((.d (.int .i64 z7.Pen.Back)) :: [])))))]) (r := (.d (.bool z8))) (by kernel_rfl) (by kernel_rfl) (f21_ok base (d - 1) (dpt hd rfl) z7 z8 hz8) (by kernel_rfl) (by kernel_rfl) (by kernel_rfl)) ?_
  refine zlEnd (by kernel_rfl) ?_
  refine zkSeq ?_
  refine zrSplit 16 z8 (by kernel_rfl) (fun hc => ?_) (fun hc => ?_)
  · replace hS := cond_t hc hS
    refine zrCondT (by kernel_rfl) ?_
    refine zrSeq ?_
    refine zrReg ?_
    refine zlRun (n := 2) (j := 2) rfl (by kernel_rfl) ?_
    refine zlEnd (by kernel_rfl) ?_
    refine zkSeq ?_
    refine zrRet ?_
    refine zkBlkR ?_
    refine zkSeqR ?_
    refine zkNil ?_
    exact endQ hS hQ (finL_x (by intro h; cases h) (by show _ = _ ∧ _ = _; exact ⟨rfl, by kernel_rfl⟩))
  · replace hS := cond_f hc hS
    refine zrCondF (by kernel_rfl) ?_
    refine zrSkip ?_
    refine zkBlk ?_
    refine zkSeq ?_
    refine zrReg ?_
    refine zlRun (n := 2) (j := 2) rfl (by kernel_rfl) ?_
    refine zlEnd (by kernel_rfl) ?_
    refine zkNil ?_
    exact endQ hS hQ (finL_n (by show keepSt _ _ _ _ = _; kernel_rfl))
def f42_l0_j1_J (a1 : List GCell) (p11 : Int) (p12 : Bool) : St := ⟨(up (up (up (up (up (fun _ => .un) 9 (.d (.bool p12))) 8 (.d (.int .i64 p11))) 7 (.d (.int .i64 (a1.length : Int)))) 1 (.fn 21 [])) 0 (.d (.sl a1.length (e_GCell.cells a1)))), (hB fun _ => 0)⟩
noncomputable def f42_l0_j1 (a1 : List GCell) (p11 : Int) (p12 : Bool) : Option (Int ⊕ (Unit ⊕ Int)) := (bif p12 then (f42_l0_j2 a1 p11) else (some (.inr (.inl ()))))
theorem f42_l0_j1_ok {base : Orc} {d : Nat} (hd : 2 ≤ d) (a1 : List GCell) {r : Int ⊕ (Unit ⊕ Int)} {Q : PX → St → Prop} (hQ : ∀ e st', finL (f42_l0_H a1) (f42_l0_X a1) r e st' → Q e st') (p11 : Int) (p12 : Bool) (hS : f42_l0_j1 a1 p11 p12 = some r) {st : St} (he : keepSt [0, 1, 7, 8, 9] [] [] st = f42_l0_j1_J a1 p11 p12) : ZR (lev codes base (d - 1)) Q c42_2 [] st := by
  refine zrKeep he ?_
  unfold f42_l0_j1 at hS
  refine zrSeq ?_
  refine zrSplit 9 p12 (by kernel_rfl) (fun hc => ?_) (fun hc => ?_)
  · replace hS := cond_t hc hS
    refine zrCondT (by kernel_rfl) ?_
    refine zrSkip ?_
    refine zkSeq ?_
    exact f42_l0_j2_ok hd a1 hQ p11 hS (by kernel_rfl)
  · replace hS := cond_f hc hS
    refine zrCondF (by kernel_rfl) ?_
    refine zrKeep (J := f42_l0_e0_J a1) (by kernel_rfl) ?_
    refine zrExit ?_
    refine zkSeqX ?_
    refine zkNil ?_
    exact endQ hS hQ (finL_x (by intro h; cases h) (by show _ = _ ∧ _ = _; exact ⟨rfl, rfl⟩))
noncomputable def f42_l0 (a1 : List GCell) (x : Int) : Option (Int ⊕ (Unit ⊕ Int)) := (bif (decide (x < (a1.length : Int))) then (f42_l0_j1 a1 x true) else (f42_l0_j1 a1 x false))
theorem f42_l0_ok {base : Orc} {d : Nat} (hd : 2 ≤ d) (a1 : List GCell) {r : Int ⊕ (Unit ⊕ Int)} {Q : PX → St → Prop} (hQ : ∀ e st', finL (f42_l0_H a1) (f42_l0_X a1) r e st' → Q e st') {x : Int} (hS : f42_l0 a1 x = some r) {st : St} (he : f42_l0_H a1 x st) : ZR (lev codes base (d - 1)) Q c42_3 [] st := by
  refine zrKeep he ?_
  unfold f42_l0 at hS
  refine zrSeq ?_
  refine zrReg ?_
  refine zlBool (d := 9) (op := (.cmpI .lss (.tmp 8) (.tmp 7))) (g := none) (j := 1) (decide (x < (a1.length : Int))) rfl (by kernel_rfl) (by kernel_rfl) (by kernel_rfl) (fun hc => ?_) (fun hc => ?_)
  · replace hS := cond_t hc hS
    refine zlEnd (by kernel_rfl) ?_
    refine zkSeq ?_
    exact f42_l0_j1_ok hd a1 hQ x true hS (by kernel_rfl)
  · replace hS := cond_f hc hS
    refine zlEnd (by kernel_rfl) ?_
    refine zkSeq ?_
    exact f42_l0_j1_ok hd a1 hQ x false hS (by kernel_rfl)
noncomputable def f42 (a1 : List GCell) : Option (Int) := ((loopO (f42_l0 a1) 0).bind fun z9 => (Sum.elim (fun z10 => (some (-1))) (fun z11 => (some z11)) z9))
theorem f42_ok (base : Orc) (d : Nat) (hd : 2 ≤ d) (a1 : List GCell) (r : Int) (hS : f42 a1 = some r) : lev codes base d 42 [(.d (.sl a1.length (e_GCell.cells a1))), (.fn 21 [])] [] = some ((.d (.int .i64 r)), []) := by
  refine lev_go codes42 rfl rfl (Nat.le_trans (Nat.le_of_ble_eq_true rfl) hd) fun Q hQ => ?_
  unfold f42 at hS
  show ZR _ Q c42_b [] _
  replace hQ : ∀ e st', f42_Q r e st' → Q e st' := hQ
  refine zrSeq ?_
  refine zrReg ?_
  refine zlRun (n := 1) (j := 1) rfl (by kernel_rfl) ?_
  refine zlEnd (by kernel_rfl) ?_
  refine zkSeq ?_
  refine zrSeq ?_
  refine zrSeq ?_
  refine zrReg ?_
  refine zlRun (n := 3) (j := 3) rfl (by kernel_rfl) ?_
  refine zlEnd (by kernel_rfl) ?_
  refine zkSeq ?_
  refine zrBlk ?_
  refine bindE hS (fun z9 hz9 hS => ?_)
  refine zrLoop (f42_l0_H a1) (f42_l0_X a1) (fun x st r Q h0 hS hQ => f42_l0_ok hd a1 hQ hS h0) (x := 0) (z := z9) (by show keepSt _ _ _ _ = _; kernel_rfl) hz9 ?_
  rcases z9 with z10 | z11
  · replace hS := (show _ = _ from hS)
    simp only [Sum.elim_inl] at hS
    intro e st' _ hX
    obtain ⟨rfl, rfl⟩ : _ ∧ _ := hX
    refine zkBlkX ?_
    refine zkSeq ?_
    refine zrSeq ?_
    refine zrReg ?_
    refine zlRun (n := 1) (j := 1) rfl (by kernel_rfl) ?_
    refine zlEnd (by kernel_rfl) ?_
    refine zkSeq ?_
    refine zrRet ?_
    refine zkNil ?_
    exact endQ hS hQ (fRet (by kernel_rfl) ((congrArg (fun s => outR s 0 c42.res) (by kernel_rfl : finSt c42.fin _ = f42_fin (-1))).trans (f42_out (-1))))
  · simp only [Sum.elim_inr] at hS
    intro e st' _ hX
    obtain ⟨rfl, hX⟩ : _ ∧ _ := hX
    refine zkBlkR ?_
    refine zkSeqR ?_
    refine zkNil ?_
    exact endQ hS hQ (fRet (by kernel_rfl) ((congrArg (fun s => outR s 0 c42.res) hX).trans (f42_out z11)))
/- slices.ContainsFunc[[]farwriter/api.Cell,farwriter/api.Cell] -/
def f20_fin (p2 : Bool) : St := ⟨(up (fun _ => .un) 4 (.d (.bool p2))), (hB fun _ => 0)⟩
theorem f20_out (p2 : Bool) : outR (f20_fin p2) 0 c20.res = some ((.d (.bool p2)), []) := by
  kernel_rfl
def f20_Q (r : Bool) (e : PX) (st : St) : Prop := DoneF c20 0 ((.d (.bool r)), []) e st
noncomputable def f20 (a1 : List GCell) : Option (Bool) := ((f42 a1).bind fun z2 => (bif (decide (0 ≤ z2)) then (some true) else (some false)))
theorem f20_ok (base : Orc) (d : Nat) (hd : 3 ≤ d) (a1 : List GCell) (r : Bool) (hS : f20 a1 = some r) : lev codes base d 20 [(.d (.sl a1.length (e_GCell.cells a1))), (.fn 21 [])] [] = some ((.d (.bool r)), []) := by
  refine lev_go codes20 rfl rfl (Nat.le_trans (Nat.le_of_ble_eq_true rfl) hd) fun Q hQ => ?_
  unfold f20 at hS
  show ZR _ Q c20_b [] _
  replace hQ : ∀ e st', f20_Q r e st' → Q e st' := hQ
  refine zrSeq ?_
  refine zrReg ?_
  refine zlRun (n := 1) (j := 1) rfl (by kernel_rfl) ?_
  refine zlEnd (by kernel_rfl) ?_
  refine zkSeq ?_
  refine zrSeq ?_
  refine zrReg ?_
  refine zlRun (n := 2) (j := 2) rfl (by kernel_rfl) ?_
  refine bindE hS (fun z2 hz2 hS => ?_)
  refine zlOp (d := some 7) (op := (.call 42 [(.tmp 5), (.tmp 6)])) (g := none) (v := (.d (.int .i64 z2))) (ups := []) (j := 3) rfl (by kernel_rfl) (by kernel_rfl) (ev_call (args := [(.d (.sl a1.length (e_GCell.cells a1))), (.fn 21 [])]) (l := [(.d (.sl a1.length (e_GCell.cells a1))), (.fn 21 [])]) (r := (.d (.int .i64 z2))) (by kernel_rfl) (by kernel_rfl) (f42_ok base (d - 1) (dpt hd rfl) a1 z2 hz2) (by kernel_rfl) (by kernel_rfl) (by kernel_rfl)) ?_
  refine zlBool (d := 8) (op := (.cmpI .geq (.tmp 7) (.const (.int .i64 0)))) (g := none) (j := 4) (decide (0 ≤ z2)) rfl (by kernel_rfl) (by kernel_rfl) (by kernel_rfl) (fun hc => ?_) (fun hc => ?_)
  · replace hS := cond_t hc hS
    refine zlRun (n := 1) (j := 5) rfl (by kernel_rfl) ?_
    refine zlEnd (by kernel_rfl) ?_
    refine zkSeq ?_
    refine zrRet ?_
    refine zkNil ?_
    exact endQ hS hQ (fRet (by kernel_rfl) ((congrArg (fun s => outR s 0 c20.res) (by kernel_rfl : finSt c20.fin _ = f20_fin true)).trans (f20_out true)))
  · replace hS := cond_f hc hS
    refine zlRun (n := 1) (j := 5) rfl (by kernel_rfl) ?_
    refine zlEnd (by kernel_rfl) ?_
    refine zkSeq ?_
    refine zrRet ?_
    refine zkNil ?_
    exact endQ hS hQ (fRet (by kernel_rfl) ((congrArg (fun s => outR s 0 c20.res) (by kernel_rfl : finSt c20.fin _ = f20_fin false)).trans (f20_out false)))
/- farwriter/grid.span -/
def f34_fin (p6 : Bool) : St := ⟨(up (fun _ => .un) 8 (.d (.bool p6))), (hB fun _ => 0)⟩
theorem f34_out (p6 : Bool) : outR (f34_fin p6) 0 c34.res = some ((.d (.bool p6)), []) := by
  kernel_rfl
def f34_Q (r : Bool) (e : PX) (st : St) : Prop := DoneF c34 0 ((.d (.bool r)), []) e st
noncomputable def f34 (a1 : GGrid) (a2 : Int) (a3 : Int) (a4 : Int) : Option (Bool) := (bif (decide (0 ≤ a2)) then (bif (decide (a2 < a1.High)) then (bif (decide (0 ≤ a3)) then (bif (decide (a3 ≤ a4)) then (bif (decide (a4 ≤ a1.Wide)) then (some true) else (some false)) else (some false)) else (some false)) else (some false)) else (some false))
theorem f34_ok (base : Orc) (d : Nat) (hd : 1 ≤ d) (a1 : GGrid) (a2 : Int) (a3 : Int) (a4 : Int) (r : Bool) (hS : f34 a1 a2 a3 a4 = some r) : lev codes base d 34 [(.agg ((.d (.int .i64 a1.Wide)) :: ((.d (.int .i64 a1.High)) :: ((.d (.sl a1.Cells.length (e_GCell.cells a1.Cells))) :: [])))), (.d (.int .i64 a2)), (.d (.int .i64 a3)), (.d (.int .i64 a4))] [] = some ((.d (.bool r)), []) := by
  refine lev_go codes34 rfl rfl (Nat.le_trans (Nat.le_of_ble_eq_true rfl) hd) fun Q hQ => ?_
  unfold f34 at hS
  show ZR _ Q c34_b [] _
  replace hQ : ∀ e st', f34_Q r e st' → Q e st' := hQ
  refine zrSeq ?_
  refine zrReg ?_
  refine zlRun (n := 2) (j := 2) rfl (by kernel_rfl) ?_
  refine zlEnd (by kernel_rfl) ?_
  refine zkSeq ?_
  refine zrSeq ?_
  refine zrReg ?_
  refine zlRun (n := 1) (j := 1) rfl (by kernel_rfl) ?_
  refine zlBool (d := 10) (op := (.cmpI .geq (.tmp 9) (.const (.int .i64 0)))) (g := none) (j := 2) (decide (0 ≤ a2)) rfl (by kernel_rfl) (by kernel_rfl) (by kernel_rfl) (fun hc => ?_) (fun hc => ?_)
  · replace hS := cond_t hc hS
    refine zlRun (n := 4) (j := 6) rfl (by kernel_rfl) ?_
    refine zlBool (d := 15) (op := (.cmpI .lss (.tmp 12) (.tmp 14))) (g := (some (11, true))) (j := 7) (decide (a2 < a1.High)) rfl (by kernel_rfl) (by kernel_rfl) (by kernel_rfl) (fun hc => ?_) (fun hc => ?_)
    · replace hS := cond_t hc hS
      refine zlRun (n := 3) (j := 10) rfl (by kernel_rfl) ?_
      refine zlBool (d := 19) (op := (.cmpI .geq (.tmp 18) (.const (.int .i64 0)))) (g := (some (17, true))) (j := 11) (decide (0 ≤ a3)) rfl (by kernel_rfl) (by kernel_rfl) (by kernel_rfl) (fun hc => ?_) (fun hc => ?_)
      · replace hS := cond_t hc hS
        refine zlRun (n := 4) (j := 15) rfl (by kernel_rfl) ?_
        refine zlBool (d := 24) (op := (.cmpI .leq (.tmp 22) (.tmp 23))) (g := (some (21, true))) (j := 16) (decide (a3 ≤ a4)) rfl (by kernel_rfl) (by kernel_rfl) (by kernel_rfl) (fun hc => ?_) (fun hc => ?_)
        · replace hS := cond_t hc hS
          refine zlRun (n := 5) (j := 21) rfl (by kernel_rfl) ?_
          refine zlBool (d := 30) (op := (.cmpI .leq (.tmp 27) (.tmp 29))) (g := (some (26, true))) (j := 22) (decide (a4 ≤ a1.Wide)) rfl (by kernel_rfl) (by kernel_rfl) (by kernel_rfl) (fun hc => ?_) (fun hc => ?_)
          · replace hS := cond_t hc hS
            refine zlRun (n := 2) (j := 24) rfl (by kernel_rfl) ?_
            refine zlEnd (by kernel_rfl) ?_
            refine zkSeq ?_
            refine zrRet ?_
            refine zkNil ?_
            exact endQ hS hQ (fRet (by kernel_rfl) ((congrArg (fun s => outR s 0 c34.res) (by kernel_rfl : finSt c34.fin _ = f34_fin true)).trans (f34_out true)))
          · replace hS := cond_f hc hS
            refine zlRun (n := 2) (j := 24) rfl (by kernel_rfl) ?_
            refine zlEnd (by kernel_rfl) ?_
            refine zkSeq ?_
            refine zrRet ?_
            refine zkNil ?_
            exact endQ hS hQ (fRet (by kernel_rfl) ((congrArg (fun s => outR s 0 c34.res) (by kernel_rfl : finSt c34.fin _ = f34_fin false)).trans (f34_out false)))
        · replace hS := cond_f hc hS
          refine zlRun (n := 8) (j := 24) rfl (by kernel_rfl) ?_
          refine zlEnd (by kernel_rfl) ?_
          refine zkSeq ?_
          refine zrRet ?_
          refine zkNil ?_
          exact endQ hS hQ (fRet (by kernel_rfl) ((congrArg (fun s => outR s 0 c34.res) (by kernel_rfl : finSt c34.fin _ = f34_fin false)).trans (f34_out false)))
      · replace hS := cond_f hc hS
        refine zlRun (n := 13) (j := 24) rfl (by kernel_rfl) ?_
        refine zlEnd (by kernel_rfl) ?_
        refine zkSeq ?_
        refine zrRet ?_
        refine zkNil ?_
        exact endQ hS hQ (fRet (by kernel_rfl) ((congrArg (fun s => outR s 0 c34.res) (by kernel_rfl : finSt c34.fin _ = f34_fin false)).trans (f34_out false)))
    · replace hS := cond_f hc hS
      refine zlRun (n := 17) (j := 24) rfl (by kernel_rfl) ?_
      refine zlEnd (by kernel_rfl) ?_
      refine zkSeq ?_
      refine zrRet ?_
      refine zkNil ?_
      exact endQ hS hQ (fRet (by kernel_rfl) ((congrArg (fun s => outR s 0 c34.res) (by kernel_rfl : finSt c34.fin _ = f34_fin false)).trans (f34_out false)))
  · replace hS := cond_f hc hS
    refine zlRun (n := 22) (j := 24) rfl (by kernel_rfl) ?_
    refine zlEnd (by kernel_rfl) ?_
    refine zkSeq ?_
    refine zrRet ?_
    refine zkNil ?_
    exact endQ hS hQ (fRet (by kernel_rfl) ((congrArg (fun s => outR s 0 c34.res) (by kernel_rfl : finSt c34.fin _ = f34_fin false)).trans (f34_out false)))
/- farwriter/grid.far -/
def f40_fin (p3 : Bool) : St := ⟨(up (fun _ => .un) 2 (.d (.bool p3))), (hB fun _ => 0)⟩
theorem f40_out (p3 : Bool) : outR (f40_fin p3) 0 c40.res = some ((.d (.bool p3)), []) := by
  kernel_rfl
def f40_Q (r : Bool) (e : PX) (st : St) : Prop := DoneF c40 0 ((.d (.bool r)), []) e st
noncomputable def f40 (a1 : Int) : Option (Bool) := (bif (decide ((-16383) ≤ a1)) then (bif (decide (a1 ≤ 16383)) then (some true) else (some false)) else (some false))
theorem f40_ok (base : Orc) (d : Nat) (hd : 1 ≤ d) (a1 : Int) (r : Bool) (hS : f40 a1 = some r) : lev codes base d 40 [(.d (.int .i64 a1))] [] = some ((.d (.bool r)), []) := by
  refine lev_go codes40 rfl rfl (Nat.le_trans (Nat.le_of_ble_eq_true rfl) hd) fun Q hQ => ?_
  unfold f40 at hS
  show ZR _ Q c40_b [] _
  replace hQ : ∀ e st', f40_Q r e st' → Q e st' := hQ
  refine zrSeq ?_
  refine zrReg ?_
  refine zlRun (n := 1) (j := 1) rfl (by kernel_rfl) ?_
  refine zlEnd (by kernel_rfl) ?_
  refine zkSeq ?_
  refine zrSeq ?_
  refine zrReg ?_
  refine zlRun (n := 1) (j := 1) rfl (by kernel_rfl) ?_
  refine zlBool (d := 4) (op := (.cmpI .geq (.tmp 3) (.const (.int .i64 (-16383))))) (g := none) (j := 2) (decide ((-16383) ≤ a1)) rfl (by kernel_rfl) (by kernel_rfl) (by kernel_rfl) (fun hc => ?_) (fun hc => ?_)
  · replace hS := cond_t hc hS
    refine zlRun (n := 2) (j := 4) rfl (by kernel_rfl) ?_
    refine zlBool (d := 7) (op := (.cmpI .leq (.tmp 6) (.const (.int .i64 16383)))) (g := (some (5, true))) (j := 5) (decide (a1 ≤ 16383)) rfl (by kernel_rfl) (by kernel_rfl) (by kernel_rfl) (fun hc => ?_) (fun hc => ?_)
    · replace hS := cond_t hc hS
      refine zlRun (n := 2) (j := 7) rfl (by kernel_rfl) ?_
      refine zlEnd (by kernel_rfl) ?_
      refine zkSeq ?_
      refine zrRet ?_
      refine zkNil ?_
      exact endQ hS hQ (fRet (by kernel_rfl) ((congrArg (fun s => outR s 0 c40.res) (by kernel_rfl : finSt c40.fin _ = f40_fin true)).trans (f40_out true)))
    · replace hS := cond_f hc hS
      refine zlRun (n := 2) (j := 7) rfl (by kernel_rfl) ?_
      refine zlEnd (by kernel_rfl) ?_
      refine zkSeq ?_
      refine zrRet ?_
      refine zkNil ?_
      exact endQ hS hQ (fRet (by kernel_rfl) ((congrArg (fun s => outR s 0 c40.res) (by kernel_rfl : finSt c40.fin _ = f40_fin false)).trans (f40_out false)))
  · replace hS := cond_f hc hS
    refine zlRun (n := 5) (j := 7) rfl (by kernel_rfl) ?_
    refine zlEnd (by kernel_rfl) ?_
    refine zkSeq ?_
    refine zrRet ?_
    refine zkNil ?_
    exact endQ hS hQ (fRet (by kernel_rfl) ((congrArg (fun s => outR s 0 c40.res) (by kernel_rfl : finSt c40.fin _ = f40_fin false)).trans (f40_out false)))
/- farwriter/grid.ShiftIn$1 -/
def f60_fin (p1 : GCell) : St := ⟨(up (fun _ => .un) 1 (.r (.ptr 16 0 0))), (up (hB fun _ => 0) 16 ⟨0, some (.box ((.d (.int .i64 p1.Rune)) :: ((.d (.int .i64 p1.Pen.Flags)) :: ((.d (.int .i64 p1.Pen.Fore)) :: ((.d (.int .i64 p1.Pen.Back)) :: [])))))⟩)⟩
theorem f60_out (p1 : GCell) : outR (f60_fin p1) 0 c60.res = some ((.agg ((.d (.int .i64 p1.Rune)) :: ((.d (.int .i64 p1.Pen.Flags)) :: ((.d (.int .i64 p1.Pen.Fore)) :: ((.d (.int .i64 p1.Pen.Back)) :: []))))), []) := by
  kernel_rfl
def f60_Q (r : GCell) (e : PX) (st : St) : Prop := DoneF c60 0 ((.agg ((.d (.int .i64 r.Rune)) :: ((.d (.int .i64 r.Pen.Flags)) :: ((.d (.int .i64 r.Pen.Fore)) :: ((.d (.int .i64 r.Pen.Back)) :: []))))), []) e st
noncomputable def f60 (a1 : GPen) (a2 : List PD) : Option (GCell) := ((f54 a1).bind fun z2 => (some z2))
theorem f60_ok (base : Orc) (d : Nat) (hd : 2 ≤ d) (a1 : GPen) (a2 : List PD) (r : GCell) (hS : f60 a1 a2 = some r) : lev codes base d 60 [(.rptr (e_GPen.enc a1 ++ a2))] [] = some ((.agg ((.d (.int .i64 r.Rune)) :: ((.d (.int .i64 r.Pen.Flags)) :: ((.d (.int .i64 r.Pen.Fore)) :: ((.d (.int .i64 r.Pen.Back)) :: []))))), []) := by
  refine lev_go codes60 rfl rfl (Nat.le_trans (Nat.le_of_ble_eq_true rfl) hd) fun Q hQ => ?_
  unfold f60 at hS
  show ZR _ Q c60_b [] _
  replace hQ : ∀ e st', f60_Q r e st' → Q e st' := hQ
  refine zrSeq ?_
  refine zrReg ?_
  refine zlRun (n := 1) (j := 1) rfl (by kernel_rfl) ?_
  refine zlEnd (by kernel_rfl) ?_
  refine zkSeq ?_
  refine zrSeq ?_
  refine zrReg ?_
  refine zlRun (n := 1) (j := 1) rfl (by kernel_rfl) ?_
  refine bindE hS (fun z2 hz2 hS => ?_)
  refine zlOp (d := some 3) (op := (.call 54 [(.tmp 2)])) (g := none) (v := (.agg ((.d (.int .i64 z2.Rune)) :: ((.d (.int .i64 z2.Pen.Flags)) :: ((.d (.int .i64 z2.Pen.Fore)) :: ((.d (.int .i64 z2.Pen.Back)) :: [])))))) (ups := []) (j := 2) rfl (by kernel_rfl) (by kernel_rfl) (ev_call (args := [(.agg ((.d (.int .i64 a1.Flags)) :: ((.d (.int .i64 a1.Fore)) :: ((.d (.int .i64 a1.Back)) :: []))))]) (l := [(.agg ((.d (.int .i64 a1.Flags)) :: ((.d (.int .i64 a1.Fore)) :: ((.d (.int .i64 a1.Back)) :: []))))]) (r := (.agg ((.d (.int .i64 z2.Rune)) :: ((.d (.int .i64 z2.Pen.Flags)) :: ((.d (.int .i64 z2.Pen.Fore)) :: ((.d (.int .i64 z2.Pen.Back)) :: [])))))) (by kernel_rfl) (by kernel_rfl) (f54_ok base (d - 1) (dpt hd rfl) a1 z2 hz2) (by kernel_rfl) (by kernel_rfl) (by kernel_rfl)) ?_
  refine zlRun (n := 1) (j := 3) rfl (by kernel_rfl) ?_
  refine zlEnd (by kernel_rfl) ?_
  refine zkSeq ?_
  refine zrRet ?_
  refine zkNil ?_
  exact endQ hS hQ (fRet (by kernel_rfl) ((congrArg (fun s => outR s 0 c60.res) (by kernel_rfl : finSt c60.fin _ = f60_fin z2)).trans (f60_out z2)))
/- farwriter/grid.move[farwriter/api.Cell] -/
def f59_fin (p41 : List GCell) : St := ⟨(up (fun _ => .un) 6 (.r (.msl 64 0 0 p41.length))), (up (hB fun _ => 0) 64 ⟨0, some (.own 33 4 (e_GCell.cells p41))⟩)⟩
theorem f59_out (p41 : List GCell) : outR (f59_fin p41) 0 c59.res = some ((.r (.own 0 33 4 p41.length (e_GCell.cells p41))), []) := by
  exact out_of (ids := []) (ids' := [64]) (l := [(.r (.msl 64 0 0 p41.length))]) (by kernel_rfl) (by kernel_rfl) (o_own e_GCell (e := 33) (k := 4) (xs := p41) (by kernel_rfl) rfl rfl rfl rfl)
def f59_Q (r : (List GCell)) (e : PX) (st : St) : Prop := DoneF c59 0 ((.r (.own 0 33 4 r.length (e_GCell.cells r))), []) e st
def f59_l0_J (a1 : List GCell) (a2 : Int) (a3 : GPen) (a4 : List PD) (x : (List GCell) × Int) : St := ⟨(up (up (up (up (up (up (fun _ => .un) 12 (.d (.int .i64 x.2))) 11 (.d (.int .i64 (a1.length : Int)))) 7 (.r (.msl 64 0 0 x.1.length))) 2 (.fn 60 [(.rptr (e_GPen.enc a3 ++ a4))])) 1 (.d (.int .i64 a2))) 0 (.d (.sl a1.length (e_GCell.cells a1)))), (up (hB fun _ => 0) 64 ⟨0, some (.own 33 4 (e_GCell.cells x.1))⟩)⟩
def f59_l0_H (a1 : List GCell) (a2 : Int) (a3 : GPen) (a4 : List PD) (x : (List GCell) × Int) (st : St) : Prop := keepSt [0, 1, 2, 7, 11, 12] [(64, .id 64)] [] st = f59_l0_J a1 a2 a3 a4 x
def f59_l0_e0_J (a1 : List GCell) (a2 : Int) (a3 : GPen) (a4 : List PD) (p40 : List GCell) : St := ⟨(up (fun _ => .un) 7 (.r (.msl 64 0 0 p40.length))), (up (hB fun _ => 0) 64 ⟨0, some (.own 33 4 (e_GCell.cells p40))⟩)⟩
def f59_l0_X (a1 : List GCell) (a2 : Int) (a3 : GPen) (a4 : List PD) (z : ((List GCell))) (e : PX) (st : St) : Prop := e = .exit 0 ∧ st = f59_l0_e0_J a1 a2 a3 a4 z
def f59_l0_j3_J (a1 : List GCell) (a2 : Int) (a3 : GPen) (a4 : List PD) (p52 : List GCell) (p53 : Int) : St := ⟨(up (up (up (up (up (up (fun _ => .un) 12 (.d (.int .i64 p53))) 11 (.d (.int .i64 (a1.length : Int)))) 7 (.r (.msl 64 0 0 p52.length))) 2 (.fn 60 [(.rptr (e_GPen.enc a3 ++ a4))])) 1 (.d (.int .i64 a2))) 0 (.d (.sl a1.length (e_GCell.cells a1)))), (up (hB fun _ => 0) 64 ⟨0, some (.own 33 4 (e_GCell.cells p52))⟩)⟩
noncomputable def f59_l0_j3 (a1 : List GCell) (a2 : Int) (a3 : GPen) (a4 : List PD) (p52 : List GCell) (p53 : Int) : Option (((List GCell) × Int) ⊕ (((List GCell)))) := ((f60 a3 a4).bind fun z13 => ((app? 32 p52 ([z13] : List GCell)).bind fun z14 => (some (.inl (z14, (IntKind.i64.wrap (p53 + 1)))))))
theorem f59_l0_j3_ok {base : Orc} {d : Nat} (hd : 3 ≤ d) (a1 : List GCell) (a2 : Int) (a3 : GPen) (a4 : List PD) {r : ((List GCell) × Int) ⊕ (((List GCell)))} {Q : PX → St → Prop} (hQ : ∀ e st', finL (f59_l0_H a1 a2 a3 a4) (f59_l0_X a1 a2 a3 a4) r e st' → Q e st') (p52 : List GCell) (p53 : Int) (hS : f59_l0_j3 a1 a2 a3 a4 p52 p53 = some r) {st : St} (he : keepSt [0, 1, 2, 7, 11, 12] [(64, .id 64)] [] st = f59_l0_j3_J a1 a2 a3 a4 p52 p53) : ZR (lev codes base (d - 1)) Q c59_1 [.blk 1, .seq c59_2] st := by
  refine zrKeep he ?_
  unfold f59_l0_j3 at hS
  refine zrReg ?_
  refine zlRun (n := 2) (j := 2) rfl (by kernel_rfl) ?_
  refine bindE hS (fun z13 hz13 hS => ?_)
  refine zlOp (d := some 35) (op := (.callv (.tmp 34) [])) (g := none) (v := (.agg ((.d (.int .i64 z13.Rune)) :: ((.d (.int .i64 z13.Pen.Flags)) :: ((.d (.int .i64 z13.Pen.Fore)) :: ((.d (.int .i64 z13.Pen.Back)) :: [])))))) (ups := []) (j := 3) rfl (by kernel_rfl) (by kernel_rfl) (ev_callv (f := 60) (cs := [(.rptr (e_GPen.enc a3 ++ a4))]) (by kernel_rfl) (args := [(.rptr (e_GPen.enc a3 ++ a4))]) (l := [(.rptr (e_GPen.enc a3 ++ a4))]) (r := (.agg ((.d (.int .i64 z13.Rune)) :: ((.d (.int .i64 z13.Pen.Flags)) :: ((.d (.int .i64 z13.Pen.Fore)) :: ((.d (.int .i64 z13.Pen.Back)) :: [])))))) (by kernel_rfl) (by kernel_rfl) (f60_ok base (d - 1) (dpt hd rfl) a3 a4 z13 hz13) (by kernel_rfl) (by kernel_rfl) (by kernel_rfl)) ?_
  refine zlRun (n := 1) (j := 4) rfl (by kernel_rfl) ?_
  refine bindE hS (fun z14 hz14 hS => ?_)
  refine zlOp (d := some 37) (op := (.app 33 4 32 (.tmp 33) (.tmp 36))) (g := none) (v := (.r (.msl 64 1 0 z14.length))) (ups := [(64, ⟨1, some (.own 33 4 (e_GCell.cells z14))⟩)]) (j := 5) rfl (by kernel_rfl) (by kernel_rfl) (ev_app e_GCell (b := 64) (g := 0) (n := p52.length) (xs := p52) (ys := [z13]) ((congrArg (asL _) (by kernel_rfl : ρof _ (.tmp 36) = (.r (.msl 296 1 0 (([z13] : List GCell).length))))).trans (as_whole e_GCell (e := 33) (k := 4) (xs := [z13]) (by kernel_rfl) rfl rfl)) rfl (by kernel_rfl) rfl (by kernel_rfl) rfl hz14) ?_
  refine zlRun (n := 1) (j := 6) rfl (by kernel_rfl) ?_
  refine zlEnd (by kernel_rfl) ?_
  refine zkBlk ?_
  refine zkSeq ?_
  refine zrReg ?_
  refine zlRun (n := 2) (j := 2) rfl (by kernel_rfl) ?_
  refine zlEnd (by kernel_rfl) ?_
  refine zkNil ?_
  exact endQ hS hQ (finL_n (by show keepSt _ _ _ _ = _; kernel_rfl))
def f59_l0_j2_J (a1 : List GCell) (a2 : Int) (a3 : GPen) (a4 : List PD) (p48 : List GCell) (p49 : Int) : St := ⟨(up (up (up (up (up (up (fun _ => .un) 12 (.d (.int .i64 p49))) 11 (.d (.int .i64 (a1.length : Int)))) 7 (.r (.msl 64 0 0 p48.length))) 2 (.fn 60 [(.rptr (e_GPen.enc a3 ++ a4))])) 1 (.d (.int .i64 a2))) 0 (.d (.sl a1.length (e_GCell.cells a1)))), (up (hB fun _ => 0) 64 ⟨0, some (.own 33 4 (e_GCell.cells p48))⟩)⟩
noncomputable def f59_l0_j2 (a1 : List GCell) (a2 : Int) (a3 : GPen) (a4 : List PD) (p48 : List GCell) (p49 : Int) : Option (((List GCell) × Int) ⊕ (((List GCell)))) := (bif (decide (0 ≤ (IntKind.i64.wrap (p49 - a2)))) then (bif (decide ((IntKind.i64.wrap (p49 - a2)) < (a1.length : Int))) then ((idx a1 (IntKind.i64.wrap (p49 - a2))).bind fun z15 => ((app? 32 p48 ([z15] : List GCell)).bind fun z16 => (some (.inl (z16, (IntKind.i64.wrap (p49 + 1))))))) else (f59_l0_j3 a1 a2 a3 a4 p48 p49)) else (f59_l0_j3 a1 a2 a3 a4 p48 p49))
theorem f59_l0_j2_ok {base : Orc} {d : Nat} (hd : 3 ≤ d) (a1 : List GCell) (a2 : Int) (a3 : GPen) (a4 : List PD) {r : ((List GCell) × Int) ⊕ (((List GCell)))} {Q : PX → St → Prop} (hQ : ∀ e st', finL (f59_l0_H a1 a2 a3 a4) (f59_l0_X a1 a2 a3 a4) r e st' → Q e st') (p48 : List GCell) (p49 : Int) (hS : f59_l0_j2 a1 a2 a3 a4 p48 p49 = some r) {st : St} (he : keepSt [0, 1, 2, 7, 11, 12] [(64, .id 64)] [] st = f59_l0_j2_J a1 a2 a3 a4 p48 p49) : ZR (lev codes base (d - 1)) Q c59_3 [] st := by
  refine zrKeep he ?_
  unfold f59_l0_j2 at hS
  refine zrSeq ?_
  refine zrBlk ?_
  refine zrSeq ?_
  refine zrReg ?_
  refine zlRun (n := 2) (j := 2) rfl (by kernel_rfl) ?_
  refine zlEnd (by kernel_rfl) ?_
  refine zkSeq ?_
  refine zrSeq ?_
  refine zrReg ?_
  refine zlRun (n := 4) (j := 4) rfl (by kernel_rfl) ?_
  refine zlEnd (by kernel_rfl) ?_
  refine zkSeq ?_
  refine zrSeq ?_
  refine zrReg ?_
  refine zlRun (n := 1) (j := 1) rfl (by kernel_rfl) ?_
  refine zlBool (d := 19) (op := (.cmpI .geq (.tmp 18) (.const (.int .i64 0)))) (g := none) (j := 2) (decide (0 ≤ (IntKind.i64.wrap (p49 - a2)))) rfl (by kernel_rfl) (by kernel_rfl) (by kernel_rfl) (fun hc => ?_) (fun hc => ?_)
  · replace hS := cond_t hc hS
    refine zlRun (n := 4) (j := 6) rfl (by kernel_rfl) ?_
    refine zlBool (d := 24) (op := (.cmpI .lss (.tmp 21) (.tmp 23))) (g := (some (20, true))) (j := 7) (decide ((IntKind.i64.wrap (p49 - a2)) < (a1.length : Int))) rfl (by kernel_rfl) (by kernel_rfl) (by kernel_rfl) (fun hc => ?_) (fun hc => ?_)
    · replace hS := cond_t hc hS
      refine zlRun (n := 1) (j := 8) rfl (by kernel_rfl) ?_
      refine zlEnd (by kernel_rfl) ?_
      refine zkSeq ?_
      refine zrCondT (by kernel_rfl) ?_
      refine zrReg ?_
      refine zlRun (n := 3) (j := 3) rfl (by kernel_rfl) ?_
      refine bindE hS (fun z15 hz15 hS => ?_)
      refine zlOp (d := some 29) (op := (.ixS 33 4 (.tmp 27) (.tmp 28))) (g := none) (v := (.rptr (e_GCell.enc z15 ++ (e_GCell.cells (a1.drop (((IntKind.i64.wrap (p49 - a2)) : Int).toNat + 1)))))) (ups := []) (j := 4) rfl (by kernel_rfl) (by kernel_rfl) (ev_ixS e_GCell (kk := .i64) (xs := a1) (j := (IntKind.i64.wrap (p49 - a2))) (by kernel_rfl) (by kernel_rfl) hz15 rfl (by intro h; cases h)) ?_
      refine zlRun (n := 2) (j := 6) rfl (by kernel_rfl) ?_
      refine bindE hS (fun z16 hz16 hS => ?_)
      refine zlOp (d := some 32) (op := (.app 33 4 32 (.tmp 26) (.tmp 31))) (g := none) (v := (.r (.msl 64 1 0 z16.length))) (ups := [(64, ⟨1, some (.own 33 4 (e_GCell.cells z16))⟩)]) (j := 7) rfl (by kernel_rfl) (by kernel_rfl) (ev_app e_GCell (b := 64) (g := 0) (n := p48.length) (xs := p48) (ys := [z15]) ((congrArg (asL _) (by kernel_rfl : ρof _ (.tmp 31) = (.r (.msl 256 1 0 (([z15] : List GCell).length))))).trans (as_whole e_GCell (e := 33) (k := 4) (xs := [z15]) (by kernel_rfl) rfl rfl)) rfl (by kernel_rfl) rfl (by kernel_rfl) rfl hz16) ?_
      refine zlRun (n := 1) (j := 8) rfl (by kernel_rfl) ?_
      refine zlEnd (by kernel_rfl) ?_
      refine zkBlk ?_
      refine zkSeq ?_
      refine zrReg ?_
      refine zlRun (n := 2) (j := 2) rfl (by kernel_rfl) ?_
      refine zlEnd (by kernel_rfl) ?_
      refine zkNil ?_
      exact endQ hS hQ (finL_n (by show keepSt _ _ _ _ = _; kernel_rfl))
    · replace hS := cond_f hc hS
      refine zlRun (n := 1) (j := 8) rfl (by kernel_rfl) ?_
      refine zlEnd (by kernel_rfl) ?_
      refine zkSeq ?_
      refine zrCondF (by kernel_rfl) ?_
      exact f59_l0_j3_ok hd a1 a2 a3 a4 hQ p48 p49 hS (by kernel_rfl)
  · replace hS := cond_f hc hS
    refine zlRun (n := 6) (j := 8) rfl (by kernel_rfl) ?_
    refine zlEnd (by kernel_rfl) ?_
    refine zkSeq ?_
    refine zrCondF (by kernel_rfl) ?_
    exact f59_l0_j3_ok hd a1 a2 a3 a4 hQ p48 p49 hS (by kernel_rfl)
def f59_l0_j1_J (a1 : List GCell) (a2 : Int) (a3 : GPen) (a4 : List PD) (p45 : List GCell) (p46 : Int) (p47 : Bool) : St := ⟨(up (up (up (up (up (up (up (fun _ => .un) 13 (.d (.bool p47))) 12 (.d (.int .i64 p46))) 11 (.d (.int .i64 (a1.length : Int)))) 7 (.r (.msl 64 0 0 p45.length))) 2 (.fn 60 [(.rptr (e_GPen.enc a3 ++ a4))])) 1 (.d (.int .i64 a2))) 0 (.d (.sl a1.length (e_GCell.cells a1)))), (up (hB fun _ => 0) 64 ⟨0, some (.own 33 4 (e_GCell.cells p45))⟩)⟩
noncomputable def f59_l0_j1 (a1 : List GCell) (a2 : Int) (a3 : GPen) (a4 : List PD) (p45 : List GCell) (p46 : Int) (p47 : Bool) : Option (((List GCell) × Int) ⊕ (((List GCell)))) := (bif p47 then (f59_l0_j2 a1 a2 a3 a4 p45 p46) else (some (.inr p45)))
theorem f59_l0_j1_ok {base : Orc} {d : Nat} (hd : 3 ≤ d) (a1 : List GCell) (a2 : Int) (a3 : GPen) (a4 : List PD) {r : ((List GCell) × Int) ⊕ (((List GCell)))} {Q : PX → St → Prop} (hQ : ∀ e st', finL (f59_l0_H a1 a2 a3 a4) (f59_l0_X a1 a2 a3 a4) r e st' → Q e st') (p45 : List GCell) (p46 : Int) (p47 : Bool) (hS : f59_l0_j1 a1 a2 a3 a4 p45 p46 p47 = some r) {st : St} (he : keepSt [0, 1, 2, 7, 11, 12, 13] [(64, .id 64)] [] st = f59_l0_j1_J a1 a2 a3 a4 p45 p46 p47) : ZR (lev codes base (d - 1)) Q c59_4 [] st := by
  refine zrKeep he ?_
  unfold f59_l0_j1 at hS
  refine zrSeq ?_
  refine zrSplit 13 p47 (by kernel_rfl) (fun hc => ?_) (fun hc => ?_)
  · replace hS := cond_t hc hS
    refine zrCondT (by kernel_rfl) ?_
    refine zrSkip ?_
    refine zkSeq ?_
    exact f59_l0_j2_ok hd a1 a2 a3 a4 hQ p45 p46 hS (by kernel_rfl)
  · replace hS := cond_f hc hS
    refine zrCondF (by kernel_rfl) ?_
    refine zrKeep (J := f59_l0_e0_J a1 a2 a3 a4 p45) (by kernel_rfl) ?_
    refine zrExit ?_
    refine zkSeqX ?_
    refine zkNil ?_
    exact endQ hS hQ (finL_x (by intro h; cases h) (by show _ = _ ∧ _ = _; exact ⟨rfl, rfl⟩))
noncomputable def f59_l0 (a1 : List GCell) (a2 : Int) (a3 : GPen) (a4 : List PD) (x : (List GCell) × Int) : Option (((List GCell) × Int) ⊕ (((List GCell)))) := (bif (decide (x.2 < (a1.length : Int))) then (f59_l0_j1 a1 a2 a3 a4 x.1 x.2 true) else (f59_l0_j1 a1 a2 a3 a4 x.1 x.2 false))
theorem f59_l0_ok {base : Orc} {d : Nat} (hd : 3 ≤ d) (a1 : List GCell) (a2 : Int) (a3 : GPen) (a4 : List PD) {r : ((List GCell) × Int) ⊕ (((List GCell)))} {Q : PX → St → Prop} (hQ : ∀ e st', finL (f59_l0_H a1 a2 a3 a4) (f59_l0_X a1 a2 a3 a4) r e st' → Q e st') {x : (List GCell) × Int} (hS : f59_l0 a1 a2 a3 a4 x = some r) {st : St} (he : f59_l0_H a1 a2 a3 a4 x st) : ZR (lev codes base (d - 1)) Q c59_5 [] st := by
  refine zrKeep he ?_
  unfold f59_l0 at hS
  refine zrSeq ?_
  refine zrReg ?_
  refine zlBool (d := 13) (op := (.cmpI .lss (.tmp 12) (.tmp 11))) (g := none) (j := 1) (decide (x.2 < (a1.length : Int))) rfl (by kernel_rfl) (by kernel_rfl) (by kernel_rfl) (fun hc => ?_) (fun hc => ?_)
  · replace hS := cond_t hc hS
    refine zlEnd (by kernel_rfl) ?_
    refine zkSeq ?_
    exact f59_l0_j1_ok hd a1 a2 a3 a4 hQ x.1 x.2 true hS (by kernel_rfl)
  · replace hS := cond_f hc hS
    refine zlEnd (by kernel_rfl) ?_
    refine zkSeq ?_
    exact f59_l0_j1_ok hd a1 a2 a3 a4 hQ x.1 x.2 false hS (by kernel_rfl)
noncomputable def f59 (a1 : List GCell) (a2 : Int) (a3 : GPen) (a4 : List PD) : Option ((List GCell)) := ((loopO (f59_l0 a1 a2 a3 a4) ([], 0)).bind fun z17 => (some z17))
theorem f59_ok (base : Orc) (d : Nat) (hd : 3 ≤ d) (a1 : List GCell) (a2 : Int) (a3 : GPen) (a4 : List PD) (r : (List GCell)) (hS : f59 a1 a2 a3 a4 = some r) : lev codes base d 59 [(.d (.sl a1.length (e_GCell.cells a1))), (.d (.int .i64 a2)), (.fn 60 [(.rptr (e_GPen.enc a3 ++ a4))])] [] = some ((.r (.own 0 33 4 r.length (e_GCell.cells r))), []) := by
  refine lev_go codes59 rfl rfl (Nat.le_trans (Nat.le_of_ble_eq_true rfl) hd) fun Q hQ => ?_
  unfold f59 at hS
  show ZR _ Q c59_b [] _
  replace hQ : ∀ e st', f59_Q r e st' → Q e st' := hQ
  refine zrSeq ?_
  refine zrReg ?_
  refine zlRun (n := 1) (j := 1) rfl (by kernel_rfl) ?_
  refine zlEnd (by kernel_rfl) ?_
  refine zkSeq ?_
  refine zrSeq ?_
  refine zrReg ?_
  refine zlRun (n := 1) (j := 1) rfl (by kernel_rfl) ?_
  refine zlEnd (by kernel_rfl) ?_
  refine zkSeq ?_
  refine zrSeq ?_
  refine zrSeq ?_
  refine zrReg ?_
  refine zlRun (n := 3) (j := 3) rfl (by kernel_rfl) ?_
  refine zlEnd (by kernel_rfl) ?_
  refine zkSeq ?_
  refine zrBlk ?_
  refine bindE hS (fun z17 hz17 hS => ?_)
  refine zrLoop (f59_l0_H a1 a2 a3 a4) (f59_l0_X a1 a2 a3 a4) (fun x st r Q h0 hS hQ => f59_l0_ok hd a1 a2 a3 a4 hQ hS h0) (x := ([], 0)) (z := z17) (by show keepSt _ _ _ _ = _; kernel_rfl) hz17 ?_
  intro e st' _ hX
  obtain ⟨rfl, rfl⟩ : _ ∧ _ := hX
  refine zkBlkX ?_
  refine zkSeq ?_
  refine zrSeq ?_
  refine zrReg ?_
  refine zlRun (n := 2) (j := 2) rfl (by kernel_rfl) ?_
  refine zlEnd (by kernel_rfl) ?_
  refine zkSeq ?_
  refine zrRet ?_
  refine zkNil ?_
  exact endQ hS hQ (fRet (by kernel_rfl) ((congrArg (fun s => outR s 0 c59.res) (by kernel_rfl : finSt c59.fin _ = f59_fin z17)).trans (f59_out z17)))
/- farwriter/grid.ShiftIn -/
def f41_fin (p1 : List GCell) : St := ⟨(up (fun _ => .un) 2000000 .un), (up (hB fun _ => 0) 0 ⟨0, some (.own 33 4 (e_GCell.cells p1))⟩)⟩
theorem f41_out (p1 : List GCell) : outR (f41_fin p1) 1 c41.res = some ((.tup []), [(.own 33 4 (e_GCell.cells p1))]) := by
  kernel_rfl
def f41_Q (r : (List GCell)) (e : PX) (st : St) : Prop := DoneF c41 1 ((.tup []), [(.own 33 4 (e_GCell.cells r)), .box []]) e st
noncomputable def f41 (a1 : Int) (a2 : Int) (a3 : Int) (a4 : Int) (a5 : Int) (a6 : Int) (a7 : GPen) (a8 : List GCell) : Option ((List GCell)) := ((f33v1 a1 a2 a3 a8).bind fun z11 => ((chk (decide (z11.1.length = a8.length))).bind fun z12 => ((chk (decide (0 ≤ a4) && decide (a4 ≤ a5) && decide (a5 ≤ (z11.2.2 : Int)))).bind fun z13 => ((chk (decide (0 ≤ a4) && decide (a4 ≤ a5) && decide (a5 ≤ (z11.2.2 : Int)))).bind fun z14 => ((part? z11.1 (z11.2.1 + (a4 : Int).toNat) ((a5 : Int).toNat - (a4 : Int).toNat)).bind fun z15 => ((f59 z15 a6 a7 []).bind fun z16 => ((chk (decide ((z11.2.1 + (a4 : Int).toNat) + ((a5 : Int).toNat - (a4 : Int).toNat) ≤ z11.1.length))).bind fun z17 => ((some (cpyL z11.1 (z11.2.1 + (a4 : Int).toNat) ((a5 : Int).toNat - (a4 : Int).toNat) z16)).bind fun z18 => ((f46 z11.2.1 z11.2.2 z18).bind fun z19 => ((chk (decide (z19.length = z18.length))).bind fun z20 => (some z19)))))))))))
theorem f41_ok (base : Orc) (d : Nat) (hd : 5 ≤ d) (a1 : Int) (a2 : Int) (a3 : Int) (a4 : Int) (a5 : Int) (a6 : Int) (a7 : GPen) (a8 : List GCell) (r : (List GCell)) (hS : f41 a1 a2 a3 a4 a5 a6 a7 a8 = some r) : lev codes base d 41 [(.agg ((.d (.int .i64 a1)) :: ((.d (.int .i64 a2)) :: ((.r (.msl 0 0 0 a8.length)) :: [])))), (.d (.int .i64 a3)), (.d (.int .i64 a4)), (.d (.int .i64 a5)), (.d (.int .i64 a6)), (.agg ((.d (.int .i64 a7.Flags)) :: ((.d (.int .i64 a7.Fore)) :: ((.d (.int .i64 a7.Back)) :: []))))] [(.own 33 4 (e_GCell.cells a8))] = some ((.tup []), [(.own 33 4 (e_GCell.cells r)), .box []]) := by
  refine lev_go codes41 rfl rfl (Nat.le_trans (Nat.le_of_ble_eq_true rfl) hd) fun Q hQ => ?_
  unfold f41 at hS
  show ZR _ Q c41_b [] _
  replace hQ : ∀ e st', f41_Q r e st' → Q e st' := hQ
  refine zrSeq ?_
  refine zrReg ?_
  refine zlRun (n := 2) (j := 2) rfl (by kernel_rfl) ?_
  refine zlEnd (by kernel_rfl) ?_
  refine zkSeq ?_
  refine zrSeq ?_
  refine zrReg ?_
  refine zlRun (n := 2) (j := 2) rfl (by kernel_rfl) ?_
  refine bindE hS (fun z11 hz11 hS => ?_)
  refine bindE hS (fun z12 hz12 hS => ?_)
  refine zlOp (d := some 15) (op := (.callr 33 [(.tmp 13), (.tmp 14)])) (g := none) (v := (.r (.msl 0 0 z11.2.1 z11.2.2))) (ups := [(0, ⟨0, some (.own 33 4 (e_GCell.cells z11.1))⟩)]) (j := 3) rfl (by kernel_rfl) (by kernel_rfl) (ev_callrX (args := [(.agg ((.d (.int .i64 a1)) :: ((.d (.int .i64 a2)) :: ((.r (.msl 0 0 0 a8.length)) :: [])))), (.d (.int .i64 a3))]) (ids := [0]) (bs := [(.own 33 4 (e_GCell.cells a8))]) (l := [(.agg ((.d (.int .i64 a1)) :: ((.d (.int .i64 a2)) :: ((.r (.msl 0 0 0 a8.length)) :: [])))), (.d (.int .i64 a3))]) (bt := [(.own 33 4 (e_GCell.cells a8))]) (r := (.r (.msl 0 0 z11.2.1 z11.2.2))) (bs' := [(.own 33 4 (e_GCell.cells z11.1)), .box []]) (by kernel_rfl) (by kernel_rfl) (by kernel_rfl) (by kernel_rfl) (by kernel_rfl) (f33v1_ok base (d - 1) (dpt hd rfl) a1 a2 a3 a8 z11 hz11) (by kernel_rfl) (sm_own e_GCell (e1 := 33) (k1 := 4) (xs := a8) (ys := z11.1) (by kernel_rfl) hz12 sm_nil) (by kernel_rfl) (by kernel_rfl)) ?_
  have lz12 : a8.length = z11.1.length := (of_decide_eq_true (chk_t hz12)).symm
  skip
  try rw [lz12]
  refine zlRun (n := 1) (j := 4) rfl (by kernel_rfl) ?_
  refine zlEnd (by kernel_rfl) ?_
  refine zkSeq ?_
  refine zrSeq ?_
  refine zrRegD ?_
  refine zdRun (n := 3) (j := 3) (ts := [[], [], []]) (acc' := [[], [], []]) rfl (by kernel_rfl) (by kernel_rfl) (by kernel_rfl) ?_
  refine bindE hS (fun z13 hz13 hS => ?_)
  refine zdOp (d := some 19) (op := (.slS 33 4 (.tmp 16) (.some (.tmp 17)) (.some (.tmp 18)))) (g := none) (v := (.r (.msl 0 0 (z11.2.1 + (a4 : Int).toNat) ((a5 : Int).toNat - (a4 : Int).toNat)))) (ups := []) (j := 4) (t1 := [(0, false)]) (acc' := [[], [], [], [(0, false)]]) (by kernel_rfl) (by kernel_rfl) rfl (by kernel_rfl) (by kernel_rfl) (ev_slM (b := 0) (g := 0) (e := 33) (a := a4) (c := a5) (l := z11.2.1) (n := z11.2.2) (l' := (z11.2.1 + (a4 : Int).toNat)) (n' := ((a5 : Int).toNat - (a4 : Int).toNat)) (cs := e_GCell.cells z11.1) (by kernel_rfl) (by kernel_rfl) (bnd_s _ (kk := .i64) (j := a4) (by kernel_rfl)) (bnd_s _ (kk := .i64) (j := a5) (by kernel_rfl)) hz13 (by simp) rfl) ?_
  refine zdRun (n := 3) (j := 7) (ts := [[], [], []]) (acc' := [[], [], [], [(0, false)], [], [], []]) rfl (by kernel_rfl) (by kernel_rfl) (by kernel_rfl) ?_
  refine bindE hS (fun z14 hz14 hS => ?_)
  refine zdOp (d := some 23) (op := (.slS 33 4 (.tmp 20) (.some (.tmp 21)) (.some (.tmp 22)))) (g := none) (v := (.r (.msl 0 0 (z11.2.1 + (a4 : Int).toNat) ((a5 : Int).toNat - (a4 : Int).toNat)))) (ups := []) (j := 8) (t1 := [(0, false)]) (acc' := [[], [], [], [(0, false)], [], [], [], [(0, false)]]) (by kernel_rfl) (by kernel_rfl) rfl (by kernel_rfl) (by kernel_rfl) (ev_slM (b := 0) (g := 0) (e := 33) (a := a4) (c := a5) (l := z11.2.1) (n := z11.2.2) (l' := (z11.2.1 + (a4 : Int).toNat)) (n' := ((a5 : Int).toNat - (a4 : Int).toNat)) (cs := e_GCell.cells z11.1) (by kernel_rfl) (by kernel_rfl) (bnd_s _ (kk := .i64) (j := a4) (by kernel_rfl)) (bnd_s _ (kk := .i64) (j := a5) (by kernel_rfl)) hz14 (by simp) rfl) ?_
  refine zdRun (n := 2) (j := 10) (ts := [[], []]) (acc' := [[], [], [], [(0, false)], [], [], [], [(0, false)], [], []]) rfl (by kernel_rfl) (by kernel_rfl) (by kernel_rfl) ?_
  refine bindE hS (fun z15 hz15 hS => ?_)
  refine bindE hS (fun z16 hz16 hS => ?_)
  refine zdOp (d := some 26) (op := (.call 59 [(.tmp 23), (.tmp 24), (.tmp 25)])) (g := none) (v := (.r (.msl 216 1 0 z16.length))) (ups := [(216, ⟨1, some (.own 33 4 (e_GCell.cells z16))⟩)]) (j := 11) (t1 := [(0, false), (96, false), (216, true), (217, true), (218, true), (219, true), (220, true), (221, true), (222, true), (223, true)]) (acc' := [[], [], [], [(0, false)], [], [], [], [(0, false)], [], [], [(0, false), (96, false), (216, true), (217, true), (218, true), (219, true), (220, true), (221, true), (222, true), (223, true)]]) (by kernel_rfl) (by kernel_rfl) rfl (by kernel_rfl) (by kernel_rfl) (ev_call (args := [(.r (.msl 0 0 (z11.2.1 + (a4 : Int).toNat) ((a5 : Int).toNat - (a4 : Int).toNat))), (.d (.int .i64 a6)), (.fn 60 [(.r (.ptr 96 1 0))])]) (l := [(.d (.sl z15.length (e_GCell.cells z15))), (.d (.int .i64 a6)), (.fn 60 [(.rptr (e_GPen.enc a7 ++ []))])]) (r := (.r (.own 0 33 4 z16.length (e_GCell.cells z16)))) (by kernel_rfl) (l_cons (l_part e_GCell (e := 33) (k := 4) (xs := z11.1) (by kernel_rfl) rfl hz15) (l_cons (by kernel_rfl) (l_cons (by kernel_rfl) l_nil))) (f59_ok base (d - 1) (dpt hd rfl) z15 a6 a7 [] z16 hz16) (by simp only [free_own e_GCell (fun _ => rfl), free_tup, free_agg, free_nl, free_cs, free_int, free_bool, free_str, free_un, free_ni, free_s0, Bool.and_true, Bool.or_true, Bool.and_self]) (by kernel_rfl) (by kernel_rfl)) ?_
  refine bindE hS (fun z17 hz17 hS => ?_)
  refine bindE hS (fun z18 hz18 hS => ?_)
  refine zdOp (d := some 27) (op := (.cpy 4 (.tmp 19) (.tmp 26))) (g := none) (v := (.d (.int .i64 ((min z16.length ((a5 : Int).toNat - (a4 : Int).toNat) : Nat) : Int)))) (ups := [(0, ⟨0, some (.own 33 4 (e_GCell.cells (cpyL z11.1 (z11.2.1 + (a4 : Int).toNat) ((a5 : Int).toNat - (a4 : Int).toNat) z16)))⟩)]) (j := 12) (t1 := [(0, true), (216, false)]) (acc' := [[], [], [], [(0, false)], [], [], [], [(0, false)], [], [], [(0, false), (96, false), (216, true), (217, true), (218, true), (219, true), (220, true), (221, true), (222, true), (223, true)], [(0, true), (216, false)]]) (by kernel_rfl) (by kernel_rfl) rfl (by kernel_rfl) (by kernel_rfl) (ev_cpy e_GCell (b := 0) (g := 0) (l := (z11.2.1 + (a4 : Int).toNat)) (n := ((a5 : Int).toNat - (a4 : Int).toNat)) (e := 33) (xs := z11.1) (ys := z16) (by kernel_rfl) (by kernel_rfl) rfl ((congrArg (asL _) (by kernel_rfl : ρof _ (.tmp 26) = (.r (.msl 216 1 0 z16.length)))).trans (as_whole e_GCell (e := 33) (k := 4) (xs := z16) (by kernel_rfl) rfl rfl)) hz17) ?_
  have ez18 := Option.some.inj hz18
  have lz18 : z11.1.length = z18.length := by rw [← ez18]; exact (cpyL_len (of_decide_eq_true (chk_t hz17))).symm
  rw [ez18]
  skip
  try rw [lz18]
  refine zdEnd (by kernel_rfl) (by kernel_rfl) ?_
  refine zkSeq ?_
  refine zrReg ?_
  refine zlRun (n := 1) (j := 1) rfl (by kernel_rfl) ?_
  refine bindE hS (fun z19 hz19 hS => ?_)
  refine bindE hS (fun z20 hz20 hS => ?_)
  refine zlOp (d := some 29) (op := (.callr 46 [(.tmp 28)])) (g := none) (v := (.tup [])) (ups := [(0, ⟨0, some (.own 33 4 (e_GCell.cells z19))⟩)]) (j := 2) rfl (by kernel_rfl) (by kernel_rfl) (ev_callrX (args := [(.r (.msl 0 0 z11.2.1 z11.2.2))]) (ids := [0]) (bs := [(.own 33 4 (e_GCell.cells z18))]) (l := [(.r (.msl 0 0 z11.2.1 z11.2.2))]) (bt := [(.own 33 4 (e_GCell.cells z18))]) (r := (.tup [])) (bs' := [(.own 33 4 (e_GCell.cells z19)), .box []]) (by kernel_rfl) (by kernel_rfl) (by kernel_rfl) (by kernel_rfl) (by kernel_rfl) (f46_ok base (d - 1) (dpt hd rfl) z11.2.1 z11.2.2 z18 z19 hz19) (by kernel_rfl) (sm_own e_GCell (e1 := 33) (k1 := 4) (xs := z18) (ys := z19) (by kernel_rfl) hz20 sm_nil) (by kernel_rfl) (by kernel_rfl)) ?_
  have lz20 : z18.length = z19.length := (of_decide_eq_true (chk_t hz20)).symm
  skip
  try rw [lz20]
  refine zlEnd (by kernel_rfl) ?_
  refine zkNil ?_
  exact endQ hS hQ (fNormX (by kernel_rfl) (by kernel_rfl : finSt c41.fin _ = f41_fin z19) (by kernel_rfl) (f41_out z19))
/- farwriter/grid.Shift -/
def f19_fin (p10 : Int) (p11 : Int) (p12 : List GCell) (p13 : Int) : St := ⟨(up (up (fun _ => .un) 13 (.d (.int .i64 p13))) 12 (.r (.ptr 104 0 0))), (up (up (hB fun _ => 0) 224 ⟨0, some (.own 33 4 (e_GCell.cells p12))⟩) 104 ⟨0, some (.box ((.d (.int .i64 p10)) :: ((.d (.int .i64 p11)) :: ((.r (.msl 224 0 0 p12.length)) :: []))))⟩)⟩
theorem f19_out (p10 : Int) (p11 : Int) (p12 : List GCell) (p13 : Int) : outR (f19_fin p10 p11 p12 p13) 0 c19.res = some ((.tup [(.agg ((.d (.int .i64 p10)) :: ((.d (.int .i64 p11)) :: ((.r (.own 0 33 4 p12.length (e_GCell.cells p12))) :: [])))), (.d (.int .i64 p13))]), []) := by
  exact out_of (ids := []) (ids' := [224]) (l := [(.agg ((.d (.int .i64 p10)) :: ((.d (.int .i64 p11)) :: ((.r (.msl 224 0 0 p12.length)) :: [])))), (.d (.int .i64 p13))]) (by kernel_rfl) (by kernel_rfl) (o_tup (o_cons (o_agg (o_cons rfl (o_cons rfl (o_cons (o_own e_GCell (e := 33) (k := 4) (xs := p12) (by kernel_rfl) rfl rfl rfl rfl) o_nil)))) (o_cons rfl o_nil)))
def f19_Q (r : Int × Int × (List GCell) × Int) (e : PX) (st : St) : Prop := DoneF c19 0 ((.tup [(.agg ((.d (.int .i64 r.1)) :: ((.d (.int .i64 r.2.1)) :: ((.r (.own 0 33 4 r.2.2.1.length (e_GCell.cells r.2.2.1))) :: [])))), (.d (.int .i64 r.2.2.2))]), []) e st
def f19_j1_J (a1 : GGrid) (a2 : Int) (a3 : Int) (a4 : Int) (a5 : Int) (a6 : GPen) (p27 : Int) (p28 : Int) (p29 : List GCell) : St := ⟨(up (up (up (up (up (up (up (fun _ => .un) 12 (.r (.ptr 104 0 0))) 11 (.r (.ptr 96 0 0))) 6 (.r (.ptr 56 0 0))) 4 (.d (.int .i64 a5))) 3 (.d (.int .i64 a4))) 2 (.d (.int .i64 a3))) 1 (.d (.int .i64 a2))), (up (up (up (up (hB fun _ => 0) 104 ⟨0, some (.box ((.d (.int .i64 0)) :: ((.d (.int .i64 0)) :: ((.d (.sl ([] : List GCell).length (e_GCell.cells ([])))) :: []))))⟩) 96 ⟨0, some (.box ((.d (.int .i64 a6.Flags)) :: ((.d (.int .i64 a6.Fore)) :: ((.d (.int .i64 a6.Back)) :: []))))⟩) 224 ⟨0, some (.own 33 4 (e_GCell.cells p29))⟩) 56 ⟨0, some (.box ((.d (.int .i64 p27)) :: ((.d (.int .i64 p28)) :: ((.r (.msl 224 0 0 p29.length)) :: []))))⟩)⟩
noncomputable def f19_j1 (a1 : GGrid) (a2 : Int) (a3 : Int) (a4 : Int) (a5 : Int) (a6 : GPen) (p27 : Int) (p28 : Int) (p29 : List GCell) : Option (Int × Int × (List GCell) × Int) := ((f41 p27 p28 a2 a3 a4 a5 a6 p29).bind fun z11 => ((chk (decide (z11.length = p29.length))).bind fun z12 => (some (p27, p28, z11, 0))))
theorem f19_j1_ok {base : Orc} {d : Nat} (hd : 6 ≤ d) (a1 : GGrid) (a2 : Int) (a3 : Int) (a4 : Int) (a5 : Int) (a6 : GPen) {r : Int × Int × (List GCell) × Int} {Q : PX → St → Prop} (hQ : ∀ e st', f19_Q r e st' → Q e st') (p27 : Int) (p28 : Int) (p29 : List GCell) (hS : f19_j1 a1 a2 a3 a4 a5 a6 p27 p28 p29 = some r) {st : St} (he : keepSt [1, 2, 3, 4, 6, 11, 12] [(56, .id 56), (224, .id 224), (96, .id 96), (104, .id 104)] [] st = f19_j1_J a1 a2 a3 a4 a5 a6 p27 p28 p29) : ZR (lev codes base (d - 1)) Q c19_1 [] st := by
  refine zrKeep he ?_
  unfold f19_j1 at hS
  refine zrSeq ?_
  refine zrReg ?_
  refine zlRun (n := 6) (j := 6) rfl (by kernel_rfl) ?_
  refine bindE hS (fun z11 hz11 hS => ?_)
  refine bindE hS (fun z12 hz12 hS => ?_)
  refine zlOp (d := some 40) (op := (.callr 41 [(.tmp 34), (.tmp 35), (.tmp 36), (.tmp 37), (.tmp 38), (.tmp 39)])) (g := none) (v := (.tup [])) (ups := [(224, ⟨0, some (.own 33 4 (e_GCell.cells z11))⟩)]) (j := 7) rfl (by kernel_rfl) (by kernel_rfl) (ev_callrX (args := [(.agg ((.d (.int .i64 p27)) :: ((.d (.int .i64 p28)) :: ((.r (.msl 224 0 0 p29.length)) :: [])))), (.d (.int .i64 a2)), (.d (.int .i64 a3)), (.d (.int .i64 a4)), (.d (.int .i64 a5)), (.agg ((.d (.int .i64 a6.Flags)) :: ((.d (.int .i64 a6.Fore)) :: ((.d (.int .i64 a6.Back)) :: []))))]) (ids := [224]) (bs := [(.own 33 4 (e_GCell.cells p29))]) (l := [(.agg ((.d (.int .i64 p27)) :: ((.d (.int .i64 p28)) :: ((.r (.msl 0 0 0 p29.length)) :: [])))), (.d (.int .i64 a2)), (.d (.int .i64 a3)), (.d (.int .i64 a4)), (.d (.int .i64 a5)), (.agg ((.d (.int .i64 a6.Flags)) :: ((.d (.int .i64 a6.Fore)) :: ((.d (.int .i64 a6.Back)) :: []))))]) (bt := [(.own 33 4 (e_GCell.cells p29))]) (r := (.tup [])) (bs' := [(.own 33 4 (e_GCell.cells z11)), .box []]) (by kernel_rfl) (by kernel_rfl) (by kernel_rfl) (by kernel_rfl) (by kernel_rfl) (f41_ok base (d - 1) (dpt hd rfl) p27 p28 a2 a3 a4 a5 a6 p29 z11 hz11) (by kernel_rfl) (sm_own e_GCell (e1 := 33) (k1 := 4) (xs := p29) (ys := z11) (by kernel_rfl) hz12 sm_nil) (by kernel_rfl) (by kernel_rfl)) ?_
  have lz12 : p29.length = z11.length := (of_decide_eq_true (chk_t hz12)).symm
  try delta f19_j1_J
  try rw [lz12]
  refine zlEnd (by kernel_rfl) ?_
  refine zkSeq ?_
  refine zrSeq ?_
  refine zrReg ?_
  refine zlRun (n := 3) (j := 3) rfl (by kernel_rfl) ?_
  refine zlEnd (by kernel_rfl) ?_
  refine zkSeq ?_
  refine zrRet ?_
  refine zkNil ?_
  exact endQ hS hQ (fRet (by kernel_rfl) ((congrArg (fun s => outR s 0 c19.res) (by kernel_rfl : finSt c19.fin _ = f19_fin p27 p28 z11 0)).trans (f19_out p27 p28 z11 0)))
def f19_j0_J (a1 : GGrid) (a2 : Int) (a3 : Int) (a4 : Int) (a5 : Int) (a6 : GPen) (p18 : Int) (p19 : Int) (p20 : List GCell) (p21 : Int) : St := ⟨(up (up (up (up (up (up (up (up (fun _ => .un) 14 (.d (.int .i64 p21))) 12 (.r (.ptr 104 0 0))) 11 (.r (.ptr 96 0 0))) 6 (.r (.ptr 56 0 0))) 4 (.d (.int .i64 a5))) 3 (.d (.int .i64 a4))) 2 (.d (.int .i64 a3))) 1 (.d (.int .i64 a2))), (up (up (up (up (hB fun _ => 0) 104 ⟨0, some (.box ((.d (.int .i64 0)) :: ((.d (.int .i64 0)) :: ((.d (.sl ([] : List GCell).length (e_GCell.cells ([])))) :: []))))⟩) 96 ⟨0, some (.box ((.d (.int .i64 a6.Flags)) :: ((.d (.int .i64 a6.Fore)) :: ((.d (.int .i64 a6.Back)) :: []))))⟩) 224 ⟨0, some (.own 33 4 (e_GCell.cells p20))⟩) 56 ⟨0, some (.box ((.d (.int .i64 p18)) :: ((.d (.int .i64 p19)) :: ((.r (.msl 224 0 0 p20.length)) :: []))))⟩)⟩
noncomputable def f19_j0 (a1 : GGrid) (a2 : Int) (a3 : Int) (a4 : Int) (a5 : Int) (a6 : GPen) (p18 : Int) (p19 : Int) (p20 : List GCell) (p21 : Int) : Option (Int × Int × (List GCell) × Int) := (bif (!decide (p21 = 0)) then (some (p18, p19, p20, p21)) else (f19_j1 a1 a2 a3 a4 a5 a6 p18 p19 p20))
theorem f19_j0_ok {base : Orc} {d : Nat} (hd : 6 ≤ d) (a1 : GGrid) (a2 : Int) (a3 : Int) (a4 : Int) (a5 : Int) (a6 : GPen) {r : Int × Int × (List GCell) × Int} {Q : PX → St → Prop} (hQ : ∀ e st', f19_Q r e st' → Q e st') (p18 : Int) (p19 : Int) (p20 : List GCell) (p21 : Int) (hS : f19_j0 a1 a2 a3 a4 a5 a6 p18 p19 p20 p21 = some r) {st : St} (he : keepSt [1, 2, 3, 4, 6, 11, 12, 14] [(56, .id 56), (224, .id 224), (96, .id 96), (104, .id 104)] [.cell 104 2 0 0 1] st = f19_j0_J a1 a2 a3 a4 a5 a6 p18 p19 p20 p21) : ZR (lev codes base (d - 1)) Q c19_2 [] st := by
  refine zrKeep he ?_
  unfold f19_j0 at hS
  refine zrSeq ?_
  refine zrSeq ?_
  refine zrReg ?_
  refine zlRun (n := 1) (j := 1) rfl (by kernel_rfl) ?_
  refine zlBool (d := 31) (op := (.cmpI .neq (.tmp 30) (.const (.int .i64 0)))) (g := none) (j := 2) (!decide (p21 = 0)) rfl (by kernel_rfl) (by kernel_rfl) (by kernel_rfl) (fun hc => ?_) (fun hc => ?_)
  · replace hS := cond_t hc hS
    refine zlEnd (by kernel_rfl) ?_
    refine zkSeq ?_
    refine zrCondT (by kernel_rfl) ?_
    refine zrSeq ?_
    refine zrReg ?_
    refine zlRun (n := 4) (j := 4) rfl (by kernel_rfl) ?_
    refine zlEnd (by kernel_rfl) ?_
    refine zkSeq ?_
    refine zrRet ?_
    refine zkSeqR ?_
    refine zkNil ?_
    exact endQ hS hQ (fRet (by kernel_rfl) ((congrArg (fun s => outR s 0 c19.res) (by kernel_rfl : finSt c19.fin _ = f19_fin p18 p19 p20 p21)).trans (f19_out p18 p19 p20 p21)))
  · replace hS := cond_f hc hS
    refine zlEnd (by kernel_rfl) ?_
    refine zkSeq ?_
    refine zrCondF (by kernel_rfl) ?_
    refine zrSkip ?_
    refine zkSeq ?_
    exact f19_j1_ok hd a1 a2 a3 a4 a5 a6 hQ p18 p19 p20 hS (by kernel_rfl)
noncomputable def f19 (a1 : GGrid) (a2 : Int) (a3 : Int) (a4 : Int) (a5 : Int) (a6 : GPen) : Option (Int × Int × (List GCell) × Int) := ((f34 a1 a2 a3 a4).bind fun z13 => (bif z13 then ((f40 a5).bind fun z14 => ((f29 a1 z14 a6).bind fun z15 => (f19_j0 a1 a2 a3 a4 a5 a6 z15.1 z15.2.1 z15.2.2.1 z15.2.2.2))) else ((f29 a1 false a6).bind fun z16 => (f19_j0 a1 a2 a3 a4 a5 a6 z16.1 z16.2.1 z16.2.2.1 z16.2.2.2))))
theorem f19_ok (base : Orc) (d : Nat) (hd : 6 ≤ d) (a1 : GGrid) (a2 : Int) (a3 : Int) (a4 : Int) (a5 : Int) (a6 : GPen) (r : Int × Int × (List GCell) × Int) (hS : f19 a1 a2 a3 a4 a5 a6 = some r) : lev codes base d 19 [(.agg ((.d (.int .i64 a1.Wide)) :: ((.d (.int .i64 a1.High)) :: ((.d (.sl a1.Cells.length (e_GCell.cells a1.Cells))) :: [])))), (.d (.int .i64 a2)), (.d (.int .i64 a3)), (.d (.int .i64 a4)), (.d (.int .i64 a5)), (.agg ((.d (.int .i64 a6.Flags)) :: ((.d (.int .i64 a6.Fore)) :: ((.d (.int .i64 a6.Back)) :: []))))] [] = some ((.tup [(.agg ((.d (.int .i64 r.1)) :: ((.d (.int .i64 r.2.1)) :: ((.r (.own 0 33 4 r.2.2.1.length (e_GCell.cells r.2.2.1))) :: [])))), (.d (.int .i64 r.2.2.2))]), []) := by
  refine lev_go codes19 rfl rfl (Nat.le_trans (Nat.le_of_ble_eq_true rfl) hd) fun Q hQ => ?_
  unfold f19 at hS
  show ZR _ Q c19_b [] _
  replace hQ : ∀ e st', f19_Q r e st' → Q e st' := hQ
  refine zrSeq ?_
  refine zrReg ?_
  refine zlRun (n := 4) (j := 4) rfl (by kernel_rfl) ?_
  refine zlEnd (by kernel_rfl) ?_
  refine zkSeq ?_
  refine zrSeq ?_
  refine zrRegD ?_
  refine zdRun (n := 5) (j := 5) (ts := [[(56, false)], [(56, false)], [], [], []]) (acc' := [[(56, false)], [(56, false)], [], [], []]) rfl (by kernel_rfl) (by kernel_rfl) (by kernel_rfl) ?_
  refine bindE hS (fun z13 hz13 hS => ?_)
  refine zdOp (d := some 21) (op := (.call 34 [(.tmp 17), (.tmp 18), (.tmp 19), (.tmp 20)])) (g := none) (v := (.d (.bool z13))) (ups := []) (j := 6) (t1 := [(176, true), (177, true), (178, true), (179, true), (180, true), (181, true), (182, true), (183, true)]) (acc' := [[(56, false)], [(56, false)], [], [], [], [(176, true), (177, true), (178, true), (179, true), (180, true), (181, true), (182, true), (183, true)]]) (by kernel_rfl) (by kernel_rfl) rfl (by kernel_rfl) (by kernel_rfl) (ev_call (args := [(.agg ((.d (.int .i64 a1.Wide)) :: ((.d (.int .i64 a1.High)) :: ((.d (.sl a1.Cells.length (e_GCell.cells a1.Cells))) :: [])))), (.d (.int .i64 a2)), (.d (.int .i64 a3)), (.d (.int .i64 a4))]) (l := [(.agg ((.d (.int .i64 a1.Wide)) :: ((.d (.int .i64 a1.High)) :: ((.d (.sl a1.Cells.length (e_GCell.cells a1.Cells))) :: [])))), (.d (.int .i64 a2)), (.d (.int .i64 a3)), (.d (.int .i64 a4))]) (r := (.d (.bool z13))) (by kernel_rfl) (by kernel_rfl) (f34_ok base (d - 1) (dpt hd rfl) a1 a2 a3 a4 z13 hz13) (by kernel_rfl) (by kernel_rfl) (by kernel_rfl)) ?_
  refine zdRun (n := 1) (j := 7) (ts := [[]]) (acc' := [[(56, false)], [(56, false)], [], [], [], [(176, true), (177, true), (178, true), (179, true), (180, true), (181, true), (182, true), (183, true)], []]) rfl (by kernel_rfl) (by kernel_rfl) (by kernel_rfl) ?_
  refine zdSplit 22 z13 (by kernel_rfl) (fun hc => ?_) (fun hc => ?_)
  · replace hS := cond_t hc hS
    refine zdRun (n := 1) (j := 8) (ts := [[]]) (acc' := [[(56, false)], [(56, false)], [], [], [], [(176, true), (177, true), (178, true), (179, true), (180, true), (181, true), (182, true), (183, true)], [], []]) rfl (by kernel_rfl) (by kernel_rfl) (by kernel_rfl) ?_
    refine bindE hS (fun z14 hz14 hS => ?_)
    refine zdOp (d := some 24) (op := (.call 40 [(.tmp 23)])) (g := (some (22, true))) (v := (.d (.bool z14))) (ups := []) (j := 9) (t1 := [(200, true), (201, true), (202, true), (203, true), (204, true), (205, true), (206, true), (207, true)]) (acc' := [[(56, false)], [(56, false)], [], [], [], [(176, true), (177, true), (178, true), (179, true), (180, true), (181, true), (182, true), (183, true)], [], [], [(200, true), (201, true), (202, true), (203, true), (204, true), (205, true), (206, true), (207, true)]]) (by kernel_rfl) (by kernel_rfl) rfl (by kernel_rfl) (by kernel_rfl) (ev_call (args := [(.d (.int .i64 a5))]) (l := [(.d (.int .i64 a5))]) (r := (.d (.bool z14))) (by kernel_rfl) (by kernel_rfl) (f40_ok base (d - 1) (dpt hd rfl) a5 z14 hz14) (by kernel_rfl) (by kernel_rfl) (by kernel_rfl)) ?_
    refine zdRun (n := 2) (j := 11) (ts := [[], [(96, false)]]) (acc' := [[(56, false)], [(56, false)], [], [], [], [(176, true), (177, true), (178, true), (179, true), (180, true), (181, true), (182, true), (183, true)], [], [], [(200, true), (201, true), (202, true), (203, true), (204, true), (205, true), (206, true), (207, true)], [], [(96, false)]]) rfl (by kernel_rfl) (by kernel_rfl) (by kernel_rfl) ?_
    refine bindE hS (fun z15 hz15 hS => ?_)
    refine zdOp (d := some 27) (op := (.callf 29 [(.tmp 16), (.tmp 25), (.tmp 26)])) (g := none) (v := (.tup [(.agg ((.d (.int .i64 z15.1)) :: ((.d (.int .i64 z15.2.1)) :: ((.r (.msl 224 1 0 z15.2.2.1.length)) :: [])))), (.d (.int .i64 z15.2.2.2))])) (ups := [(224, ⟨1, some (.own 33 4 (e_GCell.cells z15.2.2.1))⟩)]) (j := 12) (t1 := [(224, true), (225, true), (226, true), (227, true), (228, true), (229, true), (230, true), (231, true)]) (acc' := [[(56, false)], [(56, false)], [], [], [], [(176, true), (177, true), (178, true), (179, true), (180, true), (181, true), (182, true), (183, true)], [], [], [(200, true), (201, true), (202, true), (203, true), (204, true), (205, true), (206, true), (207, true)], [], [(96, false)], [(224, true), (225, true), (226, true), (227, true), (228, true), (229, true), (230, true), (231, true)]]) (by kernel_rfl) (by kernel_rfl) rfl (by kernel_rfl) (by kernel_rfl) (ev_callF (args := [(.agg ((.d (.int .i64 a1.Wide)) :: ((.d (.int .i64 a1.High)) :: ((.d (.sl a1.Cells.length (e_GCell.cells a1.Cells))) :: [])))), (.d (.bool z14)), (.agg ((.d (.int .i64 a6.Flags)) :: ((.d (.int .i64 a6.Fore)) :: ((.d (.int .i64 a6.Back)) :: []))))]) (args' := [(.agg ((.d (.int .i64 a1.Wide)) :: ((.d (.int .i64 a1.High)) :: ((.d (.sl a1.Cells.length (e_GCell.cells a1.Cells))) :: [])))), (.d (.bool z14)), (.agg ((.d (.int .i64 a6.Flags)) :: ((.d (.int .i64 a6.Fore)) :: ((.d (.int .i64 a6.Back)) :: []))))]) (l := [(.agg ((.d (.int .i64 a1.Wide)) :: ((.d (.int .i64 a1.High)) :: ((.d (.sl a1.Cells.length (e_GCell.cells a1.Cells))) :: [])))), (.d (.bool z14)), (.agg ((.d (.int .i64 a6.Flags)) :: ((.d (.int .i64 a6.Fore)) :: ((.d (.int .i64 a6.Back)) :: []))))]) (refs := []) (r := (.tup [(.agg ((.d (.int .i64 z15.1)) :: ((.d (.int .i64 z15.2.1)) :: ((.r (.own 0 33 4 z15.2.2.1.length (e_GCell.cells z15.2.2.1))) :: [])))), (.d (.int .i64 z15.2.2.2))])) (v := (.tup [(.agg ((.d (.int .i64 z15.1)) :: ((.d (.int .i64 z15.2.1)) :: ((.r (.msl 224 1 0 z15.2.2.1.length)) :: [])))), (.d (.int .i64 z15.2.2.2))])) (ups' := [(224, ⟨1, some (.own 33 4 (e_GCell.cells z15.2.2.1))⟩)]) (by kernel_rfl) (by kernel_rfl) (by kernel_rfl) (fz_cons rfl (fz_cons rfl (fz_cons rfl fz_nil))) (by kernel_rfl) (f29_ok base (d - 1) (dpt hd rfl) a1 z14 a6 z15 hz15) (by kernel_rfl) (by kernel_rfl) (by kernel_rfl) (by kernel_rfl)) ?_
    refine zdRun (n := 5) (j := 17) (ts := [[], [], [], [(56, true)], []]) (acc' := [[(56, false)], [(56, false)], [], [], [], [(176, true), (177, true), (178, true), (179, true), (180, true), (181, true), (182, true), (183, true)], [], [], [(200, true), (201, true), (202, true), (203, true), (204, true), (205, true), (206, true), (207, true)], [], [(96, false)], [(224, true), (225, true), (226, true), (227, true), (228, true), (229, true), (230, true), (231, true)], [], [], [], [(56, true)], []]) rfl (by kernel_rfl) (by kernel_rfl) (by kernel_rfl) ?_
    refine zdEnd (by kernel_rfl) (by kernel_rfl) ?_
    refine zkSeq ?_
    exact f19_j0_ok hd a1 a2 a3 a4 a5 a6 hQ z15.1 z15.2.1 z15.2.2.1 z15.2.2.2 hS (by kernel_rfl)
  · replace hS := cond_f hc hS
    refine zdRun (n := 4) (j := 11) (ts := [[], [], [], [(96, false)]]) (acc' := [[(56, false)], [(56, false)], [], [], [], [(176, true), (177, true), (178, true), (179, true), (180, true), (181, true), (182, true), (183, true)], [], [], [], [], [(96, false)]]) rfl (by kernel_rfl) (by kernel_rfl) (by kernel_rfl) ?_
    refine bindE hS (fun z16 hz16 hS => ?_)
    refine zdOp (d := some 27) (op := (.callf 29 [(.tmp 16), (.tmp 25), (.tmp 26)])) (g := none) (v := (.tup [(.agg ((.d (.int .i64 z16.1)) :: ((.d (.int .i64 z16.2.1)) :: ((.r (.msl 224 1 0 z16.2.2.1.length)) :: [])))), (.d (.int .i64 z16.2.2.2))])) (ups := [(224, ⟨1, some (.own 33 4 (e_GCell.cells z16.2.2.1))⟩)]) (j := 12) (t1 := [(224, true), (225, true), (226, true), (227, true), (228, true), (229, true), (230, true), (231, true)]) (acc' := [[(56, false)], [(56, false)], [], [], [], [(176, true), (177, true), (178, true), (179, true), (180, true), (181, true), (182, true), (183, true)], [], [], [], [], [(96, false)], [(224, true), (225, true), (226, true), (227, true), (228, true), (229, true), (230, true), (231, true)]]) (by kernel_rfl) (by kernel_rfl) rfl (by kernel_rfl) (by kernel_rfl) (ev_callF (args := [(.agg ((.d (.int .i64 a1.Wide)) :: ((.d (.int .i64 a1.High)) :: ((.d (.sl a1.Cells.length (e_GCell.cells a1.Cells))) :: [])))), (.d (.bool false)), (.agg ((.d (.int .i64 a6.Flags)) :: ((.d (.int .i64 a6.Fore)) :: ((.d (.int .i64 a6.Back)) :: []))))]) (args' := [(.agg ((.d (.int .i64 a1.Wide)) :: ((.d (.int .i64 a1.High)) :: ((.d (.sl a1.Cells.length (e_GCell.cells a1.Cells))) :: [])))), (.d (.bool false)), (.agg ((.d (.int .i64 a6.Flags)) :: ((.d (.int .i64 a6.Fore)) :: ((.d (.int .i64 a6.Back)) :: []))))]) (l := [(.agg ((.d (.int .i64 a1.Wide)) :: ((.d (.int .i64 a1.High)) :: ((.d (.sl a1.Cells.length (e_GCell.cells a1.Cells))) :: [])))), (.d (.bool false)), (.agg ((.d (.int .i64 a6.Flags)) :: ((.d (.int .i64 a6.Fore)) :: ((.d (.int .i64 a6.Back)) :: []))))]) (refs := []) (r := (.tup [(.agg ((.d (.int .i64 z16.1)) :: ((.d (.int .i64 z16.2.1)) :: ((.r (.own 0 33 4 z16.2.2.1.length (e_GCell.cells z16.2.2.1))) :: [])))), (.d (.int .i64 z16.2.2.2))])) (v := (.tup [(.agg ((.d (.int .i64 z16.1)) :: ((.d (.int .i64 z16.2.1)) :: ((.r (.msl 224 1 0 z16.2.2.1.length)) :: [])))), (.d (.int .i64 z16.2.2.2))])) (ups' := [(224, ⟨1, some (.own 33 4 (e_GCell.cells z16.2.2.1))⟩)]) (by kernel_rfl) (by kernel_rfl) (by kernel_rfl) (fz_cons rfl (fz_cons rfl (fz_cons rfl fz_nil))) (by kernel_rfl) (f29_ok base (d - 1) (dpt hd rfl) a1 false a6 z16 hz16) (by kernel_rfl) (by kernel_rfl) (by kernel_rfl) (by kernel_rfl)) ?_
    refine zdRun (n := 5) (j := 17) (ts := [[], [], [], [(56, true)], []]) (acc' := [[(56, false)], [(56, false)], [], [], [], [(176, true), (177, true), (178, true), (179, true), (180, true), (181, true), (182, true), (183, true)], [], [], [], [], [(96, false)], [(224, true), (225, true), (226, true), (227, true), (228, true), (229, true), (230, true), (231, true)], [], [], [], [(56, true)], []]) rfl (by kernel_rfl) (by kernel_rfl) (by kernel_rfl) ?_
    refine zdEnd (by kernel_rfl) (by kernel_rfl) ?_
    refine zkSeq ?_
    exact f19_j0_ok hd a1 a2 a3 a4 a5 a6 hQ z16.1 z16.2.1 z16.2.2.1 z16.2.2.2 hS (by kernel_rfl)
/- farwriter/grid.ScrollIn$1 -/
def f62_fin (p1 : List GCell) : St := ⟨(up (fun _ => .un) 2 (.r (.msl 56 0 0 p1.length))), (up (hB fun _ => 0) 56 ⟨0, some (.own 33 4 (e_GCell.cells p1))⟩)⟩
theorem f62_out (p1 : List GCell) : outR (f62_fin p1) 0 c62.res = some ((.r (.own 0 33 4 p1.length (e_GCell.cells p1))), []) := by
  exact out_of (ids := []) (ids' := [56]) (l := [(.r (.msl 56 0 0 p1.length))]) (by kernel_rfl) (by kernel_rfl) (o_own e_GCell (e := 33) (k := 4) (xs := p1) (by kernel_rfl) rfl rfl rfl rfl)
def f62_Q (r : (List GCell)) (e : PX) (st : St) : Prop := DoneF c62 0 ((.r (.own 0 33 4 r.length (e_GCell.cells r))), []) e st
noncomputable def f62 (a1 : Int) (a2 : Int) (a3 : GPen) (a4 : List PD) : Option ((List GCell)) := ((f53 a1 1 a3).bind fun z2 => (some z2.2.2))
theorem f62_ok (base : Orc) (d : Nat) (hd : 5 ≤ d) (a1 : Int) (a2 : Int) (a3 : GPen) (a4 : List PD) (r : (List GCell)) (hS : f62 a1 a2 a3 a4 = some r) : lev codes base d 62 [(.rptr [.int .i64 a1, .int .i64 a2, .un]), (.rptr (e_GPen.enc a3 ++ a4))] [] = some ((.r (.own 0 33 4 r.length (e_GCell.cells r))), []) := by
  refine lev_go codes62 rfl rfl (Nat.le_trans (Nat.le_of_ble_eq_true rfl) hd) fun Q hQ => ?_
  unfold f62 at hS
  show ZR _ Q c62_b [] _
  replace hQ : ∀ e st', f62_Q r e st' → Q e st' := hQ
  refine zrSeq ?_
  refine zrReg ?_
  refine zlRun (n := 1) (j := 1) rfl (by kernel_rfl) ?_
  refine zlEnd (by kernel_rfl) ?_
  refine zkSeq ?_
  refine zrSeq ?_
  refine zrReg ?_
  refine zlRun (n := 3) (j := 3) rfl (by kernel_rfl) ?_
  refine bindE hS (fun z2 hz2 hS => ?_)
  refine zlOp (d := some 6) (op := (.call 53 [(.tmp 4), (.const (.int .i64 1)), (.tmp 5)])) (g := none) (v := (.agg ((.d (.int .i64 z2.1)) :: ((.d (.int .i64 z2.2.1)) :: ((.r (.msl 56 1 0 z2.2.2.length)) :: []))))) (ups := [(56, ⟨1, some (.own 33 4 (e_GCell.cells z2.2.2))⟩)]) (j := 4) rfl (by kernel_rfl) (by kernel_rfl) (ev_call (args := [(.d (.int .i64 a1)), (.d (.int .i64 1)), (.agg ((.d (.int .i64 a3.Flags)) :: ((.d (.int .i64 a3.Fore)) :: ((.d (.int .i64 a3.Back)) :: []))))]) (l := [(.d (.int .i64 a1)), (.d (.int .i64 1)), (.agg ((.d (.int .i64 a3.Flags)) :: ((.d (.int .i64 a3.Fore)) :: ((.d (.int .i64 a3.Back)) :: []))))]) (r := (.agg ((.d (.int .i64 z2.1)) :: ((.d (.int .i64 z2.2.1)) :: ((.r (.own 0 33 4 z2.2.2.length (e_GCell.cells z2.2.2))) :: []))))) (by kernel_rfl) (by kernel_rfl) (f53_ok base (d - 1) (dpt hd rfl) a1 1 a3 z2 hz2) (by kernel_rfl) (by kernel_rfl) (by kernel_rfl)) ?_
  refine zlRun (n := 2) (j := 6) rfl (by kernel_rfl) ?_
  refine zlEnd (by kernel_rfl) ?_
  refine zkSeq ?_
  refine zrRet ?_
  refine zkNil ?_
  exact endQ hS hQ (fRet (by kernel_rfl) ((congrArg (fun s => outR s 0 c62.res) (by kernel_rfl : finSt c62.fin _ = f62_fin z2.2.2)).trans (f62_out z2.2.2)))
/- farwriter/grid.move[[]farwriter/api.Cell] -/
def f61_fin (p41 : Int) (p42 : Int) (p43 : List GCell) (p44 : GPen) (p45 : List (List GCell)) (p46 : List (List GCell)) : St := ⟨(up (up (fun _ => .un) 2000000 .un) 6 (.r (.msl 64 0 0 p46.length))), (up (up (up (up (up (hB fun _ => 0) 64 ⟨0, some (.own 22 1 ((eSl e_GCell).cells p46))⟩) 0 ⟨0, some (.own 22 1 ((eSl e_GCell).cells p45))⟩) 2 ⟨0, some (.box ((.d (.int .i64 p44.Flags)) :: ((.d (.int .i64 p44.Fore)) :: ((.d (.int .i64 p44.Back)) :: []))))⟩) 3 ⟨0, some (.own 33 4 (e_GCell.cells p43))⟩) 1 ⟨0, some (.box ((.d (.int .i64 p41)) :: ((.d (.int .i64 p42)) :: ((.r (.msl 3 0 0 p43.length)) :: []))))⟩)⟩
theorem f61_out (p41 : Int) (p42 : Int) (p43 : List GCell) (p44 : GPen) (p45 : List (List GCell)) (p46 : List (List GCell)) : outR (f61_fin p41 p42 p43 p44 p45 p46) 4 c61.res = some ((.r (.own 0 22 1 p46.length ((eSl e_GCell).cells p46))), [(.own 22 1 ((eSl e_GCell).cells p45)), (.box ((.d (.int .i64 p41)) :: ((.d (.int .i64 p42)) :: ((.r (.msl 3 0 0 p43.length)) :: [])))), (.box ((.d (.int .i64 p44.Flags)) :: ((.d (.int .i64 p44.Fore)) :: ((.d (.int .i64 p44.Back)) :: [])))), (.own 33 4 (e_GCell.cells p43))]) := by
  exact out_of (ids := []) (ids' := [64]) (l := [(.r (.msl 64 0 0 p46.length))]) (by kernel_rfl) (by kernel_rfl) (o_own (eSl e_GCell) (e := 22) (k := 1) (xs := p46) (by kernel_rfl) rfl rfl rfl rfl)
def f61_Q (r : Int × Int × (List GCell) × GPen × (List (List GCell)) × (List (List GCell))) (e : PX) (st : St) : Prop := DoneF c61 4 ((.r (.own 0 22 1 r.2.2.2.2.2.length ((eSl e_GCell).cells r.2.2.2.2.2))), [(.own 22 1 ((eSl e_GCell).cells r.2.2.2.2.1)), (.box ((.d (.int .i64 r.1)) :: ((.d (.int .i64 r.2.1)) :: ((.r (.msl 3 0 0 r.2.2.1.length)) :: [])))), (.box ((.d (.int .i64 r.2.2.2.1.Flags)) :: ((.d (.int .i64 r.2.2.2.1.Fore)) :: ((.d (.int .i64 r.2.2.2.1.Back)) :: [])))), (.own 33 4 (e_GCell.cells r.2.2.1)), .box []]) e st
def f61_l0_J (a1 : Int) (a2 : List (List GCell)) (a3 : Int) (a4 : Int) (a5 : GPen) (a6 : List GCell) (x : (List (List GCell)) × Int) : St := ⟨(up (up (up (up (up (up (fun _ => .un) 12 (.d (.int .i64 x.2))) 11 (.d (.int .i64 (a2.length : Int)))) 7 (.r (.msl 64 0 0 x.1.length))) 2 (.fn 62 [(.r (.ptr 1 0 0)), (.r (.ptr 2 0 0))])) 1 (.d (.int .i64 a1))) 0 (.r (.msl 0 0 0 a2.length))), (up (up (up (up (up (hB fun _ => 0) 64 ⟨0, some (.own 22 1 ((eSl e_GCell).cells x.1))⟩) 0 ⟨0, some (.own 22 1 ((eSl e_GCell).cells a2))⟩) 2 ⟨0, some (.box ((.d (.int .i64 a5.Flags)) :: ((.d (.int .i64 a5.Fore)) :: ((.d (.int .i64 a5.Back)) :: []))))⟩) 3 ⟨0, some (.own 33 4 (e_GCell.cells a6))⟩) 1 ⟨0, some (.box ((.d (.int .i64 a3)) :: ((.d (.int .i64 a4)) :: ((.r (.msl 3 0 0 a6.length)) :: []))))⟩)⟩
def f61_l0_H (a1 : Int) (a2 : List (List GCell)) (a3 : Int) (a4 : Int) (a5 : GPen) (a6 : List GCell) (x : (List (List GCell)) × Int) (st : St) : Prop := keepSt [0, 1, 2, 7, 11, 12] [(1, .id 1), (3, .id 3), (2, .id 2), (0, .id 0), (64, .id 64)] [] st = f61_l0_J a1 a2 a3 a4 a5 a6 x
def f61_l0_e0_J (a1 : Int) (a2 : List (List GCell)) (a3 : Int) (a4 : Int) (a5 : GPen) (a6 : List GCell) (p40 : List (List GCell)) : St := ⟨(up (fun _ => .un) 7 (.r (.msl 64 0 0 p40.length))), (up (up (up (up (up (hB fun _ => 0) 64 ⟨0, some (.own 22 1 ((eSl e_GCell).cells p40))⟩) 0 ⟨0, some (.own 22 1 ((eSl e_GCell).cells a2))⟩) 2 ⟨0, some (.box ((.d (.int .i64 a5.Flags)) :: ((.d (.int .i64 a5.Fore)) :: ((.d (.int .i64 a5.Back)) :: []))))⟩) 3 ⟨0, some (.own 33 4 (e_GCell.cells a6))⟩) 1 ⟨0, some (.box ((.d (.int .i64 a3)) :: ((.d (.int .i64 a4)) :: ((.r (.msl 3 0 0 a6.length)) :: []))))⟩)⟩
def f61_l0_X (a1 : Int) (a2 : List (List GCell)) (a3 : Int) (a4 : Int) (a5 : GPen) (a6 : List GCell) (z : ((List (List GCell)))) (e : PX) (st : St) : Prop := e = .exit 0 ∧ st = f61_l0_e0_J a1 a2 a3 a4 a5 a6 z
def f61_l0_j3_J (a1 : Int) (a2 : List (List GCell)) (a3 : Int) (a4 : Int) (a5 : GPen) (a6 : List GCell) (p57 : List (List GCell)) (p58 : Int) : St := ⟨(up (up (up (up (up (up (fun _ => .un) 12 (.d (.int .i64 p58))) 11 (.d (.int .i64 (a2.length : Int)))) 7 (.r (.msl 64 0 0 p57.length))) 2 (.fn 62 [(.r (.ptr 1 0 0)), (.r (.ptr 2 0 0))])) 1 (.d (.int .i64 a1))) 0 (.r (.msl 0 0 0 a2.length))), (up (up (up (up (up (hB fun _ => 0) 64 ⟨0, some (.own 22 1 ((eSl e_GCell).cells p57))⟩) 0 ⟨0, some (.own 22 1 ((eSl e_GCell).cells a2))⟩) 2 ⟨0, some (.box ((.d (.int .i64 a5.Flags)) :: ((.d (.int .i64 a5.Fore)) :: ((.d (.int .i64 a5.Back)) :: []))))⟩) 3 ⟨0, some (.own 33 4 (e_GCell.cells a6))⟩) 1 ⟨0, some (.box ((.d (.int .i64 a3)) :: ((.d (.int .i64 a4)) :: ((.r (.msl 3 0 0 a6.length)) :: []))))⟩)⟩
noncomputable def f61_l0_j3 (a1 : Int) (a2 : List (List GCell)) (a3 : Int) (a4 : Int) (a5 : GPen) (a6 : List GCell) (p57 : List (List GCell)) (p58 : Int) : Option (((List (List GCell)) × Int) ⊕ (((List (List GCell))))) := ((f62 a3 a4 a5 []).bind fun z16 => ((app? 24 p57 ([z16] : List (List GCell))).bind fun z17 => (some (.inl (z17, (IntKind.i64.wrap (p58 + 1)))))))
theorem f61_l0_j3_ok {base : Orc} {d : Nat} (hd : 6 ≤ d) (a1 : Int) (a2 : List (List GCell)) (a3 : Int) (a4 : Int) (a5 : GPen) (a6 : List GCell) {r : ((List (List GCell)) × Int) ⊕ (((List (List GCell))))} {Q : PX → St → Prop} (hQ : ∀ e st', finL (f61_l0_H a1 a2 a3 a4 a5 a6) (f61_l0_X a1 a2 a3 a4 a5 a6) r e st' → Q e st') (p57 : List (List GCell)) (p58 : Int) (hS : f61_l0_j3 a1 a2 a3 a4 a5 a6 p57 p58 = some r) {st : St} (he : keepSt [0, 1, 2, 7, 11, 12] [(1, .id 1), (3, .id 3), (2, .id 2), (0, .id 0), (64, .id 64)] [] st = f61_l0_j3_J a1 a2 a3 a4 a5 a6 p57 p58) : ZR (lev codes base (d - 1)) Q c61_1 [.blk 1, .seq c61_2] st := by
  refine zrKeep he ?_
  unfold f61_l0_j3 at hS
  refine zrReg ?_
  refine zlRun (n := 2) (j := 2) rfl (by kernel_rfl) ?_
  refine bindE hS (fun z16 hz16 hS => ?_)
  refine zlOp (d := some 35) (op := (.callv (.tmp 34) [])) (g := none) (v := (.r (.msl 288 1 0 z16.length))) (ups := [(288, ⟨1, some (.own 33 4 (e_GCell.cells z16))⟩)]) (j := 3) rfl (by kernel_rfl) (by kernel_rfl) (ev_callv (f := 62) (cs := [(.r (.ptr 1 0 0)), (.r (.ptr 2 0 0))]) (by kernel_rfl) (args := [(.r (.ptr 1 0 0)), (.r (.ptr 2 0 0))]) (l := [(.rptr [.int .i64 a3, .int .i64 a4, .un]), (.rptr (e_GPen.enc a5 ++ []))]) (r := (.r (.own 0 33 4 z16.length (e_GCell.cells z16)))) (by kernel_rfl) (by kernel_rfl) (f62_ok base (d - 1) (dpt hd rfl) a3 a4 a5 [] z16 hz16) (by simp only [free_own e_GCell (fun _ => rfl), free_tup, free_agg, free_nl, free_cs, free_int, free_bool, free_str, free_un, free_ni, free_s0, Bool.and_true, Bool.or_true, Bool.and_self]) (by kernel_rfl) (by kernel_rfl)) ?_
  refine zlOp (d := some 36) (op := (.bsl 22 1 1 [(1, (.slice .none 0 0))] [(0, (1, (.tmp 35)))])) (g := none) (v := (.r (.msl 296 1 0 (([z16] : List (List GCell)).length)))) (ups := [(288, ⟨2, none⟩), (296, ⟨1, some (.own 22 1 ((eSl e_GCell).cells ([z16])))⟩)]) (j := 4) rfl (by kernel_rfl) (by kernel_rfl) ((by kernel_rfl : peval _ _ 36 (ρof _) (.bsl 22 1 1 [(1, (.slice .none 0 0))] [(0, (1, (.tmp 35)))]) = some ((.r (.msl 296 1 0 (([z16] : List (List GCell)).length))), [(288, ⟨2, none⟩), (296, ⟨1, some (.own 22 1 [.sl z16.length (((e_GCell.cells z16).drop (0 * e_GCell.k)).take (z16.length * e_GCell.k))])⟩)])).trans (by simp only [Enc.frz]; rfl)) ?_
  refine bindE hS (fun z17 hz17 hS => ?_)
  refine zlOp (d := some 37) (op := (.app 22 1 24 (.tmp 33) (.tmp 36))) (g := none) (v := (.r (.msl 64 1 0 z17.length))) (ups := [(64, ⟨1, some (.own 22 1 ((eSl e_GCell).cells z17))⟩)]) (j := 5) rfl (by kernel_rfl) (by kernel_rfl) (ev_app (eSl e_GCell) (b := 64) (g := 0) (n := p57.length) (xs := p57) (ys := [z16]) ((congrArg (asL _) (by kernel_rfl : ρof _ (.tmp 36) = (.r (.msl 296 1 0 (([z16] : List (List GCell)).length))))).trans (as_whole (eSl e_GCell) (e := 22) (k := 1) (xs := [z16]) (by kernel_rfl) rfl rfl)) rfl (by kernel_rfl) rfl (by kernel_rfl) rfl hz17) ?_
  refine zlRun (n := 1) (j := 6) rfl (by kernel_rfl) ?_
  refine zlEnd (by kernel_rfl) ?_
  refine zkBlk ?_
  refine zkSeq ?_
  refine zrReg ?_
  refine zlRun (n := 2) (j := 2) rfl (by kernel_rfl) ?_
  refine zlEnd (by kernel_rfl) ?_
  refine zkNil ?_
  exact endQ hS hQ (finL_n (by show keepSt _ _ _ _ = _; kernel_rfl))
def f61_l0_j2_J (a1 : Int) (a2 : List (List GCell)) (a3 : Int) (a4 : Int) (a5 : GPen) (a6 : List GCell) (p53 : List (List GCell)) (p54 : Int) : St := ⟨(up (up (up (up (up (up (fun _ => .un) 12 (.d (.int .i64 p54))) 11 (.d (.int .i64 (a2.length : Int)))) 7 (.r (.msl 64 0 0 p53.length))) 2 (.fn 62 [(.r (.ptr 1 0 0)), (.r (.ptr 2 0 0))])) 1 (.d (.int .i64 a1))) 0 (.r (.msl 0 0 0 a2.length))), (up (up (up (up (up (hB fun _ => 0) 64 ⟨0, some (.own 22 1 ((eSl e_GCell).cells p53))⟩) 0 ⟨0, some (.own 22 1 ((eSl e_GCell).cells a2))⟩) 2 ⟨0, some (.box ((.d (.int .i64 a5.Flags)) :: ((.d (.int .i64 a5.Fore)) :: ((.d (.int .i64 a5.Back)) :: []))))⟩) 3 ⟨0, some (.own 33 4 (e_GCell.cells a6))⟩) 1 ⟨0, some (.box ((.d (.int .i64 a3)) :: ((.d (.int .i64 a4)) :: ((.r (.msl 3 0 0 a6.length)) :: []))))⟩)⟩
noncomputable def f61_l0_j2 (a1 : Int) (a2 : List (List GCell)) (a3 : Int) (a4 : Int) (a5 : GPen) (a6 : List GCell) (p53 : List (List GCell)) (p54 : Int) : Option (((List (List GCell)) × Int) ⊕ (((List (List GCell))))) := (bif (decide (0 ≤ (IntKind.i64.wrap (p54 - a1)))) then (bif (decide ((IntKind.i64.wrap (p54 - a1)) < (a2.length : Int))) then ((inR (IntKind.i64.wrap (p54 - a1)) a2.length).bind fun m18 => ((a2[m18]?).bind fun z19 => ((app? 24 p53 ([z19] : List (List GCell))).bind fun z20 => (some (.inl (z20, (IntKind.i64.wrap (p54 + 1)))))))) else (f61_l0_j3 a1 a2 a3 a4 a5 a6 p53 p54)) else (f61_l0_j3 a1 a2 a3 a4 a5 a6 p53 p54))
theorem f61_l0_j2_ok {base : Orc} {d : Nat} (hd : 6 ≤ d) (a1 : Int) (a2 : List (List GCell)) (a3 : Int) (a4 : Int) (a5 : GPen) (a6 : List GCell) {r : ((List (List GCell)) × Int) ⊕ (((List (List GCell))))} {Q : PX → St → Prop} (hQ : ∀ e st', finL (f61_l0_H a1 a2 a3 a4 a5 a6) (f61_l0_X a1 a2 a3 a4 a5 a6) r e st' → Q e st') (p53 : List (List GCell)) (p54 : Int) (hS : f61_l0_j2 a1 a2 a3 a4 a5 a6 p53 p54 = some r) {st : St} (he : keepSt [0, 1, 2, 7, 11, 12] [(1, .id 1), (3, .id 3), (2, .id 2), (0, .id 0), (64, .id 64)] [] st = f61_l0_j2_J a1 a2 a3 a4 a5 a6 p53 p54) : ZR (lev codes base (d - 1)) Q c61_3 [] st := by
  refine zrKeep he ?_
  unfold f61_l0_j2 at hS
  refine zrSeq ?_
  refine zrBlk ?_
  refine zrSeq ?_
  refine zrReg ?_
  refine zlRun (n := 2) (j := 2) rfl (by kernel_rfl) ?_
  refine zlEnd (by kernel_rfl) ?_
  refine zkSeq ?_
  refine zrSeq ?_
  refine zrReg ?_
  refine zlRun (n := 4) (j := 4) rfl (by kernel_rfl) ?_
  refine zlEnd (by kernel_rfl) ?_
  refine zkSeq ?_
  refine zrSeq ?_
  refine zrReg ?_
  refine zlRun (n := 1) (j := 1) rfl (by kernel_rfl) ?_
  refine zlBool (d := 19) (op := (.cmpI .geq (.tmp 18) (.const (.int .i64 0)))) (g := none) (j := 2) (decide (0 ≤ (IntKind.i64.wrap (p54 - a1)))) rfl (by kernel_rfl) (by kernel_rfl) (by kernel_rfl) (fun hc => ?_) (fun hc => ?_)
  · replace hS := cond_t hc hS
    refine zlRun (n := 4) (j := 6) rfl (by kernel_rfl) ?_
    refine zlBool (d := 24) (op := (.cmpI .lss (.tmp 21) (.tmp 23))) (g := (some (20, true))) (j := 7) (decide ((IntKind.i64.wrap (p54 - a1)) < (a2.length : Int))) rfl (by kernel_rfl) (by kernel_rfl) (by kernel_rfl) (fun hc => ?_) (fun hc => ?_)
    · replace hS := cond_t hc hS
      refine zlRun (n := 1) (j := 8) rfl (by kernel_rfl) ?_
      refine zlEnd (by kernel_rfl) ?_
      refine zkSeq ?_
      refine zrCondT (by kernel_rfl) ?_
      refine zrReg ?_
      refine zlRun (n := 3) (j := 3) rfl (by kernel_rfl) ?_
      refine bindE hS (fun m18 hm18 hS => ?_)
      refine zlOp (d := some 29) (op := (.ixS 22 1 (.tmp 27) (.tmp 28))) (g := none) (v := (.r (.ptr 0 0 ((0 + m18) * 1)))) (ups := []) (j := 4) rfl (by kernel_rfl) (by kernel_rfl) (ev_ixM (kk := .i64) (b := 0) (g := 0) (l := 0) (n := a2.length) (j := (IntKind.i64.wrap (p54 - a1))) (cs := (eSl e_GCell).cells a2) (by kernel_rfl) (by kernel_rfl) (by kernel_rfl) hm18) ?_
      refine bindE hS (fun z19 hz19 hS => ?_)
      refine zlOp (d := some 30) (op := (.load .false 1 (.tmp 29))) (g := none) (v := (.d (.sl z19.length (e_GCell.cells z19)))) (ups := []) (j := 5) rfl (by kernel_rfl) (by kernel_rfl) (ev_loadM (eSl e_GCell) (b := 0) (g := 0) (o := (0 + m18) * 1) (e := 22) (k := 1) (m := m18) (fo := 0) (xs := a2) (by kernel_rfl) (by kernel_rfl) (by rw [Nat.zero_add]; rfl) hz19 (by kernel_rfl) (by kernel_rfl) (by kernel_rfl)) ?_
      refine zlRun (n := 1) (j := 6) rfl (by kernel_rfl) ?_
      refine bindE hS (fun z20 hz20 hS => ?_)
      refine zlOp (d := some 32) (op := (.app 22 1 24 (.tmp 26) (.tmp 31))) (g := none) (v := (.r (.msl 64 1 0 z20.length))) (ups := [(64, ⟨1, some (.own 22 1 ((eSl e_GCell).cells z20))⟩)]) (j := 7) rfl (by kernel_rfl) (by kernel_rfl) (ev_app (eSl e_GCell) (b := 64) (g := 0) (n := p53.length) (xs := p53) (ys := [z19]) ((congrArg (asL _) (by kernel_rfl : ρof _ (.tmp 31) = (.r (.msl 256 1 0 (([z19] : List (List GCell)).length))))).trans (as_whole (eSl e_GCell) (e := 22) (k := 1) (xs := [z19]) (by kernel_rfl) rfl rfl)) rfl (by kernel_rfl) rfl (by kernel_rfl) rfl hz20) ?_
      refine zlRun (n := 1) (j := 8) rfl (by kernel_rfl) ?_
      refine zlEnd (by kernel_rfl) ?_
      refine zkBlk ?_
      refine zkSeq ?_
      refine zrReg ?_
      refine zlRun (n := 2) (j := 2) rfl (by kernel_rfl) ?_
      refine zlEnd (by kernel_rfl) ?_
      refine zkNil ?_
      exact endQ hS hQ (finL_n (by show keepSt _ _ _ _ = _; kernel_rfl))
    · replace hS := cond_f hc hS
      refine zlRun (n := 1) (j := 8) rfl (by kernel_rfl) ?_
      refine zlEnd (by kernel_rfl) ?_
      refine zkSeq ?_
      refine zrCondF (by kernel_rfl) ?_
      exact f61_l0_j3_ok hd a1 a2 a3 a4 a5 a6 hQ p53 p54 hS (by kernel_rfl)
  · replace hS := cond_f hc hS
    refine zlRun (n := 6) (j := 8) rfl (by kernel_rfl) ?_
    refine zlEnd (by kernel_rfl) ?_
    refine zkSeq ?_
    refine zrCondF (by kernel_rfl) ?_
    exact f61_l0_j3_ok hd a1 a2 a3 a4 a5 a6 hQ p53 p54 hS (by kernel_rfl)
def f61_l0_j1_J (a1 : Int) (a2 : List (List GCell)) (a3 : Int) (a4 : Int) (a5 : GPen) (a6 : List GCell) (p50 : List (List GCell)) (p51 : Int) (p52 : Bool) : St := ⟨(up (up (up (up (up (up (up (fun _ => .un) 13 (.d (.bool p52))) 12 (.d (.int .i64 p51))) 11 (.d (.int .i64 (a2.length : Int)))) 7 (.r (.msl 64 0 0 p50.length))) 2 (.fn 62 [(.r (.ptr 1 0 0)), (.r (.ptr 2 0 0))])) 1 (.d (.int .i64 a1))) 0 (.r (.msl 0 0 0 a2.length))), (up (up (up (up (up (hB fun _ => 0) 64 ⟨0, some (.own 22 1 ((eSl e_GCell).cells p50))⟩) 0 ⟨0, some (.own 22 1 ((eSl e_GCell).cells a2))⟩) 2 ⟨0, some (.box ((.d (.int .i64 a5.Flags)) :: ((.d (.int .i64 a5.Fore)) :: ((.d (.int .i64 a5.Back)) :: []))))⟩) 3 ⟨0, some (.own 33 4 (e_GCell.cells a6))⟩) 1 ⟨0, some (.box ((.d (.int .i64 a3)) :: ((.d (.int .i64 a4)) :: ((.r (.msl 3 0 0 a6.length)) :: []))))⟩)⟩
noncomputable def f61_l0_j1 (a1 : Int) (a2 : List (List GCell)) (a3 : Int) (a4 : Int) (a5 : GPen) (a6 : List GCell) (p50 : List (List GCell)) (p51 : Int) (p52 : Bool) : Option (((List (List GCell)) × Int) ⊕ (((List (List GCell))))) := (bif p52 then (f61_l0_j2 a1 a2 a3 a4 a5 a6 p50 p51) else (some (.inr p50)))
theorem f61_l0_j1_ok {base : Orc} {d : Nat} (hd : 6 ≤ d) (a1 : Int) (a2 : List (List GCell)) (a3 : Int) (a4 : Int) (a5 : GPen) (a6 : List GCell) {r : ((List (List GCell)) × Int) ⊕ (((List (List GCell))))} {Q : PX → St → Prop} (hQ : ∀ e st', finL (f61_l0_H a1 a2 a3 a4 a5 a6) (f61_l0_X a1 a2 a3 a4 a5 a6) r e st' → Q e st') (p50 : List (List GCell)) (p51 : Int) (p52 : Bool) (hS : f61_l0_j1 a1 a2 a3 a4 a5 a6 p50 p51 p52 = some r) {st : St} (he : keepSt [0, 1, 2, 7, 11, 12, 13] [(1, .id 1), (3, .id 3), (2, .id 2), (0, .id 0), (64, .id 64)] [] st = f61_l0_j1_J a1 a2 a3 a4 a5 a6 p50 p51 p52) : ZR (lev codes base (d - 1)) Q c61_4 [] st := by
  refine zrKeep he ?_
  unfold f61_l0_j1 at hS
  refine zrSeq ?_
  refine zrSplit 13 p52 (by kernel_rfl) (fun hc => ?_) (fun hc => ?_)
  · replace hS := cond_t hc hS
    refine zrCondT (by kernel_rfl) ?_
    refine zrSkip ?_
    refine zkSeq ?_
    exact f61_l0_j2_ok hd a1 a2 a3 a4 a5 a6 hQ p50 p51 hS (by kernel_rfl)
  · replace hS := cond_f hc hS
    refine zrCondF (by kernel_rfl) ?_
    refine zrKeep (J := f61_l0_e0_J a1 a2 a3 a4 a5 a6 p50) (by kernel_rfl) ?_
    refine zrExit ?_
    refine zkSeqX ?_
    refine zkNil ?_
    exact endQ hS hQ (finL_x (by intro h; cases h) (by show _ = _ ∧ _ = _; exact ⟨rfl, rfl⟩))
noncomputable def f61_l0 (a1 : Int) (a2 : List (List GCell)) (a3 : Int) (a4 : Int) (a5 : GPen) (a6 : List GCell) (x : (List (List GCell)) × Int) : Option (((List (List GCell)) × Int) ⊕ (((List (List GCell))))) := (bif (decide (x.2 < (a2.length : Int))) then (f61_l0_j1 a1 a2 a3 a4 a5 a6 x.1 x.2 true) else (f61_l0_j1 a1 a2 a3 a4 a5 a6 x.1 x.2 false))
theorem f61_l0_ok {base : Orc} {d : Nat} (hd : 6 ≤ d) (a1 : Int) (a2 : List (List GCell)) (a3 : Int) (a4 : Int) (a5 : GPen) (a6 : List GCell) {r : ((List (List GCell)) × Int) ⊕ (((List (List GCell))))} {Q : PX → St → Prop} (hQ : ∀ e st', finL (f61_l0_H a1 a2 a3 a4 a5 a6) (f61_l0_X a1 a2 a3 a4 a5 a6) r e st' → Q e st') {x : (List (List GCell)) × Int} (hS : f61_l0 a1 a2 a3 a4 a5 a6 x = some r) {st : St} (he : f61_l0_H a1 a2 a3 a4 a5 a6 x st) : ZR (lev codes base (d - 1)) Q c61_5 [] st := by
  refine zrKeep he ?_
  unfold f61_l0 at hS
  refine zrSeq ?_
  refine zrReg ?_
  refine zlBool (d := 13) (op := (.cmpI .lss (.tmp 12) (.tmp 11))) (g := none) (j := 1) (decide (x.2 < (a2.length : Int))) rfl (by kernel_rfl) (by kernel_rfl) (by kernel_rfl) (fun hc => ?_) (fun hc => ?_)
  · replace hS := cond_t hc hS
    refine zlEnd (by kernel_rfl) ?_
    refine zkSeq ?_
    exact f61_l0_j1_ok hd a1 a2 a3 a4 a5 a6 hQ x.1 x.2 true hS (by kernel_rfl)
  · replace hS := cond_f hc hS
    refine zlEnd (by kernel_rfl) ?_
    refine zkSeq ?_
    exact f61_l0_j1_ok hd a1 a2 a3 a4 a5 a6 hQ x.1 x.2 false hS (by kernel_rfl)
noncomputable def f61 (a1 : Int) (a2 : List (List GCell)) (a3 : Int) (a4 : Int) (a5 : GPen) (a6 : List GCell) : Option (Int × Int × (List GCell) × GPen × (List (List GCell)) × (List (List GCell))) := ((loopO (f61_l0 a1 a2 a3 a4 a5 a6) ([], 0)).bind fun z21 => (some (a3, a4, a6, a5, a2, z21)))
theorem f61_ok (base : Orc) (d : Nat) (hd : 6 ≤ d) (a1 : Int) (a2 : List (List GCell)) (a3 : Int) (a4 : Int) (a5 : GPen) (a6 : List GCell) (r : Int × Int × (List GCell) × GPen × (List (List GCell)) × (List (List GCell))) (hS : f61 a1 a2 a3 a4 a5 a6 = some r) : lev codes base d 61 [(.r (.msl 0 0 0 a2.length)), (.d (.int .i64 a1)), (.fn 62 [(.r (.ptr 1 0 0)), (.r (.ptr 2 0 0))])] [(.own 22 1 ((eSl e_GCell).cells a2)), (.box ((.d (.int .i64 a3)) :: ((.d (.int .i64 a4)) :: ((.r (.msl 3 0 0 a6.length)) :: [])))), (.box ((.d (.int .i64 a5.Flags)) :: ((.d (.int .i64 a5.Fore)) :: ((.d (.int .i64 a5.Back)) :: [])))), (.own 33 4 (e_GCell.cells a6))] = some ((.r (.own 0 22 1 r.2.2.2.2.2.length ((eSl e_GCell).cells r.2.2.2.2.2))), [(.own 22 1 ((eSl e_GCell).cells r.2.2.2.2.1)), (.box ((.d (.int .i64 r.1)) :: ((.d (.int .i64 r.2.1)) :: ((.r (.msl 3 0 0 r.2.2.1.length)) :: [])))), (.box ((.d (.int .i64 r.2.2.2.1.Flags)) :: ((.d (.int .i64 r.2.2.2.1.Fore)) :: ((.d (.int .i64 r.2.2.2.1.Back)) :: [])))), (.own 33 4 (e_GCell.cells r.2.2.1)), .box []]) := by
  refine lev_go codes61 rfl rfl (Nat.le_trans (Nat.le_of_ble_eq_true rfl) hd) fun Q hQ => ?_
  unfold f61 at hS
  show ZR _ Q c61_b [] _
  replace hQ : ∀ e st', f61_Q r e st' → Q e st' := hQ
  refine zrSeq ?_
  refine zrReg ?_
  refine zlRun (n := 1) (j := 1) rfl (by kernel_rfl) ?_
  refine zlEnd (by kernel_rfl) ?_
  refine zkSeq ?_
  refine zrSeq ?_
  refine zrReg ?_
  refine zlRun (n := 1) (j := 1) rfl (by kernel_rfl) ?_
  refine zlEnd (by kernel_rfl) ?_
  refine zkSeq ?_
  refine zrSeq ?_
  refine zrSeq ?_
  refine zrReg ?_
  refine zlRun (n := 3) (j := 3) rfl (by kernel_rfl) ?_
  refine zlEnd (by kernel_rfl) ?_
  refine zkSeq ?_
  refine zrBlk ?_
  refine bindE hS (fun z21 hz21 hS => ?_)
  refine zrLoop (f61_l0_H a1 a2 a3 a4 a5 a6) (f61_l0_X a1 a2 a3 a4 a5 a6) (fun x st r Q h0 hS hQ => f61_l0_ok hd a1 a2 a3 a4 a5 a6 hQ hS h0) (x := ([], 0)) (z := z21) (by show keepSt _ _ _ _ = _; kernel_rfl) hz21 ?_
  intro e st' _ hX
  obtain ⟨rfl, rfl⟩ : _ ∧ _ := hX
  refine zkBlkX ?_
  refine zkSeq ?_
  refine zrSeq ?_
  refine zrReg ?_
  refine zlRun (n := 2) (j := 2) rfl (by kernel_rfl) ?_
  refine zlEnd (by kernel_rfl) ?_
  refine zkSeq ?_
  refine zrRet ?_
  refine zkNil ?_
  exact endQ hS hQ (fRetX (by kernel_rfl) (by kernel_rfl : finSt c61.fin _ = f61_fin a3 a4 a6 a5 a2 z21) (by kernel_rfl) (f61_out a3 a4 a6 a5 a2 z21))
end Go.Proofs.Ytipipahbfakcaaa.Pm
