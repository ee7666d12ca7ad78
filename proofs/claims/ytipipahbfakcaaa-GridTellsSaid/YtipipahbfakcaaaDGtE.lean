/- Typed functions, and that the codes are these. Printed by dec.py. -/
import Derived.Test.YtipipahbfakcaaaDGtD
namespace Go.Proofs.Ytipipahbfakcaaa.Pm
set_option maxRecDepth 1000000
set_option maxHeartbeats 20000000
set_option linter.unusedVariables false
/- farwriter/grid.PutIn -/
def f30_fin (p8 : List GCell) : St := ⟨(up (fun _ => .un) 2000000 .un), (up (hB fun _ => 0) 0 ⟨0, some (.own 33 4 (e_GCell.cells p8))⟩)⟩
theorem f30_out (p8 : List GCell) : outR (f30_fin p8) 1 c30.res = some ((.tup []), [(.own 33 4 (e_GCell.cells p8))]) := by
  kernel_rfl
def f30_Q (r : (List GCell)) (e : PX) (st : St) : Prop := DoneF c30 1 ((.tup []), [(.own 33 4 (e_GCell.cells r)), .box []]) e st
noncomputable def f30 (a1 : Int) (a2 : Int) (a3 : Int) (a4 : Int) (a5 : Int) (a6 : GPen) (a7 : List GCell) : Option ((List GCell)) := ((f33v1 a1 a2 a3 a7).bind fun z12 => ((chk (decide (z12.1.length = a7.length))).bind fun z13 => ((inR a4 z12.2.2).bind fun m14 => ((z12.1[(z12.2.1 + m14)]?).bind fun z15 => ((some (z12.1.set (z12.2.1 + m14) (GCell.mk a5 a6))).bind fun z16 => ((f28 a5).bind fun z18 => (bif (decide (z18 = 2)) then ((inR (IntKind.i64.wrap (a4 + 1)) z12.2.2).bind fun m19 => ((z16[(z12.2.1 + m19)]?).bind fun z20 => ((some (z16.set (z12.2.1 + m19) (GCell.mk 0 a6))).bind fun z21 => ((f46 z12.2.1 z12.2.2 z21).bind fun z22 => ((chk (decide (z22.length = z21.length))).bind fun z23 => (some z22)))))) else ((f46 z12.2.1 z12.2.2 z16).bind fun z24 => ((chk (decide (z24.length = z16.length))).bind fun z25 => (some z24))))))))))
theorem f30_ok (base : Orc) (d : Nat) (hd : 5 ≤ d) (a1 : Int) (a2 : Int) (a3 : Int) (a4 : Int) (a5 : Int) (a6 : GPen) (a7 : List GCell) (r : (List GCell)) (hS : f30 a1 a2 a3 a4 a5 a6 a7 = some r) : lev codes base d 30 [(.agg ((.d (.int .i64 a1)) :: ((.d (.int .i64 a2)) :: ((.r (.msl 0 0 0 a7.length)) :: [])))), (.d (.int .i64 a3)), (.d (.int .i64 a4)), (.d (.int .i64 a5)), (.agg ((.d (.int .i64 a6.Flags)) :: ((.d (.int .i64 a6.Fore)) :: ((.d (.int .i64 a6.Back)) :: []))))] [(.own 33 4 (e_GCell.cells a7))] = some ((.tup []), [(.own 33 4 (e_GCell.cells r)), .box []]) := by
  refine lev_go codes30 rfl rfl (Nat.le_trans (Nat.le_of_ble_eq_true rfl) hd) fun Q hQ => ?_
  unfold f30 at hS
  show ZR _ Q c30_b [] _
  replace hQ : ∀ e st', f30_Q r e st' → Q e st' := hQ
  refine zrSeq ?_
  refine zrReg ?_
  refine zlRun (n := 2) (j := 2) rfl (by kernel_rfl) ?_
  refine zlEnd (by kernel_rfl) ?_
  refine zkSeq ?_
  refine zrSeq ?_
  refine zrReg ?_
  refine zlRun (n := 2) (j := 2) rfl (by kernel_rfl) ?_
  refine bindE hS (fun z12 hz12 hS => ?_)
  refine bindE hS (fun z13 hz13 hS => ?_)
  refine zlOp (d := some 13) (op := (.callr 33 [(.tmp 11), (.tmp 12)])) (g := none) (v := (.r (.msl 0 0 z12.2.1 z12.2.2))) (ups := [(0, ⟨0, some (.own 33 4 (e_GCell.cells z12.1))⟩)]) (j := 3) rfl (by kernel_rfl) (by kernel_rfl) (ev_callrX (args := [(.agg ((.d (.int .i64 a1)) :: ((.d (.int .i64 a2)) :: ((.r (.msl 0 0 0 a7.length)) :: [])))), (.d (.int .i64 a3))]) (ids := [0]) (bs := [(.own 33 4 (e_GCell.cells a7))]) (l := [(.agg ((.d (.int .i64 a1)) :: ((.d (.int .i64 a2)) :: ((.r (.msl 0 0 0 a7.length)) :: [])))), (.d (.int .i64 a3))]) (bt := [(.own 33 4 (e_GCell.cells a7))]) (r := (.r (.msl 0 0 z12.2.1 z12.2.2))) (bs' := [(.own 33 4 (e_GCell.cells z12.1)), .box []]) (by kernel_rfl) (by kernel_rfl) (by kernel_rfl) (by kernel_rfl) (by kernel_rfl) (f33v1_ok base (d - 1) (dpt hd rfl) a1 a2 a3 a7 z12 hz12) (by kernel_rfl) (sm_own e_GCell (e1 := 33) (k1 := 4) (xs := a7) (ys := z12.1) (by kernel_rfl) hz13 sm_nil) (by kernel_rfl) (by kernel_rfl)) ?_
  have lz13 : a7.length = z12.1.length := (of_decide_eq_true (chk_t hz13)).symm
  skip
  try rw [lz13]
  refine zlRun (n := 1) (j := 4) rfl (by kernel_rfl) ?_
  refine zlEnd (by kernel_rfl) ?_
  refine zkSeq ?_
  refine zrSeq ?_
  refine zrReg ?_
  refine zlRun (n := 5) (j := 5) rfl (by kernel_rfl) ?_
  refine bindE hS (fun m14 hm14 hS => ?_)
  refine zlOp (d := some 19) (op := (.ixS 33 4 (.tmp 14) (.tmp 15))) (g := none) (v := (.r (.ptr 0 0 ((z12.2.1 + m14) * 4)))) (ups := []) (j := 6) rfl (by kernel_rfl) (by kernel_rfl) (ev_ixM (kk := .i64) (b := 0) (g := 0) (l := z12.2.1) (n := z12.2.2) (j := a4) (cs := e_GCell.cells z12.1) (by kernel_rfl) (by kernel_rfl) (by kernel_rfl) hm14) ?_
  refine bindE hS (fun z15 hz15 hS => ?_)
  refine bindE hS (fun z16 hz16 hS => ?_)
  refine zlOp (d := none) (op := (.store 4 (.tmp 19) (.tmp 18))) (g := none) (v := .un) (ups := [(0, ⟨0, some (.own 33 4 (e_GCell.cells (z12.1.set (z12.2.1 + m14) (GCell.mk a5 a6))))⟩)]) (j := 7) rfl (by kernel_rfl) (by kernel_rfl) (ev_storeM e_GCell (b := 0) (g := 0) (o := (z12.2.1 + m14) * 4) (e := 33) (k := 4) (m := (z12.2.1 + m14)) (fo := 0) (xs := z12.1) (z := z15) (z' := (GCell.mk a5 a6)) (by kernel_rfl) (new := ((.d (.int .i64 a5)) :: ((.d (.int .i64 a6.Flags)) :: ((.d (.int .i64 a6.Fore)) :: ((.d (.int .i64 a6.Back)) :: []))))) (ds := [.int .i64 a5, .int .i64 a6.Flags, .int .i64 a6.Fore, .int .i64 a6.Back]) (by kernel_rfl) (by kernel_rfl) (by kernel_rfl) rfl hz15 (by kernel_rfl) (by kernel_rfl) (by kernel_rfl)) ?_
  have ez16 := Option.some.inj hz16
  have lz16 : z12.1.length = z16.length := by rw [← ez16, List.length_set]
  rw [ez16]
  skip
  try rw [lz16]
  refine zlEnd (by kernel_rfl) ?_
  refine zkSeq ?_
  refine zrSeq ?_
  refine zrSeq ?_
  refine zrReg ?_
  refine zlRun (n := 1) (j := 1) rfl (by kernel_rfl) ?_
  refine bindE hS (fun z18 hz18 hS => ?_)
  refine zlOp (d := some 21) (op := (.call 28 [(.tmp 20)])) (g := none) (v := (.d (.int .i64 z18))) (ups := []) (j := 2) rfl (by kernel_rfl) (by kernel_rfl) (ev_call (args := [(.d (.int .i64 a5))]) (l := [(.d (.int .i64 a5))]) (r := (.d (.int .i64 z18))) (by kernel_rfl) (by kernel_rfl) (f28_ok base (d - 1) (dpt hd rfl) a5 z18 hz18) (by kernel_rfl) (by kernel_rfl) (by kernel_rfl)) ?_
  refine zlBool (d := 22) (op := (.cmpI .eql (.tmp 21) (.const (.int .i64 2)))) (g := none) (j := 3) (decide (z18 = 2)) rfl (by kernel_rfl) (by kernel_rfl) (by kernel_rfl) (fun hc => ?_) (fun hc => ?_)
  · replace hS := cond_t hc hS
    refine zlEnd (by kernel_rfl) ?_
    refine zkSeq ?_
    refine zrCondT (by kernel_rfl) ?_
    refine zrReg ?_
    refine zlRun (n := 5) (j := 5) rfl (by kernel_rfl) ?_
    refine bindE hS (fun m19 hm19 hS => ?_)
    refine zlOp (d := some 28) (op := (.ixS 33 4 (.tmp 23) (.tmp 25))) (g := none) (v := (.r (.ptr 0 0 ((z12.2.1 + m19) * 4)))) (ups := []) (j := 6) rfl (by kernel_rfl) (by kernel_rfl) (ev_ixM (kk := .i64) (b := 0) (g := 0) (l := z12.2.1) (n := z12.2.2) (j := (IntKind.i64.wrap (a4 + 1))) (cs := e_GCell.cells z16) (by kernel_rfl) (by kernel_rfl) (by kernel_rfl) hm19) ?_
    refine bindE hS (fun z20 hz20 hS => ?_)
    refine bindE hS (fun z21 hz21 hS => ?_)
    refine zlOp (d := none) (op := (.store 4 (.tmp 28) (.tmp 27))) (g := none) (v := .un) (ups := [(0, ⟨0, some (.own 33 4 (e_GCell.cells (z16.set (z12.2.1 + m19) (GCell.mk 0 a6))))⟩)]) (j := 7) rfl (by kernel_rfl) (by kernel_rfl) (ev_storeM e_GCell (b := 0) (g := 0) (o := (z12.2.1 + m19) * 4) (e := 33) (k := 4) (m := (z12.2.1 + m19)) (fo := 0) (xs := z16) (z := z20) (z' := (GCell.mk 0 a6)) (by kernel_rfl) (new := ((.d (.int .i64 0)) :: ((.d (.int .i64 a6.Flags)) :: ((.d (.int .i64 a6.Fore)) :: ((.d (.int .i64 a6.Back)) :: []))))) (ds := [.int .i64 0, .int .i64 a6.Flags, .int .i64 a6.Fore, .int .i64 a6.Back]) (by kernel_rfl) (by kernel_rfl) (by kernel_rfl) rfl hz20 (by kernel_rfl) (by kernel_rfl) (by kernel_rfl)) ?_
    have ez21 := Option.some.inj hz21
    have lz21 : z16.length = z21.length := by rw [← ez21, List.length_set]
    rw [ez21]
    skip
    try rw [lz21]
    refine zlEnd (by kernel_rfl) ?_
    refine zkSeq ?_
    refine zrReg ?_
    refine zlRun (n := 1) (j := 1) rfl (by kernel_rfl) ?_
    refine bindE hS (fun z22 hz22 hS => ?_)
    refine bindE hS (fun z23 hz23 hS => ?_)
    refine zlOp (d := some 30) (op := (.callr 46 [(.tmp 29)])) (g := none) (v := (.tup [])) (ups := [(0, ⟨0, some (.own 33 4 (e_GCell.cells z22))⟩)]) (j := 2) rfl (by kernel_rfl) (by kernel_rfl) (ev_callrX (args := [(.r (.msl 0 0 z12.2.1 z12.2.2))]) (ids := [0]) (bs := [(.own 33 4 (e_GCell.cells z21))]) (l := [(.r (.msl 0 0 z12.2.1 z12.2.2))]) (bt := [(.own 33 4 (e_GCell.cells z21))]) (r := (.tup [])) (bs' := [(.own 33 4 (e_GCell.cells z22)), .box []]) (by kernel_rfl) (by kernel_rfl) (by kernel_rfl) (by kernel_rfl) (by kernel_rfl) (f46_ok base (d - 1) (dpt hd rfl) z12.2.1 z12.2.2 z21 z22 hz22) (by kernel_rfl) (sm_own e_GCell (e1 := 33) (k1 := 4) (xs := z21) (ys := z22) (by kernel_rfl) hz23 sm_nil) (by kernel_rfl) (by kernel_rfl)) ?_
    have lz23 : z21.length = z22.length := (of_decide_eq_true (chk_t hz23)).symm
    skip
    try rw [lz23]
    refine zlEnd (by kernel_rfl) ?_
    refine zkNil ?_
    exact endQ hS hQ (fNormX (by kernel_rfl) (by kernel_rfl : finSt c30.fin _ = f30_fin z22) (by kernel_rfl) (f30_out z22))
  · replace hS := cond_f hc hS
    refine zlEnd (by kernel_rfl) ?_
    refine zkSeq ?_
    refine zrCondF (by kernel_rfl) ?_
    refine zrSkip ?_
    refine zkSeq ?_
    refine zrReg ?_
    refine zlRun (n := 1) (j := 1) rfl (by kernel_rfl) ?_
    refine bindE hS (fun z24 hz24 hS => ?_)
    refine bindE hS (fun z25 hz25 hS => ?_)
    refine zlOp (d := some 30) (op := (.callr 46 [(.tmp 29)])) (g := none) (v := (.tup [])) (ups := [(0, ⟨0, some (.own 33 4 (e_GCell.cells z24))⟩)]) (j := 2) rfl (by kernel_rfl) (by kernel_rfl) (ev_callrX (args := [(.r (.msl 0 0 z12.2.1 z12.2.2))]) (ids := [0]) (bs := [(.own 33 4 (e_GCell.cells z16))]) (l := [(.r (.msl 0 0 z12.2.1 z12.2.2))]) (bt := [(.own 33 4 (e_GCell.cells z16))]) (r := (.tup [])) (bs' := [(.own 33 4 (e_GCell.cells z24)), .box []]) (by kernel_rfl) (by kernel_rfl) (by kernel_rfl) (by kernel_rfl) (by kernel_rfl) (f46_ok base (d - 1) (dpt hd rfl) z12.2.1 z12.2.2 z16 z24 hz24) (by kernel_rfl) (sm_own e_GCell (e1 := 33) (k1 := 4) (xs := z16) (ys := z24) (by kernel_rfl) hz25 sm_nil) (by kernel_rfl) (by kernel_rfl)) ?_
    have lz25 : z16.length = z24.length := (of_decide_eq_true (chk_t hz25)).symm
    skip
    try rw [lz25]
    refine zlEnd (by kernel_rfl) ?_
    refine zkNil ?_
    exact endQ hS hQ (fNormX (by kernel_rfl) (by kernel_rfl : finSt c30.fin _ = f30_fin z24) (by kernel_rfl) (f30_out z24))
/- farwriter/grid.Put -/
def f9_fin (p26 : Int) (p27 : Int) (p28 : List GCell) (p29 : Int) : St := ⟨(up (up (fun _ => .un) 11 (.d (.int .i64 p29))) 10 (.r (.ptr 88 0 0))), (up (up (hB fun _ => 0) 352 ⟨0, some (.own 33 4 (e_GCell.cells p28))⟩) 88 ⟨0, some (.box ((.d (.int .i64 p26)) :: ((.d (.int .i64 p27)) :: ((.r (.msl 352 0 0 p28.length)) :: []))))⟩)⟩
theorem f9_out (p26 : Int) (p27 : Int) (p28 : List GCell) (p29 : Int) : outR (f9_fin p26 p27 p28 p29) 0 c9.res = some ((.tup [(.agg ((.d (.int .i64 p26)) :: ((.d (.int .i64 p27)) :: ((.r (.own 0 33 4 p28.length (e_GCell.cells p28))) :: [])))), (.d (.int .i64 p29))]), []) := by
  exact out_of (ids := []) (ids' := [352]) (l := [(.agg ((.d (.int .i64 p26)) :: ((.d (.int .i64 p27)) :: ((.r (.msl 352 0 0 p28.length)) :: [])))), (.d (.int .i64 p29))]) (by kernel_rfl) (by kernel_rfl) (o_tup (o_cons (o_agg (o_cons rfl (o_cons rfl (o_cons (o_own e_GCell (e := 33) (k := 4) (xs := p28) (by kernel_rfl) rfl rfl rfl rfl) o_nil)))) (o_cons rfl o_nil)))
def f9_Q (r : Int × Int × (List GCell) × Int) (e : PX) (st : St) : Prop := DoneF c9 0 ((.tup [(.agg ((.d (.int .i64 r.1)) :: ((.d (.int .i64 r.2.1)) :: ((.r (.own 0 33 4 r.2.2.1.length (e_GCell.cells r.2.2.1))) :: [])))), (.d (.int .i64 r.2.2.2))]), []) e st
def f9_j1_J (a1 : GGrid) (a2 : Int) (a3 : Int) (a4 : Int) (a5 : GPen) (p59 : Int) (p60 : Int) (p61 : List GCell) : St := ⟨(up (up (up (up (up (up (fun _ => .un) 10 (.r (.ptr 88 0 0))) 9 (.r (.ptr 80 0 0))) 5 (.r (.ptr 48 0 0))) 3 (.d (.int .i64 a4))) 2 (.d (.int .i64 a3))) 1 (.d (.int .i64 a2))), (up (up (up (up (hB fun _ => 0) 88 ⟨0, some (.box ((.d (.int .i64 0)) :: ((.d (.int .i64 0)) :: ((.d (.sl ([] : List GCell).length (e_GCell.cells ([])))) :: []))))⟩) 80 ⟨0, some (.box ((.d (.int .i64 a5.Flags)) :: ((.d (.int .i64 a5.Fore)) :: ((.d (.int .i64 a5.Back)) :: []))))⟩) 352 ⟨0, some (.own 33 4 (e_GCell.cells p61))⟩) 48 ⟨0, some (.box ((.d (.int .i64 p59)) :: ((.d (.int .i64 p60)) :: ((.r (.msl 352 0 0 p61.length)) :: []))))⟩)⟩
noncomputable def f9_j1 (a1 : GGrid) (a2 : Int) (a3 : Int) (a4 : Int) (a5 : GPen) (p59 : Int) (p60 : Int) (p61 : List GCell) : Option (Int × Int × (List GCell) × Int) := ((f30 p59 p60 a2 a3 a4 a5 p61).bind fun z17 => ((chk (decide (z17.length = p61.length))).bind fun z18 => (some (p59, p60, z17, 0))))
theorem f9_j1_ok {base : Orc} {d : Nat} (hd : 6 ≤ d) (a1 : GGrid) (a2 : Int) (a3 : Int) (a4 : Int) (a5 : GPen) {r : Int × Int × (List GCell) × Int} {Q : PX → St → Prop} (hQ : ∀ e st', f9_Q r e st' → Q e st') (p59 : Int) (p60 : Int) (p61 : List GCell) (hS : f9_j1 a1 a2 a3 a4 a5 p59 p60 p61 = some r) {st : St} (he : keepSt [1, 2, 3, 5, 9, 10] [(48, .id 48), (352, .id 352), (80, .id 80), (88, .id 88)] [] st = f9_j1_J a1 a2 a3 a4 a5 p59 p60 p61) : ZR (lev codes base (d - 1)) Q c9_1 [] st := by
  refine zrKeep he ?_
  unfold f9_j1 at hS
  refine zrSeq ?_
  refine zrReg ?_
  refine zlRun (n := 5) (j := 5) rfl (by kernel_rfl) ?_
  refine bindE hS (fun z17 hz17 hS => ?_)
  refine bindE hS (fun z18 hz18 hS => ?_)
  refine zlOp (d := some 55) (op := (.callr 30 [(.tmp 50), (.tmp 51), (.tmp 52), (.tmp 53), (.tmp 54)])) (g := none) (v := (.tup [])) (ups := [(352, ⟨0, some (.own 33 4 (e_GCell.cells z17))⟩)]) (j := 6) rfl (by kernel_rfl) (by kernel_rfl) (ev_callrX (args := [(.agg ((.d (.int .i64 p59)) :: ((.d (.int .i64 p60)) :: ((.r (.msl 352 0 0 p61.length)) :: [])))), (.d (.int .i64 a2)), (.d (.int .i64 a3)), (.d (.int .i64 a4)), (.agg ((.d (.int .i64 a5.Flags)) :: ((.d (.int .i64 a5.Fore)) :: ((.d (.int .i64 a5.Back)) :: []))))]) (ids := [352]) (bs := [(.own 33 4 (e_GCell.cells p61))]) (l := [(.agg ((.d (.int .i64 p59)) :: ((.d (.int .i64 p60)) :: ((.r (.msl 0 0 0 p61.length)) :: [])))), (.d (.int .i64 a2)), (.d (.int .i64 a3)), (.d (.int .i64 a4)), (.agg ((.d (.int .i64 a5.Flags)) :: ((.d (.int .i64 a5.Fore)) :: ((.d (.int .i64 a5.Back)) :: []))))]) (bt := [(.own 33 4 (e_GCell.cells p61))]) (r := (.tup [])) (bs' := [(.own 33 4 (e_GCell.cells z17)), .box []]) (by kernel_rfl) (by kernel_rfl) (by kernel_rfl) (by kernel_rfl) (by kernel_rfl) (f30_ok base (d - 1) (dpt hd rfl) p59 p60 a2 a3 a4 a5 p61 z17 hz17) (by kernel_rfl) (sm_own e_GCell (e1 := 33) (k1 := 4) (xs := p61) (ys := z17) (by kernel_rfl) hz18 sm_nil) (by kernel_rfl) (by kernel_rfl)) ?_
  have lz18 : p61.length = z17.length := (of_decide_eq_true (chk_t hz18)).symm
  try delta f9_j1_J
  try rw [lz18]
  refine zlEnd (by kernel_rfl) ?_
  refine zkSeq ?_
  refine zrSeq ?_
  refine zrReg ?_
  refine zlRun (n := 3) (j := 3) rfl (by kernel_rfl) ?_
  refine zlEnd (by kernel_rfl) ?_
  refine zkSeq ?_
  refine zrRet ?_
  refine zkNil ?_
  exact endQ hS hQ (fRet (by kernel_rfl) ((congrArg (fun s => outR s 0 c9.res) (by kernel_rfl : finSt c9.fin _ = f9_fin p59 p60 z17 0)).trans (f9_out p59 p60 z17 0)))
def f9_j0_J (a1 : GGrid) (a2 : Int) (a3 : Int) (a4 : Int) (a5 : GPen) (p50 : Int) (p51 : Int) (p52 : List GCell) (p53 : Int) : St := ⟨(up (up (up (up (up (up (up (fun _ => .un) 13 (.d (.int .i64 p53))) 10 (.r (.ptr 88 0 0))) 9 (.r (.ptr 80 0 0))) 5 (.r (.ptr 48 0 0))) 3 (.d (.int .i64 a4))) 2 (.d (.int .i64 a3))) 1 (.d (.int .i64 a2))), (up (up (up (up (hB fun _ => 0) 88 ⟨0, some (.box ((.d (.int .i64 0)) :: ((.d (.int .i64 0)) :: ((.d (.sl ([] : List GCell).length (e_GCell.cells ([])))) :: []))))⟩) 80 ⟨0, some (.box ((.d (.int .i64 a5.Flags)) :: ((.d (.int .i64 a5.Fore)) :: ((.d (.int .i64 a5.Back)) :: []))))⟩) 352 ⟨0, some (.own 33 4 (e_GCell.cells p52))⟩) 48 ⟨0, some (.box ((.d (.int .i64 p50)) :: ((.d (.int .i64 p51)) :: ((.r (.msl 352 0 0 p52.length)) :: []))))⟩)⟩
noncomputable def f9_j0 (a1 : GGrid) (a2 : Int) (a3 : Int) (a4 : Int) (a5 : GPen) (p50 : Int) (p51 : Int) (p52 : List GCell) (p53 : Int) : Option (Int × Int × (List GCell) × Int) := (bif (!decide (p53 = 0)) then (some (p50, p51, p52, p53)) else (f9_j1 a1 a2 a3 a4 a5 p50 p51 p52))
theorem f9_j0_ok {base : Orc} {d : Nat} (hd : 6 ≤ d) (a1 : GGrid) (a2 : Int) (a3 : Int) (a4 : Int) (a5 : GPen) {r : Int × Int × (List GCell) × Int} {Q : PX → St → Prop} (hQ : ∀ e st', f9_Q r e st' → Q e st') (p50 : Int) (p51 : Int) (p52 : List GCell) (p53 : Int) (hS : f9_j0 a1 a2 a3 a4 a5 p50 p51 p52 p53 = some r) {st : St} (he : keepSt [1, 2, 3, 5, 9, 10, 13] [(48, .id 48), (352, .id 352), (80, .id 80), (88, .id 88)] [.cell 88 2 0 0 1] st = f9_j0_J a1 a2 a3 a4 a5 p50 p51 p52 p53) : ZR (lev codes base (d - 1)) Q c9_2 [] st := by
  refine zrKeep he ?_
  unfold f9_j0 at hS
  refine zrSeq ?_
  refine zrSeq ?_
  refine zrReg ?_
  refine zlRun (n := 1) (j := 1) rfl (by kernel_rfl) ?_
  refine zlBool (d := 47) (op := (.cmpI .neq (.tmp 46) (.const (.int .i64 0)))) (g := none) (j := 2) (!decide (p53 = 0)) rfl (by kernel_rfl) (by kernel_rfl) (by kernel_rfl) (fun hc => ?_) (fun hc => ?_)
  · replace hS := cond_t hc hS
    refine zlEnd (by kernel_rfl) ?_
    refine zkSeq ?_
    refine zrCondT (by kernel_rfl) ?_
    refine zrSeq ?_
    refine zrReg ?_
    refine zlRun (n := 4) (j := 4) rfl (by kernel_rfl) ?_
    refine zlEnd (by kernel_rfl) ?_
    refine zkSeq ?_
    refine zrRet ?_
    refine zkSeqR ?_
    refine zkNil ?_
    exact endQ hS hQ (fRet (by kernel_rfl) ((congrArg (fun s => outR s 0 c9.res) (by kernel_rfl : finSt c9.fin _ = f9_fin p50 p51 p52 p53)).trans (f9_out p50 p51 p52 p53)))
  · replace hS := cond_f hc hS
    refine zlEnd (by kernel_rfl) ?_
    refine zkSeq ?_
    refine zrCondF (by kernel_rfl) ?_
    refine zrSkip ?_
    refine zkSeq ?_
    exact f9_j1_ok hd a1 a2 a3 a4 a5 hQ p50 p51 p52 hS (by kernel_rfl)
noncomputable def f9 (a1 : GGrid) (a2 : Int) (a3 : Int) (a4 : Int) (a5 : GPen) : Option (Int × Int × (List GCell) × Int) := ((f28 a4).bind fun z10 => (bif (decide (0 ≤ a2)) then (bif (decide (a2 < a1.High)) then (bif (decide (0 < z10)) then (bif (decide (0 ≤ a3)) then (bif (decide (a3 ≤ (IntKind.i64.wrap (a1.Wide - z10)))) then ((f29 a1 true a5).bind fun z19 => (f9_j0 a1 a2 a3 a4 a5 z19.1 z19.2.1 z19.2.2.1 z19.2.2.2)) else ((f29 a1 false a5).bind fun z20 => (f9_j0 a1 a2 a3 a4 a5 z20.1 z20.2.1 z20.2.2.1 z20.2.2.2))) else ((f29 a1 false a5).bind fun z21 => (f9_j0 a1 a2 a3 a4 a5 z21.1 z21.2.1 z21.2.2.1 z21.2.2.2))) else ((f29 a1 false a5).bind fun z22 => (f9_j0 a1 a2 a3 a4 a5 z22.1 z22.2.1 z22.2.2.1 z22.2.2.2))) else ((f29 a1 false a5).bind fun z23 => (f9_j0 a1 a2 a3 a4 a5 z23.1 z23.2.1 z23.2.2.1 z23.2.2.2))) else ((f29 a1 false a5).bind fun z24 => (f9_j0 a1 a2 a3 a4 a5 z24.1 z24.2.1 z24.2.2.1 z24.2.2.2))))
theorem f9_ok (base : Orc) (d : Nat) (hd : 6 ≤ d) (a1 : GGrid) (a2 : Int) (a3 : Int) (a4 : Int) (a5 : GPen) (r : Int × Int × (List GCell) × Int) (hS : f9 a1 a2 a3 a4 a5 = some r) : lev codes base d 9 [(.agg ((.d (.int .i64 a1.Wide)) :: ((.d (.int .i64 a1.High)) :: ((.d (.sl a1.Cells.length (e_GCell.cells a1.Cells))) :: [])))), (.d (.int .i64 a2)), (.d (.int .i64 a3)), (.d (.int .i64 a4)), (.agg ((.d (.int .i64 a5.Flags)) :: ((.d (.int .i64 a5.Fore)) :: ((.d (.int .i64 a5.Back)) :: []))))] [] = some ((.tup [(.agg ((.d (.int .i64 r.1)) :: ((.d (.int .i64 r.2.1)) :: ((.r (.own 0 33 4 r.2.2.1.length (e_GCell.cells r.2.2.1))) :: [])))), (.d (.int .i64 r.2.2.2))]), []) := by
  refine lev_go codes9 rfl rfl (Nat.le_trans (Nat.le_of_ble_eq_true rfl) hd) fun Q hQ => ?_
  unfold f9 at hS
  show ZR _ Q c9_b [] _
  replace hQ : ∀ e st', f9_Q r e st' → Q e st' := hQ
  refine zrSeq ?_
  refine zrReg ?_
  refine zlRun (n := 4) (j := 4) rfl (by kernel_rfl) ?_
  refine zlEnd (by kernel_rfl) ?_
  refine zkSeq ?_
  refine zrSeq ?_
  refine zrReg ?_
  refine zlRun (n := 1) (j := 1) rfl (by kernel_rfl) ?_
  refine bindE hS (fun z10 hz10 hS => ?_)
  refine zlOp (d := some 15) (op := (.call 28 [(.tmp 14)])) (g := none) (v := (.d (.int .i64 z10))) (ups := []) (j := 2) rfl (by kernel_rfl) (by kernel_rfl) (ev_call (args := [(.d (.int .i64 a4))]) (l := [(.d (.int .i64 a4))]) (r := (.d (.int .i64 z10))) (by kernel_rfl) (by kernel_rfl) (f28_ok base (d - 1) (dpt hd rfl) a4 z10 hz10) (by kernel_rfl) (by kernel_rfl) (by kernel_rfl)) ?_
  refine zlRun (n := 1) (j := 3) rfl (by kernel_rfl) ?_
  refine zlEnd (by kernel_rfl) ?_
  refine zkSeq ?_
  refine zrSeq ?_
  refine zrReg ?_
  refine zlRun (n := 2) (j := 2) rfl (by kernel_rfl) ?_
  refine zlBool (d := 19) (op := (.cmpI .geq (.tmp 18) (.const (.int .i64 0)))) (g := none) (j := 3) (decide (0 ≤ a2)) rfl (by kernel_rfl) (by kernel_rfl) (by kernel_rfl) (fun hc => ?_) (fun hc => ?_)
  · replace hS := cond_t hc hS
    refine zlRun (n := 4) (j := 7) rfl (by kernel_rfl) ?_
    refine zlBool (d := 24) (op := (.cmpI .lss (.tmp 21) (.tmp 23))) (g := (some (20, true))) (j := 8) (decide (a2 < a1.High)) rfl (by kernel_rfl) (by kernel_rfl) (by kernel_rfl) (fun hc => ?_) (fun hc => ?_)
    · replace hS := cond_t hc hS
      refine zlRun (n := 3) (j := 11) rfl (by kernel_rfl) ?_
      refine zlBool (d := 28) (op := (.cmpI .gtr (.tmp 27) (.const (.int .i64 0)))) (g := (some (26, true))) (j := 12) (decide (0 < z10)) rfl (by kernel_rfl) (by kernel_rfl) (by kernel_rfl) (fun hc => ?_) (fun hc => ?_)
      · replace hS := cond_t hc hS
        refine zlRun (n := 3) (j := 15) rfl (by kernel_rfl) ?_
        refine zlBool (d := 32) (op := (.cmpI .geq (.tmp 31) (.const (.int .i64 0)))) (g := (some (30, true))) (j := 16) (decide (0 ≤ a3)) rfl (by kernel_rfl) (by kernel_rfl) (by kernel_rfl) (fun hc => ?_) (fun hc => ?_)
        · replace hS := cond_t hc hS
          refine zlRun (n := 7) (j := 23) rfl (by kernel_rfl) ?_
          refine zlBool (d := 40) (op := (.cmpI .leq (.tmp 35) (.tmp 39))) (g := (some (34, true))) (j := 24) (decide (a3 ≤ (IntKind.i64.wrap (a1.Wide - z10)))) rfl (by kernel_rfl) (by kernel_rfl) (by kernel_rfl) (fun hc => ?_) (fun hc => ?_)
          · replace hS := cond_t hc hS
            refine zlRun (n := 2) (j := 26) rfl (by kernel_rfl) ?_
            refine bindE hS (fun z19 hz19 hS => ?_)
            refine zlOp (d := some 43) (op := (.callf 29 [(.tmp 17), (.tmp 41), (.tmp 42)])) (g := none) (v := (.tup [(.agg ((.d (.int .i64 z19.1)) :: ((.d (.int .i64 z19.2.1)) :: ((.r (.msl 352 1 0 z19.2.2.1.length)) :: [])))), (.d (.int .i64 z19.2.2.2))])) (ups := [(352, ⟨1, some (.own 33 4 (e_GCell.cells z19.2.2.1))⟩)]) (j := 27) rfl (by kernel_rfl) (by kernel_rfl) (ev_callF (args := [(.agg ((.d (.int .i64 a1.Wide)) :: ((.d (.int .i64 a1.High)) :: ((.d (.sl a1.Cells.length (e_GCell.cells a1.Cells))) :: [])))), (.d (.bool true)), (.agg ((.d (.int .i64 a5.Flags)) :: ((.d (.int .i64 a5.Fore)) :: ((.d (.int .i64 a5.Back)) :: []))))]) (args' := [(.agg ((.d (.int .i64 a1.Wide)) :: ((.d (.int .i64 a1.High)) :: ((.d (.sl a1.Cells.length (e_GCell.cells a1.Cells))) :: [])))), (.d (.bool true)), (.agg ((.d (.int .i64 a5.Flags)) :: ((.d (.int .i64 a5.Fore)) :: ((.d (.int .i64 a5.Back)) :: []))))]) (l := [(.agg ((.d (.int .i64 a1.Wide)) :: ((.d (.int .i64 a1.High)) :: ((.d (.sl a1.Cells.length (e_GCell.cells a1.Cells))) :: [])))), (.d (.bool true)), (.agg ((.d (.int .i64 a5.Flags)) :: ((.d (.int .i64 a5.Fore)) :: ((.d (.int .i64 a5.Back)) :: []))))]) (refs := []) (r := (.tup [(.agg ((.d (.int .i64 z19.1)) :: ((.d (.int .i64 z19.2.1)) :: ((.r (.own 0 33 4 z19.2.2.1.length (e_GCell.cells z19.2.2.1))) :: [])))), (.d (.int .i64 z19.2.2.2))])) (v := (.tup [(.agg ((.d (.int .i64 z19.1)) :: ((.d (.int .i64 z19.2.1)) :: ((.r (.msl 352 1 0 z19.2.2.1.length)) :: [])))), (.d (.int .i64 z19.2.2.2))])) (ups' := [(352, ⟨1, some (.own 33 4 (e_GCell.cells z19.2.2.1))⟩)]) (by kernel_rfl) (by kernel_rfl) (by kernel_rfl) (fz_cons rfl (fz_cons rfl (fz_cons rfl fz_nil))) (by kernel_rfl) (f29_ok base (d - 1) (dpt hd rfl) a1 true a5 z19 hz19) (by kernel_rfl) (by kernel_rfl) (by kernel_rfl) (by kernel_rfl)) ?_
            refine zlRun (n := 5) (j := 32) rfl (by kernel_rfl) ?_
            refine zlEnd (by kernel_rfl) ?_
            refine zkSeq ?_
            exact f9_j0_ok hd a1 a2 a3 a4 a5 hQ z19.1 z19.2.1 z19.2.2.1 z19.2.2.2 hS (by kernel_rfl)
          · replace hS := cond_f hc hS
            refine zlRun (n := 2) (j := 26) rfl (by kernel_rfl) ?_
            refine bindE hS (fun z20 hz20 hS => ?_)
            refine zlOp (d := some 43) (op := (.callf 29 [(.tmp 17), (.tmp 41), (.tmp 42)])) (g := none) (v := (.tup [(.agg ((.d (.int .i64 z20.1)) :: ((.d (.int .i64 z20.2.1)) :: ((.r (.msl 352 1 0 z20.2.2.1.length)) :: [])))), (.d (.int .i64 z20.2.2.2))])) (ups := [(352, ⟨1, some (.own 33 4 (e_GCell.cells z20.2.2.1))⟩)]) (j := 27) rfl (by kernel_rfl) (by kernel_rfl) (ev_callF (args := [(.agg ((.d (.int .i64 a1.Wide)) :: ((.d (.int .i64 a1.High)) :: ((.d (.sl a1.Cells.length (e_GCell.cells a1.Cells))) :: [])))), (.d (.bool false)), (.agg ((.d (.int .i64 a5.Flags)) :: ((.d (.int .i64 a5.Fore)) :: ((.d (.int .i64 a5.Back)) :: []))))]) (args' := [(.agg ((.d (.int .i64 a1.Wide)) :: ((.d (.int .i64 a1.High)) :: ((.d (.sl a1.Cells.length (e_GCell.cells a1.Cells))) :: [])))), (.d (.bool false)), (.agg ((.d (.int .i64 a5.Flags)) :: ((.d (.int .i64 a5.Fore)) :: ((.d (.int .i64 a5.Back)) :: []))))]) (l := [(.agg ((.d (.int .i64 a1.Wide)) :: ((.d (.int .i64 a1.High)) :: ((.d (.sl a1.Cells.length (e_GCell.cells a1.Cells))) :: [])))), (.d (.bool false)), (.agg ((.d (.int .i64 a5.Flags)) :: ((.d (.int .i64 a5.Fore)) :: ((.d (.int .i64 a5.Back)) :: []))))]) (refs := []) (r := (.tup [(.agg ((.d (.int .i64 z20.1)) :: ((.d (.int .i64 z20.2.1)) :: ((.r (.own 0 33 4 z20.2.2.1.length (e_GCell.cells z20.2.2.1))) :: [])))), (.d (.int .i64 z20.2.2.2))])) (v := (.tup [(.agg ((.d (.int .i64 z20.1)) :: ((.d (.int .i64 z20.2.1)) :: ((.r (.msl 352 1 0 z20.2.2.1.length)) :: [])))), (.d (.int .i64 z20.2.2.2))])) (ups' := [(352, ⟨1, some (.own 33 4 (e_GCell.cells z20.2.2.1))⟩)]) (by kernel_rfl) (by kernel_rfl) (by kernel_rfl) (fz_cons rfl (fz_cons rfl (fz_cons rfl fz_nil))) (by kernel_rfl) (f29_ok base (d - 1) (dpt hd rfl) a1 false a5 z20 hz20) (by kernel_rfl) (by kernel_rfl) (by kernel_rfl) (by kernel_rfl)) ?_
            refine zlRun (n := 5) (j := 32) rfl (by kernel_rfl) ?_
            refine zlEnd (by kernel_rfl) ?_
            refine zkSeq ?_
            exact f9_j0_ok hd a1 a2 a3 a4 a5 hQ z20.1 z20.2.1 z20.2.2.1 z20.2.2.2 hS (by kernel_rfl)
        · replace hS := cond_f hc hS
          refine zlRun (n := 10) (j := 26) rfl (by kernel_rfl) ?_
          refine bindE hS (fun z21 hz21 hS => ?_)
          refine zlOp (d := some 43) (op := (.callf 29 [(.tmp 17), (.tmp 41), (.tmp 42)])) (g := none) (v := (.tup [(.agg ((.d (.int .i64 z21.1)) :: ((.d (.int .i64 z21.2.1)) :: ((.r (.msl 352 1 0 z21.2.2.1.length)) :: [])))), (.d (.int .i64 z21.2.2.2))])) (ups := [(352, ⟨1, some (.own 33 4 (e_GCell.cells z21.2.2.1))⟩)]) (j := 27) rfl (by kernel_rfl) (by kernel_rfl) (ev_callF (args := [(.agg ((.d (.int .i64 a1.Wide)) :: ((.d (.int .i64 a1.High)) :: ((.d (.sl a1.Cells.length (e_GCell.cells a1.Cells))) :: [])))), (.d (.bool false)), (.agg ((.d (.int .i64 a5.Flags)) :: ((.d (.int .i64 a5.Fore)) :: ((.d (.int .i64 a5.Back)) :: []))))]) (args' := [(.agg ((.d (.int .i64 a1.Wide)) :: ((.d (.int .i64 a1.High)) :: ((.d (.sl a1.Cells.length (e_GCell.cells a1.Cells))) :: [])))), (.d (.bool false)), (.agg ((.d (.int .i64 a5.Flags)) :: ((.d (.int .i64 a5.Fore)) :: ((.d (.int .i64 a5.Back)) :: []))))]) (l := [(.agg ((.d (.int .i64 a1.Wide)) :: ((.d (.int .i64 a1.High)) :: ((.d (.sl a1.Cells.length (e_GCell.cells a1.Cells))) :: [])))), (.d (.bool false)), (.agg ((.d (.int .i64 a5.Flags)) :: ((.d (.int .i64 a5.Fore)) :: ((.d (.int .i64 a5.Back)) :: []))))]) (refs := []) (r := (.tup [(.agg ((.d (.int .i64 z21.1)) :: ((.d (.int .i64 z21.2.1)) :: ((.r (.own 0 33 4 z21.2.2.1.length (e_GCell.cells z21.2.2.1))) :: [])))), (.d (.int .i64 z21.2.2.2))])) (v := (.tup [(.agg ((.d (.int .i64 z21.1)) :: ((.d (.int .i64 z21.2.1)) :: ((.r (.msl 352 1 0 z21.2.2.1.length)) :: [])))), (.d (.int .i64 z21.2.2.2))])) (ups' := [(352, ⟨1, some (.own 33 4 (e_GCell.cells z21.2.2.1))⟩)]) (by kernel_rfl) (by kernel_rfl) (by kernel_rfl) (fz_cons rfl (fz_cons rfl (fz_cons rfl fz_nil))) (by kernel_rfl) (f29_ok base (d - 1) (dpt hd rfl) a1 false a5 z21 hz21) (by kernel_rfl) (by kernel_rfl) (by kernel_rfl) (by kernel_rfl)) ?_
          refine zlRun (n := 5) (j := 32) rfl (by kernel_rfl) ?_
          refine zlEnd (by kernel_rfl) ?_
          refine zkSeq ?_
          exact f9_j0_ok hd a1 a2 a3 a4 a5 hQ z21.1 z21.2.1 z21.2.2.1 z21.2.2.2 hS (by kernel_rfl)
      · replace hS := cond_f hc hS
        refine zlRun (n := 14) (j := 26) rfl (by kernel_rfl) ?_
        refine bindE hS (fun z22 hz22 hS => ?_)
        refine zlOp (d := some 43) (op := (.callf 29 [(.tmp 17), (.tmp 41), (.tmp 42)])) (g := none) (v := (.tup [(.agg ((.d (.int .i64 z22.1)) :: ((.d (.int .i64 z22.2.1)) :: ((.r (.msl 352 1 0 z22.2.2.1.length)) :: [])))), (.d (.int .i64 z22.2.2.2))])) (ups := [(352, ⟨1, some (.own 33 4 (e_GCell.cells z22.2.2.1))⟩)]) (j := 27) rfl (by kernel_rfl) (by kernel_rfl) (ev_callF (args := [(.agg ((.d (.int .i64 a1.Wide)) :: ((.d (.int .i64 a1.High)) :: ((.d (.sl a1.Cells.length (e_GCell.cells a1.Cells))) :: [])))), (.d (.bool false)), (.agg ((.d (.int .i64 a5.Flags)) :: ((.d (.int .i64 a5.Fore)) :: ((.d (.int .i64 a5.Back)) :: []))))]) (args' := [(.agg ((.d (.int .i64 a1.Wide)) :: ((.d (.int .i64 a1.High)) :: ((.d (.sl a1.Cells.length (e_GCell.cells a1.Cells))) :: [])))), (.d (.bool false)), (.agg ((.d (.int .i64 a5.Flags)) :: ((.d (.int .i64 a5.Fore)) :: ((.d (.int .i64 a5.Back)) :: []))))]) (l := [(.agg ((.d (.int .i64 a1.Wide)) :: ((.d (.int .i64 a1.High)) :: ((.d (.sl a1.Cells.length (e_GCell.cells a1.Cells))) :: [])))), (.d (.bool false)), (.agg ((.d (.int .i64 a5.Flags)) :: ((.d (.int .i64 a5.Fore)) :: ((.d (.int .i64 a5.Back)) :: []))))]) (refs := []) (r := (.tup [(.agg ((.d (.int .i64 z22.1)) :: ((.d (.int .i64 z22.2.1)) :: ((.r (.own 0 33 4 z22.2.2.1.length (e_GCell.cells z22.2.2.1))) :: [])))), (.d (.int .i64 z22.2.2.2))])) (v := (.tup [(.agg ((.d (.int .i64 z22.1)) :: ((.d (.int .i64 z22.2.1)) :: ((.r (.msl 352 1 0 z22.2.2.1.length)) :: [])))), (.d (.int .i64 z22.2.2.2))])) (ups' := [(352, ⟨1, some (.own 33 4 (e_GCell.cells z22.2.2.1))⟩)]) (by kernel_rfl) (by kernel_rfl) (by kernel_rfl) (fz_cons rfl (fz_cons rfl (fz_cons rfl fz_nil))) (by kernel_rfl) (f29_ok base (d - 1) (dpt hd rfl) a1 false a5 z22 hz22) (by kernel_rfl) (by kernel_rfl) (by kernel_rfl) (by kernel_rfl)) ?_
        refine zlRun (n := 5) (j := 32) rfl (by kernel_rfl) ?_
        refine zlEnd (by kernel_rfl) ?_
        refine zkSeq ?_
        exact f9_j0_ok hd a1 a2 a3 a4 a5 hQ z22.1 z22.2.1 z22.2.2.1 z22.2.2.2 hS (by kernel_rfl)
    · replace hS := cond_f hc hS
      refine zlRun (n := 18) (j := 26) rfl (by kernel_rfl) ?_
      refine bindE hS (fun z23 hz23 hS => ?_)
      refine zlOp (d := some 43) (op := (.callf 29 [(.tmp 17), (.tmp 41), (.tmp 42)])) (g := none) (v := (.tup [(.agg ((.d (.int .i64 z23.1)) :: ((.d (.int .i64 z23.2.1)) :: ((.r (.msl 352 1 0 z23.2.2.1.length)) :: [])))), (.d (.int .i64 z23.2.2.2))])) (ups := [(352, ⟨1, some (.own 33 4 (e_GCell.cells z23.2.2.1))⟩)]) (j := 27) rfl (by kernel_rfl) (by kernel_rfl) (ev_callF (args := [(.agg ((.d (.int .i64 a1.Wide)) :: ((.d (.int .i64 a1.High)) :: ((.d (.sl a1.Cells.length (e_GCell.cells a1.Cells))) :: [])))), (.d (.bool false)), (.agg ((.d (.int .i64 a5.Flags)) :: ((.d (.int .i64 a5.Fore)) :: ((.d (.int .i64 a5.Back)) :: []))))]) (args' := [(.agg ((.d (.int .i64 a1.Wide)) :: ((.d (.int .i64 a1.High)) :: ((.d (.sl a1.Cells.length (e_GCell.cells a1.Cells))) :: [])))), (.d (.bool false)), (.agg ((.d (.int .i64 a5.Flags)) :: ((.d (.int .i64 a5.Fore)) :: ((.d (.int .i64 a5.Back)) :: []))))]) (l := [(.agg ((.d (.int .i64 a1.Wide)) :: ((.d (.int .i64 a1.High)) :: ((.d (.sl a1.Cells.length (e_GCell.cells a1.Cells))) :: [])))), (.d (.bool false)), (.agg ((.d (.int .i64 a5.Flags)) :: ((.d (.int .i64 a5.Fore)) :: ((.d (.int .i64 a5.Back)) :: []))))]) (refs := []) (r := (.tup [(.agg ((.d (.int .i64 z23.1)) :: ((.d (.int .i64 z23.2.1)) :: ((.r (.own 0 33 4 z23.2.2.1.length (e_GCell.cells z23.2.2.1))) :: [])))), (.d (.int .i64 z23.2.2.2))])) (v := (.tup [(.agg ((.d (.int .i64 z23.1)) :: ((.d (.int .i64 z23.2.1)) :: ((.r (.msl 352 1 0 z23.2.2.1.length)) :: [])))), (.d (.int .i64 z23.2.2.2))])) (ups' := [(352, ⟨1, some (.own 33 4 (e_GCell.cells z23.2.2.1))⟩)]) (by kernel_rfl) (by kernel_rfl) (by kernel_rfl) (fz_cons rfl (fz_cons rfl (fz_cons rfl fz_nil))) (by kernel_rfl) (f29_ok base (d - 1) (dpt hd rfl) a1 false a5 z23 hz23) (by kernel_rfl) (by kernel_rfl) (by kernel_rfl) (by kernel_rfl)) ?_
      refine zlRun (n := 5) (j := 32) rfl (by kernel_rfl) ?_
      refine zlEnd (by kernel_rfl) ?_
      refine zkSeq ?_
      exact f9_j0_ok hd a1 a2 a3 a4 a5 hQ z23.1 z23.2.1 z23.2.2.1 z23.2.2.2 hS (by kernel_rfl)
  · replace hS := cond_f hc hS
    refine zlRun (n := 23) (j := 26) rfl (by kernel_rfl) ?_
    refine bindE hS (fun z24 hz24 hS => ?_)
    refine zlOp (d := some 43) (op := (.callf 29 [(.tmp 17), (.tmp 41), (.tmp 42)])) (g := none) (v := (.tup [(.agg ((.d (.int .i64 z24.1)) :: ((.d (.int .i64 z24.2.1)) :: ((.r (.msl 352 1 0 z24.2.2.1.length)) :: [])))), (.d (.int .i64 z24.2.2.2))])) (ups := [(352, ⟨1, some (.own 33 4 (e_GCell.cells z24.2.2.1))⟩)]) (j := 27) rfl (by kernel_rfl) (by kernel_rfl) (ev_callF (args := [(.agg ((.d (.int .i64 a1.Wide)) :: ((.d (.int .i64 a1.High)) :: ((.d (.sl a1.Cells.length (e_GCell.cells a1.Cells))) :: [])))), (.d (.bool false)), (.agg ((.d (.int .i64 a5.Flags)) :: ((.d (.int .i64 a5.Fore)) :: ((.d (.int .i64 a5.Back)) :: []))))]) (args' := [(.agg ((.d (.int .i64 a1.Wide)) :: ((.d (.int .i64 a1.High)) :: ((.d (.sl a1.Cells.length (e_GCell.cells a1.Cells))) :: [])))), (.d (.bool false)), (.agg ((.d (.int .i64 a5.Flags)) :: ((.d (.int .i64 a5.Fore)) :: ((.d (.int .i64 a5.Back)) :: []))))]) (l := [(.agg ((.d (.int .i64 a1.Wide)) :: ((.d (.int .i64 a1.High)) :: ((.d (.sl a1.Cells.length (e_GCell.cells a1.Cells))) :: [])))), (.d (.bool false)), (.agg ((.d (.int .i64 a5.Flags)) :: ((.d (.int .i64 a5.Fore)) :: ((.d (.int .i64 a5.Back)) :: []))))]) (refs := []) (r := (.tup [(.agg ((.d (.int .i64 z24.1)) :: ((.d (.int .i64 z24.2.1)) :: ((.r (.own 0 33 4 z24.2.2.1.length (e_GCell.cells z24.2.2.1))) :: [])))), (.d (.int .i64 z24.2.2.2))])) (v := (.tup [(.agg ((.d (.int .i64 z24.1)) :: ((.d (.int .i64 z24.2.1)) :: ((.r (.msl 352 1 0 z24.2.2.1.length)) :: [])))), (.d (.int .i64 z24.2.2.2))])) (ups' := [(352, ⟨1, some (.own 33 4 (e_GCell.cells z24.2.2.1))⟩)]) (by kernel_rfl) (by kernel_rfl) (by kernel_rfl) (fz_cons rfl (fz_cons rfl (fz_cons rfl fz_nil))) (by kernel_rfl) (f29_ok base (d - 1) (dpt hd rfl) a1 false a5 z24 hz24) (by kernel_rfl) (by kernel_rfl) (by kernel_rfl) (by kernel_rfl)) ?_
    refine zlRun (n := 5) (j := 32) rfl (by kernel_rfl) ?_
    refine zlEnd (by kernel_rfl) ?_
    refine zkSeq ?_
    exact f9_j0_ok hd a1 a2 a3 a4 a5 hQ z24.1 z24.2.1 z24.2.2.1 z24.2.2.2 hS (by kernel_rfl)
/- slices.Equal[[]int,int] -/
def f16_fin (p14 : Bool) : St := ⟨(up (fun _ => .un) 4 (.d (.bool p14))), (hB fun _ => 0)⟩
theorem f16_out (p14 : Bool) : outR (f16_fin p14) 0 c16.res = some ((.d (.bool p14)), []) := by
  kernel_rfl
def f16_Q (r : Bool) (e : PX) (st : St) : Prop := DoneF c16 0 ((.d (.bool r)), []) e st
def f16_l1_J (a1 : List Int) (a2 : List Int) (x : Int) : St := ⟨(up (up (up (up (fun _ => .un) 13 (.d (.int .i64 x))) 12 (.d (.int .i64 (a1.length : Int)))) 1 (.d (.sl a2.length ((eInt .i64).cells a2)))) 0 (.d (.sl a1.length ((eInt .i64).cells a1)))), (hB fun _ => 0)⟩
def f16_l1_H (a1 : List Int) (a2 : List Int) (x : Int) (st : St) : Prop := keepSt [0, 1, 12, 13] [] [] st = f16_l1_J a1 a2 x
def f16_l1_e0_J (a1 : List Int) (a2 : List Int) : St := ⟨(fun _ => .un), (hB fun _ => 0)⟩
def f16_l1_X (a1 : List Int) (a2 : List Int) (z : Unit ⊕ Bool) (e : PX) (st : St) : Prop := (match z with | .inl z => e = .exit 0 ∧ st = f16_l1_e0_J a1 a2 | .inr z => e = .ret ∧ finSt c16.fin st = f16_fin z)
def f16_l1_j3_J (a1 : List Int) (a2 : List Int) (p20 : Int) : St := ⟨(up (up (up (up (fun _ => .un) 13 (.d (.int .i64 p20))) 12 (.d (.int .i64 (a1.length : Int)))) 1 (.d (.sl a2.length ((eInt .i64).cells a2)))) 0 (.d (.sl a1.length ((eInt .i64).cells a1)))), (hB fun _ => 0)⟩
noncomputable def f16_l1_j3 (a1 : List Int) (a2 : List Int) (p20 : Int) : Option (Int ⊕ (Unit ⊕ Bool)) := ((idx a1 p20).bind fun z7 => ((idx a2 p20).bind fun z8 => (bif (!decide (z7 = z8)) then (some (.inr (.inr false))) else (some (.inl (IntKind.i64.wrap (p20 + 1)))))))
theorem f16_l1_j3_ok {base : Orc} {d : Nat} (hd : 1 ≤ d) (a1 : List Int) (a2 : List Int) {r : Int ⊕ (Unit ⊕ Bool)} {Q : PX → St → Prop} (hQ : ∀ e st', finL (f16_l1_H a1 a2) (f16_l1_X a1 a2) r e st' → Q e st') (p20 : Int) (hS : f16_l1_j3 a1 a2 p20 = some r) {st : St} (he : keepSt [0, 1, 12, 13] [] [] st = f16_l1_j3_J a1 a2 p20) : ZR (lev codes base (d - 1)) Q c16_1 [] st := by
  refine zrKeep he ?_
  unfold f16_l1_j3 at hS
  refine zrSeq ?_
  refine zrBlk ?_
  refine zrSeq ?_
  refine zrReg ?_
  refine zlRun (n := 2) (j := 2) rfl (by kernel_rfl) ?_
  refine zlEnd (by kernel_rfl) ?_
  refine zkSeq ?_
  refine zrSeq ?_
  refine zrRegD ?_
  refine zdRun (n := 2) (j := 2) (ts := [[], []]) (acc' := [[], []]) rfl (by kernel_rfl) (by kernel_rfl) (by kernel_rfl) ?_
  refine bindE hS (fun z7 hz7 hS => ?_)
  refine zdOp (d := some 18) (op := (.ixS 3 1 (.tmp 16) (.tmp 17))) (g := none) (v := (.rptr ((eInt .i64).enc z7 ++ ((eInt .i64).cells (a1.drop ((p20 : Int).toNat + 1)))))) (ups := []) (j := 3) (t1 := []) (acc' := [[], [], []]) (by kernel_rfl) (by kernel_rfl) rfl (by kernel_rfl) (by kernel_rfl) (ev_ixS (eInt .i64) (kk := .i64) (xs := a1) (j := p20) (by kernel_rfl) (by kernel_rfl) hz7 rfl (by intro h; cases h)) ?_
  refine zdRun (n := 3) (j := 6) (ts := [[], [], []]) (acc' := [[], [], [], [], [], []]) rfl (by kernel_rfl) (by kernel_rfl) (by kernel_rfl) ?_
  refine bindE hS (fun z8 hz8 hS => ?_)
  refine zdOp (d := some 22) (op := (.ixS 3 1 (.tmp 20) (.tmp 21))) (g := none) (v := (.rptr ((eInt .i64).enc z8 ++ ((eInt .i64).cells (a2.drop ((p20 : Int).toNat + 1)))))) (ups := []) (j := 7) (t1 := []) (acc' := [[], [], [], [], [], [], []]) (by kernel_rfl) (by kernel_rfl) rfl (by kernel_rfl) (by kernel_rfl) (ev_ixS (eInt .i64) (kk := .i64) (xs := a2) (j := p20) (by kernel_rfl) (by kernel_rfl) hz8 rfl (by intro h; cases h)) ?_
  refine zdRun (n := 1) (j := 8) (ts := [[]]) (acc' := [[], [], [], [], [], [], [], []]) rfl (by kernel_rfl) (by kernel_rfl) (by kernel_rfl) ?_
  refine zdBool (d := 24) (op := (.cmpI .neq (.tmp 19) (.tmp 23))) (g := none) (j := 9) (t1 := []) (acc' := [[], [], [], [], [], [], [], [], []]) (!decide (z7 = z8)) (by kernel_rfl) (by kernel_rfl) rfl (by kernel_rfl) (by kernel_rfl) (by kernel_rfl) (fun hc => ?_) (fun hc => ?_)
  · replace hS := cond_t hc hS
    refine zdEnd (by kernel_rfl) (by kernel_rfl) ?_
    refine zkSeq ?_
    refine zrCondT (by kernel_rfl) ?_
    refine zrSeq ?_
    refine zrReg ?_
    refine zlRun (n := 1) (j := 1) rfl (by kernel_rfl) ?_
    refine zlEnd (by kernel_rfl) ?_
    refine zkSeq ?_
    refine zrRet ?_
    refine zkBlkR ?_
    refine zkSeqR ?_
    refine zkNil ?_
    exact endQ hS hQ (finL_x (by intro h; cases h) (by show _ = _ ∧ _ = _; exact ⟨rfl, by kernel_rfl⟩))
  · replace hS := cond_f hc hS
    refine zdEnd (by kernel_rfl) (by kernel_rfl) ?_
    refine zkSeq ?_
    refine zrCondF (by kernel_rfl) ?_
    refine zrSkip ?_
    refine zkBlk ?_
    refine zkSeq ?_
    refine zrReg ?_
    refine zlRun (n := 2) (j := 2) rfl (by kernel_rfl) ?_
    refine zlEnd (by kernel_rfl) ?_
    refine zkNil ?_
    exact endQ hS hQ (finL_n (by show keepSt _ _ _ _ = _; kernel_rfl))
def f16_l1_j2_J (a1 : List Int) (a2 : List Int) (p18 : Int) (p19 : Bool) : St := ⟨(up (up (up (up (up (fun _ => .un) 14 (.d (.bool p19))) 13 (.d (.int .i64 p18))) 12 (.d (.int .i64 (a1.length : Int)))) 1 (.d (.sl a2.length ((eInt .i64).cells a2)))) 0 (.d (.sl a1.length ((eInt .i64).cells a1)))), (hB fun _ => 0)⟩
noncomputable def f16_l1_j2 (a1 : List Int) (a2 : List Int) (p18 : Int) (p19 : Bool) : Option (Int ⊕ (Unit ⊕ Bool)) := (bif p19 then (f16_l1_j3 a1 a2 p18) else (some (.inr (.inl ()))))
theorem f16_l1_j2_ok {base : Orc} {d : Nat} (hd : 1 ≤ d) (a1 : List Int) (a2 : List Int) {r : Int ⊕ (Unit ⊕ Bool)} {Q : PX → St → Prop} (hQ : ∀ e st', finL (f16_l1_H a1 a2) (f16_l1_X a1 a2) r e st' → Q e st') (p18 : Int) (p19 : Bool) (hS : f16_l1_j2 a1 a2 p18 p19 = some r) {st : St} (he : keepSt [0, 1, 12, 13, 14] [] [] st = f16_l1_j2_J a1 a2 p18 p19) : ZR (lev codes base (d - 1)) Q c16_2 [] st := by
  refine zrKeep he ?_
  unfold f16_l1_j2 at hS
  refine zrSeq ?_
  refine zrSplit 14 p19 (by kernel_rfl) (fun hc => ?_) (fun hc => ?_)
  · replace hS := cond_t hc hS
    refine zrCondT (by kernel_rfl) ?_
    refine zrSkip ?_
    refine zkSeq ?_
    exact f16_l1_j3_ok hd a1 a2 hQ p18 hS (by kernel_rfl)
  · replace hS := cond_f hc hS
    refine zrCondF (by kernel_rfl) ?_
    refine zrKeep (J := f16_l1_e0_J a1 a2) (by kernel_rfl) ?_
    refine zrExit ?_
    refine zkSeqX ?_
    refine zkNil ?_
    exact endQ hS hQ (finL_x (by intro h; cases h) (by show _ = _ ∧ _ = _; exact ⟨rfl, rfl⟩))
noncomputable def f16_l1 (a1 : List Int) (a2 : List Int) (x : Int) : Option (Int ⊕ (Unit ⊕ Bool)) := (bif (decide (x < (a1.length : Int))) then (f16_l1_j2 a1 a2 x true) else (f16_l1_j2 a1 a2 x false))
theorem f16_l1_ok {base : Orc} {d : Nat} (hd : 1 ≤ d) (a1 : List Int) (a2 : List Int) {r : Int ⊕ (Unit ⊕ Bool)} {Q : PX → St → Prop} (hQ : ∀ e st', finL (f16_l1_H a1 a2) (f16_l1_X a1 a2) r e st' → Q e st') {x : Int} (hS : f16_l1 a1 a2 x = some r) {st : St} (he : f16_l1_H a1 a2 x st) : ZR (lev codes base (d - 1)) Q c16_3 [] st := by
  refine zrKeep he ?_
  unfold f16_l1 at hS
  refine zrSeq ?_
  refine zrReg ?_
  refine zlBool (d := 14) (op := (.cmpI .lss (.tmp 13) (.tmp 12))) (g := none) (j := 1) (decide (x < (a1.length : Int))) rfl (by kernel_rfl) (by kernel_rfl) (by kernel_rfl) (fun hc => ?_) (fun hc => ?_)
  · replace hS := cond_t hc hS
    refine zlEnd (by kernel_rfl) ?_
    refine zkSeq ?_
    exact f16_l1_j2_ok hd a1 a2 hQ x true hS (by kernel_rfl)
  · replace hS := cond_f hc hS
    refine zlEnd (by kernel_rfl) ?_
    refine zkSeq ?_
    exact f16_l1_j2_ok hd a1 a2 hQ x false hS (by kernel_rfl)
def f16_j0_J (a1 : List Int) (a2 : List Int) : St := ⟨(up (up (fun _ => .un) 1 (.d (.sl a2.length ((eInt .i64).cells a2)))) 0 (.d (.sl a1.length ((eInt .i64).cells a1)))), (hB fun _ => 0)⟩
noncomputable def f16_j0 (a1 : List Int) (a2 : List Int) : Option (Bool) := ((loopO (f16_l1 a1 a2) 0).bind fun z9 => (Sum.elim (fun z10 => (some true)) (fun z11 => (some z11)) z9))
theorem f16_j0_ok {base : Orc} {d : Nat} (hd : 1 ≤ d) (a1 : List Int) (a2 : List Int) {r : Bool} {Q : PX → St → Prop} (hQ : ∀ e st', f16_Q r e st' → Q e st')  (hS : f16_j0 a1 a2 = some r) {st : St} (he : keepSt [0, 1] [] [] st = f16_j0_J a1 a2) : ZR (lev codes base (d - 1)) Q c16_4 [] st := by
  refine zrKeep he ?_
  unfold f16_j0 at hS
  refine zrSeq ?_
  refine zrSeq ?_
  refine zrReg ?_
  refine zlRun (n := 3) (j := 3) rfl (by kernel_rfl) ?_
  refine zlEnd (by kernel_rfl) ?_
  refine zkSeq ?_
  refine zrBlk ?_
  refine bindE hS (fun z9 hz9 hS => ?_)
  refine zrLoop (f16_l1_H a1 a2) (f16_l1_X a1 a2) (fun x st r Q h0 hS hQ => f16_l1_ok hd a1 a2 hQ hS h0) (x := 0) (z := z9) (by show keepSt _ _ _ _ = _; kernel_rfl) hz9 ?_
  rcases z9 with z10 | z11
  · replace hS := (show _ = _ from hS)
    simp only [Sum.elim_inl] at hS
    intro e st' _ hX
    obtain ⟨rfl, rfl⟩ : _ ∧ _ := hX
    refine zkBlkX ?_
    refine zkSeq ?_
    refine zrSeq ?_
    refine zrReg ?_
    refine zlRun (n := 1) (j := 1) rfl (by kernel_rfl) ?_
    refine zlEnd (by kernel_rfl) ?_
    refine zkSeq ?_
    refine zrRet ?_
    refine zkNil ?_
    exact endQ hS hQ (fRet (by kernel_rfl) ((congrArg (fun s => outR s 0 c16.res) (by kernel_rfl : finSt c16.fin _ = f16_fin true)).trans (f16_out true)))
  · simp only [Sum.elim_inr] at hS
    intro e st' _ hX
    obtain ⟨rfl, hX⟩ : _ ∧ _ := hX
    refine zkBlkR ?_
    refine zkSeqR ?_
    refine zkNil ?_
    exact endQ hS hQ (fRet (by kernel_rfl) ((congrArg (fun s => outR s 0 c16.res) hX).trans (f16_out z11)))
noncomputable def f16 (a1 : List Int) (a2 : List Int) : Option (Bool) := (bif (!decide ((a1.length : Int) = (a2.length : Int))) then (some false) else (f16_j0 a1 a2 ))
theorem f16_ok (base : Orc) (d : Nat) (hd : 1 ≤ d) (a1 : List Int) (a2 : List Int) (r : Bool) (hS : f16 a1 a2 = some r) : lev codes base d 16 [(.d (.sl a1.length ((eInt .i64).cells a1))), (.d (.sl a2.length ((eInt .i64).cells a2)))] [] = some ((.d (.bool r)), []) := by
  refine lev_go codes16 rfl rfl (Nat.le_trans (Nat.le_of_ble_eq_true rfl) hd) fun Q hQ => ?_
  unfold f16 at hS
  show ZR _ Q c16_b [] _
  replace hQ : ∀ e st', f16_Q r e st' → Q e st' := hQ
  refine zrSeq ?_
  refine zrReg ?_
  refine zlRun (n := 1) (j := 1) rfl (by kernel_rfl) ?_
  refine zlEnd (by kernel_rfl) ?_
  refine zkSeq ?_
  refine zrSeq ?_
  refine zrSeq ?_
  refine zrReg ?_
  refine zlRun (n := 4) (j := 4) rfl (by kernel_rfl) ?_
  refine zlBool (d := 10) (op := (.cmpI .neq (.tmp 7) (.tmp 9))) (g := none) (j := 5) (!decide ((a1.length : Int) = (a2.length : Int))) rfl (by kernel_rfl) (by kernel_rfl) (by kernel_rfl) (fun hc => ?_) (fun hc => ?_)
  · replace hS := cond_t hc hS
    refine zlEnd (by kernel_rfl) ?_
    refine zkSeq ?_
    refine zrCondT (by kernel_rfl) ?_
    refine zrSeq ?_
    refine zrReg ?_
    refine zlRun (n := 1) (j := 1) rfl (by kernel_rfl) ?_
    refine zlEnd (by kernel_rfl) ?_
    refine zkSeq ?_
    refine zrRet ?_
    refine zkSeqR ?_
    refine zkNil ?_
    exact endQ hS hQ (fRet (by kernel_rfl) ((congrArg (fun s => outR s 0 c16.res) (by kernel_rfl : finSt c16.fin _ = f16_fin false)).trans (f16_out false)))
  · replace hS := cond_f hc hS
    refine zlEnd (by kernel_rfl) ?_
    refine zkSeq ?_
    refine zrCondF (by kernel_rfl) ?_
    refine zrSkip ?_
    refine zkSeq ?_
    exact f16_j0_ok hd a1 a2 hQ  hS (by kernel_rfl)
/- farwriter/farkeep.gridLives -/
def f10_fin (p5 : Bool) : St := ⟨(up (fun _ => .un) 0 (.d (.bool p5))), (hB fun _ => 0)⟩
theorem f10_out (p5 : Bool) : outR (f10_fin p5) 0 c10.res = some ((.d (.bool p5)), []) := by
  kernel_rfl
def f10_Q (r : Bool) (e : PX) (st : St) : Prop := DoneF c10 0 ((.d (.bool r)), []) e st
noncomputable def f10  : Option (Bool) := ((f31 4 1 (GPen.mk 0 0 0)).bind fun z6 => ((f9 (GGrid.mk z6.1 z6.2.1 z6.2.2.1) 0 0 97 (GPen.mk 0 0 0)).bind fun z7 => ((f9 (GGrid.mk z7.1 z7.2.1 z7.2.2.1) 0 1 20013 (GPen.mk 1 0 0)).bind fun z8 => ((f13 (GGrid.mk z8.1 z8.2.1 z8.2.2.1) 0).bind fun z9 => (bif (decide (z6.2.2.2 = 0)) then (bif (decide (z7.2.2.2 = 0)) then (bif (decide (z8.2.2.2 = 0)) then (bif (decide (z9.2 = 0)) then ((f16 z9.1 [97, 20013, 32]).bind fun z10 => (some z10)) else (some false)) else (some false)) else (some false)) else (some false))))))
theorem f10_ok (base : Orc) (d : Nat) (hd : 7 ≤ d)  (r : Bool) (hS : f10 = some r) : lev codes base d 10 [] [] = some ((.d (.bool r)), []) := by
  refine lev_go codes10 rfl rfl (Nat.le_trans (Nat.le_of_ble_eq_true rfl) hd) fun Q hQ => ?_
  unfold f10 at hS
  show ZR _ Q c10_b [] _
  replace hQ : ∀ e st', f10_Q r e st' → Q e st' := hQ
  refine zrSeq ?_
  refine zrReg ?_
  refine zlRun (n := 1) (j := 1) rfl (by kernel_rfl) ?_
  refine zlEnd (by kernel_rfl) ?_
  refine zkSeq ?_
  refine zrSeq ?_
  refine zrReg ?_
  refine zlRun (n := 1) (j := 1) rfl (by kernel_rfl) ?_
  refine bindE hS (fun z6 hz6 hS => ?_)
  refine zlOp (d := some 9) (op := (.call 31 [(.const (.int .i64 4)), (.const (.int .i64 1)), (.tmp 8)])) (g := none) (v := (.tup [(.agg ((.d (.int .i64 z6.1)) :: ((.d (.int .i64 z6.2.1)) :: ((.r (.msl 80 1 0 z6.2.2.1.length)) :: [])))), (.d (.int .i64 z6.2.2.2))])) (ups := [(80, ⟨1, some (.own 33 4 (e_GCell.cells z6.2.2.1))⟩)]) (j := 2) rfl (by kernel_rfl) (by kernel_rfl) (ev_call (args := [(.d (.int .i64 4)), (.d (.int .i64 1)), (.agg ((.d (.int .i64 0)) :: ((.d (.int .i64 0)) :: ((.d (.int .i64 0)) :: []))))]) (l := [(.d (.int .i64 4)), (.d (.int .i64 1)), (.agg ((.d (.int .i64 0)) :: ((.d (.int .i64 0)) :: ((.d (.int .i64 0)) :: []))))]) (r := (.tup [(.agg ((.d (.int .i64 z6.1)) :: ((.d (.int .i64 z6.2.1)) :: ((.r (.own 0 33 4 z6.2.2.1.length (e_GCell.cells z6.2.2.1))) :: [])))), (.d (.int .i64 z6.2.2.2))])) (by kernel_rfl) (by kernel_rfl) (f31_ok base (d - 1) (dpt hd rfl) 4 1 (GPen.mk 0 0 0) z6 hz6) (by kernel_rfl) (by kernel_rfl) (by kernel_rfl)) ?_
  refine zlRun (n := 6) (j := 8) rfl (by kernel_rfl) ?_
  refine zlEnd (by kernel_rfl) ?_
  refine zkSeq ?_
  refine zrSeq ?_
  refine zrReg ?_
  refine zlRun (n := 2) (j := 2) rfl (by kernel_rfl) ?_
  refine bindE hS (fun z7 hz7 hS => ?_)
  refine zlOp (d := some 15) (op := (.callf 9 [(.tmp 13), (.const (.int .i64 0)), (.const (.int .i64 0)), (.const (.int .i64 97)), (.tmp 14)])) (g := none) (v := (.tup [(.agg ((.d (.int .i64 z7.1)) :: ((.d (.int .i64 z7.2.1)) :: ((.r (.msl 128 1 0 z7.2.2.1.length)) :: [])))), (.d (.int .i64 z7.2.2.2))])) (ups := [(80, ⟨2, none⟩), (128, ⟨1, some (.own 33 4 (e_GCell.cells z7.2.2.1))⟩)]) (j := 3) rfl (by kernel_rfl) (by kernel_rfl) (ev_callF (args := [(.agg ((.d (.int .i64 z6.1)) :: ((.d (.int .i64 z6.2.1)) :: ((.r (.msl 80 1 0 z6.2.2.1.length)) :: [])))), (.d (.int .i64 0)), (.d (.int .i64 0)), (.d (.int .i64 97)), (.agg ((.d (.int .i64 0)) :: ((.d (.int .i64 0)) :: ((.d (.int .i64 0)) :: []))))]) (args' := [(.agg ((.d (.int .i64 z6.1)) :: ((.d (.int .i64 z6.2.1)) :: ((.d (.sl z6.2.2.1.length (e_GCell.cells z6.2.2.1))) :: [])))), (.d (.int .i64 0)), (.d (.int .i64 0)), (.d (.int .i64 97)), (.agg ((.d (.int .i64 0)) :: ((.d (.int .i64 0)) :: ((.d (.int .i64 0)) :: []))))]) (l := [(.agg ((.d (.int .i64 z6.1)) :: ((.d (.int .i64 z6.2.1)) :: ((.d (.sl z6.2.2.1.length (e_GCell.cells z6.2.2.1))) :: [])))), (.d (.int .i64 0)), (.d (.int .i64 0)), (.d (.int .i64 97)), (.agg ((.d (.int .i64 0)) :: ((.d (.int .i64 0)) :: ((.d (.int .i64 0)) :: []))))]) (refs := [80]) (r := (.tup [(.agg ((.d (.int .i64 z7.1)) :: ((.d (.int .i64 z7.2.1)) :: ((.r (.own 0 33 4 z7.2.2.1.length (e_GCell.cells z7.2.2.1))) :: [])))), (.d (.int .i64 z7.2.2.2))])) (v := (.tup [(.agg ((.d (.int .i64 z7.1)) :: ((.d (.int .i64 z7.2.1)) :: ((.r (.msl 128 1 0 z7.2.2.1.length)) :: [])))), (.d (.int .i64 z7.2.2.2))])) (ups' := [(128, ⟨1, some (.own 33 4 (e_GCell.cells z7.2.2.1))⟩)]) (by kernel_rfl) (by kernel_rfl) (by kernel_rfl) (fz_cons (fz_agg (fz_cons (by kernel_rfl) (fz_cons (by kernel_rfl) (fz_cons (fz_own e_GCell (e := 33) (k := 4) (xs := z6.2.2.1) (by kernel_rfl) (by kernel_rfl) rfl rfl) fz_nil)))) (fz_cons rfl (fz_cons rfl (fz_cons rfl (fz_cons rfl fz_nil))))) (by kernel_rfl) (f9_ok base (d - 1) (dpt hd rfl) (GGrid.mk z6.1 z6.2.1 z6.2.2.1) 0 0 97 (GPen.mk 0 0 0) z7 hz7) (by kernel_rfl) (by kernel_rfl) (by kernel_rfl) (by kernel_rfl)) ?_
  refine zlRun (n := 5) (j := 8) rfl (by kernel_rfl) ?_
  refine zlEnd (by kernel_rfl) ?_
  refine zkSeq ?_
  refine zrSeq ?_
  refine zrReg ?_
  refine zlRun (n := 2) (j := 2) rfl (by kernel_rfl) ?_
  refine bindE hS (fun z8 hz8 hS => ?_)
  refine zlOp (d := some 21) (op := (.callf 9 [(.tmp 19), (.const (.int .i64 0)), (.const (.int .i64 1)), (.const (.int .i64 20013)), (.tmp 20)])) (g := none) (v := (.tup [(.agg ((.d (.int .i64 z8.1)) :: ((.d (.int .i64 z8.2.1)) :: ((.r (.msl 176 1 0 z8.2.2.1.length)) :: [])))), (.d (.int .i64 z8.2.2.2))])) (ups := [(128, ⟨2, none⟩), (176, ⟨1, some (.own 33 4 (e_GCell.cells z8.2.2.1))⟩)]) (j := 3) rfl (by kernel_rfl) (by kernel_rfl) (ev_callF (args := [(.agg ((.d (.int .i64 z7.1)) :: ((.d (.int .i64 z7.2.1)) :: ((.r (.msl 128 1 0 z7.2.2.1.length)) :: [])))), (.d (.int .i64 0)), (.d (.int .i64 1)), (.d (.int .i64 20013)), (.agg ((.d (.int .i64 1)) :: ((.d (.int .i64 0)) :: ((.d (.int .i64 0)) :: []))))]) (args' := [(.agg ((.d (.int .i64 z7.1)) :: ((.d (.int .i64 z7.2.1)) :: ((.d (.sl z7.2.2.1.length (e_GCell.cells z7.2.2.1))) :: [])))), (.d (.int .i64 0)), (.d (.int .i64 1)), (.d (.int .i64 20013)), (.agg ((.d (.int .i64 1)) :: ((.d (.int .i64 0)) :: ((.d (.int .i64 0)) :: []))))]) (l := [(.agg ((.d (.int .i64 z7.1)) :: ((.d (.int .i64 z7.2.1)) :: ((.d (.sl z7.2.2.1.length (e_GCell.cells z7.2.2.1))) :: [])))), (.d (.int .i64 0)), (.d (.int .i64 1)), (.d (.int .i64 20013)), (.agg ((.d (.int .i64 1)) :: ((.d (.int .i64 0)) :: ((.d (.int .i64 0)) :: []))))]) (refs := [128]) (r := (.tup [(.agg ((.d (.int .i64 z8.1)) :: ((.d (.int .i64 z8.2.1)) :: ((.r (.own 0 33 4 z8.2.2.1.length (e_GCell.cells z8.2.2.1))) :: [])))), (.d (.int .i64 z8.2.2.2))])) (v := (.tup [(.agg ((.d (.int .i64 z8.1)) :: ((.d (.int .i64 z8.2.1)) :: ((.r (.msl 176 1 0 z8.2.2.1.length)) :: [])))), (.d (.int .i64 z8.2.2.2))])) (ups' := [(176, ⟨1, some (.own 33 4 (e_GCell.cells z8.2.2.1))⟩)]) (by kernel_rfl) (by kernel_rfl) (by kernel_rfl) (fz_cons (fz_agg (fz_cons (by kernel_rfl) (fz_cons (by kernel_rfl) (fz_cons (fz_own e_GCell (e := 33) (k := 4) (xs := z7.2.2.1) (by kernel_rfl) (by kernel_rfl) rfl rfl) fz_nil)))) (fz_cons rfl (fz_cons rfl (fz_cons rfl (fz_cons rfl fz_nil))))) (by kernel_rfl) (f9_ok base (d - 1) (dpt hd rfl) (GGrid.mk z7.1 z7.2.1 z7.2.2.1) 0 1 20013 (GPen.mk 1 0 0) z8 hz8) (by kernel_rfl) (by kernel_rfl) (by kernel_rfl) (by kernel_rfl)) ?_
  refine zlRun (n := 5) (j := 8) rfl (by kernel_rfl) ?_
  refine zlEnd (by kernel_rfl) ?_
  refine zkSeq ?_
  refine zrSeq ?_
  refine zrReg ?_
  refine zlRun (n := 1) (j := 1) rfl (by kernel_rfl) ?_
  refine bindE hS (fun z9 hz9 hS => ?_)
  refine zlOp (d := some 26) (op := (.call 13 [(.tmp 25), (.const (.int .i64 0))])) (g := none) (v := (.tup [(.r (.msl 216 1 0 z9.1.length)), (.d (.int .i64 z9.2))])) (ups := [(216, ⟨1, some (.own 3 1 ((eInt .i64).cells z9.1))⟩)]) (j := 2) rfl (by kernel_rfl) (by kernel_rfl) (ev_call (args := [(.agg ((.d (.int .i64 z8.1)) :: ((.d (.int .i64 z8.2.1)) :: ((.r (.msl 176 1 0 z8.2.2.1.length)) :: [])))), (.d (.int .i64 0))]) (l := [(.agg ((.d (.int .i64 z8.1)) :: ((.d (.int .i64 z8.2.1)) :: ((.d (.sl z8.2.2.1.length (e_GCell.cells z8.2.2.1))) :: [])))), (.d (.int .i64 0))]) (r := (.tup [(.r (.own 0 3 1 z9.1.length ((eInt .i64).cells z9.1))), (.d (.int .i64 z9.2))])) (by kernel_rfl) (l_cons (l_agg (l_cons (by kernel_rfl) (l_cons (by kernel_rfl) (l_cons (l_own e_GCell (e := 33) (k := 4) (xs := z8.2.2.1) (by kernel_rfl) rfl rfl) l_nil)))) (l_cons (by kernel_rfl) l_nil)) (f13_ok base (d - 1) (dpt hd rfl) (GGrid.mk z8.1 z8.2.1 z8.2.2.1) 0 z9 hz9) (by simp only [free_own (eInt .i64) (fun _ => rfl), free_tup, free_agg, free_nl, free_cs, free_int, free_bool, free_str, free_un, free_ni, free_s0, Bool.and_true, Bool.or_true, Bool.and_self]) (by kernel_rfl) (by kernel_rfl)) ?_
  refine zlRun (n := 5) (j := 7) rfl (by kernel_rfl) ?_
  refine zlEnd (by kernel_rfl) ?_
  refine zkSeq ?_
  refine zrSeq ?_
  refine zrReg ?_
  refine zlRun (n := 1) (j := 1) rfl (by kernel_rfl) ?_
  refine zlBool (d := 30) (op := (.cmpI .eql (.tmp 29) (.const (.int .i64 0)))) (g := none) (j := 2) (decide (z6.2.2.2 = 0)) rfl (by kernel_rfl) (by kernel_rfl) (by kernel_rfl) (fun hc => ?_) (fun hc => ?_)
  · replace hS := cond_t hc hS
    refine zlRun (n := 2) (j := 4) rfl (by kernel_rfl) ?_
    refine zlBool (d := 33) (op := (.cmpI .eql (.tmp 32) (.const (.int .i64 0)))) (g := (some (31, true))) (j := 5) (decide (z7.2.2.2 = 0)) rfl (by kernel_rfl) (by kernel_rfl) (by kernel_rfl) (fun hc => ?_) (fun hc => ?_)
    · replace hS := cond_t hc hS
      refine zlRun (n := 3) (j := 8) rfl (by kernel_rfl) ?_
      refine zlBool (d := 37) (op := (.cmpI .eql (.tmp 36) (.const (.int .i64 0)))) (g := (some (35, true))) (j := 9) (decide (z8.2.2.2 = 0)) rfl (by kernel_rfl) (by kernel_rfl) (by kernel_rfl) (fun hc => ?_) (fun hc => ?_)
      · replace hS := cond_t hc hS
        refine zlRun (n := 3) (j := 12) rfl (by kernel_rfl) ?_
        refine zlBool (d := 41) (op := (.cmpI .eql (.tmp 40) (.const (.int .i64 0)))) (g := (some (39, true))) (j := 13) (decide (z9.2 = 0)) rfl (by kernel_rfl) (by kernel_rfl) (by kernel_rfl) (fun hc => ?_) (fun hc => ?_)
        · replace hS := cond_t hc hS
          refine zlRun (n := 4) (j := 17) rfl (by kernel_rfl) ?_
          refine bindE hS (fun z10 hz10 hS => ?_)
          refine zlOp (d := some 46) (op := (.call 16 [(.tmp 44), (.tmp 45)])) (g := (some (43, true))) (v := (.d (.bool z10))) (ups := []) (j := 18) rfl (by kernel_rfl) (by kernel_rfl) (ev_call (args := [(.r (.msl 216 1 0 z9.1.length)), (.r (.msl 368 1 0 (([97, 20013, 32] : List Int).length)))]) (l := [(.d (.sl z9.1.length ((eInt .i64).cells z9.1))), (.d (.sl ([97, 20013, 32] : List Int).length ((eInt .i64).cells ([97, 20013, 32]))))]) (r := (.d (.bool z10))) (by kernel_rfl) (l_cons (l_own (eInt .i64) (e := 3) (k := 1) (xs := z9.1) (by kernel_rfl) rfl rfl) (l_cons (l_own (eInt .i64) (e := 3) (k := 1) (xs := [97, 20013, 32]) (by kernel_rfl) rfl rfl) l_nil)) (f16_ok base (d - 1) (dpt hd rfl) z9.1 [97, 20013, 32] z10 hz10) (by kernel_rfl) (by kernel_rfl) (by kernel_rfl)) ?_
          refine zlRun (n := 2) (j := 20) rfl (by kernel_rfl) ?_
          refine zlEnd (by kernel_rfl) ?_
          refine zkSeq ?_
          refine zrRet ?_
          refine zkNil ?_
          exact endQ hS hQ (fRet (by kernel_rfl) ((congrArg (fun s => outR s 0 c10.res) (by kernel_rfl : finSt c10.fin _ = f10_fin z10)).trans (f10_out z10)))
        · replace hS := cond_f hc hS
          refine zlRun (n := 7) (j := 20) rfl (by kernel_rfl) ?_
          refine zlEnd (by kernel_rfl) ?_
          refine zkSeq ?_
          refine zrRet ?_
          refine zkNil ?_
          exact endQ hS hQ (fRet (by kernel_rfl) ((congrArg (fun s => outR s 0 c10.res) (by kernel_rfl : finSt c10.fin _ = f10_fin false)).trans (f10_out false)))
      · replace hS := cond_f hc hS
        refine zlRun (n := 11) (j := 20) rfl (by kernel_rfl) ?_
        refine zlEnd (by kernel_rfl) ?_
        refine zkSeq ?_
        refine zrRet ?_
        refine zkNil ?_
        exact endQ hS hQ (fRet (by kernel_rfl) ((congrArg (fun s => outR s 0 c10.res) (by kernel_rfl : finSt c10.fin _ = f10_fin false)).trans (f10_out false)))
    · replace hS := cond_f hc hS
      refine zlRun (n := 15) (j := 20) rfl (by kernel_rfl) ?_
      refine zlEnd (by kernel_rfl) ?_
      refine zkSeq ?_
      refine zrRet ?_
      refine zkNil ?_
      exact endQ hS hQ (fRet (by kernel_rfl) ((congrArg (fun s => outR s 0 c10.res) (by kernel_rfl : finSt c10.fin _ = f10_fin false)).trans (f10_out false)))
  · replace hS := cond_f hc hS
    refine zlRun (n := 18) (j := 20) rfl (by kernel_rfl) ?_
    refine zlEnd (by kernel_rfl) ?_
    refine zkSeq ?_
    refine zrRet ?_
    refine zkNil ?_
    exact endQ hS hQ (fRet (by kernel_rfl) ((congrArg (fun s => outR s 0 c10.res) (by kernel_rfl : finSt c10.fin _ = f10_fin false)).trans (f10_out false)))
/- farwriter/grid.span -/
def f34_fin (p6 : Bool) : St := ⟨(up (fun _ => .un) 8 (.d (.bool p6))), (hB fun _ => 0)⟩
theorem f34_out (p6 : Bool) : outR (f34_fin p6) 0 c34.res = some ((.d (.bool p6)), []) := by
  kernel_rfl
def f34_Q (r : Bool) (e : PX) (st : St) : Prop := DoneF c34 0 ((.d (.bool r)), []) e st
noncomputable def f34 (a1 : GGrid) (a2 : Int) (a3 : Int) (a4 : Int) : Option (Bool) := (bif (decide (0 ≤ a2)) then (bif (decide (a2 < a1.High)) then (bif (decide (0 ≤ a3)) then (bif (decide (a3 ≤ a4)) then (bif (decide (a4 ≤ a1.Wide)) then (some true) else (some false)) else (some false)) else (some false)) else (some false)) else (some false))
theorem f34_ok (base : Orc) (d : Nat) (hd : 1 ≤ d) (a1 : GGrid) (a2 : Int) (a3 : Int) (a4 : Int) (r : Bool) (hS : f34 a1 a2 a3 a4 = some r) : lev codes base d 34 [(.agg ((.d (.int .i64 a1.Wide)) :: ((.d (.int .i64 a1.High)) :: ((.d (.sl a1.Cells.length (e_GCell.cells a1.Cells))) :: [])))), (.d (.int .i64 a2)), (.d (.int .i64 a3)), (.d (.int .i64 a4))] [] = some ((.d (.bool r)), []) := by
  refine lev_go codes34 rfl rfl (Nat.le_trans (Nat.le_of_ble_eq_true rfl) hd) fun Q hQ => ?_
  unfold f34 at hS
  show ZR _ Q c34_b [] _
  replace hQ : ∀ e st', f34_Q r e st' → Q e st' := hQ
  refine zrSeq ?_
  refine zrReg ?_
  refine zlRun (n := 2) (j := 2) rfl (by kernel_rfl) ?_
  refine zlEnd (by kernel_rfl) ?_
  refine zkSeq ?_
  refine zrSeq ?_
  refine zrReg ?_
  refine zlRun (n := 1) (j := 1) rfl (by kernel_rfl) ?_
  refine zlBool (d := 10) (op := (.cmpI .geq (.tmp 9) (.const (.int .i64 0)))) (g := none) (j := 2) (decide (0 ≤ a2)) rfl (by kernel_rfl) (by kernel_rfl) (by kernel_rfl) (fun hc => ?_) (fun hc => ?_)
  · replace hS := cond_t hc hS
    refine zlRun (n := 4) (j := 6) rfl (by kernel_rfl) ?_
    refine zlBool (d := 15) (op := (.cmpI .lss (.tmp 12) (.tmp 14))) (g := (some (11, true))) (j := 7) (decide (a2 < a1.High)) rfl (by kernel_rfl) (by kernel_rfl) (by kernel_rfl) (fun hc => ?_) (fun hc => ?_)
    · replace hS := cond_t hc hS
      refine zlRun (n := 3) (j := 10) rfl (by kernel_rfl) ?_
      refine zlBool (d := 19) (op := (.cmpI .geq (.tmp 18) (.const (.int .i64 0)))) (g := (some (17, true))) (j := 11) (decide (0 ≤ a3)) rfl (by kernel_rfl) (by kernel_rfl) (by kernel_rfl) (fun hc => ?_) (fun hc => ?_)
      · replace hS := cond_t hc hS
        refine zlRun (n := 4) (j := 15) rfl (by kernel_rfl) ?_
        refine zlBool (d := 24) (op := (.cmpI .leq (.tmp 22) (.tmp 23))) (g := (some (21, true))) (j := 16) (decide (a3 ≤ a4)) rfl (by kernel_rfl) (by kernel_rfl) (by kernel_rfl) (fun hc => ?_) (fun hc => ?_)
        · replace hS := cond_t hc hS
          refine zlRun (n := 5) (j := 21) rfl (by kernel_rfl) ?_
          refine zlBool (d := 30) (op := (.cmpI .leq (.tmp 27) (.tmp 29))) (g := (some (26, true))) (j := 22) (decide (a4 ≤ a1.Wide)) rfl (by kernel_rfl) (by kernel_rfl) (by kernel_rfl) (fun hc => ?_) (fun hc => ?_)
          · replace hS := cond_t hc hS
            refine zlRun (n := 2) (j := 24) rfl (by kernel_rfl) ?_
            refine zlEnd (by kernel_rfl) ?_
            refine zkSeq ?_
            refine zrRet ?_
            refine zkNil ?_
            exact endQ hS hQ (fRet (by kernel_rfl) ((congrArg (fun s => outR s 0 c34.res) (by kernel_rfl : finSt c34.fin _ = f34_fin true)).trans (f34_out true)))
          · replace hS := cond_f hc hS
            refine zlRun (n := 2) (j := 24) rfl (by kernel_rfl) ?_
            refine zlEnd (by kernel_rfl) ?_
            refine zkSeq ?_
            refine zrRet ?_
            refine zkNil ?_
            exact endQ hS hQ (fRet (by kernel_rfl) ((congrArg (fun s => outR s 0 c34.res) (by kernel_rfl : finSt c34.fin _ = f34_fin false)).trans (f34_out false)))
        · replace hS := cond_f hc hS
          refine zlRun (n := 8) (j := 24) rfl (by kernel_rfl) ?_
          refine zlEnd (by kernel_rfl) ?_
          refine zkSeq ?_
          refine zrRet ?_
          refine zkNil ?_
          exact endQ hS hQ (fRet (by kernel_rfl) ((congrArg (fun s => outR s 0 c34.res) (by kernel_rfl : finSt c34.fin _ = f34_fin false)).trans (f34_out false)))
      · replace hS := cond_f hc hS
        refine zlRun (n := 13) (j := 24) rfl (by kernel_rfl) ?_
        refine zlEnd (by kernel_rfl) ?_
        refine zkSeq ?_
        refine zrRet ?_
        refine zkNil ?_
        exact endQ hS hQ (fRet (by kernel_rfl) ((congrArg (fun s => outR s 0 c34.res) (by kernel_rfl : finSt c34.fin _ = f34_fin false)).trans (f34_out false)))
    · replace hS := cond_f hc hS
      refine zlRun (n := 17) (j := 24) rfl (by kernel_rfl) ?_
      refine zlEnd (by kernel_rfl) ?_
      refine zkSeq ?_
      refine zrRet ?_
      refine zkNil ?_
      exact endQ hS hQ (fRet (by kernel_rfl) ((congrArg (fun s => outR s 0 c34.res) (by kernel_rfl : finSt c34.fin _ = f34_fin false)).trans (f34_out false)))
  · replace hS := cond_f hc hS
    refine zlRun (n := 22) (j := 24) rfl (by kernel_rfl) ?_
    refine zlEnd (by kernel_rfl) ?_
    refine zkSeq ?_
    refine zrRet ?_
    refine zkNil ?_
    exact endQ hS hQ (fRet (by kernel_rfl) ((congrArg (fun s => outR s 0 c34.res) (by kernel_rfl : finSt c34.fin _ = f34_fin false)).trans (f34_out false)))
/- farwriter/grid.FillIn -/
def f35_fin (p29 : List GCell) : St := ⟨(up (fun _ => .un) 2000000 .un), (up (hB fun _ => 0) 0 ⟨0, some (.own 33 4 (e_GCell.cells p29))⟩)⟩
theorem f35_out (p29 : List GCell) : outR (f35_fin p29) 1 c35.res = some ((.tup []), [(.own 33 4 (e_GCell.cells p29))]) := by
  kernel_rfl
def f35_Q (r : (List GCell)) (e : PX) (st : St) : Prop := DoneF c35 1 ((.tup []), [(.own 33 4 (e_GCell.cells r)), .box []]) e st
def f35_l0_J (a1 : Int) (a2 : Int) (a3 : Int) (a4 : Int) (a5 : Int) (a6 : GPen) (a7 : List GCell) (x : (List GCell) × Nat × Nat × Int) : St := ⟨(up (up (up (up (fun _ => .un) 11 (.d (.int .i64 x.2.2.2))) 10 (.r (.msl 0 0 x.2.1 x.2.2.1))) 9 (.r (.ptr 80 0 0))) 3 (.d (.int .i64 a5))), (up (up (hB fun _ => 0) 80 ⟨0, some (.box ((.d (.int .i64 a6.Flags)) :: ((.d (.int .i64 a6.Fore)) :: ((.d (.int .i64 a6.Back)) :: []))))⟩) 0 ⟨0, some (.own 33 4 (e_GCell.cells x.1))⟩)⟩
def f35_l0_H (a1 : Int) (a2 : Int) (a3 : Int) (a4 : Int) (a5 : Int) (a6 : GPen) (a7 : List GCell) (x : (List GCell) × Nat × Nat × Int) (st : St) : Prop := keepSt [3, 9, 10, 11] [(0, .id 0), (80, .id 80)] [] st = f35_l0_J a1 a2 a3 a4 a5 a6 a7 x
def f35_l0_e0_J (a1 : Int) (a2 : Int) (a3 : Int) (a4 : Int) (a5 : Int) (a6 : GPen) (a7 : List GCell) (p55 : List GCell) (p56 : Nat) (p57 : Nat) : St := ⟨(up (fun _ => .un) 10 (.r (.msl 0 0 p56 p57))), (up (hB fun _ => 0) 0 ⟨0, some (.own 33 4 (e_GCell.cells p55))⟩)⟩
def f35_l0_X (a1 : Int) (a2 : Int) (a3 : Int) (a4 : Int) (a5 : Int) (a6 : GPen) (a7 : List GCell) (z : ((List GCell) × Nat × Nat)) (e : PX) (st : St) : Prop := e = .exit 0 ∧ st = f35_l0_e0_J a1 a2 a3 a4 a5 a6 a7 z.1 z.2.1 z.2.2
def f35_l0_j1_J (a1 : Int) (a2 : Int) (a3 : Int) (a4 : Int) (a5 : Int) (a6 : GPen) (a7 : List GCell) (p63 : List GCell) (p64 : Nat) (p65 : Nat) (p66 : Int) : St := ⟨(up (up (up (up (fun _ => .un) 11 (.d (.int .i64 p66))) 10 (.r (.msl 0 0 p64 p65))) 9 (.r (.ptr 80 0 0))) 3 (.d (.int .i64 a5))), (up (up (hB fun _ => 0) 80 ⟨0, some (.box ((.d (.int .i64 a6.Flags)) :: ((.d (.int .i64 a6.Fore)) :: ((.d (.int .i64 a6.Back)) :: []))))⟩) 0 ⟨0, some (.own 33 4 (e_GCell.cells p63))⟩)⟩
noncomputable def f35_l0_j1 (a1 : Int) (a2 : Int) (a3 : Int) (a4 : Int) (a5 : Int) (a6 : GPen) (a7 : List GCell) (p63 : List GCell) (p64 : Nat) (p65 : Nat) (p66 : Int) : Option (((List GCell) × Nat × Nat × Int) ⊕ (((List GCell) × Nat × Nat))) := ((f54 a6).bind fun z31 => ((inR p66 p65).bind fun m32 => ((p63[(p64 + m32)]?).bind fun z33 => ((some (p63.set (p64 + m32) z31)).bind fun z34 => (some (.inl (z34, p64, p65, (IntKind.i64.wrap (p66 + 1)))))))))
theorem f35_l0_j1_ok {base : Orc} {d : Nat} (hd : 5 ≤ d) (a1 : Int) (a2 : Int) (a3 : Int) (a4 : Int) (a5 : Int) (a6 : GPen) (a7 : List GCell) {r : ((List GCell) × Nat × Nat × Int) ⊕ (((List GCell) × Nat × Nat))} {Q : PX → St → Prop} (hQ : ∀ e st', finL (f35_l0_H a1 a2 a3 a4 a5 a6 a7) (f35_l0_X a1 a2 a3 a4 a5 a6 a7) r e st' → Q e st') (p63 : List GCell) (p64 : Nat) (p65 : Nat) (p66 : Int) (hS : f35_l0_j1 a1 a2 a3 a4 a5 a6 a7 p63 p64 p65 p66 = some r) {st : St} (he : keepSt [3, 9, 10, 11] [(0, .id 0), (80, .id 80)] [] st = f35_l0_j1_J a1 a2 a3 a4 a5 a6 a7 p63 p64 p65 p66) : ZR (lev codes base (d - 1)) Q c35_1 [] st := by
  refine zrKeep he ?_
  unfold f35_l0_j1 at hS
  refine zrSeq ?_
  refine zrBlk ?_
  refine zrReg ?_
  refine zlRun (n := 3) (j := 3) rfl (by kernel_rfl) ?_
  refine bindE hS (fun z31 hz31 hS => ?_)
  refine zlOp (d := some 24) (op := (.call 54 [(.tmp 23)])) (g := none) (v := (.agg ((.d (.int .i64 z31.Rune)) :: ((.d (.int .i64 z31.Pen.Flags)) :: ((.d (.int .i64 z31.Pen.Fore)) :: ((.d (.int .i64 z31.Pen.Back)) :: [])))))) (ups := []) (j := 4) rfl (by kernel_rfl) (by kernel_rfl) (ev_call (args := [(.agg ((.d (.int .i64 a6.Flags)) :: ((.d (.int .i64 a6.Fore)) :: ((.d (.int .i64 a6.Back)) :: []))))]) (l := [(.agg ((.d (.int .i64 a6.Flags)) :: ((.d (.int .i64 a6.Fore)) :: ((.d (.int .i64 a6.Back)) :: []))))]) (r := (.agg ((.d (.int .i64 z31.Rune)) :: ((.d (.int .i64 z31.Pen.Flags)) :: ((.d (.int .i64 z31.Pen.Fore)) :: ((.d (.int .i64 z31.Pen.Back)) :: [])))))) (by kernel_rfl) (by kernel_rfl) (f54_ok base (d - 1) (dpt hd rfl) a6 z31 hz31) (by kernel_rfl) (by kernel_rfl) (by kernel_rfl)) ?_
  refine bindE hS (fun m32 hm32 hS => ?_)
  refine zlOp (d := some 25) (op := (.ixS 33 4 (.tmp 21) (.tmp 22))) (g := none) (v := (.r (.ptr 0 0 ((p64 + m32) * 4)))) (ups := []) (j := 5) rfl (by kernel_rfl) (by kernel_rfl) (ev_ixM (kk := .i64) (b := 0) (g := 0) (l := p64) (n := p65) (j := p66) (cs := e_GCell.cells p63) (by kernel_rfl) (by kernel_rfl) (by kernel_rfl) hm32) ?_
  refine bindE hS (fun z33 hz33 hS => ?_)
  refine bindE hS (fun z34 hz34 hS => ?_)
  refine zlOp (d := none) (op := (.store 4 (.tmp 25) (.tmp 24))) (g := none) (v := .un) (ups := [(0, ⟨0, some (.own 33 4 (e_GCell.cells (p63.set (p64 + m32) z31)))⟩)]) (j := 6) rfl (by kernel_rfl) (by kernel_rfl) (ev_storeM e_GCell (b := 0) (g := 0) (o := (p64 + m32) * 4) (e := 33) (k := 4) (m := (p64 + m32)) (fo := 0) (xs := p63) (z := z33) (z' := z31) (by kernel_rfl) (new := ((.d (.int .i64 z31.Rune)) :: ((.d (.int .i64 z31.Pen.Flags)) :: ((.d (.int .i64 z31.Pen.Fore)) :: ((.d (.int .i64 z31.Pen.Back)) :: []))))) (ds := [.int .i64 z31.Rune, .int .i64 z31.Pen.Flags, .int .i64 z31.Pen.Fore, .int .i64 z31.Pen.Back]) (by kernel_rfl) (by kernel_rfl) (by kernel_rfl) rfl hz33 (by kernel_rfl) (by kernel_rfl) (by kernel_rfl)) ?_
  have ez34 := Option.some.inj hz34
  have lz34 : p63.length = z34.length := by rw [← ez34, List.length_set]
  rw [ez34]
  try delta f35_l0_j1_J
  try rw [lz34]
  refine zlEnd (by kernel_rfl) ?_
  refine zkBlk ?_
  refine zkSeq ?_
  refine zrReg ?_
  refine zlRun (n := 3) (j := 3) rfl (by kernel_rfl) ?_
  refine zlEnd (by kernel_rfl) ?_
  refine zkNil ?_
  exact endQ hS hQ (finL_n (by show keepSt _ _ _ _ = _; kernel_rfl))
noncomputable def f35_l0 (a1 : Int) (a2 : Int) (a3 : Int) (a4 : Int) (a5 : Int) (a6 : GPen) (a7 : List GCell) (x : (List GCell) × Nat × Nat × Int) : Option (((List GCell) × Nat × Nat × Int) ⊕ (((List GCell) × Nat × Nat))) := (bif (decide (x.2.2.2 < a5)) then (f35_l0_j1 a1 a2 a3 a4 a5 a6 a7 x.1 x.2.1 x.2.2.1 x.2.2.2) else (some (.inr (x.1, x.2.1, x.2.2.1))))
theorem f35_l0_ok {base : Orc} {d : Nat} (hd : 5 ≤ d) (a1 : Int) (a2 : Int) (a3 : Int) (a4 : Int) (a5 : Int) (a6 : GPen) (a7 : List GCell) {r : ((List GCell) × Nat × Nat × Int) ⊕ (((List GCell) × Nat × Nat))} {Q : PX → St → Prop} (hQ : ∀ e st', finL (f35_l0_H a1 a2 a3 a4 a5 a6 a7) (f35_l0_X a1 a2 a3 a4 a5 a6 a7) r e st' → Q e st') {x : (List GCell) × Nat × Nat × Int} (hS : f35_l0 a1 a2 a3 a4 a5 a6 a7 x = some r) {st : St} (he : f35_l0_H a1 a2 a3 a4 a5 a6 a7 x st) : ZR (lev codes base (d - 1)) Q c35_2 [] st := by
  refine zrKeep he ?_
  unfold f35_l0 at hS
  refine zrSeq ?_
  refine zrSeq ?_
  refine zrReg ?_
  refine zlRun (n := 2) (j := 2) rfl (by kernel_rfl) ?_
  refine zlBool (d := 18) (op := (.cmpI .lss (.tmp 16) (.tmp 17))) (g := none) (j := 3) (decide (x.2.2.2 < a5)) rfl (by kernel_rfl) (by kernel_rfl) (by kernel_rfl) (fun hc => ?_) (fun hc => ?_)
  · replace hS := cond_t hc hS
    refine zlEnd (by kernel_rfl) ?_
    refine zkSeq ?_
    refine zrCondT (by kernel_rfl) ?_
    refine zrSkip ?_
    refine zkSeq ?_
    exact f35_l0_j1_ok hd a1 a2 a3 a4 a5 a6 a7 hQ x.1 x.2.1 x.2.2.1 x.2.2.2 hS (by kernel_rfl)
  · replace hS := cond_f hc hS
    refine zlEnd (by kernel_rfl) ?_
    refine zkSeq ?_
    refine zrCondF (by kernel_rfl) ?_
    refine zrKeep (J := f35_l0_e0_J a1 a2 a3 a4 a5 a6 a7 x.1 x.2.1 x.2.2.1) (by kernel_rfl) ?_
    refine zrExit ?_
    refine zkSeqX ?_
    refine zkNil ?_
    exact endQ hS hQ (finL_x (by intro h; cases h) (by show _ = _ ∧ _ = _; exact ⟨rfl, rfl⟩))
noncomputable def f35 (a1 : Int) (a2 : Int) (a3 : Int) (a4 : Int) (a5 : Int) (a6 : GPen) (a7 : List GCell) : Option ((List GCell)) := ((f33v1 a1 a2 a3 a7).bind fun z17 => ((chk (decide (z17.1.length = a7.length))).bind fun z18 => ((loopO (f35_l0 a1 a2 a3 a4 a5 a6 a7) (z17.1, z17.2.1, z17.2.2, a4)).bind fun z35 => ((f46 z35.2.1 z35.2.2 z35.1).bind fun z36 => ((chk (decide (z36.length = z35.1.length))).bind fun z37 => (some z36))))))
theorem f35_ok (base : Orc) (d : Nat) (hd : 5 ≤ d) (a1 : Int) (a2 : Int) (a3 : Int) (a4 : Int) (a5 : Int) (a6 : GPen) (a7 : List GCell) (r : (List GCell)) (hS : f35 a1 a2 a3 a4 a5 a6 a7 = some r) : lev codes base d 35 [(.agg ((.d (.int .i64 a1)) :: ((.d (.int .i64 a2)) :: ((.r (.msl 0 0 0 a7.length)) :: [])))), (.d (.int .i64 a3)), (.d (.int .i64 a4)), (.d (.int .i64 a5)), (.agg ((.d (.int .i64 a6.Flags)) :: ((.d (.int .i64 a6.Fore)) :: ((.d (.int .i64 a6.Back)) :: []))))] [(.own 33 4 (e_GCell.cells a7))] = some ((.tup []), [(.own 33 4 (e_GCell.cells r)), .box []]) := by
  refine lev_go codes35 rfl rfl (Nat.le_trans (Nat.le_of_ble_eq_true rfl) hd) fun Q hQ => ?_
  unfold f35 at hS
  show ZR _ Q c35_b [] _
  replace hQ : ∀ e st', f35_Q r e st' → Q e st' := hQ
  refine zrSeq ?_
  refine zrReg ?_
  refine zlRun (n := 2) (j := 2) rfl (by kernel_rfl) ?_
  refine zlEnd (by kernel_rfl) ?_
  refine zkSeq ?_
  refine zrSeq ?_
  refine zrReg ?_
  refine zlRun (n := 2) (j := 2) rfl (by kernel_rfl) ?_
  refine bindE hS (fun z17 hz17 hS => ?_)
  refine bindE hS (fun z18 hz18 hS => ?_)
  refine zlOp (d := some 14) (op := (.callr 33 [(.tmp 12), (.tmp 13)])) (g := none) (v := (.r (.msl 0 0 z17.2.1 z17.2.2))) (ups := [(0, ⟨0, some (.own 33 4 (e_GCell.cells z17.1))⟩)]) (j := 3) rfl (by kernel_rfl) (by kernel_rfl) (ev_callrX (args := [(.agg ((.d (.int .i64 a1)) :: ((.d (.int .i64 a2)) :: ((.r (.msl 0 0 0 a7.length)) :: [])))), (.d (.int .i64 a3))]) (ids := [0]) (bs := [(.own 33 4 (e_GCell.cells a7))]) (l := [(.agg ((.d (.int .i64 a1)) :: ((.d (.int .i64 a2)) :: ((.r (.msl 0 0 0 a7.length)) :: [])))), (.d (.int .i64 a3))]) (bt := [(.own 33 4 (e_GCell.cells a7))]) (r := (.r (.msl 0 0 z17.2.1 z17.2.2))) (bs' := [(.own 33 4 (e_GCell.cells z17.1)), .box []]) (by kernel_rfl) (by kernel_rfl) (by kernel_rfl) (by kernel_rfl) (by kernel_rfl) (f33v1_ok base (d - 1) (dpt hd rfl) a1 a2 a3 a7 z17 hz17) (by kernel_rfl) (sm_own e_GCell (e1 := 33) (k1 := 4) (xs := a7) (ys := z17.1) (by kernel_rfl) hz18 sm_nil) (by kernel_rfl) (by kernel_rfl)) ?_
  have lz18 : a7.length = z17.1.length := (of_decide_eq_true (chk_t hz18)).symm
  skip
  try rw [lz18]
  refine zlRun (n := 1) (j := 4) rfl (by kernel_rfl) ?_
  refine zlEnd (by kernel_rfl) ?_
  refine zkSeq ?_
  refine zrSeq ?_
  refine zrSeq ?_
  refine zrReg ?_
  refine zlRun (n := 2) (j := 2) rfl (by kernel_rfl) ?_
  refine zlEnd (by kernel_rfl) ?_
  refine zkSeq ?_
  refine zrBlk ?_
  refine bindE hS (fun z35 hz35 hS => ?_)
  refine zrLoop (f35_l0_H a1 a2 a3 a4 a5 a6 a7) (f35_l0_X a1 a2 a3 a4 a5 a6 a7) (fun x st r Q h0 hS hQ => f35_l0_ok hd a1 a2 a3 a4 a5 a6 a7 hQ hS h0) (x := (z17.1, z17.2.1, z17.2.2, a4)) (z := z35) (by show keepSt _ _ _ _ = _; kernel_rfl) hz35 ?_
  intro e st' _ hX
  obtain ⟨rfl, rfl⟩ : _ ∧ _ := hX
  refine zkBlkX ?_
  refine zkSeq ?_
  refine zrReg ?_
  refine zlRun (n := 1) (j := 1) rfl (by kernel_rfl) ?_
  refine bindE hS (fun z36 hz36 hS => ?_)
  refine bindE hS (fun z37 hz37 hS => ?_)
  refine zlOp (d := some 27) (op := (.callr 46 [(.tmp 26)])) (g := none) (v := (.tup [])) (ups := [(0, ⟨0, some (.own 33 4 (e_GCell.cells z36))⟩)]) (j := 2) rfl (by kernel_rfl) (by kernel_rfl) (ev_callrX (args := [(.r (.msl 0 0 z35.2.1 z35.2.2))]) (ids := [0]) (bs := [(.own 33 4 (e_GCell.cells z35.1))]) (l := [(.r (.msl 0 0 z35.2.1 z35.2.2))]) (bt := [(.own 33 4 (e_GCell.cells z35.1))]) (r := (.tup [])) (bs' := [(.own 33 4 (e_GCell.cells z36)), .box []]) (by kernel_rfl) (by kernel_rfl) (by kernel_rfl) (by kernel_rfl) (by kernel_rfl) (f46_ok base (d - 1) (dpt hd rfl) z35.2.1 z35.2.2 z35.1 z36 hz36) (by kernel_rfl) (sm_own e_GCell (e1 := 33) (k1 := 4) (xs := z35.1) (ys := z36) (by kernel_rfl) hz37 sm_nil) (by kernel_rfl) (by kernel_rfl)) ?_
  have lz37 : z35.1.length = z36.length := (of_decide_eq_true (chk_t hz37)).symm
  skip
  try rw [lz37]
  refine zlEnd (by kernel_rfl) ?_
  refine zkNil ?_
  exact endQ hS hQ (fNormX (by kernel_rfl) (by kernel_rfl : finSt c35.fin _ = f35_fin z36) (by kernel_rfl) (f35_out z36))
/- farwriter/grid.Fill -/
def f14_fin (p6 : Int) (p7 : Int) (p8 : List GCell) (p9 : Int) : St := ⟨(up (up (fun _ => .un) 11 (.d (.int .i64 p9))) 10 (.r (.ptr 88 0 0))), (up (up (hB fun _ => 0) 176 ⟨0, some (.own 33 4 (e_GCell.cells p8))⟩) 88 ⟨0, some (.box ((.d (.int .i64 p6)) :: ((.d (.int .i64 p7)) :: ((.r (.msl 176 0 0 p8.length)) :: []))))⟩)⟩
theorem f14_out (p6 : Int) (p7 : Int) (p8 : List GCell) (p9 : Int) : outR (f14_fin p6 p7 p8 p9) 0 c14.res = some ((.tup [(.agg ((.d (.int .i64 p6)) :: ((.d (.int .i64 p7)) :: ((.r (.own 0 33 4 p8.length (e_GCell.cells p8))) :: [])))), (.d (.int .i64 p9))]), []) := by
  exact out_of (ids := []) (ids' := [176]) (l := [(.agg ((.d (.int .i64 p6)) :: ((.d (.int .i64 p7)) :: ((.r (.msl 176 0 0 p8.length)) :: [])))), (.d (.int .i64 p9))]) (by kernel_rfl) (by kernel_rfl) (o_tup (o_cons (o_agg (o_cons rfl (o_cons rfl (o_cons (o_own e_GCell (e := 33) (k := 4) (xs := p8) (by kernel_rfl) rfl rfl rfl rfl) o_nil)))) (o_cons rfl o_nil)))
def f14_Q (r : Int × Int × (List GCell) × Int) (e : PX) (st : St) : Prop := DoneF c14 0 ((.tup [(.agg ((.d (.int .i64 r.1)) :: ((.d (.int .i64 r.2.1)) :: ((.r (.own 0 33 4 r.2.2.1.length (e_GCell.cells r.2.2.1))) :: [])))), (.d (.int .i64 r.2.2.2))]), []) e st
def f14_j0_J (a1 : GGrid) (a2 : Int) (a3 : Int) (a4 : Int) (a5 : GPen) (p15 : Int) (p16 : Int) (p17 : List GCell) : St := ⟨(up (up (up (up (up (up (fun _ => .un) 10 (.r (.ptr 88 0 0))) 9 (.r (.ptr 80 0 0))) 5 (.r (.ptr 48 0 0))) 3 (.d (.int .i64 a4))) 2 (.d (.int .i64 a3))) 1 (.d (.int .i64 a2))), (up (up (up (up (hB fun _ => 0) 88 ⟨0, some (.box ((.d (.int .i64 0)) :: ((.d (.int .i64 0)) :: ((.d (.sl ([] : List GCell).length (e_GCell.cells ([])))) :: []))))⟩) 80 ⟨0, some (.box ((.d (.int .i64 a5.Flags)) :: ((.d (.int .i64 a5.Fore)) :: ((.d (.int .i64 a5.Back)) :: []))))⟩) 176 ⟨0, some (.own 33 4 (e_GCell.cells p17))⟩) 48 ⟨0, some (.box ((.d (.int .i64 p15)) :: ((.d (.int .i64 p16)) :: ((.r (.msl 176 0 0 p17.length)) :: []))))⟩)⟩
noncomputable def f14_j0 (a1 : GGrid) (a2 : Int) (a3 : Int) (a4 : Int) (a5 : GPen) (p15 : Int) (p16 : Int) (p17 : List GCell) : Option (Int × Int × (List GCell) × Int) := ((f35 p15 p16 a2 a3 a4 a5 p17).bind fun z7 => ((chk (decide (z7.length = p17.length))).bind fun z8 => (some (p15, p16, z7, 0))))
theorem f14_j0_ok {base : Orc} {d : Nat} (hd : 6 ≤ d) (a1 : GGrid) (a2 : Int) (a3 : Int) (a4 : Int) (a5 : GPen) {r : Int × Int × (List GCell) × Int} {Q : PX → St → Prop} (hQ : ∀ e st', f14_Q r e st' → Q e st') (p15 : Int) (p16 : Int) (p17 : List GCell) (hS : f14_j0 a1 a2 a3 a4 a5 p15 p16 p17 = some r) {st : St} (he : keepSt [1, 2, 3, 5, 9, 10] [(48, .id 48), (176, .id 176), (80, .id 80), (88, .id 88)] [.cell 88 2 0 0 1] st = f14_j0_J a1 a2 a3 a4 a5 p15 p16 p17) : ZR (lev codes base (d - 1)) Q c14_1 [] st := by
  refine zrKeep he ?_
  unfold f14_j0 at hS
  refine zrSeq ?_
  refine zrReg ?_
  refine zlRun (n := 5) (j := 5) rfl (by kernel_rfl) ?_
  refine bindE hS (fun z7 hz7 hS => ?_)
  refine bindE hS (fun z8 hz8 hS => ?_)
  refine zlOp (d := some 33) (op := (.callr 35 [(.tmp 28), (.tmp 29), (.tmp 30), (.tmp 31), (.tmp 32)])) (g := none) (v := (.tup [])) (ups := [(176, ⟨0, some (.own 33 4 (e_GCell.cells z7))⟩)]) (j := 6) rfl (by kernel_rfl) (by kernel_rfl) (ev_callrX (args := [(.agg ((.d (.int .i64 p15)) :: ((.d (.int .i64 p16)) :: ((.r (.msl 176 0 0 p17.length)) :: [])))), (.d (.int .i64 a2)), (.d (.int .i64 a3)), (.d (.int .i64 a4)), (.agg ((.d (.int .i64 a5.Flags)) :: ((.d (.int .i64 a5.Fore)) :: ((.d (.int .i64 a5.Back)) :: []))))]) (ids := [176]) (bs := [(.own 33 4 (e_GCell.cells p17))]) (l := [(.agg ((.d (.int .i64 p15)) :: ((.d (.int .i64 p16)) :: ((.r (.msl 0 0 0 p17.length)) :: [])))), (.d (.int .i64 a2)), (.d (.int .i64 a3)), (.d (.int .i64 a4)), (.agg ((.d (.int .i64 a5.Flags)) :: ((.d (.int .i64 a5.Fore)) :: ((.d (.int .i64 a5.Back)) :: []))))]) (bt := [(.own 33 4 (e_GCell.cells p17))]) (r := (.tup [])) (bs' := [(.own 33 4 (e_GCell.cells z7)), .box []]) (by kernel_rfl) (by kernel_rfl) (by kernel_rfl) (by kernel_rfl) (by kernel_rfl) (f35_ok base (d - 1) (dpt hd rfl) p15 p16 a2 a3 a4 a5 p17 z7 hz7) (by kernel_rfl) (sm_own e_GCell (e1 := 33) (k1 := 4) (xs := p17) (ys := z7) (by kernel_rfl) hz8 sm_nil) (by kernel_rfl) (by kernel_rfl)) ?_
  have lz8 : p17.length = z7.length := (of_decide_eq_true (chk_t hz8)).symm
  try delta f14_j0_J
  try rw [lz8]
  refine zlEnd (by kernel_rfl) ?_
  refine zkSeq ?_
  refine zrSeq ?_
  refine zrReg ?_
  refine zlRun (n := 3) (j := 3) rfl (by kernel_rfl) ?_
  refine zlEnd (by kernel_rfl) ?_
  refine zkSeq ?_
  refine zrRet ?_
  refine zkNil ?_
  exact endQ hS hQ (fRet (by kernel_rfl) ((congrArg (fun s => outR s 0 c14.res) (by kernel_rfl : finSt c14.fin _ = f14_fin p15 p16 z7 0)).trans (f14_out p15 p16 z7 0)))
noncomputable def f14 (a1 : GGrid) (a2 : Int) (a3 : Int) (a4 : Int) (a5 : GPen) : Option (Int × Int × (List GCell) × Int) := ((f34 a1 a2 a3 a4).bind fun z5 => ((f29 a1 z5 a5).bind fun z6 => (bif (!decide (z6.2.2.2 = 0)) then (some (z6.1, z6.2.1, z6.2.2.1, z6.2.2.2)) else (f14_j0 a1 a2 a3 a4 a5 z6.1 z6.2.1 z6.2.2.1))))
theorem f14_ok (base : Orc) (d : Nat) (hd : 6 ≤ d) (a1 : GGrid) (a2 : Int) (a3 : Int) (a4 : Int) (a5 : GPen) (r : Int × Int × (List GCell) × Int) (hS : f14 a1 a2 a3 a4 a5 = some r) : lev codes base d 14 [(.agg ((.d (.int .i64 a1.Wide)) :: ((.d (.int .i64 a1.High)) :: ((.d (.sl a1.Cells.length (e_GCell.cells a1.Cells))) :: [])))), (.d (.int .i64 a2)), (.d (.int .i64 a3)), (.d (.int .i64 a4)), (.agg ((.d (.int .i64 a5.Flags)) :: ((.d (.int .i64 a5.Fore)) :: ((.d (.int .i64 a5.Back)) :: []))))] [] = some ((.tup [(.agg ((.d (.int .i64 r.1)) :: ((.d (.int .i64 r.2.1)) :: ((.r (.own 0 33 4 r.2.2.1.length (e_GCell.cells r.2.2.1))) :: [])))), (.d (.int .i64 r.2.2.2))]), []) := by
  refine lev_go codes14 rfl rfl (Nat.le_trans (Nat.le_of_ble_eq_true rfl) hd) fun Q hQ => ?_
  unfold f14 at hS
  show ZR _ Q c14_b [] _
  replace hQ : ∀ e st', f14_Q r e st' → Q e st' := hQ
  refine zrSeq ?_
  refine zrReg ?_
  refine zlRun (n := 4) (j := 4) rfl (by kernel_rfl) ?_
  refine zlEnd (by kernel_rfl) ?_
  refine zkSeq ?_
  refine zrSeq ?_
  refine zrRegD ?_
  refine zdRun (n := 5) (j := 5) (ts := [[(48, false)], [(48, false)], [], [], []]) (acc' := [[(48, false)], [(48, false)], [], [], []]) rfl (by kernel_rfl) (by kernel_rfl) (by kernel_rfl) ?_
  refine bindE hS (fun z5 hz5 hS => ?_)
  refine zdOp (d := some 19) (op := (.call 34 [(.tmp 15), (.tmp 16), (.tmp 17), (.tmp 18)])) (g := none) (v := (.d (.bool z5))) (ups := []) (j := 6) (t1 := [(160, true), (161, true), (162, true), (163, true), (164, true), (165, true), (166, true), (167, true)]) (acc' := [[(48, false)], [(48, false)], [], [], [], [(160, true), (161, true), (162, true), (163, true), (164, true), (165, true), (166, true), (167, true)]]) (by kernel_rfl) (by kernel_rfl) rfl (by kernel_rfl) (by kernel_rfl) (ev_call (args := [(.agg ((.d (.int .i64 a1.Wide)) :: ((.d (.int .i64 a1.High)) :: ((.d (.sl a1.Cells.length (e_GCell.cells a1.Cells))) :: [])))), (.d (.int .i64 a2)), (.d (.int .i64 a3)), (.d (.int .i64 a4))]) (l := [(.agg ((.d (.int .i64 a1.Wide)) :: ((.d (.int .i64 a1.High)) :: ((.d (.sl a1.Cells.length (e_GCell.cells a1.Cells))) :: [])))), (.d (.int .i64 a2)), (.d (.int .i64 a3)), (.d (.int .i64 a4))]) (r := (.d (.bool z5))) (by kernel_rfl) (by kernel_rfl) (f34_ok base (d - 1) (dpt hd rfl) a1 a2 a3 a4 z5 hz5) (by kernel_rfl) (by kernel_rfl) (by kernel_rfl)) ?_
  refine zdRun (n := 1) (j := 7) (ts := [[(80, false)]]) (acc' := [[(48, false)], [(48, false)], [], [], [], [(160, true), (161, true), (162, true), (163, true), (164, true), (165, true), (166, true), (167, true)], [(80, false)]]) rfl (by kernel_rfl) (by kernel_rfl) (by kernel_rfl) ?_
  refine bindE hS (fun z6 hz6 hS => ?_)
  refine zdOp (d := some 21) (op := (.callf 29 [(.tmp 14), (.tmp 19), (.tmp 20)])) (g := none) (v := (.tup [(.agg ((.d (.int .i64 z6.1)) :: ((.d (.int .i64 z6.2.1)) :: ((.r (.msl 176 1 0 z6.2.2.1.length)) :: [])))), (.d (.int .i64 z6.2.2.2))])) (ups := [(176, ⟨1, some (.own 33 4 (e_GCell.cells z6.2.2.1))⟩)]) (j := 8) (t1 := [(176, true), (177, true), (178, true), (179, true), (180, true), (181, true), (182, true), (183, true)]) (acc' := [[(48, false)], [(48, false)], [], [], [], [(160, true), (161, true), (162, true), (163, true), (164, true), (165, true), (166, true), (167, true)], [(80, false)], [(176, true), (177, true), (178, true), (179, true), (180, true), (181, true), (182, true), (183, true)]]) (by kernel_rfl) (by kernel_rfl) rfl (by kernel_rfl) (by kernel_rfl) (ev_callF (args := [(.agg ((.d (.int .i64 a1.Wide)) :: ((.d (.int .i64 a1.High)) :: ((.d (.sl a1.Cells.length (e_GCell.cells a1.Cells))) :: [])))), (.d (.bool z5)), (.agg ((.d (.int .i64 a5.Flags)) :: ((.d (.int .i64 a5.Fore)) :: ((.d (.int .i64 a5.Back)) :: []))))]) (args' := [(.agg ((.d (.int .i64 a1.Wide)) :: ((.d (.int .i64 a1.High)) :: ((.d (.sl a1.Cells.length (e_GCell.cells a1.Cells))) :: [])))), (.d (.bool z5)), (.agg ((.d (.int .i64 a5.Flags)) :: ((.d (.int .i64 a5.Fore)) :: ((.d (.int .i64 a5.Back)) :: []))))]) (l := [(.agg ((.d (.int .i64 a1.Wide)) :: ((.d (.int .i64 a1.High)) :: ((.d (.sl a1.Cells.length (e_GCell.cells a1.Cells))) :: [])))), (.d (.bool z5)), (.agg ((.d (.int .i64 a5.Flags)) :: ((.d (.int .i64 a5.Fore)) :: ((.d (.int .i64 a5.Back)) :: []))))]) (refs := []) (r := (.tup [(.agg ((.d (.int .i64 z6.1)) :: ((.d (.int .i64 z6.2.1)) :: ((.r (.own 0 33 4 z6.2.2.1.length (e_GCell.cells z6.2.2.1))) :: [])))), (.d (.int .i64 z6.2.2.2))])) (v := (.tup [(.agg ((.d (.int .i64 z6.1)) :: ((.d (.int .i64 z6.2.1)) :: ((.r (.msl 176 1 0 z6.2.2.1.length)) :: [])))), (.d (.int .i64 z6.2.2.2))])) (ups' := [(176, ⟨1, some (.own 33 4 (e_GCell.cells z6.2.2.1))⟩)]) (by kernel_rfl) (by kernel_rfl) (by kernel_rfl) (fz_cons rfl (fz_cons rfl (fz_cons rfl fz_nil))) (by kernel_rfl) (f29_ok base (d - 1) (dpt hd rfl) a1 z5 a5 z6 hz6) (by kernel_rfl) (by kernel_rfl) (by kernel_rfl) (by kernel_rfl)) ?_
  refine zdRun (n := 5) (j := 13) (ts := [[], [], [], [(48, true)], []]) (acc' := [[(48, false)], [(48, false)], [], [], [], [(160, true), (161, true), (162, true), (163, true), (164, true), (165, true), (166, true), (167, true)], [(80, false)], [(176, true), (177, true), (178, true), (179, true), (180, true), (181, true), (182, true), (183, true)], [], [], [], [(48, true)], []]) rfl (by kernel_rfl) (by kernel_rfl) (by kernel_rfl) ?_
  refine zdEnd (by kernel_rfl) (by kernel_rfl) ?_
  refine zkSeq ?_
  refine zrSeq ?_
  refine zrSeq ?_
  refine zrReg ?_
  refine zlRun (n := 1) (j := 1) rfl (by kernel_rfl) ?_
  refine zlBool (d := 25) (op := (.cmpI .neq (.tmp 24) (.const (.int .i64 0)))) (g := none) (j := 2) (!decide (z6.2.2.2 = 0)) rfl (by kernel_rfl) (by kernel_rfl) (by kernel_rfl) (fun hc => ?_) (fun hc => ?_)
  · replace hS := cond_t hc hS
    refine zlEnd (by kernel_rfl) ?_
    refine zkSeq ?_
    refine zrCondT (by kernel_rfl) ?_
    refine zrSeq ?_
    refine zrReg ?_
    refine zlRun (n := 4) (j := 4) rfl (by kernel_rfl) ?_
    refine zlEnd (by kernel_rfl) ?_
    refine zkSeq ?_
    refine zrRet ?_
    refine zkSeqR ?_
    refine zkNil ?_
    exact endQ hS hQ (fRet (by kernel_rfl) ((congrArg (fun s => outR s 0 c14.res) (by kernel_rfl : finSt c14.fin _ = f14_fin z6.1 z6.2.1 z6.2.2.1 z6.2.2.2)).trans (f14_out z6.1 z6.2.1 z6.2.2.1 z6.2.2.2)))
  · replace hS := cond_f hc hS
    refine zlEnd (by kernel_rfl) ?_
    refine zkSeq ?_
    refine zrCondF (by kernel_rfl) ?_
    refine zrSkip ?_
    refine zkSeq ?_
    exact f14_j0_ok hd a1 a2 a3 a4 a5 hQ z6.1 z6.2.1 z6.2.2.1 hS (by kernel_rfl)
/- farwriter/farref.Between -/
def f44_fin (p3 : Bool) : St := ⟨(up (fun _ => .un) 6 (.d (.bool p3))), (hB fun _ => 0)⟩
theorem f44_out (p3 : Bool) : outR (f44_fin p3) 0 c44.res = some ((.d (.bool p3)), []) := by
  kernel_rfl
def f44_Q (r : Bool) (e : PX) (st : St) : Prop := DoneF c44 0 ((.d (.bool r)), []) e st
noncomputable def f44 (a1 : Int) (a2 : Int) (a3 : Int) : Option (Bool) := (bif (decide (a2 ≤ a1)) then (bif (decide (a1 ≤ a3)) then (some true) else (some false)) else (some false))
theorem f44_ok (base : Orc) (d : Nat) (hd : 1 ≤ d) (a1 : Int) (a2 : Int) (a3 : Int) (r : Bool) (hS : f44 a1 a2 a3 = some r) : lev codes base d 44 [(.d (.int .i64 a1)), (.d (.int .i64 a2)), (.d (.int .i64 a3))] [] = some ((.d (.bool r)), []) := by
  refine lev_go codes44 rfl rfl (Nat.le_trans (Nat.le_of_ble_eq_true rfl) hd) fun Q hQ => ?_
  unfold f44 at hS
  show ZR _ Q c44_b [] _
  replace hQ : ∀ e st', f44_Q r e st' → Q e st' := hQ
  refine zrSeq ?_
  refine zrReg ?_
  refine zlRun (n := 1) (j := 1) rfl (by kernel_rfl) ?_
  refine zlEnd (by kernel_rfl) ?_
  refine zkSeq ?_
  refine zrSeq ?_
  refine zrReg ?_
  refine zlRun (n := 2) (j := 2) rfl (by kernel_rfl) ?_
  refine zlBool (d := 9) (op := (.cmpI .leq (.tmp 7) (.tmp 8))) (g := none) (j := 3) (decide (a2 ≤ a1)) rfl (by kernel_rfl) (by kernel_rfl) (by kernel_rfl) (fun hc => ?_) (fun hc => ?_)
  · replace hS := cond_t hc hS
    refine zlRun (n := 3) (j := 6) rfl (by kernel_rfl) ?_
    refine zlBool (d := 13) (op := (.cmpI .leq (.tmp 11) (.tmp 12))) (g := (some (10, true))) (j := 7) (decide (a1 ≤ a3)) rfl (by kernel_rfl) (by kernel_rfl) (by kernel_rfl) (fun hc => ?_) (fun hc => ?_)
    · replace hS := cond_t hc hS
      refine zlRun (n := 2) (j := 9) rfl (by kernel_rfl) ?_
      refine zlEnd (by kernel_rfl) ?_
      refine zkSeq ?_
      refine zrRet ?_
      refine zkNil ?_
      exact endQ hS hQ (fRet (by kernel_rfl) ((congrArg (fun s => outR s 0 c44.res) (by kernel_rfl : finSt c44.fin _ = f44_fin true)).trans (f44_out true)))
    · replace hS := cond_f hc hS
      refine zlRun (n := 2) (j := 9) rfl (by kernel_rfl) ?_
      refine zlEnd (by kernel_rfl) ?_
      refine zkSeq ?_
      refine zrRet ?_
      refine zkNil ?_
      exact endQ hS hQ (fRet (by kernel_rfl) ((congrArg (fun s => outR s 0 c44.res) (by kernel_rfl : finSt c44.fin _ = f44_fin false)).trans (f44_out false)))
  · replace hS := cond_f hc hS
    refine zlRun (n := 6) (j := 9) rfl (by kernel_rfl) ?_
    refine zlEnd (by kernel_rfl) ?_
    refine zkSeq ?_
    refine zrRet ?_
    refine zkNil ?_
    exact endQ hS hQ (fRet (by kernel_rfl) ((congrArg (fun s => outR s 0 c44.res) (by kernel_rfl : finSt c44.fin _ = f44_fin false)).trans (f44_out false)))
/- farwriter/farref.Rune -/
def f32_fin (p2 : Bool) : St := ⟨(up (fun _ => .un) 2 (.d (.bool p2))), (hB fun _ => 0)⟩
theorem f32_out (p2 : Bool) : outR (f32_fin p2) 0 c32.res = some ((.d (.bool p2)), []) := by
  kernel_rfl
def f32_Q (r : Bool) (e : PX) (st : St) : Prop := DoneF c32 0 ((.d (.bool r)), []) e st
noncomputable def f32 (a1 : Int) : Option (Bool) := ((f44 a1 0 55295).bind fun z3 => (bif z3 then (some true) else ((f44 a1 57344 1114111).bind fun z4 => (some z4))))
theorem f32_ok (base : Orc) (d : Nat) (hd : 2 ≤ d) (a1 : Int) (r : Bool) (hS : f32 a1 = some r) : lev codes base d 32 [(.d (.int .i64 a1))] [] = some ((.d (.bool r)), []) := by
  refine lev_go codes32 rfl rfl (Nat.le_trans (Nat.le_of_ble_eq_true rfl) hd) fun Q hQ => ?_
  unfold f32 at hS
  show ZR _ Q c32_b [] _
  replace hQ : ∀ e st', f32_Q r e st' → Q e st' := hQ
  refine zrSeq ?_
  refine zrReg ?_
  refine zlRun (n := 1) (j := 1) rfl (by kernel_rfl) ?_
  refine zlEnd (by kernel_rfl) ?_
  refine zkSeq ?_
  refine zrSeq ?_
  refine zrReg ?_
  refine zlRun (n := 1) (j := 1) rfl (by kernel_rfl) ?_
  refine bindE hS (fun z3 hz3 hS => ?_)
  refine zlOp (d := some 4) (op := (.call 44 [(.tmp 3), (.const (.int .i64 0)), (.const (.int .i64 55295))])) (g := none) (v := (.d (.bool z3))) (ups := []) (j := 2) rfl (by kernel_rfl) (by kernel_rfl) (ev_call (args := [(.d (.int .i64 a1)), (.d (.int .i64 0)), (.d (.int .i64 55295))]) (l := [(.d (.int .i64 a1)), (.d (.int .i64 0)), (.d (.int .i64 55295))]) (r := (.d (.bool z3))) (by kernel_rfl) (by kernel_rfl) (f44_ok base (d - 1) (dpt hd rfl) a1 0 55295 z3 hz3) (by kernel_rfl) (by kernel_rfl) (by kernel_rfl)) ?_
  refine zlRun (n := 1) (j := 3) rfl (by kernel_rfl) ?_
  refine zlSplit 5 z3 (by kernel_rfl) (fun hc => ?_) (fun hc => ?_)
  · replace hS := cond_t hc hS
    refine zlRun (n := 4) (j := 7) rfl (by kernel_rfl) ?_
    refine zlEnd (by kernel_rfl) ?_
    refine zkSeq ?_
    refine zrRet ?_
    refine zkNil ?_
    exact endQ hS hQ (fRet (by kernel_rfl) ((congrArg (fun s => outR s 0 c32.res) (by kernel_rfl : finSt c32.fin _ = f32_fin true)).trans (f32_out true)))
  · replace hS := cond_f hc hS
    refine zlRun (n := 1) (j := 4) rfl (by kernel_rfl) ?_
    refine bindE hS (fun z4 hz4 hS => ?_)
    refine zlOp (d := some 7) (op := (.call 44 [(.tmp 6), (.const (.int .i64 57344)), (.const (.int .i64 1114111))])) (g := (some (5, false))) (v := (.d (.bool z4))) (ups := []) (j := 5) rfl (by kernel_rfl) (by kernel_rfl) (ev_call (args := [(.d (.int .i64 a1)), (.d (.int .i64 57344)), (.d (.int .i64 1114111))]) (l := [(.d (.int .i64 a1)), (.d (.int .i64 57344)), (.d (.int .i64 1114111))]) (r := (.d (.bool z4))) (by kernel_rfl) (by kernel_rfl) (f44_ok base (d - 1) (dpt hd rfl) a1 57344 1114111 z4 hz4) (by kernel_rfl) (by kernel_rfl) (by kernel_rfl)) ?_
    refine zlRun (n := 2) (j := 7) rfl (by kernel_rfl) ?_
    refine zlEnd (by kernel_rfl) ?_
    refine zkSeq ?_
    refine zrRet ?_
    refine zkNil ?_
    exact endQ hS hQ (fRet (by kernel_rfl) ((congrArg (fun s => outR s 0 c32.res) (by kernel_rfl : finSt c32.fin _ = f32_fin z4)).trans (f32_out z4)))
/- farwriter/farref.Width -/
def f11_fin (p28 : Int) : St := ⟨(up (fun _ => .un) 2 (.d (.int .i64 p28))), (hB fun _ => 0)⟩
theorem f11_out (p28 : Int) : outR (f11_fin p28) 0 c11.res = some ((.d (.int .i64 p28)), []) := by
  kernel_rfl
def f11_Q (r : Int) (e : PX) (st : St) : Prop := DoneF c11 0 ((.d (.int .i64 r)), []) e st
def f11_l1_J (a1 : Int) (x : Int × Int) : St := ⟨(up (up (up (up (up (fun _ => .un) 45 (.d (.int .i64 x.2))) 44 (.d (.int .i64 ((([(0, 0), (32, 1), (127, 0), (160, 1), (768, 0), (880, 1), (4352, 2), (4448, 1), (8203, 0), (8208, 1), (11904, 2), (12351, 1), (12353, 2), (19904, 1), (19968, 2), (42192, 1), (44032, 2), (55204, 1), (63744, 2), (64256, 1), (65024, 0), (65040, 1), (65072, 2), (65136, 1), (65280, 2), (65377, 1), (65504, 2), (65511, 1), (127744, 2), (128592, 1), (129280, 2), (129536, 1), (131072, 2), (262142, 1)] : List (Int × Int)).length) : Int)))) 43 (.r (.msl 352 0 0 (([(0, 0), (32, 1), (127, 0), (160, 1), (768, 0), (880, 1), (4352, 2), (4448, 1), (8203, 0), (8208, 1), (11904, 2), (12351, 1), (12353, 2), (19904, 1), (19968, 2), (42192, 1), (44032, 2), (55204, 1), (63744, 2), (64256, 1), (65024, 0), (65040, 1), (65072, 2), (65136, 1), (65280, 2), (65377, 1), (65504, 2), (65511, 1), (127744, 2), (128592, 1), (129280, 2), (129536, 1), (131072, 2), (262142, 1)] : List (Int × Int)).length)))) 3 (.d (.int .i64 x.1))) 0 (.d (.int .i64 a1))), (up (hB fun _ => 0) 352 ⟨0, some (.own 61 2 (e_A61.cells ([(0, 0), (32, 1), (127, 0), (160, 1), (768, 0), (880, 1), (4352, 2), (4448, 1), (8203, 0), (8208, 1), (11904, 2), (12351, 1), (12353, 2), (19904, 1), (19968, 2), (42192, 1), (44032, 2), (55204, 1), (63744, 2), (64256, 1), (65024, 0), (65040, 1), (65072, 2), (65136, 1), (65280, 2), (65377, 1), (65504, 2), (65511, 1), (127744, 2), (128592, 1), (129280, 2), (129536, 1), (131072, 2), (262142, 1)])))⟩)⟩
def f11_l1_H (a1 : Int) (x : Int × Int) (st : St) : Prop := keepSt [0, 3, 43, 44, 45] [(352, .id 352)] [] st = f11_l1_J a1 x
def f11_l1_e0_J (a1 : Int) (p27 : Int) : St := ⟨(up (fun _ => .un) 3 (.d (.int .i64 p27))), (hB fun _ => 0)⟩
def f11_l1_X (a1 : Int) (z : Int) (e : PX) (st : St) : Prop := e = .exit 0 ∧ st = f11_l1_e0_J a1 z
def f11_l1_j3_J (a1 : Int) (p35 : Int) (p36 : Int) : St := ⟨(up (up (up (up (up (fun _ => .un) 45 (.d (.int .i64 p36))) 44 (.d (.int .i64 ((([(0, 0), (32, 1), (127, 0), (160, 1), (768, 0), (880, 1), (4352, 2), (4448, 1), (8203, 0), (8208, 1), (11904, 2), (12351, 1), (12353, 2), (19904, 1), (19968, 2), (42192, 1), (44032, 2), (55204, 1), (63744, 2), (64256, 1), (65024, 0), (65040, 1), (65072, 2), (65136, 1), (65280, 2), (65377, 1), (65504, 2), (65511, 1), (127744, 2), (128592, 1), (129280, 2), (129536, 1), (131072, 2), (262142, 1)] : List (Int × Int)).length) : Int)))) 43 (.r (.msl 352 0 0 (([(0, 0), (32, 1), (127, 0), (160, 1), (768, 0), (880, 1), (4352, 2), (4448, 1), (8203, 0), (8208, 1), (11904, 2), (12351, 1), (12353, 2), (19904, 1), (19968, 2), (42192, 1), (44032, 2), (55204, 1), (63744, 2), (64256, 1), (65024, 0), (65040, 1), (65072, 2), (65136, 1), (65280, 2), (65377, 1), (65504, 2), (65511, 1), (127744, 2), (128592, 1), (129280, 2), (129536, 1), (131072, 2), (262142, 1)] : List (Int × Int)).length)))) 3 (.d (.int .i64 p35))) 0 (.d (.int .i64 a1))), (up (hB fun _ => 0) 352 ⟨0, some (.own 61 2 (e_A61.cells ([(0, 0), (32, 1), (127, 0), (160, 1), (768, 0), (880, 1), (4352, 2), (4448, 1), (8203, 0), (8208, 1), (11904, 2), (12351, 1), (12353, 2), (19904, 1), (19968, 2), (42192, 1), (44032, 2), (55204, 1), (63744, 2), (64256, 1), (65024, 0), (65040, 1), (65072, 2), (65136, 1), (65280, 2), (65377, 1), (65504, 2), (65511, 1), (127744, 2), (128592, 1), (129280, 2), (129536, 1), (131072, 2), (262142, 1)])))⟩)⟩
noncomputable def f11_l1_j3 (a1 : Int) (p35 : Int) (p36 : Int) : Option ((Int × Int) ⊕ Int) := ((inR p36 (([(0, 0), (32, 1), (127, 0), (160, 1), (768, 0), (880, 1), (4352, 2), (4448, 1), (8203, 0), (8208, 1), (11904, 2), (12351, 1), (12353, 2), (19904, 1), (19968, 2), (42192, 1), (44032, 2), (55204, 1), (63744, 2), (64256, 1), (65024, 0), (65040, 1), (65072, 2), (65136, 1), (65280, 2), (65377, 1), (65504, 2), (65511, 1), (127744, 2), (128592, 1), (129280, 2), (129536, 1), (131072, 2), (262142, 1)] : List (Int × Int)).length)).bind fun m9 => ((([(0, 0), (32, 1), (127, 0), (160, 1), (768, 0), (880, 1), (4352, 2), (4448, 1), (8203, 0), (8208, 1), (11904, 2), (12351, 1), (12353, 2), (19904, 1), (19968, 2), (42192, 1), (44032, 2), (55204, 1), (63744, 2), (64256, 1), (65024, 0), (65040, 1), (65072, 2), (65136, 1), (65280, 2), (65377, 1), (65504, 2), (65511, 1), (127744, 2), (128592, 1), (129280, 2), (129536, 1), (131072, 2), (262142, 1)])[m9]?).bind fun z10 => (bif (decide (z10.1 ≤ a1)) then (some (.inl (z10.2, (IntKind.i64.wrap (p36 + 1))))) else (some (.inl (p35, (IntKind.i64.wrap (p36 + 1))))))))
theorem f11_l1_j3_ok {base : Orc} {d : Nat} (hd : 3 ≤ d) (a1 : Int) {r : (Int × Int) ⊕ Int} {Q : PX → St → Prop} (hQ : ∀ e st', finL (f11_l1_H a1) (f11_l1_X a1) r e st' → Q e st') (p35 : Int) (p36 : Int) (hS : f11_l1_j3 a1 p35 p36 = some r) {st : St} (he : keepSt [0, 3, 43, 44, 45] [(352, .id 352)] [] st = f11_l1_j3_J a1 p35 p36) : ZR (lev codes base (d - 1)) Q c11_1 [] st := by
  refine zrKeep he ?_
  unfold f11_l1_j3 at hS
  refine zrSeq ?_
  refine zrBlk ?_
  refine zrSeq ?_
  refine zrReg ?_
  refine bindE hS (fun m9 hm9 hS => ?_)
  refine zlOp (d := some 47) (op := (.ixS 61 2 (.tmp 43) (.tmp 45))) (g := none) (v := (.r (.ptr 352 0 ((0 + m9) * 2)))) (ups := []) (j := 1) rfl (by kernel_rfl) (by kernel_rfl) (ev_ixM (kk := .i64) (b := 352) (g := 0) (l := 0) (n := ([(0, 0), (32, 1), (127, 0), (160, 1), (768, 0), (880, 1), (4352, 2), (4448, 1), (8203, 0), (8208, 1), (11904, 2), (12351, 1), (12353, 2), (19904, 1), (19968, 2), (42192, 1), (44032, 2), (55204, 1), (63744, 2), (64256, 1), (65024, 0), (65040, 1), (65072, 2), (65136, 1), (65280, 2), (65377, 1), (65504, 2), (65511, 1), (127744, 2), (128592, 1), (129280, 2), (129536, 1), (131072, 2), (262142, 1)] : List (Int × Int)).length) (j := p36) (cs := e_A61.cells ([(0, 0), (32, 1), (127, 0), (160, 1), (768, 0), (880, 1), (4352, 2), (4448, 1), (8203, 0), (8208, 1), (11904, 2), (12351, 1), (12353, 2), (19904, 1), (19968, 2), (42192, 1), (44032, 2), (55204, 1), (63744, 2), (64256, 1), (65024, 0), (65040, 1), (65072, 2), (65136, 1), (65280, 2), (65377, 1), (65504, 2), (65511, 1), (127744, 2), (128592, 1), (129280, 2), (129536, 1), (131072, 2), (262142, 1)])) (by kernel_rfl) (by kernel_rfl) (by kernel_rfl) hm9) ?_
  refine bindE hS (fun z10 hz10 hS => ?_)
  refine zlOp (d := some 48) (op := (.load .true 2 (.tmp 47))) (g := none) (v := (.agg ((.d (.int .i64 z10.1)) :: ((.d (.int .i64 z10.2)) :: [])))) (ups := []) (j := 2) rfl (by kernel_rfl) (by kernel_rfl) (ev_loadM e_A61 (b := 352) (g := 0) (o := (0 + m9) * 2) (e := 61) (k := 2) (m := m9) (fo := 0) (xs := [(0, 0), (32, 1), (127, 0), (160, 1), (768, 0), (880, 1), (4352, 2), (4448, 1), (8203, 0), (8208, 1), (11904, 2), (12351, 1), (12353, 2), (19904, 1), (19968, 2), (42192, 1), (44032, 2), (55204, 1), (63744, 2), (64256, 1), (65024, 0), (65040, 1), (65072, 2), (65136, 1), (65280, 2), (65377, 1), (65504, 2), (65511, 1), (127744, 2), (128592, 1), (129280, 2), (129536, 1), (131072, 2), (262142, 1)]) (by kernel_rfl) (by kernel_rfl) (by rw [Nat.zero_add]; rfl) hz10 (by kernel_rfl) (by kernel_rfl) (by kernel_rfl)) ?_
  refine zlRun (n := 2) (j := 4) rfl (by kernel_rfl) ?_
  refine zlEnd (by kernel_rfl) ?_
  refine zkSeq ?_
  refine zrSeq ?_
  refine zrReg ?_
  refine zlRun (n := 3) (j := 3) rfl (by kernel_rfl) ?_
  refine zlBool (d := 52) (op := (.cmpI .geq (.tmp 49) (.tmp 51))) (g := none) (j := 4) (decide (z10.1 ≤ a1)) rfl (by kernel_rfl) (by kernel_rfl) (by kernel_rfl) (fun hc => ?_) (fun hc => ?_)
  · replace hS := cond_t hc hS
    refine zlEnd (by kernel_rfl) ?_
    refine zkSeq ?_
    refine zrCondT (by kernel_rfl) ?_
    refine zrReg ?_
    refine zlRun (n := 3) (j := 3) rfl (by kernel_rfl) ?_
    refine zlEnd (by kernel_rfl) ?_
    refine zkBlk ?_
    refine zkSeq ?_
    refine zrReg ?_
    refine zlRun (n := 2) (j := 2) rfl (by kernel_rfl) ?_
    refine zlEnd (by kernel_rfl) ?_
    refine zkNil ?_
    exact endQ hS hQ (finL_n (by show keepSt _ _ _ _ = _; kernel_rfl))
  · replace hS := cond_f hc hS
    refine zlEnd (by kernel_rfl) ?_
    refine zkSeq ?_
    refine zrCondF (by kernel_rfl) ?_
    refine zrSkip ?_
    refine zkBlk ?_
    refine zkSeq ?_
    refine zrReg ?_
    refine zlRun (n := 2) (j := 2) rfl (by kernel_rfl) ?_
    refine zlEnd (by kernel_rfl) ?_
    refine zkNil ?_
    exact endQ hS hQ (finL_n (by show keepSt _ _ _ _ = _; kernel_rfl))
def f11_l1_j2_J (a1 : Int) (p32 : Int) (p33 : Int) (p34 : Bool) : St := ⟨(up (up (up (up (up (up (fun _ => .un) 46 (.d (.bool p34))) 45 (.d (.int .i64 p33))) 44 (.d (.int .i64 ((([(0, 0), (32, 1), (127, 0), (160, 1), (768, 0), (880, 1), (4352, 2), (4448, 1), (8203, 0), (8208, 1), (11904, 2), (12351, 1), (12353, 2), (19904, 1), (19968, 2), (42192, 1), (44032, 2), (55204, 1), (63744, 2), (64256, 1), (65024, 0), (65040, 1), (65072, 2), (65136, 1), (65280, 2), (65377, 1), (65504, 2), (65511, 1), (127744, 2), (128592, 1), (129280, 2), (129536, 1), (131072, 2), (262142, 1)] : List (Int × Int)).length) : Int)))) 43 (.r (.msl 352 0 0 (([(0, 0), (32, 1), (127, 0), (160, 1), (768, 0), (880, 1), (4352, 2), (4448, 1), (8203, 0), (8208, 1), (11904, 2), (12351, 1), (12353, 2), (19904, 1), (19968, 2), (42192, 1), (44032, 2), (55204, 1), (63744, 2), (64256, 1), (65024, 0), (65040, 1), (65072, 2), (65136, 1), (65280, 2), (65377, 1), (65504, 2), (65511, 1), (127744, 2), (128592, 1), (129280, 2), (129536, 1), (131072, 2), (262142, 1)] : List (Int × Int)).length)))) 3 (.d (.int .i64 p32))) 0 (.d (.int .i64 a1))), (up (hB fun _ => 0) 352 ⟨0, some (.own 61 2 (e_A61.cells ([(0, 0), (32, 1), (127, 0), (160, 1), (768, 0), (880, 1), (4352, 2), (4448, 1), (8203, 0), (8208, 1), (11904, 2), (12351, 1), (12353, 2), (19904, 1), (19968, 2), (42192, 1), (44032, 2), (55204, 1), (63744, 2), (64256, 1), (65024, 0), (65040, 1), (65072, 2), (65136, 1), (65280, 2), (65377, 1), (65504, 2), (65511, 1), (127744, 2), (128592, 1), (129280, 2), (129536, 1), (131072, 2), (262142, 1)])))⟩)⟩
noncomputable def f11_l1_j2 (a1 : Int) (p32 : Int) (p33 : Int) (p34 : Bool) : Option ((Int × Int) ⊕ Int) := (bif p34 then (f11_l1_j3 a1 p32 p33) else (some (.inr p32)))
theorem f11_l1_j2_ok {base : Orc} {d : Nat} (hd : 3 ≤ d) (a1 : Int) {r : (Int × Int) ⊕ Int} {Q : PX → St → Prop} (hQ : ∀ e st', finL (f11_l1_H a1) (f11_l1_X a1) r e st' → Q e st') (p32 : Int) (p33 : Int) (p34 : Bool) (hS : f11_l1_j2 a1 p32 p33 p34 = some r) {st : St} (he : keepSt [0, 3, 43, 44, 45, 46] [(352, .id 352)] [] st = f11_l1_j2_J a1 p32 p33 p34) : ZR (lev codes base (d - 1)) Q c11_2 [] st := by
  refine zrKeep he ?_
  unfold f11_l1_j2 at hS
  refine zrSeq ?_
  refine zrSplit 46 p34 (by kernel_rfl) (fun hc => ?_) (fun hc => ?_)
  · replace hS := cond_t hc hS
    refine zrCondT (by kernel_rfl) ?_
    refine zrSkip ?_
    refine zkSeq ?_
    exact f11_l1_j3_ok hd a1 hQ p32 p33 hS (by kernel_rfl)
  · replace hS := cond_f hc hS
    refine zrCondF (by kernel_rfl) ?_
    refine zrKeep (J := f11_l1_e0_J a1 p32) (by kernel_rfl) ?_
    refine zrExit ?_
    refine zkSeqX ?_
    refine zkNil ?_
    exact endQ hS hQ (finL_x (by intro h; cases h) (by show _ = _ ∧ _ = _; exact ⟨rfl, rfl⟩))
noncomputable def f11_l1 (a1 : Int) (x : Int × Int) : Option ((Int × Int) ⊕ Int) := (bif (decide (x.2 < ((([(0, 0), (32, 1), (127, 0), (160, 1), (768, 0), (880, 1), (4352, 2), (4448, 1), (8203, 0), (8208, 1), (11904, 2), (12351, 1), (12353, 2), (19904, 1), (19968, 2), (42192, 1), (44032, 2), (55204, 1), (63744, 2), (64256, 1), (65024, 0), (65040, 1), (65072, 2), (65136, 1), (65280, 2), (65377, 1), (65504, 2), (65511, 1), (127744, 2), (128592, 1), (129280, 2), (129536, 1), (131072, 2), (262142, 1)] : List (Int × Int)).length) : Int))) then (f11_l1_j2 a1 x.1 x.2 true) else (f11_l1_j2 a1 x.1 x.2 false))
theorem f11_l1_ok {base : Orc} {d : Nat} (hd : 3 ≤ d) (a1 : Int) {r : (Int × Int) ⊕ Int} {Q : PX → St → Prop} (hQ : ∀ e st', finL (f11_l1_H a1) (f11_l1_X a1) r e st' → Q e st') {x : Int × Int} (hS : f11_l1 a1 x = some r) {st : St} (he : f11_l1_H a1 x st) : ZR (lev codes base (d - 1)) Q c11_3 [] st := by
  refine zrKeep he ?_
  unfold f11_l1 at hS
  refine zrSeq ?_
  refine zrReg ?_
  refine zlBool (d := 46) (op := (.cmpI .lss (.tmp 45) (.tmp 44))) (g := none) (j := 1) (decide (x.2 < ((([(0, 0), (32, 1), (127, 0), (160, 1), (768, 0), (880, 1), (4352, 2), (4448, 1), (8203, 0), (8208, 1), (11904, 2), (12351, 1), (12353, 2), (19904, 1), (19968, 2), (42192, 1), (44032, 2), (55204, 1), (63744, 2), (64256, 1), (65024, 0), (65040, 1), (65072, 2), (65136, 1), (65280, 2), (65377, 1), (65504, 2), (65511, 1), (127744, 2), (128592, 1), (129280, 2), (129536, 1), (131072, 2), (262142, 1)] : List (Int × Int)).length) : Int))) rfl (by kernel_rfl) (by kernel_rfl) (by kernel_rfl) (fun hc => ?_) (fun hc => ?_)
  · replace hS := cond_t hc hS
    refine zlEnd (by kernel_rfl) ?_
    refine zkSeq ?_
    exact f11_l1_j2_ok hd a1 hQ x.1 x.2 true hS (by kernel_rfl)
  · replace hS := cond_f hc hS
    refine zlEnd (by kernel_rfl) ?_
    refine zkSeq ?_
    exact f11_l1_j2_ok hd a1 hQ x.1 x.2 false hS (by kernel_rfl)
def f11_j0_J (a1 : Int) : St := ⟨(up (fun _ => .un) 0 (.d (.int .i64 a1))), (hB fun _ => 0)⟩
noncomputable def f11_j0 (a1 : Int) : Option (Int) := ((loopO (f11_l1 a1) (0, 0)).bind fun z11 => (some z11))
theorem f11_j0_ok {base : Orc} {d : Nat} (hd : 3 ≤ d) (a1 : Int) {r : Int} {Q : PX → St → Prop} (hQ : ∀ e st', f11_Q r e st' → Q e st')  (hS : f11_j0 a1 = some r) {st : St} (he : keepSt [0] [] [] st = f11_j0_J a1) : ZR (lev codes base (d - 1)) Q c11_4 [] st := by
  refine zrKeep he ?_
  unfold f11_j0 at hS
  refine zrSeq ?_
  refine zrReg ?_
  refine zlRun (n := 1) (j := 1) rfl (by kernel_rfl) ?_
  refine zlEnd (by kernel_rfl) ?_
  refine zkSeq ?_
  refine zrSeq ?_
  refine zrSeq ?_
  refine zrReg ?_
  refine zlRun (n := 37) (j := 37) rfl (by kernel_rfl) ?_
  refine zlEnd (by kernel_rfl) ?_
  refine zkSeq ?_
  refine zrBlk ?_
  refine bindE hS (fun z11 hz11 hS => ?_)
  refine zrLoop (f11_l1_H a1) (f11_l1_X a1) (fun x st r Q h0 hS hQ => f11_l1_ok hd a1 hQ hS h0) (x := (0, 0)) (z := z11) (by show keepSt _ _ _ _ = _; kernel_rfl) hz11 ?_
  intro e st' _ hX
  obtain ⟨rfl, rfl⟩ : _ ∧ _ := hX
  refine zkBlkX ?_
  refine zkSeq ?_
  refine zrSeq ?_
  refine zrReg ?_
  refine zlRun (n := 2) (j := 2) rfl (by kernel_rfl) ?_
  refine zlEnd (by kernel_rfl) ?_
  refine zkSeq ?_
  refine zrRet ?_
  refine zkNil ?_
  exact endQ hS hQ (fRet (by kernel_rfl) ((congrArg (fun s => outR s 0 c11.res) (by kernel_rfl : finSt c11.fin _ = f11_fin z11)).trans (f11_out z11)))
noncomputable def f11 (a1 : Int) : Option (Int) := ((f32 a1).bind fun z12 => (bif (!z12) then (some 0) else (f11_j0 a1 )))
theorem f11_ok (base : Orc) (d : Nat) (hd : 3 ≤ d) (a1 : Int) (r : Int) (hS : f11 a1 = some r) : lev codes base d 11 [(.d (.int .i64 a1))] [] = some ((.d (.int .i64 r)), []) := by
  refine lev_go codes11 rfl rfl (Nat.le_trans (Nat.le_of_ble_eq_true rfl) hd) fun Q hQ => ?_
  unfold f11 at hS
  show ZR _ Q c11_b [] _
  replace hQ : ∀ e st', f11_Q r e st' → Q e st' := hQ
  refine zrSeq ?_
  refine zrReg ?_
  refine zlRun (n := 1) (j := 1) rfl (by kernel_rfl) ?_
  refine zlEnd (by kernel_rfl) ?_
  refine zkSeq ?_
  refine zrSeq ?_
  refine zrSeq ?_
  refine zrReg ?_
  refine zlRun (n := 1) (j := 1) rfl (by kernel_rfl) ?_
  refine bindE hS (fun z12 hz12 hS => ?_)
  refine zlOp (d := some 7) (op := (.call 32 [(.tmp 6)])) (g := none) (v := (.d (.bool z12))) (ups := []) (j := 2) rfl (by kernel_rfl) (by kernel_rfl) (ev_call (args := [(.d (.int .i64 a1))]) (l := [(.d (.int .i64 a1))]) (r := (.d (.bool z12))) (by kernel_rfl) (by kernel_rfl) (f32_ok base (d - 1) (dpt hd rfl) a1 z12 hz12) (by kernel_rfl) (by kernel_rfl) (by kernel_rfl)) ?_
  refine zlRun (n := 1) (j := 3) rfl (by kernel_rfl) ?_
  refine zlEnd (by kernel_rfl) ?_
  refine zkSeq ?_
  refine zrSplit 8 (!z12) (by kernel_rfl) (fun hc => ?_) (fun hc => ?_)
  · replace hS := cond_t hc hS
    refine zrCondT (by kernel_rfl) ?_
    refine zrSeq ?_
    refine zrReg ?_
    refine zlRun (n := 1) (j := 1) rfl (by kernel_rfl) ?_
    refine zlEnd (by kernel_rfl) ?_
    refine zkSeq ?_
    refine zrRet ?_
    refine zkSeqR ?_
    refine zkNil ?_
    exact endQ hS hQ (fRet (by kernel_rfl) ((congrArg (fun s => outR s 0 c11.res) (by kernel_rfl : finSt c11.fin _ = f11_fin 0)).trans (f11_out 0)))
  · replace hS := cond_f hc hS
    refine zrCondF (by kernel_rfl) ?_
    refine zrSkip ?_
    refine zkSeq ?_
    exact f11_j0_ok hd a1 hQ  hS (by kernel_rfl)
/- farwriter/farref.Widths -/
def f15_fin (p13 : Int) : St := ⟨(up (fun _ => .un) 2 (.d (.int .i64 p13))), (hB fun _ => 0)⟩
theorem f15_out (p13 : Int) : outR (f15_fin p13) 0 c15.res = some ((.d (.int .i64 p13)), []) := by
  kernel_rfl
def f15_Q (r : Int) (e : PX) (st : St) : Prop := DoneF c15 0 ((.d (.int .i64 r)), []) e st
def f15_l0_J (a1 : List Int) (x : Int × Int) : St := ⟨(up (up (up (up (fun _ => .un) 8 (.d (.int .i64 x.2))) 7 (.d (.int .i64 (a1.length : Int)))) 6 (.d (.sl a1.length ((eInt .i64).cells a1)))) 3 (.d (.int .i64 x.1))), (hB fun _ => 0)⟩
def f15_l0_H (a1 : List Int) (x : Int × Int) (st : St) : Prop := keepSt [3, 6, 7, 8] [] [] st = f15_l0_J a1 x
def f15_l0_e0_J (a1 : List Int) (p12 : Int) : St := ⟨(up (fun _ => .un) 3 (.d (.int .i64 p12))), (hB fun _ => 0)⟩
def f15_l0_X (a1 : List Int) (z : Int) (e : PX) (st : St) : Prop := e = .exit 0 ∧ st = f15_l0_e0_J a1 z
def f15_l0_j2_J (a1 : List Int) (p20 : Int) (p21 : Int) : St := ⟨(up (up (up (up (fun _ => .un) 8 (.d (.int .i64 p21))) 7 (.d (.int .i64 (a1.length : Int)))) 6 (.d (.sl a1.length ((eInt .i64).cells a1)))) 3 (.d (.int .i64 p20))), (hB fun _ => 0)⟩
noncomputable def f15_l0_j2 (a1 : List Int) (p20 : Int) (p21 : Int) : Option ((Int × Int) ⊕ Int) := ((idx a1 p21).bind fun z7 => ((f11 z7).bind fun z8 => (some (.inl ((IntKind.i64.wrap (p20 + z8)), (IntKind.i64.wrap (p21 + 1)))))))
theorem f15_l0_j2_ok {base : Orc} {d : Nat} (hd : 4 ≤ d) (a1 : List Int) {r : (Int × Int) ⊕ Int} {Q : PX → St → Prop} (hQ : ∀ e st', finL (f15_l0_H a1) (f15_l0_X a1) r e st' → Q e st') (p20 : Int) (p21 : Int) (hS : f15_l0_j2 a1 p20 p21 = some r) {st : St} (he : keepSt [3, 6, 7, 8] [] [] st = f15_l0_j2_J a1 p20 p21) : ZR (lev codes base (d - 1)) Q c15_1 [] st := by
  refine zrKeep he ?_
  unfold f15_l0_j2 at hS
  refine zrSeq ?_
  refine zrBlk ?_
  refine zrSeq ?_
  refine zrReg ?_
  refine bindE hS (fun z7 hz7 hS => ?_)
  refine zlOp (d := some 10) (op := (.ixS 3 1 (.tmp 6) (.tmp 8))) (g := none) (v := (.rptr ((eInt .i64).enc z7 ++ ((eInt .i64).cells (a1.drop ((p21 : Int).toNat + 1)))))) (ups := []) (j := 1) rfl (by kernel_rfl) (by kernel_rfl) (ev_ixS (eInt .i64) (kk := .i64) (xs := a1) (j := p21) (by kernel_rfl) (by kernel_rfl) hz7 rfl (by intro h; cases h)) ?_
  refine zlRun (n := 2) (j := 3) rfl (by kernel_rfl) ?_
  refine zlEnd (by kernel_rfl) ?_
  refine zkSeq ?_
  refine zrReg ?_
  refine zlRun (n := 2) (j := 2) rfl (by kernel_rfl) ?_
  refine bindE hS (fun z8 hz8 hS => ?_)
  refine zlOp (d := some 14) (op := (.call 11 [(.tmp 13)])) (g := none) (v := (.d (.int .i64 z8))) (ups := []) (j := 3) rfl (by kernel_rfl) (by kernel_rfl) (ev_call (args := [(.d (.int .i64 z7))]) (l := [(.d (.int .i64 z7))]) (r := (.d (.int .i64 z8))) (by kernel_rfl) (by kernel_rfl) (f11_ok base (d - 1) (dpt hd rfl) z7 z8 hz8) (by kernel_rfl) (by kernel_rfl) (by kernel_rfl)) ?_
  refine zlRun (n := 2) (j := 5) rfl (by kernel_rfl) ?_
  refine zlEnd (by kernel_rfl) ?_
  refine zkBlk ?_
  refine zkSeq ?_
  refine zrReg ?_
  refine zlRun (n := 2) (j := 2) rfl (by kernel_rfl) ?_
  refine zlEnd (by kernel_rfl) ?_
  refine zkNil ?_
  exact endQ hS hQ (finL_n (by show keepSt _ _ _ _ = _; kernel_rfl))
def f15_l0_j1_J (a1 : List Int) (p17 : Int) (p18 : Int) (p19 : Bool) : St := ⟨(up (up (up (up (up (fun _ => .un) 9 (.d (.bool p19))) 8 (.d (.int .i64 p18))) 7 (.d (.int .i64 (a1.length : Int)))) 6 (.d (.sl a1.length ((eInt .i64).cells a1)))) 3 (.d (.int .i64 p17))), (hB fun _ => 0)⟩
noncomputable def f15_l0_j1 (a1 : List Int) (p17 : Int) (p18 : Int) (p19 : Bool) : Option ((Int × Int) ⊕ Int) := (bif p19 then (f15_l0_j2 a1 p17 p18) else (some (.inr p17)))
theorem f15_l0_j1_ok {base : Orc} {d : Nat} (hd : 4 ≤ d) (a1 : List Int) {r : (Int × Int) ⊕ Int} {Q : PX → St → Prop} (hQ : ∀ e st', finL (f15_l0_H a1) (f15_l0_X a1) r e st' → Q e st') (p17 : Int) (p18 : Int) (p19 : Bool) (hS : f15_l0_j1 a1 p17 p18 p19 = some r) {st : St} (he : keepSt [3, 6, 7, 8, 9] [] [] st = f15_l0_j1_J a1 p17 p18 p19) : ZR (lev codes base (d - 1)) Q c15_2 [] st := by
  refine zrKeep he ?_
  unfold f15_l0_j1 at hS
  refine zrSeq ?_
  refine zrSplit 9 p19 (by kernel_rfl) (fun hc => ?_) (fun hc => ?_)
  · replace hS := cond_t hc hS
    refine zrCondT (by kernel_rfl) ?_
    refine zrSkip ?_
    refine zkSeq ?_
    exact f15_l0_j2_ok hd a1 hQ p17 p18 hS (by kernel_rfl)
  · replace hS := cond_f hc hS
    refine zrCondF (by kernel_rfl) ?_
    refine zrKeep (J := f15_l0_e0_J a1 p17) (by kernel_rfl) ?_
    refine zrExit ?_
    refine zkSeqX ?_
    refine zkNil ?_
    exact endQ hS hQ (finL_x (by intro h; cases h) (by show _ = _ ∧ _ = _; exact ⟨rfl, rfl⟩))
noncomputable def f15_l0 (a1 : List Int) (x : Int × Int) : Option ((Int × Int) ⊕ Int) := (bif (decide (x.2 < (a1.length : Int))) then (f15_l0_j1 a1 x.1 x.2 true) else (f15_l0_j1 a1 x.1 x.2 false))
theorem f15_l0_ok {base : Orc} {d : Nat} (hd : 4 ≤ d) (a1 : List Int) {r : (Int × Int) ⊕ Int} {Q : PX → St → Prop} (hQ : ∀ e st', finL (f15_l0_H a1) (f15_l0_X a1) r e st' → Q e st') {x : Int × Int} (hS : f15_l0 a1 x = some r) {st : St} (he : f15_l0_H a1 x st) : ZR (lev codes base (d - 1)) Q c15_3 [] st := by
  refine zrKeep he ?_
  unfold f15_l0 at hS
  refine zrSeq ?_
  refine zrReg ?_
  refine zlBool (d := 9) (op := (.cmpI .lss (.tmp 8) (.tmp 7))) (g := none) (j := 1) (decide (x.2 < (a1.length : Int))) rfl (by kernel_rfl) (by kernel_rfl) (by kernel_rfl) (fun hc => ?_) (fun hc => ?_)
  · replace hS := cond_t hc hS
    refine zlEnd (by kernel_rfl) ?_
    refine zkSeq ?_
    exact f15_l0_j1_ok hd a1 hQ x.1 x.2 true hS (by kernel_rfl)
  · replace hS := cond_f hc hS
    refine zlEnd (by kernel_rfl) ?_
    refine zkSeq ?_
    exact f15_l0_j1_ok hd a1 hQ x.1 x.2 false hS (by kernel_rfl)
noncomputable def f15 (a1 : List Int) : Option (Int) := ((loopO (f15_l0 a1) (0, 0)).bind fun z9 => (some z9))
theorem f15_ok (base : Orc) (d : Nat) (hd : 4 ≤ d) (a1 : List Int) (r : Int) (hS : f15 a1 = some r) : lev codes base d 15 [(.d (.sl a1.length ((eInt .i64).cells a1)))] [] = some ((.d (.int .i64 r)), []) := by
  refine lev_go codes15 rfl rfl (Nat.le_trans (Nat.le_of_ble_eq_true rfl) hd) fun Q hQ => ?_
  unfold f15 at hS
  show ZR _ Q c15_b [] _
  replace hQ : ∀ e st', f15_Q r e st' → Q e st' := hQ
  refine zrSeq ?_
  refine zrReg ?_
  refine zlRun (n := 1) (j := 1) rfl (by kernel_rfl) ?_
  refine zlEnd (by kernel_rfl) ?_
  refine zkSeq ?_
  refine zrSeq ?_
  refine zrReg ?_
  refine zlRun (n := 1) (j := 1) rfl (by kernel_rfl) ?_
  refine zlEnd (by kernel_rfl) ?_
  refine zkSeq ?_
  refine zrSeq ?_
  refine zrSeq ?_
  refine zrReg ?_
  refine zlRun (n := 3) (j := 3) rfl (by kernel_rfl) ?_
  refine zlEnd (by kernel_rfl) ?_
  refine zkSeq ?_
  refine zrBlk ?_
  refine bindE hS (fun z9 hz9 hS => ?_)
  refine zrLoop (f15_l0_H a1) (f15_l0_X a1) (fun x st r Q h0 hS hQ => f15_l0_ok hd a1 hQ hS h0) (x := (0, 0)) (z := z9) (by show keepSt _ _ _ _ = _; kernel_rfl) hz9 ?_
  intro e st' _ hX
  obtain ⟨rfl, rfl⟩ : _ ∧ _ := hX
  refine zkBlkX ?_
  refine zkSeq ?_
  refine zrSeq ?_
  refine zrReg ?_
  refine zlRun (n := 2) (j := 2) rfl (by kernel_rfl) ?_
  refine zlEnd (by kernel_rfl) ?_
  refine zkSeq ?_
  refine zrRet ?_
  refine zkNil ?_
  exact endQ hS hQ (fRet (by kernel_rfl) ((congrArg (fun s => outR s 0 c15.res) (by kernel_rfl : finSt c15.fin _ = f15_fin z9)).trans (f15_out z9)))
/- slices.Repeat[[]int,int] -/
def f17_fin (p17 : List Int) : St := ⟨(up (fun _ => .un) 4 (.r (.msl 248 0 0 p17.length))), (up (hB fun _ => 0) 248 ⟨0, some (.own 3 1 ((eInt .i64).cells p17))⟩)⟩
theorem f17_out (p17 : List Int) : outR (f17_fin p17) 0 c17.res = some ((.r (.own 0 3 1 p17.length ((eInt .i64).cells p17))), []) := by
  exact out_of (ids := []) (ids' := [248]) (l := [(.r (.msl 248 0 0 p17.length))]) (by kernel_rfl) (by kernel_rfl) (o_own (eInt .i64) (e := 3) (k := 1) (xs := p17) (by kernel_rfl) rfl rfl rfl rfl)
def f17_Q (r : (List Int)) (e : PX) (st : St) : Prop := DoneF c17 0 ((.r (.own 0 3 1 r.length ((eInt .i64).cells r))), []) e st
def f17_l2_J (a1 : List Int) (a2 : Int) (x : (List Int) × Int) : St := ⟨(up (up (fun _ => .un) 8 (.d (.int .i64 x.2))) 7 (.r (.msl 248 0 0 x.1.length))), (up (hB fun _ => 0) 248 ⟨0, some (.own 3 1 ((eInt .i64).cells x.1))⟩)⟩
def f17_l2_H (a1 : List Int) (a2 : Int) (x : (List Int) × Int) (st : St) : Prop := keepSt [7, 8] [(248, .id 248)] [] st = f17_l2_J a1 a2 x
def f17_l2_e0_J (a1 : List Int) (a2 : Int) (p34 : List Int) : St := ⟨(up (fun _ => .un) 7 (.r (.msl 248 0 0 p34.length))), (up (hB fun _ => 0) 248 ⟨0, some (.own 3 1 ((eInt .i64).cells p34))⟩)⟩
def f17_l2_X (a1 : List Int) (a2 : Int) (z : ((List Int))) (e : PX) (st : St) : Prop := e = .exit 0 ∧ st = f17_l2_e0_J a1 a2 z
def f17_l2_j3_J (a1 : List Int) (a2 : Int) (p38 : List Int) (p39 : Int) : St := ⟨(up (up (fun _ => .un) 8 (.d (.int .i64 p39))) 7 (.r (.msl 248 0 0 p38.length))), (up (hB fun _ => 0) 248 ⟨0, some (.own 3 1 ((eInt .i64).cells p38))⟩)⟩
noncomputable def f17_l2_j3 (a1 : List Int) (a2 : Int) (p38 : List Int) (p39 : Int) : Option (((List Int) × Int) ⊕ (((List Int)))) := ((chk (decide (0 ≤ p39) && decide (p39 ≤ (p38.length : Int)) && decide ((p38.length : Int) ≤ (p38.length : Int)))).bind fun z37 => ((chk (decide (0 ≤ 0) && decide (0 ≤ p39) && decide (p39 ≤ (p38.length : Int)))).bind fun z38 => ((part? p38 0 ((p39 : Int).toNat - (0 : Int).toNat)).bind fun z39 => ((chk (decide (((p39 : Int).toNat) + (((p38.length : Int) : Int).toNat - (p39 : Int).toNat) ≤ p38.length))).bind fun z40 => ((some (cpyL p38 ((p39 : Int).toNat) (((p38.length : Int) : Int).toNat - (p39 : Int).toNat) z39)).bind fun z41 => (some (.inl (z41, (IntKind.i64.wrap (p39 + ((min z39.length (((z41.length : Int) : Int).toNat - (p39 : Int).toNat) : Nat) : Int)))))))))))
theorem f17_l2_j3_ok {base : Orc} {d : Nat} (hd : 3 ≤ d) (a1 : List Int) (a2 : Int) {r : ((List Int) × Int) ⊕ (((List Int)))} {Q : PX → St → Prop} (hQ : ∀ e st', finL (f17_l2_H a1 a2) (f17_l2_X a1 a2) r e st' → Q e st') (p38 : List Int) (p39 : Int) (hS : f17_l2_j3 a1 a2 p38 p39 = some r) {st : St} (he : keepSt [7, 8] [(248, .id 248)] [] st = f17_l2_j3_J a1 a2 p38 p39) : ZR (lev codes base (d - 1)) Q c17_1 [] st := by
  refine zrKeep he ?_
  unfold f17_l2_j3 at hS
  refine zrBlk ?_
  refine zrRegD ?_
  refine zdRun (n := 3) (j := 3) (ts := [[], [], []]) (acc' := [[], [], []]) rfl (by kernel_rfl) (by kernel_rfl) (by kernel_rfl) ?_
  refine bindE hS (fun z37 hz37 hS => ?_)
  refine zdOp (d := some 41) (op := (.slS 3 1 (.tmp 39) (.some (.tmp 40)) .none)) (g := none) (v := (.r (.msl 248 0 ((p39 : Int).toNat) (((p38.length : Int) : Int).toNat - (p39 : Int).toNat)))) (ups := []) (j := 4) (t1 := [(248, false)]) (acc' := [[], [], [], [(248, false)]]) (by kernel_rfl) (by kernel_rfl) rfl (by kernel_rfl) (by kernel_rfl) (ev_slM (b := 248) (g := 0) (e := 3) (a := p39) (c := (p38.length : Int)) (l := 0) (n := p38.length) (l' := ((p39 : Int).toNat)) (n' := (((p38.length : Int) : Int).toNat - (p39 : Int).toNat)) (cs := (eInt .i64).cells p38) (by kernel_rfl) (by kernel_rfl) (bnd_s _ (kk := .i64) (j := p39) (by kernel_rfl)) (bnd_n _) hz37 (by simp) rfl) ?_
  refine zdRun (n := 2) (j := 6) (ts := [[], []]) (acc' := [[], [], [], [(248, false)], [], []]) rfl (by kernel_rfl) (by kernel_rfl) (by kernel_rfl) ?_
  refine bindE hS (fun z38 hz38 hS => ?_)
  refine zdOp (d := some 44) (op := (.slS 3 1 (.tmp 42) .none (.some (.tmp 43)))) (g := none) (v := (.r (.msl 248 0 0 ((p39 : Int).toNat - (0 : Int).toNat)))) (ups := []) (j := 7) (t1 := [(248, false)]) (acc' := [[], [], [], [(248, false)], [], [], [(248, false)]]) (by kernel_rfl) (by kernel_rfl) rfl (by kernel_rfl) (by kernel_rfl) (ev_slM (b := 248) (g := 0) (e := 3) (a := 0) (c := p39) (l := 0) (n := p38.length) (l' := 0) (n' := ((p39 : Int).toNat - (0 : Int).toNat)) (cs := (eInt .i64).cells p38) (by kernel_rfl) (by kernel_rfl) (bnd_n 0) (bnd_s _ (kk := .i64) (j := p39) (by kernel_rfl)) hz38 (by simp) rfl) ?_
  refine bindE hS (fun z39 hz39 hS => ?_)
  refine bindE hS (fun z40 hz40 hS => ?_)
  refine bindE hS (fun z41 hz41 hS => ?_)
  refine zdOp (d := some 45) (op := (.cpy 1 (.tmp 41) (.tmp 44))) (g := none) (v := (.d (.int .i64 ((min z39.length (((p38.length : Int) : Int).toNat - (p39 : Int).toNat) : Nat) : Int)))) (ups := [(248, ⟨0, some (.own 3 1 ((eInt .i64).cells (cpyL p38 ((p39 : Int).toNat) (((p38.length : Int) : Int).toNat - (p39 : Int).toNat) z39)))⟩)]) (j := 8) (t1 := [(248, true), (248, false)]) (acc' := [[], [], [], [(248, false)], [], [], [(248, false)], [(248, true), (248, false)]]) (by kernel_rfl) (by kernel_rfl) rfl (by kernel_rfl) (by kernel_rfl) (ev_cpy (eInt .i64) (b := 248) (g := 0) (l := ((p39 : Int).toNat)) (n := (((p38.length : Int) : Int).toNat - (p39 : Int).toNat)) (e := 3) (xs := p38) (ys := z39) (by kernel_rfl) (by kernel_rfl) rfl ((congrArg (asL _) (by kernel_rfl : ρof _ (.tmp 44) = (.r (.msl 248 0 0 ((p39 : Int).toNat - (0 : Int).toNat))))).trans (as_part (eInt .i64) (e := 3) (k := 1) (xs := p38) (by kernel_rfl) rfl hz39)) hz40) ?_
  have ez41 := Option.some.inj hz41
  have lz41 : p38.length = z41.length := by rw [← ez41]; exact (cpyL_len (of_decide_eq_true (chk_t hz40))).symm
  rw [ez41]
  try delta f17_l2_j3_J
  try rw [lz41]
  refine zdRun (n := 2) (j := 10) (ts := [[], []]) (acc' := [[], [], [], [(248, false)], [], [], [(248, false)], [(248, true), (248, false)], [], []]) rfl (by kernel_rfl) (by kernel_rfl) (by kernel_rfl) ?_
  refine zdEnd (by kernel_rfl) (by kernel_rfl) ?_
  refine zkBlk ?_
  refine zkNil ?_
  exact endQ hS hQ (finL_n (by show keepSt _ _ _ _ = _; kernel_rfl))
noncomputable def f17_l2 (a1 : List Int) (a2 : Int) (x : (List Int) × Int) : Option (((List Int) × Int) ⊕ (((List Int)))) := (bif (decide (x.2 < (x.1.length : Int))) then (f17_l2_j3 a1 a2 x.1 x.2) else (some (.inr x.1)))
theorem f17_l2_ok {base : Orc} {d : Nat} (hd : 3 ≤ d) (a1 : List Int) (a2 : Int) {r : ((List Int) × Int) ⊕ (((List Int)))} {Q : PX → St → Prop} (hQ : ∀ e st', finL (f17_l2_H a1 a2) (f17_l2_X a1 a2) r e st' → Q e st') {x : (List Int) × Int} (hS : f17_l2 a1 a2 x = some r) {st : St} (he : f17_l2_H a1 a2 x st) : ZR (lev codes base (d - 1)) Q c17_2 [] st := by
  refine zrKeep he ?_
  unfold f17_l2 at hS
  refine zrSeq ?_
  refine zrSeq ?_
  refine zrReg ?_
  refine zlRun (n := 3) (j := 3) rfl (by kernel_rfl) ?_
  refine zlBool (d := 37) (op := (.cmpI .lss (.tmp 34) (.tmp 36))) (g := none) (j := 4) (decide (x.2 < (x.1.length : Int))) rfl (by kernel_rfl) (by kernel_rfl) (by kernel_rfl) (fun hc => ?_) (fun hc => ?_)
  · replace hS := cond_t hc hS
    refine zlEnd (by kernel_rfl) ?_
    refine zkSeq ?_
    refine zrCondT (by kernel_rfl) ?_
    refine zrSkip ?_
    refine zkSeq ?_
    exact f17_l2_j3_ok hd a1 a2 hQ x.1 x.2 hS (by kernel_rfl)
  · replace hS := cond_f hc hS
    refine zlEnd (by kernel_rfl) ?_
    refine zkSeq ?_
    refine zrCondF (by kernel_rfl) ?_
    refine zrKeep (J := f17_l2_e0_J a1 a2 x.1) (by kernel_rfl) ?_
    refine zrExit ?_
    refine zkSeqX ?_
    refine zkNil ?_
    exact endQ hS hQ (finL_x (by intro h; cases h) (by show _ = _ ∧ _ = _; exact ⟨rfl, rfl⟩))
def f17_j1_J (a1 : List Int) (a2 : Int) (p23 : Int) : St := ⟨(up (up (fun _ => .un) 6 (.d (.int .u64 p23))) 0 (.d (.sl a1.length ((eInt .i64).cells a1)))), (hB fun _ => 0)⟩
noncomputable def f17_j1 (a1 : List Int) (a2 : Int) (p23 : Int) : Option ((List Int)) := ((mk? 8 (IntKind.i64.wrap (p23)) (IntKind.i64.wrap (p23)) 0).bind fun z24 => ((chk (decide (0 + z24.length ≤ z24.length))).bind fun z25 => ((some (cpyL z24 0 z24.length a1)).bind fun z26 => ((loopO (f17_l2 a1 a2) (z26, ((min a1.length z26.length : Nat) : Int))).bind fun z42 => (some z42)))))
theorem f17_j1_ok {base : Orc} {d : Nat} (hd : 3 ≤ d) (a1 : List Int) (a2 : Int) {r : (List Int)} {Q : PX → St → Prop} (hQ : ∀ e st', f17_Q r e st' → Q e st') (p23 : Int) (hS : f17_j1 a1 a2 p23 = some r) {st : St} (he : keepSt [0, 6] [] [] st = f17_j1_J a1 a2 p23) : ZR (lev codes base (d - 1)) Q c17_3 [] st := by
  refine zrKeep he ?_
  unfold f17_j1 at hS
  refine zrSeq ?_
  refine zrReg ?_
  refine zlRun (n := 2) (j := 2) rfl (by kernel_rfl) ?_
  refine bindE hS (fun z24 hz24 hS => ?_)
  refine zlOp (d := some 30) (op := (.mks 3 1 8 [(1, (.int .i64 0))] (.tmp 29) (.tmp 29))) (g := none) (v := (.r (.msl 248 1 0 z24.length))) (ups := [(248, ⟨1, some (.own 3 1 ((eInt .i64).cells z24))⟩)]) (j := 3) rfl (by kernel_rfl) (by kernel_rfl) (ev_mks (eInt .i64) (kl := .i64) (kc := .i64) (z0 := 0) (a := (IntKind.i64.wrap (p23))) (c := (IntKind.i64.wrap (p23))) (by kernel_rfl) (by kernel_rfl) (by kernel_rfl) rfl hz24) ?_
  refine zlRun (n := 1) (j := 4) rfl (by kernel_rfl) ?_
  refine zlEnd (by kernel_rfl) ?_
  refine zkSeq ?_
  refine zrSeq ?_
  refine zrReg ?_
  refine zlRun (n := 2) (j := 2) rfl (by kernel_rfl) ?_
  refine bindE hS (fun z25 hz25 hS => ?_)
  refine bindE hS (fun z26 hz26 hS => ?_)
  refine zlOp (d := some 33) (op := (.cpy 1 (.tmp 31) (.tmp 32))) (g := none) (v := (.d (.int .i64 ((min a1.length z24.length : Nat) : Int)))) (ups := [(248, ⟨1, some (.own 3 1 ((eInt .i64).cells (cpyL z24 0 z24.length a1)))⟩)]) (j := 3) rfl (by kernel_rfl) (by kernel_rfl) (ev_cpy (eInt .i64) (b := 248) (g := 1) (l := 0) (n := z24.length) (e := 3) (xs := z24) (ys := a1) (by kernel_rfl) (by kernel_rfl) rfl ((congrArg (asL _) (by kernel_rfl : ρof _ (.tmp 32) = (.d (.sl a1.length ((eInt .i64).cells a1))))).trans (as_d _ _)) hz25) ?_
  have ez26 := Option.some.inj hz26
  have lz26 : z24.length = z26.length := by rw [← ez26]; exact (cpyL_len (of_decide_eq_true (chk_t hz25))).symm
  rw [ez26]
  try delta f17_j1_J
  try rw [lz26]
  refine zlRun (n := 1) (j := 4) rfl (by kernel_rfl) ?_
  refine zlEnd (by kernel_rfl) ?_
  refine zkSeq ?_
  refine zrSeq ?_
  refine zrBlk ?_
  refine bindE hS (fun z42 hz42 hS => ?_)
  refine zrLoop (f17_l2_H a1 a2) (f17_l2_X a1 a2) (fun x st r Q h0 hS hQ => f17_l2_ok hd a1 a2 hQ hS h0) (x := (z26, ((min a1.length z26.length : Nat) : Int))) (z := z42) (by show keepSt _ _ _ _ = _; kernel_rfl) hz42 ?_
  intro e st' _ hX
  obtain ⟨rfl, rfl⟩ : _ ∧ _ := hX
  refine zkBlkX ?_
  refine zkSeq ?_
  refine zrSeq ?_
  refine zrReg ?_
  refine zlRun (n := 2) (j := 2) rfl (by kernel_rfl) ?_
  refine zlEnd (by kernel_rfl) ?_
  refine zkSeq ?_
  refine zrRet ?_
  refine zkNil ?_
  exact endQ hS hQ (fRet (by kernel_rfl) ((congrArg (fun s => outR s 0 c17.res) (by kernel_rfl : finSt c17.fin _ = f17_fin z42)).trans (f17_out z42)))
def f17_j0_J (a1 : List Int) (a2 : Int) : St := ⟨(up (up (fun _ => .un) 1 (.d (.int .i64 a2))) 0 (.d (.sl a1.length ((eInt .i64).cells a1)))), (hB fun _ => 0)⟩
noncomputable def f17_j0 (a1 : List Int) (a2 : Int) : Option ((List Int)) := ((f36 (IntKind.u64.wrap ((a1.length : Int))) (IntKind.u64.wrap (a2))).bind fun z21 => (bif (decide (0 < z21.1)) then ((chk false).bind fun z43 => ((chk false).bind fun z44 => (f17_j1 a1 a2 z21.2))) else (bif (decide (9223372036854775807 < z21.2)) then ((chk false).bind fun z45 => ((chk false).bind fun z46 => (f17_j1 a1 a2 z21.2))) else (f17_j1 a1 a2 z21.2))))
theorem f17_j0_ok {base : Orc} {d : Nat} (hd : 3 ≤ d) (a1 : List Int) (a2 : Int) {r : (List Int)} {Q : PX → St → Prop} (hQ : ∀ e st', f17_Q r e st' → Q e st')  (hS : f17_j0 a1 a2 = some r) {st : St} (he : keepSt [0, 1] [] [] st = f17_j0_J a1 a2) : ZR (lev codes base (d - 1)) Q c17_4 [] st := by
  refine zrKeep he ?_
  unfold f17_j0 at hS
  refine zrSeq ?_
  refine zrReg ?_
  refine zlRun (n := 5) (j := 5) rfl (by kernel_rfl) ?_
  refine bindE hS (fun z21 hz21 hS => ?_)
  refine zlOp (d := some 18) (op := (.call 36 [(.tmp 15), (.tmp 17)])) (g := none) (v := (.tup [(.d (.int .u64 z21.1)), (.d (.int .u64 z21.2))])) (ups := []) (j := 6) rfl (by kernel_rfl) (by kernel_rfl) (ev_call (args := [(.d (.int .u64 (IntKind.u64.wrap ((a1.length : Int))))), (.d (.int .u64 (IntKind.u64.wrap (a2))))]) (l := [(.d (.int .u64 (IntKind.u64.wrap ((a1.length : Int))))), (.d (.int .u64 (IntKind.u64.wrap (a2))))]) (r := (.tup [(.d (.int .u64 z21.1)), (.d (.int .u64 z21.2))])) (by kernel_rfl) (by kernel_rfl) (f36_ok base (d - 1) (dpt hd rfl) (IntKind.u64.wrap ((a1.length : Int))) (IntKind.u64.wrap (a2)) z21 hz21) (by kernel_rfl) (by kernel_rfl) (by kernel_rfl)) ?_
  refine zlRun (n := 5) (j := 11) rfl (by kernel_rfl) ?_
  refine zlEnd (by kernel_rfl) ?_
  refine zkSeq ?_
  refine zrSeq ?_
  refine zrSeq ?_
  refine zrReg ?_
  refine zlRun (n := 1) (j := 1) rfl (by kernel_rfl) ?_
  refine zlBool (d := 22) (op := (.cmpI .gtr (.tmp 21) (.const (.int .u64 0)))) (g := none) (j := 2) (decide (0 < z21.1)) rfl (by kernel_rfl) (by kernel_rfl) (by kernel_rfl) (fun hc => ?_) (fun hc => ?_)
  · replace hS := cond_t hc hS
    refine zlRun (n := 4) (j := 6) rfl (by kernel_rfl) ?_
    refine zlEnd (by kernel_rfl) ?_
    refine zkSeq ?_
    refine zrCondT (by kernel_rfl) ?_
    refine zrReg ?_
    refine bindE hS (fun z43 hz43 hS => ?_)
    refine zlOp (d := some 27) (op := (.mx [])) (g := none) (v := .un) (ups := []) (j := 1) rfl (by kernel_rfl) (by kernel_rfl) (by exact absurd hz43 (by simp [chk])) ?_
    refine bindE hS (fun z44 hz44 hS => ?_)
    refine zlOp (d := none) (op := (.mx [])) (g := none) (v := .un) (ups := []) (j := 2) rfl (by kernel_rfl) (by kernel_rfl) (by exact absurd hz44 (by simp [chk])) ?_
    refine zlEnd (by kernel_rfl) ?_
    refine zkSeq ?_
    exact f17_j1_ok hd a1 a2 hQ z21.2 hS (by kernel_rfl)
  · replace hS := cond_f hc hS
    refine zlRun (n := 2) (j := 4) rfl (by kernel_rfl) ?_
    refine zlBool (d := 25) (op := (.cmpI .gtr (.tmp 24) (.const (.int .u64 9223372036854775807)))) (g := (some (23, false))) (j := 5) (decide (9223372036854775807 < z21.2)) rfl (by kernel_rfl) (by kernel_rfl) (by kernel_rfl) (fun hc => ?_) (fun hc => ?_)
    · replace hS := cond_t hc hS
      refine zlRun (n := 1) (j := 6) rfl (by kernel_rfl) ?_
      refine zlEnd (by kernel_rfl) ?_
      refine zkSeq ?_
      refine zrCondT (by kernel_rfl) ?_
      refine zrReg ?_
      refine bindE hS (fun z45 hz45 hS => ?_)
      refine zlOp (d := some 27) (op := (.mx [])) (g := none) (v := .un) (ups := []) (j := 1) rfl (by kernel_rfl) (by kernel_rfl) (by exact absurd hz45 (by simp [chk])) ?_
      refine bindE hS (fun z46 hz46 hS => ?_)
      refine zlOp (d := none) (op := (.mx [])) (g := none) (v := .un) (ups := []) (j := 2) rfl (by kernel_rfl) (by kernel_rfl) (by exact absurd hz46 (by simp [chk])) ?_
      refine zlEnd (by kernel_rfl) ?_
      refine zkSeq ?_
      exact f17_j1_ok hd a1 a2 hQ z21.2 hS (by kernel_rfl)
    · replace hS := cond_f hc hS
      refine zlRun (n := 1) (j := 6) rfl (by kernel_rfl) ?_
      refine zlEnd (by kernel_rfl) ?_
      refine zkSeq ?_
      refine zrCondF (by kernel_rfl) ?_
      refine zrSkip ?_
      refine zkSeq ?_
      exact f17_j1_ok hd a1 a2 hQ z21.2 hS (by kernel_rfl)
noncomputable def f17 (a1 : List Int) (a2 : Int) : Option ((List Int)) := (bif (decide (a2 < 0)) then ((chk false).bind fun z47 => ((chk false).bind fun z48 => (f17_j0 a1 a2 ))) else (f17_j0 a1 a2 ))
theorem f17_ok (base : Orc) (d : Nat) (hd : 3 ≤ d) (a1 : List Int) (a2 : Int) (r : (List Int)) (hS : f17 a1 a2 = some r) : lev codes base d 17 [(.d (.sl a1.length ((eInt .i64).cells a1))), (.d (.int .i64 a2))] [] = some ((.r (.own 0 3 1 r.length ((eInt .i64).cells r))), []) := by
  refine lev_go codes17 rfl rfl (Nat.le_trans (Nat.le_of_ble_eq_true rfl) hd) fun Q hQ => ?_
  unfold f17 at hS
  show ZR _ Q c17_b [] _
  replace hQ : ∀ e st', f17_Q r e st' → Q e st' := hQ
  refine zrSeq ?_
  refine zrReg ?_
  refine zlRun (n := 1) (j := 1) rfl (by kernel_rfl) ?_
  refine zlEnd (by kernel_rfl) ?_
  refine zkSeq ?_
  refine zrSeq ?_
  refine zrSeq ?_
  refine zrReg ?_
  refine zlRun (n := 1) (j := 1) rfl (by kernel_rfl) ?_
  refine zlBool (d := 10) (op := (.cmpI .lss (.tmp 9) (.const (.int .i64 0)))) (g := none) (j := 2) (decide (a2 < 0)) rfl (by kernel_rfl) (by kernel_rfl) (by kernel_rfl) (fun hc => ?_) (fun hc => ?_)
  · replace hS := cond_t hc hS
    refine zlEnd (by kernel_rfl) ?_
    refine zkSeq ?_
    refine zrCondT (by kernel_rfl) ?_
    refine zrReg ?_
    refine bindE hS (fun z47 hz47 hS => ?_)
    refine zlOp (d := some 11) (op := (.mx [])) (g := none) (v := .un) (ups := []) (j := 1) rfl (by kernel_rfl) (by kernel_rfl) (by exact absurd hz47 (by simp [chk])) ?_
    refine bindE hS (fun z48 hz48 hS => ?_)
    refine zlOp (d := none) (op := (.mx [])) (g := none) (v := .un) (ups := []) (j := 2) rfl (by kernel_rfl) (by kernel_rfl) (by exact absurd hz48 (by simp [chk])) ?_
    refine zlEnd (by kernel_rfl) ?_
    refine zkSeq ?_
    exact f17_j0_ok hd a1 a2 hQ  hS (by kernel_rfl)
  · replace hS := cond_f hc hS
    refine zlEnd (by kernel_rfl) ?_
    refine zkSeq ?_
    refine zrCondF (by kernel_rfl) ?_
    refine zrSkip ?_
    refine zkSeq ?_
    exact f17_j0_ok hd a1 a2 hQ  hS (by kernel_rfl)
/- farwriter/farkeep.GridTells -/
def f4_fin (p13 : Bool) : St := ⟨(up (fun _ => .un) 6 (.d (.bool p13))), (hB fun _ => 0)⟩
theorem f4_out (p13 : Bool) : outR (f4_fin p13) 0 c4.res = some ((.d (.bool p13)), []) := by
  kernel_rfl
def f4_Q (r : Bool) (e : PX) (st : St) : Prop := DoneF c4 0 ((.d (.bool r)), []) e st
def f4_j1_J (a1 : GGrid) (a2 : Int) (a3 : GPen) (p25 : List Int) (p26 : List Int) (p27 : Int) : St := ⟨(up (up (up (up (fun _ => .un) 12 (.d (.int .i64 p27))) 11 (.r (.msl 352 0 0 p26.length))) 7 (.r (.msl 136 0 0 p25.length))) 3 (.r (.ptr 32 0 0))), (up (up (up (hB fun _ => 0) 352 ⟨0, some (.own 3 1 ((eInt .i64).cells p26))⟩) 136 ⟨0, some (.own 3 1 ((eInt .i64).cells p25))⟩) 32 ⟨0, some (.box ((.d (.int .i64 a1.Wide)) :: ((.d (.int .i64 a1.High)) :: ((.d (.sl a1.Cells.length (e_GCell.cells a1.Cells))) :: []))))⟩)⟩
noncomputable def f4_j1 (a1 : GGrid) (a2 : Int) (a3 : GPen) (p25 : List Int) (p26 : List Int) (p27 : Int) : Option (Bool) := (bif (decide (p27 = 0)) then ((f15 p25).bind fun z16 => (bif (decide (z16 = a1.Wide)) then ((f17 [32] a1.Wide).bind fun z17 => ((f16 p26 z17).bind fun z18 => (some z18))) else (some false))) else (some false))
theorem f4_j1_ok {base : Orc} {d : Nat} (hd : 8 ≤ d) (a1 : GGrid) (a2 : Int) (a3 : GPen) {r : Bool} {Q : PX → St → Prop} (hQ : ∀ e st', f4_Q r e st' → Q e st') (p25 : List Int) (p26 : List Int) (p27 : Int) (hS : f4_j1 a1 a2 a3 p25 p26 p27 = some r) {st : St} (he : keepSt [3, 7, 11, 12] [(32, .id 32), (136, .id 136), (352, .id 352)] [] st = f4_j1_J a1 a2 a3 p25 p26 p27) : ZR (lev codes base (d - 1)) Q c4_1 [] st := by
  refine zrKeep he ?_
  unfold f4_j1 at hS
  refine zrSeq ?_
  refine zrRegD ?_
  refine zdRun (n := 1) (j := 1) (ts := [[]]) (acc' := [[]]) rfl (by kernel_rfl) (by kernel_rfl) (by kernel_rfl) ?_
  refine zdBool (d := 54) (op := (.cmpI .eql (.tmp 53) (.const (.int .i64 0)))) (g := none) (j := 2) (t1 := []) (acc' := [[], []]) (decide (p27 = 0)) (by kernel_rfl) (by kernel_rfl) rfl (by kernel_rfl) (by kernel_rfl) (by kernel_rfl) (fun hc => ?_) (fun hc => ?_)
  · replace hS := cond_t hc hS
    refine zdRun (n := 2) (j := 4) (ts := [[], []]) (acc' := [[], [], [], []]) rfl (by kernel_rfl) (by kernel_rfl) (by kernel_rfl) ?_
    refine bindE hS (fun z16 hz16 hS => ?_)
    refine zdOp (d := some 57) (op := (.call 15 [(.tmp 56)])) (g := (some (55, true))) (v := (.d (.int .i64 z16))) (ups := []) (j := 5) (t1 := [(136, false), (464, true), (465, true), (466, true), (467, true), (468, true), (469, true), (470, true), (471, true)]) (acc' := [[], [], [], [], [(136, false), (464, true), (465, true), (466, true), (467, true), (468, true), (469, true), (470, true), (471, true)]]) (by kernel_rfl) (by kernel_rfl) rfl (by kernel_rfl) (by kernel_rfl) (ev_call (args := [(.r (.msl 136 0 0 p25.length))]) (l := [(.d (.sl p25.length ((eInt .i64).cells p25)))]) (r := (.d (.int .i64 z16))) (by kernel_rfl) (l_cons (l_own (eInt .i64) (e := 3) (k := 1) (xs := p25) (by kernel_rfl) rfl rfl) l_nil) (f15_ok base (d - 1) (dpt hd rfl) p25 z16 hz16) (by kernel_rfl) (by kernel_rfl) (by kernel_rfl)) ?_
    refine zdRun (n := 2) (j := 7) (ts := [[], [(32, false)]]) (acc' := [[], [], [], [], [(136, false), (464, true), (465, true), (466, true), (467, true), (468, true), (469, true), (470, true), (471, true)], [], [(32, false)]]) rfl (by kernel_rfl) (by kernel_rfl) (by kernel_rfl) ?_
    refine zdBool (d := 60) (op := (.cmpI .eql (.tmp 57) (.tmp 59))) (g := (some (55, true))) (j := 8) (t1 := []) (acc' := [[], [], [], [], [(136, false), (464, true), (465, true), (466, true), (467, true), (468, true), (469, true), (470, true), (471, true)], [], [(32, false)], []]) (decide (z16 = a1.Wide)) (by kernel_rfl) (by kernel_rfl) rfl (by kernel_rfl) (by kernel_rfl) (by kernel_rfl) (fun hc => ?_) (fun hc => ?_)
    · replace hS := cond_t hc hS
      refine zdRun (n := 6) (j := 14) (ts := [[], [], [], [(520, true)], [], [(32, false)]]) (acc' := [[], [], [], [], [(136, false), (464, true), (465, true), (466, true), (467, true), (468, true), (469, true), (470, true), (471, true)], [], [(32, false)], [], [], [], [], [(520, true)], [], [(32, false)]]) rfl (by kernel_rfl) (by kernel_rfl) (by kernel_rfl) ?_
      refine bindE hS (fun z17 hz17 hS => ?_)
      refine zdOp (d := some 67) (op := (.call 17 [(.tmp 64), (.tmp 66)])) (g := (some (62, true))) (v := (.r (.msl 544 1 0 z17.length))) (ups := [(544, ⟨1, some (.own 3 1 ((eInt .i64).cells z17))⟩)]) (j := 15) (t1 := [(520, false), (544, true), (545, true), (546, true), (547, true), (548, true), (549, true), (550, true), (551, true)]) (acc' := [[], [], [], [], [(136, false), (464, true), (465, true), (466, true), (467, true), (468, true), (469, true), (470, true), (471, true)], [], [(32, false)], [], [], [], [], [(520, true)], [], [(32, false)], [(520, false), (544, true), (545, true), (546, true), (547, true), (548, true), (549, true), (550, true), (551, true)]]) (by kernel_rfl) (by kernel_rfl) rfl (by kernel_rfl) (by kernel_rfl) (ev_call (args := [(.r (.msl 520 1 0 (([32] : List Int).length))), (.d (.int .i64 a1.Wide))]) (l := [(.d (.sl ([32] : List Int).length ((eInt .i64).cells ([32])))), (.d (.int .i64 a1.Wide))]) (r := (.r (.own 0 3 1 z17.length ((eInt .i64).cells z17)))) (by kernel_rfl) (l_cons (l_own (eInt .i64) (e := 3) (k := 1) (xs := [32]) (by kernel_rfl) rfl rfl) (l_cons (by kernel_rfl) l_nil)) (f17_ok base (d - 1) (dpt hd rfl) [32] a1.Wide z17 hz17) (by simp only [free_own (eInt .i64) (fun _ => rfl), free_tup, free_agg, free_nl, free_cs, free_int, free_bool, free_str, free_un, free_ni, free_s0, Bool.and_true, Bool.or_true, Bool.and_self]) (by kernel_rfl) (by kernel_rfl)) ?_
      refine bindE hS (fun z18 hz18 hS => ?_)
      refine zdOp (d := some 68) (op := (.call 16 [(.tmp 63), (.tmp 67)])) (g := (some (62, true))) (v := (.d (.bool z18))) (ups := []) (j := 16) (t1 := [(352, false), (544, false), (552, true), (553, true), (554, true), (555, true), (556, true), (557, true), (558, true), (559, true)]) (acc' := [[], [], [], [], [(136, false), (464, true), (465, true), (466, true), (467, true), (468, true), (469, true), (470, true), (471, true)], [], [(32, false)], [], [], [], [], [(520, true)], [], [(32, false)], [(520, false), (544, true), (545, true), (546, true), (547, true), (548, true), (549, true), (550, true), (551, true)], [(352, false), (544, false), (552, true), (553, true), (554, true), (555, true), (556, true), (557, true), (558, true), (559, true)]]) (by kernel_rfl) (by kernel_rfl) rfl (by kernel_rfl) (by kernel_rfl) (ev_call (args := [(.r (.msl 352 0 0 p26.length)), (.r (.msl 544 1 0 z17.length))]) (l := [(.d (.sl p26.length ((eInt .i64).cells p26))), (.d (.sl z17.length ((eInt .i64).cells z17)))]) (r := (.d (.bool z18))) (by kernel_rfl) (l_cons (l_own (eInt .i64) (e := 3) (k := 1) (xs := p26) (by kernel_rfl) rfl rfl) (l_cons (l_own (eInt .i64) (e := 3) (k := 1) (xs := z17) (by kernel_rfl) rfl rfl) l_nil)) (f16_ok base (d - 1) (dpt hd rfl) p26 z17 z18 hz18) (by kernel_rfl) (by kernel_rfl) (by kernel_rfl)) ?_
      refine zdRun (n := 2) (j := 18) (ts := [[], []]) (acc' := [[], [], [], [], [(136, false), (464, true), (465, true), (466, true), (467, true), (468, true), (469, true), (470, true), (471, true)], [], [(32, false)], [], [], [], [], [(520, true)], [], [(32, false)], [(520, false), (544, true), (545, true), (546, true), (547, true), (548, true), (549, true), (550, true), (551, true)], [(352, false), (544, false), (552, true), (553, true), (554, true), (555, true), (556, true), (557, true), (558, true), (559, true)], [], []]) rfl (by kernel_rfl) (by kernel_rfl) (by kernel_rfl) ?_
      refine zdEnd (by kernel_rfl) (by kernel_rfl) ?_
      refine zkSeq ?_
      refine zrRet ?_
      refine zkNil ?_
      exact endQ hS hQ (fRet (by kernel_rfl) ((congrArg (fun s => outR s 0 c4.res) (by kernel_rfl : finSt c4.fin _ = f4_fin z18)).trans (f4_out z18)))
    · replace hS := cond_f hc hS
      refine zdRun (n := 10) (j := 18) (ts := [[], [], [], [], [], [], [], [], [], []]) (acc' := [[], [], [], [], [(136, false), (464, true), (465, true), (466, true), (467, true), (468, true), (469, true), (470, true), (471, true)], [], [(32, false)], [], [], [], [], [], [], [], [], [], [], []]) rfl (by kernel_rfl) (by kernel_rfl) (by kernel_rfl) ?_
      refine zdEnd (by kernel_rfl) (by kernel_rfl) ?_
      refine zkSeq ?_
      refine zrRet ?_
      refine zkNil ?_
      exact endQ hS hQ (fRet (by kernel_rfl) ((congrArg (fun s => outR s 0 c4.res) (by kernel_rfl : finSt c4.fin _ = f4_fin false)).trans (f4_out false)))
  · replace hS := cond_f hc hS
    refine zdRun (n := 16) (j := 18) (ts := [[], [], [], [], [], [], [], [], [], [], [], [], [], [], [], []]) (acc' := [[], [], [], [], [], [], [], [], [], [], [], [], [], [], [], [], [], []]) rfl (by kernel_rfl) (by kernel_rfl) (by kernel_rfl) ?_
    refine zdEnd (by kernel_rfl) (by kernel_rfl) ?_
    refine zkSeq ?_
    refine zrRet ?_
    refine zkNil ?_
    exact endQ hS hQ (fRet (by kernel_rfl) ((congrArg (fun s => outR s 0 c4.res) (by kernel_rfl : finSt c4.fin _ = f4_fin false)).trans (f4_out false)))
def f4_j0_J (a1 : GGrid) (a2 : Int) (a3 : GPen) (p19 : List Int) : St := ⟨(up (up (up (up (fun _ => .un) 7 (.r (.msl 136 0 0 p19.length))) 5 (.r (.ptr 48 0 0))) 3 (.r (.ptr 32 0 0))) 1 (.d (.int .i64 a2))), (up (up (up (hB fun _ => 0) 136 ⟨0, some (.own 3 1 ((eInt .i64).cells p19))⟩) 48 ⟨0, some (.box ((.d (.int .i64 a3.Flags)) :: ((.d (.int .i64 a3.Fore)) :: ((.d (.int .i64 a3.Back)) :: []))))⟩) 32 ⟨0, some (.box ((.d (.int .i64 a1.Wide)) :: ((.d (.int .i64 a1.High)) :: ((.d (.sl a1.Cells.length (e_GCell.cells a1.Cells))) :: []))))⟩)⟩
noncomputable def f4_j0 (a1 : GGrid) (a2 : Int) (a3 : GPen) (p19 : List Int) : Option (Bool) := ((f14 a1 a2 0 a1.Wide a3).bind fun z13 => ((f13 (GGrid.mk z13.1 z13.2.1 z13.2.2.1) a2).bind fun z14 => (bif (!decide (z13.2.2.2 = 0)) then ((f15 p19).bind fun z19 => (bif (decide (z19 = a1.Wide)) then (some true) else (some false))) else (f4_j1 a1 a2 a3 p19 z14.1 z14.2))))
theorem f4_j0_ok {base : Orc} {d : Nat} (hd : 8 ≤ d) (a1 : GGrid) (a2 : Int) (a3 : GPen) {r : Bool} {Q : PX → St → Prop} (hQ : ∀ e st', f4_Q r e st' → Q e st') (p19 : List Int) (hS : f4_j0 a1 a2 a3 p19 = some r) {st : St} (he : keepSt [1, 3, 5, 7] [(32, .id 32), (48, .id 48), (136, .id 136)] [] st = f4_j0_J a1 a2 a3 p19) : ZR (lev codes base (d - 1)) Q c4_2 [] st := by
  refine zrKeep he ?_
  unfold f4_j0 at hS
  refine zrSeq ?_
  refine zrReg ?_
  refine zlRun (n := 5) (j := 5) rfl (by kernel_rfl) ?_
  refine bindE hS (fun z13 hz13 hS => ?_)
  refine zlOp (d := some 37) (op := (.callf 14 [(.tmp 32), (.tmp 33), (.const (.int .i64 0)), (.tmp 35), (.tmp 36)])) (g := none) (v := (.tup [(.agg ((.d (.int .i64 z13.1)) :: ((.d (.int .i64 z13.2.1)) :: ((.r (.msl 304 1 0 z13.2.2.1.length)) :: [])))), (.d (.int .i64 z13.2.2.2))])) (ups := [(304, ⟨1, some (.own 33 4 (e_GCell.cells z13.2.2.1))⟩)]) (j := 6) rfl (by kernel_rfl) (by kernel_rfl) (ev_callF (args := [(.agg ((.d (.int .i64 a1.Wide)) :: ((.d (.int .i64 a1.High)) :: ((.d (.sl a1.Cells.length (e_GCell.cells a1.Cells))) :: [])))), (.d (.int .i64 a2)), (.d (.int .i64 0)), (.d (.int .i64 a1.Wide)), (.agg ((.d (.int .i64 a3.Flags)) :: ((.d (.int .i64 a3.Fore)) :: ((.d (.int .i64 a3.Back)) :: []))))]) (args' := [(.agg ((.d (.int .i64 a1.Wide)) :: ((.d (.int .i64 a1.High)) :: ((.d (.sl a1.Cells.length (e_GCell.cells a1.Cells))) :: [])))), (.d (.int .i64 a2)), (.d (.int .i64 0)), (.d (.int .i64 a1.Wide)), (.agg ((.d (.int .i64 a3.Flags)) :: ((.d (.int .i64 a3.Fore)) :: ((.d (.int .i64 a3.Back)) :: []))))]) (l := [(.agg ((.d (.int .i64 a1.Wide)) :: ((.d (.int .i64 a1.High)) :: ((.d (.sl a1.Cells.length (e_GCell.cells a1.Cells))) :: [])))), (.d (.int .i64 a2)), (.d (.int .i64 0)), (.d (.int .i64 a1.Wide)), (.agg ((.d (.int .i64 a3.Flags)) :: ((.d (.int .i64 a3.Fore)) :: ((.d (.int .i64 a3.Back)) :: []))))]) (refs := []) (r := (.tup [(.agg ((.d (.int .i64 z13.1)) :: ((.d (.int .i64 z13.2.1)) :: ((.r (.own 0 33 4 z13.2.2.1.length (e_GCell.cells z13.2.2.1))) :: [])))), (.d (.int .i64 z13.2.2.2))])) (v := (.tup [(.agg ((.d (.int .i64 z13.1)) :: ((.d (.int .i64 z13.2.1)) :: ((.r (.msl 304 1 0 z13.2.2.1.length)) :: [])))), (.d (.int .i64 z13.2.2.2))])) (ups' := [(304, ⟨1, some (.own 33 4 (e_GCell.cells z13.2.2.1))⟩)]) (by kernel_rfl) (by kernel_rfl) (by kernel_rfl) (fz_cons rfl (fz_cons rfl (fz_cons rfl (fz_cons rfl (fz_cons rfl fz_nil))))) (by kernel_rfl) (f14_ok base (d - 1) (dpt hd rfl) a1 a2 0 a1.Wide a3 z13 hz13) (by kernel_rfl) (by kernel_rfl) (by kernel_rfl) (by kernel_rfl)) ?_
  refine zlRun (n := 6) (j := 12) rfl (by kernel_rfl) ?_
  refine zlEnd (by kernel_rfl) ?_
  refine zkSeq ?_
  refine zrSeq ?_
  refine zrReg ?_
  refine zlRun (n := 2) (j := 2) rfl (by kernel_rfl) ?_
  refine bindE hS (fun z14 hz14 hS => ?_)
  refine zlOp (d := some 43) (op := (.call 13 [(.tmp 41), (.tmp 42)])) (g := none) (v := (.tup [(.r (.msl 352 1 0 z14.1.length)), (.d (.int .i64 z14.2))])) (ups := [(352, ⟨1, some (.own 3 1 ((eInt .i64).cells z14.1))⟩)]) (j := 3) rfl (by kernel_rfl) (by kernel_rfl) (ev_call (args := [(.agg ((.d (.int .i64 z13.1)) :: ((.d (.int .i64 z13.2.1)) :: ((.r (.msl 304 1 0 z13.2.2.1.length)) :: [])))), (.d (.int .i64 a2))]) (l := [(.agg ((.d (.int .i64 z13.1)) :: ((.d (.int .i64 z13.2.1)) :: ((.d (.sl z13.2.2.1.length (e_GCell.cells z13.2.2.1))) :: [])))), (.d (.int .i64 a2))]) (r := (.tup [(.r (.own 0 3 1 z14.1.length ((eInt .i64).cells z14.1))), (.d (.int .i64 z14.2))])) (by kernel_rfl) (l_cons (l_agg (l_cons (by kernel_rfl) (l_cons (by kernel_rfl) (l_cons (l_own e_GCell (e := 33) (k := 4) (xs := z13.2.2.1) (by kernel_rfl) rfl rfl) l_nil)))) (l_cons (by kernel_rfl) l_nil)) (f13_ok base (d - 1) (dpt hd rfl) (GGrid.mk z13.1 z13.2.1 z13.2.2.1) a2 z14 hz14) (by simp only [free_own (eInt .i64) (fun _ => rfl), free_tup, free_agg, free_nl, free_cs, free_int, free_bool, free_str, free_un, free_ni, free_s0, Bool.and_true, Bool.or_true, Bool.and_self]) (by kernel_rfl) (by kernel_rfl)) ?_
  refine zlRun (n := 5) (j := 8) rfl (by kernel_rfl) ?_
  refine zlEnd (by kernel_rfl) ?_
  refine zkSeq ?_
  refine zrSeq ?_
  refine zrSeq ?_
  refine zrReg ?_
  refine zlRun (n := 1) (j := 1) rfl (by kernel_rfl) ?_
  refine zlBool (d := 47) (op := (.cmpI .neq (.tmp 46) (.const (.int .i64 0)))) (g := none) (j := 2) (!decide (z13.2.2.2 = 0)) rfl (by kernel_rfl) (by kernel_rfl) (by kernel_rfl) (fun hc => ?_) (fun hc => ?_)
  · replace hS := cond_t hc hS
    refine zlEnd (by kernel_rfl) ?_
    refine zkSeq ?_
    refine zrCondT (by kernel_rfl) ?_
    refine zrSeq ?_
    refine zrRegD ?_
    refine zdRun (n := 1) (j := 1) (ts := [[]]) (acc' := [[]]) rfl (by kernel_rfl) (by kernel_rfl) (by kernel_rfl) ?_
    refine bindE hS (fun z19 hz19 hS => ?_)
    refine zdOp (d := some 49) (op := (.call 15 [(.tmp 48)])) (g := none) (v := (.d (.int .i64 z19))) (ups := []) (j := 2) (t1 := [(136, false), (400, true), (401, true), (402, true), (403, true), (404, true), (405, true), (406, true), (407, true)]) (acc' := [[], [(136, false), (400, true), (401, true), (402, true), (403, true), (404, true), (405, true), (406, true), (407, true)]]) (by kernel_rfl) (by kernel_rfl) rfl (by kernel_rfl) (by kernel_rfl) (ev_call (args := [(.r (.msl 136 0 0 p19.length))]) (l := [(.d (.sl p19.length ((eInt .i64).cells p19)))]) (r := (.d (.int .i64 z19))) (by kernel_rfl) (l_cons (l_own (eInt .i64) (e := 3) (k := 1) (xs := p19) (by kernel_rfl) rfl rfl) l_nil) (f15_ok base (d - 1) (dpt hd rfl) p19 z19 hz19) (by kernel_rfl) (by kernel_rfl) (by kernel_rfl)) ?_
    refine zdRun (n := 2) (j := 4) (ts := [[], [(32, false)]]) (acc' := [[], [(136, false), (400, true), (401, true), (402, true), (403, true), (404, true), (405, true), (406, true), (407, true)], [], [(32, false)]]) rfl (by kernel_rfl) (by kernel_rfl) (by kernel_rfl) ?_
    refine zdBool (d := 52) (op := (.cmpI .eql (.tmp 49) (.tmp 51))) (g := none) (j := 5) (t1 := []) (acc' := [[], [(136, false), (400, true), (401, true), (402, true), (403, true), (404, true), (405, true), (406, true), (407, true)], [], [(32, false)], []]) (decide (z19 = a1.Wide)) (by kernel_rfl) (by kernel_rfl) rfl (by kernel_rfl) (by kernel_rfl) (by kernel_rfl) (fun hc => ?_) (fun hc => ?_)
    · replace hS := cond_t hc hS
      refine zdRun (n := 1) (j := 6) (ts := [[]]) (acc' := [[], [(136, false), (400, true), (401, true), (402, true), (403, true), (404, true), (405, true), (406, true), (407, true)], [], [(32, false)], [], []]) rfl (by kernel_rfl) (by kernel_rfl) (by kernel_rfl) ?_
      refine zdEnd (by kernel_rfl) (by kernel_rfl) ?_
      refine zkSeq ?_
      refine zrRet ?_
      refine zkSeqR ?_
      refine zkNil ?_
      exact endQ hS hQ (fRet (by kernel_rfl) ((congrArg (fun s => outR s 0 c4.res) (by kernel_rfl : finSt c4.fin _ = f4_fin true)).trans (f4_out true)))
    · replace hS := cond_f hc hS
      refine zdRun (n := 1) (j := 6) (ts := [[]]) (acc' := [[], [(136, false), (400, true), (401, true), (402, true), (403, true), (404, true), (405, true), (406, true), (407, true)], [], [(32, false)], [], []]) rfl (by kernel_rfl) (by kernel_rfl) (by kernel_rfl) ?_
      refine zdEnd (by kernel_rfl) (by kernel_rfl) ?_
      refine zkSeq ?_
      refine zrRet ?_
      refine zkSeqR ?_
      refine zkNil ?_
      exact endQ hS hQ (fRet (by kernel_rfl) ((congrArg (fun s => outR s 0 c4.res) (by kernel_rfl : finSt c4.fin _ = f4_fin false)).trans (f4_out false)))
  · replace hS := cond_f hc hS
    refine zlEnd (by kernel_rfl) ?_
    refine zkSeq ?_
    refine zrCondF (by kernel_rfl) ?_
    refine zrSkip ?_
    refine zkSeq ?_
    exact f4_j1_ok hd a1 a2 a3 hQ p19 z14.1 z14.2 hS (by kernel_rfl)
def f4_j2_J (a1 : GGrid) (a2 : Int) (a3 : GPen) (p29 : List Int) : St := ⟨(up (fun _ => .un) 7 (.r (.msl 136 0 0 p29.length))), (up (hB fun _ => 0) 136 ⟨0, some (.own 3 1 ((eInt .i64).cells p29))⟩)⟩
noncomputable def f4_j2 (a1 : GGrid) (a2 : Int) (a3 : GPen) (p29 : List Int) : Option (Bool) := (f10.bind fun z21 => (bif z21 then (bif (decide ((p29.length : Int) = 0)) then (some true) else (some false)) else (some false)))
theorem f4_j2_ok {base : Orc} {d : Nat} (hd : 8 ≤ d) (a1 : GGrid) (a2 : Int) (a3 : GPen) {r : Bool} {Q : PX → St → Prop} (hQ : ∀ e st', f4_Q r e st' → Q e st') (p29 : List Int) (hS : f4_j2 a1 a2 a3 p29 = some r) {st : St} (he : keepSt [7] [(136, .id 136)] [] st = f4_j2_J a1 a2 a3 p29) : ZR (lev codes base (d - 1)) Q c4_3 [.seq c4_2] st := by
  refine zrKeep he ?_
  unfold f4_j2 at hS
  refine zrSeq ?_
  refine zrReg ?_
  refine bindE hS (fun z21 hz21 hS => ?_)
  refine zlOp (d := some 25) (op := (.call 10 [])) (g := none) (v := (.d (.bool z21))) (ups := []) (j := 1) rfl (by kernel_rfl) (by kernel_rfl) (ev_call (args := []) (l := []) (r := (.d (.bool z21))) (by kernel_rfl) (by kernel_rfl) (f10_ok base (d - 1) (dpt hd rfl)  z21 hz21) (by kernel_rfl) (by kernel_rfl) (by kernel_rfl)) ?_
  refine zlRun (n := 1) (j := 2) rfl (by kernel_rfl) ?_
  refine zlSplit 26 z21 (by kernel_rfl) (fun hc => ?_) (fun hc => ?_)
  · replace hS := cond_t hc hS
    refine zlRun (n := 2) (j := 4) rfl (by kernel_rfl) ?_
    refine zlBool (d := 29) (op := (.cmpI .eql (.tmp 28) (.const (.int .i64 0)))) (g := (some (26, true))) (j := 5) (decide ((p29.length : Int) = 0)) rfl (by kernel_rfl) (by kernel_rfl) (by kernel_rfl) (fun hc => ?_) (fun hc => ?_)
    · replace hS := cond_t hc hS
      refine zlRun (n := 2) (j := 7) rfl (by kernel_rfl) ?_
      refine zlEnd (by kernel_rfl) ?_
      refine zkSeq ?_
      refine zrRet ?_
      refine zkSeqR ?_
      refine zkNil ?_
      exact endQ hS hQ (fRet (by kernel_rfl) ((congrArg (fun s => outR s 0 c4.res) (by kernel_rfl : finSt c4.fin _ = f4_fin true)).trans (f4_out true)))
    · replace hS := cond_f hc hS
      refine zlRun (n := 2) (j := 7) rfl (by kernel_rfl) ?_
      refine zlEnd (by kernel_rfl) ?_
      refine zkSeq ?_
      refine zrRet ?_
      refine zkSeqR ?_
      refine zkNil ?_
      exact endQ hS hQ (fRet (by kernel_rfl) ((congrArg (fun s => outR s 0 c4.res) (by kernel_rfl : finSt c4.fin _ = f4_fin false)).trans (f4_out false)))
  · replace hS := cond_f hc hS
    refine zlRun (n := 5) (j := 7) rfl (by kernel_rfl) ?_
    refine zlEnd (by kernel_rfl) ?_
    refine zkSeq ?_
    refine zrRet ?_
    refine zkSeqR ?_
    refine zkNil ?_
    exact endQ hS hQ (fRet (by kernel_rfl) ((congrArg (fun s => outR s 0 c4.res) (by kernel_rfl : finSt c4.fin _ = f4_fin false)).trans (f4_out false)))
noncomputable def f4 (a1 : GGrid) (a2 : Int) (a3 : GPen) : Option (Bool) := ((f13 a1 a2).bind fun z10 => (f10.bind fun z22 => (bif (!z22) then (f4_j2 a1 a2 a3 z10.1) else (bif (!decide (z10.2 = 0)) then (f4_j2 a1 a2 a3 z10.1) else (f4_j0 a1 a2 a3 z10.1)))))
theorem f4_ok (base : Orc) (d : Nat) (hd : 8 ≤ d) (a1 : GGrid) (a2 : Int) (a3 : GPen) (r : Bool) (hS : f4 a1 a2 a3 = some r) : lev codes base d 4 [(.agg ((.d (.int .i64 a1.Wide)) :: ((.d (.int .i64 a1.High)) :: ((.d (.sl a1.Cells.length (e_GCell.cells a1.Cells))) :: [])))), (.d (.int .i64 a2)), (.agg ((.d (.int .i64 a3.Flags)) :: ((.d (.int .i64 a3.Fore)) :: ((.d (.int .i64 a3.Back)) :: []))))] [] = some ((.d (.bool r)), []) := by
  refine lev_go codes4 rfl rfl (Nat.le_trans (Nat.le_of_ble_eq_true rfl) hd) fun Q hQ => ?_
  unfold f4 at hS
  show ZR _ Q c4_b [] _
  replace hQ : ∀ e st', f4_Q r e st' → Q e st' := hQ
  refine zrSeq ?_
  refine zrReg ?_
  refine zlRun (n := 3) (j := 3) rfl (by kernel_rfl) ?_
  refine zlEnd (by kernel_rfl) ?_
  refine zkSeq ?_
  refine zrSeq ?_
  refine zrReg ?_
  refine zlRun (n := 2) (j := 2) rfl (by kernel_rfl) ?_
  refine bindE hS (fun z10 hz10 hS => ?_)
  refine zlOp (d := some 16) (op := (.call 13 [(.tmp 14), (.tmp 15)])) (g := none) (v := (.tup [(.r (.msl 136 1 0 z10.1.length)), (.d (.int .i64 z10.2))])) (ups := [(136, ⟨1, some (.own 3 1 ((eInt .i64).cells z10.1))⟩)]) (j := 3) rfl (by kernel_rfl) (by kernel_rfl) (ev_call (args := [(.agg ((.d (.int .i64 a1.Wide)) :: ((.d (.int .i64 a1.High)) :: ((.d (.sl a1.Cells.length (e_GCell.cells a1.Cells))) :: [])))), (.d (.int .i64 a2))]) (l := [(.agg ((.d (.int .i64 a1.Wide)) :: ((.d (.int .i64 a1.High)) :: ((.d (.sl a1.Cells.length (e_GCell.cells a1.Cells))) :: [])))), (.d (.int .i64 a2))]) (r := (.tup [(.r (.own 0 3 1 z10.1.length ((eInt .i64).cells z10.1))), (.d (.int .i64 z10.2))])) (by kernel_rfl) (by kernel_rfl) (f13_ok base (d - 1) (dpt hd rfl) a1 a2 z10 hz10) (by kernel_rfl) (by kernel_rfl) (by kernel_rfl)) ?_
  refine zlRun (n := 5) (j := 8) rfl (by kernel_rfl) ?_
  refine zlEnd (by kernel_rfl) ?_
  refine zkSeq ?_
  refine zrSeq ?_
  refine zrSeq ?_
  refine zrReg ?_
  refine bindE hS (fun z22 hz22 hS => ?_)
  refine zlOp (d := some 19) (op := (.call 10 [])) (g := none) (v := (.d (.bool z22))) (ups := []) (j := 1) rfl (by kernel_rfl) (by kernel_rfl) (ev_call (args := []) (l := []) (r := (.d (.bool z22))) (by kernel_rfl) (by kernel_rfl) (f10_ok base (d - 1) (dpt hd rfl)  z22 hz22) (by kernel_rfl) (by kernel_rfl) (by kernel_rfl)) ?_
  refine zlRun (n := 2) (j := 3) rfl (by kernel_rfl) ?_
  refine zlSplit 21 (!z22) (by kernel_rfl) (fun hc => ?_) (fun hc => ?_)
  · replace hS := cond_t hc hS
    refine zlRun (n := 3) (j := 6) rfl (by kernel_rfl) ?_
    refine zlEnd (by kernel_rfl) ?_
    refine zkSeq ?_
    refine zrCondT (by kernel_rfl) ?_
    exact f4_j2_ok hd a1 a2 a3 hQ z10.1 hS (by kernel_rfl)
  · replace hS := cond_f hc hS
    refine zlRun (n := 1) (j := 4) rfl (by kernel_rfl) ?_
    refine zlBool (d := 23) (op := (.cmpI .neq (.tmp 22) (.const (.int .i64 0)))) (g := (some (21, false))) (j := 5) (!decide (z10.2 = 0)) rfl (by kernel_rfl) (by kernel_rfl) (by kernel_rfl) (fun hc => ?_) (fun hc => ?_)
    · replace hS := cond_t hc hS
      refine zlRun (n := 1) (j := 6) rfl (by kernel_rfl) ?_
      refine zlEnd (by kernel_rfl) ?_
      refine zkSeq ?_
      refine zrCondT (by kernel_rfl) ?_
      exact f4_j2_ok hd a1 a2 a3 hQ z10.1 hS (by kernel_rfl)
    · replace hS := cond_f hc hS
      refine zlRun (n := 1) (j := 6) rfl (by kernel_rfl) ?_
      refine zlEnd (by kernel_rfl) ?_
      refine zkSeq ?_
      refine zrCondF (by kernel_rfl) ?_
      refine zrSkip ?_
      refine zkSeq ?_
      exact f4_j0_ok hd a1 a2 a3 hQ z10.1 hS (by kernel_rfl)
end Go.Proofs.Ytipipahbfakcaaa.Pm
