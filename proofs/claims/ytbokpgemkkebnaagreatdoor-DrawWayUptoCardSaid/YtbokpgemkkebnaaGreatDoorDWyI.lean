/- Typed functions, and that the codes are these. Printed by dec.py. -/
import Derived.Test.YtbokpgemkkebnaaGreatDoorDWyH
namespace Go.Proofs.YtbokpgemkkebnaaGreatDoor.Pm
noncomputable section
set_option maxRecDepth 1000000
set_option maxHeartbeats 20000000
set_option linter.unusedVariables false
/- farwriter/screen.Run -/
def f17_fin (p26 : GScreen) (p27 : List UInt8) (p28 : Int) : St := ⟨(up (up (up u0 6 (dI p28)) 5 (.d (.str p27))) 4 (pt 40)), (gh_GScreen h0 p26 40 420 421 422)⟩
theorem f17_out (p26 : GScreen) (p27 : List UInt8) (p28 : Int) : outR (f17_fin p26 p27 p28) 0 c17.res = some ((.tup [(.agg (bw_GScreen p26)), (.d (.str p27)), (dI p28)]), []) := by
 exact out_of (ids := []) (ids' := [420, 421, 422]) (l := [(.agg (bm_GScreen p26 420 0 421 0 422 0)), (.d (.str p27)), (dI p28)]) (by kernel_rfl) (by kernel_rfl) (o_tup (o_cons (o_agg (o_cons rfl (o_cons rfl (o_cons (o_own e_GCell (e := 49) (k := 4) (xs := p26.Grid.Cells) (by kernel_rfl) rfl rfl rfl rfl) (o_cons rfl (o_cons rfl (o_cons rfl (o_cons rfl (o_cons rfl (o_cons rfl (o_cons rfl (o_cons rfl (o_cons rfl (o_app (o_row (eInt .u64)) (o_cons rfl (o_cons rfl (o_cons rfl (o_cons rfl (o_cons rfl (o_cons rfl (o_cons rfl (o_cons rfl (o_cons rfl (o_cons rfl (o_cons rfl (o_cons rfl (o_cons rfl (o_cons rfl (o_cons (o_own e_GCell (e := 49) (k := 4) (xs := p26.Other.Cells) (by kernel_rfl) rfl rfl rfl rfl) (o_cons rfl (o_cons (o_own e_GLine (e := 95) (k := 1) (xs := p26.Past) (by kernel_rfl) rfl rfl rfl rfl) o_nil))))))))))))))))))))))))))))))) (o_cons rfl (o_cons rfl o_nil))))
def f17_Q (r : GScreen × (List UInt8) × Int) (e : PX) (st : St) : Prop := DoneF c17 0 ((.tup [(.agg (bw_GScreen r.1)), (.d (.str r.2.1)), (dI r.2.2)]), []) e st
def f17_j2_J (a1 : GScreen) (a2 : List GAct) (p47 : Gterminal) : St := ⟨(up (up u0 9 (pt 240)) 4 (pt 40)), (up (gh_Gterminal h0 p47 240 224 225 226) 40 ⟨0, some (.box (bx_GScreen (GScreen.mk (GGrid.mk 0 0 ([])) 0 0 false 0 0 (GPen.mk 0 0 0) 0 (GStops.mk (fun _ => 0)) (0, 0) 0 (GSaved.mk 0 0 (GPen.mk 0 0 0) false (0, 0) 0) (GGrid.mk 0 0 ([])) ([]) ([])) (.d (.sl ([] : List GCell).length (e_GCell.cells ([])))) (.d (.sl ([] : List GCell).length (e_GCell.cells ([])))) (.d (.sl ([] : List GLine).length (e_GLine.cells ([]))))))⟩)⟩
def f17_j2 (a1 : GScreen) (a2 : List GAct) (p47 : Gterminal) : Option (GScreen × (List UInt8) × Int) := (some (p47.Screen, p47.sent, 0))
theorem f17_j2_ok {d : Nat} (hd : 9 ≤ d) (a1 : GScreen) (a2 : List GAct) {r : GScreen × (List UInt8) × Int} {Q : PQ} (hQ : FQ (f17_Q r) Q) (p47 : Gterminal) (hS : f17_j2 a1 a2 p47 = some r) {st : St} (he : keepSt [4, 9] [(40, .id 40), (240, .id 240), (224, .id 224), (225, .id 225), (226, .id 226)] [] st = f17_j2_J a1 a2 p47) : ZR (lev codes baseL (d - 1)) Q c17_1 [] st := by
 refine zrKeep he ?_
 unfold f17_j2 at hS
 exact zrSeq (zrRegD (zdR 11 11 (zdE (zkSeq (zrRet (zkNil (endQ hS hQ (fR (f17_out p47.Screen p47.sent 0)))))))))
def f17_l3_J (a1 : GScreen) (a2 : List GAct) (x : Gterminal × Int) : St := ⟨(up (up (up (up (up u0 32 (dI x.2)) 31 (dI (a2.length : Int))) 30 (dE e_GAct a2)) 9 (pt 240)) 4 (pt 40)), (up (gh_Gterminal h0 x.1 240 224 225 226) 40 ⟨0, some (.box (bx_GScreen (GScreen.mk (GGrid.mk 0 0 ([])) 0 0 false 0 0 (GPen.mk 0 0 0) 0 (GStops.mk (fun _ => 0)) (0, 0) 0 (GSaved.mk 0 0 (GPen.mk 0 0 0) false (0, 0) 0) (GGrid.mk 0 0 ([])) ([]) ([])) (.d (.sl ([] : List GCell).length (e_GCell.cells ([])))) (.d (.sl ([] : List GCell).length (e_GCell.cells ([])))) (.d (.sl ([] : List GLine).length (e_GLine.cells ([]))))))⟩)⟩
def f17_l3_H (a1 : GScreen) (a2 : List GAct) (x : Gterminal × Int) (st : St) : Prop := keepSt [4, 9, 30, 31, 32] [(40, .id 40), (240, .id 240), (224, .id 224), (225, .id 225), (226, .id 226)] [] st = f17_l3_J a1 a2 x
def f17_l3_e0_J (a1 : GScreen) (a2 : List GAct) (p46 : Gterminal) : St := ⟨(up (up u0 9 (pt 240)) 4 (pt 40)), (up (gh_Gterminal h0 p46 240 224 225 226) 40 ⟨0, some (.box (bx_GScreen (GScreen.mk (GGrid.mk 0 0 ([])) 0 0 false 0 0 (GPen.mk 0 0 0) 0 (GStops.mk (fun _ => 0)) (0, 0) 0 (GSaved.mk 0 0 (GPen.mk 0 0 0) false (0, 0) 0) (GGrid.mk 0 0 ([])) ([]) ([])) (.d (.sl ([] : List GCell).length (e_GCell.cells ([])))) (.d (.sl ([] : List GCell).length (e_GCell.cells ([])))) (.d (.sl ([] : List GLine).length (e_GLine.cells ([]))))))⟩)⟩
def f17_l3_X (a1 : GScreen) (a2 : List GAct) (z : Gterminal) (e : PX) (st : St) : Prop := e = .exit 0 ∧ st = f17_l3_e0_J a1 a2 z
def f17_l3_j5_J (a1 : GScreen) (a2 : List GAct) (p54 : Gterminal) (p55 : Int) : St := ⟨(up (up (up (up (up u0 32 (dI p55)) 31 (dI (a2.length : Int))) 30 (dE e_GAct a2)) 9 (pt 240)) 4 (pt 40)), (up (gh_Gterminal h0 p54 240 224 225 226) 40 ⟨0, some (.box (bx_GScreen (GScreen.mk (GGrid.mk 0 0 ([])) 0 0 false 0 0 (GPen.mk 0 0 0) 0 (GStops.mk (fun _ => 0)) (0, 0) 0 (GSaved.mk 0 0 (GPen.mk 0 0 0) false (0, 0) 0) (GGrid.mk 0 0 ([])) ([]) ([])) (.d (.sl ([] : List GCell).length (e_GCell.cells ([])))) (.d (.sl ([] : List GCell).length (e_GCell.cells ([])))) (.d (.sl ([] : List GLine).length (e_GLine.cells ([]))))))⟩)⟩
def f17_l3_j5 (a1 : GScreen) (a2 : List GAct) (p54 : Gterminal) (p55 : Int) : Option ((Gterminal × Int) ⊕ Gterminal) := ((idx a2 p55).bind fun z23 => ((f35 z23 p54).bind fun z24 => (some (.inl (z24, (IntKind.i64.wrap (p55 + 1)))))))
theorem f17_l3_j5_ok {d : Nat} (hd : 9 ≤ d) (a1 : GScreen) (a2 : List GAct) {r : (Gterminal × Int) ⊕ Gterminal} {Q : PQ} (hQ : FQ (finL (f17_l3_H a1 a2) (f17_l3_X a1 a2) r) Q) (p54 : Gterminal) (p55 : Int) (hS : f17_l3_j5 a1 a2 p54 p55 = some r) {st : St} (he : keepSt [4, 9, 30, 31, 32] [(40, .id 40), (240, .id 240), (224, .id 224), (225, .id 225), (226, .id 226)] [] st = f17_l3_j5_J a1 a2 p54 p55) : ZR (lev codes baseL (d - 1)) Q c17_2 [] st := by
 refine zrKeep he ?_
 unfold f17_l3_j5 at hS
 refine zrSeq (zrBlk (zrSeq (zrReg ?_)))
 refine bindE hS (fun z23 hz23 hS => zO (v := (.rptr (e_GAct.enc z23 ++ (e_GAct.cells (a2.drop ((p55 : Int).toNat + 1)))))) (ups := []) (some 34) 1 (.ixS 74 6 (tm 30) (tm 32)) (ev_ixS e_GAct (kk := .i64) (xs := a2) (j := p55) (by kernel_rfl) (by kernel_rfl) hz23 rfl (by intro h; cases h)) (zL 3 4 (zE (zkSeq (zrReg (zL 2 2 ?_))))))
 refine bindE hS (fun z24 hz24 hS => zO (some 38) 3 (.callr 35 [(tm 36), (tm 37)]) (ev_cR [240, 224, 225, 226] (f35_ok (d - 1) (dpt hd rfl) z23 p54 z24 hz24)) (zE (zkBlk (zkSeq (zrReg (zL 2 2 (zE ?_)))))))
 exact zkNil (eN1 hS hQ)
def f17_l3_j4_J (a1 : GScreen) (a2 : List GAct) (p51 : Gterminal) (p52 : Int) (p53 : Bool) : St := ⟨(up (up (up (up (up (up u0 33 (dB p53)) 32 (dI p52)) 31 (dI (a2.length : Int))) 30 (dE e_GAct a2)) 9 (pt 240)) 4 (pt 40)), (up (gh_Gterminal h0 p51 240 224 225 226) 40 ⟨0, some (.box (bx_GScreen (GScreen.mk (GGrid.mk 0 0 ([])) 0 0 false 0 0 (GPen.mk 0 0 0) 0 (GStops.mk (fun _ => 0)) (0, 0) 0 (GSaved.mk 0 0 (GPen.mk 0 0 0) false (0, 0) 0) (GGrid.mk 0 0 ([])) ([]) ([])) (.d (.sl ([] : List GCell).length (e_GCell.cells ([])))) (.d (.sl ([] : List GCell).length (e_GCell.cells ([])))) (.d (.sl ([] : List GLine).length (e_GLine.cells ([]))))))⟩)⟩
def f17_l3_j4 (a1 : GScreen) (a2 : List GAct) (p51 : Gterminal) (p52 : Int) (p53 : Bool) : Option ((Gterminal × Int) ⊕ Gterminal) := (bif p53 then (f17_l3_j5 a1 a2 p51 p52) else (some (.inr p51)))
theorem f17_l3_j4_ok {d : Nat} (hd : 9 ≤ d) (a1 : GScreen) (a2 : List GAct) {r : (Gterminal × Int) ⊕ Gterminal} {Q : PQ} (hQ : FQ (finL (f17_l3_H a1 a2) (f17_l3_X a1 a2) r) Q) (p51 : Gterminal) (p52 : Int) (p53 : Bool) (hS : f17_l3_j4 a1 a2 p51 p52 p53 = some r) {st : St} (he : keepSt [4, 9, 30, 31, 32, 33] [(40, .id 40), (240, .id 240), (224, .id 224), (225, .id 225), (226, .id 226)] [] st = f17_l3_j4_J a1 a2 p51 p52 p53) : ZR (lev codes baseL (d - 1)) Q c17_3 [] st := by
 refine zrKeep he ?_
 unfold f17_l3_j4 at hS
 refine zrSeq (sR 33 hS (fun hS => ?_) (fun hS => ?_))
 ·exact zT (zrSkip (zkSeq (f17_l3_j5_ok hd a1 a2 hQ p51 p52 hS (by kernel_rfl))))
 ·exact zF (zrKeep (J := f17_l3_e0_J a1 a2 p51) (by kernel_rfl) (zrExit (zkSeqX (zkNil (eX0 hS hQ)))))
def f17_l3 (a1 : GScreen) (a2 : List GAct) (x : Gterminal × Int) : Option ((Gterminal × Int) ⊕ Gterminal) := (bif (decide (x.2 < (a2.length : Int))) then (f17_l3_j4 a1 a2 x.1 x.2 true) else (f17_l3_j4 a1 a2 x.1 x.2 false))
theorem f17_l3_ok {d : Nat} (hd : 9 ≤ d) (a1 : GScreen) (a2 : List GAct) {r : (Gterminal × Int) ⊕ Gterminal} {Q : PQ} (hQ : FQ (finL (f17_l3_H a1 a2) (f17_l3_X a1 a2) r) Q) {x : Gterminal × Int} (hS : f17_l3 a1 a2 x = some r) {st : St} (he : f17_l3_H a1 a2 x st) : ZR (lev codes baseL (d - 1)) Q c17_4 [] st := by
 refine zrKeep he ?_
 unfold f17_l3 at hS
 refine zrSeq (zrReg ?_)
 refine sB 33 1 (.cmpI .lss (tm 32) (tm 31)) hS (fun hS => ?_) (fun hS => ?_)
 ·refine zE (zkSeq ?_)
  exact f17_l3_j4_ok hd a1 a2 hQ x.1 x.2 true hS (by kernel_rfl)
 ·refine zE (zkSeq ?_)
  exact f17_l3_j4_ok hd a1 a2 hQ x.1 x.2 false hS (by kernel_rfl)
def f17_j1_J (a1 : GScreen) (a2 : List GAct) : St := ⟨(up (up (up u0 4 (pt 40)) 2 (pt 24)) 1 (dE e_GAct a2)), (up (up h0 40 ⟨0, some (.box (bx_GScreen (GScreen.mk (GGrid.mk 0 0 ([])) 0 0 false 0 0 (GPen.mk 0 0 0) 0 (GStops.mk (fun _ => 0)) (0, 0) 0 (GSaved.mk 0 0 (GPen.mk 0 0 0) false (0, 0) 0) (GGrid.mk 0 0 ([])) ([]) ([])) (.d (.sl ([] : List GCell).length (e_GCell.cells ([])))) (.d (.sl ([] : List GCell).length (e_GCell.cells ([])))) (.d (.sl ([] : List GLine).length (e_GLine.cells ([]))))))⟩) 24 ⟨0, some (.box (bd_GScreen a1))⟩)⟩
def f17_j1 (a1 : GScreen) (a2 : List GAct) : Option (GScreen × (List UInt8) × Int) := ((f33 a1).bind fun z16 => ((loopO (f17_l3 a1 a2) ((Gterminal.mk z16 ([])), 0)).bind fun z25 => (f17_j2 a1 a2 z25)))
theorem f17_j1_ok {d : Nat} (hd : 9 ≤ d) (a1 : GScreen) (a2 : List GAct) {r : GScreen × (List UInt8) × Int} {Q : PQ} (hQ : FQ (f17_Q r) Q)  (hS : f17_j1 a1 a2 = some r) {st : St} (he : keepSt [1, 2, 4] [(24, .id 24), (40, .id 40)] [] st = f17_j1_J a1 a2) : ZR (lev codes baseL (d - 1)) Q c17_5 [] st := by
 refine zrKeep he ?_
 unfold f17_j1 at hS
 refine zrSeq (zrReg (zL 1 1 ?_))
 refine bindE hS (fun z16 hz16 hS => zO (v := (.agg (bm_GScreen z16 224 1 225 1 226 1))) (ups := [(224, ⟨1, some (go0_GScreen z16)⟩), (225, ⟨1, some (go1_GScreen z16)⟩), (226, ⟨1, some (go2_GScreen z16)⟩)]) (some 27) 2 (.callf 33 [(tm 26)]) (ev_callF (args := [(.agg (bd_GScreen a1))]) (args' := [(.agg (bd_GScreen a1))]) (l := [(.agg (bd_GScreen a1))]) (refs := []) (r := (.agg (bw_GScreen z16))) (v := (.agg (bm_GScreen z16 224 1 225 1 226 1))) (ups' := [(224, ⟨1, some (go0_GScreen z16)⟩), (225, ⟨1, some (go1_GScreen z16)⟩), (226, ⟨1, some (go2_GScreen z16)⟩)]) (by kernel_rfl) (by kernel_rfl) (by kernel_rfl) (fz_cons rfl fz_nil) (by kernel_rfl) (f33_ok (d - 1) (dpt hd rfl) a1 z16 hz16) (by kernel_rfl) (by kernel_rfl) (by kernel_rfl) (by kernel_rfl)) (zL 3 5 (zE (zkSeq (zrSeq (zrSeq (zrReg (zL 3 3 (zE (zkSeq ?_))))))))))
 refine zrBlk (bindE hS (fun z25 hz25 hS => zrLoop (f17_l3_H a1 a2) (f17_l3_X a1 a2) (fun x st r Q h0 hS hQ => f17_l3_ok hd a1 a2 hQ hS h0) (x := ((Gterminal.mk z16 ([])), 0)) (z := z25) (by show keepSt _ _ _ _ = _; kernel_rfl) hz25 ?_))
 intro e st' _ hX
 obtain ⟨rfl, rfl⟩ : _ ∧ _ := hX
 exact zkBlkX (zkSeq (f17_j2_ok hd a1 a2 hQ z25 hS (by kernel_rfl)))
def f17_j0_J (a1 : GScreen) (a2 : List GAct) : St := ⟨(up (up (up u0 4 (pt 40)) 2 (pt 24)) 1 (dE e_GAct a2)), (up (up h0 40 ⟨0, some (.box (bx_GScreen (GScreen.mk (GGrid.mk 0 0 ([])) 0 0 false 0 0 (GPen.mk 0 0 0) 0 (GStops.mk (fun _ => 0)) (0, 0) 0 (GSaved.mk 0 0 (GPen.mk 0 0 0) false (0, 0) 0) (GGrid.mk 0 0 ([])) ([]) ([])) (.d (.sl ([] : List GCell).length (e_GCell.cells ([])))) (.d (.sl ([] : List GCell).length (e_GCell.cells ([])))) (.d (.sl ([] : List GLine).length (e_GLine.cells ([]))))))⟩) 24 ⟨0, some (.box (bd_GScreen a1))⟩)⟩
def f17_j0 (a1 : GScreen) (a2 : List GAct) : Option (GScreen × (List UInt8) × Int) := ((f34 a2).bind fun z26 => (bif (!decide (z26 = 0)) then ((f33 a1).bind fun z27 => (some (z27, [], z26))) else (f17_j1 a1 a2 )))
theorem f17_j0_ok {d : Nat} (hd : 9 ≤ d) (a1 : GScreen) (a2 : List GAct) {r : GScreen × (List UInt8) × Int} {Q : PQ} (hQ : FQ (f17_Q r) Q)  (hS : f17_j0 a1 a2 = some r) {st : St} (he : keepSt [1, 2, 4] [(24, .id 24), (40, .id 40)] [.cell 40 2 0 0 1, .cell 40 30 0 0 1, .cell 40 32 0 0 1] st = f17_j0_J a1 a2) : ZR (lev codes baseL (d - 1)) Q c17_6 [] st := by
 refine zrKeep he ?_
 unfold f17_j0 at hS
 refine zrSeq (zrSeq (zrReg (zL 1 1 ?_)))
 refine bindE hS (fun z26 hz26 hS => zO (some 20) 2 (c1 34 19) (ev_cA (f34_ok (d - 1) (dpt hd rfl) a2 z26 hz26)) (zL 1 3 (zE (zkSeq (zrSeq (zrReg (zL 1 1 ?_)))))))
 refine sB 22 2 (.cmpI .neq (tm 21) (ki 0)) hS (fun hS => ?_) (fun hS => ?_)
 ·refine zE (zkSeq (zT (zrSeq (zrReg (zL 1 1 ?_)))))
  refine bindE hS (fun z27 hz27 hS => zO (v := (.agg (bm_GScreen z27 200 1 201 1 202 1))) (ups := [(200, ⟨1, some (go0_GScreen z27)⟩), (201, ⟨1, some (go1_GScreen z27)⟩), (202, ⟨1, some (go2_GScreen z27)⟩)]) (some 24) 2 (.callf 33 [(tm 23)]) (ev_callF (args := [(.agg (bd_GScreen a1))]) (args' := [(.agg (bd_GScreen a1))]) (l := [(.agg (bd_GScreen a1))]) (refs := []) (r := (.agg (bw_GScreen z27))) (v := (.agg (bm_GScreen z27 200 1 201 1 202 1))) (ups' := [(200, ⟨1, some (go0_GScreen z27)⟩), (201, ⟨1, some (go1_GScreen z27)⟩), (202, ⟨1, some (go2_GScreen z27)⟩)]) (by kernel_rfl) (by kernel_rfl) (by kernel_rfl) (fz_cons rfl fz_nil) (by kernel_rfl) (f33_ok (d - 1) (dpt hd rfl) a1 z27 hz27) (by kernel_rfl) (by kernel_rfl) (by kernel_rfl) (by kernel_rfl)) (zL 4 6 (zE (zkSeq ?_))))
  exact zrRet (zkSeqR (zkNil (endQ hS hQ (fR (f17_out z27 [] z26)))))
 ·refine zE (zkSeq (zF ?_))
  exact zrSkip (zkSeq (f17_j1_ok hd a1 a2 hQ  hS (by kernel_rfl)))
def f17 (a1 : GScreen) (a2 : List GAct) : Option (GScreen × (List UInt8) × Int) := ((f9 a1).bind fun z28 => (bif (!decide (z28 = 0)) then ((f33 a1).bind fun z29 => (some (z29, [], z28))) else (f17_j0 a1 a2 )))
theorem f17_ok (d : Nat) (hd : 9 ≤ d) (a1 : GScreen) (a2 : List GAct) (r : GScreen × (List UInt8) × Int) (hS : f17 a1 a2 = some r) : lev codes baseL d 17 [(.agg (bd_GScreen a1)), (dE e_GAct a2)] [] = some ((.tup [(.agg (bw_GScreen r.1)), (.d (.str r.2.1)), (dI r.2.2)]), []) := by
 refine lev_go codes17 rfl rfl (Nat.le_trans (Nat.le_of_ble_eq_true rfl) hd) fun Q hQ => ?_
 unfold f17 at hS
 show ZR _ Q c17_b [] _
 replace hQ : FQ (f17_Q r) Q := hQ
 refine zrSeq (zrReg (zL 4 4 (zE (zkSeq (zrSeq (zrSeq (zrReg (zL 1 1 ?_))))))))
 refine bindE hS (fun z28 hz28 hS => zO (some 13) 2 (c1 9 12) (ev_cA (f9_ok (d - 1) (dpt hd rfl) a1 z28 hz28)) (zL 1 3 (zE (zkSeq (zrSeq (zrReg (zL 1 1 ?_)))))))
 refine sB 15 2 (.cmpI .neq (tm 14) (ki 0)) hS (fun hS => ?_) (fun hS => ?_)
 ·refine zE (zkSeq (zT (zrSeq (zrReg (zL 1 1 ?_)))))
  refine bindE hS (fun z29 hz29 hS => zO (v := (.agg (bm_GScreen z29 144 1 145 1 146 1))) (ups := [(144, ⟨1, some (go0_GScreen z29)⟩), (145, ⟨1, some (go1_GScreen z29)⟩), (146, ⟨1, some (go2_GScreen z29)⟩)]) (some 17) 2 (.callf 33 [(tm 16)]) (ev_callF (args := [(.agg (bd_GScreen a1))]) (args' := [(.agg (bd_GScreen a1))]) (l := [(.agg (bd_GScreen a1))]) (refs := []) (r := (.agg (bw_GScreen z29))) (v := (.agg (bm_GScreen z29 144 1 145 1 146 1))) (ups' := [(144, ⟨1, some (go0_GScreen z29)⟩), (145, ⟨1, some (go1_GScreen z29)⟩), (146, ⟨1, some (go2_GScreen z29)⟩)]) (by kernel_rfl) (by kernel_rfl) (by kernel_rfl) (fz_cons rfl fz_nil) (by kernel_rfl) (f33_ok (d - 1) (dpt hd rfl) a1 z29 hz29) (by kernel_rfl) (by kernel_rfl) (by kernel_rfl) (by kernel_rfl)) (zL 4 6 (zE (zkSeq ?_))))
  exact zrRet (zkSeqR (zkNil (endQ hS hQ (fR (f17_out z29 [] z28)))))
 ·refine zE (zkSeq (zF ?_))
  exact zrSkip (zkSeq (f17_j0_ok hd a1 a2 hQ  hS (by kernel_rfl)))
/- farwriter/draw.Show -/
def f7_fin (p2 : GScreen) (p3 : List UInt8) (p4 : Int) : St := ⟨(up (up (up u0 6 (dI p4)) 5 (.d (.str p3))) 4 (pt 40)), (gh_GScreen h0 p2 40 160 161 162)⟩
theorem f7_out (p2 : GScreen) (p3 : List UInt8) (p4 : Int) : outR (f7_fin p2 p3 p4) 0 c7.res = some ((.tup [(.agg (bw_GScreen p2)), (.d (.str p3)), (dI p4)]), []) := by
 exact out_of (ids := []) (ids' := [160, 161, 162]) (l := [(.agg (bm_GScreen p2 160 0 161 0 162 0)), (.d (.str p3)), (dI p4)]) (by kernel_rfl) (by kernel_rfl) (o_tup (o_cons (o_agg (o_cons rfl (o_cons rfl (o_cons (o_own e_GCell (e := 49) (k := 4) (xs := p2.Grid.Cells) (by kernel_rfl) rfl rfl rfl rfl) (o_cons rfl (o_cons rfl (o_cons rfl (o_cons rfl (o_cons rfl (o_cons rfl (o_cons rfl (o_cons rfl (o_cons rfl (o_app (o_row (eInt .u64)) (o_cons rfl (o_cons rfl (o_cons rfl (o_cons rfl (o_cons rfl (o_cons rfl (o_cons rfl (o_cons rfl (o_cons rfl (o_cons rfl (o_cons rfl (o_cons rfl (o_cons rfl (o_cons rfl (o_cons (o_own e_GCell (e := 49) (k := 4) (xs := p2.Other.Cells) (by kernel_rfl) rfl rfl rfl rfl) (o_cons rfl (o_cons (o_own e_GLine (e := 95) (k := 1) (xs := p2.Past) (by kernel_rfl) rfl rfl rfl rfl) o_nil))))))))))))))))))))))))))))))) (o_cons rfl (o_cons rfl o_nil))))
def f7_Q (r : GScreen × (List UInt8) × Int) (e : PX) (st : St) : Prop := DoneF c7 0 ((.tup [(.agg (bw_GScreen r.1)), (.d (.str r.2.1)), (dI r.2.2)]), []) e st
def f7_j0_J (a1 : GScreen) (a2 : List Int) (p5 : List GAct) : St := ⟨(up (up (up u0 8 (dE e_GAct p5)) 4 (pt 40)) 2 (pt 24)), (up (up h0 40 ⟨0, some (.box (bx_GScreen (GScreen.mk (GGrid.mk 0 0 ([])) 0 0 false 0 0 (GPen.mk 0 0 0) 0 (GStops.mk (fun _ => 0)) (0, 0) 0 (GSaved.mk 0 0 (GPen.mk 0 0 0) false (0, 0) 0) (GGrid.mk 0 0 ([])) ([]) ([])) (.d (.sl ([] : List GCell).length (e_GCell.cells ([])))) (.d (.sl ([] : List GCell).length (e_GCell.cells ([])))) (.d (.sl ([] : List GLine).length (e_GLine.cells ([]))))))⟩) 24 ⟨0, some (.box (bd_GScreen a1))⟩)⟩
def f7_j0 (a1 : GScreen) (a2 : List Int) (p5 : List GAct) : Option (GScreen × (List UInt8) × Int) := ((f17 a1 p5).bind fun z4 => (some (z4.1, z4.2.1, z4.2.2)))
theorem f7_j0_ok {d : Nat} (hd : 10 ≤ d) (a1 : GScreen) (a2 : List Int) {r : GScreen × (List UInt8) × Int} {Q : PQ} (hQ : FQ (f7_Q r) Q) (p5 : List GAct) (hS : f7_j0 a1 a2 p5 = some r) {st : St} (he : keepSt [2, 4, 8] [(24, .id 24), (40, .id 40)] [.cell 40 2 0 0 1, .cell 40 30 0 0 1, .cell 40 32 0 0 1] st = f7_j0_J a1 a2 p5) : ZR (lev codes baseL (d - 1)) Q c7_1 [] st := by
 refine zrKeep he ?_
 unfold f7_j0 at hS
 refine zrSeq (zrReg (zL 2 2 ?_))
 refine bindE hS (fun z4 hz4 hS => zO (v := (.tup [(.agg (bm_GScreen z4.1 160 1 161 1 162 1)), (.d (.str z4.2.1)), (dI z4.2.2)])) (ups := [(160, ⟨1, some (go0_GScreen z4.1)⟩), (161, ⟨1, some (go1_GScreen z4.1)⟩), (162, ⟨1, some (go2_GScreen z4.1)⟩)]) (some 19) 3 (.callf 17 [(tm 17), (tm 18)]) (ev_callF (args := [(.agg (bd_GScreen a1)), (dE e_GAct p5)]) (args' := [(.agg (bd_GScreen a1)), (dE e_GAct p5)]) (l := [(.agg (bd_GScreen a1)), (dE e_GAct p5)]) (refs := []) (r := (.tup [(.agg (bw_GScreen z4.1)), (.d (.str z4.2.1)), (dI z4.2.2)])) (v := (.tup [(.agg (bm_GScreen z4.1 160 1 161 1 162 1)), (.d (.str z4.2.1)), (dI z4.2.2)])) (ups' := [(160, ⟨1, some (go0_GScreen z4.1)⟩), (161, ⟨1, some (go1_GScreen z4.1)⟩), (162, ⟨1, some (go2_GScreen z4.1)⟩)]) (by kernel_rfl) (by kernel_rfl) (by kernel_rfl) (fz_cons rfl (fz_cons rfl fz_nil)) (by kernel_rfl) (f17_ok (d - 1) (dpt hd rfl) a1 p5 z4 hz4) (by kernel_rfl) (by kernel_rfl) (by kernel_rfl) (by kernel_rfl)) (zL 6 9 (zE (zkSeq ?_))))
 exact zrRet (zkNil (endQ hS hQ (fR (f7_out z4.1 z4.2.1 z4.2.2))))
def f7 (a1 : GScreen) (a2 : List Int) : Option (GScreen × (List UInt8) × Int) := ((f16 (GParser.mk 0 0 ([]) ([]) ([])) a2).bind fun z3 => (f7_j0 a1 a2 z3.2.1))
theorem f7_ok (d : Nat) (hd : 10 ≤ d) (a1 : GScreen) (a2 : List Int) (r : GScreen × (List UInt8) × Int) (hS : f7 a1 a2 = some r) : lev codes baseL d 7 [(.agg (bd_GScreen a1)), (dL a2)] [] = some ((.tup [(.agg (bw_GScreen r.1)), (.d (.str r.2.1)), (dI r.2.2)]), []) := by
 refine lev_go codes7 rfl rfl (Nat.le_trans (Nat.le_of_ble_eq_true rfl) hd) fun Q hQ => ?_
 unfold f7 at hS
 show ZR _ Q c7_b [] _
 replace hQ : FQ (f7_Q r) Q := hQ
 refine zrSeq (zrReg (zL 4 4 (zE (zkSeq (zrSeq (zrReg (zL 2 2 ?_)))))))
 refine bindE hS (fun z3 hz3 hS => zO (v := (.tup [(.agg ((dI z3.1.State) :: ((dI z3.1.Mark) :: ((.d (.str z3.1.Inter)) :: ((.d (.str z3.1.Args)) :: ((.d (.str z3.1.Text)) :: [])))))), (.r (.msl 112 1 0 z3.2.1.length)), (dI z3.2.2)])) (ups := [(112, ⟨1, some (.own 74 6 (e_GAct.cells z3.2.1))⟩)]) (some 13) 3 (.callf 16 [(tm 11), (tm 12)]) (ev_callF (args := [(.agg ((dI 0) :: ((dI 0) :: ((.d (.str ([]))) :: ((.d (.str ([]))) :: ((.d (.str ([]))) :: [])))))), (dL a2)]) (args' := [(.agg ((dI 0) :: ((dI 0) :: ((.d (.str ([]))) :: ((.d (.str ([]))) :: ((.d (.str ([]))) :: [])))))), (dL a2)]) (l := [(.agg ((dI 0) :: ((dI 0) :: ((.d (.str ([]))) :: ((.d (.str ([]))) :: ((.d (.str ([]))) :: [])))))), (dL a2)]) (refs := []) (r := (.tup [(.agg ((dI z3.1.State) :: ((dI z3.1.Mark) :: ((.d (.str z3.1.Inter)) :: ((.d (.str z3.1.Args)) :: ((.d (.str z3.1.Text)) :: [])))))), (.r (.own 0 74 6 z3.2.1.length (e_GAct.cells z3.2.1))), (dI z3.2.2)])) (v := (.tup [(.agg ((dI z3.1.State) :: ((dI z3.1.Mark) :: ((.d (.str z3.1.Inter)) :: ((.d (.str z3.1.Args)) :: ((.d (.str z3.1.Text)) :: [])))))), (.r (.msl 112 1 0 z3.2.1.length)), (dI z3.2.2)])) (ups' := [(112, ⟨1, some (.own 74 6 (e_GAct.cells z3.2.1))⟩)]) (by kernel_rfl) (by kernel_rfl) (by kernel_rfl) (fz_cons rfl (fz_cons rfl fz_nil)) (by kernel_rfl) (f16_ok (d - 1) (dpt hd rfl) (GParser.mk 0 0 ([]) ([]) ([])) a2 z3 hz3) (by kernel_rfl) (by kernel_rfl) (by kernel_rfl) (by kernel_rfl)) (zL 8 11 (zE (zkSeq ?_))))
 exact f7_j0_ok hd a1 a2 hQ z3.2.1 hS (by exact (by kernel_rfl : _ = (⟨(up (up (up u0 8 (.d (.sl z3.2.1.length (((e_GAct.cells z3.2.1).drop (0 * e_GAct.k)).take (z3.2.1.length * e_GAct.k))))) 4 (pt 40)) 2 (pt 24)), (up (up h0 40 ⟨0, some (.box (bx_GScreen (GScreen.mk (GGrid.mk 0 0 ([])) 0 0 false 0 0 (GPen.mk 0 0 0) 0 (GStops.mk (fun _ => 0)) (0, 0) 0 (GSaved.mk 0 0 (GPen.mk 0 0 0) false (0, 0) 0) (GGrid.mk 0 0 ([])) ([]) ([])) (.d (.sl ([] : List GCell).length (e_GCell.cells ([])))) (.d (.sl ([] : List GCell).length (e_GCell.cells ([])))) (.d (.sl ([] : List GLine).length (e_GLine.cells ([]))))))⟩) 24 ⟨0, some (.box (bd_GScreen a1))⟩)⟩ : St)).trans (by simp only [Enc.frz]; kernel_rfl))
/- farwriter/farref.SameGrid -/
def f18_fin (p3 : Bool) : St := ⟨(up u0 4 (dB p3)), h0⟩
theorem f18_out (p3 : Bool) : outR (f18_fin p3) 0 c18.res = some ((dB p3), []) := by
 kernel_rfl
def f18_Q (r : Bool) (e : PX) (st : St) : Prop := DoneF c18 0 ((dB r), []) e st
def f18 (a1 : GGrid) (a2 : GGrid) : Option (Bool) := (bif (decide (a1.Wide = a2.Wide)) then (bif (decide (a1.High = a2.High)) then ((f10 a1.Cells a2.Cells).bind fun z2 => (some z2)) else (some false)) else (some false))
theorem f18_ok (d : Nat) (hd : 2 ≤ d) (a1 : GGrid) (a2 : GGrid) (r : Bool) (hS : f18 a1 a2 = some r) : lev codes baseL d 18 [(.agg ((dI a1.Wide) :: ((dI a1.High) :: ((dE e_GCell a1.Cells) :: [])))), (.agg ((dI a2.Wide) :: ((dI a2.High) :: ((dE e_GCell a2.Cells) :: []))))] [] = some ((dB r), []) := by
 refine lev_go codes18 rfl rfl (Nat.le_trans (Nat.le_of_ble_eq_true rfl) hd) fun Q hQ => ?_
 unfold f18 at hS
 show ZR _ Q c18_b [] _
 replace hQ : FQ (f18_Q r) Q := hQ
 refine zrSeq (zrReg (zL 3 3 (zE (zkSeq (zrSeq (zrReg (zL 4 4 ?_)))))))
 refine sB 9 5 (.cmpI .eql (tm 6) (tm 8)) hS (fun hS => ?_) (fun hS => ?_)
 ·refine zL 5 10 (sH 15 11 10 true (.cmpI .eql (tm 12) (tm 14)) hS (fun hS => ?_) (fun hS => ?_))
  ·refine zL 6 17 (bindE hS (fun z2 hz2 hS => zG (some 22) 18 17 true (.call 10 [(tm 19), (tm 21)]) (ev_cA (f10_ok (d - 1) (dpt hd rfl) a1.Cells a2.Cells z2 hz2)) (zL 2 20 (zE (zkSeq ?_)))))
   exact zrRet (zkNil (endQ hS hQ (fR (f18_out z2))))
  ·refine zL 9 20 (zE (zkSeq ?_))
   exact zrRet (zkNil (endQ hS hQ (fR (f18_out false))))
 ·refine zL 15 20 (zE (zkSeq ?_))
  exact zrRet (zkNil (endQ hS hQ (fR (f18_out false))))
/- farwriter/farref.SameSight -/
def f8_fin (p5 : Bool) : St := ⟨(up u0 4 (dB p5)), h0⟩
theorem f8_out (p5 : Bool) : outR (f8_fin p5) 0 c8.res = some ((dB p5), []) := by
 kernel_rfl
def f8_Q (r : Bool) (e : PX) (st : St) : Prop := DoneF c8 0 ((dB r), []) e st
def f8 (a1 : GScreen) (a2 : GScreen) : Option (Bool) := ((f18 a1.Grid a2.Grid).bind fun z2 => (bif z2 then (bif (decide (a1.Row = a2.Row)) then (bif (decide (a1.Col = a2.Col)) then (bif (decide (a1.Pen.Flags = a2.Pen.Flags) && (decide (a1.Pen.Fore = a2.Pen.Fore) && (decide (a1.Pen.Back = a2.Pen.Back) && true))) then (some true) else (some false)) else (some false)) else (some false)) else (some false)))
theorem f8_ok (d : Nat) (hd : 3 ≤ d) (a1 : GScreen) (a2 : GScreen) (r : Bool) (hS : f8 a1 a2 = some r) : lev codes baseL d 8 [(.agg (bd_GScreen a1)), (.agg (bd_GScreen a2))] [] = some ((dB r), []) := by
 refine lev_go codes8 rfl rfl (Nat.le_trans (Nat.le_of_ble_eq_true rfl) hd) fun Q hQ => ?_
 unfold f8 at hS
 show ZR _ Q c8_b [] _
 replace hQ : FQ (f8_Q r) Q := hQ
 refine zrSeq (zrReg (zL 3 3 (zE (zkSeq (zrSeq (zrReg (zL 4 4 ?_)))))))
 refine bindE hS (fun z2 hz2 hS => zO (some 9) 5 (.call 18 [(tm 6), (tm 8)]) (ev_cA (f18_ok (d - 1) (dpt hd rfl) a1.Grid a2.Grid z2 hz2)) (zL 1 6 (sL 10 hS (fun hS => ?_) (fun hS => ?_))))
 ·refine zL 4 10 (sH 15 11 10 true (.cmpI .eql (tm 12) (tm 14)) hS (fun hS => ?_) (fun hS => ?_))
  ·refine zL 6 17 (sH 22 18 17 true (.cmpI .eql (tm 19) (tm 21)) hS (fun hS => ?_) (fun hS => ?_))
   ·refine zL 6 24 (sH 29 25 24 true (.eqA .false [(3, .int)] (tm 26) (tm 28)) hS (fun hS => ?_) (fun hS => ?_))
    ·refine zL 2 27 (zE (zkSeq ?_))
     exact zrRet (zkNil (endQ hS hQ (fR (f8_out true))))
    ·refine zL 2 27 (zE (zkSeq ?_))
     exact zrRet (zkNil (endQ hS hQ (fR (f8_out false))))
   ·refine zL 9 27 (zE (zkSeq ?_))
    exact zrRet (zkNil (endQ hS hQ (fR (f8_out false))))
  ·refine zL 16 27 (zE (zkSeq ?_))
   exact zrRet (zkNil (endQ hS hQ (fR (f8_out false))))
 ·refine zL 21 27 (zE (zkSeq ?_))
  exact zrRet (zkNil (endQ hS hQ (fR (f8_out false))))
/- farwriter/farkeep.DrawWay -/
def f4_fin (p17 : Bool) : St := ⟨(up u0 6 (dB p17)), h0⟩
theorem f4_out (p17 : Bool) : outR (f4_fin p17) 0 c4.res = some ((dB p17), []) := by
 kernel_rfl
def f4_Q (r : Bool) (e : PX) (st : St) : Prop := DoneF c4 0 ((dB r), []) e st
def f4_j2_J (a1 : GScreen) (a2 : GScreen) (a3 : GScreen) (p27 : Int) (p28 : List Int) (p29 : Int) (p30 : GScreen) : St := ⟨(up (up (up (up (up (up u0 16 (pt 136)) 15 (dI p29)) 14 (dL p28)) 13 (dI p27)) 5 (pt 48)) 3 (pt 32)), (up (up (gh_GScreen h0 p30 136 464 465 466) 48 ⟨0, some (.box (bd_GScreen a3))⟩) 32 ⟨0, some (.box (bd_GScreen a1))⟩)⟩
def f4_j2 (a1 : GScreen) (a2 : GScreen) (a3 : GScreen) (p27 : Int) (p28 : List Int) (p29 : Int) (p30 : GScreen) : Option (Bool) := ((f7 a1 p28).bind fun z18 => (bif (decide (p27 = p29)) then (bif (!decide (p27 = 0)) then (some true) else ((f8 p30 z18.1).bind fun z19 => (bif z19 then ((f8 z18.1 a3).bind fun z20 => (some z20)) else (some false)))) else (some false)))
theorem f4_j2_ok {d : Nat} (hd : 11 ≤ d) (a1 : GScreen) (a2 : GScreen) (a3 : GScreen) {r : Bool} {Q : PQ} (hQ : FQ (f4_Q r) Q) (p27 : Int) (p28 : List Int) (p29 : Int) (p30 : GScreen) (hS : f4_j2 a1 a2 a3 p27 p28 p29 p30 = some r) {st : St} (he : keepSt [3, 5, 13, 14, 15, 16] [(32, .id 32), (48, .id 48), (136, .id 136), (464, .id 464), (465, .id 465), (466, .id 466)] [] st = f4_j2_J a1 a2 a3 p27 p28 p29 p30) : ZR (lev codes baseL (d - 1)) Q c4_1 [] st := by
 refine zrKeep he ?_
 unfold f4_j2 at hS
 refine zrSeq (zrReg (zL 2 2 ?_))
 refine bindE hS (fun z18 hz18 hS => zO (v := (.tup [(.agg (bm_GScreen z18.1 520 1 521 1 522 1)), (.d (.str z18.2.1)), (dI z18.2.2)])) (ups := [(520, ⟨1, some (go0_GScreen z18.1)⟩), (521, ⟨1, some (go1_GScreen z18.1)⟩), (522, ⟨1, some (go2_GScreen z18.1)⟩)]) (some 64) 3 (.callf 7 [(tm 62), (tm 63)]) (ev_callF (args := [(.agg (bd_GScreen a1)), (dL p28)]) (args' := [(.agg (bd_GScreen a1)), (dL p28)]) (l := [(.agg (bd_GScreen a1)), (dL p28)]) (refs := []) (r := (.tup [(.agg (bw_GScreen z18.1)), (.d (.str z18.2.1)), (dI z18.2.2)])) (v := (.tup [(.agg (bm_GScreen z18.1 520 1 521 1 522 1)), (.d (.str z18.2.1)), (dI z18.2.2)])) (ups' := [(520, ⟨1, some (go0_GScreen z18.1)⟩), (521, ⟨1, some (go1_GScreen z18.1)⟩), (522, ⟨1, some (go2_GScreen z18.1)⟩)]) (by kernel_rfl) (by kernel_rfl) (by kernel_rfl) (fz_cons rfl (fz_cons rfl fz_nil)) (by kernel_rfl) (f7_ok (d - 1) (dpt hd rfl) a1 p28 z18 hz18) (by kernel_rfl) (by kernel_rfl) (by kernel_rfl) (by kernel_rfl)) (zL 8 11 (zE (zkSeq (zrSeq (zrReg (zL 2 2 ?_)))))))
 refine sB 70 3 (.cmpI .eql (tm 68) (tm 69)) hS (fun hS => ?_) (fun hS => ?_)
 ·refine zL 2 5 (sH 73 6 71 true (.cmpI .neq (tm 72) (ki 0)) hS (fun hS => ?_) (fun hS => ?_))
  ·refine zL 12 18 (zE (zkSeq ?_))
   exact zrRet (zkNil (endQ hS hQ (fR (f4_out true))))
  ·refine zL 3 9 (bindE hS (fun z19 hz19 hS => zG (some 77) 10 74 false (.call 8 [(tm 75), (tm 76)]) (ev_callB (args := [(.agg (bm_GScreen p30 464 0 465 0 466 0)), (.agg (bm_GScreen z18.1 520 1 521 1 522 1))]) (by kernel_rfl) (l_cons (l_agg (lk (lk (l_cons (l_own e_GCell (e := 49) (k := 4) (xs := p30.Grid.Cells) (by kernel_rfl) rfl rfl) (lk (lk (lk (lk (lk (lk (lk (lk (lk (l_app (l_row (eInt .u64)) (lk (lk (lk (lk (lk (lk (lk (lk (lk (lk (lk (lk (lk (lk (l_cons (l_own e_GCell (e := 49) (k := 4) (xs := p30.Other.Cells) (by kernel_rfl) rfl rfl) (lk (l_cons (l_own e_GLine (e := 95) (k := 1) (xs := p30.Past) (by kernel_rfl) rfl rfl) l_nil))))))))))))))))))))))))))))))) (l_cons (l_agg (lk (lk (l_cons (l_own e_GCell (e := 49) (k := 4) (xs := z18.1.Grid.Cells) (by kernel_rfl) rfl rfl) (lk (lk (lk (lk (lk (lk (lk (lk (lk (l_app (l_row (eInt .u64)) (lk (lk (lk (lk (lk (lk (lk (lk (lk (lk (lk (lk (lk (lk (l_cons (l_own e_GCell (e := 49) (k := 4) (xs := z18.1.Other.Cells) (by kernel_rfl) rfl rfl) (lk (l_cons (l_own e_GLine (e := 95) (k := 1) (xs := z18.1.Past) (by kernel_rfl) rfl rfl) l_nil))))))))))))))))))))))))))))))) l_nil)) (f8_ok (d - 1) (dpt hd rfl) p30 z18.1 z19 hz19) (by kernel_rfl) (by kernel_rfl)) (zL 1 11 (sL 78 hS (fun hS => ?_) (fun hS => ?_)))))
   ·refine zL 2 13 (bindE hS (fun z20 hz20 hS => zG (some 81) 14 78 true (.call 8 [(tm 79), (tm 80)]) (ev_callB (args := [(.agg (bm_GScreen z18.1 520 1 521 1 522 1)), (.agg (bd_GScreen a3))]) (by kernel_rfl) (l_cons (l_agg (lk (lk (l_cons (l_own e_GCell (e := 49) (k := 4) (xs := z18.1.Grid.Cells) (by kernel_rfl) rfl rfl) (lk (lk (lk (lk (lk (lk (lk (lk (lk (l_app (l_row (eInt .u64)) (lk (lk (lk (lk (lk (lk (lk (lk (lk (lk (lk (lk (lk (lk (l_cons (l_own e_GCell (e := 49) (k := 4) (xs := z18.1.Other.Cells) (by kernel_rfl) rfl rfl) (lk (l_cons (l_own e_GLine (e := 95) (k := 1) (xs := z18.1.Past) (by kernel_rfl) rfl rfl) l_nil))))))))))))))))))))))))))))))) (lk l_nil)) (f8_ok (d - 1) (dpt hd rfl) z18.1 a3 z20 hz20) (by kernel_rfl) (by kernel_rfl)) (zL 4 18 (zE (zkSeq ?_)))))
    exact zrRet (zkNil (endQ hS hQ (fR (f4_out z20))))
   ·refine zL 7 18 (zE (zkSeq ?_))
    exact zrRet (zkNil (endQ hS hQ (fR (f4_out false))))
 ·refine zL 15 18 (zE (zkSeq ?_))
  exact zrRet (zkNil (endQ hS hQ (fR (f4_out false))))
def f4_j1_J (a1 : GScreen) (a2 : GScreen) (a3 : GScreen) (p22 : GScreen) (p23 : List Int) (p24 : Int) (p25 : List Int) (p26 : Int) : St := ⟨(up (up (up (up (up (up (up u0 15 (dI p26)) 14 (.r (.msl 416 0 0 p25.length))) 13 (dI p24)) 12 (dL p23)) 9 (pt 80)) 5 (pt 48)) 3 (pt 32)), (up (up (gh_GScreen (up h0 416 ⟨0, some (.own 3 1 (eI.cells p25))⟩) p22 80 312 313 314) 48 ⟨0, some (.box (bd_GScreen a3))⟩) 32 ⟨0, some (.box (bd_GScreen a1))⟩)⟩
def f4_j1 (a1 : GScreen) (a2 : GScreen) (a3 : GScreen) (p22 : GScreen) (p23 : List Int) (p24 : Int) (p25 : List Int) (p26 : Int) : Option (Bool) := ((f7 p22 p23).bind fun z17 => (f4_j2 a1 a2 a3 p24 p25 p26 z17.1))
theorem f4_j1_ok {d : Nat} (hd : 11 ≤ d) (a1 : GScreen) (a2 : GScreen) (a3 : GScreen) {r : Bool} {Q : PQ} (hQ : FQ (f4_Q r) Q) (p22 : GScreen) (p23 : List Int) (p24 : Int) (p25 : List Int) (p26 : Int) (hS : f4_j1 a1 a2 a3 p22 p23 p24 p25 p26 = some r) {st : St} (he : keepSt [3, 5, 9, 12, 13, 14, 15] [(32, .id 32), (48, .id 48), (80, .id 80), (312, .id 312), (313, .id 313), (314, .id 314), (416, .id 416)] [] st = f4_j1_J a1 a2 a3 p22 p23 p24 p25 p26) : ZR (lev codes baseL (d - 1)) Q c4_2 [] st := by
 refine zrKeep he ?_
 unfold f4_j1 at hS
 refine zrSeq (zrReg (zL 2 2 ?_))
 refine bindE hS (fun z17 hz17 hS => zO (v := (.tup [(.agg (bm_GScreen z17.1 464 1 465 1 466 1)), (.d (.str z17.2.1)), (dI z17.2.2)])) (ups := [(312, ⟨1, none⟩), (313, ⟨1, none⟩), (314, ⟨1, none⟩), (464, ⟨1, some (go0_GScreen z17.1)⟩), (465, ⟨1, some (go1_GScreen z17.1)⟩), (466, ⟨1, some (go2_GScreen z17.1)⟩)]) (some 57) 3 (.callf 7 [(tm 55), (tm 56)]) (ev_callF (args := [(.agg (bm_GScreen p22 312 0 313 0 314 0)), (dL p23)]) (args' := [(.agg (bd_GScreen p22)), (dL p23)]) (l := [(.agg (bd_GScreen p22)), (dL p23)]) (refs := [312, 313, 314]) (r := (.tup [(.agg (bw_GScreen z17.1)), (.d (.str z17.2.1)), (dI z17.2.2)])) (v := (.tup [(.agg (bm_GScreen z17.1 464 1 465 1 466 1)), (.d (.str z17.2.1)), (dI z17.2.2)])) (ups' := [(464, ⟨1, some (go0_GScreen z17.1)⟩), (465, ⟨1, some (go1_GScreen z17.1)⟩), (466, ⟨1, some (go2_GScreen z17.1)⟩)]) (by kernel_rfl) (by kernel_rfl) (by kernel_rfl) (fz_cons (fz_agg (fz_cons (by kernel_rfl) (fz_cons (by kernel_rfl) (fz_cons (fz_own e_GCell (e := 49) (k := 4) (xs := p22.Grid.Cells) (by kernel_rfl) (by kernel_rfl) rfl rfl) (fz_cons (by kernel_rfl) (fz_cons (by kernel_rfl) (fz_cons (by kernel_rfl) (fz_cons (by kernel_rfl) (fz_cons (by kernel_rfl) (fz_cons (by kernel_rfl) (fz_cons (by kernel_rfl) (fz_cons (by kernel_rfl) (fz_cons (by kernel_rfl) (fz_app (fz_row (eInt .u64)) (fz_cons (by kernel_rfl) (fz_cons (by kernel_rfl) (fz_cons (by kernel_rfl) (fz_cons (by kernel_rfl) (fz_cons (by kernel_rfl) (fz_cons (by kernel_rfl) (fz_cons (by kernel_rfl) (fz_cons (by kernel_rfl) (fz_cons (by kernel_rfl) (fz_cons (by kernel_rfl) (fz_cons (by kernel_rfl) (fz_cons (by kernel_rfl) (fz_cons (by kernel_rfl) (fz_cons (by kernel_rfl) (fz_cons (fz_own e_GCell (e := 49) (k := 4) (xs := p22.Other.Cells) (by kernel_rfl) (by kernel_rfl) rfl rfl) (fz_cons (by kernel_rfl) (fz_cons (fz_own e_GLine (e := 95) (k := 1) (xs := p22.Past) (by kernel_rfl) (by kernel_rfl) rfl rfl) fz_nil))))))))))))))))))))))))))))))) (fz_cons rfl fz_nil)) (by kernel_rfl) (f7_ok (d - 1) (dpt hd rfl) p22 p23 z17 hz17) (by kernel_rfl) (by kernel_rfl) (by kernel_rfl) (by kernel_rfl)) (zL 8 11 (zE (zkSeq ?_))))
 exact f4_j2_ok hd a1 a2 a3 hQ p24 p25 p26 z17.1 hS (by exact (by kernel_rfl : _ = (⟨(up (up (up (up (up (up u0 16 (pt 136)) 15 (dI p26)) 14 (.d (.sl p25.length (((eI.cells p25).drop (0 * eI.k)).take (p25.length * eI.k))))) 13 (dI p24)) 5 (pt 48)) 3 (pt 32)), (up (up (gh_GScreen h0 z17.1 136 464 465 466) 48 ⟨0, some (.box (bd_GScreen a3))⟩) 32 ⟨0, some (.box (bd_GScreen a1))⟩)⟩ : St)).trans (by simp only [Enc.frz]; kernel_rfl))
def f4_j0_J (a1 : GScreen) (a2 : GScreen) (a3 : GScreen) (p21 : List Int) : St := ⟨(up (up (up u0 7 (.r (.msl 208 0 0 p21.length))) 5 (pt 48)) 3 (pt 32)), (up (up (up h0 208 ⟨0, some (.own 3 1 (eI.cells p21))⟩) 48 ⟨0, some (.box (bd_GScreen a3))⟩) 32 ⟨0, some (.box (bd_GScreen a1))⟩)⟩
def f4_j0 (a1 : GScreen) (a2 : GScreen) (a3 : GScreen) (p21 : List Int) : Option (Bool) := ((f7 a1 p21).bind fun z14 => ((f5 z14.1 a3).bind fun z15 => ((f5 a1 a3).bind fun z16 => (f4_j1 a1 a2 a3 z14.1 z15.1 z15.2 z16.1 z16.2))))
theorem f4_j0_ok {d : Nat} (hd : 11 ≤ d) (a1 : GScreen) (a2 : GScreen) (a3 : GScreen) {r : Bool} {Q : PQ} (hQ : FQ (f4_Q r) Q) (p21 : List Int) (hS : f4_j0 a1 a2 a3 p21 = some r) {st : St} (he : keepSt [3, 5, 7] [(32, .id 32), (48, .id 48), (208, .id 208)] [] st = f4_j0_J a1 a2 a3 p21) : ZR (lev codes baseL (d - 1)) Q c4_3 [] st := by
 refine zrKeep he ?_
 unfold f4_j0 at hS
 refine zrSeq (zrReg (zL 2 2 ?_))
 refine bindE hS (fun z14 hz14 hS => zO (v := (.tup [(.agg (bm_GScreen z14.1 312 1 313 1 314 1)), (.d (.str z14.2.1)), (dI z14.2.2)])) (ups := [(208, ⟨1, none⟩), (312, ⟨1, some (go0_GScreen z14.1)⟩), (313, ⟨1, some (go1_GScreen z14.1)⟩), (314, ⟨1, some (go2_GScreen z14.1)⟩)]) (some 38) 3 (.callf 7 [(tm 36), (tm 37)]) (ev_callF (args := [(.agg (bd_GScreen a1)), (.r (.msl 208 0 0 p21.length))]) (args' := [(.agg (bd_GScreen a1)), (dL p21)]) (l := [(.agg (bd_GScreen a1)), (dL p21)]) (refs := [208]) (r := (.tup [(.agg (bw_GScreen z14.1)), (.d (.str z14.2.1)), (dI z14.2.2)])) (v := (.tup [(.agg (bm_GScreen z14.1 312 1 313 1 314 1)), (.d (.str z14.2.1)), (dI z14.2.2)])) (ups' := [(312, ⟨1, some (go0_GScreen z14.1)⟩), (313, ⟨1, some (go1_GScreen z14.1)⟩), (314, ⟨1, some (go2_GScreen z14.1)⟩)]) (by kernel_rfl) (by kernel_rfl) (by kernel_rfl) (fz_cons rfl (fz_cons (fz_own eI (e := 3) (k := 1) (xs := p21) (by kernel_rfl) (by kernel_rfl) rfl rfl) fz_nil)) (by kernel_rfl) (f7_ok (d - 1) (dpt hd rfl) a1 p21 z14 hz14) (by kernel_rfl) (by kernel_rfl) (by kernel_rfl) (by kernel_rfl)) (zL 8 11 (zE (zkSeq (zrSeq (zrReg (zL 2 2 ?_)))))))
 refine bindE hS (fun z15 hz15 hS => zO (some 45) 3 (.call 5 [(tm 43), (tm 44)]) (ev_callB (args := [(.agg (bm_GScreen z14.1 312 1 313 1 314 1)), (.agg (bd_GScreen a3))]) (by kernel_rfl) (l_cons (l_agg (lk (lk (l_cons (l_own e_GCell (e := 49) (k := 4) (xs := z14.1.Grid.Cells) (by kernel_rfl) rfl rfl) (lk (lk (lk (lk (lk (lk (lk (lk (lk (l_app (l_row (eInt .u64)) (lk (lk (lk (lk (lk (lk (lk (lk (lk (lk (lk (lk (lk (lk (l_cons (l_own e_GCell (e := 49) (k := 4) (xs := z14.1.Other.Cells) (by kernel_rfl) rfl rfl) (lk (l_cons (l_own e_GLine (e := 95) (k := 1) (xs := z14.1.Past) (by kernel_rfl) rfl rfl) l_nil))))))))))))))))))))))))))))))) (lk l_nil)) (f5_ok (d - 1) (dpt hd rfl) z14.1 a3 z15 hz15) (by simp only [free_own eI (fun _ => rfl), free_tup, free_agg, free_nl, free_cs, free_int, free_bool, free_str, free_un, free_ni, free_s0, Bool.and_true, Bool.or_true, Bool.and_self]) (by kernel_rfl)) (zL 5 8 (zE (zkSeq (zrSeq (zrReg (zL 2 2 ?_)))))))
 refine bindE hS (fun z16 hz16 hS => zO (some 51) 3 (.call 5 [(tm 49), (tm 50)]) (ev_cA (f5_ok (d - 1) (dpt hd rfl) a1 a3 z16 hz16)) (zL 5 8 (zE (zkSeq ?_))))
 exact f4_j1_ok hd a1 a2 a3 hQ z14.1 z15.1 z15.2 z16.1 z16.2 hS (by exact (by kernel_rfl : _ = (⟨(up (up (up (up (up (up (up u0 15 (dI z16.2)) 14 (.r (.msl 416 0 0 z16.1.length))) 13 (dI z15.2)) 12 (.d (.sl z15.1.length (((eI.cells z15.1).drop (0 * eI.k)).take (z15.1.length * eI.k))))) 9 (pt 80)) 5 (pt 48)) 3 (pt 32)), (up (up (gh_GScreen (up h0 416 ⟨0, some (.own 3 1 (eI.cells z16.1))⟩) z14.1 80 312 313 314) 48 ⟨0, some (.box (bd_GScreen a3))⟩) 32 ⟨0, some (.box (bd_GScreen a1))⟩)⟩ : St)).trans (by simp only [Enc.frz]; kernel_rfl))
def f4 (a1 : GScreen) (a2 : GScreen) (a3 : GScreen) : Option (Bool) := ((f5 a1 a2).bind fun z11 => (libLives.bind fun z21 => (bif (!z21) then (libLives.bind fun z22 => (some z22)) else (bif (!decide (z11.2 = 0)) then (libLives.bind fun z23 => (some z23)) else (f4_j0 a1 a2 a3 z11.1)))))
theorem f4_ok (d : Nat) (hd : 11 ≤ d) (a1 : GScreen) (a2 : GScreen) (a3 : GScreen) (r : Bool) (hS : f4 a1 a2 a3 = some r) : lev codes baseL d 4 [(.agg (bd_GScreen a1)), (.agg (bd_GScreen a2)), (.agg (bd_GScreen a3))] [] = some ((dB r), []) := by
 refine lev_go codes4 rfl rfl (Nat.le_trans (Nat.le_of_ble_eq_true rfl) hd) fun Q hQ => ?_
 unfold f4 at hS
 show ZR _ Q c4_b [] _
 replace hQ : FQ (f4_Q r) Q := hQ
 refine zrSeq (zrReg (zL 4 4 (zE (zkSeq (zrSeq (zrReg (zL 2 2 ?_)))))))
 refine bindE hS (fun z11 hz11 hS => zO (some 25) 3 (.call 5 [(tm 23), (tm 24)]) (ev_cA (f5_ok (d - 1) (dpt hd rfl) a1 a2 z11 hz11)) (zL 5 8 (zE (zkSeq (zrSeq (zrSeq (zrReg ?_)))))))
 refine bindE hS (fun z21 hz21 hS => zO (some 28) 1 (.call 6 []) (ev_cA (libLives_ok (d - 1) (dpt hd rfl)  z21 hz21)) (zL 2 3 (sL 30 hS (fun hS => ?_) (fun hS => ?_))))
 ·refine zL 3 6 (zE (zkSeq (zT (zrSeq (zrReg ?_)))))
  refine bindE hS (fun z22 hz22 hS => zO (some 34) 1 (.call 6 []) (ev_cA (libLives_ok (d - 1) (dpt hd rfl)  z22 hz22)) (zL 1 2 (zE (zkSeq ?_))))
  exact zrRet (zkSeqR (zkNil (endQ hS hQ (fR (f4_out z22)))))
 ·refine zL 1 4 (sH 32 5 30 false (.cmpI .neq (tm 31) (ki 0)) hS (fun hS => ?_) (fun hS => ?_))
  ·refine zL 1 6 (zE (zkSeq (zT (zrSeq (zrReg ?_)))))
   refine bindE hS (fun z23 hz23 hS => zO (some 34) 1 (.call 6 []) (ev_cA (libLives_ok (d - 1) (dpt hd rfl)  z23 hz23)) (zL 1 2 (zE (zkSeq ?_))))
   exact zrRet (zkSeqR (zkNil (endQ hS hQ (fR (f4_out z23)))))
  ·refine zL 1 6 (zE (zkSeq (zF ?_)))
   exact zrSkip (zkSeq (f4_j0_ok hd a1 a2 a3 hQ z11.1 hS (by kernel_rfl)))
end
end Go.Proofs.YtbokpgemkkebnaaGreatDoor.Pm
