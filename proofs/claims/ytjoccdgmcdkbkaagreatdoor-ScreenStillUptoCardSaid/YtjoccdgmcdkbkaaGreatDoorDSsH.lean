/- Typed functions, and that the codes are these. Printed by dec.py. -/
import Derived.Test.YtjoccdgmcdkbkaaGreatDoorDSsG
namespace Go.Proofs.YtjoccdgmcdkbkaaGreatDoor.Pm
set_option maxRecDepth 1000000
set_option maxHeartbeats 20000000
set_option linter.unusedVariables false
/- farwriter/screen.Run -/
def f14_fin (p26 : GScreen) (p27 : List UInt8) (p28 : Int) : St := ⟨(up (up (up u0 6 (dI p28)) 5 (.d (.str p27))) 4 (pt 40)), (gh_GScreen h0 p26 40 420 421 422)⟩
theorem f14_out (p26 : GScreen) (p27 : List UInt8) (p28 : Int) : outR (f14_fin p26 p27 p28) 0 c14.res = some ((.tup [(.agg (bw_GScreen p26)), (.d (.str p27)), (dI p28)]), []) := by
  exact out_of (ids := []) (ids' := [420, 421, 422]) (l := [(.agg (bm_GScreen p26 420 0 421 0 422 0)), (.d (.str p27)), (dI p28)]) (by kernel_rfl) (by kernel_rfl) (o_tup (o_cons (o_agg (o_cons rfl (o_cons rfl (o_cons (o_own e_GCell (e := 58) (k := 4) (xs := p26.Grid.Cells) (by kernel_rfl) rfl rfl rfl rfl) (o_cons rfl (o_cons rfl (o_cons rfl (o_cons rfl (o_cons rfl (o_cons rfl (o_cons rfl (o_cons rfl (o_cons rfl (o_app (o_row (eInt .u64)) (o_cons rfl (o_cons rfl (o_cons rfl (o_cons rfl (o_cons rfl (o_cons rfl (o_cons rfl (o_cons rfl (o_cons rfl (o_cons rfl (o_cons rfl (o_cons rfl (o_cons rfl (o_cons rfl (o_cons (o_own e_GCell (e := 58) (k := 4) (xs := p26.Other.Cells) (by kernel_rfl) rfl rfl rfl rfl) (o_cons rfl (o_cons (o_own e_GLine (e := 87) (k := 1) (xs := p26.Past) (by kernel_rfl) rfl rfl rfl rfl) o_nil))))))))))))))))))))))))))))))) (o_cons rfl (o_cons rfl o_nil))))
def f14_Q (r : GScreen × (List UInt8) × Int) (e : PX) (st : St) : Prop := DoneF c14 0 ((.tup [(.agg (bw_GScreen r.1)), (.d (.str r.2.1)), (dI r.2.2)]), []) e st
def f14_j2_J (a1 : GScreen) (a2 : List GAct) (p47 : Gterminal) : St := ⟨(up (up u0 9 (pt 240)) 4 (pt 40)), (up (gh_Gterminal h0 p47 240 224 225 226) 40 ⟨0, some (.box (bx_GScreen (GScreen.mk (GGrid.mk 0 0 ([])) 0 0 false 0 0 (GPen.mk 0 0 0) 0 (GStops.mk (fun _ => 0)) (0, 0) 0 (GSaved.mk 0 0 (GPen.mk 0 0 0) false (0, 0) 0) (GGrid.mk 0 0 ([])) ([]) ([])) (.d (.sl ([] : List GCell).length (e_GCell.cells ([])))) (.d (.sl ([] : List GCell).length (e_GCell.cells ([])))) (.d (.sl ([] : List GLine).length (e_GLine.cells ([]))))))⟩)⟩
noncomputable def f14_j2 (a1 : GScreen) (a2 : List GAct) (p47 : Gterminal) : Option (GScreen × (List UInt8) × Int) := (some (p47.Screen, p47.sent, 0))
theorem f14_j2_ok {d : Nat} (hd : 9 ≤ d) (a1 : GScreen) (a2 : List GAct) {r : GScreen × (List UInt8) × Int} {Q : PX → St → Prop} (hQ : ∀ e st', f14_Q r e st' → Q e st') (p47 : Gterminal) (hS : f14_j2 a1 a2 p47 = some r) {st : St} (he : keepSt [4, 9] [(40, .id 40), (240, .id 240), (224, .id 224), (225, .id 225), (226, .id 226)] [] st = f14_j2_J a1 a2 p47) : ZR (lev codes baseL (d - 1)) Q c14_1 [] st := by
  refine zrKeep he ?_
  unfold f14_j2 at hS
  refine zrSeq ?_
  refine zrRegD ?_
  refine zdRun (n := 11) (j := 11) (ts := [[], [], [], [(240, false)], [], [], [], [(240, false)], [(40, true)], [], []]) (acc' := [[], [], [], [(240, false)], [], [], [], [(240, false)], [(40, true)], [], []]) rfl (by kernel_rfl) (by kernel_rfl) (by kernel_rfl) ?_
  refine zdEnd (by kernel_rfl) (by kernel_rfl) ?_
  refine zkSeq ?_
  refine zrRet ?_
  refine zkNil ?_
  exact endQ hS hQ (fR (f14_out p47.Screen p47.sent 0))
def f14_l3_J (a1 : GScreen) (a2 : List GAct) (x : Gterminal × Int) : St := ⟨(up (up (up (up (up u0 32 (dI x.2)) 31 (dI (a2.length : Int))) 30 (.d (.sl a2.length (e_GAct.cells a2)))) 9 (pt 240)) 4 (pt 40)), (up (gh_Gterminal h0 x.1 240 224 225 226) 40 ⟨0, some (.box (bx_GScreen (GScreen.mk (GGrid.mk 0 0 ([])) 0 0 false 0 0 (GPen.mk 0 0 0) 0 (GStops.mk (fun _ => 0)) (0, 0) 0 (GSaved.mk 0 0 (GPen.mk 0 0 0) false (0, 0) 0) (GGrid.mk 0 0 ([])) ([]) ([])) (.d (.sl ([] : List GCell).length (e_GCell.cells ([])))) (.d (.sl ([] : List GCell).length (e_GCell.cells ([])))) (.d (.sl ([] : List GLine).length (e_GLine.cells ([]))))))⟩)⟩
def f14_l3_H (a1 : GScreen) (a2 : List GAct) (x : Gterminal × Int) (st : St) : Prop := keepSt [4, 9, 30, 31, 32] [(40, .id 40), (240, .id 240), (224, .id 224), (225, .id 225), (226, .id 226)] [] st = f14_l3_J a1 a2 x
def f14_l3_e0_J (a1 : GScreen) (a2 : List GAct) (p46 : Gterminal) : St := ⟨(up (up u0 9 (pt 240)) 4 (pt 40)), (up (gh_Gterminal h0 p46 240 224 225 226) 40 ⟨0, some (.box (bx_GScreen (GScreen.mk (GGrid.mk 0 0 ([])) 0 0 false 0 0 (GPen.mk 0 0 0) 0 (GStops.mk (fun _ => 0)) (0, 0) 0 (GSaved.mk 0 0 (GPen.mk 0 0 0) false (0, 0) 0) (GGrid.mk 0 0 ([])) ([]) ([])) (.d (.sl ([] : List GCell).length (e_GCell.cells ([])))) (.d (.sl ([] : List GCell).length (e_GCell.cells ([])))) (.d (.sl ([] : List GLine).length (e_GLine.cells ([]))))))⟩)⟩
def f14_l3_X (a1 : GScreen) (a2 : List GAct) (z : Gterminal) (e : PX) (st : St) : Prop := e = .exit 0 ∧ st = f14_l3_e0_J a1 a2 z
def f14_l3_j5_J (a1 : GScreen) (a2 : List GAct) (p54 : Gterminal) (p55 : Int) : St := ⟨(up (up (up (up (up u0 32 (dI p55)) 31 (dI (a2.length : Int))) 30 (.d (.sl a2.length (e_GAct.cells a2)))) 9 (pt 240)) 4 (pt 40)), (up (gh_Gterminal h0 p54 240 224 225 226) 40 ⟨0, some (.box (bx_GScreen (GScreen.mk (GGrid.mk 0 0 ([])) 0 0 false 0 0 (GPen.mk 0 0 0) 0 (GStops.mk (fun _ => 0)) (0, 0) 0 (GSaved.mk 0 0 (GPen.mk 0 0 0) false (0, 0) 0) (GGrid.mk 0 0 ([])) ([]) ([])) (.d (.sl ([] : List GCell).length (e_GCell.cells ([])))) (.d (.sl ([] : List GCell).length (e_GCell.cells ([])))) (.d (.sl ([] : List GLine).length (e_GLine.cells ([]))))))⟩)⟩
noncomputable def f14_l3_j5 (a1 : GScreen) (a2 : List GAct) (p54 : Gterminal) (p55 : Int) : Option ((Gterminal × Int) ⊕ Gterminal) := ((idx a2 p55).bind fun z23 => ((f38 z23 p54).bind fun z24 => (some (.inl (z24, (IntKind.i64.wrap (p55 + 1)))))))
theorem f14_l3_j5_ok {d : Nat} (hd : 9 ≤ d) (a1 : GScreen) (a2 : List GAct) {r : (Gterminal × Int) ⊕ Gterminal} {Q : PX → St → Prop} (hQ : ∀ e st', finL (f14_l3_H a1 a2) (f14_l3_X a1 a2) r e st' → Q e st') (p54 : Gterminal) (p55 : Int) (hS : f14_l3_j5 a1 a2 p54 p55 = some r) {st : St} (he : keepSt [4, 9, 30, 31, 32] [(40, .id 40), (240, .id 240), (224, .id 224), (225, .id 225), (226, .id 226)] [] st = f14_l3_j5_J a1 a2 p54 p55) : ZR (lev codes baseL (d - 1)) Q c14_2 [] st := by
  refine zrKeep he ?_
  unfold f14_l3_j5 at hS
  refine zrSeq ?_
  refine zrBlk ?_
  refine zrSeq (zrReg ?_)
  refine bindE hS (fun z23 hz23 hS => ?_)
  refine zO (v := (.rptr (e_GAct.enc z23 ++ (e_GAct.cells (a2.drop ((p55 : Int).toNat + 1)))))) (ups := []) (some 34) 1 (.ixS 45 6 (tm 30) (tm 32)) (ev_ixS e_GAct (kk := .i64) (xs := a2) (j := p55) (by kernel_rfl) (by kernel_rfl) hz23 rfl (by intro h; cases h)) ?_
  refine zL 3 4 (zE (zkSeq (zrReg (zL 2 2 ?_))))
  refine bindE hS (fun z24 hz24 hS => ?_)
  refine zO (some 38) 3 (.callr 38 [(tm 36), (tm 37)]) (ev_callrA (ids := [240, 224, 225, 226]) (by kernel_rfl) (by kernel_rfl) (by kernel_rfl) (f38_ok (d - 1) (dpt hd rfl) z23 p54 z24 hz24) (by kernel_rfl)) ?_
  refine zE ?_
  refine zkBlk ?_
  refine zkSeq (zrReg (zL 2 2 (zE ?_)))
  refine zkNil ?_
  exact endQ hS hQ (finL_n (by show keepSt _ _ _ _ = _; kernel_rfl))
def f14_l3_j4_J (a1 : GScreen) (a2 : List GAct) (p51 : Gterminal) (p52 : Int) (p53 : Bool) : St := ⟨(up (up (up (up (up (up u0 33 (dB p53)) 32 (dI p52)) 31 (dI (a2.length : Int))) 30 (.d (.sl a2.length (e_GAct.cells a2)))) 9 (pt 240)) 4 (pt 40)), (up (gh_Gterminal h0 p51 240 224 225 226) 40 ⟨0, some (.box (bx_GScreen (GScreen.mk (GGrid.mk 0 0 ([])) 0 0 false 0 0 (GPen.mk 0 0 0) 0 (GStops.mk (fun _ => 0)) (0, 0) 0 (GSaved.mk 0 0 (GPen.mk 0 0 0) false (0, 0) 0) (GGrid.mk 0 0 ([])) ([]) ([])) (.d (.sl ([] : List GCell).length (e_GCell.cells ([])))) (.d (.sl ([] : List GCell).length (e_GCell.cells ([])))) (.d (.sl ([] : List GLine).length (e_GLine.cells ([]))))))⟩)⟩
noncomputable def f14_l3_j4 (a1 : GScreen) (a2 : List GAct) (p51 : Gterminal) (p52 : Int) (p53 : Bool) : Option ((Gterminal × Int) ⊕ Gterminal) := (bif p53 then (f14_l3_j5 a1 a2 p51 p52) else (some (.inr p51)))
theorem f14_l3_j4_ok {d : Nat} (hd : 9 ≤ d) (a1 : GScreen) (a2 : List GAct) {r : (Gterminal × Int) ⊕ Gterminal} {Q : PX → St → Prop} (hQ : ∀ e st', finL (f14_l3_H a1 a2) (f14_l3_X a1 a2) r e st' → Q e st') (p51 : Gterminal) (p52 : Int) (p53 : Bool) (hS : f14_l3_j4 a1 a2 p51 p52 p53 = some r) {st : St} (he : keepSt [4, 9, 30, 31, 32, 33] [(40, .id 40), (240, .id 240), (224, .id 224), (225, .id 225), (226, .id 226)] [] st = f14_l3_j4_J a1 a2 p51 p52 p53) : ZR (lev codes baseL (d - 1)) Q c14_3 [] st := by
  refine zrKeep he ?_
  unfold f14_l3_j4 at hS
  refine zrSeq ?_
  refine zrSplit 33 p53 (by kernel_rfl) (fun hc => ?_) (fun hc => ?_)
  · replace hS := cond_t hc hS
    refine zT ?_
    refine zrSkip ?_
    refine zkSeq ?_
    exact f14_l3_j5_ok hd a1 a2 hQ p51 p52 hS (by kernel_rfl)
  · replace hS := cond_f hc hS
    refine zF ?_
    refine zrKeep (J := f14_l3_e0_J a1 a2 p51) (by kernel_rfl) ?_
    refine zrExit ?_
    refine zkSeqX ?_
    refine zkNil ?_
    exact endQ hS hQ (finL_x (by intro h; cases h) (by show _ = _ ∧ _ = _; exact ⟨rfl, rfl⟩))
noncomputable def f14_l3 (a1 : GScreen) (a2 : List GAct) (x : Gterminal × Int) : Option ((Gterminal × Int) ⊕ Gterminal) := (bif (decide (x.2 < (a2.length : Int))) then (f14_l3_j4 a1 a2 x.1 x.2 true) else (f14_l3_j4 a1 a2 x.1 x.2 false))
theorem f14_l3_ok {d : Nat} (hd : 9 ≤ d) (a1 : GScreen) (a2 : List GAct) {r : (Gterminal × Int) ⊕ Gterminal} {Q : PX → St → Prop} (hQ : ∀ e st', finL (f14_l3_H a1 a2) (f14_l3_X a1 a2) r e st' → Q e st') {x : Gterminal × Int} (hS : f14_l3 a1 a2 x = some r) {st : St} (he : f14_l3_H a1 a2 x st) : ZR (lev codes baseL (d - 1)) Q c14_4 [] st := by
  refine zrKeep he ?_
  unfold f14_l3 at hS
  refine zrSeq (zrReg ?_)
  refine zB 33 1 (.cmpI .lss (tm 32) (tm 31)) (decide (x.2 < (a2.length : Int))) (fun hc => ?_) (fun hc => ?_)
  · replace hS := cond_t hc hS
    refine zE (zkSeq ?_)
    exact f14_l3_j4_ok hd a1 a2 hQ x.1 x.2 true hS (by kernel_rfl)
  · replace hS := cond_f hc hS
    refine zE (zkSeq ?_)
    exact f14_l3_j4_ok hd a1 a2 hQ x.1 x.2 false hS (by kernel_rfl)
def f14_j1_J (a1 : GScreen) (a2 : List GAct) : St := ⟨(up (up (up u0 4 (pt 40)) 2 (pt 24)) 1 (.d (.sl a2.length (e_GAct.cells a2)))), (up (up h0 40 ⟨0, some (.box (bx_GScreen (GScreen.mk (GGrid.mk 0 0 ([])) 0 0 false 0 0 (GPen.mk 0 0 0) 0 (GStops.mk (fun _ => 0)) (0, 0) 0 (GSaved.mk 0 0 (GPen.mk 0 0 0) false (0, 0) 0) (GGrid.mk 0 0 ([])) ([]) ([])) (.d (.sl ([] : List GCell).length (e_GCell.cells ([])))) (.d (.sl ([] : List GCell).length (e_GCell.cells ([])))) (.d (.sl ([] : List GLine).length (e_GLine.cells ([]))))))⟩) 24 ⟨0, some (.box (bd_GScreen a1))⟩)⟩
noncomputable def f14_j1 (a1 : GScreen) (a2 : List GAct) : Option (GScreen × (List UInt8) × Int) := ((f36 a1).bind fun z16 => ((loopO (f14_l3 a1 a2) ((Gterminal.mk z16 ([])), 0)).bind fun z25 => (f14_j2 a1 a2 z25)))
theorem f14_j1_ok {d : Nat} (hd : 9 ≤ d) (a1 : GScreen) (a2 : List GAct) {r : GScreen × (List UInt8) × Int} {Q : PX → St → Prop} (hQ : ∀ e st', f14_Q r e st' → Q e st')  (hS : f14_j1 a1 a2 = some r) {st : St} (he : keepSt [1, 2, 4] [(24, .id 24), (40, .id 40)] [] st = f14_j1_J a1 a2) : ZR (lev codes baseL (d - 1)) Q c14_5 [] st := by
  refine zrKeep he ?_
  unfold f14_j1 at hS
  refine zrSeq (zrReg (zL 1 1 ?_))
  refine bindE hS (fun z16 hz16 hS => ?_)
  refine zO (v := (.agg (bm_GScreen z16 224 1 225 1 226 1))) (ups := [(224, ⟨1, some (go0_GScreen z16)⟩), (225, ⟨1, some (go1_GScreen z16)⟩), (226, ⟨1, some (go2_GScreen z16)⟩)]) (some 27) 2 (.callf 36 [(tm 26)]) (ev_callF (args := [(.agg (bd_GScreen a1))]) (args' := [(.agg (bd_GScreen a1))]) (l := [(.agg (bd_GScreen a1))]) (refs := []) (r := (.agg (bw_GScreen z16))) (v := (.agg (bm_GScreen z16 224 1 225 1 226 1))) (ups' := [(224, ⟨1, some (go0_GScreen z16)⟩), (225, ⟨1, some (go1_GScreen z16)⟩), (226, ⟨1, some (go2_GScreen z16)⟩)]) (by kernel_rfl) (by kernel_rfl) (by kernel_rfl) (fz_cons rfl fz_nil) (by kernel_rfl) (f36_ok (d - 1) (dpt hd rfl) a1 z16 hz16) (by kernel_rfl) (by kernel_rfl) (by kernel_rfl) (by kernel_rfl)) ?_
  refine zL 3 5 (zE (zkSeq (zrSeq (zrSeq (zrReg (zL 3 3 (zE (zkSeq ?_))))))))
  refine zrBlk ?_
  refine bindE hS (fun z25 hz25 hS => ?_)
  refine zrLoop (f14_l3_H a1 a2) (f14_l3_X a1 a2) (fun x st r Q h0 hS hQ => f14_l3_ok hd a1 a2 hQ hS h0) (x := ((Gterminal.mk z16 ([])), 0)) (z := z25) (by show keepSt _ _ _ _ = _; kernel_rfl) hz25 ?_
  intro e st' _ hX
  obtain ⟨rfl, rfl⟩ : _ ∧ _ := hX
  refine zkBlkX ?_
  refine zkSeq ?_
  exact f14_j2_ok hd a1 a2 hQ z25 hS (by kernel_rfl)
def f14_j0_J (a1 : GScreen) (a2 : List GAct) : St := ⟨(up (up (up u0 4 (pt 40)) 2 (pt 24)) 1 (.d (.sl a2.length (e_GAct.cells a2)))), (up (up h0 40 ⟨0, some (.box (bx_GScreen (GScreen.mk (GGrid.mk 0 0 ([])) 0 0 false 0 0 (GPen.mk 0 0 0) 0 (GStops.mk (fun _ => 0)) (0, 0) 0 (GSaved.mk 0 0 (GPen.mk 0 0 0) false (0, 0) 0) (GGrid.mk 0 0 ([])) ([]) ([])) (.d (.sl ([] : List GCell).length (e_GCell.cells ([])))) (.d (.sl ([] : List GCell).length (e_GCell.cells ([])))) (.d (.sl ([] : List GLine).length (e_GLine.cells ([]))))))⟩) 24 ⟨0, some (.box (bd_GScreen a1))⟩)⟩
noncomputable def f14_j0 (a1 : GScreen) (a2 : List GAct) : Option (GScreen × (List UInt8) × Int) := ((f37 a2).bind fun z26 => (bif (!decide (z26 = 0)) then ((f36 a1).bind fun z27 => (some (z27, [], z26))) else (f14_j1 a1 a2 )))
theorem f14_j0_ok {d : Nat} (hd : 9 ≤ d) (a1 : GScreen) (a2 : List GAct) {r : GScreen × (List UInt8) × Int} {Q : PX → St → Prop} (hQ : ∀ e st', f14_Q r e st' → Q e st')  (hS : f14_j0 a1 a2 = some r) {st : St} (he : keepSt [1, 2, 4] [(24, .id 24), (40, .id 40)] [.cell 40 2 0 0 1, .cell 40 30 0 0 1, .cell 40 32 0 0 1] st = f14_j0_J a1 a2) : ZR (lev codes baseL (d - 1)) Q c14_6 [] st := by
  refine zrKeep he ?_
  unfold f14_j0 at hS
  refine zrSeq (zrSeq (zrReg (zL 1 1 ?_)))
  refine bindE hS (fun z26 hz26 hS => ?_)
  refine zO (some 20) 2 (.call 37 [(tm 19)]) (ev_callA (by kernel_rfl) (f37_ok (d - 1) (dpt hd rfl) a2 z26 hz26) (by kernel_rfl) (by kernel_rfl)) ?_
  refine zL 1 3 (zE (zkSeq (zrSeq (zrReg (zL 1 1 ?_)))))
  refine zB 22 2 (.cmpI .neq (tm 21) (ki 0)) (!decide (z26 = 0)) (fun hc => ?_) (fun hc => ?_)
  · replace hS := cond_t hc hS
    refine zE (zkSeq (zT (zrSeq (zrReg (zL 1 1 ?_)))))
    refine bindE hS (fun z27 hz27 hS => ?_)
    refine zO (v := (.agg (bm_GScreen z27 200 1 201 1 202 1))) (ups := [(200, ⟨1, some (go0_GScreen z27)⟩), (201, ⟨1, some (go1_GScreen z27)⟩), (202, ⟨1, some (go2_GScreen z27)⟩)]) (some 24) 2 (.callf 36 [(tm 23)]) (ev_callF (args := [(.agg (bd_GScreen a1))]) (args' := [(.agg (bd_GScreen a1))]) (l := [(.agg (bd_GScreen a1))]) (refs := []) (r := (.agg (bw_GScreen z27))) (v := (.agg (bm_GScreen z27 200 1 201 1 202 1))) (ups' := [(200, ⟨1, some (go0_GScreen z27)⟩), (201, ⟨1, some (go1_GScreen z27)⟩), (202, ⟨1, some (go2_GScreen z27)⟩)]) (by kernel_rfl) (by kernel_rfl) (by kernel_rfl) (fz_cons rfl fz_nil) (by kernel_rfl) (f36_ok (d - 1) (dpt hd rfl) a1 z27 hz27) (by kernel_rfl) (by kernel_rfl) (by kernel_rfl) (by kernel_rfl)) ?_
    refine zL 4 6 (zE (zkSeq ?_))
    refine zrRet ?_
    refine zkSeqR ?_
    refine zkNil ?_
    exact endQ hS hQ (fR (f14_out z27 [] z26))
  · replace hS := cond_f hc hS
    refine zE (zkSeq (zF ?_))
    refine zrSkip ?_
    refine zkSeq ?_
    exact f14_j1_ok hd a1 a2 hQ  hS (by kernel_rfl)
noncomputable def f14 (a1 : GScreen) (a2 : List GAct) : Option (GScreen × (List UInt8) × Int) := ((f28 a1).bind fun z28 => (bif (!decide (z28 = 0)) then ((f36 a1).bind fun z29 => (some (z29, [], z28))) else (f14_j0 a1 a2 )))
theorem f14_ok (d : Nat) (hd : 9 ≤ d) (a1 : GScreen) (a2 : List GAct) (r : GScreen × (List UInt8) × Int) (hS : f14 a1 a2 = some r) : lev codes baseL d 14 [(.agg (bd_GScreen a1)), (.d (.sl a2.length (e_GAct.cells a2)))] [] = some ((.tup [(.agg (bw_GScreen r.1)), (.d (.str r.2.1)), (dI r.2.2)]), []) := by
  refine lev_go codes14 rfl rfl (Nat.le_trans (Nat.le_of_ble_eq_true rfl) hd) fun Q hQ => ?_
  unfold f14 at hS
  show ZR _ Q c14_b [] _
  replace hQ : ∀ e st', f14_Q r e st' → Q e st' := hQ
  refine zrSeq (zrReg (zL 4 4 (zE (zkSeq (zrSeq (zrSeq (zrReg (zL 1 1 ?_))))))))
  refine bindE hS (fun z28 hz28 hS => ?_)
  refine zO (some 13) 2 (.call 28 [(tm 12)]) (ev_callA (by kernel_rfl) (f28_ok (d - 1) (dpt hd rfl) a1 z28 hz28) (by kernel_rfl) (by kernel_rfl)) ?_
  refine zL 1 3 (zE (zkSeq (zrSeq (zrReg (zL 1 1 ?_)))))
  refine zB 15 2 (.cmpI .neq (tm 14) (ki 0)) (!decide (z28 = 0)) (fun hc => ?_) (fun hc => ?_)
  · replace hS := cond_t hc hS
    refine zE (zkSeq (zT (zrSeq (zrReg (zL 1 1 ?_)))))
    refine bindE hS (fun z29 hz29 hS => ?_)
    refine zO (v := (.agg (bm_GScreen z29 144 1 145 1 146 1))) (ups := [(144, ⟨1, some (go0_GScreen z29)⟩), (145, ⟨1, some (go1_GScreen z29)⟩), (146, ⟨1, some (go2_GScreen z29)⟩)]) (some 17) 2 (.callf 36 [(tm 16)]) (ev_callF (args := [(.agg (bd_GScreen a1))]) (args' := [(.agg (bd_GScreen a1))]) (l := [(.agg (bd_GScreen a1))]) (refs := []) (r := (.agg (bw_GScreen z29))) (v := (.agg (bm_GScreen z29 144 1 145 1 146 1))) (ups' := [(144, ⟨1, some (go0_GScreen z29)⟩), (145, ⟨1, some (go1_GScreen z29)⟩), (146, ⟨1, some (go2_GScreen z29)⟩)]) (by kernel_rfl) (by kernel_rfl) (by kernel_rfl) (fz_cons rfl fz_nil) (by kernel_rfl) (f36_ok (d - 1) (dpt hd rfl) a1 z29 hz29) (by kernel_rfl) (by kernel_rfl) (by kernel_rfl) (by kernel_rfl)) ?_
    refine zL 4 6 (zE (zkSeq ?_))
    refine zrRet ?_
    refine zkSeqR ?_
    refine zkNil ?_
    exact endQ hS hQ (fR (f14_out z29 [] z28))
  · replace hS := cond_f hc hS
    refine zE (zkSeq (zF ?_))
    refine zrSkip ?_
    refine zkSeq ?_
    exact f14_j0_ok hd a1 a2 hQ  hS (by kernel_rfl)
/- farwriter/farkeep.screenLives -/
theorem libLives_ok (d : Nat) (hd : 0 ≤ d)  (r : Bool) (hS : libLives  = some r) : lev codes baseL d 15 [] [] = some ((dB r), []) := lib_call (l := libs) rfl rfl rfl (livesO_ hS) d
/- farwriter/farkeep.ScreenStill$1 -/
def f21_fin (p2 : Bool) : St := ⟨(up u0 2 (dB p2)), h0⟩
theorem f21_out (p2 : Bool) : outR (f21_fin p2) 0 c21.res = some ((dB p2), []) := by
  kernel_rfl
def f21_Q (r : Bool) (e : PX) (st : St) : Prop := DoneF c21 0 ((dB r), []) e st
noncomputable def f21 (a1 : GAct) : Option (Bool) := (bif (decide (a1.Code = 117)) then (some true) else (some false))
theorem f21_ok (d : Nat) (hd : 1 ≤ d) (a1 : GAct) (r : Bool) (hS : f21 a1 = some r) : lev codes baseL d 21 [(.agg ((dI a1.Kind) :: ((dI a1.Code) :: ((dI a1.Mark) :: ((.d (.str a1.Inter)) :: ((.d (.sl a1.Args.length ((eInt .i64).cells a1.Args))) :: ((.d (.str a1.Text)) :: [])))))))] [] = some ((dB r), []) := by
  refine lev_go codes21 rfl rfl (Nat.le_trans (Nat.le_of_ble_eq_true rfl) hd) fun Q hQ => ?_
  unfold f21 at hS
  show ZR _ Q c21_b [] _
  replace hQ : ∀ e st', f21_Q r e st' → Q e st' := hQ
  refine zrSeq (zrReg (zL 2 2 (zE (zkSeq (zrSeq (zrReg (zL 2 2 ?_)))))))
  refine zB 5 3 (.cmpI .eql (tm 4) (ki 117)) (decide (a1.Code = 117)) (fun hc => ?_) (fun hc => ?_)
  · replace hS := cond_t hc hS
    refine zL 1 4 (zE (zkSeq ?_))
    refine zrRet ?_
    refine zkNil ?_
    exact endQ hS hQ (fR (f21_out true))
  · replace hS := cond_f hc hS
    refine zL 1 4 (zE (zkSeq ?_))
    refine zrRet ?_
    refine zkNil ?_
    exact endQ hS hQ (fR (f21_out false))
/- slices.IndexFunc[[]farwriter/api.Act,farwriter/api.Act] -/
def f40_fin (p8 : Int) : St := ⟨(up u0 4 (dI p8)), h0⟩
theorem f40_out (p8 : Int) : outR (f40_fin p8) 0 c40.res = some ((dI p8), []) := by
  kernel_rfl
def f40_Q (r : Int) (e : PX) (st : St) : Prop := DoneF c40 0 ((dI r), []) e st
def f40_l0_J (a1 : List GAct) (x : Int) : St := ⟨(up (up (up (up u0 8 (dI x)) 7 (dI (a1.length : Int))) 1 (.fn 21 [])) 0 (.d (.sl a1.length (e_GAct.cells a1)))), h0⟩
def f40_l0_H (a1 : List GAct) (x : Int) (st : St) : Prop := keepSt [0, 1, 7, 8] [] [] st = f40_l0_J a1 x
def f40_l0_e0_J (a1 : List GAct) : St := ⟨u0, h0⟩
def f40_l0_X (a1 : List GAct) (z : Unit ⊕ Int) (e : PX) (st : St) : Prop := (match z with | .inl z => e = .exit 0 ∧ st = f40_l0_e0_J a1 | .inr z => e = .ret ∧ finSt c40.fin st = f40_fin z)
def f40_l0_j2_J (a1 : List GAct) (p13 : Int) : St := ⟨(up (up (up (up u0 8 (dI p13)) 7 (dI (a1.length : Int))) 1 (.fn 21 [])) 0 (.d (.sl a1.length (e_GAct.cells a1)))), h0⟩
noncomputable def f40_l0_j2 (a1 : List GAct) (p13 : Int) : Option (Int ⊕ (Unit ⊕ Int)) := ((idx a1 p13).bind fun z7 => ((f21 z7).bind fun z8 => (bif z8 then (some (.inr (.inr p13))) else (some (.inl (IntKind.i64.wrap (p13 + 1)))))))
theorem f40_l0_j2_ok {d : Nat} (hd : 2 ≤ d) (a1 : List GAct) {r : Int ⊕ (Unit ⊕ Int)} {Q : PX → St → Prop} (hQ : ∀ e st', finL (f40_l0_H a1) (f40_l0_X a1) r e st' → Q e st') (p13 : Int) (hS : f40_l0_j2 a1 p13 = some r) {st : St} (he : keepSt [0, 1, 7, 8] [] [] st = f40_l0_j2_J a1 p13) : ZR (lev codes baseL (d - 1)) Q c40_1 [] st := by
  refine zrKeep he ?_
  unfold f40_l0_j2 at hS
  refine zrSeq ?_
  refine zrBlk ?_
  refine zrSeq (zrReg (zL 2 2 (zE (zkSeq (zrSeq (zrReg (zL 3 3 ?_)))))))
  refine bindE hS (fun z7 hz7 hS => ?_)
  refine zO (v := (.rptr (e_GAct.enc z7 ++ (e_GAct.cells (a1.drop ((p13 : Int).toNat + 1)))))) (ups := []) (some 14) 4 (.ixS 45 6 (tm 12) (tm 13)) (ev_ixS e_GAct (kk := .i64) (xs := a1) (j := p13) (by kernel_rfl) (by kernel_rfl) hz7 rfl (by intro h; cases h)) ?_
  refine zL 1 5 ?_
  refine bindE hS (fun z8 hz8 hS => ?_)
  refine zO (v := (dB z8)) (ups := []) (some 16) 6 (.callv (tm 11) [(tm 15)]) (ev_callv (f := 21) (cs := []) (by kernel_rfl) (args := [(.agg ((dI z7.Kind) :: ((dI z7.Code) :: ((dI z7.Mark) :: ((.d (.str z7.Inter)) :: ((.d (.sl z7.Args.length ((eInt .i64).cells z7.Args))) :: ((.d (.str z7.Text)) :: [])))))))]) (l := [(.agg ((dI z7.Kind) :: ((dI z7.Code) :: ((dI z7.Mark) :: ((.d (.str z7.Inter)) :: ((.d (.sl z7.Args.length ((eInt .i64).cells z7.Args))) :: ((.d (.str z7.Text)) :: [])))))))]) (r := (dB z8)) (by kernel_rfl) (by kernel_rfl) (f21_ok (d - 1) (dpt hd rfl) z7 z8 hz8) (by kernel_rfl) (by kernel_rfl) (by kernel_rfl)) ?_
  refine zE (zkSeq ?_)
  refine zrSplit 16 z8 (by kernel_rfl) (fun hc => ?_) (fun hc => ?_)
  · replace hS := cond_t hc hS
    refine zT (zrSeq (zrReg (zL 2 2 (zE (zkSeq ?_)))))
    refine zrRet ?_
    refine zkBlkR ?_
    refine zkSeqR ?_
    refine zkNil ?_
    exact endQ hS hQ (finL_x (by intro h; cases h) (by show _ = _ ∧ _ = _; exact ⟨rfl, by kernel_rfl⟩))
  · replace hS := cond_f hc hS
    refine zF ?_
    refine zrSkip ?_
    refine zkBlk ?_
    refine zkSeq (zrReg (zL 2 2 (zE ?_)))
    refine zkNil ?_
    exact endQ hS hQ (finL_n (by show keepSt _ _ _ _ = _; kernel_rfl))
def f40_l0_j1_J (a1 : List GAct) (p11 : Int) (p12 : Bool) : St := ⟨(up (up (up (up (up u0 9 (dB p12)) 8 (dI p11)) 7 (dI (a1.length : Int))) 1 (.fn 21 [])) 0 (.d (.sl a1.length (e_GAct.cells a1)))), h0⟩
noncomputable def f40_l0_j1 (a1 : List GAct) (p11 : Int) (p12 : Bool) : Option (Int ⊕ (Unit ⊕ Int)) := (bif p12 then (f40_l0_j2 a1 p11) else (some (.inr (.inl ()))))
theorem f40_l0_j1_ok {d : Nat} (hd : 2 ≤ d) (a1 : List GAct) {r : Int ⊕ (Unit ⊕ Int)} {Q : PX → St → Prop} (hQ : ∀ e st', finL (f40_l0_H a1) (f40_l0_X a1) r e st' → Q e st') (p11 : Int) (p12 : Bool) (hS : f40_l0_j1 a1 p11 p12 = some r) {st : St} (he : keepSt [0, 1, 7, 8, 9] [] [] st = f40_l0_j1_J a1 p11 p12) : ZR (lev codes baseL (d - 1)) Q c40_2 [] st := by
  refine zrKeep he ?_
  unfold f40_l0_j1 at hS
  refine zrSeq ?_
  refine zrSplit 9 p12 (by kernel_rfl) (fun hc => ?_) (fun hc => ?_)
  · replace hS := cond_t hc hS
    refine zT ?_
    refine zrSkip ?_
    refine zkSeq ?_
    exact f40_l0_j2_ok hd a1 hQ p11 hS (by kernel_rfl)
  · replace hS := cond_f hc hS
    refine zF ?_
    refine zrKeep (J := f40_l0_e0_J a1) (by kernel_rfl) ?_
    refine zrExit ?_
    refine zkSeqX ?_
    refine zkNil ?_
    exact endQ hS hQ (finL_x (by intro h; cases h) (by show _ = _ ∧ _ = _; exact ⟨rfl, rfl⟩))
noncomputable def f40_l0 (a1 : List GAct) (x : Int) : Option (Int ⊕ (Unit ⊕ Int)) := (bif (decide (x < (a1.length : Int))) then (f40_l0_j1 a1 x true) else (f40_l0_j1 a1 x false))
theorem f40_l0_ok {d : Nat} (hd : 2 ≤ d) (a1 : List GAct) {r : Int ⊕ (Unit ⊕ Int)} {Q : PX → St → Prop} (hQ : ∀ e st', finL (f40_l0_H a1) (f40_l0_X a1) r e st' → Q e st') {x : Int} (hS : f40_l0 a1 x = some r) {st : St} (he : f40_l0_H a1 x st) : ZR (lev codes baseL (d - 1)) Q c40_3 [] st := by
  refine zrKeep he ?_
  unfold f40_l0 at hS
  refine zrSeq (zrReg ?_)
  refine zB 9 1 (.cmpI .lss (tm 8) (tm 7)) (decide (x < (a1.length : Int))) (fun hc => ?_) (fun hc => ?_)
  · replace hS := cond_t hc hS
    refine zE (zkSeq ?_)
    exact f40_l0_j1_ok hd a1 hQ x true hS (by kernel_rfl)
  · replace hS := cond_f hc hS
    refine zE (zkSeq ?_)
    exact f40_l0_j1_ok hd a1 hQ x false hS (by kernel_rfl)
noncomputable def f40 (a1 : List GAct) : Option (Int) := ((loopO (f40_l0 a1) 0).bind fun z9 => (Sum.elim (fun z10 => (some (-1))) (fun z11 => (some z11)) z9))
theorem f40_ok (d : Nat) (hd : 2 ≤ d) (a1 : List GAct) (r : Int) (hS : f40 a1 = some r) : lev codes baseL d 40 [(.d (.sl a1.length (e_GAct.cells a1))), (.fn 21 [])] [] = some ((dI r), []) := by
  refine lev_go codes40 rfl rfl (Nat.le_trans (Nat.le_of_ble_eq_true rfl) hd) fun Q hQ => ?_
  unfold f40 at hS
  show ZR _ Q c40_b [] _
  replace hQ : ∀ e st', f40_Q r e st' → Q e st' := hQ
  refine zrSeq (zrReg (zL 1 1 (zE (zkSeq (zrSeq (zrSeq (zrReg (zL 3 3 (zE (zkSeq ?_))))))))))
  refine zrBlk ?_
  refine bindE hS (fun z9 hz9 hS => ?_)
  refine zrLoop (f40_l0_H a1) (f40_l0_X a1) (fun x st r Q h0 hS hQ => f40_l0_ok hd a1 hQ hS h0) (x := 0) (z := z9) (by show keepSt _ _ _ _ = _; kernel_rfl) hz9 ?_
  rcases z9 with z10 | z11
  · replace hS := (show _ = _ from hS)
    simp only [Sum.elim_inl] at hS
    intro e st' _ hX
    obtain ⟨rfl, rfl⟩ : _ ∧ _ := hX
    refine zkBlkX ?_
    refine zkSeq (zrSeq (zrReg (zL 1 1 (zE (zkSeq ?_)))))
    refine zrRet ?_
    refine zkNil ?_
    exact endQ hS hQ (fR (f40_out (-1)))
  · simp only [Sum.elim_inr] at hS
    intro e st' _ hX
    obtain ⟨rfl, hX⟩ : _ ∧ _ := hX
    refine zkBlkR ?_
    refine zkSeqR ?_
    refine zkNil ?_
    exact endQ hS hQ (fRet (by kernel_rfl) ((congrArg (fun s => outR s 0 c40.res) hX).trans (f40_out z11)))
/- slices.ContainsFunc[[]farwriter/api.Act,farwriter/api.Act] -/
def f20_fin (p2 : Bool) : St := ⟨(up u0 4 (dB p2)), h0⟩
theorem f20_out (p2 : Bool) : outR (f20_fin p2) 0 c20.res = some ((dB p2), []) := by
  kernel_rfl
def f20_Q (r : Bool) (e : PX) (st : St) : Prop := DoneF c20 0 ((dB r), []) e st
noncomputable def f20 (a1 : List GAct) : Option (Bool) := ((f40 a1).bind fun z2 => (bif (decide (0 ≤ z2)) then (some true) else (some false)))
theorem f20_ok (d : Nat) (hd : 3 ≤ d) (a1 : List GAct) (r : Bool) (hS : f20 a1 = some r) : lev codes baseL d 20 [(.d (.sl a1.length (e_GAct.cells a1))), (.fn 21 [])] [] = some ((dB r), []) := by
  refine lev_go codes20 rfl rfl (Nat.le_trans (Nat.le_of_ble_eq_true rfl) hd) fun Q hQ => ?_
  unfold f20 at hS
  show ZR _ Q c20_b [] _
  replace hQ : ∀ e st', f20_Q r e st' → Q e st' := hQ
  refine zrSeq (zrReg (zL 1 1 (zE (zkSeq (zrSeq (zrReg (zL 2 2 ?_)))))))
  refine bindE hS (fun z2 hz2 hS => ?_)
  refine zO (some 7) 3 (.call 40 [(tm 5), (tm 6)]) (ev_callA (by kernel_rfl) (f40_ok (d - 1) (dpt hd rfl) a1 z2 hz2) (by kernel_rfl) (by kernel_rfl)) ?_
  refine zB 8 4 (.cmpI .geq (tm 7) (ki 0)) (decide (0 ≤ z2)) (fun hc => ?_) (fun hc => ?_)
  · replace hS := cond_t hc hS
    refine zL 1 5 (zE (zkSeq ?_))
    refine zrRet ?_
    refine zkNil ?_
    exact endQ hS hQ (fR (f20_out true))
  · replace hS := cond_f hc hS
    refine zL 1 5 (zE (zkSeq ?_))
    refine zrRet ?_
    refine zkNil ?_
    exact endQ hS hQ (fR (f20_out false))
/- slices.Equal[[]farwriter/api.Cell,farwriter/api.Cell] -/
def f41_fin (p14 : Bool) : St := ⟨(up u0 4 (dB p14)), h0⟩
theorem f41_out (p14 : Bool) : outR (f41_fin p14) 0 c41.res = some ((dB p14), []) := by
  kernel_rfl
def f41_Q (r : Bool) (e : PX) (st : St) : Prop := DoneF c41 0 ((dB r), []) e st
def f41_l1_J (a1 : List GCell) (a2 : List GCell) (x : Int) : St := ⟨(up (up (up (up u0 13 (dI x)) 12 (dI (a1.length : Int))) 1 (.d (.sl a2.length (e_GCell.cells a2)))) 0 (.d (.sl a1.length (e_GCell.cells a1)))), h0⟩
def f41_l1_H (a1 : List GCell) (a2 : List GCell) (x : Int) (st : St) : Prop := keepSt [0, 1, 12, 13] [] [] st = f41_l1_J a1 a2 x
def f41_l1_e0_J (a1 : List GCell) (a2 : List GCell) : St := ⟨u0, h0⟩
def f41_l1_X (a1 : List GCell) (a2 : List GCell) (z : Unit ⊕ Bool) (e : PX) (st : St) : Prop := (match z with | .inl z => e = .exit 0 ∧ st = f41_l1_e0_J a1 a2 | .inr z => e = .ret ∧ finSt c41.fin st = f41_fin z)
def f41_l1_j3_J (a1 : List GCell) (a2 : List GCell) (p20 : Int) : St := ⟨(up (up (up (up u0 13 (dI p20)) 12 (dI (a1.length : Int))) 1 (.d (.sl a2.length (e_GCell.cells a2)))) 0 (.d (.sl a1.length (e_GCell.cells a1)))), h0⟩
noncomputable def f41_l1_j3 (a1 : List GCell) (a2 : List GCell) (p20 : Int) : Option (Int ⊕ (Unit ⊕ Bool)) := ((idx a1 p20).bind fun z7 => ((idx a2 p20).bind fun z8 => (bif (!(decide (z7.Rune = z8.Rune) && (decide (z7.Pen.Flags = z8.Pen.Flags) && (decide (z7.Pen.Fore = z8.Pen.Fore) && (decide (z7.Pen.Back = z8.Pen.Back) && true))))) then (some (.inr (.inr false))) else (some (.inl (IntKind.i64.wrap (p20 + 1)))))))
theorem f41_l1_j3_ok {d : Nat} (hd : 1 ≤ d) (a1 : List GCell) (a2 : List GCell) {r : Int ⊕ (Unit ⊕ Bool)} {Q : PX → St → Prop} (hQ : ∀ e st', finL (f41_l1_H a1 a2) (f41_l1_X a1 a2) r e st' → Q e st') (p20 : Int) (hS : f41_l1_j3 a1 a2 p20 = some r) {st : St} (he : keepSt [0, 1, 12, 13] [] [] st = f41_l1_j3_J a1 a2 p20) : ZR (lev codes baseL (d - 1)) Q c41_1 [] st := by
  refine zrKeep he ?_
  unfold f41_l1_j3 at hS
  refine zrSeq ?_
  refine zrBlk ?_
  refine zrSeq (zrReg (zL 2 2 (zE (zkSeq (zrSeq ?_)))))
  refine zrRegD ?_
  refine zdRun (n := 2) (j := 2) (ts := [[], []]) (acc' := [[], []]) rfl (by kernel_rfl) (by kernel_rfl) (by kernel_rfl) ?_
  refine bindE hS (fun z7 hz7 hS => ?_)
  refine zdOp (d := some 18) (op := (.ixS 58 4 (tm 16) (tm 17))) (g := none) (v := (.rptr (e_GCell.enc z7 ++ (e_GCell.cells (a1.drop ((p20 : Int).toNat + 1)))))) (ups := []) (j := 3) (t1 := []) (acc' := [[], [], []]) (by kernel_rfl) (by kernel_rfl) rfl (by kernel_rfl) (by kernel_rfl) (ev_ixS e_GCell (kk := .i64) (xs := a1) (j := p20) (by kernel_rfl) (by kernel_rfl) hz7 rfl (by intro h; cases h)) ?_
  refine zdRun (n := 3) (j := 6) (ts := [[], [], []]) (acc' := [[], [], [], [], [], []]) rfl (by kernel_rfl) (by kernel_rfl) (by kernel_rfl) ?_
  refine bindE hS (fun z8 hz8 hS => ?_)
  refine zdOp (d := some 22) (op := (.ixS 58 4 (tm 20) (tm 21))) (g := none) (v := (.rptr (e_GCell.enc z8 ++ (e_GCell.cells (a2.drop ((p20 : Int).toNat + 1)))))) (ups := []) (j := 7) (t1 := []) (acc' := [[], [], [], [], [], [], []]) (by kernel_rfl) (by kernel_rfl) rfl (by kernel_rfl) (by kernel_rfl) (ev_ixS e_GCell (kk := .i64) (xs := a2) (j := p20) (by kernel_rfl) (by kernel_rfl) hz8 rfl (by intro h; cases h)) ?_
  refine zdRun (n := 1) (j := 8) (ts := [[]]) (acc' := [[], [], [], [], [], [], [], []]) rfl (by kernel_rfl) (by kernel_rfl) (by kernel_rfl) ?_
  refine zdBool (d := 24) (op := (.eqA .true [(4, .int)] (tm 19) (tm 23))) (g := none) (j := 9) (t1 := []) (acc' := [[], [], [], [], [], [], [], [], []]) (!(decide (z7.Rune = z8.Rune) && (decide (z7.Pen.Flags = z8.Pen.Flags) && (decide (z7.Pen.Fore = z8.Pen.Fore) && (decide (z7.Pen.Back = z8.Pen.Back) && true))))) (by kernel_rfl) (by kernel_rfl) rfl (by kernel_rfl) (by kernel_rfl) (by kernel_rfl) (fun hc => ?_) (fun hc => ?_)
  · replace hS := cond_t hc hS
    refine zdEnd (by kernel_rfl) (by kernel_rfl) ?_
    refine zkSeq (zT (zrSeq (zrReg (zL 1 1 (zE (zkSeq ?_))))))
    refine zrRet ?_
    refine zkBlkR ?_
    refine zkSeqR ?_
    refine zkNil ?_
    exact endQ hS hQ (finL_x (by intro h; cases h) (by show _ = _ ∧ _ = _; exact ⟨rfl, by kernel_rfl⟩))
  · replace hS := cond_f hc hS
    refine zdEnd (by kernel_rfl) (by kernel_rfl) ?_
    refine zkSeq (zF ?_)
    refine zrSkip ?_
    refine zkBlk ?_
    refine zkSeq (zrReg (zL 2 2 (zE ?_)))
    refine zkNil ?_
    exact endQ hS hQ (finL_n (by show keepSt _ _ _ _ = _; kernel_rfl))
def f41_l1_j2_J (a1 : List GCell) (a2 : List GCell) (p18 : Int) (p19 : Bool) : St := ⟨(up (up (up (up (up u0 14 (dB p19)) 13 (dI p18)) 12 (dI (a1.length : Int))) 1 (.d (.sl a2.length (e_GCell.cells a2)))) 0 (.d (.sl a1.length (e_GCell.cells a1)))), h0⟩
noncomputable def f41_l1_j2 (a1 : List GCell) (a2 : List GCell) (p18 : Int) (p19 : Bool) : Option (Int ⊕ (Unit ⊕ Bool)) := (bif p19 then (f41_l1_j3 a1 a2 p18) else (some (.inr (.inl ()))))
theorem f41_l1_j2_ok {d : Nat} (hd : 1 ≤ d) (a1 : List GCell) (a2 : List GCell) {r : Int ⊕ (Unit ⊕ Bool)} {Q : PX → St → Prop} (hQ : ∀ e st', finL (f41_l1_H a1 a2) (f41_l1_X a1 a2) r e st' → Q e st') (p18 : Int) (p19 : Bool) (hS : f41_l1_j2 a1 a2 p18 p19 = some r) {st : St} (he : keepSt [0, 1, 12, 13, 14] [] [] st = f41_l1_j2_J a1 a2 p18 p19) : ZR (lev codes baseL (d - 1)) Q c41_2 [] st := by
  refine zrKeep he ?_
  unfold f41_l1_j2 at hS
  refine zrSeq ?_
  refine zrSplit 14 p19 (by kernel_rfl) (fun hc => ?_) (fun hc => ?_)
  · replace hS := cond_t hc hS
    refine zT ?_
    refine zrSkip ?_
    refine zkSeq ?_
    exact f41_l1_j3_ok hd a1 a2 hQ p18 hS (by kernel_rfl)
  · replace hS := cond_f hc hS
    refine zF ?_
    refine zrKeep (J := f41_l1_e0_J a1 a2) (by kernel_rfl) ?_
    refine zrExit ?_
    refine zkSeqX ?_
    refine zkNil ?_
    exact endQ hS hQ (finL_x (by intro h; cases h) (by show _ = _ ∧ _ = _; exact ⟨rfl, rfl⟩))
noncomputable def f41_l1 (a1 : List GCell) (a2 : List GCell) (x : Int) : Option (Int ⊕ (Unit ⊕ Bool)) := (bif (decide (x < (a1.length : Int))) then (f41_l1_j2 a1 a2 x true) else (f41_l1_j2 a1 a2 x false))
theorem f41_l1_ok {d : Nat} (hd : 1 ≤ d) (a1 : List GCell) (a2 : List GCell) {r : Int ⊕ (Unit ⊕ Bool)} {Q : PX → St → Prop} (hQ : ∀ e st', finL (f41_l1_H a1 a2) (f41_l1_X a1 a2) r e st' → Q e st') {x : Int} (hS : f41_l1 a1 a2 x = some r) {st : St} (he : f41_l1_H a1 a2 x st) : ZR (lev codes baseL (d - 1)) Q c41_3 [] st := by
  refine zrKeep he ?_
  unfold f41_l1 at hS
  refine zrSeq (zrReg ?_)
  refine zB 14 1 (.cmpI .lss (tm 13) (tm 12)) (decide (x < (a1.length : Int))) (fun hc => ?_) (fun hc => ?_)
  · replace hS := cond_t hc hS
    refine zE (zkSeq ?_)
    exact f41_l1_j2_ok hd a1 a2 hQ x true hS (by kernel_rfl)
  · replace hS := cond_f hc hS
    refine zE (zkSeq ?_)
    exact f41_l1_j2_ok hd a1 a2 hQ x false hS (by kernel_rfl)
def f41_j0_J (a1 : List GCell) (a2 : List GCell) : St := ⟨(up (up u0 1 (.d (.sl a2.length (e_GCell.cells a2)))) 0 (.d (.sl a1.length (e_GCell.cells a1)))), h0⟩
noncomputable def f41_j0 (a1 : List GCell) (a2 : List GCell) : Option (Bool) := ((loopO (f41_l1 a1 a2) 0).bind fun z9 => (Sum.elim (fun z10 => (some true)) (fun z11 => (some z11)) z9))
theorem f41_j0_ok {d : Nat} (hd : 1 ≤ d) (a1 : List GCell) (a2 : List GCell) {r : Bool} {Q : PX → St → Prop} (hQ : ∀ e st', f41_Q r e st' → Q e st')  (hS : f41_j0 a1 a2 = some r) {st : St} (he : keepSt [0, 1] [] [] st = f41_j0_J a1 a2) : ZR (lev codes baseL (d - 1)) Q c41_4 [] st := by
  refine zrKeep he ?_
  unfold f41_j0 at hS
  refine zrSeq (zrSeq (zrReg (zL 3 3 (zE (zkSeq ?_)))))
  refine zrBlk ?_
  refine bindE hS (fun z9 hz9 hS => ?_)
  refine zrLoop (f41_l1_H a1 a2) (f41_l1_X a1 a2) (fun x st r Q h0 hS hQ => f41_l1_ok hd a1 a2 hQ hS h0) (x := 0) (z := z9) (by show keepSt _ _ _ _ = _; kernel_rfl) hz9 ?_
  rcases z9 with z10 | z11
  · replace hS := (show _ = _ from hS)
    simp only [Sum.elim_inl] at hS
    intro e st' _ hX
    obtain ⟨rfl, rfl⟩ : _ ∧ _ := hX
    refine zkBlkX ?_
    refine zkSeq (zrSeq (zrReg (zL 1 1 (zE (zkSeq ?_)))))
    refine zrRet ?_
    refine zkNil ?_
    exact endQ hS hQ (fR (f41_out true))
  · simp only [Sum.elim_inr] at hS
    intro e st' _ hX
    obtain ⟨rfl, hX⟩ : _ ∧ _ := hX
    refine zkBlkR ?_
    refine zkSeqR ?_
    refine zkNil ?_
    exact endQ hS hQ (fRet (by kernel_rfl) ((congrArg (fun s => outR s 0 c41.res) hX).trans (f41_out z11)))
noncomputable def f41 (a1 : List GCell) (a2 : List GCell) : Option (Bool) := (bif (!decide ((a1.length : Int) = (a2.length : Int))) then (some false) else (f41_j0 a1 a2 ))
theorem f41_ok (d : Nat) (hd : 1 ≤ d) (a1 : List GCell) (a2 : List GCell) (r : Bool) (hS : f41 a1 a2 = some r) : lev codes baseL d 41 [(.d (.sl a1.length (e_GCell.cells a1))), (.d (.sl a2.length (e_GCell.cells a2)))] [] = some ((dB r), []) := by
  refine lev_go codes41 rfl rfl (Nat.le_trans (Nat.le_of_ble_eq_true rfl) hd) fun Q hQ => ?_
  unfold f41 at hS
  show ZR _ Q c41_b [] _
  replace hQ : ∀ e st', f41_Q r e st' → Q e st' := hQ
  refine zrSeq (zrReg (zL 1 1 (zE (zkSeq (zrSeq (zrSeq (zrReg (zL 4 4 ?_))))))))
  refine zB 10 5 (.cmpI .neq (tm 7) (tm 9)) (!decide ((a1.length : Int) = (a2.length : Int))) (fun hc => ?_) (fun hc => ?_)
  · replace hS := cond_t hc hS
    refine zE (zkSeq (zT (zrSeq (zrReg (zL 1 1 (zE (zkSeq ?_)))))))
    refine zrRet ?_
    refine zkSeqR ?_
    refine zkNil ?_
    exact endQ hS hQ (fR (f41_out false))
  · replace hS := cond_f hc hS
    refine zE (zkSeq (zF ?_))
    refine zrSkip ?_
    refine zkSeq ?_
    exact f41_j0_ok hd a1 a2 hQ  hS (by kernel_rfl)
/- farwriter/farref.SameGrid -/
def f22_fin (p3 : Bool) : St := ⟨(up u0 4 (dB p3)), h0⟩
theorem f22_out (p3 : Bool) : outR (f22_fin p3) 0 c22.res = some ((dB p3), []) := by
  kernel_rfl
def f22_Q (r : Bool) (e : PX) (st : St) : Prop := DoneF c22 0 ((dB r), []) e st
noncomputable def f22 (a1 : GGrid) (a2 : GGrid) : Option (Bool) := (bif (decide (a1.Wide = a2.Wide)) then (bif (decide (a1.High = a2.High)) then ((f41 a1.Cells a2.Cells).bind fun z2 => (some z2)) else (some false)) else (some false))
theorem f22_ok (d : Nat) (hd : 2 ≤ d) (a1 : GGrid) (a2 : GGrid) (r : Bool) (hS : f22 a1 a2 = some r) : lev codes baseL d 22 [(.agg ((dI a1.Wide) :: ((dI a1.High) :: ((.d (.sl a1.Cells.length (e_GCell.cells a1.Cells))) :: [])))), (.agg ((dI a2.Wide) :: ((dI a2.High) :: ((.d (.sl a2.Cells.length (e_GCell.cells a2.Cells))) :: []))))] [] = some ((dB r), []) := by
  refine lev_go codes22 rfl rfl (Nat.le_trans (Nat.le_of_ble_eq_true rfl) hd) fun Q hQ => ?_
  unfold f22 at hS
  show ZR _ Q c22_b [] _
  replace hQ : ∀ e st', f22_Q r e st' → Q e st' := hQ
  refine zrSeq (zrReg (zL 3 3 (zE (zkSeq (zrSeq (zrReg (zL 4 4 ?_)))))))
  refine zB 9 5 (.cmpI .eql (tm 6) (tm 8)) (decide (a1.Wide = a2.Wide)) (fun hc => ?_) (fun hc => ?_)
  · replace hS := cond_t hc hS
    refine zL 5 10 ?_
    refine zlBool (d := 15) (op := (.cmpI .eql (tm 12) (tm 14))) (g := (some (10, true))) (j := 11) (decide (a1.High = a2.High)) rfl (by kernel_rfl) (by kernel_rfl) (by kernel_rfl) (fun hc => ?_) (fun hc => ?_)
    · replace hS := cond_t hc hS
      refine zL 6 17 ?_
      refine bindE hS (fun z2 hz2 hS => ?_)
      refine zlOp (d := some 22) (op := (.call 41 [(tm 19), (tm 21)])) (g := (some (17, true))) (j := 18) rfl (by kernel_rfl) (by kernel_rfl) (ev_callA (by kernel_rfl) (f41_ok (d - 1) (dpt hd rfl) a1.Cells a2.Cells z2 hz2) (by kernel_rfl) (by kernel_rfl)) ?_
      refine zL 2 20 (zE (zkSeq ?_))
      refine zrRet ?_
      refine zkNil ?_
      exact endQ hS hQ (fR (f22_out z2))
    · replace hS := cond_f hc hS
      refine zL 9 20 (zE (zkSeq ?_))
      refine zrRet ?_
      refine zkNil ?_
      exact endQ hS hQ (fR (f22_out false))
  · replace hS := cond_f hc hS
    refine zL 15 20 (zE (zkSeq ?_))
    refine zrRet ?_
    refine zkNil ?_
    exact endQ hS hQ (fR (f22_out false))
/- farwriter/farkeep.ScreenStill -/
def f4_fin (p24 : Bool) : St := ⟨(up u0 4 (dB p24)), h0⟩
theorem f4_out (p24 : Bool) : outR (f4_fin p24) 0 c4.res = some ((dB p24), []) := by
  kernel_rfl
def f4_Q (r : Bool) (e : PX) (st : St) : Prop := DoneF c4 0 ((dB r), []) e st
def f4_j1_J (a1 : GScreen) (a2 : List GAct) (p31 : List GAct) (p32 : GScreen) : St := ⟨(up (up (up u0 7 (pt 64)) 2 (pt 24)) 1 (.d (.sl p31.length (e_GAct.cells p31)))), (up (gh_GScreen h0 p32 64 448 449 450) 24 ⟨0, some (.box (bd_GScreen a1))⟩)⟩
noncomputable def f4_j1 (a1 : GScreen) (a2 : List GAct) (p31 : List GAct) (p32 : GScreen) : Option (Bool) := ((f20 p31).bind fun z64 => ((f22 p32.Grid a1.Grid).bind fun z65 => (bif z65 then ((f22 p32.Other a1.Other).bind fun z66 => (bif z66 then (bif (decide ((p32.Past.length : Int) = (a1.Past.length : Int))) then (bif (decide (p32.Title = a1.Title)) then (bif z64 then (some true) else (bif (decide (p32.Pages.1 = a1.Pages.1) && (decide (p32.Pages.2 = a1.Pages.2) && true)) then (bif (decide (p32.Shift = a1.Shift)) then (some true) else (some false)) else (some false))) else (some false)) else (some false)) else (some false))) else (some false))))
theorem f4_j1_ok {d : Nat} (hd : 10 ≤ d) (a1 : GScreen) (a2 : List GAct) {r : Bool} {Q : PX → St → Prop} (hQ : ∀ e st', f4_Q r e st' → Q e st') (p31 : List GAct) (p32 : GScreen) (hS : f4_j1 a1 a2 p31 p32 = some r) {st : St} (he : keepSt [1, 2, 7] [(24, .id 24), (64, .id 64), (448, .id 448), (449, .id 449), (450, .id 450)] [] st = f4_j1_J a1 a2 p31 p32) : ZR (lev codes baseL (d - 1)) Q c4_1 [] st := by
  refine zrKeep he ?_
  unfold f4_j1 at hS
  refine zrSeq (zrReg (zL 1 1 ?_))
  refine bindE hS (fun z64 hz64 hS => ?_)
  refine zO (some 67) 2 (.call 20 [(tm 66), (.func 21)]) (ev_callA (by kernel_rfl) (f20_ok (d - 1) (dpt hd rfl) p31 z64 hz64) (by kernel_rfl) (by kernel_rfl)) ?_
  refine zL 1 3 (zE (zkSeq (zrSeq (zrReg (zL 4 4 ?_)))))
  refine bindE hS (fun z65 hz65 hS => ?_)
  refine zO (some 72) 5 (.call 22 [(tm 69), (tm 71)]) (ev_callB (args := [(.agg ((dI p32.Grid.Wide) :: ((dI p32.Grid.High) :: ((.r (.msl 448 0 0 p32.Grid.Cells.length)) :: [])))), (.agg ((dI a1.Grid.Wide) :: ((dI a1.Grid.High) :: ((gd0_GScreen a1) :: []))))]) (by kernel_rfl) (l_cons (l_agg (l_cons (by kernel_rfl) (l_cons (by kernel_rfl) (l_cons (l_own e_GCell (e := 58) (k := 4) (xs := p32.Grid.Cells) (by kernel_rfl) rfl rfl) l_nil)))) (l_cons (by kernel_rfl) l_nil)) (f22_ok (d - 1) (dpt hd rfl) p32.Grid a1.Grid z65 hz65) (by kernel_rfl) (by kernel_rfl)) ?_
  refine zL 1 6 ?_
  refine zlSplit 73 z65 (by kernel_rfl) (fun hc => ?_) (fun hc => ?_)
  · replace hS := cond_t hc hS
    refine zL 4 10 ?_
    refine bindE hS (fun z66 hz66 hS => ?_)
    refine zlOp (d := some 78) (op := (.call 22 [(tm 75), (tm 77)])) (g := (some (73, true))) (j := 11) rfl (by kernel_rfl) (by kernel_rfl) (ev_callB (args := [(.agg ((dI p32.Other.Wide) :: ((dI p32.Other.High) :: ((.r (.msl 449 0 0 p32.Other.Cells.length)) :: [])))), (.agg ((dI a1.Other.Wide) :: ((dI a1.Other.High) :: ((gd1_GScreen a1) :: []))))]) (by kernel_rfl) (l_cons (l_agg (l_cons (by kernel_rfl) (l_cons (by kernel_rfl) (l_cons (l_own e_GCell (e := 58) (k := 4) (xs := p32.Other.Cells) (by kernel_rfl) rfl rfl) l_nil)))) (l_cons (by kernel_rfl) l_nil)) (f22_ok (d - 1) (dpt hd rfl) p32.Other a1.Other z66 hz66) (by kernel_rfl) (by kernel_rfl)) ?_
    refine zL 2 13 ?_
    refine zlSplit 80 z66 (by kernel_rfl) (fun hc => ?_) (fun hc => ?_)
    · replace hS := cond_t hc hS
      refine zL 6 19 ?_
      refine zlBool (d := 87) (op := (.cmpI .eql (tm 83) (tm 86))) (g := (some (80, true))) (j := 20) (decide ((p32.Past.length : Int) = (a1.Past.length : Int))) rfl (by kernel_rfl) (by kernel_rfl) (by kernel_rfl) (fun hc => ?_) (fun hc => ?_)
      · replace hS := cond_t hc hS
        refine zL 6 26 ?_
        refine zlBool (d := 94) (op := (.strO .eql (tm 91) (tm 93))) (g := (some (89, true))) (j := 27) (decide (p32.Title = a1.Title)) rfl (by kernel_rfl) (by kernel_rfl) (by kernel_rfl) (fun hc => ?_) (fun hc => ?_)
        · replace hS := cond_t hc hS
          refine zL 4 31 ?_
          refine zlSplit 98 z64 (by kernel_rfl) (fun hc => ?_) (fun hc => ?_)
          · replace hS := cond_t hc hS
            refine zL 15 46 (zE (zkSeq ?_))
            refine zrRet ?_
            refine zkNil ?_
            exact endQ hS hQ (fR (f4_out true))
          · replace hS := cond_f hc hS
            refine zL 4 35 ?_
            refine zlBool (d := 103) (op := (.eqA .false [(2, .int)] (tm 100) (tm 102))) (g := (some (98, false))) (j := 36) (decide (p32.Pages.1 = a1.Pages.1) && (decide (p32.Pages.2 = a1.Pages.2) && true)) rfl (by kernel_rfl) (by kernel_rfl) (by kernel_rfl) (fun hc => ?_) (fun hc => ?_)
            · replace hS := cond_t hc hS
              refine zL 5 41 ?_
              refine zlBool (d := 109) (op := (.cmpI .eql (tm 106) (tm 108))) (g := (some (104, true))) (j := 42) (decide (p32.Shift = a1.Shift)) rfl (by kernel_rfl) (by kernel_rfl) (by kernel_rfl) (fun hc => ?_) (fun hc => ?_)
              · replace hS := cond_t hc hS
                refine zL 4 46 (zE (zkSeq ?_))
                refine zrRet ?_
                refine zkNil ?_
                exact endQ hS hQ (fR (f4_out true))
              · replace hS := cond_f hc hS
                refine zL 4 46 (zE (zkSeq ?_))
                refine zrRet ?_
                refine zkNil ?_
                exact endQ hS hQ (fR (f4_out false))
            · replace hS := cond_f hc hS
              refine zL 10 46 (zE (zkSeq ?_))
              refine zrRet ?_
              refine zkNil ?_
              exact endQ hS hQ (fR (f4_out false))
        · replace hS := cond_f hc hS
          refine zL 19 46 (zE (zkSeq ?_))
          refine zrRet ?_
          refine zkNil ?_
          exact endQ hS hQ (fR (f4_out false))
      · replace hS := cond_f hc hS
        refine zL 26 46 (zE (zkSeq ?_))
        refine zrRet ?_
        refine zkNil ?_
        exact endQ hS hQ (fR (f4_out false))
    · replace hS := cond_f hc hS
      refine zL 33 46 (zE (zkSeq ?_))
      refine zrRet ?_
      refine zkNil ?_
      exact endQ hS hQ (fR (f4_out false))
  · replace hS := cond_f hc hS
    refine zL 40 46 (zE (zkSeq ?_))
    refine zrRet ?_
    refine zkNil ?_
    exact endQ hS hQ (fR (f4_out false))
def f4_j0_J (a1 : GScreen) (a2 : List GAct) (p25 : List GAct) : St := ⟨(up (up u0 2 (pt 24)) 1 (.d (.sl p25.length (e_GAct.cells p25)))), (up h0 24 ⟨0, some (.box (bd_GScreen a1))⟩)⟩
noncomputable def f4_j0 (a1 : GScreen) (a2 : List GAct) (p25 : List GAct) : Option (Bool) := ((f14 a1 p25).bind fun z61 => (libLives.bind fun z67 => (bif (!z67) then (libLives.bind fun z68 => (some z68)) else (bif (!decide (z61.2.2 = 0)) then (libLives.bind fun z69 => (some z69)) else (f4_j1 a1 a2 p25 z61.1)))))
theorem f4_j0_ok {d : Nat} (hd : 10 ≤ d) (a1 : GScreen) (a2 : List GAct) {r : Bool} {Q : PX → St → Prop} (hQ : ∀ e st', f4_Q r e st' → Q e st') (p25 : List GAct) (hS : f4_j0 a1 a2 p25 = some r) {st : St} (he : keepSt [1, 2] [(24, .id 24)] [] st = f4_j0_J a1 a2 p25) : ZR (lev codes baseL (d - 1)) Q c4_2 [] st := by
  refine zrKeep he ?_
  unfold f4_j0 at hS
  refine zrSeq (zrReg (zL 2 2 ?_))
  refine bindE hS (fun z61 hz61 hS => ?_)
  refine zO (v := (.tup [(.agg (bm_GScreen z61.1 448 1 449 1 450 1)), (.d (.str z61.2.1)), (dI z61.2.2)])) (ups := [(448, ⟨1, some (go0_GScreen z61.1)⟩), (449, ⟨1, some (go1_GScreen z61.1)⟩), (450, ⟨1, some (go2_GScreen z61.1)⟩)]) (some 55) 3 (.callf 14 [(tm 53), (tm 54)]) (ev_callF (args := [(.agg (bd_GScreen a1)), (.d (.sl p25.length (e_GAct.cells p25)))]) (args' := [(.agg (bd_GScreen a1)), (.d (.sl p25.length (e_GAct.cells p25)))]) (l := [(.agg (bd_GScreen a1)), (.d (.sl p25.length (e_GAct.cells p25)))]) (refs := []) (r := (.tup [(.agg (bw_GScreen z61.1)), (.d (.str z61.2.1)), (dI z61.2.2)])) (v := (.tup [(.agg (bm_GScreen z61.1 448 1 449 1 450 1)), (.d (.str z61.2.1)), (dI z61.2.2)])) (ups' := [(448, ⟨1, some (go0_GScreen z61.1)⟩), (449, ⟨1, some (go1_GScreen z61.1)⟩), (450, ⟨1, some (go2_GScreen z61.1)⟩)]) (by kernel_rfl) (by kernel_rfl) (by kernel_rfl) (fz_cons rfl (fz_cons rfl fz_nil)) (by kernel_rfl) (f14_ok (d - 1) (dpt hd rfl) a1 p25 z61 hz61) (by kernel_rfl) (by kernel_rfl) (by kernel_rfl) (by kernel_rfl)) ?_
  refine zL 8 11 (zE (zkSeq (zrSeq (zrSeq (zrReg ?_)))))
  refine bindE hS (fun z67 hz67 hS => ?_)
  refine zO (some 59) 1 (.call 15 []) (ev_callA (by kernel_rfl) (libLives_ok (d - 1) (dpt hd rfl)  z67 hz67) (by kernel_rfl) (by kernel_rfl)) ?_
  refine zL 2 3 ?_
  refine zlSplit 61 (!z67) (by kernel_rfl) (fun hc => ?_) (fun hc => ?_)
  · replace hS := cond_t hc hS
    refine zL 3 6 (zE (zkSeq (zT (zrSeq (zrReg ?_)))))
    refine bindE hS (fun z68 hz68 hS => ?_)
    refine zO (some 65) 1 (.call 15 []) (ev_callA (by kernel_rfl) (libLives_ok (d - 1) (dpt hd rfl)  z68 hz68) (by kernel_rfl) (by kernel_rfl)) ?_
    refine zL 1 2 (zE (zkSeq ?_))
    refine zrRet ?_
    refine zkSeqR ?_
    refine zkNil ?_
    exact endQ hS hQ (fR (f4_out z68))
  · replace hS := cond_f hc hS
    refine zL 1 4 ?_
    refine zlBool (d := 63) (op := (.cmpI .neq (tm 62) (ki 0))) (g := (some (61, false))) (j := 5) (!decide (z61.2.2 = 0)) rfl (by kernel_rfl) (by kernel_rfl) (by kernel_rfl) (fun hc => ?_) (fun hc => ?_)
    · replace hS := cond_t hc hS
      refine zL 1 6 (zE (zkSeq (zT (zrSeq (zrReg ?_)))))
      refine bindE hS (fun z69 hz69 hS => ?_)
      refine zO (some 65) 1 (.call 15 []) (ev_callA (by kernel_rfl) (libLives_ok (d - 1) (dpt hd rfl)  z69 hz69) (by kernel_rfl) (by kernel_rfl)) ?_
      refine zL 1 2 (zE (zkSeq ?_))
      refine zrRet ?_
      refine zkSeqR ?_
      refine zkNil ?_
      exact endQ hS hQ (fR (f4_out z69))
    · replace hS := cond_f hc hS
      refine zL 1 6 (zE (zkSeq (zF ?_)))
      refine zrSkip ?_
      refine zkSeq ?_
      exact f4_j1_ok hd a1 a2 hQ p25 z61.1 hS (by kernel_rfl)
def f4_l2_J (a1 : GScreen) (a2 : List GAct) (x : (List GAct) × Int) : St := ⟨(up (up (up (up u0 13 (dI x.2)) 12 (dI (a2.length : Int))) 2 (pt 24)) 1 (.d (.sl x.1.length (e_GAct.cells x.1)))), (up h0 24 ⟨0, some (.box (bd_GScreen a1))⟩)⟩
def f4_l2_H (a1 : GScreen) (a2 : List GAct) (x : (List GAct) × Int) (st : St) : Prop := keepSt [1, 2, 12, 13] [(24, .id 24)] [] st = f4_l2_J a1 a2 x
def f4_l2_e0_J (a1 : GScreen) (a2 : List GAct) (p12 : List GAct) : St := ⟨(up (up u0 2 (pt 24)) 1 (.d (.sl p12.length (e_GAct.cells p12)))), (up h0 24 ⟨0, some (.box (bd_GScreen a1))⟩)⟩
def f4_l2_X (a1 : GScreen) (a2 : List GAct) (z : ((List GAct))) (e : PX) (st : St) : Prop := e = .exit 0 ∧ st = f4_l2_e0_J a1 a2 z
def f4_l2_j4_J (a1 : GScreen) (a2 : List GAct) (p39 : List GAct) (p40 : Int) : St := ⟨(up (up (up (up u0 13 (dI p40)) 12 (dI (a2.length : Int))) 2 (pt 24)) 1 (.d (.sl p39.length (e_GAct.cells p39)))), (up h0 24 ⟨0, some (.box (bd_GScreen a1))⟩)⟩
noncomputable def f4_l2_j4 (a1 : GScreen) (a2 : List GAct) (p39 : List GAct) (p40 : Int) : Option (((List GAct) × Int) ⊕ (((List GAct)))) := ((f19 p39).bind fun z70 => ((inR p40 z70.length).bind fun m71 => ((z70[m71]?).bind fun z72 => ((some (z70.set m71 (GAct.mk 4 z72.Code z72.Mark z72.Inter z72.Args z72.Text))).bind fun z73 => ((inR p40 z73.length).bind fun m74 => ((z73[m74]?).bind fun z75 => ((some (z73.set m74 (GAct.mk z75.Kind z75.Code z75.Mark ([]) z75.Args z75.Text))).bind fun z76 => ((inR p40 z76.length).bind fun m77 => ((z76[m77]?).bind fun z78 => ((some (z76.set m77 (GAct.mk z78.Kind z78.Code 0 z78.Inter z78.Args z78.Text))).bind fun z79 => ((inR p40 z79.length).bind fun m80 => ((z79[m80]?).bind fun z81 => ((chk (!decide ((([65, 66, 67, 68, 69, 70, 71, 72, 73, 90, 100, 102, 103, 104, 108, 109, 110, 114, 115, 117, 96] : List UInt8).length : Int) = 0))).bind fun z82 => ((chk (!decide ((([65, 66, 67, 68, 69, 70, 71, 72, 73, 90, 100, 102, 103, 104, 108, 109, 110, 114, 115, 117, 96] : List UInt8).length : Int) = 0))).bind fun z83 => ((idx ([65, 66, 67, 68, 69, 70, 71, 72, 73, 90, 100, 102, 103, 104, 108, 109, 110, 114, 115, 117, 96] : List UInt8) (Int.tmod (IntKind.i64.wrap ((Int.tmod z81.Code (([65, 66, 67, 68, 69, 70, 71, 72, 73, 90, 100, 102, 103, 104, 108, 109, 110, 114, 115, 117, 96] : List UInt8).length : Int)) + (([65, 66, 67, 68, 69, 70, 71, 72, 73, 90, 100, 102, 103, 104, 108, 109, 110, 114, 115, 117, 96] : List UInt8).length : Int))) (([65, 66, 67, 68, 69, 70, 71, 72, 73, 90, 100, 102, 103, 104, 108, 109, 110, 114, 115, 117, 96] : List UInt8).length : Int))).bind fun z84 => ((inR p40 z79.length).bind fun m85 => ((z79[m85]?).bind fun z86 => ((some (z79.set m85 (GAct.mk z86.Kind (z84.toNat : Int) z86.Mark z86.Inter z86.Args z86.Text))).bind fun z87 => (some (.inl (z87, (IntKind.i64.wrap (p40 + 1)))))))))))))))))))))))
theorem f4_l2_j4_ok {d : Nat} (hd : 10 ≤ d) (a1 : GScreen) (a2 : List GAct) {r : ((List GAct) × Int) ⊕ (((List GAct)))} {Q : PX → St → Prop} (hQ : ∀ e st', finL (f4_l2_H a1 a2) (f4_l2_X a1 a2) r e st' → Q e st') (p39 : List GAct) (p40 : Int) (hS : f4_l2_j4 a1 a2 p39 p40 = some r) {st : St} (he : keepSt [1, 2, 12, 13] [(24, .id 24)] [] st = f4_l2_j4_J a1 a2 p39 p40) : ZR (lev codes baseL (d - 1)) Q c4_3 [] st := by
  refine zrKeep he ?_
  unfold f4_l2_j4 at hS
  refine zrSeq ?_
  refine zrBlk ?_
  refine zrSeq (zrReg (zL 2 2 (zE (zkSeq (zrSeq (zrReg (zL 1 1 ?_)))))))
  refine bindE hS (fun z70 hz70 hS => ?_)
  refine zO (v := (.r (.msl 144 1 0 z70.length))) (ups := [(144, ⟨1, some (.own 45 6 (e_GAct.cells z70))⟩)]) (some 17) 2 (.callf 19 [(tm 16)]) (ev_callF (args := [(.d (.sl p39.length (e_GAct.cells p39)))]) (args' := [(.d (.sl p39.length (e_GAct.cells p39)))]) (l := [(.d (.sl p39.length (e_GAct.cells p39)))]) (refs := []) (r := (.r (.own 0 45 6 z70.length (e_GAct.cells z70)))) (v := (.r (.msl 144 1 0 z70.length))) (ups' := [(144, ⟨1, some (.own 45 6 (e_GAct.cells z70))⟩)]) (by kernel_rfl) (by kernel_rfl) (by kernel_rfl) (fz_cons rfl fz_nil) (by kernel_rfl) (f19_ok (d - 1) (dpt hd rfl) p39 z70 hz70) (by kernel_rfl) (by kernel_rfl) (by kernel_rfl) (by kernel_rfl)) ?_
  refine zL 1 3 (zE (zkSeq (zrSeq (zrReg (zL 1 1 (zE (zkSeq (zrSeq (zrReg (zL 6 6 ?_))))))))))
  refine bindE hS (fun m71 hm71 hS => ?_)
  refine zO (v := (.r (.ptr 144 1 ((0 + m71) * 6)))) (ups := []) (some 24) 7 (.ixS 45 6 (tm 18) (tm 19)) (ev_ixM (kk := .i64) (b := 144) (g := 1) (l := 0) (n := z70.length) (j := p40) (cs := e_GAct.cells z70) (by kernel_rfl) (by kernel_rfl) (by kernel_rfl) hm71) ?_
  refine zL 1 8 ?_
  refine bindE hS (fun z72 hz72 hS => ?_)
  refine bindE hS (fun z73 hz73 hS => ?_)
  refine zO (v := .un) (ups := [(144, ⟨1, some (.own 45 6 (e_GAct.cells (z70.set m71 (GAct.mk 4 z72.Code z72.Mark z72.Inter z72.Args z72.Text))))⟩)]) none 9 (.store 1 (tm 25) (ki 4)) (ev_storeM e_GAct (b := 144) (g := 1) (o := (0 + m71) * 6 + 0) (e := 45) (k := 6) (m := m71) (fo := 0) (xs := z70) (z := z72) (z' := (GAct.mk 4 z72.Code z72.Mark z72.Inter z72.Args z72.Text)) (by kernel_rfl) (new := ((dI 4) :: [])) (ds := [.int .i64 4]) (by kernel_rfl) (by kernel_rfl) (by kernel_rfl) (by rw [Nat.zero_add]; rfl) hz72 (by kernel_rfl) (by kernel_rfl) (by kernel_rfl)) ?_
  have ez73 := Option.some.inj hz73
  have lz73 : z70.length = z73.length := by rw [← ez73, List.length_set]
  rw [ez73]
  try delta f4_l2_j4_J
  try rw [lz73]
  refine bindE hS (fun m74 hm74 hS => ?_)
  refine zO (v := (.r (.ptr 144 1 ((0 + m74) * 6)))) (ups := []) (some 26) 10 (.ixS 45 6 (tm 20) (tm 21)) (ev_ixM (kk := .i64) (b := 144) (g := 1) (l := 0) (n := z73.length) (j := p40) (cs := e_GAct.cells z73) (by kernel_rfl) (by kernel_rfl) (by kernel_rfl) hm74) ?_
  refine zL 1 11 ?_
  refine bindE hS (fun z75 hz75 hS => ?_)
  refine bindE hS (fun z76 hz76 hS => ?_)
  refine zO (v := .un) (ups := [(144, ⟨1, some (.own 45 6 (e_GAct.cells (z73.set m74 (GAct.mk z75.Kind z75.Code z75.Mark ([]) z75.Args z75.Text))))⟩)]) none 12 (.store 1 (tm 27) (.const (.string ⟨#[]⟩))) (ev_storeM e_GAct (b := 144) (g := 1) (o := (0 + m74) * 6 + 3) (e := 45) (k := 6) (m := m74) (fo := 3) (xs := z73) (z := z75) (z' := (GAct.mk z75.Kind z75.Code z75.Mark ([]) z75.Args z75.Text)) (by kernel_rfl) (new := ((.d (.str ([]))) :: [])) (ds := [.str ([])]) (by kernel_rfl) (by kernel_rfl) (by kernel_rfl) (by rw [Nat.zero_add]; rfl) hz75 (by kernel_rfl) (by kernel_rfl) (by kernel_rfl)) ?_
  have ez76 := Option.some.inj hz76
  have lz76 : z73.length = z76.length := by rw [← ez76, List.length_set]
  rw [ez76]
  try delta f4_l2_j4_J
  try rw [lz76]
  refine bindE hS (fun m77 hm77 hS => ?_)
  refine zO (v := (.r (.ptr 144 1 ((0 + m77) * 6)))) (ups := []) (some 28) 13 (.ixS 45 6 (tm 22) (tm 23)) (ev_ixM (kk := .i64) (b := 144) (g := 1) (l := 0) (n := z76.length) (j := p40) (cs := e_GAct.cells z76) (by kernel_rfl) (by kernel_rfl) (by kernel_rfl) hm77) ?_
  refine zL 1 14 ?_
  refine bindE hS (fun z78 hz78 hS => ?_)
  refine bindE hS (fun z79 hz79 hS => ?_)
  refine zO (v := .un) (ups := [(144, ⟨1, some (.own 45 6 (e_GAct.cells (z76.set m77 (GAct.mk z78.Kind z78.Code 0 z78.Inter z78.Args z78.Text))))⟩)]) none 15 (.store 1 (tm 29) (ki 0)) (ev_storeM e_GAct (b := 144) (g := 1) (o := (0 + m77) * 6 + 2) (e := 45) (k := 6) (m := m77) (fo := 2) (xs := z76) (z := z78) (z' := (GAct.mk z78.Kind z78.Code 0 z78.Inter z78.Args z78.Text)) (by kernel_rfl) (new := ((dI 0) :: [])) (ds := [.int .i64 0]) (by kernel_rfl) (by kernel_rfl) (by kernel_rfl) (by rw [Nat.zero_add]; rfl) hz78 (by kernel_rfl) (by kernel_rfl) (by kernel_rfl)) ?_
  have ez79 := Option.some.inj hz79
  have lz79 : z76.length = z79.length := by rw [← ez79, List.length_set]
  rw [ez79]
  try delta f4_l2_j4_J
  try rw [lz79]
  refine zE (zkSeq (zrReg (zL 5 5 ?_)))
  refine bindE hS (fun m80 hm80 hS => ?_)
  refine zO (v := (.r (.ptr 144 1 ((0 + m80) * 6)))) (ups := []) (some 35) 6 (.ixS 45 6 (tm 33) (tm 34)) (ev_ixM (kk := .i64) (b := 144) (g := 1) (l := 0) (n := z79.length) (j := p40) (cs := e_GAct.cells z79) (by kernel_rfl) (by kernel_rfl) (by kernel_rfl) hm80) ?_
  refine zL 1 7 ?_
  refine bindE hS (fun z81 hz81 hS => ?_)
  refine zO (v := (dI z81.Code)) (ups := []) (some 37) 8 (.load .false 1 (tm 36)) (ev_loadM e_GAct (b := 144) (g := 1) (o := (0 + m80) * 6 + 1) (e := 45) (k := 6) (m := m80) (fo := 1) (xs := z79) (by kernel_rfl) (by kernel_rfl) (by rw [Nat.zero_add]; rfl) hz81 (by kernel_rfl) (by kernel_rfl) (by kernel_rfl)) ?_
  refine zL 2 10 ?_
  refine bindE hS (fun z82 hz82 hS => ?_)
  refine zO (v := (dI (Int.tmod z81.Code (([65, 66, 67, 68, 69, 70, 71, 72, 73, 90, 100, 102, 103, 104, 108, 109, 110, 114, 115, 117, 96] : List UInt8).length : Int)))) (ups := []) (some 40) 11 (.arI .rem (tm 37) (tm 39)) (ev_arI (kk := .i64) (a := z81.Code) (c := (([65, 66, 67, 68, 69, 70, 71, 72, 73, 90, 100, 102, 103, 104, 108, 109, 110, 114, 115, 117, 96] : List UInt8).length : Int)) (by kernel_rfl) (by kernel_rfl) (rem_ok hz82)) ?_
  refine zL 5 16 ?_
  refine bindE hS (fun z83 hz83 hS => ?_)
  refine zO (v := (dI (Int.tmod (IntKind.i64.wrap ((Int.tmod z81.Code (([65, 66, 67, 68, 69, 70, 71, 72, 73, 90, 100, 102, 103, 104, 108, 109, 110, 114, 115, 117, 96] : List UInt8).length : Int)) + (([65, 66, 67, 68, 69, 70, 71, 72, 73, 90, 100, 102, 103, 104, 108, 109, 110, 114, 115, 117, 96] : List UInt8).length : Int))) (([65, 66, 67, 68, 69, 70, 71, 72, 73, 90, 100, 102, 103, 104, 108, 109, 110, 114, 115, 117, 96] : List UInt8).length : Int)))) (ups := []) (some 46) 17 (.arI .rem (tm 43) (tm 45)) (ev_arI (kk := .i64) (a := (IntKind.i64.wrap ((Int.tmod z81.Code (([65, 66, 67, 68, 69, 70, 71, 72, 73, 90, 100, 102, 103, 104, 108, 109, 110, 114, 115, 117, 96] : List UInt8).length : Int)) + (([65, 66, 67, 68, 69, 70, 71, 72, 73, 90, 100, 102, 103, 104, 108, 109, 110, 114, 115, 117, 96] : List UInt8).length : Int)))) (c := (([65, 66, 67, 68, 69, 70, 71, 72, 73, 90, 100, 102, 103, 104, 108, 109, 110, 114, 115, 117, 96] : List UInt8).length : Int)) (by kernel_rfl) (by kernel_rfl) (rem_ok hz83)) ?_
  refine bindE hS (fun z84 hz84 hS => ?_)
  refine zO (v := (.d (.int .u8 (z84.toNat : Int)))) (ups := []) (some 47) 18 (.ixStr (tm 32) (tm 46)) (ev_ixStr (kk := .i64) (s := [65, 66, 67, 68, 69, 70, 71, 72, 73, 90, 100, 102, 103, 104, 108, 109, 110, 114, 115, 117, 96]) (j := (Int.tmod (IntKind.i64.wrap ((Int.tmod z81.Code (([65, 66, 67, 68, 69, 70, 71, 72, 73, 90, 100, 102, 103, 104, 108, 109, 110, 114, 115, 117, 96] : List UInt8).length : Int)) + (([65, 66, 67, 68, 69, 70, 71, 72, 73, 90, 100, 102, 103, 104, 108, 109, 110, 114, 115, 117, 96] : List UInt8).length : Int))) (([65, 66, 67, 68, 69, 70, 71, 72, 73, 90, 100, 102, 103, 104, 108, 109, 110, 114, 115, 117, 96] : List UInt8).length : Int))) (by kernel_rfl) (by kernel_rfl) hz84) ?_
  refine zO (v := (dI (z84.toNat : Int))) (ups := []) (some 48) 19 (.cvI .i64 (tm 47)) (ev_cv (kk := .u8) (a := (z84.toNat : Int)) (by kernel_rfl) (cv_i64 _)) ?_
  refine bindE hS (fun m85 hm85 hS => ?_)
  refine zO (v := (.r (.ptr 144 1 ((0 + m85) * 6)))) (ups := []) (some 49) 20 (.ixS 45 6 (tm 30) (tm 31)) (ev_ixM (kk := .i64) (b := 144) (g := 1) (l := 0) (n := z79.length) (j := p40) (cs := e_GAct.cells z79) (by kernel_rfl) (by kernel_rfl) (by kernel_rfl) hm85) ?_
  refine zL 1 21 ?_
  refine bindE hS (fun z86 hz86 hS => ?_)
  refine bindE hS (fun z87 hz87 hS => ?_)
  refine zO (v := .un) (ups := [(144, ⟨1, some (.own 45 6 (e_GAct.cells (z79.set m85 (GAct.mk z86.Kind (z84.toNat : Int) z86.Mark z86.Inter z86.Args z86.Text))))⟩)]) none 22 (.store 1 (tm 50) (tm 48)) (ev_storeM e_GAct (b := 144) (g := 1) (o := (0 + m85) * 6 + 1) (e := 45) (k := 6) (m := m85) (fo := 1) (xs := z79) (z := z86) (z' := (GAct.mk z86.Kind (z84.toNat : Int) z86.Mark z86.Inter z86.Args z86.Text)) (by kernel_rfl) (new := ((dI (z84.toNat : Int)) :: [])) (ds := [.int .i64 (z84.toNat : Int)]) (by kernel_rfl) (by kernel_rfl) (by kernel_rfl) (by rw [Nat.zero_add]; rfl) hz86 (by kernel_rfl) (by kernel_rfl) (by kernel_rfl)) ?_
  have ez87 := Option.some.inj hz87
  have lz87 : z79.length = z87.length := by rw [← ez87, List.length_set]
  rw [ez87]
  try delta f4_l2_j4_J
  try rw [lz87]
  refine zE ?_
  refine zkBlk ?_
  refine zkSeq (zrReg (zL 2 2 (zE ?_)))
  refine zkNil ?_
  exact endQ hS hQ (finL_n (by show keepSt _ _ _ _ = _; exact (by kernel_rfl : _ = (⟨(up (up (up (up u0 13 (dI (IntKind.i64.wrap (p40 + 1)))) 12 (dI (a2.length : Int))) 2 (pt 24)) 1 (.d (.sl z87.length (((e_GAct.cells z87).drop (0 * e_GAct.k)).take (z87.length * e_GAct.k))))), (up h0 24 ⟨0, some (.box (bd_GScreen a1))⟩)⟩ : St)).trans (by simp only [Enc.frz]; kernel_rfl)))
def f4_l2_j3_J (a1 : GScreen) (a2 : List GAct) (p36 : List GAct) (p37 : Int) (p38 : Bool) : St := ⟨(up (up (up (up (up u0 14 (dB p38)) 13 (dI p37)) 12 (dI (a2.length : Int))) 2 (pt 24)) 1 (.d (.sl p36.length (e_GAct.cells p36)))), (up h0 24 ⟨0, some (.box (bd_GScreen a1))⟩)⟩
noncomputable def f4_l2_j3 (a1 : GScreen) (a2 : List GAct) (p36 : List GAct) (p37 : Int) (p38 : Bool) : Option (((List GAct) × Int) ⊕ (((List GAct)))) := (bif p38 then (f4_l2_j4 a1 a2 p36 p37) else (some (.inr p36)))
theorem f4_l2_j3_ok {d : Nat} (hd : 10 ≤ d) (a1 : GScreen) (a2 : List GAct) {r : ((List GAct) × Int) ⊕ (((List GAct)))} {Q : PX → St → Prop} (hQ : ∀ e st', finL (f4_l2_H a1 a2) (f4_l2_X a1 a2) r e st' → Q e st') (p36 : List GAct) (p37 : Int) (p38 : Bool) (hS : f4_l2_j3 a1 a2 p36 p37 p38 = some r) {st : St} (he : keepSt [1, 2, 12, 13, 14] [(24, .id 24)] [] st = f4_l2_j3_J a1 a2 p36 p37 p38) : ZR (lev codes baseL (d - 1)) Q c4_4 [] st := by
  refine zrKeep he ?_
  unfold f4_l2_j3 at hS
  refine zrSeq ?_
  refine zrSplit 14 p38 (by kernel_rfl) (fun hc => ?_) (fun hc => ?_)
  · replace hS := cond_t hc hS
    refine zT ?_
    refine zrSkip ?_
    refine zkSeq ?_
    exact f4_l2_j4_ok hd a1 a2 hQ p36 p37 hS (by kernel_rfl)
  · replace hS := cond_f hc hS
    refine zF ?_
    refine zrKeep (J := f4_l2_e0_J a1 a2 p36) (by kernel_rfl) ?_
    refine zrExit ?_
    refine zkSeqX ?_
    refine zkNil ?_
    exact endQ hS hQ (finL_x (by intro h; cases h) (by show _ = _ ∧ _ = _; exact ⟨rfl, rfl⟩))
noncomputable def f4_l2 (a1 : GScreen) (a2 : List GAct) (x : (List GAct) × Int) : Option (((List GAct) × Int) ⊕ (((List GAct)))) := (bif (decide (x.2 < (a2.length : Int))) then (f4_l2_j3 a1 a2 x.1 x.2 true) else (f4_l2_j3 a1 a2 x.1 x.2 false))
theorem f4_l2_ok {d : Nat} (hd : 10 ≤ d) (a1 : GScreen) (a2 : List GAct) {r : ((List GAct) × Int) ⊕ (((List GAct)))} {Q : PX → St → Prop} (hQ : ∀ e st', finL (f4_l2_H a1 a2) (f4_l2_X a1 a2) r e st' → Q e st') {x : (List GAct) × Int} (hS : f4_l2 a1 a2 x = some r) {st : St} (he : f4_l2_H a1 a2 x st) : ZR (lev codes baseL (d - 1)) Q c4_5 [] st := by
  refine zrKeep he ?_
  unfold f4_l2 at hS
  refine zrSeq (zrReg ?_)
  refine zB 14 1 (.cmpI .lss (tm 13) (tm 12)) (decide (x.2 < (a2.length : Int))) (fun hc => ?_) (fun hc => ?_)
  · replace hS := cond_t hc hS
    refine zE (zkSeq ?_)
    exact f4_l2_j3_ok hd a1 a2 hQ x.1 x.2 true hS (by kernel_rfl)
  · replace hS := cond_f hc hS
    refine zE (zkSeq ?_)
    exact f4_l2_j3_ok hd a1 a2 hQ x.1 x.2 false hS (by kernel_rfl)
noncomputable def f4 (a1 : GScreen) (a2 : List GAct) : Option (Bool) := ((loopO (f4_l2 a1 a2) (a2, 0)).bind fun z88 => (f4_j0 a1 a2 z88))
theorem f4_ok (d : Nat) (hd : 10 ≤ d) (a1 : GScreen) (a2 : List GAct) (r : Bool) (hS : f4 a1 a2 = some r) : lev codes baseL d 4 [(.agg (bd_GScreen a1)), (.d (.sl a2.length (e_GAct.cells a2)))] [] = some ((dB r), []) := by
  refine lev_go codes4 rfl rfl (Nat.le_trans (Nat.le_of_ble_eq_true rfl) hd) fun Q hQ => ?_
  unfold f4 at hS
  show ZR _ Q c4_b [] _
  replace hQ : ∀ e st', f4_Q r e st' → Q e st' := hQ
  refine zrSeq (zrReg (zL 2 2 (zE (zkSeq (zrSeq (zrSeq (zrReg (zL 3 3 (zE (zkSeq ?_))))))))))
  refine zrBlk ?_
  refine bindE hS (fun z88 hz88 hS => ?_)
  refine zrLoop (f4_l2_H a1 a2) (f4_l2_X a1 a2) (fun x st r Q h0 hS hQ => f4_l2_ok hd a1 a2 hQ hS h0) (x := (a2, 0)) (z := z88) (by show keepSt _ _ _ _ = _; kernel_rfl) hz88 ?_
  intro e st' _ hX
  obtain ⟨rfl, rfl⟩ : _ ∧ _ := hX
  refine zkBlkX ?_
  refine zkSeq ?_
  exact f4_j0_ok hd a1 a2 hQ z88 hS (by kernel_rfl)
end Go.Proofs.YtjoccdgmcdkbkaaGreatDoor.Pm
