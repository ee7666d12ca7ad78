/- Typed functions, and that the codes are these. Printed by dec.py. -/
import Derived.Test.YtobkkblijfhpoaaGreatDoorDTpG
namespace Go.Proofs.YtobkkblijfhpoaaGreatDoor.Pm
noncomputable section
set_option maxRecDepth 1000000
set_option maxHeartbeats 20000000
set_option linter.unusedVariables false
set_option linter.unusedSimpArgs false
variable {d : Nat} {Q : PQ} {st : St}
/- farwriter/screen.Run -/
def f161_fin (p22 : GScreen) (p23 : S8) : St := ⟨(up (up (up u0 6 (dI 0)) 5 (.d (.str p23))) 4 (pt 40)), (gh_GScreen h0 p22 40 224 225 226)⟩
theorem f161_out (p22 : GScreen) (p23 : S8) : outR (f161_fin p22 p23) 0 c161.res = some ((.tup [(.agg (bw_GScreen p22)), (.d (.str p23)), (dI 0)]), []) := by
 exact out_of (ids := []) (ids' := [224, 225, 226]) (l := [(.agg (bm_GScreen p22 224 0 225 0 226 0)), (.d (.str p23)), (dI 0)]) (by kernel_rfl) (by kernel_rfl) (o_tup (o_cons (o_agg (o_cons rfl (o_cons rfl (o_cons (o_own e_GCell (e := 100) (k := 4) (xs := p22.Grid.Cells) (by kernel_rfl) rfl rfl rfl rfl) (o_cons rfl (o_cons rfl (o_cons rfl (o_cons rfl (o_cons rfl (o_cons rfl (o_cons rfl (o_cons rfl (o_cons rfl (o_app (o_row (eInt .u64)) (o_cons rfl (o_cons rfl (o_cons rfl (o_cons rfl (o_cons rfl (o_cons rfl (o_cons rfl (o_cons rfl (o_cons rfl (o_cons rfl (o_cons rfl (o_cons rfl (o_cons rfl (o_cons rfl (o_cons (o_own e_GCell (e := 100) (k := 4) (xs := p22.Other.Cells) (by kernel_rfl) rfl rfl rfl rfl) (o_cons rfl (o_cons (o_own e_GLine (e := 91) (k := 1) (xs := p22.Past) (by kernel_rfl) rfl rfl rfl rfl) o_nil))))))))))))))))))))))))))))))) (o_cons rfl (o_cons rfl o_nil))))
def f161_Q (r : GScreen × S8) (e : PX) (st : St) : Prop := DoneF c161 0 ((.tup [(.agg (bw_GScreen r.1)), (.d (.str r.2)), (dI 0)]), []) e st
def f161_j2_J (a1 : GScreen) (a2 : List GAct) (p38 : Gterminal) : St := ⟨(up (up u0 9 (pt 240)) 4 (pt 40)), (q19_ p38)⟩
def f161_j2 (a1 : GScreen) (a2 : List GAct) (p38 : Gterminal) : Option (GScreen × S8) := (some (p38.Screen, p38.sent))
theorem f161_j2_ok (hd : 11 ≤ d) (a1 : GScreen) (a2 : List GAct) {r : GScreen × S8} (hQ : FQ (f161_Q r) Q) (p38 : Gterminal) (hS : f161_j2 a1 a2 p38 = some r) (he : keepSt [4, 9] [(40, .id 40), (240, .id 240), (224, .id 224), (225, .id 225), (226, .id 226)] [] st = f161_j2_J a1 a2 p38) : ZX d Q c161_1 [] st := by
 refine zrKeep he ?_
 unfold f161_j2 at hS
 exact zrSeq (zrRegD (zdR 11 11 (zdE (zkSeq (zrRet (zkNil (endQ hS hQ (fR (f161_out p38.Screen p38.sent)))))))))
def f161_l3_J (a1 : GScreen) (a2 : List GAct) (x : Gterminal × Int) : St := ⟨(up (up (up (up (up u0 32 (dI x.2)) 31 (dI (a2.length : Int))) 30 (dE e_GAct a2)) 9 (pt 240)) 4 (pt 40)), (q19_ x.1)⟩
def f161_l3_H (a1 : GScreen) (a2 : List GAct) (x : Gterminal × Int) (st : St) : Prop := keepSt [4, 9, 30, 31, 32] [(40, .id 40), (240, .id 240), (224, .id 224), (225, .id 225), (226, .id 226)] [] st = f161_l3_J a1 a2 x
def f161_l3_e0_J (a1 : GScreen) (a2 : List GAct) (p37 : Gterminal) : St := ⟨(up (up u0 9 (pt 240)) 4 (pt 40)), (q19_ p37)⟩
def f161_l3_X (a1 : GScreen) (a2 : List GAct) (z : Gterminal) (e : PX) (st : St) : Prop := e = .exit 0 ∧ st = f161_l3_e0_J a1 a2 z
def f161_l3_j5_J (a1 : GScreen) (a2 : List GAct) (p45 : Gterminal) (p46 : Int) : St := ⟨(up (up (up (up (up u0 32 (dI p46)) 31 (dI (a2.length : Int))) 30 (dE e_GAct a2)) 9 (pt 240)) 4 (pt 40)), (q19_ p45)⟩
def f161_l3_j5 (a1 : GScreen) (a2 : List GAct) (p45 : Gterminal) (p46 : Int) : Option ((Gterminal × Int) ⊕ Gterminal) := ((idx a2 p46).bind fun z19 => ((f210 z19 p45).bind fun z20 => (some (.inl (z20, (IntKind.i64.wrap (p46 + 1)))))))
theorem f161_l3_j5_ok (hd : 11 ≤ d) (a1 : GScreen) (a2 : List GAct) {r : (Gterminal × Int) ⊕ Gterminal} (hQ : FQ (finL (f161_l3_H a1 a2) (f161_l3_X a1 a2) r) Q) (p45 : Gterminal) (p46 : Int) (hS : f161_l3_j5 a1 a2 p45 p46 = some r) (he : keepSt [4, 9, 30, 31, 32] [(40, .id 40), (240, .id 240), (224, .id 224), (225, .id 225), (226, .id 226)] [] st = f161_l3_j5_J a1 a2 p45 p46) : ZX d Q c161_2 [] st := by
 refine zrKeep he ?_
 unfold f161_l3_j5 at hS
 refine zrSeq (zrBlk (zS ?_))
 refine bindE hS (fun z19 hz19 hS => zO (v := (.rptr (e_GAct.enc z19 ++ (e_GAct.cells (a2.drop ((p46 : Int).toNat + 1)))))) (ups := []) (some 34) 1 (.ixS 81 6 (tm 30) (tm 32)) (ev_ixS e_GAct (kk := .i64) (xs := a2) (j := p46) (by kernel_rfl) (by kernel_rfl) hz19 rfl (by intro h; cases h)) (zL 3 4 (zK (zrReg (zL 2 2 ?_)))))
 refine bindE hS (fun z20 hz20 hS => zO (some 38) 3 (.callr 210 [(tm 36), (tm 37)]) (ev_cR [240, 224, 225, 226] (f210_ok (d - 1) (dpt hd rfl) z19 p45 z20 hz20)) (zE (zkBlk (zkSeq (zrReg (zL 2 2 (zE ?_)))))))
 exact zkNil (eN1 hS hQ)
def f161_l3_j4_J (a1 : GScreen) (a2 : List GAct) (p42 : Gterminal) (p43 : Int) (p44 : Bool) : St := ⟨(up (up (up (up (up (up u0 33 (dB p44)) 32 (dI p43)) 31 (dI (a2.length : Int))) 30 (dE e_GAct a2)) 9 (pt 240)) 4 (pt 40)), (q19_ p42)⟩
def f161_l3_j4 (a1 : GScreen) (a2 : List GAct) (p42 : Gterminal) (p43 : Int) (p44 : Bool) : Option ((Gterminal × Int) ⊕ Gterminal) := (bif p44 then (f161_l3_j5 a1 a2 p42 p43) else (some (.inr p42)))
theorem f161_l3_j4_ok (hd : 11 ≤ d) (a1 : GScreen) (a2 : List GAct) {r : (Gterminal × Int) ⊕ Gterminal} (hQ : FQ (finL (f161_l3_H a1 a2) (f161_l3_X a1 a2) r) Q) (p42 : Gterminal) (p43 : Int) (p44 : Bool) (hS : f161_l3_j4 a1 a2 p42 p43 p44 = some r) (he : keepSt [4, 9, 30, 31, 32, 33] [(40, .id 40), (240, .id 240), (224, .id 224), (225, .id 225), (226, .id 226)] [] st = f161_l3_j4_J a1 a2 p42 p43 p44) : ZX d Q c161_3 [] st := by
 refine zrKeep he ?_
 unfold f161_l3_j4 at hS
 refine zrSeq (sR 33 hS (fun hS => ?_) (fun hS => ?_))
 ·exact zT (zrSkip (zkSeq (f161_l3_j5_ok hd a1 a2 hQ p42 p43 hS (by kernel_rfl))))
 ·exact zF (zrKeep (J := f161_l3_e0_J a1 a2 p42) (by kernel_rfl) (zrExit (zkSeqX (zkNil (eX0 hS hQ)))))
def f161_l3 (a1 : GScreen) (a2 : List GAct) (x : Gterminal × Int) : Option ((Gterminal × Int) ⊕ Gterminal) := (bif (decide (x.2 < (a2.length : Int))) then (f161_l3_j4 a1 a2 x.1 x.2 true) else (f161_l3_j4 a1 a2 x.1 x.2 false))
theorem f161_l3_ok (hd : 11 ≤ d) (a1 : GScreen) (a2 : List GAct) {r : (Gterminal × Int) ⊕ Gterminal} (hQ : FQ (finL (f161_l3_H a1 a2) (f161_l3_X a1 a2) r) Q) {x : Gterminal × Int} (hS : f161_l3 a1 a2 x = some r) (he : f161_l3_H a1 a2 x st) : ZX d Q c161_4 [] st := by
 refine zrKeep he ?_
 unfold f161_l3 at hS
 refine zS ?_
 refine sB 33 1 (.cmpI .lss (tm 32) (tm 31)) hS (fun hS => ?_) (fun hS => ?_)
 ·refine zK ?_
  exact f161_l3_j4_ok hd a1 a2 hQ x.1 x.2 true hS (by kernel_rfl)
 ·refine zK ?_
  exact f161_l3_j4_ok hd a1 a2 hQ x.1 x.2 false hS (by kernel_rfl)
def f161_j1_J (a1 : GScreen) (a2 : List GAct) : St := ⟨(up (up (up u0 4 (pt 40)) 2 (pt 24)) 1 (dE e_GAct a2)), (up (up h0 40 q6_) 24 ⟨0, some (.box (bd_GScreen a1))⟩)⟩
def f161_j1 (a1 : GScreen) (a2 : List GAct) : Option (GScreen × S8) := ((f59 a1).bind fun z12 => ((loopO (f161_l3 a1 a2) ((Gterminal.mk z12 ([])), 0)).bind fun z21 => (f161_j2 a1 a2 z21)))
theorem f161_j1_ok (hd : 11 ≤ d) (a1 : GScreen) (a2 : List GAct) {r : GScreen × S8} (hQ : FQ (f161_Q r) Q)  (hS : f161_j1 a1 a2 = some r) (he : keepSt [1, 2, 4] [(24, .id 24), (40, .id 40)] [] st = f161_j1_J a1 a2) : ZX d Q c161_5 [] st := by
 refine zrKeep he ?_
 unfold f161_j1 at hS
 refine zS (zL 1 1 ?_)
 refine bindE hS (fun z12 hz12 hS => zO (v := (.agg (bm_GScreen z12 224 1 225 1 226 1))) (ups := [(224, ⟨1, some (go0_GScreen z12)⟩), (225, ⟨1, some (go1_GScreen z12)⟩), (226, ⟨1, some (go2_GScreen z12)⟩)]) (some 27) 2 (.callf 59 [(tm 26)]) (ev_callF (args := [(.agg (bd_GScreen a1))]) (args' := [(.agg (bd_GScreen a1))]) (l := [(.agg (bd_GScreen a1))]) (refs := []) (r := (.agg (bw_GScreen z12))) (v := (.agg (bm_GScreen z12 224 1 225 1 226 1))) (ups' := [(224, ⟨1, some (go0_GScreen z12)⟩), (225, ⟨1, some (go1_GScreen z12)⟩), (226, ⟨1, some (go2_GScreen z12)⟩)]) (by kernel_rfl) (by kernel_rfl) (by kernel_rfl) (fz_cons rfl fz_nil) (by kernel_rfl) (f59_ok (d - 1) (dpt hd rfl) a1 z12 hz12) (by kernel_rfl) (by kernel_rfl) (by kernel_rfl) (by kernel_rfl)) (zL 3 5 (zK (zrSeq (zS (zL 3 3 (zK ?_)))))))
 refine zrBlk (bindE hS (fun z21 hz21 hS => zrLoop (f161_l3_H a1 a2) (f161_l3_X a1 a2) (fun x st r Q h0 hS hQ => f161_l3_ok hd a1 a2 hQ hS h0) (x := ((Gterminal.mk z12 ([])), 0)) (z := z21) (by show keepSt _ _ _ _ = _; kernel_rfl) hz21 ?_))
 intro e st' _ hX
 obtain ⟨rfl, rfl⟩ : _ ∧ _ := hX
 exact zkBlkX (zkSeq (f161_j2_ok hd a1 a2 hQ z21 hS (by kernel_rfl)))
def f161_j0_J (a1 : GScreen) (a2 : List GAct) : St := ⟨(up (up (up u0 4 (pt 40)) 2 (pt 24)) 1 (dE e_GAct a2)), (up (up h0 40 q6_) 24 ⟨0, some (.box (bd_GScreen a1))⟩)⟩
def f161_j0 (a1 : GScreen) (a2 : List GAct) : Option (GScreen × S8) := ((f209 a2).bind fun z22 => (f161_j1 a1 a2 ))
theorem f161_j0_ok (hd : 11 ≤ d) (a1 : GScreen) (a2 : List GAct) {r : GScreen × S8} (hQ : FQ (f161_Q r) Q)  (hS : f161_j0 a1 a2 = some r) (he : keepSt [1, 2, 4] [(24, .id 24), (40, .id 40)] [.cell 40 2 0 0 1, .cell 40 30 0 0 1, .cell 40 32 0 0 1] st = f161_j0_J a1 a2) : ZX d Q c161_6 [] st := by
 refine zrKeep he ?_
 unfold f161_j0 at hS
 refine zrSeq (zS (zL 1 1 ?_))
 refine bindE hS (fun z22 hz22 hS => zO (some 20) 2 (c1 209 19) (ev_cA (f209_ok (d - 1) (dpt hd rfl) a2 z22 hz22)) (zL 1 3 (zK (zS (zL 2 2 (zK (zF ?_)))))))
 exact zrSkip (zkSeq (f161_j1_ok hd a1 a2 hQ  hS (by kernel_rfl)))
def f161 (a1 : GScreen) (a2 : List GAct) : Option (GScreen × S8) := ((f55 a1).bind fun z23 => (f161_j0 a1 a2 ))
theorem f161_ok (d : Nat) (hd : 11 ≤ d) (a1 : GScreen) (a2 : List GAct) (r : GScreen × S8) (hS : f161 a1 a2 = some r) : lev codes baseL d 161 [(.agg (bd_GScreen a1)), (dE e_GAct a2)] [] = some ((.tup [(.agg (bw_GScreen r.1)), (.d (.str r.2)), (dI 0)]), []) := by
 refine lvG hd (fun Q hQ => ?_) codes161
 unfold f161 at hS
 show ZR _ Q c161_b [] _
 replace hQ : FQ (f161_Q r) Q := hQ
 refine zS (zL 4 4 (zK (zrSeq (zS (zL 1 1 ?_)))))
 refine bindE hS (fun z23 hz23 hS => zO (some 13) 2 (c1 55 12) (ev_cA (f55_ok (d - 1) (dpt hd rfl) a1 z23 hz23)) (zL 1 3 (zK (zS (zL 2 2 (zK (zF ?_)))))))
 exact zrSkip (zkSeq (f161_j0_ok hd a1 a2 hQ  hS (by kernel_rfl)))
/- (*farwriter/client.worker).data -/
def f103_fin (p5 : Gworker) : St := ⟨u0, (up h0 0 ⟨0, some (q8_ p5)⟩)⟩
theorem f103_out (p5 : Gworker) : outR (f103_fin p5) 1 c103.res = some ((.tup []), [(q8_ p5)]) := by
 kernel_rfl
def f103_Q (r : Gworker) (e : PX) (st : St) : Prop := DoneF c103 1 ((.tup []), [(q8_ r)]) e st
def f103_j1_J (a1 : S8) (a2 : Gworker) (p8 : Gworker) (p9 : List GAct) : St := ⟨(up (up u0 5 (dE e_GAct p9)) 0 (pt 0)), (up h0 0 ⟨0, some (q8_ p8)⟩)⟩
def f103_j1 (a1 : S8) (a2 : Gworker) (p8 : Gworker) (p9 : List GAct) : Option (Gworker) := ((f161 p8.Client.Screen p9).bind fun z10 => (bif (!decide (z10.2 = ([] : S8))) then none else (some (Gworker.mk ({ p8.Client with Screen := z10.1 }) p8.sent))))
theorem f103_j1_ok (hd : 12 ≤ d) (a1 : S8) (a2 : Gworker) {r : Gworker} (hQ : FQ (f103_Q r) Q) (p8 : Gworker) (p9 : List GAct) (hS : f103_j1 a1 a2 p8 p9 = some r) (he : keepSt [0, 5] [(0, .id 0)] [] st = f103_j1_J a1 a2 p8 p9) : ZX d Q c103_1 [] st := by
 refine zrKeep he ?_
 unfold f103_j1 at hS
 refine zS (zL 7 7 ?_)
 refine bindE hS (fun z10 hz10 hS => zO (v := (.tup [(.agg (bm_GScreen z10.1 496 1 497 1 498 1)), (.d (.str z10.2)), (dI 0)])) (ups := [(496, ⟨1, some (go0_GScreen z10.1)⟩), (497, ⟨1, some (go1_GScreen z10.1)⟩), (498, ⟨1, some (go2_GScreen z10.1)⟩)]) (some 61) 8 (.callf 161 [(tm 59), (tm 60)]) (ev_callF (args := [(.agg (bd_GScreen p8.Client.Screen)), (dE e_GAct p9)]) (args' := [(.agg (bd_GScreen p8.Client.Screen)), (dE e_GAct p9)]) (l := [(.agg (bd_GScreen p8.Client.Screen)), (dE e_GAct p9)]) (refs := []) (r := (.tup [(.agg (bw_GScreen z10.1)), (.d (.str z10.2)), (dI 0)])) (v := (.tup [(.agg (bm_GScreen z10.1 496 1 497 1 498 1)), (.d (.str z10.2)), (dI 0)])) (ups' := [(496, ⟨1, some (go0_GScreen z10.1)⟩), (497, ⟨1, some (go1_GScreen z10.1)⟩), (498, ⟨1, some (go2_GScreen z10.1)⟩)]) (by kernel_rfl) (by kernel_rfl) (by kernel_rfl) (fz_cons rfl (fz_cons rfl fz_nil)) (by kernel_rfl) (f161_ok (d - 1) (dpt hd rfl) p8.Client.Screen p9 z10 hz10) (by kernel_rfl) (by kernel_rfl) (by kernel_rfl) (by kernel_rfl)) (zL 9 17 (zK (zS (zL 1 1 ?_)))))
 refine sB 69 2 (.strO .neq (tm 68) (.const (.string ⟨#[]⟩))) hS (fun hS => ?_) (fun hS => ?_)
 ·cases hS
 ·refine zK (zF ?_)
  exact zrSkip (zkNil (endQ hS hQ (fNorm (by kernel_rfl) ((congrArg (fun s => outR s 1 c103.res) (by exact (by kernel_rfl : _ = (⟨u0, (up h0 0 ⟨0, some (.box (bx_Gworker (Gworker.mk (GClient.mk ((Gworker.mk ({ p8.Client with Screen := z10.1 }) p8.sent).Client.Wire) ((Gworker.mk ({ p8.Client with Screen := z10.1 }) p8.sent).Client.Cr) ((Gworker.mk ({ p8.Client with Screen := z10.1 }) p8.sent).Client.Part) ((Gworker.mk ({ p8.Client with Screen := z10.1 }) p8.sent).Client.Psr) (GScreen.mk (GGrid.mk ((Gworker.mk ({ p8.Client with Screen := z10.1 }) p8.sent).Client.Screen.Grid.Wide) ((Gworker.mk ({ p8.Client with Screen := z10.1 }) p8.sent).Client.Screen.Grid.High) z10.1.Grid.Cells) ((Gworker.mk ({ p8.Client with Screen := z10.1 }) p8.sent).Client.Screen.Row) ((Gworker.mk ({ p8.Client with Screen := z10.1 }) p8.sent).Client.Screen.Col) ((Gworker.mk ({ p8.Client with Screen := z10.1 }) p8.sent).Client.Screen.Late) ((Gworker.mk ({ p8.Client with Screen := z10.1 }) p8.sent).Client.Screen.Top) ((Gworker.mk ({ p8.Client with Screen := z10.1 }) p8.sent).Client.Screen.Bottom) ((Gworker.mk ({ p8.Client with Screen := z10.1 }) p8.sent).Client.Screen.Pen) ((Gworker.mk ({ p8.Client with Screen := z10.1 }) p8.sent).Client.Screen.Modes) ((Gworker.mk ({ p8.Client with Screen := z10.1 }) p8.sent).Client.Screen.Stops) ((Gworker.mk ({ p8.Client with Screen := z10.1 }) p8.sent).Client.Screen.Pages) ((Gworker.mk ({ p8.Client with Screen := z10.1 }) p8.sent).Client.Screen.Shift) ((Gworker.mk ({ p8.Client with Screen := z10.1 }) p8.sent).Client.Screen.Saved) (GGrid.mk ((Gworker.mk ({ p8.Client with Screen := z10.1 }) p8.sent).Client.Screen.Other.Wide) ((Gworker.mk ({ p8.Client with Screen := z10.1 }) p8.sent).Client.Screen.Other.High) z10.1.Other.Cells) ((Gworker.mk ({ p8.Client with Screen := z10.1 }) p8.sent).Client.Screen.Title) z10.1.Past) ((Gworker.mk ({ p8.Client with Screen := z10.1 }) p8.sent).Client.Neg) ((Gworker.mk ({ p8.Client with Screen := z10.1 }) p8.sent).Client.Sorts) ((Gworker.mk ({ p8.Client with Screen := z10.1 }) p8.sent).Client.Vars) ((Gworker.mk ({ p8.Client with Screen := z10.1 }) p8.sent).Client.Keys) ((Gworker.mk ({ p8.Client with Screen := z10.1 }) p8.sent).Client.Mask) ((Gworker.mk ({ p8.Client with Screen := z10.1 }) p8.sent).Client.Editor) ((Gworker.mk ({ p8.Client with Screen := z10.1 }) p8.sent).Client.Edit)) ((Gworker.mk ({ p8.Client with Screen := z10.1 }) p8.sent).sent)) (.d (.sl z10.1.Grid.Cells.length (((e_GCell.cells z10.1.Grid.Cells).drop (0 * e_GCell.k)).take (z10.1.Grid.Cells.length * e_GCell.k)))) (.d (.sl z10.1.Other.Cells.length (((e_GCell.cells z10.1.Other.Cells).drop (0 * e_GCell.k)).take (z10.1.Other.Cells.length * e_GCell.k)))) (.d (.sl z10.1.Past.length (((e_GLine.cells z10.1.Past).drop (0 * e_GLine.k)).take (z10.1.Past.length * e_GLine.k)))) (.d (.sl ((Gworker.mk ({ p8.Client with Screen := z10.1 }) p8.sent).Client.Sorts.Names).length (eStr.cells ((Gworker.mk ({ p8.Client with Screen := z10.1 }) p8.sent).Client.Sorts.Names)))) (.d (.sl ((Gworker.mk ({ p8.Client with Screen := z10.1 }) p8.sent).Client.Vars).length (e_GVar.cells ((Gworker.mk ({ p8.Client with Screen := z10.1 }) p8.sent).Client.Vars))))))⟩)⟩ : St)).trans (by simp only [Enc.frz]; kernel_rfl) : finSt c103.fin _ = f103_fin (Gworker.mk ({ p8.Client with Screen := z10.1 }) p8.sent))).trans (f103_out (Gworker.mk ({ p8.Client with Screen := z10.1 }) p8.sent))))))
def f103_j0_J (a1 : S8) (a2 : Gworker) (p6 : Gworker) (p7 : List Int) : St := ⟨(up (up u0 4 (dL p7)) 0 (pt 0)), (up h0 0 ⟨0, some (q8_ p6)⟩)⟩
def f103_j0 (a1 : S8) (a2 : Gworker) (p6 : Gworker) (p7 : List Int) : Option (Gworker) := ((f160 p6.Client.Psr p7).bind fun z9 => (f103_j1 a1 a2 (Gworker.mk ({ p6.Client with Psr := z9.1 }) p6.sent) z9.2))
theorem f103_j0_ok (hd : 12 ≤ d) (a1 : S8) (a2 : Gworker) {r : Gworker} (hQ : FQ (f103_Q r) Q) (p6 : Gworker) (p7 : List Int) (hS : f103_j0 a1 a2 p6 p7 = some r) (he : keepSt [0, 4] [(0, .id 0)] [] st = f103_j0_J a1 a2 p6 p7) : ZX d Q c103_2 [] st := by
 refine zrKeep he ?_
 unfold f103_j0 at hS
 refine zS (zL 7 7 ?_)
 refine bindE hS (fun z9 hz9 hS => zO (v := (.tup [(.agg (q16_ z9.1)), (.r (.msl 376 1 0 z9.2.length)), (dI 0)])) (ups := [(376, ⟨1, some (.own 81 6 (e_GAct.cells z9.2))⟩)]) (some 46) 8 (.callf 160 [(tm 44), (tm 45)]) (ev_callF (args := [(.agg (q16_ p6.Client.Psr)), (dL p7)]) (args' := [(.agg (q16_ p6.Client.Psr)), (dL p7)]) (l := [(.agg (q16_ p6.Client.Psr)), (dL p7)]) (refs := []) (r := (.tup [(.agg (q16_ z9.1)), (.r (.own 0 81 6 z9.2.length (e_GAct.cells z9.2))), (dI 0)])) (v := (.tup [(.agg (q16_ z9.1)), (.r (.msl 376 1 0 z9.2.length)), (dI 0)])) (ups' := [(376, ⟨1, some (.own 81 6 (e_GAct.cells z9.2))⟩)]) (by kernel_rfl) (by kernel_rfl) (by kernel_rfl) (fz_cons rfl (fz_cons rfl fz_nil)) (by kernel_rfl) (f160_ok (d - 1) (dpt hd rfl) p6.Client.Psr p7 z9 hz9) (by kernel_rfl) (by kernel_rfl) (by kernel_rfl) (by kernel_rfl)) (zL 9 17 (zK (zS (zL 1 1 (zK ?_))))))
 exact f103_j1_ok hd a1 a2 hQ (Gworker.mk ({ p6.Client with Psr := z9.1 }) p6.sent) z9.2 hS (by exact (by kernel_rfl : _ = (⟨(up (up u0 5 (.d (.sl z9.2.length (((e_GAct.cells z9.2).drop (0 * e_GAct.k)).take (z9.2.length * e_GAct.k))))) 0 (pt 0)), (up h0 0 ⟨0, some (.box (bx_Gworker (Gworker.mk ({ p6.Client with Psr := z9.1 }) p6.sent) (.d (.sl ((Gworker.mk ({ p6.Client with Psr := z9.1 }) p6.sent).Client.Screen.Grid.Cells).length (e_GCell.cells ((Gworker.mk ({ p6.Client with Psr := z9.1 }) p6.sent).Client.Screen.Grid.Cells)))) (.d (.sl ((Gworker.mk ({ p6.Client with Psr := z9.1 }) p6.sent).Client.Screen.Other.Cells).length (e_GCell.cells ((Gworker.mk ({ p6.Client with Psr := z9.1 }) p6.sent).Client.Screen.Other.Cells)))) (.d (.sl ((Gworker.mk ({ p6.Client with Psr := z9.1 }) p6.sent).Client.Screen.Past).length (e_GLine.cells ((Gworker.mk ({ p6.Client with Psr := z9.1 }) p6.sent).Client.Screen.Past)))) (.d (.sl ((Gworker.mk ({ p6.Client with Psr := z9.1 }) p6.sent).Client.Sorts.Names).length (eStr.cells ((Gworker.mk ({ p6.Client with Psr := z9.1 }) p6.sent).Client.Sorts.Names)))) (.d (.sl ((Gworker.mk ({ p6.Client with Psr := z9.1 }) p6.sent).Client.Vars).length (e_GVar.cells ((Gworker.mk ({ p6.Client with Psr := z9.1 }) p6.sent).Client.Vars))))))⟩)⟩ : St)).trans (by simp only [Enc.frz]; kernel_rfl))
def f103 (a1 : S8) (a2 : Gworker) : Option (Gworker) := ((f107 a2 [] 0).bind fun z6 => ((f158 a2.Client.Cr a1 z6).bind fun z7 => ((f159 a2.Client.Part z7.2).bind fun z8 => (f103_j0 a1 a2 (Gworker.mk ({ a2.Client with Cr := z7.1, Part := [] }) a2.sent) z8))))
theorem f103_ok (d : Nat) (hd : 12 ≤ d) (a1 : S8) (a2 : Gworker) (r : Gworker) (hS : f103 a1 a2 = some r) : lev codes baseL d 103 [(pt 0), (.d (.str a1))] [(q8_ a2)] = some ((.tup []), [(q8_ r)]) := by
 refine lvG hd (fun Q hQ => ?_) codes103
 unfold f103 at hS
 show ZR _ Q c103_b [] _
 replace hQ : FQ (f103_Q r) Q := hQ
 refine zrSeq (zrRegD (zdR 8 8 (bindE hS (fun z6 hz6 hS => zdO (some 16) 9 none (.call 107 [(tm 15), (ki 0)]) (ev_cA (f107_ok (d - 1) (dpt hd rfl) a2 [] 0 z6 hz6)) (bindE hS (fun z7 hz7 hS => zdO (some 17) 10 none (.call 158 [(tm 13), (tm 14), (tm 16)]) (ev_cA (f158_ok (d - 1) (dpt hd rfl) a2.Client.Cr a1 z6 z7 hz7)) (zdR 8 18 (zdE (zkSeq (zS (zL 1 1 (zK (zS (zL 7 7 ?_))))))))))))))
 refine bindE hS (fun z8 hz8 hS => zO (some 31) 8 (.call 159 [(tm 29), (tm 30)]) (ev_cA (f159_ok (d - 1) (dpt hd rfl) a2.Client.Part z7.2 z8 hz8)) (zL 9 17 (zK (zS (zL 1 1 (zK ?_))))))
 exact f103_j0_ok hd a1 a2 hQ (Gworker.mk ({ a2.Client with Cr := z7.1, Part := [] }) a2.sent) z8 hS (by exact (by kernel_rfl : _ = (⟨(up (up u0 4 (.d (.sl z8.length (((eI.cells z8).drop (0 * eI.k)).take (z8.length * eI.k))))) 0 (pt 0)), (up h0 0 ⟨0, some (.box (bx_Gworker (Gworker.mk ({ a2.Client with Cr := z7.1, Part := [] }) a2.sent) (.d (.sl ((Gworker.mk ({ a2.Client with Cr := z7.1, Part := [] }) a2.sent).Client.Screen.Grid.Cells).length (e_GCell.cells ((Gworker.mk ({ a2.Client with Cr := z7.1, Part := [] }) a2.sent).Client.Screen.Grid.Cells)))) (.d (.sl ((Gworker.mk ({ a2.Client with Cr := z7.1, Part := [] }) a2.sent).Client.Screen.Other.Cells).length (e_GCell.cells ((Gworker.mk ({ a2.Client with Cr := z7.1, Part := [] }) a2.sent).Client.Screen.Other.Cells)))) (.d (.sl ((Gworker.mk ({ a2.Client with Cr := z7.1, Part := [] }) a2.sent).Client.Screen.Past).length (e_GLine.cells ((Gworker.mk ({ a2.Client with Cr := z7.1, Part := [] }) a2.sent).Client.Screen.Past)))) (.d (.sl ((Gworker.mk ({ a2.Client with Cr := z7.1, Part := [] }) a2.sent).Client.Sorts.Names).length (eStr.cells ((Gworker.mk ({ a2.Client with Cr := z7.1, Part := [] }) a2.sent).Client.Sorts.Names)))) (.d (.sl ((Gworker.mk ({ a2.Client with Cr := z7.1, Part := [] }) a2.sent).Client.Vars).length (e_GVar.cells ((Gworker.mk ({ a2.Client with Cr := z7.1, Part := [] }) a2.sent).Client.Vars))))))⟩)⟩ : St)).trans (by simp only [Enc.frz]; kernel_rfl))
/- (*farwriter/client.worker).bytes -/
def f60_fin (p27 : Gworker) : St := ⟨(up u0 4 (dI 0)), (up h0 0 ⟨0, some (q8_ p27)⟩)⟩
theorem f60_out (p27 : Gworker) : outR (f60_fin p27) 1 c60.res = some ((dI 0), [(q8_ p27)]) := by
 kernel_rfl
def f60_Q (r : Gworker) (e : PX) (st : St) : Prop := DoneF c60 1 ((dI 0), [(q8_ r)]) e st
def f60_l1_J (a1 : S8) (a2 : Gworker) (x : Gworker × (List GTok) × Int × Int) : St := ⟨(up (up (up (up u0 31 (dI x.2.2.2)) 30 (dI x.2.2.1)) 29 (.r (.msl 168 0 0 x.2.1.length))) 0 (pt 0)), (up (up h0 168 ⟨0, some (.own 201 4 (e_GTok.cells x.2.1))⟩) 0 ⟨0, some (q8_ x.1)⟩)⟩
def f60_l1_H (a1 : S8) (a2 : Gworker) (x : Gworker × (List GTok) × Int × Int) (st : St) : Prop := keepSt [0, 29, 30, 31] [(0, .id 0), (168, .id 168)] [] st = f60_l1_J a1 a2 x
def f60_l1_e0_J (a1 : S8) (a2 : Gworker) (p53 : Gworker) : St := ⟨u0, (up h0 0 ⟨0, some (q8_ p53)⟩)⟩
def f60_l1_X (a1 : S8) (a2 : Gworker) (z : Gworker) (e : PX) (st : St) : Prop := e = .exit 0 ∧ st = f60_l1_e0_J a1 a2 z
def f60_l1_j3_J (a1 : S8) (a2 : Gworker) (p64 : Gworker) (p65 : List GTok) (p66 : Int) (p67 : Int) : St := ⟨(up (up (up (up u0 31 (dI p67)) 30 (dI p66)) 29 (.r (.msl 168 0 0 p65.length))) 0 (pt 0)), (up (up h0 168 ⟨0, some (.own 201 4 (e_GTok.cells p65))⟩) 0 ⟨0, some (q8_ p64)⟩)⟩
def f60_l1_j3 (a1 : S8) (a2 : Gworker) (p64 : Gworker) (p65 : List GTok) (p66 : Int) (p67 : Int) : Option ((Gworker × (List GTok) × Int × Int) ⊕ Gworker) := ((inR p67 p65.length).bind fun m21 => ((p65[m21]?).bind fun z22 => (bif (decide (z22.Kind = 1)) then ((f103 z22.Data p64).bind fun z23 => (some (.inl (z23, p65, p66, (IntKind.i64.wrap (p67 + 1)))))) else none)))
theorem f60_l1_j3_ok (hd : 13 ≤ d) (a1 : S8) (a2 : Gworker) {r : (Gworker × (List GTok) × Int × Int) ⊕ Gworker} (hQ : FQ (finL (f60_l1_H a1 a2) (f60_l1_X a1 a2) r) Q) (p64 : Gworker) (p65 : List GTok) (p66 : Int) (p67 : Int) (hS : f60_l1_j3 a1 a2 p64 p65 p66 p67 = some r) (he : keepSt [0, 29, 30, 31] [(0, .id 0), (168, .id 168)] [] st = f60_l1_j3_J a1 a2 p64 p65 p66 p67) : ZX d Q c60_1 [] st := by
 refine zrKeep he ?_
 unfold f60_l1_j3 at hS
 refine zrSeq (zrBlk (zS ?_))
 refine bindE hS (fun m21 hm21 hS => zO (v := (.r (.ptr 168 0 ((0 + m21) * 4)))) (ups := []) (some 33) 1 (.ixS 201 4 (tm 29) (tm 31)) (ev_ixM (kk := .i64) (b := 168) (g := 0) (l := 0) (n := p65.length) (j := p67) (cs := e_GTok.cells p65) (by kernel_rfl) (by kernel_rfl) (by kernel_rfl) hm21) (bindE hS (fun z22 hz22 hS => zO (v := (.agg ((dI z22.Kind) :: ((dI z22.Cmd) :: ((dI z22.Opt) :: ((.d (.str z22.Data)) :: [])))))) (ups := []) (some 34) 2 (lt 4 33) (ev_loadM e_GTok (b := 168) (g := 0) (o := (0 + m21) * 4) (e := 201) (k := 4) (m := m21) (fo := 0) (xs := p65) (by kernel_rfl) (by kernel_rfl) (by rw [Nat.zero_add]; rfl) hz22 (by kernel_rfl) (by kernel_rfl) (by kernel_rfl)) (zL 2 4 (zK ?_)))))
 refine zrBlk (zS (zL 2 2 ?_))
 refine sB 38 3 (ck 37 1) hS (fun hS => ?_) (fun hS => ?_)
 ·refine zL 1 4 (zK (zT (zrReg (zL 3 3 ?_))))
  refine bindE hS (fun z23 hz23 hS => zO (some 42) 4 (.callr 103 [(tm 39), (tm 41)]) (ev_cR [0] (f103_ok (d - 1) (dpt hd rfl) z22.Data p64 z23 hz23)) (zE (zkBlk (zkBlk (zkSeq (zrReg (zL 2 2 (zE ?_))))))))
  exact zkNil (eN1 hS hQ)
 ·cases hS
def f60_l1_j2_J (a1 : S8) (a2 : Gworker) (p59 : Gworker) (p60 : List GTok) (p61 : Int) (p62 : Int) (p63 : Bool) : St := ⟨(up (up (up (up (up u0 32 (dB p63)) 31 (dI p62)) 30 (dI p61)) 29 (.r (.msl 168 0 0 p60.length))) 0 (pt 0)), (up (up h0 168 ⟨0, some (.own 201 4 (e_GTok.cells p60))⟩) 0 ⟨0, some (q8_ p59)⟩)⟩
def f60_l1_j2 (a1 : S8) (a2 : Gworker) (p59 : Gworker) (p60 : List GTok) (p61 : Int) (p62 : Int) (p63 : Bool) : Option ((Gworker × (List GTok) × Int × Int) ⊕ Gworker) := (bif p63 then (f60_l1_j3 a1 a2 p59 p60 p61 p62) else (some (.inr p59)))
theorem f60_l1_j2_ok (hd : 13 ≤ d) (a1 : S8) (a2 : Gworker) {r : (Gworker × (List GTok) × Int × Int) ⊕ Gworker} (hQ : FQ (finL (f60_l1_H a1 a2) (f60_l1_X a1 a2) r) Q) (p59 : Gworker) (p60 : List GTok) (p61 : Int) (p62 : Int) (p63 : Bool) (hS : f60_l1_j2 a1 a2 p59 p60 p61 p62 p63 = some r) (he : keepSt [0, 29, 30, 31, 32] [(0, .id 0), (168, .id 168)] [] st = f60_l1_j2_J a1 a2 p59 p60 p61 p62 p63) : ZX d Q c60_2 [] st := by
 refine zrKeep he ?_
 unfold f60_l1_j2 at hS
 refine zrSeq (sR 32 hS (fun hS => ?_) (fun hS => ?_))
 ·exact zT (zrSkip (zkSeq (f60_l1_j3_ok hd a1 a2 hQ p59 p60 p61 p62 hS (by kernel_rfl))))
 ·exact zF (zrKeep (J := f60_l1_e0_J a1 a2 p59) (by kernel_rfl) (zrExit (zkSeqX (zkNil (eX0 hS hQ)))))
def f60_l1 (a1 : S8) (a2 : Gworker) (x : Gworker × (List GTok) × Int × Int) : Option ((Gworker × (List GTok) × Int × Int) ⊕ Gworker) := (bif (decide (x.2.2.2 < x.2.2.1)) then (f60_l1_j2 a1 a2 x.1 x.2.1 x.2.2.1 x.2.2.2 true) else (f60_l1_j2 a1 a2 x.1 x.2.1 x.2.2.1 x.2.2.2 false))
theorem f60_l1_ok (hd : 13 ≤ d) (a1 : S8) (a2 : Gworker) {r : (Gworker × (List GTok) × Int × Int) ⊕ Gworker} (hQ : FQ (finL (f60_l1_H a1 a2) (f60_l1_X a1 a2) r) Q) {x : Gworker × (List GTok) × Int × Int} (hS : f60_l1 a1 a2 x = some r) (he : f60_l1_H a1 a2 x st) : ZX d Q c60_3 [] st := by
 refine zrKeep he ?_
 unfold f60_l1 at hS
 refine zS ?_
 refine sB 32 1 (.cmpI .lss (tm 31) (tm 30)) hS (fun hS => ?_) (fun hS => ?_)
 ·refine zK ?_
  exact f60_l1_j2_ok hd a1 a2 hQ x.1 x.2.1 x.2.2.1 x.2.2.2 true hS (by kernel_rfl)
 ·refine zK ?_
  exact f60_l1_j2_ok hd a1 a2 hQ x.1 x.2.1 x.2.2.1 x.2.2.2 false hS (by kernel_rfl)
def f60_j0_J (a1 : S8) (a2 : Gworker) : St := ⟨(up (up u0 1 (.d (.str a1))) 0 (pt 0)), (up h0 0 ⟨0, some (q8_ a2)⟩)⟩
def f60_j0 (a1 : S8) (a2 : Gworker) : Option (Gworker) := ((f102 a2.Client.Wire a1).bind fun z11 => ((loopO (f60_l1 a1 a2) ((Gworker.mk ({ a2.Client with Wire := z11.1 }) a2.sent), z11.2, (z11.2.length : Int), 0)).bind fun z24 => (some z24)))
theorem f60_j0_ok (hd : 13 ≤ d) (a1 : S8) (a2 : Gworker) {r : Gworker} (hQ : FQ (f60_Q r) Q)  (hS : f60_j0 a1 a2 = some r) (he : keepSt [0, 1] [(0, .id 0)] [] st = f60_j0_J a1 a2) : ZX d Q c60_4 [] st := by
 refine zrKeep he ?_
 unfold f60_j0 at hS
 refine zS (zL 6 6 ?_)
 refine bindE hS (fun z11 hz11 hS => zO (some 20) 7 (.call 102 [(tm 18), (tm 19)]) (ev_cA (f102_ok (d - 1) (dpt hd rfl) a2.Client.Wire a1 z11 hz11)) (zL 8 15 (zK (zS (zL 6 6 (zK (zrSeq (zS (zL 3 3 (zK ?_))))))))))
 refine zrBlk (bindE hS (fun z24 hz24 hS => zrLoop (f60_l1_H a1 a2) (f60_l1_X a1 a2) (fun x st r Q h0 hS hQ => f60_l1_ok hd a1 a2 hQ hS h0) (x := ((Gworker.mk ({ a2.Client with Wire := z11.1 }) a2.sent), z11.2, (z11.2.length : Int), 0)) (z := z24) (by show keepSt _ _ _ _ = _; kernel_rfl) hz24 ?_))
 intro e st' _ hX
 obtain ⟨rfl, rfl⟩ : _ ∧ _ := hX
 refine zkBlkX (zkSeq (zS (zL 1 1 (zK ?_))))
 exact zrRet (zkNil (endQ hS hQ (fR (f60_out z24))))
def f60 (a1 : S8) (a2 : Gworker) : Option (Gworker) := (bif (decide (4096 < (a1.length : Int))) then none else (f60_j0 a1 a2 ))
theorem f60_ok (d : Nat) (hd : 13 ≤ d) (a1 : S8) (a2 : Gworker) (r : Gworker) (hS : f60 a1 a2 = some r) : lev codes baseL d 60 [(pt 0), (.d (.str a1))] [(q8_ a2)] = some ((dI 0), [(q8_ r)]) := by
 refine lvG hd (fun Q hQ => ?_) codes60
 unfold f60 at hS
 show ZR _ Q c60_b [] _
 replace hQ : FQ (f60_Q r) Q := hQ
 refine zS (zL 1 1 (zK (zrSeq (zS (zL 2 2 ?_)))))
 refine sB 12 3 (.cmpI .gtr (tm 11) (ki 4096)) hS (fun hS => ?_) (fun hS => ?_)
 ·cases hS
 ·refine zK (zF ?_)
  exact zrSkip (zkSeq (f60_j0_ok hd a1 a2 hQ  hS (by kernel_rfl)))
/- (*farwriter/client.worker).do -/
def f30_fin (p1 : Gworker) : St := ⟨(up u0 4 (dI 0)), (up h0 0 ⟨0, some (q8_ p1)⟩)⟩
theorem f30_out (p1 : Gworker) : outR (f30_fin p1) 1 c30.res = some ((dI 0), [(q8_ p1)]) := by
 kernel_rfl
def f30_Q (r : Gworker) (e : PX) (st : St) : Prop := DoneF c30 1 ((dI 0), [(q8_ r)]) e st
def f30 (a1 : GEvent) (a2 : Gworker) : Option (Gworker) := (bif (decide (a1.Kind = 1)) then ((f60 a1.Data a2).bind fun z2 => (some z2)) else none)
theorem f30_ok (d : Nat) (hd : 14 ≤ d) (a1 : GEvent) (a2 : Gworker) (r : Gworker) (hS : f30 a1 a2 = some r) : lev codes baseL d 30 [(pt 0), (q12_ a1)] [(q8_ a2)] = some ((dI 0), [(q8_ r)]) := by
 refine lvG hd (fun Q hQ => ?_) codes30
 unfold f30 at hS
 show ZR _ Q c30_b [] _
 replace hQ : FQ (f30_Q r) Q := hQ
 refine zS (zL 2 2 (zK (zS (zL 7 7 (zK (zrSeq (zS (zL 2 2 (zK ?_)))))))))
 refine zrBlk (zS ?_)
 refine sB 22 1 (ck 20 1) hS (fun hS => ?_) (fun hS => ?_)
 ·refine zL 1 2 (zK (zT (zS (zL 3 3 ?_))))
  refine bindE hS (fun z2 hz2 hS => zO (some 26) 4 (.callr 60 [(tm 23), (tm 25)]) (ev_cR [0] (f60_ok (d - 1) (dpt hd rfl) a1.Data a2 z2 hz2)) (zL 1 5 (zK ?_)))
  exact zrRet (zkBlkR (zkSeqR (zkNil (endQ hS hQ (fR (f30_out z2))))))
 ·cases hS
/- farwriter/client.Do -/
def f13_fin (p2 : GClient) (p3 : S8) : St := ⟨(up (up (up u0 6 (dI 0)) 5 (.d (.str p3))) 4 (pt 40)), (up h0 40 (q13_ p2))⟩
theorem f13_out (p2 : GClient) (p3 : S8) : outR (f13_fin p2 p3) 0 c13.res = some ((.tup [(q1_ p2), (.d (.str p3)), (dI 0)]), []) := by
 kernel_rfl
def f13_Q (r : GClient × S8) (e : PX) (st : St) : Prop := DoneF c13 0 ((.tup [(q1_ r.1), (.d (.str r.2)), (dI 0)]), []) e st
def f13_j2_J (a1 : GClient) (a2 : GEvent) (p5 : Gworker) : St := ⟨(up (up u0 8 (pt 168)) 4 (pt 40)), (up (up h0 168 ⟨0, some (q8_ p5)⟩) 40 q5_)⟩
def f13_j2 (a1 : GClient) (a2 : GEvent) (p5 : Gworker) : Option (GClient × S8) := (some (p5.Client, p5.sent))
theorem f13_j2_ok (hd : 15 ≤ d) (a1 : GClient) (a2 : GEvent) {r : GClient × S8} (hQ : FQ (f13_Q r) Q) (p5 : Gworker) (hS : f13_j2 a1 a2 p5 = some r) (he : keepSt [4, 8] [(40, .id 40), (168, .id 168)] [] st = f13_j2_J a1 a2 p5) : ZX d Q c13_1 [] st := by
 refine zrKeep he ?_
 unfold f13_j2 at hS
 exact zrSeq (zrRegD (zdR 11 11 (zdE (zkSeq (zrRet (zkNil (endQ hS hQ (fR (f13_out p5.Client p5.sent)))))))))
def f13_j1_J (a1 : GClient) (a2 : GEvent) (p4 : Gworker) : St := ⟨(up (up (up (up u0 8 (pt 168)) 4 (pt 40)) 3 (pt 32)) 2 (pt 24)), (up (up (up (up h0 168 ⟨0, some (q8_ p4)⟩) 40 q5_) 32 ⟨0, some (.box (bx_GEvent a2 (dL a2.Runes)))⟩) 24 (q13_ a1))⟩
def f13_j1 (a1 : GClient) (a2 : GEvent) (p4 : Gworker) : Option (GClient × S8) := ((f30 a2 p4).bind fun z7 => (f13_j2 a1 a2 z7))
theorem f13_j1_ok (hd : 15 ≤ d) (a1 : GClient) (a2 : GEvent) {r : GClient × S8} (hQ : FQ (f13_Q r) Q) (p4 : Gworker) (hS : f13_j1 a1 a2 p4 = some r) (he : keepSt [2, 3, 4, 8] [(24, .id 24), (32, .id 32), (40, .id 40), (168, .id 168)] [] st = f13_j1_J a1 a2 p4) : ZX d Q c13_2 [] st := by
 refine zrKeep he ?_
 unfold f13_j1 at hS
 refine zrSeq (zS (zL 2 2 ?_))
 refine bindE hS (fun z7 hz7 hS => zO (some 23) 3 (.callr 30 [(tm 21), (tm 22)]) (ev_cR [168] (f30_ok (d - 1) (dpt hd rfl) a2 p4 z7 hz7)) (zL 1 4 (zK (zS (zL 2 2 (zK (zF ?_)))))))
 exact zrSkip (zkSeq (f13_j2_ok hd a1 a2 hQ z7 hS (by kernel_rfl)))
def f13_j0_J (a1 : GClient) (a2 : GEvent) : St := ⟨(up (up (up u0 4 (pt 40)) 3 (pt 32)) 2 (pt 24)), (up (up (up h0 40 q5_) 32 ⟨0, some (.box (bx_GEvent a2 (dL a2.Runes)))⟩) 24 (q13_ a1))⟩
def f13_j0 (a1 : GClient) (a2 : GEvent) : Option (GClient × S8) := ((f29 a1).bind fun z5 => (f13_j1 a1 a2 (Gworker.mk z5 ([]))))
theorem f13_j0_ok (hd : 15 ≤ d) (a1 : GClient) (a2 : GEvent) {r : GClient × S8} (hQ : FQ (f13_Q r) Q)  (hS : f13_j0 a1 a2 = some r) (he : keepSt [2, 3, 4] [(24, .id 24), (32, .id 32), (40, .id 40)] [.cell 40 14 0 0 1, .cell 40 42 0 0 1, .cell 40 44 0 0 1, .cell 40 565 0 0 1, .cell 40 567 0 0 1] st = f13_j0_J a1 a2) : ZX d Q c13_3 [] st := by
 refine zrKeep he ?_
 unfold f13_j0 at hS
 refine zS (zL 1 1 ?_)
 refine bindE hS (fun z5 hz5 hS => zO (v := (q14_ z5)) (ups := [(152, ⟨1, some (go0_GScreen z5.Screen)⟩), (153, ⟨1, some (go1_GScreen z5.Screen)⟩), (154, ⟨1, some (go2_GScreen z5.Screen)⟩), (155, ⟨1, some (.own 9 1 (eStr.cells z5.Sorts.Names))⟩), (156, ⟨1, some (.own 107 4 (e_GVar.cells z5.Vars))⟩)]) (some 18) 2 (.callf 29 [(tm 17)]) (ev_callF (args := [(q1_ a1)]) (args' := [(q1_ a1)]) (l := [(q1_ a1)]) (refs := []) (r := (q3_ z5)) (v := (q14_ z5)) (ups' := [(152, ⟨1, some (go0_GScreen z5.Screen)⟩), (153, ⟨1, some (go1_GScreen z5.Screen)⟩), (154, ⟨1, some (go2_GScreen z5.Screen)⟩), (155, ⟨1, some (.own 9 1 (eStr.cells z5.Sorts.Names))⟩), (156, ⟨1, some (.own 107 4 (e_GVar.cells z5.Vars))⟩)]) (by kernel_rfl) (by kernel_rfl) (by kernel_rfl) (fz_cons rfl fz_nil) (by kernel_rfl) (f29_ok (d - 1) (dpt hd rfl) a1 z5 hz5) (by kernel_rfl) (by kernel_rfl) (by kernel_rfl) (by kernel_rfl)) (zL 3 5 (zK ?_)))
 exact f13_j1_ok hd a1 a2 hQ (Gworker.mk z5 ([])) hS (by exact (by kernel_rfl : _ = (⟨(up (up (up (up u0 8 (pt 168)) 4 (pt 40)) 3 (pt 32)) 2 (pt 24)), (up (up (up (up h0 168 ⟨0, some (.box (bx_Gworker (Gworker.mk (GClient.mk ((Gworker.mk z5 ([])).Client.Wire) ((Gworker.mk z5 ([])).Client.Cr) ((Gworker.mk z5 ([])).Client.Part) ((Gworker.mk z5 ([])).Client.Psr) (GScreen.mk (GGrid.mk ((Gworker.mk z5 ([])).Client.Screen.Grid.Wide) ((Gworker.mk z5 ([])).Client.Screen.Grid.High) z5.Screen.Grid.Cells) ((Gworker.mk z5 ([])).Client.Screen.Row) ((Gworker.mk z5 ([])).Client.Screen.Col) ((Gworker.mk z5 ([])).Client.Screen.Late) ((Gworker.mk z5 ([])).Client.Screen.Top) ((Gworker.mk z5 ([])).Client.Screen.Bottom) ((Gworker.mk z5 ([])).Client.Screen.Pen) ((Gworker.mk z5 ([])).Client.Screen.Modes) ((Gworker.mk z5 ([])).Client.Screen.Stops) ((Gworker.mk z5 ([])).Client.Screen.Pages) ((Gworker.mk z5 ([])).Client.Screen.Shift) ((Gworker.mk z5 ([])).Client.Screen.Saved) (GGrid.mk ((Gworker.mk z5 ([])).Client.Screen.Other.Wide) ((Gworker.mk z5 ([])).Client.Screen.Other.High) z5.Screen.Other.Cells) ((Gworker.mk z5 ([])).Client.Screen.Title) z5.Screen.Past) ((Gworker.mk z5 ([])).Client.Neg) (GSorts.mk z5.Sorts.Names ((Gworker.mk z5 ([])).Client.Sorts.At)) z5.Vars ((Gworker.mk z5 ([])).Client.Keys) ((Gworker.mk z5 ([])).Client.Mask) ((Gworker.mk z5 ([])).Client.Editor) ((Gworker.mk z5 ([])).Client.Edit)) ((Gworker.mk z5 ([])).sent)) (.d (.sl z5.Screen.Grid.Cells.length (((e_GCell.cells z5.Screen.Grid.Cells).drop (0 * e_GCell.k)).take (z5.Screen.Grid.Cells.length * e_GCell.k)))) (.d (.sl z5.Screen.Other.Cells.length (((e_GCell.cells z5.Screen.Other.Cells).drop (0 * e_GCell.k)).take (z5.Screen.Other.Cells.length * e_GCell.k)))) (.d (.sl z5.Screen.Past.length (((e_GLine.cells z5.Screen.Past).drop (0 * e_GLine.k)).take (z5.Screen.Past.length * e_GLine.k)))) (.d (.sl z5.Sorts.Names.length (((eStr.cells z5.Sorts.Names).drop (0 * eStr.k)).take (z5.Sorts.Names.length * eStr.k)))) (.d (.sl z5.Vars.length (((e_GVar.cells z5.Vars).drop (0 * e_GVar.k)).take (z5.Vars.length * e_GVar.k))))))⟩) 40 q5_) 32 ⟨0, some (.box (bx_GEvent a2 (dL a2.Runes)))⟩) 24 (q13_ a1))⟩ : St)).trans (by simp only [Enc.frz]; kernel_rfl))
def f13 (a1 : GClient) (a2 : GEvent) : Option (GClient × S8) := ((f28 a1).bind fun z8 => (f13_j0 a1 a2 ))
theorem f13_ok (d : Nat) (hd : 15 ≤ d) (a1 : GClient) (a2 : GEvent) (r : GClient × S8) (hS : f13 a1 a2 = some r) : lev codes baseL d 13 [(q1_ a1), (q12_ a2)] [] = some ((.tup [(q1_ r.1), (.d (.str r.2)), (dI 0)]), []) := by
 refine lvG hd (fun Q hQ => ?_) codes13
 unfold f13 at hS
 show ZR _ Q c13_b [] _
 replace hQ : FQ (f13_Q r) Q := hQ
 refine zS (zL 5 5 (zK (zrSeq (zS (zL 1 1 ?_)))))
 refine bindE hS (fun z8 hz8 hS => zO (some 11) 2 (c1 28 10) (ev_cA (f28_ok (d - 1) (dpt hd rfl) a1 z8 hz8)) (zL 1 3 (zK (zS (zL 2 2 (zK (zF ?_)))))))
 exact zrSkip (zkSeq (f13_j0_ok hd a1 a2 hQ  hS (by kernel_rfl)))
/- unicode/utf8.AppendRune -/
def f43_fin (p1 : S8) : St := ⟨(up (up u0 1000000 .un) 4 (.r (.msl 0 1 0 p1.length))), (up h0 0 ⟨1, some (.own 5 1 (eU8.cells p1))⟩)⟩
theorem f43_out (p1 : S8) : outR (f43_fin p1) 1 c43.res = some ((.r (.msl 0 0 0 p1.length)), [(.own 5 1 (eU8.cells p1))]) := by
 kernel_rfl
def f43_Q (r : S8) (e : PX) (st : St) : Prop := DoneF c43 1 ((.r (.msl 0 0 0 r.length)), [(.own 5 1 (eU8.cells r))]) e st
def f43 (a1 : Int) (a2 : S8) : Option (S8) := (bif (decide ((IntKind.u32.wrap (a1)) ≤ 127)) then ((app? 1 a2 ([(u8 a1)] : S8)).bind fun z2 => (some z2)) else none)
theorem f43_ok (d : Nat) (hd : 1 ≤ d) (a1 : Int) (a2 : S8) (r : S8) (hS : f43 a1 a2 = some r) : lev codes baseL d 43 [(.r (.msl 0 0 0 a2.length)), (.d (.int .i32 a1))] [(.own 5 1 (eU8.cells a2))] = some ((.r (.msl 0 0 0 r.length)), [(.own 5 1 (eU8.cells r))]) := by
 refine lvG hd (fun Q hQ => ?_) codes43
 unfold f43 at hS
 show ZR _ Q c43_b [] _
 replace hQ : FQ (f43_Q r) Q := hQ
 refine zS (zL 1 1 (zK (zrSeq (zS (zL 2 2 ?_)))))
 refine sB 7 3 (.cmpI .leq (tm 6) (.const (.int .u32 127))) hS (fun hS => ?_) (fun hS => ?_)
 ·refine zK (zT (zS (zL 2 2 ?_)))
  refine zO (v := (.d (.int .u8 ((u8 a1).toNat : Int)))) (ups := []) (some 10) 3 (.cvI .u8 (tm 9)) (ev_cv (kk := .i32) (a := a1) (by kernel_rfl) (u8_wrap _)) (zL 1 4 (bindE hS (fun z2 hz2 hS => zO (v := (.r (.msl 0 1 0 z2.length))) (ups := [(0, ⟨1, some (.own 5 1 (eU8.cells z2))⟩)]) (some 12) 5 (.app 5 1 1 (tm 8) (tm 11)) (ev_app eU8 (b := 0) (g := 0) (n := a2.length) (xs := a2) (ys := [(u8 a1)]) ((congrArg (asL _) (by kernel_rfl : ρof _ (.tmp 11) = (.r (.msl 96 1 0 (([(u8 a1)] : S8).length))))).trans (as_whole eU8 (e := 5) (k := 1) (xs := [(u8 a1)]) (by kernel_rfl) rfl rfl)) rfl (by kernel_rfl) rfl (by kernel_rfl) rfl hz2) (zL 1 6 (zK ?_)))))
  exact zrRet (zkSeqR (zkNil (endQ hS hQ (fR (f43_out z2)))))
 ·cases hS
/- farwriter/utf.Encode -/
def f21_fin (p13 : S8) : St := ⟨(up u0 2 (.d (.str p13))), h0⟩
theorem f21_out (p13 : S8) : outR (f21_fin p13) 0 c21.res = some ((.d (.str p13)), []) := by
 kernel_rfl
def f21_Q (r : S8) (e : PX) (st : St) : Prop := DoneF c21 0 ((.d (.str r)), []) e st
def f21_l0_J (a1 : List Int) (x : S8 × Int) : St := ⟨(up (up (up (up u0 8 (dI x.2)) 7 (dI (a1.length : Int))) 6 (dL a1)) 3 (.r (.msl 32 0 0 x.1.length))), (up h0 32 ⟨0, some (.own 5 1 (eU8.cells x.1))⟩)⟩
def f21_l0_H (a1 : List Int) (x : S8 × Int) (st : St) : Prop := keepSt [3, 6, 7, 8] [(32, .id 32)] [] st = f21_l0_J a1 x
def f21_l0_e0_J (a1 : List Int) (p12 : S8) : St := ⟨(up u0 3 (.r (.msl 32 0 0 p12.length))), (up h0 32 ⟨0, some (.own 5 1 (eU8.cells p12))⟩)⟩
def f21_l0_X (a1 : List Int) (z : (S8)) (e : PX) (st : St) : Prop := e = .exit 0 ∧ st = f21_l0_e0_J a1 z
def f21_l0_j2_J (a1 : List Int) (p20 : S8) (p21 : Int) : St := ⟨(up (up (up (up u0 8 (dI p21)) 7 (dI (a1.length : Int))) 6 (dL a1)) 3 (.r (.msl 32 0 0 p20.length))), (up h0 32 ⟨0, some (.own 5 1 (eU8.cells p20))⟩)⟩
def f21_l0_j2 (a1 : List Int) (p20 : S8) (p21 : Int) : Option ((S8 × Int) ⊕ ((S8))) := ((idx a1 p21).bind fun z7 => (bif (decide (z7 < 0)) then none else (bif (decide (1114111 < z7)) then none else (bif (decide (55296 ≤ z7)) then none else ((f43 (IntKind.i32.wrap (z7)) p20).bind fun z8 => (some (.inl (z8, (IntKind.i64.wrap (p21 + 1))))))))))
theorem f21_l0_j2_ok (hd : 2 ≤ d) (a1 : List Int) {r : (S8 × Int) ⊕ ((S8))} (hQ : FQ (finL (f21_l0_H a1) (f21_l0_X a1) r) Q) (p20 : S8) (p21 : Int) (hS : f21_l0_j2 a1 p20 p21 = some r) (he : keepSt [3, 6, 7, 8] [(32, .id 32)] [] st = f21_l0_j2_J a1 p20 p21) : ZX d Q c21_1 [] st := by
 refine zrKeep he ?_
 unfold f21_l0_j2 at hS
 refine zrSeq (zrBlk (zS ?_))
 refine bindE hS (fun z7 hz7 hS => zO (v := (.rptr (eI.enc z7 ++ (eI.cells (a1.drop ((p21 : Int).toNat + 1)))))) (ups := []) (some 10) 1 (.ixS 3 1 (tm 6) (tm 8)) (ev_ixS eI (kk := .i64) (xs := a1) (j := p21) (by kernel_rfl) (by kernel_rfl) hz7 rfl (by intro h; cases h)) (zL 2 3 (zK (zrSeq (zS (zL 1 1 ?_))))))
 refine sB 13 2 (.cmpI .lss (tm 12) (ki 0)) hS (fun hS => ?_) (fun hS => ?_)
 ·cases hS
 ·refine zL 2 4 (sH 16 5 14 false (.cmpI .gtr (tm 15) (ki 1114111)) hS (fun hS => ?_) (fun hS => ?_))
  ·cases hS
  ·refine zL 3 8 (sH 20 9 18 false (.cmpI .geq (tm 19) (ki 55296)) hS (fun hS => ?_) (fun hS => ?_))
   ·cases hS
   ·refine zL 5 14 (zK (zF ?_))
    refine zrSkip (zkSeq (zrReg (zL 3 3 ?_)))
    refine bindE hS (fun z8 hz8 hS => zO (some 29) 4 (.callr 43 [(tm 26), (tm 28)]) (ev_cR [32] (f43_ok (d - 1) (dpt hd rfl) (IntKind.i32.wrap (z7)) p20 z8 hz8)) (zL 1 5 (zE ?_)))
    refine zkBlk (zkSeq (zrReg (zL 2 2 (zE ?_))))
    exact zkNil (eN1 hS hQ)
def f21_l0_j1_J (a1 : List Int) (p17 : S8) (p18 : Int) (p19 : Bool) : St := ⟨(up (up (up (up (up u0 9 (dB p19)) 8 (dI p18)) 7 (dI (a1.length : Int))) 6 (dL a1)) 3 (.r (.msl 32 0 0 p17.length))), (up h0 32 ⟨0, some (.own 5 1 (eU8.cells p17))⟩)⟩
def f21_l0_j1 (a1 : List Int) (p17 : S8) (p18 : Int) (p19 : Bool) : Option ((S8 × Int) ⊕ ((S8))) := (bif p19 then (f21_l0_j2 a1 p17 p18) else (some (.inr p17)))
theorem f21_l0_j1_ok (hd : 2 ≤ d) (a1 : List Int) {r : (S8 × Int) ⊕ ((S8))} (hQ : FQ (finL (f21_l0_H a1) (f21_l0_X a1) r) Q) (p17 : S8) (p18 : Int) (p19 : Bool) (hS : f21_l0_j1 a1 p17 p18 p19 = some r) (he : keepSt [3, 6, 7, 8, 9] [(32, .id 32)] [] st = f21_l0_j1_J a1 p17 p18 p19) : ZX d Q c21_2 [] st := by
 refine zrKeep he ?_
 unfold f21_l0_j1 at hS
 refine zrSeq (sR 9 hS (fun hS => ?_) (fun hS => ?_))
 ·exact zT (zrSkip (zkSeq (f21_l0_j2_ok hd a1 hQ p17 p18 hS (by kernel_rfl))))
 ·exact zF (zrKeep (J := f21_l0_e0_J a1 p17) (by kernel_rfl) (zrExit (zkSeqX (zkNil (eX0 hS hQ)))))
def f21_l0 (a1 : List Int) (x : S8 × Int) : Option ((S8 × Int) ⊕ ((S8))) := (bif (decide (x.2 < (a1.length : Int))) then (f21_l0_j1 a1 x.1 x.2 true) else (f21_l0_j1 a1 x.1 x.2 false))
theorem f21_l0_ok (hd : 2 ≤ d) (a1 : List Int) {r : (S8 × Int) ⊕ ((S8))} (hQ : FQ (finL (f21_l0_H a1) (f21_l0_X a1) r) Q) {x : S8 × Int} (hS : f21_l0 a1 x = some r) (he : f21_l0_H a1 x st) : ZX d Q c21_3 [] st := by
 refine zrKeep he ?_
 unfold f21_l0 at hS
 refine zS ?_
 refine sB 9 1 (.cmpI .lss (tm 8) (tm 7)) hS (fun hS => ?_) (fun hS => ?_)
 ·refine zK ?_
  exact f21_l0_j1_ok hd a1 hQ x.1 x.2 true hS (by kernel_rfl)
 ·refine zK ?_
  exact f21_l0_j1_ok hd a1 hQ x.1 x.2 false hS (by kernel_rfl)
def f21 (a1 : List Int) : Option (S8) := ((loopO (f21_l0 a1) ([], 0)).bind fun z9 => (some z9))
theorem f21_ok (d : Nat) (hd : 2 ≤ d) (a1 : List Int) (r : S8) (hS : f21 a1 = some r) : lev codes baseL d 21 [(dL a1)] [] = some ((.d (.str r)), []) := by
 refine lvG hd (fun Q hQ => ?_) codes21
 unfold f21 at hS
 show ZR _ Q c21_b [] _
 replace hQ : FQ (f21_Q r) Q := hQ
 refine zS (zL 1 1 (zK (zS (zL 1 1 (zK (zrSeq (zS (zL 3 3 (zK ?_)))))))))
 refine zrBlk (bindE hS (fun z9 hz9 hS => zrLoop (f21_l0_H a1) (f21_l0_X a1) (fun x st r Q h0 hS hQ => f21_l0_ok hd a1 hQ hS h0) (x := ([], 0)) (z := z9) (by show keepSt _ _ _ _ = _; kernel_rfl) hz9 ?_))
 intro e st' _ hX
 obtain ⟨rfl, rfl⟩ : _ ∧ _ := hX
 refine zkBlkX (zkSeq (zS (zL 1 1 ?_)))
 refine zO (v := (.d (.str z9))) (ups := []) (some 32) 2 (.cvBS (tm 31)) (ev_cvBS (s := z9) ((congrArg (asL _) (by kernel_rfl : ρof _ (.tmp 31) = (.r (.msl 32 0 0 z9.length)))).trans (as_whole eU8 (e := 5) (k := 1) (xs := z9) (by kernel_rfl) rfl rfl)) rfl) (zL 1 3 (zK ?_))
 exact zrRet (zkNil (endQ hS hQ (fR (f21_out z9))))
/- strings.TrimRight -/
theorem libTrimRight_ok (d : Nat) (hd : 0 ≤ d) (a1 : S8) (a2 : S8) (r : S8) (hS : libTrimRight a1 a2 = some r) : lev codes baseL d 20 [(.d (.str a1)), (.d (.str a2))] [] = some ((.d (.str r)), []) := lib_call (l := libs) rfl rfl rfl (ossS_ hS) d
/- farwriter/fartop.rowText -/
def f18_fin (p28 : S8) : St := ⟨(up u0 2 (.d (.str p28))), h0⟩
theorem f18_out (p28 : S8) : outR (f18_fin p28) 0 c18.res = some ((.d (.str p28)), []) := by
 kernel_rfl
def f18_Q (r : S8) (e : PX) (st : St) : Prop := DoneF c18 0 ((.d (.str r)), []) e st
def f18_l0_J (a1 : List GCell) (x : (List Int) × Int) : St := ⟨(up (up (up (up u0 8 (dI x.2)) 7 (dI (a1.length : Int))) 6 (dE e_GCell a1)) 3 (.r (.msl 32 0 0 x.1.length))), (up h0 32 ⟨0, some (.own 3 1 (eI.cells x.1))⟩)⟩
def f18_l0_H (a1 : List GCell) (x : (List Int) × Int) (st : St) : Prop := keepSt [3, 6, 7, 8] [(32, .id 32)] [] st = f18_l0_J a1 x
def f18_l0_e0_J (a1 : List GCell) (p27 : List Int) : St := ⟨(up u0 3 (.r (.msl 32 0 0 p27.length))), (up h0 32 ⟨0, some (.own 3 1 (eI.cells p27))⟩)⟩
def f18_l0_X (a1 : List GCell) (z : ((List Int))) (e : PX) (st : St) : Prop := e = .exit 0 ∧ st = f18_l0_e0_J a1 z
def f18_l0_j2_J (a1 : List GCell) (p35 : List Int) (p36 : Int) : St := ⟨(up (up (up (up u0 8 (dI p36)) 7 (dI (a1.length : Int))) 6 (dE e_GCell a1)) 3 (.r (.msl 32 0 0 p35.length))), (up h0 32 ⟨0, some (.own 3 1 (eI.cells p35))⟩)⟩
def f18_l0_j2 (a1 : List GCell) (p35 : List Int) (p36 : Int) : Option (((List Int) × Int) ⊕ (((List Int)))) := ((idx a1 p36).bind fun z9 => (bif (!decide (z9.Rune = 0)) then ((app? 8 p35 ([z9.Rune] : List Int)).bind fun z10 => (some (.inl (z10, (IntKind.i64.wrap (p36 + 1)))))) else (some (.inl (p35, (IntKind.i64.wrap (p36 + 1)))))))
theorem f18_l0_j2_ok (hd : 3 ≤ d) (a1 : List GCell) {r : ((List Int) × Int) ⊕ (((List Int)))} (hQ : FQ (finL (f18_l0_H a1) (f18_l0_X a1) r) Q) (p35 : List Int) (p36 : Int) (hS : f18_l0_j2 a1 p35 p36 = some r) (he : keepSt [3, 6, 7, 8] [(32, .id 32)] [] st = f18_l0_j2_J a1 p35 p36) : ZX d Q c18_1 [] st := by
 refine zrKeep he ?_
 unfold f18_l0_j2 at hS
 refine zrSeq (zrBlk (zS ?_))
 refine bindE hS (fun z9 hz9 hS => zO (v := (.rptr (e_GCell.enc z9 ++ (e_GCell.cells (a1.drop ((p36 : Int).toNat + 1)))))) (ups := []) (some 10) 1 (.ixS 100 4 (tm 6) (tm 8)) (ev_ixS e_GCell (kk := .i64) (xs := a1) (j := p36) (by kernel_rfl) (by kernel_rfl) hz9 rfl (by intro h; cases h)) (zL 3 4 (zK (zS (zL 2 2 ?_)))))
 refine sB 14 3 (.cmpI .neq (tm 13) (ki 0)) hS (fun hS => ?_) (fun hS => ?_)
 ·refine zK (zT (zrReg (zL 4 4 ?_)))
  refine bindE hS (fun z10 hz10 hS => zO (v := (.r (.msl 32 1 0 z10.length))) (ups := [(32, ⟨1, some (.own 3 1 (eI.cells z10))⟩)]) (some 19) 5 (.app 3 1 8 (tm 15) (tm 18)) (ev_app eI (b := 32) (g := 0) (n := p35.length) (xs := p35) (ys := [z9.Rune]) ((congrArg (asL _) (by kernel_rfl : ρof _ (.tmp 18) = (.r (.msl 152 1 0 (([z9.Rune] : List Int).length))))).trans (as_whole eI (e := 3) (k := 1) (xs := [z9.Rune]) (by kernel_rfl) rfl rfl)) rfl (by kernel_rfl) rfl (by kernel_rfl) rfl hz10) (zL 1 6 (zE ?_)))
  refine zkBlk (zkSeq (zrReg (zL 2 2 (zE ?_))))
  exact zkNil (eN1 hS hQ)
 ·refine zK (zF ?_)
  refine zrSkip (zkBlk (zkSeq (zrReg (zL 2 2 (zE ?_)))))
  exact zkNil (eN1 hS hQ)
def f18_l0_j1_J (a1 : List GCell) (p32 : List Int) (p33 : Int) (p34 : Bool) : St := ⟨(up (up (up (up (up u0 9 (dB p34)) 8 (dI p33)) 7 (dI (a1.length : Int))) 6 (dE e_GCell a1)) 3 (.r (.msl 32 0 0 p32.length))), (up h0 32 ⟨0, some (.own 3 1 (eI.cells p32))⟩)⟩
def f18_l0_j1 (a1 : List GCell) (p32 : List Int) (p33 : Int) (p34 : Bool) : Option (((List Int) × Int) ⊕ (((List Int)))) := (bif p34 then (f18_l0_j2 a1 p32 p33) else (some (.inr p32)))
theorem f18_l0_j1_ok (hd : 3 ≤ d) (a1 : List GCell) {r : ((List Int) × Int) ⊕ (((List Int)))} (hQ : FQ (finL (f18_l0_H a1) (f18_l0_X a1) r) Q) (p32 : List Int) (p33 : Int) (p34 : Bool) (hS : f18_l0_j1 a1 p32 p33 p34 = some r) (he : keepSt [3, 6, 7, 8, 9] [(32, .id 32)] [] st = f18_l0_j1_J a1 p32 p33 p34) : ZX d Q c18_2 [] st := by
 refine zrKeep he ?_
 unfold f18_l0_j1 at hS
 refine zrSeq (sR 9 hS (fun hS => ?_) (fun hS => ?_))
 ·exact zT (zrSkip (zkSeq (f18_l0_j2_ok hd a1 hQ p32 p33 hS (by kernel_rfl))))
 ·exact zF (zrKeep (J := f18_l0_e0_J a1 p32) (by kernel_rfl) (zrExit (zkSeqX (zkNil (eX0 hS hQ)))))
def f18_l0 (a1 : List GCell) (x : (List Int) × Int) : Option (((List Int) × Int) ⊕ (((List Int)))) := (bif (decide (x.2 < (a1.length : Int))) then (f18_l0_j1 a1 x.1 x.2 true) else (f18_l0_j1 a1 x.1 x.2 false))
theorem f18_l0_ok (hd : 3 ≤ d) (a1 : List GCell) {r : ((List Int) × Int) ⊕ (((List Int)))} (hQ : FQ (finL (f18_l0_H a1) (f18_l0_X a1) r) Q) {x : (List Int) × Int} (hS : f18_l0 a1 x = some r) (he : f18_l0_H a1 x st) : ZX d Q c18_3 [] st := by
 refine zrKeep he ?_
 unfold f18_l0 at hS
 refine zS ?_
 refine sB 9 1 (.cmpI .lss (tm 8) (tm 7)) hS (fun hS => ?_) (fun hS => ?_)
 ·refine zK ?_
  exact f18_l0_j1_ok hd a1 hQ x.1 x.2 true hS (by kernel_rfl)
 ·refine zK ?_
  exact f18_l0_j1_ok hd a1 hQ x.1 x.2 false hS (by kernel_rfl)
def f18 (a1 : List GCell) : Option (S8) := ((loopO (f18_l0 a1) ([], 0)).bind fun z11 => ((f21 z11).bind fun z12 => ((libTrimRight z12 [32]).bind fun z13 => (some z13))))
theorem f18_ok (d : Nat) (hd : 3 ≤ d) (a1 : List GCell) (r : S8) (hS : f18 a1 = some r) : lev codes baseL d 18 [(dE e_GCell a1)] [] = some ((.d (.str r)), []) := by
 refine lvG hd (fun Q hQ => ?_) codes18
 unfold f18 at hS
 show ZR _ Q c18_b [] _
 replace hQ : FQ (f18_Q r) Q := hQ
 refine zS (zL 1 1 (zK (zS (zL 1 1 (zK (zrSeq (zS (zL 3 3 (zK ?_)))))))))
 refine zrBlk (bindE hS (fun z11 hz11 hS => zrLoop (f18_l0_H a1) (f18_l0_X a1) (fun x st r Q h0 hS hQ => f18_l0_ok hd a1 hQ hS h0) (x := ([], 0)) (z := z11) (by show keepSt _ _ _ _ = _; kernel_rfl) hz11 ?_))
 intro e st' _ hX
 obtain ⟨rfl, rfl⟩ : _ ∧ _ := hX
 refine zkBlkX (zkSeq (zS (zL 1 1 ?_)))
 refine bindE hS (fun z12 hz12 hS => zO (some 22) 2 (c1 21 21) (ev_callB (args := [(.r (.msl 32 0 0 z11.length))]) (by kernel_rfl) (l_cons (l_own eI (e := 3) (k := 1) (xs := z11) (by kernel_rfl) rfl rfl) l_nil) (f21_ok (d - 1) (dpt hd rfl) z11 z12 hz12) (by kernel_rfl) (by kernel_rfl)) (bindE hS (fun z13 hz13 hS => zO (some 23) 3 (.call 20 [(tm 22), (.const (.string ⟨#[32]⟩))]) (ev_cA (libTrimRight_ok (d - 1) (dpt hd rfl) z12 [32] z13 hz13)) (zL 1 4 (zK ?_)))))
 exact zrRet (zkNil (endQ hS hQ (fR (f18_out z13))))
/- farwriter/grid.start -/
def f37_fin (p1 : Int) (p2 : Int) (p3 : List GCell) (p4 : Int) : St := ⟨(up (up u0 7 (dI p4)) 6 (pt 56)), (up (up h0 216 ⟨0, some (.own 100 4 (e_GCell.cells p3))⟩) 56 ⟨0, some (.box ((dI p1) :: ((dI p2) :: ((.r (.msl 216 0 0 p3.length)) :: []))))⟩)⟩
theorem f37_out (p1 : Int) (p2 : Int) (p3 : List GCell) (p4 : Int) : outR (f37_fin p1 p2 p3 p4) 0 c37.res = some ((.tup [(.agg ((dI p1) :: ((dI p2) :: ((.r (.own 0 100 4 p3.length (e_GCell.cells p3))) :: [])))), (dI p4)]), []) := by
 exact out_of (ids := []) (ids' := [216]) (l := [(.agg ((dI p1) :: ((dI p2) :: ((.r (.msl 216 0 0 p3.length)) :: [])))), (dI p4)]) (by kernel_rfl) (by kernel_rfl) (o_tup (o_cons (o_agg (o_cons rfl (o_cons rfl (o_cons (o_own e_GCell (e := 100) (k := 4) (xs := p3) (by kernel_rfl) rfl rfl rfl rfl) o_nil)))) (o_cons rfl o_nil)))
def f37_Q (r : Int × Int × (List GCell) × Int) (e : PX) (st : St) : Prop := DoneF c37 0 ((.tup [(.agg ((dI r.1) :: ((dI r.2.1) :: ((.r (.own 0 100 4 r.2.2.1.length (e_GCell.cells r.2.2.1))) :: [])))), (dI r.2.2.2)]), []) e st
def f37_j1_J (a1 : GGrid) (a2 : Bool) (a3 : GPen) : St := ⟨(up (up (up u0 6 (pt 56)) 5 (pt 48)) 3 (pt 32)), (up (up q34_ 48 (q21_ a3)) 32 ⟨0, some (.box (q20_ a1))⟩)⟩
def f37_j1 (a1 : GGrid) (a2 : Bool) (a3 : GPen) : Option (Int × Int × (List GCell) × Int) := ((f84 a3).bind fun z5 => (bif (!decide (z5 = 0)) then none else ((f45 a1).bind fun z6 => (some (z6.1, z6.2.1, z6.2.2, 0)))))
theorem f37_j1_ok (hd : 5 ≤ d) (a1 : GGrid) (a2 : Bool) (a3 : GPen) {r : Int × Int × (List GCell) × Int} (hQ : FQ (f37_Q r) Q)  (hS : f37_j1 a1 a2 a3 = some r) (he : keepSt [3, 5, 6] [(32, .id 32), (48, .id 48), (56, .id 56)] [] st = f37_j1_J a1 a2 a3) : ZX d Q c37_1 [] st := by
 refine zrKeep he ?_
 unfold f37_j1 at hS
 refine zrSeq (zS (zL 1 1 ?_))
 refine bindE hS (fun z5 hz5 hS => zO (some 20) 2 (c1 84 19) (ev_cA (f84_ok (d - 1) (dpt hd rfl) a3 z5 hz5)) (zL 1 3 (zK (zS (zL 1 1 ?_)))))
 refine sB 22 2 (.cmpI .neq (tm 21) (ki 0)) hS (fun hS => ?_) (fun hS => ?_)
 ·cases hS
 ·refine zK (zF ?_)
  refine zrSkip (zkSeq (zS (zL 1 1 ?_)))
  refine bindE hS (fun z6 hz6 hS => zO (some 26) 2 (c1 45 25) (ev_cA (f45_ok (d - 1) (dpt hd rfl) a1 z6 hz6)) (zL 2 4 (zK ?_)))
  exact zrRet (zkNil (endQ hS hQ (fR (f37_out z6.1 z6.2.1 z6.2.2 0))))
def f37_j0_J (a1 : GGrid) (a2 : Bool) (a3 : GPen) : St := ⟨(up (up (up (up u0 6 (pt 56)) 5 (pt 48)) 3 (pt 32)) 1 (dB a2)), (up (up q34_ 48 (q21_ a3)) 32 ⟨0, some (.box (q20_ a1))⟩)⟩
def f37_j0 (a1 : GGrid) (a2 : Bool) (a3 : GPen) : Option (Int × Int × (List GCell) × Int) := (bif (!a2) then (some (0, 0, [], 1)) else (f37_j1 a1 a2 a3 ))
theorem f37_j0_ok (hd : 5 ≤ d) (a1 : GGrid) (a2 : Bool) (a3 : GPen) {r : Int × Int × (List GCell) × Int} (hQ : FQ (f37_Q r) Q)  (hS : f37_j0 a1 a2 a3 = some r) (he : keepSt [1, 3, 5, 6] [(32, .id 32), (48, .id 48), (56, .id 56)] [.cell 56 2 0 0 1] st = f37_j0_J a1 a2 a3) : ZX d Q c37_2 [] st := by
 refine zrKeep he ?_
 unfold f37_j0 at hS
 refine zrSeq (zS (zL 2 2 (zK ?_)))
 refine sR 17 hS (fun hS => ?_) (fun hS => ?_)
 ·refine zT (zS (zL 3 3 (zK ?_)))
  exact zrRet (zkSeqR (zkNil (endQ hS hQ (fR (f37_out 0 0 [] 1)))))
 ·exact zF (zrSkip (zkSeq (f37_j1_ok hd a1 a2 a3 hQ  hS (by kernel_rfl))))
def f37 (a1 : GGrid) (a2 : Bool) (a3 : GPen) : Option (Int × Int × (List GCell) × Int) := ((f83 a1).bind fun z7 => (bif (!decide (z7 = 0)) then none else (f37_j0 a1 a2 a3 )))
theorem f37_ok (d : Nat) (hd : 5 ≤ d) (a1 : GGrid) (a2 : Bool) (a3 : GPen) (r : Int × Int × (List GCell) × Int) (hS : f37 a1 a2 a3 = some r) : lev codes baseL d 37 [(.agg (q20_ a1)), (dB a2), (q24_ a3)] [] = some ((.tup [(.agg ((dI r.1) :: ((dI r.2.1) :: ((.r (.own 0 100 4 r.2.2.1.length (e_GCell.cells r.2.2.1))) :: [])))), (dI r.2.2.2)]), []) := by
 refine lvG hd (fun Q hQ => ?_) codes37
 unfold f37 at hS
 show ZR _ Q c37_b [] _
 replace hQ : FQ (f37_Q r) Q := hQ
 refine zS (zL 4 4 (zK (zrSeq (zS (zL 1 1 ?_)))))
 refine bindE hS (fun z7 hz7 hS => zO (some 11) 2 (c1 83 10) (ev_cA (f83_ok (d - 1) (dpt hd rfl) a1 z7 hz7)) (zL 1 3 (zK (zS (zL 1 1 ?_)))))
 refine sB 13 2 (.cmpI .neq (tm 12) (ki 0)) hS (fun hS => ?_) (fun hS => ?_)
 ·cases hS
 ·refine zK (zF ?_)
  exact zrSkip (zkSeq (f37_j0_ok hd a1 a2 a3 hQ  hS (by kernel_rfl)))
/- farwriter/grid.Text -/
def f19_fin (p76 : List Int) : St := ⟨(up (up u0 5 (dI 0)) 4 (.r (.msl 64 0 0 p76.length))), (up h0 64 ⟨0, some (.own 3 1 (eI.cells p76))⟩)⟩
theorem f19_out (p76 : List Int) : outR (f19_fin p76) 0 c19.res = some ((.tup [(.r (.own 0 3 1 p76.length (eI.cells p76))), (dI 0)]), []) := by
 exact out_of (ids := []) (ids' := [64]) (l := [(.r (.msl 64 0 0 p76.length)), (dI 0)]) (by kernel_rfl) (by kernel_rfl) (o_tup (o_cons (o_own eI (e := 3) (k := 1) (xs := p76) (by kernel_rfl) rfl rfl rfl rfl) (o_cons rfl o_nil)))
def f19_Q (r : (List Int)) (e : PX) (st : St) : Prop := DoneF c19 0 ((.tup [(.r (.own 0 3 1 r.length (eI.cells r))), (dI 0)]), []) e st
def f19_l1_J (a1 : GGrid) (a2 : Int) (x : (List Int) × (List GCell) × Nat × Nat × Int × Int) : St := ⟨(up (up (up (up u0 31 (dI x.2.2.2.2.2)) 30 (dI x.2.2.2.2.1)) 29 (.r (.msl 176 0 x.2.2.1 x.2.2.2.1))) 7 (.r (.msl 64 0 0 x.1.length))), (up (up h0 176 ⟨0, some (.own 100 4 (e_GCell.cells x.2.1))⟩) 64 ⟨0, some (.own 3 1 (eI.cells x.1))⟩)⟩
def f19_l1_H (a1 : GGrid) (a2 : Int) (x : (List Int) × (List GCell) × Nat × Nat × Int × Int) (st : St) : Prop := keepSt [7, 29, 30, 31] [(64, .id 64), (176, .id 176)] [] st = f19_l1_J a1 a2 x
def f19_l1_e0_J (a1 : GGrid) (a2 : Int) (p154 : List Int) : St := ⟨(up u0 7 (.r (.msl 64 0 0 p154.length))), (up h0 64 ⟨0, some (.own 3 1 (eI.cells p154))⟩)⟩
def f19_l1_X (a1 : GGrid) (a2 : Int) (z : ((List Int))) (e : PX) (st : St) : Prop := e = .exit 0 ∧ st = f19_l1_e0_J a1 a2 z
def f19_l1_j3_J (a1 : GGrid) (a2 : Int) (p169 : List Int) (p170 : List GCell) (p171 : Nat) (p172 : Nat) (p173 : Int) (p174 : Int) : St := ⟨(up (up (up (up u0 31 (dI p174)) 30 (dI p173)) 29 (.r (.msl 176 0 p171 p172))) 7 (.r (.msl 64 0 0 p169.length))), (up (up h0 176 ⟨0, some (.own 100 4 (e_GCell.cells p170))⟩) 64 ⟨0, some (.own 3 1 (eI.cells p169))⟩)⟩
def f19_l1_j3 (a1 : GGrid) (a2 : Int) (p169 : List Int) (p170 : List GCell) (p171 : Nat) (p172 : Nat) (p173 : Int) (p174 : Int) : Option (((List Int) × (List GCell) × Nat × Nat × Int × Int) ⊕ (((List Int)))) := ((inR p174 p172).bind fun m26 => ((p170[(p171 + m26)]?).bind fun z27 => (bif (!decide (z27.Rune = 0)) then ((app? 8 p169 ([z27.Rune] : List Int)).bind fun z28 => (some (.inl (z28, p170, p171, p172, p173, (IntKind.i64.wrap (p174 + 1)))))) else (some (.inl (p169, p170, p171, p172, p173, (IntKind.i64.wrap (p174 + 1))))))))
theorem f19_l1_j3_ok (hd : 6 ≤ d) (a1 : GGrid) (a2 : Int) {r : ((List Int) × (List GCell) × Nat × Nat × Int × Int) ⊕ (((List Int)))} (hQ : FQ (finL (f19_l1_H a1 a2) (f19_l1_X a1 a2) r) Q) (p169 : List Int) (p170 : List GCell) (p171 : Nat) (p172 : Nat) (p173 : Int) (p174 : Int) (hS : f19_l1_j3 a1 a2 p169 p170 p171 p172 p173 p174 = some r) (he : keepSt [7, 29, 30, 31] [(64, .id 64), (176, .id 176)] [] st = f19_l1_j3_J a1 a2 p169 p170 p171 p172 p173 p174) : ZX d Q c19_1 [] st := by
 refine zrKeep he ?_
 unfold f19_l1_j3 at hS
 refine zrSeq (zrBlk (zS ?_))
 refine bindE hS (fun m26 hm26 hS => zO (v := (.r (.ptr 176 0 ((p171 + m26) * 4)))) (ups := []) (some 33) 1 (.ixS 100 4 (tm 29) (tm 31)) (ev_ixM (kk := .i64) (b := 176) (g := 0) (l := p171) (n := p172) (j := p174) (cs := e_GCell.cells p170) (by kernel_rfl) (by kernel_rfl) (by kernel_rfl) hm26) (bindE hS (fun z27 hz27 hS => zO (v := (.agg (q30_ z27))) (ups := []) (some 34) 2 (lt 4 33) (ev_loadM e_GCell (b := 176) (g := 0) (o := (p171 + m26) * 4) (e := 100) (k := 4) (m := (p171 + m26)) (fo := 0) (xs := p170) (by kernel_rfl) (by kernel_rfl) rfl hz27 (by kernel_rfl) (by kernel_rfl) (by kernel_rfl)) (zL 2 4 (zK (zS (zL 2 2 ?_)))))))
 refine sB 37 3 (.cmpI .neq (tm 36) (ki 0)) hS (fun hS => ?_) (fun hS => ?_)
 ·refine zK (zT (zrReg (zL 4 4 ?_)))
  refine bindE hS (fun z28 hz28 hS => zO (v := (.r (.msl 64 1 0 z28.length))) (ups := [(64, ⟨1, some (.own 3 1 (eI.cells z28))⟩)]) (some 42) 5 (.app 3 1 8 (tm 38) (tm 41)) (ev_app eI (b := 64) (g := 0) (n := p169.length) (xs := p169) (ys := [z27.Rune]) ((congrArg (asL _) (by kernel_rfl : ρof _ (.tmp 41) = (.r (.msl 336 1 0 (([z27.Rune] : List Int).length))))).trans (as_whole eI (e := 3) (k := 1) (xs := [z27.Rune]) (by kernel_rfl) rfl rfl)) rfl (by kernel_rfl) rfl (by kernel_rfl) rfl hz28) (zL 1 6 (zE ?_)))
  refine zkBlk (zkSeq (zrReg (zL 2 2 (zE ?_))))
  exact zkNil (eN1 hS hQ)
 ·refine zK (zF ?_)
  refine zrSkip (zkBlk (zkSeq (zrReg (zL 2 2 (zE ?_)))))
  exact zkNil (eN1 hS hQ)
def f19_l1_j2_J (a1 : GGrid) (a2 : Int) (p162 : List Int) (p163 : List GCell) (p164 : Nat) (p165 : Nat) (p166 : Int) (p167 : Int) (p168 : Bool) : St := ⟨(up (up (up (up (up u0 32 (dB p168)) 31 (dI p167)) 30 (dI p166)) 29 (.r (.msl 176 0 p164 p165))) 7 (.r (.msl 64 0 0 p162.length))), (up (up h0 176 ⟨0, some (.own 100 4 (e_GCell.cells p163))⟩) 64 ⟨0, some (.own 3 1 (eI.cells p162))⟩)⟩
def f19_l1_j2 (a1 : GGrid) (a2 : Int) (p162 : List Int) (p163 : List GCell) (p164 : Nat) (p165 : Nat) (p166 : Int) (p167 : Int) (p168 : Bool) : Option (((List Int) × (List GCell) × Nat × Nat × Int × Int) ⊕ (((List Int)))) := (bif p168 then (f19_l1_j3 a1 a2 p162 p163 p164 p165 p166 p167) else (some (.inr p162)))
theorem f19_l1_j2_ok (hd : 6 ≤ d) (a1 : GGrid) (a2 : Int) {r : ((List Int) × (List GCell) × Nat × Nat × Int × Int) ⊕ (((List Int)))} (hQ : FQ (finL (f19_l1_H a1 a2) (f19_l1_X a1 a2) r) Q) (p162 : List Int) (p163 : List GCell) (p164 : Nat) (p165 : Nat) (p166 : Int) (p167 : Int) (p168 : Bool) (hS : f19_l1_j2 a1 a2 p162 p163 p164 p165 p166 p167 p168 = some r) (he : keepSt [7, 29, 30, 31, 32] [(64, .id 64), (176, .id 176)] [] st = f19_l1_j2_J a1 a2 p162 p163 p164 p165 p166 p167 p168) : ZX d Q c19_2 [] st := by
 refine zrKeep he ?_
 unfold f19_l1_j2 at hS
 refine zrSeq (sR 32 hS (fun hS => ?_) (fun hS => ?_))
 ·exact zT (zrSkip (zkSeq (f19_l1_j3_ok hd a1 a2 hQ p162 p163 p164 p165 p166 p167 hS (by kernel_rfl))))
 ·exact zF (zrKeep (J := f19_l1_e0_J a1 a2 p162) (by kernel_rfl) (zrExit (zkSeqX (zkNil (eX0 hS hQ)))))
def f19_l1 (a1 : GGrid) (a2 : Int) (x : (List Int) × (List GCell) × Nat × Nat × Int × Int) : Option (((List Int) × (List GCell) × Nat × Nat × Int × Int) ⊕ (((List Int)))) := (bif (decide (x.2.2.2.2.2 < x.2.2.2.2.1)) then (f19_l1_j2 a1 a2 x.1 x.2.1 x.2.2.1 x.2.2.2.1 x.2.2.2.2.1 x.2.2.2.2.2 true) else (f19_l1_j2 a1 a2 x.1 x.2.1 x.2.2.1 x.2.2.2.1 x.2.2.2.2.1 x.2.2.2.2.2 false))
theorem f19_l1_ok (hd : 6 ≤ d) (a1 : GGrid) (a2 : Int) {r : ((List Int) × (List GCell) × Nat × Nat × Int × Int) ⊕ (((List Int)))} (hQ : FQ (finL (f19_l1_H a1 a2) (f19_l1_X a1 a2) r) Q) {x : (List Int) × (List GCell) × Nat × Nat × Int × Int} (hS : f19_l1 a1 a2 x = some r) (he : f19_l1_H a1 a2 x st) : ZX d Q c19_3 [] st := by
 refine zrKeep he ?_
 unfold f19_l1 at hS
 refine zS ?_
 refine sB 32 1 (.cmpI .lss (tm 31) (tm 30)) hS (fun hS => ?_) (fun hS => ?_)
 ·refine zK ?_
  exact f19_l1_j2_ok hd a1 a2 hQ x.1 x.2.1 x.2.2.1 x.2.2.2.1 x.2.2.2.2.1 x.2.2.2.2.2 true hS (by kernel_rfl)
 ·refine zK ?_
  exact f19_l1_j2_ok hd a1 a2 hQ x.1 x.2.1 x.2.2.1 x.2.2.2.1 x.2.2.2.2.1 x.2.2.2.2.2 false hS (by kernel_rfl)
def f19_j0_J (a1 : GGrid) (a2 : Int) (p77 : Int) (p78 : Int) (p79 : List GCell) : St := ⟨(up (up u0 2 (pt 24)) 1 (dI a2)), (up (up h0 176 ⟨0, some (.own 100 4 (e_GCell.cells p79))⟩) 24 ⟨0, some (.box ((dI p77) :: ((dI p78) :: ((.r (.msl 176 0 0 p79.length)) :: []))))⟩)⟩
def f19_j0 (a1 : GGrid) (a2 : Int) (p77 : Int) (p78 : Int) (p79 : List GCell) : Option ((List Int)) := ((f38v1 p77 p78 a2 p79).bind fun z15 => ((chk (decide (z15.1.length = p79.length))).bind fun z16 => ((loopO (f19_l1 a1 a2) ([], z15.1, z15.2.1, z15.2.2, (z15.2.2 : Int), 0)).bind fun z29 => (some z29))))
theorem f19_j0_ok (hd : 6 ≤ d) (a1 : GGrid) (a2 : Int) {r : (List Int)} (hQ : FQ (f19_Q r) Q) (p77 : Int) (p78 : Int) (p79 : List GCell) (hS : f19_j0 a1 a2 p77 p78 p79 = some r) (he : keepSt [1, 2] [(24, .id 24), (176, .id 176)] [] st = f19_j0_J a1 a2 p77 p78 p79) : ZX d Q c19_4 [] st := by
 refine zrKeep he ?_
 unfold f19_j0 at hS
 refine zS (zL 1 1 (zK (zrSeq (zS (zL 2 2 ?_)))))
 refine bindE hS (fun z15 hz15 hS => bindE hS (fun z16 hz16 hS => zO (some 29) 3 (.callr 38 [(tm 27), (tm 28)]) (ev_cX [176] [(.own 100 4 (e_GCell.cells p79))] (f38v1_ok (d - 1) (dpt hd rfl) p77 p78 a2 p79 z15 hz15) (sm_own e_GCell (e1 := 100) (k1 := 4) (xs := p79) (ys := z15.1) (by kernel_rfl) hz16 sm_nil)) ?_))
 have lz16 : p79.length = z15.1.length := (of_decide_eq_true (chk_t hz16)).symm
 try delta f19_j0_J
 try delta q2_ q3_ q5_ q6_ q7_ q10_ q11_ q14_ q15_ q19_ q27_ q29_ q34_
 try delta bm_GScreen
 try rw [lz16]
 refine zL 2 5 (zK ?_)
 refine zrBlk (bindE hS (fun z29 hz29 hS => zrLoop (f19_l1_H a1 a2) (f19_l1_X a1 a2) (fun x st r Q h0 hS hQ => f19_l1_ok hd a1 a2 hQ hS h0) (x := ([], z15.1, z15.2.1, z15.2.2, (z15.2.2 : Int), 0)) (z := z29) (by show keepSt _ _ _ _ = _; kernel_rfl) hz29 ?_))
 intro e st' _ hX
 obtain ⟨rfl, rfl⟩ : _ ∧ _ := hX
 refine zkBlkX (zkSeq (zS (zL 3 3 (zK ?_))))
 exact zrRet (zkNil (endQ hS hQ (fR (f19_out z29))))
def f19 (a1 : GGrid) (a2 : Int) : Option ((List Int)) := (bif (decide (0 ≤ a2)) then (bif (decide (a2 < a1.High)) then ((f37 a1 true (GPen.mk 0 0 0)).bind fun z14 => (bif (!decide (z14.2.2.2 = 0)) then none else (f19_j0 a1 a2 z14.1 z14.2.1 z14.2.2.1))) else none) else none)
theorem f19_ok (d : Nat) (hd : 6 ≤ d) (a1 : GGrid) (a2 : Int) (r : (List Int)) (hS : f19 a1 a2 = some r) : lev codes baseL d 19 [(.agg (q20_ a1)), (dI a2)] [] = some ((.tup [(.r (.own 0 3 1 r.length (eI.cells r))), (dI 0)]), []) := by
 refine lvG hd (fun Q hQ => ?_) codes19
 unfold f19 at hS
 show ZR _ Q c19_b [] _
 replace hQ : FQ (f19_Q r) Q := hQ
 refine zS (zL 3 3 (zK (zS (zL 2 2 ?_))))
 refine sB 13 3 (.cmpI .geq (tm 12) (ki 0)) hS (fun hS => ?_) (fun hS => ?_)
 ·refine zL 4 7 (sH 18 8 14 true (.cmpI .lss (tm 15) (tm 17)) hS (fun hS => ?_) (fun hS => ?_))
  ·refine zL 2 10 (bindE hS (fun z14 hz14 hS => zO (v := (.tup [(.agg ((dI z14.1) :: ((dI z14.2.1) :: ((.r (.msl 176 1 0 z14.2.2.1.length)) :: [])))), (dI z14.2.2.2)])) (ups := [(176, ⟨1, some (.own 100 4 (e_GCell.cells z14.2.2.1))⟩)]) (some 21) 11 (.callf 37 [(tm 11), (tm 19), (tm 20)]) (ev_callF (args := [(.agg (q20_ a1)), (dB true), (.agg ((dI 0) :: ((dI 0) :: ((dI 0) :: []))))]) (args' := [(.agg (q20_ a1)), (dB true), (.agg ((dI 0) :: ((dI 0) :: ((dI 0) :: []))))]) (l := [(.agg (q20_ a1)), (dB true), (.agg ((dI 0) :: ((dI 0) :: ((dI 0) :: []))))]) (refs := []) (r := (.tup [(.agg ((dI z14.1) :: ((dI z14.2.1) :: ((.r (.own 0 100 4 z14.2.2.1.length (e_GCell.cells z14.2.2.1))) :: [])))), (dI z14.2.2.2)])) (v := (.tup [(.agg ((dI z14.1) :: ((dI z14.2.1) :: ((.r (.msl 176 1 0 z14.2.2.1.length)) :: [])))), (dI z14.2.2.2)])) (ups' := [(176, ⟨1, some (.own 100 4 (e_GCell.cells z14.2.2.1))⟩)]) (by kernel_rfl) (by kernel_rfl) (by kernel_rfl) (fz_cons rfl (fz_cons rfl (fz_cons rfl fz_nil))) (by kernel_rfl) (f37_ok (d - 1) (dpt hd rfl) a1 true (GPen.mk 0 0 0) z14 hz14) (by kernel_rfl) (by kernel_rfl) (by kernel_rfl) (by kernel_rfl)) (zL 5 16 (zK (zrSeq (zS (zL 1 1 ?_)))))))
   refine sB 25 2 (.cmpI .neq (tm 24) (ki 0)) hS (fun hS => ?_) (fun hS => ?_)
   ·cases hS
   ·refine zK (zF ?_)
    exact zrSkip (zkSeq (f19_j0_ok hd a1 a2 hQ z14.1 z14.2.1 z14.2.2.1 hS (by kernel_rfl)))
  ·cases hS
 ·cases hS
/- slices.Equal[[]string,string] -/
def f22_fin  : St := ⟨(up u0 4 (dB true)), h0⟩
theorem f22_out  : outR (f22_fin ) 0 c22.res = some ((dB true), []) := by
 kernel_rfl
def f22_Q (r : Unit) (e : PX) (st : St) : Prop := DoneF c22 0 ((dB true), []) e st
def f22_l1_J (a1 : List S8) (a2 : List S8) (x : Int) : St := ⟨(up (up (up (up u0 13 (dI x)) 12 (dI (a1.length : Int))) 1 (dE eStr a2)) 0 (dE eStr a1)), h0⟩
def f22_l1_H (a1 : List S8) (a2 : List S8) (x : Int) (st : St) : Prop := keepSt [0, 1, 12, 13] [] [] st = f22_l1_J a1 a2 x
def f22_l1_e0_J (a1 : List S8) (a2 : List S8) : St := ⟨u0, h0⟩
def f22_l1_X (a1 : List S8) (a2 : List S8) (z : Unit) (e : PX) (st : St) : Prop := e = .exit 0 ∧ st = f22_l1_e0_J a1 a2
def f22_l1_j3_J (a1 : List S8) (a2 : List S8) (p12 : Int) : St := ⟨(up (up (up (up u0 13 (dI p12)) 12 (dI (a1.length : Int))) 1 (dE eStr a2)) 0 (dE eStr a1)), h0⟩
def f22_l1_j3 (a1 : List S8) (a2 : List S8) (p12 : Int) : Option (Int ⊕ Unit) := ((idx a1 p12).bind fun z7 => ((idx a2 p12).bind fun z8 => (bif (!decide (z7 = z8)) then none else (some (.inl (IntKind.i64.wrap (p12 + 1)))))))
theorem f22_l1_j3_ok (hd : 1 ≤ d) (a1 : List S8) (a2 : List S8) {r : Int ⊕ Unit} (hQ : FQ (finL (f22_l1_H a1 a2) (f22_l1_X a1 a2) r) Q) (p12 : Int) (hS : f22_l1_j3 a1 a2 p12 = some r) (he : keepSt [0, 1, 12, 13] [] [] st = f22_l1_j3_J a1 a2 p12) : ZX d Q c22_1 [] st := by
 refine zrKeep he ?_
 unfold f22_l1_j3 at hS
 refine zrSeq (zrBlk (zS (zL 2 2 (zK (zrSeq ?_)))))
 refine zrRegD (zdR 2 2 (bindE hS (fun z7 hz7 hS => zdO (v := (.rptr (eStr.enc z7 ++ (eStr.cells (a1.drop ((p12 : Int).toNat + 1)))))) (ups := []) (some 18) 3 none (.ixS 9 1 (tm 16) (tm 17)) (ev_ixS eStr (kk := .i64) (xs := a1) (j := p12) (by kernel_rfl) (by kernel_rfl) hz7 rfl (by intro h; cases h)) (zdR 3 6 (bindE hS (fun z8 hz8 hS => zdO (v := (.rptr (eStr.enc z8 ++ (eStr.cells (a2.drop ((p12 : Int).toNat + 1)))))) (ups := []) (some 22) 7 none (.ixS 9 1 (tm 20) (tm 21)) (ev_ixS eStr (kk := .i64) (xs := a2) (j := p12) (by kernel_rfl) (by kernel_rfl) hz8 rfl (by intro h; cases h)) (zdR 1 8 (sDB 24 9 none (.strO .neq (tm 19) (tm 23)) hS (fun hS => ?_) (fun hS => ?_)))))))))
 ·cases hS
 ·refine zdE (zkSeq (zF ?_))
  refine zrSkip (zkBlk (zkSeq (zrReg (zL 2 2 (zE ?_)))))
  exact zkNil (eN1 hS hQ)
def f22_l1_j2_J (a1 : List S8) (a2 : List S8) (p10 : Int) (p11 : Bool) : St := ⟨(up (up (up (up (up u0 14 (dB p11)) 13 (dI p10)) 12 (dI (a1.length : Int))) 1 (dE eStr a2)) 0 (dE eStr a1)), h0⟩
def f22_l1_j2 (a1 : List S8) (a2 : List S8) (p10 : Int) (p11 : Bool) : Option (Int ⊕ Unit) := (bif p11 then (f22_l1_j3 a1 a2 p10) else (some (.inr ())))
theorem f22_l1_j2_ok (hd : 1 ≤ d) (a1 : List S8) (a2 : List S8) {r : Int ⊕ Unit} (hQ : FQ (finL (f22_l1_H a1 a2) (f22_l1_X a1 a2) r) Q) (p10 : Int) (p11 : Bool) (hS : f22_l1_j2 a1 a2 p10 p11 = some r) (he : keepSt [0, 1, 12, 13, 14] [] [] st = f22_l1_j2_J a1 a2 p10 p11) : ZX d Q c22_2 [] st := by
 refine zrKeep he ?_
 unfold f22_l1_j2 at hS
 refine zrSeq (sR 14 hS (fun hS => ?_) (fun hS => ?_))
 ·exact zT (zrSkip (zkSeq (f22_l1_j3_ok hd a1 a2 hQ p10 hS (by kernel_rfl))))
 ·exact zF (zrKeep (J := f22_l1_e0_J a1 a2) (by kernel_rfl) (zrExit (zkSeqX (zkNil (eX0 hS hQ)))))
def f22_l1 (a1 : List S8) (a2 : List S8) (x : Int) : Option (Int ⊕ Unit) := (bif (decide (x < (a1.length : Int))) then (f22_l1_j2 a1 a2 x true) else (f22_l1_j2 a1 a2 x false))
theorem f22_l1_ok (hd : 1 ≤ d) (a1 : List S8) (a2 : List S8) {r : Int ⊕ Unit} (hQ : FQ (finL (f22_l1_H a1 a2) (f22_l1_X a1 a2) r) Q) {x : Int} (hS : f22_l1 a1 a2 x = some r) (he : f22_l1_H a1 a2 x st) : ZX d Q c22_3 [] st := by
 refine zrKeep he ?_
 unfold f22_l1 at hS
 refine zS ?_
 refine sB 14 1 (.cmpI .lss (tm 13) (tm 12)) hS (fun hS => ?_) (fun hS => ?_)
 ·refine zK ?_
  exact f22_l1_j2_ok hd a1 a2 hQ x true hS (by kernel_rfl)
 ·refine zK ?_
  exact f22_l1_j2_ok hd a1 a2 hQ x false hS (by kernel_rfl)
def f22_j0_J (a1 : List S8) (a2 : List S8) : St := ⟨(up (up u0 1 (dE eStr a2)) 0 (dE eStr a1)), h0⟩
def f22_j0 (a1 : List S8) (a2 : List S8) : Option (Unit) := ((loopO (f22_l1 a1 a2) 0).bind fun z9 => (some ()))
theorem f22_j0_ok (hd : 1 ≤ d) (a1 : List S8) (a2 : List S8) {r : Unit} (hQ : FQ (f22_Q r) Q)  (hS : f22_j0 a1 a2 = some r) (he : keepSt [0, 1] [] [] st = f22_j0_J a1 a2) : ZX d Q c22_4 [] st := by
 refine zrKeep he ?_
 unfold f22_j0 at hS
 refine zrSeq (zS (zL 3 3 (zK ?_)))
 refine zrBlk (bindE hS (fun z9 hz9 hS => zrLoop (f22_l1_H a1 a2) (f22_l1_X a1 a2) (fun x st r Q h0 hS hQ => f22_l1_ok hd a1 a2 hQ hS h0) (x := 0) (z := z9) (by show keepSt _ _ _ _ = _; kernel_rfl) hz9 ?_))
 intro e st' _ hX
 obtain ⟨rfl, rfl⟩ : _ ∧ _ := hX
 refine zkBlkX (zkSeq (zS (zL 1 1 (zK ?_))))
 exact zrRet (zkNil (endQ hS hQ (fR (f22_out ))))
def f22 (a1 : List S8) (a2 : List S8) : Option (Unit) := (bif (!decide ((a1.length : Int) = (a2.length : Int))) then none else (f22_j0 a1 a2 ))
theorem f22_ok (d : Nat) (hd : 1 ≤ d) (a1 : List S8) (a2 : List S8) (r : Unit) (hS : f22 a1 a2 = some r) : lev codes baseL d 22 [(dE eStr a1), (dE eStr a2)] [] = some ((dB true), []) := by
 refine lvG hd (fun Q hQ => ?_) codes22
 unfold f22 at hS
 show ZR _ Q c22_b [] _
 replace hQ : FQ (f22_Q r) Q := hQ
 refine zS (zL 1 1 (zK (zrSeq (zS (zL 4 4 ?_)))))
 refine sB 10 5 (.cmpI .neq (tm 7) (tm 9)) hS (fun hS => ?_) (fun hS => ?_)
 ·cases hS
 ·refine zK (zF ?_)
  exact zrSkip (zkSeq (f22_j0_ok hd a1 a2 hQ  hS (by kernel_rfl)))
end
end Go.Proofs.YtobkkblijfhpoaaGreatDoor.Pm
