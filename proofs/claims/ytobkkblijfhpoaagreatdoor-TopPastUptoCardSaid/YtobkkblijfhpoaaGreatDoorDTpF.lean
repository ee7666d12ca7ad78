/- Typed functions, and that the codes are these. Printed by dec.py. -/
import Derived.Test.YtobkkblijfhpoaaGreatDoorDTpE
namespace Go.Proofs.YtobkkblijfhpoaaGreatDoor.Pm
noncomputable section
set_option maxRecDepth 1000000
set_option maxHeartbeats 20000000
set_option linter.unusedVariables false
set_option linter.unusedSimpArgs false
variable {d : Nat} {Q : PQ} {st : St}
/- farwriter/client.Check -/
def f28_fin  : St := ⟨(up u0 2 (dI 0)), h0⟩
theorem f28_out  : outR (f28_fin ) 0 c28.res = some ((dI 0), []) := by
 kernel_rfl
def f28_Q (r : Unit) (e : PX) (st : St) : Prop := DoneF c28 0 ((dI 0), []) e st
def f28_l0_J (a1 : GClient) (x : (Nat → Int) × Int) : St := ⟨(up (up u0 39 (dI x.2)) 38 (.agg ((eI.row 9 x.1) ++ []))), h0⟩
def f28_l0_H (a1 : GClient) (x : (Nat → Int) × Int) (st : St) : Prop := keepSt [38, 39] [] [] st = f28_l0_J a1 x
def f28_l0_e0_J (a1 : GClient) : St := ⟨u0, h0⟩
def f28_l0_X (a1 : GClient) (z : Unit) (e : PX) (st : St) : Prop := e = .exit 0 ∧ st = f28_l0_e0_J a1
def f28_l0_j2_J (a1 : GClient) (p29 : Nat → Int) (p30 : Int) : St := ⟨(up (up u0 39 (dI p30)) 38 (.agg ((eI.row 9 p29) ++ []))), h0⟩
def f28_l0_j2 (a1 : GClient) (p29 : Nat → Int) (p30 : Int) : Option (((Nat → Int) × Int) ⊕ Unit) := ((inR p30 9).bind fun m23 => (bif (!decide ((p29 m23) = 0)) then none else (some (.inl (p29, (IntKind.i64.wrap (p30 + 1)))))))
theorem f28_l0_j2_ok (hd : 6 ≤ d) (a1 : GClient) {r : ((Nat → Int) × Int) ⊕ Unit} (hQ : FQ (finL (f28_l0_H a1) (f28_l0_X a1) r) Q) (p29 : Nat → Int) (p30 : Int) (hS : f28_l0_j2 a1 p29 p30 = some r) (he : keepSt [38, 39] [] [] st = f28_l0_j2_J a1 p29 p30) : ZX d Q c28_1 [] st := by
 refine zrKeep he ?_
 unfold f28_l0_j2 at hS
 refine zrSeq (zrBlk (zS ?_))
 refine bindE hS (fun m23 hm23 hS => zO (v := (dI (p29 m23))) (ups := []) (some 41) 1 (.ixV .false 9 1 (tm 38) (tm 39)) (ev_ixV eI p29 (kk := .i64) (j := p30) (by kernel_rfl) (by kernel_rfl) hm23 rfl (by kernel_rfl) (by kernel_rfl)) (zL 1 2 (zK (zS (zL 1 1 ?_)))))
 refine sB 43 2 (.cmpI .neq (tm 42) (ki 0)) hS (fun hS => ?_) (fun hS => ?_)
 ·cases hS
 ·refine zK (zF ?_)
  refine zrSkip (zkBlk (zkSeq (zrReg (zL 2 2 (zE ?_)))))
  exact zkNil (eN1 hS hQ)
def f28_l0_j1_J (a1 : GClient) (p26 : Nat → Int) (p27 : Int) (p28 : Bool) : St := ⟨(up (up (up u0 40 (dB p28)) 39 (dI p27)) 38 (.agg ((eI.row 9 p26) ++ []))), h0⟩
def f28_l0_j1 (a1 : GClient) (p26 : Nat → Int) (p27 : Int) (p28 : Bool) : Option (((Nat → Int) × Int) ⊕ Unit) := (bif p28 then (f28_l0_j2 a1 p26 p27) else (some (.inr ())))
theorem f28_l0_j1_ok (hd : 6 ≤ d) (a1 : GClient) {r : ((Nat → Int) × Int) ⊕ Unit} (hQ : FQ (finL (f28_l0_H a1) (f28_l0_X a1) r) Q) (p26 : Nat → Int) (p27 : Int) (p28 : Bool) (hS : f28_l0_j1 a1 p26 p27 p28 = some r) (he : keepSt [38, 39, 40] [] [] st = f28_l0_j1_J a1 p26 p27 p28) : ZX d Q c28_2 [] st := by
 refine zrKeep he ?_
 unfold f28_l0_j1 at hS
 refine zrSeq (sR 40 hS (fun hS => ?_) (fun hS => ?_))
 ·exact zT (zrSkip (zkSeq (f28_l0_j2_ok hd a1 hQ p26 p27 hS (by kernel_rfl))))
 ·exact zF (zrKeep (J := f28_l0_e0_J a1) (by kernel_rfl) (zrExit (zkSeqX (zkNil (eX0 hS hQ)))))
def f28_l0 (a1 : GClient) (x : (Nat → Int) × Int) : Option (((Nat → Int) × Int) ⊕ Unit) := (bif (decide (x.2 < 9)) then (f28_l0_j1 a1 x.1 x.2 true) else (f28_l0_j1 a1 x.1 x.2 false))
theorem f28_l0_ok (hd : 6 ≤ d) (a1 : GClient) {r : ((Nat → Int) × Int) ⊕ Unit} (hQ : FQ (finL (f28_l0_H a1) (f28_l0_X a1) r) Q) {x : (Nat → Int) × Int} (hS : f28_l0 a1 x = some r) (he : f28_l0_H a1 x st) : ZX d Q c28_3 [] st := by
 refine zrKeep he ?_
 unfold f28_l0 at hS
 refine zS ?_
 refine sB 40 1 (.cmpI .lss (tm 39) (ki 9)) hS (fun hS => ?_) (fun hS => ?_)
 ·refine zK ?_
  exact f28_l0_j1_ok hd a1 hQ x.1 x.2 true hS (by kernel_rfl)
 ·refine zK ?_
  exact f28_l0_j1_ok hd a1 hQ x.1 x.2 false hS (by kernel_rfl)
def f28 (a1 : GClient) : Option (Unit) := ((f27 a1.Vars).bind fun z12 => ((f52 a1.Wire).bind fun z13 => ((f53 a1.Part).bind fun z14 => ((f54 a1.Psr).bind fun z15 => ((f55 a1.Screen).bind fun z16 => ((f56 a1.Neg).bind fun z17 => ((f26 a1.Sorts).bind fun z18 => ((f57 a1.Keys).bind fun z19 => ((f58 a1.Editor).bind fun z20 => ((loopO (f28_l0 a1) ((fun i => ([z13, 0, 0, 0, z17, 0, 0, 0, 0] : List Int).getD i 0), 0)).bind fun z24 => (some ())))))))))))
theorem f28_ok (d : Nat) (hd : 6 ≤ d) (a1 : GClient) (r : Unit) (hS : f28 a1 = some r) : lev codes baseL d 28 [(q1_ a1)] [] = some ((dI 0), []) := by
 refine lvG hd (fun Q hQ => ?_) codes28
 unfold f28 at hS
 show ZR _ Q c28_b [] _
 replace hQ : FQ (f28_Q r) Q := hQ
 refine zS (zL 2 2 (zK (zS (zL 2 2 ?_))))
 refine bindE hS (fun z12 hz12 hS => zO (some 10) 3 (c1 27 9) (ev_cA (f27_ok (d - 1) (dpt hd rfl) a1.Vars z12 hz12)) (zL 5 8 (zK (zrSeq (zrSeq ?_)))))
 refine zrRegD (zdR 2 2 (bindE hS (fun z13 hz13 hS => zdO (some 15) 3 none (c1 52 14) (ev_cA (f52_ok (d - 1) (dpt hd rfl) a1.Wire z13 hz13)) (zdR 2 5 (bindE hS (fun z14 hz14 hS => zdO (some 18) 6 none (c1 53 17) (ev_cA (f53_ok (d - 1) (dpt hd rfl) a1.Part z14 hz14)) (zdR 2 8 (bindE hS (fun z15 hz15 hS => zdO (some 21) 9 none (c1 54 20) (ev_cA (f54_ok (d - 1) (dpt hd rfl) a1.Psr z15 hz15)) (zdR 2 11 (bindE hS (fun z16 hz16 hS => zdO (some 24) 12 none (c1 55 23) (ev_cA (f55_ok (d - 1) (dpt hd rfl) a1.Screen z16 hz16)) (zdR 2 14 (bindE hS (fun z17 hz17 hS => zdO (some 27) 15 none (c1 56 26) (ev_cA (f56_ok (d - 1) (dpt hd rfl) a1.Neg z17 hz17)) (zdR 2 17 (bindE hS (fun z18 hz18 hS => zdO (some 30) 18 none (c1 26 29) (ev_cA (f26_ok (d - 1) (dpt hd rfl) a1.Sorts z18 hz18)) (zdR 3 21 (bindE hS (fun z19 hz19 hS => zdO (some 34) 22 none (c1 57 33) (ev_cA (f57_ok (d - 1) (dpt hd rfl) a1.Keys z19 hz19)) (zdR 2 24 (bindE hS (fun z20 hz20 hS => zdO (some 37) 25 none (c1 58 36) (ev_cA (f58_ok (d - 1) (dpt hd rfl) a1.Editor z20 hz20)) (zdR 2 27 (zdE (zkSeq (zrBlk (bindE hS (fun z24 hz24 hS => zrLoop (f28_l0_H a1) (f28_l0_X a1) (fun x st r Q h0 hS hQ => f28_l0_ok hd a1 hQ hS h0) (x := ((fun i => ([z13, 0, 0, 0, z17, 0, 0, 0, 0] : List Int).getD i 0), 0)) (z := z24) (by show keepSt _ _ _ _ = _; kernel_rfl) hz24 ?_))))))))))))))))))))))))))))))
 intro e st' _ hX
 obtain ⟨rfl, rfl⟩ : _ ∧ _ := hX
 refine zkBlkX (zkSeq (zS (zL 1 1 (zK ?_))))
 exact zrRet (zkNil (endQ hS hQ (fR (f28_out ))))
/- farwriter/screen.Clone -/
def f59_fin (p20 : GScreen) : St := ⟨(up u0 2 (pt 24)), (gh_GScreen h0 p20 24 72 96 32)⟩
theorem f59_out (p20 : GScreen) : outR (f59_fin p20) 0 c59.res = some ((.agg (bw_GScreen p20)), []) := by
 exact out_of (ids := []) (ids' := [72, 96, 32]) (l := [(.agg (bm_GScreen p20 72 0 96 0 32 0))]) (by kernel_rfl) (by kernel_rfl) (o_agg (o_cons rfl (o_cons rfl (o_cons (o_own e_GCell (e := 100) (k := 4) (xs := p20.Grid.Cells) (by kernel_rfl) rfl rfl rfl rfl) (o_cons rfl (o_cons rfl (o_cons rfl (o_cons rfl (o_cons rfl (o_cons rfl (o_cons rfl (o_cons rfl (o_cons rfl (o_app (o_row (eInt .u64)) (o_cons rfl (o_cons rfl (o_cons rfl (o_cons rfl (o_cons rfl (o_cons rfl (o_cons rfl (o_cons rfl (o_cons rfl (o_cons rfl (o_cons rfl (o_cons rfl (o_cons rfl (o_cons rfl (o_cons (o_own e_GCell (e := 100) (k := 4) (xs := p20.Other.Cells) (by kernel_rfl) rfl rfl rfl rfl) (o_cons rfl (o_cons (o_own e_GLine (e := 91) (k := 1) (xs := p20.Past) (by kernel_rfl) rfl rfl rfl rfl) o_nil)))))))))))))))))))))))))))))))
def f59_Q (r : GScreen) (e : PX) (st : St) : Prop := DoneF c59 0 ((.agg (bw_GScreen r)), []) e st
def f59_l0_J (a1 : GScreen) (x : GScreen × (List GLine) × Int) : St := ⟨(up (up (up (up (up (up u0 17 (dI x.2.2)) 16 (dI (a1.Past.length : Int))) 15 (gd2_GScreen a1)) 3 (.r (.msl 32 0 0 x.2.1.length))) 2 (pt 24)) 1 (pt 16)), (up (up (up (up (up h0 32 ⟨0, some (.own 91 1 (e_GLine.cells x.2.1))⟩) 24 q6_) 96 ⟨0, some (go1_GScreen x.1)⟩) 72 ⟨0, some (go0_GScreen x.1)⟩) 16 (q29_ x.1))⟩
def f59_l0_H (a1 : GScreen) (x : GScreen × (List GLine) × Int) (st : St) : Prop := keepSt [1, 2, 3, 15, 16, 17] [(16, .id 16), (72, .id 72), (96, .id 96), (24, .id 24), (32, .id 32)] [.cell 24 2 0 0 1, .cell 24 30 0 0 1, .cell 24 32 0 0 1] st = f59_l0_J a1 x
def f59_l0_e0_J (a1 : GScreen) (p38 : GScreen) (p39 : List GLine) : St := ⟨(up (up (up u0 3 (.r (.msl 32 0 0 p39.length))) 2 (pt 24)) 1 (pt 16)), (up (up (up (up (up h0 32 ⟨0, some (.own 91 1 (e_GLine.cells p39))⟩) 24 q6_) 96 ⟨0, some (go1_GScreen p38)⟩) 72 ⟨0, some (go0_GScreen p38)⟩) 16 (q29_ p38))⟩
def f59_l0_X (a1 : GScreen) (z : (GScreen × (List GLine))) (e : PX) (st : St) : Prop := e = .exit 0 ∧ st = f59_l0_e0_J a1 z.1 z.2
def f59_l0_j2_J (a1 : GScreen) (p48 : GScreen) (p49 : List GLine) (p50 : Int) : St := ⟨(up (up (up (up (up (up u0 17 (dI p50)) 16 (dI (a1.Past.length : Int))) 15 (gd2_GScreen a1)) 3 (.r (.msl 32 0 0 p49.length))) 2 (pt 24)) 1 (pt 16)), (up (up (up (up (up h0 32 ⟨0, some (.own 91 1 (e_GLine.cells p49))⟩) 24 q6_) 96 ⟨0, some (go1_GScreen p48)⟩) 72 ⟨0, some (go0_GScreen p48)⟩) 16 (q29_ p48))⟩
def f59_l0_j2 (a1 : GScreen) (p48 : GScreen) (p49 : List GLine) (p50 : Int) : Option ((GScreen × (List GLine) × Int) ⊕ ((GScreen × (List GLine)))) := ((idx a1.Past p50).bind fun z23 => ((f91 z23.Cells).bind fun z24 => ((app? 24 p49 ([(GLine.mk z24)] : List GLine)).bind fun z25 => (some (.inl (p48, z25, (IntKind.i64.wrap (p50 + 1))))))))
theorem f59_l0_j2_ok (hd : 3 ≤ d) (a1 : GScreen) {r : (GScreen × (List GLine) × Int) ⊕ ((GScreen × (List GLine)))} (hQ : FQ (finL (f59_l0_H a1) (f59_l0_X a1) r) Q) (p48 : GScreen) (p49 : List GLine) (p50 : Int) (hS : f59_l0_j2 a1 p48 p49 p50 = some r) (he : keepSt [1, 2, 3, 15, 16, 17] [(16, .id 16), (72, .id 72), (96, .id 96), (24, .id 24), (32, .id 32)] [] st = f59_l0_j2_J a1 p48 p49 p50) : ZX d Q c59_1 [] st := by
 refine zrKeep he ?_
 unfold f59_l0_j2 at hS
 refine zrSeq (zrBlk (zS ?_))
 refine bindE hS (fun z23 hz23 hS => zO (v := (.rptr (e_GLine.enc z23 ++ (e_GLine.cells (a1.Past.drop ((p50 : Int).toNat + 1)))))) (ups := []) (some 19) 1 (.ixS 91 1 (tm 15) (tm 17)) (ev_ixS e_GLine (kk := .i64) (xs := a1.Past) (j := p50) (by kernel_rfl) (by kernel_rfl) hz23 rfl (by intro h; cases h)) (zL 3 4 (zK (zrReg (zL 3 3 ?_)))))
 refine bindE hS (fun z24 hz24 hS => zO (some 24) 4 (c1 91 23) (ev_cA (f91_ok (d - 1) (dpt hd rfl) z23.Cells z24 hz24)) (zL 1 5 (zO (v := (.r (.msl 216 1 0 (([(GLine.mk z24)] : List GLine).length)))) (ups := [(200, ⟨2, none⟩), (216, ⟨1, some (.own 91 1 (e_GLine.cells ([(GLine.mk z24)])))⟩)]) (some 26) 6 (.bsl 91 1 1 [(1, (.slice .none 0 0))] [(0, (1, (tm 25)))]) ((by kernel_rfl : peval _ _ 26 (ρof _) (.bsl 91 1 1 [(1, (.slice .none 0 0))] [(0, (1, (.tmp 25)))]) = some ((.r (.msl 216 1 0 (([(GLine.mk z24)] : List GLine).length))), [(200, ⟨2, none⟩), (216, ⟨1, some (.own 91 1 [.sl z24.length (((e_GCell.cells z24).drop (0 * e_GCell.k)).take (z24.length * e_GCell.k))])⟩)])).trans (by simp only [Enc.frz]; rfl)) (bindE hS (fun z25 hz25 hS => zO (v := (.r (.msl 32 1 0 z25.length))) (ups := [(32, ⟨1, some (.own 91 1 (e_GLine.cells z25))⟩)]) (some 27) 7 (.app 91 1 24 (tm 21) (tm 26)) (ev_app e_GLine (b := 32) (g := 0) (n := p49.length) (xs := p49) (ys := [(GLine.mk z24)]) ((congrArg (asL _) (by kernel_rfl : ρof _ (.tmp 26) = (.r (.msl 216 1 0 (([(GLine.mk z24)] : List GLine).length))))).trans (as_whole e_GLine (e := 91) (k := 1) (xs := [(GLine.mk z24)]) (by kernel_rfl) rfl rfl)) rfl (by kernel_rfl) rfl (by kernel_rfl) rfl hz25) (zL 1 8 (zE ?_)))))))
 refine zkBlk (zkSeq (zrReg (zL 2 2 (zE ?_))))
 exact zkNil (eN1 hS hQ)
def f59_l0_j1_J (a1 : GScreen) (p44 : GScreen) (p45 : List GLine) (p46 : Int) (p47 : Bool) : St := ⟨(up (up (up (up (up (up (up u0 18 (dB p47)) 17 (dI p46)) 16 (dI (a1.Past.length : Int))) 15 (gd2_GScreen a1)) 3 (.r (.msl 32 0 0 p45.length))) 2 (pt 24)) 1 (pt 16)), (up (up (up (up (up h0 32 ⟨0, some (.own 91 1 (e_GLine.cells p45))⟩) 24 q6_) 96 ⟨0, some (go1_GScreen p44)⟩) 72 ⟨0, some (go0_GScreen p44)⟩) 16 (q29_ p44))⟩
def f59_l0_j1 (a1 : GScreen) (p44 : GScreen) (p45 : List GLine) (p46 : Int) (p47 : Bool) : Option ((GScreen × (List GLine) × Int) ⊕ ((GScreen × (List GLine)))) := (bif p47 then (f59_l0_j2 a1 p44 p45 p46) else (some (.inr (p44, p45))))
theorem f59_l0_j1_ok (hd : 3 ≤ d) (a1 : GScreen) {r : (GScreen × (List GLine) × Int) ⊕ ((GScreen × (List GLine)))} (hQ : FQ (finL (f59_l0_H a1) (f59_l0_X a1) r) Q) (p44 : GScreen) (p45 : List GLine) (p46 : Int) (p47 : Bool) (hS : f59_l0_j1 a1 p44 p45 p46 p47 = some r) (he : keepSt [1, 2, 3, 15, 16, 17, 18] [(16, .id 16), (72, .id 72), (96, .id 96), (24, .id 24), (32, .id 32)] [] st = f59_l0_j1_J a1 p44 p45 p46 p47) : ZX d Q c59_2 [] st := by
 refine zrKeep he ?_
 unfold f59_l0_j1 at hS
 refine zrSeq (sR 18 hS (fun hS => ?_) (fun hS => ?_))
 ·exact zT (zrSkip (zkSeq (f59_l0_j2_ok hd a1 hQ p44 p45 p46 hS (by kernel_rfl))))
 ·exact zF (zrKeep (J := f59_l0_e0_J a1 p44 p45) (by kernel_rfl) (zrExit (zkSeqX (zkNil (eX0 hS hQ)))))
def f59_l0 (a1 : GScreen) (x : GScreen × (List GLine) × Int) : Option ((GScreen × (List GLine) × Int) ⊕ ((GScreen × (List GLine)))) := (bif (decide (x.2.2 < (a1.Past.length : Int))) then (f59_l0_j1 a1 x.1 x.2.1 x.2.2 true) else (f59_l0_j1 a1 x.1 x.2.1 x.2.2 false))
theorem f59_l0_ok (hd : 3 ≤ d) (a1 : GScreen) {r : (GScreen × (List GLine) × Int) ⊕ ((GScreen × (List GLine)))} (hQ : FQ (finL (f59_l0_H a1) (f59_l0_X a1) r) Q) {x : GScreen × (List GLine) × Int} (hS : f59_l0 a1 x = some r) (he : f59_l0_H a1 x st) : ZX d Q c59_3 [] st := by
 refine zrKeep he ?_
 unfold f59_l0 at hS
 refine zS ?_
 refine sB 18 1 (.cmpI .lss (tm 17) (tm 16)) hS (fun hS => ?_) (fun hS => ?_)
 ·refine zK ?_
  exact f59_l0_j1_ok hd a1 hQ x.1 x.2.1 x.2.2 true hS (by kernel_rfl)
 ·refine zK ?_
  exact f59_l0_j1_ok hd a1 hQ x.1 x.2.1 x.2.2 false hS (by kernel_rfl)
def f59 (a1 : GScreen) : Option (GScreen) := ((f45 a1.Grid).bind fun z12 => ((f45 a1.Other).bind fun z13 => ((loopO (f59_l0 a1) ({ a1 with Grid := (GGrid.mk z12.1 z12.2.1 z12.2.2), Other := (GGrid.mk z13.1 z13.2.1 z13.2.2) }, [], 0)).bind fun z26 => (some (GScreen.mk z26.1.Grid z26.1.Row z26.1.Col z26.1.Late z26.1.Top z26.1.Bottom z26.1.Pen z26.1.Modes z26.1.Stops z26.1.Pages z26.1.Shift z26.1.Saved z26.1.Other z26.1.Title z26.2)))))
theorem f59_ok (d : Nat) (hd : 3 ≤ d) (a1 : GScreen) (r : GScreen) (hS : f59 a1 = some r) : lev codes baseL d 59 [(.agg (bd_GScreen a1))] [] = some ((.agg (bw_GScreen r)), []) := by
 refine lvG hd (fun Q hQ => ?_) codes59
 unfold f59 at hS
 show ZR _ Q c59_b [] _
 replace hQ : FQ (f59_Q r) Q := hQ
 refine zS (zL 2 2 (zK (zrSeq ?_)))
 refine zrRegD (zdR 2 2 (bindE hS (fun z12 hz12 hS => zdO (some 8) 3 none (c1 45 7) (ev_cA (f45_ok (d - 1) (dpt hd rfl) a1.Grid z12 hz12)) (zdR 2 5 (bindE hS (fun z13 hz13 hS => zdO (some 11) 6 none (c1 45 10) (ev_cA (f45_ok (d - 1) (dpt hd rfl) a1.Other z13 hz13)) (zdR 4 10 (zdE (zkSeq (zS (zL 1 1 (zK (zrSeq (zS (zL 4 4 (zK ?_))))))))))))))))
 refine zrBlk (bindE hS (fun z26 hz26 hS => zrLoop (f59_l0_H a1) (f59_l0_X a1) (fun x st r Q h0 hS hQ => f59_l0_ok hd a1 hQ hS h0) (x := ({ a1 with Grid := (GGrid.mk z12.1 z12.2.1 z12.2.2), Other := (GGrid.mk z13.1 z13.2.1 z13.2.2) }, [], 0)) (z := z26) (by show keepSt _ _ _ _ = _; kernel_rfl) hz26 ?_))
 intro e st' _ hX
 obtain ⟨rfl, rfl⟩ : _ ∧ _ := hX
 refine zkBlkX (zkSeq (zS (zL 3 3 (zK (zS (zL 2 2 (zK ?_)))))))
 exact zrRet (zkNil (endQ hS hQ (fR (f59_out (GScreen.mk z26.1.Grid z26.1.Row z26.1.Col z26.1.Late z26.1.Top z26.1.Bottom z26.1.Pen z26.1.Modes z26.1.Stops z26.1.Pages z26.1.Shift z26.1.Saved z26.1.Other z26.1.Title z26.2)))))
/- farwriter/client.clone -/
def f29_fin (p1 : GClient) : St := ⟨(up u0 2 (pt 24)), (up (up (up (up (up (up h0 112 ⟨0, some (.own 107 4 (e_GVar.cells p1.Vars))⟩) 88 ⟨0, some (.own 9 1 (eStr.cells p1.Sorts.Names))⟩) 50 ⟨0, some (go2_GScreen p1.Screen)⟩) 49 ⟨0, some (go1_GScreen p1.Screen)⟩) 48 ⟨0, some (go0_GScreen p1.Screen)⟩) 24 ⟨0, some (.box (bx_GClient p1 (.r (.msl 48 0 0 p1.Screen.Grid.Cells.length)) (.r (.msl 49 0 0 p1.Screen.Other.Cells.length)) (.r (.msl 50 0 0 p1.Screen.Past.length)) (.r (.msl 88 0 0 p1.Sorts.Names.length)) (.r (.msl 112 0 0 p1.Vars.length))))⟩)⟩
theorem f29_out (p1 : GClient) : outR (f29_fin p1) 0 c29.res = some ((q3_ p1), []) := by
 exact out_of (ids := []) (ids' := [48, 49, 50, 88, 112]) (l := [(.agg ((dI p1.Wire.Mode) :: ((dI p1.Wire.Cmd) :: ((dI p1.Wire.Opt) :: ((.d (.str p1.Wire.Buf)) :: ((dB p1.Wire.Over) :: ((dB p1.Cr) :: ((.d (.str p1.Part)) :: ((dI p1.Psr.State) :: ((dI p1.Psr.Mark) :: ((.d (.str p1.Psr.Inter)) :: ((.d (.str p1.Psr.Args)) :: ((.d (.str p1.Psr.Text)) :: ((dI p1.Screen.Grid.Wide) :: ((dI p1.Screen.Grid.High) :: ((.r (.msl 48 0 0 p1.Screen.Grid.Cells.length)) :: ((dI p1.Screen.Row) :: ((dI p1.Screen.Col) :: ((dB p1.Screen.Late) :: ((dI p1.Screen.Top) :: ((dI p1.Screen.Bottom) :: ((dI p1.Screen.Pen.Flags) :: ((dI p1.Screen.Pen.Fore) :: ((dI p1.Screen.Pen.Back) :: ((dI p1.Screen.Modes) :: (((eInt .u64).row 4 p1.Screen.Stops.Bits) ++ ((dI p1.Screen.Pages.1) :: ((dI p1.Screen.Pages.2) :: ((dI p1.Screen.Shift) :: ((dI p1.Screen.Saved.Row) :: ((dI p1.Screen.Saved.Col) :: ((dI p1.Screen.Saved.Pen.Flags) :: ((dI p1.Screen.Saved.Pen.Fore) :: ((dI p1.Screen.Saved.Pen.Back) :: ((dB p1.Screen.Saved.Origin) :: ((dI p1.Screen.Saved.Pages.1) :: ((dI p1.Screen.Saved.Pages.2) :: ((dI p1.Screen.Saved.Shift) :: ((dI p1.Screen.Other.Wide) :: ((dI p1.Screen.Other.High) :: ((.r (.msl 49 0 0 p1.Screen.Other.Cells.length)) :: ((.d (.str p1.Screen.Title)) :: ((.r (.msl 50 0 0 p1.Screen.Past.length)) :: ((eU8.row 256 p1.Neg.Us) ++ ((eU8.row 256 p1.Neg.Him) ++ (((eInt .u64).row 4 p1.Neg.UsOk) ++ (((eInt .u64).row 4 p1.Neg.HimOk) ++ ((.r (.msl 88 0 0 p1.Sorts.Names.length)) :: ((dI p1.Sorts.At) :: ((.r (.msl 112 0 0 p1.Vars.length)) :: ((eU8.row 19 p1.Keys.Levels) ++ ((eU8.row 19 p1.Keys.Chars) ++ (((eInt .u64).row 4 p1.Mask.Bits) ++ ((.d (.str p1.Editor.Buf)) :: ((dB p1.Editor.Quote) :: ((dB p1.Edit) :: []))))))))))))))))))))))))))))))))))))))))))))))))))))))))]) (by kernel_rfl) (by kernel_rfl) (o_agg (o_cons rfl (o_cons rfl (o_cons rfl (o_cons rfl (o_cons rfl (o_cons rfl (o_cons rfl (o_cons rfl (o_cons rfl (o_cons rfl (o_cons rfl (o_cons rfl (o_cons rfl (o_cons rfl (o_cons (o_own e_GCell (e := 100) (k := 4) (xs := p1.Screen.Grid.Cells) (by kernel_rfl) rfl rfl rfl rfl) (o_cons rfl (o_cons rfl (o_cons rfl (o_cons rfl (o_cons rfl (o_cons rfl (o_cons rfl (o_cons rfl (o_cons rfl (o_app (o_row (eInt .u64)) (o_cons rfl (o_cons rfl (o_cons rfl (o_cons rfl (o_cons rfl (o_cons rfl (o_cons rfl (o_cons rfl (o_cons rfl (o_cons rfl (o_cons rfl (o_cons rfl (o_cons rfl (o_cons rfl (o_cons (o_own e_GCell (e := 100) (k := 4) (xs := p1.Screen.Other.Cells) (by kernel_rfl) rfl rfl rfl rfl) (o_cons rfl (o_cons (o_own e_GLine (e := 91) (k := 1) (xs := p1.Screen.Past) (by kernel_rfl) rfl rfl rfl rfl) (o_app (o_row eU8) (o_app (o_row eU8) (o_app (o_row (eInt .u64)) (o_app (o_row (eInt .u64)) (o_cons (o_own eStr (e := 9) (k := 1) (xs := p1.Sorts.Names) (by kernel_rfl) rfl rfl rfl rfl) (o_cons rfl (o_cons (o_own e_GVar (e := 107) (k := 4) (xs := p1.Vars) (by kernel_rfl) rfl rfl rfl rfl) (o_app (o_row eU8) (o_app (o_row eU8) (o_app (o_row (eInt .u64)) (o_cons rfl (o_cons rfl (o_cons rfl o_nil))))))))))))))))))))))))))))))))))))))))))))))))))))))))
def f29_Q (r : GClient) (e : PX) (st : St) : Prop := DoneF c29 0 ((q3_ r), []) e st
def f29 (a1 : GClient) : Option (GClient) := ((f59 a1.Screen).bind fun z4 => ((f24 a1.Sorts.Names).bind fun z5 => ((f25 a1.Vars).bind fun z6 => (some ({ a1 with Screen := z4, Sorts := (GSorts.mk z5 a1.Sorts.At), Vars := z6 })))))
theorem f29_ok (d : Nat) (hd : 4 ≤ d) (a1 : GClient) (r : GClient) (hS : f29 a1 = some r) : lev codes baseL d 29 [(q1_ a1)] [] = some ((q3_ r), []) := by
 refine lvG hd (fun Q hQ => ?_) codes29
 unfold f29 at hS
 show ZR _ Q c29_b [] _
 replace hQ : FQ (f29_Q r) Q := hQ
 refine zS (zL 2 2 (zK (zS (zL 2 2 ?_))))
 refine bindE hS (fun z4 hz4 hS => zO (v := (.agg (bm_GScreen z4 48 1 49 1 50 1))) (ups := [(48, ⟨1, some (go0_GScreen z4)⟩), (49, ⟨1, some (go1_GScreen z4)⟩), (50, ⟨1, some (go2_GScreen z4)⟩)]) (some 5) 3 (.callf 59 [(tm 4)]) (ev_callF (args := [(.agg (bd_GScreen a1.Screen))]) (args' := [(.agg (bd_GScreen a1.Screen))]) (l := [(.agg (bd_GScreen a1.Screen))]) (refs := []) (r := (.agg (bw_GScreen z4))) (v := (.agg (bm_GScreen z4 48 1 49 1 50 1))) (ups' := [(48, ⟨1, some (go0_GScreen z4)⟩), (49, ⟨1, some (go1_GScreen z4)⟩), (50, ⟨1, some (go2_GScreen z4)⟩)]) (by kernel_rfl) (by kernel_rfl) (by kernel_rfl) (fz_cons rfl fz_nil) (by kernel_rfl) (f59_ok (d - 1) (dpt hd rfl) a1.Screen z4 hz4) (by kernel_rfl) (by kernel_rfl) (by kernel_rfl) (by kernel_rfl)) (zL 2 5 (zK (zrSeq ?_))))
 refine zrRegD (zdR 3 3 (bindE hS (fun z5 hz5 hS => zdO (some 10) 4 none (c1 24 9) (ev_cA (f24_ok (d - 1) (dpt hd rfl) a1.Sorts.Names z5 hz5)) (zdR 2 6 (bindE hS (fun z6 hz6 hS => zdO (some 13) 7 none (c1 25 12) (ev_cA (f25_ok (d - 1) (dpt hd rfl) a1.Vars z6 hz6)) (zdR 5 12 (zdE (zkSeq (zS (zL 2 2 (zK ?_))))))))))))
 exact zrRet (zkNil (endQ hS hQ (fR (f29_out ({ a1 with Screen := z4, Sorts := (GSorts.mk z5 a1.Sorts.At), Vars := z6 })))))
/- (*farwriter/iac.receiver).take -/
def f156_fin (p1 : Int) (p2 : Int) (p3 : Int) (p4 : S8) (p5 : Bool) (p6 : S8) (p7 : S8) (p8 : List GTok) : St := ⟨(up (up (up u0 1000003 .un) 1000002 .un) 1000001 .un), (up (up (up (up h0 3 ⟨1, some (.own 201 4 (e_GTok.cells p8))⟩) 2 ⟨1, some (.own 5 1 (eU8.cells p7))⟩) 1 ⟨1, some (.own 5 1 (eU8.cells p6))⟩) 0 ⟨0, some (.box (bx_Greceiver (Greceiver.mk (GWire.mk p1 p2 p3 p4 p5) ([]) ([]) ([])) (.r (.msl 1 1 0 p6.length)) (.r (.msl 2 1 0 p7.length)) (.r (.msl 3 1 0 p8.length))))⟩)⟩
theorem f156_out (p1 : Int) (p2 : Int) (p3 : Int) (p4 : S8) (p5 : Bool) (p6 : S8) (p7 : S8) (p8 : List GTok) : outR (f156_fin p1 p2 p3 p4 p5 p6 p7 p8) 4 c156.res = some ((.tup []), [(.box (bx_Greceiver (Greceiver.mk (GWire.mk p1 p2 p3 p4 p5) ([]) ([]) ([])) (.r (.msl 1 0 0 p6.length)) (.r (.msl 2 0 0 p7.length)) (.r (.msl 3 0 0 p8.length)))), (.own 5 1 (eU8.cells p6)), (.own 5 1 (eU8.cells p7)), (.own 201 4 (e_GTok.cells p8))]) := by
 kernel_rfl
def f156_Q (r : Int × Int × Int × S8 × Bool × S8 × S8 × (List GTok)) (e : PX) (st : St) : Prop := DoneF c156 4 ((.tup []), [(.box (bx_Greceiver (Greceiver.mk (GWire.mk r.1 r.2.1 r.2.2.1 r.2.2.2.1 r.2.2.2.2.1) ([]) ([]) ([])) (.r (.msl 1 0 0 r.2.2.2.2.2.1.length)) (.r (.msl 2 0 0 r.2.2.2.2.2.2.1.length)) (.r (.msl 3 0 0 r.2.2.2.2.2.2.2.length)))), (.own 5 1 (eU8.cells r.2.2.2.2.2.1)), (.own 5 1 (eU8.cells r.2.2.2.2.2.2.1)), (.own 201 4 (e_GTok.cells r.2.2.2.2.2.2.2))]) e st
def f156 (a1 : UInt8) (a2 : Int) (a3 : Int) (a4 : Int) (a5 : S8) (a6 : Bool) (a7 : S8) (a8 : S8) (a9 : List GTok) : Option (Int × Int × Int × S8 × Bool × S8 × S8 × (List GTok)) := (bif (decide (a2 = 0)) then (bif (decide ((a1.toNat : Int) = 255)) then none else ((app? 1 a8 ([a1] : S8)).bind fun z2 => (some (a2, a3, a4, a5, a6, a7, z2, a9)))) else none)
theorem f156_ok (d : Nat) (hd : 1 ≤ d) (a1 : UInt8) (a2 : Int) (a3 : Int) (a4 : Int) (a5 : S8) (a6 : Bool) (a7 : S8) (a8 : S8) (a9 : List GTok) (r : Int × Int × Int × S8 × Bool × S8 × S8 × (List GTok)) (hS : f156 a1 a2 a3 a4 a5 a6 a7 a8 a9 = some r) : lev codes baseL d 156 [(pt 0), (.d (.int .u8 (a1.toNat : Int)))] [(.box (bx_Greceiver (Greceiver.mk (GWire.mk a2 a3 a4 a5 a6) ([]) ([]) ([])) (.r (.msl 1 0 0 a7.length)) (.r (.msl 2 0 0 a8.length)) (.r (.msl 3 0 0 a9.length)))), (.own 5 1 (eU8.cells a7)), (.own 5 1 (eU8.cells a8)), (.own 201 4 (e_GTok.cells a9))] = some ((.tup []), [(.box (bx_Greceiver (Greceiver.mk (GWire.mk r.1 r.2.1 r.2.2.1 r.2.2.2.1 r.2.2.2.2.1) ([]) ([]) ([])) (.r (.msl 1 0 0 r.2.2.2.2.2.1.length)) (.r (.msl 2 0 0 r.2.2.2.2.2.2.1.length)) (.r (.msl 3 0 0 r.2.2.2.2.2.2.2.length)))), (.own 5 1 (eU8.cells r.2.2.2.2.2.1)), (.own 5 1 (eU8.cells r.2.2.2.2.2.2.1)), (.own 201 4 (e_GTok.cells r.2.2.2.2.2.2.2))]) := by
 refine lvG hd (fun Q hQ => ?_) codes156
 unfold f156 at hS
 show ZR _ Q c156_b [] _
 replace hQ : FQ (f156_Q r) Q := hQ
 refine zS (zL 5 5 (zK ?_))
 refine zrBlk (zS ?_)
 refine sB 22 1 (ck 8 0) hS (fun hS => ?_) (fun hS => ?_)
 ·refine zL 1 2 (zK (zT (zS (zL 1 1 ?_))))
  refine sB 24 2 (.cmpI .eql (tm 23) (.const (.int .u8 255))) hS (fun hS => ?_) (fun hS => ?_)
  ·cases hS
  ·refine zK (zF (zrReg (zL 7 7 ?_)))
   refine bindE hS (fun z2 hz2 hS => zO (v := (.r (.msl 2 1 0 z2.length))) (ups := [(2, ⟨1, some (.own 5 1 (eU8.cells z2))⟩)]) (some 36) 8 (.app 5 1 1 (tm 33) (tm 35)) (ev_app eU8 (b := 2) (g := 0) (n := a8.length) (xs := a8) (ys := [a1]) ((congrArg (asL _) (by kernel_rfl : ρof _ (.tmp 35) = (.r (.msl 288 1 0 (([a1] : S8).length))))).trans (as_whole eU8 (e := 5) (k := 1) (xs := [a1]) (by kernel_rfl) rfl rfl)) rfl (by kernel_rfl) rfl (by kernel_rfl) rfl hz2) (zL 3 11 (zE ?_)))
   exact zkBlk (zkNil (endQ hS hQ (fN (f156_out a2 a3 a4 a5 a6 a7 z2 a9))))
 ·cases hS
/- (*farwriter/iac.receiver).flush -/
def f157_fin (p2 : Int) (p3 : Int) (p4 : Int) (p5 : S8) (p6 : Bool) (p7 : S8) (p8 : S8) (p9 : List GTok) : St := ⟨(up (up (up u0 1000003 .un) 1000002 .un) 1000001 .un), (up (up (up (up h0 3 ⟨1, some (.own 201 4 (e_GTok.cells p9))⟩) 2 ⟨1, some (.own 5 1 (eU8.cells p8))⟩) 1 ⟨1, some (.own 5 1 (eU8.cells p7))⟩) 0 ⟨0, some (.box (bx_Greceiver (Greceiver.mk (GWire.mk p2 p3 p4 p5 p6) ([]) ([]) ([])) (.r (.msl 1 1 0 p7.length)) (.r (.msl 2 1 0 p8.length)) (.r (.msl 3 1 0 p9.length))))⟩)⟩
theorem f157_out (p2 : Int) (p3 : Int) (p4 : Int) (p5 : S8) (p6 : Bool) (p7 : S8) (p8 : S8) (p9 : List GTok) : outR (f157_fin p2 p3 p4 p5 p6 p7 p8 p9) 4 c157.res = some ((.tup []), [(.box (bx_Greceiver (Greceiver.mk (GWire.mk p2 p3 p4 p5 p6) ([]) ([]) ([])) (.r (.msl 1 0 0 p7.length)) (.r (.msl 2 0 0 p8.length)) (.r (.msl 3 0 0 p9.length)))), (.own 5 1 (eU8.cells p7)), (.own 5 1 (eU8.cells p8)), (.own 201 4 (e_GTok.cells p9))]) := by
 kernel_rfl
def f157_Q (r : Int × Int × Int × S8 × Bool × S8 × S8 × (List GTok)) (e : PX) (st : St) : Prop := DoneF c157 4 ((.tup []), [(.box (bx_Greceiver (Greceiver.mk (GWire.mk r.1 r.2.1 r.2.2.1 r.2.2.2.1 r.2.2.2.2.1) ([]) ([]) ([])) (.r (.msl 1 0 0 r.2.2.2.2.2.1.length)) (.r (.msl 2 0 0 r.2.2.2.2.2.2.1.length)) (.r (.msl 3 0 0 r.2.2.2.2.2.2.2.length)))), (.own 5 1 (eU8.cells r.2.2.2.2.2.1)), (.own 5 1 (eU8.cells r.2.2.2.2.2.2.1)), (.own 201 4 (e_GTok.cells r.2.2.2.2.2.2.2))]) e st
def f157 (a1 : Int) (a2 : Int) (a3 : Int) (a4 : S8) (a5 : Bool) (a6 : S8) (a7 : S8) (a8 : List GTok) : Option (Int × Int × Int × S8 × Bool × S8 × S8 × (List GTok)) := (bif (decide (0 < (a7.length : Int))) then ((app? 40 a8 ([(GTok.mk 1 0 0 a7)] : List GTok)).bind fun z2 => (some (a1, a2, a3, a4, a5, a6, [], z2))) else (some (a1, a2, a3, a4, a5, a6, a7, a8)))
theorem f157_ok (d : Nat) (hd : 1 ≤ d) (a1 : Int) (a2 : Int) (a3 : Int) (a4 : S8) (a5 : Bool) (a6 : S8) (a7 : S8) (a8 : List GTok) (r : Int × Int × Int × S8 × Bool × S8 × S8 × (List GTok)) (hS : f157 a1 a2 a3 a4 a5 a6 a7 a8 = some r) : lev codes baseL d 157 [(pt 0)] [(.box (bx_Greceiver (Greceiver.mk (GWire.mk a1 a2 a3 a4 a5) ([]) ([]) ([])) (.r (.msl 1 0 0 a6.length)) (.r (.msl 2 0 0 a7.length)) (.r (.msl 3 0 0 a8.length)))), (.own 5 1 (eU8.cells a6)), (.own 5 1 (eU8.cells a7)), (.own 201 4 (e_GTok.cells a8))] = some ((.tup []), [(.box (bx_Greceiver (Greceiver.mk (GWire.mk r.1 r.2.1 r.2.2.1 r.2.2.2.1 r.2.2.2.2.1) ([]) ([]) ([])) (.r (.msl 1 0 0 r.2.2.2.2.2.1.length)) (.r (.msl 2 0 0 r.2.2.2.2.2.2.1.length)) (.r (.msl 3 0 0 r.2.2.2.2.2.2.2.length)))), (.own 5 1 (eU8.cells r.2.2.2.2.2.1)), (.own 5 1 (eU8.cells r.2.2.2.2.2.2.1)), (.own 201 4 (e_GTok.cells r.2.2.2.2.2.2.2))]) := by
 refine lvG hd (fun Q hQ => ?_) codes157
 unfold f157 at hS
 show ZR _ Q c157_b [] _
 replace hQ : FQ (f157_Q r) Q := hQ
 refine zS (zL 5 5 ?_)
 refine sB 7 6 (.cmpI .gtr (tm 6) (ki 0)) hS (fun hS => ?_) (fun hS => ?_)
 ·refine zK (zT (zrSeq ?_))
  refine zrRegD (zdR 9 9 (zdO (v := (.d (.str a7))) (ups := []) (some 17) 10 none (.cvBS (tm 16)) (ev_cvBS (s := a7) ((congrArg (asL _) (by kernel_rfl : ρof _ (.tmp 16) = (.r (.msl 2 0 0 a7.length)))).trans (as_whole eU8 (e := 5) (k := 1) (xs := a7) (by kernel_rfl) rfl rfl)) rfl) (zdR 2 12 (bindE hS (fun z2 hz2 hS => zdO (v := (.r (.msl 3 1 0 z2.length))) (ups := [(3, ⟨1, some (.own 201 4 (e_GTok.cells z2))⟩)]) (some 20) 13 none (.app 201 4 40 (tm 12) (tm 19)) (ev_app e_GTok (b := 3) (g := 0) (n := a8.length) (xs := a8) (ys := [(GTok.mk 1 0 0 a7)]) ((congrArg (asL _) (by kernel_rfl : ρof _ (.tmp 19) = (.r (.msl 160 1 0 (([(GTok.mk 1 0 0 a7)] : List GTok).length))))).trans (as_whole e_GTok (e := 201) (k := 4) (xs := [(GTok.mk 1 0 0 a7)]) (by kernel_rfl) rfl rfl)) rfl (by kernel_rfl) rfl (by kernel_rfl) rfl hz2) (zdR 3 16 (zdE (zkSeq (zrReg (zL 4 4 (zE ?_)))))))))))
  exact zkNil (endQ hS hQ (fN (f157_out a1 a2 a3 a4 a5 a6 [] z2)))
 ·refine zK (zF ?_)
  exact zrSkip (zkNil (endQ hS hQ (fN (f157_out a1 a2 a3 a4 a5 a6 a7 a8))))
/- farwriter/iac.Feed -/
def f102_fin (p52 : GWire) (p53 : List GTok) : St := ⟨(up (up (up u0 6 (dI 0)) 5 (.r (.msl 451 0 0 p53.length))) 4 (pt 40)), (up (up h0 451 ⟨0, some (.own 201 4 (e_GTok.cells p53))⟩) 40 ⟨0, some (.box (q22_ p52))⟩)⟩
theorem f102_out (p52 : GWire) (p53 : List GTok) : outR (f102_fin p52 p53) 0 c102.res = some ((.tup [(.agg (q22_ p52)), (.r (.own 0 201 4 p53.length (e_GTok.cells p53))), (dI 0)]), []) := by
 exact out_of (ids := []) (ids' := [451]) (l := [(.agg (q22_ p52)), (.r (.msl 451 0 0 p53.length)), (dI 0)]) (by kernel_rfl) (by kernel_rfl) (o_tup (o_cons rfl (o_cons (o_own e_GTok (e := 201) (k := 4) (xs := p53) (by kernel_rfl) rfl rfl rfl rfl) (o_cons rfl o_nil))))
def f102_Q (r : GWire × (List GTok)) (e : PX) (st : St) : Prop := DoneF c102 0 ((.tup [(.agg (q22_ r.1)), (.r (.own 0 201 4 r.2.length (e_GTok.cells r.2))), (dI 0)]), []) e st
def f102_j1_J (a1 : GWire) (a2 : S8) (p105 : Int) (p106 : Int) (p107 : Int) (p108 : S8) (p109 : Bool) (p110 : S8) (p111 : S8) (p112 : List GTok) : St := ⟨(up (up u0 8 (pt 176)) 4 (pt 40)), (up (up (up (up (up h0 453 ⟨0, some (.own 201 4 (e_GTok.cells p112))⟩) 452 ⟨0, some (.own 5 1 (eU8.cells p111))⟩) 160 ⟨0, some (.own 5 1 (eU8.cells p110))⟩) 176 ⟨0, some (.box (bx_Greceiver (Greceiver.mk (GWire.mk p105 p106 p107 p108 p109) ([]) ([]) ([])) (.r (.msl 160 0 0 p110.length)) (.r (.msl 452 0 0 p111.length)) (.r (.msl 453 0 0 p112.length))))⟩) 40 q28_)⟩
def f102_j1 (a1 : GWire) (a2 : S8) (p105 : Int) (p106 : Int) (p107 : Int) (p108 : S8) (p109 : Bool) (p110 : S8) (p111 : S8) (p112 : List GTok) : Option (GWire × (List GTok)) := ((f157 p105 p106 p107 p108 p109 p110 p111 p112).bind fun z18 => (some ((GWire.mk z18.1 z18.2.1 z18.2.2.1 z18.2.2.2.2.2.1 z18.2.2.2.2.1), z18.2.2.2.2.2.2.2)))
theorem f102_j1_ok (hd : 2 ≤ d) (a1 : GWire) (a2 : S8) {r : GWire × (List GTok)} (hQ : FQ (f102_Q r) Q) (p105 : Int) (p106 : Int) (p107 : Int) (p108 : S8) (p109 : Bool) (p110 : S8) (p111 : S8) (p112 : List GTok) (hS : f102_j1 a1 a2 p105 p106 p107 p108 p109 p110 p111 p112 = some r) (he : keepSt [4, 8] [(40, .id 40), (176, .id 176), (160, .id 160), (452, .id 452), (453, .id 453)] [] st = f102_j1_J a1 a2 p105 p106 p107 p108 p109 p110 p111 p112) : ZX d Q c102_1 [] st := by
 refine zrKeep he ?_
 unfold f102_j1 at hS
 refine zS (zL 1 1 ?_)
 refine bindE hS (fun z18 hz18 hS => zO (some 34) 2 (.callr 157 [(tm 33)]) (ev_cR [176, 160, 452, 453] (f157_ok (d - 1) (dpt hd rfl) p105 p106 p107 p108 p109 p110 p111 p112 z18 hz18)) (zK (zS (zL 5 5 ?_))))
 refine zO (v := (.d (.str z18.2.2.2.2.2.1))) (ups := []) (some 40) 6 (.cvBS (tm 39)) (ev_cvBS (s := z18.2.2.2.2.2.1) ((congrArg (asL _) (by kernel_rfl : ρof _ (.tmp 39) = (.r (.msl 160 1 0 z18.2.2.2.2.2.1.length)))).trans (as_whole eU8 (e := 5) (k := 1) (xs := z18.2.2.2.2.2.1) (by kernel_rfl) rfl rfl)) rfl) (zL 4 10 (zK (zrSeq ?_)))
 exact zrRegD (zdR 11 11 (zdE (zkSeq (zrRet (zkNil (endQ hS hQ (fR (f102_out (GWire.mk z18.1 z18.2.1 z18.2.2.1 z18.2.2.2.2.2.1 z18.2.2.2.2.1) z18.2.2.2.2.2.2.2))))))))
def f102_l2_J (a1 : GWire) (a2 : S8) (x : Int × Int × Int × S8 × Bool × S8 × S8 × (List GTok) × Int) : St := ⟨(up (up (up (up (up u0 24 (dI x.2.2.2.2.2.2.2.2)) 23 (dI (a2.length : Int))) 8 (pt 176)) 4 (pt 40)) 1 (.d (.str a2))), (up (up (up (up (up h0 453 ⟨0, some (.own 201 4 (e_GTok.cells x.2.2.2.2.2.2.2.1))⟩) 452 ⟨0, some (.own 5 1 (eU8.cells x.2.2.2.2.2.2.1))⟩) 160 ⟨0, some (.own 5 1 (eU8.cells x.2.2.2.2.2.1))⟩) 176 ⟨0, some (.box (bx_Greceiver (Greceiver.mk (GWire.mk x.1 x.2.1 x.2.2.1 x.2.2.2.1 x.2.2.2.2.1) ([]) ([]) ([])) (.r (.msl 160 0 0 x.2.2.2.2.2.1.length)) (.r (.msl 452 0 0 x.2.2.2.2.2.2.1.length)) (.r (.msl 453 0 0 x.2.2.2.2.2.2.2.1.length))))⟩) 40 q28_)⟩
def f102_l2_H (a1 : GWire) (a2 : S8) (x : Int × Int × Int × S8 × Bool × S8 × S8 × (List GTok) × Int) (st : St) : Prop := keepSt [1, 4, 8, 23, 24] [(40, .id 40), (176, .id 176), (160, .id 160), (452, (.cell 176 6)), (453, (.cell 176 7))] [.cell 176 6 452 5 1, .cell 176 7 453 201 4] st = f102_l2_J a1 a2 x
def f102_l2_e0_J (a1 : GWire) (a2 : S8) (p97 : Int) (p98 : Int) (p99 : Int) (p100 : S8) (p101 : Bool) (p102 : S8) (p103 : S8) (p104 : List GTok) : St := ⟨(up (up u0 8 (pt 176)) 4 (pt 40)), (up (up (up (up (up h0 453 ⟨0, some (.own 201 4 (e_GTok.cells p104))⟩) 452 ⟨0, some (.own 5 1 (eU8.cells p103))⟩) 160 ⟨0, some (.own 5 1 (eU8.cells p102))⟩) 176 ⟨0, some (.box (bx_Greceiver (Greceiver.mk (GWire.mk p97 p98 p99 p100 p101) ([]) ([]) ([])) (.r (.msl 160 0 0 p102.length)) (.r (.msl 452 0 0 p103.length)) (.r (.msl 453 0 0 p104.length))))⟩) 40 q28_)⟩
def f102_l2_X (a1 : GWire) (a2 : S8) (z : (Int × Int × Int × S8 × Bool × S8 × S8 × (List GTok))) (e : PX) (st : St) : Prop := e = .exit 0 ∧ st = f102_l2_e0_J a1 a2 z.1 z.2.1 z.2.2.1 z.2.2.2.1 z.2.2.2.2.1 z.2.2.2.2.2.1 z.2.2.2.2.2.2.1 z.2.2.2.2.2.2.2
def f102_l2_j4_J (a1 : GWire) (a2 : S8) (p133 : Int) (p134 : Int) (p135 : Int) (p136 : S8) (p137 : Bool) (p138 : S8) (p139 : S8) (p140 : List GTok) (p141 : Int) : St := ⟨(up (up (up (up (up u0 24 (dI p141)) 23 (dI (a2.length : Int))) 8 (pt 176)) 4 (pt 40)) 1 (.d (.str a2))), (up (up (up (up (up h0 453 ⟨0, some (.own 201 4 (e_GTok.cells p140))⟩) 452 ⟨0, some (.own 5 1 (eU8.cells p139))⟩) 160 ⟨0, some (.own 5 1 (eU8.cells p138))⟩) 176 ⟨0, some (.box (bx_Greceiver (Greceiver.mk (GWire.mk p133 p134 p135 p136 p137) ([]) ([]) ([])) (.r (.msl 160 0 0 p138.length)) (.r (.msl 452 0 0 p139.length)) (.r (.msl 453 0 0 p140.length))))⟩) 40 q28_)⟩
def f102_l2_j4 (a1 : GWire) (a2 : S8) (p133 : Int) (p134 : Int) (p135 : Int) (p136 : S8) (p137 : Bool) (p138 : S8) (p139 : S8) (p140 : List GTok) (p141 : Int) : Option ((Int × Int × Int × S8 × Bool × S8 × S8 × (List GTok) × Int) ⊕ ((Int × Int × Int × S8 × Bool × S8 × S8 × (List GTok)))) := ((idx a2 p141).bind fun z19 => ((f156 z19 p133 p134 p135 p136 p137 p138 p139 p140).bind fun z20 => (some (.inl (z20.1, z20.2.1, z20.2.2.1, z20.2.2.2.1, z20.2.2.2.2.1, z20.2.2.2.2.2.1, z20.2.2.2.2.2.2.1, z20.2.2.2.2.2.2.2, (IntKind.i64.wrap (p141 + 1)))))))
theorem f102_l2_j4_ok (hd : 2 ≤ d) (a1 : GWire) (a2 : S8) {r : (Int × Int × Int × S8 × Bool × S8 × S8 × (List GTok) × Int) ⊕ ((Int × Int × Int × S8 × Bool × S8 × S8 × (List GTok)))} (hQ : FQ (finL (f102_l2_H a1 a2) (f102_l2_X a1 a2) r) Q) (p133 : Int) (p134 : Int) (p135 : Int) (p136 : S8) (p137 : Bool) (p138 : S8) (p139 : S8) (p140 : List GTok) (p141 : Int) (hS : f102_l2_j4 a1 a2 p133 p134 p135 p136 p137 p138 p139 p140 p141 = some r) (he : keepSt [1, 4, 8, 23, 24] [(40, .id 40), (176, .id 176), (160, .id 160), (452, .id 452), (453, .id 453)] [] st = f102_l2_j4_J a1 a2 p133 p134 p135 p136 p137 p138 p139 p140 p141) : ZX d Q c102_2 [] st := by
 refine zrKeep he ?_
 unfold f102_l2_j4 at hS
 refine zrSeq (zrBlk (zS (zL 2 2 (zK (zrReg (zL 3 3 ?_))))))
 refine bindE hS (fun z19 hz19 hS => zO (v := (.d (.int .u8 (z19.toNat : Int)))) (ups := []) (some 30) 4 (.ixStr (tm 28) (tm 29)) (ev_ixStr (kk := .i64) (s := a2) (j := p141) (by kernel_rfl) (by kernel_rfl) hz19) (bindE hS (fun z20 hz20 hS => zO (some 31) 5 (.callr 156 [(tm 27), (tm 30)]) (ev_cR [176, 160, 452, 453] (f156_ok (d - 1) (dpt hd rfl) z19 p133 p134 p135 p136 p137 p138 p139 p140 z20 hz20)) (zE (zkBlk (zkSeq (zrReg (zL 2 2 (zE ?_)))))))))
 exact zkNil (eN1 hS hQ)
def f102_l2_j3_J (a1 : GWire) (a2 : S8) (p123 : Int) (p124 : Int) (p125 : Int) (p126 : S8) (p127 : Bool) (p128 : S8) (p129 : S8) (p130 : List GTok) (p131 : Int) (p132 : Bool) : St := ⟨(up (up (up (up (up (up u0 25 (dB p132)) 24 (dI p131)) 23 (dI (a2.length : Int))) 8 (pt 176)) 4 (pt 40)) 1 (.d (.str a2))), (up (up (up (up (up h0 453 ⟨0, some (.own 201 4 (e_GTok.cells p130))⟩) 452 ⟨0, some (.own 5 1 (eU8.cells p129))⟩) 160 ⟨0, some (.own 5 1 (eU8.cells p128))⟩) 176 ⟨0, some (.box (bx_Greceiver (Greceiver.mk (GWire.mk p123 p124 p125 p126 p127) ([]) ([]) ([])) (.r (.msl 160 0 0 p128.length)) (.r (.msl 452 0 0 p129.length)) (.r (.msl 453 0 0 p130.length))))⟩) 40 q28_)⟩
def f102_l2_j3 (a1 : GWire) (a2 : S8) (p123 : Int) (p124 : Int) (p125 : Int) (p126 : S8) (p127 : Bool) (p128 : S8) (p129 : S8) (p130 : List GTok) (p131 : Int) (p132 : Bool) : Option ((Int × Int × Int × S8 × Bool × S8 × S8 × (List GTok) × Int) ⊕ ((Int × Int × Int × S8 × Bool × S8 × S8 × (List GTok)))) := (bif p132 then (f102_l2_j4 a1 a2 p123 p124 p125 p126 p127 p128 p129 p130 p131) else (some (.inr (p123, p124, p125, p126, p127, p128, p129, p130))))
theorem f102_l2_j3_ok (hd : 2 ≤ d) (a1 : GWire) (a2 : S8) {r : (Int × Int × Int × S8 × Bool × S8 × S8 × (List GTok) × Int) ⊕ ((Int × Int × Int × S8 × Bool × S8 × S8 × (List GTok)))} (hQ : FQ (finL (f102_l2_H a1 a2) (f102_l2_X a1 a2) r) Q) (p123 : Int) (p124 : Int) (p125 : Int) (p126 : S8) (p127 : Bool) (p128 : S8) (p129 : S8) (p130 : List GTok) (p131 : Int) (p132 : Bool) (hS : f102_l2_j3 a1 a2 p123 p124 p125 p126 p127 p128 p129 p130 p131 p132 = some r) (he : keepSt [1, 4, 8, 23, 24, 25] [(40, .id 40), (176, .id 176), (160, .id 160), (452, .id 452), (453, .id 453)] [] st = f102_l2_j3_J a1 a2 p123 p124 p125 p126 p127 p128 p129 p130 p131 p132) : ZX d Q c102_3 [] st := by
 refine zrKeep he ?_
 unfold f102_l2_j3 at hS
 refine zrSeq (sR 25 hS (fun hS => ?_) (fun hS => ?_))
 ·exact zT (zrSkip (zkSeq (f102_l2_j4_ok hd a1 a2 hQ p123 p124 p125 p126 p127 p128 p129 p130 p131 hS (by kernel_rfl))))
 ·exact zF (zrKeep (J := f102_l2_e0_J a1 a2 p123 p124 p125 p126 p127 p128 p129 p130) (by kernel_rfl) (zrExit (zkSeqX (zkNil (eX0 hS hQ)))))
def f102_l2 (a1 : GWire) (a2 : S8) (x : Int × Int × Int × S8 × Bool × S8 × S8 × (List GTok) × Int) : Option ((Int × Int × Int × S8 × Bool × S8 × S8 × (List GTok) × Int) ⊕ ((Int × Int × Int × S8 × Bool × S8 × S8 × (List GTok)))) := (bif (decide (x.2.2.2.2.2.2.2.2 < (a2.length : Int))) then (f102_l2_j3 a1 a2 x.1 x.2.1 x.2.2.1 x.2.2.2.1 x.2.2.2.2.1 x.2.2.2.2.2.1 x.2.2.2.2.2.2.1 x.2.2.2.2.2.2.2.1 x.2.2.2.2.2.2.2.2 true) else (f102_l2_j3 a1 a2 x.1 x.2.1 x.2.2.1 x.2.2.2.1 x.2.2.2.2.1 x.2.2.2.2.2.1 x.2.2.2.2.2.2.1 x.2.2.2.2.2.2.2.1 x.2.2.2.2.2.2.2.2 false))
theorem f102_l2_ok (hd : 2 ≤ d) (a1 : GWire) (a2 : S8) {r : (Int × Int × Int × S8 × Bool × S8 × S8 × (List GTok) × Int) ⊕ ((Int × Int × Int × S8 × Bool × S8 × S8 × (List GTok)))} (hQ : FQ (finL (f102_l2_H a1 a2) (f102_l2_X a1 a2) r) Q) {x : Int × Int × Int × S8 × Bool × S8 × S8 × (List GTok) × Int} (hS : f102_l2 a1 a2 x = some r) (he : f102_l2_H a1 a2 x st) : ZX d Q c102_4 [] st := by
 refine zrKeep he ?_
 unfold f102_l2 at hS
 refine zS ?_
 refine sB 25 1 (.cmpI .lss (tm 24) (tm 23)) hS (fun hS => ?_) (fun hS => ?_)
 ·refine zK ?_
  exact f102_l2_j3_ok hd a1 a2 hQ x.1 x.2.1 x.2.2.1 x.2.2.2.1 x.2.2.2.2.1 x.2.2.2.2.2.1 x.2.2.2.2.2.2.1 x.2.2.2.2.2.2.2.1 x.2.2.2.2.2.2.2.2 true hS (by kernel_rfl)
 ·refine zK ?_
  exact f102_l2_j3_ok hd a1 a2 hQ x.1 x.2.1 x.2.2.1 x.2.2.2.1 x.2.2.2.2.1 x.2.2.2.2.2.1 x.2.2.2.2.2.2.1 x.2.2.2.2.2.2.2.1 x.2.2.2.2.2.2.2.2 false hS (by kernel_rfl)
def f102_j0_J (a1 : GWire) (a2 : S8) : St := ⟨(up (up (up u0 4 (pt 40)) 2 (pt 24)) 1 (.d (.str a2))), (up (up h0 40 q28_) 24 ⟨0, some (.box (q22_ a1))⟩)⟩
def f102_j0 (a1 : GWire) (a2 : S8) : Option (GWire × (List GTok)) := ((chk (decide (a1.Buf.length ≤ 140737488355328))).bind fun z11 => ((loopO (f102_l2 a1 a2) (a1.Mode, a1.Cmd, a1.Opt, a1.Buf, a1.Over, a1.Buf, [], [], 0)).bind fun z21 => (f102_j1 a1 a2 z21.1 z21.2.1 z21.2.2.1 z21.2.2.2.1 z21.2.2.2.2.1 z21.2.2.2.2.2.1 z21.2.2.2.2.2.2.1 z21.2.2.2.2.2.2.2)))
theorem f102_j0_ok (hd : 2 ≤ d) (a1 : GWire) (a2 : S8) {r : GWire × (List GTok)} (hQ : FQ (f102_Q r) Q)  (hS : f102_j0 a1 a2 = some r) (he : keepSt [1, 2, 4] [(24, .id 24), (40, .id 40)] [] st = f102_j0_J a1 a2) : ZX d Q c102_5 [] st := by
 refine zrKeep he ?_
 unfold f102_j0 at hS
 refine zS (zL 3 3 ?_)
 refine bindE hS (fun z11 hz11 hS => zO (v := (.r (.msl 160 1 0 a1.Buf.length))) (ups := [(160, ⟨1, some (.own 5 1 (eU8.cells a1.Buf))⟩)]) (some 19) 4 (.cvSO 5 (tm 18)) (ev_cvSO (s := a1.Buf) (by kernel_rfl) hz11) (zL 3 7 (zK (zrSeq (zS (zL 3 3 (zK ?_)))))))
 refine zrBlk (bindE hS (fun z21 hz21 hS => zrLoop (f102_l2_H a1 a2) (f102_l2_X a1 a2) (fun x st r Q h0 hS hQ => f102_l2_ok hd a1 a2 hQ hS h0) (x := (a1.Mode, a1.Cmd, a1.Opt, a1.Buf, a1.Over, a1.Buf, [], [], 0)) (z := z21) (by show keepSt _ _ _ _ = _; kernel_rfl) hz21 ?_))
 intro e st' _ hX
 obtain ⟨rfl, rfl⟩ : _ ∧ _ := hX
 exact zkBlkX (zkSeq (f102_j1_ok hd a1 a2 hQ z21.1 z21.2.1 z21.2.2.1 z21.2.2.2.1 z21.2.2.2.2.1 z21.2.2.2.2.2.1 z21.2.2.2.2.2.2.1 z21.2.2.2.2.2.2.2 hS (by kernel_rfl)))
def f102 (a1 : GWire) (a2 : S8) : Option (GWire × (List GTok)) := ((f52 a1).bind fun z22 => (bif (!decide (z22 = 0)) then none else (f102_j0 a1 a2 )))
theorem f102_ok (d : Nat) (hd : 2 ≤ d) (a1 : GWire) (a2 : S8) (r : GWire × (List GTok)) (hS : f102 a1 a2 = some r) : lev codes baseL d 102 [(.agg (q22_ a1)), (.d (.str a2))] [] = some ((.tup [(.agg (q22_ r.1)), (.r (.own 0 201 4 r.2.length (e_GTok.cells r.2))), (dI 0)]), []) := by
 refine lvG hd (fun Q hQ => ?_) codes102
 unfold f102 at hS
 show ZR _ Q c102_b [] _
 replace hQ : FQ (f102_Q r) Q := hQ
 refine zS (zL 4 4 (zK (zrSeq (zS (zL 1 1 ?_)))))
 refine bindE hS (fun z22 hz22 hS => zO (some 11) 2 (c1 52 10) (ev_cA (f52_ok (d - 1) (dpt hd rfl) a1 z22 hz22)) (zL 1 3 (zK (zS (zL 1 1 ?_)))))
 refine sB 13 2 (.cmpI .neq (tm 12) (ki 0)) hS (fun hS => ?_) (fun hS => ?_)
 ·cases hS
 ·refine zK (zF ?_)
  exact zrSkip (zkSeq (f102_j0_ok hd a1 a2 hQ  hS (by kernel_rfl)))
/- (*farwriter/client.worker).him -/
def f107_fin (p2 : Bool) : St := ⟨(up u0 4 (dB p2)), h0⟩
theorem f107_out (p2 : Bool) : outR (f107_fin p2) 0 c107.res = some ((dB p2), []) := by
 kernel_rfl
def f107_Q (r : Bool) (e : PX) (st : St) : Prop := DoneF c107 0 ((dB r), []) e st
def f107 (a1 : Gworker) (a2 : List PD) (a3 : Int) : Option (Bool) := ((inR a3 256).bind fun m2 => (bif (decide (((a1.Client.Neg.Him m2).toNat : Int) = 1)) then (some true) else (some false)))
theorem f107_ok (d : Nat) (hd : 1 ≤ d) (a1 : Gworker) (a2 : List PD) (a3 : Int) (r : Bool) (hS : f107 a1 a2 a3 = some r) : lev codes baseL d 107 [(.rptr (e_RGworker.enc a1 ++ a2)), (dI a3)] [] = some ((dB r), []) := by
 refine lvG hd (fun Q hQ => ?_) codes107
 unfold f107 at hS
 show ZR _ Q c107_b [] _
 replace hQ : FQ (f107_Q r) Q := hQ
 refine zS (zL 1 1 (zK (zS (zL 6 6 ?_))))
 refine bindE hS (fun m2 hm2 hS => zO (v := (.rptr (List.drop (m2 * 1) ((e_RGworker.enc a1 ++ a2).drop 301)))) (ups := []) (some 11) 7 (.ixA 256 1 (tm 10) (tm 6)) (ev_ixR (kk := .i64) (j := a3) (by kernel_rfl) (by kernel_rfl) hm2) (zO (v := (.d (.int .u8 ((a1.Client.Neg.Him m2).toNat : Int)))) (ups := []) (some 12) 8 (lf 1 11) (ev_loadR eU8 (f := a1.Client.Neg.Him) (nn := 256) (m := m2) (post := ((eInt .u64).rowD 4 a1.Client.Neg.UsOk ++ ((eInt .u64).rowD 4 a1.Client.Neg.HimOk ++ (.sl a1.Client.Sorts.Names.length (eStr.cells a1.Client.Sorts.Names) :: (.int .i64 a1.Client.Sorts.At :: (.sl a1.Client.Vars.length (e_GVar.cells a1.Client.Vars) :: (eU8.rowD 19 a1.Client.Keys.Levels ++ (eU8.rowD 19 a1.Client.Keys.Chars ++ ((eInt .u64).rowD 4 a1.Client.Mask.Bits ++ (.str a1.Client.Editor.Buf :: (.bool a1.Client.Editor.Quote :: (.bool a1.Client.Edit :: (.str a1.sent :: a2))))))))))))) (by kernel_rfl) (inR_lt hm2) (by kernel_rfl) (by kernel_rfl)) (sB 13 9 (.cmpI .eql (tm 12) (.const (.int .u8 1))) hS (fun hS => ?_) (fun hS => ?_))))
 ·refine zL 1 10 (zK ?_)
  exact zrRet (zkNil (endQ hS hQ (fR (f107_out true))))
 ·refine zL 1 10 (zK ?_)
  exact zrRet (zkNil (endQ hS hQ (fR (f107_out false))))
/- farwriter/nvt.In -/
def f158_fin (p90 : Bool) (p91 : S8) : St := ⟨(up (up u0 7 (.d (.str p91))) 6 (dB p90)), h0⟩
theorem f158_out (p90 : Bool) (p91 : S8) : outR (f158_fin p90 p91) 0 c158.res = some ((.tup [(dB p90), (.d (.str p91))]), []) := by
 kernel_rfl
def f158_Q (r : Bool × S8) (e : PX) (st : St) : Prop := DoneF c158 0 ((.tup [(dB r.1), (.d (.str r.2))]), []) e st
def f158_l1_J (a1 : Bool) (a2 : S8) (a3 : Bool) (x : Bool × S8 × Int) : St := ⟨(up (up (up (up (up u0 18 (dI x.2.2)) 17 (dI (a2.length : Int))) 8 (.r (.msl 72 0 0 x.2.1.length))) 1 (.d (.str a2))) 0 (dB x.1)), (up h0 72 ⟨0, some (.own 5 1 (eU8.cells x.2.1))⟩)⟩
def f158_l1_H (a1 : Bool) (a2 : S8) (a3 : Bool) (x : Bool × S8 × Int) (st : St) : Prop := keepSt [0, 1, 8, 17, 18] [(72, .id 72)] [] st = f158_l1_J a1 a2 a3 x
def f158_l1_e0_J (a1 : Bool) (a2 : S8) (a3 : Bool) (p88 : Bool) (p89 : S8) : St := ⟨(up (up u0 8 (.r (.msl 72 0 0 p89.length))) 0 (dB p88)), (up h0 72 ⟨0, some (.own 5 1 (eU8.cells p89))⟩)⟩
def f158_l1_X (a1 : Bool) (a2 : S8) (a3 : Bool) (z : (Bool × S8)) (e : PX) (st : St) : Prop := e = .exit 0 ∧ st = f158_l1_e0_J a1 a2 a3 z.1 z.2
def f158_l1_j4_J (a1 : Bool) (a2 : S8) (a3 : Bool) (p116 : Bool) (p117 : S8) (p118 : UInt8) (p119 : Int) : St := ⟨(up (up (up (up (up (up u0 18 (dI p119)) 17 (dI (a2.length : Int))) 10 (.d (.int .u8 (p118.toNat : Int)))) 8 (.r (.msl 72 0 0 p117.length))) 1 (.d (.str a2))) 0 (dB p116)), (up h0 72 ⟨0, some (.own 5 1 (eU8.cells p117))⟩)⟩
def f158_l1_j4 (a1 : Bool) (a2 : S8) (a3 : Bool) (p116 : Bool) (p117 : S8) (p118 : UInt8) (p119 : Int) : Option ((Bool × S8 × Int) ⊕ ((Bool × S8))) := (bif (decide ((p118.toNat : Int) = 13)) then (some (.inl (true, p117, (IntKind.i64.wrap (p119 + 1))))) else ((app? 1 p117 ([p118] : S8)).bind fun z20 => (some (.inl (p116, z20, (IntKind.i64.wrap (p119 + 1)))))))
theorem f158_l1_j4_ok (hd : 1 ≤ d) (a1 : Bool) (a2 : S8) (a3 : Bool) {r : (Bool × S8 × Int) ⊕ ((Bool × S8))} (hQ : FQ (finL (f158_l1_H a1 a2 a3) (f158_l1_X a1 a2 a3) r) Q) (p116 : Bool) (p117 : S8) (p118 : UInt8) (p119 : Int) (hS : f158_l1_j4 a1 a2 a3 p116 p117 p118 p119 = some r) (he : keepSt [0, 1, 8, 10, 17, 18] [(72, .id 72)] [] st = f158_l1_j4_J a1 a2 a3 p116 p117 p118 p119) : ZX d Q c158_1 [.blk 1, .seq c158_2] st := by
 refine zrKeep he ?_
 unfold f158_l1_j4 at hS
 refine zS (zL 1 1 ?_)
 refine sB 40 2 (.cmpI .eql (tm 39) (.const (.int .u8 13))) hS (fun hS => ?_) (fun hS => ?_)
 ·refine zK (zT (zrReg (zL 1 1 (zE ?_))))
  refine zkBlk (zkSeq (zrReg (zL 2 2 (zE ?_))))
  exact zkNil (eN1 hS hQ)
 ·refine zK (zF (zrReg (zL 3 3 ?_)))
  refine bindE hS (fun z20 hz20 hS => zO (v := (.r (.msl 72 1 0 z20.length))) (ups := [(72, ⟨1, some (.own 5 1 (eU8.cells z20))⟩)]) (some 44) 4 (.app 5 1 1 (tm 41) (tm 43)) (ev_app eU8 (b := 72) (g := 0) (n := p117.length) (xs := p117) (ys := [p118]) ((congrArg (asL _) (by kernel_rfl : ρof _ (.tmp 43) = (.r (.msl 352 1 0 (([p118] : S8).length))))).trans (as_whole eU8 (e := 5) (k := 1) (xs := [p118]) (by kernel_rfl) rfl rfl)) rfl (by kernel_rfl) rfl (by kernel_rfl) rfl hz20) (zL 1 5 (zE ?_)))
  refine zkBlk (zkSeq (zrReg (zL 2 2 (zE ?_))))
  exact zkNil (eN1 hS hQ)
def f158_l1_j3_J (a1 : Bool) (a2 : S8) (a3 : Bool) (p100 : Bool) (p101 : S8) (p102 : Int) : St := ⟨(up (up (up (up (up u0 18 (dI p102)) 17 (dI (a2.length : Int))) 8 (.r (.msl 72 0 0 p101.length))) 1 (.d (.str a2))) 0 (dB p100)), (up h0 72 ⟨0, some (.own 5 1 (eU8.cells p101))⟩)⟩
def f158_l1_j3 (a1 : Bool) (a2 : S8) (a3 : Bool) (p100 : Bool) (p101 : S8) (p102 : Int) : Option ((Bool × S8 × Int) ⊕ ((Bool × S8))) := ((idx a2 p102).bind fun z16 => (bif p100 then (bif (decide ((z16.toNat : Int) = 10)) then ((app? 1 p101 ([10] : S8)).bind fun z21 => (some (.inl (false, z21, (IntKind.i64.wrap (p102 + 1)))))) else (bif (decide ((z16.toNat : Int) = 0)) then ((app? 1 p101 ([13] : S8)).bind fun z22 => (some (.inl (false, z22, (IntKind.i64.wrap (p102 + 1)))))) else ((app? 1 p101 ([13] : S8)).bind fun z23 => (f158_l1_j4 a1 a2 a3 false z23 z16 p102)))) else (f158_l1_j4 a1 a2 a3 p100 p101 z16 p102)))
theorem f158_l1_j3_ok (hd : 1 ≤ d) (a1 : Bool) (a2 : S8) (a3 : Bool) {r : (Bool × S8 × Int) ⊕ ((Bool × S8))} (hQ : FQ (finL (f158_l1_H a1 a2 a3) (f158_l1_X a1 a2 a3) r) Q) (p100 : Bool) (p101 : S8) (p102 : Int) (hS : f158_l1_j3 a1 a2 a3 p100 p101 p102 = some r) (he : keepSt [0, 1, 8, 17, 18] [(72, .id 72)] [] st = f158_l1_j3_J a1 a2 a3 p100 p101 p102) : ZX d Q c158_3 [] st := by
 refine zrKeep he ?_
 unfold f158_l1_j3 at hS
 refine zrSeq (zrBlk (zS (zL 2 2 (zK (zS (zL 2 2 ?_))))))
 refine bindE hS (fun z16 hz16 hS => zO (v := (.d (.int .u8 (z16.toNat : Int)))) (ups := []) (some 23) 3 (.ixStr (tm 21) (tm 22)) (ev_ixStr (kk := .i64) (s := a2) (j := p102) (by kernel_rfl) (by kernel_rfl) hz16) (zL 1 4 (zK (zrSeq (zS (zL 1 1 (zK ?_)))))))
 refine sR 24 hS (fun hS => ?_) (fun hS => ?_)
 ·refine zT (zS (zL 1 1 (zK (zrSeq (zS (zL 1 1 (zK ?_)))))))
  refine zrBlk (zS ?_)
  refine sB 27 1 (.cmpI .eql (tm 25) (.const (.int .u8 10))) hS (fun hS => ?_) (fun hS => ?_)
  ·refine zL 1 2 (zK (zT (zS (zL 2 2 ?_))))
   refine bindE hS (fun z21 hz21 hS => zO (v := (.r (.msl 72 1 0 z21.length))) (ups := [(72, ⟨1, some (.own 5 1 (eU8.cells z21))⟩)]) (some 30) 3 (.app 5 1 1 (tm 28) (tm 29)) (ev_app eU8 (b := 72) (g := 0) (n := p101.length) (xs := p101) (ys := [10]) ((congrArg (asL _) (by kernel_rfl : ρof _ (.tmp 29) = (.r (.msl 240 1 0 (([10] : S8).length))))).trans (as_whole eU8 (e := 5) (k := 1) (xs := [10]) (by kernel_rfl) rfl rfl)) rfl (by kernel_rfl) rfl (by kernel_rfl) rfl hz21) (zL 1 4 (zK ?_)))
   refine zrExit (zkBlkY rfl (zkSeqX (zkSeqX (zkBlkX (zkSeq (zrReg (zL 2 2 (zE ?_))))))))
   exact zkNil (eN1 hS hQ)
  ·refine zL 1 2 (zK (zF (zS ?_)))
   refine sB 32 1 (.cmpI .eql (tm 25) (.const (.int .u8 0))) hS (fun hS => ?_) (fun hS => ?_)
   ·refine zL 1 2 (zK (zT (zS (zL 2 2 ?_))))
    refine bindE hS (fun z22 hz22 hS => zO (v := (.r (.msl 72 1 0 z22.length))) (ups := [(72, ⟨1, some (.own 5 1 (eU8.cells z22))⟩)]) (some 35) 3 (.app 5 1 1 (tm 33) (tm 34)) (ev_app eU8 (b := 72) (g := 0) (n := p101.length) (xs := p101) (ys := [13]) ((congrArg (asL _) (by kernel_rfl : ρof _ (.tmp 34) = (.r (.msl 280 1 0 (([13] : S8).length))))).trans (as_whole eU8 (e := 5) (k := 1) (xs := [13]) (by kernel_rfl) rfl rfl)) rfl (by kernel_rfl) rfl (by kernel_rfl) rfl hz22) (zL 1 4 (zK ?_)))
    refine zrExit (zkBlkY rfl (zkSeqX (zkSeqX (zkBlkX (zkSeq (zrReg (zL 2 2 (zE ?_))))))))
    exact zkNil (eN1 hS hQ)
   ·refine zL 1 2 (zK (zF ?_))
    refine zrSkip (zkBlk (zkSeq (zrReg (zL 2 2 ?_))))
    refine bindE hS (fun z23 hz23 hS => zO (v := (.r (.msl 72 1 0 z23.length))) (ups := [(72, ⟨1, some (.own 5 1 (eU8.cells z23))⟩)]) (some 38) 3 (.app 5 1 1 (tm 36) (tm 37)) (ev_app eU8 (b := 72) (g := 0) (n := p101.length) (xs := p101) (ys := [13]) ((congrArg (asL _) (by kernel_rfl : ρof _ (.tmp 37) = (.r (.msl 304 1 0 (([13] : S8).length))))).trans (as_whole eU8 (e := 5) (k := 1) (xs := [13]) (by kernel_rfl) rfl rfl)) rfl (by kernel_rfl) rfl (by kernel_rfl) rfl hz23) (zL 1 4 (zK ?_)))
    exact f158_l1_j4_ok hd a1 a2 a3 hQ false z23 z16 p102 hS (by kernel_rfl)
 ·exact zF (zrSkip (zkSeq (f158_l1_j4_ok hd a1 a2 a3 hQ p100 p101 z16 p102 hS (by kernel_rfl))))
def f158_l1_j2_J (a1 : Bool) (a2 : S8) (a3 : Bool) (p96 : Bool) (p97 : S8) (p98 : Int) (p99 : Bool) : St := ⟨(up (up (up (up (up (up u0 19 (dB p99)) 18 (dI p98)) 17 (dI (a2.length : Int))) 8 (.r (.msl 72 0 0 p97.length))) 1 (.d (.str a2))) 0 (dB p96)), (up h0 72 ⟨0, some (.own 5 1 (eU8.cells p97))⟩)⟩
def f158_l1_j2 (a1 : Bool) (a2 : S8) (a3 : Bool) (p96 : Bool) (p97 : S8) (p98 : Int) (p99 : Bool) : Option ((Bool × S8 × Int) ⊕ ((Bool × S8))) := (bif p99 then (f158_l1_j3 a1 a2 a3 p96 p97 p98) else (some (.inr (p96, p97))))
theorem f158_l1_j2_ok (hd : 1 ≤ d) (a1 : Bool) (a2 : S8) (a3 : Bool) {r : (Bool × S8 × Int) ⊕ ((Bool × S8))} (hQ : FQ (finL (f158_l1_H a1 a2 a3) (f158_l1_X a1 a2 a3) r) Q) (p96 : Bool) (p97 : S8) (p98 : Int) (p99 : Bool) (hS : f158_l1_j2 a1 a2 a3 p96 p97 p98 p99 = some r) (he : keepSt [0, 1, 8, 17, 18, 19] [(72, .id 72)] [] st = f158_l1_j2_J a1 a2 a3 p96 p97 p98 p99) : ZX d Q c158_4 [] st := by
 refine zrKeep he ?_
 unfold f158_l1_j2 at hS
 refine zrSeq (sR 19 hS (fun hS => ?_) (fun hS => ?_))
 ·exact zT (zrSkip (zkSeq (f158_l1_j3_ok hd a1 a2 a3 hQ p96 p97 p98 hS (by kernel_rfl))))
 ·exact zF (zrKeep (J := f158_l1_e0_J a1 a2 a3 p96 p97) (by kernel_rfl) (zrExit (zkSeqX (zkNil (eX0 hS hQ)))))
def f158_l1 (a1 : Bool) (a2 : S8) (a3 : Bool) (x : Bool × S8 × Int) : Option ((Bool × S8 × Int) ⊕ ((Bool × S8))) := (bif (decide (x.2.2 < (a2.length : Int))) then (f158_l1_j2 a1 a2 a3 x.1 x.2.1 x.2.2 true) else (f158_l1_j2 a1 a2 a3 x.1 x.2.1 x.2.2 false))
theorem f158_l1_ok (hd : 1 ≤ d) (a1 : Bool) (a2 : S8) (a3 : Bool) {r : (Bool × S8 × Int) ⊕ ((Bool × S8))} (hQ : FQ (finL (f158_l1_H a1 a2 a3) (f158_l1_X a1 a2 a3) r) Q) {x : Bool × S8 × Int} (hS : f158_l1 a1 a2 a3 x = some r) (he : f158_l1_H a1 a2 a3 x st) : ZX d Q c158_5 [] st := by
 refine zrKeep he ?_
 unfold f158_l1 at hS
 refine zS ?_
 refine sB 19 1 (.cmpI .lss (tm 18) (tm 17)) hS (fun hS => ?_) (fun hS => ?_)
 ·refine zK ?_
  exact f158_l1_j2_ok hd a1 a2 a3 hQ x.1 x.2.1 x.2.2 true hS (by kernel_rfl)
 ·refine zK ?_
  exact f158_l1_j2_ok hd a1 a2 a3 hQ x.1 x.2.1 x.2.2 false hS (by kernel_rfl)
def f158_j0_J (a1 : Bool) (a2 : S8) (a3 : Bool) : St := ⟨(up (up u0 1 (.d (.str a2))) 0 (dB a1)), h0⟩
def f158_j0 (a1 : Bool) (a2 : S8) (a3 : Bool) : Option (Bool × S8) := ((loopO (f158_l1 a1 a2 a3) (a1, [], 0)).bind fun z24 => (some (z24.1, z24.2)))
theorem f158_j0_ok (hd : 1 ≤ d) (a1 : Bool) (a2 : S8) (a3 : Bool) {r : Bool × S8} (hQ : FQ (f158_Q r) Q)  (hS : f158_j0 a1 a2 a3 = some r) (he : keepSt [0, 1] [] [] st = f158_j0_J a1 a2 a3) : ZX d Q c158_6 [] st := by
 refine zrKeep he ?_
 unfold f158_j0 at hS
 refine zS (zL 1 1 (zK (zrSeq (zS (zL 3 3 (zK ?_))))))
 refine zrBlk (bindE hS (fun z24 hz24 hS => zrLoop (f158_l1_H a1 a2 a3) (f158_l1_X a1 a2 a3) (fun x st r Q h0 hS hQ => f158_l1_ok hd a1 a2 a3 hQ hS h0) (x := (a1, [], 0)) (z := z24) (by show keepSt _ _ _ _ = _; kernel_rfl) hz24 ?_))
 intro e st' _ hX
 obtain ⟨rfl, rfl⟩ : _ ∧ _ := hX
 refine zkBlkX (zkSeq (zrSeq ?_))
 exact zrRegD (zdR 2 2 (zdO (v := (.d (.str z24.2))) (ups := []) (some 48) 3 none (.cvBS (tm 47)) (ev_cvBS (s := z24.2) ((congrArg (asL _) (by kernel_rfl : ρof _ (.tmp 47) = (.r (.msl 72 0 0 z24.2.length)))).trans (as_whole eU8 (e := 5) (k := 1) (xs := z24.2) (by kernel_rfl) rfl rfl)) rfl) (zdR 2 5 (zdE (zkSeq (zrRet (zkNil (endQ hS hQ (fR (f158_out z24.1 z24.2))))))))))
def f158 (a1 : Bool) (a2 : S8) (a3 : Bool) : Option (Bool × S8) := (bif a3 then none else (f158_j0 a1 a2 a3 ))
theorem f158_ok (d : Nat) (hd : 1 ≤ d) (a1 : Bool) (a2 : S8) (a3 : Bool) (r : Bool × S8) (hS : f158 a1 a2 a3 = some r) : lev codes baseL d 158 [(dB a1), (.d (.str a2)), (dB a3)] [] = some ((.tup [(dB r.1), (.d (.str r.2))]), []) := by
 refine lvG hd (fun Q hQ => ?_) codes158
 unfold f158 at hS
 show ZR _ Q c158_b [] _
 replace hQ : FQ (f158_Q r) Q := hQ
 refine zS (zL 2 2 (zK (zrSeq (zS (zL 1 1 (zK ?_))))))
 refine sR 11 hS (fun hS => ?_) (fun hS => ?_)
 ·refine zT (zS (zL 1 1 ?_))
  cases hS
 ·exact zF (zrSkip (zkSeq (f158_j0_ok hd a1 a2 a3 hQ  hS (by kernel_rfl))))
/- farwriter/utf.Feed -/
def f159_fin (p15 : List Int) : St := ⟨(up (up (up u0 6 (dI 0)) 5 (.r (.msl 72 0 0 p15.length))) 4 (.d (.str ([])))), (up h0 72 ⟨0, some (.own 3 1 (eI.cells p15))⟩)⟩
theorem f159_out (p15 : List Int) : outR (f159_fin p15) 0 c159.res = some ((.tup [(.d (.str ([]))), (.r (.own 0 3 1 p15.length (eI.cells p15))), (dI 0)]), []) := by
 exact out_of (ids := []) (ids' := [72]) (l := [(.d (.str ([]))), (.r (.msl 72 0 0 p15.length)), (dI 0)]) (by kernel_rfl) (by kernel_rfl) (o_tup (o_cons rfl (o_cons (o_own eI (e := 3) (k := 1) (xs := p15) (by kernel_rfl) rfl rfl rfl rfl) (o_cons rfl o_nil))))
def f159_Q (r : (List Int)) (e : PX) (st : St) : Prop := DoneF c159 0 ((.tup [(.d (.str ([]))), (.r (.own 0 3 1 r.length (eI.cells r))), (dI 0)]), []) e st
def f159_l1_J (a1 : S8) (a2 : S8) (x : S8 × (List Int)) : St := ⟨(up (up u0 8 (.r (.msl 72 0 0 x.2.length))) 1 (.d (.str x.1))), (up h0 72 ⟨0, some (.own 3 1 (eI.cells x.2))⟩)⟩
def f159_l1_H (a1 : S8) (a2 : S8) (x : S8 × (List Int)) (st : St) : Prop := keepSt [1, 8] [(72, .id 72)] [] st = f159_l1_J a1 a2 x
def f159_l1_e0_J (a1 : S8) (a2 : S8) (p29 : List Int) : St := ⟨(up u0 8 (.r (.msl 72 0 0 p29.length))), (up h0 72 ⟨0, some (.own 3 1 (eI.cells p29))⟩)⟩
def f159_l1_X (a1 : S8) (a2 : S8) (z : ((List Int))) (e : PX) (st : St) : Prop := e = .exit 0 ∧ st = f159_l1_e0_J a1 a2 z
def f159_l1_j2_J (a1 : S8) (a2 : S8) (p33 : S8) (p34 : List Int) : St := ⟨(up (up u0 8 (.r (.msl 72 0 0 p34.length))) 1 (.d (.str p33))), (up h0 72 ⟨0, some (.own 3 1 (eI.cells p34))⟩)⟩
def f159_l1_j2 (a1 : S8) (a2 : S8) (p33 : S8) (p34 : List Int) : Option ((S8 × (List Int)) ⊕ (((List Int)))) := ((idx p33 0).bind fun z35 => (bif (decide ((z35.toNat : Int) < 128)) then ((idx p33 0).bind fun z36 => ((app? 8 p34 ([(z36.toNat : Int)] : List Int)).bind fun z37 => ((sub? p33 1 (p33.length : Int)).bind fun z38 => (some (.inl (z38, z37)))))) else none))
theorem f159_l1_j2_ok (hd : 2 ≤ d) (a1 : S8) (a2 : S8) {r : (S8 × (List Int)) ⊕ (((List Int)))} (hQ : FQ (finL (f159_l1_H a1 a2) (f159_l1_X a1 a2) r) Q) (p33 : S8) (p34 : List Int) (hS : f159_l1_j2 a1 a2 p33 p34 = some r) (he : keepSt [1, 8] [(72, .id 72)] [] st = f159_l1_j2_J a1 a2 p33 p34) : ZX d Q c159_1 [] st := by
 refine zrKeep he ?_
 unfold f159_l1_j2 at hS
 refine zrBlk (zrSeq (zS (zL 1 1 ?_)))
 refine bindE hS (fun z35 hz35 hS => zO (v := (.d (.int .u8 (z35.toNat : Int)))) (ups := []) (some 24) 2 (.ixStr (tm 23) (ki 0)) (ev_ixStr (kk := .i64) (s := p33) (j := 0) (by kernel_rfl) (by kernel_rfl) hz35) (sB 25 3 (.cmpI .lss (tm 24) (.const (.int .u8 128))) hS (fun hS => ?_) (fun hS => ?_)))
 ·refine zK (zT (zrSeq ?_))
  exact zrRegD (zdR 2 2 (bindE hS (fun z36 hz36 hS => zdO (v := (.d (.int .u8 (z36.toNat : Int)))) (ups := []) (some 28) 3 none (.ixStr (tm 27) (ki 0)) (ev_ixStr (kk := .i64) (s := p33) (j := 0) (by kernel_rfl) (by kernel_rfl) hz36) (zdO (v := (dI (z36.toNat : Int))) (ups := []) (some 29) 4 none (.cvI .i64 (tm 28)) (ev_cv (kk := .u8) (a := (z36.toNat : Int)) (by kernel_rfl) (cv_i64 _)) (zdR 1 5 (bindE hS (fun z37 hz37 hS => zdO (v := (.r (.msl 72 1 0 z37.length))) (ups := [(72, ⟨1, some (.own 3 1 (eI.cells z37))⟩)]) (some 31) 6 none (.app 3 1 8 (tm 26) (tm 30)) (ev_app eI (b := 72) (g := 0) (n := p34.length) (xs := p34) (ys := [(z36.toNat : Int)]) ((congrArg (asL _) (by kernel_rfl : ρof _ (.tmp 30) = (.r (.msl 248 1 0 (([(z36.toNat : Int)] : List Int).length))))).trans (as_whole eI (e := 3) (k := 1) (xs := [(z36.toNat : Int)]) (by kernel_rfl) rfl rfl)) rfl (by kernel_rfl) rfl (by kernel_rfl) rfl hz37) (zdR 1 7 (bindE hS (fun z38 hz38 hS => zdO (v := (.d (.str z38))) (ups := []) (some 33) 8 none (.slStr (tm 32) (.some (ki 1)) .none) (ev_slStr (s := p33) (a := 1) (c := (p33.length : Int)) (by kernel_rfl) (bnd_s _ (kk := .i64) (j := 1) (by kernel_rfl)) (bnd_n _) hz38) (zdR 2 10 (zdE (zkSeq (zrExit (zkSeqX (zkBlkX (zkNil (eN1 hS hQ))))))))))))))))))
 ·cases hS
def f159_l1 (a1 : S8) (a2 : S8) (x : S8 × (List Int)) : Option ((S8 × (List Int)) ⊕ (((List Int)))) := (bif (!decide (x.1 = ([] : S8))) then (f159_l1_j2 a1 a2 x.1 x.2) else (some (.inr x.2)))
theorem f159_l1_ok (hd : 2 ≤ d) (a1 : S8) (a2 : S8) {r : (S8 × (List Int)) ⊕ (((List Int)))} (hQ : FQ (finL (f159_l1_H a1 a2) (f159_l1_X a1 a2) r) Q) {x : S8 × (List Int)} (hS : f159_l1 a1 a2 x = some r) (he : f159_l1_H a1 a2 x st) : ZX d Q c159_2 [] st := by
 refine zrKeep he ?_
 unfold f159_l1 at hS
 refine zrSeq (zS (zL 1 1 ?_))
 refine sB 22 2 (.strO .neq (tm 21) (.const (.string ⟨#[]⟩))) hS (fun hS => ?_) (fun hS => ?_)
 ·refine zK (zT ?_)
  exact zrSkip (zkSeq (f159_l1_j2_ok hd a1 a2 hQ x.1 x.2 hS (by kernel_rfl)))
 ·refine zK (zF ?_)
  exact zrKeep (J := f159_l1_e0_J a1 a2 x.2) (by kernel_rfl) (zrExit (zkSeqX (zkNil (eX0 hS hQ))))
def f159_j0_J (a1 : S8) (a2 : S8) : St := ⟨(up (up u0 1 (.d (.str a2))) 0 (.d (.str a1))), h0⟩
def f159_j0 (a1 : S8) (a2 : S8) : Option ((List Int)) := ((cat? a1 a2).bind fun z17 => ((loopO (f159_l1 a1 a2) (z17, [])).bind fun z39 => (some z39)))
theorem f159_j0_ok (hd : 2 ≤ d) (a1 : S8) (a2 : S8) {r : (List Int)} (hQ : FQ (f159_Q r) Q)  (hS : f159_j0 a1 a2 = some r) (he : keepSt [0, 1] [] [] st = f159_j0_J a1 a2) : ZX d Q c159_3 [] st := by
 refine zrKeep he ?_
 unfold f159_j0 at hS
 refine zS (zL 1 1 (zK (zrSeq (zS (zL 2 2 ?_)))))
 refine bindE hS (fun z17 hz17 hS => zO (v := (.d (.str z17))) (ups := []) (some 20) 3 (.strO .add (tm 18) (tm 19)) (ev_cat (a := a1) (c := a2) (by kernel_rfl) (by kernel_rfl) hz17) (zL 1 4 (zK ?_)))
 refine zrBlk (bindE hS (fun z39 hz39 hS => zrLoop (f159_l1_H a1 a2) (f159_l1_X a1 a2) (fun x st r Q h0 hS hQ => f159_l1_ok hd a1 a2 hQ hS h0) (x := (z17, [])) (z := z39) (by show keepSt _ _ _ _ = _; kernel_rfl) hz39 ?_))
 intro e st' _ hX
 obtain ⟨rfl, rfl⟩ : _ ∧ _ := hX
 refine zkBlkX (zkSeq (zS (zL 4 4 (zK ?_))))
 exact zrRet (zkNil (endQ hS hQ (fR (f159_out z39))))
def f159 (a1 : S8) (a2 : S8) : Option ((List Int)) := ((f53 a1).bind fun z40 => (f159_j0 a1 a2 ))
theorem f159_ok (d : Nat) (hd : 2 ≤ d) (a1 : S8) (a2 : S8) (r : (List Int)) (hS : f159 a1 a2 = some r) : lev codes baseL d 159 [(.d (.str a1)), (.d (.str a2))] [] = some ((.tup [(.d (.str ([]))), (.r (.own 0 3 1 r.length (eI.cells r))), (dI 0)]), []) := by
 refine lvG hd (fun Q hQ => ?_) codes159
 unfold f159 at hS
 show ZR _ Q c159_b [] _
 replace hQ : FQ (f159_Q r) Q := hQ
 refine zS (zL 3 3 (zK (zrSeq (zS (zL 1 1 ?_)))))
 refine bindE hS (fun z40 hz40 hS => zO (some 14) 2 (c1 53 13) (ev_cA (f53_ok (d - 1) (dpt hd rfl) a1 z40 hz40)) (zL 1 3 (zK (zS (zL 2 2 (zK (zF ?_)))))))
 exact zrSkip (zkSeq (f159_j0_ok hd a1 a2 hQ  hS (by kernel_rfl)))
/- (*farwriter/parse.machine).emit -/
def f239_fin (p1 : Int) (p2 : Int) (p3 : S8) (p4 : S8) (p5 : S8) (p6 : List GAct) : St := ⟨(up u0 1000001 .un), (up (up h0 1 ⟨1, some (.own 81 6 (e_GAct.cells p6))⟩) 0 ⟨0, some (.box ((dI p1) :: ((dI p2) :: ((.d (.str p3)) :: ((.d (.str p4)) :: ((.d (.str p5)) :: ((.r (.msl 1 1 0 p6.length)) :: [])))))))⟩)⟩
theorem f239_out (p1 : Int) (p2 : Int) (p3 : S8) (p4 : S8) (p5 : S8) (p6 : List GAct) : outR (f239_fin p1 p2 p3 p4 p5 p6) 2 c239.res = some ((.tup []), [(.box ((dI p1) :: ((dI p2) :: ((.d (.str p3)) :: ((.d (.str p4)) :: ((.d (.str p5)) :: ((.r (.msl 1 0 0 p6.length)) :: []))))))), (.own 81 6 (e_GAct.cells p6))]) := by
 kernel_rfl
def f239_Q (r : Int × Int × S8 × S8 × S8 × (List GAct)) (e : PX) (st : St) : Prop := DoneF c239 2 ((.tup []), [(.box ((dI r.1) :: ((dI r.2.1) :: ((.d (.str r.2.2.1)) :: ((.d (.str r.2.2.2.1)) :: ((.d (.str r.2.2.2.2.1)) :: ((.r (.msl 1 0 0 r.2.2.2.2.2.length)) :: []))))))), (.own 81 6 (e_GAct.cells r.2.2.2.2.2))]) e st
def f239 (a1 : GAct) (a2 : Int) (a3 : Int) (a4 : S8) (a5 : S8) (a6 : S8) (a7 : List GAct) : Option (Int × Int × S8 × S8 × S8 × (List GAct)) := ((app? 80 a7 ([a1] : List GAct)).bind fun z2 => (some (a2, a3, a4, a5, a6, z2)))
theorem f239_ok (d : Nat) (hd : 1 ≤ d) (a1 : GAct) (a2 : Int) (a3 : Int) (a4 : S8) (a5 : S8) (a6 : S8) (a7 : List GAct) (r : Int × Int × S8 × S8 × S8 × (List GAct)) (hS : f239 a1 a2 a3 a4 a5 a6 a7 = some r) : lev codes baseL d 239 [(pt 0), (.agg ((dI a1.Kind) :: ((dI a1.Code) :: ((dI a1.Mark) :: ((.d (.str a1.Inter)) :: ((dL a1.Args) :: ((.d (.str a1.Text)) :: [])))))))] [(.box ((dI a2) :: ((dI a3) :: ((.d (.str a4)) :: ((.d (.str a5)) :: ((.d (.str a6)) :: ((.r (.msl 1 0 0 a7.length)) :: []))))))), (.own 81 6 (e_GAct.cells a7))] = some ((.tup []), [(.box ((dI r.1) :: ((dI r.2.1) :: ((.d (.str r.2.2.1)) :: ((.d (.str r.2.2.2.1)) :: ((.d (.str r.2.2.2.2.1)) :: ((.r (.msl 1 0 0 r.2.2.2.2.2.length)) :: []))))))), (.own 81 6 (e_GAct.cells r.2.2.2.2.2))]) := by
 refine lvG hd (fun Q hQ => ?_) codes239
 unfold f239 at hS
 show ZR _ Q c239_b [] _
 replace hQ : FQ (f239_Q r) Q := hQ
 refine zS (zL 1 1 (zK ?_))
 exact zrRegD (zdR 7 7 (bindE hS (fun z2 hz2 hS => zdO (v := (.r (.msl 1 1 0 z2.length))) (ups := [(1, ⟨1, some (.own 81 6 (e_GAct.cells z2))⟩)]) (some 11) 8 none (.app 81 6 80 (tm 8) (tm 10)) (ev_app e_GAct (b := 1) (g := 0) (n := a7.length) (xs := a7) (ys := [a1]) ((congrArg (asL _) (by kernel_rfl : ρof _ (.tmp 10) = (.r (.msl 88 1 0 (([a1] : List GAct).length))))).trans (as_whole e_GAct (e := 81) (k := 6) (xs := [a1]) (by kernel_rfl) rfl rfl)) rfl (by kernel_rfl) rfl (by kernel_rfl) rfl hz2) (zdR 3 11 (zdE (zkNil (endQ hS hQ (fN (f239_out a2 a3 a4 a5 a6 z2)))))))))
/- (*farwriter/parse.machine).control -/
def f242_fin (p2 : Int) (p3 : Int) (p4 : S8) (p5 : S8) (p6 : S8) (p7 : List GAct) (p8 : Bool) : St := ⟨(up (up u0 1000001 .un) 4 (dB p8)), (up (up h0 1 ⟨1, some (.own 81 6 (e_GAct.cells p7))⟩) 0 ⟨0, some (.box ((dI p2) :: ((dI p3) :: ((.d (.str p4)) :: ((.d (.str p5)) :: ((.d (.str p6)) :: ((.r (.msl 1 1 0 p7.length)) :: [])))))))⟩)⟩
theorem f242_out (p2 : Int) (p3 : Int) (p4 : S8) (p5 : S8) (p6 : S8) (p7 : List GAct) (p8 : Bool) : outR (f242_fin p2 p3 p4 p5 p6 p7 p8) 2 c242.res = some ((dB p8), [(.box ((dI p2) :: ((dI p3) :: ((.d (.str p4)) :: ((.d (.str p5)) :: ((.d (.str p6)) :: ((.r (.msl 1 0 0 p7.length)) :: []))))))), (.own 81 6 (e_GAct.cells p7))]) := by
 kernel_rfl
def f242_Q (r : Int × Int × S8 × S8 × S8 × (List GAct) × Bool) (e : PX) (st : St) : Prop := DoneF c242 2 ((dB r.2.2.2.2.2.2), [(.box ((dI r.1) :: ((dI r.2.1) :: ((.d (.str r.2.2.1)) :: ((.d (.str r.2.2.2.1)) :: ((.d (.str r.2.2.2.2.1)) :: ((.r (.msl 1 0 0 r.2.2.2.2.2.1.length)) :: []))))))), (.own 81 6 (e_GAct.cells r.2.2.2.2.2.1))]) e st
def f242 (a1 : Int) (a2 : Int) (a3 : Int) (a4 : S8) (a5 : S8) (a6 : S8) (a7 : List GAct) : Option (Int × Int × S8 × S8 × S8 × (List GAct) × Bool) := (bif (decide (a1 = 27)) then none else (bif (decide (a1 = 24)) then none else (bif (decide (a1 = 26)) then none else (bif (decide (a1 < 32)) then ((f239 (GAct.mk 2 a1 0 ([]) ([]) ([])) a2 a3 a4 a5 a6 a7).bind fun z5 => (some (z5.1, z5.2.1, z5.2.2.1, z5.2.2.2.1, z5.2.2.2.2.1, z5.2.2.2.2.2, true))) else ((f96 a1 127 159).bind fun z6 => (some (a2, a3, a4, a5, a6, a7, z6)))))))
theorem f242_ok (d : Nat) (hd : 2 ≤ d) (a1 : Int) (a2 : Int) (a3 : Int) (a4 : S8) (a5 : S8) (a6 : S8) (a7 : List GAct) (r : Int × Int × S8 × S8 × S8 × (List GAct) × Bool) (hS : f242 a1 a2 a3 a4 a5 a6 a7 = some r) : lev codes baseL d 242 [(pt 0), (dI a1)] [(.box ((dI a2) :: ((dI a3) :: ((.d (.str a4)) :: ((.d (.str a5)) :: ((.d (.str a6)) :: ((.r (.msl 1 0 0 a7.length)) :: []))))))), (.own 81 6 (e_GAct.cells a7))] = some ((dB r.2.2.2.2.2.2), [(.box ((dI r.1) :: ((dI r.2.1) :: ((.d (.str r.2.2.1)) :: ((.d (.str r.2.2.2.1)) :: ((.d (.str r.2.2.2.2.1)) :: ((.r (.msl 1 0 0 r.2.2.2.2.2.1.length)) :: []))))))), (.own 81 6 (e_GAct.cells r.2.2.2.2.2.1))]) := by
 refine lvG hd (fun Q hQ => ?_) codes242
 unfold f242 at hS
 show ZR _ Q c242_b [] _
 replace hQ : FQ (f242_Q r) Q := hQ
 refine zS (zL 1 1 (zK (zS (zL 1 1 (zK (zrSeq ?_))))))
 refine zrBlk (zS (zL 1 1 ?_))
 refine sB 10 2 (ck 9 27) hS (fun hS => ?_) (fun hS => ?_)
 ·cases hS
 ·refine zL 1 3 (zK (zF (zS (zL 1 1 ?_))))
  refine sB 13 2 (ck 12 24) hS (fun hS => ?_) (fun hS => ?_)
  ·cases hS
  ·refine zL 2 4 (sH 16 5 14 false (ck 15 26) hS (fun hS => ?_) (fun hS => ?_))
   ·cases hS
   ·refine zL 2 7 (zK (zF (zS (zL 1 1 ?_))))
    refine sB 20 2 (.cmpI .lss (tm 19) (ki 32)) hS (fun hS => ?_) (fun hS => ?_)
    ·refine zL 1 3 (zK (zT (zS (zL 3 3 ?_))))
     refine bindE hS (fun z5 hz5 hS => zO (some 24) 4 (.callr 239 [(tm 21), (tm 23)]) (ev_cR [0, 1] (f239_ok (d - 1) (dpt hd rfl) (GAct.mk 2 a1 0 ([]) ([]) ([])) a2 a3 a4 a5 a6 a7 z5 hz5)) (zK (zS (zL 1 1 (zK ?_)))))
     exact zrRet (zkBlkR (zkSeqR (zkNil (endQ hS hQ (fR (f242_out z5.1 z5.2.1 z5.2.2.1 z5.2.2.2.1 z5.2.2.2.2.1 z5.2.2.2.2.2 true))))))
    ·refine zL 1 3 (zK (zF (zS (zL 1 1 ?_))))
     refine bindE hS (fun z6 hz6 hS => zO (some 7) 2 (.call 96 [(tm 6), (ki 127), (ki 159)]) (ev_cA (f96_ok (d - 1) (dpt hd rfl) a1 127 159 z6 hz6)) (zL 1 3 (zK ?_)))
     exact zrRet (zkBlkR (zkSeqR (zkNil (endQ hS hQ (fR (f242_out a2 a3 a4 a5 a6 a7 z6))))))
/- (*farwriter/parse.machine).take -/
def f208_fin (p1 : Int) (p2 : Int) (p3 : S8) (p4 : S8) (p5 : S8) (p6 : List GAct) : St := ⟨(up u0 1000001 .un), (up (up h0 1 ⟨1, some (.own 81 6 (e_GAct.cells p6))⟩) 0 ⟨0, some (.box ((dI p1) :: ((dI p2) :: ((.d (.str p3)) :: ((.d (.str p4)) :: ((.d (.str p5)) :: ((.r (.msl 1 1 0 p6.length)) :: [])))))))⟩)⟩
theorem f208_out (p1 : Int) (p2 : Int) (p3 : S8) (p4 : S8) (p5 : S8) (p6 : List GAct) : outR (f208_fin p1 p2 p3 p4 p5 p6) 2 c208.res = some ((.tup []), [(.box ((dI p1) :: ((dI p2) :: ((.d (.str p3)) :: ((.d (.str p4)) :: ((.d (.str p5)) :: ((.r (.msl 1 0 0 p6.length)) :: []))))))), (.own 81 6 (e_GAct.cells p6))]) := by
 kernel_rfl
def f208_Q (r : Int × Int × S8 × S8 × S8 × (List GAct)) (e : PX) (st : St) : Prop := DoneF c208 2 ((.tup []), [(.box ((dI r.1) :: ((dI r.2.1) :: ((.d (.str r.2.2.1)) :: ((.d (.str r.2.2.2.1)) :: ((.d (.str r.2.2.2.2.1)) :: ((.r (.msl 1 0 0 r.2.2.2.2.2.length)) :: []))))))), (.own 81 6 (e_GAct.cells r.2.2.2.2.2))]) e st
def f208_j1_J (a1 : Int) (a2 : Int) (a3 : Int) (a4 : S8) (a5 : S8) (a6 : S8) (a7 : List GAct) : St := ⟨(up (up (up u0 1000001 .un) 1 (dI a1)) 0 (pt 0)), (up (up h0 1 ⟨1, some (.own 81 6 (e_GAct.cells a7))⟩) 0 ⟨0, some (.box ((dI a2) :: ((dI a3) :: ((.d (.str a4)) :: ((.d (.str a5)) :: ((.d (.str a6)) :: ((.r (.msl 1 1 0 a7.length)) :: [])))))))⟩)⟩
def f208_j1 (a1 : Int) (a2 : Int) (a3 : Int) (a4 : S8) (a5 : S8) (a6 : S8) (a7 : List GAct) : Option (Int × Int × S8 × S8 × S8 × (List GAct)) := ((f242 a1 a2 a3 a4 a5 a6 a7).bind fun z3 => (bif z3.2.2.2.2.2.2 then (some (z3.1, z3.2.1, z3.2.2.1, z3.2.2.2.1, z3.2.2.2.2.1, z3.2.2.2.2.2.1)) else (bif (decide (z3.1 = 0)) then ((f239 (GAct.mk 1 a1 0 ([]) ([]) ([])) z3.1 z3.2.1 z3.2.2.1 z3.2.2.2.1 z3.2.2.2.2.1 z3.2.2.2.2.2.1).bind fun z4 => (some (z4.1, z4.2.1, z4.2.2.1, z4.2.2.2.1, z4.2.2.2.2.1, z4.2.2.2.2.2))) else none)))
theorem f208_j1_ok (hd : 3 ≤ d) (a1 : Int) (a2 : Int) (a3 : Int) (a4 : S8) (a5 : S8) (a6 : S8) (a7 : List GAct) {r : Int × Int × S8 × S8 × S8 × (List GAct)} (hQ : FQ (f208_Q r) Q)  (hS : f208_j1 a1 a2 a3 a4 a5 a6 a7 = some r) (he : keepSt [0, 1, 1000001] [(0, .id 0), (1, .id 1)] [] st = f208_j1_J a1 a2 a3 a4 a5 a6 a7) : ZX d Q c208_1 [] st := by
 refine zrKeep he ?_
 unfold f208_j1 at hS
 refine zrBlk (zS (zL 2 2 ?_))
 refine bindE hS (fun z3 hz3 hS => zO (some 53) 3 (.callr 242 [(tm 51), (tm 52)]) (ev_cR [0, 1] (f242_ok (d - 1) (dpt hd rfl) a1 a2 a3 a4 a5 a6 a7 z3 hz3)) (zL 1 4 (zK ?_)))
 refine sR 50 hS (fun hS => ?_) (fun hS => ?_)
 ·exact zT (zrSkip (zkBlk (zkNil (endQ hS hQ (fN (f208_out z3.1 z3.2.1 z3.2.2.1 z3.2.2.2.1 z3.2.2.2.2.1 z3.2.2.2.2.2.1))))))
 ·refine zF (zS (zL 5 5 ?_))
  refine sB 60 6 (ck 59 0) hS (fun hS => ?_) (fun hS => ?_)
  ·refine zL 1 7 (zK (zT (zrReg (zL 3 3 ?_))))
   exact bindE hS (fun z4 hz4 hS => zO (some 64) 4 (.callr 239 [(tm 61), (tm 63)]) (ev_cR [0, 1] (f239_ok (d - 1) (dpt hd rfl) (GAct.mk 1 a1 0 ([]) ([]) ([])) z3.1 z3.2.1 z3.2.2.1 z3.2.2.2.1 z3.2.2.2.2.1 z3.2.2.2.2.2.1 z4 hz4)) (zE (zkBlk (zkNil (endQ hS hQ (fN (f208_out z4.1 z4.2.1 z4.2.2.1 z4.2.2.2.1 z4.2.2.2.2.1 z4.2.2.2.2.2)))))))
  ·cases hS
def f208_j3_J (a1 : Int) (a2 : Int) (a3 : Int) (a4 : S8) (a5 : S8) (a6 : S8) (a7 : List GAct) : St := ⟨(up (up (up (up u0 1000001 .un) 22 (dB false)) 1 (dI a1)) 0 (pt 0)), (up (up h0 1 ⟨1, some (.own 81 6 (e_GAct.cells a7))⟩) 0 ⟨0, some (.box ((dI a2) :: ((dI a3) :: ((.d (.str a4)) :: ((.d (.str a5)) :: ((.d (.str a6)) :: ((.r (.msl 1 1 0 a7.length)) :: [])))))))⟩)⟩
def f208_j3 (a1 : Int) (a2 : Int) (a3 : Int) (a4 : S8) (a5 : S8) (a6 : S8) (a7 : List GAct) : Option (Int × Int × S8 × S8 × S8 × (List GAct)) := (f208_j1 a1 a2 a3 a4 a5 a6 a7 )
theorem f208_j3_ok (hd : 3 ≤ d) (a1 : Int) (a2 : Int) (a3 : Int) (a4 : S8) (a5 : S8) (a6 : S8) (a7 : List GAct) {r : Int × Int × S8 × S8 × S8 × (List GAct)} (hQ : FQ (f208_Q r) Q)  (hS : f208_j3 a1 a2 a3 a4 a5 a6 a7 = some r) (he : keepSt [0, 1, 22, 1000001] [(0, .id 0), (1, .id 1)] [] st = f208_j3_J a1 a2 a3 a4 a5 a6 a7) : ZX d Q c208_2 [.blk 0, .seq c208_1] st := by
 refine zrKeep he ?_
 unfold f208_j3 at hS
 exact zF (zrSkip (zkBlk (zkSeq (f208_j1_ok hd a1 a2 a3 a4 a5 a6 a7 hQ  hS (by kernel_rfl)))))
def f208_j2_J (a1 : Int) (a2 : Int) (a3 : Int) (a4 : S8) (a5 : S8) (a6 : S8) (a7 : List GAct) : St := ⟨(up (up (up (up (up u0 1000001 .un) 16 (dB false)) 15 (dI a2)) 1 (dI a1)) 0 (pt 0)), (up (up h0 1 ⟨1, some (.own 81 6 (e_GAct.cells a7))⟩) 0 ⟨0, some (.box ((dI a2) :: ((dI a3) :: ((.d (.str a4)) :: ((.d (.str a5)) :: ((.d (.str a6)) :: ((.r (.msl 1 1 0 a7.length)) :: [])))))))⟩)⟩
def f208_j2 (a1 : Int) (a2 : Int) (a3 : Int) (a4 : S8) (a5 : S8) (a6 : S8) (a7 : List GAct) : Option (Int × Int × S8 × S8 × S8 × (List GAct)) := (bif (decide (a2 = 8)) then none else (bif (decide (a2 = 10)) then none else (f208_j3 a1 a2 a3 a4 a5 a6 a7 )))
theorem f208_j2_ok (hd : 3 ≤ d) (a1 : Int) (a2 : Int) (a3 : Int) (a4 : S8) (a5 : S8) (a6 : S8) (a7 : List GAct) {r : Int × Int × S8 × S8 × S8 × (List GAct)} (hQ : FQ (f208_Q r) Q)  (hS : f208_j2 a1 a2 a3 a4 a5 a6 a7 = some r) (he : keepSt [0, 1, 15, 16, 1000001] [(0, .id 0), (1, .id 1)] [] st = f208_j2_J a1 a2 a3 a4 a5 a6 a7) : ZX d Q c208_3 [.blk 0, .seq c208_1] st := by
 refine zrKeep he ?_
 unfold f208_j2 at hS
 refine zF (zrSeq (zS ?_))
 refine sB 23 1 (ck 15 8) hS (fun hS => ?_) (fun hS => ?_)
 ·cases hS
 ·refine zL 1 2 (zK (zF (zrReg ?_)))
  refine sB 24 1 (ck 15 10) hS (fun hS => ?_) (fun hS => ?_)
  ·cases hS
  ·refine zL 1 2 (zK ?_)
   exact f208_j3_ok hd a1 a2 a3 a4 a5 a6 a7 hQ  hS (by kernel_rfl)
def f208_j0_J (a1 : Int) (a2 : Int) (a3 : Int) (a4 : S8) (a5 : S8) (a6 : S8) (a7 : List GAct) : St := ⟨(up (up (up u0 1000001 .un) 1 (dI a1)) 0 (pt 0)), (up (up h0 1 ⟨1, some (.own 81 6 (e_GAct.cells a7))⟩) 0 ⟨0, some (.box ((dI a2) :: ((dI a3) :: ((.d (.str a4)) :: ((.d (.str a5)) :: ((.d (.str a6)) :: ((.r (.msl 1 1 0 a7.length)) :: [])))))))⟩)⟩
def f208_j0 (a1 : Int) (a2 : Int) (a3 : Int) (a4 : S8) (a5 : S8) (a6 : S8) (a7 : List GAct) : Option (Int × Int × S8 × S8 × S8 × (List GAct)) := (bif (decide (a2 = 7)) then none else (bif (decide (a2 = 9)) then none else (f208_j2 a1 a2 a3 a4 a5 a6 a7 )))
theorem f208_j0_ok (hd : 3 ≤ d) (a1 : Int) (a2 : Int) (a3 : Int) (a4 : S8) (a5 : S8) (a6 : S8) (a7 : List GAct) {r : Int × Int × S8 × S8 × S8 × (List GAct)} (hQ : FQ (f208_Q r) Q)  (hS : f208_j0 a1 a2 a3 a4 a5 a6 a7 = some r) (he : keepSt [0, 1, 1000001] [(0, .id 0), (1, .id 1)] [] st = f208_j0_J a1 a2 a3 a4 a5 a6 a7) : ZX d Q c208_4 [] st := by
 refine zrKeep he ?_
 unfold f208_j0 at hS
 refine zrSeq (zS (zL 5 5 (zK ?_)))
 refine zrBlk (zrSeq (zS ?_))
 refine sB 17 1 (ck 15 7) hS (fun hS => ?_) (fun hS => ?_)
 ·cases hS
 ·refine zL 1 2 (zK (zF (zrReg ?_)))
  refine sB 18 1 (ck 15 9) hS (fun hS => ?_) (fun hS => ?_)
  ·cases hS
  ·refine zL 1 2 (zK ?_)
   exact f208_j2_ok hd a1 a2 a3 a4 a5 a6 a7 hQ  hS (by kernel_rfl)
def f208 (a1 : Int) (a2 : Int) (a3 : Int) (a4 : S8) (a5 : S8) (a6 : S8) (a7 : List GAct) : Option (Int × Int × S8 × S8 × S8 × (List GAct)) := (bif (decide (a1 < 0)) then none else (bif (decide (1114111 < a1)) then none else (f208_j0 a1 a2 a3 a4 a5 a6 a7 )))
theorem f208_ok (d : Nat) (hd : 3 ≤ d) (a1 : Int) (a2 : Int) (a3 : Int) (a4 : S8) (a5 : S8) (a6 : S8) (a7 : List GAct) (r : Int × Int × S8 × S8 × S8 × (List GAct)) (hS : f208 a1 a2 a3 a4 a5 a6 a7 = some r) : lev codes baseL d 208 [(pt 0), (dI a1)] [(.box ((dI a2) :: ((dI a3) :: ((.d (.str a4)) :: ((.d (.str a5)) :: ((.d (.str a6)) :: ((.r (.msl 1 0 0 a7.length)) :: []))))))), (.own 81 6 (e_GAct.cells a7))] = some ((.tup []), [(.box ((dI r.1) :: ((dI r.2.1) :: ((.d (.str r.2.2.1)) :: ((.d (.str r.2.2.2.1)) :: ((.d (.str r.2.2.2.2.1)) :: ((.r (.msl 1 0 0 r.2.2.2.2.2.length)) :: []))))))), (.own 81 6 (e_GAct.cells r.2.2.2.2.2))]) := by
 refine lvG hd (fun Q hQ => ?_) codes208
 unfold f208 at hS
 show ZR _ Q c208_b [] _
 replace hQ : FQ (f208_Q r) Q := hQ
 refine zrSeq (zS (zL 1 1 ?_))
 refine sB 6 2 (.cmpI .lss (tm 5) (ki 0)) hS (fun hS => ?_) (fun hS => ?_)
 ·cases hS
 ·refine zL 2 4 (sH 9 5 7 false (.cmpI .gtr (tm 8) (ki 1114111)) hS (fun hS => ?_) (fun hS => ?_))
  ·cases hS
  ·refine zL 1 6 (zK (zF ?_))
   exact zrSkip (zkSeq (f208_j0_ok hd a1 a2 a3 a4 a5 a6 a7 hQ  hS (by kernel_rfl)))
end
end Go.Proofs.YtobkkblijfhpoaaGreatDoor.Pm
