/- Typed functions, and that the codes are these. Printed by dec.py. -/
import Derived.Test.YtobkkblijfhpoaaGreatDoorDTpH
namespace Go.Proofs.YtobkkblijfhpoaaGreatDoor.Pm
noncomputable section
set_option maxRecDepth 1000000
set_option maxHeartbeats 20000000
set_option linter.unusedVariables false
set_option linter.unusedSimpArgs false
variable {d : Nat} {Q : PQ} {st : St}
/- farwriter/fartop.TopPast -/
def f5_fin (p348 : Bool) : St := ⟨(up u0 2 (dB p348)), h0⟩
theorem f5_out (p348 : Bool) : outR (f5_fin p348) 0 c5.res = some ((dB p348), []) := by
 kernel_rfl
def f5_Q (r : Bool) (e : PX) (st : St) : Prop := DoneF c5 0 ((dB r), []) e st
def f5_l6_J (a1 : List S8) (x : (List S8) × (List S8)) : St := ⟨(up (up (up u0 15 (.r (.msl 128 0 0 x.2.length))) 9 (.r (.msl 80 0 0 x.1.length))) 0 (dE eStr a1)), (up (up h0 128 ⟨0, some (.own 9 1 (eStr.cells x.2))⟩) 80 ⟨0, some (.own 9 1 (eStr.cells x.1))⟩)⟩
def f5_l6_H (a1 : List S8) (x : (List S8) × (List S8)) (st : St) : Prop := keepSt [0, 9, 15] [(80, .id 80), (128, .id 128)] [] st = f5_l6_J a1 x
def f5_l6_e10_J (a1 : List S8) (p703 : List S8) (p704 : List S8) : St := ⟨(up (up u0 15 (.r (.msl 128 0 0 p704.length))) 9 (.r (.msl 80 0 0 p703.length))), (up (up h0 128 ⟨0, some (.own 9 1 (eStr.cells p704))⟩) 80 ⟨0, some (.own 9 1 (eStr.cells p703))⟩)⟩
def f5_l6_X (a1 : List S8) (z : ((List S8) × (List S8))) (e : PX) (st : St) : Prop := e = .exit 10 ∧ st = f5_l6_e10_J a1 z.1 z.2
def f5_l6 (a1 : List S8) (x : (List S8) × (List S8)) : Option (((List S8) × (List S8)) ⊕ (((List S8) × (List S8)))) := (bif (decide ((x.2.length : Int) < 3)) then ((app? 16 x.2 ([[]] : List S8)).bind fun z154 => (some (.inl (x.1, z154)))) else (bif (decide (2 < (a1.length : Int))) then (bif (decide ((x.2.length : Int) = (a1.length : Int))) then ((app? 16 x.2 ([[]] : List S8)).bind fun z155 => (some (.inl (x.1, z155)))) else (some (.inr (x.1, x.2)))) else (some (.inr (x.1, x.2)))))
theorem f5_l6_ok (hd : 16 ≤ d) (a1 : List S8) {r : ((List S8) × (List S8)) ⊕ (((List S8) × (List S8)))} (hQ : FQ (finL (f5_l6_H a1) (f5_l6_X a1) r) Q) {x : (List S8) × (List S8)} (hS : f5_l6 a1 x = some r) (he : f5_l6_H a1 x st) : ZX d Q c5_1 [] st := by
 refine zrKeep he ?_
 unfold f5_l6 at hS
 refine zrSeq (zS (zL 2 2 ?_))
 refine sB 126 3 (.cmpI .lss (tm 125) (ki 3)) hS (fun hS => ?_) (fun hS => ?_)
 ·refine zL 12 15 (zK (zT ?_))
  refine zrSkip (zkSeq (zrBlk (zrReg (zL 2 2 ?_))))
  refine bindE hS (fun z154 hz154 hS => zO (v := (.r (.msl 128 1 0 z154.length))) (ups := [(128, ⟨1, some (.own 9 1 (eStr.cells z154))⟩)]) (some 141) 3 (.app 9 1 16 (tm 139) (tm 140)) (ev_app eStr (b := 128) (g := 0) (n := x.2.length) (xs := x.2) (ys := [[]]) ((congrArg (asL _) (by kernel_rfl : ρof _ (.tmp 140) = (.r (.msl 1128 1 0 (([[]] : List S8).length))))).trans (as_whole eStr (e := 9) (k := 1) (xs := [[]]) (by kernel_rfl) rfl rfl)) rfl (by kernel_rfl) rfl (by kernel_rfl) rfl hz154) (zL 1 4 (zE ?_)))
  exact zkBlk (zkNil (eN1 hS hQ))
 ·refine zL 3 6 (sH 130 7 127 false (.cmpI .gtr (tm 129) (ki 2)) hS (fun hS => ?_) (fun hS => ?_))
  ·refine zL 5 12 (sH 136 13 131 true (.cmpI .eql (tm 133) (tm 135)) hS (fun hS => ?_) (fun hS => ?_))
   ·refine zL 2 15 (zK (zT ?_))
    refine zrSkip (zkSeq (zrBlk (zrReg (zL 2 2 ?_))))
    refine bindE hS (fun z155 hz155 hS => zO (v := (.r (.msl 128 1 0 z155.length))) (ups := [(128, ⟨1, some (.own 9 1 (eStr.cells z155))⟩)]) (some 141) 3 (.app 9 1 16 (tm 139) (tm 140)) (ev_app eStr (b := 128) (g := 0) (n := x.2.length) (xs := x.2) (ys := [[]]) ((congrArg (asL _) (by kernel_rfl : ρof _ (.tmp 140) = (.r (.msl 1128 1 0 (([[]] : List S8).length))))).trans (as_whole eStr (e := 9) (k := 1) (xs := [[]]) (by kernel_rfl) rfl rfl)) rfl (by kernel_rfl) rfl (by kernel_rfl) rfl hz155) (zL 1 4 (zE ?_)))
    exact zkBlk (zkNil (eN1 hS hQ))
   ·refine zL 2 15 (zK (zF ?_))
    exact zrKeep (J := f5_l6_e10_J a1 x.1 x.2) (by kernel_rfl) (zrExit (zkSeqX (zkNil (eX0 hS hQ))))
  ·refine zL 8 15 (zK (zF ?_))
   exact zrKeep (J := f5_l6_e10_J a1 x.1 x.2) (by kernel_rfl) (zrExit (zkSeqX (zkNil (eX0 hS hQ))))
def f5_j5_J (a1 : List S8) (p681 : List S8) (p682 : List S8) : St := ⟨(up (up (up u0 15 (.r (.msl 128 0 0 p682.length))) 9 (.r (.msl 80 0 0 p681.length))) 0 (dE eStr a1)), (up (up h0 128 ⟨0, some (.own 9 1 (eStr.cells p682))⟩) 80 ⟨0, some (.own 9 1 (eStr.cells p681))⟩)⟩
def f5_j5 (a1 : List S8) (p681 : List S8) (p682 : List S8) : Option (Bool) := ((loopO (f5_l6 a1) (p681, p682)).bind fun z156 => ((f22 z156.1 z156.2).bind fun z157 => (some true)))
theorem f5_j5_ok (hd : 16 ≤ d) (a1 : List S8) {r : Bool} (hQ : FQ (f5_Q r) Q) (p681 : List S8) (p682 : List S8) (hS : f5_j5 a1 p681 p682 = some r) (he : keepSt [0, 9, 15] [(80, .id 80), (128, .id 128)] [] st = f5_j5_J a1 p681 p682) : ZX d Q c5_2 [] st := by
 refine zrKeep he ?_
 unfold f5_j5 at hS
 refine zrSeq (zrBlk (bindE hS (fun z156 hz156 hS => zrLoop (f5_l6_H a1) (f5_l6_X a1) (fun x st r Q h0 hS hQ => f5_l6_ok hd a1 hQ hS h0) (x := (p681, p682)) (z := z156) (by show keepSt _ _ _ _ = _; kernel_rfl) hz156 ?_)))
 intro e st' _ hX
 obtain ⟨rfl, rfl⟩ : _ ∧ _ := hX
 refine zkBlkX (zkSeq (zS (zL 2 2 ?_)))
 refine bindE hS (fun z157 hz157 hS => zO (some 144) 3 (.call 22 [(tm 142), (tm 143)]) (ev_callB (args := [(.r (.msl 80 0 0 z156.1.length)), (.r (.msl 128 0 0 z156.2.length))]) (by kernel_rfl) (l_cons (l_own eStr (e := 9) (k := 1) (xs := z156.1) (by kernel_rfl) rfl rfl) (l_cons (l_own eStr (e := 9) (k := 1) (xs := z156.2) (by kernel_rfl) rfl rfl) l_nil)) (f22_ok (d - 1) (dpt hd rfl) z156.1 z156.2 z157 hz157) (by kernel_rfl) (by kernel_rfl)) (zL 1 4 (zK ?_)))
 exact zrRet (zkNil (endQ hS hQ (fR (f5_out true))))
def f5_l7_J (a1 : List S8) (x : (List S8) × (List S8) × Int) : St := ⟨(up (up (up (up (up (up u0 114 (dI x.2.2)) 113 (dI (a1.length : Int))) 112 (dE eStr a1)) 15 (.r (.msl 128 0 0 x.2.1.length))) 9 (.r (.msl 80 0 0 x.1.length))) 0 (dE eStr a1)), (up (up h0 128 ⟨0, some (.own 9 1 (eStr.cells x.2.1))⟩) 80 ⟨0, some (.own 9 1 (eStr.cells x.1))⟩)⟩
def f5_l7_H (a1 : List S8) (x : (List S8) × (List S8) × Int) (st : St) : Prop := keepSt [0, 9, 15, 112, 113, 114] [(80, .id 80), (128, .id 128)] [] st = f5_l7_J a1 x
def f5_l7_e8_J (a1 : List S8) (p679 : List S8) (p680 : List S8) : St := ⟨(up (up (up u0 15 (.r (.msl 128 0 0 p680.length))) 9 (.r (.msl 80 0 0 p679.length))) 0 (dE eStr a1)), (up (up h0 128 ⟨0, some (.own 9 1 (eStr.cells p680))⟩) 80 ⟨0, some (.own 9 1 (eStr.cells p679))⟩)⟩
def f5_l7_X (a1 : List S8) (z : ((List S8) × (List S8))) (e : PX) (st : St) : Prop := e = .exit 8 ∧ st = f5_l7_e8_J a1 z.1 z.2
def f5_l7_j9_J (a1 : List S8) (p713 : List S8) (p714 : List S8) (p715 : Int) : St := ⟨(up (up (up (up (up (up u0 114 (dI p715)) 113 (dI (a1.length : Int))) 112 (dE eStr a1)) 15 (.r (.msl 128 0 0 p714.length))) 9 (.r (.msl 80 0 0 p713.length))) 0 (dE eStr a1)), (up (up h0 128 ⟨0, some (.own 9 1 (eStr.cells p714))⟩) 80 ⟨0, some (.own 9 1 (eStr.cells p713))⟩)⟩
def f5_l7_j9 (a1 : List S8) (p713 : List S8) (p714 : List S8) (p715 : Int) : Option (((List S8) × (List S8) × Int) ⊕ (((List S8) × (List S8)))) := ((idx a1 p715).bind fun z158 => ((libTrimRight z158 [32]).bind fun z159 => ((app? 16 p714 ([z159] : List S8)).bind fun z160 => (some (.inl (p713, z160, (IntKind.i64.wrap (p715 + 1))))))))
theorem f5_l7_j9_ok (hd : 16 ≤ d) (a1 : List S8) {r : ((List S8) × (List S8) × Int) ⊕ (((List S8) × (List S8)))} (hQ : FQ (finL (f5_l7_H a1) (f5_l7_X a1) r) Q) (p713 : List S8) (p714 : List S8) (p715 : Int) (hS : f5_l7_j9 a1 p713 p714 p715 = some r) (he : keepSt [0, 9, 15, 112, 113, 114] [(80, .id 80), (128, .id 128)] [] st = f5_l7_j9_J a1 p713 p714 p715) : ZX d Q c5_3 [] st := by
 refine zrKeep he ?_
 unfold f5_l7_j9 at hS
 refine zrSeq (zrBlk (zS ?_))
 refine bindE hS (fun z158 hz158 hS => zO (v := (.rptr (eStr.enc z158 ++ (eStr.cells (a1.drop ((p715 : Int).toNat + 1)))))) (ups := []) (some 116) 1 (.ixS 9 1 (tm 112) (tm 114)) (ev_ixS eStr (kk := .i64) (xs := a1) (j := p715) (by kernel_rfl) (by kernel_rfl) hz158 rfl (by intro h; cases h)) (zL 2 3 (zK (zrReg (zL 2 2 ?_)))))
 refine bindE hS (fun z159 hz159 hS => zO (some 120) 3 (.call 20 [(tm 119), (.const (.string ⟨#[32]⟩))]) (ev_cA (libTrimRight_ok (d - 1) (dpt hd rfl) z158 [32] z159 hz159)) (zL 1 4 (bindE hS (fun z160 hz160 hS => zO (v := (.r (.msl 128 1 0 z160.length))) (ups := [(128, ⟨1, some (.own 9 1 (eStr.cells z160))⟩)]) (some 122) 5 (.app 9 1 16 (tm 118) (tm 121)) (ev_app eStr (b := 128) (g := 0) (n := p714.length) (xs := p714) (ys := [z159]) ((congrArg (asL _) (by kernel_rfl : ρof _ (.tmp 121) = (.r (.msl 976 1 0 (([z159] : List S8).length))))).trans (as_whole eStr (e := 9) (k := 1) (xs := [z159]) (by kernel_rfl) rfl rfl)) rfl (by kernel_rfl) rfl (by kernel_rfl) rfl hz160) (zL 1 6 (zE ?_))))))
 refine zkBlk (zkSeq (zrReg (zL 2 2 (zE ?_))))
 exact zkNil (eN1 hS hQ)
def f5_l7_j8_J (a1 : List S8) (p709 : List S8) (p710 : List S8) (p711 : Int) (p712 : Bool) : St := ⟨(up (up (up (up (up (up (up u0 115 (dB p712)) 114 (dI p711)) 113 (dI (a1.length : Int))) 112 (dE eStr a1)) 15 (.r (.msl 128 0 0 p710.length))) 9 (.r (.msl 80 0 0 p709.length))) 0 (dE eStr a1)), (up (up h0 128 ⟨0, some (.own 9 1 (eStr.cells p710))⟩) 80 ⟨0, some (.own 9 1 (eStr.cells p709))⟩)⟩
def f5_l7_j8 (a1 : List S8) (p709 : List S8) (p710 : List S8) (p711 : Int) (p712 : Bool) : Option (((List S8) × (List S8) × Int) ⊕ (((List S8) × (List S8)))) := (bif p712 then (f5_l7_j9 a1 p709 p710 p711) else (some (.inr (p709, p710))))
theorem f5_l7_j8_ok (hd : 16 ≤ d) (a1 : List S8) {r : ((List S8) × (List S8) × Int) ⊕ (((List S8) × (List S8)))} (hQ : FQ (finL (f5_l7_H a1) (f5_l7_X a1) r) Q) (p709 : List S8) (p710 : List S8) (p711 : Int) (p712 : Bool) (hS : f5_l7_j8 a1 p709 p710 p711 p712 = some r) (he : keepSt [0, 9, 15, 112, 113, 114, 115] [(80, .id 80), (128, .id 128)] [] st = f5_l7_j8_J a1 p709 p710 p711 p712) : ZX d Q c5_4 [] st := by
 refine zrKeep he ?_
 unfold f5_l7_j8 at hS
 refine zrSeq (sR 115 hS (fun hS => ?_) (fun hS => ?_))
 ·exact zT (zrSkip (zkSeq (f5_l7_j9_ok hd a1 hQ p709 p710 p711 hS (by kernel_rfl))))
 ·exact zF (zrKeep (J := f5_l7_e8_J a1 p709 p710) (by kernel_rfl) (zrExit (zkSeqX (zkNil (eX0 hS hQ)))))
def f5_l7 (a1 : List S8) (x : (List S8) × (List S8) × Int) : Option (((List S8) × (List S8) × Int) ⊕ (((List S8) × (List S8)))) := (bif (decide (x.2.2 < (a1.length : Int))) then (f5_l7_j8 a1 x.1 x.2.1 x.2.2 true) else (f5_l7_j8 a1 x.1 x.2.1 x.2.2 false))
theorem f5_l7_ok (hd : 16 ≤ d) (a1 : List S8) {r : ((List S8) × (List S8) × Int) ⊕ (((List S8) × (List S8)))} (hQ : FQ (finL (f5_l7_H a1) (f5_l7_X a1) r) Q) {x : (List S8) × (List S8) × Int} (hS : f5_l7 a1 x = some r) (he : f5_l7_H a1 x st) : ZX d Q c5_5 [] st := by
 refine zrKeep he ?_
 unfold f5_l7 at hS
 refine zS ?_
 refine sB 115 1 (.cmpI .lss (tm 114) (tm 113)) hS (fun hS => ?_) (fun hS => ?_)
 ·refine zK ?_
  exact f5_l7_j8_ok hd a1 hQ x.1 x.2.1 x.2.2 true hS (by kernel_rfl)
 ·refine zK ?_
  exact f5_l7_j8_ok hd a1 hQ x.1 x.2.1 x.2.2 false hS (by kernel_rfl)
def f5_j4_J (a1 : List S8) (p661 : List S8) : St := ⟨(up (up u0 9 (.r (.msl 80 0 0 p661.length))) 0 (dE eStr a1)), (up h0 80 ⟨0, some (.own 9 1 (eStr.cells p661))⟩)⟩
def f5_j4 (a1 : List S8) (p661 : List S8) : Option (Bool) := ((loopO (f5_l7 a1) (p661, [], 0)).bind fun z161 => (f5_j5 a1 z161.1 z161.2))
theorem f5_j4_ok (hd : 16 ≤ d) (a1 : List S8) {r : Bool} (hQ : FQ (f5_Q r) Q) (p661 : List S8) (hS : f5_j4 a1 p661 = some r) (he : keepSt [0, 9] [(80, .id 80)] [] st = f5_j4_J a1 p661) : ZX d Q c5_6 [] st := by
 refine zrKeep he ?_
 unfold f5_j4 at hS
 refine zS (zL 1 1 (zK (zrSeq (zS (zL 3 3 (zK ?_))))))
 refine zrBlk (bindE hS (fun z161 hz161 hS => zrLoop (f5_l7_H a1) (f5_l7_X a1) (fun x st r Q h0 hS hQ => f5_l7_ok hd a1 hQ hS h0) (x := (p661, [], 0)) (z := z161) (by show keepSt _ _ _ _ = _; kernel_rfl) hz161 ?_))
 intro e st' _ hX
 obtain ⟨rfl, rfl⟩ : _ ∧ _ := hX
 exact zkBlkX (zkSeq (f5_j5_ok hd a1 hQ z161.1 z161.2 hS (by kernel_rfl)))
def f5_j15_J (a1 : List S8) (p728 : GClient) (p729 : List S8) (p730 : List Int) : St := ⟨(up (up (up (up (up u0 92 (dI 2)) 13 (.r (.msl 808 0 0 p730.length))) 9 (.r (.msl 80 0 0 p729.length))) 3 (pt 32)) 0 (dE eStr a1)), (up (up (up h0 808 ⟨0, some (.own 3 1 (eI.cells p730))⟩) 80 ⟨0, some (.own 9 1 (eStr.cells p729))⟩) 32 (q13_ p728))⟩
def f5_j15 (a1 : List S8) (p728 : GClient) (p729 : List S8) (p730 : List Int) : Option (Bool) := ((f21 p730).bind fun z183 => ((libTrimRight z183 [32]).bind fun z184 => ((app? 16 p729 ([z184] : List S8)).bind fun z185 => (f5_j4 a1 z185))))
theorem f5_j15_ok (hd : 16 ≤ d) (a1 : List S8) {r : Bool} (hQ : FQ (f5_Q r) Q) (p728 : GClient) (p729 : List S8) (p730 : List Int) (hS : f5_j15 a1 p728 p729 p730 = some r) (he : keepSt [0, 3, 9, 13, 92] [(32, .id 32), (80, .id 80), (808, .id 808)] [] st = f5_j15_J a1 p728 p729 p730) : ZX d Q c5_7 [.blk 7, .seq c5_8, .seq c5_9, .blk 6, .seq c5_6] st := by
 refine zrKeep he ?_
 unfold f5_j15 at hS
 refine zrReg (zL 2 2 ?_)
 refine bindE hS (fun z183 hz183 hS => zO (some 107) 3 (c1 21 106) (ev_callB (args := [(.r (.msl 808 0 0 p730.length))]) (by kernel_rfl) (l_cons (l_own eI (e := 3) (k := 1) (xs := p730) (by kernel_rfl) rfl rfl) l_nil) (f21_ok (d - 1) (dpt hd rfl) p730 z183 hz183) (by kernel_rfl) (by kernel_rfl)) (bindE hS (fun z184 hz184 hS => zO (some 108) 4 (.call 20 [(tm 107), (.const (.string ⟨#[32]⟩))]) (ev_cA (libTrimRight_ok (d - 1) (dpt hd rfl) z183 [32] z184 hz184)) (zL 1 5 (bindE hS (fun z185 hz185 hS => zO (v := (.r (.msl 80 1 0 z185.length))) (ups := [(80, ⟨1, some (.own 9 1 (eStr.cells z185))⟩)]) (some 110) 6 (.app 9 1 16 (tm 105) (tm 109)) (ev_app eStr (b := 80) (g := 0) (n := p729.length) (xs := p729) (ys := [z184]) ((congrArg (asL _) (by kernel_rfl : ρof _ (.tmp 109) = (.r (.msl 880 1 0 (([z184] : List S8).length))))).trans (as_whole eStr (e := 9) (k := 1) (xs := [z184]) (by kernel_rfl) rfl rfl)) rfl (by kernel_rfl) rfl (by kernel_rfl) rfl hz185) (zL 1 7 (zE ?_))))))))
 refine zkBlk (zkSeq (zrReg (zL 2 2 (zK ?_))))
 refine zrLoop1 (zS (zL 1 1 (zK (zrSeq (zF ?_)))))
 exact zrExit (zkSeqX (zkSeqX (zkBlkX (zkSeq (f5_j4_ok hd a1 hQ z185 hS (by kernel_rfl))))))
def f5_j14_J (a1 : List S8) (p726 : GClient) (p727 : List S8) : St := ⟨(up (up (up (up u0 92 (dI 2)) 9 (.r (.msl 80 0 0 p727.length))) 3 (pt 32)) 0 (dE eStr a1)), (up (up h0 80 ⟨0, some (.own 9 1 (eStr.cells p727))⟩) 32 (q13_ p726))⟩
def f5_j14 (a1 : List S8) (p726 : GClient) (p727 : List S8) : Option (Bool) := ((f19 p726.Screen.Grid 2).bind fun z182 => (f5_j15 a1 p726 p727 z182))
theorem f5_j14_ok (hd : 16 ≤ d) (a1 : List S8) {r : Bool} (hQ : FQ (f5_Q r) Q) (p726 : GClient) (p727 : List S8) (hS : f5_j14 a1 p726 p727 = some r) (he : keepSt [0, 3, 9, 92] [(32, .id 32), (80, .id 80)] [] st = f5_j14_J a1 p726 p727) : ZX d Q c5_10 [.seq c5_9, .blk 6, .seq c5_6] st := by
 refine zrKeep he ?_
 unfold f5_j14 at hS
 refine zrSeq (zrBlk (zS (zL 2 2 (zK (zS (zL 4 4 ?_))))))
 refine bindE hS (fun z182 hz182 hS => zO (some 100) 5 (.call 19 [(tm 98), (tm 99)]) (ev_cA (f19_ok (d - 1) (dpt hd rfl) p726.Screen.Grid 2 z182 hz182)) (zL 5 10 (zK (zrSeq (zS (zL 2 2 (zK (zF ?_))))))))
 exact zrSkip (zkSeq (f5_j15_ok hd a1 hQ p726 p727 z182 hS (by kernel_rfl)))
def f5_j13_J (a1 : List S8) (p723 : GClient) (p724 : List S8) (p725 : List Int) : St := ⟨(up (up (up (up (up u0 92 (dI 1)) 13 (.r (.msl 808 0 0 p725.length))) 9 (.r (.msl 80 0 0 p724.length))) 3 (pt 32)) 0 (dE eStr a1)), (up (up (up h0 808 ⟨0, some (.own 3 1 (eI.cells p725))⟩) 80 ⟨0, some (.own 9 1 (eStr.cells p724))⟩) 32 (q13_ p723))⟩
def f5_j13 (a1 : List S8) (p723 : GClient) (p724 : List S8) (p725 : List Int) : Option (Bool) := ((f21 p725).bind fun z175 => ((libTrimRight z175 [32]).bind fun z176 => ((app? 16 p724 ([z176] : List S8)).bind fun z177 => (f5_j14 a1 p723 z177))))
theorem f5_j13_ok (hd : 16 ≤ d) (a1 : List S8) {r : Bool} (hQ : FQ (f5_Q r) Q) (p723 : GClient) (p724 : List S8) (p725 : List Int) (hS : f5_j13 a1 p723 p724 p725 = some r) (he : keepSt [0, 3, 9, 13, 92] [(32, .id 32), (80, .id 80), (808, .id 808)] [] st = f5_j13_J a1 p723 p724 p725) : ZX d Q c5_7 [.blk 7, .seq c5_8, .seq c5_9, .blk 6, .seq c5_6] st := by
 refine zrKeep he ?_
 unfold f5_j13 at hS
 refine zrReg (zL 2 2 ?_)
 refine bindE hS (fun z175 hz175 hS => zO (some 107) 3 (c1 21 106) (ev_callB (args := [(.r (.msl 808 0 0 p725.length))]) (by kernel_rfl) (l_cons (l_own eI (e := 3) (k := 1) (xs := p725) (by kernel_rfl) rfl rfl) l_nil) (f21_ok (d - 1) (dpt hd rfl) p725 z175 hz175) (by kernel_rfl) (by kernel_rfl)) (bindE hS (fun z176 hz176 hS => zO (some 108) 4 (.call 20 [(tm 107), (.const (.string ⟨#[32]⟩))]) (ev_cA (libTrimRight_ok (d - 1) (dpt hd rfl) z175 [32] z176 hz176)) (zL 1 5 (bindE hS (fun z177 hz177 hS => zO (v := (.r (.msl 80 1 0 z177.length))) (ups := [(80, ⟨1, some (.own 9 1 (eStr.cells z177))⟩)]) (some 110) 6 (.app 9 1 16 (tm 105) (tm 109)) (ev_app eStr (b := 80) (g := 0) (n := p724.length) (xs := p724) (ys := [z176]) ((congrArg (asL _) (by kernel_rfl : ρof _ (.tmp 109) = (.r (.msl 880 1 0 (([z176] : List S8).length))))).trans (as_whole eStr (e := 9) (k := 1) (xs := [z176]) (by kernel_rfl) rfl rfl)) rfl (by kernel_rfl) rfl (by kernel_rfl) rfl hz177) (zL 1 7 (zE ?_))))))))
 refine zkBlk (zkSeq (zrReg (zL 2 2 (zK ?_))))
 refine zrLoop1 (zS (zL 1 1 (zK (zrSeq (zT ?_)))))
 exact zrSkip (zkSeq (f5_j14_ok hd a1 hQ p723 z177 hS (by kernel_rfl)))
def f5_j12_J (a1 : List S8) (p721 : GClient) (p722 : List S8) : St := ⟨(up (up (up (up u0 92 (dI 1)) 9 (.r (.msl 80 0 0 p722.length))) 3 (pt 32)) 0 (dE eStr a1)), (up (up h0 80 ⟨0, some (.own 9 1 (eStr.cells p722))⟩) 32 (q13_ p721))⟩
def f5_j12 (a1 : List S8) (p721 : GClient) (p722 : List S8) : Option (Bool) := ((f19 p721.Screen.Grid 1).bind fun z174 => (f5_j13 a1 p721 p722 z174))
theorem f5_j12_ok (hd : 16 ≤ d) (a1 : List S8) {r : Bool} (hQ : FQ (f5_Q r) Q) (p721 : GClient) (p722 : List S8) (hS : f5_j12 a1 p721 p722 = some r) (he : keepSt [0, 3, 9, 92] [(32, .id 32), (80, .id 80)] [] st = f5_j12_J a1 p721 p722) : ZX d Q c5_10 [.seq c5_9, .blk 6, .seq c5_6] st := by
 refine zrKeep he ?_
 unfold f5_j12 at hS
 refine zrSeq (zrBlk (zS (zL 2 2 (zK (zS (zL 4 4 ?_))))))
 refine bindE hS (fun z174 hz174 hS => zO (some 100) 5 (.call 19 [(tm 98), (tm 99)]) (ev_cA (f19_ok (d - 1) (dpt hd rfl) p721.Screen.Grid 1 z174 hz174)) (zL 5 10 (zK (zrSeq (zS (zL 2 2 (zK (zF ?_))))))))
 exact zrSkip (zkSeq (f5_j13_ok hd a1 hQ p721 p722 z174 hS (by kernel_rfl)))
def f5_j11_J (a1 : List S8) (p718 : GClient) (p719 : List S8) (p720 : List Int) : St := ⟨(up (up (up (up (up u0 92 (dI 0)) 13 (.r (.msl 808 0 0 p720.length))) 9 (.r (.msl 80 0 0 p719.length))) 3 (pt 32)) 0 (dE eStr a1)), (up (up (up h0 808 ⟨0, some (.own 3 1 (eI.cells p720))⟩) 80 ⟨0, some (.own 9 1 (eStr.cells p719))⟩) 32 (q13_ p718))⟩
def f5_j11 (a1 : List S8) (p718 : GClient) (p719 : List S8) (p720 : List Int) : Option (Bool) := ((f21 p720).bind fun z163 => ((libTrimRight z163 [32]).bind fun z164 => ((app? 16 p719 ([z164] : List S8)).bind fun z165 => (f5_j12 a1 p718 z165))))
theorem f5_j11_ok (hd : 16 ≤ d) (a1 : List S8) {r : Bool} (hQ : FQ (f5_Q r) Q) (p718 : GClient) (p719 : List S8) (p720 : List Int) (hS : f5_j11 a1 p718 p719 p720 = some r) (he : keepSt [0, 3, 9, 13, 92] [(32, .id 32), (80, .id 80), (808, .id 808)] [] st = f5_j11_J a1 p718 p719 p720) : ZX d Q c5_7 [.blk 7, .seq c5_8, .seq c5_9, .blk 6, .seq c5_6] st := by
 refine zrKeep he ?_
 unfold f5_j11 at hS
 refine zrReg (zL 2 2 ?_)
 refine bindE hS (fun z163 hz163 hS => zO (some 107) 3 (c1 21 106) (ev_callB (args := [(.r (.msl 808 0 0 p720.length))]) (by kernel_rfl) (l_cons (l_own eI (e := 3) (k := 1) (xs := p720) (by kernel_rfl) rfl rfl) l_nil) (f21_ok (d - 1) (dpt hd rfl) p720 z163 hz163) (by kernel_rfl) (by kernel_rfl)) (bindE hS (fun z164 hz164 hS => zO (some 108) 4 (.call 20 [(tm 107), (.const (.string ⟨#[32]⟩))]) (ev_cA (libTrimRight_ok (d - 1) (dpt hd rfl) z163 [32] z164 hz164)) (zL 1 5 (bindE hS (fun z165 hz165 hS => zO (v := (.r (.msl 80 1 0 z165.length))) (ups := [(80, ⟨1, some (.own 9 1 (eStr.cells z165))⟩)]) (some 110) 6 (.app 9 1 16 (tm 105) (tm 109)) (ev_app eStr (b := 80) (g := 0) (n := p719.length) (xs := p719) (ys := [z164]) ((congrArg (asL _) (by kernel_rfl : ρof _ (.tmp 109) = (.r (.msl 880 1 0 (([z164] : List S8).length))))).trans (as_whole eStr (e := 9) (k := 1) (xs := [z164]) (by kernel_rfl) rfl rfl)) rfl (by kernel_rfl) rfl (by kernel_rfl) rfl hz165) (zL 1 7 (zE ?_))))))))
 refine zkBlk (zkSeq (zrReg (zL 2 2 (zK ?_))))
 refine zrLoop1 (zS (zL 1 1 (zK (zrSeq (zT ?_)))))
 exact zrSkip (zkSeq (f5_j12_ok hd a1 hQ p718 z165 hS (by kernel_rfl)))
def f5_j10_J (a1 : List S8) (p716 : GClient) (p717 : List S8) : St := ⟨(up (up (up (up u0 92 (dI 0)) 9 (.r (.msl 80 0 0 p717.length))) 3 (pt 32)) 0 (dE eStr a1)), (up (up h0 80 ⟨0, some (.own 9 1 (eStr.cells p717))⟩) 32 (q13_ p716))⟩
def f5_j10 (a1 : List S8) (p716 : GClient) (p717 : List S8) : Option (Bool) := ((f19 p716.Screen.Grid 0).bind fun z162 => (f5_j11 a1 p716 p717 z162))
theorem f5_j10_ok (hd : 16 ≤ d) (a1 : List S8) {r : Bool} (hQ : FQ (f5_Q r) Q) (p716 : GClient) (p717 : List S8) (hS : f5_j10 a1 p716 p717 = some r) (he : keepSt [0, 3, 9, 92] [(32, .id 32), (80, .id 80)] [] st = f5_j10_J a1 p716 p717) : ZX d Q c5_10 [.seq c5_9, .blk 6, .seq c5_6] st := by
 refine zrKeep he ?_
 unfold f5_j10 at hS
 refine zrSeq (zrBlk (zS (zL 2 2 (zK (zS (zL 4 4 ?_))))))
 refine bindE hS (fun z162 hz162 hS => zO (some 100) 5 (.call 19 [(tm 98), (tm 99)]) (ev_cA (f19_ok (d - 1) (dpt hd rfl) p716.Screen.Grid 0 z162 hz162)) (zL 5 10 (zK (zrSeq (zS (zL 2 2 (zK (zF ?_))))))))
 exact zrSkip (zkSeq (f5_j11_ok hd a1 hQ p716 p717 z162 hS (by kernel_rfl)))
def f5_j3_J (a1 : List S8) (p659 : GClient) (p660 : List S8) : St := ⟨(up (up (up u0 9 (.r (.msl 80 0 0 p660.length))) 3 (pt 32)) 0 (dE eStr a1)), (up (up h0 80 ⟨0, some (.own 9 1 (eStr.cells p660))⟩) 32 (q13_ p659))⟩
def f5_j3 (a1 : List S8) (p659 : GClient) (p660 : List S8) : Option (Bool) := (f5_j10 a1 p659 p660)
theorem f5_j3_ok (hd : 16 ≤ d) (a1 : List S8) {r : Bool} (hQ : FQ (f5_Q r) Q) (p659 : GClient) (p660 : List S8) (hS : f5_j3 a1 p659 p660 = some r) (he : keepSt [0, 3, 9] [(32, .id 32), (80, .id 80)] [] st = f5_j3_J a1 p659 p660) : ZX d Q c5_11 [] st := by
 refine zrKeep he ?_
 unfold f5_j3 at hS
 refine zrSeq (zS (zL 1 1 (zK ?_)))
 refine zrBlk (zrLoop1 (zS (zL 1 1 (zK (zrSeq (zT ?_))))))
 exact zrSkip (zkSeq (f5_j10_ok hd a1 hQ p659 p660 hS (by kernel_rfl)))
def f5_l16_J (a1 : List S8) (x : GClient × (List S8) × (List GLine) × Int × Int) : St := ⟨(up (up (up (up (up (up u0 81 (dI x.2.2.2.2)) 80 (dI x.2.2.2.1)) 79 (dE e_GLine x.2.2.1)) 9 (.r (.msl 80 0 0 x.2.1.length))) 3 (pt 32)) 0 (dE eStr a1)), (up (up h0 80 ⟨0, some (.own 9 1 (eStr.cells x.2.1))⟩) 32 (q13_ x.1))⟩
def f5_l16_H (a1 : List S8) (x : GClient × (List S8) × (List GLine) × Int × Int) (st : St) : Prop := keepSt [0, 3, 9, 79, 80, 81] [(32, .id 32), (80, .id 80)] [] st = f5_l16_J a1 x
def f5_l16_e4_J (a1 : List S8) (p657 : GClient) (p658 : List S8) : St := ⟨(up (up (up u0 9 (.r (.msl 80 0 0 p658.length))) 3 (pt 32)) 0 (dE eStr a1)), (up (up h0 80 ⟨0, some (.own 9 1 (eStr.cells p658))⟩) 32 (q13_ p657))⟩
def f5_l16_X (a1 : List S8) (z : (GClient × (List S8))) (e : PX) (st : St) : Prop := e = .exit 4 ∧ st = f5_l16_e4_J a1 z.1 z.2
def f5_l16_j18_J (a1 : List S8) (p743 : GClient) (p744 : List S8) (p745 : List GLine) (p746 : Int) (p747 : Int) : St := ⟨(up (up (up (up (up (up u0 81 (dI p747)) 80 (dI p746)) 79 (dE e_GLine p745)) 9 (.r (.msl 80 0 0 p744.length))) 3 (pt 32)) 0 (dE eStr a1)), (up (up h0 80 ⟨0, some (.own 9 1 (eStr.cells p744))⟩) 32 (q13_ p743))⟩
def f5_l16_j18 (a1 : List S8) (p743 : GClient) (p744 : List S8) (p745 : List GLine) (p746 : Int) (p747 : Int) : Option ((GClient × (List S8) × (List GLine) × Int × Int) ⊕ ((GClient × (List S8)))) := ((idx p745 p747).bind fun z186 => ((f18 z186.Cells).bind fun z187 => ((app? 16 p744 ([z187] : List S8)).bind fun z188 => (some (.inl (p743, z188, p745, p746, (IntKind.i64.wrap (p747 + 1))))))))
theorem f5_l16_j18_ok (hd : 16 ≤ d) (a1 : List S8) {r : (GClient × (List S8) × (List GLine) × Int × Int) ⊕ ((GClient × (List S8)))} (hQ : FQ (finL (f5_l16_H a1) (f5_l16_X a1) r) Q) (p743 : GClient) (p744 : List S8) (p745 : List GLine) (p746 : Int) (p747 : Int) (hS : f5_l16_j18 a1 p743 p744 p745 p746 p747 = some r) (he : keepSt [0, 3, 9, 79, 80, 81] [(32, .id 32), (80, .id 80)] [] st = f5_l16_j18_J a1 p743 p744 p745 p746 p747) : ZX d Q c5_12 [] st := by
 refine zrKeep he ?_
 unfold f5_l16_j18 at hS
 refine zrSeq (zrBlk (zS ?_))
 refine bindE hS (fun z186 hz186 hS => zO (v := (.rptr (e_GLine.enc z186 ++ (e_GLine.cells (p745.drop ((p747 : Int).toNat + 1)))))) (ups := []) (some 83) 1 (.ixS 91 1 (tm 79) (tm 81)) (ev_ixS e_GLine (kk := .i64) (xs := p745) (j := p747) (by kernel_rfl) (by kernel_rfl) hz186 rfl (by intro h; cases h)) (zL 3 4 (zK (zrReg (zL 3 3 ?_)))))
 refine bindE hS (fun z187 hz187 hS => zO (some 88) 4 (c1 18 87) (ev_cA (f18_ok (d - 1) (dpt hd rfl) z186.Cells z187 hz187)) (zL 1 5 (bindE hS (fun z188 hz188 hS => zO (v := (.r (.msl 80 1 0 z188.length))) (ups := [(80, ⟨1, some (.own 9 1 (eStr.cells z188))⟩)]) (some 90) 6 (.app 9 1 16 (tm 85) (tm 89)) (ev_app eStr (b := 80) (g := 0) (n := p744.length) (xs := p744) (ys := [z187]) ((congrArg (asL _) (by kernel_rfl : ρof _ (.tmp 89) = (.r (.msl 720 1 0 (([z187] : List S8).length))))).trans (as_whole eStr (e := 9) (k := 1) (xs := [z187]) (by kernel_rfl) rfl rfl)) rfl (by kernel_rfl) rfl (by kernel_rfl) rfl hz188) (zL 1 7 (zE ?_))))))
 refine zkBlk (zkSeq (zrReg (zL 2 2 (zE ?_))))
 exact zkNil (eN1 hS hQ)
def f5_l16_j17_J (a1 : List S8) (p737 : GClient) (p738 : List S8) (p739 : List GLine) (p740 : Int) (p741 : Int) (p742 : Bool) : St := ⟨(up (up (up (up (up (up (up u0 82 (dB p742)) 81 (dI p741)) 80 (dI p740)) 79 (dE e_GLine p739)) 9 (.r (.msl 80 0 0 p738.length))) 3 (pt 32)) 0 (dE eStr a1)), (up (up h0 80 ⟨0, some (.own 9 1 (eStr.cells p738))⟩) 32 (q13_ p737))⟩
def f5_l16_j17 (a1 : List S8) (p737 : GClient) (p738 : List S8) (p739 : List GLine) (p740 : Int) (p741 : Int) (p742 : Bool) : Option ((GClient × (List S8) × (List GLine) × Int × Int) ⊕ ((GClient × (List S8)))) := (bif p742 then (f5_l16_j18 a1 p737 p738 p739 p740 p741) else (some (.inr (p737, p738))))
theorem f5_l16_j17_ok (hd : 16 ≤ d) (a1 : List S8) {r : (GClient × (List S8) × (List GLine) × Int × Int) ⊕ ((GClient × (List S8)))} (hQ : FQ (finL (f5_l16_H a1) (f5_l16_X a1) r) Q) (p737 : GClient) (p738 : List S8) (p739 : List GLine) (p740 : Int) (p741 : Int) (p742 : Bool) (hS : f5_l16_j17 a1 p737 p738 p739 p740 p741 p742 = some r) (he : keepSt [0, 3, 9, 79, 80, 81, 82] [(32, .id 32), (80, .id 80)] [] st = f5_l16_j17_J a1 p737 p738 p739 p740 p741 p742) : ZX d Q c5_13 [] st := by
 refine zrKeep he ?_
 unfold f5_l16_j17 at hS
 refine zrSeq (sR 82 hS (fun hS => ?_) (fun hS => ?_))
 ·exact zT (zrSkip (zkSeq (f5_l16_j18_ok hd a1 hQ p737 p738 p739 p740 p741 hS (by kernel_rfl))))
 ·exact zF (zrKeep (J := f5_l16_e4_J a1 p737 p738) (by kernel_rfl) (zrExit (zkSeqX (zkNil (eX0 hS hQ)))))
def f5_l16 (a1 : List S8) (x : GClient × (List S8) × (List GLine) × Int × Int) : Option ((GClient × (List S8) × (List GLine) × Int × Int) ⊕ ((GClient × (List S8)))) := (bif (decide (x.2.2.2.2 < x.2.2.2.1)) then (f5_l16_j17 a1 x.1 x.2.1 x.2.2.1 x.2.2.2.1 x.2.2.2.2 true) else (f5_l16_j17 a1 x.1 x.2.1 x.2.2.1 x.2.2.2.1 x.2.2.2.2 false))
theorem f5_l16_ok (hd : 16 ≤ d) (a1 : List S8) {r : (GClient × (List S8) × (List GLine) × Int × Int) ⊕ ((GClient × (List S8)))} (hQ : FQ (finL (f5_l16_H a1) (f5_l16_X a1) r) Q) {x : GClient × (List S8) × (List GLine) × Int × Int} (hS : f5_l16 a1 x = some r) (he : f5_l16_H a1 x st) : ZX d Q c5_14 [] st := by
 refine zrKeep he ?_
 unfold f5_l16 at hS
 refine zS ?_
 refine sB 82 1 (.cmpI .lss (tm 81) (tm 80)) hS (fun hS => ?_) (fun hS => ?_)
 ·refine zK ?_
  exact f5_l16_j17_ok hd a1 hQ x.1 x.2.1 x.2.2.1 x.2.2.2.1 x.2.2.2.2 true hS (by kernel_rfl)
 ·refine zK ?_
  exact f5_l16_j17_ok hd a1 hQ x.1 x.2.1 x.2.2.1 x.2.2.2.1 x.2.2.2.2 false hS (by kernel_rfl)
def f5_j2_J (a1 : List S8) (p627 : GClient) : St := ⟨(up (up u0 3 (pt 32)) 0 (dE eStr a1)), (up h0 32 (q13_ p627))⟩
def f5_j2 (a1 : List S8) (p627 : GClient) : Option (Bool) := ((loopO (f5_l16 a1) (p627, [], p627.Screen.Past, (p627.Screen.Past.length : Int), 0)).bind fun z189 => (f5_j3 a1 z189.1 z189.2))
theorem f5_j2_ok (hd : 16 ≤ d) (a1 : List S8) {r : Bool} (hQ : FQ (f5_Q r) Q) (p627 : GClient) (hS : f5_j2 a1 p627 = some r) (he : keepSt [0, 3] [(32, .id 32)] [] st = f5_j2_J a1 p627) : ZX d Q c5_15 [] st := by
 refine zrKeep he ?_
 unfold f5_j2 at hS
 refine zS (zL 1 1 (zK (zrSeq (zS (zL 5 5 (zK ?_))))))
 refine zrBlk (bindE hS (fun z189 hz189 hS => zrLoop (f5_l16_H a1) (f5_l16_X a1) (fun x st r Q h0 hS hQ => f5_l16_ok hd a1 hQ hS h0) (x := (p627, [], p627.Screen.Past, (p627.Screen.Past.length : Int), 0)) (z := z189) (by show keepSt _ _ _ _ = _; kernel_rfl) hz189 ?_))
 intro e st' _ hX
 obtain ⟨rfl, rfl⟩ : _ ∧ _ := hX
 exact zkBlkX (zkSeq (f5_j3_ok hd a1 hQ z189.1 z189.2 hS (by kernel_rfl)))
def f5_j1_J (a1 : List S8) (p625 : GClient) (p626 : S8) : St := ⟨(up (up (up u0 5 (.d (.str p626))) 3 (pt 32)) 0 (dE eStr a1)), (q7_ p625)⟩
def f5_j1 (a1 : List S8) (p625 : GClient) (p626 : S8) : Option (Bool) := ((f17 p626).bind fun z108 => ((f13 ({ p625 with Screen := { p625.Screen with Past := [] } }) z108).bind fun z109 => (f5_j2 a1 z109.1)))
theorem f5_j1_ok (hd : 16 ≤ d) (a1 : List S8) {r : Bool} (hQ : FQ (f5_Q r) Q) (p625 : GClient) (p626 : S8) (hS : f5_j1 a1 p625 p626 = some r) (he : keepSt [0, 3, 5] [(32, .id 32), (168, .id 168), (169, .id 169), (170, .id 170), (171, .id 171)] [] st = f5_j1_J a1 p625 p626) : ZX d Q c5_16 [] st := by
 refine zrKeep he ?_
 unfold f5_j1 at hS
 refine zrSeq (zrRegD (zdR 2 2 (bindE hS (fun z108 hz108 hS => zdO (some 70) 3 none (c1 17 69) (ev_cA (f17_ok (d - 1) (dpt hd rfl) p626 z108 hz108)) (bindE hS (fun z109 hz109 hS => zdO (v := (.tup [(q1_ z109.1), (.d (.str z109.2)), (dI 0)])) (ups := [(168, ⟨1, none⟩), (169, ⟨1, none⟩), (170, ⟨1, none⟩), (171, ⟨1, none⟩)]) (some 71) 4 none (.callf 13 [(tm 68), (tm 70)]) (ev_callF (args := [(.agg ((dI p625.Wire.Mode) :: ((dI p625.Wire.Cmd) :: ((dI p625.Wire.Opt) :: ((.d (.str p625.Wire.Buf)) :: ((dB p625.Wire.Over) :: ((dB p625.Cr) :: ((.d (.str p625.Part)) :: ((dI p625.Psr.State) :: ((dI p625.Psr.Mark) :: ((.d (.str p625.Psr.Inter)) :: ((.d (.str p625.Psr.Args)) :: ((.d (.str p625.Psr.Text)) :: ((dI p625.Screen.Grid.Wide) :: ((dI p625.Screen.Grid.High) :: ((.r (.msl 168 0 0 p625.Screen.Grid.Cells.length)) :: ((dI p625.Screen.Row) :: ((dI p625.Screen.Col) :: ((dB p625.Screen.Late) :: ((dI p625.Screen.Top) :: ((dI p625.Screen.Bottom) :: ((dI p625.Screen.Pen.Flags) :: ((dI p625.Screen.Pen.Fore) :: ((dI p625.Screen.Pen.Back) :: ((dI p625.Screen.Modes) :: (((eInt .u64).row 4 p625.Screen.Stops.Bits) ++ ((dI p625.Screen.Pages.1) :: ((dI p625.Screen.Pages.2) :: ((dI p625.Screen.Shift) :: ((dI p625.Screen.Saved.Row) :: ((dI p625.Screen.Saved.Col) :: ((dI p625.Screen.Saved.Pen.Flags) :: ((dI p625.Screen.Saved.Pen.Fore) :: ((dI p625.Screen.Saved.Pen.Back) :: ((dB p625.Screen.Saved.Origin) :: ((dI p625.Screen.Saved.Pages.1) :: ((dI p625.Screen.Saved.Pages.2) :: ((dI p625.Screen.Saved.Shift) :: ((dI p625.Screen.Other.Wide) :: ((dI p625.Screen.Other.High) :: ((.r (.msl 169 0 0 p625.Screen.Other.Cells.length)) :: ((.d (.str p625.Screen.Title)) :: (.nil :: ((eU8.row 256 p625.Neg.Us) ++ ((eU8.row 256 p625.Neg.Him) ++ (((eInt .u64).row 4 p625.Neg.UsOk) ++ (((eInt .u64).row 4 p625.Neg.HimOk) ++ ((.r (.msl 170 0 0 p625.Sorts.Names.length)) :: ((dI p625.Sorts.At) :: ((.r (.msl 171 0 0 p625.Vars.length)) :: ((eU8.row 19 p625.Keys.Levels) ++ ((eU8.row 19 p625.Keys.Chars) ++ (((eInt .u64).row 4 p625.Mask.Bits) ++ ((.d (.str p625.Editor.Buf)) :: ((dB p625.Editor.Quote) :: ((dB p625.Edit) :: [])))))))))))))))))))))))))))))))))))))))))))))))))))))))), (q12_ z108)]) (args' := [(.agg ((dI p625.Wire.Mode) :: ((dI p625.Wire.Cmd) :: ((dI p625.Wire.Opt) :: ((.d (.str p625.Wire.Buf)) :: ((dB p625.Wire.Over) :: ((dB p625.Cr) :: ((.d (.str p625.Part)) :: ((dI p625.Psr.State) :: ((dI p625.Psr.Mark) :: ((.d (.str p625.Psr.Inter)) :: ((.d (.str p625.Psr.Args)) :: ((.d (.str p625.Psr.Text)) :: ((dI p625.Screen.Grid.Wide) :: ((dI p625.Screen.Grid.High) :: ((gd0_GScreen p625.Screen) :: ((dI p625.Screen.Row) :: ((dI p625.Screen.Col) :: ((dB p625.Screen.Late) :: ((dI p625.Screen.Top) :: ((dI p625.Screen.Bottom) :: ((dI p625.Screen.Pen.Flags) :: ((dI p625.Screen.Pen.Fore) :: ((dI p625.Screen.Pen.Back) :: ((dI p625.Screen.Modes) :: (((eInt .u64).row 4 p625.Screen.Stops.Bits) ++ ((dI p625.Screen.Pages.1) :: ((dI p625.Screen.Pages.2) :: ((dI p625.Screen.Shift) :: ((dI p625.Screen.Saved.Row) :: ((dI p625.Screen.Saved.Col) :: ((dI p625.Screen.Saved.Pen.Flags) :: ((dI p625.Screen.Saved.Pen.Fore) :: ((dI p625.Screen.Saved.Pen.Back) :: ((dB p625.Screen.Saved.Origin) :: ((dI p625.Screen.Saved.Pages.1) :: ((dI p625.Screen.Saved.Pages.2) :: ((dI p625.Screen.Saved.Shift) :: ((dI p625.Screen.Other.Wide) :: ((dI p625.Screen.Other.High) :: ((gd1_GScreen p625.Screen) :: ((.d (.str p625.Screen.Title)) :: (.nil :: ((eU8.row 256 p625.Neg.Us) ++ ((eU8.row 256 p625.Neg.Him) ++ (((eInt .u64).row 4 p625.Neg.UsOk) ++ (((eInt .u64).row 4 p625.Neg.HimOk) ++ ((dE eStr p625.Sorts.Names) :: ((dI p625.Sorts.At) :: ((dE e_GVar p625.Vars) :: ((eU8.row 19 p625.Keys.Levels) ++ ((eU8.row 19 p625.Keys.Chars) ++ (((eInt .u64).row 4 p625.Mask.Bits) ++ ((.d (.str p625.Editor.Buf)) :: ((dB p625.Editor.Quote) :: ((dB p625.Edit) :: [])))))))))))))))))))))))))))))))))))))))))))))))))))))))), (q12_ z108)]) (l := [(.agg ((dI p625.Wire.Mode) :: ((dI p625.Wire.Cmd) :: ((dI p625.Wire.Opt) :: ((.d (.str p625.Wire.Buf)) :: ((dB p625.Wire.Over) :: ((dB p625.Cr) :: ((.d (.str p625.Part)) :: ((dI p625.Psr.State) :: ((dI p625.Psr.Mark) :: ((.d (.str p625.Psr.Inter)) :: ((.d (.str p625.Psr.Args)) :: ((.d (.str p625.Psr.Text)) :: ((dI p625.Screen.Grid.Wide) :: ((dI p625.Screen.Grid.High) :: ((gd0_GScreen p625.Screen) :: ((dI p625.Screen.Row) :: ((dI p625.Screen.Col) :: ((dB p625.Screen.Late) :: ((dI p625.Screen.Top) :: ((dI p625.Screen.Bottom) :: ((dI p625.Screen.Pen.Flags) :: ((dI p625.Screen.Pen.Fore) :: ((dI p625.Screen.Pen.Back) :: ((dI p625.Screen.Modes) :: (((eInt .u64).row 4 p625.Screen.Stops.Bits) ++ ((dI p625.Screen.Pages.1) :: ((dI p625.Screen.Pages.2) :: ((dI p625.Screen.Shift) :: ((dI p625.Screen.Saved.Row) :: ((dI p625.Screen.Saved.Col) :: ((dI p625.Screen.Saved.Pen.Flags) :: ((dI p625.Screen.Saved.Pen.Fore) :: ((dI p625.Screen.Saved.Pen.Back) :: ((dB p625.Screen.Saved.Origin) :: ((dI p625.Screen.Saved.Pages.1) :: ((dI p625.Screen.Saved.Pages.2) :: ((dI p625.Screen.Saved.Shift) :: ((dI p625.Screen.Other.Wide) :: ((dI p625.Screen.Other.High) :: ((gd1_GScreen p625.Screen) :: ((.d (.str p625.Screen.Title)) :: ((.d (.sl ([] : List GLine).length (e_GLine.cells ([])))) :: ((eU8.row 256 p625.Neg.Us) ++ ((eU8.row 256 p625.Neg.Him) ++ (((eInt .u64).row 4 p625.Neg.UsOk) ++ (((eInt .u64).row 4 p625.Neg.HimOk) ++ ((dE eStr p625.Sorts.Names) :: ((dI p625.Sorts.At) :: ((dE e_GVar p625.Vars) :: ((eU8.row 19 p625.Keys.Levels) ++ ((eU8.row 19 p625.Keys.Chars) ++ (((eInt .u64).row 4 p625.Mask.Bits) ++ ((.d (.str p625.Editor.Buf)) :: ((dB p625.Editor.Quote) :: ((dB p625.Edit) :: [])))))))))))))))))))))))))))))))))))))))))))))))))))))))), (q12_ z108)]) (refs := [168, 169, 170, 171]) (r := (.tup [(q1_ z109.1), (.d (.str z109.2)), (dI 0)])) (v := (.tup [(q1_ z109.1), (.d (.str z109.2)), (dI 0)])) (ups' := []) (by kernel_rfl) (by kernel_rfl) (by kernel_rfl) (fz_cons (fz_agg (fz_cons (by kernel_rfl) (fz_cons (by kernel_rfl) (fz_cons (by kernel_rfl) (fz_cons (by kernel_rfl) (fz_cons (by kernel_rfl) (fz_cons (by kernel_rfl) (fz_cons (by kernel_rfl) (fz_cons (by kernel_rfl) (fz_cons (by kernel_rfl) (fz_cons (by kernel_rfl) (fz_cons (by kernel_rfl) (fz_cons (by kernel_rfl) (fz_cons (by kernel_rfl) (fz_cons (by kernel_rfl) (fz_cons (fz_own e_GCell (e := 100) (k := 4) (xs := p625.Screen.Grid.Cells) (by kernel_rfl) (by kernel_rfl) rfl rfl) (fz_cons (by kernel_rfl) (fz_cons (by kernel_rfl) (fz_cons (by kernel_rfl) (fz_cons (by kernel_rfl) (fz_cons (by kernel_rfl) (fz_cons (by kernel_rfl) (fz_cons (by kernel_rfl) (fz_cons (by kernel_rfl) (fz_cons (by kernel_rfl) (fz_app (fz_row (eInt .u64)) (fz_cons (by kernel_rfl) (fz_cons (by kernel_rfl) (fz_cons (by kernel_rfl) (fz_cons (by kernel_rfl) (fz_cons (by kernel_rfl) (fz_cons (by kernel_rfl) (fz_cons (by kernel_rfl) (fz_cons (by kernel_rfl) (fz_cons (by kernel_rfl) (fz_cons (by kernel_rfl) (fz_cons (by kernel_rfl) (fz_cons (by kernel_rfl) (fz_cons (by kernel_rfl) (fz_cons (by kernel_rfl) (fz_cons (fz_own e_GCell (e := 100) (k := 4) (xs := p625.Screen.Other.Cells) (by kernel_rfl) (by kernel_rfl) rfl rfl) (fz_cons (by kernel_rfl) (fz_cons (by kernel_rfl) (fz_app (fz_row eU8) (fz_app (fz_row eU8) (fz_app (fz_row (eInt .u64)) (fz_app (fz_row (eInt .u64)) (fz_cons (fz_own eStr (e := 9) (k := 1) (xs := p625.Sorts.Names) (by kernel_rfl) (by kernel_rfl) rfl rfl) (fz_cons (by kernel_rfl) (fz_cons (fz_own e_GVar (e := 107) (k := 4) (xs := p625.Vars) (by kernel_rfl) (by kernel_rfl) rfl rfl) (fz_app (fz_row eU8) (fz_app (fz_row eU8) (fz_app (fz_row (eInt .u64)) (fz_cons (by kernel_rfl) (fz_cons (by kernel_rfl) (fz_cons (by kernel_rfl) fz_nil)))))))))))))))))))))))))))))))))))))))))))))))))))))))) (fz_cons rfl fz_nil)) (by kernel_rfl) (f13_ok (d - 1) (dpt hd rfl) ({ p625 with Screen := { p625.Screen with Past := [] } }) z108 z109 hz109) (by kernel_rfl) (by kernel_rfl) (by kernel_rfl) (by kernel_rfl)) (zdR 6 10 (zdE (zkSeq (zrSeq (zS (zL 2 2 (zK (zF ?_))))))))))))))
 exact zrSkip (zkSeq (f5_j2_ok hd a1 hQ z109.1 hS (by kernel_rfl)))
def f5_l19_J (a1 : List S8) (x : GClient × S8 × Int) : St := ⟨(up (up (up (up (up (up u0 37 (dI x.2.2)) 36 (dI (a1.length : Int))) 35 (dE eStr a1)) 5 (.d (.str x.2.1))) 3 (pt 32)) 0 (dE eStr a1)), (q7_ x.1)⟩
def f5_l19_H (a1 : List S8) (x : GClient × S8 × Int) (st : St) : Prop := keepSt [0, 3, 5, 35, 36, 37] [(32, .id 32), (168, .id 168), (169, .id 169), (170, .id 170), (171, .id 171)] [] st = f5_l19_J a1 x
def f5_l19_e0_J (a1 : List S8) (p623 : GClient) (p624 : S8) : St := ⟨(up (up (up u0 5 (.d (.str p624))) 3 (pt 32)) 0 (dE eStr a1)), (q7_ p623)⟩
def f5_l19_X (a1 : List S8) (z : (GClient × S8) ⊕ Bool) (e : PX) (st : St) : Prop := (match z with | .inl z => e = .exit 0 ∧ st = f5_l19_e0_J a1 z.1 z.2 | .inr z => e = .ret ∧ finSt c5.fin st = f5_fin z)
def f5_l19_l22_J (a1 : List S8) (x : GClient × S8 × S8 × Int × Int × Int) : St := ⟨(up (up (up (up (up (up (up (up (up u0 43 (dI x.2.2.2.2.2)) 42 (dI x.2.2.2.2.1)) 37 (dI x.2.2.2.1)) 36 (dI (a1.length : Int))) 35 (dE eStr a1)) 7 (.d (.str x.2.2.1))) 5 (.d (.str x.2.1))) 3 (pt 32)) 0 (dE eStr a1)), (q7_ x.1)⟩
def f5_l19_l22_H (a1 : List S8) (x : GClient × S8 × S8 × Int × Int × Int) (st : St) : Prop := keepSt [0, 3, 5, 7, 35, 36, 37, 42, 43] [(32, .id 32), (168, .id 168), (169, .id 169), (170, .id 170), (171, .id 171)] [] st = f5_l19_l22_J a1 x
def f5_l19_l22_e2_J (a1 : List S8) (p850 : GClient) (p851 : S8) (p852 : S8) (p853 : Int) : St := ⟨(up (up (up (up (up (up (up u0 37 (dI p853)) 36 (dI (a1.length : Int))) 35 (dE eStr a1)) 7 (.d (.str p852))) 5 (.d (.str p851))) 3 (pt 32)) 0 (dE eStr a1)), (q7_ p850)⟩
def f5_l19_l22_X (a1 : List S8) (z : (GClient × S8 × S8 × Int) ⊕ Bool) (e : PX) (st : St) : Prop := (match z with | .inl z => e = .exit 2 ∧ st = f5_l19_l22_e2_J a1 z.1 z.2.1 z.2.2.1 z.2.2.2 | .inr z => e = .ret ∧ finSt c5.fin st = f5_fin z)
def f5_l19_l22_j24_J (a1 : List S8) (p868 : GClient) (p869 : S8) (p870 : S8) (p871 : Int) (p872 : Int) (p873 : Int) : St := ⟨(up (up (up (up (up (up (up (up (up u0 43 (dI p873)) 42 (dI p872)) 37 (dI p871)) 36 (dI (a1.length : Int))) 35 (dE eStr a1)) 7 (.d (.str p870))) 5 (.d (.str p869))) 3 (pt 32)) 0 (dE eStr a1)), (q7_ p868)⟩
def f5_l19_l22_j24 (a1 : List S8) (p868 : GClient) (p869 : S8) (p870 : S8) (p871 : Int) (p872 : Int) (p873 : Int) : Option ((GClient × S8 × S8 × Int × Int × Int) ⊕ ((GClient × S8 × S8 × Int) ⊕ Bool)) := ((idx p870 p873).bind fun z197 => (bif (decide ((z197.toNat : Int) < 32)) then (some (.inr (.inr true))) else ((idx p870 p873).bind fun z198 => (bif (decide (126 < (z198.toNat : Int))) then (some (.inr (.inr true))) else (bif (decide (7 < (p870.length : Int))) then (some (.inr (.inr true))) else (some (.inl ({ p868 with Screen := { p868.Screen with Past := [] } }, p869, p870, p871, p872, (IntKind.i64.wrap (p873 + 1))))))))))
theorem f5_l19_l22_j24_ok (hd : 16 ≤ d) (a1 : List S8) {r : (GClient × S8 × S8 × Int × Int × Int) ⊕ ((GClient × S8 × S8 × Int) ⊕ Bool)} (hQ : FQ (finL (f5_l19_l22_H a1) (f5_l19_l22_X a1) r) Q) (p868 : GClient) (p869 : S8) (p870 : S8) (p871 : Int) (p872 : Int) (p873 : Int) (hS : f5_l19_l22_j24 a1 p868 p869 p870 p871 p872 p873 = some r) (he : keepSt [0, 3, 5, 7, 35, 36, 37, 42, 43] [(32, .id 32), (168, .id 168), (169, .id 169), (170, .id 170), (171, .id 171)] [] st = f5_l19_l22_j24_J a1 p868 p869 p870 p871 p872 p873) : ZX d Q c5_17 [] st := by
 refine zrKeep he ?_
 unfold f5_l19_l22_j24 at hS
 refine zrSeq (zrBlk (zS (zL 2 2 (zK (zS (zL 2 2 ?_))))))
 refine bindE hS (fun z197 hz197 hS => zO (v := (.d (.int .u8 (z197.toNat : Int)))) (ups := []) (some 48) 3 (.ixStr (tm 46) (tm 47)) (ev_ixStr (kk := .i64) (s := p870) (j := p873) (by kernel_rfl) (by kernel_rfl) hz197) (sB 49 4 (.cmpI .lss (tm 48) (.const (.int .u8 32))) hS (fun hS => ?_) (fun hS => ?_)))
 ·refine zL 11 15 (zK (zT (zS (zL 1 1 (zK ?_)))))
  exact zrRet (zkBlkR (zkSeqR (zkNil (eX1 hS hQ))))
 ·refine zL 3 7 (bindE hS (fun z198 hz198 hS => zG (v := (.d (.int .u8 (z198.toNat : Int)))) (ups := []) (some 53) 8 50 false (.ixStr (tm 51) (tm 52)) (ev_ixStr (kk := .i64) (s := p870) (j := p873) (by kernel_rfl) (by kernel_rfl) hz198) (sH 54 9 50 false (.cmpI .gtr (tm 53) (.const (.int .u8 126))) hS (fun hS => ?_) (fun hS => ?_))))
  ·refine zL 6 15 (zK (zT (zS (zL 1 1 (zK ?_)))))
   exact zrRet (zkBlkR (zkSeqR (zkNil (eX1 hS hQ))))
  ·refine zL 4 13 (sH 59 14 56 false (.cmpI .gtr (tm 58) (ki 7)) hS (fun hS => ?_) (fun hS => ?_))
   ·refine zL 1 15 (zK (zT (zS (zL 1 1 (zK ?_)))))
    exact zrRet (zkBlkR (zkSeqR (zkNil (eX1 hS hQ))))
   ·refine zL 1 15 (zK (zF ?_))
    refine zrSkip (zkBlk (zkSeq (zrReg (zL 2 2 (zE ?_)))))
    exact zkNil (eN1 hS hQ)
def f5_l19_l22_j23_J (a1 : List S8) (p861 : GClient) (p862 : S8) (p863 : S8) (p864 : Int) (p865 : Int) (p866 : Int) (p867 : Bool) : St := ⟨(up (up (up (up (up (up (up (up (up (up u0 44 (dB p867)) 43 (dI p866)) 42 (dI p865)) 37 (dI p864)) 36 (dI (a1.length : Int))) 35 (dE eStr a1)) 7 (.d (.str p863))) 5 (.d (.str p862))) 3 (pt 32)) 0 (dE eStr a1)), (q7_ p861)⟩
def f5_l19_l22_j23 (a1 : List S8) (p861 : GClient) (p862 : S8) (p863 : S8) (p864 : Int) (p865 : Int) (p866 : Int) (p867 : Bool) : Option ((GClient × S8 × S8 × Int × Int × Int) ⊕ ((GClient × S8 × S8 × Int) ⊕ Bool)) := (bif p867 then (f5_l19_l22_j24 a1 ({ p861 with Screen := { p861.Screen with Past := [] } }) p862 p863 p864 p865 p866) else (some (.inr (.inl ({ p861 with Screen := { p861.Screen with Past := [] } }, p862, p863, p864)))))
theorem f5_l19_l22_j23_ok (hd : 16 ≤ d) (a1 : List S8) {r : (GClient × S8 × S8 × Int × Int × Int) ⊕ ((GClient × S8 × S8 × Int) ⊕ Bool)} (hQ : FQ (finL (f5_l19_l22_H a1) (f5_l19_l22_X a1) r) Q) (p861 : GClient) (p862 : S8) (p863 : S8) (p864 : Int) (p865 : Int) (p866 : Int) (p867 : Bool) (hS : f5_l19_l22_j23 a1 p861 p862 p863 p864 p865 p866 p867 = some r) (he : keepSt [0, 3, 5, 7, 35, 36, 37, 42, 43, 44] [(32, .id 32), (168, .id 168), (169, .id 169), (170, .id 170), (171, .id 171)] [] st = f5_l19_l22_j23_J a1 p861 p862 p863 p864 p865 p866 p867) : ZX d Q c5_18 [] st := by
 refine zrKeep he ?_
 unfold f5_l19_l22_j23 at hS
 refine zrSeq (sR 44 hS (fun hS => ?_) (fun hS => ?_))
 ·exact zT (zrSkip (zkSeq (f5_l19_l22_j24_ok hd a1 hQ ({ p861 with Screen := { p861.Screen with Past := [] } }) p862 p863 p864 p865 p866 hS (by kernel_rfl))))
 ·exact zF (zrKeep (J := f5_l19_l22_e2_J a1 ({ p861 with Screen := { p861.Screen with Past := [] } }) p862 p863 p864) (by kernel_rfl) (zrExit (zkSeqX (zkNil (eX0 hS hQ)))))
def f5_l19_l22 (a1 : List S8) (x : GClient × S8 × S8 × Int × Int × Int) : Option ((GClient × S8 × S8 × Int × Int × Int) ⊕ ((GClient × S8 × S8 × Int) ⊕ Bool)) := (bif (decide (x.2.2.2.2.2 < x.2.2.2.2.1)) then (f5_l19_l22_j23 a1 (q9_ x.1) x.2.1 x.2.2.1 x.2.2.2.1 x.2.2.2.2.1 x.2.2.2.2.2 true) else (f5_l19_l22_j23 a1 (q9_ x.1) x.2.1 x.2.2.1 x.2.2.2.1 x.2.2.2.2.1 x.2.2.2.2.2 false))
theorem f5_l19_l22_ok (hd : 16 ≤ d) (a1 : List S8) {r : (GClient × S8 × S8 × Int × Int × Int) ⊕ ((GClient × S8 × S8 × Int) ⊕ Bool)} (hQ : FQ (finL (f5_l19_l22_H a1) (f5_l19_l22_X a1) r) Q) {x : GClient × S8 × S8 × Int × Int × Int} (hS : f5_l19_l22 a1 x = some r) (he : f5_l19_l22_H a1 x st) : ZX d Q c5_19 [] st := by
 refine zrKeep he ?_
 unfold f5_l19_l22 at hS
 refine zS ?_
 refine sB 44 1 (.cmpI .lss (tm 43) (tm 42)) hS (fun hS => ?_) (fun hS => ?_)
 ·refine zK ?_
  exact f5_l19_l22_j23_ok hd a1 hQ (q9_ x.1) x.2.1 x.2.2.1 x.2.2.2.1 x.2.2.2.2.1 x.2.2.2.2.2 true hS (by kernel_rfl)
 ·refine zK ?_
  exact f5_l19_l22_j23_ok hd a1 hQ (q9_ x.1) x.2.1 x.2.2.1 x.2.2.2.1 x.2.2.2.2.1 x.2.2.2.2.2 false hS (by kernel_rfl)
def f5_l19_j21_J (a1 : List S8) (p756 : GClient) (p757 : S8) (p758 : Int) : St := ⟨(up (up (up (up (up (up u0 37 (dI p758)) 36 (dI (a1.length : Int))) 35 (dE eStr a1)) 5 (.d (.str p757))) 3 (pt 32)) 0 (dE eStr a1)), (q7_ p756)⟩
def f5_l19_j21 (a1 : List S8) (p756 : GClient) (p757 : S8) (p758 : Int) : Option ((GClient × S8 × Int) ⊕ ((GClient × S8) ⊕ Bool)) := ((idx a1 p758).bind fun z190 => ((loopO (f5_l19_l22 a1) ({ p756 with Screen := { p756.Screen with Past := [] } }, p757, z190, p758, (z190.length : Int), 0)).bind fun z199 => (Sum.elim (fun z200 => ((cat? z200.2.2.1 ([13, 0, 13, 10] : S8)).bind fun z202 => ((cat? z200.2.1 z202).bind fun z203 => (some (.inl ((q9_ z200.1), z203, (IntKind.i64.wrap (z200.2.2.2 + 1)))))))) (fun z201 => (some (.inr (.inr z201)))) z199)))
theorem f5_l19_j21_ok (hd : 16 ≤ d) (a1 : List S8) {r : (GClient × S8 × Int) ⊕ ((GClient × S8) ⊕ Bool)} (hQ : FQ (finL (f5_l19_H a1) (f5_l19_X a1) r) Q) (p756 : GClient) (p757 : S8) (p758 : Int) (hS : f5_l19_j21 a1 p756 p757 p758 = some r) (he : keepSt [0, 3, 5, 35, 36, 37] [(32, .id 32), (168, .id 168), (169, .id 169), (170, .id 170), (171, .id 171)] [] st = f5_l19_j21_J a1 p756 p757 p758) : ZX d Q c5_20 [] st := by
 refine zrKeep he ?_
 unfold f5_l19_j21 at hS
 refine zrSeq (zrBlk (zS ?_))
 refine bindE hS (fun z190 hz190 hS => zO (v := (.rptr (eStr.enc z190 ++ (eStr.cells (a1.drop ((p758 : Int).toNat + 1)))))) (ups := []) (some 39) 1 (.ixS 9 1 (tm 35) (tm 37)) (ev_ixS eStr (kk := .i64) (xs := a1) (j := p758) (by kernel_rfl) (by kernel_rfl) hz190 rfl (by intro h; cases h)) (zL 2 3 (zK (zrSeq (zS (zL 3 3 (zK ?_)))))))
 refine zrBlk (bindE hS (fun z199 hz199 hS => zrLoop (f5_l19_l22_H a1) (f5_l19_l22_X a1) (fun x st r Q h0 hS hQ => f5_l19_l22_ok hd a1 hQ hS h0) (x := ({ p756 with Screen := { p756.Screen with Past := [] } }, p757, z190, p758, (z190.length : Int), 0)) (z := z199) (by show keepSt _ _ _ _ = _; kernel_rfl) hz199 ?_))
 rcases z199 with z200 | z201
 ·replace hS := (show _ = _ from hS)
  simp only [seL] at hS
  intro e st' _ hX
  obtain ⟨rfl, rfl⟩ : _ ∧ _ := hX
  refine zkBlkX (zkSeq (zrReg (zL 2 2 ?_)))
  refine bindE hS (fun z202 hz202 hS => zO (v := (.d (.str z202))) (ups := []) (some 64) 3 (.strO .add (tm 63) (.const (.string ⟨#[13, 0, 13, 10]⟩))) (ev_cat (a := z200.2.2.1) (c := [13, 0, 13, 10]) (by kernel_rfl) (by kernel_rfl) hz202) (bindE hS (fun z203 hz203 hS => zO (v := (.d (.str z203))) (ups := []) (some 65) 4 (.strO .add (tm 62) (tm 64)) (ev_cat (a := z200.2.1) (c := z202) (by kernel_rfl) (by kernel_rfl) hz203) (zL 1 5 (zE ?_)))))
  refine zkBlk (zkSeq (zrReg (zL 2 2 (zE ?_))))
  exact zkNil (eN1 hS hQ)
 ·simp only [seR] at hS
  intro e st' _ hX
  obtain ⟨rfl, hX⟩ : _ ∧ _ := hX
  exact zkBlkR (zkSeqR (zkBlkR (zkSeqR (zkNil (endQ hS hQ (finL_x (by intro h; cases h) (by show _ = _ ∧ _ = _; exact ⟨rfl, hX⟩)))))))
def f5_l19_j20_J (a1 : List S8) (p752 : GClient) (p753 : S8) (p754 : Int) (p755 : Bool) : St := ⟨(up (up (up (up (up (up (up u0 38 (dB p755)) 37 (dI p754)) 36 (dI (a1.length : Int))) 35 (dE eStr a1)) 5 (.d (.str p753))) 3 (pt 32)) 0 (dE eStr a1)), (q7_ p752)⟩
def f5_l19_j20 (a1 : List S8) (p752 : GClient) (p753 : S8) (p754 : Int) (p755 : Bool) : Option ((GClient × S8 × Int) ⊕ ((GClient × S8) ⊕ Bool)) := (bif p755 then (f5_l19_j21 a1 ({ p752 with Screen := { p752.Screen with Past := [] } }) p753 p754) else (some (.inr (.inl ({ p752 with Screen := { p752.Screen with Past := [] } }, p753)))))
theorem f5_l19_j20_ok (hd : 16 ≤ d) (a1 : List S8) {r : (GClient × S8 × Int) ⊕ ((GClient × S8) ⊕ Bool)} (hQ : FQ (finL (f5_l19_H a1) (f5_l19_X a1) r) Q) (p752 : GClient) (p753 : S8) (p754 : Int) (p755 : Bool) (hS : f5_l19_j20 a1 p752 p753 p754 p755 = some r) (he : keepSt [0, 3, 5, 35, 36, 37, 38] [(32, .id 32), (168, .id 168), (169, .id 169), (170, .id 170), (171, .id 171)] [] st = f5_l19_j20_J a1 p752 p753 p754 p755) : ZX d Q c5_21 [] st := by
 refine zrKeep he ?_
 unfold f5_l19_j20 at hS
 refine zrSeq (sR 38 hS (fun hS => ?_) (fun hS => ?_))
 ·exact zT (zrSkip (zkSeq (f5_l19_j21_ok hd a1 hQ ({ p752 with Screen := { p752.Screen with Past := [] } }) p753 p754 hS (by kernel_rfl))))
 ·exact zF (zrKeep (J := f5_l19_e0_J a1 ({ p752 with Screen := { p752.Screen with Past := [] } }) p753) (by kernel_rfl) (zrExit (zkSeqX (zkNil (eX0 hS hQ)))))
def f5_l19 (a1 : List S8) (x : GClient × S8 × Int) : Option ((GClient × S8 × Int) ⊕ ((GClient × S8) ⊕ Bool)) := (bif (decide (x.2.2 < (a1.length : Int))) then (f5_l19_j20 a1 (q9_ x.1) x.2.1 x.2.2 true) else (f5_l19_j20 a1 (q9_ x.1) x.2.1 x.2.2 false))
theorem f5_l19_ok (hd : 16 ≤ d) (a1 : List S8) {r : (GClient × S8 × Int) ⊕ ((GClient × S8) ⊕ Bool)} (hQ : FQ (finL (f5_l19_H a1) (f5_l19_X a1) r) Q) {x : GClient × S8 × Int} (hS : f5_l19 a1 x = some r) (he : f5_l19_H a1 x st) : ZX d Q c5_22 [] st := by
 refine zrKeep he ?_
 unfold f5_l19 at hS
 refine zS ?_
 refine sB 38 1 (.cmpI .lss (tm 37) (tm 36)) hS (fun hS => ?_) (fun hS => ?_)
 ·refine zK ?_
  exact f5_l19_j20_ok hd a1 hQ (q9_ x.1) x.2.1 x.2.2 true hS (by kernel_rfl)
 ·refine zK ?_
  exact f5_l19_j20_ok hd a1 hQ (q9_ x.1) x.2.1 x.2.2 false hS (by kernel_rfl)
def f5_j0_J (a1 : List S8) (p352 : GClient) : St := ⟨(up (up u0 3 (pt 32)) 0 (dE eStr a1)), (q7_ p352)⟩
def f5_j0 (a1 : List S8) (p352 : GClient) : Option (Bool) := ((loopO (f5_l19 a1) ({ p352 with Screen := { p352.Screen with Past := [] } }, [], 0)).bind fun z204 => (Sum.elim (fun z205 => (f5_j1 a1 (q9_ z205.1) z205.2)) (fun z206 => (some z206)) z204))
theorem f5_j0_ok (hd : 16 ≤ d) (a1 : List S8) {r : Bool} (hQ : FQ (f5_Q r) Q) (p352 : GClient) (hS : f5_j0 a1 p352 = some r) (he : keepSt [0, 3] [(32, .id 32), (168, .id 168), (169, .id 169), (170, .id 170), (171, .id 171)] [] st = f5_j0_J a1 p352) : ZX d Q c5_23 [] st := by
 refine zrKeep he ?_
 unfold f5_j0 at hS
 refine zS (zL 1 1 (zK (zrSeq (zS (zL 3 3 (zK ?_))))))
 refine zrBlk (bindE hS (fun z204 hz204 hS => zrLoop (f5_l19_H a1) (f5_l19_X a1) (fun x st r Q h0 hS hQ => f5_l19_ok hd a1 hQ hS h0) (x := ({ p352 with Screen := { p352.Screen with Past := [] } }, [], 0)) (z := z204) (by show keepSt _ _ _ _ = _; kernel_rfl) hz204 ?_))
 rcases z204 with z205 | z206
 ·replace hS := (show _ = _ from hS)
  simp only [seL] at hS
  intro e st' _ hX
  obtain ⟨rfl, rfl⟩ : _ ∧ _ := hX
  exact zkBlkX (zkSeq (f5_j1_ok hd a1 hQ (q9_ z205.1) z205.2 hS (by kernel_rfl)))
 ·simp only [seR] at hS
  intro e st' _ hX
  obtain ⟨rfl, hX⟩ : _ ∧ _ := hX
  exact zkBlkR (zkSeqR (zkNil (endQ hS hQ (fRet (by kernel_rfl) ((congrArg (fun s => outR s 0 c5.res) hX).trans (f5_out z206))))))
def f5 (a1 : List S8) : Option (Bool) := ((f6 8 3 (GEnds.mk (fun _ => 0) (fun _ => 0))).bind fun z78 => (libLives.bind fun z207 => (bif (!z207) then (libLives.bind fun z208 => (some z208)) else (bif (decide (42 < (a1.length : Int))) then (libLives.bind fun z209 => (some z209)) else (f5_j0 a1 ({ z78 with Screen := { z78.Screen with Past := [] } }))))))
theorem f5_ok (d : Nat) (hd : 16 ≤ d) (a1 : List S8) (r : Bool) (hS : f5 a1 = some r) : lev codes baseL d 5 [(dE eStr a1)] [] = some ((dB r), []) := by
 refine lvG hd (fun Q hQ => ?_) codes5
 unfold f5 at hS
 show ZR _ Q c5_b [] _
 replace hQ : FQ (f5_Q r) Q := hQ
 refine zS (zL 1 1 (zK (zS (zL 1 1 ?_))))
 refine bindE hS (fun z78 hz78 hS => zO (some 20) 2 (.call 6 [(ki 8), (ki 3), (tm 19)]) (ev_cA (f6_ok (d - 1) (dpt hd rfl) 8 3 (GEnds.mk (fun _ => 0) (fun _ => 0)) z78 hz78)) (zL 6 8 (zK (zrSeq (zS ?_)))))
 refine bindE hS (fun z207 hz207 hS => zO (some 23) 1 (.call 7 []) (ev_cA (libLives_ok (d - 1) (dpt hd rfl)  z207 hz207)) (zL 2 3 (sL 25 hS (fun hS => ?_) (fun hS => ?_))))
 ·refine zL 8 11 (zK (zT (zS ?_)))
  refine bindE hS (fun z208 hz208 hS => zO (some 34) 1 (.call 7 []) (ev_cA (libLives_ok (d - 1) (dpt hd rfl)  z208 hz208)) (zL 1 2 (zK ?_)))
  exact zrRet (zkSeqR (zkNil (endQ hS hQ (fR (f5_out z208)))))
 ·refine zL 6 9 (sH 32 10 29 false (.cmpI .gtr (tm 31) (ki 42)) hS (fun hS => ?_) (fun hS => ?_))
  ·refine zL 1 11 (zK (zT (zS ?_)))
   refine bindE hS (fun z209 hz209 hS => zO (some 34) 1 (.call 7 []) (ev_cA (libLives_ok (d - 1) (dpt hd rfl)  z209 hz209)) (zL 1 2 (zK ?_)))
   exact zrRet (zkSeqR (zkNil (endQ hS hQ (fR (f5_out z209)))))
  ·refine zL 1 11 (zK (zF ?_))
   exact zrSkip (zkSeq (f5_j0_ok hd a1 hQ ({ z78 with Screen := { z78.Screen with Past := [] } }) hS (by kernel_rfl)))
end
end Go.Proofs.YtobkkblijfhpoaaGreatDoor.Pm
