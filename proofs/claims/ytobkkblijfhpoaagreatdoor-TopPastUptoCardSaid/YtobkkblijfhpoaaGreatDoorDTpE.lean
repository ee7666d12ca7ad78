/- Typed functions, and that the codes are these. Printed by dec.py. -/
import Derived.Test.YtobkkblijfhpoaaGreatDoorDTpD
namespace Go.Proofs.YtobkkblijfhpoaaGreatDoor.Pm
noncomputable section
set_option maxRecDepth 1000000
set_option maxHeartbeats 20000000
set_option linter.unusedVariables false
set_option linter.unusedSimpArgs false
variable {d : Nat} {Q : PQ} {st : St}
/- farwriter/args.Read -/
def f95_fin (p27 : List Int) : St := ⟨(up (up u0 3 (dI 0)) 2 (.r (.msl 48 0 0 p27.length))), (up h0 48 ⟨0, some (.own 3 1 (eI.cells p27))⟩)⟩
theorem f95_out (p27 : List Int) : outR (f95_fin p27) 0 c95.res = some ((.tup [(.r (.own 0 3 1 p27.length (eI.cells p27))), (dI 0)]), []) := by
 exact out_of (ids := []) (ids' := [48]) (l := [(.r (.msl 48 0 0 p27.length)), (dI 0)]) (by kernel_rfl) (by kernel_rfl) (o_tup (o_cons (o_own eI (e := 3) (k := 1) (xs := p27) (by kernel_rfl) rfl rfl rfl rfl) (o_cons rfl o_nil)))
def f95_Q (r : (List Int)) (e : PX) (st : St) : Prop := DoneF c95 0 ((.tup [(.r (.own 0 3 1 r.length (eI.cells r))), (dI 0)]), []) e st
def f95_l2_J (a1 : S8) (x : (List Int) × (List S8) × Int × Int) : St := ⟨(up (up (up (up u0 38 (dI x.2.2.2)) 37 (dI x.2.2.1)) 36 (dE eStr x.2.1)) 5 (.r (.msl 48 0 0 x.1.length))), (up h0 48 ⟨0, some (.own 3 1 (eI.cells x.1))⟩)⟩
def f95_l2_H (a1 : S8) (x : (List Int) × (List S8) × Int × Int) (st : St) : Prop := keepSt [5, 36, 37, 38] [(48, .id 48)] [] st = f95_l2_J a1 x
def f95_l2_e2_J (a1 : S8) (p53 : List Int) : St := ⟨(up u0 5 (.r (.msl 48 0 0 p53.length))), (up h0 48 ⟨0, some (.own 3 1 (eI.cells p53))⟩)⟩
def f95_l2_X (a1 : S8) (z : ((List Int))) (e : PX) (st : St) : Prop := e = .exit 2 ∧ st = f95_l2_e2_J a1 z
def f95_l2_j5_J (a1 : S8) (p68 : List Int) (p69 : S8) (p70 : List S8) (p71 : Int) (p72 : Int) : St := ⟨(up (up (up (up (up u0 38 (dI p72)) 37 (dI p71)) 36 (dE eStr p70)) 7 (.d (.str p69))) 5 (.r (.msl 48 0 0 p68.length))), (up h0 48 ⟨0, some (.own 3 1 (eI.cells p68))⟩)⟩
def f95_l2_j5 (a1 : S8) (p68 : List Int) (p69 : S8) (p70 : List S8) (p71 : Int) (p72 : Int) : Option (((List Int) × (List S8) × Int × Int) ⊕ (((List Int)))) := (bif (decide (0 < (p69.length : Int))) then none else ((app? 8 p68 ([(-1)] : List Int)).bind fun z18 => (some (.inl (z18, p70, p71, (IntKind.i64.wrap (p72 + 1)))))))
theorem f95_l2_j5_ok (hd : 1 ≤ d) (a1 : S8) {r : ((List Int) × (List S8) × Int × Int) ⊕ (((List Int)))} (hQ : FQ (finL (f95_l2_H a1) (f95_l2_X a1) r) Q) (p68 : List Int) (p69 : S8) (p70 : List S8) (p71 : Int) (p72 : Int) (hS : f95_l2_j5 a1 p68 p69 p70 p71 p72 = some r) (he : keepSt [5, 7, 36, 37, 38] [(48, .id 48)] [] st = f95_l2_j5_J a1 p68 p69 p70 p71 p72) : ZX d Q c95_1 [.blk 3, .seq c95_2] st := by
 refine zrKeep he ?_
 unfold f95_l2_j5 at hS
 refine zS (zL 1 1 (zK (zrSeq (zS (zL 3 3 (zK ?_))))))
 refine zrBlk (zrLoop1 (zS ?_))
 refine sB 48 1 (.cmpI .lss (tm 47) (tm 46)) hS (fun hS => ?_) (fun hS => ?_)
 ·cases hS
 ·refine zK (zrSeq (zF ?_))
  refine zrExit (zkSeqX (zkSeqX (zkBlkX (zkSeq (zrReg (zL 3 3 ?_))))))
  refine bindE hS (fun z18 hz18 hS => zO (v := (.r (.msl 48 1 0 z18.length))) (ups := [(48, ⟨1, some (.own 3 1 (eI.cells z18))⟩)]) (some 64) 4 (.app 3 1 8 (tm 61) (tm 63)) (ev_app eI (b := 48) (g := 0) (n := p68.length) (xs := p68) (ys := [(-1)]) ((congrArg (asL _) (by kernel_rfl : ρof _ (.tmp 63) = (.r (.msl 512 1 0 (([(-1)] : List Int).length))))).trans (as_whole eI (e := 3) (k := 1) (xs := [(-1)]) (by kernel_rfl) rfl rfl)) rfl (by kernel_rfl) rfl (by kernel_rfl) rfl hz18) (zL 1 5 (zE ?_)))
  refine zkBlk (zkSeq (zrReg (zL 2 2 (zE ?_))))
  exact zkNil (eN1 hS hQ)
def f95_l2_j4_J (a1 : S8) (p64 : List Int) (p65 : List S8) (p66 : Int) (p67 : Int) : St := ⟨(up (up (up (up u0 38 (dI p67)) 37 (dI p66)) 36 (dE eStr p65)) 5 (.r (.msl 48 0 0 p64.length))), (up h0 48 ⟨0, some (.own 3 1 (eI.cells p64))⟩)⟩
def f95_l2_j4 (a1 : S8) (p64 : List Int) (p65 : List S8) (p66 : Int) (p67 : Int) : Option (((List Int) × (List S8) × Int × Int) ⊕ (((List Int)))) := ((idx p65 p67).bind fun z17 => (bif (decide ((p64.length : Int) = 32)) then none else (f95_l2_j5 a1 p64 z17 p65 p66 p67)))
theorem f95_l2_j4_ok (hd : 1 ≤ d) (a1 : S8) {r : ((List Int) × (List S8) × Int × Int) ⊕ (((List Int)))} (hQ : FQ (finL (f95_l2_H a1) (f95_l2_X a1) r) Q) (p64 : List Int) (p65 : List S8) (p66 : Int) (p67 : Int) (hS : f95_l2_j4 a1 p64 p65 p66 p67 = some r) (he : keepSt [5, 36, 37, 38] [(48, .id 48)] [] st = f95_l2_j4_J a1 p64 p65 p66 p67) : ZX d Q c95_3 [] st := by
 refine zrKeep he ?_
 unfold f95_l2_j4 at hS
 refine zrSeq (zrBlk (zS ?_))
 refine bindE hS (fun z17 hz17 hS => zO (v := (.rptr (eStr.enc z17 ++ (eStr.cells (p65.drop ((p67 : Int).toNat + 1)))))) (ups := []) (some 40) 1 (.ixS 9 1 (tm 36) (tm 38)) (ev_ixS eStr (kk := .i64) (xs := p65) (j := p67) (by kernel_rfl) (by kernel_rfl) hz17 rfl (by intro h; cases h)) (zL 2 3 (zK (zrSeq (zS (zL 2 2 ?_))))))
 refine sB 44 3 (ck 43 32) hS (fun hS => ?_) (fun hS => ?_)
 ·cases hS
 ·refine zK (zF ?_)
  exact zrSkip (zkSeq (f95_l2_j5_ok hd a1 hQ p64 z17 p65 p66 p67 hS (by kernel_rfl)))
def f95_l2_j3_J (a1 : S8) (p59 : List Int) (p60 : List S8) (p61 : Int) (p62 : Int) (p63 : Bool) : St := ⟨(up (up (up (up (up u0 39 (dB p63)) 38 (dI p62)) 37 (dI p61)) 36 (dE eStr p60)) 5 (.r (.msl 48 0 0 p59.length))), (up h0 48 ⟨0, some (.own 3 1 (eI.cells p59))⟩)⟩
def f95_l2_j3 (a1 : S8) (p59 : List Int) (p60 : List S8) (p61 : Int) (p62 : Int) (p63 : Bool) : Option (((List Int) × (List S8) × Int × Int) ⊕ (((List Int)))) := (bif p63 then (f95_l2_j4 a1 p59 p60 p61 p62) else (some (.inr p59)))
theorem f95_l2_j3_ok (hd : 1 ≤ d) (a1 : S8) {r : ((List Int) × (List S8) × Int × Int) ⊕ (((List Int)))} (hQ : FQ (finL (f95_l2_H a1) (f95_l2_X a1) r) Q) (p59 : List Int) (p60 : List S8) (p61 : Int) (p62 : Int) (p63 : Bool) (hS : f95_l2_j3 a1 p59 p60 p61 p62 p63 = some r) (he : keepSt [5, 36, 37, 38, 39] [(48, .id 48)] [] st = f95_l2_j3_J a1 p59 p60 p61 p62 p63) : ZX d Q c95_4 [] st := by
 refine zrKeep he ?_
 unfold f95_l2_j3 at hS
 refine zrSeq (sR 39 hS (fun hS => ?_) (fun hS => ?_))
 ·exact zT (zrSkip (zkSeq (f95_l2_j4_ok hd a1 hQ p59 p60 p61 p62 hS (by kernel_rfl))))
 ·exact zF (zrKeep (J := f95_l2_e2_J a1 p59) (by kernel_rfl) (zrExit (zkSeqX (zkNil (eX0 hS hQ)))))
def f95_l2 (a1 : S8) (x : (List Int) × (List S8) × Int × Int) : Option (((List Int) × (List S8) × Int × Int) ⊕ (((List Int)))) := (bif (decide (x.2.2.2 < x.2.2.1)) then (f95_l2_j3 a1 x.1 x.2.1 x.2.2.1 x.2.2.2 true) else (f95_l2_j3 a1 x.1 x.2.1 x.2.2.1 x.2.2.2 false))
theorem f95_l2_ok (hd : 1 ≤ d) (a1 : S8) {r : ((List Int) × (List S8) × Int × Int) ⊕ (((List Int)))} (hQ : FQ (finL (f95_l2_H a1) (f95_l2_X a1) r) Q) {x : (List Int) × (List S8) × Int × Int} (hS : f95_l2 a1 x = some r) (he : f95_l2_H a1 x st) : ZX d Q c95_5 [] st := by
 refine zrKeep he ?_
 unfold f95_l2 at hS
 refine zS ?_
 refine sB 39 1 (.cmpI .lss (tm 38) (tm 37)) hS (fun hS => ?_) (fun hS => ?_)
 ·refine zK ?_
  exact f95_l2_j3_ok hd a1 hQ x.1 x.2.1 x.2.2.1 x.2.2.2 true hS (by kernel_rfl)
 ·refine zK ?_
  exact f95_l2_j3_ok hd a1 hQ x.1 x.2.1 x.2.2.1 x.2.2.2 false hS (by kernel_rfl)
def f95_j1_J (a1 : S8) : St := ⟨(up u0 0 (.d (.str a1))), h0⟩
def f95_j1 (a1 : S8) : Option ((List Int)) := ((libSplit a1 [59]).bind fun z10 => ((loopO (f95_l2 a1) ([], z10, (z10.length : Int), 0)).bind fun z19 => (some z19)))
theorem f95_j1_ok (hd : 1 ≤ d) (a1 : S8) {r : (List Int)} (hQ : FQ (f95_Q r) Q)  (hS : f95_j1 a1 = some r) (he : keepSt [0] [] [] st = f95_j1_J a1) : ZX d Q c95_6 [] st := by
 refine zrKeep he ?_
 unfold f95_j1 at hS
 refine zS (zL 1 1 (zK (zrSeq (zS (zL 1 1 ?_)))))
 refine bindE hS (fun z10 hz10 hS => zO (some 36) 2 (.call 155 [(tm 35), (.const (.string ⟨#[59]⟩))]) (ev_cA (libSplit_ok (d - 1) (dpt hd rfl) a1 [59] z10 hz10)) (zL 2 4 (zK ?_)))
 refine zrBlk (bindE hS (fun z19 hz19 hS => zrLoop (f95_l2_H a1) (f95_l2_X a1) (fun x st r Q h0 hS hQ => f95_l2_ok hd a1 hQ hS h0) (x := ([], z10, (z10.length : Int), 0)) (z := z19) (by show keepSt _ _ _ _ = _; kernel_rfl) hz19 ?_))
 intro e st' _ hX
 obtain ⟨rfl, rfl⟩ : _ ∧ _ := hX
 refine zkBlkX (zkSeq (zS (zL 3 3 (zK ?_))))
 exact zrRet (zkNil (endQ hS hQ (fR (f95_out z19))))
def f95_l6_J (a1 : S8) (x : Unit) : St := ⟨(up (up (up u0 15 (dI 0)) 14 (dI (a1.length : Int))) 0 (.d (.str a1))), h0⟩
def f95_l6_H (a1 : S8) (x : Unit) (st : St) : Prop := keepSt [0, 14, 15] [] [] st = f95_l6_J a1 x
def f95_l6_e0_J (a1 : S8) : St := ⟨(up u0 0 (.d (.str a1))), h0⟩
def f95_l6_X (a1 : S8) (z : Unit) (e : PX) (st : St) : Prop := e = .exit 0 ∧ st = f95_l6_e0_J a1
def f95_l6_j8_J (a1 : S8) : St := ⟨(up (up (up u0 15 (dI 0)) 14 (dI (a1.length : Int))) 0 (.d (.str a1))), h0⟩
def f95_l6_j8 (a1 : S8) : Option (Unit ⊕ Unit) := none
theorem f95_l6_j8_ok (hd : 1 ≤ d) (a1 : S8) {r : Unit ⊕ Unit} (hQ : FQ (finL (f95_l6_H a1) (f95_l6_X a1) r) Q)  (hS : f95_l6_j8 a1 = some r) (he : keepSt [0, 14, 15] [] [] st = f95_l6_j8_J a1) : ZX d Q c95_7 [] st := by
 refine zrKeep he ?_
 unfold f95_l6_j8 at hS
 refine zrSeq (zrBlk (zS ?_))
 cases hS
def f95_l6_j7_J (a1 : S8) (p74 : Bool) : St := ⟨(up (up (up (up u0 16 (dB p74)) 15 (dI 0)) 14 (dI (a1.length : Int))) 0 (.d (.str a1))), h0⟩
def f95_l6_j7 (a1 : S8) (p74 : Bool) : Option (Unit ⊕ Unit) := (bif p74 then (f95_l6_j8 a1 ) else (some (.inr ())))
theorem f95_l6_j7_ok (hd : 1 ≤ d) (a1 : S8) {r : Unit ⊕ Unit} (hQ : FQ (finL (f95_l6_H a1) (f95_l6_X a1) r) Q) (p74 : Bool) (hS : f95_l6_j7 a1 p74 = some r) (he : keepSt [0, 14, 15, 16] [] [] st = f95_l6_j7_J a1 p74) : ZX d Q c95_8 [] st := by
 refine zrKeep he ?_
 unfold f95_l6_j7 at hS
 refine zrSeq (sR 16 hS (fun hS => ?_) (fun hS => ?_))
 ·exact zT (zrSkip (zkSeq (f95_l6_j8_ok hd a1 hQ  hS (by kernel_rfl))))
 ·exact zF (zrKeep (J := f95_l6_e0_J a1) (by kernel_rfl) (zrExit (zkSeqX (zkNil (eX0 hS hQ)))))
def f95_l6 (a1 : S8) (x : Unit) : Option (Unit ⊕ Unit) := (bif (decide (0 < (a1.length : Int))) then (f95_l6_j7 a1 true) else (f95_l6_j7 a1 false))
theorem f95_l6_ok (hd : 1 ≤ d) (a1 : S8) {r : Unit ⊕ Unit} (hQ : FQ (finL (f95_l6_H a1) (f95_l6_X a1) r) Q) {x : Unit} (hS : f95_l6 a1 x = some r) (he : f95_l6_H a1 x st) : ZX d Q c95_9 [] st := by
 refine zrKeep he ?_
 unfold f95_l6 at hS
 refine zS ?_
 refine sB 16 1 (.cmpI .lss (tm 15) (tm 14)) hS (fun hS => ?_) (fun hS => ?_)
 ·refine zK ?_
  exact f95_l6_j7_ok hd a1 hQ true hS (by kernel_rfl)
 ·refine zK ?_
  exact f95_l6_j7_ok hd a1 hQ false hS (by kernel_rfl)
def f95_j0_J (a1 : S8) : St := ⟨(up u0 0 (.d (.str a1))), h0⟩
def f95_j0 (a1 : S8) : Option ((List Int)) := ((loopO (f95_l6 a1) ()).bind fun z20 => (f95_j1 a1 ))
theorem f95_j0_ok (hd : 1 ≤ d) (a1 : S8) {r : (List Int)} (hQ : FQ (f95_Q r) Q)  (hS : f95_j0 a1 = some r) (he : keepSt [0] [] [] st = f95_j0_J a1) : ZX d Q c95_10 [] st := by
 refine zrKeep he ?_
 unfold f95_j0 at hS
 refine zrSeq (zS (zL 3 3 (zK ?_)))
 refine zrBlk (bindE hS (fun z20 hz20 hS => zrLoop (f95_l6_H a1) (f95_l6_X a1) (fun x st r Q h0 hS hQ => f95_l6_ok hd a1 hQ hS h0) (x := ()) (z := z20) (by show keepSt _ _ _ _ = _; kernel_rfl) hz20 ?_))
 intro e st' _ hX
 obtain ⟨rfl, rfl⟩ : _ ∧ _ := hX
 exact zkBlkX (zkSeq (f95_j1_ok hd a1 hQ  hS (by kernel_rfl)))
def f95 (a1 : S8) : Option ((List Int)) := ((libTrim a1 [48, 49, 50, 51, 52, 53, 54, 55, 56, 57, 59]).bind fun z21 => (bif (!decide (z21 = ([] : S8))) then none else (f95_j0 a1 )))
theorem f95_ok (d : Nat) (hd : 1 ≤ d) (a1 : S8) (r : (List Int)) (hS : f95 a1 = some r) : lev codes baseL d 95 [(.d (.str a1))] [] = some ((.tup [(.r (.own 0 3 1 r.length (eI.cells r))), (dI 0)]), []) := by
 refine lvG hd (fun Q hQ => ?_) codes95
 unfold f95 at hS
 show ZR _ Q c95_b [] _
 replace hQ : FQ (f95_Q r) Q := hQ
 refine zS (zL 2 2 (zK (zrSeq (zS (zL 1 1 ?_)))))
 refine bindE hS (fun z21 hz21 hS => zO (some 11) 2 (.call 154 [(tm 10), (.const (.string ⟨#[48, 49, 50, 51, 52, 53, 54, 55, 56, 57, 59]⟩))]) (ev_cA (libTrim_ok (d - 1) (dpt hd rfl) a1 [48, 49, 50, 51, 52, 53, 54, 55, 56, 57, 59] z21 hz21)) (sB 12 3 (.strO .neq (tm 11) (.const (.string ⟨#[]⟩))) hS (fun hS => ?_) (fun hS => ?_)))
 ·cases hS
 ·refine zK (zF ?_)
  exact zrSkip (zkSeq (f95_j0_ok hd a1 hQ  hS (by kernel_rfl)))
/- farwriter/parse.within -/
def f96_fin (p3 : Bool) : St := ⟨(up u0 6 (dB p3)), h0⟩
theorem f96_out (p3 : Bool) : outR (f96_fin p3) 0 c96.res = some ((dB p3), []) := by
 kernel_rfl
def f96_Q (r : Bool) (e : PX) (st : St) : Prop := DoneF c96 0 ((dB r), []) e st
def f96 (a1 : Int) (a2 : Int) (a3 : Int) : Option (Bool) := (bif (decide (a2 ≤ a1)) then (bif (decide (a1 ≤ a3)) then (some true) else (some false)) else (some false))
theorem f96_ok (d : Nat) (hd : 1 ≤ d) (a1 : Int) (a2 : Int) (a3 : Int) (r : Bool) (hS : f96 a1 a2 a3 = some r) : lev codes baseL d 96 [(dI a1), (dI a2), (dI a3)] [] = some ((dB r), []) := by
 refine lvG hd (fun Q hQ => ?_) codes96
 unfold f96 at hS
 show ZR _ Q c96_b [] _
 replace hQ : FQ (f96_Q r) Q := hQ
 refine zS (zL 1 1 (zK (zS (zL 2 2 ?_))))
 refine sB 9 3 (.cmpI .geq (tm 7) (tm 8)) hS (fun hS => ?_) (fun hS => ?_)
 ·refine zL 3 6 (sH 13 7 10 true (.cmpI .leq (tm 11) (tm 12)) hS (fun hS => ?_) (fun hS => ?_))
  ·refine zL 2 9 (zK ?_)
   exact zrRet (zkNil (endQ hS hQ (fR (f96_out true))))
  ·refine zL 2 9 (zK ?_)
   exact zrRet (zkNil (endQ hS hQ (fR (f96_out false))))
 ·refine zL 6 9 (zK ?_)
  exact zrRet (zkNil (endQ hS hQ (fR (f96_out false))))
/- farwriter/parse.inters -/
def f97_fin (p9 : Bool) : St := ⟨(up u0 4 (dB p9)), h0⟩
theorem f97_out (p9 : Bool) : outR (f97_fin p9) 0 c97.res = some ((dB p9), []) := by
 kernel_rfl
def f97_Q (r : Bool) (e : PX) (st : St) : Prop := DoneF c97 0 ((dB r), []) e st
def f97_l0_J (a1 : S8) (a2 : Int) (x : Int) : St := ⟨(up (up (up (up u0 8 (dI x)) 7 (dI (a1.length : Int))) 1 (dI a2)) 0 (.d (.str a1))), h0⟩
def f97_l0_H (a1 : S8) (a2 : Int) (x : Int) (st : St) : Prop := keepSt [0, 1, 7, 8] [] [] st = f97_l0_J a1 a2 x
def f97_l0_e0_J (a1 : S8) (a2 : Int) : St := ⟨(up (up u0 1 (dI a2)) 0 (.d (.str a1))), h0⟩
def f97_l0_X (a1 : S8) (a2 : Int) (z : Unit ⊕ Bool) (e : PX) (st : St) : Prop := (match z with | .inl z => e = .exit 0 ∧ st = f97_l0_e0_J a1 a2 | .inr z => e = .ret ∧ finSt c97.fin st = f97_fin z)
def f97_l0_j2_J (a1 : S8) (a2 : Int) (p14 : Int) : St := ⟨(up (up (up (up u0 8 (dI p14)) 7 (dI (a1.length : Int))) 1 (dI a2)) 0 (.d (.str a1))), h0⟩
def f97_l0_j2 (a1 : S8) (a2 : Int) (p14 : Int) : Option (Int ⊕ (Unit ⊕ Bool)) := ((idx a1 p14).bind fun z7 => ((f96 (z7.toNat : Int) 32 47).bind fun z8 => (bif (!z8) then (some (.inr (.inr false))) else (some (.inl (IntKind.i64.wrap (p14 + 1)))))))
theorem f97_l0_j2_ok (hd : 2 ≤ d) (a1 : S8) (a2 : Int) {r : Int ⊕ (Unit ⊕ Bool)} (hQ : FQ (finL (f97_l0_H a1 a2) (f97_l0_X a1 a2) r) Q) (p14 : Int) (hS : f97_l0_j2 a1 a2 p14 = some r) (he : keepSt [0, 1, 7, 8] [] [] st = f97_l0_j2_J a1 a2 p14) : ZX d Q c97_1 [] st := by
 refine zrKeep he ?_
 unfold f97_l0_j2 at hS
 refine zrSeq (zrBlk (zS (zL 2 2 (zK (zS (zL 2 2 ?_))))))
 refine bindE hS (fun z7 hz7 hS => zO (v := (.d (.int .u8 (z7.toNat : Int)))) (ups := []) (some 13) 3 (.ixStr (tm 11) (tm 12)) (ev_ixStr (kk := .i64) (s := a1) (j := p14) (by kernel_rfl) (by kernel_rfl) hz7) (zO (v := (dI (z7.toNat : Int))) (ups := []) (some 14) 4 (.cvI .i64 (tm 13)) (ev_cv (kk := .u8) (a := (z7.toNat : Int)) (by kernel_rfl) (cv_i64 _)) (bindE hS (fun z8 hz8 hS => zO (some 15) 5 (.call 96 [(tm 14), (ki 32), (ki 47)]) (ev_cA (f96_ok (d - 1) (dpt hd rfl) (z7.toNat : Int) 32 47 z8 hz8)) (zL 1 6 (zK ?_))))))
 refine sR 16 hS (fun hS => ?_) (fun hS => ?_)
 ·refine zT (zS (zL 1 1 (zK ?_)))
  exact zrRet (zkBlkR (zkSeqR (zkNil (eX1 hS hQ))))
 ·refine zF (zrSkip (zkBlk (zkSeq (zrReg (zL 2 2 (zE ?_))))))
  exact zkNil (eN1 hS hQ)
def f97_l0_j1_J (a1 : S8) (a2 : Int) (p12 : Int) (p13 : Bool) : St := ⟨(up (up (up (up (up u0 9 (dB p13)) 8 (dI p12)) 7 (dI (a1.length : Int))) 1 (dI a2)) 0 (.d (.str a1))), h0⟩
def f97_l0_j1 (a1 : S8) (a2 : Int) (p12 : Int) (p13 : Bool) : Option (Int ⊕ (Unit ⊕ Bool)) := (bif p13 then (f97_l0_j2 a1 a2 p12) else (some (.inr (.inl ()))))
theorem f97_l0_j1_ok (hd : 2 ≤ d) (a1 : S8) (a2 : Int) {r : Int ⊕ (Unit ⊕ Bool)} (hQ : FQ (finL (f97_l0_H a1 a2) (f97_l0_X a1 a2) r) Q) (p12 : Int) (p13 : Bool) (hS : f97_l0_j1 a1 a2 p12 p13 = some r) (he : keepSt [0, 1, 7, 8, 9] [] [] st = f97_l0_j1_J a1 a2 p12 p13) : ZX d Q c97_2 [] st := by
 refine zrKeep he ?_
 unfold f97_l0_j1 at hS
 refine zrSeq (sR 9 hS (fun hS => ?_) (fun hS => ?_))
 ·exact zT (zrSkip (zkSeq (f97_l0_j2_ok hd a1 a2 hQ p12 hS (by kernel_rfl))))
 ·exact zF (zrKeep (J := f97_l0_e0_J a1 a2) (by kernel_rfl) (zrExit (zkSeqX (zkNil (eX0 hS hQ)))))
def f97_l0 (a1 : S8) (a2 : Int) (x : Int) : Option (Int ⊕ (Unit ⊕ Bool)) := (bif (decide (x < (a1.length : Int))) then (f97_l0_j1 a1 a2 x true) else (f97_l0_j1 a1 a2 x false))
theorem f97_l0_ok (hd : 2 ≤ d) (a1 : S8) (a2 : Int) {r : Int ⊕ (Unit ⊕ Bool)} (hQ : FQ (finL (f97_l0_H a1 a2) (f97_l0_X a1 a2) r) Q) {x : Int} (hS : f97_l0 a1 a2 x = some r) (he : f97_l0_H a1 a2 x st) : ZX d Q c97_3 [] st := by
 refine zrKeep he ?_
 unfold f97_l0 at hS
 refine zS ?_
 refine sB 9 1 (.cmpI .lss (tm 8) (tm 7)) hS (fun hS => ?_) (fun hS => ?_)
 ·refine zK ?_
  exact f97_l0_j1_ok hd a1 a2 hQ x true hS (by kernel_rfl)
 ·refine zK ?_
  exact f97_l0_j1_ok hd a1 a2 hQ x false hS (by kernel_rfl)
def f97 (a1 : S8) (a2 : Int) : Option (Bool) := ((loopO (f97_l0 a1 a2) 0).bind fun z9 => (Sum.elim (fun z10 => (bif (decide ((a1.length : Int) ≤ a2)) then (some true) else (some false))) (fun z11 => (some z11)) z9))
theorem f97_ok (d : Nat) (hd : 2 ≤ d) (a1 : S8) (a2 : Int) (r : Bool) (hS : f97 a1 a2 = some r) : lev codes baseL d 97 [(.d (.str a1)), (dI a2)] [] = some ((dB r), []) := by
 refine lvG hd (fun Q hQ => ?_) codes97
 unfold f97 at hS
 show ZR _ Q c97_b [] _
 replace hQ : FQ (f97_Q r) Q := hQ
 refine zS (zL 1 1 (zK (zrSeq (zS (zL 3 3 (zK ?_))))))
 refine zrBlk (bindE hS (fun z9 hz9 hS => zrLoop (f97_l0_H a1 a2) (f97_l0_X a1 a2) (fun x st r Q h0 hS hQ => f97_l0_ok hd a1 a2 hQ hS h0) (x := 0) (z := z9) (by show keepSt _ _ _ _ = _; kernel_rfl) hz9 ?_))
 rcases z9 with z10 | z11
 ·replace hS := (show _ = _ from hS)
  simp only [seL] at hS
  intro e st' _ hX
  obtain ⟨rfl, rfl⟩ : _ ∧ _ := hX
  refine zkBlkX (zkSeq (zS (zL 3 3 ?_)))
  refine sB 21 4 (.cmpI .leq (tm 19) (tm 20)) hS (fun hS => ?_) (fun hS => ?_)
  ·refine zL 1 5 (zK ?_)
   exact zrRet (zkNil (endQ hS hQ (fR (f97_out true))))
  ·refine zL 1 5 (zK ?_)
   exact zrRet (zkNil (endQ hS hQ (fR (f97_out false))))
 ·simp only [seR] at hS
  intro e st' _ hX
  obtain ⟨rfl, hX⟩ : _ ∧ _ := hX
  exact zkBlkR (zkSeqR (zkNil (endQ hS hQ (fRet (by kernel_rfl) ((congrArg (fun s => outR s 0 c97.res) hX).trans (f97_out z11))))))
/- farwriter/parse.Check -/
def f54_fin  : St := ⟨(up u0 2 (dI 0)), h0⟩
theorem f54_out  : outR (f54_fin ) 0 c54.res = some ((dI 0), []) := by
 kernel_rfl
def f54_Q (r : Unit) (e : PX) (st : St) : Prop := DoneF c54 0 ((dI 0), []) e st
def f54_j0_J (a1 : GParser) (p3 : Bool) : St := ⟨(up (up (up u0 6 (dB p3)) 5 (dI 0)) 1 (pt 16)), (up h0 16 ⟨0, some (.box (q16_ a1))⟩)⟩
def f54_j0 (a1 : GParser) (p3 : Bool) : Option (Unit) := (bif p3 then (bif (decide ((a1.Args.length : Int) ≤ 100)) then (bif (decide (a1.Args = ([] : S8))) then (bif (decide ((a1.Text.length : Int) ≤ 256)) then (bif (decide (a1.Text = ([] : S8))) then (some ()) else none) else none) else none) else none) else none)
theorem f54_j0_ok (hd : 3 ≤ d) (a1 : GParser) {r : Unit} (hQ : FQ (f54_Q r) Q) (p3 : Bool) (hS : f54_j0 a1 p3 = some r) (he : keepSt [1, 5, 6] [(16, .id 16)] [] st = f54_j0_J a1 p3) : ZX d Q c54_1 [] st := by
 refine zrKeep he ?_
 unfold f54_j0 at hS
 refine zS (zL 2 2 ?_)
 refine sL 59 hS (fun hS => ?_) (fun hS => ?_)
 ·refine zL 7 9 (sH 67 10 63 true (.cmpI .leq (tm 66) (ki 100)) hS (fun hS => ?_) (fun hS => ?_))
  ·refine zL 4 14 (sH 72 15 69 true (.strO .eql (tm 71) (.const (.string ⟨#[]⟩))) hS (fun hS => ?_) (fun hS => ?_))
   ·refine zL 12 27 (zK (zS (zL 5 5 ?_)))
    refine sH 89 6 85 true (.cmpI .leq (tm 88) (ki 256)) hS (fun hS => ?_) (fun hS => ?_)
    ·refine zL 4 10 (sH 94 11 91 true (.strO .eql (tm 93) (.const (.string ⟨#[]⟩))) hS (fun hS => ?_) (fun hS => ?_))
     ·refine zL 12 23 (zK (zrSeq (zS (zL 2 2 (zK (zF ?_))))))
      refine zrSkip (zkSeq (zS (zL 1 1 (zK ?_))))
      exact zrRet (zkNil (endQ hS hQ (fR (f54_out ))))
     ·refine zL 3 14 ?_
      cases hS
    ·refine zL 4 10 ?_
     cases hS
   ·refine zL 3 18 ?_
    cases hS
  ·refine zL 4 14 ?_
   cases hS
 ·refine zL 1 3 ?_
  cases hS
def f54 (a1 : GParser) : Option (Unit) := (bif (decide (a1.State = 2)) then none else (bif (decide (a1.State = 5)) then none else ((f95 a1.Args).bind fun z4 => ((f96 a1.State 0 10).bind fun z5 => (bif z5 then (bif (decide (a1.Mark = 0)) then ((f97 a1.Inter 3).bind fun z7 => (bif z7 then (bif (!decide (a1.Inter = ([] : S8))) then (f54_j0 a1 false) else (f54_j0 a1 true)) else none)) else none) else none)))))
theorem f54_ok (d : Nat) (hd : 3 ≤ d) (a1 : GParser) (r : Unit) (hS : f54 a1 = some r) : lev codes baseL d 54 [(.agg (q16_ a1))] [] = some ((dI 0), []) := by
 refine lvG hd (fun Q hQ => ?_) codes54
 unfold f54 at hS
 show ZR _ Q c54_b [] _
 replace hQ : FQ (f54_Q r) Q := hQ
 refine zS (zL 2 2 (zK (zS (zL 2 2 ?_))))
 refine sB 9 3 (ck 8 2) hS (fun hS => ?_) (fun hS => ?_)
 ·cases hS
 ·refine zL 3 6 (sH 13 7 10 false (ck 12 5) hS (fun hS => ?_) (fun hS => ?_))
  ·cases hS
  ·refine zL 2 9 (zK (zS (zL 2 2 ?_)))
   refine bindE hS (fun z4 hz4 hS => zO (some 18) 3 (c1 95 17) (ev_cA (f95_ok (d - 1) (dpt hd rfl) a1.Args z4 hz4)) (zL 5 8 (zK (zS (zL 2 2 ?_)))))
   refine bindE hS (fun z5 hz5 hS => zO (some 23) 3 (.call 96 [(tm 22), (ki 0), (ki 10)]) (ev_cA (f96_ok (d - 1) (dpt hd rfl) a1.State 0 10 z5 hz5)) (zL 1 4 (zK (zS (zL 2 2 ?_)))))
   refine sL 25 hS (fun hS => ?_) (fun hS => ?_)
   ·refine zL 2 4 (sH 28 5 25 true (ck 27 0) hS (fun hS => ?_) (fun hS => ?_))
    ·refine zL 17 22 (zK (zS (zL 4 4 ?_)))
     refine bindE hS (fun z7 hz7 hS => zG (some 49) 5 46 true (.call 97 [(tm 48), (ki 3)]) (ev_cA (f97_ok (d - 1) (dpt hd rfl) a1.Inter 3 z7 hz7)) (zL 2 7 (sL 51 hS (fun hS => ?_) (fun hS => ?_))))
     ·refine zL 2 9 (sH 54 10 51 true (.strO .neq (tm 53) (.const (.string ⟨#[]⟩))) hS (fun hS => ?_) (fun hS => ?_))
      ·refine zL 4 14 (zK ?_)
       exact f54_j0_ok hd a1 hQ false hS (by kernel_rfl)
      ·refine zL 4 14 (zK ?_)
       exact f54_j0_ok hd a1 hQ true hS (by kernel_rfl)
     ·refine zL 2 9 ?_
      cases hS
    ·refine zL 3 8 ?_
     cases hS
   ·refine zL 2 4 ?_
    cases hS
/- farwriter/grid.row -/
def f38_fin (p1 : List GCell) : St := ⟨(up (up u0 2000000 .un) 4 (dE e_GCell p1)), (up h0 0 ⟨0, none⟩)⟩
theorem f38_out (p1 : List GCell) : outR (f38_fin p1) 0 c38.res = some ((dE e_GCell p1), []) := by
 kernel_rfl
def f38_Q (r : (List GCell)) (e : PX) (st : St) : Prop := DoneF c38 0 ((dE e_GCell r), [.box []]) e st
def f38 (a1 : GGrid) (a2 : Int) : Option ((List GCell)) := ((sub? a1.Cells (IntKind.i64.wrap (a2 * a1.Wide)) (IntKind.i64.wrap ((IntKind.i64.wrap (a2 + 1)) * a1.Wide))).bind fun z2 => (some z2))
theorem f38_ok (d : Nat) (hd : 1 ≤ d) (a1 : GGrid) (a2 : Int) (r : (List GCell)) (hS : f38 a1 a2 = some r) : lev codes baseL d 38 [(.agg (q20_ a1)), (dI a2)] [] = some ((dE e_GCell r), [.box []]) := by
 refine lvG hd (fun Q hQ => ?_) codes38
 unfold f38 at hS
 show ZR _ Q c38_b [] _
 replace hQ : FQ (f38_Q r) Q := hQ
 refine zS (zL 2 2 (zK (zS (zL 11 11 ?_))))
 refine bindE hS (fun z2 hz2 hS => zO (v := (dE e_GCell z2)) (ups := []) (some 16) 12 (.slS 100 4 (tm 6) (.some (tm 10)) (.some (tm 15))) (ev_slS e_GCell (xs := a1.Cells) (a := (IntKind.i64.wrap (a2 * a1.Wide))) (c := (IntKind.i64.wrap ((IntKind.i64.wrap (a2 + 1)) * a1.Wide))) (by kernel_rfl) rfl (bnd_s _ (kk := .i64) (j := (IntKind.i64.wrap (a2 * a1.Wide))) (by kernel_rfl)) (bnd_s _ (kk := .i64) (j := (IntKind.i64.wrap ((IntKind.i64.wrap (a2 + 1)) * a1.Wide))) (by kernel_rfl)) hz2) (zL 1 13 (zK ?_)))
 exact zrRet (zkNil (endQ hS hQ (fRetX (by kernel_rfl) (by kernel_rfl : finSt c38.fin _ = f38_fin z2) (by kernel_rfl) (f38_out z2))))
/- farwriter/width.in -/
def f194_fin (p27 : Bool) : St := ⟨(up u0 4 (dB p27)), h0⟩
theorem f194_out (p27 : Bool) : outR (f194_fin p27) 0 c194.res = some ((dB p27), []) := by
 kernel_rfl
def f194_Q (r : Bool) (e : PX) (st : St) : Prop := DoneF c194 0 ((dB r), []) e st
def f194_l0_J (a1 : Int) (a2 : List (Int × Int)) (x : Int) : St := ⟨(up (up (up (up u0 9 (dI x)) 8 (dI (a2.length : Int))) 7 (dE e_A39 a2)) 0 (dI a1)), h0⟩
def f194_l0_H (a1 : Int) (a2 : List (Int × Int)) (x : Int) (st : St) : Prop := keepSt [0, 7, 8, 9] [] [] st = f194_l0_J a1 a2 x
def f194_l0_e0_J (a1 : Int) (a2 : List (Int × Int)) : St := ⟨u0, h0⟩
def f194_l0_X (a1 : Int) (a2 : List (Int × Int)) (z : Unit ⊕ Bool) (e : PX) (st : St) : Prop := (match z with | .inl z => e = .exit 0 ∧ st = f194_l0_e0_J a1 a2 | .inr z => e = .ret ∧ finSt c194.fin st = f194_fin z)
def f194_l0_j2_J (a1 : Int) (a2 : List (Int × Int)) (p32 : Int) : St := ⟨(up (up (up (up u0 9 (dI p32)) 8 (dI (a2.length : Int))) 7 (dE e_A39 a2)) 0 (dI a1)), h0⟩
def f194_l0_j2 (a1 : Int) (a2 : List (Int × Int)) (p32 : Int) : Option (Int ⊕ (Unit ⊕ Bool)) := ((idx a2 p32).bind fun z4 => (bif (decide (z4.1 ≤ a1)) then (bif (decide (a1 ≤ z4.2)) then (some (.inr (.inr true))) else (some (.inl (IntKind.i64.wrap (p32 + 1))))) else (some (.inl (IntKind.i64.wrap (p32 + 1))))))
theorem f194_l0_j2_ok (hd : 1 ≤ d) (a1 : Int) (a2 : List (Int × Int)) {r : Int ⊕ (Unit ⊕ Bool)} (hQ : FQ (finL (f194_l0_H a1 a2) (f194_l0_X a1 a2) r) Q) (p32 : Int) (hS : f194_l0_j2 a1 a2 p32 = some r) (he : keepSt [0, 7, 8, 9] [] [] st = f194_l0_j2_J a1 a2 p32) : ZX d Q c194_1 [] st := by
 refine zrKeep he ?_
 unfold f194_l0_j2 at hS
 refine zrSeq (zrBlk (zS ?_))
 refine bindE hS (fun z4 hz4 hS => zO (v := (.rptr (e_A39.enc z4 ++ (e_A39.cells (a2.drop ((p32 : Int).toNat + 1)))))) (ups := []) (some 11) 1 (.ixS 39 2 (tm 7) (tm 9)) (ev_ixS e_A39 (kk := .i64) (xs := a2) (j := p32) (by kernel_rfl) (by kernel_rfl) hz4 rfl (by intro h; cases h)) (zL 3 4 (zK (zS (zL 3 3 ?_)))))
 refine sB 16 4 (.cmpI .geq (tm 13) (tm 15)) hS (fun hS => ?_) (fun hS => ?_)
 ·refine zL 4 8 (sH 21 9 17 true (.cmpI .leq (tm 18) (tm 20)) hS (fun hS => ?_) (fun hS => ?_))
  ·refine zL 1 10 (zK (zT (zS (zL 1 1 (zK ?_)))))
   exact zrRet (zkBlkR (zkSeqR (zkNil (eX1 hS hQ))))
  ·refine zL 1 10 (zK (zF ?_))
   refine zrSkip (zkBlk (zkSeq (zrReg (zL 2 2 (zE ?_)))))
   exact zkNil (eN1 hS hQ)
 ·refine zL 6 10 (zK (zF ?_))
  refine zrSkip (zkBlk (zkSeq (zrReg (zL 2 2 (zE ?_)))))
  exact zkNil (eN1 hS hQ)
def f194_l0_j1_J (a1 : Int) (a2 : List (Int × Int)) (p30 : Int) (p31 : Bool) : St := ⟨(up (up (up (up (up u0 10 (dB p31)) 9 (dI p30)) 8 (dI (a2.length : Int))) 7 (dE e_A39 a2)) 0 (dI a1)), h0⟩
def f194_l0_j1 (a1 : Int) (a2 : List (Int × Int)) (p30 : Int) (p31 : Bool) : Option (Int ⊕ (Unit ⊕ Bool)) := (bif p31 then (f194_l0_j2 a1 a2 p30) else (some (.inr (.inl ()))))
theorem f194_l0_j1_ok (hd : 1 ≤ d) (a1 : Int) (a2 : List (Int × Int)) {r : Int ⊕ (Unit ⊕ Bool)} (hQ : FQ (finL (f194_l0_H a1 a2) (f194_l0_X a1 a2) r) Q) (p30 : Int) (p31 : Bool) (hS : f194_l0_j1 a1 a2 p30 p31 = some r) (he : keepSt [0, 7, 8, 9, 10] [] [] st = f194_l0_j1_J a1 a2 p30 p31) : ZX d Q c194_2 [] st := by
 refine zrKeep he ?_
 unfold f194_l0_j1 at hS
 refine zrSeq (sR 10 hS (fun hS => ?_) (fun hS => ?_))
 ·exact zT (zrSkip (zkSeq (f194_l0_j2_ok hd a1 a2 hQ p30 hS (by kernel_rfl))))
 ·exact zF (zrKeep (J := f194_l0_e0_J a1 a2) (by kernel_rfl) (zrExit (zkSeqX (zkNil (eX0 hS hQ)))))
def f194_l0 (a1 : Int) (a2 : List (Int × Int)) (x : Int) : Option (Int ⊕ (Unit ⊕ Bool)) := (bif (decide (x < (a2.length : Int))) then (f194_l0_j1 a1 a2 x true) else (f194_l0_j1 a1 a2 x false))
theorem f194_l0_ok (hd : 1 ≤ d) (a1 : Int) (a2 : List (Int × Int)) {r : Int ⊕ (Unit ⊕ Bool)} (hQ : FQ (finL (f194_l0_H a1 a2) (f194_l0_X a1 a2) r) Q) {x : Int} (hS : f194_l0 a1 a2 x = some r) (he : f194_l0_H a1 a2 x st) : ZX d Q c194_3 [] st := by
 refine zrKeep he ?_
 unfold f194_l0 at hS
 refine zS ?_
 refine sB 10 1 (.cmpI .lss (tm 9) (tm 8)) hS (fun hS => ?_) (fun hS => ?_)
 ·refine zK ?_
  exact f194_l0_j1_ok hd a1 a2 hQ x true hS (by kernel_rfl)
 ·refine zK ?_
  exact f194_l0_j1_ok hd a1 a2 hQ x false hS (by kernel_rfl)
def f194 (a1 : Int) (a2 : List (Int × Int)) : Option (Bool) := ((loopO (f194_l0 a1 a2) 0).bind fun z5 => (Sum.elim (fun z6 => (some false)) (fun z7 => (some z7)) z5))
theorem f194_ok (d : Nat) (hd : 1 ≤ d) (a1 : Int) (a2 : List (Int × Int)) (r : Bool) (hS : f194 a1 a2 = some r) : lev codes baseL d 194 [(dI a1), (dE e_A39 a2)] [] = some ((dB r), []) := by
 refine lvG hd (fun Q hQ => ?_) codes194
 unfold f194 at hS
 show ZR _ Q c194_b [] _
 replace hQ : FQ (f194_Q r) Q := hQ
 refine zS (zL 1 1 (zK (zrSeq (zS (zL 3 3 (zK ?_))))))
 refine zrBlk (bindE hS (fun z5 hz5 hS => zrLoop (f194_l0_H a1 a2) (f194_l0_X a1 a2) (fun x st r Q h0 hS hQ => f194_l0_ok hd a1 a2 hQ hS h0) (x := 0) (z := z5) (by show keepSt _ _ _ _ = _; kernel_rfl) hz5 ?_))
 rcases z5 with z6 | z7
 ·replace hS := (show _ = _ from hS)
  simp only [seL] at hS
  intro e st' _ hX
  obtain ⟨rfl, rfl⟩ : _ ∧ _ := hX
  refine zkBlkX (zkSeq (zS (zL 1 1 (zK ?_))))
  exact zrRet (zkNil (endQ hS hQ (fR (f194_out false))))
 ·simp only [seR] at hS
  intro e st' _ hX
  obtain ⟨rfl, hX⟩ : _ ∧ _ := hX
  exact zkBlkR (zkSeqR (zkNil (endQ hS hQ (fRet (by kernel_rfl) ((congrArg (fun s => outR s 0 c194.res) hX).trans (f194_out z7))))))
/- farwriter/width.Of -/
def f146_fin (p2 : Int) : St := ⟨(up u0 2 (dI p2)), h0⟩
theorem f146_out (p2 : Int) : outR (f146_fin p2) 0 c146.res = some ((dI p2), []) := by
 kernel_rfl
def f146_Q (r : Int) (e : PX) (st : St) : Prop := DoneF c146 0 ((dI r), []) e st
def f146_j0_J (a1 : Int) (p4 : Bool) : St := ⟨(up (up (up u0 25 (dB p4)) 4 (pt 40)) 0 (dI a1)), (up h0 40 ⟨0, some (.box ((e_A39.row 12 (fun i => ([(4352, 4447), (11904, 12350), (12353, 19903), (19968, 42191), (44032, 55203), (63744, 64255), (65072, 65135), (65280, 65376), (65504, 65510), (127744, 128591), (129280, 129535), (131072, 262141)] : List (Int × Int)).getD i (0, 0))) ++ []))⟩)⟩
def f146_j0 (a1 : Int) (p4 : Bool) : Option (Int) := (bif p4 then (some 0) else ((f194 a1 [(4352, 4447), (11904, 12350), (12353, 19903), (19968, 42191), (44032, 55203), (63744, 64255), (65072, 65135), (65280, 65376), (65504, 65510), (127744, 128591), (129280, 129535), (131072, 262141)]).bind fun z4 => (bif z4 then (some 2) else (some 1))))
theorem f146_j0_ok (hd : 2 ≤ d) (a1 : Int) {r : Int} (hQ : FQ (f146_Q r) Q) (p4 : Bool) (hS : f146_j0 a1 p4 = some r) (he : keepSt [0, 4, 25] [(40, .id 40)] [] st = f146_j0_J a1 p4) : ZX d Q c146_1 [.blk 0, .seq c146_2] st := by
 refine zrKeep he ?_
 unfold f146_j0 at hS
 refine sR 25 hS (fun hS => ?_) (fun hS => ?_)
 ·refine zT (zS (zL 1 1 (zK ?_)))
  exact zrRet (zkBlkR (zkSeqR (zkNil (endQ hS hQ (fR (f146_out 0))))))
 ·refine zF (zS (zL 2 2 ?_))
  refine bindE hS (fun z4 hz4 hS => zO (some 40) 3 (.call 194 [(tm 38), (tm 39)]) (ev_cA (f194_ok (d - 1) (dpt hd rfl) a1 [(4352, 4447), (11904, 12350), (12353, 19903), (19968, 42191), (44032, 55203), (63744, 64255), (65072, 65135), (65280, 65376), (65504, 65510), (127744, 128591), (129280, 129535), (131072, 262141)] z4 hz4)) (zL 1 4 (zK ?_)))
  refine sR 37 hS (fun hS => ?_) (fun hS => ?_)
  ·refine zT (zS (zL 1 1 (zK ?_)))
   exact zrRet (zkBlkR (zkSeqR (zkNil (endQ hS hQ (fR (f146_out 2))))))
  ·refine zF (zrSkip (zkBlk (zkSeq (zS (zL 1 1 (zK ?_))))))
   exact zrRet (zkNil (endQ hS hQ (fR (f146_out 1))))
def f146 (a1 : Int) : Option (Int) := (bif (decide (a1 < 0)) then (f146_j0 a1 true) else (bif (decide (1114111 < a1)) then (f146_j0 a1 true) else ((f194 a1 [(0, 31), (127, 159), (768, 879), (8203, 8207), (55296, 57343), (65024, 65039)]).bind fun z5 => (f146_j0 a1 z5))))
theorem f146_ok (d : Nat) (hd : 2 ≤ d) (a1 : Int) (r : Int) (hS : f146 a1 = some r) : lev codes baseL d 146 [(dI a1)] [] = some ((dI r), []) := by
 refine lvG hd (fun Q hQ => ?_) codes146
 unfold f146 at hS
 show ZR _ Q c146_b [] _
 replace hQ : FQ (f146_Q r) Q := hQ
 refine zS (zL 1 1 (zK (zS (zL 9 9 (zK (zS (zL 15 15 (zK (zrSeq ?_)))))))))
 refine zrBlk (zS (zL 1 1 ?_))
 refine sB 27 2 (.cmpI .lss (tm 26) (ki 0)) hS (fun hS => ?_) (fun hS => ?_)
 ·refine zL 10 12 (zK ?_)
  exact f146_j0_ok hd a1 hQ true hS (by kernel_rfl)
 ·refine zL 2 4 (sH 30 5 28 false (.cmpI .gtr (tm 29) (ki 1114111)) hS (fun hS => ?_) (fun hS => ?_))
  ·refine zL 7 12 (zK ?_)
   exact f146_j0_ok hd a1 hQ true hS (by kernel_rfl)
  ·refine zL 4 9 (bindE hS (fun z5 hz5 hS => zG (some 35) 10 32 false (.call 194 [(tm 33), (tm 34)]) (ev_cA (f194_ok (d - 1) (dpt hd rfl) a1 [(0, 31), (127, 159), (768, 879), (8203, 8207), (55296, 57343), (65024, 65039)] z5 hz5)) (zL 2 12 (zK ?_))))
   exact f146_j0_ok hd a1 hQ z5 hS (by kernel_rfl)
/- farwriter/grid.lone$1 -/
def f195_fin (p4 : Bool) : St := ⟨(up u0 3 (dB p4)), h0⟩
theorem f195_out (p4 : Bool) : outR (f195_fin p4) 0 c195.res = some ((dB p4), []) := by
 kernel_rfl
def f195_Q (r : Bool) (e : PX) (st : St) : Prop := DoneF c195 0 ((dB r), []) e st
def f195 (a1 : Int) (a2 : List GCell) (a3 : List PD) : Option (Bool) := (bif (decide (a1 < (a2.length : Int))) then ((idx a2 a1).bind fun z4 => (bif (decide (z4.Rune = 0)) then ((idx a2 a1).bind fun z5 => ((idx a2 (IntKind.i64.wrap (a1 - 1))).bind fun z6 => (bif (decide (z5.Pen.Flags = z6.Pen.Flags) && (decide (z5.Pen.Fore = z6.Pen.Fore) && (decide (z5.Pen.Back = z6.Pen.Back) && true))) then (some true) else (some false)))) else (some false))) else (some false))
theorem f195_ok (d : Nat) (hd : 1 ≤ d) (a1 : Int) (a2 : List GCell) (a3 : List PD) (r : Bool) (hS : f195 a1 a2 a3 = some r) : lev codes baseL d 195 [(dI a1), (.rptr ((eSl e_GCell).enc a2 ++ a3))] [] = some ((dB r), []) := by
 refine lvG hd (fun Q hQ => ?_) codes195
 unfold f195 at hS
 show ZR _ Q c195_b [] _
 replace hQ : FQ (f195_Q r) Q := hQ
 refine zS (zL 1 1 (zK (zrSeq ?_)))
 refine zrRegD (zdR 3 3 (sDB 7 4 none (.cmpI .lss (tm 4) (tm 6)) hS (fun hS => ?_) (fun hS => ?_)))
 ·refine zdR 3 7 (bindE hS (fun z4 hz4 hS => zdO (v := (.rptr (e_GCell.enc z4 ++ (e_GCell.cells (a2.drop ((a1 : Int).toNat + 1)))))) (ups := []) (some 11) 8 (some (8, true)) (.ixS 100 4 (tm 9) (tm 10)) (ev_ixS e_GCell (kk := .i64) (xs := a2) (j := a1) (by kernel_rfl) (by kernel_rfl) hz4 rfl (by intro h; cases h)) (zdR 2 10 (sDB 14 11 (some (8, true)) (ck 13 0) hS (fun hS => ?_) (fun hS => ?_)))))
  ·refine zdR 4 15 (bindE hS (fun z5 hz5 hS => zdO (v := (.rptr (e_GCell.enc z5 ++ (e_GCell.cells (a2.drop ((a1 : Int).toNat + 1)))))) (ups := []) (some 19) 16 (some (16, true)) (.ixS 100 4 (tm 17) (tm 18)) (ev_ixS e_GCell (kk := .i64) (xs := a2) (j := a1) (by kernel_rfl) (by kernel_rfl) hz5 rfl (by intro h; cases h)) (zdR 5 21 (bindE hS (fun z6 hz6 hS => zdO (v := (.rptr (e_GCell.enc z6 ++ (e_GCell.cells (a2.drop (((IntKind.i64.wrap (a1 - 1)) : Int).toNat + 1)))))) (ups := []) (some 25) 22 (some (16, true)) (.ixS 100 4 (tm 22) (tm 24)) (ev_ixS e_GCell (kk := .i64) (xs := a2) (j := (IntKind.i64.wrap (a1 - 1))) (by kernel_rfl) (by kernel_rfl) hz6 rfl (by intro h; cases h)) (zdR 2 24 (sDB 28 25 (some (16, true)) (.eqA .false [(3, .int)] (tm 21) (tm 27)) hS (fun hS => ?_) (fun hS => ?_))))))))
   ·exact zdR 2 27 (zdE (zkSeq (zrRet (zkNil (endQ hS hQ (fR (f195_out true)))))))
   ·exact zdR 2 27 (zdE (zkSeq (zrRet (zkNil (endQ hS hQ (fR (f195_out false)))))))
  ·exact zdR 16 27 (zdE (zkSeq (zrRet (zkNil (endQ hS hQ (fR (f195_out false)))))))
 ·exact zdR 23 27 (zdE (zkSeq (zrRet (zkNil (endQ hS hQ (fR (f195_out false)))))))
/- farwriter/grid.lone -/
def f147_fin (p4 : Bool) : St := ⟨(up u0 4 (dB p4)), h0⟩
theorem f147_out (p4 : Bool) : outR (f147_fin p4) 0 c147.res = some ((dB p4), []) := by
 kernel_rfl
def f147_Q (r : Bool) (e : PX) (st : St) : Prop := DoneF c147 0 ((dB r), []) e st
def f147_j0_J (a1 : List GCell) (a2 : Int) : St := ⟨(up (up (up u0 5 (.fn 195 [(pt 24)])) 2 (pt 24)) 1 (dI a2)), (up h0 24 ⟨0, some (.box ((dE e_GCell a1) :: []))⟩)⟩
def f147_j0 (a1 : List GCell) (a2 : Int) : Option (Bool) := ((idx a1 a2).bind fun z12 => ((f146 z12.Rune).bind fun z13 => (bif (decide (z13 = 2)) then ((f195 (IntKind.i64.wrap (a2 + 1)) a1 []).bind fun z14 => (some (!z14))) else (some false))))
theorem f147_j0_ok (hd : 3 ≤ d) (a1 : List GCell) (a2 : Int) {r : Bool} (hQ : FQ (f147_Q r) Q)  (hS : f147_j0 a1 a2 = some r) (he : keepSt [1, 2, 5] [(24, .id 24)] [] st = f147_j0_J a1 a2) : ZX d Q c147_1 [] st := by
 refine zrKeep he ?_
 unfold f147_j0 at hS
 refine zS (zL 2 2 ?_)
 refine bindE hS (fun z12 hz12 hS => zO (v := (.rptr (e_GCell.enc z12 ++ (e_GCell.cells (a1.drop ((a2 : Int).toNat + 1)))))) (ups := []) (some 33) 3 (.ixS 100 4 (tm 31) (tm 32)) (ev_ixS e_GCell (kk := .i64) (xs := a1) (j := a2) (by kernel_rfl) (by kernel_rfl) hz12 rfl (by intro h; cases h)) (zL 2 5 (bindE hS (fun z13 hz13 hS => zO (some 36) 6 (c1 146 35) (ev_cA (f146_ok (d - 1) (dpt hd rfl) z12.Rune z13 hz13)) (sB 37 7 (ck 36 2) hS (fun hS => ?_) (fun hS => ?_))))))
 ·refine zL 4 11 (bindE hS (fun z14 hz14 hS => zG (v := (dB z14)) (ups := []) (some 42) 12 38 true (.callv (tm 39) [(tm 41)]) (ev_callv (f := 195) (cs := [(pt 24)]) (by kernel_rfl) (args := [(dI (IntKind.i64.wrap (a2 + 1))), (pt 24)]) (l := [(dI (IntKind.i64.wrap (a2 + 1))), (.rptr ((eSl e_GCell).enc a1 ++ []))]) (r := (dB z14)) (by kernel_rfl) (by kernel_rfl) (f195_ok (d - 1) (dpt hd rfl) (IntKind.i64.wrap (a2 + 1)) a1 [] z14 hz14) (by kernel_rfl) (by kernel_rfl) (by kernel_rfl)) (zL 3 15 (zK ?_))))
  exact zrRet (zkNil (endQ hS hQ (fR (f147_out (!z14)))))
 ·refine zL 8 15 (zK ?_)
  exact zrRet (zkNil (endQ hS hQ (fR (f147_out false))))
def f147 (a1 : List GCell) (a2 : Int) : Option (Bool) := ((idx a1 a2).bind fun z16 => (bif (decide (z16.Rune = 0)) then (bif (decide (a2 = 0)) then (some true) else ((idx a1 (IntKind.i64.wrap (a2 - 1))).bind fun z17 => ((f146 z17.Rune).bind fun z18 => (bif (!decide (z18 = 2)) then (some true) else ((f195 a2 a1 []).bind fun z19 => (some (!z19))))))) else (f147_j0 a1 a2 )))
theorem f147_ok (d : Nat) (hd : 3 ≤ d) (a1 : List GCell) (a2 : Int) (r : Bool) (hS : f147 a1 a2 = some r) : lev codes baseL d 147 [(dE e_GCell a1), (dI a2)] [] = some ((dB r), []) := by
 refine lvG hd (fun Q hQ => ?_) codes147
 unfold f147 at hS
 show ZR _ Q c147_b [] _
 replace hQ : FQ (f147_Q r) Q := hQ
 refine zS (zL 2 2 (zK (zS (zL 2 2 (zK (zrSeq (zS (zL 2 2 ?_))))))))
 refine bindE hS (fun z16 hz16 hS => zO (v := (.rptr (e_GCell.enc z16 ++ (e_GCell.cells (a1.drop ((a2 : Int).toNat + 1)))))) (ups := []) (some 9) 3 (.ixS 100 4 (tm 7) (tm 8)) (ev_ixS e_GCell (kk := .i64) (xs := a1) (j := a2) (by kernel_rfl) (by kernel_rfl) hz16 rfl (by intro h; cases h)) (zL 2 5 (sB 12 6 (ck 11 0) hS (fun hS => ?_) (fun hS => ?_))))
 ·refine zK (zT (zS (zL 1 1 ?_)))
  refine sB 14 2 (ck 13 0) hS (fun hS => ?_) (fun hS => ?_)
  ·refine zL 17 19 (zK ?_)
   exact zrRet (zkSeqR (zkNil (endQ hS hQ (fR (f147_out true)))))
  ·refine zL 4 6 (bindE hS (fun z17 hz17 hS => zG (v := (.rptr (e_GCell.enc z17 ++ (e_GCell.cells (a1.drop (((IntKind.i64.wrap (a2 - 1)) : Int).toNat + 1)))))) (ups := []) (some 19) 7 15 false (.ixS 100 4 (tm 16) (tm 18)) (ev_ixS e_GCell (kk := .i64) (xs := a1) (j := (IntKind.i64.wrap (a2 - 1))) (by kernel_rfl) (by kernel_rfl) hz17 rfl (by intro h; cases h)) (zL 2 9 (bindE hS (fun z18 hz18 hS => zG (some 22) 10 15 false (c1 146 21) (ev_cA (f146_ok (d - 1) (dpt hd rfl) z17.Rune z18 hz18)) (sH 23 11 15 false (.cmpI .neq (tm 22) (ki 2)) hS (fun hS => ?_) (fun hS => ?_)))))))
   ·refine zL 8 19 (zK ?_)
    exact zrRet (zkSeqR (zkNil (endQ hS hQ (fR (f147_out true)))))
   ·refine zL 4 15 (bindE hS (fun z19 hz19 hS => zG (v := (dB z19)) (ups := []) (some 28) 16 25 false (.callv (tm 26) [(tm 27)]) (ev_callv (f := 195) (cs := [(.r (.ptr 24 1 0))]) (by kernel_rfl) (args := [(dI a2), (.r (.ptr 24 1 0))]) (l := [(dI a2), (.rptr ((eSl e_GCell).enc a1 ++ []))]) (r := (dB z19)) (by kernel_rfl) (by kernel_rfl) (f195_ok (d - 1) (dpt hd rfl) a2 a1 [] z19 hz19) (by kernel_rfl) (by kernel_rfl) (by kernel_rfl)) (zL 3 19 (zK ?_))))
    exact zrRet (zkSeqR (zkNil (endQ hS hQ (fR (f147_out (!z19))))))
 ·refine zK (zF ?_)
  exact zrSkip (zkSeq (f147_j0_ok hd a1 a2 hQ  hS (by kernel_rfl)))
/- farwriter/grid.Check -/
def f83_fin (p235 : Int) : St := ⟨(up u0 2 (dI p235)), h0⟩
theorem f83_out (p235 : Int) : outR (f83_fin p235) 0 c83.res = some ((dI p235), []) := by
 kernel_rfl
def f83_Q (r : Int) (e : PX) (st : St) : Prop := DoneF c83 0 ((dI r), []) e st
def f83_l2_J (a1 : GGrid) (x : Int) : St := ⟨(up (up (up u0 27 (dI x)) 26 (dI a1.High)) 1 (pt 16)), (up h0 16 ⟨0, some (.box (q20_ a1))⟩)⟩
def f83_l2_H (a1 : GGrid) (x : Int) (st : St) : Prop := keepSt [1, 26, 27] [(16, .id 16)] [] st = f83_l2_J a1 x
def f83_l2_e0_J (a1 : GGrid) : St := ⟨u0, h0⟩
def f83_l2_X (a1 : GGrid) (z : Unit ⊕ Int) (e : PX) (st : St) : Prop := (match z with | .inl z => e = .exit 0 ∧ st = f83_l2_e0_J a1 | .inr z => e = .ret ∧ finSt c83.fin st = f83_fin z)
def f83_l2_l5_J (a1 : GGrid) (x : (List GCell) × Int × (List GCell) × Int × Int) : St := ⟨(up (up (up (up (up (up (up u0 35 (dI x.2.2.2.2)) 34 (dI x.2.2.2.1)) 33 (dE e_GCell x.2.2.1)) 27 (dI x.2.1)) 26 (dI a1.High)) 5 (dE e_GCell x.1)) 1 (pt 16)), (up h0 16 ⟨0, some (.box (q20_ a1))⟩)⟩
def f83_l2_l5_H (a1 : GGrid) (x : (List GCell) × Int × (List GCell) × Int × Int) (st : St) : Prop := keepSt [1, 5, 26, 27, 33, 34, 35] [(16, .id 16)] [] st = f83_l2_l5_J a1 x
def f83_l2_l5_e2_J (a1 : GGrid) (p323 : Int) : St := ⟨(up (up (up u0 27 (dI p323)) 26 (dI a1.High)) 1 (pt 16)), (up h0 16 ⟨0, some (.box (q20_ a1))⟩)⟩
def f83_l2_l5_X (a1 : GGrid) (z : Int ⊕ Int) (e : PX) (st : St) : Prop := (match z with | .inl z => e = .exit 2 ∧ st = f83_l2_l5_e2_J a1 z | .inr z => e = .ret ∧ finSt c83.fin st = f83_fin z)
def f83_l2_l5_j7_J (a1 : GGrid) (p336 : List GCell) (p337 : Int) (p338 : List GCell) (p339 : Int) (p340 : Int) : St := ⟨(up (up (up (up (up (up (up u0 35 (dI p340)) 34 (dI p339)) 33 (dE e_GCell p338)) 27 (dI p337)) 26 (dI a1.High)) 5 (dE e_GCell p336)) 1 (pt 16)), (up h0 16 ⟨0, some (.box (q20_ a1))⟩)⟩
def f83_l2_l5_j7 (a1 : GGrid) (p336 : List GCell) (p337 : Int) (p338 : List GCell) (p339 : Int) (p340 : Int) : Option (((List GCell) × Int × (List GCell) × Int × Int) ⊕ (Int ⊕ Int)) := ((idx p338 p340).bind fun z67 => ((f84 z67.Pen).bind fun z68 => (bif (!decide (z68 = 0)) then (some (.inr (.inr 4))) else (bif (!decide (z67.Rune = 0)) then ((f146 z67.Rune).bind fun z69 => (bif (decide (z69 = 0)) then (some (.inr (.inr 4))) else ((f147 p336 p340).bind fun z70 => (bif z70 then (some (.inr (.inr 4))) else (some (.inl (p336, p337, p338, p339, (IntKind.i64.wrap (p340 + 1))))))))) else ((f147 p336 p340).bind fun z71 => (bif z71 then (some (.inr (.inr 4))) else (some (.inl (p336, p337, p338, p339, (IntKind.i64.wrap (p340 + 1)))))))))))
theorem f83_l2_l5_j7_ok (hd : 4 ≤ d) (a1 : GGrid) {r : ((List GCell) × Int × (List GCell) × Int × Int) ⊕ (Int ⊕ Int)} (hQ : FQ (finL (f83_l2_l5_H a1) (f83_l2_l5_X a1) r) Q) (p336 : List GCell) (p337 : Int) (p338 : List GCell) (p339 : Int) (p340 : Int) (hS : f83_l2_l5_j7 a1 p336 p337 p338 p339 p340 = some r) (he : keepSt [1, 5, 26, 27, 33, 34, 35] [(16, .id 16)] [] st = f83_l2_l5_j7_J a1 p336 p337 p338 p339 p340) : ZX d Q c83_1 [] st := by
 refine zrKeep he ?_
 unfold f83_l2_l5_j7 at hS
 refine zrSeq (zrBlk (zS (zL 1 1 ?_)))
 refine bindE hS (fun z67 hz67 hS => zO (v := (.rptr (e_GCell.enc z67 ++ (e_GCell.cells (p338.drop ((p340 : Int).toNat + 1)))))) (ups := []) (some 38) 2 (.ixS 100 4 (tm 33) (tm 35)) (ev_ixS e_GCell (kk := .i64) (xs := p338) (j := p340) (by kernel_rfl) (by kernel_rfl) hz67 rfl (by intro h; cases h)) (zL 4 6 (zK (zS (zL 2 2 ?_)))))
 refine bindE hS (fun z68 hz68 hS => zO (some 42) 3 (c1 84 41) (ev_cA (f84_ok (d - 1) (dpt hd rfl) z67.Pen z68 hz68)) (sB 43 4 (.cmpI .neq (tm 42) (ki 0)) hS (fun hS => ?_) (fun hS => ?_)))
 ·refine zL 16 20 (zK (zT (zS (zL 1 1 (zK ?_)))))
  exact zrRet (zkBlkR (zkSeqR (zkNil (eX1 hS hQ))))
 ·refine zL 3 7 (sH 47 8 44 false (.cmpI .neq (tm 46) (ki 0)) hS (fun hS => ?_) (fun hS => ?_))
  ·refine zL 3 11 (bindE hS (fun z69 hz69 hS => zG (some 51) 12 48 true (c1 146 50) (ev_cA (f146_ok (d - 1) (dpt hd rfl) z67.Rune z69 hz69)) (sH 52 13 48 true (ck 51 0) hS (fun hS => ?_) (fun hS => ?_))))
   ·refine zL 7 20 (zK (zT (zS (zL 1 1 (zK ?_)))))
    exact zrRet (zkBlkR (zkSeqR (zkNil (eX1 hS hQ))))
   ·refine zL 5 18 (bindE hS (fun z70 hz70 hS => zG (some 58) 19 55 false (.call 147 [(tm 56), (tm 57)]) (ev_cA (f147_ok (d - 1) (dpt hd rfl) p336 p340 z70 hz70)) (zL 1 20 (zK ?_))))
    refine sR 59 hS (fun hS => ?_) (fun hS => ?_)
    ·refine zT (zS (zL 1 1 (zK ?_)))
     exact zrRet (zkBlkR (zkSeqR (zkNil (eX1 hS hQ))))
    ·refine zF (zrSkip (zkBlk (zkSeq (zrReg (zL 2 2 (zE ?_))))))
     exact zkNil (eN1 hS hQ)
  ·refine zL 10 18 (bindE hS (fun z71 hz71 hS => zG (some 58) 19 55 false (.call 147 [(tm 56), (tm 57)]) (ev_cA (f147_ok (d - 1) (dpt hd rfl) p336 p340 z71 hz71)) (zL 1 20 (zK ?_))))
   refine sR 59 hS (fun hS => ?_) (fun hS => ?_)
   ·refine zT (zS (zL 1 1 (zK ?_)))
    exact zrRet (zkBlkR (zkSeqR (zkNil (eX1 hS hQ))))
   ·refine zF (zrSkip (zkBlk (zkSeq (zrReg (zL 2 2 (zE ?_))))))
    exact zkNil (eN1 hS hQ)
def f83_l2_l5_j6_J (a1 : GGrid) (p330 : List GCell) (p331 : Int) (p332 : List GCell) (p333 : Int) (p334 : Int) (p335 : Bool) : St := ⟨(up (up (up (up (up (up (up (up u0 36 (dB p335)) 35 (dI p334)) 34 (dI p333)) 33 (dE e_GCell p332)) 27 (dI p331)) 26 (dI a1.High)) 5 (dE e_GCell p330)) 1 (pt 16)), (up h0 16 ⟨0, some (.box (q20_ a1))⟩)⟩
def f83_l2_l5_j6 (a1 : GGrid) (p330 : List GCell) (p331 : Int) (p332 : List GCell) (p333 : Int) (p334 : Int) (p335 : Bool) : Option (((List GCell) × Int × (List GCell) × Int × Int) ⊕ (Int ⊕ Int)) := (bif p335 then (f83_l2_l5_j7 a1 p330 p331 p332 p333 p334) else (some (.inr (.inl p331))))
theorem f83_l2_l5_j6_ok (hd : 4 ≤ d) (a1 : GGrid) {r : ((List GCell) × Int × (List GCell) × Int × Int) ⊕ (Int ⊕ Int)} (hQ : FQ (finL (f83_l2_l5_H a1) (f83_l2_l5_X a1) r) Q) (p330 : List GCell) (p331 : Int) (p332 : List GCell) (p333 : Int) (p334 : Int) (p335 : Bool) (hS : f83_l2_l5_j6 a1 p330 p331 p332 p333 p334 p335 = some r) (he : keepSt [1, 5, 26, 27, 33, 34, 35, 36] [(16, .id 16)] [] st = f83_l2_l5_j6_J a1 p330 p331 p332 p333 p334 p335) : ZX d Q c83_2 [] st := by
 refine zrKeep he ?_
 unfold f83_l2_l5_j6 at hS
 refine zrSeq (sR 36 hS (fun hS => ?_) (fun hS => ?_))
 ·exact zT (zrSkip (zkSeq (f83_l2_l5_j7_ok hd a1 hQ p330 p331 p332 p333 p334 hS (by kernel_rfl))))
 ·exact zF (zrKeep (J := f83_l2_l5_e2_J a1 p331) (by kernel_rfl) (zrExit (zkSeqX (zkNil (eX0 hS hQ)))))
def f83_l2_l5 (a1 : GGrid) (x : (List GCell) × Int × (List GCell) × Int × Int) : Option (((List GCell) × Int × (List GCell) × Int × Int) ⊕ (Int ⊕ Int)) := (bif (decide (x.2.2.2.2 < x.2.2.2.1)) then (f83_l2_l5_j6 a1 x.1 x.2.1 x.2.2.1 x.2.2.2.1 x.2.2.2.2 true) else (f83_l2_l5_j6 a1 x.1 x.2.1 x.2.2.1 x.2.2.2.1 x.2.2.2.2 false))
theorem f83_l2_l5_ok (hd : 4 ≤ d) (a1 : GGrid) {r : ((List GCell) × Int × (List GCell) × Int × Int) ⊕ (Int ⊕ Int)} (hQ : FQ (finL (f83_l2_l5_H a1) (f83_l2_l5_X a1) r) Q) {x : (List GCell) × Int × (List GCell) × Int × Int} (hS : f83_l2_l5 a1 x = some r) (he : f83_l2_l5_H a1 x st) : ZX d Q c83_3 [] st := by
 refine zrKeep he ?_
 unfold f83_l2_l5 at hS
 refine zS ?_
 refine sB 36 1 (.cmpI .lss (tm 35) (tm 34)) hS (fun hS => ?_) (fun hS => ?_)
 ·refine zK ?_
  exact f83_l2_l5_j6_ok hd a1 hQ x.1 x.2.1 x.2.2.1 x.2.2.2.1 x.2.2.2.2 true hS (by kernel_rfl)
 ·refine zK ?_
  exact f83_l2_l5_j6_ok hd a1 hQ x.1 x.2.1 x.2.2.1 x.2.2.2.1 x.2.2.2.2 false hS (by kernel_rfl)
def f83_l2_j4_J (a1 : GGrid) (p243 : Int) : St := ⟨(up (up (up u0 27 (dI p243)) 26 (dI a1.High)) 1 (pt 16)), (up h0 16 ⟨0, some (.box (q20_ a1))⟩)⟩
def f83_l2_j4 (a1 : GGrid) (p243 : Int) : Option (Int ⊕ (Unit ⊕ Int)) := ((f38 a1 p243).bind fun z51 => ((loopO (f83_l2_l5 a1) (z51, p243, z51, (z51.length : Int), 0)).bind fun z72 => (Sum.elim (fun z73 => (some (.inl (IntKind.i64.wrap (z73 + 1))))) (fun z74 => (some (.inr (.inr z74)))) z72)))
theorem f83_l2_j4_ok (hd : 4 ≤ d) (a1 : GGrid) {r : Int ⊕ (Unit ⊕ Int)} (hQ : FQ (finL (f83_l2_H a1) (f83_l2_X a1) r) Q) (p243 : Int) (hS : f83_l2_j4 a1 p243 = some r) (he : keepSt [1, 26, 27] [(16, .id 16)] [] st = f83_l2_j4_J a1 p243) : ZX d Q c83_4 [] st := by
 refine zrKeep he ?_
 unfold f83_l2_j4 at hS
 refine zrSeq (zrBlk (zS (zL 2 2 (zK (zS (zL 2 2 ?_))))))
 refine bindE hS (fun z51 hz51 hS => zO (some 32) 3 (.callr 38 [(tm 30), (tm 31)]) (ev_cX [] [] (f38_ok (d - 1) (dpt hd rfl) a1 p243 z51 hz51) sm_nil) (zL 1 4 (zK (zS (zL 3 3 (zK ?_))))))
 refine zrBlk (bindE hS (fun z72 hz72 hS => zrLoop (f83_l2_l5_H a1) (f83_l2_l5_X a1) (fun x st r Q h0 hS hQ => f83_l2_l5_ok hd a1 hQ hS h0) (x := (z51, p243, z51, (z51.length : Int), 0)) (z := z72) (by show keepSt _ _ _ _ = _; kernel_rfl) hz72 ?_))
 rcases z72 with z73 | z74
 ·replace hS := (show _ = _ from hS)
  simp only [seL] at hS
  intro e st' _ hX
  obtain ⟨rfl, rfl⟩ : _ ∧ _ := hX
  refine zkBlkX (zkBlk (zkSeq (zrReg (zL 2 2 (zE ?_)))))
  exact zkNil (eN1 hS hQ)
 ·simp only [seR] at hS
  intro e st' _ hX
  obtain ⟨rfl, hX⟩ : _ ∧ _ := hX
  exact zkBlkR (zkBlkR (zkSeqR (zkNil (endQ hS hQ (finL_x (by intro h; cases h) (by show _ = _ ∧ _ = _; exact ⟨rfl, hX⟩))))))
def f83_l2_j3_J (a1 : GGrid) (p241 : Int) (p242 : Bool) : St := ⟨(up (up (up (up u0 28 (dB p242)) 27 (dI p241)) 26 (dI a1.High)) 1 (pt 16)), (up h0 16 ⟨0, some (.box (q20_ a1))⟩)⟩
def f83_l2_j3 (a1 : GGrid) (p241 : Int) (p242 : Bool) : Option (Int ⊕ (Unit ⊕ Int)) := (bif p242 then (f83_l2_j4 a1 p241) else (some (.inr (.inl ()))))
theorem f83_l2_j3_ok (hd : 4 ≤ d) (a1 : GGrid) {r : Int ⊕ (Unit ⊕ Int)} (hQ : FQ (finL (f83_l2_H a1) (f83_l2_X a1) r) Q) (p241 : Int) (p242 : Bool) (hS : f83_l2_j3 a1 p241 p242 = some r) (he : keepSt [1, 26, 27, 28] [(16, .id 16)] [] st = f83_l2_j3_J a1 p241 p242) : ZX d Q c83_5 [] st := by
 refine zrKeep he ?_
 unfold f83_l2_j3 at hS
 refine zrSeq (sR 28 hS (fun hS => ?_) (fun hS => ?_))
 ·exact zT (zrSkip (zkSeq (f83_l2_j4_ok hd a1 hQ p241 hS (by kernel_rfl))))
 ·exact zF (zrKeep (J := f83_l2_e0_J a1) (by kernel_rfl) (zrExit (zkSeqX (zkNil (eX0 hS hQ)))))
def f83_l2 (a1 : GGrid) (x : Int) : Option (Int ⊕ (Unit ⊕ Int)) := (bif (decide (x < a1.High)) then (f83_l2_j3 a1 x true) else (f83_l2_j3 a1 x false))
theorem f83_l2_ok (hd : 4 ≤ d) (a1 : GGrid) {r : Int ⊕ (Unit ⊕ Int)} (hQ : FQ (finL (f83_l2_H a1) (f83_l2_X a1) r) Q) {x : Int} (hS : f83_l2 a1 x = some r) (he : f83_l2_H a1 x st) : ZX d Q c83_6 [] st := by
 refine zrKeep he ?_
 unfold f83_l2 at hS
 refine zS ?_
 refine sB 28 1 (.cmpI .lss (tm 27) (tm 26)) hS (fun hS => ?_) (fun hS => ?_)
 ·refine zK ?_
  exact f83_l2_j3_ok hd a1 hQ x true hS (by kernel_rfl)
 ·refine zK ?_
  exact f83_l2_j3_ok hd a1 hQ x false hS (by kernel_rfl)
def f83_j1_J (a1 : GGrid) : St := ⟨(up u0 1 (pt 16)), (up h0 16 ⟨0, some (.box (q20_ a1))⟩)⟩
def f83_j1 (a1 : GGrid) : Option (Int) := ((loopO (f83_l2 a1) 0).bind fun z75 => (Sum.elim (fun z76 => (some 0)) (fun z77 => (some z77)) z75))
theorem f83_j1_ok (hd : 4 ≤ d) (a1 : GGrid) {r : Int} (hQ : FQ (f83_Q r) Q)  (hS : f83_j1 a1 = some r) (he : keepSt [1] [(16, .id 16)] [] st = f83_j1_J a1) : ZX d Q c83_7 [] st := by
 refine zrKeep he ?_
 unfold f83_j1 at hS
 refine zrSeq (zS (zL 3 3 (zK ?_)))
 refine zrBlk (bindE hS (fun z75 hz75 hS => zrLoop (f83_l2_H a1) (f83_l2_X a1) (fun x st r Q h0 hS hQ => f83_l2_ok hd a1 hQ hS h0) (x := 0) (z := z75) (by show keepSt _ _ _ _ = _; kernel_rfl) hz75 ?_))
 rcases z75 with z76 | z77
 ·replace hS := (show _ = _ from hS)
  simp only [seL] at hS
  intro e st' _ hX
  obtain ⟨rfl, rfl⟩ : _ ∧ _ := hX
  refine zkBlkX (zkSeq (zS (zL 1 1 (zK ?_))))
  exact zrRet (zkNil (endQ hS hQ (fR (f83_out 0))))
 ·simp only [seR] at hS
  intro e st' _ hX
  obtain ⟨rfl, hX⟩ : _ ∧ _ := hX
  exact zkBlkR (zkSeqR (zkNil (endQ hS hQ (fRet (by kernel_rfl) ((congrArg (fun s => outR s 0 c83.res) hX).trans (f83_out z77))))))
def f83_j0_J (a1 : GGrid) : St := ⟨(up u0 1 (pt 16)), (up h0 16 ⟨0, some (.box (q20_ a1))⟩)⟩
def f83_j0 (a1 : GGrid) : Option (Int) := (bif (!decide ((a1.Cells.length : Int) = (IntKind.i64.wrap (a1.Wide * a1.High)))) then (some 4) else (f83_j1 a1 ))
theorem f83_j0_ok (hd : 4 ≤ d) (a1 : GGrid) {r : Int} (hQ : FQ (f83_Q r) Q)  (hS : f83_j0 a1 = some r) (he : keepSt [1] [(16, .id 16)] [] st = f83_j0_J a1) : ZX d Q c83_8 [] st := by
 refine zrKeep he ?_
 unfold f83_j0 at hS
 refine zrSeq (zS (zL 8 8 ?_))
 refine sB 24 9 (.cmpI .neq (tm 18) (tm 23)) hS (fun hS => ?_) (fun hS => ?_)
 ·refine zK (zT (zS (zL 1 1 (zK ?_))))
  exact zrRet (zkSeqR (zkNil (endQ hS hQ (fR (f83_out 4)))))
 ·refine zK (zF ?_)
  exact zrSkip (zkSeq (f83_j1_ok hd a1 hQ  hS (by kernel_rfl)))
def f83 (a1 : GGrid) : Option (Int) := ((f89 a1.Wide a1.High).bind fun z78 => (bif (!decide (z78 = 0)) then (some z78) else (f83_j0 a1 )))
theorem f83_ok (d : Nat) (hd : 4 ≤ d) (a1 : GGrid) (r : Int) (hS : f83 a1 = some r) : lev codes baseL d 83 [(.agg (q20_ a1))] [] = some ((dI r), []) := by
 refine lvG hd (fun Q hQ => ?_) codes83
 unfold f83 at hS
 show ZR _ Q c83_b [] _
 replace hQ : FQ (f83_Q r) Q := hQ
 refine zS (zL 2 2 (zK (zrSeq (zS (zL 4 4 ?_)))))
 refine bindE hS (fun z78 hz78 hS => zO (some 12) 5 (.call 89 [(tm 9), (tm 11)]) (ev_cA (f89_ok (d - 1) (dpt hd rfl) a1.Wide a1.High z78 hz78)) (zL 1 6 (zK (zS (zL 1 1 ?_)))))
 refine sB 14 2 (.cmpI .neq (tm 13) (ki 0)) hS (fun hS => ?_) (fun hS => ?_)
 ·refine zK (zT (zS (zL 2 2 (zK ?_))))
  exact zrRet (zkSeqR (zkNil (endQ hS hQ (fR (f83_out z78)))))
 ·refine zK (zF ?_)
  exact zrSkip (zkSeq (f83_j0_ok hd a1 hQ  hS (by kernel_rfl)))
/- farwriter/screen.within -/
def f98_fin (p3 : Bool) : St := ⟨(up u0 6 (dB p3)), h0⟩
theorem f98_out (p3 : Bool) : outR (f98_fin p3) 0 c98.res = some ((dB p3), []) := by
 kernel_rfl
def f98_Q (r : Bool) (e : PX) (st : St) : Prop := DoneF c98 0 ((dB r), []) e st
def f98 (a1 : Int) (a2 : Int) (a3 : Int) : Option (Bool) := (bif (decide (a2 ≤ a1)) then (bif (decide (a1 ≤ a3)) then (some true) else (some false)) else (some false))
theorem f98_ok (d : Nat) (hd : 1 ≤ d) (a1 : Int) (a2 : Int) (a3 : Int) (r : Bool) (hS : f98 a1 a2 a3 = some r) : lev codes baseL d 98 [(dI a1), (dI a2), (dI a3)] [] = some ((dB r), []) := by
 refine lvG hd (fun Q hQ => ?_) codes98
 unfold f98 at hS
 show ZR _ Q c98_b [] _
 replace hQ : FQ (f98_Q r) Q := hQ
 refine zS (zL 1 1 (zK (zS (zL 2 2 ?_))))
 refine sB 9 3 (.cmpI .geq (tm 7) (tm 8)) hS (fun hS => ?_) (fun hS => ?_)
 ·refine zL 3 6 (sH 13 7 10 true (.cmpI .leq (tm 11) (tm 12)) hS (fun hS => ?_) (fun hS => ?_))
  ·refine zL 2 9 (zK ?_)
   exact zrRet (zkNil (endQ hS hQ (fR (f98_out true))))
  ·refine zL 2 9 (zK ?_)
   exact zrRet (zkNil (endQ hS hQ (fR (f98_out false))))
 ·refine zL 6 9 (zK ?_)
  exact zrRet (zkNil (endQ hS hQ (fR (f98_out false))))
/- farwriter/page.Known -/
def f99_fin (p3 : Bool) : St := ⟨(up u0 2 (dB p3)), h0⟩
theorem f99_out (p3 : Bool) : outR (f99_fin p3) 0 c99.res = some ((dB p3), []) := by
 kernel_rfl
def f99_Q (r : Bool) (e : PX) (st : St) : Prop := DoneF c99 0 ((dB r), []) e st
def f99 (a1 : Int) : Option (Bool) := (bif (decide (1 ≤ a1)) then (bif (decide (a1 ≤ 4)) then (some true) else (some false)) else (some false))
theorem f99_ok (d : Nat) (hd : 1 ≤ d) (a1 : Int) (r : Bool) (hS : f99 a1 = some r) : lev codes baseL d 99 [(dI a1)] [] = some ((dB r), []) := by
 refine lvG hd (fun Q hQ => ?_) codes99
 unfold f99 at hS
 show ZR _ Q c99_b [] _
 replace hQ : FQ (f99_Q r) Q := hQ
 refine zS (zL 1 1 (zK (zS (zL 1 1 ?_))))
 refine sB 4 2 (.cmpI .geq (tm 3) (ki 1)) hS (fun hS => ?_) (fun hS => ?_)
 ·refine zL 2 4 (sH 7 5 5 true (.cmpI .leq (tm 6) (ki 4)) hS (fun hS => ?_) (fun hS => ?_))
  ·refine zL 2 7 (zK ?_)
   exact zrRet (zkNil (endQ hS hQ (fR (f99_out true))))
  ·refine zL 2 7 (zK ?_)
   exact zrRet (zkNil (endQ hS hQ (fR (f99_out false))))
 ·refine zL 5 7 (zK ?_)
  exact zrRet (zkNil (endQ hS hQ (fR (f99_out false))))
/- farwriter/screen.past -/
def f100_fin  : St := ⟨(up u0 2 (dB true)), h0⟩
theorem f100_out  : outR (f100_fin ) 0 c100.res = some ((dB true), []) := by
 kernel_rfl
def f100_Q (r : Unit) (e : PX) (st : St) : Prop := DoneF c100 0 ((dB true), []) e st
def f100 (a1 : List GLine) : Option (Unit) := (bif (decide (0 < (a1.length : Int))) then none else (bif (decide ((a1.length : Int) ≤ 40)) then (some ()) else none))
theorem f100_ok (d : Nat) (hd : 1 ≤ d) (a1 : List GLine) (r : Unit) (hS : f100 a1 = some r) : lev codes baseL d 100 [(dE e_GLine a1)] [] = some ((dB true), []) := by
 refine lvG hd (fun Q hQ => ?_) codes100
 unfold f100 at hS
 show ZR _ Q c100_b [] _
 replace hQ : FQ (f100_Q r) Q := hQ
 refine zS (zL 1 1 (zK (zrSeq (zS (zL 3 3 (zK ?_))))))
 refine zrBlk (zrLoop1 (zS ?_))
 refine sB 8 1 (.cmpI .lss (tm 7) (tm 6)) hS (fun hS => ?_) (fun hS => ?_)
 ·cases hS
 ·refine zK (zrSeq (zF ?_))
  refine zrExit (zkSeqX (zkSeqX (zkBlkX (zkSeq (zS (zL 2 2 ?_))))))
  refine sB 22 3 (.cmpI .leq (tm 21) (ki 40)) hS (fun hS => ?_) (fun hS => ?_)
  ·refine zL 1 4 (zK ?_)
   exact zrRet (zkNil (endQ hS hQ (fR (f100_out ))))
  ·cases hS
/- farwriter/screen.Check -/
def f55_fin  : St := ⟨(up u0 2 (dI 0)), h0⟩
theorem f55_out  : outR (f55_fin ) 0 c55.res = some ((dI 0), []) := by
 kernel_rfl
def f55_Q (r : Unit) (e : PX) (st : St) : Prop := DoneF c55 0 ((dI 0), []) e st
def f55_j2_J (a1 : GScreen) (p7 : Bool) : St := ⟨(up (up u0 5 (dB p7)) 1 (pt 16)), (up h0 16 ⟨0, some (.box (bd_GScreen a1))⟩)⟩
def f55_j2 (a1 : GScreen) (p7 : Bool) : Option (Unit) := (bif p7 then ((f98 a1.Shift 0 1).bind fun z45 => (bif z45 then ((f98 a1.Saved.Shift 0 1).bind fun z46 => (bif z46 then ((f98 a1.Saved.Row 0 59).bind fun z49 => (bif z49 then ((f98 a1.Saved.Col 0 159).bind fun z50 => (bif z50 then (bif (decide ((a1.Title.length : Int) ≤ 256)) then ((f100 a1.Past).bind fun z51 => (some ())) else none) else none)) else none)) else none)) else none)) else none)
theorem f55_j2_ok (hd : 5 ≤ d) (a1 : GScreen) {r : Unit} (hQ : FQ (f55_Q r) Q) (p7 : Bool) (hS : f55_j2 a1 p7 = some r) (he : keepSt [1, 5] [(16, .id 16)] [] st = f55_j2_J a1 p7) : ZX d Q c55_1 [] st := by
 refine zrKeep he ?_
 unfold f55_j2 at hS
 refine zS (zL 2 2 ?_)
 refine sL 119 hS (fun hS => ?_) (fun hS => ?_)
 ·refine zL 2 4 (bindE hS (fun z45 hz45 hS => zG (some 122) 5 119 true (.call 98 [(tm 121), (ki 0), (ki 1)]) (ev_cA (f98_ok (d - 1) (dpt hd rfl) a1.Shift 0 1 z45 hz45)) (zL 2 7 (sL 124 hS (fun hS => ?_) (fun hS => ?_)))))
  ·refine zL 3 10 (bindE hS (fun z46 hz46 hS => zG (some 128) 11 124 true (.call 98 [(tm 127), (ki 0), (ki 1)]) (ev_cA (f98_ok (d - 1) (dpt hd rfl) a1.Saved.Shift 0 1 z46 hz46)) (zL 2 13 (zK (zS (zL 2 2 ?_))))))
   refine sL 131 hS (fun hS => ?_) (fun hS => ?_)
   ·refine zL 3 5 (bindE hS (fun z49 hz49 hS => zG (some 135) 6 131 true (.call 98 [(tm 134), (ki 0), (ki 59)]) (ev_cA (f98_ok (d - 1) (dpt hd rfl) a1.Saved.Row 0 59 z49 hz49)) (zL 2 8 (sL 137 hS (fun hS => ?_) (fun hS => ?_)))))
    ·refine zL 3 11 (bindE hS (fun z50 hz50 hS => zG (some 141) 12 137 true (.call 98 [(tm 140), (ki 0), (ki 159)]) (ev_cA (f98_ok (d - 1) (dpt hd rfl) a1.Saved.Col 0 159 z50 hz50)) (zL 2 14 (zK (zS (zL 2 2 ?_))))))
     refine sL 144 hS (fun hS => ?_) (fun hS => ?_)
     ·refine zL 3 5 (sH 148 6 144 true (.cmpI .leq (tm 147) (ki 256)) hS (fun hS => ?_) (fun hS => ?_))
      ·refine zL 4 10 (bindE hS (fun z51 hz51 hS => zG (some 153) 11 150 true (c1 100 152) (ev_cA (f100_ok (d - 1) (dpt hd rfl) a1.Past z51 hz51)) (zL 2 13 (zK (zrSeq (zS (zL 2 2 (zK (zF ?_)))))))))
       refine zrSkip (zkSeq (zS (zL 1 1 (zK ?_))))
       exact zrRet (zkNil (endQ hS hQ (fR (f55_out ))))
      ·refine zL 3 9 ?_
       cases hS
     ·refine zL 1 3 ?_
      cases hS
    ·refine zL 2 10 ?_
     cases hS
   ·refine zL 2 4 ?_
    cases hS
  ·refine zL 2 9 ?_
   cases hS
 ·refine zL 1 3 ?_
  cases hS
def f55_j4_J (a1 : GScreen) (p12 : Bool) : St := ⟨(up (up (up u0 98 (dI 1)) 5 (dB p12)) 1 (pt 16)), (up h0 16 ⟨0, some (.box (bd_GScreen a1))⟩)⟩
def f55_j4 (a1 : GScreen) (p12 : Bool) : Option (Unit) := (bif p12 then ((f99 a1.Pages.2).bind fun z56 => (bif z56 then ((f99 a1.Saved.Pages.2).bind fun z57 => (f55_j2 a1 z57)) else none)) else none)
theorem f55_j4_ok (hd : 5 ≤ d) (a1 : GScreen) {r : Unit} (hQ : FQ (f55_Q r) Q) (p12 : Bool) (hS : f55_j4 a1 p12 = some r) (he : keepSt [1, 5, 98] [(16, .id 16)] [] st = f55_j4_J a1 p12) : ZX d Q c55_2 [.seq c55_3, .blk 0, .seq c55_1] st := by
 refine zrKeep he ?_
 unfold f55_j4 at hS
 refine zrSeq (zrBlk (zS (zL 2 2 (zK (zrReg (zL 2 2 ?_))))))
 refine sL 102 hS (fun hS => ?_) (fun hS => ?_)
 ·refine zL 4 6 (bindE hS (fun z56 hz56 hS => zG (some 107) 7 102 true (c1 99 106) (ev_cA (f99_ok (d - 1) (dpt hd rfl) a1.Pages.2 z56 hz56)) (zL 2 9 (sL 109 hS (fun hS => ?_) (fun hS => ?_)))))
  ·refine zL 5 14 (bindE hS (fun z57 hz57 hS => zG (some 115) 15 109 true (c1 99 114) (ev_cA (f99_ok (d - 1) (dpt hd rfl) a1.Saved.Pages.2 z57 hz57)) (zL 2 17 (zE ?_))))
   refine zkBlk (zkSeq (zrReg (zL 2 2 (zK ?_))))
   refine zrLoop1 (zS (zL 1 1 (zK (zrSeq (zF ?_)))))
   exact zrExit (zkSeqX (zkSeqX (zkBlkX (zkSeq (f55_j2_ok hd a1 hQ z57 hS (by kernel_rfl))))))
  ·refine zL 4 13 ?_
   cases hS
 ·refine zL 3 5 ?_
  cases hS
def f55_j3_J (a1 : GScreen) (p8 : Bool) : St := ⟨(up (up (up u0 98 (dI 0)) 5 (dB p8)) 1 (pt 16)), (up h0 16 ⟨0, some (.box (bd_GScreen a1))⟩)⟩
def f55_j3 (a1 : GScreen) (p8 : Bool) : Option (Unit) := (bif p8 then ((f99 a1.Pages.1).bind fun z52 => (bif z52 then ((f99 a1.Saved.Pages.1).bind fun z53 => (f55_j4 a1 z53)) else none)) else none)
theorem f55_j3_ok (hd : 5 ≤ d) (a1 : GScreen) {r : Unit} (hQ : FQ (f55_Q r) Q) (p8 : Bool) (hS : f55_j3 a1 p8 = some r) (he : keepSt [1, 5, 98] [(16, .id 16)] [] st = f55_j3_J a1 p8) : ZX d Q c55_2 [.seq c55_3, .blk 0, .seq c55_1] st := by
 refine zrKeep he ?_
 unfold f55_j3 at hS
 refine zrSeq (zrBlk (zS (zL 2 2 (zK (zrReg (zL 2 2 ?_))))))
 refine sL 102 hS (fun hS => ?_) (fun hS => ?_)
 ·refine zL 4 6 (bindE hS (fun z52 hz52 hS => zG (some 107) 7 102 true (c1 99 106) (ev_cA (f99_ok (d - 1) (dpt hd rfl) a1.Pages.1 z52 hz52)) (zL 2 9 (sL 109 hS (fun hS => ?_) (fun hS => ?_)))))
  ·refine zL 5 14 (bindE hS (fun z53 hz53 hS => zG (some 115) 15 109 true (c1 99 114) (ev_cA (f99_ok (d - 1) (dpt hd rfl) a1.Saved.Pages.1 z53 hz53)) (zL 2 17 (zE ?_))))
   refine zkBlk (zkSeq (zrReg (zL 2 2 (zK ?_))))
   refine zrLoop1 (zS (zL 1 1 (zK (zrSeq (zT ?_)))))
   exact zrSkip (zkSeq (f55_j4_ok hd a1 hQ z53 hS (by kernel_rfl)))
  ·refine zL 4 13 ?_
   cases hS
 ·refine zL 3 5 ?_
  cases hS
def f55_j1_J (a1 : GScreen) (p6 : Bool) : St := ⟨(up (up u0 5 (dB p6)) 1 (pt 16)), (up h0 16 ⟨0, some (.box (bd_GScreen a1))⟩)⟩
def f55_j1 (a1 : GScreen) (p6 : Bool) : Option (Unit) := (bif p6 then ((f84 a1.Pen).bind fun z32 => (bif (decide (z32 = 0)) then ((f84 a1.Saved.Pen).bind fun z33 => (bif (decide (z33 = 0)) then ((f98 a1.Modes 0 2047).bind fun z34 => (f55_j3 a1 z34)) else none)) else none)) else none)
theorem f55_j1_ok (hd : 5 ≤ d) (a1 : GScreen) {r : Unit} (hQ : FQ (f55_Q r) Q) (p6 : Bool) (hS : f55_j1 a1 p6 = some r) (he : keepSt [1, 5] [(16, .id 16)] [] st = f55_j1_J a1 p6) : ZX d Q c55_4 [] st := by
 refine zrKeep he ?_
 unfold f55_j1 at hS
 refine zS (zL 2 2 ?_)
 refine sL 80 hS (fun hS => ?_) (fun hS => ?_)
 ·refine zL 2 4 (bindE hS (fun z32 hz32 hS => zG (some 83) 5 80 true (c1 84 82) (ev_cA (f84_ok (d - 1) (dpt hd rfl) a1.Pen z32 hz32)) (sH 84 6 80 true (ck 83 0) hS (fun hS => ?_) (fun hS => ?_))))
  ·refine zL 5 11 (bindE hS (fun z33 hz33 hS => zG (some 90) 12 86 true (c1 84 89) (ev_cA (f84_ok (d - 1) (dpt hd rfl) a1.Saved.Pen z33 hz33)) (sH 91 13 86 true (ck 90 0) hS (fun hS => ?_) (fun hS => ?_))))
   ·refine zL 4 17 (bindE hS (fun z34 hz34 hS => zG (some 96) 18 93 true (.call 98 [(tm 95), (ki 0), (ki 2047)]) (ev_cA (f98_ok (d - 1) (dpt hd rfl) a1.Modes 0 2047 z34 hz34)) (zL 2 20 (zK (zrSeq (zS (zL 1 1 (zK ?_))))))))
    refine zrBlk (zrLoop1 (zS (zL 1 1 (zK (zrSeq (zT ?_))))))
    exact zrSkip (zkSeq (f55_j3_ok hd a1 hQ z34 hS (by kernel_rfl)))
   ·refine zL 3 16 ?_
    cases hS
  ·refine zL 3 9 ?_
   cases hS
 ·refine zL 1 3 ?_
  cases hS
def f55_j0_J (a1 : GScreen) (p4 : Bool) : St := ⟨(up (up (up u0 5 (dB p4)) 3 (pt 32)) 1 (pt 16)), (up (up h0 32 ⟨0, some (.box ((dI a1.Grid.Wide) :: ((dI a1.Grid.High) :: ((gd0_GScreen a1) :: []))))⟩) 16 ⟨0, some (.box (bd_GScreen a1))⟩)⟩
def f55_j0 (a1 : GScreen) (p4 : Bool) : Option (Unit) := (bif p4 then ((f98 a1.Row 0 (IntKind.i64.wrap (a1.Grid.High - 1))).bind fun z26 => (bif z26 then ((f98 a1.Col 0 (IntKind.i64.wrap (a1.Grid.Wide - 1))).bind fun z27 => (bif z27 then (bif (!a1.Late) then ((f98 a1.Top 0 (IntKind.i64.wrap (a1.Bottom - 1))).bind fun z58 => (bif z58 then (bif (decide (a1.Bottom ≤ a1.Grid.High)) then (f55_j1 a1 true) else (f55_j1 a1 false)) else none)) else none) else none)) else none)) else none)
theorem f55_j0_ok (hd : 5 ≤ d) (a1 : GScreen) {r : Unit} (hQ : FQ (f55_Q r) Q) (p4 : Bool) (hS : f55_j0 a1 p4 = some r) (he : keepSt [1, 3, 5] [(16, .id 16), (32, .id 32)] [] st = f55_j0_J a1 p4) : ZX d Q c55_5 [] st := by
 refine zrKeep he ?_
 unfold f55_j0 at hS
 refine zS (zL 2 2 ?_)
 refine sL 34 hS (fun hS => ?_) (fun hS => ?_)
 ·refine zL 5 7 (bindE hS (fun z26 hz26 hS => zG (some 40) 8 34 true (.call 98 [(tm 36), (ki 0), (tm 39)]) (ev_cA (f98_ok (d - 1) (dpt hd rfl) a1.Row 0 (IntKind.i64.wrap (a1.Grid.High - 1)) z26 hz26)) (zL 2 10 (sL 42 hS (fun hS => ?_) (fun hS => ?_)))))
  ·refine zL 5 15 (bindE hS (fun z27 hz27 hS => zG (some 48) 16 42 true (.call 98 [(tm 44), (ki 0), (tm 47)]) (ev_cA (f98_ok (d - 1) (dpt hd rfl) a1.Col 0 (IntKind.i64.wrap (a1.Grid.Wide - 1)) z27 hz27)) (zL 2 18 (sL 50 hS (fun hS => ?_) (fun hS => ?_)))))
   ·refine zL 4 22 (sL 54 hS (fun hS => ?_) (fun hS => ?_))
    ·refine zL 9 31 (zK (zS (zL 7 7 ?_)))
     refine bindE hS (fun z58 hz58 hS => zG (some 70) 8 64 true (.call 98 [(tm 66), (ki 0), (tm 69)]) (ev_cA (f98_ok (d - 1) (dpt hd rfl) a1.Top 0 (IntKind.i64.wrap (a1.Bottom - 1)) z58 hz58)) (zL 2 10 (sL 72 hS (fun hS => ?_) (fun hS => ?_))))
     ·refine zL 4 14 (sH 77 15 72 true (.cmpI .leq (tm 74) (tm 76)) hS (fun hS => ?_) (fun hS => ?_))
      ·refine zL 2 17 (zK ?_)
       exact f55_j1_ok hd a1 hQ true hS (by kernel_rfl)
      ·refine zL 2 17 (zK ?_)
       exact f55_j1_ok hd a1 hQ false hS (by kernel_rfl)
     ·refine zL 1 11 ?_
      cases hS
    ·refine zL 1 23 ?_
     cases hS
   ·refine zL 1 19 ?_
    cases hS
  ·refine zL 1 11 ?_
   cases hS
 ·refine zL 1 3 ?_
  cases hS
def f55 (a1 : GScreen) : Option (Unit) := ((f83 a1.Grid).bind fun z59 => (bif (decide (z59 = 0)) then ((f83 a1.Other).bind fun z60 => (bif (decide (z60 = 0)) then (bif (decide (a1.Grid.Wide = a1.Other.Wide)) then (bif (decide (a1.Grid.High = a1.Other.High)) then (f55_j0 a1 true) else (f55_j0 a1 false)) else none) else none)) else none))
theorem f55_ok (d : Nat) (hd : 5 ≤ d) (a1 : GScreen) (r : Unit) (hS : f55 a1 = some r) : lev codes baseL d 55 [(.agg (bd_GScreen a1))] [] = some ((dI 0), []) := by
 refine lvG hd (fun Q hQ => ?_) codes55
 unfold f55 at hS
 show ZR _ Q c55_b [] _
 replace hQ : FQ (f55_Q r) Q := hQ
 refine zS (zL 2 2 (zK (zrSeq ?_)))
 refine zrRegD (zdR 8 8 (zdE (zkSeq (zS (zL 1 1 ?_)))))
 refine bindE hS (fun z59 hz59 hS => zO (some 12) 2 (c1 83 11) (ev_cA (f83_ok (d - 1) (dpt hd rfl) a1.Grid z59 hz59)) (sB 13 3 (ck 12 0) hS (fun hS => ?_) (fun hS => ?_)))
 ·refine zL 2 5 (bindE hS (fun z60 hz60 hS => zG (some 16) 6 14 true (c1 83 15) (ev_cA (f83_ok (d - 1) (dpt hd rfl) a1.Other z60 hz60)) (sH 17 7 14 true (ck 16 0) hS (fun hS => ?_) (fun hS => ?_))))
  ·refine zL 6 13 (sH 24 14 19 true (.cmpI .eql (tm 21) (tm 23)) hS (fun hS => ?_) (fun hS => ?_))
   ·refine zL 6 20 (sH 31 21 26 true (.cmpI .eql (tm 28) (tm 30)) hS (fun hS => ?_) (fun hS => ?_))
    ·refine zL 2 23 (zK ?_)
     exact f55_j0_ok hd a1 hQ true hS (by kernel_rfl)
    ·refine zL 2 23 (zK ?_)
     exact f55_j0_ok hd a1 hQ false hS (by kernel_rfl)
   ·refine zL 3 17 ?_
    cases hS
  ·refine zL 3 10 ?_
   cases hS
 ·refine zL 2 5 ?_
  cases hS
/- farwriter/qneg.known -/
def f101_fin (p3 : Bool) : St := ⟨(up u0 2 (dB p3)), h0⟩
theorem f101_out (p3 : Bool) : outR (f101_fin p3) 0 c101.res = some ((dB p3), []) := by
 kernel_rfl
def f101_Q (r : Bool) (e : PX) (st : St) : Prop := DoneF c101 0 ((dB r), []) e st
def f101 (a1 : Int) : Option (Bool) := (bif (decide (0 ≤ a1)) then (bif (decide (a1 ≤ 5)) then (some true) else (some false)) else (some false))
theorem f101_ok (d : Nat) (hd : 1 ≤ d) (a1 : Int) (r : Bool) (hS : f101 a1 = some r) : lev codes baseL d 101 [(dI a1)] [] = some ((dB r), []) := by
 refine lvG hd (fun Q hQ => ?_) codes101
 unfold f101 at hS
 show ZR _ Q c101_b [] _
 replace hQ : FQ (f101_Q r) Q := hQ
 refine zS (zL 1 1 (zK (zS (zL 1 1 ?_))))
 refine sB 4 2 (.cmpI .geq (tm 3) (ki 0)) hS (fun hS => ?_) (fun hS => ?_)
 ·refine zL 2 4 (sH 7 5 5 true (.cmpI .leq (tm 6) (ki 5)) hS (fun hS => ?_) (fun hS => ?_))
  ·refine zL 2 7 (zK ?_)
   exact zrRet (zkNil (endQ hS hQ (fR (f101_out true))))
  ·refine zL 2 7 (zK ?_)
   exact zrRet (zkNil (endQ hS hQ (fR (f101_out false))))
 ·refine zL 5 7 (zK ?_)
  exact zrRet (zkNil (endQ hS hQ (fR (f101_out false))))
/- farwriter/qneg.Check -/
def f56_fin (p13 : Int) : St := ⟨(up u0 2 (dI p13)), h0⟩
theorem f56_out (p13 : Int) : outR (f56_fin p13) 0 c56.res = some ((dI p13), []) := by
 kernel_rfl
def f56_Q (r : Int) (e : PX) (st : St) : Prop := DoneF c56 0 ((dI r), []) e st
def f56_l1_J (a1 : GNeg) (x : Int) : St := ⟨(up (up (up (up u0 16 (dI x)) 15 (.agg ((eU8.row 256 a1.Us) ++ []))) 12 (dI 0)) 11 (q26_ a1)), h0⟩
def f56_l1_H (a1 : GNeg) (x : Int) (st : St) : Prop := keepSt [11, 12, 15, 16] [] [] st = f56_l1_J a1 x
def f56_l1_e2_J (a1 : GNeg) : St := ⟨(up (up u0 12 (dI 0)) 11 (q26_ a1)), h0⟩
def f56_l1_X (a1 : GNeg) (z : Unit ⊕ Int) (e : PX) (st : St) : Prop := (match z with | .inl z => e = .exit 2 ∧ st = f56_l1_e2_J a1 | .inr z => e = .ret ∧ finSt c56.fin st = f56_fin z)
def f56_l1_j3_J (a1 : GNeg) (p24 : Int) : St := ⟨(up (up (up (up u0 16 (dI p24)) 15 (.agg ((eU8.row 256 a1.Us) ++ []))) 12 (dI 0)) 11 (q26_ a1)), h0⟩
def f56_l1_j3 (a1 : GNeg) (p24 : Int) : Option (Int ⊕ (Unit ⊕ Int)) := ((inR p24 256).bind fun m28 => ((f101 ((a1.Us m28).toNat : Int)).bind fun z29 => (bif (!z29) then (some (.inr (.inr 4))) else (some (.inl (IntKind.i64.wrap (p24 + 1)))))))
theorem f56_l1_j3_ok (hd : 2 ≤ d) (a1 : GNeg) {r : Int ⊕ (Unit ⊕ Int)} (hQ : FQ (finL (f56_l1_H a1) (f56_l1_X a1) r) Q) (p24 : Int) (hS : f56_l1_j3 a1 p24 = some r) (he : keepSt [11, 12, 15, 16] [] [] st = f56_l1_j3_J a1 p24) : ZX d Q c56_1 [] st := by
 refine zrKeep he ?_
 unfold f56_l1_j3 at hS
 refine zrSeq (zrBlk (zS ?_))
 refine bindE hS (fun m28 hm28 hS => zO (v := (.d (.int .u8 ((a1.Us m28).toNat : Int)))) (ups := []) (some 18) 1 (.ixV .false 256 1 (tm 15) (tm 16)) (ev_ixV eU8 a1.Us (kk := .i64) (j := p24) (by kernel_rfl) (by kernel_rfl) hm28 rfl (by kernel_rfl) (by kernel_rfl)) (zL 1 2 (zK (zS (zL 1 1 ?_)))))
 refine zO (v := (dI ((a1.Us m28).toNat : Int))) (ups := []) (some 20) 2 (.cvI .i64 (tm 19)) (ev_cv (kk := .u8) (a := ((a1.Us m28).toNat : Int)) (by kernel_rfl) (cv_i64 _)) (bindE hS (fun z29 hz29 hS => zO (some 21) 3 (c1 101 20) (ev_cA (f101_ok (d - 1) (dpt hd rfl) ((a1.Us m28).toNat : Int) z29 hz29)) (zL 1 4 (zK ?_))))
 refine sR 22 hS (fun hS => ?_) (fun hS => ?_)
 ·refine zT (zS (zL 1 1 (zK ?_)))
  exact zrRet (zkBlkR (zkSeqR (zkNil (eX1 hS hQ))))
 ·refine zF (zrSkip (zkBlk (zkSeq (zrReg (zL 2 2 (zE ?_))))))
  exact zkNil (eN1 hS hQ)
def f56_l1_j2_J (a1 : GNeg) (p22 : Int) (p23 : Bool) : St := ⟨(up (up (up (up (up u0 17 (dB p23)) 16 (dI p22)) 15 (.agg ((eU8.row 256 a1.Us) ++ []))) 12 (dI 0)) 11 (q26_ a1)), h0⟩
def f56_l1_j2 (a1 : GNeg) (p22 : Int) (p23 : Bool) : Option (Int ⊕ (Unit ⊕ Int)) := (bif p23 then (f56_l1_j3 a1 p22) else (some (.inr (.inl ()))))
theorem f56_l1_j2_ok (hd : 2 ≤ d) (a1 : GNeg) {r : Int ⊕ (Unit ⊕ Int)} (hQ : FQ (finL (f56_l1_H a1) (f56_l1_X a1) r) Q) (p22 : Int) (p23 : Bool) (hS : f56_l1_j2 a1 p22 p23 = some r) (he : keepSt [11, 12, 15, 16, 17] [] [] st = f56_l1_j2_J a1 p22 p23) : ZX d Q c56_2 [] st := by
 refine zrKeep he ?_
 unfold f56_l1_j2 at hS
 refine zrSeq (sR 17 hS (fun hS => ?_) (fun hS => ?_))
 ·exact zT (zrSkip (zkSeq (f56_l1_j3_ok hd a1 hQ p22 hS (by kernel_rfl))))
 ·exact zF (zrKeep (J := f56_l1_e2_J a1) (by kernel_rfl) (zrExit (zkSeqX (zkNil (eX0 hS hQ)))))
def f56_l1 (a1 : GNeg) (x : Int) : Option (Int ⊕ (Unit ⊕ Int)) := (bif (decide (x < 256)) then (f56_l1_j2 a1 x true) else (f56_l1_j2 a1 x false))
theorem f56_l1_ok (hd : 2 ≤ d) (a1 : GNeg) {r : Int ⊕ (Unit ⊕ Int)} (hQ : FQ (finL (f56_l1_H a1) (f56_l1_X a1) r) Q) {x : Int} (hS : f56_l1 a1 x = some r) (he : f56_l1_H a1 x st) : ZX d Q c56_3 [] st := by
 refine zrKeep he ?_
 unfold f56_l1 at hS
 refine zS ?_
 refine sB 17 1 (.cmpI .lss (tm 16) (ki 256)) hS (fun hS => ?_) (fun hS => ?_)
 ·refine zK ?_
  exact f56_l1_j2_ok hd a1 hQ x true hS (by kernel_rfl)
 ·refine zK ?_
  exact f56_l1_j2_ok hd a1 hQ x false hS (by kernel_rfl)
def f56_l5_J (a1 : GNeg) (x : Int) : St := ⟨(up (up (up (up u0 16 (dI x)) 15 (.agg ((eU8.row 256 a1.Him) ++ []))) 12 (dI 1)) 11 (q26_ a1)), h0⟩
def f56_l5_H (a1 : GNeg) (x : Int) (st : St) : Prop := keepSt [11, 12, 15, 16] [] [] st = f56_l5_J a1 x
def f56_l5_e2_J (a1 : GNeg) : St := ⟨(up (up u0 12 (dI 1)) 11 (q26_ a1)), h0⟩
def f56_l5_X (a1 : GNeg) (z : Unit ⊕ Int) (e : PX) (st : St) : Prop := (match z with | .inl z => e = .exit 2 ∧ st = f56_l5_e2_J a1 | .inr z => e = .ret ∧ finSt c56.fin st = f56_fin z)
def f56_l5_j7_J (a1 : GNeg) (p29 : Int) : St := ⟨(up (up (up (up u0 16 (dI p29)) 15 (.agg ((eU8.row 256 a1.Him) ++ []))) 12 (dI 1)) 11 (q26_ a1)), h0⟩
def f56_l5_j7 (a1 : GNeg) (p29 : Int) : Option (Int ⊕ (Unit ⊕ Int)) := ((inR p29 256).bind fun m33 => ((f101 ((a1.Him m33).toNat : Int)).bind fun z34 => (bif (!z34) then (some (.inr (.inr 4))) else (some (.inl (IntKind.i64.wrap (p29 + 1)))))))
theorem f56_l5_j7_ok (hd : 2 ≤ d) (a1 : GNeg) {r : Int ⊕ (Unit ⊕ Int)} (hQ : FQ (finL (f56_l5_H a1) (f56_l5_X a1) r) Q) (p29 : Int) (hS : f56_l5_j7 a1 p29 = some r) (he : keepSt [11, 12, 15, 16] [] [] st = f56_l5_j7_J a1 p29) : ZX d Q c56_1 [] st := by
 refine zrKeep he ?_
 unfold f56_l5_j7 at hS
 refine zrSeq (zrBlk (zS ?_))
 refine bindE hS (fun m33 hm33 hS => zO (v := (.d (.int .u8 ((a1.Him m33).toNat : Int)))) (ups := []) (some 18) 1 (.ixV .false 256 1 (tm 15) (tm 16)) (ev_ixV eU8 a1.Him (kk := .i64) (j := p29) (by kernel_rfl) (by kernel_rfl) hm33 rfl (by kernel_rfl) (by kernel_rfl)) (zL 1 2 (zK (zS (zL 1 1 ?_)))))
 refine zO (v := (dI ((a1.Him m33).toNat : Int))) (ups := []) (some 20) 2 (.cvI .i64 (tm 19)) (ev_cv (kk := .u8) (a := ((a1.Him m33).toNat : Int)) (by kernel_rfl) (cv_i64 _)) (bindE hS (fun z34 hz34 hS => zO (some 21) 3 (c1 101 20) (ev_cA (f101_ok (d - 1) (dpt hd rfl) ((a1.Him m33).toNat : Int) z34 hz34)) (zL 1 4 (zK ?_))))
 refine sR 22 hS (fun hS => ?_) (fun hS => ?_)
 ·refine zT (zS (zL 1 1 (zK ?_)))
  exact zrRet (zkBlkR (zkSeqR (zkNil (eX1 hS hQ))))
 ·refine zF (zrSkip (zkBlk (zkSeq (zrReg (zL 2 2 (zE ?_))))))
  exact zkNil (eN1 hS hQ)
def f56_l5_j6_J (a1 : GNeg) (p27 : Int) (p28 : Bool) : St := ⟨(up (up (up (up (up u0 17 (dB p28)) 16 (dI p27)) 15 (.agg ((eU8.row 256 a1.Him) ++ []))) 12 (dI 1)) 11 (q26_ a1)), h0⟩
def f56_l5_j6 (a1 : GNeg) (p27 : Int) (p28 : Bool) : Option (Int ⊕ (Unit ⊕ Int)) := (bif p28 then (f56_l5_j7 a1 p27) else (some (.inr (.inl ()))))
theorem f56_l5_j6_ok (hd : 2 ≤ d) (a1 : GNeg) {r : Int ⊕ (Unit ⊕ Int)} (hQ : FQ (finL (f56_l5_H a1) (f56_l5_X a1) r) Q) (p27 : Int) (p28 : Bool) (hS : f56_l5_j6 a1 p27 p28 = some r) (he : keepSt [11, 12, 15, 16, 17] [] [] st = f56_l5_j6_J a1 p27 p28) : ZX d Q c56_2 [] st := by
 refine zrKeep he ?_
 unfold f56_l5_j6 at hS
 refine zrSeq (sR 17 hS (fun hS => ?_) (fun hS => ?_))
 ·exact zT (zrSkip (zkSeq (f56_l5_j7_ok hd a1 hQ p27 hS (by kernel_rfl))))
 ·exact zF (zrKeep (J := f56_l5_e2_J a1) (by kernel_rfl) (zrExit (zkSeqX (zkNil (eX0 hS hQ)))))
def f56_l5 (a1 : GNeg) (x : Int) : Option (Int ⊕ (Unit ⊕ Int)) := (bif (decide (x < 256)) then (f56_l5_j6 a1 x true) else (f56_l5_j6 a1 x false))
theorem f56_l5_ok (hd : 2 ≤ d) (a1 : GNeg) {r : Int ⊕ (Unit ⊕ Int)} (hQ : FQ (finL (f56_l5_H a1) (f56_l5_X a1) r) Q) {x : Int} (hS : f56_l5 a1 x = some r) (he : f56_l5_H a1 x st) : ZX d Q c56_3 [] st := by
 refine zrKeep he ?_
 unfold f56_l5 at hS
 refine zS ?_
 refine sB 17 1 (.cmpI .lss (tm 16) (ki 256)) hS (fun hS => ?_) (fun hS => ?_)
 ·refine zK ?_
  exact f56_l5_j6_ok hd a1 hQ x true hS (by kernel_rfl)
 ·refine zK ?_
  exact f56_l5_j6_ok hd a1 hQ x false hS (by kernel_rfl)
def f56_j4_J (a1 : GNeg) : St := ⟨(up (up u0 12 (dI 1)) 11 (q26_ a1)), h0⟩
def f56_j4 (a1 : GNeg) : Option (Int) := ((loopO (f56_l5 a1) 0).bind fun z35 => (Sum.elim (fun z36 => (some 0)) (fun z37 => (some z37)) z35))
theorem f56_j4_ok (hd : 2 ≤ d) (a1 : GNeg) {r : Int} (hQ : FQ (f56_Q r) Q)  (hS : f56_j4 a1 = some r) (he : keepSt [11, 12] [] [] st = f56_j4_J a1) : ZX d Q c56_4 [.seq c56_5, .blk 0, .seq c56_6] st := by
 refine zrKeep he ?_
 unfold f56_j4 at hS
 refine zrSeq (zrBlk (zS (zL 3 3 (zK (zS (zL 2 2 (zK ?_)))))))
 refine zrBlk (bindE hS (fun z35 hz35 hS => zrLoop (f56_l5_H a1) (f56_l5_X a1) (fun x st r Q h0 hS hQ => f56_l5_ok hd a1 hQ hS h0) (x := 0) (z := z35) (by show keepSt _ _ _ _ = _; kernel_rfl) hz35 ?_))
 rcases z35 with z36 | z37
 ·replace hS := (show _ = _ from hS)
  simp only [seL] at hS
  intro e st' _ hX
  obtain ⟨rfl, rfl⟩ : _ ∧ _ := hX
  refine zkBlkX (zkBlk (zkSeq (zrReg (zL 2 2 (zK ?_)))))
  refine zrLoop1 (zS (zL 1 1 (zK (zrSeq (zF ?_)))))
  refine zrExit (zkSeqX (zkSeqX (zkBlkX (zkSeq (zS (zL 1 1 (zK ?_)))))))
  exact zrRet (zkNil (endQ hS hQ (fR (f56_out 0))))
 ·simp only [seR] at hS
  intro e st' _ hX
  obtain ⟨rfl, hX⟩ : _ ∧ _ := hX
  exact zkBlkR (zkBlkR (zkSeqR (zkSeqR (zkBlkR (zkSeqR (zkNil (endQ hS hQ (fRet (by kernel_rfl) ((congrArg (fun s => outR s 0 c56.res) hX).trans (f56_out z37))))))))))
def f56_j0_J (a1 : GNeg) : St := ⟨(up (up u0 12 (dI 0)) 11 (q26_ a1)), h0⟩
def f56_j0 (a1 : GNeg) : Option (Int) := ((loopO (f56_l1 a1) 0).bind fun z30 => (Sum.elim (fun z31 => (f56_j4 a1 )) (fun z32 => (some z32)) z30))
theorem f56_j0_ok (hd : 2 ≤ d) (a1 : GNeg) {r : Int} (hQ : FQ (f56_Q r) Q)  (hS : f56_j0 a1 = some r) (he : keepSt [11, 12] [] [] st = f56_j0_J a1) : ZX d Q c56_4 [.seq c56_5, .blk 0, .seq c56_6] st := by
 refine zrKeep he ?_
 unfold f56_j0 at hS
 refine zrSeq (zrBlk (zS (zL 3 3 (zK (zS (zL 2 2 (zK ?_)))))))
 refine zrBlk (bindE hS (fun z30 hz30 hS => zrLoop (f56_l1_H a1) (f56_l1_X a1) (fun x st r Q h0 hS hQ => f56_l1_ok hd a1 hQ hS h0) (x := 0) (z := z30) (by show keepSt _ _ _ _ = _; kernel_rfl) hz30 ?_))
 rcases z30 with z31 | z32
 ·replace hS := (show _ = _ from hS)
  simp only [seL] at hS
  intro e st' _ hX
  obtain ⟨rfl, rfl⟩ : _ ∧ _ := hX
  refine zkBlkX (zkBlk (zkSeq (zrReg (zL 2 2 (zK ?_)))))
  refine zrLoop1 (zS (zL 1 1 (zK (zrSeq (zT ?_)))))
  exact zrSkip (zkSeq (f56_j4_ok hd a1 hQ  hS (by kernel_rfl)))
 ·simp only [seR] at hS
  intro e st' _ hX
  obtain ⟨rfl, hX⟩ : _ ∧ _ := hX
  exact zkBlkR (zkBlkR (zkSeqR (zkSeqR (zkBlkR (zkSeqR (zkNil (endQ hS hQ (fRet (by kernel_rfl) ((congrArg (fun s => outR s 0 c56.res) hX).trans (f56_out z32))))))))))
def f56 (a1 : GNeg) : Option (Int) := (f56_j0 a1 )
theorem f56_ok (d : Nat) (hd : 2 ≤ d) (a1 : GNeg) (r : Int) (hS : f56 a1 = some r) : lev codes baseL d 56 [(.agg ((eU8.row 256 a1.Us) ++ ((eU8.row 256 a1.Him) ++ (((eInt .u64).row 4 a1.UsOk) ++ (((eInt .u64).row 4 a1.HimOk) ++ [])))))] [] = some ((dI r), []) := by
 refine lvG hd (fun Q hQ => ?_) codes56
 unfold f56 at hS
 show ZR _ Q c56_b [] _
 replace hQ : FQ (f56_Q r) Q := hQ
 refine zS (zL 2 2 (zK (zrSeq (zS (zL 6 6 (zK ?_))))))
 refine zrBlk (zrLoop1 (zS (zL 1 1 (zK (zrSeq (zT ?_))))))
 exact zrSkip (zkSeq (f56_j0_ok hd a1 hQ  hS (by kernel_rfl)))
/- farwriter/slc.Check -/
def f57_fin  : St := ⟨(up u0 2 (dI 0)), h0⟩
theorem f57_out  : outR (f57_fin ) 0 c57.res = some ((dI 0), []) := by
 kernel_rfl
def f57_Q (r : Unit) (e : PX) (st : St) : Prop := DoneF c57 0 ((dI 0), []) e st
def f57_j0_J (a1 : GKeys) : St := ⟨(up u0 1 (pt 16)), (q32_ a1)⟩
def f57_j0 (a1 : GKeys) : Option (Unit) := (bif (!decide (((a1.Levels 0).toNat : Int) = 0)) then none else (bif (!decide (((a1.Chars 0).toNat : Int) = 0)) then none else (some ())))
theorem f57_j0_ok (hd : 1 ≤ d) (a1 : GKeys) {r : Unit} (hQ : FQ (f57_Q r) Q)  (hS : f57_j0 a1 = some r) (he : keepSt [1] [(16, .id 16)] [] st = f57_j0_J a1) : ZX d Q c57_1 [] st := by
 refine zrKeep he ?_
 unfold f57_j0 at hS
 refine zrSeq (zS (zL 3 3 ?_))
 refine sB 16 4 (.cmpI .neq (tm 15) (.const (.int .u8 0))) hS (fun hS => ?_) (fun hS => ?_)
 ·cases hS
 ·refine zL 4 8 (sH 21 9 17 false (.cmpI .neq (tm 20) (.const (.int .u8 0))) hS (fun hS => ?_) (fun hS => ?_))
  ·cases hS
  ·refine zL 1 10 (zK (zF ?_))
   refine zrSkip (zkSeq (zS (zL 1 1 (zK ?_))))
   exact zrRet (zkNil (endQ hS hQ (fR (f57_out ))))
def f57_l1_J (a1 : GKeys) (x : Int) : St := ⟨(up (up (up u0 7 (dI x)) 6 (.agg ((eU8.row 19 a1.Levels) ++ []))) 1 (pt 16)), (q32_ a1)⟩
def f57_l1_H (a1 : GKeys) (x : Int) (st : St) : Prop := keepSt [1, 6, 7] [(16, .id 16)] [] st = f57_l1_J a1 x
def f57_l1_e0_J (a1 : GKeys) : St := ⟨(up u0 1 (pt 16)), (q32_ a1)⟩
def f57_l1_X (a1 : GKeys) (z : Unit) (e : PX) (st : St) : Prop := e = .exit 0 ∧ st = f57_l1_e0_J a1
def f57_l1_j3_J (a1 : GKeys) (p11 : Int) : St := ⟨(up (up (up u0 7 (dI p11)) 6 (.agg ((eU8.row 19 a1.Levels) ++ []))) 1 (pt 16)), (q32_ a1)⟩
def f57_l1_j3 (a1 : GKeys) (p11 : Int) : Option (Int ⊕ Unit) := ((inR p11 19).bind fun m3 => (bif (decide (2 < ((a1.Levels m3).toNat : Int))) then none else (some (.inl (IntKind.i64.wrap (p11 + 1))))))
theorem f57_l1_j3_ok (hd : 1 ≤ d) (a1 : GKeys) {r : Int ⊕ Unit} (hQ : FQ (finL (f57_l1_H a1) (f57_l1_X a1) r) Q) (p11 : Int) (hS : f57_l1_j3 a1 p11 = some r) (he : keepSt [1, 6, 7] [(16, .id 16)] [] st = f57_l1_j3_J a1 p11) : ZX d Q c57_2 [] st := by
 refine zrKeep he ?_
 unfold f57_l1_j3 at hS
 refine zrSeq (zrBlk (zS ?_))
 refine bindE hS (fun m3 hm3 hS => zO (v := (.d (.int .u8 ((a1.Levels m3).toNat : Int)))) (ups := []) (some 9) 1 (.ixV .false 19 1 (tm 6) (tm 7)) (ev_ixV eU8 a1.Levels (kk := .i64) (j := p11) (by kernel_rfl) (by kernel_rfl) hm3 rfl (by kernel_rfl) (by kernel_rfl)) (zL 1 2 (zK (zS (zL 1 1 ?_)))))
 refine sB 11 2 (.cmpI .gtr (tm 10) (.const (.int .u8 2))) hS (fun hS => ?_) (fun hS => ?_)
 ·cases hS
 ·refine zK (zF ?_)
  refine zrSkip (zkBlk (zkSeq (zrReg (zL 2 2 (zE ?_)))))
  exact zkNil (eN1 hS hQ)
def f57_l1_j2_J (a1 : GKeys) (p9 : Int) (p10 : Bool) : St := ⟨(up (up (up (up u0 8 (dB p10)) 7 (dI p9)) 6 (.agg ((eU8.row 19 a1.Levels) ++ []))) 1 (pt 16)), (q32_ a1)⟩
def f57_l1_j2 (a1 : GKeys) (p9 : Int) (p10 : Bool) : Option (Int ⊕ Unit) := (bif p10 then (f57_l1_j3 a1 p9) else (some (.inr ())))
theorem f57_l1_j2_ok (hd : 1 ≤ d) (a1 : GKeys) {r : Int ⊕ Unit} (hQ : FQ (finL (f57_l1_H a1) (f57_l1_X a1) r) Q) (p9 : Int) (p10 : Bool) (hS : f57_l1_j2 a1 p9 p10 = some r) (he : keepSt [1, 6, 7, 8] [(16, .id 16)] [] st = f57_l1_j2_J a1 p9 p10) : ZX d Q c57_3 [] st := by
 refine zrKeep he ?_
 unfold f57_l1_j2 at hS
 refine zrSeq (sR 8 hS (fun hS => ?_) (fun hS => ?_))
 ·exact zT (zrSkip (zkSeq (f57_l1_j3_ok hd a1 hQ p9 hS (by kernel_rfl))))
 ·exact zF (zrKeep (J := f57_l1_e0_J a1) (by kernel_rfl) (zrExit (zkSeqX (zkNil (eX0 hS hQ)))))
def f57_l1 (a1 : GKeys) (x : Int) : Option (Int ⊕ Unit) := (bif (decide (x < 19)) then (f57_l1_j2 a1 x true) else (f57_l1_j2 a1 x false))
theorem f57_l1_ok (hd : 1 ≤ d) (a1 : GKeys) {r : Int ⊕ Unit} (hQ : FQ (finL (f57_l1_H a1) (f57_l1_X a1) r) Q) {x : Int} (hS : f57_l1 a1 x = some r) (he : f57_l1_H a1 x st) : ZX d Q c57_4 [] st := by
 refine zrKeep he ?_
 unfold f57_l1 at hS
 refine zS ?_
 refine sB 8 1 (.cmpI .lss (tm 7) (ki 19)) hS (fun hS => ?_) (fun hS => ?_)
 ·refine zK ?_
  exact f57_l1_j2_ok hd a1 hQ x true hS (by kernel_rfl)
 ·refine zK ?_
  exact f57_l1_j2_ok hd a1 hQ x false hS (by kernel_rfl)
def f57 (a1 : GKeys) : Option (Unit) := ((loopO (f57_l1 a1) 0).bind fun z4 => (f57_j0 a1 ))
theorem f57_ok (d : Nat) (hd : 1 ≤ d) (a1 : GKeys) (r : Unit) (hS : f57 a1 = some r) : lev codes baseL d 57 [(.agg ((eU8.row 19 a1.Levels) ++ ((eU8.row 19 a1.Chars) ++ [])))] [] = some ((dI 0), []) := by
 refine lvG hd (fun Q hQ => ?_) codes57
 unfold f57 at hS
 show ZR _ Q c57_b [] _
 replace hQ : FQ (f57_Q r) Q := hQ
 refine zS (zL 2 2 (zK (zrSeq (zS (zL 3 3 (zK ?_))))))
 refine zrBlk (bindE hS (fun z4 hz4 hS => zrLoop (f57_l1_H a1) (f57_l1_X a1) (fun x st r Q h0 hS hQ => f57_l1_ok hd a1 hQ hS h0) (x := 0) (z := z4) (by show keepSt _ _ _ _ = _; kernel_rfl) hz4 ?_))
 intro e st' _ hX
 obtain ⟨rfl, rfl⟩ : _ ∧ _ := hX
 exact zkBlkX (zkSeq (f57_j0_ok hd a1 hQ  hS (by kernel_rfl)))
/- farwriter/line.Check -/
def f58_fin  : St := ⟨(up u0 2 (dI 0)), h0⟩
theorem f58_out  : outR (f58_fin ) 0 c58.res = some ((dI 0), []) := by
 kernel_rfl
def f58_Q (r : Unit) (e : PX) (st : St) : Prop := DoneF c58 0 ((dI 0), []) e st
def f58 (a1 : GEditor) : Option (Unit) := (bif (decide (1024 ≤ (a1.Buf.length : Int))) then none else (some ()))
theorem f58_ok (d : Nat) (hd : 1 ≤ d) (a1 : GEditor) (r : Unit) (hS : f58 a1 = some r) : lev codes baseL d 58 [(.agg ((.d (.str a1.Buf)) :: ((dB a1.Quote) :: [])))] [] = some ((dI 0), []) := by
 refine lvG hd (fun Q hQ => ?_) codes58
 unfold f58 at hS
 show ZR _ Q c58_b [] _
 replace hQ : FQ (f58_Q r) Q := hQ
 refine zS (zL 2 2 (zK (zrSeq (zS (zL 3 3 ?_)))))
 refine sB 6 4 (.cmpI .geq (tm 5) (ki 1024)) hS (fun hS => ?_) (fun hS => ?_)
 ·cases hS
 ·refine zK (zF ?_)
  refine zrSkip (zkSeq (zS (zL 1 1 (zK ?_))))
  exact zrRet (zkNil (endQ hS hQ (fR (f58_out ))))
end
end Go.Proofs.YtobkkblijfhpoaaGreatDoor.Pm
