/- Typed functions, and that the codes are these. Printed by dec.py. -/
import Derived.Test.YtbokpgemkkebnaaGreatDoorDWyD
namespace Go.Proofs.YtbokpgemkkebnaaGreatDoor.Pm
noncomputable section
set_option maxRecDepth 1000000
set_option maxHeartbeats 20000000
set_option linter.unusedVariables false
/- farwriter/args.Write -/
def f46_fin (p30 : List UInt8) (p31 : Int) : St := ⟨(up (up u0 3 (dI p31)) 2 (.d (.str p30))), h0⟩
theorem f46_out (p30 : List UInt8) (p31 : Int) : outR (f46_fin p30 p31) 0 c46.res = some ((.tup [(.d (.str p30)), (dI p31)]), []) := by
 kernel_rfl
def f46_Q (r : (List UInt8) × Int) (e : PX) (st : St) : Prop := DoneF c46 0 ((.tup [(.d (.str r.1)), (dI r.2)]), []) e st
def f46_l2_J (a1 : List Int) (x : (List (List UInt8)) × Int) : St := ⟨(up (up (up (up u0 19 (dI x.2)) 18 (dI (a1.length : Int))) 17 (dL a1)) 4 (.r (.msl 40 0 0 x.1.length))), (up h0 40 ⟨0, some (.own 9 1 (eStr.cells x.1))⟩)⟩
def f46_l2_H (a1 : List Int) (x : (List (List UInt8)) × Int) (st : St) : Prop := keepSt [4, 17, 18, 19] [(40, .id 40)] [] st = f46_l2_J a1 x
def f46_l2_e0_J (a1 : List Int) (p29 : List (List UInt8)) : St := ⟨(up u0 4 (.r (.msl 40 0 0 p29.length))), (up h0 40 ⟨0, some (.own 9 1 (eStr.cells p29))⟩)⟩
def f46_l2_X (a1 : List Int) (z : ((List (List UInt8)))) (e : PX) (st : St) : Prop := e = .exit 0 ∧ st = f46_l2_e0_J a1 z
def f46_l2_j4_J (a1 : List Int) (p40 : List (List UInt8)) (p41 : Int) : St := ⟨(up (up (up (up u0 19 (dI p41)) 18 (dI (a1.length : Int))) 17 (dL a1)) 4 (.r (.msl 40 0 0 p40.length))), (up h0 40 ⟨0, some (.own 9 1 (eStr.cells p40))⟩)⟩
def f46_l2_j4 (a1 : List Int) (p40 : List (List UInt8)) (p41 : Int) : Option (((List (List UInt8)) × Int) ⊕ (((List (List UInt8))))) := ((idx a1 p41).bind fun z16 => (bif (decide (z16 < 0)) then ((app? 16 p40 ([[]] : List (List UInt8))).bind fun z17 => (some (.inl (z17, (IntKind.i64.wrap (p41 + 1)))))) else ((libItoaL z16).bind fun z18 => ((app? 16 p40 ([z18] : List (List UInt8))).bind fun z19 => (some (.inl (z19, (IntKind.i64.wrap (p41 + 1)))))))))
theorem f46_l2_j4_ok {d : Nat} (hd : 4 ≤ d) (a1 : List Int) {r : ((List (List UInt8)) × Int) ⊕ (((List (List UInt8))))} {Q : PQ} (hQ : FQ (finL (f46_l2_H a1) (f46_l2_X a1) r) Q) (p40 : List (List UInt8)) (p41 : Int) (hS : f46_l2_j4 a1 p40 p41 = some r) {st : St} (he : keepSt [4, 17, 18, 19] [(40, .id 40)] [] st = f46_l2_j4_J a1 p40 p41) : ZR (lev codes baseL (d - 1)) Q c46_1 [] st := by
 refine zrKeep he ?_
 unfold f46_l2_j4 at hS
 refine zrSeq (zrBlk (zrSeq (zrReg ?_)))
 refine bindE hS (fun z16 hz16 hS => zO (v := (.rptr (eI.enc z16 ++ (eI.cells (a1.drop ((p41 : Int).toNat + 1)))))) (ups := []) (some 21) 1 (.ixS 3 1 (tm 17) (tm 19)) (ev_ixS eI (kk := .i64) (xs := a1) (j := p41) (by kernel_rfl) (by kernel_rfl) hz16 rfl (by intro h; cases h)) (zL 2 3 (zE (zkSeq (zrSeq (zrReg (zL 1 1 ?_)))))))
 refine sB 24 2 (.cmpI .lss (tm 23) (ki 0)) hS (fun hS => ?_) (fun hS => ?_)
 ·refine zE (zkSeq (zT (zrReg (zL 2 2 ?_))))
  refine bindE hS (fun z17 hz17 hS => zO (v := (.r (.msl 40 1 0 z17.length))) (ups := [(40, ⟨1, some (.own 9 1 (eStr.cells z17))⟩)]) (some 27) 3 (.app 9 1 16 (tm 25) (tm 26)) (ev_app eStr (b := 40) (g := 0) (n := p40.length) (xs := p40) (ys := [[]]) ((congrArg (asL _) (by kernel_rfl : ρof _ (.tmp 26) = (.r (.msl 216 1 0 (([[]] : List (List UInt8)).length))))).trans (as_whole eStr (e := 9) (k := 1) (xs := [[]]) (by kernel_rfl) rfl rfl)) rfl (by kernel_rfl) rfl (by kernel_rfl) rfl hz17) (zL 1 4 (zE ?_)))
  refine zkBlk (zkSeq (zrReg (zL 2 2 (zE ?_))))
  exact zkNil (eN1 hS hQ)
 ·refine zE (zkSeq (zF (zrReg (zL 2 2 ?_))))
  refine bindE hS (fun z18 hz18 hS => zO (some 30) 3 (c1 71 29) (ev_cA (libItoaL_ok (d - 1) (dpt hd rfl) z16 z18 hz18)) (zL 1 4 (bindE hS (fun z19 hz19 hS => zO (v := (.r (.msl 40 1 0 z19.length))) (ups := [(40, ⟨1, some (.own 9 1 (eStr.cells z19))⟩)]) (some 32) 5 (.app 9 1 16 (tm 28) (tm 31)) (ev_app eStr (b := 40) (g := 0) (n := p40.length) (xs := p40) (ys := [z18]) ((congrArg (asL _) (by kernel_rfl : ρof _ (.tmp 31) = (.r (.msl 256 1 0 (([z18] : List (List UInt8)).length))))).trans (as_whole eStr (e := 9) (k := 1) (xs := [z18]) (by kernel_rfl) rfl rfl)) rfl (by kernel_rfl) rfl (by kernel_rfl) rfl hz19) (zL 1 6 (zE ?_))))))
  refine zkBlk (zkSeq (zrReg (zL 2 2 (zE ?_))))
  exact zkNil (eN1 hS hQ)
def f46_l2_j3_J (a1 : List Int) (p37 : List (List UInt8)) (p38 : Int) (p39 : Bool) : St := ⟨(up (up (up (up (up u0 20 (dB p39)) 19 (dI p38)) 18 (dI (a1.length : Int))) 17 (dL a1)) 4 (.r (.msl 40 0 0 p37.length))), (up h0 40 ⟨0, some (.own 9 1 (eStr.cells p37))⟩)⟩
def f46_l2_j3 (a1 : List Int) (p37 : List (List UInt8)) (p38 : Int) (p39 : Bool) : Option (((List (List UInt8)) × Int) ⊕ (((List (List UInt8))))) := (bif p39 then (f46_l2_j4 a1 p37 p38) else (some (.inr p37)))
theorem f46_l2_j3_ok {d : Nat} (hd : 4 ≤ d) (a1 : List Int) {r : ((List (List UInt8)) × Int) ⊕ (((List (List UInt8))))} {Q : PQ} (hQ : FQ (finL (f46_l2_H a1) (f46_l2_X a1) r) Q) (p37 : List (List UInt8)) (p38 : Int) (p39 : Bool) (hS : f46_l2_j3 a1 p37 p38 p39 = some r) {st : St} (he : keepSt [4, 17, 18, 19, 20] [(40, .id 40)] [] st = f46_l2_j3_J a1 p37 p38 p39) : ZR (lev codes baseL (d - 1)) Q c46_2 [] st := by
 refine zrKeep he ?_
 unfold f46_l2_j3 at hS
 refine zrSeq (sR 20 hS (fun hS => ?_) (fun hS => ?_))
 ·exact zT (zrSkip (zkSeq (f46_l2_j4_ok hd a1 hQ p37 p38 hS (by kernel_rfl))))
 ·exact zF (zrKeep (J := f46_l2_e0_J a1 p37) (by kernel_rfl) (zrExit (zkSeqX (zkNil (eX0 hS hQ)))))
def f46_l2 (a1 : List Int) (x : (List (List UInt8)) × Int) : Option (((List (List UInt8)) × Int) ⊕ (((List (List UInt8))))) := (bif (decide (x.2 < (a1.length : Int))) then (f46_l2_j3 a1 x.1 x.2 true) else (f46_l2_j3 a1 x.1 x.2 false))
theorem f46_l2_ok {d : Nat} (hd : 4 ≤ d) (a1 : List Int) {r : ((List (List UInt8)) × Int) ⊕ (((List (List UInt8))))} {Q : PQ} (hQ : FQ (finL (f46_l2_H a1) (f46_l2_X a1) r) Q) {x : (List (List UInt8)) × Int} (hS : f46_l2 a1 x = some r) {st : St} (he : f46_l2_H a1 x st) : ZR (lev codes baseL (d - 1)) Q c46_3 [] st := by
 refine zrKeep he ?_
 unfold f46_l2 at hS
 refine zrSeq (zrReg ?_)
 refine sB 20 1 (.cmpI .lss (tm 19) (tm 18)) hS (fun hS => ?_) (fun hS => ?_)
 ·refine zE (zkSeq ?_)
  exact f46_l2_j3_ok hd a1 hQ x.1 x.2 true hS (by kernel_rfl)
 ·refine zE (zkSeq ?_)
  exact f46_l2_j3_ok hd a1 hQ x.1 x.2 false hS (by kernel_rfl)
def f46_j1_J (a1 : List Int) : St := ⟨(up u0 0 (dL a1)), h0⟩
def f46_j1 (a1 : List Int) : Option ((List UInt8) × Int) := ((loopO (f46_l2 a1) ([], 0)).bind fun z20 => ((libJoin z20 [59]).bind fun z21 => (some (z21, 0))))
theorem f46_j1_ok {d : Nat} (hd : 4 ≤ d) (a1 : List Int) {r : (List UInt8) × Int} {Q : PQ} (hQ : FQ (f46_Q r) Q)  (hS : f46_j1 a1 = some r) {st : St} (he : keepSt [0] [] [] st = f46_j1_J a1) : ZR (lev codes baseL (d - 1)) Q c46_4 [] st := by
 refine zrKeep he ?_
 unfold f46_j1 at hS
 refine zrSeq (zrReg (zL 1 1 (zE (zkSeq (zrSeq (zrSeq (zrReg (zL 3 3 (zE (zkSeq ?_))))))))))
 refine zrBlk (bindE hS (fun z20 hz20 hS => zrLoop (f46_l2_H a1) (f46_l2_X a1) (fun x st r Q h0 hS hQ => f46_l2_ok hd a1 hQ hS h0) (x := ([], 0)) (z := z20) (by show keepSt _ _ _ _ = _; kernel_rfl) hz20 ?_))
 intro e st' _ hX
 obtain ⟨rfl, rfl⟩ : _ ∧ _ := hX
 refine zkBlkX (zkSeq (zrSeq (zrReg (zL 1 1 ?_))))
 refine bindE hS (fun z21 hz21 hS => zO (some 35) 2 (.call 72 [(tm 34), (.const (.string ⟨#[59]⟩))]) (ev_callB (args := [(.r (.msl 40 0 0 z20.length)), (.d (.str ([59])))]) (by kernel_rfl) (l_cons (l_own eStr (e := 9) (k := 1) (xs := z20) (by kernel_rfl) rfl rfl) (lk l_nil)) (libJoin_ok (d - 1) (dpt hd rfl) z20 [59] z21 hz21) (by kernel_rfl) (by kernel_rfl)) (zL 2 4 (zE (zkSeq ?_))))
 exact zrRet (zkNil (endQ hS hQ (fR (f46_out z21 0))))
def f46_j0_J (a1 : List Int) : St := ⟨(up u0 0 (dL a1)), h0⟩
def f46_j0 (a1 : List Int) : Option ((List UInt8) × Int) := (bif (decide (32 < (a1.length : Int))) then (some ([], 2)) else (f46_j1 a1 ))
theorem f46_j0_ok {d : Nat} (hd : 4 ≤ d) (a1 : List Int) {r : (List UInt8) × Int} {Q : PQ} (hQ : FQ (f46_Q r) Q)  (hS : f46_j0 a1 = some r) {st : St} (he : keepSt [0] [] [] st = f46_j0_J a1) : ZR (lev codes baseL (d - 1)) Q c46_5 [] st := by
 refine zrKeep he ?_
 unfold f46_j0 at hS
 refine zrSeq (zrSeq (zrReg (zL 2 2 ?_)))
 refine sB 16 3 (.cmpI .gtr (tm 15) (ki 32)) hS (fun hS => ?_) (fun hS => ?_)
 ·refine zE (zkSeq (zT (zrSeq (zrReg (zL 2 2 (zE (zkSeq ?_)))))))
  exact zrRet (zkSeqR (zkNil (endQ hS hQ (fR (f46_out [] 2)))))
 ·refine zE (zkSeq (zF ?_))
  exact zrSkip (zkSeq (f46_j1_ok hd a1 hQ  hS (by kernel_rfl)))
def f46 (a1 : List Int) : Option ((List UInt8) × Int) := (bif (decide ((a1.length : Int) = 0)) then (some ([], 1)) else ((f59 a1).bind fun z22 => (bif z22 then (some ([], 1)) else (f46_j0 a1 ))))
theorem f46_ok (d : Nat) (hd : 4 ≤ d) (a1 : List Int) (r : (List UInt8) × Int) (hS : f46 a1 = some r) : lev codes baseL d 46 [(dL a1)] [] = some ((.tup [(.d (.str r.1)), (dI r.2)]), []) := by
 refine lev_go codes46 rfl rfl (Nat.le_trans (Nat.le_of_ble_eq_true rfl) hd) fun Q hQ => ?_
 unfold f46 at hS
 show ZR _ Q c46_b [] _
 replace hQ : FQ (f46_Q r) Q := hQ
 refine zrSeq (zrReg (zL 2 2 (zE (zkSeq (zrSeq (zrSeq (zrReg (zL 2 2 ?_))))))))
 refine sB 9 3 (ck 8 0) hS (fun hS => ?_) (fun hS => ?_)
 ·refine zL 4 7 (zE (zkSeq (zT (zrSeq (zrReg (zL 2 2 (zE (zkSeq ?_))))))))
  exact zrRet (zkSeqR (zkNil (endQ hS hQ (fR (f46_out [] 1)))))
 ·refine zL 2 5 (bindE hS (fun z22 hz22 hS => zG (some 12) 6 10 false (.call 59 [(tm 11), (.func 70)]) (ev_cA (f59_ok (d - 1) (dpt hd rfl) a1 z22 hz22)) (zL 1 7 (zE (zkSeq ?_)))))
  refine sR 13 hS (fun hS => ?_) (fun hS => ?_)
  ·refine zT (zrSeq (zrReg (zL 2 2 (zE (zkSeq ?_)))))
   exact zrRet (zkSeqR (zkNil (endQ hS hQ (fR (f46_out [] 1)))))
  ·exact zF (zrSkip (zkSeq (f46_j0_ok hd a1 hQ  hS (by kernel_rfl))))
/- farwriter/parse.within -/
def f42_fin (p3 : Bool) : St := ⟨(up u0 6 (dB p3)), h0⟩
theorem f42_out (p3 : Bool) : outR (f42_fin p3) 0 c42.res = some ((dB p3), []) := by
 kernel_rfl
def f42_Q (r : Bool) (e : PX) (st : St) : Prop := DoneF c42 0 ((dB r), []) e st
def f42 (a1 : Int) (a2 : Int) (a3 : Int) : Option (Bool) := (bif (decide (a2 ≤ a1)) then (bif (decide (a1 ≤ a3)) then (some true) else (some false)) else (some false))
theorem f42_ok (d : Nat) (hd : 1 ≤ d) (a1 : Int) (a2 : Int) (a3 : Int) (r : Bool) (hS : f42 a1 a2 a3 = some r) : lev codes baseL d 42 [(dI a1), (dI a2), (dI a3)] [] = some ((dB r), []) := by
 refine lev_go codes42 rfl rfl (Nat.le_trans (Nat.le_of_ble_eq_true rfl) hd) fun Q hQ => ?_
 unfold f42 at hS
 show ZR _ Q c42_b [] _
 replace hQ : FQ (f42_Q r) Q := hQ
 refine zrSeq (zrReg (zL 1 1 (zE (zkSeq (zrSeq (zrReg (zL 2 2 ?_)))))))
 refine sB 9 3 (.cmpI .geq (tm 7) (tm 8)) hS (fun hS => ?_) (fun hS => ?_)
 ·refine zL 3 6 (sH 13 7 10 true (.cmpI .leq (tm 11) (tm 12)) hS (fun hS => ?_) (fun hS => ?_))
  ·refine zL 2 9 (zE (zkSeq ?_))
   exact zrRet (zkNil (endQ hS hQ (fR (f42_out true))))
  ·refine zL 2 9 (zE (zkSeq ?_))
   exact zrRet (zkNil (endQ hS hQ (fR (f42_out false))))
 ·refine zL 6 9 (zE (zkSeq ?_))
  exact zrRet (zkNil (endQ hS hQ (fR (f42_out false))))
/- farwriter/parse.inters -/
def f43_fin (p9 : Bool) : St := ⟨(up u0 4 (dB p9)), h0⟩
theorem f43_out (p9 : Bool) : outR (f43_fin p9) 0 c43.res = some ((dB p9), []) := by
 kernel_rfl
def f43_Q (r : Bool) (e : PX) (st : St) : Prop := DoneF c43 0 ((dB r), []) e st
def f43_l0_J (a1 : List UInt8) (a2 : Int) (x : Int) : St := ⟨(up (up (up (up u0 8 (dI x)) 7 (dI (a1.length : Int))) 1 (dI a2)) 0 (.d (.str a1))), h0⟩
def f43_l0_H (a1 : List UInt8) (a2 : Int) (x : Int) (st : St) : Prop := keepSt [0, 1, 7, 8] [] [] st = f43_l0_J a1 a2 x
def f43_l0_e0_J (a1 : List UInt8) (a2 : Int) : St := ⟨(up (up u0 1 (dI a2)) 0 (.d (.str a1))), h0⟩
def f43_l0_X (a1 : List UInt8) (a2 : Int) (z : Unit ⊕ Bool) (e : PX) (st : St) : Prop := (match z with | .inl z => e = .exit 0 ∧ st = f43_l0_e0_J a1 a2 | .inr z => e = .ret ∧ finSt c43.fin st = f43_fin z)
def f43_l0_j2_J (a1 : List UInt8) (a2 : Int) (p14 : Int) : St := ⟨(up (up (up (up u0 8 (dI p14)) 7 (dI (a1.length : Int))) 1 (dI a2)) 0 (.d (.str a1))), h0⟩
def f43_l0_j2 (a1 : List UInt8) (a2 : Int) (p14 : Int) : Option (Int ⊕ (Unit ⊕ Bool)) := ((idx a1 p14).bind fun z7 => ((f42 (z7.toNat : Int) 32 47).bind fun z8 => (bif (!z8) then (some (.inr (.inr false))) else (some (.inl (IntKind.i64.wrap (p14 + 1)))))))
theorem f43_l0_j2_ok {d : Nat} (hd : 2 ≤ d) (a1 : List UInt8) (a2 : Int) {r : Int ⊕ (Unit ⊕ Bool)} {Q : PQ} (hQ : FQ (finL (f43_l0_H a1 a2) (f43_l0_X a1 a2) r) Q) (p14 : Int) (hS : f43_l0_j2 a1 a2 p14 = some r) {st : St} (he : keepSt [0, 1, 7, 8] [] [] st = f43_l0_j2_J a1 a2 p14) : ZR (lev codes baseL (d - 1)) Q c43_1 [] st := by
 refine zrKeep he ?_
 unfold f43_l0_j2 at hS
 refine zrSeq (zrBlk (zrSeq (zrReg (zL 2 2 (zE (zkSeq (zrSeq (zrReg (zL 2 2 ?_)))))))))
 refine bindE hS (fun z7 hz7 hS => zO (v := (.d (.int .u8 (z7.toNat : Int)))) (ups := []) (some 13) 3 (.ixStr (tm 11) (tm 12)) (ev_ixStr (kk := .i64) (s := a1) (j := p14) (by kernel_rfl) (by kernel_rfl) hz7) (zO (v := (dI (z7.toNat : Int))) (ups := []) (some 14) 4 (.cvI .i64 (tm 13)) (ev_cv (kk := .u8) (a := (z7.toNat : Int)) (by kernel_rfl) (cv_i64 _)) (bindE hS (fun z8 hz8 hS => zO (some 15) 5 (.call 42 [(tm 14), (ki 32), (ki 47)]) (ev_cA (f42_ok (d - 1) (dpt hd rfl) (z7.toNat : Int) 32 47 z8 hz8)) (zL 1 6 (zE (zkSeq ?_)))))))
 refine sR 16 hS (fun hS => ?_) (fun hS => ?_)
 ·refine zT (zrSeq (zrReg (zL 1 1 (zE (zkSeq ?_)))))
  exact zrRet (zkBlkR (zkSeqR (zkNil (eX1 hS hQ))))
 ·refine zF (zrSkip (zkBlk (zkSeq (zrReg (zL 2 2 (zE ?_))))))
  exact zkNil (eN1 hS hQ)
def f43_l0_j1_J (a1 : List UInt8) (a2 : Int) (p12 : Int) (p13 : Bool) : St := ⟨(up (up (up (up (up u0 9 (dB p13)) 8 (dI p12)) 7 (dI (a1.length : Int))) 1 (dI a2)) 0 (.d (.str a1))), h0⟩
def f43_l0_j1 (a1 : List UInt8) (a2 : Int) (p12 : Int) (p13 : Bool) : Option (Int ⊕ (Unit ⊕ Bool)) := (bif p13 then (f43_l0_j2 a1 a2 p12) else (some (.inr (.inl ()))))
theorem f43_l0_j1_ok {d : Nat} (hd : 2 ≤ d) (a1 : List UInt8) (a2 : Int) {r : Int ⊕ (Unit ⊕ Bool)} {Q : PQ} (hQ : FQ (finL (f43_l0_H a1 a2) (f43_l0_X a1 a2) r) Q) (p12 : Int) (p13 : Bool) (hS : f43_l0_j1 a1 a2 p12 p13 = some r) {st : St} (he : keepSt [0, 1, 7, 8, 9] [] [] st = f43_l0_j1_J a1 a2 p12 p13) : ZR (lev codes baseL (d - 1)) Q c43_2 [] st := by
 refine zrKeep he ?_
 unfold f43_l0_j1 at hS
 refine zrSeq (sR 9 hS (fun hS => ?_) (fun hS => ?_))
 ·exact zT (zrSkip (zkSeq (f43_l0_j2_ok hd a1 a2 hQ p12 hS (by kernel_rfl))))
 ·exact zF (zrKeep (J := f43_l0_e0_J a1 a2) (by kernel_rfl) (zrExit (zkSeqX (zkNil (eX0 hS hQ)))))
def f43_l0 (a1 : List UInt8) (a2 : Int) (x : Int) : Option (Int ⊕ (Unit ⊕ Bool)) := (bif (decide (x < (a1.length : Int))) then (f43_l0_j1 a1 a2 x true) else (f43_l0_j1 a1 a2 x false))
theorem f43_l0_ok {d : Nat} (hd : 2 ≤ d) (a1 : List UInt8) (a2 : Int) {r : Int ⊕ (Unit ⊕ Bool)} {Q : PQ} (hQ : FQ (finL (f43_l0_H a1 a2) (f43_l0_X a1 a2) r) Q) {x : Int} (hS : f43_l0 a1 a2 x = some r) {st : St} (he : f43_l0_H a1 a2 x st) : ZR (lev codes baseL (d - 1)) Q c43_3 [] st := by
 refine zrKeep he ?_
 unfold f43_l0 at hS
 refine zrSeq (zrReg ?_)
 refine sB 9 1 (.cmpI .lss (tm 8) (tm 7)) hS (fun hS => ?_) (fun hS => ?_)
 ·refine zE (zkSeq ?_)
  exact f43_l0_j1_ok hd a1 a2 hQ x true hS (by kernel_rfl)
 ·refine zE (zkSeq ?_)
  exact f43_l0_j1_ok hd a1 a2 hQ x false hS (by kernel_rfl)
def f43 (a1 : List UInt8) (a2 : Int) : Option (Bool) := ((loopO (f43_l0 a1 a2) 0).bind fun z9 => (Sum.elim (fun z10 => (bif (decide ((a1.length : Int) ≤ a2)) then (some true) else (some false))) (fun z11 => (some z11)) z9))
theorem f43_ok (d : Nat) (hd : 2 ≤ d) (a1 : List UInt8) (a2 : Int) (r : Bool) (hS : f43 a1 a2 = some r) : lev codes baseL d 43 [(.d (.str a1)), (dI a2)] [] = some ((dB r), []) := by
 refine lev_go codes43 rfl rfl (Nat.le_trans (Nat.le_of_ble_eq_true rfl) hd) fun Q hQ => ?_
 unfold f43 at hS
 show ZR _ Q c43_b [] _
 replace hQ : FQ (f43_Q r) Q := hQ
 refine zrSeq (zrReg (zL 1 1 (zE (zkSeq (zrSeq (zrSeq (zrReg (zL 3 3 (zE (zkSeq ?_))))))))))
 refine zrBlk (bindE hS (fun z9 hz9 hS => zrLoop (f43_l0_H a1 a2) (f43_l0_X a1 a2) (fun x st r Q h0 hS hQ => f43_l0_ok hd a1 a2 hQ hS h0) (x := 0) (z := z9) (by show keepSt _ _ _ _ = _; kernel_rfl) hz9 ?_))
 rcases z9 with z10 | z11
 ·replace hS := (show _ = _ from hS)
  simp only [Sum.elim_inl] at hS
  intro e st' _ hX
  obtain ⟨rfl, rfl⟩ : _ ∧ _ := hX
  refine zkBlkX (zkSeq (zrSeq (zrReg (zL 3 3 ?_))))
  refine sB 21 4 (.cmpI .leq (tm 19) (tm 20)) hS (fun hS => ?_) (fun hS => ?_)
  ·refine zL 1 5 (zE (zkSeq ?_))
   exact zrRet (zkNil (endQ hS hQ (fR (f43_out true))))
  ·refine zL 1 5 (zE (zkSeq ?_))
   exact zrRet (zkNil (endQ hS hQ (fR (f43_out false))))
 ·simp only [Sum.elim_inr] at hS
  intro e st' _ hX
  obtain ⟨rfl, hX⟩ : _ ∧ _ := hX
  exact zkBlkR (zkSeqR (zkNil (endQ hS hQ (fRet (by kernel_rfl) ((congrArg (fun s => outR s 0 c43.res) hX).trans (f43_out z11))))))
/- farwriter/parse.runes -/
def f45_fin (p11 : List Int) : St := ⟨(up u0 2 (.r (.msl 32 0 0 p11.length))), (up h0 32 ⟨0, some (.own 3 1 (eI.cells p11))⟩)⟩
theorem f45_out (p11 : List Int) : outR (f45_fin p11) 0 c45.res = some ((.r (.own 0 3 1 p11.length (eI.cells p11))), []) := by
 exact out_of (ids := []) (ids' := [32]) (l := [(.r (.msl 32 0 0 p11.length))]) (by kernel_rfl) (by kernel_rfl) (o_own eI (e := 3) (k := 1) (xs := p11) (by kernel_rfl) rfl rfl rfl rfl)
def f45_Q (r : (List Int)) (e : PX) (st : St) : Prop := DoneF c45 0 ((.r (.own 0 3 1 r.length (eI.cells r))), []) e st
def f45_l0_J (a1 : List UInt8) (x : (List Int) × Int) : St := ⟨(up (up u0 7 (pt 64)) 3 (.r (.msl 32 0 0 x.1.length))), (up (up h0 64 ⟨0, some (.box ((.tup [(.d (.str a1)), (dI x.2)]) :: []))⟩) 32 ⟨0, some (.own 3 1 (eI.cells x.1))⟩)⟩
def f45_l0_H (a1 : List UInt8) (x : (List Int) × Int) (st : St) : Prop := keepSt [3, 7] [(32, .id 32), (64, .id 64)] [] st = f45_l0_J a1 x
def f45_l0_e0_J (a1 : List UInt8) (p10 : List Int) : St := ⟨(up u0 3 (.r (.msl 32 0 0 p10.length))), (up h0 32 ⟨0, some (.own 3 1 (eI.cells p10))⟩)⟩
def f45_l0_X (a1 : List UInt8) (z : ((List Int))) (e : PX) (st : St) : Prop := e = .exit 0 ∧ st = f45_l0_e0_J a1 z
def f45_l0_j1_J (a1 : List UInt8) (p12 : List Int) (p13 : Int) (p14 : Int) (p15 : Int) : St := ⟨(up (up (up u0 8 (.tup [(dB true), (dI p14), (.d (.int .i32 p15))])) 7 (pt 64)) 3 (.r (.msl 32 0 0 p12.length))), (up (up h0 64 ⟨0, some (.box ((.tup [(.d (.str a1)), (dI p13)]) :: []))⟩) 32 ⟨0, some (.own 3 1 (eI.cells p12))⟩)⟩
def f45_l0_j1 (a1 : List UInt8) (p12 : List Int) (p13 : Int) (p14 : Int) (p15 : Int) : Option (((List Int) × Int) ⊕ (((List Int)))) := ((app? 8 p12 ([(IntKind.i64.wrap (p15))] : List Int)).bind fun z9 => (some (.inl (z9, p13))))
theorem f45_l0_j1_ok {d : Nat} (hd : 1 ≤ d) (a1 : List UInt8) {r : ((List Int) × Int) ⊕ (((List Int)))} {Q : PQ} (hQ : FQ (finL (f45_l0_H a1) (f45_l0_X a1) r) Q) (p12 : List Int) (p13 : Int) (p14 : Int) (p15 : Int) (hS : f45_l0_j1 a1 p12 p13 p14 p15 = some r) {st : St} (he : keepSt [3, 7, 8] [(32, .id 32), (64, .id 64)] [] st = f45_l0_j1_J a1 p12 p13 p14 p15) : ZR (lev codes baseL (d - 1)) Q c45_1 [] st := by
 refine zrKeep he ?_
 unfold f45_l0_j1 at hS
 refine zrBlk (zrSeq (zrReg (zL 2 2 (zE (zkSeq (zrReg (zL 4 4 ?_)))))))
 refine bindE hS (fun z9 hz9 hS => zO (v := (.r (.msl 32 1 0 z9.length))) (ups := [(32, ⟨1, some (.own 3 1 (eI.cells z9))⟩)]) (some 15) 5 (.app 3 1 8 (tm 11) (tm 14)) (ev_app eI (b := 32) (g := 0) (n := p12.length) (xs := p12) (ys := [(IntKind.i64.wrap (p15))]) ((congrArg (asL _) (by kernel_rfl : ρof _ (.tmp 14) = (.r (.msl 120 1 0 (([(IntKind.i64.wrap (p15))] : List Int).length))))).trans (as_whole eI (e := 3) (k := 1) (xs := [(IntKind.i64.wrap (p15))]) (by kernel_rfl) rfl rfl)) rfl (by kernel_rfl) rfl (by kernel_rfl) rfl hz9) (zL 1 6 (zE ?_)))
 exact zkBlk (zkNil (eN1 hS hQ))
def f45_l0 (a1 : List UInt8) (x : (List Int) × Int) : Option (((List Int) × Int) ⊕ (((List Int)))) := ((chk (decide (0 ≤ x.2))).bind fun z8 => (bif (decide (x.2 < (a1.length : Int))) then (f45_l0_j1 a1 x.1 (((x.2 : Int).toNat + (Utf8.decode ⟨a1.toArray⟩ (x.2 : Int).toNat).2 : Nat) : Int) x.2 ((Utf8.decode ⟨a1.toArray⟩ (x.2 : Int).toNat).1 : Int)) else (some (.inr x.1))))
theorem f45_l0_ok {d : Nat} (hd : 1 ≤ d) (a1 : List UInt8) {r : ((List Int) × Int) ⊕ (((List Int)))} {Q : PQ} (hQ : FQ (finL (f45_l0_H a1) (f45_l0_X a1) r) Q) {x : (List Int) × Int} (hS : f45_l0 a1 x = some r) {st : St} (he : f45_l0_H a1 x st) : ZR (lev codes baseL (d - 1)) Q c45_2 [] st := by
 refine zrKeep he ?_
 unfold f45_l0 at hS
 refine zrSeq (zrReg ?_)
 refine bindE hS (fun z8 hz8 hS => boolC (decide (x.2 < (a1.length : Int))) (fun hc => ?_) (fun hc => ?_))
 ·replace hS := cond_t hc hS
  refine zO (v := (.tup [(dB true), (dI x.2), (.d (.int .i32 ((Utf8.decode ⟨a1.toArray⟩ (x.2 : Int).toNat).1 : Int)))])) (ups := [(64, ⟨0, some (.box ((.tup [(.d (.str a1)), (dI (((x.2 : Int).toNat + (Utf8.decode ⟨a1.toArray⟩ (x.2 : Int).toNat).2 : Nat) : Int))]) :: []))⟩)]) (some 8) 1 (.nxt (tm 7)) (ev_nxtT (s := a1) (p := x.2) (b := 64) (g := 0) (by kernel_rfl) (by kernel_rfl) hz8 hc) (zL 1 2 (zE (zkSeq (zrSeq (zT ?_)))))
  exact zrSkip (zkSeq (f45_l0_j1_ok hd a1 hQ x.1 (((x.2 : Int).toNat + (Utf8.decode ⟨a1.toArray⟩ (x.2 : Int).toNat).2 : Nat) : Int) x.2 ((Utf8.decode ⟨a1.toArray⟩ (x.2 : Int).toNat).1 : Int) hS (by kernel_rfl)))
 ·replace hS := cond_f hc hS
  refine zO (v := (.tup [(dB false)])) (ups := []) (some 8) 1 (.nxt (tm 7)) (ev_nxtF (s := a1) (p := x.2) (b := 64) (g := 0) (by kernel_rfl) (by kernel_rfl) hz8 hc) (zL 1 2 (zE (zkSeq (zrSeq (zF ?_)))))
  exact zrKeep (J := f45_l0_e0_J a1 x.1) (by kernel_rfl) (zrExit (zkSeqX (zkNil (eX0 hS hQ))))
def f45 (a1 : List UInt8) : Option ((List Int)) := ((loopO (f45_l0 a1) ([], 0)).bind fun z10 => (some z10))
theorem f45_ok (d : Nat) (hd : 1 ≤ d) (a1 : List UInt8) (r : (List Int)) (hS : f45 a1 = some r) : lev codes baseL d 45 [(.d (.str a1))] [] = some ((.r (.own 0 3 1 r.length (eI.cells r))), []) := by
 refine lev_go codes45 rfl rfl (Nat.le_trans (Nat.le_of_ble_eq_true rfl) hd) fun Q hQ => ?_
 unfold f45 at hS
 show ZR _ Q c45_b [] _
 replace hQ : FQ (f45_Q r) Q := hQ
 refine zrSeq (zrReg (zL 1 1 (zE (zkSeq (zrSeq (zrReg (zL 1 1 (zE (zkSeq (zrSeq (zrSeq (zrReg (zL 2 2 (zE (zkSeq ?_)))))))))))))))
 refine zrBlk (bindE hS (fun z10 hz10 hS => zrLoop (f45_l0_H a1) (f45_l0_X a1) (fun x st r Q h0 hS hQ => f45_l0_ok hd a1 hQ hS h0) (x := ([], 0)) (z := z10) (by show keepSt _ _ _ _ = _; kernel_rfl) hz10 ?_))
 intro e st' _ hX
 obtain ⟨rfl, rfl⟩ : _ ∧ _ := hX
 refine zkBlkX (zkSeq (zrSeq (zrReg (zL 2 2 (zE (zkSeq ?_))))))
 exact zrRet (zkNil (endQ hS hQ (fR (f45_out z10))))
/- farwriter/parse.Write -/
def f26_fin (p27 : List Int) (p28 : Int) : St := ⟨(up (up u0 3 (dI p28)) 2 (.r (.msl 1161 0 0 p27.length))), (up h0 1161 ⟨0, some (.own 3 1 (eI.cells p27))⟩)⟩
theorem f26_out (p27 : List Int) (p28 : Int) : outR (f26_fin p27 p28) 0 c26.res = some ((.tup [(.r (.own 0 3 1 p27.length (eI.cells p27))), (dI p28)]), []) := by
 exact out_of (ids := []) (ids' := [1161]) (l := [(.r (.msl 1161 0 0 p27.length)), (dI p28)]) (by kernel_rfl) (by kernel_rfl) (o_tup (o_cons (o_own eI (e := 3) (k := 1) (xs := p27) (by kernel_rfl) rfl rfl rfl rfl) (o_cons rfl o_nil)))
def f26_Q (r : (List Int) × Int) (e : PX) (st : St) : Prop := DoneF c26 0 ((.tup [(.r (.own 0 3 1 r.1.length (eI.cells r.1))), (dI r.2)]), []) e st
def f26_j2_J (a1 : GAct) (p33 : List UInt8) : St := ⟨(up (up (up (up u0 7 (.r (.msl 888 0 0 (([27, 91] : List Int).length)))) 5 (.d (.str p33))) 4 (dI a1.Code)) 1 (pt 16)), (up (up h0 888 ⟨0, some (.own 3 1 (eI.cells ([27, 91])))⟩) 16 ⟨0, some (.box (bx_GAct a1 (dL a1.Args)))⟩)⟩
def f26_j2 (a1 : GAct) (p33 : List UInt8) : Option ((List Int) × Int) := ((cat? p33 a1.Inter).bind fun z19 => ((f45 z19).bind fun z20 => ((app? 8 ([27, 91] : List Int) z20).bind fun z21 => ((app? 8 z21 ([a1.Code] : List Int)).bind fun z22 => (some (z22, 0))))))
theorem f26_j2_ok {d : Nat} (hd : 5 ≤ d) (a1 : GAct) {r : (List Int) × Int} {Q : PQ} (hQ : FQ (f26_Q r) Q) (p33 : List UInt8) (hS : f26_j2 a1 p33 = some r) {st : St} (he : keepSt [1, 4, 5, 7] [(16, .id 16), (888, .id 888)] [] st = f26_j2_J a1 p33) : ZR (lev codes baseL (d - 1)) Q c26_1 [.blk 0, .seq c26_2] st := by
 refine zrKeep he ?_
 unfold f26_j2 at hS
 refine zrSeq (zrReg (zL 4 4 ?_))
 refine bindE hS (fun z19 hz19 hS => zO (v := (.d (.str z19))) (ups := []) (some 123) 5 (.strO .add (tm 120) (tm 122)) (ev_cat (a := p33) (c := a1.Inter) (by kernel_rfl) (by kernel_rfl) hz19) (bindE hS (fun z20 hz20 hS => zO (some 124) 6 (c1 45 123) (ev_cA (f45_ok (d - 1) (dpt hd rfl) z19 z20 hz20)) (bindE hS (fun z21 hz21 hS => zO (v := (.r (.msl 888 1 0 z21.length))) (ups := [(888, ⟨1, some (.own 3 1 (eI.cells z21))⟩)]) (some 125) 7 (.app 3 1 8 (tm 119) (tm 124)) (ev_app eI (b := 888) (g := 0) (n := ([27, 91] : List Int).length) (xs := [27, 91]) (ys := z20) ((congrArg (asL _) (by kernel_rfl : ρof _ (.tmp 124) = (.r (.msl 1000 1 0 z20.length)))).trans (as_whole eI (e := 3) (k := 1) (xs := z20) (by kernel_rfl) rfl rfl)) rfl (by kernel_rfl) rfl (by kernel_rfl) rfl hz21) (zL 2 9 (bindE hS (fun z22 hz22 hS => zO (v := (.r (.msl 888 2 0 z22.length))) (ups := [(888, ⟨2, some (.own 3 1 (eI.cells z22))⟩)]) (some 128) 10 (.app 3 1 8 (tm 125) (tm 127)) (ev_app eI (b := 888) (g := 1) (n := z21.length) (xs := z21) (ys := [a1.Code]) ((congrArg (asL _) (by kernel_rfl : ρof _ (.tmp 127) = (.r (.msl 1024 1 0 (([a1.Code] : List Int).length))))).trans (as_whole eI (e := 3) (k := 1) (xs := [a1.Code]) (by kernel_rfl) rfl rfl)) rfl (by kernel_rfl) rfl (by kernel_rfl) rfl hz22) (zL 2 12 (zE (zkSeq ?_)))))))))))
 exact zrRet (zkBlkR (zkSeqR (zkNil (endQ hS hQ (fR (f26_out z22 0))))))
def f26_j1_J (a1 : GAct) (p30 : List UInt8) : St := ⟨(up (up (up u0 5 (.d (.str p30))) 4 (dI a1.Code)) 1 (pt 16)), (up h0 16 ⟨0, some (.box (bx_GAct a1 (dL a1.Args)))⟩)⟩
def f26_j1 (a1 : GAct) (p30 : List UInt8) : Option ((List Int) × Int) := (bif (!decide (a1.Mark = 0)) then none else (f26_j2 a1 p30))
theorem f26_j1_ok {d : Nat} (hd : 5 ≤ d) (a1 : GAct) {r : (List Int) × Int} {Q : PQ} (hQ : FQ (f26_Q r) Q) (p30 : List UInt8) (hS : f26_j1 a1 p30 = some r) {st : St} (he : keepSt [1, 4, 5] [(16, .id 16)] [] st = f26_j1_J a1 p30) : ZR (lev codes baseL (d - 1)) Q c26_3 [.blk 0, .seq c26_2] st := by
 refine zrKeep he ?_
 unfold f26_j1 at hS
 refine zrSeq (zrReg (zL 2 2 (zE (zkSeq (zrSeq (zrSeq (zrReg (zL 2 2 ?_))))))))
 refine sB 113 3 (.cmpI .neq (tm 112) (ki 0)) hS (fun hS => ?_) (fun hS => ?_)
 ·refine zE (zkSeq (zT (zrReg ?_)))
  cases hS
 ·refine zE (zkSeq (zF ?_))
  exact zrSkip (zkSeq (f26_j2_ok hd a1 hQ p30 hS (by kernel_rfl)))
def f26_j0_J (a1 : GAct) : St := ⟨(up u0 1 (pt 16)), (up h0 16 ⟨0, some (.box (bx_GAct a1 (dL a1.Args)))⟩)⟩
def f26_j0 (a1 : GAct) : Option ((List Int) × Int) := (bif (decide (a1.Kind = 1)) then none else (bif (decide (a1.Kind = 2)) then none else (bif (decide (a1.Kind = 3)) then none else (bif (decide (a1.Kind = 4)) then ((f46 a1.Args).bind fun z13 => (bif (decide (a1.Mark = 0)) then ((f43 a1.Inter 2).bind fun z23 => (bif z23 then ((f42 a1.Code 64 126).bind fun z24 => (bif z24 then (bif (decide (z13.2 = 0)) then (bif (decide ((z13.1.length : Int) ≤ 100)) then (f26_j1 a1 z13.1) else (some ([], 1))) else (some ([], 1))) else (some ([], 1)))) else (some ([], 1)))) else ((f42 a1.Mark 60 63).bind fun z25 => (bif z25 then ((f43 a1.Inter 2).bind fun z26 => (bif z26 then ((f42 a1.Code 64 126).bind fun z27 => (bif z27 then (bif (decide (z13.2 = 0)) then (bif (decide ((z13.1.length : Int) ≤ 100)) then (f26_j1 a1 z13.1) else (some ([], 1))) else (some ([], 1))) else (some ([], 1)))) else (some ([], 1)))) else (some ([], 1)))))) else none))))
theorem f26_j0_ok {d : Nat} (hd : 5 ≤ d) (a1 : GAct) {r : (List Int) × Int} {Q : PQ} (hQ : FQ (f26_Q r) Q)  (hS : f26_j0 a1 = some r) {st : St} (he : keepSt [1] [(16, .id 16)] [] st = f26_j0_J a1) : ZR (lev codes baseL (d - 1)) Q c26_4 [] st := by
 refine zrKeep he ?_
 unfold f26_j0 at hS
 refine zrSeq (zrReg (zL 3 3 (zE (zkSeq (zrSeq (zrSeq (zrReg (zL 2 2 (zE (zkSeq ?_))))))))))
 refine zrBlk (zrSeq (zrReg ?_))
 refine sB 16 1 (ck 14 1) hS (fun hS => ?_) (fun hS => ?_)
 ·refine zL 1 2 (zE (zkSeq (zT (zrSeq (zrReg ?_)))))
  cases hS
 ·refine zL 1 2 (zE (zkSeq (zF (zrSeq (zrReg ?_)))))
  refine sB 31 1 (ck 14 2) hS (fun hS => ?_) (fun hS => ?_)
  ·refine zL 1 2 (zE (zkSeq (zT (zrSeq (zrReg ?_)))))
   cases hS
  ·refine zL 1 2 (zE (zkSeq (zF (zrSeq (zrReg ?_)))))
   refine sB 49 1 (ck 14 3) hS (fun hS => ?_) (fun hS => ?_)
   ·refine zL 1 2 (zE (zkSeq (zT (zrSeq (zrReg (zL 1 1 ?_))))))
    cases hS
   ·refine zL 1 2 (zE (zkSeq (zF (zrSeq (zrReg ?_)))))
    refine sB 77 1 (ck 14 4) hS (fun hS => ?_) (fun hS => ?_)
    ·refine zL 1 2 (zE (zkSeq (zT (zrSeq (zrReg (zL 2 2 ?_))))))
     refine bindE hS (fun z13 hz13 hS => zO (some 81) 3 (c1 46 80) (ev_cA (f46_ok (d - 1) (dpt hd rfl) a1.Args z13 hz13)) (zL 5 8 (zE (zkSeq (zrSeq (zrReg (zL 2 2 ?_)))))))
     refine sB 86 3 (ck 85 0) hS (fun hS => ?_) (fun hS => ?_)
     ·refine zL 8 11 (bindE hS (fun z23 hz23 hS => zG (some 95) 12 92 true (.call 43 [(tm 94), (ki 2)]) (ev_cA (f43_ok (d - 1) (dpt hd rfl) a1.Inter 2 z23 hz23)) (zL 2 14 (sL 97 hS (fun hS => ?_) (fun hS => ?_)))))
      ·refine zL 1 15 (bindE hS (fun z24 hz24 hS => zG (some 99) 16 97 true (.call 42 [(tm 98), (ki 64), (ki 126)]) (ev_cA (f42_ok (d - 1) (dpt hd rfl) a1.Code 64 126 z24 hz24)) (zL 2 18 (sL 101 hS (fun hS => ?_) (fun hS => ?_)))))
       ·refine zL 1 19 (sH 103 20 101 true (ck 102 0) hS (fun hS => ?_) (fun hS => ?_))
        ·refine zL 4 24 (sH 108 25 105 true (.cmpI .leq (tm 107) (ki 100)) hS (fun hS => ?_) (fun hS => ?_))
         ·refine zL 1 26 (zE (zkSeq (zT ?_)))
          exact f26_j1_ok hd a1 hQ z13.1 hS (by kernel_rfl)
         ·refine zL 1 26 (zE (zkSeq (zF ?_)))
          refine zrSkip (zkBlk (zkSeq (zrSeq (zrReg (zL 2 2 (zE (zkSeq ?_)))))))
          exact zrRet (zkNil (endQ hS hQ (fR (f26_out [] 1))))
        ·refine zL 6 26 (zE (zkSeq (zF ?_)))
         refine zrSkip (zkBlk (zkSeq (zrSeq (zrReg (zL 2 2 (zE (zkSeq ?_)))))))
         exact zrRet (zkNil (endQ hS hQ (fR (f26_out [] 1))))
       ·refine zL 8 26 (zE (zkSeq (zF ?_)))
        refine zrSkip (zkBlk (zkSeq (zrSeq (zrReg (zL 2 2 (zE (zkSeq ?_)))))))
        exact zrRet (zkNil (endQ hS hQ (fR (f26_out [] 1))))
      ·refine zL 12 26 (zE (zkSeq (zF ?_)))
       refine zrSkip (zkBlk (zkSeq (zrSeq (zrReg (zL 2 2 (zE (zkSeq ?_)))))))
       exact zrRet (zkNil (endQ hS hQ (fR (f26_out [] 1))))
     ·refine zL 3 6 (bindE hS (fun z25 hz25 hS => zG (some 90) 7 87 false (.call 42 [(tm 89), (ki 60), (ki 63)]) (ev_cA (f42_ok (d - 1) (dpt hd rfl) a1.Mark 60 63 z25 hz25)) (zL 2 9 (sL 92 hS (fun hS => ?_) (fun hS => ?_)))))
      ·refine zL 2 11 (bindE hS (fun z26 hz26 hS => zG (some 95) 12 92 true (.call 43 [(tm 94), (ki 2)]) (ev_cA (f43_ok (d - 1) (dpt hd rfl) a1.Inter 2 z26 hz26)) (zL 2 14 (sL 97 hS (fun hS => ?_) (fun hS => ?_)))))
       ·refine zL 1 15 (bindE hS (fun z27 hz27 hS => zG (some 99) 16 97 true (.call 42 [(tm 98), (ki 64), (ki 126)]) (ev_cA (f42_ok (d - 1) (dpt hd rfl) a1.Code 64 126 z27 hz27)) (zL 2 18 (sL 101 hS (fun hS => ?_) (fun hS => ?_)))))
        ·refine zL 1 19 (sH 103 20 101 true (ck 102 0) hS (fun hS => ?_) (fun hS => ?_))
         ·refine zL 4 24 (sH 108 25 105 true (.cmpI .leq (tm 107) (ki 100)) hS (fun hS => ?_) (fun hS => ?_))
          ·refine zL 1 26 (zE (zkSeq (zT ?_)))
           exact f26_j1_ok hd a1 hQ z13.1 hS (by kernel_rfl)
          ·refine zL 1 26 (zE (zkSeq (zF ?_)))
           refine zrSkip (zkBlk (zkSeq (zrSeq (zrReg (zL 2 2 (zE (zkSeq ?_)))))))
           exact zrRet (zkNil (endQ hS hQ (fR (f26_out [] 1))))
         ·refine zL 6 26 (zE (zkSeq (zF ?_)))
          refine zrSkip (zkBlk (zkSeq (zrSeq (zrReg (zL 2 2 (zE (zkSeq ?_)))))))
          exact zrRet (zkNil (endQ hS hQ (fR (f26_out [] 1))))
        ·refine zL 8 26 (zE (zkSeq (zF ?_)))
         refine zrSkip (zkBlk (zkSeq (zrSeq (zrReg (zL 2 2 (zE (zkSeq ?_)))))))
         exact zrRet (zkNil (endQ hS hQ (fR (f26_out [] 1))))
       ·refine zL 12 26 (zE (zkSeq (zF ?_)))
        refine zrSkip (zkBlk (zkSeq (zrSeq (zrReg (zL 2 2 (zE (zkSeq ?_)))))))
        exact zrRet (zkNil (endQ hS hQ (fR (f26_out [] 1))))
      ·refine zL 17 26 (zE (zkSeq (zF ?_)))
       refine zrSkip (zkBlk (zkSeq (zrSeq (zrReg (zL 2 2 (zE (zkSeq ?_)))))))
       exact zrRet (zkNil (endQ hS hQ (fR (f26_out [] 1))))
    ·refine zL 1 2 (zE (zkSeq (zF (zrSeq (zrReg ?_)))))
     cases hS
def f26 (a1 : GAct) : Option ((List Int) × Int) := ((f40 a1).bind fun z28 => (bif (!z28) then (some ([], 1)) else (f26_j0 a1 )))
theorem f26_ok (d : Nat) (hd : 5 ≤ d) (a1 : GAct) (r : (List Int) × Int) (hS : f26 a1 = some r) : lev codes baseL d 26 [(.agg ((dI a1.Kind) :: ((dI a1.Code) :: ((dI a1.Mark) :: ((.d (.str a1.Inter)) :: ((dL a1.Args) :: ((.d (.str a1.Text)) :: [])))))))] [] = some ((.tup [(.r (.own 0 3 1 r.1.length (eI.cells r.1))), (dI r.2)]), []) := by
 refine lev_go codes26 rfl rfl (Nat.le_trans (Nat.le_of_ble_eq_true rfl) hd) fun Q hQ => ?_
 unfold f26 at hS
 show ZR _ Q c26_b [] _
 replace hQ : FQ (f26_Q r) Q := hQ
 refine zrSeq (zrReg (zL 3 3 (zE (zkSeq (zrSeq (zrSeq (zrReg (zL 1 1 ?_))))))))
 refine bindE hS (fun z28 hz28 hS => zO (some 9) 2 (c1 40 8) (ev_cA (f40_ok (d - 1) (dpt hd rfl) a1 z28 hz28)) (zL 1 3 (zE (zkSeq ?_))))
 refine sR 10 hS (fun hS => ?_) (fun hS => ?_)
 ·refine zT (zrSeq (zrReg (zL 2 2 (zE (zkSeq ?_)))))
  exact zrRet (zkSeqR (zkNil (endQ hS hQ (fR (f26_out [] 1)))))
 ·exact zF (zrSkip (zkSeq (f26_j0_ok hd a1 hQ  hS (by kernel_rfl))))
/- (*farwriter/draw.drawer).act -/
def f12_fin (p1 : List Int) (p2 : Int) (p3 : Int) (p4 : Int) (p5 : List Int) : St := ⟨(up (up u0 1000002 .un) 1000001 .un), (up (up (up h0 1 ⟨1, some (.own 3 1 (eI.cells p5))⟩) 2 ⟨1, some (.own 3 1 (eI.cells p1))⟩) 0 ⟨0, some (.box ((.r (.msl 2 1 0 p1.length)) :: ((dI p2) :: ((dI p3) :: ((dI p4) :: [])))))⟩)⟩
theorem f12_out (p1 : List Int) (p2 : Int) (p3 : Int) (p4 : Int) (p5 : List Int) : outR (f12_fin p1 p2 p3 p4 p5) 3 c12.res = some ((.tup []), [(.box ((.r (.msl 2 0 0 p1.length)) :: ((dI p2) :: ((dI p3) :: ((dI p4) :: []))))), (.own 3 1 (eI.cells p5)), (.own 3 1 (eI.cells p1))]) := by
 kernel_rfl
def f12_Q (r : (List Int) × Int × Int × Int × (List Int)) (e : PX) (st : St) : Prop := DoneF c12 3 ((.tup []), [(.box ((.r (.msl 2 0 0 r.1.length)) :: ((dI r.2.1) :: ((dI r.2.2.1) :: ((dI r.2.2.2.1) :: []))))), (.own 3 1 (eI.cells r.2.2.2.2)), (.own 3 1 (eI.cells r.1))]) e st
def f12 (a1 : Int) (a2 : Int) (a3 : Int) (a4 : Int) (a5 : List Int) (a6 : List Int) : Option ((List Int) × Int × Int × Int × (List Int)) := ((f26 (GAct.mk 4 a1 0 ([]) a5 ([]))).bind fun z3 => ((app? 8 a6 z3.1).bind fun z4 => (some (z4, a2, a3, a4, a5))))
theorem f12_ok (d : Nat) (hd : 6 ≤ d) (a1 : Int) (a2 : Int) (a3 : Int) (a4 : Int) (a5 : List Int) (a6 : List Int) (r : (List Int) × Int × Int × Int × (List Int)) (hS : f12 a1 a2 a3 a4 a5 a6 = some r) : lev codes baseL d 12 [(pt 0), (dI a1), (.r (.msl 1 0 0 a5.length))] [(.box ((.r (.msl 2 0 0 a6.length)) :: ((dI a2) :: ((dI a3) :: ((dI a4) :: []))))), (.own 3 1 (eI.cells a5)), (.own 3 1 (eI.cells a6))] = some ((.tup []), [(.box ((.r (.msl 2 0 0 r.1.length)) :: ((dI r.2.1) :: ((dI r.2.2.1) :: ((dI r.2.2.2.1) :: []))))), (.own 3 1 (eI.cells r.2.2.2.2)), (.own 3 1 (eI.cells r.1))]) := by
 refine lev_go codes12 rfl rfl (Nat.le_trans (Nat.le_of_ble_eq_true rfl) hd) fun Q hQ => ?_
 unfold f12 at hS
 show ZR _ Q c12_b [] _
 replace hQ : FQ (f12_Q r) Q := hQ
 refine zrSeq (zrReg (zL 3 3 ?_))
 refine bindE hS (fun z3 hz3 hS => zO (some 12) 4 (c1 26 11) (ev_callB (args := [(.agg ((dI 4) :: ((dI a1) :: ((dI 0) :: ((.d (.str ([]))) :: ((.r (.msl 1 0 0 a5.length)) :: ((.d (.str ([]))) :: [])))))))]) (by kernel_rfl) (l_cons (l_agg (lk (lk (lk (lk (l_cons (l_own eI (e := 3) (k := 1) (xs := a5) (by kernel_rfl) rfl rfl) (lk l_nil))))))) l_nil) (f26_ok (d - 1) (dpt hd rfl) (GAct.mk 4 a1 0 ([]) a5 ([])) z3 hz3) (by simp only [free_own eI (fun _ => rfl), free_tup, free_agg, free_nl, free_cs, free_int, free_bool, free_str, free_un, free_ni, free_s0, Bool.and_true, Bool.or_true, Bool.and_self]) (by kernel_rfl)) (zL 5 9 (zE (zkSeq (zrReg (zL 6 6 ?_))))))
 refine bindE hS (fun z4 hz4 hS => zO (v := (.r (.msl 2 1 0 z4.length))) (ups := [(2, ⟨1, some (.own 3 1 (eI.cells z4))⟩)]) (some 21) 7 (.app 3 1 8 (tm 19) (tm 20)) (ev_app eI (b := 2) (g := 0) (n := a6.length) (xs := a6) (ys := z3.1) ((congrArg (asL _) (by kernel_rfl : ρof _ (.tmp 20) = (.r (.msl 104 1 0 z3.1.length)))).trans (as_whole eI (e := 3) (k := 1) (xs := z3.1) (by kernel_rfl) rfl rfl)) rfl (by kernel_rfl) rfl (by kernel_rfl) rfl hz4) (zL 3 10 (zE ?_)))
 exact zkNil (endQ hS hQ (fN (f12_out z4 a2 a3 a4 a5)))
/- farwriter/pen.flag -/
def f48_fin (p1 : Int) : St := ⟨(up u0 2 (dI p1)), h0⟩
theorem f48_out (p1 : Int) : outR (f48_fin p1) 0 c48.res = some ((dI p1), []) := by
 kernel_rfl
def f48_Q (r : Int) (e : PX) (st : St) : Prop := DoneF c48 0 ((dI r), []) e st
def f48 (a1 : Int) : Option (Int) := ((inR a1 10).bind fun m2 => (some (([0, 1, 2, 4, 8, 16, 0, 32, 64, 128] : List Int).getD m2 0)))
theorem f48_ok (d : Nat) (hd : 1 ≤ d) (a1 : Int) (r : Int) (hS : f48 a1 = some r) : lev codes baseL d 48 [(dI a1)] [] = some ((dI r), []) := by
 refine lev_go codes48 rfl rfl (Nat.le_trans (Nat.le_of_ble_eq_true rfl) hd) fun Q hQ => ?_
 unfold f48 at hS
 show ZR _ Q c48_b [] _
 replace hQ : FQ (f48_Q r) Q := hQ
 refine zrSeq (zrReg (zL 1 1 (zE (zkSeq (zrSeq (zrReg (zL 2 2 ?_)))))))
 refine bindE hS (fun m2 hm2 hS => zO (v := (dI (([0, 1, 2, 4, 8, 16, 0, 32, 64, 128] : List Int).getD m2 0))) (ups := []) (some 5) 3 (.ixV .false 10 1 (tm 3) (tm 4)) (ev_ixV eI (fun i => ([0, 1, 2, 4, 8, 16, 0, 32, 64, 128] : List Int).getD i 0) (kk := .i64) (j := a1) (by kernel_rfl) (by kernel_rfl) hm2 rfl (by kernel_rfl) (by kernel_rfl)) (zL 1 4 (zE (zkSeq ?_))))
 exact zrRet (zkNil (endQ hS hQ (fR (f48_out (([0, 1, 2, 4, 8, 16, 0, 32, 64, 128] : List Int).getD m2 0)))))
/- farwriter/pen.paint -/
def f49_fin (p4 : List Int) : St := ⟨(up u0 4 (.r (.msl 361 0 0 p4.length))), (up h0 361 ⟨0, some (.own 3 1 (eI.cells p4))⟩)⟩
theorem f49_out (p4 : List Int) : outR (f49_fin p4) 0 c49.res = some ((.r (.own 0 3 1 p4.length (eI.cells p4))), []) := by
 exact out_of (ids := []) (ids' := [361]) (l := [(.r (.msl 361 0 0 p4.length))]) (by kernel_rfl) (by kernel_rfl) (o_own eI (e := 3) (k := 1) (xs := p4) (by kernel_rfl) rfl rfl rfl rfl)
def f49_Q (r : (List Int)) (e : PX) (st : St) : Prop := DoneF c49 0 ((.r (.own 0 3 1 r.length (eI.cells r))), []) e st
def f49_j0_J (a1 : Int) (a2 : Int) : St := ⟨(up (up u0 1 (dI a2)) 0 (dI a1)), h0⟩
def f49_j0 (a1 : Int) (a2 : Int) : Option ((List Int)) := (some [(IntKind.i64.wrap (a2 + 8)), 2, (bitI .and .i64 (Int.fdiv a1 (2 ^ 16)) 255), (bitI .and .i64 (Int.fdiv a1 (2 ^ 8)) 255), (bitI .and .i64 a1 255)])
theorem f49_j0_ok {d : Nat} (hd : 1 ≤ d) (a1 : Int) (a2 : Int) {r : (List Int)} {Q : PQ} (hQ : FQ (f49_Q r) Q)  (hS : f49_j0 a1 a2 = some r) {st : St} (he : keepSt [0, 1] [] [] st = f49_j0_J a1 a2) : ZR (lev codes baseL (d - 1)) Q c49_1 [] st := by
 refine zrKeep he ?_
 unfold f49_j0 at hS
 refine zrSeq (zrReg (zL 12 12 (zE (zkSeq ?_))))
 exact zrRet (zkNil (endQ hS hQ (fR (f49_out [(IntKind.i64.wrap (a2 + 8)), 2, (bitI .and .i64 (Int.fdiv a1 (2 ^ 16)) 255), (bitI .and .i64 (Int.fdiv a1 (2 ^ 8)) 255), (bitI .and .i64 a1 255)]))))
def f49 (a1 : Int) (a2 : Int) : Option ((List Int)) := (bif (decide (a1 ≤ 8)) then (some [(IntKind.i64.wrap ((IntKind.i64.wrap (a2 + a1)) - 1))]) else (bif (decide (a1 ≤ 16)) then (some [(IntKind.i64.wrap ((IntKind.i64.wrap ((IntKind.i64.wrap (a2 + 60)) + a1)) - 9))]) else (bif (decide (a1 ≤ 256)) then (some [(IntKind.i64.wrap (a2 + 8)), 5, (IntKind.i64.wrap (a1 - 1))]) else (f49_j0 a1 a2 ))))
theorem f49_ok (d : Nat) (hd : 1 ≤ d) (a1 : Int) (a2 : Int) (r : (List Int)) (hS : f49 a1 a2 = some r) : lev codes baseL d 49 [(dI a1), (dI a2)] [] = some ((.r (.own 0 3 1 r.length (eI.cells r))), []) := by
 refine lev_go codes49 rfl rfl (Nat.le_trans (Nat.le_of_ble_eq_true rfl) hd) fun Q hQ => ?_
 unfold f49 at hS
 show ZR _ Q c49_b [] _
 replace hQ : FQ (f49_Q r) Q := hQ
 refine zrSeq (zrReg (zL 1 1 (zE (zkSeq (zrSeq ?_)))))
 refine zrBlk (zrSeq (zrReg (zL 1 1 ?_)))
 refine sB 7 2 (.cmpI .leq (tm 6) (ki 8)) hS (fun hS => ?_) (fun hS => ?_)
 ·refine zL 1 3 (zE (zkSeq (zT (zrSeq (zrReg (zL 6 6 (zE (zkSeq ?_))))))))
  exact zrRet (zkBlkR (zkSeqR (zkNil (endQ hS hQ (fR (f49_out [(IntKind.i64.wrap ((IntKind.i64.wrap (a2 + a1)) - 1))]))))))
 ·refine zL 1 3 (zE (zkSeq (zF (zrSeq (zrReg (zL 1 1 ?_))))))
  refine sB 15 2 (.cmpI .leq (tm 14) (ki 16)) hS (fun hS => ?_) (fun hS => ?_)
  ·refine zL 1 3 (zE (zkSeq (zT (zrSeq (zrReg (zL 7 7 (zE (zkSeq ?_))))))))
   exact zrRet (zkBlkR (zkSeqR (zkNil (endQ hS hQ (fR (f49_out [(IntKind.i64.wrap ((IntKind.i64.wrap ((IntKind.i64.wrap (a2 + 60)) + a1)) - 9))]))))))
  ·refine zL 1 3 (zE (zkSeq (zF (zrSeq (zrReg (zL 1 1 ?_))))))
   refine sB 24 2 (.cmpI .leq (tm 23) (ki 256)) hS (fun hS => ?_) (fun hS => ?_)
   ·refine zL 1 3 (zE (zkSeq (zT (zrSeq (zrReg (zL 6 6 (zE (zkSeq ?_))))))))
    exact zrRet (zkBlkR (zkSeqR (zkNil (endQ hS hQ (fR (f49_out [(IntKind.i64.wrap (a2 + 8)), 5, (IntKind.i64.wrap (a1 - 1))]))))))
   ·refine zL 1 3 (zE (zkSeq (zF ?_)))
    exact zrSkip (zkBlk (zkSeq (f49_j0_ok hd a1 a2 hQ  hS (by kernel_rfl))))
/- farwriter/pen.Change -/
def f27_fin (p81 : List Int) (p82 : Int) : St := ⟨(up (up u0 5 (dI p82)) 4 (.r (.msl 761 0 0 p81.length))), (up h0 761 ⟨0, some (.own 3 1 (eI.cells p81))⟩)⟩
theorem f27_out (p81 : List Int) (p82 : Int) : outR (f27_fin p81 p82) 0 c27.res = some ((.tup [(.r (.own 0 3 1 p81.length (eI.cells p81))), (dI p82)]), []) := by
 exact out_of (ids := []) (ids' := [761]) (l := [(.r (.msl 761 0 0 p81.length)), (dI p82)]) (by kernel_rfl) (by kernel_rfl) (o_tup (o_cons (o_own eI (e := 3) (k := 1) (xs := p81) (by kernel_rfl) rfl rfl rfl rfl) (o_cons rfl o_nil)))
def f27_Q (r : (List Int) × Int) (e : PX) (st : St) : Prop := DoneF c27 0 ((.tup [(.r (.own 0 3 1 r.1.length (eI.cells r.1))), (dI r.2)]), []) e st
def f27_j3_J (a1 : GPen) (a2 : GPen) (p160 : GPen) (p161 : List Int) : St := ⟨(up (up (up u0 9 (.r (.msl 80 0 0 p161.length))) 3 (pt 32)) 2 (pt 24)), (up (up (up h0 80 ⟨0, some (.own 3 1 (eI.cells p161))⟩) 32 ⟨0, some (.box ((dI a2.Flags) :: ((dI a2.Fore) :: ((dI a2.Back) :: []))))⟩) 24 ⟨0, some (.box ((dI p160.Flags) :: ((dI p160.Fore) :: ((dI p160.Back) :: []))))⟩)⟩
def f27_j3 (a1 : GPen) (a2 : GPen) (p160 : GPen) (p161 : List Int) : Option ((List Int) × Int) := (bif (!decide (a2.Back = p160.Back)) then ((f49 a2.Back 40).bind fun z43 => ((app? 8 p161 z43).bind fun z44 => (some (z44, 0)))) else (some (p161, 0)))
theorem f27_j3_ok {d : Nat} (hd : 3 ≤ d) (a1 : GPen) (a2 : GPen) {r : (List Int) × Int} {Q : PQ} (hQ : FQ (f27_Q r) Q) (p160 : GPen) (p161 : List Int) (hS : f27_j3 a1 a2 p160 p161 = some r) {st : St} (he : keepSt [2, 3, 9] [(24, .id 24), (32, .id 32), (80, .id 80)] [] st = f27_j3_J a1 a2 p160 p161) : ZR (lev codes baseL (d - 1)) Q c27_1 [] st := by
 refine zrKeep he ?_
 unfold f27_j3 at hS
 refine zrSeq (zrSeq (zrReg (zL 4 4 ?_)))
 refine sB 84 5 (.cmpI .neq (tm 81) (tm 83)) hS (fun hS => ?_) (fun hS => ?_)
 ·refine zE (zkSeq (zT (zrReg (zL 3 3 ?_))))
  refine bindE hS (fun z43 hz43 hS => zO (some 88) 4 (.call 49 [(tm 87), (ki 40)]) (ev_cA (f49_ok (d - 1) (dpt hd rfl) a2.Back 40 z43 hz43)) (bindE hS (fun z44 hz44 hS => zO (v := (.r (.msl 80 1 0 z44.length))) (ups := [(80, ⟨1, some (.own 3 1 (eI.cells z44))⟩)]) (some 89) 5 (.app 3 1 8 (tm 85) (tm 88)) (ev_app eI (b := 80) (g := 0) (n := p161.length) (xs := p161) (ys := z43) ((congrArg (asL _) (by kernel_rfl : ρof _ (.tmp 88) = (.r (.msl 712 1 0 z43.length)))).trans (as_whole eI (e := 3) (k := 1) (xs := z43) (by kernel_rfl) rfl rfl)) rfl (by kernel_rfl) rfl (by kernel_rfl) rfl hz44) (zL 1 6 (zE (zkSeq (zrSeq (zrReg (zL 3 3 (zE (zkSeq ?_)))))))))))
  exact zrRet (zkNil (endQ hS hQ (fR (f27_out z44 0))))
 ·refine zE (zkSeq (zF ?_))
  refine zrSkip (zkSeq (zrSeq (zrReg (zL 3 3 (zE (zkSeq ?_))))))
  exact zrRet (zkNil (endQ hS hQ (fR (f27_out p161 0))))
def f27_j2_J (a1 : GPen) (a2 : GPen) (p153 : GPen) (p154 : List Int) : St := ⟨(up (up (up u0 9 (.r (.msl 80 0 0 p154.length))) 3 (pt 32)) 2 (pt 24)), (up (up (up h0 80 ⟨0, some (.own 3 1 (eI.cells p154))⟩) 32 ⟨0, some (.box ((dI a2.Flags) :: ((dI a2.Fore) :: ((dI a2.Back) :: []))))⟩) 24 ⟨0, some (.box ((dI p153.Flags) :: ((dI p153.Fore) :: ((dI p153.Back) :: []))))⟩)⟩
def f27_j2 (a1 : GPen) (a2 : GPen) (p153 : GPen) (p154 : List Int) : Option ((List Int) × Int) := (bif (!decide (a2.Fore = p153.Fore)) then ((f49 a2.Fore 30).bind fun z45 => ((app? 8 p154 z45).bind fun z46 => (f27_j3 a1 a2 p153 z46))) else (f27_j3 a1 a2 p153 p154))
theorem f27_j2_ok {d : Nat} (hd : 3 ≤ d) (a1 : GPen) (a2 : GPen) {r : (List Int) × Int} {Q : PQ} (hQ : FQ (f27_Q r) Q) (p153 : GPen) (p154 : List Int) (hS : f27_j2 a1 a2 p153 p154 = some r) {st : St} (he : keepSt [2, 3, 9] [(24, .id 24), (32, .id 32), (80, .id 80)] [] st = f27_j2_J a1 a2 p153 p154) : ZR (lev codes baseL (d - 1)) Q c27_2 [] st := by
 refine zrKeep he ?_
 unfold f27_j2 at hS
 refine zrSeq (zrSeq (zrReg (zL 4 4 ?_)))
 refine sB 74 5 (.cmpI .neq (tm 71) (tm 73)) hS (fun hS => ?_) (fun hS => ?_)
 ·refine zE (zkSeq (zT (zrReg (zL 3 3 ?_))))
  refine bindE hS (fun z45 hz45 hS => zO (some 78) 4 (.call 49 [(tm 77), (ki 30)]) (ev_cA (f49_ok (d - 1) (dpt hd rfl) a2.Fore 30 z45 hz45)) (bindE hS (fun z46 hz46 hS => zO (v := (.r (.msl 80 1 0 z46.length))) (ups := [(80, ⟨1, some (.own 3 1 (eI.cells z46))⟩)]) (some 79) 5 (.app 3 1 8 (tm 75) (tm 78)) (ev_app eI (b := 80) (g := 0) (n := p154.length) (xs := p154) (ys := z45) ((congrArg (asL _) (by kernel_rfl : ρof _ (.tmp 78) = (.r (.msl 632 1 0 z45.length)))).trans (as_whole eI (e := 3) (k := 1) (xs := z45) (by kernel_rfl) rfl rfl)) rfl (by kernel_rfl) rfl (by kernel_rfl) rfl hz46) (zL 1 6 (zE (zkSeq ?_))))))
  exact f27_j3_ok hd a1 a2 hQ p153 z46 hS (by kernel_rfl)
 ·refine zE (zkSeq (zF ?_))
  exact zrSkip (zkSeq (f27_j3_ok hd a1 a2 hQ p153 p154 hS (by kernel_rfl)))
def f27_l4_J (a1 : GPen) (a2 : GPen) (x : GPen × (List Int) × Int) : St := ⟨(up (up (up (up u0 10 (dI x.2.2)) 9 (.r (.msl 80 0 0 x.2.1.length))) 3 (pt 32)) 2 (pt 24)), (up (up (up h0 80 ⟨0, some (.own 3 1 (eI.cells x.2.1))⟩) 32 ⟨0, some (.box ((dI a2.Flags) :: ((dI a2.Fore) :: ((dI a2.Back) :: []))))⟩) 24 ⟨0, some (.box ((dI x.1.Flags) :: ((dI x.1.Fore) :: ((dI x.1.Back) :: []))))⟩)⟩
def f27_l4_H (a1 : GPen) (a2 : GPen) (x : GPen × (List Int) × Int) (st : St) : Prop := keepSt [2, 3, 9, 10] [(24, .id 24), (32, .id 32), (80, .id 80)] [] st = f27_l4_J a1 a2 x
def f27_l4_e2_J (a1 : GPen) (a2 : GPen) (p151 : GPen) (p152 : List Int) : St := ⟨(up (up (up u0 9 (.r (.msl 80 0 0 p152.length))) 3 (pt 32)) 2 (pt 24)), (up (up (up h0 80 ⟨0, some (.own 3 1 (eI.cells p152))⟩) 32 ⟨0, some (.box ((dI a2.Flags) :: ((dI a2.Fore) :: ((dI a2.Back) :: []))))⟩) 24 ⟨0, some (.box ((dI p151.Flags) :: ((dI p151.Fore) :: ((dI p151.Back) :: []))))⟩)⟩
def f27_l4_X (a1 : GPen) (a2 : GPen) (z : (GPen × (List Int))) (e : PX) (st : St) : Prop := e = .exit 2 ∧ st = f27_l4_e2_J a1 a2 z.1 z.2
def f27_l4_j5_J (a1 : GPen) (a2 : GPen) (p166 : GPen) (p167 : List Int) (p168 : Int) : St := ⟨(up (up (up (up u0 10 (dI p168)) 9 (.r (.msl 80 0 0 p167.length))) 3 (pt 32)) 2 (pt 24)), (up (up (up h0 80 ⟨0, some (.own 3 1 (eI.cells p167))⟩) 32 ⟨0, some (.box ((dI a2.Flags) :: ((dI a2.Fore) :: ((dI a2.Back) :: []))))⟩) 24 ⟨0, some (.box ((dI p166.Flags) :: ((dI p166.Fore) :: ((dI p166.Back) :: []))))⟩)⟩
def f27_l4_j5 (a1 : GPen) (a2 : GPen) (p166 : GPen) (p167 : List Int) (p168 : Int) : Option ((GPen × (List Int) × Int) ⊕ ((GPen × (List Int)))) := ((f48 p168).bind fun z48 => (bif (!decide ((bitI .andNot .i64 (bitI .and .i64 z48 a2.Flags) p166.Flags) = 0)) then ((app? 8 p167 ([p168] : List Int)).bind fun z49 => (some (.inl (p166, z49, (IntKind.i64.wrap (p168 + 1)))))) else (some (.inl (p166, p167, (IntKind.i64.wrap (p168 + 1)))))))
theorem f27_l4_j5_ok {d : Nat} (hd : 3 ≤ d) (a1 : GPen) (a2 : GPen) {r : (GPen × (List Int) × Int) ⊕ ((GPen × (List Int)))} {Q : PQ} (hQ : FQ (finL (f27_l4_H a1 a2) (f27_l4_X a1 a2) r) Q) (p166 : GPen) (p167 : List Int) (p168 : Int) (hS : f27_l4_j5 a1 a2 p166 p167 p168 = some r) {st : St} (he : keepSt [2, 3, 9, 10] [(24, .id 24), (32, .id 32), (80, .id 80)] [] st = f27_l4_j5_J a1 a2 p166 p167 p168) : ZR (lev codes baseL (d - 1)) Q c27_3 [] st := by
 refine zrKeep he ?_
 unfold f27_l4_j5 at hS
 refine zrSeq (zrBlk (zrSeq (zrRegD (zdR 1 1 (bindE hS (fun z48 hz48 hS => zdO (some 58) 2 none (c1 48 57) (ev_cA (f48_ok (d - 1) (dpt hd rfl) p168 z48 hz48)) (zdR 6 8 (sDB 65 9 none (.cmpI .neq (tm 64) (ki 0)) hS (fun hS => ?_) (fun hS => ?_)))))))))
 ·refine zdE (zkSeq (zT (zrReg (zL 3 3 ?_))))
  refine bindE hS (fun z49 hz49 hS => zO (v := (.r (.msl 80 1 0 z49.length))) (ups := [(80, ⟨1, some (.own 3 1 (eI.cells z49))⟩)]) (some 69) 4 (.app 3 1 8 (tm 66) (tm 68)) (ev_app eI (b := 80) (g := 0) (n := p167.length) (xs := p167) (ys := [p168]) ((congrArg (asL _) (by kernel_rfl : ρof _ (.tmp 68) = (.r (.msl 552 1 0 (([p168] : List Int).length))))).trans (as_whole eI (e := 3) (k := 1) (xs := [p168]) (by kernel_rfl) rfl rfl)) rfl (by kernel_rfl) rfl (by kernel_rfl) rfl hz49) (zL 1 5 (zE ?_)))
  refine zkBlk (zkSeq (zrReg (zL 3 3 (zE ?_))))
  exact zkNil (eN1 hS hQ)
 ·refine zdE (zkSeq (zF ?_))
  refine zrSkip (zkBlk (zkSeq (zrReg (zL 3 3 (zE ?_)))))
  exact zkNil (eN1 hS hQ)
def f27_l4 (a1 : GPen) (a2 : GPen) (x : GPen × (List Int) × Int) : Option ((GPen × (List Int) × Int) ⊕ ((GPen × (List Int)))) := (bif (decide (x.2.2 ≤ 9)) then (f27_l4_j5 a1 a2 x.1 x.2.1 x.2.2) else (some (.inr (x.1, x.2.1))))
theorem f27_l4_ok {d : Nat} (hd : 3 ≤ d) (a1 : GPen) (a2 : GPen) {r : (GPen × (List Int) × Int) ⊕ ((GPen × (List Int)))} {Q : PQ} (hQ : FQ (finL (f27_l4_H a1 a2) (f27_l4_X a1 a2) r) Q) {x : GPen × (List Int) × Int} (hS : f27_l4 a1 a2 x = some r) {st : St} (he : f27_l4_H a1 a2 x st) : ZR (lev codes baseL (d - 1)) Q c27_4 [] st := by
 refine zrKeep he ?_
 unfold f27_l4 at hS
 refine zrSeq (zrSeq (zrReg (zL 1 1 ?_)))
 refine sB 54 2 (.cmpI .leq (tm 53) (ki 9)) hS (fun hS => ?_) (fun hS => ?_)
 ·refine zE (zkSeq (zT ?_))
  exact zrSkip (zkSeq (f27_l4_j5_ok hd a1 a2 hQ x.1 x.2.1 x.2.2 hS (by kernel_rfl)))
 ·refine zE (zkSeq (zF ?_))
  exact zrKeep (J := f27_l4_e2_J a1 a2 x.1 x.2.1) (by kernel_rfl) (zrExit (zkSeqX (zkNil (eX0 hS hQ))))
def f27_j1_J (a1 : GPen) (a2 : GPen) (p94 : GPen) (p95 : List Int) : St := ⟨(up (up (up u0 9 (.r (.msl 80 0 0 p95.length))) 3 (pt 32)) 2 (pt 24)), (up (up (up h0 80 ⟨0, some (.own 3 1 (eI.cells p95))⟩) 32 ⟨0, some (.box ((dI a2.Flags) :: ((dI a2.Fore) :: ((dI a2.Back) :: []))))⟩) 24 ⟨0, some (.box ((dI p94.Flags) :: ((dI p94.Fore) :: ((dI p94.Back) :: []))))⟩)⟩
def f27_j1 (a1 : GPen) (a2 : GPen) (p94 : GPen) (p95 : List Int) : Option ((List Int) × Int) := ((loopO (f27_l4 a1 a2) (p94, p95, 1)).bind fun z50 => (f27_j2 a1 a2 z50.1 z50.2))
theorem f27_j1_ok {d : Nat} (hd : 3 ≤ d) (a1 : GPen) (a2 : GPen) {r : (List Int) × Int} {Q : PQ} (hQ : FQ (f27_Q r) Q) (p94 : GPen) (p95 : List Int) (hS : f27_j1 a1 a2 p94 p95 = some r) {st : St} (he : keepSt [2, 3, 9] [(24, .id 24), (32, .id 32), (80, .id 80)] [] st = f27_j1_J a1 a2 p94 p95) : ZR (lev codes baseL (d - 1)) Q c27_5 [] st := by
 refine zrKeep he ?_
 unfold f27_j1 at hS
 refine zrSeq (zrSeq (zrReg (zL 1 1 (zE (zkSeq ?_)))))
 refine zrBlk (bindE hS (fun z50 hz50 hS => zrLoop (f27_l4_H a1 a2) (f27_l4_X a1 a2) (fun x st r Q h0 hS hQ => f27_l4_ok hd a1 a2 hQ hS h0) (x := (p94, p95, 1)) (z := z50) (by show keepSt _ _ _ _ = _; kernel_rfl) hz50 ?_))
 intro e st' _ hX
 obtain ⟨rfl, rfl⟩ : _ ∧ _ := hX
 exact zkBlkX (zkSeq (f27_j2_ok hd a1 a2 hQ z50.1 z50.2 hS (by kernel_rfl)))
def f27_j6_J (a1 : GPen) (a2 : GPen) : St := ⟨(up (up (up u0 9 (.r (.msl 80 0 0 (([] : List Int).length)))) 3 (pt 32)) 2 (pt 24)), (up (up (up h0 80 ⟨0, some (.own 3 1 (eI.cells ([])))⟩) 32 ⟨0, some (.box ((dI a2.Flags) :: ((dI a2.Fore) :: ((dI a2.Back) :: []))))⟩) 24 ⟨0, some (.box ((dI a1.Flags) :: ((dI a1.Fore) :: ((dI a1.Back) :: []))))⟩)⟩
def f27_j6 (a1 : GPen) (a2 : GPen) : Option ((List Int) × Int) := ((app? 8 ([] : List Int) ([0] : List Int)).bind fun z51 => (f27_j1 a1 a2 (GPen.mk 0 0 0) z51))
theorem f27_j6_ok {d : Nat} (hd : 3 ≤ d) (a1 : GPen) (a2 : GPen) {r : (List Int) × Int} {Q : PQ} (hQ : FQ (f27_Q r) Q)  (hS : f27_j6 a1 a2 = some r) {st : St} (he : keepSt [2, 3, 9] [(24, .id 24), (32, .id 32), (80, .id 80)] [] st = f27_j6_J a1 a2) : ZR (lev codes baseL (d - 1)) Q c27_6 [.seq c27_5] st := by
 refine zrKeep he ?_
 unfold f27_j6 at hS
 refine zrReg (zL 2 2 ?_)
 refine bindE hS (fun z51 hz51 hS => zO (v := (.r (.msl 80 1 0 z51.length))) (ups := [(80, ⟨1, some (.own 3 1 (eI.cells z51))⟩)]) (some 51) 3 (.app 3 1 8 (tm 49) (tm 50)) (ev_app eI (b := 80) (g := 0) (n := ([] : List Int).length) (xs := []) (ys := [0]) ((congrArg (asL _) (by kernel_rfl : ρof _ (.tmp 50) = (.r (.msl 408 1 0 (([0] : List Int).length))))).trans (as_whole eI (e := 3) (k := 1) (xs := [0]) (by kernel_rfl) rfl rfl)) rfl (by kernel_rfl) rfl (by kernel_rfl) rfl hz51) (zL 3 6 (zE (zkSeq ?_))))
 exact f27_j1_ok hd a1 a2 hQ (GPen.mk 0 0 0) z51 hS (by kernel_rfl)
def f27_j7_J (a1 : GPen) (a2 : GPen) : St := ⟨(up (up (up u0 9 (.r (.msl 80 0 0 (([] : List Int).length)))) 3 (pt 32)) 2 (pt 24)), (up (up (up h0 80 ⟨0, some (.own 3 1 (eI.cells ([])))⟩) 32 ⟨0, some (.box ((dI a2.Flags) :: ((dI a2.Fore) :: ((dI a2.Back) :: []))))⟩) 24 ⟨0, some (.box ((dI a1.Flags) :: ((dI a1.Fore) :: ((dI a1.Back) :: []))))⟩)⟩
def f27_j7 (a1 : GPen) (a2 : GPen) : Option ((List Int) × Int) := (f27_j1 a1 a2 a1 [])
theorem f27_j7_ok {d : Nat} (hd : 3 ≤ d) (a1 : GPen) (a2 : GPen) {r : (List Int) × Int} {Q : PQ} (hQ : FQ (f27_Q r) Q)  (hS : f27_j7 a1 a2 = some r) {st : St} (he : keepSt [2, 3, 9] [(24, .id 24), (32, .id 32), (80, .id 80)] [] st = f27_j7_J a1 a2) : ZR (lev codes baseL (d - 1)) Q c27_7 [.seq c27_5] st := by
 refine zrKeep he ?_
 unfold f27_j7 at hS
 exact zrSkip (zkSeq (f27_j1_ok hd a1 a2 hQ a1 [] hS (by kernel_rfl)))
def f27_j0_J (a1 : GPen) (a2 : GPen) : St := ⟨(up (up u0 3 (pt 32)) 2 (pt 24)), (up (up h0 32 ⟨0, some (.box ((dI a2.Flags) :: ((dI a2.Fore) :: ((dI a2.Back) :: []))))⟩) 24 ⟨0, some (.box ((dI a1.Flags) :: ((dI a1.Fore) :: ((dI a1.Back) :: []))))⟩)⟩
def f27_j0 (a1 : GPen) (a2 : GPen) : Option ((List Int) × Int) := (bif (!decide ((bitI .andNot .i64 a1.Flags a2.Flags) = 0)) then (f27_j6 a1 a2 ) else (bif (!decide (a1.Fore = 0)) then (bif (decide (a2.Fore = 0)) then (f27_j6 a1 a2 ) else (bif (!decide (a1.Back = 0)) then (bif (decide (a2.Back = 0)) then (f27_j6 a1 a2 ) else (f27_j7 a1 a2 )) else (f27_j7 a1 a2 ))) else (bif (!decide (a1.Back = 0)) then (bif (decide (a2.Back = 0)) then (f27_j6 a1 a2 ) else (f27_j7 a1 a2 )) else (f27_j7 a1 a2 ))))
theorem f27_j0_ok {d : Nat} (hd : 3 ≤ d) (a1 : GPen) (a2 : GPen) {r : (List Int) × Int} {Q : PQ} (hQ : FQ (f27_Q r) Q)  (hS : f27_j0 a1 a2 = some r) {st : St} (he : keepSt [2, 3] [(24, .id 24), (32, .id 32)] [] st = f27_j0_J a1 a2) : ZR (lev codes baseL (d - 1)) Q c27_8 [] st := by
 refine zrKeep he ?_
 unfold f27_j0 at hS
 refine zrSeq (zrReg (zL 1 1 (zE (zkSeq (zrSeq (zrSeq (zrReg (zL 5 5 ?_))))))))
 refine sB 28 6 (.cmpI .neq (tm 27) (ki 0)) hS (fun hS => ?_) (fun hS => ?_)
 ·refine zL 20 26 (zE (zkSeq (zT ?_)))
  exact f27_j6_ok hd a1 a2 hQ  hS (by kernel_rfl)
 ·refine zL 3 9 (sH 32 10 29 false (.cmpI .neq (tm 31) (ki 0)) hS (fun hS => ?_) (fun hS => ?_))
  ·refine zL 3 13 (sH 36 14 33 true (ck 35 0) hS (fun hS => ?_) (fun hS => ?_))
   ·refine zL 12 26 (zE (zkSeq (zT ?_)))
    exact f27_j6_ok hd a1 a2 hQ  hS (by kernel_rfl)
   ·refine zL 5 19 (sH 42 20 39 false (.cmpI .neq (tm 41) (ki 0)) hS (fun hS => ?_) (fun hS => ?_))
    ·refine zL 3 23 (sH 46 24 43 true (ck 45 0) hS (fun hS => ?_) (fun hS => ?_))
     ·refine zL 2 26 (zE (zkSeq (zT ?_)))
      exact f27_j6_ok hd a1 a2 hQ  hS (by kernel_rfl)
     ·refine zL 2 26 (zE (zkSeq (zF ?_)))
      exact f27_j7_ok hd a1 a2 hQ  hS (by kernel_rfl)
    ·refine zL 6 26 (zE (zkSeq (zF ?_)))
     exact f27_j7_ok hd a1 a2 hQ  hS (by kernel_rfl)
  ·refine zL 9 19 (sH 42 20 39 false (.cmpI .neq (tm 41) (ki 0)) hS (fun hS => ?_) (fun hS => ?_))
   ·refine zL 3 23 (sH 46 24 43 true (ck 45 0) hS (fun hS => ?_) (fun hS => ?_))
    ·refine zL 2 26 (zE (zkSeq (zT ?_)))
     exact f27_j6_ok hd a1 a2 hQ  hS (by kernel_rfl)
    ·refine zL 2 26 (zE (zkSeq (zF ?_)))
     exact f27_j7_ok hd a1 a2 hQ  hS (by kernel_rfl)
   ·refine zL 6 26 (zE (zkSeq (zF ?_)))
    exact f27_j7_ok hd a1 a2 hQ  hS (by kernel_rfl)
def f27_j9_J (a1 : GPen) (a2 : GPen) : St := ⟨(up (up (up (up u0 14 (dI 1)) 13 (.agg ((dI a1.Flags) :: ((dI a1.Fore) :: ((dI a1.Back) :: ((dI a2.Flags) :: ((dI a2.Fore) :: ((dI a2.Back) :: [])))))))) 3 (pt 32)) 2 (pt 24)), (up (up h0 32 ⟨0, some (.box ((dI a2.Flags) :: ((dI a2.Fore) :: ((dI a2.Back) :: []))))⟩) 24 ⟨0, some (.box ((dI a1.Flags) :: ((dI a1.Fore) :: ((dI a1.Back) :: []))))⟩)⟩
def f27_j9 (a1 : GPen) (a2 : GPen) : Option ((List Int) × Int) := ((f21 a2).bind fun z54 => (bif (!decide (z54 = 0)) then (some ([], z54)) else (f27_j0 a1 a2 )))
theorem f27_j9_ok {d : Nat} (hd : 3 ≤ d) (a1 : GPen) (a2 : GPen) {r : (List Int) × Int} {Q : PQ} (hQ : FQ (f27_Q r) Q)  (hS : f27_j9 a1 a2 = some r) {st : St} (he : keepSt [2, 3, 13, 14] [(24, .id 24), (32, .id 32)] [] st = f27_j9_J a1 a2) : ZR (lev codes baseL (d - 1)) Q c27_9 [.seq c27_10, .blk 0, .seq c27_8] st := by
 refine zrKeep he ?_
 unfold f27_j9 at hS
 refine zrSeq (zrBlk (zrSeq (zrReg (zL 3 3 (zE (zkSeq (zrSeq (zrReg (zL 1 1 ?_)))))))))
 refine bindE hS (fun z54 hz54 hS => zO (some 18) 2 (c1 21 17) (ev_cA (f21_ok (d - 1) (dpt hd rfl) a2 z54 hz54)) (zL 1 3 (zE (zkSeq (zrSeq (zrReg (zL 1 1 ?_)))))))
 refine sB 20 2 (.cmpI .neq (tm 19) (ki 0)) hS (fun hS => ?_) (fun hS => ?_)
 ·refine zE (zkSeq (zT (zrSeq (zrReg (zL 3 3 (zE (zkSeq ?_)))))))
  exact zrRet (zkBlkR (zkSeqR (zkSeqR (zkBlkR (zkSeqR (zkNil (endQ hS hQ (fR (f27_out [] z54)))))))))
 ·refine zE (zkSeq (zF ?_))
  refine zrSkip (zkBlk (zkSeq (zrReg (zL 2 2 (zE (zkSeq ?_))))))
  refine zrLoop1 (zrSeq (zrReg (zL 1 1 (zE (zkSeq (zrSeq (zF ?_)))))))
  exact zrExit (zkSeqX (zkSeqX (zkBlkX (zkSeq (f27_j0_ok hd a1 a2 hQ  hS (by kernel_rfl))))))
def f27_j8_J (a1 : GPen) (a2 : GPen) : St := ⟨(up (up (up (up u0 14 (dI 0)) 13 (.agg ((dI a1.Flags) :: ((dI a1.Fore) :: ((dI a1.Back) :: ((dI a2.Flags) :: ((dI a2.Fore) :: ((dI a2.Back) :: [])))))))) 3 (pt 32)) 2 (pt 24)), (up (up h0 32 ⟨0, some (.box ((dI a2.Flags) :: ((dI a2.Fore) :: ((dI a2.Back) :: []))))⟩) 24 ⟨0, some (.box ((dI a1.Flags) :: ((dI a1.Fore) :: ((dI a1.Back) :: []))))⟩)⟩
def f27_j8 (a1 : GPen) (a2 : GPen) : Option ((List Int) × Int) := ((f21 a1).bind fun z52 => (bif (!decide (z52 = 0)) then (some ([], z52)) else (f27_j9 a1 a2 )))
theorem f27_j8_ok {d : Nat} (hd : 3 ≤ d) (a1 : GPen) (a2 : GPen) {r : (List Int) × Int} {Q : PQ} (hQ : FQ (f27_Q r) Q)  (hS : f27_j8 a1 a2 = some r) {st : St} (he : keepSt [2, 3, 13, 14] [(24, .id 24), (32, .id 32)] [] st = f27_j8_J a1 a2) : ZR (lev codes baseL (d - 1)) Q c27_9 [.seq c27_10, .blk 0, .seq c27_8] st := by
 refine zrKeep he ?_
 unfold f27_j8 at hS
 refine zrSeq (zrBlk (zrSeq (zrReg (zL 3 3 (zE (zkSeq (zrSeq (zrReg (zL 1 1 ?_)))))))))
 refine bindE hS (fun z52 hz52 hS => zO (some 18) 2 (c1 21 17) (ev_cA (f21_ok (d - 1) (dpt hd rfl) a1 z52 hz52)) (zL 1 3 (zE (zkSeq (zrSeq (zrReg (zL 1 1 ?_)))))))
 refine sB 20 2 (.cmpI .neq (tm 19) (ki 0)) hS (fun hS => ?_) (fun hS => ?_)
 ·refine zE (zkSeq (zT (zrSeq (zrReg (zL 3 3 (zE (zkSeq ?_)))))))
  exact zrRet (zkBlkR (zkSeqR (zkSeqR (zkBlkR (zkSeqR (zkNil (endQ hS hQ (fR (f27_out [] z52)))))))))
 ·refine zE (zkSeq (zF ?_))
  refine zrSkip (zkBlk (zkSeq (zrReg (zL 2 2 (zE (zkSeq ?_))))))
  refine zrLoop1 (zrSeq (zrReg (zL 1 1 (zE (zkSeq (zrSeq (zT ?_)))))))
  exact zrSkip (zkSeq (f27_j9_ok hd a1 a2 hQ  hS (by kernel_rfl)))
def f27 (a1 : GPen) (a2 : GPen) : Option ((List Int) × Int) := (f27_j8 a1 a2 )
theorem f27_ok (d : Nat) (hd : 3 ≤ d) (a1 : GPen) (a2 : GPen) (r : (List Int) × Int) (hS : f27 a1 a2 = some r) : lev codes baseL d 27 [(.agg ((dI a1.Flags) :: ((dI a1.Fore) :: ((dI a1.Back) :: [])))), (.agg ((dI a2.Flags) :: ((dI a2.Fore) :: ((dI a2.Back) :: []))))] [] = some ((.tup [(.r (.own 0 3 1 r.1.length (eI.cells r.1))), (dI r.2)]), []) := by
 refine lev_go codes27 rfl rfl (Nat.le_trans (Nat.le_of_ble_eq_true rfl) hd) fun Q hQ => ?_
 unfold f27 at hS
 show ZR _ Q c27_b [] _
 replace hQ : FQ (f27_Q r) Q := hQ
 refine zrSeq (zrReg (zL 4 4 (zE (zkSeq (zrSeq (zrSeq (zrReg (zL 4 4 (zE (zkSeq ?_))))))))))
 refine zrBlk (zrLoop1 (zrSeq (zrReg (zL 1 1 (zE (zkSeq (zrSeq (zT ?_))))))))
 exact zrSkip (zkSeq (f27_j8_ok hd a1 a2 hQ  hS (by kernel_rfl)))
/- (*farwriter/draw.drawer).to -/
def f13_fin (p7 : List Int) (p8 : Int) (p9 : Int) (p10 : Int) : St := ⟨(up u0 1000001 .un), (up (up h0 1 ⟨1, some (.own 3 1 (eI.cells p7))⟩) 0 ⟨0, some (.box ((.r (.msl 1 1 0 p7.length)) :: ((dI p8) :: ((dI p9) :: ((dI p10) :: [])))))⟩)⟩
theorem f13_out (p7 : List Int) (p8 : Int) (p9 : Int) (p10 : Int) : outR (f13_fin p7 p8 p9 p10) 2 c13.res = some ((.tup []), [(.box ((.r (.msl 1 0 0 p7.length)) :: ((dI p8) :: ((dI p9) :: ((dI p10) :: []))))), (.own 3 1 (eI.cells p7))]) := by
 kernel_rfl
def f13_Q (r : (List Int) × Int × Int × Int) (e : PX) (st : St) : Prop := DoneF c13 2 ((.tup []), [(.box ((.r (.msl 1 0 0 r.1.length)) :: ((dI r.2.1) :: ((dI r.2.2.1) :: ((dI r.2.2.2) :: []))))), (.own 3 1 (eI.cells r.1))]) e st
def f13 (a1 : GPen) (a2 : Int) (a3 : Int) (a4 : Int) (a5 : List Int) : Option ((List Int) × Int × Int × Int) := ((f27 (GPen.mk a2 a3 a4) a1).bind fun z3 => (bif (decide (0 < (z3.1.length : Int))) then ((f12 109 a2 a3 a4 z3.1 a5).bind fun z4 => (some (z4.1, a1.Flags, a1.Fore, a1.Back))) else (some (a5, a1.Flags, a1.Fore, a1.Back))))
theorem f13_ok (d : Nat) (hd : 7 ≤ d) (a1 : GPen) (a2 : Int) (a3 : Int) (a4 : Int) (a5 : List Int) (r : (List Int) × Int × Int × Int) (hS : f13 a1 a2 a3 a4 a5 = some r) : lev codes baseL d 13 [(pt 0), (.agg ((dI a1.Flags) :: ((dI a1.Fore) :: ((dI a1.Back) :: []))))] [(.box ((.r (.msl 1 0 0 a5.length)) :: ((dI a2) :: ((dI a3) :: ((dI a4) :: []))))), (.own 3 1 (eI.cells a5))] = some ((.tup []), [(.box ((.r (.msl 1 0 0 r.1.length)) :: ((dI r.2.1) :: ((dI r.2.2.1) :: ((dI r.2.2.2) :: []))))), (.own 3 1 (eI.cells r.1))]) := by
 refine lev_go codes13 rfl rfl (Nat.le_trans (Nat.le_of_ble_eq_true rfl) hd) fun Q hQ => ?_
 unfold f13 at hS
 show ZR _ Q c13_b [] _
 replace hQ : FQ (f13_Q r) Q := hQ
 refine zrSeq (zrReg (zL 1 1 (zE (zkSeq (zrSeq (zrSeq ?_))))))
 refine zrRegD (zdR 5 5 (bindE hS (fun z3 hz3 hS => zdO (some 12) 6 none (.call 27 [(tm 10), (tm 11)]) (ev_cA (f27_ok (d - 1) (dpt hd rfl) (GPen.mk a2 a3 a4) a1 z3 hz3)) (zdR 5 11 (zdE (zkSeq (zrSeq (zrReg (zL 2 2 ?_)))))))))
 refine sB 17 3 (.cmpI .gtr (tm 16) (ki 0)) hS (fun hS => ?_) (fun hS => ?_)
 ·refine zE (zkSeq (zT (zrReg (zL 2 2 ?_))))
  refine bindE hS (fun z4 hz4 hS => zO (some 20) 3 (.callr 12 [(tm 18), (ki 109), (tm 19)]) (ev_cR [0, 104, 1] (f12_ok (d - 1) (dpt hd rfl) 109 a2 a3 a4 z3.1 a5 z4 hz4)) (zE (zkSeq (zrReg (zL 5 5 (zE ?_))))))
  exact zkNil (endQ hS hQ (fN (f13_out z4.1 a1.Flags a1.Fore a1.Back)))
 ·refine zE (zkSeq (zF ?_))
  refine zrSkip (zkSeq (zrReg (zL 5 5 (zE ?_))))
  exact zkNil (endQ hS hQ (fN (f13_out a5 a1.Flags a1.Fore a1.Back)))
/- farwriter/draw.Draw -/
def f5_fin (p358 : List Int) (p359 : Int) : St := ⟨(up (up u0 5 (dI p359)) 4 (.r (.msl 1186 0 0 p358.length))), (up h0 1186 ⟨0, some (.own 3 1 (eI.cells p358))⟩)⟩
theorem f5_out (p358 : List Int) (p359 : Int) : outR (f5_fin p358 p359) 0 c5.res = some ((.tup [(.r (.own 0 3 1 p358.length (eI.cells p358))), (dI p359)]), []) := by
 exact out_of (ids := []) (ids' := [1186]) (l := [(.r (.msl 1186 0 0 p358.length)), (dI p359)]) (by kernel_rfl) (by kernel_rfl) (o_tup (o_cons (o_own eI (e := 3) (k := 1) (xs := p358) (by kernel_rfl) rfl rfl rfl rfl) (o_cons rfl o_nil)))
def f5_Q (r : (List Int) × Int) (e : PX) (st : St) : Prop := DoneF c5 0 ((.tup [(.r (.own 0 3 1 r.1.length (eI.cells r.1))), (dI r.2)]), []) e st
def f5_j1_J (a1 : GScreen) (a2 : GScreen) (p369 : List Int) (p370 : Int) (p371 : Int) (p372 : Int) : St := ⟨(up (up u0 8 (pt 664)) 3 (pt 32)), (up (up (up h0 1185 ⟨0, some (.own 3 1 (eI.cells p369))⟩) 664 ⟨0, some (.box ((.r (.msl 1185 0 0 p369.length)) :: ((dI p370) :: ((dI p371) :: ((dI p372) :: [])))))⟩) 32 ⟨0, some (.box (bd_GScreen a2))⟩)⟩
def f5_j1 (a1 : GScreen) (a2 : GScreen) (p369 : List Int) (p370 : Int) (p371 : Int) (p372 : Int) : Option ((List Int) × Int) := ((f13 a2.Pen p370 p371 p372 p369).bind fun z59 => ((f12 72 z59.2.1 z59.2.2.1 z59.2.2.2 [(IntKind.i64.wrap (a2.Row + 1)), (IntKind.i64.wrap (a2.Col + 1))] z59.1).bind fun z60 => (some (z60.1, 0))))
theorem f5_j1_ok {d : Nat} (hd : 8 ≤ d) (a1 : GScreen) (a2 : GScreen) {r : (List Int) × Int} {Q : PQ} (hQ : FQ (f5_Q r) Q) (p369 : List Int) (p370 : Int) (p371 : Int) (p372 : Int) (hS : f5_j1 a1 a2 p369 p370 p371 p372 = some r) {st : St} (he : keepSt [3, 8] [(32, .id 32), (664, .id 664), (1185, .id 1185)] [] st = f5_j1_J a1 a2 p369 p370 p371 p372) : ZR (lev codes baseL (d - 1)) Q c5_1 [] st := by
 refine zrKeep he ?_
 unfold f5_j1 at hS
 refine zrSeq (zrReg (zL 3 3 ?_))
 refine bindE hS (fun z59 hz59 hS => zO (some 130) 4 (.callr 13 [(tm 127), (tm 129)]) (ev_cR [664, 1185] (f13_ok (d - 1) (dpt hd rfl) a2.Pen p370 p371 p372 p369 z59 hz59)) (zE (zkSeq (zrSeq (zrReg (zL 8 8 ?_))))))
 refine bindE hS (fun z60 hz60 hS => zO (some 139) 9 (.callr 12 [(tm 131), (ki 72), (tm 138)]) (ev_cR [664, 1112, 1185] (f12_ok (d - 1) (dpt hd rfl) 72 z59.2.1 z59.2.2.1 z59.2.2.2 [(IntKind.i64.wrap (a2.Row + 1)), (IntKind.i64.wrap (a2.Col + 1))] z59.1 z60 hz60)) (zE (zkSeq (zrSeq (zrReg (zL 6 6 (zE (zkSeq ?_))))))))
 exact zrRet (zkNil (endQ hS hQ (fR (f5_out z60.1 0))))
def f5_l2_J (a1 : GScreen) (a2 : GScreen) (x : (List Int) × Int × Int × Int × Int) : St := ⟨(up (up (up (up (up (up u0 85 (dI x.2.2.2.2)) 84 (dI a2.Grid.High)) 8 (pt 664)) 7 (pt 64)) 6 (pt 56)) 3 (pt 32)), (up (up (up (up (up h0 1185 ⟨0, some (.own 3 1 (eI.cells x.1))⟩) 664 ⟨0, some (.box ((.r (.msl 1185 0 0 x.1.length)) :: ((dI x.2.1) :: ((dI x.2.2.1) :: ((dI x.2.2.2.1) :: [])))))⟩) 64 ⟨0, some (.box ((dI a2.Grid.Wide) :: ((dI a2.Grid.High) :: ((gd0_GScreen a2) :: []))))⟩) 56 ⟨0, some (.box ((dI a1.Grid.Wide) :: ((dI a1.Grid.High) :: ((gd0_GScreen a1) :: []))))⟩) 32 ⟨0, some (.box (bd_GScreen a2))⟩)⟩
def f5_l2_H (a1 : GScreen) (a2 : GScreen) (x : (List Int) × Int × Int × Int × Int) (st : St) : Prop := keepSt [3, 6, 7, 8, 84, 85] [(32, .id 32), (56, .id 56), (64, .id 64), (664, .id 664), (1185, (.cell 664 0))] [.cell 664 0 1185 3 1] st = f5_l2_J a1 a2 x
def f5_l2_e1_J (a1 : GScreen) (a2 : GScreen) (p354 : List Int) (p355 : Int) (p356 : Int) (p357 : Int) : St := ⟨(up (up u0 8 (pt 664)) 3 (pt 32)), (up (up (up h0 1185 ⟨0, some (.own 3 1 (eI.cells p354))⟩) 664 ⟨0, some (.box ((.r (.msl 1185 0 0 p354.length)) :: ((dI p355) :: ((dI p356) :: ((dI p357) :: [])))))⟩) 32 ⟨0, some (.box (bd_GScreen a2))⟩)⟩
def f5_l2_X (a1 : GScreen) (a2 : GScreen) (z : ((List Int) × Int × Int × Int)) (e : PX) (st : St) : Prop := e = .exit 1 ∧ st = f5_l2_e1_J a1 a2 z.1 z.2.1 z.2.2.1 z.2.2.2
def f5_l2_l6_J (a1 : GScreen) (a2 : GScreen) (x : (List Int) × Int × Int × Int × Int × (List GCell) × Int × Int) : St := ⟨(up (up (up (up (up (up (up (up (up u0 103 (dI x.2.2.2.2.2.2.2)) 102 (dI x.2.2.2.2.2.2.1)) 101 (.r (.msl 728 0 0 x.2.2.2.2.2.1.length))) 85 (dI x.2.2.2.2.1)) 84 (dI a2.Grid.High)) 8 (pt 664)) 7 (pt 64)) 6 (pt 56)) 3 (pt 32)), (up (up (up (up (up (up h0 728 ⟨0, some (.own 49 4 (e_GCell.cells x.2.2.2.2.2.1))⟩) 1185 ⟨0, some (.own 3 1 (eI.cells x.1))⟩) 664 ⟨0, some (.box ((.r (.msl 1185 0 0 x.1.length)) :: ((dI x.2.1) :: ((dI x.2.2.1) :: ((dI x.2.2.2.1) :: [])))))⟩) 64 ⟨0, some (.box ((dI a2.Grid.Wide) :: ((dI a2.Grid.High) :: ((gd0_GScreen a2) :: []))))⟩) 56 ⟨0, some (.box ((dI a1.Grid.Wide) :: ((dI a1.Grid.High) :: ((gd0_GScreen a1) :: []))))⟩) 32 ⟨0, some (.box (bd_GScreen a2))⟩)⟩
def f5_l2_l6_H (a1 : GScreen) (a2 : GScreen) (x : (List Int) × Int × Int × Int × Int × (List GCell) × Int × Int) (st : St) : Prop := keepSt [3, 6, 7, 8, 84, 85, 101, 102, 103] [(32, .id 32), (56, .id 56), (64, .id 64), (664, .id 664), (1185, .id 1185), (728, .id 728)] [] st = f5_l2_l6_J a1 a2 x
def f5_l2_l6_e3_J (a1 : GScreen) (a2 : GScreen) (p498 : List Int) (p499 : Int) (p500 : Int) (p501 : Int) (p502 : Int) : St := ⟨(up (up (up (up (up (up u0 85 (dI p502)) 84 (dI a2.Grid.High)) 8 (pt 664)) 7 (pt 64)) 6 (pt 56)) 3 (pt 32)), (up (up (up (up (up h0 1185 ⟨0, some (.own 3 1 (eI.cells p498))⟩) 664 ⟨0, some (.box ((.r (.msl 1185 0 0 p498.length)) :: ((dI p499) :: ((dI p500) :: ((dI p501) :: [])))))⟩) 64 ⟨0, some (.box ((dI a2.Grid.Wide) :: ((dI a2.Grid.High) :: ((gd0_GScreen a2) :: []))))⟩) 56 ⟨0, some (.box ((dI a1.Grid.Wide) :: ((dI a1.Grid.High) :: ((gd0_GScreen a1) :: []))))⟩) 32 ⟨0, some (.box (bd_GScreen a2))⟩)⟩
def f5_l2_l6_X (a1 : GScreen) (a2 : GScreen) (z : ((List Int) × Int × Int × Int × Int)) (e : PX) (st : St) : Prop := e = .exit 3 ∧ st = f5_l2_l6_e3_J a1 a2 z.1 z.2.1 z.2.2.1 z.2.2.2.1 z.2.2.2.2
def f5_l2_l6_j8_J (a1 : GScreen) (a2 : GScreen) (p521 : List Int) (p522 : Int) (p523 : Int) (p524 : Int) (p525 : Int) (p526 : List GCell) (p527 : Int) (p528 : Int) : St := ⟨(up (up (up (up (up (up (up (up (up u0 103 (dI p528)) 102 (dI p527)) 101 (.r (.msl 728 0 0 p526.length))) 85 (dI p525)) 84 (dI a2.Grid.High)) 8 (pt 664)) 7 (pt 64)) 6 (pt 56)) 3 (pt 32)), (up (up (up (up (up (up h0 728 ⟨0, some (.own 49 4 (e_GCell.cells p526))⟩) 1185 ⟨0, some (.own 3 1 (eI.cells p521))⟩) 664 ⟨0, some (.box ((.r (.msl 1185 0 0 p521.length)) :: ((dI p522) :: ((dI p523) :: ((dI p524) :: [])))))⟩) 64 ⟨0, some (.box ((dI a2.Grid.Wide) :: ((dI a2.Grid.High) :: ((gd0_GScreen a2) :: []))))⟩) 56 ⟨0, some (.box ((dI a1.Grid.Wide) :: ((dI a1.Grid.High) :: ((gd0_GScreen a1) :: []))))⟩) 32 ⟨0, some (.box (bd_GScreen a2))⟩)⟩
def f5_l2_l6_j8 (a1 : GScreen) (a2 : GScreen) (p521 : List Int) (p522 : Int) (p523 : Int) (p524 : Int) (p525 : Int) (p526 : List GCell) (p527 : Int) (p528 : Int) : Option (((List Int) × Int × Int × Int × Int × (List GCell) × Int × Int) ⊕ (((List Int) × Int × Int × Int × Int))) := ((inR p528 p526.length).bind fun m77 => ((p526[m77]?).bind fun z78 => (bif (!decide (z78.Rune = 0)) then ((f13 z78.Pen p522 p523 p524 p521).bind fun z79 => ((app? 8 z79.1 ([z78.Rune] : List Int)).bind fun z80 => (some (.inl (z80, z79.2.1, z79.2.2.1, z79.2.2.2, p525, p526, p527, (IntKind.i64.wrap (p528 + 1))))))) else (some (.inl (p521, p522, p523, p524, p525, p526, p527, (IntKind.i64.wrap (p528 + 1))))))))
theorem f5_l2_l6_j8_ok {d : Nat} (hd : 8 ≤ d) (a1 : GScreen) (a2 : GScreen) {r : ((List Int) × Int × Int × Int × Int × (List GCell) × Int × Int) ⊕ (((List Int) × Int × Int × Int × Int))} {Q : PQ} (hQ : FQ (finL (f5_l2_l6_H a1 a2) (f5_l2_l6_X a1 a2) r) Q) (p521 : List Int) (p522 : Int) (p523 : Int) (p524 : Int) (p525 : Int) (p526 : List GCell) (p527 : Int) (p528 : Int) (hS : f5_l2_l6_j8 a1 a2 p521 p522 p523 p524 p525 p526 p527 p528 = some r) {st : St} (he : keepSt [3, 6, 7, 8, 84, 85, 101, 102, 103] [(32, .id 32), (56, .id 56), (64, .id 64), (664, .id 664), (1185, .id 1185), (728, .id 728)] [] st = f5_l2_l6_j8_J a1 a2 p521 p522 p523 p524 p525 p526 p527 p528) : ZR (lev codes baseL (d - 1)) Q c5_2 [] st := by
 refine zrKeep he ?_
 unfold f5_l2_l6_j8 at hS
 refine zrSeq (zrBlk (zrSeq (zrReg ?_)))
 refine bindE hS (fun m77 hm77 hS => zO (v := (.r (.ptr 728 0 ((0 + m77) * 4)))) (ups := []) (some 105) 1 (.ixS 49 4 (tm 101) (tm 103)) (ev_ixM (kk := .i64) (b := 728) (g := 0) (l := 0) (n := p526.length) (j := p528) (cs := e_GCell.cells p526) (by kernel_rfl) (by kernel_rfl) (by kernel_rfl) hm77) (bindE hS (fun z78 hz78 hS => zO (v := (.agg ((dI z78.Rune) :: ((dI z78.Pen.Flags) :: ((dI z78.Pen.Fore) :: ((dI z78.Pen.Back) :: [])))))) (ups := []) (some 106) 2 (lt 4 105) (ev_loadM e_GCell (b := 728) (g := 0) (o := (0 + m77) * 4) (e := 49) (k := 4) (m := m77) (fo := 0) (xs := p526) (by kernel_rfl) (by kernel_rfl) (by rw [Nat.zero_add]; rfl) hz78 (by kernel_rfl) (by kernel_rfl) (by kernel_rfl)) (zL 2 4 (zE (zkSeq (zrSeq (zrReg (zL 2 2 ?_)))))))))
 refine sB 109 3 (.cmpI .neq (tm 108) (ki 0)) hS (fun hS => ?_) (fun hS => ?_)
 ·refine zE (zkSeq (zT (zrSeq (zrReg (zL 3 3 ?_)))))
  refine bindE hS (fun z79 hz79 hS => zO (some 113) 4 (.callr 13 [(tm 110), (tm 112)]) (ev_cR [664, 1185] (f13_ok (d - 1) (dpt hd rfl) z78.Pen p522 p523 p524 p521 z79 hz79)) (zE (zkSeq ?_)))
  refine zrRegD (zdR 8 8 (bindE hS (fun z80 hz80 hS => zdO (v := (.r (.msl 1185 2 0 z80.length))) (ups := [(1185, ⟨2, some (.own 3 1 (eI.cells z80))⟩)]) (some 122) 9 none (.app 3 1 8 (tm 118) (tm 121)) (ev_app eI (b := 1185) (g := 1) (n := z79.1.length) (xs := z79.1) (ys := [z78.Rune]) ((congrArg (asL _) (by kernel_rfl : ρof _ (.tmp 121) = (.r (.msl 976 1 0 (([z78.Rune] : List Int).length))))).trans (as_whole eI (e := 3) (k := 1) (xs := [z78.Rune]) (by kernel_rfl) rfl rfl)) rfl (by kernel_rfl) rfl (by kernel_rfl) rfl hz80) (zdR 3 12 (zdE (zkBlk (zkSeq (zrReg (zL 2 2 (zE ?_))))))))))
  exact zkNil (eN1 hS hQ)
 ·refine zE (zkSeq (zF ?_))
  refine zrSkip (zkBlk (zkSeq (zrReg (zL 2 2 (zE ?_)))))
  exact zkNil (eN1 hS hQ)
def f5_l2_l6_j7_J (a1 : GScreen) (a2 : GScreen) (p512 : List Int) (p513 : Int) (p514 : Int) (p515 : Int) (p516 : Int) (p517 : List GCell) (p518 : Int) (p519 : Int) (p520 : Bool) : St := ⟨(up (up (up (up (up (up (up (up (up (up u0 104 (dB p520)) 103 (dI p519)) 102 (dI p518)) 101 (.r (.msl 728 0 0 p517.length))) 85 (dI p516)) 84 (dI a2.Grid.High)) 8 (pt 664)) 7 (pt 64)) 6 (pt 56)) 3 (pt 32)), (up (up (up (up (up (up h0 728 ⟨0, some (.own 49 4 (e_GCell.cells p517))⟩) 1185 ⟨0, some (.own 3 1 (eI.cells p512))⟩) 664 ⟨0, some (.box ((.r (.msl 1185 0 0 p512.length)) :: ((dI p513) :: ((dI p514) :: ((dI p515) :: [])))))⟩) 64 ⟨0, some (.box ((dI a2.Grid.Wide) :: ((dI a2.Grid.High) :: ((gd0_GScreen a2) :: []))))⟩) 56 ⟨0, some (.box ((dI a1.Grid.Wide) :: ((dI a1.Grid.High) :: ((gd0_GScreen a1) :: []))))⟩) 32 ⟨0, some (.box (bd_GScreen a2))⟩)⟩
def f5_l2_l6_j7 (a1 : GScreen) (a2 : GScreen) (p512 : List Int) (p513 : Int) (p514 : Int) (p515 : Int) (p516 : Int) (p517 : List GCell) (p518 : Int) (p519 : Int) (p520 : Bool) : Option (((List Int) × Int × Int × Int × Int × (List GCell) × Int × Int) ⊕ (((List Int) × Int × Int × Int × Int))) := (bif p520 then (f5_l2_l6_j8 a1 a2 p512 p513 p514 p515 p516 p517 p518 p519) else (some (.inr (p512, p513, p514, p515, p516))))
theorem f5_l2_l6_j7_ok {d : Nat} (hd : 8 ≤ d) (a1 : GScreen) (a2 : GScreen) {r : ((List Int) × Int × Int × Int × Int × (List GCell) × Int × Int) ⊕ (((List Int) × Int × Int × Int × Int))} {Q : PQ} (hQ : FQ (finL (f5_l2_l6_H a1 a2) (f5_l2_l6_X a1 a2) r) Q) (p512 : List Int) (p513 : Int) (p514 : Int) (p515 : Int) (p516 : Int) (p517 : List GCell) (p518 : Int) (p519 : Int) (p520 : Bool) (hS : f5_l2_l6_j7 a1 a2 p512 p513 p514 p515 p516 p517 p518 p519 p520 = some r) {st : St} (he : keepSt [3, 6, 7, 8, 84, 85, 101, 102, 103, 104] [(32, .id 32), (56, .id 56), (64, .id 64), (664, .id 664), (1185, .id 1185), (728, .id 728)] [] st = f5_l2_l6_j7_J a1 a2 p512 p513 p514 p515 p516 p517 p518 p519 p520) : ZR (lev codes baseL (d - 1)) Q c5_3 [] st := by
 refine zrKeep he ?_
 unfold f5_l2_l6_j7 at hS
 refine zrSeq (sR 104 hS (fun hS => ?_) (fun hS => ?_))
 ·exact zT (zrSkip (zkSeq (f5_l2_l6_j8_ok hd a1 a2 hQ p512 p513 p514 p515 p516 p517 p518 p519 hS (by kernel_rfl))))
 ·exact zF (zrKeep (J := f5_l2_l6_e3_J a1 a2 p512 p513 p514 p515 p516) (by kernel_rfl) (zrExit (zkSeqX (zkNil (eX0 hS hQ)))))
def f5_l2_l6 (a1 : GScreen) (a2 : GScreen) (x : (List Int) × Int × Int × Int × Int × (List GCell) × Int × Int) : Option (((List Int) × Int × Int × Int × Int × (List GCell) × Int × Int) ⊕ (((List Int) × Int × Int × Int × Int))) := (bif (decide (x.2.2.2.2.2.2.2 < x.2.2.2.2.2.2.1)) then (f5_l2_l6_j7 a1 a2 x.1 x.2.1 x.2.2.1 x.2.2.2.1 x.2.2.2.2.1 x.2.2.2.2.2.1 x.2.2.2.2.2.2.1 x.2.2.2.2.2.2.2 true) else (f5_l2_l6_j7 a1 a2 x.1 x.2.1 x.2.2.1 x.2.2.2.1 x.2.2.2.2.1 x.2.2.2.2.2.1 x.2.2.2.2.2.2.1 x.2.2.2.2.2.2.2 false))
theorem f5_l2_l6_ok {d : Nat} (hd : 8 ≤ d) (a1 : GScreen) (a2 : GScreen) {r : ((List Int) × Int × Int × Int × Int × (List GCell) × Int × Int) ⊕ (((List Int) × Int × Int × Int × Int))} {Q : PQ} (hQ : FQ (finL (f5_l2_l6_H a1 a2) (f5_l2_l6_X a1 a2) r) Q) {x : (List Int) × Int × Int × Int × Int × (List GCell) × Int × Int} (hS : f5_l2_l6 a1 a2 x = some r) {st : St} (he : f5_l2_l6_H a1 a2 x st) : ZR (lev codes baseL (d - 1)) Q c5_4 [] st := by
 refine zrKeep he ?_
 unfold f5_l2_l6 at hS
 refine zrSeq (zrReg ?_)
 refine sB 104 1 (.cmpI .lss (tm 103) (tm 102)) hS (fun hS => ?_) (fun hS => ?_)
 ·refine zE (zkSeq ?_)
  exact f5_l2_l6_j7_ok hd a1 a2 hQ x.1 x.2.1 x.2.2.1 x.2.2.2.1 x.2.2.2.2.1 x.2.2.2.2.2.1 x.2.2.2.2.2.2.1 x.2.2.2.2.2.2.2 true hS (by kernel_rfl)
 ·refine zE (zkSeq ?_)
  exact f5_l2_l6_j7_ok hd a1 a2 hQ x.1 x.2.1 x.2.2.1 x.2.2.2.1 x.2.2.2.2.1 x.2.2.2.2.2.1 x.2.2.2.2.2.2.1 x.2.2.2.2.2.2.2 false hS (by kernel_rfl)
def f5_l2_j5_J (a1 : GScreen) (a2 : GScreen) (p390 : List Int) (p391 : Int) (p392 : Int) (p393 : Int) (p394 : Int) (p395 : List GCell) (p396 : Int) : St := ⟨(up (up (up (up (up (up (up (up u0 85 (dI p396)) 84 (dI a2.Grid.High)) 10 (.r (.msl 728 0 0 p395.length))) 9 (dI p394)) 8 (pt 664)) 7 (pt 64)) 6 (pt 56)) 3 (pt 32)), (up (up (up (up (up (up h0 728 ⟨0, some (.own 49 4 (e_GCell.cells p395))⟩) 1185 ⟨0, some (.own 3 1 (eI.cells p390))⟩) 664 ⟨0, some (.box ((.r (.msl 1185 0 0 p390.length)) :: ((dI p391) :: ((dI p392) :: ((dI p393) :: [])))))⟩) 64 ⟨0, some (.box ((dI a2.Grid.Wide) :: ((dI a2.Grid.High) :: ((gd0_GScreen a2) :: []))))⟩) 56 ⟨0, some (.box ((dI a1.Grid.Wide) :: ((dI a1.Grid.High) :: ((gd0_GScreen a1) :: []))))⟩) 32 ⟨0, some (.box (bd_GScreen a2))⟩)⟩
def f5_l2_j5 (a1 : GScreen) (a2 : GScreen) (p390 : List Int) (p391 : Int) (p392 : Int) (p393 : Int) (p394 : Int) (p395 : List GCell) (p396 : Int) : Option (((List Int) × Int × Int × Int × Int) ⊕ (((List Int) × Int × Int × Int))) := ((f12 72 p391 p392 p393 [(IntKind.i64.wrap (p394 + 1)), 1] p390).bind fun z64 => ((loopO (f5_l2_l6 a1 a2) (z64.1, z64.2.1, z64.2.2.1, z64.2.2.2.1, p396, p395, (p395.length : Int), 0)).bind fun z81 => (some (.inl (z81.1, z81.2.1, z81.2.2.1, z81.2.2.2.1, (IntKind.i64.wrap (z81.2.2.2.2 + 1)))))))
theorem f5_l2_j5_ok {d : Nat} (hd : 8 ≤ d) (a1 : GScreen) (a2 : GScreen) {r : ((List Int) × Int × Int × Int × Int) ⊕ (((List Int) × Int × Int × Int))} {Q : PQ} (hQ : FQ (finL (f5_l2_H a1 a2) (f5_l2_X a1 a2) r) Q) (p390 : List Int) (p391 : Int) (p392 : Int) (p393 : Int) (p394 : Int) (p395 : List GCell) (p396 : Int) (hS : f5_l2_j5 a1 a2 p390 p391 p392 p393 p394 p395 p396 = some r) {st : St} (he : keepSt [3, 6, 7, 8, 9, 10, 84, 85] [(32, .id 32), (56, .id 56), (64, .id 64), (664, .id 664), (1185, .id 1185), (728, .id 728)] [] st = f5_l2_j5_J a1 a2 p390 p391 p392 p393 p394 p395 p396) : ZR (lev codes baseL (d - 1)) Q c5_5 [.blk 2, .seq c5_6] st := by
 refine zrKeep he ?_
 unfold f5_l2_j5 at hS
 refine zrSeq (zrReg (zL 4 4 ?_))
 refine bindE hS (fun z64 hz64 hS => zO (some 100) 5 (.callr 12 [(tm 96), (ki 72), (tm 99)]) (ev_cR [664, 800, 1185] (f12_ok (d - 1) (dpt hd rfl) 72 p391 p392 p393 [(IntKind.i64.wrap (p394 + 1)), 1] p390 z64 hz64)) (zE (zkSeq (zrSeq (zrReg (zL 3 3 (zE (zkSeq ?_))))))))
 refine zrBlk (bindE hS (fun z81 hz81 hS => zrLoop (f5_l2_l6_H a1 a2) (f5_l2_l6_X a1 a2) (fun x st r Q h0 hS hQ => f5_l2_l6_ok hd a1 a2 hQ hS h0) (x := (z64.1, z64.2.1, z64.2.2.1, z64.2.2.2.1, p396, p395, (p395.length : Int), 0)) (z := z81) (by show keepSt _ _ _ _ = _; kernel_rfl) hz81 ?_))
 intro e st' _ hX
 obtain ⟨rfl, rfl⟩ : _ ∧ _ := hX
 refine zkBlkX (zkBlk (zkSeq (zrReg (zL 2 2 (zE ?_)))))
 exact zkNil (eN1 hS hQ)
def f5_l2_j4_J (a1 : GScreen) (a2 : GScreen) (p385 : List Int) (p386 : Int) (p387 : Int) (p388 : Int) (p389 : Int) : St := ⟨(up (up (up (up (up (up u0 85 (dI p389)) 84 (dI a2.Grid.High)) 8 (pt 664)) 7 (pt 64)) 6 (pt 56)) 3 (pt 32)), (up (up (up (up (up h0 1185 ⟨0, some (.own 3 1 (eI.cells p385))⟩) 664 ⟨0, some (.box ((.r (.msl 1185 0 0 p385.length)) :: ((dI p386) :: ((dI p387) :: ((dI p388) :: [])))))⟩) 64 ⟨0, some (.box ((dI a2.Grid.Wide) :: ((dI a2.Grid.High) :: ((gd0_GScreen a2) :: []))))⟩) 56 ⟨0, some (.box ((dI a1.Grid.Wide) :: ((dI a1.Grid.High) :: ((gd0_GScreen a1) :: []))))⟩) 32 ⟨0, some (.box (bd_GScreen a2))⟩)⟩
def f5_l2_j4 (a1 : GScreen) (a2 : GScreen) (p385 : List Int) (p386 : Int) (p387 : Int) (p388 : Int) (p389 : Int) : Option (((List Int) × Int × Int × Int × Int) ⊕ (((List Int) × Int × Int × Int))) := ((f11 a2.Grid p389).bind fun z61 => ((f11 a1.Grid p389).bind fun z82 => ((f10 z82 z61).bind fun z83 => (bif z83 then (some (.inl (p385, p386, p387, p388, (IntKind.i64.wrap (p389 + 1))))) else (f5_l2_j5 a1 a2 p385 p386 p387 p388 p389 z61 p389)))))
theorem f5_l2_j4_ok {d : Nat} (hd : 8 ≤ d) (a1 : GScreen) (a2 : GScreen) {r : ((List Int) × Int × Int × Int × Int) ⊕ (((List Int) × Int × Int × Int))} {Q : PQ} (hQ : FQ (finL (f5_l2_H a1 a2) (f5_l2_X a1 a2) r) Q) (p385 : List Int) (p386 : Int) (p387 : Int) (p388 : Int) (p389 : Int) (hS : f5_l2_j4 a1 a2 p385 p386 p387 p388 p389 = some r) {st : St} (he : keepSt [3, 6, 7, 8, 84, 85] [(32, .id 32), (56, .id 56), (64, .id 64), (664, .id 664), (1185, .id 1185)] [] st = f5_l2_j4_J a1 a2 p385 p386 p387 p388 p389) : ZR (lev codes baseL (d - 1)) Q c5_7 [] st := by
 refine zrKeep he ?_
 unfold f5_l2_j4 at hS
 refine zrSeq (zrBlk (zrSeq (zrReg (zL 2 2 (zE (zkSeq (zrSeq (zrReg (zL 2 2 ?_)))))))))
 refine bindE hS (fun z61 hz61 hS => zO (some 90) 3 (.call 11 [(tm 88), (tm 89)]) (ev_cA (f11_ok (d - 1) (dpt hd rfl) a2.Grid p389 z61 hz61)) (zL 1 4 (zE (zkSeq (zrSeq (zrSeq (zrReg (zL 2 2 ?_))))))))
 refine bindE hS (fun z82 hz82 hS => zO (some 93) 3 (.call 11 [(tm 91), (tm 92)]) (ev_cA (f11_ok (d - 1) (dpt hd rfl) a1.Grid p389 z82 hz82)) (zL 1 4 (bindE hS (fun z83 hz83 hS => zO (some 95) 5 (.call 10 [(tm 93), (tm 94)]) (ev_callB (args := [(.r (.msl 752 1 0 z82.length)), (.r (.msl 728 1 0 z61.length))]) (by kernel_rfl) (l_cons (l_own e_GCell (e := 49) (k := 4) (xs := z82) (by kernel_rfl) rfl rfl) (l_cons (l_own e_GCell (e := 49) (k := 4) (xs := z61) (by kernel_rfl) rfl rfl) l_nil)) (f10_ok (d - 1) (dpt hd rfl) z82 z61 z83 hz83) (by kernel_rfl) (by kernel_rfl)) (zE (zkSeq ?_))))))
 refine sR 95 hS (fun hS => ?_) (fun hS => ?_)
 ·refine zT (zrExit (zkSeqX (zkBlkX (zkSeq (zrReg (zL 2 2 (zE ?_)))))))
  exact zkNil (eN1 hS hQ)
 ·exact zF (zrSkip (zkSeq (f5_l2_j5_ok hd a1 a2 hQ p385 p386 p387 p388 p389 z61 p389 hS (by kernel_rfl))))
def f5_l2_j3_J (a1 : GScreen) (a2 : GScreen) (p379 : List Int) (p380 : Int) (p381 : Int) (p382 : Int) (p383 : Int) (p384 : Bool) : St := ⟨(up (up (up (up (up (up (up u0 86 (dB p384)) 85 (dI p383)) 84 (dI a2.Grid.High)) 8 (pt 664)) 7 (pt 64)) 6 (pt 56)) 3 (pt 32)), (up (up (up (up (up h0 1185 ⟨0, some (.own 3 1 (eI.cells p379))⟩) 664 ⟨0, some (.box ((.r (.msl 1185 0 0 p379.length)) :: ((dI p380) :: ((dI p381) :: ((dI p382) :: [])))))⟩) 64 ⟨0, some (.box ((dI a2.Grid.Wide) :: ((dI a2.Grid.High) :: ((gd0_GScreen a2) :: []))))⟩) 56 ⟨0, some (.box ((dI a1.Grid.Wide) :: ((dI a1.Grid.High) :: ((gd0_GScreen a1) :: []))))⟩) 32 ⟨0, some (.box (bd_GScreen a2))⟩)⟩
def f5_l2_j3 (a1 : GScreen) (a2 : GScreen) (p379 : List Int) (p380 : Int) (p381 : Int) (p382 : Int) (p383 : Int) (p384 : Bool) : Option (((List Int) × Int × Int × Int × Int) ⊕ (((List Int) × Int × Int × Int))) := (bif p384 then (f5_l2_j4 a1 a2 p379 p380 p381 p382 p383) else (some (.inr (p379, p380, p381, p382))))
theorem f5_l2_j3_ok {d : Nat} (hd : 8 ≤ d) (a1 : GScreen) (a2 : GScreen) {r : ((List Int) × Int × Int × Int × Int) ⊕ (((List Int) × Int × Int × Int))} {Q : PQ} (hQ : FQ (finL (f5_l2_H a1 a2) (f5_l2_X a1 a2) r) Q) (p379 : List Int) (p380 : Int) (p381 : Int) (p382 : Int) (p383 : Int) (p384 : Bool) (hS : f5_l2_j3 a1 a2 p379 p380 p381 p382 p383 p384 = some r) {st : St} (he : keepSt [3, 6, 7, 8, 84, 85, 86] [(32, .id 32), (56, .id 56), (64, .id 64), (664, .id 664), (1185, .id 1185)] [] st = f5_l2_j3_J a1 a2 p379 p380 p381 p382 p383 p384) : ZR (lev codes baseL (d - 1)) Q c5_8 [] st := by
 refine zrKeep he ?_
 unfold f5_l2_j3 at hS
 refine zrSeq (sR 86 hS (fun hS => ?_) (fun hS => ?_))
 ·exact zT (zrSkip (zkSeq (f5_l2_j4_ok hd a1 a2 hQ p379 p380 p381 p382 p383 hS (by kernel_rfl))))
 ·exact zF (zrKeep (J := f5_l2_e1_J a1 a2 p379 p380 p381 p382) (by kernel_rfl) (zrExit (zkSeqX (zkNil (eX0 hS hQ)))))
def f5_l2 (a1 : GScreen) (a2 : GScreen) (x : (List Int) × Int × Int × Int × Int) : Option (((List Int) × Int × Int × Int × Int) ⊕ (((List Int) × Int × Int × Int))) := (bif (decide (x.2.2.2.2 < a2.Grid.High)) then (f5_l2_j3 a1 a2 x.1 x.2.1 x.2.2.1 x.2.2.2.1 x.2.2.2.2 true) else (f5_l2_j3 a1 a2 x.1 x.2.1 x.2.2.1 x.2.2.2.1 x.2.2.2.2 false))
theorem f5_l2_ok {d : Nat} (hd : 8 ≤ d) (a1 : GScreen) (a2 : GScreen) {r : ((List Int) × Int × Int × Int × Int) ⊕ (((List Int) × Int × Int × Int))} {Q : PQ} (hQ : FQ (finL (f5_l2_H a1 a2) (f5_l2_X a1 a2) r) Q) {x : (List Int) × Int × Int × Int × Int} (hS : f5_l2 a1 a2 x = some r) {st : St} (he : f5_l2_H a1 a2 x st) : ZR (lev codes baseL (d - 1)) Q c5_9 [] st := by
 refine zrKeep he ?_
 unfold f5_l2 at hS
 refine zrSeq (zrReg ?_)
 refine sB 86 1 (.cmpI .lss (tm 85) (tm 84)) hS (fun hS => ?_) (fun hS => ?_)
 ·refine zE (zkSeq ?_)
  exact f5_l2_j3_ok hd a1 a2 hQ x.1 x.2.1 x.2.2.1 x.2.2.2.1 x.2.2.2.2 true hS (by kernel_rfl)
 ·refine zE (zkSeq ?_)
  exact f5_l2_j3_ok hd a1 a2 hQ x.1 x.2.1 x.2.2.1 x.2.2.2.1 x.2.2.2.2 false hS (by kernel_rfl)
def f5_j0_J (a1 : GScreen) (a2 : GScreen) : St := ⟨(up (up (up (up u0 7 (pt 64)) 6 (pt 56)) 3 (pt 32)) 2 (pt 24)), (up (up (up (up h0 64 ⟨0, some (.box ((dI a2.Grid.Wide) :: ((dI a2.Grid.High) :: ((gd0_GScreen a2) :: []))))⟩) 56 ⟨0, some (.box ((dI a1.Grid.Wide) :: ((dI a1.Grid.High) :: ((gd0_GScreen a1) :: []))))⟩) 32 ⟨0, some (.box (bd_GScreen a2))⟩) 24 ⟨0, some (.box (bd_GScreen a1))⟩)⟩
def f5_j0 (a1 : GScreen) (a2 : GScreen) : Option ((List Int) × Int) := ((loopO (f5_l2 a1 a2) ([], a1.Pen.Flags, a1.Pen.Fore, a1.Pen.Back, 0)).bind fun z84 => (f5_j1 a1 a2 z84.1 z84.2.1 z84.2.2.1 z84.2.2.2))
theorem f5_j0_ok {d : Nat} (hd : 8 ≤ d) (a1 : GScreen) (a2 : GScreen) {r : (List Int) × Int} {Q : PQ} (hQ : FQ (f5_Q r) Q)  (hS : f5_j0 a1 a2 = some r) {st : St} (he : keepSt [2, 3, 6, 7] [(24, .id 24), (32, .id 32), (56, .id 56), (64, .id 64)] [] st = f5_j0_J a1 a2) : ZR (lev codes baseL (d - 1)) Q c5_10 [] st := by
 refine zrKeep he ?_
 unfold f5_j0 at hS
 refine zrSeq (zrReg (zL 5 5 (zE (zkSeq (zrSeq (zrSeq (zrReg (zL 3 3 (zE (zkSeq ?_))))))))))
 refine zrBlk (bindE hS (fun z84 hz84 hS => zrLoop (f5_l2_H a1 a2) (f5_l2_X a1 a2) (fun x st r Q h0 hS hQ => f5_l2_ok hd a1 a2 hQ hS h0) (x := ([], a1.Pen.Flags, a1.Pen.Fore, a1.Pen.Back, 0)) (z := z84) (by show keepSt _ _ _ _ = _; kernel_rfl) hz84 ?_))
 intro e st' _ hX
 obtain ⟨rfl, rfl⟩ : _ ∧ _ := hX
 exact zkBlkX (zkSeq (f5_j1_ok hd a1 a2 hQ z84.1 z84.2.1 z84.2.2.1 z84.2.2.2 hS (by kernel_rfl)))
def f5_j9_J (a1 : GScreen) (a2 : GScreen) : St := ⟨u0, h0⟩
def f5_j9 (a1 : GScreen) (a2 : GScreen) : Option ((List Int) × Int) := (some ([], 4))
theorem f5_j9_ok {d : Nat} (hd : 8 ≤ d) (a1 : GScreen) (a2 : GScreen) {r : (List Int) × Int} {Q : PQ} (hQ : FQ (f5_Q r) Q)  (hS : f5_j9 a1 a2 = some r) {st : St} (he : keepSt [] [] [] st = f5_j9_J a1 a2) : ZR (lev codes baseL (d - 1)) Q c5_11 [.blk 0, .seq c5_10] st := by
 refine zrKeep he ?_
 unfold f5_j9 at hS
 refine zrSeq (zrReg (zL 2 2 (zE (zkSeq ?_))))
 exact zrRet (zkBlkR (zkSeqR (zkNil (endQ hS hQ (fR (f5_out [] 4))))))
def f5_j10_J (a1 : GScreen) (a2 : GScreen) : St := ⟨u0, h0⟩
def f5_j10 (a1 : GScreen) (a2 : GScreen) : Option ((List Int) × Int) := (some ([], 1))
theorem f5_j10_ok {d : Nat} (hd : 8 ≤ d) (a1 : GScreen) (a2 : GScreen) {r : (List Int) × Int} {Q : PQ} (hQ : FQ (f5_Q r) Q)  (hS : f5_j10 a1 a2 = some r) {st : St} (he : keepSt [] [] [] st = f5_j10_J a1 a2) : ZR (lev codes baseL (d - 1)) Q c5_12 [.blk 0, .seq c5_10] st := by
 refine zrKeep he ?_
 unfold f5_j10 at hS
 refine zrSeq (zrReg (zL 2 2 (zE (zkSeq ?_))))
 exact zrRet (zkBlkR (zkSeqR (zkNil (endQ hS hQ (fR (f5_out [] 1))))))
def f5_j11_J (a1 : GScreen) (a2 : GScreen) : St := ⟨u0, h0⟩
def f5_j11 (a1 : GScreen) (a2 : GScreen) : Option ((List Int) × Int) := (some ([], 7))
theorem f5_j11_ok {d : Nat} (hd : 8 ≤ d) (a1 : GScreen) (a2 : GScreen) {r : (List Int) × Int} {Q : PQ} (hQ : FQ (f5_Q r) Q)  (hS : f5_j11 a1 a2 = some r) {st : St} (he : keepSt [] [] [] st = f5_j11_J a1 a2) : ZR (lev codes baseL (d - 1)) Q c5_13 [.blk 0, .seq c5_10] st := by
 refine zrKeep he ?_
 unfold f5_j11 at hS
 refine zrSeq (zrReg (zL 2 2 (zE (zkSeq ?_))))
 exact zrRet (zkBlkR (zkSeqR (zkNil (endQ hS hQ (fR (f5_out [] 7))))))
def f5_j12_J (a1 : GScreen) (a2 : GScreen) : St := ⟨(up (up (up (up u0 7 (pt 64)) 6 (pt 56)) 3 (pt 32)) 2 (pt 24)), (up (up (up (up h0 64 ⟨0, some (.box ((dI a2.Grid.Wide) :: ((dI a2.Grid.High) :: ((gd0_GScreen a2) :: []))))⟩) 56 ⟨0, some (.box ((dI a1.Grid.Wide) :: ((dI a1.Grid.High) :: ((gd0_GScreen a1) :: []))))⟩) 32 ⟨0, some (.box (bd_GScreen a2))⟩) 24 ⟨0, some (.box (bd_GScreen a1))⟩)⟩
def f5_j12 (a1 : GScreen) (a2 : GScreen) : Option ((List Int) × Int) := ((f10 a1.Grid.Cells a2.Grid.Cells).bind fun z90 => (bif z90 then (bif (decide (a1.Row = a2.Row)) then (bif (decide (a1.Col = a2.Col)) then (bif (decide (a1.Pen.Flags = a2.Pen.Flags) && (decide (a1.Pen.Fore = a2.Pen.Fore) && (decide (a1.Pen.Back = a2.Pen.Back) && true))) then (some ([], 0)) else (f5_j0 a1 a2 )) else (f5_j0 a1 a2 )) else (f5_j0 a1 a2 )) else (f5_j0 a1 a2 )))
theorem f5_j12_ok {d : Nat} (hd : 8 ≤ d) (a1 : GScreen) (a2 : GScreen) {r : (List Int) × Int} {Q : PQ} (hQ : FQ (f5_Q r) Q)  (hS : f5_j12 a1 a2 = some r) {st : St} (he : keepSt [2, 3, 6, 7] [(24, .id 24), (32, .id 32), (56, .id 56), (64, .id 64)] [] st = f5_j12_J a1 a2) : ZR (lev codes baseL (d - 1)) Q c5_14 [.blk 0, .seq c5_10] st := by
 refine zrKeep he ?_
 unfold f5_j12 at hS
 refine zrSeq (zrReg (zL 4 4 ?_))
 refine bindE hS (fun z90 hz90 hS => zO (some 57) 5 (.call 10 [(tm 54), (tm 56)]) (ev_cA (f10_ok (d - 1) (dpt hd rfl) a1.Grid.Cells a2.Grid.Cells z90 hz90)) (zL 1 6 (sL 58 hS (fun hS => ?_) (fun hS => ?_))))
 ·refine zL 4 10 (sH 63 11 58 true (.cmpI .eql (tm 60) (tm 62)) hS (fun hS => ?_) (fun hS => ?_))
  ·refine zL 6 17 (sH 70 18 65 true (.cmpI .eql (tm 67) (tm 69)) hS (fun hS => ?_) (fun hS => ?_))
   ·refine zL 6 24 (sH 77 25 72 true (.eqA .false [(3, .int)] (tm 74) (tm 76)) hS (fun hS => ?_) (fun hS => ?_))
    ·refine zL 2 27 (zE (zkSeq (zT (zrSeq (zrReg (zL 2 2 (zE (zkSeq ?_))))))))
     exact zrRet (zkBlkR (zkSeqR (zkNil (endQ hS hQ (fR (f5_out [] 0))))))
    ·refine zL 2 27 (zE (zkSeq (zF ?_)))
     exact zrSkip (zkBlk (zkSeq (f5_j0_ok hd a1 a2 hQ  hS (by kernel_rfl))))
   ·refine zL 9 27 (zE (zkSeq (zF ?_)))
    exact zrSkip (zkBlk (zkSeq (f5_j0_ok hd a1 a2 hQ  hS (by kernel_rfl))))
  ·refine zL 16 27 (zE (zkSeq (zF ?_)))
   exact zrSkip (zkBlk (zkSeq (f5_j0_ok hd a1 a2 hQ  hS (by kernel_rfl))))
 ·refine zL 21 27 (zE (zkSeq (zF ?_)))
  exact zrSkip (zkBlk (zkSeq (f5_j0_ok hd a1 a2 hQ  hS (by kernel_rfl))))
def f5 (a1 : GScreen) (a2 : GScreen) : Option ((List Int) × Int) := ((f9 a1).bind fun z87 => (bif (!decide (z87 = 0)) then (f5_j9 a1 a2 ) else ((f9 a2).bind fun z88 => (bif (!decide (z88 = 0)) then (f5_j9 a1 a2 ) else (bif (!decide (a1.Grid.Wide = a2.Grid.Wide)) then (f5_j10 a1 a2 ) else (bif (!decide (a1.Grid.High = a2.Grid.High)) then (f5_j10 a1 a2 ) else (bif (!decide ((bitI .and .i64 a1.Modes 3) = 0)) then (f5_j11 a1 a2 ) else ((inR a1.Shift 2).bind fun m91 => (bif (decide (m91 = 0)) then (bif (!decide (a1.Pages.1 = 1)) then (f5_j11 a1 a2 ) else (f5_j12 a1 a2 )) else (bif (!decide (a1.Pages.2 = 1)) then (f5_j11 a1 a2 ) else (f5_j12 a1 a2 )))))))))))
theorem f5_ok (d : Nat) (hd : 8 ≤ d) (a1 : GScreen) (a2 : GScreen) (r : (List Int) × Int) (hS : f5 a1 a2 = some r) : lev codes baseL d 5 [(.agg (bd_GScreen a1)), (.agg (bd_GScreen a2))] [] = some ((.tup [(.r (.own 0 3 1 r.1.length (eI.cells r.1))), (dI r.2)]), []) := by
 refine lev_go codes5 rfl rfl (Nat.le_trans (Nat.le_of_ble_eq_true rfl) hd) fun Q hQ => ?_
 unfold f5 at hS
 show ZR _ Q c5_b [] _
 replace hQ : FQ (f5_Q r) Q := hQ
 refine zrSeq (zrReg (zL 4 4 (zE (zkSeq (zrSeq ?_)))))
 refine zrRegD (zdR 8 8 (zdE (zkSeq (zrSeq ?_))))
 refine zrBlk (zrSeq (zrReg (zL 1 1 ?_)))
 refine bindE hS (fun z87 hz87 hS => zO (some 19) 2 (c1 9 18) (ev_cA (f9_ok (d - 1) (dpt hd rfl) a1 z87 hz87)) (sB 20 3 (.cmpI .neq (tm 19) (ki 0)) hS (fun hS => ?_) (fun hS => ?_)))
 ·refine zL 6 9 (zE (zkSeq (zT ?_)))
  exact f5_j9_ok hd a1 a2 hQ  hS (by kernel_rfl)
 ·refine zL 2 5 (bindE hS (fun z88 hz88 hS => zG (some 23) 6 21 false (c1 9 22) (ev_cA (f9_ok (d - 1) (dpt hd rfl) a2 z88 hz88)) (sH 24 7 21 false (.cmpI .neq (tm 23) (ki 0)) hS (fun hS => ?_) (fun hS => ?_))))
  ·refine zL 2 9 (zE (zkSeq (zT ?_)))
   exact f5_j9_ok hd a1 a2 hQ  hS (by kernel_rfl)
  ·refine zL 2 9 (zE (zkSeq (zF (zrSeq (zrReg (zL 4 4 ?_))))))
   refine sB 31 5 (.cmpI .neq (tm 28) (tm 30)) hS (fun hS => ?_) (fun hS => ?_)
   ·refine zL 8 13 (zE (zkSeq (zT ?_)))
    exact f5_j10_ok hd a1 a2 hQ  hS (by kernel_rfl)
   ·refine zL 5 10 (sH 37 11 32 false (.cmpI .neq (tm 34) (tm 36)) hS (fun hS => ?_) (fun hS => ?_))
    ·refine zL 2 13 (zE (zkSeq (zT ?_)))
     exact f5_j10_ok hd a1 a2 hQ  hS (by kernel_rfl)
    ·refine zL 2 13 (zE (zkSeq (zF (zrSeq (zrReg (zL 3 3 ?_))))))
     refine sB 43 4 (.cmpI .neq (tm 42) (ki 0)) hS (fun hS => ?_) (fun hS => ?_)
     ·refine zL 9 13 (zE (zkSeq (zT ?_)))
      exact f5_j11_ok hd a1 a2 hQ  hS (by kernel_rfl)
     ·refine zL 4 8 (bindE hS (fun m91 hm91 hS => boolC (decide (m91 = 0)) (fun hc => ?_) (fun hc => ?_)))
      ·replace hS := cond_t hc hS
       refine zG (v := (.r (.ptr 24 1 16))) (ups := []) (some 48) 9 44 false (.ixA 2 1 (tm 47) (tm 46)) (ev_ixA0 (kk := .i64) (b := 24) (g := 1) (o := 16) (j := a1.Shift) (m := m91) (by kernel_rfl) (by kernel_rfl) hm91 hc) (zL 1 10 (sH 50 11 44 false (.cmpI .neq (tm 49) (ki 1)) hS (fun hS => ?_) (fun hS => ?_)))
       ·refine zL 2 13 (zE (zkSeq (zT ?_)))
        exact f5_j11_ok hd a1 a2 hQ  hS (by kernel_rfl)
       ·refine zL 2 13 (zE (zkSeq (zF ?_)))
        exact f5_j12_ok hd a1 a2 hQ  hS (by kernel_rfl)
      ·replace hS := cond_f hc hS
       refine zG (v := (.r (.ptr 24 1 17))) (ups := []) (some 48) 9 44 false (.ixA 2 1 (tm 47) (tm 46)) (ev_ixA1 (kk := .i64) (b := 24) (g := 1) (o := 16) (j := a1.Shift) (m := m91) (by kernel_rfl) (by kernel_rfl) hm91 hc) (zL 1 10 (sH 50 11 44 false (.cmpI .neq (tm 49) (ki 1)) hS (fun hS => ?_) (fun hS => ?_)))
       ·refine zL 2 13 (zE (zkSeq (zT ?_)))
        exact f5_j11_ok hd a1 a2 hQ  hS (by kernel_rfl)
       ·refine zL 2 13 (zE (zkSeq (zF ?_)))
        exact f5_j12_ok hd a1 a2 hQ  hS (by kernel_rfl)
/- farwriter/farkeep.drawLives -/
theorem libLives_ok (d : Nat) (hd : 0 ≤ d)  (r : Bool) (hS : libLives  = some r) : lev codes baseL d 6 [] [] = some ((dB r), []) := lib_call (l := libs) rfl rfl rfl (livesO_ hS) d
/- strings.Trim -/
theorem libTrim_ok (d : Nat) (hd : 0 ≤ d) (a1 : List UInt8) (a2 : List UInt8) (r : List UInt8) (hS : libTrim a1 a2 = some r) : lev codes baseL d 76 [(.d (.str a1)), (.d (.str a2))] [] = some ((.d (.str r)), []) := lib_call (l := libs) rfl rfl rfl (ossS_ hS) d
/- strings.Split -/
theorem libSplit_ok (d : Nat) (hd : 0 ≤ d) (a1 : List UInt8) (a2 : List UInt8) (r : List (List UInt8)) (hS : libSplit a1 a2 = some r) : lev codes baseL d 77 [(.d (.str a1)), (.d (.str a2))] [] = some ((dE eStr r), []) := lib_call (l := libs) rfl rfl rfl (ossL_ hS) d
end
end Go.Proofs.YtbokpgemkkebnaaGreatDoor.Pm
