/- Typed functions, and that the codes are these. Printed by dec.py. -/
import Derived.Test.YtbokpgemkkebnaaGreatDoorDWyE
namespace Go.Proofs.YtbokpgemkkebnaaGreatDoor.Pm
noncomputable section
set_option maxRecDepth 1000000
set_option maxHeartbeats 20000000
set_option linter.unusedVariables false
/- farwriter/args.Read -/
def f51_fin (p228 : List Int) (p229 : Int) : St := ⟨(up (up u0 3 (dI p229)) 2 (.r (.msl 569 0 0 p228.length))), (up h0 569 ⟨0, some (.own 3 1 (eI.cells p228))⟩)⟩
theorem f51_out (p228 : List Int) (p229 : Int) : outR (f51_fin p228 p229) 0 c51.res = some ((.tup [(.r (.own 0 3 1 p228.length (eI.cells p228))), (dI p229)]), []) := by
 exact out_of (ids := []) (ids' := [569]) (l := [(.r (.msl 569 0 0 p228.length)), (dI p229)]) (by kernel_rfl) (by kernel_rfl) (o_tup (o_cons (o_own eI (e := 3) (k := 1) (xs := p228) (by kernel_rfl) rfl rfl rfl rfl) (o_cons rfl o_nil)))
def f51_Q (r : (List Int) × Int) (e : PX) (st : St) : Prop := DoneF c51 0 ((.tup [(.r (.own 0 3 1 r.1.length (eI.cells r.1))), (dI r.2)]), []) e st
def f51_l2_J (a1 : List UInt8) (x : (List Int) × (List (List UInt8)) × Int × Int) : St := ⟨(up (up (up (up u0 38 (dI x.2.2.2)) 37 (dI x.2.2.1)) 36 (dE eStr x.2.1)) 5 (.r (.msl 48 0 0 x.1.length))), (up h0 48 ⟨0, some (.own 3 1 (eI.cells x.1))⟩)⟩
def f51_l2_H (a1 : List UInt8) (x : (List Int) × (List (List UInt8)) × Int × Int) (st : St) : Prop := keepSt [5, 36, 37, 38] [(48, .id 48)] [] st = f51_l2_J a1 x
def f51_l2_e2_J (a1 : List UInt8) (p412 : List Int) : St := ⟨(up u0 5 (.r (.msl 48 0 0 p412.length))), (up h0 48 ⟨0, some (.own 3 1 (eI.cells p412))⟩)⟩
def f51_l2_X (a1 : List UInt8) (z : ((List Int))) (e : PX) (st : St) : Prop := e = .exit 2 ∧ st = f51_l2_e2_J a1 z
def f51_l2_l6_J (a1 : List UInt8) (x : (List Int) × (List UInt8) × Int × (List (List UInt8)) × Int × Int × Int × Int) : St := ⟨(up (up (up (up (up (up (up (up u0 47 (dI x.2.2.2.2.2.2.2)) 46 (dI x.2.2.2.2.2.2.1)) 38 (dI x.2.2.2.2.2.1)) 37 (dI x.2.2.2.2.1)) 36 (dE eStr x.2.2.2.1)) 8 (dI x.2.2.1)) 7 (.d (.str x.2.1))) 5 (.r (.msl 48 0 0 x.1.length))), (up h0 48 ⟨0, some (.own 3 1 (eI.cells x.1))⟩)⟩
def f51_l2_l6_H (a1 : List UInt8) (x : (List Int) × (List UInt8) × Int × (List (List UInt8)) × Int × Int × Int × Int) (st : St) : Prop := keepSt [5, 7, 8, 36, 37, 38, 46, 47] [(48, .id 48)] [] st = f51_l2_l6_J a1 x
def f51_l2_l6_e4_J (a1 : List UInt8) (p485 : List Int) (p486 : Int) (p487 : List (List UInt8)) (p488 : Int) (p489 : Int) : St := ⟨(up (up (up (up (up u0 38 (dI p489)) 37 (dI p488)) 36 (dE eStr p487)) 8 (dI p486)) 5 (.r (.msl 48 0 0 p485.length))), (up h0 48 ⟨0, some (.own 3 1 (eI.cells p485))⟩)⟩
def f51_l2_l6_X (a1 : List UInt8) (z : ((List Int) × Int × (List (List UInt8)) × Int × Int)) (e : PX) (st : St) : Prop := e = .exit 4 ∧ st = f51_l2_l6_e4_J a1 z.1 z.2.1 z.2.2.1 z.2.2.2.1 z.2.2.2.2
def f51_l2_l6_j8_J (a1 : List UInt8) (p508 : List Int) (p509 : List UInt8) (p510 : Int) (p511 : List (List UInt8)) (p512 : Int) (p513 : Int) (p514 : Int) (p515 : Int) : St := ⟨(up (up (up (up (up (up (up (up u0 47 (dI p515)) 46 (dI p514)) 38 (dI p513)) 37 (dI p512)) 36 (dE eStr p511)) 8 (dI p510)) 7 (.d (.str p509))) 5 (.r (.msl 48 0 0 p508.length))), (up h0 48 ⟨0, some (.own 3 1 (eI.cells p508))⟩)⟩
def f51_l2_l6_j8 (a1 : List UInt8) (p508 : List Int) (p509 : List UInt8) (p510 : Int) (p511 : List (List UInt8)) (p512 : Int) (p513 : Int) (p514 : Int) (p515 : Int) : Option (((List Int) × (List UInt8) × Int × (List (List UInt8)) × Int × Int × Int × Int) ⊕ (((List Int) × Int × (List (List UInt8)) × Int × Int))) := ((idx p509 p515).bind fun z48 => (some (.inl (p508, p509, (if 16383 < (IntKind.i64.wrap ((IntKind.i64.wrap ((if 0 > p510 then 0 else p510) * 10)) + ((z48 - (48 : UInt8)).toNat : Int))) then 16383 else (IntKind.i64.wrap ((IntKind.i64.wrap ((if 0 > p510 then 0 else p510) * 10)) + ((z48 - (48 : UInt8)).toNat : Int)))), p511, p512, p513, p514, (IntKind.i64.wrap (p515 + 1))))))
theorem f51_l2_l6_j8_ok {d : Nat} (hd : 1 ≤ d) (a1 : List UInt8) {r : ((List Int) × (List UInt8) × Int × (List (List UInt8)) × Int × Int × Int × Int) ⊕ (((List Int) × Int × (List (List UInt8)) × Int × Int))} {Q : PQ} (hQ : FQ (finL (f51_l2_l6_H a1) (f51_l2_l6_X a1) r) Q) (p508 : List Int) (p509 : List UInt8) (p510 : Int) (p511 : List (List UInt8)) (p512 : Int) (p513 : Int) (p514 : Int) (p515 : Int) (hS : f51_l2_l6_j8 a1 p508 p509 p510 p511 p512 p513 p514 p515 = some r) {st : St} (he : keepSt [5, 7, 8, 36, 37, 38, 46, 47] [(48, .id 48)] [] st = f51_l2_l6_j8_J a1 p508 p509 p510 p511 p512 p513 p514 p515) : ZR (lev codes baseL (d - 1)) Q c51_1 [] st := by
 refine zrKeep he ?_
 unfold f51_l2_l6_j8 at hS
 refine zrSeq (zrBlk (zrSeq (zrReg (zL 2 2 (zE (zkSeq (zrReg (zL 5 5 ?_))))))))
 refine bindE hS (fun z48 hz48 hS => zO (v := (.d (.int .u8 (z48.toNat : Int)))) (ups := []) (some 55) 6 (.ixStr (tm 53) (tm 54)) (ev_ixStr (kk := .i64) (s := p509) (j := p515) (by kernel_rfl) (by kernel_rfl) hz48) (zO (v := (.d (.int .u8 ((z48 - (48 : UInt8)).toNat : Int)))) (ups := []) (some 56) 7 (.arI .sub (tm 55) (.const (.int .u8 48))) (ev_arI (kk := .u8) (a := (z48.toNat : Int)) (c := ((48 : UInt8).toNat : Int)) (by kernel_rfl) (by kernel_rfl) (ar_sub8 z48 (48 : UInt8))) (zO (v := (dI ((z48 - (48 : UInt8)).toNat : Int))) (ups := []) (some 57) 8 (.cvI .i64 (tm 56)) (ev_cv (kk := .u8) (a := ((z48 - (48 : UInt8)).toNat : Int)) (by kernel_rfl) (cv_i64 _)) (zL 3 11 (zE ?_)))))
 refine zkBlk (zkSeq (zrReg (zL 2 2 (zE ?_))))
 exact zkNil (eN1 hS hQ)
def f51_l2_l6_j7_J (a1 : List UInt8) (p499 : List Int) (p500 : List UInt8) (p501 : Int) (p502 : List (List UInt8)) (p503 : Int) (p504 : Int) (p505 : Int) (p506 : Int) (p507 : Bool) : St := ⟨(up (up (up (up (up (up (up (up (up u0 48 (dB p507)) 47 (dI p506)) 46 (dI p505)) 38 (dI p504)) 37 (dI p503)) 36 (dE eStr p502)) 8 (dI p501)) 7 (.d (.str p500))) 5 (.r (.msl 48 0 0 p499.length))), (up h0 48 ⟨0, some (.own 3 1 (eI.cells p499))⟩)⟩
def f51_l2_l6_j7 (a1 : List UInt8) (p499 : List Int) (p500 : List UInt8) (p501 : Int) (p502 : List (List UInt8)) (p503 : Int) (p504 : Int) (p505 : Int) (p506 : Int) (p507 : Bool) : Option (((List Int) × (List UInt8) × Int × (List (List UInt8)) × Int × Int × Int × Int) ⊕ (((List Int) × Int × (List (List UInt8)) × Int × Int))) := (bif p507 then (f51_l2_l6_j8 a1 p499 p500 p501 p502 p503 p504 p505 p506) else (some (.inr (p499, p501, p502, p503, p504))))
theorem f51_l2_l6_j7_ok {d : Nat} (hd : 1 ≤ d) (a1 : List UInt8) {r : ((List Int) × (List UInt8) × Int × (List (List UInt8)) × Int × Int × Int × Int) ⊕ (((List Int) × Int × (List (List UInt8)) × Int × Int))} {Q : PQ} (hQ : FQ (finL (f51_l2_l6_H a1) (f51_l2_l6_X a1) r) Q) (p499 : List Int) (p500 : List UInt8) (p501 : Int) (p502 : List (List UInt8)) (p503 : Int) (p504 : Int) (p505 : Int) (p506 : Int) (p507 : Bool) (hS : f51_l2_l6_j7 a1 p499 p500 p501 p502 p503 p504 p505 p506 p507 = some r) {st : St} (he : keepSt [5, 7, 8, 36, 37, 38, 46, 47, 48] [(48, .id 48)] [] st = f51_l2_l6_j7_J a1 p499 p500 p501 p502 p503 p504 p505 p506 p507) : ZR (lev codes baseL (d - 1)) Q c51_2 [] st := by
 refine zrKeep he ?_
 unfold f51_l2_l6_j7 at hS
 refine zrSeq (sR 48 hS (fun hS => ?_) (fun hS => ?_))
 ·exact zT (zrSkip (zkSeq (f51_l2_l6_j8_ok hd a1 hQ p499 p500 p501 p502 p503 p504 p505 p506 hS (by kernel_rfl))))
 ·exact zF (zrKeep (J := f51_l2_l6_e4_J a1 p499 p501 p502 p503 p504) (by kernel_rfl) (zrExit (zkSeqX (zkNil (eX0 hS hQ)))))
def f51_l2_l6 (a1 : List UInt8) (x : (List Int) × (List UInt8) × Int × (List (List UInt8)) × Int × Int × Int × Int) : Option (((List Int) × (List UInt8) × Int × (List (List UInt8)) × Int × Int × Int × Int) ⊕ (((List Int) × Int × (List (List UInt8)) × Int × Int))) := (bif (decide (x.2.2.2.2.2.2.2 < x.2.2.2.2.2.2.1)) then (f51_l2_l6_j7 a1 x.1 x.2.1 x.2.2.1 x.2.2.2.1 x.2.2.2.2.1 x.2.2.2.2.2.1 x.2.2.2.2.2.2.1 x.2.2.2.2.2.2.2 true) else (f51_l2_l6_j7 a1 x.1 x.2.1 x.2.2.1 x.2.2.2.1 x.2.2.2.2.1 x.2.2.2.2.2.1 x.2.2.2.2.2.2.1 x.2.2.2.2.2.2.2 false))
theorem f51_l2_l6_ok {d : Nat} (hd : 1 ≤ d) (a1 : List UInt8) {r : ((List Int) × (List UInt8) × Int × (List (List UInt8)) × Int × Int × Int × Int) ⊕ (((List Int) × Int × (List (List UInt8)) × Int × Int))} {Q : PQ} (hQ : FQ (finL (f51_l2_l6_H a1) (f51_l2_l6_X a1) r) Q) {x : (List Int) × (List UInt8) × Int × (List (List UInt8)) × Int × Int × Int × Int} (hS : f51_l2_l6 a1 x = some r) {st : St} (he : f51_l2_l6_H a1 x st) : ZR (lev codes baseL (d - 1)) Q c51_3 [] st := by
 refine zrKeep he ?_
 unfold f51_l2_l6 at hS
 refine zrSeq (zrReg ?_)
 refine sB 48 1 (.cmpI .lss (tm 47) (tm 46)) hS (fun hS => ?_) (fun hS => ?_)
 ·refine zE (zkSeq ?_)
  exact f51_l2_l6_j7_ok hd a1 hQ x.1 x.2.1 x.2.2.1 x.2.2.2.1 x.2.2.2.2.1 x.2.2.2.2.2.1 x.2.2.2.2.2.2.1 x.2.2.2.2.2.2.2 true hS (by kernel_rfl)
 ·refine zE (zkSeq ?_)
  exact f51_l2_l6_j7_ok hd a1 hQ x.1 x.2.1 x.2.2.1 x.2.2.2.1 x.2.2.2.2.1 x.2.2.2.2.2.1 x.2.2.2.2.2.2.1 x.2.2.2.2.2.2.2 false hS (by kernel_rfl)
def f51_l2_j5_J (a1 : List UInt8) (p433 : List Int) (p434 : List UInt8) (p435 : List (List UInt8)) (p436 : Int) (p437 : Int) : St := ⟨(up (up (up (up (up u0 38 (dI p437)) 37 (dI p436)) 36 (dE eStr p435)) 7 (.d (.str p434))) 5 (.r (.msl 48 0 0 p433.length))), (up h0 48 ⟨0, some (.own 3 1 (eI.cells p433))⟩)⟩
def f51_l2_j5 (a1 : List UInt8) (p433 : List Int) (p434 : List UInt8) (p435 : List (List UInt8)) (p436 : Int) (p437 : Int) : Option (((List Int) × (List (List UInt8)) × Int × Int) ⊕ (((List Int)))) := ((loopO (f51_l2_l6 a1) (p433, p434, (-1), p435, p436, p437, (p434.length : Int), 0)).bind fun z49 => ((app? 8 z49.1 ([z49.2.1] : List Int)).bind fun z50 => (some (.inl (z50, z49.2.2.1, z49.2.2.2.1, (IntKind.i64.wrap (z49.2.2.2.2 + 1)))))))
theorem f51_l2_j5_ok {d : Nat} (hd : 1 ≤ d) (a1 : List UInt8) {r : ((List Int) × (List (List UInt8)) × Int × Int) ⊕ (((List Int)))} {Q : PQ} (hQ : FQ (finL (f51_l2_H a1) (f51_l2_X a1) r) Q) (p433 : List Int) (p434 : List UInt8) (p435 : List (List UInt8)) (p436 : Int) (p437 : Int) (hS : f51_l2_j5 a1 p433 p434 p435 p436 p437 = some r) {st : St} (he : keepSt [5, 7, 36, 37, 38] [(48, .id 48)] [] st = f51_l2_j5_J a1 p433 p434 p435 p436 p437) : ZR (lev codes baseL (d - 1)) Q c51_4 [.blk 3, .seq c51_5] st := by
 refine zrKeep he ?_
 unfold f51_l2_j5 at hS
 refine zrSeq (zrReg (zL 1 1 (zE (zkSeq (zrSeq (zrSeq (zrReg (zL 3 3 (zE (zkSeq ?_))))))))))
 refine zrBlk (bindE hS (fun z49 hz49 hS => zrLoop (f51_l2_l6_H a1) (f51_l2_l6_X a1) (fun x st r Q h0 hS hQ => f51_l2_l6_ok hd a1 hQ hS h0) (x := (p433, p434, (-1), p435, p436, p437, (p434.length : Int), 0)) (z := z49) (by show keepSt _ _ _ _ = _; kernel_rfl) hz49 ?_))
 intro e st' _ hX
 obtain ⟨rfl, rfl⟩ : _ ∧ _ := hX
 refine zkBlkX (zkSeq (zrReg (zL 3 3 ?_)))
 refine bindE hS (fun z50 hz50 hS => zO (v := (.r (.msl 48 1 0 z50.length))) (ups := [(48, ⟨1, some (.own 3 1 (eI.cells z50))⟩)]) (some 64) 4 (.app 3 1 8 (tm 61) (tm 63)) (ev_app eI (b := 48) (g := 0) (n := z49.1.length) (xs := z49.1) (ys := [z49.2.1]) ((congrArg (asL _) (by kernel_rfl : ρof _ (.tmp 63) = (.r (.msl 512 1 0 (([z49.2.1] : List Int).length))))).trans (as_whole eI (e := 3) (k := 1) (xs := [z49.2.1]) (by kernel_rfl) rfl rfl)) rfl (by kernel_rfl) rfl (by kernel_rfl) rfl hz50) (zL 1 5 (zE ?_)))
 refine zkBlk (zkSeq (zrReg (zL 2 2 (zE ?_))))
 exact zkNil (eN1 hS hQ)
def f51_l2_j4_J (a1 : List UInt8) (p423 : List Int) (p424 : List (List UInt8)) (p425 : Int) (p426 : Int) : St := ⟨(up (up (up (up u0 38 (dI p426)) 37 (dI p425)) 36 (dE eStr p424)) 5 (.r (.msl 48 0 0 p423.length))), (up h0 48 ⟨0, some (.own 3 1 (eI.cells p423))⟩)⟩
def f51_l2_j4 (a1 : List UInt8) (p423 : List Int) (p424 : List (List UInt8)) (p425 : Int) (p426 : Int) : Option (((List Int) × (List (List UInt8)) × Int × Int) ⊕ (((List Int)))) := ((idx p424 p426).bind fun z44 => (bif (decide ((p423.length : Int) = 32)) then (some (.inr p423)) else (f51_l2_j5 a1 p423 z44 p424 p425 p426)))
theorem f51_l2_j4_ok {d : Nat} (hd : 1 ≤ d) (a1 : List UInt8) {r : ((List Int) × (List (List UInt8)) × Int × Int) ⊕ (((List Int)))} {Q : PQ} (hQ : FQ (finL (f51_l2_H a1) (f51_l2_X a1) r) Q) (p423 : List Int) (p424 : List (List UInt8)) (p425 : Int) (p426 : Int) (hS : f51_l2_j4 a1 p423 p424 p425 p426 = some r) {st : St} (he : keepSt [5, 36, 37, 38] [(48, .id 48)] [] st = f51_l2_j4_J a1 p423 p424 p425 p426) : ZR (lev codes baseL (d - 1)) Q c51_6 [] st := by
 refine zrKeep he ?_
 unfold f51_l2_j4 at hS
 refine zrSeq (zrBlk (zrSeq (zrReg ?_)))
 refine bindE hS (fun z44 hz44 hS => zO (v := (.rptr (eStr.enc z44 ++ (eStr.cells (p424.drop ((p426 : Int).toNat + 1)))))) (ups := []) (some 40) 1 (.ixS 9 1 (tm 36) (tm 38)) (ev_ixS eStr (kk := .i64) (xs := p424) (j := p426) (by kernel_rfl) (by kernel_rfl) hz44 rfl (by intro h; cases h)) (zL 2 3 (zE (zkSeq (zrSeq (zrSeq (zrReg (zL 2 2 ?_))))))))
 refine sB 44 3 (ck 43 32) hS (fun hS => ?_) (fun hS => ?_)
 ·refine zE (zkSeq (zT ?_))
  exact zrKeep (J := f51_l2_e2_J a1 p423) (by kernel_rfl) (zrExit (zkSeqX (zkBlkY rfl (zkSeqX (zkNil (eX0 hS hQ))))))
 ·refine zE (zkSeq (zF ?_))
  exact zrSkip (zkSeq (f51_l2_j5_ok hd a1 hQ p423 z44 p424 p425 p426 hS (by kernel_rfl)))
def f51_l2_j3_J (a1 : List UInt8) (p418 : List Int) (p419 : List (List UInt8)) (p420 : Int) (p421 : Int) (p422 : Bool) : St := ⟨(up (up (up (up (up u0 39 (dB p422)) 38 (dI p421)) 37 (dI p420)) 36 (dE eStr p419)) 5 (.r (.msl 48 0 0 p418.length))), (up h0 48 ⟨0, some (.own 3 1 (eI.cells p418))⟩)⟩
def f51_l2_j3 (a1 : List UInt8) (p418 : List Int) (p419 : List (List UInt8)) (p420 : Int) (p421 : Int) (p422 : Bool) : Option (((List Int) × (List (List UInt8)) × Int × Int) ⊕ (((List Int)))) := (bif p422 then (f51_l2_j4 a1 p418 p419 p420 p421) else (some (.inr p418)))
theorem f51_l2_j3_ok {d : Nat} (hd : 1 ≤ d) (a1 : List UInt8) {r : ((List Int) × (List (List UInt8)) × Int × Int) ⊕ (((List Int)))} {Q : PQ} (hQ : FQ (finL (f51_l2_H a1) (f51_l2_X a1) r) Q) (p418 : List Int) (p419 : List (List UInt8)) (p420 : Int) (p421 : Int) (p422 : Bool) (hS : f51_l2_j3 a1 p418 p419 p420 p421 p422 = some r) {st : St} (he : keepSt [5, 36, 37, 38, 39] [(48, .id 48)] [] st = f51_l2_j3_J a1 p418 p419 p420 p421 p422) : ZR (lev codes baseL (d - 1)) Q c51_7 [] st := by
 refine zrKeep he ?_
 unfold f51_l2_j3 at hS
 refine zrSeq (sR 39 hS (fun hS => ?_) (fun hS => ?_))
 ·exact zT (zrSkip (zkSeq (f51_l2_j4_ok hd a1 hQ p418 p419 p420 p421 hS (by kernel_rfl))))
 ·exact zF (zrKeep (J := f51_l2_e2_J a1 p418) (by kernel_rfl) (zrExit (zkSeqX (zkNil (eX0 hS hQ)))))
def f51_l2 (a1 : List UInt8) (x : (List Int) × (List (List UInt8)) × Int × Int) : Option (((List Int) × (List (List UInt8)) × Int × Int) ⊕ (((List Int)))) := (bif (decide (x.2.2.2 < x.2.2.1)) then (f51_l2_j3 a1 x.1 x.2.1 x.2.2.1 x.2.2.2 true) else (f51_l2_j3 a1 x.1 x.2.1 x.2.2.1 x.2.2.2 false))
theorem f51_l2_ok {d : Nat} (hd : 1 ≤ d) (a1 : List UInt8) {r : ((List Int) × (List (List UInt8)) × Int × Int) ⊕ (((List Int)))} {Q : PQ} (hQ : FQ (finL (f51_l2_H a1) (f51_l2_X a1) r) Q) {x : (List Int) × (List (List UInt8)) × Int × Int} (hS : f51_l2 a1 x = some r) {st : St} (he : f51_l2_H a1 x st) : ZR (lev codes baseL (d - 1)) Q c51_8 [] st := by
 refine zrKeep he ?_
 unfold f51_l2 at hS
 refine zrSeq (zrReg ?_)
 refine sB 39 1 (.cmpI .lss (tm 38) (tm 37)) hS (fun hS => ?_) (fun hS => ?_)
 ·refine zE (zkSeq ?_)
  exact f51_l2_j3_ok hd a1 hQ x.1 x.2.1 x.2.2.1 x.2.2.2 true hS (by kernel_rfl)
 ·refine zE (zkSeq ?_)
  exact f51_l2_j3_ok hd a1 hQ x.1 x.2.1 x.2.2.1 x.2.2.2 false hS (by kernel_rfl)
def f51_j1_J (a1 : List UInt8) : St := ⟨(up u0 0 (.d (.str a1))), h0⟩
def f51_j1 (a1 : List UInt8) : Option ((List Int) × Int) := ((libSplit a1 [59]).bind fun z28 => ((loopO (f51_l2 a1) ([], z28, (z28.length : Int), 0)).bind fun z51 => (some (z51, 0))))
theorem f51_j1_ok {d : Nat} (hd : 1 ≤ d) (a1 : List UInt8) {r : (List Int) × Int} {Q : PQ} (hQ : FQ (f51_Q r) Q)  (hS : f51_j1 a1 = some r) {st : St} (he : keepSt [0] [] [] st = f51_j1_J a1) : ZR (lev codes baseL (d - 1)) Q c51_9 [] st := by
 refine zrKeep he ?_
 unfold f51_j1 at hS
 refine zrSeq (zrReg (zL 1 1 (zE (zkSeq (zrSeq (zrSeq (zrReg (zL 1 1 ?_))))))))
 refine bindE hS (fun z28 hz28 hS => zO (some 36) 2 (.call 77 [(tm 35), (.const (.string ⟨#[59]⟩))]) (ev_cA (libSplit_ok (d - 1) (dpt hd rfl) a1 [59] z28 hz28)) (zL 2 4 (zE (zkSeq ?_))))
 refine zrBlk (bindE hS (fun z51 hz51 hS => zrLoop (f51_l2_H a1) (f51_l2_X a1) (fun x st r Q h0 hS hQ => f51_l2_ok hd a1 hQ hS h0) (x := ([], z28, (z28.length : Int), 0)) (z := z51) (by show keepSt _ _ _ _ = _; kernel_rfl) hz51 ?_))
 intro e st' _ hX
 obtain ⟨rfl, rfl⟩ : _ ∧ _ := hX
 refine zkBlkX (zkSeq (zrSeq (zrReg (zL 3 3 (zE (zkSeq ?_))))))
 exact zrRet (zkNil (endQ hS hQ (fR (f51_out z51 0))))
def f51_l9_J (a1 : List UInt8) (x : Int) : St := ⟨(up (up (up u0 15 (dI x)) 14 (dI (a1.length : Int))) 0 (.d (.str a1))), h0⟩
def f51_l9_H (a1 : List UInt8) (x : Int) (st : St) : Prop := keepSt [0, 14, 15] [] [] st = f51_l9_J a1 x
def f51_l9_e0_J (a1 : List UInt8) : St := ⟨(up u0 0 (.d (.str a1))), h0⟩
def f51_l9_X (a1 : List UInt8) (z : Unit ⊕ ((List Int) × Int)) (e : PX) (st : St) : Prop := (match z with | .inl z => e = .exit 0 ∧ st = f51_l9_e0_J a1 | .inr z => e = .ret ∧ finSt c51.fin st = f51_fin z.1 z.2)
def f51_l9_j11_J (a1 : List UInt8) (p520 : Int) : St := ⟨(up (up (up u0 15 (dI p520)) 14 (dI (a1.length : Int))) 0 (.d (.str a1))), h0⟩
def f51_l9_j11 (a1 : List UInt8) (p520 : Int) : Option (Int ⊕ (Unit ⊕ ((List Int) × Int))) := ((idx a1 p520).bind fun z52 => (bif (!decide ((z52.toNat : Int) = 59)) then ((idx a1 p520).bind fun z53 => (bif (decide ((z53.toNat : Int) < 48)) then (some (.inr (.inr ([], 4)))) else ((idx a1 p520).bind fun z54 => (bif (decide (57 < (z54.toNat : Int))) then (some (.inr (.inr ([], 4)))) else (some (.inl (IntKind.i64.wrap (p520 + 1)))))))) else (some (.inl (IntKind.i64.wrap (p520 + 1))))))
theorem f51_l9_j11_ok {d : Nat} (hd : 1 ≤ d) (a1 : List UInt8) {r : Int ⊕ (Unit ⊕ ((List Int) × Int))} {Q : PQ} (hQ : FQ (finL (f51_l9_H a1) (f51_l9_X a1) r) Q) (p520 : Int) (hS : f51_l9_j11 a1 p520 = some r) {st : St} (he : keepSt [0, 14, 15] [] [] st = f51_l9_j11_J a1 p520) : ZR (lev codes baseL (d - 1)) Q c51_10 [] st := by
 refine zrKeep he ?_
 unfold f51_l9_j11 at hS
 refine zrSeq (zrBlk (zrSeq (zrReg (zL 2 2 (zE (zkSeq (zrSeq (zrReg (zL 2 2 ?_)))))))))
 refine bindE hS (fun z52 hz52 hS => zO (v := (.d (.int .u8 (z52.toNat : Int)))) (ups := []) (some 20) 3 (.ixStr (tm 18) (tm 19)) (ev_ixStr (kk := .i64) (s := a1) (j := p520) (by kernel_rfl) (by kernel_rfl) hz52) (sB 21 4 (.cmpI .neq (tm 20) (.const (.int .u8 59))) hS (fun hS => ?_) (fun hS => ?_)))
 ·refine zL 3 7 (bindE hS (fun z53 hz53 hS => zG (v := (.d (.int .u8 (z53.toNat : Int)))) (ups := []) (some 25) 8 22 true (.ixStr (tm 23) (tm 24)) (ev_ixStr (kk := .i64) (s := a1) (j := p520) (by kernel_rfl) (by kernel_rfl) hz53) (sH 26 9 22 true (.cmpI .lss (tm 25) (.const (.int .u8 48))) hS (fun hS => ?_) (fun hS => ?_))))
  ·refine zL 7 16 (zE (zkSeq (zT (zrSeq (zrReg (zL 2 2 (zE (zkSeq ?_))))))))
   exact zrRet (zkBlkR (zkSeqR (zkNil (eX1 hS hQ))))
  ·refine zL 3 12 (bindE hS (fun z54 hz54 hS => zG (v := (.d (.int .u8 (z54.toNat : Int)))) (ups := []) (some 30) 13 27 false (.ixStr (tm 28) (tm 29)) (ev_ixStr (kk := .i64) (s := a1) (j := p520) (by kernel_rfl) (by kernel_rfl) hz54) (sH 31 14 27 false (.cmpI .gtr (tm 30) (.const (.int .u8 57))) hS (fun hS => ?_) (fun hS => ?_))))
   ·refine zL 2 16 (zE (zkSeq (zT (zrSeq (zrReg (zL 2 2 (zE (zkSeq ?_))))))))
    exact zrRet (zkBlkR (zkSeqR (zkNil (eX1 hS hQ))))
   ·refine zL 2 16 (zE (zkSeq (zF ?_)))
    refine zrSkip (zkBlk (zkSeq (zrReg (zL 2 2 (zE ?_)))))
    exact zkNil (eN1 hS hQ)
 ·refine zL 12 16 (zE (zkSeq (zF ?_)))
  refine zrSkip (zkBlk (zkSeq (zrReg (zL 2 2 (zE ?_)))))
  exact zkNil (eN1 hS hQ)
def f51_l9_j10_J (a1 : List UInt8) (p518 : Int) (p519 : Bool) : St := ⟨(up (up (up (up u0 16 (dB p519)) 15 (dI p518)) 14 (dI (a1.length : Int))) 0 (.d (.str a1))), h0⟩
def f51_l9_j10 (a1 : List UInt8) (p518 : Int) (p519 : Bool) : Option (Int ⊕ (Unit ⊕ ((List Int) × Int))) := (bif p519 then (f51_l9_j11 a1 p518) else (some (.inr (.inl ()))))
theorem f51_l9_j10_ok {d : Nat} (hd : 1 ≤ d) (a1 : List UInt8) {r : Int ⊕ (Unit ⊕ ((List Int) × Int))} {Q : PQ} (hQ : FQ (finL (f51_l9_H a1) (f51_l9_X a1) r) Q) (p518 : Int) (p519 : Bool) (hS : f51_l9_j10 a1 p518 p519 = some r) {st : St} (he : keepSt [0, 14, 15, 16] [] [] st = f51_l9_j10_J a1 p518 p519) : ZR (lev codes baseL (d - 1)) Q c51_11 [] st := by
 refine zrKeep he ?_
 unfold f51_l9_j10 at hS
 refine zrSeq (sR 16 hS (fun hS => ?_) (fun hS => ?_))
 ·exact zT (zrSkip (zkSeq (f51_l9_j11_ok hd a1 hQ p518 hS (by kernel_rfl))))
 ·exact zF (zrKeep (J := f51_l9_e0_J a1) (by kernel_rfl) (zrExit (zkSeqX (zkNil (eX0 hS hQ)))))
def f51_l9 (a1 : List UInt8) (x : Int) : Option (Int ⊕ (Unit ⊕ ((List Int) × Int))) := (bif (decide (x < (a1.length : Int))) then (f51_l9_j10 a1 x true) else (f51_l9_j10 a1 x false))
theorem f51_l9_ok {d : Nat} (hd : 1 ≤ d) (a1 : List UInt8) {r : Int ⊕ (Unit ⊕ ((List Int) × Int))} {Q : PQ} (hQ : FQ (finL (f51_l9_H a1) (f51_l9_X a1) r) Q) {x : Int} (hS : f51_l9 a1 x = some r) {st : St} (he : f51_l9_H a1 x st) : ZR (lev codes baseL (d - 1)) Q c51_12 [] st := by
 refine zrKeep he ?_
 unfold f51_l9 at hS
 refine zrSeq (zrReg ?_)
 refine sB 16 1 (.cmpI .lss (tm 15) (tm 14)) hS (fun hS => ?_) (fun hS => ?_)
 ·refine zE (zkSeq ?_)
  exact f51_l9_j10_ok hd a1 hQ x true hS (by kernel_rfl)
 ·refine zE (zkSeq ?_)
  exact f51_l9_j10_ok hd a1 hQ x false hS (by kernel_rfl)
def f51_j0_J (a1 : List UInt8) : St := ⟨(up u0 0 (.d (.str a1))), h0⟩
def f51_j0 (a1 : List UInt8) : Option ((List Int) × Int) := ((loopO (f51_l9 a1) 0).bind fun z55 => (Sum.elim (fun z56 => (f51_j1 a1 )) (fun z57 => (some (z57.1, z57.2))) z55))
theorem f51_j0_ok {d : Nat} (hd : 1 ≤ d) (a1 : List UInt8) {r : (List Int) × Int} {Q : PQ} (hQ : FQ (f51_Q r) Q)  (hS : f51_j0 a1 = some r) {st : St} (he : keepSt [0] [] [] st = f51_j0_J a1) : ZR (lev codes baseL (d - 1)) Q c51_13 [] st := by
 refine zrKeep he ?_
 unfold f51_j0 at hS
 refine zrSeq (zrSeq (zrReg (zL 3 3 (zE (zkSeq ?_)))))
 refine zrBlk (bindE hS (fun z55 hz55 hS => zrLoop (f51_l9_H a1) (f51_l9_X a1) (fun x st r Q h0 hS hQ => f51_l9_ok hd a1 hQ hS h0) (x := 0) (z := z55) (by show keepSt _ _ _ _ = _; kernel_rfl) hz55 ?_))
 rcases z55 with z56 | z57
 ·replace hS := (show _ = _ from hS)
  simp only [Sum.elim_inl] at hS
  intro e st' _ hX
  obtain ⟨rfl, rfl⟩ : _ ∧ _ := hX
  exact zkBlkX (zkSeq (f51_j1_ok hd a1 hQ  hS (by kernel_rfl)))
 ·simp only [Sum.elim_inr] at hS
  intro e st' _ hX
  obtain ⟨rfl, hX⟩ : _ ∧ _ := hX
  exact zkBlkR (zkSeqR (zkNil (endQ hS hQ (fRet (by kernel_rfl) ((congrArg (fun s => outR s 0 c51.res) hX).trans (f51_out z57.1 z57.2))))))
def f51 (a1 : List UInt8) : Option ((List Int) × Int) := ((libTrim a1 [48, 49, 50, 51, 52, 53, 54, 55, 56, 57, 59]).bind fun z58 => (bif (!decide (z58 = ([] : List UInt8))) then (some ([], 4)) else (f51_j0 a1 )))
theorem f51_ok (d : Nat) (hd : 1 ≤ d) (a1 : List UInt8) (r : (List Int) × Int) (hS : f51 a1 = some r) : lev codes baseL d 51 [(.d (.str a1))] [] = some ((.tup [(.r (.own 0 3 1 r.1.length (eI.cells r.1))), (dI r.2)]), []) := by
 refine lev_go codes51 rfl rfl (Nat.le_trans (Nat.le_of_ble_eq_true rfl) hd) fun Q hQ => ?_
 unfold f51 at hS
 show ZR _ Q c51_b [] _
 replace hQ : FQ (f51_Q r) Q := hQ
 refine zrSeq (zrReg (zL 2 2 (zE (zkSeq (zrSeq (zrSeq (zrReg (zL 1 1 ?_))))))))
 refine bindE hS (fun z58 hz58 hS => zO (some 11) 2 (.call 76 [(tm 10), (.const (.string ⟨#[48, 49, 50, 51, 52, 53, 54, 55, 56, 57, 59]⟩))]) (ev_cA (libTrim_ok (d - 1) (dpt hd rfl) a1 [48, 49, 50, 51, 52, 53, 54, 55, 56, 57, 59] z58 hz58)) (sB 12 3 (.strO .neq (tm 11) (.const (.string ⟨#[]⟩))) hS (fun hS => ?_) (fun hS => ?_)))
 ·refine zE (zkSeq (zT (zrSeq (zrReg (zL 2 2 (zE (zkSeq ?_)))))))
  exact zrRet (zkSeqR (zkNil (endQ hS hQ (fR (f51_out [] 4)))))
 ·refine zE (zkSeq (zF ?_))
  exact zrSkip (zkSeq (f51_j0_ok hd a1 hQ  hS (by kernel_rfl)))
/- farwriter/parse.Check -/
def f31_fin (p21 : Int) : St := ⟨(up u0 2 (dI p21)), h0⟩
theorem f31_out (p21 : Int) : outR (f31_fin p21) 0 c31.res = some ((dI p21), []) := by
 kernel_rfl
def f31_Q (r : Int) (e : PX) (st : St) : Prop := DoneF c31 0 ((dI r), []) e st
def f31_j3_J (a1 : GParser) (p45 : Bool) : St := ⟨(up (up u0 6 (dB p45)) 1 (pt 16)), (up h0 16 ⟨0, some (.box ((dI a1.State) :: ((dI a1.Mark) :: ((.d (.str a1.Inter)) :: ((.d (.str a1.Args)) :: ((.d (.str a1.Text)) :: []))))))⟩)⟩
def f31_j3 (a1 : GParser) (p45 : Bool) : Option (Int) := (bif p45 then (bif (decide ((a1.Text.length : Int) ≤ 256)) then (bif (decide (a1.Text = ([] : List UInt8))) then (some 0) else (bif (decide (a1.State = 7)) then (some 0) else (bif (decide (a1.State = 8)) then (some 0) else (some 4)))) else (some 4)) else (some 4))
theorem f31_j3_ok {d : Nat} (hd : 3 ≤ d) (a1 : GParser) {r : Int} {Q : PQ} (hQ : FQ (f31_Q r) Q) (p45 : Bool) (hS : f31_j3 a1 p45 = some r) {st : St} (he : keepSt [1, 6] [(16, .id 16)] [] st = f31_j3_J a1 p45) : ZR (lev codes baseL (d - 1)) Q c31_1 [] st := by
 refine zrKeep he ?_
 unfold f31_j3 at hS
 refine zrSeq (zrReg (zL 2 2 ?_))
 refine sL 85 hS (fun hS => ?_) (fun hS => ?_)
 ·refine zL 3 5 (sH 89 6 85 true (.cmpI .leq (tm 88) (ki 256)) hS (fun hS => ?_) (fun hS => ?_))
  ·refine zL 4 10 (sH 94 11 91 true (.strO .eql (tm 93) (.const (.string ⟨#[]⟩))) hS (fun hS => ?_) (fun hS => ?_))
   ·refine zL 12 23 (zE (zkSeq (zrSeq (zrSeq (zrReg (zL 2 2 (zE (zkSeq (zF ?_)))))))))
    refine zrSkip (zkSeq (zrSeq (zrReg (zL 1 1 (zE (zkSeq ?_))))))
    exact zrRet (zkNil (endQ hS hQ (fR (f31_out 0))))
   ·refine zL 3 14 (sH 98 15 95 false (ck 97 7) hS (fun hS => ?_) (fun hS => ?_))
    ·refine zL 8 23 (zE (zkSeq (zrSeq (zrSeq (zrReg (zL 2 2 (zE (zkSeq (zF ?_)))))))))
     refine zrSkip (zkSeq (zrSeq (zrReg (zL 1 1 (zE (zkSeq ?_))))))
     exact zrRet (zkNil (endQ hS hQ (fR (f31_out 0))))
    ·refine zL 4 19 (sH 103 20 100 false (ck 102 8) hS (fun hS => ?_) (fun hS => ?_))
     ·refine zL 3 23 (zE (zkSeq (zrSeq (zrSeq (zrReg (zL 2 2 (zE (zkSeq (zF ?_)))))))))
      refine zrSkip (zkSeq (zrSeq (zrReg (zL 1 1 (zE (zkSeq ?_))))))
      exact zrRet (zkNil (endQ hS hQ (fR (f31_out 0))))
     ·refine zL 3 23 (zE (zkSeq (zrSeq (zrSeq (zrReg (zL 2 2 (zE (zkSeq (zT (zrSeq (zrReg (zL 1 1 (zE (zkSeq ?_))))))))))))))
      exact zrRet (zkSeqR (zkNil (endQ hS hQ (fR (f31_out 4)))))
  ·refine zL 17 23 (zE (zkSeq (zrSeq (zrSeq (zrReg (zL 2 2 (zE (zkSeq (zT (zrSeq (zrReg (zL 1 1 (zE (zkSeq ?_))))))))))))))
   exact zrRet (zkSeqR (zkNil (endQ hS hQ (fR (f31_out 4)))))
 ·refine zL 21 23 (zE (zkSeq (zrSeq (zrSeq (zrReg (zL 2 2 (zE (zkSeq (zT (zrSeq (zrReg (zL 1 1 (zE (zkSeq ?_))))))))))))))
  exact zrRet (zkSeqR (zkNil (endQ hS hQ (fR (f31_out 4)))))
def f31_j2_J (a1 : GParser) (p40 : Int) (p41 : Bool) : St := ⟨(up (up (up u0 6 (dB p41)) 5 (dI p40)) 1 (pt 16)), (up h0 16 ⟨0, some (.box ((dI a1.State) :: ((dI a1.Mark) :: ((.d (.str a1.Inter)) :: ((.d (.str a1.Args)) :: ((.d (.str a1.Text)) :: []))))))⟩)⟩
def f31_j2 (a1 : GParser) (p40 : Int) (p41 : Bool) : Option (Int) := (bif p41 then (bif (decide (p40 = 0)) then (bif (decide ((a1.Args.length : Int) ≤ 100)) then (bif (decide (a1.Args = ([] : List UInt8))) then (f31_j3 a1 true) else none) else (f31_j3 a1 false)) else (f31_j3 a1 false)) else (f31_j3 a1 false))
theorem f31_j2_ok {d : Nat} (hd : 3 ≤ d) (a1 : GParser) {r : Int} {Q : PQ} (hQ : FQ (f31_Q r) Q) (p40 : Int) (p41 : Bool) (hS : f31_j2 a1 p40 p41 = some r) {st : St} (he : keepSt [1, 5, 6] [(16, .id 16)] [] st = f31_j2_J a1 p40 p41) : ZR (lev codes baseL (d - 1)) Q c31_2 [] st := by
 refine zrKeep he ?_
 unfold f31_j2 at hS
 refine zrSeq (zrReg (zL 2 2 ?_))
 refine sL 59 hS (fun hS => ?_) (fun hS => ?_)
 ·refine zL 1 3 (sH 61 4 59 true (ck 60 0) hS (fun hS => ?_) (fun hS => ?_))
  ·refine zL 5 9 (sH 67 10 63 true (.cmpI .leq (tm 66) (ki 100)) hS (fun hS => ?_) (fun hS => ?_))
   ·refine zL 4 14 (sH 72 15 69 true (.strO .eql (tm 71) (.const (.string ⟨#[]⟩))) hS (fun hS => ?_) (fun hS => ?_))
    ·refine zL 12 27 (zE (zkSeq ?_))
     exact f31_j3_ok hd a1 hQ true hS (by kernel_rfl)
    ·refine zL 2 17 ?_
     cases hS
   ·refine zL 17 27 (zE (zkSeq ?_))
    exact f31_j3_ok hd a1 hQ false hS (by kernel_rfl)
  ·refine zL 23 27 (zE (zkSeq ?_))
   exact f31_j3_ok hd a1 hQ false hS (by kernel_rfl)
 ·refine zL 25 27 (zE (zkSeq ?_))
  exact f31_j3_ok hd a1 hQ false hS (by kernel_rfl)
def f31_j1_J (a1 : GParser) (p27 : Bool) (p28 : Int) (p29 : Bool) : St := ⟨(up (up (up (up u0 6 (dB p29)) 5 (dI p28)) 3 (dB p27)) 1 (pt 16)), (up h0 16 ⟨0, some (.box ((dI a1.State) :: ((dI a1.Mark) :: ((.d (.str a1.Inter)) :: ((.d (.str a1.Args)) :: ((.d (.str a1.Text)) :: []))))))⟩)⟩
def f31_j1 (a1 : GParser) (p27 : Bool) (p28 : Int) (p29 : Bool) : Option (Int) := (bif p29 then ((f43 a1.Inter 3).bind fun z7 => (bif z7 then (bif (!decide (a1.Inter = ([] : List UInt8))) then (bif (decide (true = p27)) then (f31_j2 a1 p28 true) else (f31_j2 a1 p28 false)) else (bif (decide (false = p27)) then (f31_j2 a1 p28 true) else (f31_j2 a1 p28 false))) else (f31_j2 a1 p28 false))) else (f31_j2 a1 p28 false))
theorem f31_j1_ok {d : Nat} (hd : 3 ≤ d) (a1 : GParser) {r : Int} {Q : PQ} (hQ : FQ (f31_Q r) Q) (p27 : Bool) (p28 : Int) (p29 : Bool) (hS : f31_j1 a1 p27 p28 p29 = some r) {st : St} (he : keepSt [1, 3, 5, 6] [(16, .id 16)] [] st = f31_j1_J a1 p27 p28 p29) : ZR (lev codes baseL (d - 1)) Q c31_3 [] st := by
 refine zrKeep he ?_
 unfold f31_j1 at hS
 refine zrSeq (zrReg (zL 2 2 ?_))
 refine sL 46 hS (fun hS => ?_) (fun hS => ?_)
 ·refine zL 2 4 (bindE hS (fun z7 hz7 hS => zG (some 49) 5 46 true (.call 43 [(tm 48), (ki 3)]) (ev_cA (f43_ok (d - 1) (dpt hd rfl) a1.Inter 3 z7 hz7)) (zL 2 7 (sL 51 hS (fun hS => ?_) (fun hS => ?_)))))
  ·refine zL 2 9 (sH 54 10 51 true (.strO .neq (tm 53) (.const (.string ⟨#[]⟩))) hS (fun hS => ?_) (fun hS => ?_))
   ·refine zL 1 11 (sH 56 12 51 true (.eqB .false (tm 54) (tm 55)) hS (fun hS => ?_) (fun hS => ?_))
    ·refine zL 2 14 (zE (zkSeq ?_))
     exact f31_j2_ok hd a1 hQ p28 true hS (by kernel_rfl)
    ·refine zL 2 14 (zE (zkSeq ?_))
     exact f31_j2_ok hd a1 hQ p28 false hS (by kernel_rfl)
   ·refine zL 1 11 (sH 56 12 51 true (.eqB .false (tm 54) (tm 55)) hS (fun hS => ?_) (fun hS => ?_))
    ·refine zL 2 14 (zE (zkSeq ?_))
     exact f31_j2_ok hd a1 hQ p28 true hS (by kernel_rfl)
    ·refine zL 2 14 (zE (zkSeq ?_))
     exact f31_j2_ok hd a1 hQ p28 false hS (by kernel_rfl)
  ·refine zL 7 14 (zE (zkSeq ?_))
   exact f31_j2_ok hd a1 hQ p28 false hS (by kernel_rfl)
 ·refine zL 12 14 (zE (zkSeq ?_))
  exact f31_j2_ok hd a1 hQ p28 false hS (by kernel_rfl)
def f31_j0_J (a1 : GParser) (p23 : Bool) : St := ⟨(up (up u0 3 (dB p23)) 1 (pt 16)), (up h0 16 ⟨0, some (.box ((dI a1.State) :: ((dI a1.Mark) :: ((.d (.str a1.Inter)) :: ((.d (.str a1.Args)) :: ((.d (.str a1.Text)) :: []))))))⟩)⟩
def f31_j0 (a1 : GParser) (p23 : Bool) : Option (Int) := ((f51 a1.Args).bind fun z4 => ((f42 a1.State 0 10).bind fun z5 => (bif z5 then (bif (decide (a1.Mark = 0)) then (f31_j1 a1 p23 z4.2 true) else none) else (f31_j1 a1 p23 z4.2 false))))
theorem f31_j0_ok {d : Nat} (hd : 3 ≤ d) (a1 : GParser) {r : Int} {Q : PQ} (hQ : FQ (f31_Q r) Q) (p23 : Bool) (hS : f31_j0 a1 p23 = some r) {st : St} (he : keepSt [1, 3] [(16, .id 16)] [] st = f31_j0_J a1 p23) : ZR (lev codes baseL (d - 1)) Q c31_4 [] st := by
 refine zrKeep he ?_
 unfold f31_j0 at hS
 refine zrSeq (zrReg (zL 2 2 ?_))
 refine bindE hS (fun z4 hz4 hS => zO (some 18) 3 (c1 51 17) (ev_cA (f51_ok (d - 1) (dpt hd rfl) a1.Args z4 hz4)) (zL 5 8 (zE (zkSeq (zrSeq (zrReg (zL 2 2 ?_)))))))
 refine bindE hS (fun z5 hz5 hS => zO (some 23) 3 (.call 42 [(tm 22), (ki 0), (ki 10)]) (ev_cA (f42_ok (d - 1) (dpt hd rfl) a1.State 0 10 z5 hz5)) (zL 1 4 (zE (zkSeq (zrSeq (zrReg (zL 2 2 ?_)))))))
 refine sL 25 hS (fun hS => ?_) (fun hS => ?_)
 ·refine zL 2 4 (sH 28 5 25 true (ck 27 0) hS (fun hS => ?_) (fun hS => ?_))
  ·refine zL 17 22 (zE (zkSeq ?_))
   exact f31_j1_ok hd a1 hQ p23 z4.2 true hS (by kernel_rfl)
  ·refine zL 2 7 ?_
   cases hS
 ·refine zL 20 22 (zE (zkSeq ?_))
  exact f31_j1_ok hd a1 hQ p23 z4.2 false hS (by kernel_rfl)
def f31 (a1 : GParser) : Option (Int) := (bif (decide (a1.State = 2)) then (f31_j0 a1 true) else (bif (decide (a1.State = 5)) then (f31_j0 a1 true) else (f31_j0 a1 false)))
theorem f31_ok (d : Nat) (hd : 3 ≤ d) (a1 : GParser) (r : Int) (hS : f31 a1 = some r) : lev codes baseL d 31 [(.agg ((dI a1.State) :: ((dI a1.Mark) :: ((.d (.str a1.Inter)) :: ((.d (.str a1.Args)) :: ((.d (.str a1.Text)) :: []))))))] [] = some ((dI r), []) := by
 refine lev_go codes31 rfl rfl (Nat.le_trans (Nat.le_of_ble_eq_true rfl) hd) fun Q hQ => ?_
 unfold f31 at hS
 show ZR _ Q c31_b [] _
 replace hQ : FQ (f31_Q r) Q := hQ
 refine zrSeq (zrReg (zL 2 2 (zE (zkSeq (zrSeq (zrReg (zL 2 2 ?_)))))))
 refine sB 9 3 (ck 8 2) hS (fun hS => ?_) (fun hS => ?_)
 ·refine zL 6 9 (zE (zkSeq ?_))
  exact f31_j0_ok hd a1 hQ true hS (by kernel_rfl)
 ·refine zL 3 6 (sH 13 7 10 false (ck 12 5) hS (fun hS => ?_) (fun hS => ?_))
  ·refine zL 2 9 (zE (zkSeq ?_))
   exact f31_j0_ok hd a1 hQ true hS (by kernel_rfl)
  ·refine zL 2 9 (zE (zkSeq ?_))
   exact f31_j0_ok hd a1 hQ false hS (by kernel_rfl)
/- (*farwriter/parse.machine).enter -/
def f54_fin (p1 : Int) (p2 : List GAct) : St := ⟨(up u0 1000001 .un), (up (up h0 1 ⟨1, some (.own 74 6 (e_GAct.cells p2))⟩) 0 ⟨0, some (.box ((dI p1) :: ((dI 0) :: ((.d (.str ([]))) :: ((.d (.str ([]))) :: ((.d (.str ([]))) :: ((.r (.msl 1 1 0 p2.length)) :: [])))))))⟩)⟩
theorem f54_out (p1 : Int) (p2 : List GAct) : outR (f54_fin p1 p2) 2 c54.res = some ((.tup []), [(.box ((dI p1) :: ((dI 0) :: ((.d (.str ([]))) :: ((.d (.str ([]))) :: ((.d (.str ([]))) :: ((.r (.msl 1 0 0 p2.length)) :: []))))))), (.own 74 6 (e_GAct.cells p2))]) := by
 kernel_rfl
def f54_Q (r : Int × (List GAct)) (e : PX) (st : St) : Prop := DoneF c54 2 ((.tup []), [(.box ((dI r.1) :: ((dI 0) :: ((.d (.str ([]))) :: ((.d (.str ([]))) :: ((.d (.str ([]))) :: ((.r (.msl 1 0 0 r.2.length)) :: []))))))), (.own 74 6 (e_GAct.cells r.2))]) e st
def f54 (a1 : Int) (a2 : Int) (a3 : Int) (a4 : List UInt8) (a5 : List UInt8) (a6 : List UInt8) (a7 : List GAct) : Option (Int × (List GAct)) := (some (a1, a7))
theorem f54_ok (d : Nat) (hd : 1 ≤ d) (a1 : Int) (a2 : Int) (a3 : Int) (a4 : List UInt8) (a5 : List UInt8) (a6 : List UInt8) (a7 : List GAct) (r : Int × (List GAct)) (hS : f54 a1 a2 a3 a4 a5 a6 a7 = some r) : lev codes baseL d 54 [(pt 0), (dI a1)] [(.box ((dI a2) :: ((dI a3) :: ((.d (.str a4)) :: ((.d (.str a5)) :: ((.d (.str a6)) :: ((.r (.msl 1 0 0 a7.length)) :: []))))))), (.own 74 6 (e_GAct.cells a7))] = some ((.tup []), [(.box ((dI r.1) :: ((dI 0) :: ((.d (.str ([]))) :: ((.d (.str ([]))) :: ((.d (.str ([]))) :: ((.r (.msl 1 0 0 r.2.length)) :: []))))))), (.own 74 6 (e_GAct.cells r.2))]) := by
 refine lev_go codes54 rfl rfl (Nat.le_trans (Nat.le_of_ble_eq_true rfl) hd) fun Q hQ => ?_
 unfold f54 at hS
 show ZR _ Q c54_b [] _
 replace hQ : FQ (f54_Q r) Q := hQ
 refine zrReg (zL 6 6 (zE ?_))
 exact zkNil (endQ hS hQ (fN (f54_out a1 a7)))
/- (*farwriter/parse.machine).control -/
def f56_fin (p7 : Int) (p8 : Int) (p9 : List UInt8) (p10 : List UInt8) (p11 : List UInt8) (p12 : List GAct) (p13 : Bool) : St := ⟨(up (up u0 1000001 .un) 4 (dB p13)), (up (up h0 1 ⟨1, some (.own 74 6 (e_GAct.cells p12))⟩) 0 ⟨0, some (.box ((dI p7) :: ((dI p8) :: ((.d (.str p9)) :: ((.d (.str p10)) :: ((.d (.str p11)) :: ((.r (.msl 1 1 0 p12.length)) :: [])))))))⟩)⟩
theorem f56_out (p7 : Int) (p8 : Int) (p9 : List UInt8) (p10 : List UInt8) (p11 : List UInt8) (p12 : List GAct) (p13 : Bool) : outR (f56_fin p7 p8 p9 p10 p11 p12 p13) 2 c56.res = some ((dB p13), [(.box ((dI p7) :: ((dI p8) :: ((.d (.str p9)) :: ((.d (.str p10)) :: ((.d (.str p11)) :: ((.r (.msl 1 0 0 p12.length)) :: []))))))), (.own 74 6 (e_GAct.cells p12))]) := by
 kernel_rfl
def f56_Q (r : Int × Int × (List UInt8) × (List UInt8) × (List UInt8) × (List GAct) × Bool) (e : PX) (st : St) : Prop := DoneF c56 2 ((dB r.2.2.2.2.2.2), [(.box ((dI r.1) :: ((dI r.2.1) :: ((.d (.str r.2.2.1)) :: ((.d (.str r.2.2.2.1)) :: ((.d (.str r.2.2.2.2.1)) :: ((.r (.msl 1 0 0 r.2.2.2.2.2.1.length)) :: []))))))), (.own 74 6 (e_GAct.cells r.2.2.2.2.2.1))]) e st
def f56_j0_J (a1 : Int) (a2 : Int) (a3 : Int) (a4 : List UInt8) (a5 : List UInt8) (a6 : List UInt8) (a7 : List GAct) (p18 : Int) : St := ⟨(up (up (up u0 1000001 .un) 5 (dI p18)) 0 (pt 0)), (up (up h0 1 ⟨1, some (.own 74 6 (e_GAct.cells a7))⟩) 0 ⟨0, some (.box ((dI a2) :: ((dI a3) :: ((.d (.str a4)) :: ((.d (.str a5)) :: ((.d (.str a6)) :: ((.r (.msl 1 1 0 a7.length)) :: [])))))))⟩)⟩
def f56_j0 (a1 : Int) (a2 : Int) (a3 : Int) (a4 : List UInt8) (a5 : List UInt8) (a6 : List UInt8) (a7 : List GAct) (p18 : Int) : Option (Int × Int × (List UInt8) × (List UInt8) × (List UInt8) × (List GAct) × Bool) := (bif (!decide (a2 = 0)) then none else ((f54 p18 a2 a3 a4 a5 a6 a7).bind fun z4 => (some (z4.1, 0, [], [], [], z4.2, true))))
theorem f56_j0_ok {d : Nat} (hd : 2 ≤ d) (a1 : Int) (a2 : Int) (a3 : Int) (a4 : List UInt8) (a5 : List UInt8) (a6 : List UInt8) (a7 : List GAct) {r : Int × Int × (List UInt8) × (List UInt8) × (List UInt8) × (List GAct) × Bool} {Q : PQ} (hQ : FQ (f56_Q r) Q) (p18 : Int) (hS : f56_j0 a1 a2 a3 a4 a5 a6 a7 p18 = some r) {st : St} (he : keepSt [0, 5, 1000001] [(0, .id 0), (1, .id 1)] [] st = f56_j0_J a1 a2 a3 a4 a5 a6 a7 p18) : ZR (lev codes baseL (d - 1)) Q c56_1 [] st := by
 refine zrKeep he ?_
 unfold f56_j0 at hS
 refine zrSeq (zrSeq (zrReg (zL 5 5 ?_)))
 refine sB 30 6 (.cmpI .neq (tm 29) (ki 0)) hS (fun hS => ?_) (fun hS => ?_)
 ·refine zE (zkSeq (zT (zrReg (zL 1 1 ?_))))
  cases hS
 ·refine zE (zkSeq (zF ?_))
  refine zrSkip (zkSeq (zrSeq (zrReg (zL 2 2 ?_))))
  refine bindE hS (fun z4 hz4 hS => zO (some 36) 3 (.callr 54 [(tm 34), (tm 35)]) (ev_cR [0, 1] (f54_ok (d - 1) (dpt hd rfl) p18 a2 a3 a4 a5 a6 a7 z4 hz4)) (zE (zkSeq (zrSeq (zrReg (zL 1 1 (zE (zkSeq ?_))))))))
  exact zrRet (zkNil (endQ hS hQ (fR (f56_out z4.1 0 [] [] [] z4.2 true))))
def f56_j1_J (a1 : Int) (a2 : Int) (a3 : Int) (a4 : List UInt8) (a5 : List UInt8) (a6 : List UInt8) (a7 : List GAct) : St := ⟨(up (up (up u0 1000001 .un) 5 (dI 0)) 0 (pt 0)), (up (up h0 1 ⟨1, some (.own 74 6 (e_GAct.cells a7))⟩) 0 ⟨0, some (.box ((dI a2) :: ((dI a3) :: ((.d (.str a4)) :: ((.d (.str a5)) :: ((.d (.str a6)) :: ((.r (.msl 1 1 0 a7.length)) :: [])))))))⟩)⟩
def f56_j1 (a1 : Int) (a2 : Int) (a3 : Int) (a4 : List UInt8) (a5 : List UInt8) (a6 : List UInt8) (a7 : List GAct) : Option (Int × Int × (List UInt8) × (List UInt8) × (List UInt8) × (List GAct) × Bool) := (f56_j0 a1 a2 a3 a4 a5 a6 a7 0)
theorem f56_j1_ok {d : Nat} (hd : 2 ≤ d) (a1 : Int) (a2 : Int) (a3 : Int) (a4 : List UInt8) (a5 : List UInt8) (a6 : List UInt8) (a7 : List GAct) {r : Int × Int × (List UInt8) × (List UInt8) × (List UInt8) × (List GAct) × Bool} {Q : PQ} (hQ : FQ (f56_Q r) Q)  (hS : f56_j1 a1 a2 a3 a4 a5 a6 a7 = some r) {st : St} (he : keepSt [0, 5, 1000001] [(0, .id 0), (1, .id 1)] [] st = f56_j1_J a1 a2 a3 a4 a5 a6 a7) : ZR (lev codes baseL (d - 1)) Q c56_2 [.blk 0, .seq c56_1] st := by
 refine zrKeep he ?_
 unfold f56_j1 at hS
 exact zrSkip (zkBlk (zkSeq (f56_j0_ok hd a1 a2 a3 a4 a5 a6 a7 hQ 0 hS (by kernel_rfl))))
def f56 (a1 : Int) (a2 : Int) (a3 : Int) (a4 : List UInt8) (a5 : List UInt8) (a6 : List UInt8) (a7 : List GAct) : Option (Int × Int × (List UInt8) × (List UInt8) × (List UInt8) × (List GAct) × Bool) := (bif (decide (a1 = 27)) then (f56_j0 a1 a2 a3 a4 a5 a6 a7 1) else (bif (decide (a1 = 24)) then (f56_j1 a1 a2 a3 a4 a5 a6 a7 ) else (bif (decide (a1 = 26)) then (f56_j1 a1 a2 a3 a4 a5 a6 a7 ) else (bif (decide (a1 < 32)) then none else ((f42 a1 127 159).bind fun z5 => (some (a2, a3, a4, a5, a6, a7, z5)))))))
theorem f56_ok (d : Nat) (hd : 2 ≤ d) (a1 : Int) (a2 : Int) (a3 : Int) (a4 : List UInt8) (a5 : List UInt8) (a6 : List UInt8) (a7 : List GAct) (r : Int × Int × (List UInt8) × (List UInt8) × (List UInt8) × (List GAct) × Bool) (hS : f56 a1 a2 a3 a4 a5 a6 a7 = some r) : lev codes baseL d 56 [(pt 0), (dI a1)] [(.box ((dI a2) :: ((dI a3) :: ((.d (.str a4)) :: ((.d (.str a5)) :: ((.d (.str a6)) :: ((.r (.msl 1 0 0 a7.length)) :: []))))))), (.own 74 6 (e_GAct.cells a7))] = some ((dB r.2.2.2.2.2.2), [(.box ((dI r.1) :: ((dI r.2.1) :: ((.d (.str r.2.2.1)) :: ((.d (.str r.2.2.2.1)) :: ((.d (.str r.2.2.2.2.1)) :: ((.r (.msl 1 0 0 r.2.2.2.2.2.1.length)) :: []))))))), (.own 74 6 (e_GAct.cells r.2.2.2.2.2.1))]) := by
 refine lev_go codes56 rfl rfl (Nat.le_trans (Nat.le_of_ble_eq_true rfl) hd) fun Q hQ => ?_
 unfold f56 at hS
 show ZR _ Q c56_b [] _
 replace hQ : FQ (f56_Q r) Q := hQ
 refine zrSeq (zrReg (zL 1 1 (zE (zkSeq (zrSeq (zrReg (zL 1 1 (zE (zkSeq (zrSeq ?_))))))))))
 refine zrBlk (zrSeq (zrReg (zL 1 1 ?_)))
 refine sB 10 2 (ck 9 27) hS (fun hS => ?_) (fun hS => ?_)
 ·refine zL 1 3 (zE (zkSeq (zT (zrReg (zL 1 1 (zE ?_))))))
  exact zkBlk (zkSeq (f56_j0_ok hd a1 a2 a3 a4 a5 a6 a7 hQ 1 hS (by kernel_rfl)))
 ·refine zL 1 3 (zE (zkSeq (zF (zrSeq (zrReg (zL 1 1 ?_))))))
  refine sB 13 2 (ck 12 24) hS (fun hS => ?_) (fun hS => ?_)
  ·refine zL 5 7 (zE (zkSeq (zT ?_)))
   exact f56_j1_ok hd a1 a2 a3 a4 a5 a6 a7 hQ  hS (by kernel_rfl)
  ·refine zL 2 4 (sH 16 5 14 false (ck 15 26) hS (fun hS => ?_) (fun hS => ?_))
   ·refine zL 2 7 (zE (zkSeq (zT ?_)))
    exact f56_j1_ok hd a1 a2 a3 a4 a5 a6 a7 hQ  hS (by kernel_rfl)
   ·refine zL 2 7 (zE (zkSeq (zF (zrSeq (zrReg (zL 1 1 ?_))))))
    refine sB 20 2 (.cmpI .lss (tm 19) (ki 32)) hS (fun hS => ?_) (fun hS => ?_)
    ·refine zL 1 3 (zE (zkSeq (zT (zrSeq (zrReg (zL 1 1 ?_))))))
     cases hS
    ·refine zL 1 3 (zE (zkSeq (zF (zrSeq (zrReg (zL 1 1 ?_))))))
     refine bindE hS (fun z5 hz5 hS => zO (some 7) 2 (.call 42 [(tm 6), (ki 127), (ki 159)]) (ev_cA (f42_ok (d - 1) (dpt hd rfl) a1 127 159 z5 hz5)) (zL 1 3 (zE (zkSeq ?_))))
     exact zrRet (zkBlkR (zkSeqR (zkNil (endQ hS hQ (fR (f56_out a2 a3 a4 a5 a6 a7 z5))))))
/- (*farwriter/parse.machine).emit -/
def f53_fin (p1 : Int) (p2 : Int) (p3 : List UInt8) (p4 : List UInt8) (p5 : List UInt8) (p6 : List GAct) : St := ⟨(up u0 1000001 .un), (up (up h0 1 ⟨1, some (.own 74 6 (e_GAct.cells p6))⟩) 0 ⟨0, some (.box ((dI p1) :: ((dI p2) :: ((.d (.str p3)) :: ((.d (.str p4)) :: ((.d (.str p5)) :: ((.r (.msl 1 1 0 p6.length)) :: [])))))))⟩)⟩
theorem f53_out (p1 : Int) (p2 : Int) (p3 : List UInt8) (p4 : List UInt8) (p5 : List UInt8) (p6 : List GAct) : outR (f53_fin p1 p2 p3 p4 p5 p6) 2 c53.res = some ((.tup []), [(.box ((dI p1) :: ((dI p2) :: ((.d (.str p3)) :: ((.d (.str p4)) :: ((.d (.str p5)) :: ((.r (.msl 1 0 0 p6.length)) :: []))))))), (.own 74 6 (e_GAct.cells p6))]) := by
 kernel_rfl
def f53_Q (r : Int × Int × (List UInt8) × (List UInt8) × (List UInt8) × (List GAct)) (e : PX) (st : St) : Prop := DoneF c53 2 ((.tup []), [(.box ((dI r.1) :: ((dI r.2.1) :: ((.d (.str r.2.2.1)) :: ((.d (.str r.2.2.2.1)) :: ((.d (.str r.2.2.2.2.1)) :: ((.r (.msl 1 0 0 r.2.2.2.2.2.length)) :: []))))))), (.own 74 6 (e_GAct.cells r.2.2.2.2.2))]) e st
def f53 (a1 : GAct) (a2 : Int) (a3 : Int) (a4 : List UInt8) (a5 : List UInt8) (a6 : List UInt8) (a7 : List GAct) : Option (Int × Int × (List UInt8) × (List UInt8) × (List UInt8) × (List GAct)) := ((app? 80 a7 ([a1] : List GAct)).bind fun z2 => (some (a2, a3, a4, a5, a6, z2)))
theorem f53_ok (d : Nat) (hd : 1 ≤ d) (a1 : GAct) (a2 : Int) (a3 : Int) (a4 : List UInt8) (a5 : List UInt8) (a6 : List UInt8) (a7 : List GAct) (r : Int × Int × (List UInt8) × (List UInt8) × (List UInt8) × (List GAct)) (hS : f53 a1 a2 a3 a4 a5 a6 a7 = some r) : lev codes baseL d 53 [(pt 0), (.agg ((dI a1.Kind) :: ((dI a1.Code) :: ((dI a1.Mark) :: ((.d (.str a1.Inter)) :: ((dL a1.Args) :: ((.d (.str a1.Text)) :: [])))))))] [(.box ((dI a2) :: ((dI a3) :: ((.d (.str a4)) :: ((.d (.str a5)) :: ((.d (.str a6)) :: ((.r (.msl 1 0 0 a7.length)) :: []))))))), (.own 74 6 (e_GAct.cells a7))] = some ((.tup []), [(.box ((dI r.1) :: ((dI r.2.1) :: ((.d (.str r.2.2.1)) :: ((.d (.str r.2.2.2.1)) :: ((.d (.str r.2.2.2.2.1)) :: ((.r (.msl 1 0 0 r.2.2.2.2.2.length)) :: []))))))), (.own 74 6 (e_GAct.cells r.2.2.2.2.2))]) := by
 refine lev_go codes53 rfl rfl (Nat.le_trans (Nat.le_of_ble_eq_true rfl) hd) fun Q hQ => ?_
 unfold f53 at hS
 show ZR _ Q c53_b [] _
 replace hQ : FQ (f53_Q r) Q := hQ
 refine zrSeq (zrReg (zL 1 1 (zE (zkSeq ?_))))
 exact zrRegD (zdR 7 7 (bindE hS (fun z2 hz2 hS => zdO (v := (.r (.msl 1 1 0 z2.length))) (ups := [(1, ⟨1, some (.own 74 6 (e_GAct.cells z2))⟩)]) (some 11) 8 none (.app 74 6 80 (tm 8) (tm 10)) (ev_app e_GAct (b := 1) (g := 0) (n := a7.length) (xs := a7) (ys := [a1]) ((congrArg (asL _) (by kernel_rfl : ρof _ (.tmp 10) = (.r (.msl 88 1 0 (([a1] : List GAct).length))))).trans (as_whole e_GAct (e := 74) (k := 6) (xs := [a1]) (by kernel_rfl) rfl rfl)) rfl (by kernel_rfl) rfl (by kernel_rfl) rfl hz2) (zdR 3 11 (zdE (zkNil (endQ hS hQ (fN (f53_out a2 a3 a4 a5 a6 z2)))))))))
/- (*farwriter/parse.machine).esc -/
def f57_fin (p4 : Int) (p5 : List UInt8) (p6 : List UInt8) (p7 : List UInt8) (p8 : List GAct) : St := ⟨(up u0 1000001 .un), (up (up h0 1 ⟨1, some (.own 74 6 (e_GAct.cells p8))⟩) 0 ⟨0, some (.box ((dI 3) :: ((dI p4) :: ((.d (.str p5)) :: ((.d (.str p6)) :: ((.d (.str p7)) :: ((.r (.msl 1 1 0 p8.length)) :: [])))))))⟩)⟩
theorem f57_out (p4 : Int) (p5 : List UInt8) (p6 : List UInt8) (p7 : List UInt8) (p8 : List GAct) : outR (f57_fin p4 p5 p6 p7 p8) 2 c57.res = some ((.tup []), [(.box ((dI 3) :: ((dI p4) :: ((.d (.str p5)) :: ((.d (.str p6)) :: ((.d (.str p7)) :: ((.r (.msl 1 0 0 p8.length)) :: []))))))), (.own 74 6 (e_GAct.cells p8))]) := by
 kernel_rfl
def f57_Q (r : Int × (List UInt8) × (List UInt8) × (List UInt8) × (List GAct)) (e : PX) (st : St) : Prop := DoneF c57 2 ((.tup []), [(.box ((dI 3) :: ((dI r.1) :: ((.d (.str r.2.1)) :: ((.d (.str r.2.2.1)) :: ((.d (.str r.2.2.2.1)) :: ((.r (.msl 1 0 0 r.2.2.2.2.length)) :: []))))))), (.own 74 6 (e_GAct.cells r.2.2.2.2))]) e st
def f57 (a1 : Int) (a2 : Int) (a3 : Int) (a4 : List UInt8) (a5 : List UInt8) (a6 : List UInt8) (a7 : List GAct) : Option (Int × (List UInt8) × (List UInt8) × (List UInt8) × (List GAct)) := (bif (decide (a1 < 48)) then none else (bif (decide (a2 = 2)) then none else (bif (decide (a1 = 91)) then (some (a3, a4, a5, a6, a7)) else none)))
theorem f57_ok (d : Nat) (hd : 1 ≤ d) (a1 : Int) (a2 : Int) (a3 : Int) (a4 : List UInt8) (a5 : List UInt8) (a6 : List UInt8) (a7 : List GAct) (r : Int × (List UInt8) × (List UInt8) × (List UInt8) × (List GAct)) (hS : f57 a1 a2 a3 a4 a5 a6 a7 = some r) : lev codes baseL d 57 [(pt 0), (dI a1)] [(.box ((dI a2) :: ((dI a3) :: ((.d (.str a4)) :: ((.d (.str a5)) :: ((.d (.str a6)) :: ((.r (.msl 1 0 0 a7.length)) :: []))))))), (.own 74 6 (e_GAct.cells a7))] = some ((.tup []), [(.box ((dI 3) :: ((dI r.1) :: ((.d (.str r.2.1)) :: ((.d (.str r.2.2.1)) :: ((.d (.str r.2.2.2.1)) :: ((.r (.msl 1 0 0 r.2.2.2.2.length)) :: []))))))), (.own 74 6 (e_GAct.cells r.2.2.2.2))]) := by
 refine lev_go codes57 rfl rfl (Nat.le_trans (Nat.le_of_ble_eq_true rfl) hd) fun Q hQ => ?_
 unfold f57 at hS
 show ZR _ Q c57_b [] _
 replace hQ : FQ (f57_Q r) Q := hQ
 refine zrBlk (zrSeq (zrReg (zL 1 1 ?_)))
 refine sB 10 2 (.cmpI .lss (tm 9) (ki 48)) hS (fun hS => ?_) (fun hS => ?_)
 ·refine zL 1 3 (zE (zkSeq (zT (zrSeq (zrReg (zL 1 1 ?_))))))
  cases hS
 ·refine zL 1 3 (zE (zkSeq (zF (zrSeq (zrReg (zL 5 5 ?_))))))
  refine sB 24 6 (ck 23 2) hS (fun hS => ?_) (fun hS => ?_)
  ·refine zL 1 7 (zE (zkSeq (zT (zrReg (zL 1 1 ?_)))))
   cases hS
  ·refine zL 1 7 (zE (zkSeq (zF (zrSeq (zrReg (zL 1 1 ?_))))))
   refine sB 36 2 (ck 35 91) hS (fun hS => ?_) (fun hS => ?_)
   ·refine zL 1 3 (zE (zkSeq (zT (zrReg (zL 5 5 (zE ?_))))))
    exact zkBlk (zkNil (endQ hS hQ (fN (f57_out a3 a4 a5 a6 a7))))
   ·refine zL 1 3 (zE (zkSeq (zF (zrSeq (zrReg ?_)))))
    cases hS
/- (*farwriter/parse.machine).final -/
def f80_fin (p3 : Int) (p4 : List GAct) : St := ⟨(up u0 1000001 .un), (up (up h0 1 ⟨1, some (.own 74 6 (e_GAct.cells p4))⟩) 0 ⟨0, some (.box ((dI p3) :: ((dI 0) :: ((.d (.str ([]))) :: ((.d (.str ([]))) :: ((.d (.str ([]))) :: ((.r (.msl 1 1 0 p4.length)) :: [])))))))⟩)⟩
theorem f80_out (p3 : Int) (p4 : List GAct) : outR (f80_fin p3 p4) 2 c80.res = some ((.tup []), [(.box ((dI p3) :: ((dI 0) :: ((.d (.str ([]))) :: ((.d (.str ([]))) :: ((.d (.str ([]))) :: ((.r (.msl 1 0 0 p4.length)) :: []))))))), (.own 74 6 (e_GAct.cells p4))]) := by
 kernel_rfl
def f80_Q (r : Int × (List GAct)) (e : PX) (st : St) : Prop := DoneF c80 2 ((.tup []), [(.box ((dI r.1) :: ((dI 0) :: ((.d (.str ([]))) :: ((.d (.str ([]))) :: ((.d (.str ([]))) :: ((.r (.msl 1 0 0 r.2.length)) :: []))))))), (.own 74 6 (e_GAct.cells r.2))]) e st
def f80 (a1 : GAct) (a2 : Int) (a3 : Int) (a4 : List UInt8) (a5 : List UInt8) (a6 : List UInt8) (a7 : List GAct) : Option (Int × (List GAct)) := (bif (decide ((a4.length : Int) = 3)) then ((f53 (GAct.mk 6 0 0 ([]) ([]) ([])) a2 a3 a4 a5 a6 a7).bind fun z3 => ((f54 0 z3.1 z3.2.1 z3.2.2.1 z3.2.2.2.1 z3.2.2.2.2.1 z3.2.2.2.2.2).bind fun z4 => (some (z4.1, z4.2)))) else ((f53 a1 a2 a3 a4 a5 a6 a7).bind fun z5 => ((f54 0 z5.1 z5.2.1 z5.2.2.1 z5.2.2.2.1 z5.2.2.2.2.1 z5.2.2.2.2.2).bind fun z6 => (some (z6.1, z6.2)))))
theorem f80_ok (d : Nat) (hd : 2 ≤ d) (a1 : GAct) (a2 : Int) (a3 : Int) (a4 : List UInt8) (a5 : List UInt8) (a6 : List UInt8) (a7 : List GAct) (r : Int × (List GAct)) (hS : f80 a1 a2 a3 a4 a5 a6 a7 = some r) : lev codes baseL d 80 [(pt 0), (.agg ((dI a1.Kind) :: ((dI a1.Code) :: ((dI a1.Mark) :: ((.d (.str a1.Inter)) :: ((dL a1.Args) :: ((.d (.str a1.Text)) :: [])))))))] [(.box ((dI a2) :: ((dI a3) :: ((.d (.str a4)) :: ((.d (.str a5)) :: ((.d (.str a6)) :: ((.r (.msl 1 0 0 a7.length)) :: []))))))), (.own 74 6 (e_GAct.cells a7))] = some ((.tup []), [(.box ((dI r.1) :: ((dI 0) :: ((.d (.str ([]))) :: ((.d (.str ([]))) :: ((.d (.str ([]))) :: ((.r (.msl 1 0 0 r.2.length)) :: []))))))), (.own 74 6 (e_GAct.cells r.2))]) := by
 refine lev_go codes80 rfl rfl (Nat.le_trans (Nat.le_of_ble_eq_true rfl) hd) fun Q hQ => ?_
 unfold f80 at hS
 show ZR _ Q c80_b [] _
 replace hQ : FQ (f80_Q r) Q := hQ
 refine zrSeq (zrReg (zL 1 1 (zE (zkSeq (zrSeq (zrSeq (zrReg (zL 6 6 ?_))))))))
 refine sB 10 7 (ck 9 3) hS (fun hS => ?_) (fun hS => ?_)
 ·refine zE (zkSeq (zT (zrReg (zL 2 2 (zE (zkSeq (zrSeq (zrReg (zL 2 2 ?_)))))))))
  refine bindE hS (fun z3 hz3 hS => zO (some 14) 3 (.callr 53 [(tm 12), (tm 13)]) (ev_cR [0, 1] (f53_ok (d - 1) (dpt hd rfl) (GAct.mk 6 0 0 ([]) ([]) ([])) a2 a3 a4 a5 a6 a7 z3 hz3)) (zE (zkSeq (zrReg (zL 1 1 ?_)))))
  exact bindE hS (fun z4 hz4 hS => zO (some 16) 2 (.callr 54 [(tm 15), (ki 0)]) (ev_cR [0, 1] (f54_ok (d - 1) (dpt hd rfl) 0 z3.1 z3.2.1 z3.2.2.1 z3.2.2.2.1 z3.2.2.2.2.1 z3.2.2.2.2.2 z4 hz4)) (zE (zkNil (endQ hS hQ (fN (f80_out z4.1 z4.2))))))
 ·refine zE (zkSeq (zF ?_))
  refine zrSkip (zkSeq (zrSeq (zrReg (zL 2 2 ?_))))
  refine bindE hS (fun z5 hz5 hS => zO (some 14) 3 (.callr 53 [(tm 12), (tm 13)]) (ev_cR [0, 1] (f53_ok (d - 1) (dpt hd rfl) a1 a2 a3 a4 a5 a6 a7 z5 hz5)) (zE (zkSeq (zrReg (zL 1 1 ?_)))))
  exact bindE hS (fun z6 hz6 hS => zO (some 16) 2 (.callr 54 [(tm 15), (ki 0)]) (ev_cR [0, 1] (f54_ok (d - 1) (dpt hd rfl) 0 z5.1 z5.2.1 z5.2.2.1 z5.2.2.2.1 z5.2.2.2.2.1 z5.2.2.2.2.2 z6 hz6)) (zE (zkNil (endQ hS hQ (fN (f80_out z6.1 z6.2))))))
/- (*farwriter/parse.machine).csi -/
def f58_fin (p9 : Int) (p10 : Int) (p11 : List UInt8) (p12 : List UInt8) (p13 : List UInt8) (p14 : List GAct) : St := ⟨(up u0 1000001 .un), (up (up h0 1 ⟨1, some (.own 74 6 (e_GAct.cells p14))⟩) 0 ⟨0, some (.box ((dI p9) :: ((dI p10) :: ((.d (.str p11)) :: ((.d (.str p12)) :: ((.d (.str p13)) :: ((.r (.msl 1 1 0 p14.length)) :: [])))))))⟩)⟩
theorem f58_out (p9 : Int) (p10 : Int) (p11 : List UInt8) (p12 : List UInt8) (p13 : List UInt8) (p14 : List GAct) : outR (f58_fin p9 p10 p11 p12 p13 p14) 2 c58.res = some ((.tup []), [(.box ((dI p9) :: ((dI p10) :: ((.d (.str p11)) :: ((.d (.str p12)) :: ((.d (.str p13)) :: ((.r (.msl 1 0 0 p14.length)) :: []))))))), (.own 74 6 (e_GAct.cells p14))]) := by
 kernel_rfl
def f58_Q (r : Int × Int × (List UInt8) × (List UInt8) × (List UInt8) × (List GAct)) (e : PX) (st : St) : Prop := DoneF c58 2 ((.tup []), [(.box ((dI r.1) :: ((dI r.2.1) :: ((.d (.str r.2.2.1)) :: ((.d (.str r.2.2.2.1)) :: ((.d (.str r.2.2.2.2.1)) :: ((.r (.msl 1 0 0 r.2.2.2.2.2.length)) :: []))))))), (.own 74 6 (e_GAct.cells r.2.2.2.2.2))]) e st
def f58_j0_J (a1 : Int) (a2 : Int) (a3 : Int) (a4 : List UInt8) (a5 : List UInt8) (a6 : List UInt8) (a7 : List GAct) (p15 : List Int) : St := ⟨(up (up (up (up u0 1000001 .un) 4 (dL p15)) 1 (dI a1)) 0 (pt 0)), (up (up h0 1 ⟨1, some (.own 74 6 (e_GAct.cells a7))⟩) 0 ⟨0, some (.box ((dI a2) :: ((dI a3) :: ((.d (.str a4)) :: ((.d (.str a5)) :: ((.d (.str a6)) :: ((.r (.msl 1 1 0 a7.length)) :: [])))))))⟩)⟩
def f58_j0 (a1 : Int) (a2 : Int) (a3 : Int) (a4 : List UInt8) (a5 : List UInt8) (a6 : List UInt8) (a7 : List GAct) (p15 : List Int) : Option (Int × Int × (List UInt8) × (List UInt8) × (List UInt8) × (List GAct)) := ((f80 (GAct.mk 4 a1 a3 a4 p15 ([])) a2 a3 a4 a5 a6 a7).bind fun z5 => (some (z5.1, 0, [], [], [], z5.2)))
theorem f58_j0_ok {d : Nat} (hd : 3 ≤ d) (a1 : Int) (a2 : Int) (a3 : Int) (a4 : List UInt8) (a5 : List UInt8) (a6 : List UInt8) (a7 : List GAct) {r : Int × Int × (List UInt8) × (List UInt8) × (List UInt8) × (List GAct)} {Q : PQ} (hQ : FQ (f58_Q r) Q) (p15 : List Int) (hS : f58_j0 a1 a2 a3 a4 a5 a6 a7 p15 = some r) {st : St} (he : keepSt [0, 1, 4, 1000001] [(0, .id 0), (1, .id 1)] [] st = f58_j0_J a1 a2 a3 a4 a5 a6 a7 p15) : ZR (lev codes baseL (d - 1)) Q c58_1 [.blk 0] st := by
 refine zrKeep he ?_
 unfold f58_j0 at hS
 exact zrRegD (zdR 14 14 (bindE hS (fun z5 hz5 hS => zdO (some 55) 15 none (.callr 80 [(tm 41), (tm 54)]) (ev_cR [0, 1] (f80_ok (d - 1) (dpt hd rfl) (GAct.mk 4 a1 a3 a4 p15 ([])) a2 a3 a4 a5 a6 a7 z5 hz5)) (zdE (zkBlk (zkNil (endQ hS hQ (fN (f58_out z5.1 0 [] [] [] z5.2)))))))))
def f58 (a1 : Int) (a2 : Int) (a3 : Int) (a4 : List UInt8) (a5 : List UInt8) (a6 : List UInt8) (a7 : List GAct) : Option (Int × Int × (List UInt8) × (List UInt8) × (List UInt8) × (List GAct)) := (bif (decide (a2 = 6)) then none else (bif (decide (a1 < 48)) then none else (bif (decide (64 ≤ a1)) then ((f51 a5).bind fun z4 => (f58_j0 a1 a2 a3 a4 a5 a6 a7 z4.1)) else (bif (decide (a2 = 5)) then none else (bif (decide (a1 = 58)) then none else (bif (decide (a1 < 60)) then (bif (decide ((a5.length : Int) < 100)) then ((cat? a5 ((Utf8.encode (IntKind.i32.wrap (a1))).data.toList)).bind fun z6 => (some (4, a3, a4, z6, a6, a7))) else (some (4, a3, a4, a5, a6, a7))) else none))))))
theorem f58_ok (d : Nat) (hd : 3 ≤ d) (a1 : Int) (a2 : Int) (a3 : Int) (a4 : List UInt8) (a5 : List UInt8) (a6 : List UInt8) (a7 : List GAct) (r : Int × Int × (List UInt8) × (List UInt8) × (List UInt8) × (List GAct)) (hS : f58 a1 a2 a3 a4 a5 a6 a7 = some r) : lev codes baseL d 58 [(pt 0), (dI a1)] [(.box ((dI a2) :: ((dI a3) :: ((.d (.str a4)) :: ((.d (.str a5)) :: ((.d (.str a6)) :: ((.r (.msl 1 0 0 a7.length)) :: []))))))), (.own 74 6 (e_GAct.cells a7))] = some ((.tup []), [(.box ((dI r.1) :: ((dI r.2.1) :: ((.d (.str r.2.2.1)) :: ((.d (.str r.2.2.2.1)) :: ((.d (.str r.2.2.2.2.1)) :: ((.r (.msl 1 0 0 r.2.2.2.2.2.length)) :: []))))))), (.own 74 6 (e_GAct.cells r.2.2.2.2.2))]) := by
 refine lev_go codes58 rfl rfl (Nat.le_trans (Nat.le_of_ble_eq_true rfl) hd) fun Q hQ => ?_
 unfold f58 at hS
 show ZR _ Q c58_b [] _
 replace hQ : FQ (f58_Q r) Q := hQ
 refine zrBlk (zrSeq (zrReg (zL 5 5 ?_)))
 refine sB 14 6 (ck 13 6) hS (fun hS => ?_) (fun hS => ?_)
 ·refine zL 1 7 (zE (zkSeq (zT (zrSeq (zrReg ?_)))))
  cases hS
 ·refine zL 1 7 (zE (zkSeq (zF (zrSeq (zrReg (zL 1 1 ?_))))))
  refine sB 21 2 (.cmpI .lss (tm 20) (ki 48)) hS (fun hS => ?_) (fun hS => ?_)
  ·refine zL 1 3 (zE (zkSeq (zT (zrSeq (zrReg ?_)))))
   cases hS
  ·refine zL 1 3 (zE (zkSeq (zF (zrSeq (zrReg (zL 1 1 ?_))))))
   refine sB 31 2 (.cmpI .geq (tm 30) (ki 64)) hS (fun hS => ?_) (fun hS => ?_)
   ·refine zL 1 3 (zE (zkSeq (zT (zrSeq (zrReg (zL 5 5 ?_))))))
    refine bindE hS (fun z4 hz4 hS => zO (some 38) 6 (c1 51 37) (ev_cA (f51_ok (d - 1) (dpt hd rfl) a5 z4 hz4)) (zL 5 11 (zE (zkSeq ?_))))
    exact f58_j0_ok hd a1 a2 a3 a4 a5 a6 a7 hQ z4.1 hS (by exact (by kernel_rfl : _ = (⟨(up (up (up (up u0 1000001 .un) 4 (.d (.sl z4.1.length (((eI.cells z4.1).drop (0 * eI.k)).take (z4.1.length * eI.k))))) 1 (dI a1)) 0 (pt 0)), (up (up h0 1 ⟨1, some (.own 74 6 (e_GAct.cells a7))⟩) 0 ⟨0, some (.box ((dI a2) :: ((dI a3) :: ((.d (.str a4)) :: ((.d (.str a5)) :: ((.d (.str a6)) :: ((.r (.msl 1 1 0 a7.length)) :: [])))))))⟩)⟩ : St)).trans (by simp only [Enc.frz]; kernel_rfl))
   ·refine zL 1 3 (zE (zkSeq (zF (zrSeq (zrReg (zL 5 5 ?_))))))
    refine sB 62 6 (ck 61 5) hS (fun hS => ?_) (fun hS => ?_)
    ·refine zL 5 11 (zE (zkSeq (zT (zrReg ?_))))
     cases hS
    ·refine zL 2 8 (sH 65 9 63 false (ck 64 58) hS (fun hS => ?_) (fun hS => ?_))
     ·refine zL 2 11 (zE (zkSeq (zT (zrReg ?_))))
      cases hS
     ·refine zL 2 11 (zE (zkSeq (zF (zrSeq (zrReg (zL 1 1 ?_))))))
      refine sB 71 2 (.cmpI .lss (tm 70) (ki 60)) hS (fun hS => ?_) (fun hS => ?_)
      ·refine zL 1 3 (zE (zkSeq (zT (zrSeq (zrSeq (zrReg (zL 6 6 ?_)))))))
       refine sB 78 7 (.cmpI .lss (tm 77) (ki 100)) hS (fun hS => ?_) (fun hS => ?_)
       ·refine zE (zkSeq (zT (zrReg (zL 8 8 ?_))))
        refine bindE hS (fun z6 hz6 hS => zO (v := (.d (.str z6))) (ups := []) (some 87) 9 (.strO .add (tm 83) (tm 86)) (ev_cat (a := a5) (c := (Utf8.encode (IntKind.i32.wrap (a1))).data.toList) (by kernel_rfl) (by kernel_rfl) hz6) (zL 4 13 (zE (zkSeq (zrReg (zL 5 5 (zE ?_)))))))
        exact zkBlk (zkNil (endQ hS hQ (fN (f58_out 4 a3 a4 z6 a6 a7))))
       ·refine zE (zkSeq (zF ?_))
        refine zrSkip (zkSeq (zrReg (zL 5 5 (zE ?_))))
        exact zkBlk (zkNil (endQ hS hQ (fN (f58_out 4 a3 a4 a5 a6 a7))))
      ·refine zL 1 3 (zE (zkSeq (zF (zrSeq (zrReg (zL 4 4 ?_))))))
       cases hS
/- (*farwriter/parse.machine).take -/
def f32_fin (p27 : Int) (p28 : Int) (p29 : List UInt8) (p30 : List UInt8) (p31 : List UInt8) (p32 : List GAct) : St := ⟨(up u0 1000001 .un), (up (up h0 1 ⟨1, some (.own 74 6 (e_GAct.cells p32))⟩) 0 ⟨0, some (.box ((dI p27) :: ((dI p28) :: ((.d (.str p29)) :: ((.d (.str p30)) :: ((.d (.str p31)) :: ((.r (.msl 1 1 0 p32.length)) :: [])))))))⟩)⟩
theorem f32_out (p27 : Int) (p28 : Int) (p29 : List UInt8) (p30 : List UInt8) (p31 : List UInt8) (p32 : List GAct) : outR (f32_fin p27 p28 p29 p30 p31 p32) 2 c32.res = some ((.tup []), [(.box ((dI p27) :: ((dI p28) :: ((.d (.str p29)) :: ((.d (.str p30)) :: ((.d (.str p31)) :: ((.r (.msl 1 0 0 p32.length)) :: []))))))), (.own 74 6 (e_GAct.cells p32))]) := by
 kernel_rfl
def f32_Q (r : Int × Int × (List UInt8) × (List UInt8) × (List UInt8) × (List GAct)) (e : PX) (st : St) : Prop := DoneF c32 2 ((.tup []), [(.box ((dI r.1) :: ((dI r.2.1) :: ((.d (.str r.2.2.1)) :: ((.d (.str r.2.2.2.1)) :: ((.d (.str r.2.2.2.2.1)) :: ((.r (.msl 1 0 0 r.2.2.2.2.2.length)) :: []))))))), (.own 74 6 (e_GAct.cells r.2.2.2.2.2))]) e st
def f32_j1_J (a1 : Int) (a2 : Int) (a3 : Int) (a4 : List UInt8) (a5 : List UInt8) (a6 : List UInt8) (a7 : List GAct) : St := ⟨(up (up (up u0 1000001 .un) 1 (dI a1)) 0 (pt 0)), (up (up h0 1 ⟨1, some (.own 74 6 (e_GAct.cells a7))⟩) 0 ⟨0, some (.box ((dI a2) :: ((dI a3) :: ((.d (.str a4)) :: ((.d (.str a5)) :: ((.d (.str a6)) :: ((.r (.msl 1 1 0 a7.length)) :: [])))))))⟩)⟩
def f32_j1 (a1 : Int) (a2 : Int) (a3 : Int) (a4 : List UInt8) (a5 : List UInt8) (a6 : List UInt8) (a7 : List GAct) : Option (Int × Int × (List UInt8) × (List UInt8) × (List UInt8) × (List GAct)) := ((f56 a1 a2 a3 a4 a5 a6 a7).bind fun z5 => (bif z5.2.2.2.2.2.2 then (some (z5.1, z5.2.1, z5.2.2.1, z5.2.2.2.1, z5.2.2.2.2.1, z5.2.2.2.2.2.1)) else (bif (decide (z5.1 = 0)) then ((f53 (GAct.mk 1 a1 0 ([]) ([]) ([])) z5.1 z5.2.1 z5.2.2.1 z5.2.2.2.1 z5.2.2.2.2.1 z5.2.2.2.2.2.1).bind fun z6 => (some (z6.1, z6.2.1, z6.2.2.1, z6.2.2.2.1, z6.2.2.2.2.1, z6.2.2.2.2.2))) else (bif (decide (160 ≤ a1)) then none else (bif (decide (z5.1 ≤ 2)) then ((f57 a1 z5.1 z5.2.1 z5.2.2.1 z5.2.2.2.1 z5.2.2.2.2.1 z5.2.2.2.2.2.1).bind fun z7 => (some (3, z7.1, z7.2.1, z7.2.2.1, z7.2.2.2.1, z7.2.2.2.2))) else ((f58 a1 z5.1 z5.2.1 z5.2.2.1 z5.2.2.2.1 z5.2.2.2.2.1 z5.2.2.2.2.2.1).bind fun z8 => (some (z8.1, z8.2.1, z8.2.2.1, z8.2.2.2.1, z8.2.2.2.2.1, z8.2.2.2.2.2))))))))
theorem f32_j1_ok {d : Nat} (hd : 4 ≤ d) (a1 : Int) (a2 : Int) (a3 : Int) (a4 : List UInt8) (a5 : List UInt8) (a6 : List UInt8) (a7 : List GAct) {r : Int × Int × (List UInt8) × (List UInt8) × (List UInt8) × (List GAct)} {Q : PQ} (hQ : FQ (f32_Q r) Q)  (hS : f32_j1 a1 a2 a3 a4 a5 a6 a7 = some r) {st : St} (he : keepSt [0, 1, 1000001] [(0, .id 0), (1, .id 1)] [] st = f32_j1_J a1 a2 a3 a4 a5 a6 a7) : ZR (lev codes baseL (d - 1)) Q c32_1 [] st := by
 refine zrKeep he ?_
 unfold f32_j1 at hS
 refine zrBlk (zrSeq (zrReg (zL 2 2 ?_)))
 refine bindE hS (fun z5 hz5 hS => zO (some 53) 3 (.callr 56 [(tm 51), (tm 52)]) (ev_cR [0, 1] (f56_ok (d - 1) (dpt hd rfl) a1 a2 a3 a4 a5 a6 a7 z5 hz5)) (zL 1 4 (zE (zkSeq ?_))))
 refine sR 50 hS (fun hS => ?_) (fun hS => ?_)
 ·exact zT (zrSkip (zkBlk (zkNil (endQ hS hQ (fN (f32_out z5.1 z5.2.1 z5.2.2.1 z5.2.2.2.1 z5.2.2.2.2.1 z5.2.2.2.2.2.1))))))
 ·refine zF (zrSeq (zrReg (zL 5 5 ?_)))
  refine sB 60 6 (ck 59 0) hS (fun hS => ?_) (fun hS => ?_)
  ·refine zL 1 7 (zE (zkSeq (zT (zrReg (zL 3 3 ?_)))))
   exact bindE hS (fun z6 hz6 hS => zO (some 64) 4 (.callr 53 [(tm 61), (tm 63)]) (ev_cR [0, 1] (f53_ok (d - 1) (dpt hd rfl) (GAct.mk 1 a1 0 ([]) ([]) ([])) z5.1 z5.2.1 z5.2.2.1 z5.2.2.2.1 z5.2.2.2.2.1 z5.2.2.2.2.2.1 z6 hz6)) (zE (zkBlk (zkNil (endQ hS hQ (fN (f32_out z6.1 z6.2.1 z6.2.2.1 z6.2.2.2.1 z6.2.2.2.2.1 z6.2.2.2.2.2)))))))
  ·refine zL 1 7 (zE (zkSeq (zF (zrSeq (zrReg (zL 1 1 ?_))))))
   refine sB 67 2 (.cmpI .geq (tm 66) (ki 160)) hS (fun hS => ?_) (fun hS => ?_)
   ·refine zL 1 3 (zE (zkSeq (zT (zrReg (zL 1 1 ?_)))))
    cases hS
   ·refine zL 1 3 (zE (zkSeq (zF (zrSeq (zrReg (zL 5 5 ?_))))))
    refine sB 76 6 (.cmpI .leq (tm 75) (ki 2)) hS (fun hS => ?_) (fun hS => ?_)
    ·refine zL 1 7 (zE (zkSeq (zT (zrReg (zL 2 2 ?_)))))
     exact bindE hS (fun z7 hz7 hS => zO (some 79) 3 (.callr 57 [(tm 77), (tm 78)]) (ev_cR [0, 1] (f57_ok (d - 1) (dpt hd rfl) a1 z5.1 z5.2.1 z5.2.2.1 z5.2.2.2.1 z5.2.2.2.2.1 z5.2.2.2.2.2.1 z7 hz7)) (zE (zkBlk (zkNil (endQ hS hQ (fN (f32_out 3 z7.1 z7.2.1 z7.2.2.1 z7.2.2.2.1 z7.2.2.2.2)))))))
    ·refine zL 1 7 (zE (zkSeq (zF (zrReg (zL 2 2 ?_)))))
     exact bindE hS (fun z8 hz8 hS => zO (some 49) 3 (.callr 58 [(tm 47), (tm 48)]) (ev_cR [0, 1] (f58_ok (d - 1) (dpt hd rfl) a1 z5.1 z5.2.1 z5.2.2.1 z5.2.2.2.1 z5.2.2.2.2.1 z5.2.2.2.2.2.1 z8 hz8)) (zE (zkBlk (zkNil (endQ hS hQ (fN (f32_out z8.1 z8.2.1 z8.2.2.1 z8.2.2.2.1 z8.2.2.2.2.1 z8.2.2.2.2.2)))))))
def f32_j3_J (a1 : Int) (a2 : Int) (a3 : Int) (a4 : List UInt8) (a5 : List UInt8) (a6 : List UInt8) (a7 : List GAct) (p43 : Bool) : St := ⟨(up (up (up (up u0 1000001 .un) 22 (dB p43)) 1 (dI a1)) 0 (pt 0)), (up (up h0 1 ⟨1, some (.own 74 6 (e_GAct.cells a7))⟩) 0 ⟨0, some (.box ((dI a2) :: ((dI a3) :: ((.d (.str a4)) :: ((.d (.str a5)) :: ((.d (.str a6)) :: ((.r (.msl 1 1 0 a7.length)) :: [])))))))⟩)⟩
def f32_j3 (a1 : Int) (a2 : Int) (a3 : Int) (a4 : List UInt8) (a5 : List UInt8) (a6 : List UInt8) (a7 : List GAct) (p43 : Bool) : Option (Int × Int × (List UInt8) × (List UInt8) × (List UInt8) × (List GAct)) := (bif p43 then none else (f32_j1 a1 a2 a3 a4 a5 a6 a7 ))
theorem f32_j3_ok {d : Nat} (hd : 4 ≤ d) (a1 : Int) (a2 : Int) (a3 : Int) (a4 : List UInt8) (a5 : List UInt8) (a6 : List UInt8) (a7 : List GAct) {r : Int × Int × (List UInt8) × (List UInt8) × (List UInt8) × (List GAct)} {Q : PQ} (hQ : FQ (f32_Q r) Q) (p43 : Bool) (hS : f32_j3 a1 a2 a3 a4 a5 a6 a7 p43 = some r) {st : St} (he : keepSt [0, 1, 22, 1000001] [(0, .id 0), (1, .id 1)] [] st = f32_j3_J a1 a2 a3 a4 a5 a6 a7 p43) : ZR (lev codes baseL (d - 1)) Q c32_2 [.blk 0, .seq c32_1] st := by
 refine zrKeep he ?_
 unfold f32_j3 at hS
 refine sR 22 hS (fun hS => ?_) (fun hS => ?_)
 ·refine zT (zrSeq (zrSeq (zrReg ?_)))
  cases hS
 ·exact zF (zrSkip (zkBlk (zkSeq (f32_j1_ok hd a1 a2 a3 a4 a5 a6 a7 hQ  hS (by kernel_rfl)))))
def f32_j2_J (a1 : Int) (a2 : Int) (a3 : Int) (a4 : List UInt8) (a5 : List UInt8) (a6 : List UInt8) (a7 : List GAct) (p40 : Bool) : St := ⟨(up (up (up (up (up u0 1000001 .un) 16 (dB p40)) 15 (dI a2)) 1 (dI a1)) 0 (pt 0)), (up (up h0 1 ⟨1, some (.own 74 6 (e_GAct.cells a7))⟩) 0 ⟨0, some (.box ((dI a2) :: ((dI a3) :: ((.d (.str a4)) :: ((.d (.str a5)) :: ((.d (.str a6)) :: ((.r (.msl 1 1 0 a7.length)) :: [])))))))⟩)⟩
def f32_j2 (a1 : Int) (a2 : Int) (a3 : Int) (a4 : List UInt8) (a5 : List UInt8) (a6 : List UInt8) (a7 : List GAct) (p40 : Bool) : Option (Int × Int × (List UInt8) × (List UInt8) × (List UInt8) × (List GAct)) := (bif p40 then none else (bif (decide (a2 = 8)) then (f32_j3 a1 a2 a3 a4 a5 a6 a7 true) else (bif (decide (a2 = 10)) then (f32_j3 a1 a2 a3 a4 a5 a6 a7 true) else (f32_j3 a1 a2 a3 a4 a5 a6 a7 false))))
theorem f32_j2_ok {d : Nat} (hd : 4 ≤ d) (a1 : Int) (a2 : Int) (a3 : Int) (a4 : List UInt8) (a5 : List UInt8) (a6 : List UInt8) (a7 : List GAct) {r : Int × Int × (List UInt8) × (List UInt8) × (List UInt8) × (List GAct)} {Q : PQ} (hQ : FQ (f32_Q r) Q) (p40 : Bool) (hS : f32_j2 a1 a2 a3 a4 a5 a6 a7 p40 = some r) {st : St} (he : keepSt [0, 1, 15, 16, 1000001] [(0, .id 0), (1, .id 1)] [] st = f32_j2_J a1 a2 a3 a4 a5 a6 a7 p40) : ZR (lev codes baseL (d - 1)) Q c32_3 [.blk 0, .seq c32_1] st := by
 refine zrKeep he ?_
 unfold f32_j2 at hS
 refine sR 16 hS (fun hS => ?_) (fun hS => ?_)
 ·refine zT (zrSeq (zrReg (zL 2 2 ?_)))
  cases hS
 ·refine zF (zrSeq (zrSeq (zrReg ?_)))
  refine sB 23 1 (ck 15 8) hS (fun hS => ?_) (fun hS => ?_)
  ·refine zL 1 2 (zE (zkSeq (zT ?_)))
   exact zrSkip (zkSeq (f32_j3_ok hd a1 a2 a3 a4 a5 a6 a7 hQ true hS (by kernel_rfl)))
  ·refine zL 1 2 (zE (zkSeq (zF (zrReg ?_))))
   refine sB 24 1 (ck 15 10) hS (fun hS => ?_) (fun hS => ?_)
   ·refine zL 1 2 (zE (zkSeq ?_))
    exact f32_j3_ok hd a1 a2 a3 a4 a5 a6 a7 hQ true hS (by kernel_rfl)
   ·refine zL 1 2 (zE (zkSeq ?_))
    exact f32_j3_ok hd a1 a2 a3 a4 a5 a6 a7 hQ false hS (by kernel_rfl)
def f32_j0_J (a1 : Int) (a2 : Int) (a3 : Int) (a4 : List UInt8) (a5 : List UInt8) (a6 : List UInt8) (a7 : List GAct) : St := ⟨(up (up (up u0 1000001 .un) 1 (dI a1)) 0 (pt 0)), (up (up h0 1 ⟨1, some (.own 74 6 (e_GAct.cells a7))⟩) 0 ⟨0, some (.box ((dI a2) :: ((dI a3) :: ((.d (.str a4)) :: ((.d (.str a5)) :: ((.d (.str a6)) :: ((.r (.msl 1 1 0 a7.length)) :: [])))))))⟩)⟩
def f32_j0 (a1 : Int) (a2 : Int) (a3 : Int) (a4 : List UInt8) (a5 : List UInt8) (a6 : List UInt8) (a7 : List GAct) : Option (Int × Int × (List UInt8) × (List UInt8) × (List UInt8) × (List GAct)) := (bif (decide (a2 = 7)) then (f32_j2 a1 a2 a3 a4 a5 a6 a7 true) else (bif (decide (a2 = 9)) then (f32_j2 a1 a2 a3 a4 a5 a6 a7 true) else (f32_j2 a1 a2 a3 a4 a5 a6 a7 false)))
theorem f32_j0_ok {d : Nat} (hd : 4 ≤ d) (a1 : Int) (a2 : Int) (a3 : Int) (a4 : List UInt8) (a5 : List UInt8) (a6 : List UInt8) (a7 : List GAct) {r : Int × Int × (List UInt8) × (List UInt8) × (List UInt8) × (List GAct)} {Q : PQ} (hQ : FQ (f32_Q r) Q)  (hS : f32_j0 a1 a2 a3 a4 a5 a6 a7 = some r) {st : St} (he : keepSt [0, 1, 1000001] [(0, .id 0), (1, .id 1)] [] st = f32_j0_J a1 a2 a3 a4 a5 a6 a7) : ZR (lev codes baseL (d - 1)) Q c32_4 [] st := by
 refine zrKeep he ?_
 unfold f32_j0 at hS
 refine zrSeq (zrSeq (zrReg (zL 5 5 (zE (zkSeq ?_)))))
 refine zrBlk (zrSeq (zrSeq (zrReg ?_)))
 refine sB 17 1 (ck 15 7) hS (fun hS => ?_) (fun hS => ?_)
 ·refine zL 1 2 (zE (zkSeq (zT ?_)))
  exact zrSkip (zkSeq (f32_j2_ok hd a1 a2 a3 a4 a5 a6 a7 hQ true hS (by kernel_rfl)))
 ·refine zL 1 2 (zE (zkSeq (zF (zrReg ?_))))
  refine sB 18 1 (ck 15 9) hS (fun hS => ?_) (fun hS => ?_)
  ·refine zL 1 2 (zE (zkSeq ?_))
   exact f32_j2_ok hd a1 a2 a3 a4 a5 a6 a7 hQ true hS (by kernel_rfl)
  ·refine zL 1 2 (zE (zkSeq ?_))
   exact f32_j2_ok hd a1 a2 a3 a4 a5 a6 a7 hQ false hS (by kernel_rfl)
def f32 (a1 : Int) (a2 : Int) (a3 : Int) (a4 : List UInt8) (a5 : List UInt8) (a6 : List UInt8) (a7 : List GAct) : Option (Int × Int × (List UInt8) × (List UInt8) × (List UInt8) × (List GAct)) := (bif (decide (a1 < 0)) then (some (a2, a3, a4, a5, a6, a7)) else (bif (decide (1114111 < a1)) then (some (a2, a3, a4, a5, a6, a7)) else (f32_j0 a1 a2 a3 a4 a5 a6 a7 )))
theorem f32_ok (d : Nat) (hd : 4 ≤ d) (a1 : Int) (a2 : Int) (a3 : Int) (a4 : List UInt8) (a5 : List UInt8) (a6 : List UInt8) (a7 : List GAct) (r : Int × Int × (List UInt8) × (List UInt8) × (List UInt8) × (List GAct)) (hS : f32 a1 a2 a3 a4 a5 a6 a7 = some r) : lev codes baseL d 32 [(pt 0), (dI a1)] [(.box ((dI a2) :: ((dI a3) :: ((.d (.str a4)) :: ((.d (.str a5)) :: ((.d (.str a6)) :: ((.r (.msl 1 0 0 a7.length)) :: []))))))), (.own 74 6 (e_GAct.cells a7))] = some ((.tup []), [(.box ((dI r.1) :: ((dI r.2.1) :: ((.d (.str r.2.2.1)) :: ((.d (.str r.2.2.2.1)) :: ((.d (.str r.2.2.2.2.1)) :: ((.r (.msl 1 0 0 r.2.2.2.2.2.length)) :: []))))))), (.own 74 6 (e_GAct.cells r.2.2.2.2.2))]) := by
 refine lev_go codes32 rfl rfl (Nat.le_trans (Nat.le_of_ble_eq_true rfl) hd) fun Q hQ => ?_
 unfold f32 at hS
 show ZR _ Q c32_b [] _
 replace hQ : FQ (f32_Q r) Q := hQ
 refine zrSeq (zrSeq (zrReg (zL 1 1 ?_)))
 refine sB 6 2 (.cmpI .lss (tm 5) (ki 0)) hS (fun hS => ?_) (fun hS => ?_)
 ·refine zL 4 6 (zE (zkSeq (zT ?_)))
  exact zrRet (zkSeqR (zkNil (endQ hS hQ (fR (f32_out a2 a3 a4 a5 a6 a7)))))
 ·refine zL 2 4 (sH 9 5 7 false (.cmpI .gtr (tm 8) (ki 1114111)) hS (fun hS => ?_) (fun hS => ?_))
  ·refine zL 1 6 (zE (zkSeq (zT ?_)))
   exact zrRet (zkSeqR (zkNil (endQ hS hQ (fR (f32_out a2 a3 a4 a5 a6 a7)))))
  ·refine zL 1 6 (zE (zkSeq (zF ?_)))
   exact zrSkip (zkSeq (f32_j0_ok hd a1 a2 a3 a4 a5 a6 a7 hQ  hS (by kernel_rfl)))
/- farwriter/parse.Feed -/
def f16_fin (p42 : GParser) (p43 : List GAct) (p44 : Int) : St := ⟨(up (up (up u0 6 (dI p44)) 5 (.r (.msl 338 0 0 p43.length))) 4 (pt 40)), (up (up h0 338 ⟨0, some (.own 74 6 (e_GAct.cells p43))⟩) 40 ⟨0, some (.box ((dI p42.State) :: ((dI p42.Mark) :: ((.d (.str p42.Inter)) :: ((.d (.str p42.Args)) :: ((.d (.str p42.Text)) :: []))))))⟩)⟩
theorem f16_out (p42 : GParser) (p43 : List GAct) (p44 : Int) : outR (f16_fin p42 p43 p44) 0 c16.res = some ((.tup [(.agg ((dI p42.State) :: ((dI p42.Mark) :: ((.d (.str p42.Inter)) :: ((.d (.str p42.Args)) :: ((.d (.str p42.Text)) :: [])))))), (.r (.own 0 74 6 p43.length (e_GAct.cells p43))), (dI p44)]), []) := by
 exact out_of (ids := []) (ids' := [338]) (l := [(.agg ((dI p42.State) :: ((dI p42.Mark) :: ((.d (.str p42.Inter)) :: ((.d (.str p42.Args)) :: ((.d (.str p42.Text)) :: [])))))), (.r (.msl 338 0 0 p43.length)), (dI p44)]) (by kernel_rfl) (by kernel_rfl) (o_tup (o_cons rfl (o_cons (o_own e_GAct (e := 74) (k := 6) (xs := p43) (by kernel_rfl) rfl rfl rfl rfl) (o_cons rfl o_nil))))
def f16_Q (r : GParser × (List GAct) × Int) (e : PX) (st : St) : Prop := DoneF c16 0 ((.tup [(.agg ((dI r.1.State) :: ((dI r.1.Mark) :: ((.d (.str r.1.Inter)) :: ((.d (.str r.1.Args)) :: ((.d (.str r.1.Text)) :: [])))))), (.r (.own 0 74 6 r.2.1.length (e_GAct.cells r.2.1))), (dI r.2.2)]), []) e st
def f16_j1_J (a1 : GParser) (a2 : List Int) (p47 : Int) (p48 : Int) (p49 : List UInt8) (p50 : List UInt8) (p51 : List UInt8) (p52 : List GAct) : St := ⟨(up (up u0 8 (pt 160)) 4 (pt 40)), (up (up (up h0 337 ⟨0, some (.own 74 6 (e_GAct.cells p52))⟩) 160 ⟨0, some (.box ((dI p47) :: ((dI p48) :: ((.d (.str p49)) :: ((.d (.str p50)) :: ((.d (.str p51)) :: ((.r (.msl 337 0 0 p52.length)) :: [])))))))⟩) 40 ⟨0, some (.box ((dI 0) :: ((dI 0) :: ((.d (.str ([]))) :: ((.d (.str ([]))) :: ((.d (.str ([]))) :: []))))))⟩)⟩
def f16_j1 (a1 : GParser) (a2 : List Int) (p47 : Int) (p48 : Int) (p49 : List UInt8) (p50 : List UInt8) (p51 : List UInt8) (p52 : List GAct) : Option (GParser × (List GAct) × Int) := (some ((GParser.mk p47 p48 p49 p50 p51), p52, 0))
theorem f16_j1_ok {d : Nat} (hd : 5 ≤ d) (a1 : GParser) (a2 : List Int) {r : GParser × (List GAct) × Int} {Q : PQ} (hQ : FQ (f16_Q r) Q) (p47 : Int) (p48 : Int) (p49 : List UInt8) (p50 : List UInt8) (p51 : List UInt8) (p52 : List GAct) (hS : f16_j1 a1 a2 p47 p48 p49 p50 p51 p52 = some r) {st : St} (he : keepSt [4, 8] [(40, .id 40), (160, .id 160), (337, .id 337)] [] st = f16_j1_J a1 a2 p47 p48 p49 p50 p51 p52) : ZR (lev codes baseL (d - 1)) Q c16_1 [] st := by
 refine zrKeep he ?_
 unfold f16_j1 at hS
 exact zrSeq (zrRegD (zdR 11 11 (zdE (zkSeq (zrRet (zkNil (endQ hS hQ (fR (f16_out (GParser.mk p47 p48 p49 p50 p51) p52 0)))))))))
def f16_l2_J (a1 : GParser) (a2 : List Int) (x : Int × Int × (List UInt8) × (List UInt8) × (List UInt8) × (List GAct) × Int) : St := ⟨(up (up (up (up (up u0 22 (dI x.2.2.2.2.2.2)) 21 (dI (a2.length : Int))) 20 (dL a2)) 8 (pt 160)) 4 (pt 40)), (up (up (up h0 337 ⟨0, some (.own 74 6 (e_GAct.cells x.2.2.2.2.2.1))⟩) 160 ⟨0, some (.box ((dI x.1) :: ((dI x.2.1) :: ((.d (.str x.2.2.1)) :: ((.d (.str x.2.2.2.1)) :: ((.d (.str x.2.2.2.2.1)) :: ((.r (.msl 337 0 0 x.2.2.2.2.2.1.length)) :: [])))))))⟩) 40 ⟨0, some (.box ((dI 0) :: ((dI 0) :: ((.d (.str ([]))) :: ((.d (.str ([]))) :: ((.d (.str ([]))) :: []))))))⟩)⟩
def f16_l2_H (a1 : GParser) (a2 : List Int) (x : Int × Int × (List UInt8) × (List UInt8) × (List UInt8) × (List GAct) × Int) (st : St) : Prop := keepSt [4, 8, 20, 21, 22] [(40, .id 40), (160, .id 160), (337, (.cell 160 5))] [.cell 160 5 337 74 6] st = f16_l2_J a1 a2 x
def f16_l2_e0_J (a1 : GParser) (a2 : List Int) (p36 : Int) (p37 : Int) (p38 : List UInt8) (p39 : List UInt8) (p40 : List UInt8) (p41 : List GAct) : St := ⟨(up (up u0 8 (pt 160)) 4 (pt 40)), (up (up (up h0 337 ⟨0, some (.own 74 6 (e_GAct.cells p41))⟩) 160 ⟨0, some (.box ((dI p36) :: ((dI p37) :: ((.d (.str p38)) :: ((.d (.str p39)) :: ((.d (.str p40)) :: ((.r (.msl 337 0 0 p41.length)) :: [])))))))⟩) 40 ⟨0, some (.box ((dI 0) :: ((dI 0) :: ((.d (.str ([]))) :: ((.d (.str ([]))) :: ((.d (.str ([]))) :: []))))))⟩)⟩
def f16_l2_X (a1 : GParser) (a2 : List Int) (z : (Int × Int × (List UInt8) × (List UInt8) × (List UInt8) × (List GAct))) (e : PX) (st : St) : Prop := e = .exit 0 ∧ st = f16_l2_e0_J a1 a2 z.1 z.2.1 z.2.2.1 z.2.2.2.1 z.2.2.2.2.1 z.2.2.2.2.2
def f16_l2_j4_J (a1 : GParser) (a2 : List Int) (p69 : Int) (p70 : Int) (p71 : List UInt8) (p72 : List UInt8) (p73 : List UInt8) (p74 : List GAct) (p75 : Int) : St := ⟨(up (up (up (up (up u0 22 (dI p75)) 21 (dI (a2.length : Int))) 20 (dL a2)) 8 (pt 160)) 4 (pt 40)), (up (up (up h0 337 ⟨0, some (.own 74 6 (e_GAct.cells p74))⟩) 160 ⟨0, some (.box ((dI p69) :: ((dI p70) :: ((.d (.str p71)) :: ((.d (.str p72)) :: ((.d (.str p73)) :: ((.r (.msl 337 0 0 p74.length)) :: [])))))))⟩) 40 ⟨0, some (.box ((dI 0) :: ((dI 0) :: ((.d (.str ([]))) :: ((.d (.str ([]))) :: ((.d (.str ([]))) :: []))))))⟩)⟩
def f16_l2_j4 (a1 : GParser) (a2 : List Int) (p69 : Int) (p70 : Int) (p71 : List UInt8) (p72 : List UInt8) (p73 : List UInt8) (p74 : List GAct) (p75 : Int) : Option ((Int × Int × (List UInt8) × (List UInt8) × (List UInt8) × (List GAct) × Int) ⊕ ((Int × Int × (List UInt8) × (List UInt8) × (List UInt8) × (List GAct)))) := ((idx a2 p75).bind fun z9 => ((f32 z9 p69 p70 p71 p72 p73 p74).bind fun z10 => (some (.inl (z10.1, z10.2.1, z10.2.2.1, z10.2.2.2.1, z10.2.2.2.2.1, z10.2.2.2.2.2, (IntKind.i64.wrap (p75 + 1)))))))
theorem f16_l2_j4_ok {d : Nat} (hd : 5 ≤ d) (a1 : GParser) (a2 : List Int) {r : (Int × Int × (List UInt8) × (List UInt8) × (List UInt8) × (List GAct) × Int) ⊕ ((Int × Int × (List UInt8) × (List UInt8) × (List UInt8) × (List GAct)))} {Q : PQ} (hQ : FQ (finL (f16_l2_H a1 a2) (f16_l2_X a1 a2) r) Q) (p69 : Int) (p70 : Int) (p71 : List UInt8) (p72 : List UInt8) (p73 : List UInt8) (p74 : List GAct) (p75 : Int) (hS : f16_l2_j4 a1 a2 p69 p70 p71 p72 p73 p74 p75 = some r) {st : St} (he : keepSt [4, 8, 20, 21, 22] [(40, .id 40), (160, .id 160), (337, .id 337)] [] st = f16_l2_j4_J a1 a2 p69 p70 p71 p72 p73 p74 p75) : ZR (lev codes baseL (d - 1)) Q c16_2 [] st := by
 refine zrKeep he ?_
 unfold f16_l2_j4 at hS
 refine zrSeq (zrBlk (zrSeq (zrReg ?_)))
 refine bindE hS (fun z9 hz9 hS => zO (v := (.rptr (eI.enc z9 ++ (eI.cells (a2.drop ((p75 : Int).toNat + 1)))))) (ups := []) (some 24) 1 (.ixS 3 1 (tm 20) (tm 22)) (ev_ixS eI (kk := .i64) (xs := a2) (j := p75) (by kernel_rfl) (by kernel_rfl) hz9 rfl (by intro h; cases h)) (zL 2 3 (zE (zkSeq (zrReg (zL 2 2 ?_))))))
 refine bindE hS (fun z10 hz10 hS => zO (some 28) 3 (.callr 32 [(tm 26), (tm 27)]) (ev_cR [160, 337] (f32_ok (d - 1) (dpt hd rfl) z9 p69 p70 p71 p72 p73 p74 z10 hz10)) (zE (zkBlk (zkSeq (zrReg (zL 2 2 (zE ?_)))))))
 exact zkNil (eN1 hS hQ)
def f16_l2_j3_J (a1 : GParser) (a2 : List Int) (p61 : Int) (p62 : Int) (p63 : List UInt8) (p64 : List UInt8) (p65 : List UInt8) (p66 : List GAct) (p67 : Int) (p68 : Bool) : St := ⟨(up (up (up (up (up (up u0 23 (dB p68)) 22 (dI p67)) 21 (dI (a2.length : Int))) 20 (dL a2)) 8 (pt 160)) 4 (pt 40)), (up (up (up h0 337 ⟨0, some (.own 74 6 (e_GAct.cells p66))⟩) 160 ⟨0, some (.box ((dI p61) :: ((dI p62) :: ((.d (.str p63)) :: ((.d (.str p64)) :: ((.d (.str p65)) :: ((.r (.msl 337 0 0 p66.length)) :: [])))))))⟩) 40 ⟨0, some (.box ((dI 0) :: ((dI 0) :: ((.d (.str ([]))) :: ((.d (.str ([]))) :: ((.d (.str ([]))) :: []))))))⟩)⟩
def f16_l2_j3 (a1 : GParser) (a2 : List Int) (p61 : Int) (p62 : Int) (p63 : List UInt8) (p64 : List UInt8) (p65 : List UInt8) (p66 : List GAct) (p67 : Int) (p68 : Bool) : Option ((Int × Int × (List UInt8) × (List UInt8) × (List UInt8) × (List GAct) × Int) ⊕ ((Int × Int × (List UInt8) × (List UInt8) × (List UInt8) × (List GAct)))) := (bif p68 then (f16_l2_j4 a1 a2 p61 p62 p63 p64 p65 p66 p67) else (some (.inr (p61, p62, p63, p64, p65, p66))))
theorem f16_l2_j3_ok {d : Nat} (hd : 5 ≤ d) (a1 : GParser) (a2 : List Int) {r : (Int × Int × (List UInt8) × (List UInt8) × (List UInt8) × (List GAct) × Int) ⊕ ((Int × Int × (List UInt8) × (List UInt8) × (List UInt8) × (List GAct)))} {Q : PQ} (hQ : FQ (finL (f16_l2_H a1 a2) (f16_l2_X a1 a2) r) Q) (p61 : Int) (p62 : Int) (p63 : List UInt8) (p64 : List UInt8) (p65 : List UInt8) (p66 : List GAct) (p67 : Int) (p68 : Bool) (hS : f16_l2_j3 a1 a2 p61 p62 p63 p64 p65 p66 p67 p68 = some r) {st : St} (he : keepSt [4, 8, 20, 21, 22, 23] [(40, .id 40), (160, .id 160), (337, .id 337)] [] st = f16_l2_j3_J a1 a2 p61 p62 p63 p64 p65 p66 p67 p68) : ZR (lev codes baseL (d - 1)) Q c16_3 [] st := by
 refine zrKeep he ?_
 unfold f16_l2_j3 at hS
 refine zrSeq (sR 23 hS (fun hS => ?_) (fun hS => ?_))
 ·exact zT (zrSkip (zkSeq (f16_l2_j4_ok hd a1 a2 hQ p61 p62 p63 p64 p65 p66 p67 hS (by kernel_rfl))))
 ·exact zF (zrKeep (J := f16_l2_e0_J a1 a2 p61 p62 p63 p64 p65 p66) (by kernel_rfl) (zrExit (zkSeqX (zkNil (eX0 hS hQ)))))
def f16_l2 (a1 : GParser) (a2 : List Int) (x : Int × Int × (List UInt8) × (List UInt8) × (List UInt8) × (List GAct) × Int) : Option ((Int × Int × (List UInt8) × (List UInt8) × (List UInt8) × (List GAct) × Int) ⊕ ((Int × Int × (List UInt8) × (List UInt8) × (List UInt8) × (List GAct)))) := (bif (decide (x.2.2.2.2.2.2 < (a2.length : Int))) then (f16_l2_j3 a1 a2 x.1 x.2.1 x.2.2.1 x.2.2.2.1 x.2.2.2.2.1 x.2.2.2.2.2.1 x.2.2.2.2.2.2 true) else (f16_l2_j3 a1 a2 x.1 x.2.1 x.2.2.1 x.2.2.2.1 x.2.2.2.2.1 x.2.2.2.2.2.1 x.2.2.2.2.2.2 false))
theorem f16_l2_ok {d : Nat} (hd : 5 ≤ d) (a1 : GParser) (a2 : List Int) {r : (Int × Int × (List UInt8) × (List UInt8) × (List UInt8) × (List GAct) × Int) ⊕ ((Int × Int × (List UInt8) × (List UInt8) × (List UInt8) × (List GAct)))} {Q : PQ} (hQ : FQ (finL (f16_l2_H a1 a2) (f16_l2_X a1 a2) r) Q) {x : Int × Int × (List UInt8) × (List UInt8) × (List UInt8) × (List GAct) × Int} (hS : f16_l2 a1 a2 x = some r) {st : St} (he : f16_l2_H a1 a2 x st) : ZR (lev codes baseL (d - 1)) Q c16_4 [] st := by
 refine zrKeep he ?_
 unfold f16_l2 at hS
 refine zrSeq (zrReg ?_)
 refine sB 23 1 (.cmpI .lss (tm 22) (tm 21)) hS (fun hS => ?_) (fun hS => ?_)
 ·refine zE (zkSeq ?_)
  exact f16_l2_j3_ok hd a1 a2 hQ x.1 x.2.1 x.2.2.1 x.2.2.2.1 x.2.2.2.2.1 x.2.2.2.2.2.1 x.2.2.2.2.2.2 true hS (by kernel_rfl)
 ·refine zE (zkSeq ?_)
  exact f16_l2_j3_ok hd a1 a2 hQ x.1 x.2.1 x.2.2.1 x.2.2.2.1 x.2.2.2.2.1 x.2.2.2.2.2.1 x.2.2.2.2.2.2 false hS (by kernel_rfl)
def f16_j0_J (a1 : GParser) (a2 : List Int) : St := ⟨(up (up (up u0 4 (pt 40)) 2 (pt 24)) 1 (dL a2)), (up (up h0 40 ⟨0, some (.box ((dI 0) :: ((dI 0) :: ((.d (.str ([]))) :: ((.d (.str ([]))) :: ((.d (.str ([]))) :: []))))))⟩) 24 ⟨0, some (.box ((dI a1.State) :: ((dI a1.Mark) :: ((.d (.str a1.Inter)) :: ((.d (.str a1.Args)) :: ((.d (.str a1.Text)) :: []))))))⟩)⟩
def f16_j0 (a1 : GParser) (a2 : List Int) : Option (GParser × (List GAct) × Int) := ((loopO (f16_l2 a1 a2) (a1.State, a1.Mark, a1.Inter, a1.Args, a1.Text, [], 0)).bind fun z11 => (f16_j1 a1 a2 z11.1 z11.2.1 z11.2.2.1 z11.2.2.2.1 z11.2.2.2.2.1 z11.2.2.2.2.2))
theorem f16_j0_ok {d : Nat} (hd : 5 ≤ d) (a1 : GParser) (a2 : List Int) {r : GParser × (List GAct) × Int} {Q : PQ} (hQ : FQ (f16_Q r) Q)  (hS : f16_j0 a1 a2 = some r) {st : St} (he : keepSt [1, 2, 4] [(24, .id 24), (40, .id 40)] [] st = f16_j0_J a1 a2) : ZR (lev codes baseL (d - 1)) Q c16_5 [] st := by
 refine zrKeep he ?_
 unfold f16_j0 at hS
 refine zrSeq (zrReg (zL 4 4 (zE (zkSeq (zrSeq (zrSeq (zrReg (zL 3 3 (zE (zkSeq ?_))))))))))
 refine zrBlk (bindE hS (fun z11 hz11 hS => zrLoop (f16_l2_H a1 a2) (f16_l2_X a1 a2) (fun x st r Q h0 hS hQ => f16_l2_ok hd a1 a2 hQ hS h0) (x := (a1.State, a1.Mark, a1.Inter, a1.Args, a1.Text, [], 0)) (z := z11) (by show keepSt _ _ _ _ = _; kernel_rfl) hz11 ?_))
 intro e st' _ hX
 obtain ⟨rfl, rfl⟩ : _ ∧ _ := hX
 exact zkBlkX (zkSeq (f16_j1_ok hd a1 a2 hQ z11.1 z11.2.1 z11.2.2.1 z11.2.2.2.1 z11.2.2.2.2.1 z11.2.2.2.2.2 hS (by kernel_rfl)))
def f16 (a1 : GParser) (a2 : List Int) : Option (GParser × (List GAct) × Int) := ((f31 a1).bind fun z12 => (bif (!decide (z12 = 0)) then (some (a1, [], z12)) else (f16_j0 a1 a2 )))
theorem f16_ok (d : Nat) (hd : 5 ≤ d) (a1 : GParser) (a2 : List Int) (r : GParser × (List GAct) × Int) (hS : f16 a1 a2 = some r) : lev codes baseL d 16 [(.agg ((dI a1.State) :: ((dI a1.Mark) :: ((.d (.str a1.Inter)) :: ((.d (.str a1.Args)) :: ((.d (.str a1.Text)) :: [])))))), (dL a2)] [] = some ((.tup [(.agg ((dI r.1.State) :: ((dI r.1.Mark) :: ((.d (.str r.1.Inter)) :: ((.d (.str r.1.Args)) :: ((.d (.str r.1.Text)) :: [])))))), (.r (.own 0 74 6 r.2.1.length (e_GAct.cells r.2.1))), (dI r.2.2)]), []) := by
 refine lev_go codes16 rfl rfl (Nat.le_trans (Nat.le_of_ble_eq_true rfl) hd) fun Q hQ => ?_
 unfold f16 at hS
 show ZR _ Q c16_b [] _
 replace hQ : FQ (f16_Q r) Q := hQ
 refine zrSeq (zrReg (zL 4 4 (zE (zkSeq (zrSeq (zrSeq (zrReg (zL 1 1 ?_))))))))
 refine bindE hS (fun z12 hz12 hS => zO (some 12) 2 (c1 31 11) (ev_cA (f31_ok (d - 1) (dpt hd rfl) a1 z12 hz12)) (zL 1 3 (zE (zkSeq (zrSeq (zrReg (zL 1 1 ?_)))))))
 refine sB 14 2 (.cmpI .neq (tm 13) (ki 0)) hS (fun hS => ?_) (fun hS => ?_)
 ·refine zE (zkSeq (zT (zrSeq (zrReg (zL 5 5 (zE (zkSeq ?_)))))))
  exact zrRet (zkSeqR (zkNil (endQ hS hQ (fR (f16_out a1 [] z12)))))
 ·refine zE (zkSeq (zF ?_))
  exact zrSkip (zkSeq (f16_j0_ok hd a1 a2 hQ  hS (by kernel_rfl)))
/- farwriter/grid.Clone -/
def f29_fin (p1 : GGrid) : St := ⟨(up u0 2 (pt 24)), (up (up h0 48 ⟨0, some (.own 49 4 (e_GCell.cells p1.Cells))⟩) 24 ⟨0, some (.box ((dI p1.Wide) :: ((dI p1.High) :: ((.r (.msl 48 0 0 p1.Cells.length)) :: []))))⟩)⟩
theorem f29_out (p1 : GGrid) : outR (f29_fin p1) 0 c29.res = some ((.agg ((dI p1.Wide) :: ((dI p1.High) :: ((.r (.own 0 49 4 p1.Cells.length (e_GCell.cells p1.Cells))) :: [])))), []) := by
 exact out_of (ids := []) (ids' := [48]) (l := [(.agg ((dI p1.Wide) :: ((dI p1.High) :: ((.r (.msl 48 0 0 p1.Cells.length)) :: []))))]) (by kernel_rfl) (by kernel_rfl) (o_agg (o_cons rfl (o_cons rfl (o_cons (o_own e_GCell (e := 49) (k := 4) (xs := p1.Cells) (by kernel_rfl) rfl rfl rfl rfl) o_nil))))
def f29_Q (r : GGrid) (e : PX) (st : St) : Prop := DoneF c29 0 ((.agg ((dI r.Wide) :: ((dI r.High) :: ((.r (.own 0 49 4 r.Cells.length (e_GCell.cells r.Cells))) :: [])))), []) e st
def f29 (a1 : GGrid) : Option (GGrid) := ((f24 a1.Cells).bind fun z2 => (some (GGrid.mk a1.Wide a1.High z2)))
theorem f29_ok (d : Nat) (hd : 2 ≤ d) (a1 : GGrid) (r : GGrid) (hS : f29 a1 = some r) : lev codes baseL d 29 [(.agg ((dI a1.Wide) :: ((dI a1.High) :: ((dE e_GCell a1.Cells) :: []))))] [] = some ((.agg ((dI r.Wide) :: ((dI r.High) :: ((.r (.own 0 49 4 r.Cells.length (e_GCell.cells r.Cells))) :: [])))), []) := by
 refine lev_go codes29 rfl rfl (Nat.le_trans (Nat.le_of_ble_eq_true rfl) hd) fun Q hQ => ?_
 unfold f29 at hS
 show ZR _ Q c29_b [] _
 replace hQ : FQ (f29_Q r) Q := hQ
 refine zrSeq (zrReg (zL 2 2 (zE (zkSeq (zrSeq (zrReg (zL 2 2 ?_)))))))
 refine bindE hS (fun z2 hz2 hS => zO (some 5) 3 (c1 24 4) (ev_cA (f24_ok (d - 1) (dpt hd rfl) a1.Cells z2 hz2)) (zL 2 5 (zE (zkSeq (zrSeq (zrReg (zL 2 2 (zE (zkSeq ?_)))))))))
 exact zrRet (zkNil (endQ hS hQ (fR (f29_out (GGrid.mk a1.Wide a1.High z2)))))
/- farwriter/screen.Clone -/
def f33_fin (p20 : GScreen) : St := ⟨(up u0 2 (pt 24)), (gh_GScreen h0 p20 24 72 96 32)⟩
theorem f33_out (p20 : GScreen) : outR (f33_fin p20) 0 c33.res = some ((.agg (bw_GScreen p20)), []) := by
 exact out_of (ids := []) (ids' := [72, 96, 32]) (l := [(.agg (bm_GScreen p20 72 0 96 0 32 0))]) (by kernel_rfl) (by kernel_rfl) (o_agg (o_cons rfl (o_cons rfl (o_cons (o_own e_GCell (e := 49) (k := 4) (xs := p20.Grid.Cells) (by kernel_rfl) rfl rfl rfl rfl) (o_cons rfl (o_cons rfl (o_cons rfl (o_cons rfl (o_cons rfl (o_cons rfl (o_cons rfl (o_cons rfl (o_cons rfl (o_app (o_row (eInt .u64)) (o_cons rfl (o_cons rfl (o_cons rfl (o_cons rfl (o_cons rfl (o_cons rfl (o_cons rfl (o_cons rfl (o_cons rfl (o_cons rfl (o_cons rfl (o_cons rfl (o_cons rfl (o_cons rfl (o_cons (o_own e_GCell (e := 49) (k := 4) (xs := p20.Other.Cells) (by kernel_rfl) rfl rfl rfl rfl) (o_cons rfl (o_cons (o_own e_GLine (e := 95) (k := 1) (xs := p20.Past) (by kernel_rfl) rfl rfl rfl rfl) o_nil)))))))))))))))))))))))))))))))
def f33_Q (r : GScreen) (e : PX) (st : St) : Prop := DoneF c33 0 ((.agg (bw_GScreen r)), []) e st
def f33_l0_J (a1 : GScreen) (x : GScreen × (List GLine) × Int) : St := ⟨(up (up (up (up (up (up u0 17 (dI x.2.2)) 16 (dI (a1.Past.length : Int))) 15 (gd2_GScreen a1)) 3 (.r (.msl 32 0 0 x.2.1.length))) 2 (pt 24)) 1 (pt 16)), (up (up (up (up (up h0 32 ⟨0, some (.own 95 1 (e_GLine.cells x.2.1))⟩) 24 ⟨0, some (.box (bx_GScreen (GScreen.mk (GGrid.mk 0 0 ([])) 0 0 false 0 0 (GPen.mk 0 0 0) 0 (GStops.mk (fun _ => 0)) (0, 0) 0 (GSaved.mk 0 0 (GPen.mk 0 0 0) false (0, 0) 0) (GGrid.mk 0 0 ([])) ([]) ([])) (.d (.sl ([] : List GCell).length (e_GCell.cells ([])))) (.d (.sl ([] : List GCell).length (e_GCell.cells ([])))) (.d (.sl ([] : List GLine).length (e_GLine.cells ([]))))))⟩) 96 ⟨0, some (go1_GScreen x.1)⟩) 72 ⟨0, some (go0_GScreen x.1)⟩) 16 ⟨0, some (.box (bx_GScreen x.1 (.r (.msl 72 0 0 x.1.Grid.Cells.length)) (.r (.msl 96 0 0 x.1.Other.Cells.length)) (gd2_GScreen x.1)))⟩)⟩
def f33_l0_H (a1 : GScreen) (x : GScreen × (List GLine) × Int) (st : St) : Prop := keepSt [1, 2, 3, 15, 16, 17] [(16, .id 16), (72, .id 72), (96, .id 96), (24, .id 24), (32, .id 32)] [.cell 24 2 0 0 1, .cell 24 30 0 0 1, .cell 24 32 0 0 1] st = f33_l0_J a1 x
def f33_l0_e0_J (a1 : GScreen) (p38 : GScreen) (p39 : List GLine) : St := ⟨(up (up (up u0 3 (.r (.msl 32 0 0 p39.length))) 2 (pt 24)) 1 (pt 16)), (up (up (up (up (up h0 32 ⟨0, some (.own 95 1 (e_GLine.cells p39))⟩) 24 ⟨0, some (.box (bx_GScreen (GScreen.mk (GGrid.mk 0 0 ([])) 0 0 false 0 0 (GPen.mk 0 0 0) 0 (GStops.mk (fun _ => 0)) (0, 0) 0 (GSaved.mk 0 0 (GPen.mk 0 0 0) false (0, 0) 0) (GGrid.mk 0 0 ([])) ([]) ([])) (.d (.sl ([] : List GCell).length (e_GCell.cells ([])))) (.d (.sl ([] : List GCell).length (e_GCell.cells ([])))) (.d (.sl ([] : List GLine).length (e_GLine.cells ([]))))))⟩) 96 ⟨0, some (go1_GScreen p38)⟩) 72 ⟨0, some (go0_GScreen p38)⟩) 16 ⟨0, some (.box (bx_GScreen p38 (.r (.msl 72 0 0 p38.Grid.Cells.length)) (.r (.msl 96 0 0 p38.Other.Cells.length)) (gd2_GScreen p38)))⟩)⟩
def f33_l0_X (a1 : GScreen) (z : (GScreen × (List GLine))) (e : PX) (st : St) : Prop := e = .exit 0 ∧ st = f33_l0_e0_J a1 z.1 z.2
def f33_l0_j2_J (a1 : GScreen) (p48 : GScreen) (p49 : List GLine) (p50 : Int) : St := ⟨(up (up (up (up (up (up u0 17 (dI p50)) 16 (dI (a1.Past.length : Int))) 15 (gd2_GScreen a1)) 3 (.r (.msl 32 0 0 p49.length))) 2 (pt 24)) 1 (pt 16)), (up (up (up (up (up h0 32 ⟨0, some (.own 95 1 (e_GLine.cells p49))⟩) 24 ⟨0, some (.box (bx_GScreen (GScreen.mk (GGrid.mk 0 0 ([])) 0 0 false 0 0 (GPen.mk 0 0 0) 0 (GStops.mk (fun _ => 0)) (0, 0) 0 (GSaved.mk 0 0 (GPen.mk 0 0 0) false (0, 0) 0) (GGrid.mk 0 0 ([])) ([]) ([])) (.d (.sl ([] : List GCell).length (e_GCell.cells ([])))) (.d (.sl ([] : List GCell).length (e_GCell.cells ([])))) (.d (.sl ([] : List GLine).length (e_GLine.cells ([]))))))⟩) 96 ⟨0, some (go1_GScreen p48)⟩) 72 ⟨0, some (go0_GScreen p48)⟩) 16 ⟨0, some (.box (bx_GScreen p48 (.r (.msl 72 0 0 p48.Grid.Cells.length)) (.r (.msl 96 0 0 p48.Other.Cells.length)) (gd2_GScreen p48)))⟩)⟩
def f33_l0_j2 (a1 : GScreen) (p48 : GScreen) (p49 : List GLine) (p50 : Int) : Option ((GScreen × (List GLine) × Int) ⊕ ((GScreen × (List GLine)))) := ((idx a1.Past p50).bind fun z23 => ((f24 z23.Cells).bind fun z24 => ((app? 24 p49 ([(GLine.mk z24)] : List GLine)).bind fun z25 => (some (.inl (p48, z25, (IntKind.i64.wrap (p50 + 1))))))))
theorem f33_l0_j2_ok {d : Nat} (hd : 3 ≤ d) (a1 : GScreen) {r : (GScreen × (List GLine) × Int) ⊕ ((GScreen × (List GLine)))} {Q : PQ} (hQ : FQ (finL (f33_l0_H a1) (f33_l0_X a1) r) Q) (p48 : GScreen) (p49 : List GLine) (p50 : Int) (hS : f33_l0_j2 a1 p48 p49 p50 = some r) {st : St} (he : keepSt [1, 2, 3, 15, 16, 17] [(16, .id 16), (72, .id 72), (96, .id 96), (24, .id 24), (32, .id 32)] [] st = f33_l0_j2_J a1 p48 p49 p50) : ZR (lev codes baseL (d - 1)) Q c33_1 [] st := by
 refine zrKeep he ?_
 unfold f33_l0_j2 at hS
 refine zrSeq (zrBlk (zrSeq (zrReg ?_)))
 refine bindE hS (fun z23 hz23 hS => zO (v := (.rptr (e_GLine.enc z23 ++ (e_GLine.cells (a1.Past.drop ((p50 : Int).toNat + 1)))))) (ups := []) (some 19) 1 (.ixS 95 1 (tm 15) (tm 17)) (ev_ixS e_GLine (kk := .i64) (xs := a1.Past) (j := p50) (by kernel_rfl) (by kernel_rfl) hz23 rfl (by intro h; cases h)) (zL 3 4 (zE (zkSeq (zrReg (zL 3 3 ?_))))))
 refine bindE hS (fun z24 hz24 hS => zO (some 24) 4 (c1 24 23) (ev_cA (f24_ok (d - 1) (dpt hd rfl) z23.Cells z24 hz24)) (zL 1 5 (zO (v := (.r (.msl 216 1 0 (([(GLine.mk z24)] : List GLine).length)))) (ups := [(200, ⟨2, none⟩), (216, ⟨1, some (.own 95 1 (e_GLine.cells ([(GLine.mk z24)])))⟩)]) (some 26) 6 (.bsl 95 1 1 [(1, (.slice .none 0 0))] [(0, (1, (tm 25)))]) ((by kernel_rfl : peval _ _ 26 (ρof _) (.bsl 95 1 1 [(1, (.slice .none 0 0))] [(0, (1, (.tmp 25)))]) = some ((.r (.msl 216 1 0 (([(GLine.mk z24)] : List GLine).length))), [(200, ⟨2, none⟩), (216, ⟨1, some (.own 95 1 [.sl z24.length (((e_GCell.cells z24).drop (0 * e_GCell.k)).take (z24.length * e_GCell.k))])⟩)])).trans (by simp only [Enc.frz]; rfl)) (bindE hS (fun z25 hz25 hS => zO (v := (.r (.msl 32 1 0 z25.length))) (ups := [(32, ⟨1, some (.own 95 1 (e_GLine.cells z25))⟩)]) (some 27) 7 (.app 95 1 24 (tm 21) (tm 26)) (ev_app e_GLine (b := 32) (g := 0) (n := p49.length) (xs := p49) (ys := [(GLine.mk z24)]) ((congrArg (asL _) (by kernel_rfl : ρof _ (.tmp 26) = (.r (.msl 216 1 0 (([(GLine.mk z24)] : List GLine).length))))).trans (as_whole e_GLine (e := 95) (k := 1) (xs := [(GLine.mk z24)]) (by kernel_rfl) rfl rfl)) rfl (by kernel_rfl) rfl (by kernel_rfl) rfl hz25) (zL 1 8 (zE ?_)))))))
 refine zkBlk (zkSeq (zrReg (zL 2 2 (zE ?_))))
 exact zkNil (eN1 hS hQ)
def f33_l0_j1_J (a1 : GScreen) (p44 : GScreen) (p45 : List GLine) (p46 : Int) (p47 : Bool) : St := ⟨(up (up (up (up (up (up (up u0 18 (dB p47)) 17 (dI p46)) 16 (dI (a1.Past.length : Int))) 15 (gd2_GScreen a1)) 3 (.r (.msl 32 0 0 p45.length))) 2 (pt 24)) 1 (pt 16)), (up (up (up (up (up h0 32 ⟨0, some (.own 95 1 (e_GLine.cells p45))⟩) 24 ⟨0, some (.box (bx_GScreen (GScreen.mk (GGrid.mk 0 0 ([])) 0 0 false 0 0 (GPen.mk 0 0 0) 0 (GStops.mk (fun _ => 0)) (0, 0) 0 (GSaved.mk 0 0 (GPen.mk 0 0 0) false (0, 0) 0) (GGrid.mk 0 0 ([])) ([]) ([])) (.d (.sl ([] : List GCell).length (e_GCell.cells ([])))) (.d (.sl ([] : List GCell).length (e_GCell.cells ([])))) (.d (.sl ([] : List GLine).length (e_GLine.cells ([]))))))⟩) 96 ⟨0, some (go1_GScreen p44)⟩) 72 ⟨0, some (go0_GScreen p44)⟩) 16 ⟨0, some (.box (bx_GScreen p44 (.r (.msl 72 0 0 p44.Grid.Cells.length)) (.r (.msl 96 0 0 p44.Other.Cells.length)) (gd2_GScreen p44)))⟩)⟩
def f33_l0_j1 (a1 : GScreen) (p44 : GScreen) (p45 : List GLine) (p46 : Int) (p47 : Bool) : Option ((GScreen × (List GLine) × Int) ⊕ ((GScreen × (List GLine)))) := (bif p47 then (f33_l0_j2 a1 p44 p45 p46) else (some (.inr (p44, p45))))
theorem f33_l0_j1_ok {d : Nat} (hd : 3 ≤ d) (a1 : GScreen) {r : (GScreen × (List GLine) × Int) ⊕ ((GScreen × (List GLine)))} {Q : PQ} (hQ : FQ (finL (f33_l0_H a1) (f33_l0_X a1) r) Q) (p44 : GScreen) (p45 : List GLine) (p46 : Int) (p47 : Bool) (hS : f33_l0_j1 a1 p44 p45 p46 p47 = some r) {st : St} (he : keepSt [1, 2, 3, 15, 16, 17, 18] [(16, .id 16), (72, .id 72), (96, .id 96), (24, .id 24), (32, .id 32)] [] st = f33_l0_j1_J a1 p44 p45 p46 p47) : ZR (lev codes baseL (d - 1)) Q c33_2 [] st := by
 refine zrKeep he ?_
 unfold f33_l0_j1 at hS
 refine zrSeq (sR 18 hS (fun hS => ?_) (fun hS => ?_))
 ·exact zT (zrSkip (zkSeq (f33_l0_j2_ok hd a1 hQ p44 p45 p46 hS (by kernel_rfl))))
 ·exact zF (zrKeep (J := f33_l0_e0_J a1 p44 p45) (by kernel_rfl) (zrExit (zkSeqX (zkNil (eX0 hS hQ)))))
def f33_l0 (a1 : GScreen) (x : GScreen × (List GLine) × Int) : Option ((GScreen × (List GLine) × Int) ⊕ ((GScreen × (List GLine)))) := (bif (decide (x.2.2 < (a1.Past.length : Int))) then (f33_l0_j1 a1 x.1 x.2.1 x.2.2 true) else (f33_l0_j1 a1 x.1 x.2.1 x.2.2 false))
theorem f33_l0_ok {d : Nat} (hd : 3 ≤ d) (a1 : GScreen) {r : (GScreen × (List GLine) × Int) ⊕ ((GScreen × (List GLine)))} {Q : PQ} (hQ : FQ (finL (f33_l0_H a1) (f33_l0_X a1) r) Q) {x : GScreen × (List GLine) × Int} (hS : f33_l0 a1 x = some r) {st : St} (he : f33_l0_H a1 x st) : ZR (lev codes baseL (d - 1)) Q c33_3 [] st := by
 refine zrKeep he ?_
 unfold f33_l0 at hS
 refine zrSeq (zrReg ?_)
 refine sB 18 1 (.cmpI .lss (tm 17) (tm 16)) hS (fun hS => ?_) (fun hS => ?_)
 ·refine zE (zkSeq ?_)
  exact f33_l0_j1_ok hd a1 hQ x.1 x.2.1 x.2.2 true hS (by kernel_rfl)
 ·refine zE (zkSeq ?_)
  exact f33_l0_j1_ok hd a1 hQ x.1 x.2.1 x.2.2 false hS (by kernel_rfl)
def f33 (a1 : GScreen) : Option (GScreen) := ((f29 a1.Grid).bind fun z12 => ((f29 a1.Other).bind fun z13 => ((loopO (f33_l0 a1) ({ a1 with Grid := z12, Other := z13 }, [], 0)).bind fun z26 => (some (GScreen.mk z26.1.Grid z26.1.Row z26.1.Col z26.1.Late z26.1.Top z26.1.Bottom z26.1.Pen z26.1.Modes z26.1.Stops z26.1.Pages z26.1.Shift z26.1.Saved z26.1.Other z26.1.Title z26.2)))))
theorem f33_ok (d : Nat) (hd : 3 ≤ d) (a1 : GScreen) (r : GScreen) (hS : f33 a1 = some r) : lev codes baseL d 33 [(.agg (bd_GScreen a1))] [] = some ((.agg (bw_GScreen r)), []) := by
 refine lev_go codes33 rfl rfl (Nat.le_trans (Nat.le_of_ble_eq_true rfl) hd) fun Q hQ => ?_
 unfold f33 at hS
 show ZR _ Q c33_b [] _
 replace hQ : FQ (f33_Q r) Q := hQ
 refine zrSeq (zrReg (zL 2 2 (zE (zkSeq (zrSeq ?_)))))
 refine zrRegD (zdR 2 2 (bindE hS (fun z12 hz12 hS => zdO (some 8) 3 none (c1 29 7) (ev_cA (f29_ok (d - 1) (dpt hd rfl) a1.Grid z12 hz12)) (zdR 2 5 (bindE hS (fun z13 hz13 hS => zdO (some 11) 6 none (c1 29 10) (ev_cA (f29_ok (d - 1) (dpt hd rfl) a1.Other z13 hz13)) (zdR 4 10 (zdE (zkSeq (zrSeq (zrReg (zL 1 1 (zE (zkSeq (zrSeq (zrSeq (zrReg (zL 4 4 (zE (zkSeq ?_))))))))))))))))))))
 refine zrBlk (bindE hS (fun z26 hz26 hS => zrLoop (f33_l0_H a1) (f33_l0_X a1) (fun x st r Q h0 hS hQ => f33_l0_ok hd a1 hQ hS h0) (x := ({ a1 with Grid := z12, Other := z13 }, [], 0)) (z := z26) (by show keepSt _ _ _ _ = _; kernel_rfl) hz26 ?_))
 intro e st' _ hX
 obtain ⟨rfl, rfl⟩ : _ ∧ _ := hX
 refine zkBlkX (zkSeq (zrSeq (zrReg (zL 3 3 (zE (zkSeq (zrSeq (zrReg (zL 2 2 (zE (zkSeq ?_)))))))))))
 exact zrRet (zkNil (endQ hS hQ (fR (f33_out (GScreen.mk z26.1.Grid z26.1.Row z26.1.Col z26.1.Late z26.1.Top z26.1.Bottom z26.1.Pen z26.1.Modes z26.1.Stops z26.1.Pages z26.1.Shift z26.1.Saved z26.1.Other z26.1.Title z26.2)))))
/- farwriter/screen.actions$1 -/
def f60_fin (p1 : Bool) : St := ⟨(up u0 2 (dB p1)), h0⟩
theorem f60_out (p1 : Bool) : outR (f60_fin p1) 0 c60.res = some ((dB p1), []) := by
 kernel_rfl
def f60_Q (r : Bool) (e : PX) (st : St) : Prop := DoneF c60 0 ((dB r), []) e st
def f60 (a1 : Int) : Option (Bool) := ((f20 a1 (-1) 16383).bind fun z2 => (some (!z2)))
theorem f60_ok (d : Nat) (hd : 2 ≤ d) (a1 : Int) (r : Bool) (hS : f60 a1 = some r) : lev codes baseL d 60 [(dI a1)] [] = some ((dB r), []) := by
 refine lev_go codes60 rfl rfl (Nat.le_trans (Nat.le_of_ble_eq_true rfl) hd) fun Q hQ => ?_
 unfold f60 at hS
 show ZR _ Q c60_b [] _
 replace hQ : FQ (f60_Q r) Q := hQ
 refine zrSeq (zrReg (zL 1 1 (zE (zkSeq (zrSeq (zrReg (zL 1 1 ?_)))))))
 refine bindE hS (fun z2 hz2 hS => zO (some 4) 2 (.call 20 [(tm 3), (ki (-1)), (ki 16383)]) (ev_cA (f20_ok (d - 1) (dpt hd rfl) a1 (-1) 16383 z2 hz2)) (zL 2 4 (zE (zkSeq ?_))))
 exact zrRet (zkNil (endQ hS hQ (fR (f60_out (!z2)))))
/- slices.IndexFunc[[]int,int] -/
def f82v1_fin (p8 : Int) : St := ⟨(up u0 4 (dI p8)), h0⟩
theorem f82v1_out (p8 : Int) : outR (f82v1_fin p8) 0 c82.res = some ((dI p8), []) := by
 kernel_rfl
def f82v1_Q (r : Int) (e : PX) (st : St) : Prop := DoneF c82 0 ((dI r), []) e st
def f82v1_l0_J (a1 : List Int) (x : Int) : St := ⟨(up (up (up (up u0 8 (dI x)) 7 (dI (a1.length : Int))) 1 (.fn 60 [])) 0 (dL a1)), h0⟩
def f82v1_l0_H (a1 : List Int) (x : Int) (st : St) : Prop := keepSt [0, 1, 7, 8] [] [] st = f82v1_l0_J a1 x
def f82v1_l0_e0_J (a1 : List Int) : St := ⟨u0, h0⟩
def f82v1_l0_X (a1 : List Int) (z : Unit ⊕ Int) (e : PX) (st : St) : Prop := (match z with | .inl z => e = .exit 0 ∧ st = f82v1_l0_e0_J a1 | .inr z => e = .ret ∧ finSt c82.fin st = f82v1_fin z)
def f82v1_l0_j2_J (a1 : List Int) (p13 : Int) : St := ⟨(up (up (up (up u0 8 (dI p13)) 7 (dI (a1.length : Int))) 1 (.fn 60 [])) 0 (dL a1)), h0⟩
def f82v1_l0_j2 (a1 : List Int) (p13 : Int) : Option (Int ⊕ (Unit ⊕ Int)) := ((idx a1 p13).bind fun z7 => ((f60 z7).bind fun z8 => (bif z8 then (some (.inr (.inr p13))) else (some (.inl (IntKind.i64.wrap (p13 + 1)))))))
theorem f82v1_l0_j2_ok {d : Nat} (hd : 3 ≤ d) (a1 : List Int) {r : Int ⊕ (Unit ⊕ Int)} {Q : PQ} (hQ : FQ (finL (f82v1_l0_H a1) (f82v1_l0_X a1) r) Q) (p13 : Int) (hS : f82v1_l0_j2 a1 p13 = some r) {st : St} (he : keepSt [0, 1, 7, 8] [] [] st = f82v1_l0_j2_J a1 p13) : ZR (lev codes baseL (d - 1)) Q c82_1 [] st := by
 refine zrKeep he ?_
 unfold f82v1_l0_j2 at hS
 refine zrSeq (zrBlk (zrSeq (zrReg (zL 2 2 (zE (zkSeq (zrSeq (zrReg (zL 3 3 ?_)))))))))
 refine bindE hS (fun z7 hz7 hS => zO (v := (.rptr (eI.enc z7 ++ (eI.cells (a1.drop ((p13 : Int).toNat + 1)))))) (ups := []) (some 14) 4 (.ixS 3 1 (tm 12) (tm 13)) (ev_ixS eI (kk := .i64) (xs := a1) (j := p13) (by kernel_rfl) (by kernel_rfl) hz7 rfl (by intro h; cases h)) (zL 1 5 (bindE hS (fun z8 hz8 hS => zO (v := (dB z8)) (ups := []) (some 16) 6 (.callv (tm 11) [(tm 15)]) (ev_callv (f := 60) (cs := []) (by kernel_rfl) (args := [(dI z7)]) (l := [(dI z7)]) (r := (dB z8)) (by kernel_rfl) (by kernel_rfl) (f60_ok (d - 1) (dpt hd rfl) z7 z8 hz8) (by kernel_rfl) (by kernel_rfl) (by kernel_rfl)) (zE (zkSeq ?_))))))
 refine sR 16 hS (fun hS => ?_) (fun hS => ?_)
 ·refine zT (zrSeq (zrReg (zL 2 2 (zE (zkSeq ?_)))))
  exact zrRet (zkBlkR (zkSeqR (zkNil (eX1 hS hQ))))
 ·refine zF (zrSkip (zkBlk (zkSeq (zrReg (zL 2 2 (zE ?_))))))
  exact zkNil (eN1 hS hQ)
def f82v1_l0_j1_J (a1 : List Int) (p11 : Int) (p12 : Bool) : St := ⟨(up (up (up (up (up u0 9 (dB p12)) 8 (dI p11)) 7 (dI (a1.length : Int))) 1 (.fn 60 [])) 0 (dL a1)), h0⟩
def f82v1_l0_j1 (a1 : List Int) (p11 : Int) (p12 : Bool) : Option (Int ⊕ (Unit ⊕ Int)) := (bif p12 then (f82v1_l0_j2 a1 p11) else (some (.inr (.inl ()))))
theorem f82v1_l0_j1_ok {d : Nat} (hd : 3 ≤ d) (a1 : List Int) {r : Int ⊕ (Unit ⊕ Int)} {Q : PQ} (hQ : FQ (finL (f82v1_l0_H a1) (f82v1_l0_X a1) r) Q) (p11 : Int) (p12 : Bool) (hS : f82v1_l0_j1 a1 p11 p12 = some r) {st : St} (he : keepSt [0, 1, 7, 8, 9] [] [] st = f82v1_l0_j1_J a1 p11 p12) : ZR (lev codes baseL (d - 1)) Q c82_2 [] st := by
 refine zrKeep he ?_
 unfold f82v1_l0_j1 at hS
 refine zrSeq (sR 9 hS (fun hS => ?_) (fun hS => ?_))
 ·exact zT (zrSkip (zkSeq (f82v1_l0_j2_ok hd a1 hQ p11 hS (by kernel_rfl))))
 ·exact zF (zrKeep (J := f82v1_l0_e0_J a1) (by kernel_rfl) (zrExit (zkSeqX (zkNil (eX0 hS hQ)))))
def f82v1_l0 (a1 : List Int) (x : Int) : Option (Int ⊕ (Unit ⊕ Int)) := (bif (decide (x < (a1.length : Int))) then (f82v1_l0_j1 a1 x true) else (f82v1_l0_j1 a1 x false))
theorem f82v1_l0_ok {d : Nat} (hd : 3 ≤ d) (a1 : List Int) {r : Int ⊕ (Unit ⊕ Int)} {Q : PQ} (hQ : FQ (finL (f82v1_l0_H a1) (f82v1_l0_X a1) r) Q) {x : Int} (hS : f82v1_l0 a1 x = some r) {st : St} (he : f82v1_l0_H a1 x st) : ZR (lev codes baseL (d - 1)) Q c82_3 [] st := by
 refine zrKeep he ?_
 unfold f82v1_l0 at hS
 refine zrSeq (zrReg ?_)
 refine sB 9 1 (.cmpI .lss (tm 8) (tm 7)) hS (fun hS => ?_) (fun hS => ?_)
 ·refine zE (zkSeq ?_)
  exact f82v1_l0_j1_ok hd a1 hQ x true hS (by kernel_rfl)
 ·refine zE (zkSeq ?_)
  exact f82v1_l0_j1_ok hd a1 hQ x false hS (by kernel_rfl)
def f82v1 (a1 : List Int) : Option (Int) := ((loopO (f82v1_l0 a1) 0).bind fun z9 => (Sum.elim (fun z10 => (some (-1))) (fun z11 => (some z11)) z9))
theorem f82v1_ok (d : Nat) (hd : 3 ≤ d) (a1 : List Int) (r : Int) (hS : f82v1 a1 = some r) : lev codes baseL d 82 [(dL a1), (.fn 60 [])] [] = some ((dI r), []) := by
 refine lev_go codes82 rfl rfl (Nat.le_trans (Nat.le_of_ble_eq_true rfl) hd) fun Q hQ => ?_
 unfold f82v1 at hS
 show ZR _ Q c82_b [] _
 replace hQ : FQ (f82v1_Q r) Q := hQ
 refine zrSeq (zrReg (zL 1 1 (zE (zkSeq (zrSeq (zrSeq (zrReg (zL 3 3 (zE (zkSeq ?_))))))))))
 refine zrBlk (bindE hS (fun z9 hz9 hS => zrLoop (f82v1_l0_H a1) (f82v1_l0_X a1) (fun x st r Q h0 hS hQ => f82v1_l0_ok hd a1 hQ hS h0) (x := 0) (z := z9) (by show keepSt _ _ _ _ = _; kernel_rfl) hz9 ?_))
 rcases z9 with z10 | z11
 ·replace hS := (show _ = _ from hS)
  simp only [Sum.elim_inl] at hS
  intro e st' _ hX
  obtain ⟨rfl, rfl⟩ : _ ∧ _ := hX
  refine zkBlkX (zkSeq (zrSeq (zrReg (zL 1 1 (zE (zkSeq ?_))))))
  exact zrRet (zkNil (endQ hS hQ (fR (f82v1_out (-1)))))
 ·simp only [Sum.elim_inr] at hS
  intro e st' _ hX
  obtain ⟨rfl, hX⟩ : _ ∧ _ := hX
  exact zkBlkR (zkSeqR (zkNil (endQ hS hQ (fRet (by kernel_rfl) ((congrArg (fun s => outR s 0 c82.res) hX).trans (f82v1_out z11))))))
/- slices.ContainsFunc[[]int,int] -/
def f59v1_fin (p2 : Bool) : St := ⟨(up u0 4 (dB p2)), h0⟩
theorem f59v1_out (p2 : Bool) : outR (f59v1_fin p2) 0 c59.res = some ((dB p2), []) := by
 kernel_rfl
def f59v1_Q (r : Bool) (e : PX) (st : St) : Prop := DoneF c59 0 ((dB r), []) e st
def f59v1 (a1 : List Int) : Option (Bool) := ((f82v1 a1).bind fun z2 => (bif (decide (0 ≤ z2)) then (some true) else (some false)))
theorem f59v1_ok (d : Nat) (hd : 4 ≤ d) (a1 : List Int) (r : Bool) (hS : f59v1 a1 = some r) : lev codes baseL d 59 [(dL a1), (.fn 60 [])] [] = some ((dB r), []) := by
 refine lev_go codes59 rfl rfl (Nat.le_trans (Nat.le_of_ble_eq_true rfl) hd) fun Q hQ => ?_
 unfold f59v1 at hS
 show ZR _ Q c59_b [] _
 replace hQ : FQ (f59v1_Q r) Q := hQ
 refine zrSeq (zrReg (zL 1 1 (zE (zkSeq (zrSeq (zrReg (zL 2 2 ?_)))))))
 refine bindE hS (fun z2 hz2 hS => zO (some 7) 3 (.call 82 [(tm 5), (tm 6)]) (ev_cA (f82v1_ok (d - 1) (dpt hd rfl) a1 z2 hz2)) (sB 8 4 (.cmpI .geq (tm 7) (ki 0)) hS (fun hS => ?_) (fun hS => ?_)))
 ·refine zL 1 5 (zE (zkSeq ?_))
  exact zrRet (zkNil (endQ hS hQ (fR (f59v1_out true))))
 ·refine zL 1 5 (zE (zkSeq ?_))
  exact zrRet (zkNil (endQ hS hQ (fR (f59v1_out false))))
end
end Go.Proofs.YtbokpgemkkebnaaGreatDoor.Pm
