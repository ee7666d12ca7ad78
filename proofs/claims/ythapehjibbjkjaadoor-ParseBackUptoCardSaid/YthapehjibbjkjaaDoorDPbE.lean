/- Typed functions, and that the codes are these. Printed by dec.py. -/
import Derived.Test.YthapehjibbjkjaaDoorDPbD
namespace Go.Proofs.YthapehjibbjkjaaDoor.Pm
set_option maxRecDepth 1000000
set_option maxHeartbeats 20000000
set_option linter.unusedVariables false
/- farwriter/args.Read -/
def f27_fin (p228 : List Int) (p229 : Int) : St := ⟨(up (up (fun _ => .un) 3 (.d (.int .i64 p229))) 2 (.r (.msl 569 0 0 p228.length))), (up (hB fun _ => 0) 569 ⟨0, some (.own 3 1 ((eInt .i64).cells p228))⟩)⟩
theorem f27_out (p228 : List Int) (p229 : Int) : outR (f27_fin p228 p229) 0 c27.res = some ((.tup [(.r (.own 0 3 1 p228.length ((eInt .i64).cells p228))), (.d (.int .i64 p229))]), []) := by
  exact out_of (ids := []) (ids' := [569]) (l := [(.r (.msl 569 0 0 p228.length)), (.d (.int .i64 p229))]) (by kernel_rfl) (by kernel_rfl) (o_tup (o_cons (o_own (eInt .i64) (e := 3) (k := 1) (xs := p228) (by kernel_rfl) rfl rfl rfl rfl) (o_cons rfl o_nil)))
def f27_Q (r : (List Int) × Int) (e : PX) (st : St) : Prop := DoneF c27 0 ((.tup [(.r (.own 0 3 1 r.1.length ((eInt .i64).cells r.1))), (.d (.int .i64 r.2))]), []) e st
def f27_l2_J (a1 : List UInt8) (x : (List Int) × (List (List UInt8)) × Int × Int) : St := ⟨(up (up (up (up (fun _ => .un) 38 (.d (.int .i64 x.2.2.2))) 37 (.d (.int .i64 x.2.2.1))) 36 (.d (.sl x.2.1.length (eStr.cells x.2.1)))) 5 (.r (.msl 48 0 0 x.1.length))), (up (hB fun _ => 0) 48 ⟨0, some (.own 3 1 ((eInt .i64).cells x.1))⟩)⟩
def f27_l2_H (a1 : List UInt8) (x : (List Int) × (List (List UInt8)) × Int × Int) (st : St) : Prop := keepSt [5, 36, 37, 38] [(48, .id 48)] [] st = f27_l2_J a1 x
def f27_l2_e2_J (a1 : List UInt8) (p412 : List Int) : St := ⟨(up (fun _ => .un) 5 (.r (.msl 48 0 0 p412.length))), (up (hB fun _ => 0) 48 ⟨0, some (.own 3 1 ((eInt .i64).cells p412))⟩)⟩
def f27_l2_X (a1 : List UInt8) (z : ((List Int))) (e : PX) (st : St) : Prop := e = .exit 2 ∧ st = f27_l2_e2_J a1 z
def f27_l2_l6_J (a1 : List UInt8) (x : (List Int) × (List UInt8) × Int × (List (List UInt8)) × Int × Int × Int × Int) : St := ⟨(up (up (up (up (up (up (up (up (fun _ => .un) 47 (.d (.int .i64 x.2.2.2.2.2.2.2))) 46 (.d (.int .i64 x.2.2.2.2.2.2.1))) 38 (.d (.int .i64 x.2.2.2.2.2.1))) 37 (.d (.int .i64 x.2.2.2.2.1))) 36 (.d (.sl x.2.2.2.1.length (eStr.cells x.2.2.2.1)))) 8 (.d (.int .i64 x.2.2.1))) 7 (.d (.str x.2.1))) 5 (.r (.msl 48 0 0 x.1.length))), (up (hB fun _ => 0) 48 ⟨0, some (.own 3 1 ((eInt .i64).cells x.1))⟩)⟩
def f27_l2_l6_H (a1 : List UInt8) (x : (List Int) × (List UInt8) × Int × (List (List UInt8)) × Int × Int × Int × Int) (st : St) : Prop := keepSt [5, 7, 8, 36, 37, 38, 46, 47] [(48, .id 48)] [] st = f27_l2_l6_J a1 x
def f27_l2_l6_e4_J (a1 : List UInt8) (p485 : List Int) (p486 : Int) (p487 : List (List UInt8)) (p488 : Int) (p489 : Int) : St := ⟨(up (up (up (up (up (fun _ => .un) 38 (.d (.int .i64 p489))) 37 (.d (.int .i64 p488))) 36 (.d (.sl p487.length (eStr.cells p487)))) 8 (.d (.int .i64 p486))) 5 (.r (.msl 48 0 0 p485.length))), (up (hB fun _ => 0) 48 ⟨0, some (.own 3 1 ((eInt .i64).cells p485))⟩)⟩
def f27_l2_l6_X (a1 : List UInt8) (z : ((List Int) × Int × (List (List UInt8)) × Int × Int)) (e : PX) (st : St) : Prop := e = .exit 4 ∧ st = f27_l2_l6_e4_J a1 z.1 z.2.1 z.2.2.1 z.2.2.2.1 z.2.2.2.2
def f27_l2_l6_j8_J (a1 : List UInt8) (p508 : List Int) (p509 : List UInt8) (p510 : Int) (p511 : List (List UInt8)) (p512 : Int) (p513 : Int) (p514 : Int) (p515 : Int) : St := ⟨(up (up (up (up (up (up (up (up (fun _ => .un) 47 (.d (.int .i64 p515))) 46 (.d (.int .i64 p514))) 38 (.d (.int .i64 p513))) 37 (.d (.int .i64 p512))) 36 (.d (.sl p511.length (eStr.cells p511)))) 8 (.d (.int .i64 p510))) 7 (.d (.str p509))) 5 (.r (.msl 48 0 0 p508.length))), (up (hB fun _ => 0) 48 ⟨0, some (.own 3 1 ((eInt .i64).cells p508))⟩)⟩
noncomputable def f27_l2_l6_j8 (a1 : List UInt8) (p508 : List Int) (p509 : List UInt8) (p510 : Int) (p511 : List (List UInt8)) (p512 : Int) (p513 : Int) (p514 : Int) (p515 : Int) : Option (((List Int) × (List UInt8) × Int × (List (List UInt8)) × Int × Int × Int × Int) ⊕ (((List Int) × Int × (List (List UInt8)) × Int × Int))) := ((idx p509 p515).bind fun z48 => (some (.inl (p508, p509, (if 16383 < (IntKind.i64.wrap ((IntKind.i64.wrap ((if 0 > p510 then 0 else p510) * 10)) + ((z48 - (48 : UInt8)).toNat : Int))) then 16383 else (IntKind.i64.wrap ((IntKind.i64.wrap ((if 0 > p510 then 0 else p510) * 10)) + ((z48 - (48 : UInt8)).toNat : Int)))), p511, p512, p513, p514, (IntKind.i64.wrap (p515 + 1))))))
theorem f27_l2_l6_j8_ok {d : Nat} (hd : 1 ≤ d) (a1 : List UInt8) {r : ((List Int) × (List UInt8) × Int × (List (List UInt8)) × Int × Int × Int × Int) ⊕ (((List Int) × Int × (List (List UInt8)) × Int × Int))} {Q : PX → St → Prop} (hQ : ∀ e st', finL (f27_l2_l6_H a1) (f27_l2_l6_X a1) r e st' → Q e st') (p508 : List Int) (p509 : List UInt8) (p510 : Int) (p511 : List (List UInt8)) (p512 : Int) (p513 : Int) (p514 : Int) (p515 : Int) (hS : f27_l2_l6_j8 a1 p508 p509 p510 p511 p512 p513 p514 p515 = some r) {st : St} (he : keepSt [5, 7, 8, 36, 37, 38, 46, 47] [(48, .id 48)] [] st = f27_l2_l6_j8_J a1 p508 p509 p510 p511 p512 p513 p514 p515) : ZR (lev codes baseL (d - 1)) Q c27_1 [] st := by
  refine zrKeep he ?_
  unfold f27_l2_l6_j8 at hS
  refine zrSeq ?_
  refine zrBlk ?_
  refine zrSeq ?_
  refine zrReg ?_
  refine zlRun (n := 2) (j := 2) rfl (by kernel_rfl) ?_
  refine zlEnd (by kernel_rfl) ?_
  refine zkSeq ?_
  refine zrReg ?_
  refine zlRun (n := 5) (j := 5) rfl (by kernel_rfl) ?_
  refine bindE hS (fun z48 hz48 hS => ?_)
  refine zlOp (d := some 55) (op := (.ixStr (.tmp 53) (.tmp 54))) (g := none) (v := (.d (.int .u8 (z48.toNat : Int)))) (ups := []) (j := 6) rfl (by kernel_rfl) (by kernel_rfl) (ev_ixStr (kk := .i64) (s := p509) (j := p515) (by kernel_rfl) (by kernel_rfl) hz48) ?_
  refine zlOp (d := some 56) (op := (.arI .sub (.tmp 55) (.const (.int .u8 48)))) (g := none) (v := (.d (.int .u8 ((z48 - (48 : UInt8)).toNat : Int)))) (ups := []) (j := 7) rfl (by kernel_rfl) (by kernel_rfl) (ev_arI (kk := .u8) (a := (z48.toNat : Int)) (c := ((48 : UInt8).toNat : Int)) (by kernel_rfl) (by kernel_rfl) (ar_sub8 z48 (48 : UInt8))) ?_
  refine zlOp (d := some 57) (op := (.cvI .i64 (.tmp 56))) (g := none) (v := (.d (.int .i64 ((z48 - (48 : UInt8)).toNat : Int)))) (ups := []) (j := 8) rfl (by kernel_rfl) (by kernel_rfl) (ev_cv (kk := .u8) (a := ((z48 - (48 : UInt8)).toNat : Int)) (by kernel_rfl) (cv_i64 _)) ?_
  refine zlRun (n := 3) (j := 11) rfl (by kernel_rfl) ?_
  refine zlEnd (by kernel_rfl) ?_
  refine zkBlk ?_
  refine zkSeq ?_
  refine zrReg ?_
  refine zlRun (n := 2) (j := 2) rfl (by kernel_rfl) ?_
  refine zlEnd (by kernel_rfl) ?_
  refine zkNil ?_
  exact endQ hS hQ (finL_n (by show keepSt _ _ _ _ = _; kernel_rfl))
def f27_l2_l6_j7_J (a1 : List UInt8) (p499 : List Int) (p500 : List UInt8) (p501 : Int) (p502 : List (List UInt8)) (p503 : Int) (p504 : Int) (p505 : Int) (p506 : Int) (p507 : Bool) : St := ⟨(up (up (up (up (up (up (up (up (up (fun _ => .un) 48 (.d (.bool p507))) 47 (.d (.int .i64 p506))) 46 (.d (.int .i64 p505))) 38 (.d (.int .i64 p504))) 37 (.d (.int .i64 p503))) 36 (.d (.sl p502.length (eStr.cells p502)))) 8 (.d (.int .i64 p501))) 7 (.d (.str p500))) 5 (.r (.msl 48 0 0 p499.length))), (up (hB fun _ => 0) 48 ⟨0, some (.own 3 1 ((eInt .i64).cells p499))⟩)⟩
noncomputable def f27_l2_l6_j7 (a1 : List UInt8) (p499 : List Int) (p500 : List UInt8) (p501 : Int) (p502 : List (List UInt8)) (p503 : Int) (p504 : Int) (p505 : Int) (p506 : Int) (p507 : Bool) : Option (((List Int) × (List UInt8) × Int × (List (List UInt8)) × Int × Int × Int × Int) ⊕ (((List Int) × Int × (List (List UInt8)) × Int × Int))) := (bif p507 then (f27_l2_l6_j8 a1 p499 p500 p501 p502 p503 p504 p505 p506) else (some (.inr (p499, p501, p502, p503, p504))))
theorem f27_l2_l6_j7_ok {d : Nat} (hd : 1 ≤ d) (a1 : List UInt8) {r : ((List Int) × (List UInt8) × Int × (List (List UInt8)) × Int × Int × Int × Int) ⊕ (((List Int) × Int × (List (List UInt8)) × Int × Int))} {Q : PX → St → Prop} (hQ : ∀ e st', finL (f27_l2_l6_H a1) (f27_l2_l6_X a1) r e st' → Q e st') (p499 : List Int) (p500 : List UInt8) (p501 : Int) (p502 : List (List UInt8)) (p503 : Int) (p504 : Int) (p505 : Int) (p506 : Int) (p507 : Bool) (hS : f27_l2_l6_j7 a1 p499 p500 p501 p502 p503 p504 p505 p506 p507 = some r) {st : St} (he : keepSt [5, 7, 8, 36, 37, 38, 46, 47, 48] [(48, .id 48)] [] st = f27_l2_l6_j7_J a1 p499 p500 p501 p502 p503 p504 p505 p506 p507) : ZR (lev codes baseL (d - 1)) Q c27_2 [] st := by
  refine zrKeep he ?_
  unfold f27_l2_l6_j7 at hS
  refine zrSeq ?_
  refine zrSplit 48 p507 (by kernel_rfl) (fun hc => ?_) (fun hc => ?_)
  · replace hS := cond_t hc hS
    refine zrCondT (by kernel_rfl) ?_
    refine zrSkip ?_
    refine zkSeq ?_
    exact f27_l2_l6_j8_ok hd a1 hQ p499 p500 p501 p502 p503 p504 p505 p506 hS (by kernel_rfl)
  · replace hS := cond_f hc hS
    refine zrCondF (by kernel_rfl) ?_
    refine zrKeep (J := f27_l2_l6_e4_J a1 p499 p501 p502 p503 p504) (by kernel_rfl) ?_
    refine zrExit ?_
    refine zkSeqX ?_
    refine zkNil ?_
    exact endQ hS hQ (finL_x (by intro h; cases h) (by show _ = _ ∧ _ = _; exact ⟨rfl, rfl⟩))
noncomputable def f27_l2_l6 (a1 : List UInt8) (x : (List Int) × (List UInt8) × Int × (List (List UInt8)) × Int × Int × Int × Int) : Option (((List Int) × (List UInt8) × Int × (List (List UInt8)) × Int × Int × Int × Int) ⊕ (((List Int) × Int × (List (List UInt8)) × Int × Int))) := (bif (decide (x.2.2.2.2.2.2.2 < x.2.2.2.2.2.2.1)) then (f27_l2_l6_j7 a1 x.1 x.2.1 x.2.2.1 x.2.2.2.1 x.2.2.2.2.1 x.2.2.2.2.2.1 x.2.2.2.2.2.2.1 x.2.2.2.2.2.2.2 true) else (f27_l2_l6_j7 a1 x.1 x.2.1 x.2.2.1 x.2.2.2.1 x.2.2.2.2.1 x.2.2.2.2.2.1 x.2.2.2.2.2.2.1 x.2.2.2.2.2.2.2 false))
theorem f27_l2_l6_ok {d : Nat} (hd : 1 ≤ d) (a1 : List UInt8) {r : ((List Int) × (List UInt8) × Int × (List (List UInt8)) × Int × Int × Int × Int) ⊕ (((List Int) × Int × (List (List UInt8)) × Int × Int))} {Q : PX → St → Prop} (hQ : ∀ e st', finL (f27_l2_l6_H a1) (f27_l2_l6_X a1) r e st' → Q e st') {x : (List Int) × (List UInt8) × Int × (List (List UInt8)) × Int × Int × Int × Int} (hS : f27_l2_l6 a1 x = some r) {st : St} (he : f27_l2_l6_H a1 x st) : ZR (lev codes baseL (d - 1)) Q c27_3 [] st := by
  refine zrKeep he ?_
  unfold f27_l2_l6 at hS
  refine zrSeq ?_
  refine zrReg ?_
  refine zlBool (d := 48) (op := (.cmpI .lss (.tmp 47) (.tmp 46))) (g := none) (j := 1) (decide (x.2.2.2.2.2.2.2 < x.2.2.2.2.2.2.1)) rfl (by kernel_rfl) (by kernel_rfl) (by kernel_rfl) (fun hc => ?_) (fun hc => ?_)
  · replace hS := cond_t hc hS
    refine zlEnd (by kernel_rfl) ?_
    refine zkSeq ?_
    exact f27_l2_l6_j7_ok hd a1 hQ x.1 x.2.1 x.2.2.1 x.2.2.2.1 x.2.2.2.2.1 x.2.2.2.2.2.1 x.2.2.2.2.2.2.1 x.2.2.2.2.2.2.2 true hS (by kernel_rfl)
  · replace hS := cond_f hc hS
    refine zlEnd (by kernel_rfl) ?_
    refine zkSeq ?_
    exact f27_l2_l6_j7_ok hd a1 hQ x.1 x.2.1 x.2.2.1 x.2.2.2.1 x.2.2.2.2.1 x.2.2.2.2.2.1 x.2.2.2.2.2.2.1 x.2.2.2.2.2.2.2 false hS (by kernel_rfl)
def f27_l2_j5_J (a1 : List UInt8) (p433 : List Int) (p434 : List UInt8) (p435 : List (List UInt8)) (p436 : Int) (p437 : Int) : St := ⟨(up (up (up (up (up (fun _ => .un) 38 (.d (.int .i64 p437))) 37 (.d (.int .i64 p436))) 36 (.d (.sl p435.length (eStr.cells p435)))) 7 (.d (.str p434))) 5 (.r (.msl 48 0 0 p433.length))), (up (hB fun _ => 0) 48 ⟨0, some (.own 3 1 ((eInt .i64).cells p433))⟩)⟩
noncomputable def f27_l2_j5 (a1 : List UInt8) (p433 : List Int) (p434 : List UInt8) (p435 : List (List UInt8)) (p436 : Int) (p437 : Int) : Option (((List Int) × (List (List UInt8)) × Int × Int) ⊕ (((List Int)))) := ((loopO (f27_l2_l6 a1) (p433, p434, (-1), p435, p436, p437, (p434.length : Int), 0)).bind fun z49 => ((app? 8 z49.1 ([z49.2.1] : List Int)).bind fun z50 => (some (.inl (z50, z49.2.2.1, z49.2.2.2.1, (IntKind.i64.wrap (z49.2.2.2.2 + 1)))))))
theorem f27_l2_j5_ok {d : Nat} (hd : 1 ≤ d) (a1 : List UInt8) {r : ((List Int) × (List (List UInt8)) × Int × Int) ⊕ (((List Int)))} {Q : PX → St → Prop} (hQ : ∀ e st', finL (f27_l2_H a1) (f27_l2_X a1) r e st' → Q e st') (p433 : List Int) (p434 : List UInt8) (p435 : List (List UInt8)) (p436 : Int) (p437 : Int) (hS : f27_l2_j5 a1 p433 p434 p435 p436 p437 = some r) {st : St} (he : keepSt [5, 7, 36, 37, 38] [(48, .id 48)] [] st = f27_l2_j5_J a1 p433 p434 p435 p436 p437) : ZR (lev codes baseL (d - 1)) Q c27_4 [.blk 3, .seq c27_5] st := by
  refine zrKeep he ?_
  unfold f27_l2_j5 at hS
  refine zrSeq ?_
  refine zrReg ?_
  refine zlRun (n := 1) (j := 1) rfl (by kernel_rfl) ?_
  refine zlEnd (by kernel_rfl) ?_
  refine zkSeq ?_
  refine zrSeq ?_
  refine zrSeq ?_
  refine zrReg ?_
  refine zlRun (n := 3) (j := 3) rfl (by kernel_rfl) ?_
  refine zlEnd (by kernel_rfl) ?_
  refine zkSeq ?_
  refine zrBlk ?_
  refine bindE hS (fun z49 hz49 hS => ?_)
  refine zrLoop (f27_l2_l6_H a1) (f27_l2_l6_X a1) (fun x st r Q h0 hS hQ => f27_l2_l6_ok hd a1 hQ hS h0) (x := (p433, p434, (-1), p435, p436, p437, (p434.length : Int), 0)) (z := z49) (by show keepSt _ _ _ _ = _; kernel_rfl) hz49 ?_
  intro e st' _ hX
  obtain ⟨rfl, rfl⟩ : _ ∧ _ := hX
  refine zkBlkX ?_
  refine zkSeq ?_
  refine zrReg ?_
  refine zlRun (n := 3) (j := 3) rfl (by kernel_rfl) ?_
  refine bindE hS (fun z50 hz50 hS => ?_)
  refine zlOp (d := some 64) (op := (.app 3 1 8 (.tmp 61) (.tmp 63))) (g := none) (v := (.r (.msl 48 1 0 z50.length))) (ups := [(48, ⟨1, some (.own 3 1 ((eInt .i64).cells z50))⟩)]) (j := 4) rfl (by kernel_rfl) (by kernel_rfl) (ev_app (eInt .i64) (b := 48) (g := 0) (n := z49.1.length) (xs := z49.1) (ys := [z49.2.1]) ((congrArg (asL _) (by kernel_rfl : ρof _ (.tmp 63) = (.r (.msl 512 1 0 (([z49.2.1] : List Int).length))))).trans (as_whole (eInt .i64) (e := 3) (k := 1) (xs := [z49.2.1]) (by kernel_rfl) rfl rfl)) rfl (by kernel_rfl) rfl (by kernel_rfl) rfl hz50) ?_
  refine zlRun (n := 1) (j := 5) rfl (by kernel_rfl) ?_
  refine zlEnd (by kernel_rfl) ?_
  refine zkBlk ?_
  refine zkSeq ?_
  refine zrReg ?_
  refine zlRun (n := 2) (j := 2) rfl (by kernel_rfl) ?_
  refine zlEnd (by kernel_rfl) ?_
  refine zkNil ?_
  exact endQ hS hQ (finL_n (by show keepSt _ _ _ _ = _; kernel_rfl))
def f27_l2_j4_J (a1 : List UInt8) (p423 : List Int) (p424 : List (List UInt8)) (p425 : Int) (p426 : Int) : St := ⟨(up (up (up (up (fun _ => .un) 38 (.d (.int .i64 p426))) 37 (.d (.int .i64 p425))) 36 (.d (.sl p424.length (eStr.cells p424)))) 5 (.r (.msl 48 0 0 p423.length))), (up (hB fun _ => 0) 48 ⟨0, some (.own 3 1 ((eInt .i64).cells p423))⟩)⟩
noncomputable def f27_l2_j4 (a1 : List UInt8) (p423 : List Int) (p424 : List (List UInt8)) (p425 : Int) (p426 : Int) : Option (((List Int) × (List (List UInt8)) × Int × Int) ⊕ (((List Int)))) := ((idx p424 p426).bind fun z44 => (bif (decide ((p423.length : Int) = 32)) then (some (.inr p423)) else (f27_l2_j5 a1 p423 z44 p424 p425 p426)))
theorem f27_l2_j4_ok {d : Nat} (hd : 1 ≤ d) (a1 : List UInt8) {r : ((List Int) × (List (List UInt8)) × Int × Int) ⊕ (((List Int)))} {Q : PX → St → Prop} (hQ : ∀ e st', finL (f27_l2_H a1) (f27_l2_X a1) r e st' → Q e st') (p423 : List Int) (p424 : List (List UInt8)) (p425 : Int) (p426 : Int) (hS : f27_l2_j4 a1 p423 p424 p425 p426 = some r) {st : St} (he : keepSt [5, 36, 37, 38] [(48, .id 48)] [] st = f27_l2_j4_J a1 p423 p424 p425 p426) : ZR (lev codes baseL (d - 1)) Q c27_6 [] st := by
  refine zrKeep he ?_
  unfold f27_l2_j4 at hS
  refine zrSeq ?_
  refine zrBlk ?_
  refine zrSeq ?_
  refine zrReg ?_
  refine bindE hS (fun z44 hz44 hS => ?_)
  refine zlOp (d := some 40) (op := (.ixS 9 1 (.tmp 36) (.tmp 38))) (g := none) (v := (.rptr (eStr.enc z44 ++ (eStr.cells (p424.drop ((p426 : Int).toNat + 1)))))) (ups := []) (j := 1) rfl (by kernel_rfl) (by kernel_rfl) (ev_ixS eStr (kk := .i64) (xs := p424) (j := p426) (by kernel_rfl) (by kernel_rfl) hz44 rfl (by intro h; cases h)) ?_
  refine zlRun (n := 2) (j := 3) rfl (by kernel_rfl) ?_
  refine zlEnd (by kernel_rfl) ?_
  refine zkSeq ?_
  refine zrSeq ?_
  refine zrSeq ?_
  refine zrReg ?_
  refine zlRun (n := 2) (j := 2) rfl (by kernel_rfl) ?_
  refine zlBool (d := 44) (op := (.cmpI .eql (.tmp 43) (.const (.int .i64 32)))) (g := none) (j := 3) (decide ((p423.length : Int) = 32)) rfl (by kernel_rfl) (by kernel_rfl) (by kernel_rfl) (fun hc => ?_) (fun hc => ?_)
  · replace hS := cond_t hc hS
    refine zlEnd (by kernel_rfl) ?_
    refine zkSeq ?_
    refine zrCondT (by kernel_rfl) ?_
    refine zrKeep (J := f27_l2_e2_J a1 p423) (by kernel_rfl) ?_
    refine zrExit ?_
    refine zkSeqX ?_
    refine zkBlkY rfl ?_
    refine zkSeqX ?_
    refine zkNil ?_
    exact endQ hS hQ (finL_x (by intro h; cases h) (by show _ = _ ∧ _ = _; exact ⟨rfl, rfl⟩))
  · replace hS := cond_f hc hS
    refine zlEnd (by kernel_rfl) ?_
    refine zkSeq ?_
    refine zrCondF (by kernel_rfl) ?_
    refine zrSkip ?_
    refine zkSeq ?_
    exact f27_l2_j5_ok hd a1 hQ p423 z44 p424 p425 p426 hS (by kernel_rfl)
def f27_l2_j3_J (a1 : List UInt8) (p418 : List Int) (p419 : List (List UInt8)) (p420 : Int) (p421 : Int) (p422 : Bool) : St := ⟨(up (up (up (up (up (fun _ => .un) 39 (.d (.bool p422))) 38 (.d (.int .i64 p421))) 37 (.d (.int .i64 p420))) 36 (.d (.sl p419.length (eStr.cells p419)))) 5 (.r (.msl 48 0 0 p418.length))), (up (hB fun _ => 0) 48 ⟨0, some (.own 3 1 ((eInt .i64).cells p418))⟩)⟩
noncomputable def f27_l2_j3 (a1 : List UInt8) (p418 : List Int) (p419 : List (List UInt8)) (p420 : Int) (p421 : Int) (p422 : Bool) : Option (((List Int) × (List (List UInt8)) × Int × Int) ⊕ (((List Int)))) := (bif p422 then (f27_l2_j4 a1 p418 p419 p420 p421) else (some (.inr p418)))
theorem f27_l2_j3_ok {d : Nat} (hd : 1 ≤ d) (a1 : List UInt8) {r : ((List Int) × (List (List UInt8)) × Int × Int) ⊕ (((List Int)))} {Q : PX → St → Prop} (hQ : ∀ e st', finL (f27_l2_H a1) (f27_l2_X a1) r e st' → Q e st') (p418 : List Int) (p419 : List (List UInt8)) (p420 : Int) (p421 : Int) (p422 : Bool) (hS : f27_l2_j3 a1 p418 p419 p420 p421 p422 = some r) {st : St} (he : keepSt [5, 36, 37, 38, 39] [(48, .id 48)] [] st = f27_l2_j3_J a1 p418 p419 p420 p421 p422) : ZR (lev codes baseL (d - 1)) Q c27_7 [] st := by
  refine zrKeep he ?_
  unfold f27_l2_j3 at hS
  refine zrSeq ?_
  refine zrSplit 39 p422 (by kernel_rfl) (fun hc => ?_) (fun hc => ?_)
  · replace hS := cond_t hc hS
    refine zrCondT (by kernel_rfl) ?_
    refine zrSkip ?_
    refine zkSeq ?_
    exact f27_l2_j4_ok hd a1 hQ p418 p419 p420 p421 hS (by kernel_rfl)
  · replace hS := cond_f hc hS
    refine zrCondF (by kernel_rfl) ?_
    refine zrKeep (J := f27_l2_e2_J a1 p418) (by kernel_rfl) ?_
    refine zrExit ?_
    refine zkSeqX ?_
    refine zkNil ?_
    exact endQ hS hQ (finL_x (by intro h; cases h) (by show _ = _ ∧ _ = _; exact ⟨rfl, rfl⟩))
noncomputable def f27_l2 (a1 : List UInt8) (x : (List Int) × (List (List UInt8)) × Int × Int) : Option (((List Int) × (List (List UInt8)) × Int × Int) ⊕ (((List Int)))) := (bif (decide (x.2.2.2 < x.2.2.1)) then (f27_l2_j3 a1 x.1 x.2.1 x.2.2.1 x.2.2.2 true) else (f27_l2_j3 a1 x.1 x.2.1 x.2.2.1 x.2.2.2 false))
theorem f27_l2_ok {d : Nat} (hd : 1 ≤ d) (a1 : List UInt8) {r : ((List Int) × (List (List UInt8)) × Int × Int) ⊕ (((List Int)))} {Q : PX → St → Prop} (hQ : ∀ e st', finL (f27_l2_H a1) (f27_l2_X a1) r e st' → Q e st') {x : (List Int) × (List (List UInt8)) × Int × Int} (hS : f27_l2 a1 x = some r) {st : St} (he : f27_l2_H a1 x st) : ZR (lev codes baseL (d - 1)) Q c27_8 [] st := by
  refine zrKeep he ?_
  unfold f27_l2 at hS
  refine zrSeq ?_
  refine zrReg ?_
  refine zlBool (d := 39) (op := (.cmpI .lss (.tmp 38) (.tmp 37))) (g := none) (j := 1) (decide (x.2.2.2 < x.2.2.1)) rfl (by kernel_rfl) (by kernel_rfl) (by kernel_rfl) (fun hc => ?_) (fun hc => ?_)
  · replace hS := cond_t hc hS
    refine zlEnd (by kernel_rfl) ?_
    refine zkSeq ?_
    exact f27_l2_j3_ok hd a1 hQ x.1 x.2.1 x.2.2.1 x.2.2.2 true hS (by kernel_rfl)
  · replace hS := cond_f hc hS
    refine zlEnd (by kernel_rfl) ?_
    refine zkSeq ?_
    exact f27_l2_j3_ok hd a1 hQ x.1 x.2.1 x.2.2.1 x.2.2.2 false hS (by kernel_rfl)
def f27_j1_J (a1 : List UInt8) : St := ⟨(up (fun _ => .un) 0 (.d (.str a1))), (hB fun _ => 0)⟩
noncomputable def f27_j1 (a1 : List UInt8) : Option ((List Int) × Int) := ((libSplit a1 [59]).bind fun z28 => ((loopO (f27_l2 a1) ([], z28, (z28.length : Int), 0)).bind fun z51 => (some (z51, 0))))
theorem f27_j1_ok {d : Nat} (hd : 1 ≤ d) (a1 : List UInt8) {r : (List Int) × Int} {Q : PX → St → Prop} (hQ : ∀ e st', f27_Q r e st' → Q e st')  (hS : f27_j1 a1 = some r) {st : St} (he : keepSt [0] [] [] st = f27_j1_J a1) : ZR (lev codes baseL (d - 1)) Q c27_9 [] st := by
  refine zrKeep he ?_
  unfold f27_j1 at hS
  refine zrSeq ?_
  refine zrReg ?_
  refine zlRun (n := 1) (j := 1) rfl (by kernel_rfl) ?_
  refine zlEnd (by kernel_rfl) ?_
  refine zkSeq ?_
  refine zrSeq ?_
  refine zrSeq ?_
  refine zrReg ?_
  refine zlRun (n := 1) (j := 1) rfl (by kernel_rfl) ?_
  refine bindE hS (fun z28 hz28 hS => ?_)
  refine zlOp (d := some 36) (op := (.call 44 [(.tmp 35), (.const (.string ⟨#[59]⟩))])) (g := none) (j := 2) rfl (by kernel_rfl) (by kernel_rfl) (ev_callA (by kernel_rfl) (libSplit_ok (d - 1) (dpt hd rfl) a1 [59] z28 hz28) (by kernel_rfl) (by kernel_rfl)) ?_
  refine zlRun (n := 2) (j := 4) rfl (by kernel_rfl) ?_
  refine zlEnd (by kernel_rfl) ?_
  refine zkSeq ?_
  refine zrBlk ?_
  refine bindE hS (fun z51 hz51 hS => ?_)
  refine zrLoop (f27_l2_H a1) (f27_l2_X a1) (fun x st r Q h0 hS hQ => f27_l2_ok hd a1 hQ hS h0) (x := ([], z28, (z28.length : Int), 0)) (z := z51) (by show keepSt _ _ _ _ = _; kernel_rfl) hz51 ?_
  intro e st' _ hX
  obtain ⟨rfl, rfl⟩ : _ ∧ _ := hX
  refine zkBlkX ?_
  refine zkSeq ?_
  refine zrSeq ?_
  refine zrReg ?_
  refine zlRun (n := 3) (j := 3) rfl (by kernel_rfl) ?_
  refine zlEnd (by kernel_rfl) ?_
  refine zkSeq ?_
  refine zrRet ?_
  refine zkNil ?_
  exact endQ hS hQ (fRet (by kernel_rfl) ((congrArg (fun s => outR s 0 c27.res) (by kernel_rfl : finSt c27.fin _ = f27_fin z51 0)).trans (f27_out z51 0)))
def f27_l9_J (a1 : List UInt8) (x : Int) : St := ⟨(up (up (up (fun _ => .un) 15 (.d (.int .i64 x))) 14 (.d (.int .i64 (a1.length : Int)))) 0 (.d (.str a1))), (hB fun _ => 0)⟩
def f27_l9_H (a1 : List UInt8) (x : Int) (st : St) : Prop := keepSt [0, 14, 15] [] [] st = f27_l9_J a1 x
def f27_l9_e0_J (a1 : List UInt8) : St := ⟨(up (fun _ => .un) 0 (.d (.str a1))), (hB fun _ => 0)⟩
def f27_l9_X (a1 : List UInt8) (z : Unit ⊕ ((List Int) × Int)) (e : PX) (st : St) : Prop := (match z with | .inl z => e = .exit 0 ∧ st = f27_l9_e0_J a1 | .inr z => e = .ret ∧ finSt c27.fin st = f27_fin z.1 z.2)
def f27_l9_j11_J (a1 : List UInt8) (p520 : Int) : St := ⟨(up (up (up (fun _ => .un) 15 (.d (.int .i64 p520))) 14 (.d (.int .i64 (a1.length : Int)))) 0 (.d (.str a1))), (hB fun _ => 0)⟩
noncomputable def f27_l9_j11 (a1 : List UInt8) (p520 : Int) : Option (Int ⊕ (Unit ⊕ ((List Int) × Int))) := ((idx a1 p520).bind fun z52 => (bif (!decide ((z52.toNat : Int) = 59)) then ((idx a1 p520).bind fun z53 => (bif (decide ((z53.toNat : Int) < 48)) then (some (.inr (.inr ([], 4)))) else ((idx a1 p520).bind fun z54 => (bif (decide (57 < (z54.toNat : Int))) then (some (.inr (.inr ([], 4)))) else (some (.inl (IntKind.i64.wrap (p520 + 1)))))))) else (some (.inl (IntKind.i64.wrap (p520 + 1))))))
theorem f27_l9_j11_ok {d : Nat} (hd : 1 ≤ d) (a1 : List UInt8) {r : Int ⊕ (Unit ⊕ ((List Int) × Int))} {Q : PX → St → Prop} (hQ : ∀ e st', finL (f27_l9_H a1) (f27_l9_X a1) r e st' → Q e st') (p520 : Int) (hS : f27_l9_j11 a1 p520 = some r) {st : St} (he : keepSt [0, 14, 15] [] [] st = f27_l9_j11_J a1 p520) : ZR (lev codes baseL (d - 1)) Q c27_10 [] st := by
  refine zrKeep he ?_
  unfold f27_l9_j11 at hS
  refine zrSeq ?_
  refine zrBlk ?_
  refine zrSeq ?_
  refine zrReg ?_
  refine zlRun (n := 2) (j := 2) rfl (by kernel_rfl) ?_
  refine zlEnd (by kernel_rfl) ?_
  refine zkSeq ?_
  refine zrSeq ?_
  refine zrReg ?_
  refine zlRun (n := 2) (j := 2) rfl (by kernel_rfl) ?_
  refine bindE hS (fun z52 hz52 hS => ?_)
  refine zlOp (d := some 20) (op := (.ixStr (.tmp 18) (.tmp 19))) (g := none) (v := (.d (.int .u8 (z52.toNat : Int)))) (ups := []) (j := 3) rfl (by kernel_rfl) (by kernel_rfl) (ev_ixStr (kk := .i64) (s := a1) (j := p520) (by kernel_rfl) (by kernel_rfl) hz52) ?_
  refine zlBool (d := 21) (op := (.cmpI .neq (.tmp 20) (.const (.int .u8 59)))) (g := none) (j := 4) (!decide ((z52.toNat : Int) = 59)) rfl (by kernel_rfl) (by kernel_rfl) (by kernel_rfl) (fun hc => ?_) (fun hc => ?_)
  · replace hS := cond_t hc hS
    refine zlRun (n := 3) (j := 7) rfl (by kernel_rfl) ?_
    refine bindE hS (fun z53 hz53 hS => ?_)
    refine zlOp (d := some 25) (op := (.ixStr (.tmp 23) (.tmp 24))) (g := (some (22, true))) (v := (.d (.int .u8 (z53.toNat : Int)))) (ups := []) (j := 8) rfl (by kernel_rfl) (by kernel_rfl) (ev_ixStr (kk := .i64) (s := a1) (j := p520) (by kernel_rfl) (by kernel_rfl) hz53) ?_
    refine zlBool (d := 26) (op := (.cmpI .lss (.tmp 25) (.const (.int .u8 48)))) (g := (some (22, true))) (j := 9) (decide ((z53.toNat : Int) < 48)) rfl (by kernel_rfl) (by kernel_rfl) (by kernel_rfl) (fun hc => ?_) (fun hc => ?_)
    · replace hS := cond_t hc hS
      refine zlRun (n := 7) (j := 16) rfl (by kernel_rfl) ?_
      refine zlEnd (by kernel_rfl) ?_
      refine zkSeq ?_
      refine zrCondT (by kernel_rfl) ?_
      refine zrSeq ?_
      refine zrReg ?_
      refine zlRun (n := 2) (j := 2) rfl (by kernel_rfl) ?_
      refine zlEnd (by kernel_rfl) ?_
      refine zkSeq ?_
      refine zrRet ?_
      refine zkBlkR ?_
      refine zkSeqR ?_
      refine zkNil ?_
      exact endQ hS hQ (finL_x (by intro h; cases h) (by show _ = _ ∧ _ = _; exact ⟨rfl, by kernel_rfl⟩))
    · replace hS := cond_f hc hS
      refine zlRun (n := 3) (j := 12) rfl (by kernel_rfl) ?_
      refine bindE hS (fun z54 hz54 hS => ?_)
      refine zlOp (d := some 30) (op := (.ixStr (.tmp 28) (.tmp 29))) (g := (some (27, false))) (v := (.d (.int .u8 (z54.toNat : Int)))) (ups := []) (j := 13) rfl (by kernel_rfl) (by kernel_rfl) (ev_ixStr (kk := .i64) (s := a1) (j := p520) (by kernel_rfl) (by kernel_rfl) hz54) ?_
      refine zlBool (d := 31) (op := (.cmpI .gtr (.tmp 30) (.const (.int .u8 57)))) (g := (some (27, false))) (j := 14) (decide (57 < (z54.toNat : Int))) rfl (by kernel_rfl) (by kernel_rfl) (by kernel_rfl) (fun hc => ?_) (fun hc => ?_)
      · replace hS := cond_t hc hS
        refine zlRun (n := 2) (j := 16) rfl (by kernel_rfl) ?_
        refine zlEnd (by kernel_rfl) ?_
        refine zkSeq ?_
        refine zrCondT (by kernel_rfl) ?_
        refine zrSeq ?_
        refine zrReg ?_
        refine zlRun (n := 2) (j := 2) rfl (by kernel_rfl) ?_
        refine zlEnd (by kernel_rfl) ?_
        refine zkSeq ?_
        refine zrRet ?_
        refine zkBlkR ?_
        refine zkSeqR ?_
        refine zkNil ?_
        exact endQ hS hQ (finL_x (by intro h; cases h) (by show _ = _ ∧ _ = _; exact ⟨rfl, by kernel_rfl⟩))
      · replace hS := cond_f hc hS
        refine zlRun (n := 2) (j := 16) rfl (by kernel_rfl) ?_
        refine zlEnd (by kernel_rfl) ?_
        refine zkSeq ?_
        refine zrCondF (by kernel_rfl) ?_
        refine zrSkip ?_
        refine zkBlk ?_
        refine zkSeq ?_
        refine zrReg ?_
        refine zlRun (n := 2) (j := 2) rfl (by kernel_rfl) ?_
        refine zlEnd (by kernel_rfl) ?_
        refine zkNil ?_
        exact endQ hS hQ (finL_n (by show keepSt _ _ _ _ = _; kernel_rfl))
  · replace hS := cond_f hc hS
    refine zlRun (n := 12) (j := 16) rfl (by kernel_rfl) ?_
    refine zlEnd (by kernel_rfl) ?_
    refine zkSeq ?_
    refine zrCondF (by kernel_rfl) ?_
    refine zrSkip ?_
    refine zkBlk ?_
    refine zkSeq ?_
    refine zrReg ?_
    refine zlRun (n := 2) (j := 2) rfl (by kernel_rfl) ?_
    refine zlEnd (by kernel_rfl) ?_
    refine zkNil ?_
    exact endQ hS hQ (finL_n (by show keepSt _ _ _ _ = _; kernel_rfl))
def f27_l9_j10_J (a1 : List UInt8) (p518 : Int) (p519 : Bool) : St := ⟨(up (up (up (up (fun _ => .un) 16 (.d (.bool p519))) 15 (.d (.int .i64 p518))) 14 (.d (.int .i64 (a1.length : Int)))) 0 (.d (.str a1))), (hB fun _ => 0)⟩
noncomputable def f27_l9_j10 (a1 : List UInt8) (p518 : Int) (p519 : Bool) : Option (Int ⊕ (Unit ⊕ ((List Int) × Int))) := (bif p519 then (f27_l9_j11 a1 p518) else (some (.inr (.inl ()))))
theorem f27_l9_j10_ok {d : Nat} (hd : 1 ≤ d) (a1 : List UInt8) {r : Int ⊕ (Unit ⊕ ((List Int) × Int))} {Q : PX → St → Prop} (hQ : ∀ e st', finL (f27_l9_H a1) (f27_l9_X a1) r e st' → Q e st') (p518 : Int) (p519 : Bool) (hS : f27_l9_j10 a1 p518 p519 = some r) {st : St} (he : keepSt [0, 14, 15, 16] [] [] st = f27_l9_j10_J a1 p518 p519) : ZR (lev codes baseL (d - 1)) Q c27_11 [] st := by
  refine zrKeep he ?_
  unfold f27_l9_j10 at hS
  refine zrSeq ?_
  refine zrSplit 16 p519 (by kernel_rfl) (fun hc => ?_) (fun hc => ?_)
  · replace hS := cond_t hc hS
    refine zrCondT (by kernel_rfl) ?_
    refine zrSkip ?_
    refine zkSeq ?_
    exact f27_l9_j11_ok hd a1 hQ p518 hS (by kernel_rfl)
  · replace hS := cond_f hc hS
    refine zrCondF (by kernel_rfl) ?_
    refine zrKeep (J := f27_l9_e0_J a1) (by kernel_rfl) ?_
    refine zrExit ?_
    refine zkSeqX ?_
    refine zkNil ?_
    exact endQ hS hQ (finL_x (by intro h; cases h) (by show _ = _ ∧ _ = _; exact ⟨rfl, rfl⟩))
noncomputable def f27_l9 (a1 : List UInt8) (x : Int) : Option (Int ⊕ (Unit ⊕ ((List Int) × Int))) := (bif (decide (x < (a1.length : Int))) then (f27_l9_j10 a1 x true) else (f27_l9_j10 a1 x false))
theorem f27_l9_ok {d : Nat} (hd : 1 ≤ d) (a1 : List UInt8) {r : Int ⊕ (Unit ⊕ ((List Int) × Int))} {Q : PX → St → Prop} (hQ : ∀ e st', finL (f27_l9_H a1) (f27_l9_X a1) r e st' → Q e st') {x : Int} (hS : f27_l9 a1 x = some r) {st : St} (he : f27_l9_H a1 x st) : ZR (lev codes baseL (d - 1)) Q c27_12 [] st := by
  refine zrKeep he ?_
  unfold f27_l9 at hS
  refine zrSeq ?_
  refine zrReg ?_
  refine zlBool (d := 16) (op := (.cmpI .lss (.tmp 15) (.tmp 14))) (g := none) (j := 1) (decide (x < (a1.length : Int))) rfl (by kernel_rfl) (by kernel_rfl) (by kernel_rfl) (fun hc => ?_) (fun hc => ?_)
  · replace hS := cond_t hc hS
    refine zlEnd (by kernel_rfl) ?_
    refine zkSeq ?_
    exact f27_l9_j10_ok hd a1 hQ x true hS (by kernel_rfl)
  · replace hS := cond_f hc hS
    refine zlEnd (by kernel_rfl) ?_
    refine zkSeq ?_
    exact f27_l9_j10_ok hd a1 hQ x false hS (by kernel_rfl)
def f27_j0_J (a1 : List UInt8) : St := ⟨(up (fun _ => .un) 0 (.d (.str a1))), (hB fun _ => 0)⟩
noncomputable def f27_j0 (a1 : List UInt8) : Option ((List Int) × Int) := ((loopO (f27_l9 a1) 0).bind fun z55 => (Sum.elim (fun z56 => (f27_j1 a1 )) (fun z57 => (some (z57.1, z57.2))) z55))
theorem f27_j0_ok {d : Nat} (hd : 1 ≤ d) (a1 : List UInt8) {r : (List Int) × Int} {Q : PX → St → Prop} (hQ : ∀ e st', f27_Q r e st' → Q e st')  (hS : f27_j0 a1 = some r) {st : St} (he : keepSt [0] [] [] st = f27_j0_J a1) : ZR (lev codes baseL (d - 1)) Q c27_13 [] st := by
  refine zrKeep he ?_
  unfold f27_j0 at hS
  refine zrSeq ?_
  refine zrSeq ?_
  refine zrReg ?_
  refine zlRun (n := 3) (j := 3) rfl (by kernel_rfl) ?_
  refine zlEnd (by kernel_rfl) ?_
  refine zkSeq ?_
  refine zrBlk ?_
  refine bindE hS (fun z55 hz55 hS => ?_)
  refine zrLoop (f27_l9_H a1) (f27_l9_X a1) (fun x st r Q h0 hS hQ => f27_l9_ok hd a1 hQ hS h0) (x := 0) (z := z55) (by show keepSt _ _ _ _ = _; kernel_rfl) hz55 ?_
  rcases z55 with z56 | z57
  · replace hS := (show _ = _ from hS)
    simp only [Sum.elim_inl] at hS
    intro e st' _ hX
    obtain ⟨rfl, rfl⟩ : _ ∧ _ := hX
    refine zkBlkX ?_
    refine zkSeq ?_
    exact f27_j1_ok hd a1 hQ  hS (by kernel_rfl)
  · simp only [Sum.elim_inr] at hS
    intro e st' _ hX
    obtain ⟨rfl, hX⟩ : _ ∧ _ := hX
    refine zkBlkR ?_
    refine zkSeqR ?_
    refine zkNil ?_
    exact endQ hS hQ (fRet (by kernel_rfl) ((congrArg (fun s => outR s 0 c27.res) hX).trans (f27_out z57.1 z57.2)))
noncomputable def f27 (a1 : List UInt8) : Option ((List Int) × Int) := ((libTrim a1 [48, 49, 50, 51, 52, 53, 54, 55, 56, 57, 59]).bind fun z58 => (bif (!decide (z58 = ([] : List UInt8))) then (some ([], 4)) else (f27_j0 a1 )))
theorem f27_ok (d : Nat) (hd : 1 ≤ d) (a1 : List UInt8) (r : (List Int) × Int) (hS : f27 a1 = some r) : lev codes baseL d 27 [(.d (.str a1))] [] = some ((.tup [(.r (.own 0 3 1 r.1.length ((eInt .i64).cells r.1))), (.d (.int .i64 r.2))]), []) := by
  refine lev_go codes27 rfl rfl (Nat.le_trans (Nat.le_of_ble_eq_true rfl) hd) fun Q hQ => ?_
  unfold f27 at hS
  show ZR _ Q c27_b [] _
  replace hQ : ∀ e st', f27_Q r e st' → Q e st' := hQ
  refine zrSeq ?_
  refine zrReg ?_
  refine zlRun (n := 2) (j := 2) rfl (by kernel_rfl) ?_
  refine zlEnd (by kernel_rfl) ?_
  refine zkSeq ?_
  refine zrSeq ?_
  refine zrSeq ?_
  refine zrReg ?_
  refine zlRun (n := 1) (j := 1) rfl (by kernel_rfl) ?_
  refine bindE hS (fun z58 hz58 hS => ?_)
  refine zlOp (d := some 11) (op := (.call 43 [(.tmp 10), (.const (.string ⟨#[48, 49, 50, 51, 52, 53, 54, 55, 56, 57, 59]⟩))])) (g := none) (j := 2) rfl (by kernel_rfl) (by kernel_rfl) (ev_callA (by kernel_rfl) (libTrim_ok (d - 1) (dpt hd rfl) a1 [48, 49, 50, 51, 52, 53, 54, 55, 56, 57, 59] z58 hz58) (by kernel_rfl) (by kernel_rfl)) ?_
  refine zlBool (d := 12) (op := (.strO .neq (.tmp 11) (.const (.string ⟨#[]⟩)))) (g := none) (j := 3) (!decide (z58 = ([] : List UInt8))) rfl (by kernel_rfl) (by kernel_rfl) (by kernel_rfl) (fun hc => ?_) (fun hc => ?_)
  · replace hS := cond_t hc hS
    refine zlEnd (by kernel_rfl) ?_
    refine zkSeq ?_
    refine zrCondT (by kernel_rfl) ?_
    refine zrSeq ?_
    refine zrReg ?_
    refine zlRun (n := 2) (j := 2) rfl (by kernel_rfl) ?_
    refine zlEnd (by kernel_rfl) ?_
    refine zkSeq ?_
    refine zrRet ?_
    refine zkSeqR ?_
    refine zkNil ?_
    exact endQ hS hQ (fRet (by kernel_rfl) ((congrArg (fun s => outR s 0 c27.res) (by kernel_rfl : finSt c27.fin _ = f27_fin [] 4)).trans (f27_out [] 4)))
  · replace hS := cond_f hc hS
    refine zlEnd (by kernel_rfl) ?_
    refine zkSeq ?_
    refine zrCondF (by kernel_rfl) ?_
    refine zrSkip ?_
    refine zkSeq ?_
    exact f27_j0_ok hd a1 hQ  hS (by kernel_rfl)
/- farwriter/parse.Check -/
def f16_fin (p32 : Int) : St := ⟨(up (fun _ => .un) 2 (.d (.int .i64 p32))), (hB fun _ => 0)⟩
theorem f16_out (p32 : Int) : outR (f16_fin p32) 0 c16.res = some ((.d (.int .i64 p32)), []) := by
  kernel_rfl
def f16_Q (r : Int) (e : PX) (st : St) : Prop := DoneF c16 0 ((.d (.int .i64 r)), []) e st
def f16_j3_J (a1 : GParser) (p67 : Bool) : St := ⟨(up (up (fun _ => .un) 6 (.d (.bool p67))) 1 (.r (.ptr 16 0 0))), (up (hB fun _ => 0) 16 ⟨0, some (.box ((.d (.int .i64 a1.State)) :: ((.d (.int .i64 a1.Mark)) :: ((.d (.str a1.Inter)) :: ((.d (.str a1.Args)) :: ((.d (.str a1.Text)) :: []))))))⟩)⟩
noncomputable def f16_j3 (a1 : GParser) (p67 : Bool) : Option (Int) := (bif p67 then (bif (decide ((a1.Text.length : Int) ≤ 256)) then (bif (decide (a1.Text = ([] : List UInt8))) then (some 0) else (bif (decide (a1.State = 7)) then (some 0) else (bif (decide (a1.State = 8)) then (some 0) else (some 4)))) else (some 4)) else (some 4))
theorem f16_j3_ok {d : Nat} (hd : 3 ≤ d) (a1 : GParser) {r : Int} {Q : PX → St → Prop} (hQ : ∀ e st', f16_Q r e st' → Q e st') (p67 : Bool) (hS : f16_j3 a1 p67 = some r) {st : St} (he : keepSt [1, 6] [(16, .id 16)] [] st = f16_j3_J a1 p67) : ZR (lev codes baseL (d - 1)) Q c16_1 [] st := by
  refine zrKeep he ?_
  unfold f16_j3 at hS
  refine zrSeq ?_
  refine zrReg ?_
  refine zlRun (n := 2) (j := 2) rfl (by kernel_rfl) ?_
  refine zlSplit 85 p67 (by kernel_rfl) (fun hc => ?_) (fun hc => ?_)
  · replace hS := cond_t hc hS
    refine zlRun (n := 3) (j := 5) rfl (by kernel_rfl) ?_
    refine zlBool (d := 89) (op := (.cmpI .leq (.tmp 88) (.const (.int .i64 256)))) (g := (some (85, true))) (j := 6) (decide ((a1.Text.length : Int) ≤ 256)) rfl (by kernel_rfl) (by kernel_rfl) (by kernel_rfl) (fun hc => ?_) (fun hc => ?_)
    · replace hS := cond_t hc hS
      refine zlRun (n := 4) (j := 10) rfl (by kernel_rfl) ?_
      refine zlBool (d := 94) (op := (.strO .eql (.tmp 93) (.const (.string ⟨#[]⟩)))) (g := (some (91, true))) (j := 11) (decide (a1.Text = ([] : List UInt8))) rfl (by kernel_rfl) (by kernel_rfl) (by kernel_rfl) (fun hc => ?_) (fun hc => ?_)
      · replace hS := cond_t hc hS
        refine zlRun (n := 12) (j := 23) rfl (by kernel_rfl) ?_
        refine zlEnd (by kernel_rfl) ?_
        refine zkSeq ?_
        refine zrSeq ?_
        refine zrSeq ?_
        refine zrReg ?_
        refine zlRun (n := 2) (j := 2) rfl (by kernel_rfl) ?_
        refine zlEnd (by kernel_rfl) ?_
        refine zkSeq ?_
        refine zrCondF (by kernel_rfl) ?_
        refine zrSkip ?_
        refine zkSeq ?_
        refine zrSeq ?_
        refine zrReg ?_
        refine zlRun (n := 1) (j := 1) rfl (by kernel_rfl) ?_
        refine zlEnd (by kernel_rfl) ?_
        refine zkSeq ?_
        refine zrRet ?_
        refine zkNil ?_
        exact endQ hS hQ (fRet (by kernel_rfl) ((congrArg (fun s => outR s 0 c16.res) (by kernel_rfl : finSt c16.fin _ = f16_fin 0)).trans (f16_out 0)))
      · replace hS := cond_f hc hS
        refine zlRun (n := 3) (j := 14) rfl (by kernel_rfl) ?_
        refine zlBool (d := 98) (op := (.cmpI .eql (.tmp 97) (.const (.int .i64 7)))) (g := (some (95, false))) (j := 15) (decide (a1.State = 7)) rfl (by kernel_rfl) (by kernel_rfl) (by kernel_rfl) (fun hc => ?_) (fun hc => ?_)
        · replace hS := cond_t hc hS
          refine zlRun (n := 8) (j := 23) rfl (by kernel_rfl) ?_
          refine zlEnd (by kernel_rfl) ?_
          refine zkSeq ?_
          refine zrSeq ?_
          refine zrSeq ?_
          refine zrReg ?_
          refine zlRun (n := 2) (j := 2) rfl (by kernel_rfl) ?_
          refine zlEnd (by kernel_rfl) ?_
          refine zkSeq ?_
          refine zrCondF (by kernel_rfl) ?_
          refine zrSkip ?_
          refine zkSeq ?_
          refine zrSeq ?_
          refine zrReg ?_
          refine zlRun (n := 1) (j := 1) rfl (by kernel_rfl) ?_
          refine zlEnd (by kernel_rfl) ?_
          refine zkSeq ?_
          refine zrRet ?_
          refine zkNil ?_
          exact endQ hS hQ (fRet (by kernel_rfl) ((congrArg (fun s => outR s 0 c16.res) (by kernel_rfl : finSt c16.fin _ = f16_fin 0)).trans (f16_out 0)))
        · replace hS := cond_f hc hS
          refine zlRun (n := 4) (j := 19) rfl (by kernel_rfl) ?_
          refine zlBool (d := 103) (op := (.cmpI .eql (.tmp 102) (.const (.int .i64 8)))) (g := (some (100, false))) (j := 20) (decide (a1.State = 8)) rfl (by kernel_rfl) (by kernel_rfl) (by kernel_rfl) (fun hc => ?_) (fun hc => ?_)
          · replace hS := cond_t hc hS
            refine zlRun (n := 3) (j := 23) rfl (by kernel_rfl) ?_
            refine zlEnd (by kernel_rfl) ?_
            refine zkSeq ?_
            refine zrSeq ?_
            refine zrSeq ?_
            refine zrReg ?_
            refine zlRun (n := 2) (j := 2) rfl (by kernel_rfl) ?_
            refine zlEnd (by kernel_rfl) ?_
            refine zkSeq ?_
            refine zrCondF (by kernel_rfl) ?_
            refine zrSkip ?_
            refine zkSeq ?_
            refine zrSeq ?_
            refine zrReg ?_
            refine zlRun (n := 1) (j := 1) rfl (by kernel_rfl) ?_
            refine zlEnd (by kernel_rfl) ?_
            refine zkSeq ?_
            refine zrRet ?_
            refine zkNil ?_
            exact endQ hS hQ (fRet (by kernel_rfl) ((congrArg (fun s => outR s 0 c16.res) (by kernel_rfl : finSt c16.fin _ = f16_fin 0)).trans (f16_out 0)))
          · replace hS := cond_f hc hS
            refine zlRun (n := 3) (j := 23) rfl (by kernel_rfl) ?_
            refine zlEnd (by kernel_rfl) ?_
            refine zkSeq ?_
            refine zrSeq ?_
            refine zrSeq ?_
            refine zrReg ?_
            refine zlRun (n := 2) (j := 2) rfl (by kernel_rfl) ?_
            refine zlEnd (by kernel_rfl) ?_
            refine zkSeq ?_
            refine zrCondT (by kernel_rfl) ?_
            refine zrSeq ?_
            refine zrReg ?_
            refine zlRun (n := 1) (j := 1) rfl (by kernel_rfl) ?_
            refine zlEnd (by kernel_rfl) ?_
            refine zkSeq ?_
            refine zrRet ?_
            refine zkSeqR ?_
            refine zkNil ?_
            exact endQ hS hQ (fRet (by kernel_rfl) ((congrArg (fun s => outR s 0 c16.res) (by kernel_rfl : finSt c16.fin _ = f16_fin 4)).trans (f16_out 4)))
    · replace hS := cond_f hc hS
      refine zlRun (n := 17) (j := 23) rfl (by kernel_rfl) ?_
      refine zlEnd (by kernel_rfl) ?_
      refine zkSeq ?_
      refine zrSeq ?_
      refine zrSeq ?_
      refine zrReg ?_
      refine zlRun (n := 2) (j := 2) rfl (by kernel_rfl) ?_
      refine zlEnd (by kernel_rfl) ?_
      refine zkSeq ?_
      refine zrCondT (by kernel_rfl) ?_
      refine zrSeq ?_
      refine zrReg ?_
      refine zlRun (n := 1) (j := 1) rfl (by kernel_rfl) ?_
      refine zlEnd (by kernel_rfl) ?_
      refine zkSeq ?_
      refine zrRet ?_
      refine zkSeqR ?_
      refine zkNil ?_
      exact endQ hS hQ (fRet (by kernel_rfl) ((congrArg (fun s => outR s 0 c16.res) (by kernel_rfl : finSt c16.fin _ = f16_fin 4)).trans (f16_out 4)))
  · replace hS := cond_f hc hS
    refine zlRun (n := 21) (j := 23) rfl (by kernel_rfl) ?_
    refine zlEnd (by kernel_rfl) ?_
    refine zkSeq ?_
    refine zrSeq ?_
    refine zrSeq ?_
    refine zrReg ?_
    refine zlRun (n := 2) (j := 2) rfl (by kernel_rfl) ?_
    refine zlEnd (by kernel_rfl) ?_
    refine zkSeq ?_
    refine zrCondT (by kernel_rfl) ?_
    refine zrSeq ?_
    refine zrReg ?_
    refine zlRun (n := 1) (j := 1) rfl (by kernel_rfl) ?_
    refine zlEnd (by kernel_rfl) ?_
    refine zkSeq ?_
    refine zrRet ?_
    refine zkSeqR ?_
    refine zkNil ?_
    exact endQ hS hQ (fRet (by kernel_rfl) ((congrArg (fun s => outR s 0 c16.res) (by kernel_rfl : finSt c16.fin _ = f16_fin 4)).trans (f16_out 4)))
def f16_j2_J (a1 : GParser) (p61 : Int) (p62 : Bool) : St := ⟨(up (up (up (fun _ => .un) 6 (.d (.bool p62))) 5 (.d (.int .i64 p61))) 1 (.r (.ptr 16 0 0))), (up (hB fun _ => 0) 16 ⟨0, some (.box ((.d (.int .i64 a1.State)) :: ((.d (.int .i64 a1.Mark)) :: ((.d (.str a1.Inter)) :: ((.d (.str a1.Args)) :: ((.d (.str a1.Text)) :: []))))))⟩)⟩
noncomputable def f16_j2 (a1 : GParser) (p61 : Int) (p62 : Bool) : Option (Int) := (bif p62 then (bif (decide (p61 = 0)) then (bif (decide ((a1.Args.length : Int) ≤ 100)) then (bif (decide (a1.Args = ([] : List UInt8))) then (f16_j3 a1 true) else (bif (decide (a1.State = 4)) then (f16_j3 a1 true) else (bif (decide (a1.State = 5)) then (f16_j3 a1 true) else (f16_j3 a1 false)))) else (f16_j3 a1 false)) else (f16_j3 a1 false)) else (f16_j3 a1 false))
theorem f16_j2_ok {d : Nat} (hd : 3 ≤ d) (a1 : GParser) {r : Int} {Q : PX → St → Prop} (hQ : ∀ e st', f16_Q r e st' → Q e st') (p61 : Int) (p62 : Bool) (hS : f16_j2 a1 p61 p62 = some r) {st : St} (he : keepSt [1, 5, 6] [(16, .id 16)] [] st = f16_j2_J a1 p61 p62) : ZR (lev codes baseL (d - 1)) Q c16_2 [] st := by
  refine zrKeep he ?_
  unfold f16_j2 at hS
  refine zrSeq ?_
  refine zrReg ?_
  refine zlRun (n := 2) (j := 2) rfl (by kernel_rfl) ?_
  refine zlSplit 59 p62 (by kernel_rfl) (fun hc => ?_) (fun hc => ?_)
  · replace hS := cond_t hc hS
    refine zlRun (n := 1) (j := 3) rfl (by kernel_rfl) ?_
    refine zlBool (d := 61) (op := (.cmpI .eql (.tmp 60) (.const (.int .i64 0)))) (g := (some (59, true))) (j := 4) (decide (p61 = 0)) rfl (by kernel_rfl) (by kernel_rfl) (by kernel_rfl) (fun hc => ?_) (fun hc => ?_)
    · replace hS := cond_t hc hS
      refine zlRun (n := 5) (j := 9) rfl (by kernel_rfl) ?_
      refine zlBool (d := 67) (op := (.cmpI .leq (.tmp 66) (.const (.int .i64 100)))) (g := (some (63, true))) (j := 10) (decide ((a1.Args.length : Int) ≤ 100)) rfl (by kernel_rfl) (by kernel_rfl) (by kernel_rfl) (fun hc => ?_) (fun hc => ?_)
      · replace hS := cond_t hc hS
        refine zlRun (n := 4) (j := 14) rfl (by kernel_rfl) ?_
        refine zlBool (d := 72) (op := (.strO .eql (.tmp 71) (.const (.string ⟨#[]⟩)))) (g := (some (69, true))) (j := 15) (decide (a1.Args = ([] : List UInt8))) rfl (by kernel_rfl) (by kernel_rfl) (by kernel_rfl) (fun hc => ?_) (fun hc => ?_)
        · replace hS := cond_t hc hS
          refine zlRun (n := 12) (j := 27) rfl (by kernel_rfl) ?_
          refine zlEnd (by kernel_rfl) ?_
          refine zkSeq ?_
          exact f16_j3_ok hd a1 hQ true hS (by kernel_rfl)
        · replace hS := cond_f hc hS
          refine zlRun (n := 3) (j := 18) rfl (by kernel_rfl) ?_
          refine zlBool (d := 76) (op := (.cmpI .eql (.tmp 75) (.const (.int .i64 4)))) (g := (some (73, false))) (j := 19) (decide (a1.State = 4)) rfl (by kernel_rfl) (by kernel_rfl) (by kernel_rfl) (fun hc => ?_) (fun hc => ?_)
          · replace hS := cond_t hc hS
            refine zlRun (n := 8) (j := 27) rfl (by kernel_rfl) ?_
            refine zlEnd (by kernel_rfl) ?_
            refine zkSeq ?_
            exact f16_j3_ok hd a1 hQ true hS (by kernel_rfl)
          · replace hS := cond_f hc hS
            refine zlRun (n := 4) (j := 23) rfl (by kernel_rfl) ?_
            refine zlBool (d := 81) (op := (.cmpI .eql (.tmp 80) (.const (.int .i64 5)))) (g := (some (78, false))) (j := 24) (decide (a1.State = 5)) rfl (by kernel_rfl) (by kernel_rfl) (by kernel_rfl) (fun hc => ?_) (fun hc => ?_)
            · replace hS := cond_t hc hS
              refine zlRun (n := 3) (j := 27) rfl (by kernel_rfl) ?_
              refine zlEnd (by kernel_rfl) ?_
              refine zkSeq ?_
              exact f16_j3_ok hd a1 hQ true hS (by kernel_rfl)
            · replace hS := cond_f hc hS
              refine zlRun (n := 3) (j := 27) rfl (by kernel_rfl) ?_
              refine zlEnd (by kernel_rfl) ?_
              refine zkSeq ?_
              exact f16_j3_ok hd a1 hQ false hS (by kernel_rfl)
      · replace hS := cond_f hc hS
        refine zlRun (n := 17) (j := 27) rfl (by kernel_rfl) ?_
        refine zlEnd (by kernel_rfl) ?_
        refine zkSeq ?_
        exact f16_j3_ok hd a1 hQ false hS (by kernel_rfl)
    · replace hS := cond_f hc hS
      refine zlRun (n := 23) (j := 27) rfl (by kernel_rfl) ?_
      refine zlEnd (by kernel_rfl) ?_
      refine zkSeq ?_
      exact f16_j3_ok hd a1 hQ false hS (by kernel_rfl)
  · replace hS := cond_f hc hS
    refine zlRun (n := 25) (j := 27) rfl (by kernel_rfl) ?_
    refine zlEnd (by kernel_rfl) ?_
    refine zkSeq ?_
    exact f16_j3_ok hd a1 hQ false hS (by kernel_rfl)
def f16_j1_J (a1 : GParser) (p48 : Bool) (p49 : Int) (p50 : Bool) : St := ⟨(up (up (up (up (fun _ => .un) 6 (.d (.bool p50))) 5 (.d (.int .i64 p49))) 3 (.d (.bool p48))) 1 (.r (.ptr 16 0 0))), (up (hB fun _ => 0) 16 ⟨0, some (.box ((.d (.int .i64 a1.State)) :: ((.d (.int .i64 a1.Mark)) :: ((.d (.str a1.Inter)) :: ((.d (.str a1.Args)) :: ((.d (.str a1.Text)) :: []))))))⟩)⟩
noncomputable def f16_j1 (a1 : GParser) (p48 : Bool) (p49 : Int) (p50 : Bool) : Option (Int) := (bif p50 then ((f11 a1.Inter 3).bind fun z9 => (bif z9 then (bif (!decide (a1.Inter = ([] : List UInt8))) then (bif (decide (true = p48)) then (f16_j2 a1 p49 true) else (f16_j2 a1 p49 false)) else (bif (decide (false = p48)) then (f16_j2 a1 p49 true) else (f16_j2 a1 p49 false))) else (f16_j2 a1 p49 false))) else (f16_j2 a1 p49 false))
theorem f16_j1_ok {d : Nat} (hd : 3 ≤ d) (a1 : GParser) {r : Int} {Q : PX → St → Prop} (hQ : ∀ e st', f16_Q r e st' → Q e st') (p48 : Bool) (p49 : Int) (p50 : Bool) (hS : f16_j1 a1 p48 p49 p50 = some r) {st : St} (he : keepSt [1, 3, 5, 6] [(16, .id 16)] [] st = f16_j1_J a1 p48 p49 p50) : ZR (lev codes baseL (d - 1)) Q c16_3 [] st := by
  refine zrKeep he ?_
  unfold f16_j1 at hS
  refine zrSeq ?_
  refine zrReg ?_
  refine zlRun (n := 2) (j := 2) rfl (by kernel_rfl) ?_
  refine zlSplit 46 p50 (by kernel_rfl) (fun hc => ?_) (fun hc => ?_)
  · replace hS := cond_t hc hS
    refine zlRun (n := 2) (j := 4) rfl (by kernel_rfl) ?_
    refine bindE hS (fun z9 hz9 hS => ?_)
    refine zlOp (d := some 49) (op := (.call 11 [(.tmp 48), (.const (.int .i64 3))])) (g := (some (46, true))) (j := 5) rfl (by kernel_rfl) (by kernel_rfl) (ev_callA (by kernel_rfl) (f11_ok (d - 1) (dpt hd rfl) a1.Inter 3 z9 hz9) (by kernel_rfl) (by kernel_rfl)) ?_
    refine zlRun (n := 2) (j := 7) rfl (by kernel_rfl) ?_
    refine zlSplit 51 z9 (by kernel_rfl) (fun hc => ?_) (fun hc => ?_)
    · replace hS := cond_t hc hS
      refine zlRun (n := 2) (j := 9) rfl (by kernel_rfl) ?_
      refine zlBool (d := 54) (op := (.strO .neq (.tmp 53) (.const (.string ⟨#[]⟩)))) (g := (some (51, true))) (j := 10) (!decide (a1.Inter = ([] : List UInt8))) rfl (by kernel_rfl) (by kernel_rfl) (by kernel_rfl) (fun hc => ?_) (fun hc => ?_)
      · replace hS := cond_t hc hS
        refine zlRun (n := 1) (j := 11) rfl (by kernel_rfl) ?_
        refine zlBool (d := 56) (op := (.eqB .false (.tmp 54) (.tmp 55))) (g := (some (51, true))) (j := 12) (decide (true = p48)) rfl (by kernel_rfl) (by kernel_rfl) (by kernel_rfl) (fun hc => ?_) (fun hc => ?_)
        · replace hS := cond_t hc hS
          refine zlRun (n := 2) (j := 14) rfl (by kernel_rfl) ?_
          refine zlEnd (by kernel_rfl) ?_
          refine zkSeq ?_
          exact f16_j2_ok hd a1 hQ p49 true hS (by kernel_rfl)
        · replace hS := cond_f hc hS
          refine zlRun (n := 2) (j := 14) rfl (by kernel_rfl) ?_
          refine zlEnd (by kernel_rfl) ?_
          refine zkSeq ?_
          exact f16_j2_ok hd a1 hQ p49 false hS (by kernel_rfl)
      · replace hS := cond_f hc hS
        refine zlRun (n := 1) (j := 11) rfl (by kernel_rfl) ?_
        refine zlBool (d := 56) (op := (.eqB .false (.tmp 54) (.tmp 55))) (g := (some (51, true))) (j := 12) (decide (false = p48)) rfl (by kernel_rfl) (by kernel_rfl) (by kernel_rfl) (fun hc => ?_) (fun hc => ?_)
        · replace hS := cond_t hc hS
          refine zlRun (n := 2) (j := 14) rfl (by kernel_rfl) ?_
          refine zlEnd (by kernel_rfl) ?_
          refine zkSeq ?_
          exact f16_j2_ok hd a1 hQ p49 true hS (by kernel_rfl)
        · replace hS := cond_f hc hS
          refine zlRun (n := 2) (j := 14) rfl (by kernel_rfl) ?_
          refine zlEnd (by kernel_rfl) ?_
          refine zkSeq ?_
          exact f16_j2_ok hd a1 hQ p49 false hS (by kernel_rfl)
    · replace hS := cond_f hc hS
      refine zlRun (n := 7) (j := 14) rfl (by kernel_rfl) ?_
      refine zlEnd (by kernel_rfl) ?_
      refine zkSeq ?_
      exact f16_j2_ok hd a1 hQ p49 false hS (by kernel_rfl)
  · replace hS := cond_f hc hS
    refine zlRun (n := 12) (j := 14) rfl (by kernel_rfl) ?_
    refine zlEnd (by kernel_rfl) ?_
    refine zkSeq ?_
    exact f16_j2_ok hd a1 hQ p49 false hS (by kernel_rfl)
def f16_j0_J (a1 : GParser) (p34 : Bool) : St := ⟨(up (up (fun _ => .un) 3 (.d (.bool p34))) 1 (.r (.ptr 16 0 0))), (up (hB fun _ => 0) 16 ⟨0, some (.box ((.d (.int .i64 a1.State)) :: ((.d (.int .i64 a1.Mark)) :: ((.d (.str a1.Inter)) :: ((.d (.str a1.Args)) :: ((.d (.str a1.Text)) :: []))))))⟩)⟩
noncomputable def f16_j0 (a1 : GParser) (p34 : Bool) : Option (Int) := ((f27 a1.Args).bind fun z5 => ((f10 a1.State 0 10).bind fun z6 => (bif z6 then (bif (decide (a1.Mark = 0)) then (f16_j1 a1 p34 z5.2 true) else ((f10 a1.Mark 60 63).bind fun z10 => (bif z10 then (bif (decide (a1.State = 4)) then (f16_j1 a1 p34 z5.2 true) else (bif (decide (a1.State = 5)) then (f16_j1 a1 p34 z5.2 true) else (f16_j1 a1 p34 z5.2 false))) else (f16_j1 a1 p34 z5.2 false)))) else (f16_j1 a1 p34 z5.2 false))))
theorem f16_j0_ok {d : Nat} (hd : 3 ≤ d) (a1 : GParser) {r : Int} {Q : PX → St → Prop} (hQ : ∀ e st', f16_Q r e st' → Q e st') (p34 : Bool) (hS : f16_j0 a1 p34 = some r) {st : St} (he : keepSt [1, 3] [(16, .id 16)] [] st = f16_j0_J a1 p34) : ZR (lev codes baseL (d - 1)) Q c16_4 [] st := by
  refine zrKeep he ?_
  unfold f16_j0 at hS
  refine zrSeq ?_
  refine zrReg ?_
  refine zlRun (n := 2) (j := 2) rfl (by kernel_rfl) ?_
  refine bindE hS (fun z5 hz5 hS => ?_)
  refine zlOp (d := some 18) (op := (.call 27 [(.tmp 17)])) (g := none) (j := 3) rfl (by kernel_rfl) (by kernel_rfl) (ev_callA (by kernel_rfl) (f27_ok (d - 1) (dpt hd rfl) a1.Args z5 hz5) (by kernel_rfl) (by kernel_rfl)) ?_
  refine zlRun (n := 5) (j := 8) rfl (by kernel_rfl) ?_
  refine zlEnd (by kernel_rfl) ?_
  refine zkSeq ?_
  refine zrSeq ?_
  refine zrReg ?_
  refine zlRun (n := 2) (j := 2) rfl (by kernel_rfl) ?_
  refine bindE hS (fun z6 hz6 hS => ?_)
  refine zlOp (d := some 23) (op := (.call 10 [(.tmp 22), (.const (.int .i64 0)), (.const (.int .i64 10))])) (g := none) (j := 3) rfl (by kernel_rfl) (by kernel_rfl) (ev_callA (by kernel_rfl) (f10_ok (d - 1) (dpt hd rfl) a1.State 0 10 z6 hz6) (by kernel_rfl) (by kernel_rfl)) ?_
  refine zlRun (n := 1) (j := 4) rfl (by kernel_rfl) ?_
  refine zlEnd (by kernel_rfl) ?_
  refine zkSeq ?_
  refine zrSeq ?_
  refine zrReg ?_
  refine zlRun (n := 2) (j := 2) rfl (by kernel_rfl) ?_
  refine zlSplit 25 z6 (by kernel_rfl) (fun hc => ?_) (fun hc => ?_)
  · replace hS := cond_t hc hS
    refine zlRun (n := 2) (j := 4) rfl (by kernel_rfl) ?_
    refine zlBool (d := 28) (op := (.cmpI .eql (.tmp 27) (.const (.int .i64 0)))) (g := (some (25, true))) (j := 5) (decide (a1.Mark = 0)) rfl (by kernel_rfl) (by kernel_rfl) (by kernel_rfl) (fun hc => ?_) (fun hc => ?_)
    · replace hS := cond_t hc hS
      refine zlRun (n := 17) (j := 22) rfl (by kernel_rfl) ?_
      refine zlEnd (by kernel_rfl) ?_
      refine zkSeq ?_
      exact f16_j1_ok hd a1 hQ p34 z5.2 true hS (by kernel_rfl)
    · replace hS := cond_f hc hS
      refine zlRun (n := 3) (j := 8) rfl (by kernel_rfl) ?_
      refine bindE hS (fun z10 hz10 hS => ?_)
      refine zlOp (d := some 32) (op := (.call 10 [(.tmp 31), (.const (.int .i64 60)), (.const (.int .i64 63))])) (g := (some (29, false))) (j := 9) rfl (by kernel_rfl) (by kernel_rfl) (ev_callA (by kernel_rfl) (f10_ok (d - 1) (dpt hd rfl) a1.Mark 60 63 z10 hz10) (by kernel_rfl) (by kernel_rfl)) ?_
      refine zlRun (n := 1) (j := 10) rfl (by kernel_rfl) ?_
      refine zlSplit 33 z10 (by kernel_rfl) (fun hc => ?_) (fun hc => ?_)
      · replace hS := cond_t hc hS
        refine zlRun (n := 2) (j := 12) rfl (by kernel_rfl) ?_
        refine zlBool (d := 36) (op := (.cmpI .eql (.tmp 35) (.const (.int .i64 4)))) (g := (some (33, true))) (j := 13) (decide (a1.State = 4)) rfl (by kernel_rfl) (by kernel_rfl) (by kernel_rfl) (fun hc => ?_) (fun hc => ?_)
        · replace hS := cond_t hc hS
          refine zlRun (n := 9) (j := 22) rfl (by kernel_rfl) ?_
          refine zlEnd (by kernel_rfl) ?_
          refine zkSeq ?_
          exact f16_j1_ok hd a1 hQ p34 z5.2 true hS (by kernel_rfl)
        · replace hS := cond_f hc hS
          refine zlRun (n := 3) (j := 16) rfl (by kernel_rfl) ?_
          refine zlBool (d := 40) (op := (.cmpI .eql (.tmp 39) (.const (.int .i64 5)))) (g := (some (37, false))) (j := 17) (decide (a1.State = 5)) rfl (by kernel_rfl) (by kernel_rfl) (by kernel_rfl) (fun hc => ?_) (fun hc => ?_)
          · replace hS := cond_t hc hS
            refine zlRun (n := 5) (j := 22) rfl (by kernel_rfl) ?_
            refine zlEnd (by kernel_rfl) ?_
            refine zkSeq ?_
            exact f16_j1_ok hd a1 hQ p34 z5.2 true hS (by kernel_rfl)
          · replace hS := cond_f hc hS
            refine zlRun (n := 5) (j := 22) rfl (by kernel_rfl) ?_
            refine zlEnd (by kernel_rfl) ?_
            refine zkSeq ?_
            exact f16_j1_ok hd a1 hQ p34 z5.2 false hS (by kernel_rfl)
      · replace hS := cond_f hc hS
        refine zlRun (n := 12) (j := 22) rfl (by kernel_rfl) ?_
        refine zlEnd (by kernel_rfl) ?_
        refine zkSeq ?_
        exact f16_j1_ok hd a1 hQ p34 z5.2 false hS (by kernel_rfl)
  · replace hS := cond_f hc hS
    refine zlRun (n := 20) (j := 22) rfl (by kernel_rfl) ?_
    refine zlEnd (by kernel_rfl) ?_
    refine zkSeq ?_
    exact f16_j1_ok hd a1 hQ p34 z5.2 false hS (by kernel_rfl)
noncomputable def f16 (a1 : GParser) : Option (Int) := (bif (decide (a1.State = 2)) then (f16_j0 a1 true) else (bif (decide (a1.State = 5)) then (f16_j0 a1 true) else (f16_j0 a1 false)))
theorem f16_ok (d : Nat) (hd : 3 ≤ d) (a1 : GParser) (r : Int) (hS : f16 a1 = some r) : lev codes baseL d 16 [(.agg ((.d (.int .i64 a1.State)) :: ((.d (.int .i64 a1.Mark)) :: ((.d (.str a1.Inter)) :: ((.d (.str a1.Args)) :: ((.d (.str a1.Text)) :: []))))))] [] = some ((.d (.int .i64 r)), []) := by
  refine lev_go codes16 rfl rfl (Nat.le_trans (Nat.le_of_ble_eq_true rfl) hd) fun Q hQ => ?_
  unfold f16 at hS
  show ZR _ Q c16_b [] _
  replace hQ : ∀ e st', f16_Q r e st' → Q e st' := hQ
  refine zrSeq ?_
  refine zrReg ?_
  refine zlRun (n := 2) (j := 2) rfl (by kernel_rfl) ?_
  refine zlEnd (by kernel_rfl) ?_
  refine zkSeq ?_
  refine zrSeq ?_
  refine zrReg ?_
  refine zlRun (n := 2) (j := 2) rfl (by kernel_rfl) ?_
  refine zlBool (d := 9) (op := (.cmpI .eql (.tmp 8) (.const (.int .i64 2)))) (g := none) (j := 3) (decide (a1.State = 2)) rfl (by kernel_rfl) (by kernel_rfl) (by kernel_rfl) (fun hc => ?_) (fun hc => ?_)
  · replace hS := cond_t hc hS
    refine zlRun (n := 6) (j := 9) rfl (by kernel_rfl) ?_
    refine zlEnd (by kernel_rfl) ?_
    refine zkSeq ?_
    exact f16_j0_ok hd a1 hQ true hS (by kernel_rfl)
  · replace hS := cond_f hc hS
    refine zlRun (n := 3) (j := 6) rfl (by kernel_rfl) ?_
    refine zlBool (d := 13) (op := (.cmpI .eql (.tmp 12) (.const (.int .i64 5)))) (g := (some (10, false))) (j := 7) (decide (a1.State = 5)) rfl (by kernel_rfl) (by kernel_rfl) (by kernel_rfl) (fun hc => ?_) (fun hc => ?_)
    · replace hS := cond_t hc hS
      refine zlRun (n := 2) (j := 9) rfl (by kernel_rfl) ?_
      refine zlEnd (by kernel_rfl) ?_
      refine zkSeq ?_
      exact f16_j0_ok hd a1 hQ true hS (by kernel_rfl)
    · replace hS := cond_f hc hS
      refine zlRun (n := 2) (j := 9) rfl (by kernel_rfl) ?_
      refine zlEnd (by kernel_rfl) ?_
      refine zkSeq ?_
      exact f16_j0_ok hd a1 hQ false hS (by kernel_rfl)
/- (*farwriter/parse.machine).emit -/
def f29_fin (p1 : Int) (p2 : Int) (p3 : List UInt8) (p4 : List UInt8) (p5 : List UInt8) (p6 : List GAct) : St := ⟨(up (fun _ => .un) 1000001 .un), (up (up (hB fun _ => 0) 1 ⟨1, some (.own 25 6 (e_GAct.cells p6))⟩) 0 ⟨0, some (.box ((.d (.int .i64 p1)) :: ((.d (.int .i64 p2)) :: ((.d (.str p3)) :: ((.d (.str p4)) :: ((.d (.str p5)) :: ((.r (.msl 1 1 0 p6.length)) :: [])))))))⟩)⟩
theorem f29_out (p1 : Int) (p2 : Int) (p3 : List UInt8) (p4 : List UInt8) (p5 : List UInt8) (p6 : List GAct) : outR (f29_fin p1 p2 p3 p4 p5 p6) 2 c29.res = some ((.tup []), [(.box ((.d (.int .i64 p1)) :: ((.d (.int .i64 p2)) :: ((.d (.str p3)) :: ((.d (.str p4)) :: ((.d (.str p5)) :: ((.r (.msl 1 0 0 p6.length)) :: []))))))), (.own 25 6 (e_GAct.cells p6))]) := by
  kernel_rfl
def f29_Q (r : Int × Int × (List UInt8) × (List UInt8) × (List UInt8) × (List GAct)) (e : PX) (st : St) : Prop := DoneF c29 2 ((.tup []), [(.box ((.d (.int .i64 r.1)) :: ((.d (.int .i64 r.2.1)) :: ((.d (.str r.2.2.1)) :: ((.d (.str r.2.2.2.1)) :: ((.d (.str r.2.2.2.2.1)) :: ((.r (.msl 1 0 0 r.2.2.2.2.2.length)) :: []))))))), (.own 25 6 (e_GAct.cells r.2.2.2.2.2))]) e st
noncomputable def f29 (a1 : GAct) (a2 : Int) (a3 : Int) (a4 : List UInt8) (a5 : List UInt8) (a6 : List UInt8) (a7 : List GAct) : Option (Int × Int × (List UInt8) × (List UInt8) × (List UInt8) × (List GAct)) := ((app? 80 a7 ([a1] : List GAct)).bind fun z2 => (some (a2, a3, a4, a5, a6, z2)))
theorem f29_ok (d : Nat) (hd : 1 ≤ d) (a1 : GAct) (a2 : Int) (a3 : Int) (a4 : List UInt8) (a5 : List UInt8) (a6 : List UInt8) (a7 : List GAct) (r : Int × Int × (List UInt8) × (List UInt8) × (List UInt8) × (List GAct)) (hS : f29 a1 a2 a3 a4 a5 a6 a7 = some r) : lev codes baseL d 29 [(.r (.ptr 0 0 0)), (.agg ((.d (.int .i64 a1.Kind)) :: ((.d (.int .i64 a1.Code)) :: ((.d (.int .i64 a1.Mark)) :: ((.d (.str a1.Inter)) :: ((.d (.sl a1.Args.length ((eInt .i64).cells a1.Args))) :: ((.d (.str a1.Text)) :: [])))))))] [(.box ((.d (.int .i64 a2)) :: ((.d (.int .i64 a3)) :: ((.d (.str a4)) :: ((.d (.str a5)) :: ((.d (.str a6)) :: ((.r (.msl 1 0 0 a7.length)) :: []))))))), (.own 25 6 (e_GAct.cells a7))] = some ((.tup []), [(.box ((.d (.int .i64 r.1)) :: ((.d (.int .i64 r.2.1)) :: ((.d (.str r.2.2.1)) :: ((.d (.str r.2.2.2.1)) :: ((.d (.str r.2.2.2.2.1)) :: ((.r (.msl 1 0 0 r.2.2.2.2.2.length)) :: []))))))), (.own 25 6 (e_GAct.cells r.2.2.2.2.2))]) := by
  refine lev_go codes29 rfl rfl (Nat.le_trans (Nat.le_of_ble_eq_true rfl) hd) fun Q hQ => ?_
  unfold f29 at hS
  show ZR _ Q c29_b [] _
  replace hQ : ∀ e st', f29_Q r e st' → Q e st' := hQ
  refine zrSeq ?_
  refine zrReg ?_
  refine zlRun (n := 1) (j := 1) rfl (by kernel_rfl) ?_
  refine zlEnd (by kernel_rfl) ?_
  refine zkSeq ?_
  refine zrRegD ?_
  refine zdRun (n := 7) (j := 7) (ts := [[], [], [], [], [(0, false)], [(32, false)], [(88, true)]]) (acc' := [[], [], [], [], [(0, false)], [(32, false)], [(88, true)]]) rfl (by kernel_rfl) (by kernel_rfl) (by kernel_rfl) ?_
  refine bindE hS (fun z2 hz2 hS => ?_)
  refine zdOp (d := some 11) (op := (.app 25 6 80 (.tmp 8) (.tmp 10))) (g := none) (v := (.r (.msl 1 1 0 z2.length))) (ups := [(1, ⟨1, some (.own 25 6 (e_GAct.cells z2))⟩)]) (j := 8) (t1 := [(96, true), (1, true), (88, false)]) (acc' := [[], [], [], [], [(0, false)], [(32, false)], [(88, true)], [(96, true), (1, true), (88, false)]]) (by kernel_rfl) (by kernel_rfl) rfl (by kernel_rfl) (by kernel_rfl) (ev_app e_GAct (b := 1) (g := 0) (n := a7.length) (xs := a7) (ys := [a1]) ((congrArg (asL _) (by kernel_rfl : ρof _ (.tmp 10) = (.r (.msl 88 1 0 (([a1] : List GAct).length))))).trans (as_whole e_GAct (e := 25) (k := 6) (xs := [a1]) (by kernel_rfl) rfl rfl)) rfl (by kernel_rfl) rfl (by kernel_rfl) rfl hz2) ?_
  refine zdRun (n := 3) (j := 11) (ts := [[], [], [(0, true)]]) (acc' := [[], [], [], [], [(0, false)], [(32, false)], [(88, true)], [(96, true), (1, true), (88, false)], [], [], [(0, true)]]) rfl (by kernel_rfl) (by kernel_rfl) (by kernel_rfl) ?_
  refine zdEnd (by kernel_rfl) (by kernel_rfl) ?_
  refine zkNil ?_
  exact endQ hS hQ (fNorm (by kernel_rfl) ((congrArg (fun s => outR s 2 c29.res) (by kernel_rfl : finSt c29.fin _ = f29_fin a2 a3 a4 a5 a6 z2)).trans (f29_out a2 a3 a4 a5 a6 z2)))
/- (*farwriter/parse.machine).enter -/
def f30_fin (p1 : Int) (p2 : List GAct) : St := ⟨(up (fun _ => .un) 1000001 .un), (up (up (hB fun _ => 0) 1 ⟨1, some (.own 25 6 (e_GAct.cells p2))⟩) 0 ⟨0, some (.box ((.d (.int .i64 p1)) :: ((.d (.int .i64 0)) :: ((.d (.str ([]))) :: ((.d (.str ([]))) :: ((.d (.str ([]))) :: ((.r (.msl 1 1 0 p2.length)) :: [])))))))⟩)⟩
theorem f30_out (p1 : Int) (p2 : List GAct) : outR (f30_fin p1 p2) 2 c30.res = some ((.tup []), [(.box ((.d (.int .i64 p1)) :: ((.d (.int .i64 0)) :: ((.d (.str ([]))) :: ((.d (.str ([]))) :: ((.d (.str ([]))) :: ((.r (.msl 1 0 0 p2.length)) :: []))))))), (.own 25 6 (e_GAct.cells p2))]) := by
  kernel_rfl
def f30_Q (r : Int × (List GAct)) (e : PX) (st : St) : Prop := DoneF c30 2 ((.tup []), [(.box ((.d (.int .i64 r.1)) :: ((.d (.int .i64 0)) :: ((.d (.str ([]))) :: ((.d (.str ([]))) :: ((.d (.str ([]))) :: ((.r (.msl 1 0 0 r.2.length)) :: []))))))), (.own 25 6 (e_GAct.cells r.2))]) e st
noncomputable def f30 (a1 : Int) (a2 : Int) (a3 : Int) (a4 : List UInt8) (a5 : List UInt8) (a6 : List UInt8) (a7 : List GAct) : Option (Int × (List GAct)) := (some (a1, a7))
theorem f30_ok (d : Nat) (hd : 1 ≤ d) (a1 : Int) (a2 : Int) (a3 : Int) (a4 : List UInt8) (a5 : List UInt8) (a6 : List UInt8) (a7 : List GAct) (r : Int × (List GAct)) (hS : f30 a1 a2 a3 a4 a5 a6 a7 = some r) : lev codes baseL d 30 [(.r (.ptr 0 0 0)), (.d (.int .i64 a1))] [(.box ((.d (.int .i64 a2)) :: ((.d (.int .i64 a3)) :: ((.d (.str a4)) :: ((.d (.str a5)) :: ((.d (.str a6)) :: ((.r (.msl 1 0 0 a7.length)) :: []))))))), (.own 25 6 (e_GAct.cells a7))] = some ((.tup []), [(.box ((.d (.int .i64 r.1)) :: ((.d (.int .i64 0)) :: ((.d (.str ([]))) :: ((.d (.str ([]))) :: ((.d (.str ([]))) :: ((.r (.msl 1 0 0 r.2.length)) :: []))))))), (.own 25 6 (e_GAct.cells r.2))]) := by
  refine lev_go codes30 rfl rfl (Nat.le_trans (Nat.le_of_ble_eq_true rfl) hd) fun Q hQ => ?_
  unfold f30 at hS
  show ZR _ Q c30_b [] _
  replace hQ : ∀ e st', f30_Q r e st' → Q e st' := hQ
  refine zrReg ?_
  refine zlRun (n := 6) (j := 6) rfl (by kernel_rfl) ?_
  refine zlEnd (by kernel_rfl) ?_
  refine zkNil ?_
  exact endQ hS hQ (fNorm (by kernel_rfl) ((congrArg (fun s => outR s 2 c30.res) (by kernel_rfl : finSt c30.fin _ = f30_fin a1 a7)).trans (f30_out a1 a7)))
/- (*farwriter/parse.machine).drop -/
def f31_fin (p1 : Int) (p2 : List GAct) : St := ⟨(up (fun _ => .un) 1000001 .un), (up (up (hB fun _ => 0) 1 ⟨1, some (.own 25 6 (e_GAct.cells p2))⟩) 0 ⟨0, some (.box ((.d (.int .i64 p1)) :: ((.d (.int .i64 0)) :: ((.d (.str ([]))) :: ((.d (.str ([]))) :: ((.d (.str ([]))) :: ((.r (.msl 1 1 0 p2.length)) :: [])))))))⟩)⟩
theorem f31_out (p1 : Int) (p2 : List GAct) : outR (f31_fin p1 p2) 2 c31.res = some ((.tup []), [(.box ((.d (.int .i64 p1)) :: ((.d (.int .i64 0)) :: ((.d (.str ([]))) :: ((.d (.str ([]))) :: ((.d (.str ([]))) :: ((.r (.msl 1 0 0 p2.length)) :: []))))))), (.own 25 6 (e_GAct.cells p2))]) := by
  kernel_rfl
def f31_Q (r : Int × (List GAct)) (e : PX) (st : St) : Prop := DoneF c31 2 ((.tup []), [(.box ((.d (.int .i64 r.1)) :: ((.d (.int .i64 0)) :: ((.d (.str ([]))) :: ((.d (.str ([]))) :: ((.d (.str ([]))) :: ((.r (.msl 1 0 0 r.2.length)) :: []))))))), (.own 25 6 (e_GAct.cells r.2))]) e st
noncomputable def f31 (a1 : Int) (a2 : Int) (a3 : Int) (a4 : List UInt8) (a5 : List UInt8) (a6 : List UInt8) (a7 : List GAct) : Option (Int × (List GAct)) := ((f29 (GAct.mk 6 0 0 ([]) ([]) ([])) a2 a3 a4 a5 a6 a7).bind fun z3 => ((f30 a1 z3.1 z3.2.1 z3.2.2.1 z3.2.2.2.1 z3.2.2.2.2.1 z3.2.2.2.2.2).bind fun z4 => (some (z4.1, z4.2))))
theorem f31_ok (d : Nat) (hd : 2 ≤ d) (a1 : Int) (a2 : Int) (a3 : Int) (a4 : List UInt8) (a5 : List UInt8) (a6 : List UInt8) (a7 : List GAct) (r : Int × (List GAct)) (hS : f31 a1 a2 a3 a4 a5 a6 a7 = some r) : lev codes baseL d 31 [(.r (.ptr 0 0 0)), (.d (.int .i64 a1))] [(.box ((.d (.int .i64 a2)) :: ((.d (.int .i64 a3)) :: ((.d (.str a4)) :: ((.d (.str a5)) :: ((.d (.str a6)) :: ((.r (.msl 1 0 0 a7.length)) :: []))))))), (.own 25 6 (e_GAct.cells a7))] = some ((.tup []), [(.box ((.d (.int .i64 r.1)) :: ((.d (.int .i64 0)) :: ((.d (.str ([]))) :: ((.d (.str ([]))) :: ((.d (.str ([]))) :: ((.r (.msl 1 0 0 r.2.length)) :: []))))))), (.own 25 6 (e_GAct.cells r.2))]) := by
  refine lev_go codes31 rfl rfl (Nat.le_trans (Nat.le_of_ble_eq_true rfl) hd) fun Q hQ => ?_
  unfold f31 at hS
  show ZR _ Q c31_b [] _
  replace hQ : ∀ e st', f31_Q r e st' → Q e st' := hQ
  refine zrSeq ?_
  refine zrReg ?_
  refine zlRun (n := 2) (j := 2) rfl (by kernel_rfl) ?_
  refine bindE hS (fun z3 hz3 hS => ?_)
  refine zlOp (d := some 6) (op := (.callr 29 [(.tmp 4), (.tmp 5)])) (g := none) (j := 3) rfl (by kernel_rfl) (by kernel_rfl) (ev_callrA (ids := [0, 1]) (by kernel_rfl) (by kernel_rfl) (by kernel_rfl) (f29_ok (d - 1) (dpt hd rfl) (GAct.mk 6 0 0 ([]) ([]) ([])) a2 a3 a4 a5 a6 a7 z3 hz3) (by kernel_rfl)) ?_
  refine zlEnd (by kernel_rfl) ?_
  refine zkSeq ?_
  refine zrReg ?_
  refine zlRun (n := 2) (j := 2) rfl (by kernel_rfl) ?_
  refine bindE hS (fun z4 hz4 hS => ?_)
  refine zlOp (d := some 9) (op := (.callr 30 [(.tmp 7), (.tmp 8)])) (g := none) (j := 3) rfl (by kernel_rfl) (by kernel_rfl) (ev_callrA (ids := [0, 1]) (by kernel_rfl) (by kernel_rfl) (by kernel_rfl) (f30_ok (d - 1) (dpt hd rfl) a1 z3.1 z3.2.1 z3.2.2.1 z3.2.2.2.1 z3.2.2.2.2.1 z3.2.2.2.2.2 z4 hz4) (by kernel_rfl)) ?_
  refine zlEnd (by kernel_rfl) ?_
  refine zkNil ?_
  exact endQ hS hQ (fNorm (by kernel_rfl) ((congrArg (fun s => outR s 2 c31.res) (by kernel_rfl : finSt c31.fin _ = f31_fin z4.1 z4.2)).trans (f31_out z4.1 z4.2)))
/- unicode/utf8.appendRuneNonASCII -/
def f74_fin (p7 : List UInt8) : St := ⟨(up (up (fun _ => .un) 1000000 .un) 4 (.r (.msl 0 1 0 p7.length))), (up (hB fun _ => 0) 0 ⟨1, some (.own 5 1 (eU8.cells p7))⟩)⟩
theorem f74_out (p7 : List UInt8) : outR (f74_fin p7) 1 c74.res = some ((.r (.msl 0 0 0 p7.length)), [(.own 5 1 (eU8.cells p7))]) := by
  kernel_rfl
def f74_Q (r : (List UInt8)) (e : PX) (st : St) : Prop := DoneF c74 1 ((.r (.msl 0 0 0 r.length)), [(.own 5 1 (eU8.cells r))]) e st
def f74_j0_J (a1 : Int) (a2 : List UInt8) (p11 : Bool) : St := ⟨(up (up (up (up (up (fun _ => .un) 1000000 .un) 25 (.d (.bool p11))) 5 (.d (.int .u32 (IntKind.u32.wrap (a1))))) 1 (.d (.int .i32 a1))) 0 (.r (.msl 0 1 0 a2.length))), (up (hB fun _ => 0) 0 ⟨1, some (.own 5 1 (eU8.cells a2))⟩)⟩
noncomputable def f74_j0 (a1 : Int) (a2 : List UInt8) (p11 : Bool) : Option ((List UInt8)) := (bif p11 then ((app? 1 a2 ([((224 : UInt8) ||| (u8 (Int.fdiv a1 (2 ^ 12)))), ((128 : UInt8) ||| ((u8 (Int.fdiv a1 (2 ^ 6))) &&& (63 : UInt8))), ((128 : UInt8) ||| ((u8 a1) &&& (63 : UInt8)))] : List UInt8)).bind fun z6 => (some z6)) else (bif (decide (65535 < (IntKind.u32.wrap (a1)))) then (bif (decide ((IntKind.u32.wrap (a1)) ≤ 1114111)) then ((app? 1 a2 ([((240 : UInt8) ||| (u8 (Int.fdiv a1 (2 ^ 18)))), ((128 : UInt8) ||| ((u8 (Int.fdiv a1 (2 ^ 12))) &&& (63 : UInt8))), ((128 : UInt8) ||| ((u8 (Int.fdiv a1 (2 ^ 6))) &&& (63 : UInt8))), ((128 : UInt8) ||| ((u8 a1) &&& (63 : UInt8)))] : List UInt8)).bind fun z7 => (some z7)) else ((app? 1 a2 ([239, 191, 189] : List UInt8)).bind fun z8 => (some z8))) else ((app? 1 a2 ([239, 191, 189] : List UInt8)).bind fun z9 => (some z9))))
theorem f74_j0_ok {d : Nat} (hd : 1 ≤ d) (a1 : Int) (a2 : List UInt8) {r : (List UInt8)} {Q : PX → St → Prop} (hQ : ∀ e st', f74_Q r e st' → Q e st') (p11 : Bool) (hS : f74_j0 a1 a2 p11 = some r) {st : St} (he : keepSt [0, 1, 5, 25, 1000000] [(0, .id 0)] [] st = f74_j0_J a1 a2 p11) : ZR (lev codes baseL (d - 1)) Q c74_1 [.blk 0] st := by
  refine zrKeep he ?_
  unfold f74_j0 at hS
  refine zrSplit 25 p11 (by kernel_rfl) (fun hc => ?_) (fun hc => ?_)
  · replace hS := cond_t hc hS
    refine zrCondT (by kernel_rfl) ?_
    refine zrSeq ?_
    refine zrReg ?_
    refine zlRun (n := 3) (j := 3) rfl (by kernel_rfl) ?_
    refine zlOp (d := some 37) (op := (.cvI .u8 (.tmp 36))) (g := none) (v := (.d (.int .u8 ((u8 (Int.fdiv a1 (2 ^ 12))).toNat : Int)))) (ups := []) (j := 4) rfl (by kernel_rfl) (by kernel_rfl) (ev_cv (kk := .i32) (a := (Int.fdiv a1 (2 ^ 12))) (by kernel_rfl) (u8_wrap _)) ?_
    refine zlOp (d := some 38) (op := (.arI .or (.const (.int .u8 224)) (.tmp 37))) (g := none) (v := (.d (.int .u8 (((224 : UInt8) ||| (u8 (Int.fdiv a1 (2 ^ 12)))).toNat : Int)))) (ups := []) (j := 5) rfl (by kernel_rfl) (by kernel_rfl) (ev_arI (kk := .u8) (a := ((224 : UInt8).toNat : Int)) (c := ((u8 (Int.fdiv a1 (2 ^ 12))).toNat : Int)) (by kernel_rfl) (by kernel_rfl) (ar_or8 (224 : UInt8) (u8 (Int.fdiv a1 (2 ^ 12))))) ?_
    refine zlRun (n := 2) (j := 7) rfl (by kernel_rfl) ?_
    refine zlOp (d := some 41) (op := (.cvI .u8 (.tmp 40))) (g := none) (v := (.d (.int .u8 ((u8 (Int.fdiv a1 (2 ^ 6))).toNat : Int)))) (ups := []) (j := 8) rfl (by kernel_rfl) (by kernel_rfl) (ev_cv (kk := .i32) (a := (Int.fdiv a1 (2 ^ 6))) (by kernel_rfl) (u8_wrap _)) ?_
    refine zlOp (d := some 42) (op := (.arI .and (.tmp 41) (.const (.int .u8 63)))) (g := none) (v := (.d (.int .u8 (((u8 (Int.fdiv a1 (2 ^ 6))) &&& (63 : UInt8)).toNat : Int)))) (ups := []) (j := 9) rfl (by kernel_rfl) (by kernel_rfl) (ev_arI (kk := .u8) (a := ((u8 (Int.fdiv a1 (2 ^ 6))).toNat : Int)) (c := ((63 : UInt8).toNat : Int)) (by kernel_rfl) (by kernel_rfl) (ar_and8 (u8 (Int.fdiv a1 (2 ^ 6))) (63 : UInt8))) ?_
    refine zlOp (d := some 43) (op := (.arI .or (.const (.int .u8 128)) (.tmp 42))) (g := none) (v := (.d (.int .u8 (((128 : UInt8) ||| ((u8 (Int.fdiv a1 (2 ^ 6))) &&& (63 : UInt8))).toNat : Int)))) (ups := []) (j := 10) rfl (by kernel_rfl) (by kernel_rfl) (ev_arI (kk := .u8) (a := ((128 : UInt8).toNat : Int)) (c := (((u8 (Int.fdiv a1 (2 ^ 6))) &&& (63 : UInt8)).toNat : Int)) (by kernel_rfl) (by kernel_rfl) (ar_or8 (128 : UInt8) ((u8 (Int.fdiv a1 (2 ^ 6))) &&& (63 : UInt8)))) ?_
    refine zlRun (n := 1) (j := 11) rfl (by kernel_rfl) ?_
    refine zlOp (d := some 45) (op := (.cvI .u8 (.tmp 44))) (g := none) (v := (.d (.int .u8 ((u8 a1).toNat : Int)))) (ups := []) (j := 12) rfl (by kernel_rfl) (by kernel_rfl) (ev_cv (kk := .i32) (a := a1) (by kernel_rfl) (u8_wrap _)) ?_
    refine zlOp (d := some 46) (op := (.arI .and (.tmp 45) (.const (.int .u8 63)))) (g := none) (v := (.d (.int .u8 (((u8 a1) &&& (63 : UInt8)).toNat : Int)))) (ups := []) (j := 13) rfl (by kernel_rfl) (by kernel_rfl) (ev_arI (kk := .u8) (a := ((u8 a1).toNat : Int)) (c := ((63 : UInt8).toNat : Int)) (by kernel_rfl) (by kernel_rfl) (ar_and8 (u8 a1) (63 : UInt8))) ?_
    refine zlOp (d := some 47) (op := (.arI .or (.const (.int .u8 128)) (.tmp 46))) (g := none) (v := (.d (.int .u8 (((128 : UInt8) ||| ((u8 a1) &&& (63 : UInt8))).toNat : Int)))) (ups := []) (j := 14) rfl (by kernel_rfl) (by kernel_rfl) (ev_arI (kk := .u8) (a := ((128 : UInt8).toNat : Int)) (c := (((u8 a1) &&& (63 : UInt8)).toNat : Int)) (by kernel_rfl) (by kernel_rfl) (ar_or8 (128 : UInt8) ((u8 a1) &&& (63 : UInt8)))) ?_
    refine zlRun (n := 1) (j := 15) rfl (by kernel_rfl) ?_
    refine bindE hS (fun z6 hz6 hS => ?_)
    refine zlOp (d := some 49) (op := (.app 5 1 1 (.tmp 34) (.tmp 48))) (g := none) (v := (.r (.msl 0 2 0 z6.length))) (ups := [(0, ⟨2, some (.own 5 1 (eU8.cells z6))⟩)]) (j := 16) rfl (by kernel_rfl) (by kernel_rfl) (ev_app eU8 (b := 0) (g := 1) (n := a2.length) (xs := a2) (ys := [((224 : UInt8) ||| (u8 (Int.fdiv a1 (2 ^ 12)))), ((128 : UInt8) ||| ((u8 (Int.fdiv a1 (2 ^ 6))) &&& (63 : UInt8))), ((128 : UInt8) ||| ((u8 a1) &&& (63 : UInt8)))]) ((congrArg (asL _) (by kernel_rfl : ρof _ (.tmp 48) = (.r (.msl 392 1 0 (([((224 : UInt8) ||| (u8 (Int.fdiv a1 (2 ^ 12)))), ((128 : UInt8) ||| ((u8 (Int.fdiv a1 (2 ^ 6))) &&& (63 : UInt8))), ((128 : UInt8) ||| ((u8 a1) &&& (63 : UInt8)))] : List UInt8).length))))).trans (as_whole eU8 (e := 5) (k := 1) (xs := [((224 : UInt8) ||| (u8 (Int.fdiv a1 (2 ^ 12)))), ((128 : UInt8) ||| ((u8 (Int.fdiv a1 (2 ^ 6))) &&& (63 : UInt8))), ((128 : UInt8) ||| ((u8 a1) &&& (63 : UInt8)))]) (by kernel_rfl) rfl rfl)) rfl (by kernel_rfl) rfl (by kernel_rfl) rfl hz6) ?_
    refine zlRun (n := 1) (j := 17) rfl (by kernel_rfl) ?_
    refine zlEnd (by kernel_rfl) ?_
    refine zkSeq ?_
    refine zrRet ?_
    refine zkBlkR ?_
    refine zkNil ?_
    exact endQ hS hQ (fRet (by kernel_rfl) ((congrArg (fun s => outR s 1 c74.res) (by kernel_rfl : finSt c74.fin _ = f74_fin z6)).trans (f74_out z6)))
  · replace hS := cond_f hc hS
    refine zrCondF (by kernel_rfl) ?_
    refine zrSeq ?_
    refine zrReg ?_
    refine zlRun (n := 1) (j := 1) rfl (by kernel_rfl) ?_
    refine zlBool (d := 52) (op := (.cmpI .gtr (.tmp 51) (.const (.int .u32 65535)))) (g := none) (j := 2) (decide (65535 < (IntKind.u32.wrap (a1)))) rfl (by kernel_rfl) (by kernel_rfl) (by kernel_rfl) (fun hc => ?_) (fun hc => ?_)
    · replace hS := cond_t hc hS
      refine zlRun (n := 2) (j := 4) rfl (by kernel_rfl) ?_
      refine zlBool (d := 55) (op := (.cmpI .leq (.tmp 54) (.const (.int .u32 1114111)))) (g := (some (53, true))) (j := 5) (decide ((IntKind.u32.wrap (a1)) ≤ 1114111)) rfl (by kernel_rfl) (by kernel_rfl) (by kernel_rfl) (fun hc => ?_) (fun hc => ?_)
      · replace hS := cond_t hc hS
        refine zlRun (n := 2) (j := 7) rfl (by kernel_rfl) ?_
        refine zlEnd (by kernel_rfl) ?_
        refine zkSeq ?_
        refine zrCondT (by kernel_rfl) ?_
        refine zrSeq ?_
        refine zrReg ?_
        refine zlRun (n := 3) (j := 3) rfl (by kernel_rfl) ?_
        refine zlOp (d := some 60) (op := (.cvI .u8 (.tmp 59))) (g := none) (v := (.d (.int .u8 ((u8 (Int.fdiv a1 (2 ^ 18))).toNat : Int)))) (ups := []) (j := 4) rfl (by kernel_rfl) (by kernel_rfl) (ev_cv (kk := .i32) (a := (Int.fdiv a1 (2 ^ 18))) (by kernel_rfl) (u8_wrap _)) ?_
        refine zlOp (d := some 61) (op := (.arI .or (.const (.int .u8 240)) (.tmp 60))) (g := none) (v := (.d (.int .u8 (((240 : UInt8) ||| (u8 (Int.fdiv a1 (2 ^ 18)))).toNat : Int)))) (ups := []) (j := 5) rfl (by kernel_rfl) (by kernel_rfl) (ev_arI (kk := .u8) (a := ((240 : UInt8).toNat : Int)) (c := ((u8 (Int.fdiv a1 (2 ^ 18))).toNat : Int)) (by kernel_rfl) (by kernel_rfl) (ar_or8 (240 : UInt8) (u8 (Int.fdiv a1 (2 ^ 18))))) ?_
        refine zlRun (n := 2) (j := 7) rfl (by kernel_rfl) ?_
        refine zlOp (d := some 64) (op := (.cvI .u8 (.tmp 63))) (g := none) (v := (.d (.int .u8 ((u8 (Int.fdiv a1 (2 ^ 12))).toNat : Int)))) (ups := []) (j := 8) rfl (by kernel_rfl) (by kernel_rfl) (ev_cv (kk := .i32) (a := (Int.fdiv a1 (2 ^ 12))) (by kernel_rfl) (u8_wrap _)) ?_
        refine zlOp (d := some 65) (op := (.arI .and (.tmp 64) (.const (.int .u8 63)))) (g := none) (v := (.d (.int .u8 (((u8 (Int.fdiv a1 (2 ^ 12))) &&& (63 : UInt8)).toNat : Int)))) (ups := []) (j := 9) rfl (by kernel_rfl) (by kernel_rfl) (ev_arI (kk := .u8) (a := ((u8 (Int.fdiv a1 (2 ^ 12))).toNat : Int)) (c := ((63 : UInt8).toNat : Int)) (by kernel_rfl) (by kernel_rfl) (ar_and8 (u8 (Int.fdiv a1 (2 ^ 12))) (63 : UInt8))) ?_
        refine zlOp (d := some 66) (op := (.arI .or (.const (.int .u8 128)) (.tmp 65))) (g := none) (v := (.d (.int .u8 (((128 : UInt8) ||| ((u8 (Int.fdiv a1 (2 ^ 12))) &&& (63 : UInt8))).toNat : Int)))) (ups := []) (j := 10) rfl (by kernel_rfl) (by kernel_rfl) (ev_arI (kk := .u8) (a := ((128 : UInt8).toNat : Int)) (c := (((u8 (Int.fdiv a1 (2 ^ 12))) &&& (63 : UInt8)).toNat : Int)) (by kernel_rfl) (by kernel_rfl) (ar_or8 (128 : UInt8) ((u8 (Int.fdiv a1 (2 ^ 12))) &&& (63 : UInt8)))) ?_
        refine zlRun (n := 2) (j := 12) rfl (by kernel_rfl) ?_
        refine zlOp (d := some 69) (op := (.cvI .u8 (.tmp 68))) (g := none) (v := (.d (.int .u8 ((u8 (Int.fdiv a1 (2 ^ 6))).toNat : Int)))) (ups := []) (j := 13) rfl (by kernel_rfl) (by kernel_rfl) (ev_cv (kk := .i32) (a := (Int.fdiv a1 (2 ^ 6))) (by kernel_rfl) (u8_wrap _)) ?_
        refine zlOp (d := some 70) (op := (.arI .and (.tmp 69) (.const (.int .u8 63)))) (g := none) (v := (.d (.int .u8 (((u8 (Int.fdiv a1 (2 ^ 6))) &&& (63 : UInt8)).toNat : Int)))) (ups := []) (j := 14) rfl (by kernel_rfl) (by kernel_rfl) (ev_arI (kk := .u8) (a := ((u8 (Int.fdiv a1 (2 ^ 6))).toNat : Int)) (c := ((63 : UInt8).toNat : Int)) (by kernel_rfl) (by kernel_rfl) (ar_and8 (u8 (Int.fdiv a1 (2 ^ 6))) (63 : UInt8))) ?_
        refine zlOp (d := some 71) (op := (.arI .or (.const (.int .u8 128)) (.tmp 70))) (g := none) (v := (.d (.int .u8 (((128 : UInt8) ||| ((u8 (Int.fdiv a1 (2 ^ 6))) &&& (63 : UInt8))).toNat : Int)))) (ups := []) (j := 15) rfl (by kernel_rfl) (by kernel_rfl) (ev_arI (kk := .u8) (a := ((128 : UInt8).toNat : Int)) (c := (((u8 (Int.fdiv a1 (2 ^ 6))) &&& (63 : UInt8)).toNat : Int)) (by kernel_rfl) (by kernel_rfl) (ar_or8 (128 : UInt8) ((u8 (Int.fdiv a1 (2 ^ 6))) &&& (63 : UInt8)))) ?_
        refine zlRun (n := 1) (j := 16) rfl (by kernel_rfl) ?_
        refine zlOp (d := some 73) (op := (.cvI .u8 (.tmp 72))) (g := none) (v := (.d (.int .u8 ((u8 a1).toNat : Int)))) (ups := []) (j := 17) rfl (by kernel_rfl) (by kernel_rfl) (ev_cv (kk := .i32) (a := a1) (by kernel_rfl) (u8_wrap _)) ?_
        refine zlOp (d := some 74) (op := (.arI .and (.tmp 73) (.const (.int .u8 63)))) (g := none) (v := (.d (.int .u8 (((u8 a1) &&& (63 : UInt8)).toNat : Int)))) (ups := []) (j := 18) rfl (by kernel_rfl) (by kernel_rfl) (ev_arI (kk := .u8) (a := ((u8 a1).toNat : Int)) (c := ((63 : UInt8).toNat : Int)) (by kernel_rfl) (by kernel_rfl) (ar_and8 (u8 a1) (63 : UInt8))) ?_
        refine zlOp (d := some 75) (op := (.arI .or (.const (.int .u8 128)) (.tmp 74))) (g := none) (v := (.d (.int .u8 (((128 : UInt8) ||| ((u8 a1) &&& (63 : UInt8))).toNat : Int)))) (ups := []) (j := 19) rfl (by kernel_rfl) (by kernel_rfl) (ev_arI (kk := .u8) (a := ((128 : UInt8).toNat : Int)) (c := (((u8 a1) &&& (63 : UInt8)).toNat : Int)) (by kernel_rfl) (by kernel_rfl) (ar_or8 (128 : UInt8) ((u8 a1) &&& (63 : UInt8)))) ?_
        refine zlRun (n := 1) (j := 20) rfl (by kernel_rfl) ?_
        refine bindE hS (fun z7 hz7 hS => ?_)
        refine zlOp (d := some 77) (op := (.app 5 1 1 (.tmp 57) (.tmp 76))) (g := none) (v := (.r (.msl 0 2 0 z7.length))) (ups := [(0, ⟨2, some (.own 5 1 (eU8.cells z7))⟩)]) (j := 21) rfl (by kernel_rfl) (by kernel_rfl) (ev_app eU8 (b := 0) (g := 1) (n := a2.length) (xs := a2) (ys := [((240 : UInt8) ||| (u8 (Int.fdiv a1 (2 ^ 18)))), ((128 : UInt8) ||| ((u8 (Int.fdiv a1 (2 ^ 12))) &&& (63 : UInt8))), ((128 : UInt8) ||| ((u8 (Int.fdiv a1 (2 ^ 6))) &&& (63 : UInt8))), ((128 : UInt8) ||| ((u8 a1) &&& (63 : UInt8)))]) ((congrArg (asL _) (by kernel_rfl : ρof _ (.tmp 76) = (.r (.msl 616 1 0 (([((240 : UInt8) ||| (u8 (Int.fdiv a1 (2 ^ 18)))), ((128 : UInt8) ||| ((u8 (Int.fdiv a1 (2 ^ 12))) &&& (63 : UInt8))), ((128 : UInt8) ||| ((u8 (Int.fdiv a1 (2 ^ 6))) &&& (63 : UInt8))), ((128 : UInt8) ||| ((u8 a1) &&& (63 : UInt8)))] : List UInt8).length))))).trans (as_whole eU8 (e := 5) (k := 1) (xs := [((240 : UInt8) ||| (u8 (Int.fdiv a1 (2 ^ 18)))), ((128 : UInt8) ||| ((u8 (Int.fdiv a1 (2 ^ 12))) &&& (63 : UInt8))), ((128 : UInt8) ||| ((u8 (Int.fdiv a1 (2 ^ 6))) &&& (63 : UInt8))), ((128 : UInt8) ||| ((u8 a1) &&& (63 : UInt8)))]) (by kernel_rfl) rfl rfl)) rfl (by kernel_rfl) rfl (by kernel_rfl) rfl hz7) ?_
        refine zlRun (n := 1) (j := 22) rfl (by kernel_rfl) ?_
        refine zlEnd (by kernel_rfl) ?_
        refine zkSeq ?_
        refine zrRet ?_
        refine zkBlkR ?_
        refine zkNil ?_
        exact endQ hS hQ (fRet (by kernel_rfl) ((congrArg (fun s => outR s 1 c74.res) (by kernel_rfl : finSt c74.fin _ = f74_fin z7)).trans (f74_out z7)))
      · replace hS := cond_f hc hS
        refine zlRun (n := 2) (j := 7) rfl (by kernel_rfl) ?_
        refine zlEnd (by kernel_rfl) ?_
        refine zkSeq ?_
        refine zrCondF (by kernel_rfl) ?_
        refine zrSeq ?_
        refine zrReg ?_
        refine zlRun (n := 2) (j := 2) rfl (by kernel_rfl) ?_
        refine bindE hS (fun z8 hz8 hS => ?_)
        refine zlOp (d := some 10) (op := (.app 5 1 1 (.tmp 8) (.tmp 9))) (g := none) (v := (.r (.msl 0 2 0 z8.length))) (ups := [(0, ⟨2, some (.own 5 1 (eU8.cells z8))⟩)]) (j := 3) rfl (by kernel_rfl) (by kernel_rfl) (ev_app eU8 (b := 0) (g := 1) (n := a2.length) (xs := a2) (ys := [239, 191, 189]) ((congrArg (asL _) (by kernel_rfl : ρof _ (.tmp 9) = (.r (.msl 80 1 0 (([239, 191, 189] : List UInt8).length))))).trans (as_whole eU8 (e := 5) (k := 1) (xs := [239, 191, 189]) (by kernel_rfl) rfl rfl)) rfl (by kernel_rfl) rfl (by kernel_rfl) rfl hz8) ?_
        refine zlRun (n := 1) (j := 4) rfl (by kernel_rfl) ?_
        refine zlEnd (by kernel_rfl) ?_
        refine zkSeq ?_
        refine zrRet ?_
        refine zkBlkR ?_
        refine zkNil ?_
        exact endQ hS hQ (fRet (by kernel_rfl) ((congrArg (fun s => outR s 1 c74.res) (by kernel_rfl : finSt c74.fin _ = f74_fin z8)).trans (f74_out z8)))
    · replace hS := cond_f hc hS
      refine zlRun (n := 5) (j := 7) rfl (by kernel_rfl) ?_
      refine zlEnd (by kernel_rfl) ?_
      refine zkSeq ?_
      refine zrCondF (by kernel_rfl) ?_
      refine zrSeq ?_
      refine zrReg ?_
      refine zlRun (n := 2) (j := 2) rfl (by kernel_rfl) ?_
      refine bindE hS (fun z9 hz9 hS => ?_)
      refine zlOp (d := some 10) (op := (.app 5 1 1 (.tmp 8) (.tmp 9))) (g := none) (v := (.r (.msl 0 2 0 z9.length))) (ups := [(0, ⟨2, some (.own 5 1 (eU8.cells z9))⟩)]) (j := 3) rfl (by kernel_rfl) (by kernel_rfl) (ev_app eU8 (b := 0) (g := 1) (n := a2.length) (xs := a2) (ys := [239, 191, 189]) ((congrArg (asL _) (by kernel_rfl : ρof _ (.tmp 9) = (.r (.msl 80 1 0 (([239, 191, 189] : List UInt8).length))))).trans (as_whole eU8 (e := 5) (k := 1) (xs := [239, 191, 189]) (by kernel_rfl) rfl rfl)) rfl (by kernel_rfl) rfl (by kernel_rfl) rfl hz9) ?_
      refine zlRun (n := 1) (j := 4) rfl (by kernel_rfl) ?_
      refine zlEnd (by kernel_rfl) ?_
      refine zkSeq ?_
      refine zrRet ?_
      refine zkBlkR ?_
      refine zkNil ?_
      exact endQ hS hQ (fRet (by kernel_rfl) ((congrArg (fun s => outR s 1 c74.res) (by kernel_rfl : finSt c74.fin _ = f74_fin z9)).trans (f74_out z9)))
noncomputable def f74 (a1 : Int) (a2 : List UInt8) : Option ((List UInt8)) := (bif (decide ((IntKind.u32.wrap (a1)) ≤ 2047)) then ((app? 1 a2 ([((192 : UInt8) ||| (u8 (Int.fdiv a1 (2 ^ 6)))), ((128 : UInt8) ||| ((u8 a1) &&& (63 : UInt8)))] : List UInt8)).bind fun z5 => (some z5)) else (bif (decide ((IntKind.u32.wrap (a1)) < 55296)) then (f74_j0 a1 a2 true) else (bif (decide (57343 < (IntKind.u32.wrap (a1)))) then (bif (decide ((IntKind.u32.wrap (a1)) ≤ 65535)) then (f74_j0 a1 a2 true) else (f74_j0 a1 a2 false)) else (f74_j0 a1 a2 false))))
theorem f74_ok (d : Nat) (hd : 1 ≤ d) (a1 : Int) (a2 : List UInt8) (r : (List UInt8)) (hS : f74 a1 a2 = some r) : lev codes baseL d 74 [(.r (.msl 0 0 0 a2.length)), (.d (.int .i32 a1))] [(.own 5 1 (eU8.cells a2))] = some ((.r (.msl 0 0 0 r.length)), [(.own 5 1 (eU8.cells r))]) := by
  refine lev_go codes74 rfl rfl (Nat.le_trans (Nat.le_of_ble_eq_true rfl) hd) fun Q hQ => ?_
  unfold f74 at hS
  show ZR _ Q c74_b [] _
  replace hQ : ∀ e st', f74_Q r e st' → Q e st' := hQ
  refine zrSeq ?_
  refine zrReg ?_
  refine zlRun (n := 1) (j := 1) rfl (by kernel_rfl) ?_
  refine zlEnd (by kernel_rfl) ?_
  refine zkSeq ?_
  refine zrSeq ?_
  refine zrReg ?_
  refine zlRun (n := 3) (j := 3) rfl (by kernel_rfl) ?_
  refine zlEnd (by kernel_rfl) ?_
  refine zkSeq ?_
  refine zrBlk ?_
  refine zrSeq ?_
  refine zrReg ?_
  refine zlRun (n := 1) (j := 1) rfl (by kernel_rfl) ?_
  refine zlBool (d := 13) (op := (.cmpI .leq (.tmp 12) (.const (.int .u32 2047)))) (g := none) (j := 2) (decide ((IntKind.u32.wrap (a1)) ≤ 2047)) rfl (by kernel_rfl) (by kernel_rfl) (by kernel_rfl) (fun hc => ?_) (fun hc => ?_)
  · replace hS := cond_t hc hS
    refine zlRun (n := 1) (j := 3) rfl (by kernel_rfl) ?_
    refine zlEnd (by kernel_rfl) ?_
    refine zkSeq ?_
    refine zrCondT (by kernel_rfl) ?_
    refine zrSeq ?_
    refine zrReg ?_
    refine zlRun (n := 3) (j := 3) rfl (by kernel_rfl) ?_
    refine zlOp (d := some 17) (op := (.cvI .u8 (.tmp 16))) (g := none) (v := (.d (.int .u8 ((u8 (Int.fdiv a1 (2 ^ 6))).toNat : Int)))) (ups := []) (j := 4) rfl (by kernel_rfl) (by kernel_rfl) (ev_cv (kk := .i32) (a := (Int.fdiv a1 (2 ^ 6))) (by kernel_rfl) (u8_wrap _)) ?_
    refine zlOp (d := some 18) (op := (.arI .or (.const (.int .u8 192)) (.tmp 17))) (g := none) (v := (.d (.int .u8 (((192 : UInt8) ||| (u8 (Int.fdiv a1 (2 ^ 6)))).toNat : Int)))) (ups := []) (j := 5) rfl (by kernel_rfl) (by kernel_rfl) (ev_arI (kk := .u8) (a := ((192 : UInt8).toNat : Int)) (c := ((u8 (Int.fdiv a1 (2 ^ 6))).toNat : Int)) (by kernel_rfl) (by kernel_rfl) (ar_or8 (192 : UInt8) (u8 (Int.fdiv a1 (2 ^ 6))))) ?_
    refine zlRun (n := 1) (j := 6) rfl (by kernel_rfl) ?_
    refine zlOp (d := some 20) (op := (.cvI .u8 (.tmp 19))) (g := none) (v := (.d (.int .u8 ((u8 a1).toNat : Int)))) (ups := []) (j := 7) rfl (by kernel_rfl) (by kernel_rfl) (ev_cv (kk := .i32) (a := a1) (by kernel_rfl) (u8_wrap _)) ?_
    refine zlOp (d := some 21) (op := (.arI .and (.tmp 20) (.const (.int .u8 63)))) (g := none) (v := (.d (.int .u8 (((u8 a1) &&& (63 : UInt8)).toNat : Int)))) (ups := []) (j := 8) rfl (by kernel_rfl) (by kernel_rfl) (ev_arI (kk := .u8) (a := ((u8 a1).toNat : Int)) (c := ((63 : UInt8).toNat : Int)) (by kernel_rfl) (by kernel_rfl) (ar_and8 (u8 a1) (63 : UInt8))) ?_
    refine zlOp (d := some 22) (op := (.arI .or (.const (.int .u8 128)) (.tmp 21))) (g := none) (v := (.d (.int .u8 (((128 : UInt8) ||| ((u8 a1) &&& (63 : UInt8))).toNat : Int)))) (ups := []) (j := 9) rfl (by kernel_rfl) (by kernel_rfl) (ev_arI (kk := .u8) (a := ((128 : UInt8).toNat : Int)) (c := (((u8 a1) &&& (63 : UInt8)).toNat : Int)) (by kernel_rfl) (by kernel_rfl) (ar_or8 (128 : UInt8) ((u8 a1) &&& (63 : UInt8)))) ?_
    refine zlRun (n := 1) (j := 10) rfl (by kernel_rfl) ?_
    refine bindE hS (fun z5 hz5 hS => ?_)
    refine zlOp (d := some 24) (op := (.app 5 1 1 (.tmp 14) (.tmp 23))) (g := none) (v := (.r (.msl 0 1 0 z5.length))) (ups := [(0, ⟨1, some (.own 5 1 (eU8.cells z5))⟩)]) (j := 11) rfl (by kernel_rfl) (by kernel_rfl) (ev_app eU8 (b := 0) (g := 0) (n := a2.length) (xs := a2) (ys := [((192 : UInt8) ||| (u8 (Int.fdiv a1 (2 ^ 6)))), ((128 : UInt8) ||| ((u8 a1) &&& (63 : UInt8)))]) ((congrArg (asL _) (by kernel_rfl : ρof _ (.tmp 23) = (.r (.msl 192 1 0 (([((192 : UInt8) ||| (u8 (Int.fdiv a1 (2 ^ 6)))), ((128 : UInt8) ||| ((u8 a1) &&& (63 : UInt8)))] : List UInt8).length))))).trans (as_whole eU8 (e := 5) (k := 1) (xs := [((192 : UInt8) ||| (u8 (Int.fdiv a1 (2 ^ 6)))), ((128 : UInt8) ||| ((u8 a1) &&& (63 : UInt8)))]) (by kernel_rfl) rfl rfl)) rfl (by kernel_rfl) rfl (by kernel_rfl) rfl hz5) ?_
    refine zlRun (n := 1) (j := 12) rfl (by kernel_rfl) ?_
    refine zlEnd (by kernel_rfl) ?_
    refine zkSeq ?_
    refine zrRet ?_
    refine zkBlkR ?_
    refine zkNil ?_
    exact endQ hS hQ (fRet (by kernel_rfl) ((congrArg (fun s => outR s 1 c74.res) (by kernel_rfl : finSt c74.fin _ = f74_fin z5)).trans (f74_out z5)))
  · replace hS := cond_f hc hS
    refine zlRun (n := 1) (j := 3) rfl (by kernel_rfl) ?_
    refine zlEnd (by kernel_rfl) ?_
    refine zkSeq ?_
    refine zrCondF (by kernel_rfl) ?_
    refine zrSeq ?_
    refine zrSeq ?_
    refine zrReg ?_
    refine zlRun (n := 1) (j := 1) rfl (by kernel_rfl) ?_
    refine zlBool (d := 27) (op := (.cmpI .lss (.tmp 26) (.const (.int .u32 55296)))) (g := none) (j := 2) (decide ((IntKind.u32.wrap (a1)) < 55296)) rfl (by kernel_rfl) (by kernel_rfl) (by kernel_rfl) (fun hc => ?_) (fun hc => ?_)
    · replace hS := cond_t hc hS
      refine zlRun (n := 1) (j := 3) rfl (by kernel_rfl) ?_
      refine zlEnd (by kernel_rfl) ?_
      refine zkSeq ?_
      refine zrCondT (by kernel_rfl) ?_
      refine zrSkip ?_
      refine zkSeq ?_
      exact f74_j0_ok hd a1 a2 hQ true hS (by kernel_rfl)
    · replace hS := cond_f hc hS
      refine zlRun (n := 1) (j := 3) rfl (by kernel_rfl) ?_
      refine zlEnd (by kernel_rfl) ?_
      refine zkSeq ?_
      refine zrCondF (by kernel_rfl) ?_
      refine zrReg ?_
      refine zlRun (n := 1) (j := 1) rfl (by kernel_rfl) ?_
      refine zlBool (d := 29) (op := (.cmpI .lss (.const (.int .u32 57343)) (.tmp 28))) (g := none) (j := 2) (decide (57343 < (IntKind.u32.wrap (a1)))) rfl (by kernel_rfl) (by kernel_rfl) (by kernel_rfl) (fun hc => ?_) (fun hc => ?_)
      · replace hS := cond_t hc hS
        refine zlRun (n := 2) (j := 4) rfl (by kernel_rfl) ?_
        refine zlBool (d := 32) (op := (.cmpI .leq (.tmp 31) (.const (.int .u32 65535)))) (g := (some (30, true))) (j := 5) (decide ((IntKind.u32.wrap (a1)) ≤ 65535)) rfl (by kernel_rfl) (by kernel_rfl) (by kernel_rfl) (fun hc => ?_) (fun hc => ?_)
        · replace hS := cond_t hc hS
          refine zlRun (n := 2) (j := 7) rfl (by kernel_rfl) ?_
          refine zlEnd (by kernel_rfl) ?_
          refine zkSeq ?_
          exact f74_j0_ok hd a1 a2 hQ true hS (by kernel_rfl)
        · replace hS := cond_f hc hS
          refine zlRun (n := 2) (j := 7) rfl (by kernel_rfl) ?_
          refine zlEnd (by kernel_rfl) ?_
          refine zkSeq ?_
          exact f74_j0_ok hd a1 a2 hQ false hS (by kernel_rfl)
      · replace hS := cond_f hc hS
        refine zlRun (n := 5) (j := 7) rfl (by kernel_rfl) ?_
        refine zlEnd (by kernel_rfl) ?_
        refine zkSeq ?_
        exact f74_j0_ok hd a1 a2 hQ false hS (by kernel_rfl)
/- unicode/utf8.AppendRune -/
def f60_fin (p2 : List UInt8) : St := ⟨(up (up (fun _ => .un) 1000000 .un) 4 (.r (.msl 0 1 0 p2.length))), (up (hB fun _ => 0) 0 ⟨1, some (.own 5 1 (eU8.cells p2))⟩)⟩
theorem f60_out (p2 : List UInt8) : outR (f60_fin p2) 1 c60.res = some ((.r (.msl 0 0 0 p2.length)), [(.own 5 1 (eU8.cells p2))]) := by
  kernel_rfl
def f60_Q (r : (List UInt8)) (e : PX) (st : St) : Prop := DoneF c60 1 ((.r (.msl 0 0 0 r.length)), [(.own 5 1 (eU8.cells r))]) e st
noncomputable def f60 (a1 : Int) (a2 : List UInt8) : Option ((List UInt8)) := (bif (decide ((IntKind.u32.wrap (a1)) ≤ 127)) then ((app? 1 a2 ([(u8 a1)] : List UInt8)).bind fun z3 => (some z3)) else ((f74 a1 a2).bind fun z4 => (some z4)))
theorem f60_ok (d : Nat) (hd : 2 ≤ d) (a1 : Int) (a2 : List UInt8) (r : (List UInt8)) (hS : f60 a1 a2 = some r) : lev codes baseL d 60 [(.r (.msl 0 0 0 a2.length)), (.d (.int .i32 a1))] [(.own 5 1 (eU8.cells a2))] = some ((.r (.msl 0 0 0 r.length)), [(.own 5 1 (eU8.cells r))]) := by
  refine lev_go codes60 rfl rfl (Nat.le_trans (Nat.le_of_ble_eq_true rfl) hd) fun Q hQ => ?_
  unfold f60 at hS
  show ZR _ Q c60_b [] _
  replace hQ : ∀ e st', f60_Q r e st' → Q e st' := hQ
  refine zrSeq ?_
  refine zrReg ?_
  refine zlRun (n := 1) (j := 1) rfl (by kernel_rfl) ?_
  refine zlEnd (by kernel_rfl) ?_
  refine zkSeq ?_
  refine zrSeq ?_
  refine zrSeq ?_
  refine zrReg ?_
  refine zlRun (n := 2) (j := 2) rfl (by kernel_rfl) ?_
  refine zlBool (d := 7) (op := (.cmpI .leq (.tmp 6) (.const (.int .u32 127)))) (g := none) (j := 3) (decide ((IntKind.u32.wrap (a1)) ≤ 127)) rfl (by kernel_rfl) (by kernel_rfl) (by kernel_rfl) (fun hc => ?_) (fun hc => ?_)
  · replace hS := cond_t hc hS
    refine zlEnd (by kernel_rfl) ?_
    refine zkSeq ?_
    refine zrCondT (by kernel_rfl) ?_
    refine zrSeq ?_
    refine zrReg ?_
    refine zlRun (n := 2) (j := 2) rfl (by kernel_rfl) ?_
    refine zlOp (d := some 10) (op := (.cvI .u8 (.tmp 9))) (g := none) (v := (.d (.int .u8 ((u8 a1).toNat : Int)))) (ups := []) (j := 3) rfl (by kernel_rfl) (by kernel_rfl) (ev_cv (kk := .i32) (a := a1) (by kernel_rfl) (u8_wrap _)) ?_
    refine zlRun (n := 1) (j := 4) rfl (by kernel_rfl) ?_
    refine bindE hS (fun z3 hz3 hS => ?_)
    refine zlOp (d := some 12) (op := (.app 5 1 1 (.tmp 8) (.tmp 11))) (g := none) (v := (.r (.msl 0 1 0 z3.length))) (ups := [(0, ⟨1, some (.own 5 1 (eU8.cells z3))⟩)]) (j := 5) rfl (by kernel_rfl) (by kernel_rfl) (ev_app eU8 (b := 0) (g := 0) (n := a2.length) (xs := a2) (ys := [(u8 a1)]) ((congrArg (asL _) (by kernel_rfl : ρof _ (.tmp 11) = (.r (.msl 96 1 0 (([(u8 a1)] : List UInt8).length))))).trans (as_whole eU8 (e := 5) (k := 1) (xs := [(u8 a1)]) (by kernel_rfl) rfl rfl)) rfl (by kernel_rfl) rfl (by kernel_rfl) rfl hz3) ?_
    refine zlRun (n := 1) (j := 6) rfl (by kernel_rfl) ?_
    refine zlEnd (by kernel_rfl) ?_
    refine zkSeq ?_
    refine zrRet ?_
    refine zkSeqR ?_
    refine zkNil ?_
    exact endQ hS hQ (fRet (by kernel_rfl) ((congrArg (fun s => outR s 1 c60.res) (by kernel_rfl : finSt c60.fin _ = f60_fin z3)).trans (f60_out z3)))
  · replace hS := cond_f hc hS
    refine zlEnd (by kernel_rfl) ?_
    refine zkSeq ?_
    refine zrCondF (by kernel_rfl) ?_
    refine zrSkip ?_
    refine zkSeq ?_
    refine zrSeq ?_
    refine zrReg ?_
    refine zlRun (n := 2) (j := 2) rfl (by kernel_rfl) ?_
    refine bindE hS (fun z4 hz4 hS => ?_)
    refine zlOp (d := some 15) (op := (.callr 74 [(.tmp 13), (.tmp 14)])) (g := none) (j := 3) rfl (by kernel_rfl) (by kernel_rfl) (ev_callrA (ids := [0]) (by kernel_rfl) (by kernel_rfl) (by kernel_rfl) (f74_ok (d - 1) (dpt hd rfl) a1 a2 z4 hz4) (by kernel_rfl)) ?_
    refine zlRun (n := 1) (j := 4) rfl (by kernel_rfl) ?_
    refine zlEnd (by kernel_rfl) ?_
    refine zkSeq ?_
    refine zrRet ?_
    refine zkNil ?_
    exact endQ hS hQ (fRet (by kernel_rfl) ((congrArg (fun s => outR s 1 c60.res) (by kernel_rfl : finSt c60.fin _ = f60_fin z4)).trans (f60_out z4)))
/- farwriter/utf.Encode -/
def f45_fin (p54 : List UInt8) : St := ⟨(up (fun _ => .un) 2 (.d (.str p54))), (hB fun _ => 0)⟩
theorem f45_out (p54 : List UInt8) : outR (f45_fin p54) 0 c45.res = some ((.d (.str p54)), []) := by
  kernel_rfl
def f45_Q (r : (List UInt8)) (e : PX) (st : St) : Prop := DoneF c45 0 ((.d (.str r)), []) e st
def f45_l0_J (a1 : List Int) (x : (List UInt8) × Int) : St := ⟨(up (up (up (up (fun _ => .un) 8 (.d (.int .i64 x.2))) 7 (.d (.int .i64 (a1.length : Int)))) 6 (.d (.sl a1.length ((eInt .i64).cells a1)))) 3 (.r (.msl 32 0 0 x.1.length))), (up (hB fun _ => 0) 32 ⟨0, some (.own 5 1 (eU8.cells x.1))⟩)⟩
def f45_l0_H (a1 : List Int) (x : (List UInt8) × Int) (st : St) : Prop := keepSt [3, 6, 7, 8] [(32, .id 32)] [] st = f45_l0_J a1 x
def f45_l0_e0_J (a1 : List Int) (p53 : List UInt8) : St := ⟨(up (fun _ => .un) 3 (.r (.msl 32 0 0 p53.length))), (up (hB fun _ => 0) 32 ⟨0, some (.own 5 1 (eU8.cells p53))⟩)⟩
def f45_l0_X (a1 : List Int) (z : ((List UInt8))) (e : PX) (st : St) : Prop := e = .exit 0 ∧ st = f45_l0_e0_J a1 z
def f45_l0_j2_J (a1 : List Int) (p61 : List UInt8) (p62 : Int) : St := ⟨(up (up (up (up (fun _ => .un) 8 (.d (.int .i64 p62))) 7 (.d (.int .i64 (a1.length : Int)))) 6 (.d (.sl a1.length ((eInt .i64).cells a1)))) 3 (.r (.msl 32 0 0 p61.length))), (up (hB fun _ => 0) 32 ⟨0, some (.own 5 1 (eU8.cells p61))⟩)⟩
noncomputable def f45_l0_j2 (a1 : List Int) (p61 : List UInt8) (p62 : Int) : Option (((List UInt8) × Int) ⊕ (((List UInt8)))) := ((idx a1 p62).bind fun z7 => (bif (decide (z7 < 0)) then ((f60 65533 p61).bind fun z8 => (some (.inl (z8, (IntKind.i64.wrap (p62 + 1)))))) else (bif (decide (1114111 < z7)) then ((f60 65533 p61).bind fun z9 => (some (.inl (z9, (IntKind.i64.wrap (p62 + 1)))))) else (bif (decide (55296 ≤ z7)) then (bif (decide (z7 ≤ 57343)) then ((f60 65533 p61).bind fun z10 => (some (.inl (z10, (IntKind.i64.wrap (p62 + 1)))))) else ((f60 (IntKind.i32.wrap (z7)) p61).bind fun z11 => (some (.inl (z11, (IntKind.i64.wrap (p62 + 1))))))) else ((f60 (IntKind.i32.wrap (z7)) p61).bind fun z12 => (some (.inl (z12, (IntKind.i64.wrap (p62 + 1))))))))))
theorem f45_l0_j2_ok {d : Nat} (hd : 3 ≤ d) (a1 : List Int) {r : ((List UInt8) × Int) ⊕ (((List UInt8)))} {Q : PX → St → Prop} (hQ : ∀ e st', finL (f45_l0_H a1) (f45_l0_X a1) r e st' → Q e st') (p61 : List UInt8) (p62 : Int) (hS : f45_l0_j2 a1 p61 p62 = some r) {st : St} (he : keepSt [3, 6, 7, 8] [(32, .id 32)] [] st = f45_l0_j2_J a1 p61 p62) : ZR (lev codes baseL (d - 1)) Q c45_1 [] st := by
  refine zrKeep he ?_
  unfold f45_l0_j2 at hS
  refine zrSeq ?_
  refine zrBlk ?_
  refine zrSeq ?_
  refine zrReg ?_
  refine bindE hS (fun z7 hz7 hS => ?_)
  refine zlOp (d := some 10) (op := (.ixS 3 1 (.tmp 6) (.tmp 8))) (g := none) (v := (.rptr ((eInt .i64).enc z7 ++ ((eInt .i64).cells (a1.drop ((p62 : Int).toNat + 1)))))) (ups := []) (j := 1) rfl (by kernel_rfl) (by kernel_rfl) (ev_ixS (eInt .i64) (kk := .i64) (xs := a1) (j := p62) (by kernel_rfl) (by kernel_rfl) hz7 rfl (by intro h; cases h)) ?_
  refine zlRun (n := 2) (j := 3) rfl (by kernel_rfl) ?_
  refine zlEnd (by kernel_rfl) ?_
  refine zkSeq ?_
  refine zrSeq ?_
  refine zrSeq ?_
  refine zrReg ?_
  refine zlRun (n := 1) (j := 1) rfl (by kernel_rfl) ?_
  refine zlBool (d := 13) (op := (.cmpI .lss (.tmp 12) (.const (.int .i64 0)))) (g := none) (j := 2) (decide (z7 < 0)) rfl (by kernel_rfl) (by kernel_rfl) (by kernel_rfl) (fun hc => ?_) (fun hc => ?_)
  · replace hS := cond_t hc hS
    refine zlRun (n := 12) (j := 14) rfl (by kernel_rfl) ?_
    refine zlEnd (by kernel_rfl) ?_
    refine zkSeq ?_
    refine zrCondT (by kernel_rfl) ?_
    refine zrReg ?_
    refine zlRun (n := 1) (j := 1) rfl (by kernel_rfl) ?_
    refine zlEnd (by kernel_rfl) ?_
    refine zkSeq ?_
    refine zrReg ?_
    refine zlRun (n := 3) (j := 3) rfl (by kernel_rfl) ?_
    refine bindE hS (fun z8 hz8 hS => ?_)
    refine zlOp (d := some 29) (op := (.callr 60 [(.tmp 26), (.tmp 28)])) (g := none) (j := 4) rfl (by kernel_rfl) (by kernel_rfl) (ev_callrA (ids := [32]) (by kernel_rfl) (by kernel_rfl) (by kernel_rfl) (f60_ok (d - 1) (dpt hd rfl) 65533 p61 z8 hz8) (by kernel_rfl)) ?_
    refine zlRun (n := 1) (j := 5) rfl (by kernel_rfl) ?_
    refine zlEnd (by kernel_rfl) ?_
    refine zkBlk ?_
    refine zkSeq ?_
    refine zrReg ?_
    refine zlRun (n := 2) (j := 2) rfl (by kernel_rfl) ?_
    refine zlEnd (by kernel_rfl) ?_
    refine zkNil ?_
    exact endQ hS hQ (finL_n (by show keepSt _ _ _ _ = _; kernel_rfl))
  · replace hS := cond_f hc hS
    refine zlRun (n := 2) (j := 4) rfl (by kernel_rfl) ?_
    refine zlBool (d := 16) (op := (.cmpI .gtr (.tmp 15) (.const (.int .i64 1114111)))) (g := (some (14, false))) (j := 5) (decide (1114111 < z7)) rfl (by kernel_rfl) (by kernel_rfl) (by kernel_rfl) (fun hc => ?_) (fun hc => ?_)
    · replace hS := cond_t hc hS
      refine zlRun (n := 9) (j := 14) rfl (by kernel_rfl) ?_
      refine zlEnd (by kernel_rfl) ?_
      refine zkSeq ?_
      refine zrCondT (by kernel_rfl) ?_
      refine zrReg ?_
      refine zlRun (n := 1) (j := 1) rfl (by kernel_rfl) ?_
      refine zlEnd (by kernel_rfl) ?_
      refine zkSeq ?_
      refine zrReg ?_
      refine zlRun (n := 3) (j := 3) rfl (by kernel_rfl) ?_
      refine bindE hS (fun z9 hz9 hS => ?_)
      refine zlOp (d := some 29) (op := (.callr 60 [(.tmp 26), (.tmp 28)])) (g := none) (j := 4) rfl (by kernel_rfl) (by kernel_rfl) (ev_callrA (ids := [32]) (by kernel_rfl) (by kernel_rfl) (by kernel_rfl) (f60_ok (d - 1) (dpt hd rfl) 65533 p61 z9 hz9) (by kernel_rfl)) ?_
      refine zlRun (n := 1) (j := 5) rfl (by kernel_rfl) ?_
      refine zlEnd (by kernel_rfl) ?_
      refine zkBlk ?_
      refine zkSeq ?_
      refine zrReg ?_
      refine zlRun (n := 2) (j := 2) rfl (by kernel_rfl) ?_
      refine zlEnd (by kernel_rfl) ?_
      refine zkNil ?_
      exact endQ hS hQ (finL_n (by show keepSt _ _ _ _ = _; kernel_rfl))
    · replace hS := cond_f hc hS
      refine zlRun (n := 3) (j := 8) rfl (by kernel_rfl) ?_
      refine zlBool (d := 20) (op := (.cmpI .geq (.tmp 19) (.const (.int .i64 55296)))) (g := (some (18, false))) (j := 9) (decide (55296 ≤ z7)) rfl (by kernel_rfl) (by kernel_rfl) (by kernel_rfl) (fun hc => ?_) (fun hc => ?_)
      · replace hS := cond_t hc hS
        refine zlRun (n := 2) (j := 11) rfl (by kernel_rfl) ?_
        refine zlBool (d := 23) (op := (.cmpI .leq (.tmp 22) (.const (.int .i64 57343)))) (g := (some (21, true))) (j := 12) (decide (z7 ≤ 57343)) rfl (by kernel_rfl) (by kernel_rfl) (by kernel_rfl) (fun hc => ?_) (fun hc => ?_)
        · replace hS := cond_t hc hS
          refine zlRun (n := 2) (j := 14) rfl (by kernel_rfl) ?_
          refine zlEnd (by kernel_rfl) ?_
          refine zkSeq ?_
          refine zrCondT (by kernel_rfl) ?_
          refine zrReg ?_
          refine zlRun (n := 1) (j := 1) rfl (by kernel_rfl) ?_
          refine zlEnd (by kernel_rfl) ?_
          refine zkSeq ?_
          refine zrReg ?_
          refine zlRun (n := 3) (j := 3) rfl (by kernel_rfl) ?_
          refine bindE hS (fun z10 hz10 hS => ?_)
          refine zlOp (d := some 29) (op := (.callr 60 [(.tmp 26), (.tmp 28)])) (g := none) (j := 4) rfl (by kernel_rfl) (by kernel_rfl) (ev_callrA (ids := [32]) (by kernel_rfl) (by kernel_rfl) (by kernel_rfl) (f60_ok (d - 1) (dpt hd rfl) 65533 p61 z10 hz10) (by kernel_rfl)) ?_
          refine zlRun (n := 1) (j := 5) rfl (by kernel_rfl) ?_
          refine zlEnd (by kernel_rfl) ?_
          refine zkBlk ?_
          refine zkSeq ?_
          refine zrReg ?_
          refine zlRun (n := 2) (j := 2) rfl (by kernel_rfl) ?_
          refine zlEnd (by kernel_rfl) ?_
          refine zkNil ?_
          exact endQ hS hQ (finL_n (by show keepSt _ _ _ _ = _; kernel_rfl))
        · replace hS := cond_f hc hS
          refine zlRun (n := 2) (j := 14) rfl (by kernel_rfl) ?_
          refine zlEnd (by kernel_rfl) ?_
          refine zkSeq ?_
          refine zrCondF (by kernel_rfl) ?_
          refine zrSkip ?_
          refine zkSeq ?_
          refine zrReg ?_
          refine zlRun (n := 3) (j := 3) rfl (by kernel_rfl) ?_
          refine bindE hS (fun z11 hz11 hS => ?_)
          refine zlOp (d := some 29) (op := (.callr 60 [(.tmp 26), (.tmp 28)])) (g := none) (j := 4) rfl (by kernel_rfl) (by kernel_rfl) (ev_callrA (ids := [32]) (by kernel_rfl) (by kernel_rfl) (by kernel_rfl) (f60_ok (d - 1) (dpt hd rfl) (IntKind.i32.wrap (z7)) p61 z11 hz11) (by kernel_rfl)) ?_
          refine zlRun (n := 1) (j := 5) rfl (by kernel_rfl) ?_
          refine zlEnd (by kernel_rfl) ?_
          refine zkBlk ?_
          refine zkSeq ?_
          refine zrReg ?_
          refine zlRun (n := 2) (j := 2) rfl (by kernel_rfl) ?_
          refine zlEnd (by kernel_rfl) ?_
          refine zkNil ?_
          exact endQ hS hQ (finL_n (by show keepSt _ _ _ _ = _; kernel_rfl))
      · replace hS := cond_f hc hS
        refine zlRun (n := 5) (j := 14) rfl (by kernel_rfl) ?_
        refine zlEnd (by kernel_rfl) ?_
        refine zkSeq ?_
        refine zrCondF (by kernel_rfl) ?_
        refine zrSkip ?_
        refine zkSeq ?_
        refine zrReg ?_
        refine zlRun (n := 3) (j := 3) rfl (by kernel_rfl) ?_
        refine bindE hS (fun z12 hz12 hS => ?_)
        refine zlOp (d := some 29) (op := (.callr 60 [(.tmp 26), (.tmp 28)])) (g := none) (j := 4) rfl (by kernel_rfl) (by kernel_rfl) (ev_callrA (ids := [32]) (by kernel_rfl) (by kernel_rfl) (by kernel_rfl) (f60_ok (d - 1) (dpt hd rfl) (IntKind.i32.wrap (z7)) p61 z12 hz12) (by kernel_rfl)) ?_
        refine zlRun (n := 1) (j := 5) rfl (by kernel_rfl) ?_
        refine zlEnd (by kernel_rfl) ?_
        refine zkBlk ?_
        refine zkSeq ?_
        refine zrReg ?_
        refine zlRun (n := 2) (j := 2) rfl (by kernel_rfl) ?_
        refine zlEnd (by kernel_rfl) ?_
        refine zkNil ?_
        exact endQ hS hQ (finL_n (by show keepSt _ _ _ _ = _; kernel_rfl))
def f45_l0_j1_J (a1 : List Int) (p58 : List UInt8) (p59 : Int) (p60 : Bool) : St := ⟨(up (up (up (up (up (fun _ => .un) 9 (.d (.bool p60))) 8 (.d (.int .i64 p59))) 7 (.d (.int .i64 (a1.length : Int)))) 6 (.d (.sl a1.length ((eInt .i64).cells a1)))) 3 (.r (.msl 32 0 0 p58.length))), (up (hB fun _ => 0) 32 ⟨0, some (.own 5 1 (eU8.cells p58))⟩)⟩
noncomputable def f45_l0_j1 (a1 : List Int) (p58 : List UInt8) (p59 : Int) (p60 : Bool) : Option (((List UInt8) × Int) ⊕ (((List UInt8)))) := (bif p60 then (f45_l0_j2 a1 p58 p59) else (some (.inr p58)))
theorem f45_l0_j1_ok {d : Nat} (hd : 3 ≤ d) (a1 : List Int) {r : ((List UInt8) × Int) ⊕ (((List UInt8)))} {Q : PX → St → Prop} (hQ : ∀ e st', finL (f45_l0_H a1) (f45_l0_X a1) r e st' → Q e st') (p58 : List UInt8) (p59 : Int) (p60 : Bool) (hS : f45_l0_j1 a1 p58 p59 p60 = some r) {st : St} (he : keepSt [3, 6, 7, 8, 9] [(32, .id 32)] [] st = f45_l0_j1_J a1 p58 p59 p60) : ZR (lev codes baseL (d - 1)) Q c45_2 [] st := by
  refine zrKeep he ?_
  unfold f45_l0_j1 at hS
  refine zrSeq ?_
  refine zrSplit 9 p60 (by kernel_rfl) (fun hc => ?_) (fun hc => ?_)
  · replace hS := cond_t hc hS
    refine zrCondT (by kernel_rfl) ?_
    refine zrSkip ?_
    refine zkSeq ?_
    exact f45_l0_j2_ok hd a1 hQ p58 p59 hS (by kernel_rfl)
  · replace hS := cond_f hc hS
    refine zrCondF (by kernel_rfl) ?_
    refine zrKeep (J := f45_l0_e0_J a1 p58) (by kernel_rfl) ?_
    refine zrExit ?_
    refine zkSeqX ?_
    refine zkNil ?_
    exact endQ hS hQ (finL_x (by intro h; cases h) (by show _ = _ ∧ _ = _; exact ⟨rfl, rfl⟩))
noncomputable def f45_l0 (a1 : List Int) (x : (List UInt8) × Int) : Option (((List UInt8) × Int) ⊕ (((List UInt8)))) := (bif (decide (x.2 < (a1.length : Int))) then (f45_l0_j1 a1 x.1 x.2 true) else (f45_l0_j1 a1 x.1 x.2 false))
theorem f45_l0_ok {d : Nat} (hd : 3 ≤ d) (a1 : List Int) {r : ((List UInt8) × Int) ⊕ (((List UInt8)))} {Q : PX → St → Prop} (hQ : ∀ e st', finL (f45_l0_H a1) (f45_l0_X a1) r e st' → Q e st') {x : (List UInt8) × Int} (hS : f45_l0 a1 x = some r) {st : St} (he : f45_l0_H a1 x st) : ZR (lev codes baseL (d - 1)) Q c45_3 [] st := by
  refine zrKeep he ?_
  unfold f45_l0 at hS
  refine zrSeq ?_
  refine zrReg ?_
  refine zlBool (d := 9) (op := (.cmpI .lss (.tmp 8) (.tmp 7))) (g := none) (j := 1) (decide (x.2 < (a1.length : Int))) rfl (by kernel_rfl) (by kernel_rfl) (by kernel_rfl) (fun hc => ?_) (fun hc => ?_)
  · replace hS := cond_t hc hS
    refine zlEnd (by kernel_rfl) ?_
    refine zkSeq ?_
    exact f45_l0_j1_ok hd a1 hQ x.1 x.2 true hS (by kernel_rfl)
  · replace hS := cond_f hc hS
    refine zlEnd (by kernel_rfl) ?_
    refine zkSeq ?_
    exact f45_l0_j1_ok hd a1 hQ x.1 x.2 false hS (by kernel_rfl)
noncomputable def f45 (a1 : List Int) : Option ((List UInt8)) := ((loopO (f45_l0 a1) ([], 0)).bind fun z13 => (some z13))
theorem f45_ok (d : Nat) (hd : 3 ≤ d) (a1 : List Int) (r : (List UInt8)) (hS : f45 a1 = some r) : lev codes baseL d 45 [(.d (.sl a1.length ((eInt .i64).cells a1)))] [] = some ((.d (.str r)), []) := by
  refine lev_go codes45 rfl rfl (Nat.le_trans (Nat.le_of_ble_eq_true rfl) hd) fun Q hQ => ?_
  unfold f45 at hS
  show ZR _ Q c45_b [] _
  replace hQ : ∀ e st', f45_Q r e st' → Q e st' := hQ
  refine zrSeq ?_
  refine zrReg ?_
  refine zlRun (n := 1) (j := 1) rfl (by kernel_rfl) ?_
  refine zlEnd (by kernel_rfl) ?_
  refine zkSeq ?_
  refine zrSeq ?_
  refine zrReg ?_
  refine zlRun (n := 1) (j := 1) rfl (by kernel_rfl) ?_
  refine zlEnd (by kernel_rfl) ?_
  refine zkSeq ?_
  refine zrSeq ?_
  refine zrSeq ?_
  refine zrReg ?_
  refine zlRun (n := 3) (j := 3) rfl (by kernel_rfl) ?_
  refine zlEnd (by kernel_rfl) ?_
  refine zkSeq ?_
  refine zrBlk ?_
  refine bindE hS (fun z13 hz13 hS => ?_)
  refine zrLoop (f45_l0_H a1) (f45_l0_X a1) (fun x st r Q h0 hS hQ => f45_l0_ok hd a1 hQ hS h0) (x := ([], 0)) (z := z13) (by show keepSt _ _ _ _ = _; kernel_rfl) hz13 ?_
  intro e st' _ hX
  obtain ⟨rfl, rfl⟩ : _ ∧ _ := hX
  refine zkBlkX ?_
  refine zkSeq ?_
  refine zrSeq ?_
  refine zrReg ?_
  refine zlRun (n := 1) (j := 1) rfl (by kernel_rfl) ?_
  refine zlOp (d := some 32) (op := (.cvBS (.tmp 31))) (g := none) (v := (.d (.str z13))) (ups := []) (j := 2) rfl (by kernel_rfl) (by kernel_rfl) (ev_cvBS (s := z13) ((congrArg (asL _) (by kernel_rfl : ρof _ (.tmp 31) = (.r (.msl 32 0 0 z13.length)))).trans (as_whole eU8 (e := 5) (k := 1) (xs := z13) (by kernel_rfl) rfl rfl)) rfl) ?_
  refine zlRun (n := 1) (j := 3) rfl (by kernel_rfl) ?_
  refine zlEnd (by kernel_rfl) ?_
  refine zkSeq ?_
  refine zrRet ?_
  refine zkNil ?_
  exact endQ hS hQ (fRet (by kernel_rfl) ((congrArg (fun s => outR s 0 c45.res) (by kernel_rfl : finSt c45.fin _ = f45_fin z13)).trans (f45_out z13)))
/- (*farwriter/parse.machine).text -/
def f28_fin (p8 : Int) (p9 : Int) (p10 : List UInt8) (p11 : List UInt8) (p12 : List UInt8) (p13 : List GAct) : St := ⟨(up (fun _ => .un) 1000001 .un), (up (up (hB fun _ => 0) 1 ⟨1, some (.own 25 6 (e_GAct.cells p13))⟩) 0 ⟨0, some (.box ((.d (.int .i64 p8)) :: ((.d (.int .i64 p9)) :: ((.d (.str p10)) :: ((.d (.str p11)) :: ((.d (.str p12)) :: ((.r (.msl 1 1 0 p13.length)) :: [])))))))⟩)⟩
theorem f28_out (p8 : Int) (p9 : Int) (p10 : List UInt8) (p11 : List UInt8) (p12 : List UInt8) (p13 : List GAct) : outR (f28_fin p8 p9 p10 p11 p12 p13) 2 c28.res = some ((.tup []), [(.box ((.d (.int .i64 p8)) :: ((.d (.int .i64 p9)) :: ((.d (.str p10)) :: ((.d (.str p11)) :: ((.d (.str p12)) :: ((.r (.msl 1 0 0 p13.length)) :: []))))))), (.own 25 6 (e_GAct.cells p13))]) := by
  kernel_rfl
def f28_Q (r : Int × Int × (List UInt8) × (List UInt8) × (List UInt8) × (List GAct)) (e : PX) (st : St) : Prop := DoneF c28 2 ((.tup []), [(.box ((.d (.int .i64 r.1)) :: ((.d (.int .i64 r.2.1)) :: ((.d (.str r.2.2.1)) :: ((.d (.str r.2.2.2.1)) :: ((.d (.str r.2.2.2.2.1)) :: ((.r (.msl 1 0 0 r.2.2.2.2.2.length)) :: []))))))), (.own 25 6 (e_GAct.cells r.2.2.2.2.2))]) e st
noncomputable def f28 (a1 : Int) (a2 : Int) (a3 : Int) (a4 : List UInt8) (a5 : List UInt8) (a6 : List UInt8) (a7 : List GAct) : Option (Int × Int × (List UInt8) × (List UInt8) × (List UInt8) × (List GAct)) := (bif (decide (a1 = 27)) then (some ((IntKind.i64.wrap (a2 + 1)), a3, a4, a5, a6, a7)) else (bif (decide (a1 = 24)) then ((f31 0 a2 a3 a4 a5 a6 a7).bind fun z7 => (some (z7.1, 0, [], [], [], z7.2))) else (bif (decide (a1 = 26)) then ((f31 0 a2 a3 a4 a5 a6 a7).bind fun z8 => (some (z8.1, 0, [], [], [], z8.2))) else (bif (decide (a2 = 9)) then (some (a2, a3, a4, a5, a6, a7)) else (bif (decide (a1 = 7)) then ((f29 (GAct.mk 5 0 0 ([]) ([]) a6) a2 a3 a4 a5 a6 a7).bind fun z9 => ((f30 0 z9.1 z9.2.1 z9.2.2.1 z9.2.2.2.1 z9.2.2.2.2.1 z9.2.2.2.2.2).bind fun z10 => (some (z10.1, 0, [], [], [], z10.2)))) else (bif (decide (a1 < 32)) then (some (a2, a3, a4, a5, a6, a7)) else ((f10 a1 127 159).bind fun z12 => (bif z12 then (some (a2, a3, a4, a5, a6, a7)) else ((f45 [a1]).bind fun z15 => ((cat? a6 z15).bind fun z16 => (bif (decide ((z16.length : Int) ≤ 256)) then (some (a2, a3, a4, a5, z16, a7)) else (some (a2, a3, a4, a5, a6, a7)))))))))))))
theorem f28_ok (d : Nat) (hd : 4 ≤ d) (a1 : Int) (a2 : Int) (a3 : Int) (a4 : List UInt8) (a5 : List UInt8) (a6 : List UInt8) (a7 : List GAct) (r : Int × Int × (List UInt8) × (List UInt8) × (List UInt8) × (List GAct)) (hS : f28 a1 a2 a3 a4 a5 a6 a7 = some r) : lev codes baseL d 28 [(.r (.ptr 0 0 0)), (.d (.int .i64 a1))] [(.box ((.d (.int .i64 a2)) :: ((.d (.int .i64 a3)) :: ((.d (.str a4)) :: ((.d (.str a5)) :: ((.d (.str a6)) :: ((.r (.msl 1 0 0 a7.length)) :: []))))))), (.own 25 6 (e_GAct.cells a7))] = some ((.tup []), [(.box ((.d (.int .i64 r.1)) :: ((.d (.int .i64 r.2.1)) :: ((.d (.str r.2.2.1)) :: ((.d (.str r.2.2.2.1)) :: ((.d (.str r.2.2.2.2.1)) :: ((.r (.msl 1 0 0 r.2.2.2.2.2.length)) :: []))))))), (.own 25 6 (e_GAct.cells r.2.2.2.2.2))]) := by
  refine lev_go codes28 rfl rfl (Nat.le_trans (Nat.le_of_ble_eq_true rfl) hd) fun Q hQ => ?_
  unfold f28 at hS
  show ZR _ Q c28_b [] _
  replace hQ : ∀ e st', f28_Q r e st' → Q e st' := hQ
  refine zrBlk ?_
  refine zrSeq ?_
  refine zrReg ?_
  refine zlRun (n := 1) (j := 1) rfl (by kernel_rfl) ?_
  refine zlBool (d := 24) (op := (.cmpI .eql (.tmp 23) (.const (.int .i64 27)))) (g := none) (j := 2) (decide (a1 = 27)) rfl (by kernel_rfl) (by kernel_rfl) (by kernel_rfl) (fun hc => ?_) (fun hc => ?_)
  · replace hS := cond_t hc hS
    refine zlRun (n := 1) (j := 3) rfl (by kernel_rfl) ?_
    refine zlEnd (by kernel_rfl) ?_
    refine zkSeq ?_
    refine zrCondT (by kernel_rfl) ?_
    refine zrReg ?_
    refine zlRun (n := 10) (j := 10) rfl (by kernel_rfl) ?_
    refine zlEnd (by kernel_rfl) ?_
    refine zkBlk ?_
    refine zkNil ?_
    exact endQ hS hQ (fNorm (by kernel_rfl) ((congrArg (fun s => outR s 2 c28.res) (by kernel_rfl : finSt c28.fin _ = f28_fin (IntKind.i64.wrap (a2 + 1)) a3 a4 a5 a6 a7)).trans (f28_out (IntKind.i64.wrap (a2 + 1)) a3 a4 a5 a6 a7)))
  · replace hS := cond_f hc hS
    refine zlRun (n := 1) (j := 3) rfl (by kernel_rfl) ?_
    refine zlEnd (by kernel_rfl) ?_
    refine zkSeq ?_
    refine zrCondF (by kernel_rfl) ?_
    refine zrSeq ?_
    refine zrReg ?_
    refine zlRun (n := 1) (j := 1) rfl (by kernel_rfl) ?_
    refine zlBool (d := 36) (op := (.cmpI .eql (.tmp 35) (.const (.int .i64 24)))) (g := none) (j := 2) (decide (a1 = 24)) rfl (by kernel_rfl) (by kernel_rfl) (by kernel_rfl) (fun hc => ?_) (fun hc => ?_)
    · replace hS := cond_t hc hS
      refine zlRun (n := 5) (j := 7) rfl (by kernel_rfl) ?_
      refine zlEnd (by kernel_rfl) ?_
      refine zkSeq ?_
      refine zrCondT (by kernel_rfl) ?_
      refine zrReg ?_
      refine zlRun (n := 1) (j := 1) rfl (by kernel_rfl) ?_
      refine bindE hS (fun z7 hz7 hS => ?_)
      refine zlOp (d := some 42) (op := (.callr 31 [(.tmp 41), (.const (.int .i64 0))])) (g := none) (j := 2) rfl (by kernel_rfl) (by kernel_rfl) (ev_callrA (ids := [0, 1]) (by kernel_rfl) (by kernel_rfl) (by kernel_rfl) (f31_ok (d - 1) (dpt hd rfl) 0 a2 a3 a4 a5 a6 a7 z7 hz7) (by kernel_rfl)) ?_
      refine zlEnd (by kernel_rfl) ?_
      refine zkBlk ?_
      refine zkNil ?_
      exact endQ hS hQ (fNorm (by kernel_rfl) ((congrArg (fun s => outR s 2 c28.res) (by kernel_rfl : finSt c28.fin _ = f28_fin z7.1 0 [] [] [] z7.2)).trans (f28_out z7.1 0 [] [] [] z7.2)))
    · replace hS := cond_f hc hS
      refine zlRun (n := 2) (j := 4) rfl (by kernel_rfl) ?_
      refine zlBool (d := 39) (op := (.cmpI .eql (.tmp 38) (.const (.int .i64 26)))) (g := (some (37, false))) (j := 5) (decide (a1 = 26)) rfl (by kernel_rfl) (by kernel_rfl) (by kernel_rfl) (fun hc => ?_) (fun hc => ?_)
      · replace hS := cond_t hc hS
        refine zlRun (n := 2) (j := 7) rfl (by kernel_rfl) ?_
        refine zlEnd (by kernel_rfl) ?_
        refine zkSeq ?_
        refine zrCondT (by kernel_rfl) ?_
        refine zrReg ?_
        refine zlRun (n := 1) (j := 1) rfl (by kernel_rfl) ?_
        refine bindE hS (fun z8 hz8 hS => ?_)
        refine zlOp (d := some 42) (op := (.callr 31 [(.tmp 41), (.const (.int .i64 0))])) (g := none) (j := 2) rfl (by kernel_rfl) (by kernel_rfl) (ev_callrA (ids := [0, 1]) (by kernel_rfl) (by kernel_rfl) (by kernel_rfl) (f31_ok (d - 1) (dpt hd rfl) 0 a2 a3 a4 a5 a6 a7 z8 hz8) (by kernel_rfl)) ?_
        refine zlEnd (by kernel_rfl) ?_
        refine zkBlk ?_
        refine zkNil ?_
        exact endQ hS hQ (fNorm (by kernel_rfl) ((congrArg (fun s => outR s 2 c28.res) (by kernel_rfl : finSt c28.fin _ = f28_fin z8.1 0 [] [] [] z8.2)).trans (f28_out z8.1 0 [] [] [] z8.2)))
      · replace hS := cond_f hc hS
        refine zlRun (n := 2) (j := 7) rfl (by kernel_rfl) ?_
        refine zlEnd (by kernel_rfl) ?_
        refine zkSeq ?_
        refine zrCondF (by kernel_rfl) ?_
        refine zrSeq ?_
        refine zrReg ?_
        refine zlRun (n := 5) (j := 5) rfl (by kernel_rfl) ?_
        refine zlBool (d := 49) (op := (.cmpI .eql (.tmp 48) (.const (.int .i64 9)))) (g := none) (j := 6) (decide (a2 = 9)) rfl (by kernel_rfl) (by kernel_rfl) (by kernel_rfl) (fun hc => ?_) (fun hc => ?_)
        · replace hS := cond_t hc hS
          refine zlRun (n := 1) (j := 7) rfl (by kernel_rfl) ?_
          refine zlEnd (by kernel_rfl) ?_
          refine zkSeq ?_
          refine zrCondT (by kernel_rfl) ?_
          refine zrSkip ?_
          refine zkBlk ?_
          refine zkNil ?_
          exact endQ hS hQ (fNorm (by kernel_rfl) ((congrArg (fun s => outR s 2 c28.res) (by kernel_rfl : finSt c28.fin _ = f28_fin a2 a3 a4 a5 a6 a7)).trans (f28_out a2 a3 a4 a5 a6 a7)))
        · replace hS := cond_f hc hS
          refine zlRun (n := 1) (j := 7) rfl (by kernel_rfl) ?_
          refine zlEnd (by kernel_rfl) ?_
          refine zkSeq ?_
          refine zrCondF (by kernel_rfl) ?_
          refine zrSeq ?_
          refine zrReg ?_
          refine zlRun (n := 1) (j := 1) rfl (by kernel_rfl) ?_
          refine zlBool (d := 52) (op := (.cmpI .eql (.tmp 51) (.const (.int .i64 7)))) (g := none) (j := 2) (decide (a1 = 7)) rfl (by kernel_rfl) (by kernel_rfl) (by kernel_rfl) (fun hc => ?_) (fun hc => ?_)
          · replace hS := cond_t hc hS
            refine zlRun (n := 1) (j := 3) rfl (by kernel_rfl) ?_
            refine zlEnd (by kernel_rfl) ?_
            refine zkSeq ?_
            refine zrCondT (by kernel_rfl) ?_
            refine zrSeq ?_
            refine zrReg ?_
            refine zlRun (n := 7) (j := 7) rfl (by kernel_rfl) ?_
            refine bindE hS (fun z9 hz9 hS => ?_)
            refine zlOp (d := some 60) (op := (.callr 29 [(.tmp 53), (.tmp 59)])) (g := none) (j := 8) rfl (by kernel_rfl) (by kernel_rfl) (ev_callrA (ids := [0, 1]) (by kernel_rfl) (by kernel_rfl) (by kernel_rfl) (f29_ok (d - 1) (dpt hd rfl) (GAct.mk 5 0 0 ([]) ([]) a6) a2 a3 a4 a5 a6 a7 z9 hz9) (by kernel_rfl)) ?_
            refine zlEnd (by kernel_rfl) ?_
            refine zkSeq ?_
            refine zrReg ?_
            refine zlRun (n := 1) (j := 1) rfl (by kernel_rfl) ?_
            refine bindE hS (fun z10 hz10 hS => ?_)
            refine zlOp (d := some 62) (op := (.callr 30 [(.tmp 61), (.const (.int .i64 0))])) (g := none) (j := 2) rfl (by kernel_rfl) (by kernel_rfl) (ev_callrA (ids := [0, 1]) (by kernel_rfl) (by kernel_rfl) (by kernel_rfl) (f30_ok (d - 1) (dpt hd rfl) 0 z9.1 z9.2.1 z9.2.2.1 z9.2.2.2.1 z9.2.2.2.2.1 z9.2.2.2.2.2 z10 hz10) (by kernel_rfl)) ?_
            refine zlEnd (by kernel_rfl) ?_
            refine zkBlk ?_
            refine zkNil ?_
            exact endQ hS hQ (fNorm (by kernel_rfl) ((congrArg (fun s => outR s 2 c28.res) (by kernel_rfl : finSt c28.fin _ = f28_fin z10.1 0 [] [] [] z10.2)).trans (f28_out z10.1 0 [] [] [] z10.2)))
          · replace hS := cond_f hc hS
            refine zlRun (n := 1) (j := 3) rfl (by kernel_rfl) ?_
            refine zlEnd (by kernel_rfl) ?_
            refine zkSeq ?_
            refine zrCondF (by kernel_rfl) ?_
            refine zrSeq ?_
            refine zrReg ?_
            refine zlRun (n := 1) (j := 1) rfl (by kernel_rfl) ?_
            refine zlBool (d := 65) (op := (.cmpI .lss (.tmp 64) (.const (.int .i64 32)))) (g := none) (j := 2) (decide (a1 < 32)) rfl (by kernel_rfl) (by kernel_rfl) (by kernel_rfl) (fun hc => ?_) (fun hc => ?_)
            · replace hS := cond_t hc hS
              refine zlRun (n := 5) (j := 7) rfl (by kernel_rfl) ?_
              refine zlEnd (by kernel_rfl) ?_
              refine zkSeq ?_
              refine zrCondT (by kernel_rfl) ?_
              refine zrSkip ?_
              refine zkBlk ?_
              refine zkNil ?_
              exact endQ hS hQ (fNorm (by kernel_rfl) ((congrArg (fun s => outR s 2 c28.res) (by kernel_rfl : finSt c28.fin _ = f28_fin a2 a3 a4 a5 a6 a7)).trans (f28_out a2 a3 a4 a5 a6 a7)))
            · replace hS := cond_f hc hS
              refine zlRun (n := 2) (j := 4) rfl (by kernel_rfl) ?_
              refine bindE hS (fun z12 hz12 hS => ?_)
              refine zlOp (d := some 68) (op := (.call 10 [(.tmp 67), (.const (.int .i64 127)), (.const (.int .i64 159))])) (g := (some (66, false))) (j := 5) rfl (by kernel_rfl) (by kernel_rfl) (ev_callA (by kernel_rfl) (f10_ok (d - 1) (dpt hd rfl) a1 127 159 z12 hz12) (by kernel_rfl) (by kernel_rfl)) ?_
              refine zlRun (n := 2) (j := 7) rfl (by kernel_rfl) ?_
              refine zlEnd (by kernel_rfl) ?_
              refine zkSeq ?_
              refine zrSplit 63 z12 (by kernel_rfl) (fun hc => ?_) (fun hc => ?_)
              · replace hS := cond_t hc hS
                refine zrCondT (by kernel_rfl) ?_
                refine zrSkip ?_
                refine zkBlk ?_
                refine zkNil ?_
                exact endQ hS hQ (fNorm (by kernel_rfl) ((congrArg (fun s => outR s 2 c28.res) (by kernel_rfl : finSt c28.fin _ = f28_fin a2 a3 a4 a5 a6 a7)).trans (f28_out a2 a3 a4 a5 a6 a7)))
              · replace hS := cond_f hc hS
                refine zrCondF (by kernel_rfl) ?_
                refine zrSeq ?_
                refine zrRegD ?_
                refine zdRun (n := 7) (j := 7) (ts := [[], [], [], [], [(0, false)], [], [(96, true)]]) (acc' := [[], [], [], [], [(0, false)], [], [(96, true)]]) rfl (by kernel_rfl) (by kernel_rfl) (by kernel_rfl) ?_
                refine bindE hS (fun z15 hz15 hS => ?_)
                refine zdOp (d := some 12) (op := (.call 45 [(.tmp 11)])) (g := none) (j := 8) (t1 := [(96, false), (104, true), (105, true), (106, true), (107, true), (108, true), (109, true), (110, true), (111, true)]) (acc' := [[], [], [], [], [(0, false)], [], [(96, true)], [(96, false), (104, true), (105, true), (106, true), (107, true), (108, true), (109, true), (110, true), (111, true)]]) (by kernel_rfl) (by kernel_rfl) rfl (by kernel_rfl) (by kernel_rfl) (ev_callB (args := [(.r (.msl 96 1 0 (([a1] : List Int).length)))]) (by kernel_rfl) (l_cons (l_own (eInt .i64) (e := 3) (k := 1) (xs := [a1]) (by kernel_rfl) rfl rfl) l_nil) (f45_ok (d - 1) (dpt hd rfl) [a1] z15 hz15) (by kernel_rfl) (by kernel_rfl)) ?_
                refine bindE hS (fun z16 hz16 hS => ?_)
                refine zdOp (d := some 13) (op := (.strO .add (.tmp 9) (.tmp 12))) (g := none) (v := (.d (.str z16))) (ups := []) (j := 9) (t1 := []) (acc' := [[], [], [], [], [(0, false)], [], [(96, true)], [(96, false), (104, true), (105, true), (106, true), (107, true), (108, true), (109, true), (110, true), (111, true)], []]) (by kernel_rfl) (by kernel_rfl) rfl (by kernel_rfl) (by kernel_rfl) (ev_cat (a := a6) (c := z15) (by kernel_rfl) (by kernel_rfl) hz16) ?_
                refine zdRun (n := 1) (j := 10) (ts := [[]]) (acc' := [[], [], [], [], [(0, false)], [], [(96, true)], [(96, false), (104, true), (105, true), (106, true), (107, true), (108, true), (109, true), (110, true), (111, true)], [], []]) rfl (by kernel_rfl) (by kernel_rfl) (by kernel_rfl) ?_
                refine zdEnd (by kernel_rfl) (by kernel_rfl) ?_
                refine zkSeq ?_
                refine zrSeq ?_
                refine zrReg ?_
                refine zlRun (n := 2) (j := 2) rfl (by kernel_rfl) ?_
                refine zlBool (d := 16) (op := (.cmpI .leq (.tmp 15) (.const (.int .i64 256)))) (g := none) (j := 3) (decide ((z16.length : Int) ≤ 256)) rfl (by kernel_rfl) (by kernel_rfl) (by kernel_rfl) (fun hc => ?_) (fun hc => ?_)
                · replace hS := cond_t hc hS
                  refine zlEnd (by kernel_rfl) ?_
                  refine zkSeq ?_
                  refine zrCondT (by kernel_rfl) ?_
                  refine zrReg ?_
                  refine zlRun (n := 6) (j := 6) rfl (by kernel_rfl) ?_
                  refine zlEnd (by kernel_rfl) ?_
                  refine zkBlk ?_
                  refine zkNil ?_
                  exact endQ hS hQ (fNorm (by kernel_rfl) ((congrArg (fun s => outR s 2 c28.res) (by kernel_rfl : finSt c28.fin _ = f28_fin a2 a3 a4 a5 z16 a7)).trans (f28_out a2 a3 a4 a5 z16 a7)))
                · replace hS := cond_f hc hS
                  refine zlEnd (by kernel_rfl) ?_
                  refine zkSeq ?_
                  refine zrCondF (by kernel_rfl) ?_
                  refine zrSkip ?_
                  refine zkBlk ?_
                  refine zkNil ?_
                  exact endQ hS hQ (fNorm (by kernel_rfl) ((congrArg (fun s => outR s 2 c28.res) (by kernel_rfl : finSt c28.fin _ = f28_fin a2 a3 a4 a5 a6 a7)).trans (f28_out a2 a3 a4 a5 a6 a7)))
/- (*farwriter/parse.machine).control -/
def f32_fin (p14 : Int) (p15 : Int) (p16 : List UInt8) (p17 : List UInt8) (p18 : List UInt8) (p19 : List GAct) (p20 : Bool) : St := ⟨(up (up (fun _ => .un) 1000001 .un) 4 (.d (.bool p20))), (up (up (hB fun _ => 0) 1 ⟨1, some (.own 25 6 (e_GAct.cells p19))⟩) 0 ⟨0, some (.box ((.d (.int .i64 p14)) :: ((.d (.int .i64 p15)) :: ((.d (.str p16)) :: ((.d (.str p17)) :: ((.d (.str p18)) :: ((.r (.msl 1 1 0 p19.length)) :: [])))))))⟩)⟩
theorem f32_out (p14 : Int) (p15 : Int) (p16 : List UInt8) (p17 : List UInt8) (p18 : List UInt8) (p19 : List GAct) (p20 : Bool) : outR (f32_fin p14 p15 p16 p17 p18 p19 p20) 2 c32.res = some ((.d (.bool p20)), [(.box ((.d (.int .i64 p14)) :: ((.d (.int .i64 p15)) :: ((.d (.str p16)) :: ((.d (.str p17)) :: ((.d (.str p18)) :: ((.r (.msl 1 0 0 p19.length)) :: []))))))), (.own 25 6 (e_GAct.cells p19))]) := by
  kernel_rfl
def f32_Q (r : Int × Int × (List UInt8) × (List UInt8) × (List UInt8) × (List GAct) × Bool) (e : PX) (st : St) : Prop := DoneF c32 2 ((.d (.bool r.2.2.2.2.2.2)), [(.box ((.d (.int .i64 r.1)) :: ((.d (.int .i64 r.2.1)) :: ((.d (.str r.2.2.1)) :: ((.d (.str r.2.2.2.1)) :: ((.d (.str r.2.2.2.2.1)) :: ((.r (.msl 1 0 0 r.2.2.2.2.2.1.length)) :: []))))))), (.own 25 6 (e_GAct.cells r.2.2.2.2.2.1))]) e st
def f32_j0_J (a1 : Int) (a2 : Int) (a3 : Int) (a4 : List UInt8) (a5 : List UInt8) (a6 : List UInt8) (a7 : List GAct) (p25 : Int) : St := ⟨(up (up (up (fun _ => .un) 1000001 .un) 5 (.d (.int .i64 p25))) 0 (.r (.ptr 0 0 0))), (up (up (hB fun _ => 0) 1 ⟨1, some (.own 25 6 (e_GAct.cells a7))⟩) 0 ⟨0, some (.box ((.d (.int .i64 a2)) :: ((.d (.int .i64 a3)) :: ((.d (.str a4)) :: ((.d (.str a5)) :: ((.d (.str a6)) :: ((.r (.msl 1 1 0 a7.length)) :: [])))))))⟩)⟩
noncomputable def f32_j0 (a1 : Int) (a2 : Int) (a3 : Int) (a4 : List UInt8) (a5 : List UInt8) (a6 : List UInt8) (a7 : List GAct) (p25 : Int) : Option (Int × Int × (List UInt8) × (List UInt8) × (List UInt8) × (List GAct) × Bool) := (bif (!decide (a2 = 0)) then ((f29 (GAct.mk 6 0 0 ([]) ([]) ([])) a2 a3 a4 a5 a6 a7).bind fun z7 => ((f30 p25 z7.1 z7.2.1 z7.2.2.1 z7.2.2.2.1 z7.2.2.2.2.1 z7.2.2.2.2.2).bind fun z8 => (some (z8.1, 0, [], [], [], z8.2, true)))) else ((f30 p25 a2 a3 a4 a5 a6 a7).bind fun z9 => (some (z9.1, 0, [], [], [], z9.2, true))))
theorem f32_j0_ok {d : Nat} (hd : 2 ≤ d) (a1 : Int) (a2 : Int) (a3 : Int) (a4 : List UInt8) (a5 : List UInt8) (a6 : List UInt8) (a7 : List GAct) {r : Int × Int × (List UInt8) × (List UInt8) × (List UInt8) × (List GAct) × Bool} {Q : PX → St → Prop} (hQ : ∀ e st', f32_Q r e st' → Q e st') (p25 : Int) (hS : f32_j0 a1 a2 a3 a4 a5 a6 a7 p25 = some r) {st : St} (he : keepSt [0, 5, 1000001] [(0, .id 0), (1, .id 1)] [] st = f32_j0_J a1 a2 a3 a4 a5 a6 a7 p25) : ZR (lev codes baseL (d - 1)) Q c32_1 [] st := by
  refine zrKeep he ?_
  unfold f32_j0 at hS
  refine zrSeq ?_
  refine zrSeq ?_
  refine zrReg ?_
  refine zlRun (n := 5) (j := 5) rfl (by kernel_rfl) ?_
  refine zlBool (d := 30) (op := (.cmpI .neq (.tmp 29) (.const (.int .i64 0)))) (g := none) (j := 6) (!decide (a2 = 0)) rfl (by kernel_rfl) (by kernel_rfl) (by kernel_rfl) (fun hc => ?_) (fun hc => ?_)
  · replace hS := cond_t hc hS
    refine zlEnd (by kernel_rfl) ?_
    refine zkSeq ?_
    refine zrCondT (by kernel_rfl) ?_
    refine zrReg ?_
    refine zlRun (n := 2) (j := 2) rfl (by kernel_rfl) ?_
    refine bindE hS (fun z7 hz7 hS => ?_)
    refine zlOp (d := some 33) (op := (.callr 29 [(.tmp 31), (.tmp 32)])) (g := none) (j := 3) rfl (by kernel_rfl) (by kernel_rfl) (ev_callrA (ids := [0, 1]) (by kernel_rfl) (by kernel_rfl) (by kernel_rfl) (f29_ok (d - 1) (dpt hd rfl) (GAct.mk 6 0 0 ([]) ([]) ([])) a2 a3 a4 a5 a6 a7 z7 hz7) (by kernel_rfl)) ?_
    refine zlEnd (by kernel_rfl) ?_
    refine zkSeq ?_
    refine zrSeq ?_
    refine zrReg ?_
    refine zlRun (n := 2) (j := 2) rfl (by kernel_rfl) ?_
    refine bindE hS (fun z8 hz8 hS => ?_)
    refine zlOp (d := some 36) (op := (.callr 30 [(.tmp 34), (.tmp 35)])) (g := none) (j := 3) rfl (by kernel_rfl) (by kernel_rfl) (ev_callrA (ids := [0, 1]) (by kernel_rfl) (by kernel_rfl) (by kernel_rfl) (f30_ok (d - 1) (dpt hd rfl) p25 z7.1 z7.2.1 z7.2.2.1 z7.2.2.2.1 z7.2.2.2.2.1 z7.2.2.2.2.2 z8 hz8) (by kernel_rfl)) ?_
    refine zlEnd (by kernel_rfl) ?_
    refine zkSeq ?_
    refine zrSeq ?_
    refine zrReg ?_
    refine zlRun (n := 1) (j := 1) rfl (by kernel_rfl) ?_
    refine zlEnd (by kernel_rfl) ?_
    refine zkSeq ?_
    refine zrRet ?_
    refine zkNil ?_
    exact endQ hS hQ (fRet (by kernel_rfl) ((congrArg (fun s => outR s 2 c32.res) (by kernel_rfl : finSt c32.fin _ = f32_fin z8.1 0 [] [] [] z8.2 true)).trans (f32_out z8.1 0 [] [] [] z8.2 true)))
  · replace hS := cond_f hc hS
    refine zlEnd (by kernel_rfl) ?_
    refine zkSeq ?_
    refine zrCondF (by kernel_rfl) ?_
    refine zrSkip ?_
    refine zkSeq ?_
    refine zrSeq ?_
    refine zrReg ?_
    refine zlRun (n := 2) (j := 2) rfl (by kernel_rfl) ?_
    refine bindE hS (fun z9 hz9 hS => ?_)
    refine zlOp (d := some 36) (op := (.callr 30 [(.tmp 34), (.tmp 35)])) (g := none) (j := 3) rfl (by kernel_rfl) (by kernel_rfl) (ev_callrA (ids := [0, 1]) (by kernel_rfl) (by kernel_rfl) (by kernel_rfl) (f30_ok (d - 1) (dpt hd rfl) p25 a2 a3 a4 a5 a6 a7 z9 hz9) (by kernel_rfl)) ?_
    refine zlEnd (by kernel_rfl) ?_
    refine zkSeq ?_
    refine zrSeq ?_
    refine zrReg ?_
    refine zlRun (n := 1) (j := 1) rfl (by kernel_rfl) ?_
    refine zlEnd (by kernel_rfl) ?_
    refine zkSeq ?_
    refine zrRet ?_
    refine zkNil ?_
    exact endQ hS hQ (fRet (by kernel_rfl) ((congrArg (fun s => outR s 2 c32.res) (by kernel_rfl : finSt c32.fin _ = f32_fin z9.1 0 [] [] [] z9.2 true)).trans (f32_out z9.1 0 [] [] [] z9.2 true)))
def f32_j1_J (a1 : Int) (a2 : Int) (a3 : Int) (a4 : List UInt8) (a5 : List UInt8) (a6 : List UInt8) (a7 : List GAct) : St := ⟨(up (up (up (fun _ => .un) 1000001 .un) 5 (.d (.int .i64 0))) 0 (.r (.ptr 0 0 0))), (up (up (hB fun _ => 0) 1 ⟨1, some (.own 25 6 (e_GAct.cells a7))⟩) 0 ⟨0, some (.box ((.d (.int .i64 a2)) :: ((.d (.int .i64 a3)) :: ((.d (.str a4)) :: ((.d (.str a5)) :: ((.d (.str a6)) :: ((.r (.msl 1 1 0 a7.length)) :: [])))))))⟩)⟩
noncomputable def f32_j1 (a1 : Int) (a2 : Int) (a3 : Int) (a4 : List UInt8) (a5 : List UInt8) (a6 : List UInt8) (a7 : List GAct) : Option (Int × Int × (List UInt8) × (List UInt8) × (List UInt8) × (List GAct) × Bool) := (f32_j0 a1 a2 a3 a4 a5 a6 a7 0)
theorem f32_j1_ok {d : Nat} (hd : 2 ≤ d) (a1 : Int) (a2 : Int) (a3 : Int) (a4 : List UInt8) (a5 : List UInt8) (a6 : List UInt8) (a7 : List GAct) {r : Int × Int × (List UInt8) × (List UInt8) × (List UInt8) × (List GAct) × Bool} {Q : PX → St → Prop} (hQ : ∀ e st', f32_Q r e st' → Q e st')  (hS : f32_j1 a1 a2 a3 a4 a5 a6 a7 = some r) {st : St} (he : keepSt [0, 5, 1000001] [(0, .id 0), (1, .id 1)] [] st = f32_j1_J a1 a2 a3 a4 a5 a6 a7) : ZR (lev codes baseL (d - 1)) Q c32_2 [.blk 0, .seq c32_1] st := by
  refine zrKeep he ?_
  unfold f32_j1 at hS
  refine zrSkip ?_
  refine zkBlk ?_
  refine zkSeq ?_
  exact f32_j0_ok hd a1 a2 a3 a4 a5 a6 a7 hQ 0 hS (by kernel_rfl)
noncomputable def f32 (a1 : Int) (a2 : Int) (a3 : Int) (a4 : List UInt8) (a5 : List UInt8) (a6 : List UInt8) (a7 : List GAct) : Option (Int × Int × (List UInt8) × (List UInt8) × (List UInt8) × (List GAct) × Bool) := (bif (decide (a1 = 27)) then (f32_j0 a1 a2 a3 a4 a5 a6 a7 1) else (bif (decide (a1 = 24)) then (f32_j1 a1 a2 a3 a4 a5 a6 a7 ) else (bif (decide (a1 = 26)) then (f32_j1 a1 a2 a3 a4 a5 a6 a7 ) else (bif (decide (a1 < 32)) then ((f29 (GAct.mk 2 a1 0 ([]) ([]) ([])) a2 a3 a4 a5 a6 a7).bind fun z10 => (some (z10.1, z10.2.1, z10.2.2.1, z10.2.2.2.1, z10.2.2.2.2.1, z10.2.2.2.2.2, true))) else ((f10 a1 127 159).bind fun z11 => (some (a2, a3, a4, a5, a6, a7, z11)))))))
theorem f32_ok (d : Nat) (hd : 2 ≤ d) (a1 : Int) (a2 : Int) (a3 : Int) (a4 : List UInt8) (a5 : List UInt8) (a6 : List UInt8) (a7 : List GAct) (r : Int × Int × (List UInt8) × (List UInt8) × (List UInt8) × (List GAct) × Bool) (hS : f32 a1 a2 a3 a4 a5 a6 a7 = some r) : lev codes baseL d 32 [(.r (.ptr 0 0 0)), (.d (.int .i64 a1))] [(.box ((.d (.int .i64 a2)) :: ((.d (.int .i64 a3)) :: ((.d (.str a4)) :: ((.d (.str a5)) :: ((.d (.str a6)) :: ((.r (.msl 1 0 0 a7.length)) :: []))))))), (.own 25 6 (e_GAct.cells a7))] = some ((.d (.bool r.2.2.2.2.2.2)), [(.box ((.d (.int .i64 r.1)) :: ((.d (.int .i64 r.2.1)) :: ((.d (.str r.2.2.1)) :: ((.d (.str r.2.2.2.1)) :: ((.d (.str r.2.2.2.2.1)) :: ((.r (.msl 1 0 0 r.2.2.2.2.2.1.length)) :: []))))))), (.own 25 6 (e_GAct.cells r.2.2.2.2.2.1))]) := by
  refine lev_go codes32 rfl rfl (Nat.le_trans (Nat.le_of_ble_eq_true rfl) hd) fun Q hQ => ?_
  unfold f32 at hS
  show ZR _ Q c32_b [] _
  replace hQ : ∀ e st', f32_Q r e st' → Q e st' := hQ
  refine zrSeq ?_
  refine zrReg ?_
  refine zlRun (n := 1) (j := 1) rfl (by kernel_rfl) ?_
  refine zlEnd (by kernel_rfl) ?_
  refine zkSeq ?_
  refine zrSeq ?_
  refine zrReg ?_
  refine zlRun (n := 1) (j := 1) rfl (by kernel_rfl) ?_
  refine zlEnd (by kernel_rfl) ?_
  refine zkSeq ?_
  refine zrSeq ?_
  refine zrBlk ?_
  refine zrSeq ?_
  refine zrReg ?_
  refine zlRun (n := 1) (j := 1) rfl (by kernel_rfl) ?_
  refine zlBool (d := 10) (op := (.cmpI .eql (.tmp 9) (.const (.int .i64 27)))) (g := none) (j := 2) (decide (a1 = 27)) rfl (by kernel_rfl) (by kernel_rfl) (by kernel_rfl) (fun hc => ?_) (fun hc => ?_)
  · replace hS := cond_t hc hS
    refine zlRun (n := 1) (j := 3) rfl (by kernel_rfl) ?_
    refine zlEnd (by kernel_rfl) ?_
    refine zkSeq ?_
    refine zrCondT (by kernel_rfl) ?_
    refine zrReg ?_
    refine zlRun (n := 1) (j := 1) rfl (by kernel_rfl) ?_
    refine zlEnd (by kernel_rfl) ?_
    refine zkBlk ?_
    refine zkSeq ?_
    exact f32_j0_ok hd a1 a2 a3 a4 a5 a6 a7 hQ 1 hS (by kernel_rfl)
  · replace hS := cond_f hc hS
    refine zlRun (n := 1) (j := 3) rfl (by kernel_rfl) ?_
    refine zlEnd (by kernel_rfl) ?_
    refine zkSeq ?_
    refine zrCondF (by kernel_rfl) ?_
    refine zrSeq ?_
    refine zrReg ?_
    refine zlRun (n := 1) (j := 1) rfl (by kernel_rfl) ?_
    refine zlBool (d := 13) (op := (.cmpI .eql (.tmp 12) (.const (.int .i64 24)))) (g := none) (j := 2) (decide (a1 = 24)) rfl (by kernel_rfl) (by kernel_rfl) (by kernel_rfl) (fun hc => ?_) (fun hc => ?_)
    · replace hS := cond_t hc hS
      refine zlRun (n := 5) (j := 7) rfl (by kernel_rfl) ?_
      refine zlEnd (by kernel_rfl) ?_
      refine zkSeq ?_
      refine zrCondT (by kernel_rfl) ?_
      exact f32_j1_ok hd a1 a2 a3 a4 a5 a6 a7 hQ  hS (by kernel_rfl)
    · replace hS := cond_f hc hS
      refine zlRun (n := 2) (j := 4) rfl (by kernel_rfl) ?_
      refine zlBool (d := 16) (op := (.cmpI .eql (.tmp 15) (.const (.int .i64 26)))) (g := (some (14, false))) (j := 5) (decide (a1 = 26)) rfl (by kernel_rfl) (by kernel_rfl) (by kernel_rfl) (fun hc => ?_) (fun hc => ?_)
      · replace hS := cond_t hc hS
        refine zlRun (n := 2) (j := 7) rfl (by kernel_rfl) ?_
        refine zlEnd (by kernel_rfl) ?_
        refine zkSeq ?_
        refine zrCondT (by kernel_rfl) ?_
        exact f32_j1_ok hd a1 a2 a3 a4 a5 a6 a7 hQ  hS (by kernel_rfl)
      · replace hS := cond_f hc hS
        refine zlRun (n := 2) (j := 7) rfl (by kernel_rfl) ?_
        refine zlEnd (by kernel_rfl) ?_
        refine zkSeq ?_
        refine zrCondF (by kernel_rfl) ?_
        refine zrSeq ?_
        refine zrReg ?_
        refine zlRun (n := 1) (j := 1) rfl (by kernel_rfl) ?_
        refine zlBool (d := 20) (op := (.cmpI .lss (.tmp 19) (.const (.int .i64 32)))) (g := none) (j := 2) (decide (a1 < 32)) rfl (by kernel_rfl) (by kernel_rfl) (by kernel_rfl) (fun hc => ?_) (fun hc => ?_)
        · replace hS := cond_t hc hS
          refine zlRun (n := 1) (j := 3) rfl (by kernel_rfl) ?_
          refine zlEnd (by kernel_rfl) ?_
          refine zkSeq ?_
          refine zrCondT (by kernel_rfl) ?_
          refine zrSeq ?_
          refine zrReg ?_
          refine zlRun (n := 3) (j := 3) rfl (by kernel_rfl) ?_
          refine bindE hS (fun z10 hz10 hS => ?_)
          refine zlOp (d := some 24) (op := (.callr 29 [(.tmp 21), (.tmp 23)])) (g := none) (j := 4) rfl (by kernel_rfl) (by kernel_rfl) (ev_callrA (ids := [0, 1]) (by kernel_rfl) (by kernel_rfl) (by kernel_rfl) (f29_ok (d - 1) (dpt hd rfl) (GAct.mk 2 a1 0 ([]) ([]) ([])) a2 a3 a4 a5 a6 a7 z10 hz10) (by kernel_rfl)) ?_
          refine zlEnd (by kernel_rfl) ?_
          refine zkSeq ?_
          refine zrSeq ?_
          refine zrReg ?_
          refine zlRun (n := 1) (j := 1) rfl (by kernel_rfl) ?_
          refine zlEnd (by kernel_rfl) ?_
          refine zkSeq ?_
          refine zrRet ?_
          refine zkBlkR ?_
          refine zkSeqR ?_
          refine zkNil ?_
          exact endQ hS hQ (fRet (by kernel_rfl) ((congrArg (fun s => outR s 2 c32.res) (by kernel_rfl : finSt c32.fin _ = f32_fin z10.1 z10.2.1 z10.2.2.1 z10.2.2.2.1 z10.2.2.2.2.1 z10.2.2.2.2.2 true)).trans (f32_out z10.1 z10.2.1 z10.2.2.1 z10.2.2.2.1 z10.2.2.2.2.1 z10.2.2.2.2.2 true)))
        · replace hS := cond_f hc hS
          refine zlRun (n := 1) (j := 3) rfl (by kernel_rfl) ?_
          refine zlEnd (by kernel_rfl) ?_
          refine zkSeq ?_
          refine zrCondF (by kernel_rfl) ?_
          refine zrSeq ?_
          refine zrReg ?_
          refine zlRun (n := 1) (j := 1) rfl (by kernel_rfl) ?_
          refine bindE hS (fun z11 hz11 hS => ?_)
          refine zlOp (d := some 7) (op := (.call 10 [(.tmp 6), (.const (.int .i64 127)), (.const (.int .i64 159))])) (g := none) (j := 2) rfl (by kernel_rfl) (by kernel_rfl) (ev_callA (by kernel_rfl) (f10_ok (d - 1) (dpt hd rfl) a1 127 159 z11 hz11) (by kernel_rfl) (by kernel_rfl)) ?_
          refine zlRun (n := 1) (j := 3) rfl (by kernel_rfl) ?_
          refine zlEnd (by kernel_rfl) ?_
          refine zkSeq ?_
          refine zrRet ?_
          refine zkBlkR ?_
          refine zkSeqR ?_
          refine zkNil ?_
          exact endQ hS hQ (fRet (by kernel_rfl) ((congrArg (fun s => outR s 2 c32.res) (by kernel_rfl : finSt c32.fin _ = f32_fin a2 a3 a4 a5 a6 a7 z11)).trans (f32_out a2 a3 a4 a5 a6 a7 z11)))
/- (*farwriter/parse.machine).more -/
def f46_fin (p2 : Int) (p3 : Int) (p4 : List UInt8) (p5 : List UInt8) (p6 : List UInt8) (p7 : List GAct) : St := ⟨(up (fun _ => .un) 1000001 .un), (up (up (hB fun _ => 0) 1 ⟨1, some (.own 25 6 (e_GAct.cells p7))⟩) 0 ⟨0, some (.box ((.d (.int .i64 p2)) :: ((.d (.int .i64 p3)) :: ((.d (.str p4)) :: ((.d (.str p5)) :: ((.d (.str p6)) :: ((.r (.msl 1 1 0 p7.length)) :: [])))))))⟩)⟩
theorem f46_out (p2 : Int) (p3 : Int) (p4 : List UInt8) (p5 : List UInt8) (p6 : List UInt8) (p7 : List GAct) : outR (f46_fin p2 p3 p4 p5 p6 p7) 2 c46.res = some ((.tup []), [(.box ((.d (.int .i64 p2)) :: ((.d (.int .i64 p3)) :: ((.d (.str p4)) :: ((.d (.str p5)) :: ((.d (.str p6)) :: ((.r (.msl 1 0 0 p7.length)) :: []))))))), (.own 25 6 (e_GAct.cells p7))]) := by
  kernel_rfl
def f46_Q (r : Int × Int × (List UInt8) × (List UInt8) × (List UInt8) × (List GAct)) (e : PX) (st : St) : Prop := DoneF c46 2 ((.tup []), [(.box ((.d (.int .i64 r.1)) :: ((.d (.int .i64 r.2.1)) :: ((.d (.str r.2.2.1)) :: ((.d (.str r.2.2.2.1)) :: ((.d (.str r.2.2.2.2.1)) :: ((.r (.msl 1 0 0 r.2.2.2.2.2.length)) :: []))))))), (.own 25 6 (e_GAct.cells r.2.2.2.2.2))]) e st
noncomputable def f46 (a1 : Int) (a2 : Int) (a3 : Int) (a4 : List UInt8) (a5 : List UInt8) (a6 : List UInt8) (a7 : List GAct) : Option (Int × Int × (List UInt8) × (List UInt8) × (List UInt8) × (List GAct)) := (bif (decide ((a4.length : Int) < 3)) then ((cat? a4 ((Utf8.encode (IntKind.i32.wrap (a1))).data.toList)).bind fun z2 => (some (a2, a3, z2, a5, a6, a7))) else (some (a2, a3, a4, a5, a6, a7)))
theorem f46_ok (d : Nat) (hd : 1 ≤ d) (a1 : Int) (a2 : Int) (a3 : Int) (a4 : List UInt8) (a5 : List UInt8) (a6 : List UInt8) (a7 : List GAct) (r : Int × Int × (List UInt8) × (List UInt8) × (List UInt8) × (List GAct)) (hS : f46 a1 a2 a3 a4 a5 a6 a7 = some r) : lev codes baseL d 46 [(.r (.ptr 0 0 0)), (.d (.int .i64 a1))] [(.box ((.d (.int .i64 a2)) :: ((.d (.int .i64 a3)) :: ((.d (.str a4)) :: ((.d (.str a5)) :: ((.d (.str a6)) :: ((.r (.msl 1 0 0 a7.length)) :: []))))))), (.own 25 6 (e_GAct.cells a7))] = some ((.tup []), [(.box ((.d (.int .i64 r.1)) :: ((.d (.int .i64 r.2.1)) :: ((.d (.str r.2.2.1)) :: ((.d (.str r.2.2.2.1)) :: ((.d (.str r.2.2.2.2.1)) :: ((.r (.msl 1 0 0 r.2.2.2.2.2.length)) :: []))))))), (.own 25 6 (e_GAct.cells r.2.2.2.2.2))]) := by
  refine lev_go codes46 rfl rfl (Nat.le_trans (Nat.le_of_ble_eq_true rfl) hd) fun Q hQ => ?_
  unfold f46 at hS
  show ZR _ Q c46_b [] _
  replace hQ : ∀ e st', f46_Q r e st' → Q e st' := hQ
  refine zrSeq ?_
  refine zrReg ?_
  refine zlRun (n := 6) (j := 6) rfl (by kernel_rfl) ?_
  refine zlBool (d := 10) (op := (.cmpI .lss (.tmp 9) (.const (.int .i64 3)))) (g := none) (j := 7) (decide ((a4.length : Int) < 3)) rfl (by kernel_rfl) (by kernel_rfl) (by kernel_rfl) (fun hc => ?_) (fun hc => ?_)
  · replace hS := cond_t hc hS
    refine zlEnd (by kernel_rfl) ?_
    refine zkSeq ?_
    refine zrCondT (by kernel_rfl) ?_
    refine zrReg ?_
    refine zlRun (n := 8) (j := 8) rfl (by kernel_rfl) ?_
    refine bindE hS (fun z2 hz2 hS => ?_)
    refine zlOp (d := some 19) (op := (.strO .add (.tmp 15) (.tmp 18))) (g := none) (v := (.d (.str z2))) (ups := []) (j := 9) rfl (by kernel_rfl) (by kernel_rfl) (ev_cat (a := a4) (c := (Utf8.encode (IntKind.i32.wrap (a1))).data.toList) (by kernel_rfl) (by kernel_rfl) hz2) ?_
    refine zlRun (n := 4) (j := 13) rfl (by kernel_rfl) ?_
    refine zlEnd (by kernel_rfl) ?_
    refine zkNil ?_
    exact endQ hS hQ (fNorm (by kernel_rfl) ((congrArg (fun s => outR s 2 c46.res) (by kernel_rfl : finSt c46.fin _ = f46_fin a2 a3 z2 a5 a6 a7)).trans (f46_out a2 a3 z2 a5 a6 a7)))
  · replace hS := cond_f hc hS
    refine zlEnd (by kernel_rfl) ?_
    refine zkSeq ?_
    refine zrCondF (by kernel_rfl) ?_
    refine zrSkip ?_
    refine zkNil ?_
    exact endQ hS hQ (fNorm (by kernel_rfl) ((congrArg (fun s => outR s 2 c46.res) (by kernel_rfl : finSt c46.fin _ = f46_fin a2 a3 a4 a5 a6 a7)).trans (f46_out a2 a3 a4 a5 a6 a7)))
/- (*farwriter/parse.machine).final -/
def f47_fin (p3 : Int) (p4 : List GAct) : St := ⟨(up (fun _ => .un) 1000001 .un), (up (up (hB fun _ => 0) 1 ⟨1, some (.own 25 6 (e_GAct.cells p4))⟩) 0 ⟨0, some (.box ((.d (.int .i64 p3)) :: ((.d (.int .i64 0)) :: ((.d (.str ([]))) :: ((.d (.str ([]))) :: ((.d (.str ([]))) :: ((.r (.msl 1 1 0 p4.length)) :: [])))))))⟩)⟩
theorem f47_out (p3 : Int) (p4 : List GAct) : outR (f47_fin p3 p4) 2 c47.res = some ((.tup []), [(.box ((.d (.int .i64 p3)) :: ((.d (.int .i64 0)) :: ((.d (.str ([]))) :: ((.d (.str ([]))) :: ((.d (.str ([]))) :: ((.r (.msl 1 0 0 p4.length)) :: []))))))), (.own 25 6 (e_GAct.cells p4))]) := by
  kernel_rfl
def f47_Q (r : Int × (List GAct)) (e : PX) (st : St) : Prop := DoneF c47 2 ((.tup []), [(.box ((.d (.int .i64 r.1)) :: ((.d (.int .i64 0)) :: ((.d (.str ([]))) :: ((.d (.str ([]))) :: ((.d (.str ([]))) :: ((.r (.msl 1 0 0 r.2.length)) :: []))))))), (.own 25 6 (e_GAct.cells r.2))]) e st
noncomputable def f47 (a1 : GAct) (a2 : Int) (a3 : Int) (a4 : List UInt8) (a5 : List UInt8) (a6 : List UInt8) (a7 : List GAct) : Option (Int × (List GAct)) := (bif (decide ((a4.length : Int) = 3)) then ((f29 (GAct.mk 6 0 0 ([]) ([]) ([])) a2 a3 a4 a5 a6 a7).bind fun z3 => ((f30 0 z3.1 z3.2.1 z3.2.2.1 z3.2.2.2.1 z3.2.2.2.2.1 z3.2.2.2.2.2).bind fun z4 => (some (z4.1, z4.2)))) else ((f29 a1 a2 a3 a4 a5 a6 a7).bind fun z5 => ((f30 0 z5.1 z5.2.1 z5.2.2.1 z5.2.2.2.1 z5.2.2.2.2.1 z5.2.2.2.2.2).bind fun z6 => (some (z6.1, z6.2)))))
theorem f47_ok (d : Nat) (hd : 2 ≤ d) (a1 : GAct) (a2 : Int) (a3 : Int) (a4 : List UInt8) (a5 : List UInt8) (a6 : List UInt8) (a7 : List GAct) (r : Int × (List GAct)) (hS : f47 a1 a2 a3 a4 a5 a6 a7 = some r) : lev codes baseL d 47 [(.r (.ptr 0 0 0)), (.agg ((.d (.int .i64 a1.Kind)) :: ((.d (.int .i64 a1.Code)) :: ((.d (.int .i64 a1.Mark)) :: ((.d (.str a1.Inter)) :: ((.d (.sl a1.Args.length ((eInt .i64).cells a1.Args))) :: ((.d (.str a1.Text)) :: [])))))))] [(.box ((.d (.int .i64 a2)) :: ((.d (.int .i64 a3)) :: ((.d (.str a4)) :: ((.d (.str a5)) :: ((.d (.str a6)) :: ((.r (.msl 1 0 0 a7.length)) :: []))))))), (.own 25 6 (e_GAct.cells a7))] = some ((.tup []), [(.box ((.d (.int .i64 r.1)) :: ((.d (.int .i64 0)) :: ((.d (.str ([]))) :: ((.d (.str ([]))) :: ((.d (.str ([]))) :: ((.r (.msl 1 0 0 r.2.length)) :: []))))))), (.own 25 6 (e_GAct.cells r.2))]) := by
  refine lev_go codes47 rfl rfl (Nat.le_trans (Nat.le_of_ble_eq_true rfl) hd) fun Q hQ => ?_
  unfold f47 at hS
  show ZR _ Q c47_b [] _
  replace hQ : ∀ e st', f47_Q r e st' → Q e st' := hQ
  refine zrSeq ?_
  refine zrReg ?_
  refine zlRun (n := 1) (j := 1) rfl (by kernel_rfl) ?_
  refine zlEnd (by kernel_rfl) ?_
  refine zkSeq ?_
  refine zrSeq ?_
  refine zrSeq ?_
  refine zrReg ?_
  refine zlRun (n := 6) (j := 6) rfl (by kernel_rfl) ?_
  refine zlBool (d := 10) (op := (.cmpI .eql (.tmp 9) (.const (.int .i64 3)))) (g := none) (j := 7) (decide ((a4.length : Int) = 3)) rfl (by kernel_rfl) (by kernel_rfl) (by kernel_rfl) (fun hc => ?_) (fun hc => ?_)
  · replace hS := cond_t hc hS
    refine zlEnd (by kernel_rfl) ?_
    refine zkSeq ?_
    refine zrCondT (by kernel_rfl) ?_
    refine zrReg ?_
    refine zlRun (n := 2) (j := 2) rfl (by kernel_rfl) ?_
    refine zlEnd (by kernel_rfl) ?_
    refine zkSeq ?_
    refine zrSeq ?_
    refine zrReg ?_
    refine zlRun (n := 2) (j := 2) rfl (by kernel_rfl) ?_
    refine bindE hS (fun z3 hz3 hS => ?_)
    refine zlOp (d := some 14) (op := (.callr 29 [(.tmp 12), (.tmp 13)])) (g := none) (j := 3) rfl (by kernel_rfl) (by kernel_rfl) (ev_callrA (ids := [0, 1]) (by kernel_rfl) (by kernel_rfl) (by kernel_rfl) (f29_ok (d - 1) (dpt hd rfl) (GAct.mk 6 0 0 ([]) ([]) ([])) a2 a3 a4 a5 a6 a7 z3 hz3) (by kernel_rfl)) ?_
    refine zlEnd (by kernel_rfl) ?_
    refine zkSeq ?_
    refine zrReg ?_
    refine zlRun (n := 1) (j := 1) rfl (by kernel_rfl) ?_
    refine bindE hS (fun z4 hz4 hS => ?_)
    refine zlOp (d := some 16) (op := (.callr 30 [(.tmp 15), (.const (.int .i64 0))])) (g := none) (j := 2) rfl (by kernel_rfl) (by kernel_rfl) (ev_callrA (ids := [0, 1]) (by kernel_rfl) (by kernel_rfl) (by kernel_rfl) (f30_ok (d - 1) (dpt hd rfl) 0 z3.1 z3.2.1 z3.2.2.1 z3.2.2.2.1 z3.2.2.2.2.1 z3.2.2.2.2.2 z4 hz4) (by kernel_rfl)) ?_
    refine zlEnd (by kernel_rfl) ?_
    refine zkNil ?_
    exact endQ hS hQ (fNorm (by kernel_rfl) ((congrArg (fun s => outR s 2 c47.res) (by kernel_rfl : finSt c47.fin _ = f47_fin z4.1 z4.2)).trans (f47_out z4.1 z4.2)))
  · replace hS := cond_f hc hS
    refine zlEnd (by kernel_rfl) ?_
    refine zkSeq ?_
    refine zrCondF (by kernel_rfl) ?_
    refine zrSkip ?_
    refine zkSeq ?_
    refine zrSeq ?_
    refine zrReg ?_
    refine zlRun (n := 2) (j := 2) rfl (by kernel_rfl) ?_
    refine bindE hS (fun z5 hz5 hS => ?_)
    refine zlOp (d := some 14) (op := (.callr 29 [(.tmp 12), (.tmp 13)])) (g := none) (j := 3) rfl (by kernel_rfl) (by kernel_rfl) (ev_callrA (ids := [0, 1]) (by kernel_rfl) (by kernel_rfl) (by kernel_rfl) (f29_ok (d - 1) (dpt hd rfl) a1 a2 a3 a4 a5 a6 a7 z5 hz5) (by kernel_rfl)) ?_
    refine zlEnd (by kernel_rfl) ?_
    refine zkSeq ?_
    refine zrReg ?_
    refine zlRun (n := 1) (j := 1) rfl (by kernel_rfl) ?_
    refine bindE hS (fun z6 hz6 hS => ?_)
    refine zlOp (d := some 16) (op := (.callr 30 [(.tmp 15), (.const (.int .i64 0))])) (g := none) (j := 2) rfl (by kernel_rfl) (by kernel_rfl) (ev_callrA (ids := [0, 1]) (by kernel_rfl) (by kernel_rfl) (by kernel_rfl) (f30_ok (d - 1) (dpt hd rfl) 0 z5.1 z5.2.1 z5.2.2.1 z5.2.2.2.1 z5.2.2.2.2.1 z5.2.2.2.2.2 z6 hz6) (by kernel_rfl)) ?_
    refine zlEnd (by kernel_rfl) ?_
    refine zkNil ?_
    exact endQ hS hQ (fNorm (by kernel_rfl) ((congrArg (fun s => outR s 2 c47.res) (by kernel_rfl : finSt c47.fin _ = f47_fin z6.1 z6.2)).trans (f47_out z6.1 z6.2)))
/- (*farwriter/parse.machine).esc -/
def f33_fin (p6 : Int) (p7 : Int) (p8 : List UInt8) (p9 : List UInt8) (p10 : List UInt8) (p11 : List GAct) : St := ⟨(up (fun _ => .un) 1000001 .un), (up (up (hB fun _ => 0) 1 ⟨1, some (.own 25 6 (e_GAct.cells p11))⟩) 0 ⟨0, some (.box ((.d (.int .i64 p6)) :: ((.d (.int .i64 p7)) :: ((.d (.str p8)) :: ((.d (.str p9)) :: ((.d (.str p10)) :: ((.r (.msl 1 1 0 p11.length)) :: [])))))))⟩)⟩
theorem f33_out (p6 : Int) (p7 : Int) (p8 : List UInt8) (p9 : List UInt8) (p10 : List UInt8) (p11 : List GAct) : outR (f33_fin p6 p7 p8 p9 p10 p11) 2 c33.res = some ((.tup []), [(.box ((.d (.int .i64 p6)) :: ((.d (.int .i64 p7)) :: ((.d (.str p8)) :: ((.d (.str p9)) :: ((.d (.str p10)) :: ((.r (.msl 1 0 0 p11.length)) :: []))))))), (.own 25 6 (e_GAct.cells p11))]) := by
  kernel_rfl
def f33_Q (r : Int × Int × (List UInt8) × (List UInt8) × (List UInt8) × (List GAct)) (e : PX) (st : St) : Prop := DoneF c33 2 ((.tup []), [(.box ((.d (.int .i64 r.1)) :: ((.d (.int .i64 r.2.1)) :: ((.d (.str r.2.2.1)) :: ((.d (.str r.2.2.2.1)) :: ((.d (.str r.2.2.2.2.1)) :: ((.r (.msl 1 0 0 r.2.2.2.2.2.length)) :: []))))))), (.own 25 6 (e_GAct.cells r.2.2.2.2.2))]) e st
noncomputable def f33 (a1 : Int) (a2 : Int) (a3 : Int) (a4 : List UInt8) (a5 : List UInt8) (a6 : List UInt8) (a7 : List GAct) : Option (Int × Int × (List UInt8) × (List UInt8) × (List UInt8) × (List GAct)) := (bif (decide (a1 < 48)) then ((f46 a1 a2 a3 a4 a5 a6 a7).bind fun z5 => (some (2, z5.2.1, z5.2.2.1, z5.2.2.2.1, z5.2.2.2.2.1, z5.2.2.2.2.2))) else (bif (decide (a2 = 2)) then ((f47 (GAct.mk 3 a1 0 a4 ([]) ([])) a2 a3 a4 a5 a6 a7).bind fun z6 => (some (z6.1, 0, [], [], [], z6.2))) else (bif (decide (a1 = 91)) then (some (3, a3, a4, a5, a6, a7)) else (bif (decide (a1 = 93)) then (some (7, a3, a4, a5, a6, a7)) else ((libIndexByte [80, 88, 94, 95] (u8 a1)).bind fun z8 => (bif (decide (0 ≤ z8)) then (some (9, a3, a4, a5, a6, a7)) else ((f47 (GAct.mk 3 a1 0 ([]) ([]) ([])) a2 a3 a4 a5 a6 a7).bind fun z9 => (some (z9.1, 0, [], [], [], z9.2)))))))))
theorem f33_ok (d : Nat) (hd : 3 ≤ d) (a1 : Int) (a2 : Int) (a3 : Int) (a4 : List UInt8) (a5 : List UInt8) (a6 : List UInt8) (a7 : List GAct) (r : Int × Int × (List UInt8) × (List UInt8) × (List UInt8) × (List GAct)) (hS : f33 a1 a2 a3 a4 a5 a6 a7 = some r) : lev codes baseL d 33 [(.r (.ptr 0 0 0)), (.d (.int .i64 a1))] [(.box ((.d (.int .i64 a2)) :: ((.d (.int .i64 a3)) :: ((.d (.str a4)) :: ((.d (.str a5)) :: ((.d (.str a6)) :: ((.r (.msl 1 0 0 a7.length)) :: []))))))), (.own 25 6 (e_GAct.cells a7))] = some ((.tup []), [(.box ((.d (.int .i64 r.1)) :: ((.d (.int .i64 r.2.1)) :: ((.d (.str r.2.2.1)) :: ((.d (.str r.2.2.2.1)) :: ((.d (.str r.2.2.2.2.1)) :: ((.r (.msl 1 0 0 r.2.2.2.2.2.length)) :: []))))))), (.own 25 6 (e_GAct.cells r.2.2.2.2.2))]) := by
  refine lev_go codes33 rfl rfl (Nat.le_trans (Nat.le_of_ble_eq_true rfl) hd) fun Q hQ => ?_
  unfold f33 at hS
  show ZR _ Q c33_b [] _
  replace hQ : ∀ e st', f33_Q r e st' → Q e st' := hQ
  refine zrBlk ?_
  refine zrSeq ?_
  refine zrReg ?_
  refine zlRun (n := 1) (j := 1) rfl (by kernel_rfl) ?_
  refine zlBool (d := 10) (op := (.cmpI .lss (.tmp 9) (.const (.int .i64 48)))) (g := none) (j := 2) (decide (a1 < 48)) rfl (by kernel_rfl) (by kernel_rfl) (by kernel_rfl) (fun hc => ?_) (fun hc => ?_)
  · replace hS := cond_t hc hS
    refine zlRun (n := 1) (j := 3) rfl (by kernel_rfl) ?_
    refine zlEnd (by kernel_rfl) ?_
    refine zkSeq ?_
    refine zrCondT (by kernel_rfl) ?_
    refine zrSeq ?_
    refine zrReg ?_
    refine zlRun (n := 2) (j := 2) rfl (by kernel_rfl) ?_
    refine bindE hS (fun z5 hz5 hS => ?_)
    refine zlOp (d := some 13) (op := (.callr 46 [(.tmp 11), (.tmp 12)])) (g := none) (j := 3) rfl (by kernel_rfl) (by kernel_rfl) (ev_callrA (ids := [0, 1]) (by kernel_rfl) (by kernel_rfl) (by kernel_rfl) (f46_ok (d - 1) (dpt hd rfl) a1 a2 a3 a4 a5 a6 a7 z5 hz5) (by kernel_rfl)) ?_
    refine zlEnd (by kernel_rfl) ?_
    refine zkSeq ?_
    refine zrReg ?_
    refine zlRun (n := 5) (j := 5) rfl (by kernel_rfl) ?_
    refine zlEnd (by kernel_rfl) ?_
    refine zkBlk ?_
    refine zkNil ?_
    exact endQ hS hQ (fNorm (by kernel_rfl) ((congrArg (fun s => outR s 2 c33.res) (by kernel_rfl : finSt c33.fin _ = f33_fin 2 z5.2.1 z5.2.2.1 z5.2.2.2.1 z5.2.2.2.2.1 z5.2.2.2.2.2)).trans (f33_out 2 z5.2.1 z5.2.2.1 z5.2.2.2.1 z5.2.2.2.2.1 z5.2.2.2.2.2)))
  · replace hS := cond_f hc hS
    refine zlRun (n := 1) (j := 3) rfl (by kernel_rfl) ?_
    refine zlEnd (by kernel_rfl) ?_
    refine zkSeq ?_
    refine zrCondF (by kernel_rfl) ?_
    refine zrSeq ?_
    refine zrReg ?_
    refine zlRun (n := 5) (j := 5) rfl (by kernel_rfl) ?_
    refine zlBool (d := 24) (op := (.cmpI .eql (.tmp 23) (.const (.int .i64 2)))) (g := none) (j := 6) (decide (a2 = 2)) rfl (by kernel_rfl) (by kernel_rfl) (by kernel_rfl) (fun hc => ?_) (fun hc => ?_)
    · replace hS := cond_t hc hS
      refine zlRun (n := 1) (j := 7) rfl (by kernel_rfl) ?_
      refine zlEnd (by kernel_rfl) ?_
      refine zkSeq ?_
      refine zrCondT (by kernel_rfl) ?_
      refine zrReg ?_
      refine zlRun (n := 8) (j := 8) rfl (by kernel_rfl) ?_
      refine bindE hS (fun z6 hz6 hS => ?_)
      refine zlOp (d := some 33) (op := (.callr 47 [(.tmp 25), (.tmp 32)])) (g := none) (j := 9) rfl (by kernel_rfl) (by kernel_rfl) (ev_callrA (ids := [0, 1]) (by kernel_rfl) (by kernel_rfl) (by kernel_rfl) (f47_ok (d - 1) (dpt hd rfl) (GAct.mk 3 a1 0 a4 ([]) ([])) a2 a3 a4 a5 a6 a7 z6 hz6) (by kernel_rfl)) ?_
      refine zlEnd (by kernel_rfl) ?_
      refine zkBlk ?_
      refine zkNil ?_
      exact endQ hS hQ (fNorm (by kernel_rfl) ((congrArg (fun s => outR s 2 c33.res) (by kernel_rfl : finSt c33.fin _ = f33_fin z6.1 0 [] [] [] z6.2)).trans (f33_out z6.1 0 [] [] [] z6.2)))
    · replace hS := cond_f hc hS
      refine zlRun (n := 1) (j := 7) rfl (by kernel_rfl) ?_
      refine zlEnd (by kernel_rfl) ?_
      refine zkSeq ?_
      refine zrCondF (by kernel_rfl) ?_
      refine zrSeq ?_
      refine zrReg ?_
      refine zlRun (n := 1) (j := 1) rfl (by kernel_rfl) ?_
      refine zlBool (d := 36) (op := (.cmpI .eql (.tmp 35) (.const (.int .i64 91)))) (g := none) (j := 2) (decide (a1 = 91)) rfl (by kernel_rfl) (by kernel_rfl) (by kernel_rfl) (fun hc => ?_) (fun hc => ?_)
      · replace hS := cond_t hc hS
        refine zlRun (n := 1) (j := 3) rfl (by kernel_rfl) ?_
        refine zlEnd (by kernel_rfl) ?_
        refine zkSeq ?_
        refine zrCondT (by kernel_rfl) ?_
        refine zrReg ?_
        refine zlRun (n := 5) (j := 5) rfl (by kernel_rfl) ?_
        refine zlEnd (by kernel_rfl) ?_
        refine zkBlk ?_
        refine zkNil ?_
        exact endQ hS hQ (fNorm (by kernel_rfl) ((congrArg (fun s => outR s 2 c33.res) (by kernel_rfl : finSt c33.fin _ = f33_fin 3 a3 a4 a5 a6 a7)).trans (f33_out 3 a3 a4 a5 a6 a7)))
      · replace hS := cond_f hc hS
        refine zlRun (n := 1) (j := 3) rfl (by kernel_rfl) ?_
        refine zlEnd (by kernel_rfl) ?_
        refine zkSeq ?_
        refine zrCondF (by kernel_rfl) ?_
        refine zrSeq ?_
        refine zrReg ?_
        refine zlRun (n := 1) (j := 1) rfl (by kernel_rfl) ?_
        refine zlBool (d := 43) (op := (.cmpI .eql (.tmp 42) (.const (.int .i64 93)))) (g := none) (j := 2) (decide (a1 = 93)) rfl (by kernel_rfl) (by kernel_rfl) (by kernel_rfl) (fun hc => ?_) (fun hc => ?_)
        · replace hS := cond_t hc hS
          refine zlRun (n := 1) (j := 3) rfl (by kernel_rfl) ?_
          refine zlEnd (by kernel_rfl) ?_
          refine zkSeq ?_
          refine zrCondT (by kernel_rfl) ?_
          refine zrReg ?_
          refine zlRun (n := 5) (j := 5) rfl (by kernel_rfl) ?_
          refine zlEnd (by kernel_rfl) ?_
          refine zkBlk ?_
          refine zkNil ?_
          exact endQ hS hQ (fNorm (by kernel_rfl) ((congrArg (fun s => outR s 2 c33.res) (by kernel_rfl : finSt c33.fin _ = f33_fin 7 a3 a4 a5 a6 a7)).trans (f33_out 7 a3 a4 a5 a6 a7)))
        · replace hS := cond_f hc hS
          refine zlRun (n := 1) (j := 3) rfl (by kernel_rfl) ?_
          refine zlEnd (by kernel_rfl) ?_
          refine zkSeq ?_
          refine zrCondF (by kernel_rfl) ?_
          refine zrSeq ?_
          refine zrReg ?_
          refine zlRun (n := 1) (j := 1) rfl (by kernel_rfl) ?_
          refine zlOp (d := some 50) (op := (.cvI .u8 (.tmp 49))) (g := none) (v := (.d (.int .u8 ((u8 a1).toNat : Int)))) (ups := []) (j := 2) rfl (by kernel_rfl) (by kernel_rfl) (ev_cv (kk := .i64) (a := a1) (by kernel_rfl) (u8_wrap _)) ?_
          refine bindE hS (fun z8 hz8 hS => ?_)
          refine zlOp (d := some 51) (op := (.call 12 [(.const (.string ⟨#[80, 88, 94, 95]⟩)), (.tmp 50)])) (g := none) (j := 3) rfl (by kernel_rfl) (by kernel_rfl) (ev_callA (by kernel_rfl) (libIndexByte_ok (d - 1) (dpt hd rfl) [80, 88, 94, 95] (u8 a1) z8 hz8) (by kernel_rfl) (by kernel_rfl)) ?_
          refine zlBool (d := 52) (op := (.cmpI .geq (.tmp 51) (.const (.int .i64 0)))) (g := none) (j := 4) (decide (0 ≤ z8)) rfl (by kernel_rfl) (by kernel_rfl) (by kernel_rfl) (fun hc => ?_) (fun hc => ?_)
          · replace hS := cond_t hc hS
            refine zlRun (n := 1) (j := 5) rfl (by kernel_rfl) ?_
            refine zlEnd (by kernel_rfl) ?_
            refine zkSeq ?_
            refine zrCondT (by kernel_rfl) ?_
            refine zrReg ?_
            refine zlRun (n := 5) (j := 5) rfl (by kernel_rfl) ?_
            refine zlEnd (by kernel_rfl) ?_
            refine zkBlk ?_
            refine zkNil ?_
            exact endQ hS hQ (fNorm (by kernel_rfl) ((congrArg (fun s => outR s 2 c33.res) (by kernel_rfl : finSt c33.fin _ = f33_fin 9 a3 a4 a5 a6 a7)).trans (f33_out 9 a3 a4 a5 a6 a7)))
          · replace hS := cond_f hc hS
            refine zlRun (n := 1) (j := 5) rfl (by kernel_rfl) ?_
            refine zlEnd (by kernel_rfl) ?_
            refine zkSeq ?_
            refine zrCondF (by kernel_rfl) ?_
            refine zrReg ?_
            refine zlRun (n := 3) (j := 3) rfl (by kernel_rfl) ?_
            refine bindE hS (fun z9 hz9 hS => ?_)
            refine zlOp (d := some 7) (op := (.callr 47 [(.tmp 4), (.tmp 6)])) (g := none) (j := 4) rfl (by kernel_rfl) (by kernel_rfl) (ev_callrA (ids := [0, 1]) (by kernel_rfl) (by kernel_rfl) (by kernel_rfl) (f47_ok (d - 1) (dpt hd rfl) (GAct.mk 3 a1 0 ([]) ([]) ([])) a2 a3 a4 a5 a6 a7 z9 hz9) (by kernel_rfl)) ?_
            refine zlEnd (by kernel_rfl) ?_
            refine zkBlk ?_
            refine zkNil ?_
            exact endQ hS hQ (fNorm (by kernel_rfl) ((congrArg (fun s => outR s 2 c33.res) (by kernel_rfl : finSt c33.fin _ = f33_fin z9.1 0 [] [] [] z9.2)).trans (f33_out z9.1 0 [] [] [] z9.2)))
/- (*farwriter/parse.machine).ignore -/
def f48_fin (p1 : List GAct) : St := ⟨(up (fun _ => .un) 1000001 .un), (up (up (hB fun _ => 0) 1 ⟨1, some (.own 25 6 (e_GAct.cells p1))⟩) 0 ⟨0, some (.box ((.d (.int .i64 6)) :: ((.d (.int .i64 0)) :: ((.d (.str ([]))) :: ((.d (.str ([]))) :: ((.d (.str ([]))) :: ((.r (.msl 1 1 0 p1.length)) :: [])))))))⟩)⟩
theorem f48_out (p1 : List GAct) : outR (f48_fin p1) 2 c48.res = some ((.tup []), [(.box ((.d (.int .i64 6)) :: ((.d (.int .i64 0)) :: ((.d (.str ([]))) :: ((.d (.str ([]))) :: ((.d (.str ([]))) :: ((.r (.msl 1 0 0 p1.length)) :: []))))))), (.own 25 6 (e_GAct.cells p1))]) := by
  kernel_rfl
def f48_Q (r : (List GAct)) (e : PX) (st : St) : Prop := DoneF c48 2 ((.tup []), [(.box ((.d (.int .i64 6)) :: ((.d (.int .i64 0)) :: ((.d (.str ([]))) :: ((.d (.str ([]))) :: ((.d (.str ([]))) :: ((.r (.msl 1 0 0 r.length)) :: []))))))), (.own 25 6 (e_GAct.cells r))]) e st
noncomputable def f48 (a1 : Int) (a2 : Int) (a3 : List UInt8) (a4 : List UInt8) (a5 : List UInt8) (a6 : List GAct) : Option ((List GAct)) := (some a6)
theorem f48_ok (d : Nat) (hd : 1 ≤ d) (a1 : Int) (a2 : Int) (a3 : List UInt8) (a4 : List UInt8) (a5 : List UInt8) (a6 : List GAct) (r : (List GAct)) (hS : f48 a1 a2 a3 a4 a5 a6 = some r) : lev codes baseL d 48 [(.r (.ptr 0 0 0))] [(.box ((.d (.int .i64 a1)) :: ((.d (.int .i64 a2)) :: ((.d (.str a3)) :: ((.d (.str a4)) :: ((.d (.str a5)) :: ((.r (.msl 1 0 0 a6.length)) :: []))))))), (.own 25 6 (e_GAct.cells a6))] = some ((.tup []), [(.box ((.d (.int .i64 6)) :: ((.d (.int .i64 0)) :: ((.d (.str ([]))) :: ((.d (.str ([]))) :: ((.d (.str ([]))) :: ((.r (.msl 1 0 0 r.length)) :: []))))))), (.own 25 6 (e_GAct.cells r))]) := by
  refine lev_go codes48 rfl rfl (Nat.le_trans (Nat.le_of_ble_eq_true rfl) hd) fun Q hQ => ?_
  unfold f48 at hS
  show ZR _ Q c48_b [] _
  replace hQ : ∀ e st', f48_Q r e st' → Q e st' := hQ
  refine zrReg ?_
  refine zlRun (n := 5) (j := 5) rfl (by kernel_rfl) ?_
  refine zlEnd (by kernel_rfl) ?_
  refine zkNil ?_
  exact endQ hS hQ (fNorm (by kernel_rfl) ((congrArg (fun s => outR s 2 c48.res) (by kernel_rfl : finSt c48.fin _ = f48_fin a6)).trans (f48_out a6)))
end Go.Proofs.YthapehjibbjkjaaDoor.Pm
