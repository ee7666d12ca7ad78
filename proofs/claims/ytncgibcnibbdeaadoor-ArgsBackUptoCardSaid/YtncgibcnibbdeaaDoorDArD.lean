/- Typed functions, and that the codes are these. Printed by dec.py. -/
import Derived.Test.YtncgibcnibbdeaaDoorDArC
namespace Go.Proofs.YtncgibcnibbdeaaDoor.Pm
set_option maxRecDepth 1000000
set_option maxHeartbeats 20000000
set_option linter.unusedVariables false
/- strings.Trim -/
theorem libTrim_ok (d : Nat) (hd : 0 ≤ d) (a1 : List UInt8) (a2 : List UInt8) (r : List UInt8) (hS : libTrim a1 a2 = some r) : lev codes baseL d 33 [(.d (.str a1)), (.d (.str a2))] [] = some ((.d (.str r)), []) := lib_call (l := libs) rfl rfl rfl (ossS_ hS) d
/- strings.Split -/
theorem libSplit_ok (d : Nat) (hd : 0 ≤ d) (a1 : List UInt8) (a2 : List UInt8) (r : List (List UInt8)) (hS : libSplit a1 a2 = some r) : lev codes baseL d 13 [(.d (.str a1)), (.d (.str a2))] [] = some ((.d (.sl r.length (eStr.cells r))), []) := lib_call (l := libs) rfl rfl rfl (ossL_ hS) d
/- farwriter/args.Read -/
def f17_fin (p244 : List Int) (p245 : Int) : St := ⟨(up (up (fun _ => .un) 3 (.d (.int .i64 p245))) 2 (.r (.msl 569 0 0 p244.length))), (up (hB fun _ => 0) 569 ⟨0, some (.own 3 1 ((eInt .i64).cells p244))⟩)⟩
theorem f17_out (p244 : List Int) (p245 : Int) : outR (f17_fin p244 p245) 0 c17.res = some ((.tup [(.r (.own 0 3 1 p244.length ((eInt .i64).cells p244))), (.d (.int .i64 p245))]), []) := by
  exact out_of (ids := []) (ids' := [569]) (l := [(.r (.msl 569 0 0 p244.length)), (.d (.int .i64 p245))]) (by kernel_rfl) (by kernel_rfl) (o_tup (o_cons (o_own (eInt .i64) (e := 3) (k := 1) (xs := p244) (by kernel_rfl) rfl rfl rfl rfl) (o_cons rfl o_nil)))
def f17_Q (r : (List Int) × Int) (e : PX) (st : St) : Prop := DoneF c17 0 ((.tup [(.r (.own 0 3 1 r.1.length ((eInt .i64).cells r.1))), (.d (.int .i64 r.2))]), []) e st
def f17_l2_J (a1 : List UInt8) (x : (List Int) × (List (List UInt8)) × Int × Int) : St := ⟨(up (up (up (up (fun _ => .un) 38 (.d (.int .i64 x.2.2.2))) 37 (.d (.int .i64 x.2.2.1))) 36 (.d (.sl x.2.1.length (eStr.cells x.2.1)))) 5 (.r (.msl 48 0 0 x.1.length))), (up (hB fun _ => 0) 48 ⟨0, some (.own 3 1 ((eInt .i64).cells x.1))⟩)⟩
def f17_l2_H (a1 : List UInt8) (x : (List Int) × (List (List UInt8)) × Int × Int) (st : St) : Prop := keepSt [5, 36, 37, 38] [(48, .id 48)] [] st = f17_l2_J a1 x
def f17_l2_e2_J (a1 : List UInt8) (p428 : List Int) : St := ⟨(up (fun _ => .un) 5 (.r (.msl 48 0 0 p428.length))), (up (hB fun _ => 0) 48 ⟨0, some (.own 3 1 ((eInt .i64).cells p428))⟩)⟩
def f17_l2_X (a1 : List UInt8) (z : ((List Int))) (e : PX) (st : St) : Prop := e = .exit 2 ∧ st = f17_l2_e2_J a1 z
def f17_l2_l6_J (a1 : List UInt8) (x : (List Int) × (List UInt8) × Int × (List (List UInt8)) × Int × Int × Int × Int) : St := ⟨(up (up (up (up (up (up (up (up (fun _ => .un) 47 (.d (.int .i64 x.2.2.2.2.2.2.2))) 46 (.d (.int .i64 x.2.2.2.2.2.2.1))) 38 (.d (.int .i64 x.2.2.2.2.2.1))) 37 (.d (.int .i64 x.2.2.2.2.1))) 36 (.d (.sl x.2.2.2.1.length (eStr.cells x.2.2.2.1)))) 8 (.d (.int .i64 x.2.2.1))) 7 (.d (.str x.2.1))) 5 (.r (.msl 48 0 0 x.1.length))), (up (hB fun _ => 0) 48 ⟨0, some (.own 3 1 ((eInt .i64).cells x.1))⟩)⟩
def f17_l2_l6_H (a1 : List UInt8) (x : (List Int) × (List UInt8) × Int × (List (List UInt8)) × Int × Int × Int × Int) (st : St) : Prop := keepSt [5, 7, 8, 36, 37, 38, 46, 47] [(48, .id 48)] [] st = f17_l2_l6_J a1 x
def f17_l2_l6_e4_J (a1 : List UInt8) (p501 : List Int) (p502 : Int) (p503 : List (List UInt8)) (p504 : Int) (p505 : Int) : St := ⟨(up (up (up (up (up (fun _ => .un) 38 (.d (.int .i64 p505))) 37 (.d (.int .i64 p504))) 36 (.d (.sl p503.length (eStr.cells p503)))) 8 (.d (.int .i64 p502))) 5 (.r (.msl 48 0 0 p501.length))), (up (hB fun _ => 0) 48 ⟨0, some (.own 3 1 ((eInt .i64).cells p501))⟩)⟩
def f17_l2_l6_X (a1 : List UInt8) (z : ((List Int) × Int × (List (List UInt8)) × Int × Int)) (e : PX) (st : St) : Prop := e = .exit 4 ∧ st = f17_l2_l6_e4_J a1 z.1 z.2.1 z.2.2.1 z.2.2.2.1 z.2.2.2.2
def f17_l2_l6_j8_J (a1 : List UInt8) (p524 : List Int) (p525 : List UInt8) (p526 : Int) (p527 : List (List UInt8)) (p528 : Int) (p529 : Int) (p530 : Int) (p531 : Int) : St := ⟨(up (up (up (up (up (up (up (up (fun _ => .un) 47 (.d (.int .i64 p531))) 46 (.d (.int .i64 p530))) 38 (.d (.int .i64 p529))) 37 (.d (.int .i64 p528))) 36 (.d (.sl p527.length (eStr.cells p527)))) 8 (.d (.int .i64 p526))) 7 (.d (.str p525))) 5 (.r (.msl 48 0 0 p524.length))), (up (hB fun _ => 0) 48 ⟨0, some (.own 3 1 ((eInt .i64).cells p524))⟩)⟩
noncomputable def f17_l2_l6_j8 (a1 : List UInt8) (p524 : List Int) (p525 : List UInt8) (p526 : Int) (p527 : List (List UInt8)) (p528 : Int) (p529 : Int) (p530 : Int) (p531 : Int) : Option (((List Int) × (List UInt8) × Int × (List (List UInt8)) × Int × Int × Int × Int) ⊕ (((List Int) × Int × (List (List UInt8)) × Int × Int))) := ((idx p525 p531).bind fun z48 => (some (.inl (p524, p525, (if 16383 < (IntKind.i64.wrap ((IntKind.i64.wrap ((if 0 > p526 then 0 else p526) * 10)) + ((z48 - (48 : UInt8)).toNat : Int))) then 16383 else (IntKind.i64.wrap ((IntKind.i64.wrap ((if 0 > p526 then 0 else p526) * 10)) + ((z48 - (48 : UInt8)).toNat : Int)))), p527, p528, p529, p530, (IntKind.i64.wrap (p531 + 1))))))
theorem f17_l2_l6_j8_ok {d : Nat} (hd : 1 ≤ d) (a1 : List UInt8) {r : ((List Int) × (List UInt8) × Int × (List (List UInt8)) × Int × Int × Int × Int) ⊕ (((List Int) × Int × (List (List UInt8)) × Int × Int))} {Q : PX → St → Prop} (hQ : ∀ e st', finL (f17_l2_l6_H a1) (f17_l2_l6_X a1) r e st' → Q e st') (p524 : List Int) (p525 : List UInt8) (p526 : Int) (p527 : List (List UInt8)) (p528 : Int) (p529 : Int) (p530 : Int) (p531 : Int) (hS : f17_l2_l6_j8 a1 p524 p525 p526 p527 p528 p529 p530 p531 = some r) {st : St} (he : keepSt [5, 7, 8, 36, 37, 38, 46, 47] [(48, .id 48)] [] st = f17_l2_l6_j8_J a1 p524 p525 p526 p527 p528 p529 p530 p531) : ZR (lev codes baseL (d - 1)) Q c17_1 [] st := by
  refine zrKeep he ?_
  unfold f17_l2_l6_j8 at hS
  refine zrSeq ?_
  refine zrBlk ?_
  refine zrSeq ?_
  refine zrReg ?_
  refine zlRun (n := 2) (j := 2) rfl (by kernel_rfl) ?_
  refine zlEnd (by kernel_rfl) ?_
  refine zkSeq ?_
  refine zrReg ?_
  refine zlRun (n := 5) (j := 5) rfl (by kernel_rfl) ?_
  refine bindE hS (fun z48 hz48 hS => ?_)
  refine zlOp (d := some 55) (op := (.ixStr (.tmp 53) (.tmp 54))) (g := none) (v := (.d (.int .u8 (z48.toNat : Int)))) (ups := []) (j := 6) rfl (by kernel_rfl) (by kernel_rfl) (ev_ixStr (kk := .i64) (s := p525) (j := p531) (by kernel_rfl) (by kernel_rfl) hz48) ?_
  refine zlOp (d := some 56) (op := (.arI .sub (.tmp 55) (.const (.int .u8 48)))) (g := none) (v := (.d (.int .u8 ((z48 - (48 : UInt8)).toNat : Int)))) (ups := []) (j := 7) rfl (by kernel_rfl) (by kernel_rfl) (ev_arI (kk := .u8) (a := (z48.toNat : Int)) (c := ((48 : UInt8).toNat : Int)) (by kernel_rfl) (by kernel_rfl) (ar_sub8 z48 (48 : UInt8))) ?_
  refine zlOp (d := some 57) (op := (.cvI .i64 (.tmp 56))) (g := none) (v := (.d (.int .i64 ((z48 - (48 : UInt8)).toNat : Int)))) (ups := []) (j := 8) rfl (by kernel_rfl) (by kernel_rfl) (ev_cv (kk := .u8) (a := ((z48 - (48 : UInt8)).toNat : Int)) (by kernel_rfl) (cv_i64 _)) ?_
  refine zlRun (n := 3) (j := 11) rfl (by kernel_rfl) ?_
  refine zlEnd (by kernel_rfl) ?_
  refine zkBlk ?_
  refine zkSeq ?_
  refine zrReg ?_
  refine zlRun (n := 2) (j := 2) rfl (by kernel_rfl) ?_
  refine zlEnd (by kernel_rfl) ?_
  refine zkNil ?_
  exact endQ hS hQ (finL_n (by show keepSt _ _ _ _ = _; kernel_rfl))
def f17_l2_l6_j7_J (a1 : List UInt8) (p515 : List Int) (p516 : List UInt8) (p517 : Int) (p518 : List (List UInt8)) (p519 : Int) (p520 : Int) (p521 : Int) (p522 : Int) (p523 : Bool) : St := ⟨(up (up (up (up (up (up (up (up (up (fun _ => .un) 48 (.d (.bool p523))) 47 (.d (.int .i64 p522))) 46 (.d (.int .i64 p521))) 38 (.d (.int .i64 p520))) 37 (.d (.int .i64 p519))) 36 (.d (.sl p518.length (eStr.cells p518)))) 8 (.d (.int .i64 p517))) 7 (.d (.str p516))) 5 (.r (.msl 48 0 0 p515.length))), (up (hB fun _ => 0) 48 ⟨0, some (.own 3 1 ((eInt .i64).cells p515))⟩)⟩
noncomputable def f17_l2_l6_j7 (a1 : List UInt8) (p515 : List Int) (p516 : List UInt8) (p517 : Int) (p518 : List (List UInt8)) (p519 : Int) (p520 : Int) (p521 : Int) (p522 : Int) (p523 : Bool) : Option (((List Int) × (List UInt8) × Int × (List (List UInt8)) × Int × Int × Int × Int) ⊕ (((List Int) × Int × (List (List UInt8)) × Int × Int))) := (bif p523 then (f17_l2_l6_j8 a1 p515 p516 p517 p518 p519 p520 p521 p522) else (some (.inr (p515, p517, p518, p519, p520))))
theorem f17_l2_l6_j7_ok {d : Nat} (hd : 1 ≤ d) (a1 : List UInt8) {r : ((List Int) × (List UInt8) × Int × (List (List UInt8)) × Int × Int × Int × Int) ⊕ (((List Int) × Int × (List (List UInt8)) × Int × Int))} {Q : PX → St → Prop} (hQ : ∀ e st', finL (f17_l2_l6_H a1) (f17_l2_l6_X a1) r e st' → Q e st') (p515 : List Int) (p516 : List UInt8) (p517 : Int) (p518 : List (List UInt8)) (p519 : Int) (p520 : Int) (p521 : Int) (p522 : Int) (p523 : Bool) (hS : f17_l2_l6_j7 a1 p515 p516 p517 p518 p519 p520 p521 p522 p523 = some r) {st : St} (he : keepSt [5, 7, 8, 36, 37, 38, 46, 47, 48] [(48, .id 48)] [] st = f17_l2_l6_j7_J a1 p515 p516 p517 p518 p519 p520 p521 p522 p523) : ZR (lev codes baseL (d - 1)) Q c17_2 [] st := by
  refine zrKeep he ?_
  unfold f17_l2_l6_j7 at hS
  refine zrSeq ?_
  refine zrSplit 48 p523 (by kernel_rfl) (fun hc => ?_) (fun hc => ?_)
  · replace hS := cond_t hc hS
    refine zrCondT (by kernel_rfl) ?_
    refine zrSkip ?_
    refine zkSeq ?_
    exact f17_l2_l6_j8_ok hd a1 hQ p515 p516 p517 p518 p519 p520 p521 p522 hS (by kernel_rfl)
  · replace hS := cond_f hc hS
    refine zrCondF (by kernel_rfl) ?_
    refine zrKeep (J := f17_l2_l6_e4_J a1 p515 p517 p518 p519 p520) (by kernel_rfl) ?_
    refine zrExit ?_
    refine zkSeqX ?_
    refine zkNil ?_
    exact endQ hS hQ (finL_x (by intro h; cases h) (by show _ = _ ∧ _ = _; exact ⟨rfl, rfl⟩))
noncomputable def f17_l2_l6 (a1 : List UInt8) (x : (List Int) × (List UInt8) × Int × (List (List UInt8)) × Int × Int × Int × Int) : Option (((List Int) × (List UInt8) × Int × (List (List UInt8)) × Int × Int × Int × Int) ⊕ (((List Int) × Int × (List (List UInt8)) × Int × Int))) := (bif (decide (x.2.2.2.2.2.2.2 < x.2.2.2.2.2.2.1)) then (f17_l2_l6_j7 a1 x.1 x.2.1 x.2.2.1 x.2.2.2.1 x.2.2.2.2.1 x.2.2.2.2.2.1 x.2.2.2.2.2.2.1 x.2.2.2.2.2.2.2 true) else (f17_l2_l6_j7 a1 x.1 x.2.1 x.2.2.1 x.2.2.2.1 x.2.2.2.2.1 x.2.2.2.2.2.1 x.2.2.2.2.2.2.1 x.2.2.2.2.2.2.2 false))
theorem f17_l2_l6_ok {d : Nat} (hd : 1 ≤ d) (a1 : List UInt8) {r : ((List Int) × (List UInt8) × Int × (List (List UInt8)) × Int × Int × Int × Int) ⊕ (((List Int) × Int × (List (List UInt8)) × Int × Int))} {Q : PX → St → Prop} (hQ : ∀ e st', finL (f17_l2_l6_H a1) (f17_l2_l6_X a1) r e st' → Q e st') {x : (List Int) × (List UInt8) × Int × (List (List UInt8)) × Int × Int × Int × Int} (hS : f17_l2_l6 a1 x = some r) {st : St} (he : f17_l2_l6_H a1 x st) : ZR (lev codes baseL (d - 1)) Q c17_3 [] st := by
  refine zrKeep he ?_
  unfold f17_l2_l6 at hS
  refine zrSeq ?_
  refine zrReg ?_
  refine zlBool (d := 48) (op := (.cmpI .lss (.tmp 47) (.tmp 46))) (g := none) (j := 1) (decide (x.2.2.2.2.2.2.2 < x.2.2.2.2.2.2.1)) rfl (by kernel_rfl) (by kernel_rfl) (by kernel_rfl) (fun hc => ?_) (fun hc => ?_)
  · replace hS := cond_t hc hS
    refine zlEnd (by kernel_rfl) ?_
    refine zkSeq ?_
    exact f17_l2_l6_j7_ok hd a1 hQ x.1 x.2.1 x.2.2.1 x.2.2.2.1 x.2.2.2.2.1 x.2.2.2.2.2.1 x.2.2.2.2.2.2.1 x.2.2.2.2.2.2.2 true hS (by kernel_rfl)
  · replace hS := cond_f hc hS
    refine zlEnd (by kernel_rfl) ?_
    refine zkSeq ?_
    exact f17_l2_l6_j7_ok hd a1 hQ x.1 x.2.1 x.2.2.1 x.2.2.2.1 x.2.2.2.2.1 x.2.2.2.2.2.1 x.2.2.2.2.2.2.1 x.2.2.2.2.2.2.2 false hS (by kernel_rfl)
def f17_l2_j5_J (a1 : List UInt8) (p449 : List Int) (p450 : List UInt8) (p451 : List (List UInt8)) (p452 : Int) (p453 : Int) : St := ⟨(up (up (up (up (up (fun _ => .un) 38 (.d (.int .i64 p453))) 37 (.d (.int .i64 p452))) 36 (.d (.sl p451.length (eStr.cells p451)))) 7 (.d (.str p450))) 5 (.r (.msl 48 0 0 p449.length))), (up (hB fun _ => 0) 48 ⟨0, some (.own 3 1 ((eInt .i64).cells p449))⟩)⟩
noncomputable def f17_l2_j5 (a1 : List UInt8) (p449 : List Int) (p450 : List UInt8) (p451 : List (List UInt8)) (p452 : Int) (p453 : Int) : Option (((List Int) × (List (List UInt8)) × Int × Int) ⊕ (((List Int)))) := ((loopO (f17_l2_l6 a1) (p449, p450, (-1), p451, p452, p453, (p450.length : Int), 0)).bind fun z49 => ((app? 8 z49.1 ([z49.2.1] : List Int)).bind fun z50 => (some (.inl (z50, z49.2.2.1, z49.2.2.2.1, (IntKind.i64.wrap (z49.2.2.2.2 + 1)))))))
theorem f17_l2_j5_ok {d : Nat} (hd : 1 ≤ d) (a1 : List UInt8) {r : ((List Int) × (List (List UInt8)) × Int × Int) ⊕ (((List Int)))} {Q : PX → St → Prop} (hQ : ∀ e st', finL (f17_l2_H a1) (f17_l2_X a1) r e st' → Q e st') (p449 : List Int) (p450 : List UInt8) (p451 : List (List UInt8)) (p452 : Int) (p453 : Int) (hS : f17_l2_j5 a1 p449 p450 p451 p452 p453 = some r) {st : St} (he : keepSt [5, 7, 36, 37, 38] [(48, .id 48)] [] st = f17_l2_j5_J a1 p449 p450 p451 p452 p453) : ZR (lev codes baseL (d - 1)) Q c17_4 [.blk 3, .seq c17_5] st := by
  refine zrKeep he ?_
  unfold f17_l2_j5 at hS
  refine zrSeq ?_
  refine zrReg ?_
  refine zlRun (n := 1) (j := 1) rfl (by kernel_rfl) ?_
  refine zlEnd (by kernel_rfl) ?_
  refine zkSeq ?_
  refine zrSeq ?_
  refine zrSeq ?_
  refine zrReg ?_
  refine zlRun (n := 3) (j := 3) rfl (by kernel_rfl) ?_
  refine zlEnd (by kernel_rfl) ?_
  refine zkSeq ?_
  refine zrBlk ?_
  refine bindE hS (fun z49 hz49 hS => ?_)
  refine zrLoop (f17_l2_l6_H a1) (f17_l2_l6_X a1) (fun x st r Q h0 hS hQ => f17_l2_l6_ok hd a1 hQ hS h0) (x := (p449, p450, (-1), p451, p452, p453, (p450.length : Int), 0)) (z := z49) (by show keepSt _ _ _ _ = _; kernel_rfl) hz49 ?_
  intro e st' _ hX
  obtain ⟨rfl, rfl⟩ : _ ∧ _ := hX
  refine zkBlkX ?_
  refine zkSeq ?_
  refine zrReg ?_
  refine zlRun (n := 3) (j := 3) rfl (by kernel_rfl) ?_
  refine bindE hS (fun z50 hz50 hS => ?_)
  refine zlOp (d := some 64) (op := (.app 3 1 8 (.tmp 61) (.tmp 63))) (g := none) (v := (.r (.msl 48 1 0 z50.length))) (ups := [(48, ⟨1, some (.own 3 1 ((eInt .i64).cells z50))⟩)]) (j := 4) rfl (by kernel_rfl) (by kernel_rfl) (ev_app (eInt .i64) (b := 48) (g := 0) (n := z49.1.length) (xs := z49.1) (ys := [z49.2.1]) ((congrArg (asL _) (by kernel_rfl : ρof _ (.tmp 63) = (.r (.msl 512 1 0 (([z49.2.1] : List Int).length))))).trans (as_whole (eInt .i64) (e := 3) (k := 1) (xs := [z49.2.1]) (by kernel_rfl) rfl rfl)) rfl (by kernel_rfl) rfl (by kernel_rfl) rfl hz50) ?_
  refine zlRun (n := 1) (j := 5) rfl (by kernel_rfl) ?_
  refine zlEnd (by kernel_rfl) ?_
  refine zkBlk ?_
  refine zkSeq ?_
  refine zrReg ?_
  refine zlRun (n := 2) (j := 2) rfl (by kernel_rfl) ?_
  refine zlEnd (by kernel_rfl) ?_
  refine zkNil ?_
  exact endQ hS hQ (finL_n (by show keepSt _ _ _ _ = _; kernel_rfl))
def f17_l2_j4_J (a1 : List UInt8) (p439 : List Int) (p440 : List (List UInt8)) (p441 : Int) (p442 : Int) : St := ⟨(up (up (up (up (fun _ => .un) 38 (.d (.int .i64 p442))) 37 (.d (.int .i64 p441))) 36 (.d (.sl p440.length (eStr.cells p440)))) 5 (.r (.msl 48 0 0 p439.length))), (up (hB fun _ => 0) 48 ⟨0, some (.own 3 1 ((eInt .i64).cells p439))⟩)⟩
noncomputable def f17_l2_j4 (a1 : List UInt8) (p439 : List Int) (p440 : List (List UInt8)) (p441 : Int) (p442 : Int) : Option (((List Int) × (List (List UInt8)) × Int × Int) ⊕ (((List Int)))) := ((idx p440 p442).bind fun z44 => (bif (decide ((p439.length : Int) = 32)) then (some (.inr p439)) else (f17_l2_j5 a1 p439 z44 p440 p441 p442)))
theorem f17_l2_j4_ok {d : Nat} (hd : 1 ≤ d) (a1 : List UInt8) {r : ((List Int) × (List (List UInt8)) × Int × Int) ⊕ (((List Int)))} {Q : PX → St → Prop} (hQ : ∀ e st', finL (f17_l2_H a1) (f17_l2_X a1) r e st' → Q e st') (p439 : List Int) (p440 : List (List UInt8)) (p441 : Int) (p442 : Int) (hS : f17_l2_j4 a1 p439 p440 p441 p442 = some r) {st : St} (he : keepSt [5, 36, 37, 38] [(48, .id 48)] [] st = f17_l2_j4_J a1 p439 p440 p441 p442) : ZR (lev codes baseL (d - 1)) Q c17_6 [] st := by
  refine zrKeep he ?_
  unfold f17_l2_j4 at hS
  refine zrSeq ?_
  refine zrBlk ?_
  refine zrSeq ?_
  refine zrReg ?_
  refine bindE hS (fun z44 hz44 hS => ?_)
  refine zlOp (d := some 40) (op := (.ixS 9 1 (.tmp 36) (.tmp 38))) (g := none) (v := (.rptr (eStr.enc z44 ++ (eStr.cells (p440.drop ((p442 : Int).toNat + 1)))))) (ups := []) (j := 1) rfl (by kernel_rfl) (by kernel_rfl) (ev_ixS eStr (kk := .i64) (xs := p440) (j := p442) (by kernel_rfl) (by kernel_rfl) hz44 rfl (by intro h; cases h)) ?_
  refine zlRun (n := 2) (j := 3) rfl (by kernel_rfl) ?_
  refine zlEnd (by kernel_rfl) ?_
  refine zkSeq ?_
  refine zrSeq ?_
  refine zrSeq ?_
  refine zrReg ?_
  refine zlRun (n := 2) (j := 2) rfl (by kernel_rfl) ?_
  refine zlBool (d := 44) (op := (.cmpI .eql (.tmp 43) (.const (.int .i64 32)))) (g := none) (j := 3) (decide ((p439.length : Int) = 32)) rfl (by kernel_rfl) (by kernel_rfl) (by kernel_rfl) (fun hc => ?_) (fun hc => ?_)
  · replace hS := cond_t hc hS
    refine zlEnd (by kernel_rfl) ?_
    refine zkSeq ?_
    refine zrCondT (by kernel_rfl) ?_
    refine zrKeep (J := f17_l2_e2_J a1 p439) (by kernel_rfl) ?_
    refine zrExit ?_
    refine zkSeqX ?_
    refine zkBlkY rfl ?_
    refine zkSeqX ?_
    refine zkNil ?_
    exact endQ hS hQ (finL_x (by intro h; cases h) (by show _ = _ ∧ _ = _; exact ⟨rfl, rfl⟩))
  · replace hS := cond_f hc hS
    refine zlEnd (by kernel_rfl) ?_
    refine zkSeq ?_
    refine zrCondF (by kernel_rfl) ?_
    refine zrSkip ?_
    refine zkSeq ?_
    exact f17_l2_j5_ok hd a1 hQ p439 z44 p440 p441 p442 hS (by kernel_rfl)
def f17_l2_j3_J (a1 : List UInt8) (p434 : List Int) (p435 : List (List UInt8)) (p436 : Int) (p437 : Int) (p438 : Bool) : St := ⟨(up (up (up (up (up (fun _ => .un) 39 (.d (.bool p438))) 38 (.d (.int .i64 p437))) 37 (.d (.int .i64 p436))) 36 (.d (.sl p435.length (eStr.cells p435)))) 5 (.r (.msl 48 0 0 p434.length))), (up (hB fun _ => 0) 48 ⟨0, some (.own 3 1 ((eInt .i64).cells p434))⟩)⟩
noncomputable def f17_l2_j3 (a1 : List UInt8) (p434 : List Int) (p435 : List (List UInt8)) (p436 : Int) (p437 : Int) (p438 : Bool) : Option (((List Int) × (List (List UInt8)) × Int × Int) ⊕ (((List Int)))) := (bif p438 then (f17_l2_j4 a1 p434 p435 p436 p437) else (some (.inr p434)))
theorem f17_l2_j3_ok {d : Nat} (hd : 1 ≤ d) (a1 : List UInt8) {r : ((List Int) × (List (List UInt8)) × Int × Int) ⊕ (((List Int)))} {Q : PX → St → Prop} (hQ : ∀ e st', finL (f17_l2_H a1) (f17_l2_X a1) r e st' → Q e st') (p434 : List Int) (p435 : List (List UInt8)) (p436 : Int) (p437 : Int) (p438 : Bool) (hS : f17_l2_j3 a1 p434 p435 p436 p437 p438 = some r) {st : St} (he : keepSt [5, 36, 37, 38, 39] [(48, .id 48)] [] st = f17_l2_j3_J a1 p434 p435 p436 p437 p438) : ZR (lev codes baseL (d - 1)) Q c17_7 [] st := by
  refine zrKeep he ?_
  unfold f17_l2_j3 at hS
  refine zrSeq ?_
  refine zrSplit 39 p438 (by kernel_rfl) (fun hc => ?_) (fun hc => ?_)
  · replace hS := cond_t hc hS
    refine zrCondT (by kernel_rfl) ?_
    refine zrSkip ?_
    refine zkSeq ?_
    exact f17_l2_j4_ok hd a1 hQ p434 p435 p436 p437 hS (by kernel_rfl)
  · replace hS := cond_f hc hS
    refine zrCondF (by kernel_rfl) ?_
    refine zrKeep (J := f17_l2_e2_J a1 p434) (by kernel_rfl) ?_
    refine zrExit ?_
    refine zkSeqX ?_
    refine zkNil ?_
    exact endQ hS hQ (finL_x (by intro h; cases h) (by show _ = _ ∧ _ = _; exact ⟨rfl, rfl⟩))
noncomputable def f17_l2 (a1 : List UInt8) (x : (List Int) × (List (List UInt8)) × Int × Int) : Option (((List Int) × (List (List UInt8)) × Int × Int) ⊕ (((List Int)))) := (bif (decide (x.2.2.2 < x.2.2.1)) then (f17_l2_j3 a1 x.1 x.2.1 x.2.2.1 x.2.2.2 true) else (f17_l2_j3 a1 x.1 x.2.1 x.2.2.1 x.2.2.2 false))
theorem f17_l2_ok {d : Nat} (hd : 1 ≤ d) (a1 : List UInt8) {r : ((List Int) × (List (List UInt8)) × Int × Int) ⊕ (((List Int)))} {Q : PX → St → Prop} (hQ : ∀ e st', finL (f17_l2_H a1) (f17_l2_X a1) r e st' → Q e st') {x : (List Int) × (List (List UInt8)) × Int × Int} (hS : f17_l2 a1 x = some r) {st : St} (he : f17_l2_H a1 x st) : ZR (lev codes baseL (d - 1)) Q c17_8 [] st := by
  refine zrKeep he ?_
  unfold f17_l2 at hS
  refine zrSeq ?_
  refine zrReg ?_
  refine zlBool (d := 39) (op := (.cmpI .lss (.tmp 38) (.tmp 37))) (g := none) (j := 1) (decide (x.2.2.2 < x.2.2.1)) rfl (by kernel_rfl) (by kernel_rfl) (by kernel_rfl) (fun hc => ?_) (fun hc => ?_)
  · replace hS := cond_t hc hS
    refine zlEnd (by kernel_rfl) ?_
    refine zkSeq ?_
    exact f17_l2_j3_ok hd a1 hQ x.1 x.2.1 x.2.2.1 x.2.2.2 true hS (by kernel_rfl)
  · replace hS := cond_f hc hS
    refine zlEnd (by kernel_rfl) ?_
    refine zkSeq ?_
    exact f17_l2_j3_ok hd a1 hQ x.1 x.2.1 x.2.2.1 x.2.2.2 false hS (by kernel_rfl)
def f17_j1_J (a1 : List UInt8) : St := ⟨(up (fun _ => .un) 0 (.d (.str a1))), (hB fun _ => 0)⟩
noncomputable def f17_j1 (a1 : List UInt8) : Option ((List Int) × Int) := ((libSplit a1 [59]).bind fun z28 => ((loopO (f17_l2 a1) ([], z28, (z28.length : Int), 0)).bind fun z51 => (some (z51, 0))))
theorem f17_j1_ok {d : Nat} (hd : 1 ≤ d) (a1 : List UInt8) {r : (List Int) × Int} {Q : PX → St → Prop} (hQ : ∀ e st', f17_Q r e st' → Q e st')  (hS : f17_j1 a1 = some r) {st : St} (he : keepSt [0] [] [] st = f17_j1_J a1) : ZR (lev codes baseL (d - 1)) Q c17_9 [] st := by
  refine zrKeep he ?_
  unfold f17_j1 at hS
  refine zrSeq ?_
  refine zrReg ?_
  refine zlRun (n := 1) (j := 1) rfl (by kernel_rfl) ?_
  refine zlEnd (by kernel_rfl) ?_
  refine zkSeq ?_
  refine zrSeq ?_
  refine zrSeq ?_
  refine zrReg ?_
  refine zlRun (n := 1) (j := 1) rfl (by kernel_rfl) ?_
  refine bindE hS (fun z28 hz28 hS => ?_)
  refine zlOp (d := some 36) (op := (.call 13 [(.tmp 35), (.const (.string ⟨#[59]⟩))])) (g := none) (v := (.d (.sl z28.length (eStr.cells z28)))) (ups := []) (j := 2) rfl (by kernel_rfl) (by kernel_rfl) (ev_call (args := [(.d (.str a1)), (.d (.str ([59])))]) (l := [(.d (.str a1)), (.d (.str ([59])))]) (r := (.d (.sl z28.length (eStr.cells z28)))) (by kernel_rfl) (by kernel_rfl) (libSplit_ok (d - 1) (dpt hd rfl) a1 [59] z28 hz28) (by kernel_rfl) (by kernel_rfl) (by kernel_rfl)) ?_
  refine zlRun (n := 2) (j := 4) rfl (by kernel_rfl) ?_
  refine zlEnd (by kernel_rfl) ?_
  refine zkSeq ?_
  refine zrBlk ?_
  refine bindE hS (fun z51 hz51 hS => ?_)
  refine zrLoop (f17_l2_H a1) (f17_l2_X a1) (fun x st r Q h0 hS hQ => f17_l2_ok hd a1 hQ hS h0) (x := ([], z28, (z28.length : Int), 0)) (z := z51) (by show keepSt _ _ _ _ = _; kernel_rfl) hz51 ?_
  intro e st' _ hX
  obtain ⟨rfl, rfl⟩ : _ ∧ _ := hX
  refine zkBlkX ?_
  refine zkSeq ?_
  refine zrSeq ?_
  refine zrReg ?_
  refine zlRun (n := 3) (j := 3) rfl (by kernel_rfl) ?_
  refine zlEnd (by kernel_rfl) ?_
  refine zkSeq ?_
  refine zrRet ?_
  refine zkNil ?_
  exact endQ hS hQ (fRet ((congrArg (fun s => outR s 0 c17.res) (by kernel_rfl : finSt c17.fin _ = f17_fin z51 0)).trans (f17_out z51 0)))
def f17_l9_J (a1 : List UInt8) (x : Int) : St := ⟨(up (up (up (fun _ => .un) 15 (.d (.int .i64 x))) 14 (.d (.int .i64 (a1.length : Int)))) 0 (.d (.str a1))), (hB fun _ => 0)⟩
def f17_l9_H (a1 : List UInt8) (x : Int) (st : St) : Prop := keepSt [0, 14, 15] [] [] st = f17_l9_J a1 x
def f17_l9_e0_J (a1 : List UInt8) : St := ⟨(up (fun _ => .un) 0 (.d (.str a1))), (hB fun _ => 0)⟩
def f17_l9_X (a1 : List UInt8) (z : Unit ⊕ ((List Int) × Int)) (e : PX) (st : St) : Prop := (match z with | .inl z => e = .exit 0 ∧ st = f17_l9_e0_J a1 | .inr z => e = .ret ∧ finSt c17.fin st = f17_fin z.1 z.2)
def f17_l9_j11_J (a1 : List UInt8) (p536 : Int) : St := ⟨(up (up (up (fun _ => .un) 15 (.d (.int .i64 p536))) 14 (.d (.int .i64 (a1.length : Int)))) 0 (.d (.str a1))), (hB fun _ => 0)⟩
noncomputable def f17_l9_j11 (a1 : List UInt8) (p536 : Int) : Option (Int ⊕ (Unit ⊕ ((List Int) × Int))) := ((idx a1 p536).bind fun z52 => (bif (!decide ((z52.toNat : Int) = 59)) then ((idx a1 p536).bind fun z53 => (bif (decide ((z53.toNat : Int) < 48)) then (some (.inr (.inr ([], 4)))) else ((idx a1 p536).bind fun z54 => (bif (decide (57 < (z54.toNat : Int))) then (some (.inr (.inr ([], 4)))) else (some (.inl (IntKind.i64.wrap (p536 + 1)))))))) else (some (.inl (IntKind.i64.wrap (p536 + 1))))))
theorem f17_l9_j11_ok {d : Nat} (hd : 1 ≤ d) (a1 : List UInt8) {r : Int ⊕ (Unit ⊕ ((List Int) × Int))} {Q : PX → St → Prop} (hQ : ∀ e st', finL (f17_l9_H a1) (f17_l9_X a1) r e st' → Q e st') (p536 : Int) (hS : f17_l9_j11 a1 p536 = some r) {st : St} (he : keepSt [0, 14, 15] [] [] st = f17_l9_j11_J a1 p536) : ZR (lev codes baseL (d - 1)) Q c17_10 [] st := by
  refine zrKeep he ?_
  unfold f17_l9_j11 at hS
  refine zrSeq ?_
  refine zrBlk ?_
  refine zrSeq ?_
  refine zrReg ?_
  refine zlRun (n := 2) (j := 2) rfl (by kernel_rfl) ?_
  refine zlEnd (by kernel_rfl) ?_
  refine zkSeq ?_
  refine zrSeq ?_
  refine zrReg ?_
  refine zlRun (n := 2) (j := 2) rfl (by kernel_rfl) ?_
  refine bindE hS (fun z52 hz52 hS => ?_)
  refine zlOp (d := some 20) (op := (.ixStr (.tmp 18) (.tmp 19))) (g := none) (v := (.d (.int .u8 (z52.toNat : Int)))) (ups := []) (j := 3) rfl (by kernel_rfl) (by kernel_rfl) (ev_ixStr (kk := .i64) (s := a1) (j := p536) (by kernel_rfl) (by kernel_rfl) hz52) ?_
  refine zlBool (d := 21) (op := (.cmpI .neq (.tmp 20) (.const (.int .u8 59)))) (g := none) (j := 4) (!decide ((z52.toNat : Int) = 59)) rfl (by kernel_rfl) (by kernel_rfl) (by kernel_rfl) (fun hc => ?_) (fun hc => ?_)
  · replace hS := cond_t hc hS
    refine zlRun (n := 3) (j := 7) rfl (by kernel_rfl) ?_
    refine bindE hS (fun z53 hz53 hS => ?_)
    refine zlOp (d := some 25) (op := (.ixStr (.tmp 23) (.tmp 24))) (g := (some (22, true))) (v := (.d (.int .u8 (z53.toNat : Int)))) (ups := []) (j := 8) rfl (by kernel_rfl) (by kernel_rfl) (ev_ixStr (kk := .i64) (s := a1) (j := p536) (by kernel_rfl) (by kernel_rfl) hz53) ?_
    refine zlBool (d := 26) (op := (.cmpI .lss (.tmp 25) (.const (.int .u8 48)))) (g := (some (22, true))) (j := 9) (decide ((z53.toNat : Int) < 48)) rfl (by kernel_rfl) (by kernel_rfl) (by kernel_rfl) (fun hc => ?_) (fun hc => ?_)
    · replace hS := cond_t hc hS
      refine zlRun (n := 7) (j := 16) rfl (by kernel_rfl) ?_
      refine zlEnd (by kernel_rfl) ?_
      refine zkSeq ?_
      refine zrCondT (by kernel_rfl) ?_
      refine zrSeq ?_
      refine zrReg ?_
      refine zlRun (n := 2) (j := 2) rfl (by kernel_rfl) ?_
      refine zlEnd (by kernel_rfl) ?_
      refine zkSeq ?_
      refine zrRet ?_
      refine zkBlkR ?_
      refine zkSeqR ?_
      refine zkNil ?_
      exact endQ hS hQ (finL_x (by intro h; cases h) (by show _ = _ ∧ _ = _; exact ⟨rfl, by kernel_rfl⟩))
    · replace hS := cond_f hc hS
      refine zlRun (n := 3) (j := 12) rfl (by kernel_rfl) ?_
      refine bindE hS (fun z54 hz54 hS => ?_)
      refine zlOp (d := some 30) (op := (.ixStr (.tmp 28) (.tmp 29))) (g := (some (27, false))) (v := (.d (.int .u8 (z54.toNat : Int)))) (ups := []) (j := 13) rfl (by kernel_rfl) (by kernel_rfl) (ev_ixStr (kk := .i64) (s := a1) (j := p536) (by kernel_rfl) (by kernel_rfl) hz54) ?_
      refine zlBool (d := 31) (op := (.cmpI .gtr (.tmp 30) (.const (.int .u8 57)))) (g := (some (27, false))) (j := 14) (decide (57 < (z54.toNat : Int))) rfl (by kernel_rfl) (by kernel_rfl) (by kernel_rfl) (fun hc => ?_) (fun hc => ?_)
      · replace hS := cond_t hc hS
        refine zlRun (n := 2) (j := 16) rfl (by kernel_rfl) ?_
        refine zlEnd (by kernel_rfl) ?_
        refine zkSeq ?_
        refine zrCondT (by kernel_rfl) ?_
        refine zrSeq ?_
        refine zrReg ?_
        refine zlRun (n := 2) (j := 2) rfl (by kernel_rfl) ?_
        refine zlEnd (by kernel_rfl) ?_
        refine zkSeq ?_
        refine zrRet ?_
        refine zkBlkR ?_
        refine zkSeqR ?_
        refine zkNil ?_
        exact endQ hS hQ (finL_x (by intro h; cases h) (by show _ = _ ∧ _ = _; exact ⟨rfl, by kernel_rfl⟩))
      · replace hS := cond_f hc hS
        refine zlRun (n := 2) (j := 16) rfl (by kernel_rfl) ?_
        refine zlEnd (by kernel_rfl) ?_
        refine zkSeq ?_
        refine zrCondF (by kernel_rfl) ?_
        refine zrSkip ?_
        refine zkBlk ?_
        refine zkSeq ?_
        refine zrReg ?_
        refine zlRun (n := 2) (j := 2) rfl (by kernel_rfl) ?_
        refine zlEnd (by kernel_rfl) ?_
        refine zkNil ?_
        exact endQ hS hQ (finL_n (by show keepSt _ _ _ _ = _; kernel_rfl))
  · replace hS := cond_f hc hS
    refine zlRun (n := 12) (j := 16) rfl (by kernel_rfl) ?_
    refine zlEnd (by kernel_rfl) ?_
    refine zkSeq ?_
    refine zrCondF (by kernel_rfl) ?_
    refine zrSkip ?_
    refine zkBlk ?_
    refine zkSeq ?_
    refine zrReg ?_
    refine zlRun (n := 2) (j := 2) rfl (by kernel_rfl) ?_
    refine zlEnd (by kernel_rfl) ?_
    refine zkNil ?_
    exact endQ hS hQ (finL_n (by show keepSt _ _ _ _ = _; kernel_rfl))
def f17_l9_j10_J (a1 : List UInt8) (p534 : Int) (p535 : Bool) : St := ⟨(up (up (up (up (fun _ => .un) 16 (.d (.bool p535))) 15 (.d (.int .i64 p534))) 14 (.d (.int .i64 (a1.length : Int)))) 0 (.d (.str a1))), (hB fun _ => 0)⟩
noncomputable def f17_l9_j10 (a1 : List UInt8) (p534 : Int) (p535 : Bool) : Option (Int ⊕ (Unit ⊕ ((List Int) × Int))) := (bif p535 then (f17_l9_j11 a1 p534) else (some (.inr (.inl ()))))
theorem f17_l9_j10_ok {d : Nat} (hd : 1 ≤ d) (a1 : List UInt8) {r : Int ⊕ (Unit ⊕ ((List Int) × Int))} {Q : PX → St → Prop} (hQ : ∀ e st', finL (f17_l9_H a1) (f17_l9_X a1) r e st' → Q e st') (p534 : Int) (p535 : Bool) (hS : f17_l9_j10 a1 p534 p535 = some r) {st : St} (he : keepSt [0, 14, 15, 16] [] [] st = f17_l9_j10_J a1 p534 p535) : ZR (lev codes baseL (d - 1)) Q c17_11 [] st := by
  refine zrKeep he ?_
  unfold f17_l9_j10 at hS
  refine zrSeq ?_
  refine zrSplit 16 p535 (by kernel_rfl) (fun hc => ?_) (fun hc => ?_)
  · replace hS := cond_t hc hS
    refine zrCondT (by kernel_rfl) ?_
    refine zrSkip ?_
    refine zkSeq ?_
    exact f17_l9_j11_ok hd a1 hQ p534 hS (by kernel_rfl)
  · replace hS := cond_f hc hS
    refine zrCondF (by kernel_rfl) ?_
    refine zrKeep (J := f17_l9_e0_J a1) (by kernel_rfl) ?_
    refine zrExit ?_
    refine zkSeqX ?_
    refine zkNil ?_
    exact endQ hS hQ (finL_x (by intro h; cases h) (by show _ = _ ∧ _ = _; exact ⟨rfl, rfl⟩))
noncomputable def f17_l9 (a1 : List UInt8) (x : Int) : Option (Int ⊕ (Unit ⊕ ((List Int) × Int))) := (bif (decide (x < (a1.length : Int))) then (f17_l9_j10 a1 x true) else (f17_l9_j10 a1 x false))
theorem f17_l9_ok {d : Nat} (hd : 1 ≤ d) (a1 : List UInt8) {r : Int ⊕ (Unit ⊕ ((List Int) × Int))} {Q : PX → St → Prop} (hQ : ∀ e st', finL (f17_l9_H a1) (f17_l9_X a1) r e st' → Q e st') {x : Int} (hS : f17_l9 a1 x = some r) {st : St} (he : f17_l9_H a1 x st) : ZR (lev codes baseL (d - 1)) Q c17_12 [] st := by
  refine zrKeep he ?_
  unfold f17_l9 at hS
  refine zrSeq ?_
  refine zrReg ?_
  refine zlBool (d := 16) (op := (.cmpI .lss (.tmp 15) (.tmp 14))) (g := none) (j := 1) (decide (x < (a1.length : Int))) rfl (by kernel_rfl) (by kernel_rfl) (by kernel_rfl) (fun hc => ?_) (fun hc => ?_)
  · replace hS := cond_t hc hS
    refine zlEnd (by kernel_rfl) ?_
    refine zkSeq ?_
    exact f17_l9_j10_ok hd a1 hQ x true hS (by kernel_rfl)
  · replace hS := cond_f hc hS
    refine zlEnd (by kernel_rfl) ?_
    refine zkSeq ?_
    exact f17_l9_j10_ok hd a1 hQ x false hS (by kernel_rfl)
def f17_j0_J (a1 : List UInt8) : St := ⟨(up (fun _ => .un) 0 (.d (.str a1))), (hB fun _ => 0)⟩
noncomputable def f17_j0 (a1 : List UInt8) : Option ((List Int) × Int) := ((loopO (f17_l9 a1) 0).bind fun z55 => (Sum.elim (fun z56 => (f17_j1 a1 )) (fun z57 => (some (z57.1, z57.2))) z55))
theorem f17_j0_ok {d : Nat} (hd : 1 ≤ d) (a1 : List UInt8) {r : (List Int) × Int} {Q : PX → St → Prop} (hQ : ∀ e st', f17_Q r e st' → Q e st')  (hS : f17_j0 a1 = some r) {st : St} (he : keepSt [0] [] [] st = f17_j0_J a1) : ZR (lev codes baseL (d - 1)) Q c17_13 [] st := by
  refine zrKeep he ?_
  unfold f17_j0 at hS
  refine zrSeq ?_
  refine zrSeq ?_
  refine zrReg ?_
  refine zlRun (n := 3) (j := 3) rfl (by kernel_rfl) ?_
  refine zlEnd (by kernel_rfl) ?_
  refine zkSeq ?_
  refine zrBlk ?_
  refine bindE hS (fun z55 hz55 hS => ?_)
  refine zrLoop (f17_l9_H a1) (f17_l9_X a1) (fun x st r Q h0 hS hQ => f17_l9_ok hd a1 hQ hS h0) (x := 0) (z := z55) (by show keepSt _ _ _ _ = _; kernel_rfl) hz55 ?_
  rcases z55 with z56 | z57
  · replace hS := (show _ = _ from hS)
    simp only [Sum.elim_inl] at hS
    intro e st' _ hX
    obtain ⟨rfl, rfl⟩ : _ ∧ _ := hX
    refine zkBlkX ?_
    refine zkSeq ?_
    exact f17_j1_ok hd a1 hQ  hS (by kernel_rfl)
  · simp only [Sum.elim_inr] at hS
    intro e st' _ hX
    obtain ⟨rfl, hX⟩ : _ ∧ _ := hX
    refine zkBlkR ?_
    refine zkSeqR ?_
    refine zkNil ?_
    exact endQ hS hQ (fRet ((congrArg (fun s => outR s 0 c17.res) hX).trans (f17_out z57.1 z57.2)))
noncomputable def f17 (a1 : List UInt8) : Option ((List Int) × Int) := ((libTrim a1 [48, 49, 50, 51, 52, 53, 54, 55, 56, 57, 59]).bind fun z58 => (bif (!decide (z58 = ([] : List UInt8))) then (some ([], 4)) else (f17_j0 a1 )))
theorem f17_ok (d : Nat) (hd : 1 ≤ d) (a1 : List UInt8) (r : (List Int) × Int) (hS : f17 a1 = some r) : lev codes baseL d 17 [(.d (.str a1))] [] = some ((.tup [(.r (.own 0 3 1 r.1.length ((eInt .i64).cells r.1))), (.d (.int .i64 r.2))]), []) := by
  refine lev_go codes17 rfl rfl (Nat.le_trans (Nat.le_of_ble_eq_true rfl) hd) fun Q hQ => ?_
  unfold f17 at hS
  show ZR _ Q c17_b [] _
  replace hQ : ∀ e st', f17_Q r e st' → Q e st' := hQ
  refine zrSeq ?_
  refine zrReg ?_
  refine zlRun (n := 2) (j := 2) rfl (by kernel_rfl) ?_
  refine zlEnd (by kernel_rfl) ?_
  refine zkSeq ?_
  refine zrSeq ?_
  refine zrSeq ?_
  refine zrReg ?_
  refine zlRun (n := 1) (j := 1) rfl (by kernel_rfl) ?_
  refine bindE hS (fun z58 hz58 hS => ?_)
  refine zlOp (d := some 11) (op := (.call 33 [(.tmp 10), (.const (.string ⟨#[48, 49, 50, 51, 52, 53, 54, 55, 56, 57, 59]⟩))])) (g := none) (v := (.d (.str z58))) (ups := []) (j := 2) rfl (by kernel_rfl) (by kernel_rfl) (ev_call (args := [(.d (.str a1)), (.d (.str ([48, 49, 50, 51, 52, 53, 54, 55, 56, 57, 59])))]) (l := [(.d (.str a1)), (.d (.str ([48, 49, 50, 51, 52, 53, 54, 55, 56, 57, 59])))]) (r := (.d (.str z58))) (by kernel_rfl) (by kernel_rfl) (libTrim_ok (d - 1) (dpt hd rfl) a1 [48, 49, 50, 51, 52, 53, 54, 55, 56, 57, 59] z58 hz58) (by kernel_rfl) (by kernel_rfl) (by kernel_rfl)) ?_
  refine zlBool (d := 12) (op := (.strO .neq (.tmp 11) (.const (.string ⟨#[]⟩)))) (g := none) (j := 3) (!decide (z58 = ([] : List UInt8))) rfl (by kernel_rfl) (by kernel_rfl) (by kernel_rfl) (fun hc => ?_) (fun hc => ?_)
  · replace hS := cond_t hc hS
    refine zlEnd (by kernel_rfl) ?_
    refine zkSeq ?_
    refine zrCondT (by kernel_rfl) ?_
    refine zrSeq ?_
    refine zrReg ?_
    refine zlRun (n := 2) (j := 2) rfl (by kernel_rfl) ?_
    refine zlEnd (by kernel_rfl) ?_
    refine zkSeq ?_
    refine zrRet ?_
    refine zkSeqR ?_
    refine zkNil ?_
    exact endQ hS hQ (fRet ((congrArg (fun s => outR s 0 c17.res) (by kernel_rfl : finSt c17.fin _ = f17_fin [] 4)).trans (f17_out [] 4)))
  · replace hS := cond_f hc hS
    refine zlEnd (by kernel_rfl) ?_
    refine zkSeq ?_
    refine zrCondF (by kernel_rfl) ?_
    refine zrSkip ?_
    refine zkSeq ?_
    exact f17_j0_ok hd a1 hQ  hS (by kernel_rfl)
/- slices.Equal[[]int,int] -/
def f20_fin (p14 : Bool) : St := ⟨(up (fun _ => .un) 4 (.d (.bool p14))), (hB fun _ => 0)⟩
theorem f20_out (p14 : Bool) : outR (f20_fin p14) 0 c20.res = some ((.d (.bool p14)), []) := by
  kernel_rfl
def f20_Q (r : Bool) (e : PX) (st : St) : Prop := DoneF c20 0 ((.d (.bool r)), []) e st
def f20_l1_J (a1 : List Int) (a2 : List Int) (x : Int) : St := ⟨(up (up (up (up (fun _ => .un) 13 (.d (.int .i64 x))) 12 (.d (.int .i64 (a1.length : Int)))) 1 (.d (.sl a2.length ((eInt .i64).cells a2)))) 0 (.d (.sl a1.length ((eInt .i64).cells a1)))), (hB fun _ => 0)⟩
def f20_l1_H (a1 : List Int) (a2 : List Int) (x : Int) (st : St) : Prop := keepSt [0, 1, 12, 13] [] [] st = f20_l1_J a1 a2 x
def f20_l1_e0_J (a1 : List Int) (a2 : List Int) : St := ⟨(fun _ => .un), (hB fun _ => 0)⟩
def f20_l1_X (a1 : List Int) (a2 : List Int) (z : Unit ⊕ Bool) (e : PX) (st : St) : Prop := (match z with | .inl z => e = .exit 0 ∧ st = f20_l1_e0_J a1 a2 | .inr z => e = .ret ∧ finSt c20.fin st = f20_fin z)
def f20_l1_j3_J (a1 : List Int) (a2 : List Int) (p20 : Int) : St := ⟨(up (up (up (up (fun _ => .un) 13 (.d (.int .i64 p20))) 12 (.d (.int .i64 (a1.length : Int)))) 1 (.d (.sl a2.length ((eInt .i64).cells a2)))) 0 (.d (.sl a1.length ((eInt .i64).cells a1)))), (hB fun _ => 0)⟩
noncomputable def f20_l1_j3 (a1 : List Int) (a2 : List Int) (p20 : Int) : Option (Int ⊕ (Unit ⊕ Bool)) := ((idx a1 p20).bind fun z7 => ((idx a2 p20).bind fun z8 => (bif (!decide (z7 = z8)) then (some (.inr (.inr false))) else (some (.inl (IntKind.i64.wrap (p20 + 1)))))))
theorem f20_l1_j3_ok {d : Nat} (hd : 1 ≤ d) (a1 : List Int) (a2 : List Int) {r : Int ⊕ (Unit ⊕ Bool)} {Q : PX → St → Prop} (hQ : ∀ e st', finL (f20_l1_H a1 a2) (f20_l1_X a1 a2) r e st' → Q e st') (p20 : Int) (hS : f20_l1_j3 a1 a2 p20 = some r) {st : St} (he : keepSt [0, 1, 12, 13] [] [] st = f20_l1_j3_J a1 a2 p20) : ZR (lev codes baseL (d - 1)) Q c20_1 [] st := by
  refine zrKeep he ?_
  unfold f20_l1_j3 at hS
  refine zrSeq ?_
  refine zrBlk ?_
  refine zrSeq ?_
  refine zrReg ?_
  refine zlRun (n := 2) (j := 2) rfl (by kernel_rfl) ?_
  refine zlEnd (by kernel_rfl) ?_
  refine zkSeq ?_
  refine zrSeq ?_
  refine zrRegD ?_
  refine zdRun (n := 2) (j := 2) (ts := [[], []]) (acc' := [[], []]) rfl (by kernel_rfl) (by kernel_rfl) (by kernel_rfl) ?_
  refine bindE hS (fun z7 hz7 hS => ?_)
  refine zdOp (d := some 18) (op := (.ixS 3 1 (.tmp 16) (.tmp 17))) (g := none) (v := (.rptr ((eInt .i64).enc z7 ++ ((eInt .i64).cells (a1.drop ((p20 : Int).toNat + 1)))))) (ups := []) (j := 3) (t1 := []) (acc' := [[], [], []]) (by kernel_rfl) (by kernel_rfl) rfl (by kernel_rfl) (by kernel_rfl) (ev_ixS (eInt .i64) (kk := .i64) (xs := a1) (j := p20) (by kernel_rfl) (by kernel_rfl) hz7 rfl (by intro h; cases h)) ?_
  refine zdRun (n := 3) (j := 6) (ts := [[], [], []]) (acc' := [[], [], [], [], [], []]) rfl (by kernel_rfl) (by kernel_rfl) (by kernel_rfl) ?_
  refine bindE hS (fun z8 hz8 hS => ?_)
  refine zdOp (d := some 22) (op := (.ixS 3 1 (.tmp 20) (.tmp 21))) (g := none) (v := (.rptr ((eInt .i64).enc z8 ++ ((eInt .i64).cells (a2.drop ((p20 : Int).toNat + 1)))))) (ups := []) (j := 7) (t1 := []) (acc' := [[], [], [], [], [], [], []]) (by kernel_rfl) (by kernel_rfl) rfl (by kernel_rfl) (by kernel_rfl) (ev_ixS (eInt .i64) (kk := .i64) (xs := a2) (j := p20) (by kernel_rfl) (by kernel_rfl) hz8 rfl (by intro h; cases h)) ?_
  refine zdRun (n := 1) (j := 8) (ts := [[]]) (acc' := [[], [], [], [], [], [], [], []]) rfl (by kernel_rfl) (by kernel_rfl) (by kernel_rfl) ?_
  refine zdBool (d := 24) (op := (.cmpI .neq (.tmp 19) (.tmp 23))) (g := none) (j := 9) (t1 := []) (acc' := [[], [], [], [], [], [], [], [], []]) (!decide (z7 = z8)) (by kernel_rfl) (by kernel_rfl) rfl (by kernel_rfl) (by kernel_rfl) (by kernel_rfl) (fun hc => ?_) (fun hc => ?_)
  · replace hS := cond_t hc hS
    refine zdEnd (by kernel_rfl) (by kernel_rfl) ?_
    refine zkSeq ?_
    refine zrCondT (by kernel_rfl) ?_
    refine zrSeq ?_
    refine zrReg ?_
    refine zlRun (n := 1) (j := 1) rfl (by kernel_rfl) ?_
    refine zlEnd (by kernel_rfl) ?_
    refine zkSeq ?_
    refine zrRet ?_
    refine zkBlkR ?_
    refine zkSeqR ?_
    refine zkNil ?_
    exact endQ hS hQ (finL_x (by intro h; cases h) (by show _ = _ ∧ _ = _; exact ⟨rfl, by kernel_rfl⟩))
  · replace hS := cond_f hc hS
    refine zdEnd (by kernel_rfl) (by kernel_rfl) ?_
    refine zkSeq ?_
    refine zrCondF (by kernel_rfl) ?_
    refine zrSkip ?_
    refine zkBlk ?_
    refine zkSeq ?_
    refine zrReg ?_
    refine zlRun (n := 2) (j := 2) rfl (by kernel_rfl) ?_
    refine zlEnd (by kernel_rfl) ?_
    refine zkNil ?_
    exact endQ hS hQ (finL_n (by show keepSt _ _ _ _ = _; kernel_rfl))
def f20_l1_j2_J (a1 : List Int) (a2 : List Int) (p18 : Int) (p19 : Bool) : St := ⟨(up (up (up (up (up (fun _ => .un) 14 (.d (.bool p19))) 13 (.d (.int .i64 p18))) 12 (.d (.int .i64 (a1.length : Int)))) 1 (.d (.sl a2.length ((eInt .i64).cells a2)))) 0 (.d (.sl a1.length ((eInt .i64).cells a1)))), (hB fun _ => 0)⟩
noncomputable def f20_l1_j2 (a1 : List Int) (a2 : List Int) (p18 : Int) (p19 : Bool) : Option (Int ⊕ (Unit ⊕ Bool)) := (bif p19 then (f20_l1_j3 a1 a2 p18) else (some (.inr (.inl ()))))
theorem f20_l1_j2_ok {d : Nat} (hd : 1 ≤ d) (a1 : List Int) (a2 : List Int) {r : Int ⊕ (Unit ⊕ Bool)} {Q : PX → St → Prop} (hQ : ∀ e st', finL (f20_l1_H a1 a2) (f20_l1_X a1 a2) r e st' → Q e st') (p18 : Int) (p19 : Bool) (hS : f20_l1_j2 a1 a2 p18 p19 = some r) {st : St} (he : keepSt [0, 1, 12, 13, 14] [] [] st = f20_l1_j2_J a1 a2 p18 p19) : ZR (lev codes baseL (d - 1)) Q c20_2 [] st := by
  refine zrKeep he ?_
  unfold f20_l1_j2 at hS
  refine zrSeq ?_
  refine zrSplit 14 p19 (by kernel_rfl) (fun hc => ?_) (fun hc => ?_)
  · replace hS := cond_t hc hS
    refine zrCondT (by kernel_rfl) ?_
    refine zrSkip ?_
    refine zkSeq ?_
    exact f20_l1_j3_ok hd a1 a2 hQ p18 hS (by kernel_rfl)
  · replace hS := cond_f hc hS
    refine zrCondF (by kernel_rfl) ?_
    refine zrKeep (J := f20_l1_e0_J a1 a2) (by kernel_rfl) ?_
    refine zrExit ?_
    refine zkSeqX ?_
    refine zkNil ?_
    exact endQ hS hQ (finL_x (by intro h; cases h) (by show _ = _ ∧ _ = _; exact ⟨rfl, rfl⟩))
noncomputable def f20_l1 (a1 : List Int) (a2 : List Int) (x : Int) : Option (Int ⊕ (Unit ⊕ Bool)) := (bif (decide (x < (a1.length : Int))) then (f20_l1_j2 a1 a2 x true) else (f20_l1_j2 a1 a2 x false))
theorem f20_l1_ok {d : Nat} (hd : 1 ≤ d) (a1 : List Int) (a2 : List Int) {r : Int ⊕ (Unit ⊕ Bool)} {Q : PX → St → Prop} (hQ : ∀ e st', finL (f20_l1_H a1 a2) (f20_l1_X a1 a2) r e st' → Q e st') {x : Int} (hS : f20_l1 a1 a2 x = some r) {st : St} (he : f20_l1_H a1 a2 x st) : ZR (lev codes baseL (d - 1)) Q c20_3 [] st := by
  refine zrKeep he ?_
  unfold f20_l1 at hS
  refine zrSeq ?_
  refine zrReg ?_
  refine zlBool (d := 14) (op := (.cmpI .lss (.tmp 13) (.tmp 12))) (g := none) (j := 1) (decide (x < (a1.length : Int))) rfl (by kernel_rfl) (by kernel_rfl) (by kernel_rfl) (fun hc => ?_) (fun hc => ?_)
  · replace hS := cond_t hc hS
    refine zlEnd (by kernel_rfl) ?_
    refine zkSeq ?_
    exact f20_l1_j2_ok hd a1 a2 hQ x true hS (by kernel_rfl)
  · replace hS := cond_f hc hS
    refine zlEnd (by kernel_rfl) ?_
    refine zkSeq ?_
    exact f20_l1_j2_ok hd a1 a2 hQ x false hS (by kernel_rfl)
def f20_j0_J (a1 : List Int) (a2 : List Int) : St := ⟨(up (up (fun _ => .un) 1 (.d (.sl a2.length ((eInt .i64).cells a2)))) 0 (.d (.sl a1.length ((eInt .i64).cells a1)))), (hB fun _ => 0)⟩
noncomputable def f20_j0 (a1 : List Int) (a2 : List Int) : Option (Bool) := ((loopO (f20_l1 a1 a2) 0).bind fun z9 => (Sum.elim (fun z10 => (some true)) (fun z11 => (some z11)) z9))
theorem f20_j0_ok {d : Nat} (hd : 1 ≤ d) (a1 : List Int) (a2 : List Int) {r : Bool} {Q : PX → St → Prop} (hQ : ∀ e st', f20_Q r e st' → Q e st')  (hS : f20_j0 a1 a2 = some r) {st : St} (he : keepSt [0, 1] [] [] st = f20_j0_J a1 a2) : ZR (lev codes baseL (d - 1)) Q c20_4 [] st := by
  refine zrKeep he ?_
  unfold f20_j0 at hS
  refine zrSeq ?_
  refine zrSeq ?_
  refine zrReg ?_
  refine zlRun (n := 3) (j := 3) rfl (by kernel_rfl) ?_
  refine zlEnd (by kernel_rfl) ?_
  refine zkSeq ?_
  refine zrBlk ?_
  refine bindE hS (fun z9 hz9 hS => ?_)
  refine zrLoop (f20_l1_H a1 a2) (f20_l1_X a1 a2) (fun x st r Q h0 hS hQ => f20_l1_ok hd a1 a2 hQ hS h0) (x := 0) (z := z9) (by show keepSt _ _ _ _ = _; kernel_rfl) hz9 ?_
  rcases z9 with z10 | z11
  · replace hS := (show _ = _ from hS)
    simp only [Sum.elim_inl] at hS
    intro e st' _ hX
    obtain ⟨rfl, rfl⟩ : _ ∧ _ := hX
    refine zkBlkX ?_
    refine zkSeq ?_
    refine zrSeq ?_
    refine zrReg ?_
    refine zlRun (n := 1) (j := 1) rfl (by kernel_rfl) ?_
    refine zlEnd (by kernel_rfl) ?_
    refine zkSeq ?_
    refine zrRet ?_
    refine zkNil ?_
    exact endQ hS hQ (fRet ((congrArg (fun s => outR s 0 c20.res) (by kernel_rfl : finSt c20.fin _ = f20_fin true)).trans (f20_out true)))
  · simp only [Sum.elim_inr] at hS
    intro e st' _ hX
    obtain ⟨rfl, hX⟩ : _ ∧ _ := hX
    refine zkBlkR ?_
    refine zkSeqR ?_
    refine zkNil ?_
    exact endQ hS hQ (fRet ((congrArg (fun s => outR s 0 c20.res) hX).trans (f20_out z11)))
noncomputable def f20 (a1 : List Int) (a2 : List Int) : Option (Bool) := (bif (!decide ((a1.length : Int) = (a2.length : Int))) then (some false) else (f20_j0 a1 a2 ))
theorem f20_ok (d : Nat) (hd : 1 ≤ d) (a1 : List Int) (a2 : List Int) (r : Bool) (hS : f20 a1 a2 = some r) : lev codes baseL d 20 [(.d (.sl a1.length ((eInt .i64).cells a1))), (.d (.sl a2.length ((eInt .i64).cells a2)))] [] = some ((.d (.bool r)), []) := by
  refine lev_go codes20 rfl rfl (Nat.le_trans (Nat.le_of_ble_eq_true rfl) hd) fun Q hQ => ?_
  unfold f20 at hS
  show ZR _ Q c20_b [] _
  replace hQ : ∀ e st', f20_Q r e st' → Q e st' := hQ
  refine zrSeq ?_
  refine zrReg ?_
  refine zlRun (n := 1) (j := 1) rfl (by kernel_rfl) ?_
  refine zlEnd (by kernel_rfl) ?_
  refine zkSeq ?_
  refine zrSeq ?_
  refine zrSeq ?_
  refine zrReg ?_
  refine zlRun (n := 4) (j := 4) rfl (by kernel_rfl) ?_
  refine zlBool (d := 10) (op := (.cmpI .neq (.tmp 7) (.tmp 9))) (g := none) (j := 5) (!decide ((a1.length : Int) = (a2.length : Int))) rfl (by kernel_rfl) (by kernel_rfl) (by kernel_rfl) (fun hc => ?_) (fun hc => ?_)
  · replace hS := cond_t hc hS
    refine zlEnd (by kernel_rfl) ?_
    refine zkSeq ?_
    refine zrCondT (by kernel_rfl) ?_
    refine zrSeq ?_
    refine zrReg ?_
    refine zlRun (n := 1) (j := 1) rfl (by kernel_rfl) ?_
    refine zlEnd (by kernel_rfl) ?_
    refine zkSeq ?_
    refine zrRet ?_
    refine zkSeqR ?_
    refine zkNil ?_
    exact endQ hS hQ (fRet ((congrArg (fun s => outR s 0 c20.res) (by kernel_rfl : finSt c20.fin _ = f20_fin false)).trans (f20_out false)))
  · replace hS := cond_f hc hS
    refine zlEnd (by kernel_rfl) ?_
    refine zkSeq ?_
    refine zrCondF (by kernel_rfl) ?_
    refine zrSkip ?_
    refine zkSeq ?_
    exact f20_j0_ok hd a1 a2 hQ  hS (by kernel_rfl)
/- farwriter/args.Get -/
def f34_fin (p2 : Int) : St := ⟨(up (fun _ => .un) 6 (.d (.int .i64 p2))), (hB fun _ => 0)⟩
theorem f34_out (p2 : Int) : outR (f34_fin p2) 0 c34.res = some ((.d (.int .i64 p2)), []) := by
  kernel_rfl
def f34_Q (r : Int) (e : PX) (st : St) : Prop := DoneF c34 0 ((.d (.int .i64 r)), []) e st
noncomputable def f34 (a1 : List Int) (a2 : Int) (a3 : Int) : Option (Int) := (bif (decide (a2 < 0)) then (some a3) else (bif (decide ((a1.length : Int) ≤ a2)) then (some a3) else ((idx a1 a2).bind fun z3 => (bif (decide (z3 = (-1))) then (some a3) else ((idx a1 a2).bind fun z4 => (some z4))))))
theorem f34_ok (d : Nat) (hd : 1 ≤ d) (a1 : List Int) (a2 : Int) (a3 : Int) (r : Int) (hS : f34 a1 a2 a3 = some r) : lev codes baseL d 34 [(.d (.sl a1.length ((eInt .i64).cells a1))), (.d (.int .i64 a2)), (.d (.int .i64 a3))] [] = some ((.d (.int .i64 r)), []) := by
  refine lev_go codes34 rfl rfl (Nat.le_trans (Nat.le_of_ble_eq_true rfl) hd) fun Q hQ => ?_
  unfold f34 at hS
  show ZR _ Q c34_b [] _
  replace hQ : ∀ e st', f34_Q r e st' → Q e st' := hQ
  refine zrSeq ?_
  refine zrReg ?_
  refine zlRun (n := 1) (j := 1) rfl (by kernel_rfl) ?_
  refine zlEnd (by kernel_rfl) ?_
  refine zkSeq ?_
  refine zrSeq ?_
  refine zrSeq ?_
  refine zrReg ?_
  refine zlRun (n := 1) (j := 1) rfl (by kernel_rfl) ?_
  refine zlBool (d := 8) (op := (.cmpI .lss (.tmp 7) (.const (.int .i64 0)))) (g := none) (j := 2) (decide (a2 < 0)) rfl (by kernel_rfl) (by kernel_rfl) (by kernel_rfl) (fun hc => ?_) (fun hc => ?_)
  · replace hS := cond_t hc hS
    refine zlRun (n := 13) (j := 15) rfl (by kernel_rfl) ?_
    refine zlEnd (by kernel_rfl) ?_
    refine zkSeq ?_
    refine zrCondT (by kernel_rfl) ?_
    refine zrSeq ?_
    refine zrReg ?_
    refine zlRun (n := 2) (j := 2) rfl (by kernel_rfl) ?_
    refine zlEnd (by kernel_rfl) ?_
    refine zkSeq ?_
    refine zrRet ?_
    refine zkSeqR ?_
    refine zkNil ?_
    exact endQ hS hQ (fRet ((congrArg (fun s => outR s 0 c34.res) (by kernel_rfl : finSt c34.fin _ = f34_fin a3)).trans (f34_out a3)))
  · replace hS := cond_f hc hS
    refine zlRun (n := 4) (j := 6) rfl (by kernel_rfl) ?_
    refine zlBool (d := 13) (op := (.cmpI .geq (.tmp 10) (.tmp 12))) (g := (some (9, false))) (j := 7) (decide ((a1.length : Int) ≤ a2)) rfl (by kernel_rfl) (by kernel_rfl) (by kernel_rfl) (fun hc => ?_) (fun hc => ?_)
    · replace hS := cond_t hc hS
      refine zlRun (n := 8) (j := 15) rfl (by kernel_rfl) ?_
      refine zlEnd (by kernel_rfl) ?_
      refine zkSeq ?_
      refine zrCondT (by kernel_rfl) ?_
      refine zrSeq ?_
      refine zrReg ?_
      refine zlRun (n := 2) (j := 2) rfl (by kernel_rfl) ?_
      refine zlEnd (by kernel_rfl) ?_
      refine zkSeq ?_
      refine zrRet ?_
      refine zkSeqR ?_
      refine zkNil ?_
      exact endQ hS hQ (fRet ((congrArg (fun s => outR s 0 c34.res) (by kernel_rfl : finSt c34.fin _ = f34_fin a3)).trans (f34_out a3)))
    · replace hS := cond_f hc hS
      refine zlRun (n := 4) (j := 11) rfl (by kernel_rfl) ?_
      refine bindE hS (fun z3 hz3 hS => ?_)
      refine zlOp (d := some 18) (op := (.ixS 3 1 (.tmp 16) (.tmp 17))) (g := (some (15, false))) (v := (.rptr ((eInt .i64).enc z3 ++ ((eInt .i64).cells (a1.drop ((a2 : Int).toNat + 1)))))) (ups := []) (j := 12) rfl (by kernel_rfl) (by kernel_rfl) (ev_ixS (eInt .i64) (kk := .i64) (xs := a1) (j := a2) (by kernel_rfl) (by kernel_rfl) hz3 rfl (by intro h; cases h)) ?_
      refine zlRun (n := 1) (j := 13) rfl (by kernel_rfl) ?_
      refine zlBool (d := 20) (op := (.cmpI .eql (.tmp 19) (.const (.int .i64 (-1))))) (g := (some (15, false))) (j := 14) (decide (z3 = (-1))) rfl (by kernel_rfl) (by kernel_rfl) (by kernel_rfl) (fun hc => ?_) (fun hc => ?_)
      · replace hS := cond_t hc hS
        refine zlRun (n := 1) (j := 15) rfl (by kernel_rfl) ?_
        refine zlEnd (by kernel_rfl) ?_
        refine zkSeq ?_
        refine zrCondT (by kernel_rfl) ?_
        refine zrSeq ?_
        refine zrReg ?_
        refine zlRun (n := 2) (j := 2) rfl (by kernel_rfl) ?_
        refine zlEnd (by kernel_rfl) ?_
        refine zkSeq ?_
        refine zrRet ?_
        refine zkSeqR ?_
        refine zkNil ?_
        exact endQ hS hQ (fRet ((congrArg (fun s => outR s 0 c34.res) (by kernel_rfl : finSt c34.fin _ = f34_fin a3)).trans (f34_out a3)))
      · replace hS := cond_f hc hS
        refine zlRun (n := 1) (j := 15) rfl (by kernel_rfl) ?_
        refine zlEnd (by kernel_rfl) ?_
        refine zkSeq ?_
        refine zrCondF (by kernel_rfl) ?_
        refine zrSkip ?_
        refine zkSeq ?_
        refine zrSeq ?_
        refine zrReg ?_
        refine zlRun (n := 2) (j := 2) rfl (by kernel_rfl) ?_
        refine bindE hS (fun z4 hz4 hS => ?_)
        refine zlOp (d := some 25) (op := (.ixS 3 1 (.tmp 23) (.tmp 24))) (g := none) (v := (.rptr ((eInt .i64).enc z4 ++ ((eInt .i64).cells (a1.drop ((a2 : Int).toNat + 1)))))) (ups := []) (j := 3) rfl (by kernel_rfl) (by kernel_rfl) (ev_ixS (eInt .i64) (kk := .i64) (xs := a1) (j := a2) (by kernel_rfl) (by kernel_rfl) hz4 rfl (by intro h; cases h)) ?_
        refine zlRun (n := 2) (j := 5) rfl (by kernel_rfl) ?_
        refine zlEnd (by kernel_rfl) ?_
        refine zkSeq ?_
        refine zrRet ?_
        refine zkNil ?_
        exact endQ hS hQ (fRet ((congrArg (fun s => outR s 0 c34.res) (by kernel_rfl : finSt c34.fin _ = f34_fin z4)).trans (f34_out z4)))
/- farwriter/farkeep.argsLives -/
def f18_fin (p4 : Bool) : St := ⟨(up (fun _ => .un) 0 (.d (.bool p4))), (hB fun _ => 0)⟩
theorem f18_out (p4 : Bool) : outR (f18_fin p4) 0 c18.res = some ((.d (.bool p4)), []) := by
  kernel_rfl
def f18_Q (r : Bool) (e : PX) (st : St) : Prop := DoneF c18 0 ((.d (.bool r)), []) e st
noncomputable def f18  : Option (Bool) := ((f17 [55, 59, 59, 57, 57, 57, 57, 57]).bind fun z4 => (bif (decide (z4.2 = 0)) then ((f20 z4.1 [7, (-1), 16383]).bind fun z5 => (bif z5 then ((f34 z4.1 1 5).bind fun z6 => (bif (decide (z6 = 5)) then (some true) else (some false))) else (some false))) else (some false)))
theorem f18_ok (d : Nat) (hd : 2 ≤ d)  (r : Bool) (hS : f18 = some r) : lev codes baseL d 18 [] [] = some ((.d (.bool r)), []) := by
  refine lev_go codes18 rfl rfl (Nat.le_trans (Nat.le_of_ble_eq_true rfl) hd) fun Q hQ => ?_
  unfold f18 at hS
  show ZR _ Q c18_b [] _
  replace hQ : ∀ e st', f18_Q r e st' → Q e st' := hQ
  refine zrSeq ?_
  refine zrReg ?_
  refine zlRun (n := 1) (j := 1) rfl (by kernel_rfl) ?_
  refine zlEnd (by kernel_rfl) ?_
  refine zkSeq ?_
  refine zrSeq ?_
  refine zrReg ?_
  refine bindE hS (fun z4 hz4 hS => ?_)
  refine zlOp (d := some 4) (op := (.call 17 [(.const (.string ⟨#[55, 59, 59, 57, 57, 57, 57, 57]⟩))])) (g := none) (v := (.tup [(.r (.msl 40 1 0 z4.1.length)), (.d (.int .i64 z4.2))])) (ups := [(40, ⟨1, some (.own 3 1 ((eInt .i64).cells z4.1))⟩)]) (j := 1) rfl (by kernel_rfl) (by kernel_rfl) (ev_call (args := [(.d (.str ([55, 59, 59, 57, 57, 57, 57, 57])))]) (l := [(.d (.str ([55, 59, 59, 57, 57, 57, 57, 57])))]) (r := (.tup [(.r (.own 0 3 1 z4.1.length ((eInt .i64).cells z4.1))), (.d (.int .i64 z4.2))])) (by kernel_rfl) (by kernel_rfl) (f17_ok (d - 1) (dpt hd rfl) [55, 59, 59, 57, 57, 57, 57, 57] z4 hz4) (by kernel_rfl) (by kernel_rfl) (by kernel_rfl)) ?_
  refine zlRun (n := 5) (j := 6) rfl (by kernel_rfl) ?_
  refine zlEnd (by kernel_rfl) ?_
  refine zkSeq ?_
  refine zrSeq ?_
  refine zrReg ?_
  refine zlRun (n := 1) (j := 1) rfl (by kernel_rfl) ?_
  refine zlBool (d := 8) (op := (.cmpI .eql (.tmp 7) (.const (.int .i64 0)))) (g := none) (j := 2) (decide (z4.2 = 0)) rfl (by kernel_rfl) (by kernel_rfl) (by kernel_rfl) (fun hc => ?_) (fun hc => ?_)
  · replace hS := cond_t hc hS
    refine zlRun (n := 3) (j := 5) rfl (by kernel_rfl) ?_
    refine bindE hS (fun z5 hz5 hS => ?_)
    refine zlOp (d := some 12) (op := (.call 20 [(.tmp 10), (.tmp 11)])) (g := (some (9, true))) (v := (.d (.bool z5))) (ups := []) (j := 6) rfl (by kernel_rfl) (by kernel_rfl) (ev_call (args := [(.r (.msl 40 1 0 z4.1.length)), (.r (.msl 96 1 0 (([7, (-1), 16383] : List Int).length)))]) (l := [(.d (.sl z4.1.length ((eInt .i64).cells z4.1))), (.d (.sl ([7, (-1), 16383] : List Int).length ((eInt .i64).cells ([7, (-1), 16383]))))]) (r := (.d (.bool z5))) (by kernel_rfl) (l_cons (l_own (eInt .i64) (e := 3) (k := 1) (xs := z4.1) (by kernel_rfl) rfl rfl) (l_cons (l_own (eInt .i64) (e := 3) (k := 1) (xs := [7, (-1), 16383]) (by kernel_rfl) rfl rfl) l_nil)) (f20_ok (d - 1) (dpt hd rfl) z4.1 [7, (-1), 16383] z5 hz5) (by kernel_rfl) (by kernel_rfl) (by kernel_rfl)) ?_
    refine zlRun (n := 2) (j := 8) rfl (by kernel_rfl) ?_
    refine zlSplit 14 z5 (by kernel_rfl) (fun hc => ?_) (fun hc => ?_)
    · replace hS := cond_t hc hS
      refine zlRun (n := 1) (j := 9) rfl (by kernel_rfl) ?_
      refine bindE hS (fun z6 hz6 hS => ?_)
      refine zlOp (d := some 16) (op := (.call 34 [(.tmp 15), (.const (.int .i64 1)), (.const (.int .i64 5))])) (g := (some (14, true))) (v := (.d (.int .i64 z6))) (ups := []) (j := 10) rfl (by kernel_rfl) (by kernel_rfl) (ev_call (args := [(.r (.msl 40 1 0 z4.1.length)), (.d (.int .i64 1)), (.d (.int .i64 5))]) (l := [(.d (.sl z4.1.length ((eInt .i64).cells z4.1))), (.d (.int .i64 1)), (.d (.int .i64 5))]) (r := (.d (.int .i64 z6))) (by kernel_rfl) (l_cons (l_own (eInt .i64) (e := 3) (k := 1) (xs := z4.1) (by kernel_rfl) rfl rfl) (l_cons (by kernel_rfl) (l_cons (by kernel_rfl) l_nil))) (f34_ok (d - 1) (dpt hd rfl) z4.1 1 5 z6 hz6) (by kernel_rfl) (by kernel_rfl) (by kernel_rfl)) ?_
      refine zlBool (d := 17) (op := (.cmpI .eql (.tmp 16) (.const (.int .i64 5)))) (g := (some (14, true))) (j := 11) (decide (z6 = 5)) rfl (by kernel_rfl) (by kernel_rfl) (by kernel_rfl) (fun hc => ?_) (fun hc => ?_)
      · replace hS := cond_t hc hS
        refine zlRun (n := 2) (j := 13) rfl (by kernel_rfl) ?_
        refine zlEnd (by kernel_rfl) ?_
        refine zkSeq ?_
        refine zrRet ?_
        refine zkNil ?_
        exact endQ hS hQ (fRet ((congrArg (fun s => outR s 0 c18.res) (by kernel_rfl : finSt c18.fin _ = f18_fin true)).trans (f18_out true)))
      · replace hS := cond_f hc hS
        refine zlRun (n := 2) (j := 13) rfl (by kernel_rfl) ?_
        refine zlEnd (by kernel_rfl) ?_
        refine zkSeq ?_
        refine zrRet ?_
        refine zkNil ?_
        exact endQ hS hQ (fRet ((congrArg (fun s => outR s 0 c18.res) (by kernel_rfl : finSt c18.fin _ = f18_fin false)).trans (f18_out false)))
    · replace hS := cond_f hc hS
      refine zlRun (n := 5) (j := 13) rfl (by kernel_rfl) ?_
      refine zlEnd (by kernel_rfl) ?_
      refine zkSeq ?_
      refine zrRet ?_
      refine zkNil ?_
      exact endQ hS hQ (fRet ((congrArg (fun s => outR s 0 c18.res) (by kernel_rfl : finSt c18.fin _ = f18_fin false)).trans (f18_out false)))
  · replace hS := cond_f hc hS
    refine zlRun (n := 11) (j := 13) rfl (by kernel_rfl) ?_
    refine zlEnd (by kernel_rfl) ?_
    refine zkSeq ?_
    refine zrRet ?_
    refine zkNil ?_
    exact endQ hS hQ (fRet ((congrArg (fun s => outR s 0 c18.res) (by kernel_rfl : finSt c18.fin _ = f18_fin false)).trans (f18_out false)))
/- slices.Clone[[]int,int] -/
def f19_fin (p1 : List Int) : St := ⟨(up (fun _ => .un) 2 (.r (.msl 97 0 0 p1.length))), (up (hB fun _ => 0) 97 ⟨0, some (.own 3 1 ((eInt .i64).cells p1))⟩)⟩
theorem f19_out (p1 : List Int) : outR (f19_fin p1) 0 c19.res = some ((.r (.own 0 3 1 p1.length ((eInt .i64).cells p1))), []) := by
  exact out_of (ids := []) (ids' := [97]) (l := [(.r (.msl 97 0 0 p1.length))]) (by kernel_rfl) (by kernel_rfl) (o_own (eInt .i64) (e := 3) (k := 1) (xs := p1) (by kernel_rfl) rfl rfl rfl rfl)
def f19_Q (r : List Int) (e : PX) (st : St) : Prop := DoneF c19 0 ((.r (.own 0 3 1 r.length ((eInt .i64).cells r))), []) e st
noncomputable def f19 (a1 : List Int) : Option (List Int) := ((app? 8 ([] : List Int) a1).bind fun z2 => (some z2))
theorem f19_ok (d : Nat) (hd : 1 ≤ d) (a1 : List Int) (r : List Int) (hS : f19 a1 = some r) : lev codes baseL d 19 [(.d (.sl a1.length ((eInt .i64).cells a1)))] [] = some ((.r (.own 0 3 1 r.length ((eInt .i64).cells r))), []) := by
  refine lev_goZ codes19 rfl rfl (Nat.le_trans (Nat.le_of_ble_eq_true rfl) hd) (fun Q hQ => ?_) (fun h0 Q hQ => ?_)
  · unfold f19 at hS
    show ZR _ Q c19_b [] _
    refine zrSeq ?_
    refine zrReg ?_
    refine zlRun (n := 1) (j := 1) rfl (by kernel_rfl) ?_
    refine zlEnd (by kernel_rfl) ?_
    refine zkSeq ?_
    refine zrSeq ?_
    refine zrSeq ?_
    refine zrReg ?_
    refine zlRun (n := 2) (j := 2) rfl (by kernel_rfl) ?_
    refine zlEnd (by kernel_rfl) ?_
    refine zkSeq ?_
    refine zrCondF (by kernel_rfl) ?_
    refine zrSkip ?_
    refine zkSeq ?_
    refine zrSeq ?_
    refine zrReg ?_
    refine zlRun (n := 2) (j := 2) rfl (by kernel_rfl) ?_
    refine bindE hS (fun z2 hz2 hS => ?_)
    refine zlOp (d := some 7) (op := (.app 3 1 8 (.tmp 5) (.tmp 6))) (g := none) (v := (.r (.msl 48 2 0 z2.length))) (ups := [(48, ⟨2, some (.own 3 1 ((eInt .i64).cells z2))⟩)]) (j := 3) rfl (by kernel_rfl) (by kernel_rfl) (ev_app (eInt .i64) (b := 48) (g := 1) (n := ([] : List Int).length) (xs := []) (ys := a1) ((congrArg (asL _) (by kernel_rfl : ρof _ (.tmp 6) = (.slz false a1.length ((eInt .i64).cells a1)))).trans rfl) rfl (by kernel_rfl) rfl (by kernel_rfl) rfl hz2) ?_
    refine zlRun (n := 1) (j := 4) rfl (by kernel_rfl) ?_
    refine zlEnd (by kernel_rfl) ?_
    refine zkSeq ?_
    refine zrRet ?_
    refine zkNil ?_
    exact endQ (F := f19_Q) hS hQ (fRet ((congrArg (fun s => outR s 0 c19.res) (by kernel_rfl : finSt c19.fin _ = f19_fin z2)).trans (f19_out z2)))
  · have hS : (some []) = some r := by
      have hl := List.eq_nil_of_length_eq_zero h0
      subst hl
      simpa [f19, app?] using hS
    show ZR _ Q c19_b [] _
    refine zrSeq ?_
    refine zrReg ?_
    refine zlRun (n := 1) (j := 1) rfl (by kernel_rfl) ?_
    refine zlEnd (by kernel_rfl) ?_
    refine zkSeq ?_
    refine zrSeq ?_
    refine zrSeq ?_
    refine zrReg ?_
    refine zlRun (n := 2) (j := 2) rfl (by kernel_rfl) ?_
    refine zlEnd (by kernel_rfl) ?_
    refine zkSeq ?_
    refine zrCondT (by kernel_rfl) ?_
    refine zrSeq ?_
    refine zrReg ?_
    refine zlRun (n := 1) (j := 1) rfl (by kernel_rfl) ?_
    refine zlEnd (by kernel_rfl) ?_
    refine zkSeq ?_
    refine zrRet ?_
    refine zkSeqR ?_
    refine zkNil ?_
    exact endQ (F := f19_Q) hS hQ (fRet ((congrArg (fun s => outR s 0 c19.res) (by kernel_rfl : finSt c19.fin _ = f19_fin [])).trans (f19_out [])))
/- farwriter/farkeep.ArgsJoins -/
def f6_fin (p17 : Bool) : St := ⟨(up (fun _ => .un) 4 (.d (.bool p17))), (hB fun _ => 0)⟩
theorem f6_out (p17 : Bool) : outR (f6_fin p17) 0 c6.res = some ((.d (.bool p17)), []) := by
  kernel_rfl
def f6_Q (r : Bool) (e : PX) (st : St) : Prop := DoneF c6 0 ((.d (.bool r)), []) e st
def f6_j0_J (a1 : List UInt8) (a2 : List UInt8) (p33 : List Int) (p34 : List Int) (p35 : List Int) (p36 : Int) : St := ⟨(up (up (up (up (fun _ => .un) 10 (.d (.int .i64 p36))) 9 (.r (.msl 224 0 0 p35.length))) 7 (.r (.msl 160 0 0 p34.length))) 5 (.r (.msl 120 0 0 p33.length))), (up (up (up (hB fun _ => 0) 224 ⟨0, some (.own 3 1 ((eInt .i64).cells p35))⟩) 160 ⟨0, some (.own 3 1 ((eInt .i64).cells p34))⟩) 120 ⟨0, some (.own 3 1 ((eInt .i64).cells p33))⟩)⟩
noncomputable def f6_j0 (a1 : List UInt8) (a2 : List UInt8) (p33 : List Int) (p34 : List Int) (p35 : List Int) (p36 : Int) : Option (Bool) := ((f19 p33).bind fun z23 => ((app? 8 z23 p34).bind fun z24 => (bif (decide (p36 = 0)) then ((chk (decide (0 ≤ 0) && decide (0 ≤ (if 32 < (z24.length : Int) then 32 else (z24.length : Int))) && decide ((if 32 < (z24.length : Int) then 32 else (z24.length : Int)) ≤ (z24.length : Int)))).bind fun z25 => ((part? z24 0 (((if 32 < (z24.length : Int) then 32 else (z24.length : Int)) : Int).toNat - (0 : Int).toNat)).bind fun z26 => ((f20 p35 z26).bind fun z27 => (some z27)))) else (some false))))
theorem f6_j0_ok {d : Nat} (hd : 3 ≤ d) (a1 : List UInt8) (a2 : List UInt8) {r : Bool} {Q : PX → St → Prop} (hQ : ∀ e st', f6_Q r e st' → Q e st') (p33 : List Int) (p34 : List Int) (p35 : List Int) (p36 : Int) (hS : f6_j0 a1 a2 p33 p34 p35 p36 = some r) {st : St} (he : keepSt [5, 7, 9, 10] [(120, .id 120), (160, .id 160), (224, .id 224)] [] st = f6_j0_J a1 a2 p33 p34 p35 p36) : ZR (lev codes baseL (d - 1)) Q c6_1 [] st := by
  refine zrKeep he ?_
  unfold f6_j0 at hS
  refine zrSeq ?_
  refine zrReg ?_
  refine zlRun (n := 1) (j := 1) rfl (by kernel_rfl) ?_
  refine bindE hS (fun z23 hz23 hS => ?_)
  refine zlOp (d := some 46) (op := (.call 19 [(.tmp 45)])) (g := none) (v := (.r (.msl 376 1 0 z23.length))) (ups := [(376, ⟨1, some (.own 3 1 ((eInt .i64).cells z23))⟩)]) (j := 2) rfl (by kernel_rfl) (by kernel_rfl) (ev_call (args := [(.r (.msl 120 0 0 p33.length))]) (l := [(.d (.sl p33.length ((eInt .i64).cells p33)))]) (r := (.r (.own 0 3 1 z23.length ((eInt .i64).cells z23)))) (by kernel_rfl) (l_cons (l_own (eInt .i64) (e := 3) (k := 1) (xs := p33) (by kernel_rfl) rfl rfl) l_nil) (f19_ok (d - 1) (dpt hd rfl) p33 z23 hz23) (by simp only [free_own (eInt .i64) (fun _ => rfl), free_tup, free_agg, free_nl, free_cs, free_int, free_bool, free_str, free_un, free_ni, free_s0, Bool.and_true, Bool.or_true, Bool.and_self]) (by kernel_rfl) (by kernel_rfl)) ?_
  refine zlRun (n := 1) (j := 3) rfl (by kernel_rfl) ?_
  refine bindE hS (fun z24 hz24 hS => ?_)
  refine zlOp (d := some 48) (op := (.app 3 1 8 (.tmp 46) (.tmp 47))) (g := none) (v := (.r (.msl 376 2 0 z24.length))) (ups := [(376, ⟨2, some (.own 3 1 ((eInt .i64).cells z24))⟩)]) (j := 4) rfl (by kernel_rfl) (by kernel_rfl) (ev_app (eInt .i64) (b := 376) (g := 1) (n := z23.length) (xs := z23) (ys := p34) ((congrArg (asL _) (by kernel_rfl : ρof _ (.tmp 47) = (.r (.msl 160 0 0 p34.length)))).trans (as_whole (eInt .i64) (e := 3) (k := 1) (xs := p34) (by kernel_rfl) rfl rfl)) rfl (by kernel_rfl) rfl (by kernel_rfl) rfl hz24) ?_
  refine zlRun (n := 1) (j := 5) rfl (by kernel_rfl) ?_
  refine zlEnd (by kernel_rfl) ?_
  refine zkSeq ?_
  refine zrSeq ?_
  refine zrReg ?_
  refine zlRun (n := 1) (j := 1) rfl (by kernel_rfl) ?_
  refine zlBool (d := 50) (op := (.cmpI .eql (.tmp 49) (.const (.int .i64 0)))) (g := none) (j := 2) (decide (p36 = 0)) rfl (by kernel_rfl) (by kernel_rfl) (by kernel_rfl) (fun hc => ?_) (fun hc => ?_)
  · replace hS := cond_t hc hS
    refine zlRun (n := 6) (j := 8) rfl (by kernel_rfl) ?_
    refine bindE hS (fun z25 hz25 hS => ?_)
    refine zlOp (d := some 57) (op := (.slS 3 1 (.tmp 53) .none (.some (.tmp 56)))) (g := (some (51, true))) (v := (.r (.msl 376 2 0 (((if 32 < (z24.length : Int) then 32 else (z24.length : Int)) : Int).toNat - (0 : Int).toNat)))) (ups := []) (j := 9) rfl (by kernel_rfl) (by kernel_rfl) (ev_slM (b := 376) (g := 2) (e := 3) (a := 0) (c := (if 32 < (z24.length : Int) then 32 else (z24.length : Int))) (l := 0) (n := z24.length) (l' := 0) (n' := (((if 32 < (z24.length : Int) then 32 else (z24.length : Int)) : Int).toNat - (0 : Int).toNat)) (cs := (eInt .i64).cells z24) (by kernel_rfl) (by kernel_rfl) (bnd_n 0) (bnd_s _ (kk := .i64) (j := (if 32 < (z24.length : Int) then 32 else (z24.length : Int))) (by kernel_rfl)) hz25 (by simp) rfl) ?_
    refine bindE hS (fun z26 hz26 hS => ?_)
    refine bindE hS (fun z27 hz27 hS => ?_)
    refine zlOp (d := some 58) (op := (.call 20 [(.tmp 52), (.tmp 57)])) (g := (some (51, true))) (v := (.d (.bool z27))) (ups := []) (j := 10) rfl (by kernel_rfl) (by kernel_rfl) (ev_call (args := [(.r (.msl 224 0 0 p35.length)), (.r (.msl 376 2 0 (((if 32 < (z24.length : Int) then 32 else (z24.length : Int)) : Int).toNat - (0 : Int).toNat)))]) (l := [(.d (.sl p35.length ((eInt .i64).cells p35))), (.d (.sl z26.length ((eInt .i64).cells z26)))]) (r := (.d (.bool z27))) (by kernel_rfl) (l_cons (l_own (eInt .i64) (e := 3) (k := 1) (xs := p35) (by kernel_rfl) rfl rfl) (l_cons (l_part (eInt .i64) (e := 3) (k := 1) (xs := z24) (by kernel_rfl) rfl hz26) l_nil)) (f20_ok (d - 1) (dpt hd rfl) p35 z26 z27 hz27) (by kernel_rfl) (by kernel_rfl) (by kernel_rfl)) ?_
    refine zlRun (n := 2) (j := 12) rfl (by kernel_rfl) ?_
    refine zlEnd (by kernel_rfl) ?_
    refine zkSeq ?_
    refine zrRet ?_
    refine zkNil ?_
    exact endQ hS hQ (fRet ((congrArg (fun s => outR s 0 c6.res) (by kernel_rfl : finSt c6.fin _ = f6_fin z27)).trans (f6_out z27)))
  · replace hS := cond_f hc hS
    refine zlRun (n := 10) (j := 12) rfl (by kernel_rfl) ?_
    refine zlEnd (by kernel_rfl) ?_
    refine zkSeq ?_
    refine zrRet ?_
    refine zkNil ?_
    exact endQ hS hQ (fRet ((congrArg (fun s => outR s 0 c6.res) (by kernel_rfl : finSt c6.fin _ = f6_fin false)).trans (f6_out false)))
def f6_j1_J (a1 : List UInt8) (a2 : List UInt8) (p39 : Int) : St := ⟨(up (fun _ => .un) 10 (.d (.int .i64 p39))), (hB fun _ => 0)⟩
noncomputable def f6_j1 (a1 : List UInt8) (a2 : List UInt8) (p39 : Int) : Option (Bool) := (f18.bind fun z29 => (bif z29 then (bif (decide (p39 = 4)) then (some true) else (some false)) else (some false)))
theorem f6_j1_ok {d : Nat} (hd : 3 ≤ d) (a1 : List UInt8) (a2 : List UInt8) {r : Bool} {Q : PX → St → Prop} (hQ : ∀ e st', f6_Q r e st' → Q e st') (p39 : Int) (hS : f6_j1 a1 a2 p39 = some r) {st : St} (he : keepSt [10] [] [] st = f6_j1_J a1 a2 p39) : ZR (lev codes baseL (d - 1)) Q c6_2 [.seq c6_1] st := by
  refine zrKeep he ?_
  unfold f6_j1 at hS
  refine zrSeq ?_
  refine zrReg ?_
  refine bindE hS (fun z29 hz29 hS => ?_)
  refine zlOp (d := some 40) (op := (.call 18 [])) (g := none) (v := (.d (.bool z29))) (ups := []) (j := 1) rfl (by kernel_rfl) (by kernel_rfl) (ev_call (args := []) (l := []) (r := (.d (.bool z29))) (by kernel_rfl) (by kernel_rfl) (f18_ok (d - 1) (dpt hd rfl)  z29 hz29) (by kernel_rfl) (by kernel_rfl) (by kernel_rfl)) ?_
  refine zlRun (n := 1) (j := 2) rfl (by kernel_rfl) ?_
  refine zlSplit 41 z29 (by kernel_rfl) (fun hc => ?_) (fun hc => ?_)
  · replace hS := cond_t hc hS
    refine zlRun (n := 1) (j := 3) rfl (by kernel_rfl) ?_
    refine zlBool (d := 43) (op := (.cmpI .eql (.tmp 42) (.const (.int .i64 4)))) (g := (some (41, true))) (j := 4) (decide (p39 = 4)) rfl (by kernel_rfl) (by kernel_rfl) (by kernel_rfl) (fun hc => ?_) (fun hc => ?_)
    · replace hS := cond_t hc hS
      refine zlRun (n := 2) (j := 6) rfl (by kernel_rfl) ?_
      refine zlEnd (by kernel_rfl) ?_
      refine zkSeq ?_
      refine zrRet ?_
      refine zkSeqR ?_
      refine zkNil ?_
      exact endQ hS hQ (fRet ((congrArg (fun s => outR s 0 c6.res) (by kernel_rfl : finSt c6.fin _ = f6_fin true)).trans (f6_out true)))
    · replace hS := cond_f hc hS
      refine zlRun (n := 2) (j := 6) rfl (by kernel_rfl) ?_
      refine zlEnd (by kernel_rfl) ?_
      refine zkSeq ?_
      refine zrRet ?_
      refine zkSeqR ?_
      refine zkNil ?_
      exact endQ hS hQ (fRet ((congrArg (fun s => outR s 0 c6.res) (by kernel_rfl : finSt c6.fin _ = f6_fin false)).trans (f6_out false)))
  · replace hS := cond_f hc hS
    refine zlRun (n := 4) (j := 6) rfl (by kernel_rfl) ?_
    refine zlEnd (by kernel_rfl) ?_
    refine zkSeq ?_
    refine zrRet ?_
    refine zkSeqR ?_
    refine zkNil ?_
    exact endQ hS hQ (fRet ((congrArg (fun s => outR s 0 c6.res) (by kernel_rfl : finSt c6.fin _ = f6_fin false)).trans (f6_out false)))
noncomputable def f6 (a1 : List UInt8) (a2 : List UInt8) : Option (Bool) := ((f17 a1).bind fun z13 => ((f17 a2).bind fun z14 => ((cat? a1 ([59] : List UInt8)).bind fun z18 => ((cat? z18 a2).bind fun z19 => ((f17 z19).bind fun z20 => (f18.bind fun z30 => (bif (!z30) then (f6_j1 a1 a2 z20.2) else (bif (!decide (z13.2 = 0)) then (f6_j1 a1 a2 z20.2) else (bif (!decide (z14.2 = 0)) then (f6_j1 a1 a2 z20.2) else (f6_j0 a1 a2 z13.1 z14.1 z20.1 z20.2))))))))))
theorem f6_ok (d : Nat) (hd : 3 ≤ d) (a1 : List UInt8) (a2 : List UInt8) (r : Bool) (hS : f6 a1 a2 = some r) : lev codes baseL d 6 [(.d (.str a1)), (.d (.str a2))] [] = some ((.d (.bool r)), []) := by
  refine lev_go codes6 rfl rfl (Nat.le_trans (Nat.le_of_ble_eq_true rfl) hd) fun Q hQ => ?_
  unfold f6 at hS
  show ZR _ Q c6_b [] _
  replace hQ : ∀ e st', f6_Q r e st' → Q e st' := hQ
  refine zrSeq ?_
  refine zrReg ?_
  refine zlRun (n := 1) (j := 1) rfl (by kernel_rfl) ?_
  refine zlEnd (by kernel_rfl) ?_
  refine zkSeq ?_
  refine zrSeq ?_
  refine zrReg ?_
  refine zlRun (n := 1) (j := 1) rfl (by kernel_rfl) ?_
  refine bindE hS (fun z13 hz13 hS => ?_)
  refine zlOp (d := some 14) (op := (.call 17 [(.tmp 13)])) (g := none) (v := (.tup [(.r (.msl 120 1 0 z13.1.length)), (.d (.int .i64 z13.2))])) (ups := [(120, ⟨1, some (.own 3 1 ((eInt .i64).cells z13.1))⟩)]) (j := 2) rfl (by kernel_rfl) (by kernel_rfl) (ev_call (args := [(.d (.str a1))]) (l := [(.d (.str a1))]) (r := (.tup [(.r (.own 0 3 1 z13.1.length ((eInt .i64).cells z13.1))), (.d (.int .i64 z13.2))])) (by kernel_rfl) (by kernel_rfl) (f17_ok (d - 1) (dpt hd rfl) a1 z13 hz13) (by kernel_rfl) (by kernel_rfl) (by kernel_rfl)) ?_
  refine zlRun (n := 5) (j := 7) rfl (by kernel_rfl) ?_
  refine zlEnd (by kernel_rfl) ?_
  refine zkSeq ?_
  refine zrSeq ?_
  refine zrReg ?_
  refine zlRun (n := 1) (j := 1) rfl (by kernel_rfl) ?_
  refine bindE hS (fun z14 hz14 hS => ?_)
  refine zlOp (d := some 19) (op := (.call 17 [(.tmp 18)])) (g := none) (v := (.tup [(.r (.msl 160 1 0 z14.1.length)), (.d (.int .i64 z14.2))])) (ups := [(160, ⟨1, some (.own 3 1 ((eInt .i64).cells z14.1))⟩)]) (j := 2) rfl (by kernel_rfl) (by kernel_rfl) (ev_call (args := [(.d (.str a2))]) (l := [(.d (.str a2))]) (r := (.tup [(.r (.own 0 3 1 z14.1.length ((eInt .i64).cells z14.1))), (.d (.int .i64 z14.2))])) (by kernel_rfl) (by kernel_rfl) (f17_ok (d - 1) (dpt hd rfl) a2 z14 hz14) (by kernel_rfl) (by kernel_rfl) (by kernel_rfl)) ?_
  refine zlRun (n := 5) (j := 7) rfl (by kernel_rfl) ?_
  refine zlEnd (by kernel_rfl) ?_
  refine zkSeq ?_
  refine zrSeq ?_
  refine zrReg ?_
  refine zlRun (n := 1) (j := 1) rfl (by kernel_rfl) ?_
  refine bindE hS (fun z18 hz18 hS => ?_)
  refine zlOp (d := some 24) (op := (.strO .add (.tmp 23) (.const (.string ⟨#[59]⟩)))) (g := none) (v := (.d (.str z18))) (ups := []) (j := 2) rfl (by kernel_rfl) (by kernel_rfl) (ev_cat (a := a1) (c := [59]) (by kernel_rfl) (by kernel_rfl) hz18) ?_
  refine zlRun (n := 1) (j := 3) rfl (by kernel_rfl) ?_
  refine bindE hS (fun z19 hz19 hS => ?_)
  refine zlOp (d := some 26) (op := (.strO .add (.tmp 24) (.tmp 25))) (g := none) (v := (.d (.str z19))) (ups := []) (j := 4) rfl (by kernel_rfl) (by kernel_rfl) (ev_cat (a := z18) (c := a2) (by kernel_rfl) (by kernel_rfl) hz19) ?_
  refine bindE hS (fun z20 hz20 hS => ?_)
  refine zlOp (d := some 27) (op := (.call 17 [(.tmp 26)])) (g := none) (v := (.tup [(.r (.msl 224 1 0 z20.1.length)), (.d (.int .i64 z20.2))])) (ups := [(224, ⟨1, some (.own 3 1 ((eInt .i64).cells z20.1))⟩)]) (j := 5) rfl (by kernel_rfl) (by kernel_rfl) (ev_call (args := [(.d (.str z19))]) (l := [(.d (.str z19))]) (r := (.tup [(.r (.own 0 3 1 z20.1.length ((eInt .i64).cells z20.1))), (.d (.int .i64 z20.2))])) (by kernel_rfl) (by kernel_rfl) (f17_ok (d - 1) (dpt hd rfl) z19 z20 hz20) (by kernel_rfl) (by kernel_rfl) (by kernel_rfl)) ?_
  refine zlRun (n := 5) (j := 10) rfl (by kernel_rfl) ?_
  refine zlEnd (by kernel_rfl) ?_
  refine zkSeq ?_
  refine zrSeq ?_
  refine zrSeq ?_
  refine zrReg ?_
  refine bindE hS (fun z30 hz30 hS => ?_)
  refine zlOp (d := some 30) (op := (.call 18 [])) (g := none) (v := (.d (.bool z30))) (ups := []) (j := 1) rfl (by kernel_rfl) (by kernel_rfl) (ev_call (args := []) (l := []) (r := (.d (.bool z30))) (by kernel_rfl) (by kernel_rfl) (f18_ok (d - 1) (dpt hd rfl)  z30 hz30) (by kernel_rfl) (by kernel_rfl) (by kernel_rfl)) ?_
  refine zlRun (n := 2) (j := 3) rfl (by kernel_rfl) ?_
  refine zlSplit 32 (!z30) (by kernel_rfl) (fun hc => ?_) (fun hc => ?_)
  · replace hS := cond_t hc hS
    refine zlRun (n := 7) (j := 10) rfl (by kernel_rfl) ?_
    refine zlEnd (by kernel_rfl) ?_
    refine zkSeq ?_
    refine zrCondT (by kernel_rfl) ?_
    exact f6_j1_ok hd a1 a2 hQ z20.2 hS (by kernel_rfl)
  · replace hS := cond_f hc hS
    refine zlRun (n := 1) (j := 4) rfl (by kernel_rfl) ?_
    refine zlBool (d := 34) (op := (.cmpI .neq (.tmp 33) (.const (.int .i64 0)))) (g := (some (32, false))) (j := 5) (!decide (z13.2 = 0)) rfl (by kernel_rfl) (by kernel_rfl) (by kernel_rfl) (fun hc => ?_) (fun hc => ?_)
    · replace hS := cond_t hc hS
      refine zlRun (n := 5) (j := 10) rfl (by kernel_rfl) ?_
      refine zlEnd (by kernel_rfl) ?_
      refine zkSeq ?_
      refine zrCondT (by kernel_rfl) ?_
      exact f6_j1_ok hd a1 a2 hQ z20.2 hS (by kernel_rfl)
    · replace hS := cond_f hc hS
      refine zlRun (n := 3) (j := 8) rfl (by kernel_rfl) ?_
      refine zlBool (d := 38) (op := (.cmpI .neq (.tmp 37) (.const (.int .i64 0)))) (g := (some (36, false))) (j := 9) (!decide (z14.2 = 0)) rfl (by kernel_rfl) (by kernel_rfl) (by kernel_rfl) (fun hc => ?_) (fun hc => ?_)
      · replace hS := cond_t hc hS
        refine zlRun (n := 1) (j := 10) rfl (by kernel_rfl) ?_
        refine zlEnd (by kernel_rfl) ?_
        refine zkSeq ?_
        refine zrCondT (by kernel_rfl) ?_
        exact f6_j1_ok hd a1 a2 hQ z20.2 hS (by kernel_rfl)
      · replace hS := cond_f hc hS
        refine zlRun (n := 1) (j := 10) rfl (by kernel_rfl) ?_
        refine zlEnd (by kernel_rfl) ?_
        refine zkSeq ?_
        refine zrCondF (by kernel_rfl) ?_
        refine zrSkip ?_
        refine zkSeq ?_
        exact f6_j0_ok hd a1 a2 hQ z13.1 z14.1 z20.1 z20.2 hS (by kernel_rfl)
/- farwriter/args.Write$1 -/
def f36_fin (p2 : Bool) : St := ⟨(up (fun _ => .un) 2 (.d (.bool p2))), (hB fun _ => 0)⟩
theorem f36_out (p2 : Bool) : outR (f36_fin p2) 0 c36.res = some ((.d (.bool p2)), []) := by
  kernel_rfl
def f36_Q (r : Bool) (e : PX) (st : St) : Prop := DoneF c36 0 ((.d (.bool r)), []) e st
noncomputable def f36 (a1 : Int) : Option (Bool) := (bif (decide (a1 < (-1))) then (some true) else (bif (decide (16383 < a1)) then (some true) else (some false)))
theorem f36_ok (d : Nat) (hd : 1 ≤ d) (a1 : Int) (r : Bool) (hS : f36 a1 = some r) : lev codes baseL d 36 [(.d (.int .i64 a1))] [] = some ((.d (.bool r)), []) := by
  refine lev_go codes36 rfl rfl (Nat.le_trans (Nat.le_of_ble_eq_true rfl) hd) fun Q hQ => ?_
  unfold f36 at hS
  show ZR _ Q c36_b [] _
  replace hQ : ∀ e st', f36_Q r e st' → Q e st' := hQ
  refine zrSeq ?_
  refine zrReg ?_
  refine zlRun (n := 1) (j := 1) rfl (by kernel_rfl) ?_
  refine zlEnd (by kernel_rfl) ?_
  refine zkSeq ?_
  refine zrSeq ?_
  refine zrReg ?_
  refine zlRun (n := 1) (j := 1) rfl (by kernel_rfl) ?_
  refine zlBool (d := 4) (op := (.cmpI .lss (.tmp 3) (.const (.int .i64 (-1))))) (g := none) (j := 2) (decide (a1 < (-1))) rfl (by kernel_rfl) (by kernel_rfl) (by kernel_rfl) (fun hc => ?_) (fun hc => ?_)
  · replace hS := cond_t hc hS
    refine zlRun (n := 5) (j := 7) rfl (by kernel_rfl) ?_
    refine zlEnd (by kernel_rfl) ?_
    refine zkSeq ?_
    refine zrRet ?_
    refine zkNil ?_
    exact endQ hS hQ (fRet ((congrArg (fun s => outR s 0 c36.res) (by kernel_rfl : finSt c36.fin _ = f36_fin true)).trans (f36_out true)))
  · replace hS := cond_f hc hS
    refine zlRun (n := 2) (j := 4) rfl (by kernel_rfl) ?_
    refine zlBool (d := 7) (op := (.cmpI .gtr (.tmp 6) (.const (.int .i64 16383)))) (g := (some (5, false))) (j := 5) (decide (16383 < a1)) rfl (by kernel_rfl) (by kernel_rfl) (by kernel_rfl) (fun hc => ?_) (fun hc => ?_)
    · replace hS := cond_t hc hS
      refine zlRun (n := 2) (j := 7) rfl (by kernel_rfl) ?_
      refine zlEnd (by kernel_rfl) ?_
      refine zkSeq ?_
      refine zrRet ?_
      refine zkNil ?_
      exact endQ hS hQ (fRet ((congrArg (fun s => outR s 0 c36.res) (by kernel_rfl : finSt c36.fin _ = f36_fin true)).trans (f36_out true)))
    · replace hS := cond_f hc hS
      refine zlRun (n := 2) (j := 7) rfl (by kernel_rfl) ?_
      refine zlEnd (by kernel_rfl) ?_
      refine zkSeq ?_
      refine zrRet ?_
      refine zkNil ?_
      exact endQ hS hQ (fRet ((congrArg (fun s => outR s 0 c36.res) (by kernel_rfl : finSt c36.fin _ = f36_fin false)).trans (f36_out false)))
/- slices.IndexFunc[[]int,int] -/
def f51_fin (p8 : Int) : St := ⟨(up (fun _ => .un) 4 (.d (.int .i64 p8))), (hB fun _ => 0)⟩
theorem f51_out (p8 : Int) : outR (f51_fin p8) 0 c51.res = some ((.d (.int .i64 p8)), []) := by
  kernel_rfl
def f51_Q (r : Int) (e : PX) (st : St) : Prop := DoneF c51 0 ((.d (.int .i64 r)), []) e st
def f51_l0_J (a1 : List Int) (x : Int) : St := ⟨(up (up (up (up (fun _ => .un) 8 (.d (.int .i64 x))) 7 (.d (.int .i64 (a1.length : Int)))) 1 (.fn 36 [])) 0 (.d (.sl a1.length ((eInt .i64).cells a1)))), (hB fun _ => 0)⟩
def f51_l0_H (a1 : List Int) (x : Int) (st : St) : Prop := keepSt [0, 1, 7, 8] [] [] st = f51_l0_J a1 x
def f51_l0_e0_J (a1 : List Int) : St := ⟨(fun _ => .un), (hB fun _ => 0)⟩
def f51_l0_X (a1 : List Int) (z : Unit ⊕ Int) (e : PX) (st : St) : Prop := (match z with | .inl z => e = .exit 0 ∧ st = f51_l0_e0_J a1 | .inr z => e = .ret ∧ finSt c51.fin st = f51_fin z)
def f51_l0_j2_J (a1 : List Int) (p13 : Int) : St := ⟨(up (up (up (up (fun _ => .un) 8 (.d (.int .i64 p13))) 7 (.d (.int .i64 (a1.length : Int)))) 1 (.fn 36 [])) 0 (.d (.sl a1.length ((eInt .i64).cells a1)))), (hB fun _ => 0)⟩
noncomputable def f51_l0_j2 (a1 : List Int) (p13 : Int) : Option (Int ⊕ (Unit ⊕ Int)) := ((idx a1 p13).bind fun z7 => ((f36 z7).bind fun z8 => (bif z8 then (some (.inr (.inr p13))) else (some (.inl (IntKind.i64.wrap (p13 + 1)))))))
theorem f51_l0_j2_ok {d : Nat} (hd : 2 ≤ d) (a1 : List Int) {r : Int ⊕ (Unit ⊕ Int)} {Q : PX → St → Prop} (hQ : ∀ e st', finL (f51_l0_H a1) (f51_l0_X a1) r e st' → Q e st') (p13 : Int) (hS : f51_l0_j2 a1 p13 = some r) {st : St} (he : keepSt [0, 1, 7, 8] [] [] st = f51_l0_j2_J a1 p13) : ZR (lev codes baseL (d - 1)) Q c51_1 [] st := by
  refine zrKeep he ?_
  unfold f51_l0_j2 at hS
  refine zrSeq ?_
  refine zrBlk ?_
  refine zrSeq ?_
  refine zrReg ?_
  refine zlRun (n := 2) (j := 2) rfl (by kernel_rfl) ?_
  refine zlEnd (by kernel_rfl) ?_
  refine zkSeq ?_
  refine zrSeq ?_
  refine zrReg ?_
  refine zlRun (n := 3) (j := 3) rfl (by kernel_rfl) ?_
  refine bindE hS (fun z7 hz7 hS => ?_)
  refine zlOp (d := some 14) (op := (.ixS 3 1 (.tmp 12) (.tmp 13))) (g := none) (v := (.rptr ((eInt .i64).enc z7 ++ ((eInt .i64).cells (a1.drop ((p13 : Int).toNat + 1)))))) (ups := []) (j := 4) rfl (by kernel_rfl) (by kernel_rfl) (ev_ixS (eInt .i64) (kk := .i64) (xs := a1) (j := p13) (by kernel_rfl) (by kernel_rfl) hz7 rfl (by intro h; cases h)) ?_
  refine zlRun (n := 1) (j := 5) rfl (by kernel_rfl) ?_
  refine bindE hS (fun z8 hz8 hS => ?_)
  refine zlOp (d := some 16) (op := (.callv (.tmp 11) [(.tmp 15)])) (g := none) (v := (.d (.bool z8))) (ups := []) (j := 6) rfl (by kernel_rfl) (by kernel_rfl) (ev_callv (f := 36) (cs := []) (by kernel_rfl) (args := [(.d (.int .i64 z7))]) (l := [(.d (.int .i64 z7))]) (r := (.d (.bool z8))) (by kernel_rfl) (by kernel_rfl) (f36_ok (d - 1) (dpt hd rfl) z7 z8 hz8) (by kernel_rfl) (by kernel_rfl) (by kernel_rfl)) ?_
  refine zlEnd (by kernel_rfl) ?_
  refine zkSeq ?_
  refine zrSplit 16 z8 (by kernel_rfl) (fun hc => ?_) (fun hc => ?_)
  · replace hS := cond_t hc hS
    refine zrCondT (by kernel_rfl) ?_
    refine zrSeq ?_
    refine zrReg ?_
    refine zlRun (n := 2) (j := 2) rfl (by kernel_rfl) ?_
    refine zlEnd (by kernel_rfl) ?_
    refine zkSeq ?_
    refine zrRet ?_
    refine zkBlkR ?_
    refine zkSeqR ?_
    refine zkNil ?_
    exact endQ hS hQ (finL_x (by intro h; cases h) (by show _ = _ ∧ _ = _; exact ⟨rfl, by kernel_rfl⟩))
  · replace hS := cond_f hc hS
    refine zrCondF (by kernel_rfl) ?_
    refine zrSkip ?_
    refine zkBlk ?_
    refine zkSeq ?_
    refine zrReg ?_
    refine zlRun (n := 2) (j := 2) rfl (by kernel_rfl) ?_
    refine zlEnd (by kernel_rfl) ?_
    refine zkNil ?_
    exact endQ hS hQ (finL_n (by show keepSt _ _ _ _ = _; kernel_rfl))
def f51_l0_j1_J (a1 : List Int) (p11 : Int) (p12 : Bool) : St := ⟨(up (up (up (up (up (fun _ => .un) 9 (.d (.bool p12))) 8 (.d (.int .i64 p11))) 7 (.d (.int .i64 (a1.length : Int)))) 1 (.fn 36 [])) 0 (.d (.sl a1.length ((eInt .i64).cells a1)))), (hB fun _ => 0)⟩
noncomputable def f51_l0_j1 (a1 : List Int) (p11 : Int) (p12 : Bool) : Option (Int ⊕ (Unit ⊕ Int)) := (bif p12 then (f51_l0_j2 a1 p11) else (some (.inr (.inl ()))))
theorem f51_l0_j1_ok {d : Nat} (hd : 2 ≤ d) (a1 : List Int) {r : Int ⊕ (Unit ⊕ Int)} {Q : PX → St → Prop} (hQ : ∀ e st', finL (f51_l0_H a1) (f51_l0_X a1) r e st' → Q e st') (p11 : Int) (p12 : Bool) (hS : f51_l0_j1 a1 p11 p12 = some r) {st : St} (he : keepSt [0, 1, 7, 8, 9] [] [] st = f51_l0_j1_J a1 p11 p12) : ZR (lev codes baseL (d - 1)) Q c51_2 [] st := by
  refine zrKeep he ?_
  unfold f51_l0_j1 at hS
  refine zrSeq ?_
  refine zrSplit 9 p12 (by kernel_rfl) (fun hc => ?_) (fun hc => ?_)
  · replace hS := cond_t hc hS
    refine zrCondT (by kernel_rfl) ?_
    refine zrSkip ?_
    refine zkSeq ?_
    exact f51_l0_j2_ok hd a1 hQ p11 hS (by kernel_rfl)
  · replace hS := cond_f hc hS
    refine zrCondF (by kernel_rfl) ?_
    refine zrKeep (J := f51_l0_e0_J a1) (by kernel_rfl) ?_
    refine zrExit ?_
    refine zkSeqX ?_
    refine zkNil ?_
    exact endQ hS hQ (finL_x (by intro h; cases h) (by show _ = _ ∧ _ = _; exact ⟨rfl, rfl⟩))
noncomputable def f51_l0 (a1 : List Int) (x : Int) : Option (Int ⊕ (Unit ⊕ Int)) := (bif (decide (x < (a1.length : Int))) then (f51_l0_j1 a1 x true) else (f51_l0_j1 a1 x false))
theorem f51_l0_ok {d : Nat} (hd : 2 ≤ d) (a1 : List Int) {r : Int ⊕ (Unit ⊕ Int)} {Q : PX → St → Prop} (hQ : ∀ e st', finL (f51_l0_H a1) (f51_l0_X a1) r e st' → Q e st') {x : Int} (hS : f51_l0 a1 x = some r) {st : St} (he : f51_l0_H a1 x st) : ZR (lev codes baseL (d - 1)) Q c51_3 [] st := by
  refine zrKeep he ?_
  unfold f51_l0 at hS
  refine zrSeq ?_
  refine zrReg ?_
  refine zlBool (d := 9) (op := (.cmpI .lss (.tmp 8) (.tmp 7))) (g := none) (j := 1) (decide (x < (a1.length : Int))) rfl (by kernel_rfl) (by kernel_rfl) (by kernel_rfl) (fun hc => ?_) (fun hc => ?_)
  · replace hS := cond_t hc hS
    refine zlEnd (by kernel_rfl) ?_
    refine zkSeq ?_
    exact f51_l0_j1_ok hd a1 hQ x true hS (by kernel_rfl)
  · replace hS := cond_f hc hS
    refine zlEnd (by kernel_rfl) ?_
    refine zkSeq ?_
    exact f51_l0_j1_ok hd a1 hQ x false hS (by kernel_rfl)
noncomputable def f51 (a1 : List Int) : Option (Int) := ((loopO (f51_l0 a1) 0).bind fun z9 => (Sum.elim (fun z10 => (some (-1))) (fun z11 => (some z11)) z9))
theorem f51_ok (d : Nat) (hd : 2 ≤ d) (a1 : List Int) (r : Int) (hS : f51 a1 = some r) : lev codes baseL d 51 [(.d (.sl a1.length ((eInt .i64).cells a1))), (.fn 36 [])] [] = some ((.d (.int .i64 r)), []) := by
  refine lev_go codes51 rfl rfl (Nat.le_trans (Nat.le_of_ble_eq_true rfl) hd) fun Q hQ => ?_
  unfold f51 at hS
  show ZR _ Q c51_b [] _
  replace hQ : ∀ e st', f51_Q r e st' → Q e st' := hQ
  refine zrSeq ?_
  refine zrReg ?_
  refine zlRun (n := 1) (j := 1) rfl (by kernel_rfl) ?_
  refine zlEnd (by kernel_rfl) ?_
  refine zkSeq ?_
  refine zrSeq ?_
  refine zrSeq ?_
  refine zrReg ?_
  refine zlRun (n := 3) (j := 3) rfl (by kernel_rfl) ?_
  refine zlEnd (by kernel_rfl) ?_
  refine zkSeq ?_
  refine zrBlk ?_
  refine bindE hS (fun z9 hz9 hS => ?_)
  refine zrLoop (f51_l0_H a1) (f51_l0_X a1) (fun x st r Q h0 hS hQ => f51_l0_ok hd a1 hQ hS h0) (x := 0) (z := z9) (by show keepSt _ _ _ _ = _; kernel_rfl) hz9 ?_
  rcases z9 with z10 | z11
  · replace hS := (show _ = _ from hS)
    simp only [Sum.elim_inl] at hS
    intro e st' _ hX
    obtain ⟨rfl, rfl⟩ : _ ∧ _ := hX
    refine zkBlkX ?_
    refine zkSeq ?_
    refine zrSeq ?_
    refine zrReg ?_
    refine zlRun (n := 1) (j := 1) rfl (by kernel_rfl) ?_
    refine zlEnd (by kernel_rfl) ?_
    refine zkSeq ?_
    refine zrRet ?_
    refine zkNil ?_
    exact endQ hS hQ (fRet ((congrArg (fun s => outR s 0 c51.res) (by kernel_rfl : finSt c51.fin _ = f51_fin (-1))).trans (f51_out (-1))))
  · simp only [Sum.elim_inr] at hS
    intro e st' _ hX
    obtain ⟨rfl, hX⟩ : _ ∧ _ := hX
    refine zkBlkR ?_
    refine zkSeqR ?_
    refine zkNil ?_
    exact endQ hS hQ (fRet ((congrArg (fun s => outR s 0 c51.res) hX).trans (f51_out z11)))
/- slices.ContainsFunc[[]int,int] -/
def f35_fin (p2 : Bool) : St := ⟨(up (fun _ => .un) 4 (.d (.bool p2))), (hB fun _ => 0)⟩
theorem f35_out (p2 : Bool) : outR (f35_fin p2) 0 c35.res = some ((.d (.bool p2)), []) := by
  kernel_rfl
def f35_Q (r : Bool) (e : PX) (st : St) : Prop := DoneF c35 0 ((.d (.bool r)), []) e st
noncomputable def f35 (a1 : List Int) : Option (Bool) := ((f51 a1).bind fun z2 => (bif (decide (0 ≤ z2)) then (some true) else (some false)))
theorem f35_ok (d : Nat) (hd : 3 ≤ d) (a1 : List Int) (r : Bool) (hS : f35 a1 = some r) : lev codes baseL d 35 [(.d (.sl a1.length ((eInt .i64).cells a1))), (.fn 36 [])] [] = some ((.d (.bool r)), []) := by
  refine lev_go codes35 rfl rfl (Nat.le_trans (Nat.le_of_ble_eq_true rfl) hd) fun Q hQ => ?_
  unfold f35 at hS
  show ZR _ Q c35_b [] _
  replace hQ : ∀ e st', f35_Q r e st' → Q e st' := hQ
  refine zrSeq ?_
  refine zrReg ?_
  refine zlRun (n := 1) (j := 1) rfl (by kernel_rfl) ?_
  refine zlEnd (by kernel_rfl) ?_
  refine zkSeq ?_
  refine zrSeq ?_
  refine zrReg ?_
  refine zlRun (n := 2) (j := 2) rfl (by kernel_rfl) ?_
  refine bindE hS (fun z2 hz2 hS => ?_)
  refine zlOp (d := some 7) (op := (.call 51 [(.tmp 5), (.tmp 6)])) (g := none) (v := (.d (.int .i64 z2))) (ups := []) (j := 3) rfl (by kernel_rfl) (by kernel_rfl) (ev_call (args := [(.d (.sl a1.length ((eInt .i64).cells a1))), (.fn 36 [])]) (l := [(.d (.sl a1.length ((eInt .i64).cells a1))), (.fn 36 [])]) (r := (.d (.int .i64 z2))) (by kernel_rfl) (by kernel_rfl) (f51_ok (d - 1) (dpt hd rfl) a1 z2 hz2) (by kernel_rfl) (by kernel_rfl) (by kernel_rfl)) ?_
  refine zlBool (d := 8) (op := (.cmpI .geq (.tmp 7) (.const (.int .i64 0)))) (g := none) (j := 4) (decide (0 ≤ z2)) rfl (by kernel_rfl) (by kernel_rfl) (by kernel_rfl) (fun hc => ?_) (fun hc => ?_)
  · replace hS := cond_t hc hS
    refine zlRun (n := 1) (j := 5) rfl (by kernel_rfl) ?_
    refine zlEnd (by kernel_rfl) ?_
    refine zkSeq ?_
    refine zrRet ?_
    refine zkNil ?_
    exact endQ hS hQ (fRet ((congrArg (fun s => outR s 0 c35.res) (by kernel_rfl : finSt c35.fin _ = f35_fin true)).trans (f35_out true)))
  · replace hS := cond_f hc hS
    refine zlRun (n := 1) (j := 5) rfl (by kernel_rfl) ?_
    refine zlEnd (by kernel_rfl) ?_
    refine zkSeq ?_
    refine zrRet ?_
    refine zkNil ?_
    exact endQ hS hQ (fRet ((congrArg (fun s => outR s 0 c35.res) (by kernel_rfl : finSt c35.fin _ = f35_fin false)).trans (f35_out false)))
/- strconv.Itoa -/
theorem libItoaL_ok (d : Nat) (hd : 0 ≤ d) (a1 : Int) (r : List UInt8) (hS : libItoaL a1 = some r) : lev codes baseL d 37 [(.d (.int .i64 a1))] [] = some ((.d (.str r)), []) := lib_call (l := libs) rfl rfl rfl (oiS_ hS) d
/- strings.Join -/
theorem libJoin_ok (d : Nat) (hd : 0 ≤ d) (a1 : List (List UInt8)) (a2 : List UInt8) (r : List UInt8) (hS : libJoin a1 a2 = some r) : lev codes baseL d 11 [(.d (.sl a1.length (eStr.cells a1))), (.d (.str a2))] [] = some ((.d (.str r)), []) := lib_call (l := libs) rfl rfl rfl (oSsS_ hS) d
/- farwriter/args.Write -/
def f21_fin (p30 : List UInt8) (p31 : Int) : St := ⟨(up (up (fun _ => .un) 3 (.d (.int .i64 p31))) 2 (.d (.str p30))), (hB fun _ => 0)⟩
theorem f21_out (p30 : List UInt8) (p31 : Int) : outR (f21_fin p30 p31) 0 c21.res = some ((.tup [(.d (.str p30)), (.d (.int .i64 p31))]), []) := by
  kernel_rfl
def f21_Q (r : (List UInt8) × Int) (e : PX) (st : St) : Prop := DoneF c21 0 ((.tup [(.d (.str r.1)), (.d (.int .i64 r.2))]), []) e st
def f21_l2_J (a1 : List Int) (x : (List (List UInt8)) × Int) : St := ⟨(up (up (up (up (fun _ => .un) 19 (.d (.int .i64 x.2))) 18 (.d (.int .i64 (a1.length : Int)))) 17 (.d (.sl a1.length ((eInt .i64).cells a1)))) 4 (.r (.msl 40 0 0 x.1.length))), (up (hB fun _ => 0) 40 ⟨0, some (.own 9 1 (eStr.cells x.1))⟩)⟩
def f21_l2_H (a1 : List Int) (x : (List (List UInt8)) × Int) (st : St) : Prop := keepSt [4, 17, 18, 19] [(40, .id 40)] [] st = f21_l2_J a1 x
def f21_l2_e0_J (a1 : List Int) (p29 : List (List UInt8)) : St := ⟨(up (fun _ => .un) 4 (.r (.msl 40 0 0 p29.length))), (up (hB fun _ => 0) 40 ⟨0, some (.own 9 1 (eStr.cells p29))⟩)⟩
def f21_l2_X (a1 : List Int) (z : ((List (List UInt8)))) (e : PX) (st : St) : Prop := e = .exit 0 ∧ st = f21_l2_e0_J a1 z
def f21_l2_j4_J (a1 : List Int) (p40 : List (List UInt8)) (p41 : Int) : St := ⟨(up (up (up (up (fun _ => .un) 19 (.d (.int .i64 p41))) 18 (.d (.int .i64 (a1.length : Int)))) 17 (.d (.sl a1.length ((eInt .i64).cells a1)))) 4 (.r (.msl 40 0 0 p40.length))), (up (hB fun _ => 0) 40 ⟨0, some (.own 9 1 (eStr.cells p40))⟩)⟩
noncomputable def f21_l2_j4 (a1 : List Int) (p40 : List (List UInt8)) (p41 : Int) : Option (((List (List UInt8)) × Int) ⊕ (((List (List UInt8))))) := ((idx a1 p41).bind fun z16 => (bif (decide (z16 < 0)) then ((app? 16 p40 ([[]] : List (List UInt8))).bind fun z17 => (some (.inl (z17, (IntKind.i64.wrap (p41 + 1)))))) else ((libItoaL z16).bind fun z18 => ((app? 16 p40 ([z18] : List (List UInt8))).bind fun z19 => (some (.inl (z19, (IntKind.i64.wrap (p41 + 1)))))))))
theorem f21_l2_j4_ok {d : Nat} (hd : 4 ≤ d) (a1 : List Int) {r : ((List (List UInt8)) × Int) ⊕ (((List (List UInt8))))} {Q : PX → St → Prop} (hQ : ∀ e st', finL (f21_l2_H a1) (f21_l2_X a1) r e st' → Q e st') (p40 : List (List UInt8)) (p41 : Int) (hS : f21_l2_j4 a1 p40 p41 = some r) {st : St} (he : keepSt [4, 17, 18, 19] [(40, .id 40)] [] st = f21_l2_j4_J a1 p40 p41) : ZR (lev codes baseL (d - 1)) Q c21_1 [] st := by
  refine zrKeep he ?_
  unfold f21_l2_j4 at hS
  refine zrSeq ?_
  refine zrBlk ?_
  refine zrSeq ?_
  refine zrReg ?_
  refine bindE hS (fun z16 hz16 hS => ?_)
  refine zlOp (d := some 21) (op := (.ixS 3 1 (.tmp 17) (.tmp 19))) (g := none) (v := (.rptr ((eInt .i64).enc z16 ++ ((eInt .i64).cells (a1.drop ((p41 : Int).toNat + 1)))))) (ups := []) (j := 1) rfl (by kernel_rfl) (by kernel_rfl) (ev_ixS (eInt .i64) (kk := .i64) (xs := a1) (j := p41) (by kernel_rfl) (by kernel_rfl) hz16 rfl (by intro h; cases h)) ?_
  refine zlRun (n := 2) (j := 3) rfl (by kernel_rfl) ?_
  refine zlEnd (by kernel_rfl) ?_
  refine zkSeq ?_
  refine zrSeq ?_
  refine zrReg ?_
  refine zlRun (n := 1) (j := 1) rfl (by kernel_rfl) ?_
  refine zlBool (d := 24) (op := (.cmpI .lss (.tmp 23) (.const (.int .i64 0)))) (g := none) (j := 2) (decide (z16 < 0)) rfl (by kernel_rfl) (by kernel_rfl) (by kernel_rfl) (fun hc => ?_) (fun hc => ?_)
  · replace hS := cond_t hc hS
    refine zlEnd (by kernel_rfl) ?_
    refine zkSeq ?_
    refine zrCondT (by kernel_rfl) ?_
    refine zrReg ?_
    refine zlRun (n := 2) (j := 2) rfl (by kernel_rfl) ?_
    refine bindE hS (fun z17 hz17 hS => ?_)
    refine zlOp (d := some 27) (op := (.app 9 1 16 (.tmp 25) (.tmp 26))) (g := none) (v := (.r (.msl 40 1 0 z17.length))) (ups := [(40, ⟨1, some (.own 9 1 (eStr.cells z17))⟩)]) (j := 3) rfl (by kernel_rfl) (by kernel_rfl) (ev_app eStr (b := 40) (g := 0) (n := p40.length) (xs := p40) (ys := [[]]) ((congrArg (asL _) (by kernel_rfl : ρof _ (.tmp 26) = (.r (.msl 216 1 0 (([[]] : List (List UInt8)).length))))).trans (as_whole eStr (e := 9) (k := 1) (xs := [[]]) (by kernel_rfl) rfl rfl)) rfl (by kernel_rfl) rfl (by kernel_rfl) rfl hz17) ?_
    refine zlRun (n := 1) (j := 4) rfl (by kernel_rfl) ?_
    refine zlEnd (by kernel_rfl) ?_
    refine zkBlk ?_
    refine zkSeq ?_
    refine zrReg ?_
    refine zlRun (n := 2) (j := 2) rfl (by kernel_rfl) ?_
    refine zlEnd (by kernel_rfl) ?_
    refine zkNil ?_
    exact endQ hS hQ (finL_n (by show keepSt _ _ _ _ = _; kernel_rfl))
  · replace hS := cond_f hc hS
    refine zlEnd (by kernel_rfl) ?_
    refine zkSeq ?_
    refine zrCondF (by kernel_rfl) ?_
    refine zrReg ?_
    refine zlRun (n := 2) (j := 2) rfl (by kernel_rfl) ?_
    refine bindE hS (fun z18 hz18 hS => ?_)
    refine zlOp (d := some 30) (op := (.call 37 [(.tmp 29)])) (g := none) (v := (.d (.str z18))) (ups := []) (j := 3) rfl (by kernel_rfl) (by kernel_rfl) (ev_call (args := [(.d (.int .i64 z16))]) (l := [(.d (.int .i64 z16))]) (r := (.d (.str z18))) (by kernel_rfl) (by kernel_rfl) (libItoaL_ok (d - 1) (dpt hd rfl) z16 z18 hz18) (by kernel_rfl) (by kernel_rfl) (by kernel_rfl)) ?_
    refine zlRun (n := 1) (j := 4) rfl (by kernel_rfl) ?_
    refine bindE hS (fun z19 hz19 hS => ?_)
    refine zlOp (d := some 32) (op := (.app 9 1 16 (.tmp 28) (.tmp 31))) (g := none) (v := (.r (.msl 40 1 0 z19.length))) (ups := [(40, ⟨1, some (.own 9 1 (eStr.cells z19))⟩)]) (j := 5) rfl (by kernel_rfl) (by kernel_rfl) (ev_app eStr (b := 40) (g := 0) (n := p40.length) (xs := p40) (ys := [z18]) ((congrArg (asL _) (by kernel_rfl : ρof _ (.tmp 31) = (.r (.msl 256 1 0 (([z18] : List (List UInt8)).length))))).trans (as_whole eStr (e := 9) (k := 1) (xs := [z18]) (by kernel_rfl) rfl rfl)) rfl (by kernel_rfl) rfl (by kernel_rfl) rfl hz19) ?_
    refine zlRun (n := 1) (j := 6) rfl (by kernel_rfl) ?_
    refine zlEnd (by kernel_rfl) ?_
    refine zkBlk ?_
    refine zkSeq ?_
    refine zrReg ?_
    refine zlRun (n := 2) (j := 2) rfl (by kernel_rfl) ?_
    refine zlEnd (by kernel_rfl) ?_
    refine zkNil ?_
    exact endQ hS hQ (finL_n (by show keepSt _ _ _ _ = _; kernel_rfl))
def f21_l2_j3_J (a1 : List Int) (p37 : List (List UInt8)) (p38 : Int) (p39 : Bool) : St := ⟨(up (up (up (up (up (fun _ => .un) 20 (.d (.bool p39))) 19 (.d (.int .i64 p38))) 18 (.d (.int .i64 (a1.length : Int)))) 17 (.d (.sl a1.length ((eInt .i64).cells a1)))) 4 (.r (.msl 40 0 0 p37.length))), (up (hB fun _ => 0) 40 ⟨0, some (.own 9 1 (eStr.cells p37))⟩)⟩
noncomputable def f21_l2_j3 (a1 : List Int) (p37 : List (List UInt8)) (p38 : Int) (p39 : Bool) : Option (((List (List UInt8)) × Int) ⊕ (((List (List UInt8))))) := (bif p39 then (f21_l2_j4 a1 p37 p38) else (some (.inr p37)))
theorem f21_l2_j3_ok {d : Nat} (hd : 4 ≤ d) (a1 : List Int) {r : ((List (List UInt8)) × Int) ⊕ (((List (List UInt8))))} {Q : PX → St → Prop} (hQ : ∀ e st', finL (f21_l2_H a1) (f21_l2_X a1) r e st' → Q e st') (p37 : List (List UInt8)) (p38 : Int) (p39 : Bool) (hS : f21_l2_j3 a1 p37 p38 p39 = some r) {st : St} (he : keepSt [4, 17, 18, 19, 20] [(40, .id 40)] [] st = f21_l2_j3_J a1 p37 p38 p39) : ZR (lev codes baseL (d - 1)) Q c21_2 [] st := by
  refine zrKeep he ?_
  unfold f21_l2_j3 at hS
  refine zrSeq ?_
  refine zrSplit 20 p39 (by kernel_rfl) (fun hc => ?_) (fun hc => ?_)
  · replace hS := cond_t hc hS
    refine zrCondT (by kernel_rfl) ?_
    refine zrSkip ?_
    refine zkSeq ?_
    exact f21_l2_j4_ok hd a1 hQ p37 p38 hS (by kernel_rfl)
  · replace hS := cond_f hc hS
    refine zrCondF (by kernel_rfl) ?_
    refine zrKeep (J := f21_l2_e0_J a1 p37) (by kernel_rfl) ?_
    refine zrExit ?_
    refine zkSeqX ?_
    refine zkNil ?_
    exact endQ hS hQ (finL_x (by intro h; cases h) (by show _ = _ ∧ _ = _; exact ⟨rfl, rfl⟩))
noncomputable def f21_l2 (a1 : List Int) (x : (List (List UInt8)) × Int) : Option (((List (List UInt8)) × Int) ⊕ (((List (List UInt8))))) := (bif (decide (x.2 < (a1.length : Int))) then (f21_l2_j3 a1 x.1 x.2 true) else (f21_l2_j3 a1 x.1 x.2 false))
theorem f21_l2_ok {d : Nat} (hd : 4 ≤ d) (a1 : List Int) {r : ((List (List UInt8)) × Int) ⊕ (((List (List UInt8))))} {Q : PX → St → Prop} (hQ : ∀ e st', finL (f21_l2_H a1) (f21_l2_X a1) r e st' → Q e st') {x : (List (List UInt8)) × Int} (hS : f21_l2 a1 x = some r) {st : St} (he : f21_l2_H a1 x st) : ZR (lev codes baseL (d - 1)) Q c21_3 [] st := by
  refine zrKeep he ?_
  unfold f21_l2 at hS
  refine zrSeq ?_
  refine zrReg ?_
  refine zlBool (d := 20) (op := (.cmpI .lss (.tmp 19) (.tmp 18))) (g := none) (j := 1) (decide (x.2 < (a1.length : Int))) rfl (by kernel_rfl) (by kernel_rfl) (by kernel_rfl) (fun hc => ?_) (fun hc => ?_)
  · replace hS := cond_t hc hS
    refine zlEnd (by kernel_rfl) ?_
    refine zkSeq ?_
    exact f21_l2_j3_ok hd a1 hQ x.1 x.2 true hS (by kernel_rfl)
  · replace hS := cond_f hc hS
    refine zlEnd (by kernel_rfl) ?_
    refine zkSeq ?_
    exact f21_l2_j3_ok hd a1 hQ x.1 x.2 false hS (by kernel_rfl)
def f21_j1_J (a1 : List Int) : St := ⟨(up (fun _ => .un) 0 (.d (.sl a1.length ((eInt .i64).cells a1)))), (hB fun _ => 0)⟩
noncomputable def f21_j1 (a1 : List Int) : Option ((List UInt8) × Int) := ((loopO (f21_l2 a1) ([], 0)).bind fun z20 => ((libJoin z20 [59]).bind fun z21 => (some (z21, 0))))
theorem f21_j1_ok {d : Nat} (hd : 4 ≤ d) (a1 : List Int) {r : (List UInt8) × Int} {Q : PX → St → Prop} (hQ : ∀ e st', f21_Q r e st' → Q e st')  (hS : f21_j1 a1 = some r) {st : St} (he : keepSt [0] [] [] st = f21_j1_J a1) : ZR (lev codes baseL (d - 1)) Q c21_4 [] st := by
  refine zrKeep he ?_
  unfold f21_j1 at hS
  refine zrSeq ?_
  refine zrReg ?_
  refine zlRun (n := 1) (j := 1) rfl (by kernel_rfl) ?_
  refine zlEnd (by kernel_rfl) ?_
  refine zkSeq ?_
  refine zrSeq ?_
  refine zrSeq ?_
  refine zrReg ?_
  refine zlRun (n := 3) (j := 3) rfl (by kernel_rfl) ?_
  refine zlEnd (by kernel_rfl) ?_
  refine zkSeq ?_
  refine zrBlk ?_
  refine bindE hS (fun z20 hz20 hS => ?_)
  refine zrLoop (f21_l2_H a1) (f21_l2_X a1) (fun x st r Q h0 hS hQ => f21_l2_ok hd a1 hQ hS h0) (x := ([], 0)) (z := z20) (by show keepSt _ _ _ _ = _; kernel_rfl) hz20 ?_
  intro e st' _ hX
  obtain ⟨rfl, rfl⟩ : _ ∧ _ := hX
  refine zkBlkX ?_
  refine zkSeq ?_
  refine zrSeq ?_
  refine zrReg ?_
  refine zlRun (n := 1) (j := 1) rfl (by kernel_rfl) ?_
  refine bindE hS (fun z21 hz21 hS => ?_)
  refine zlOp (d := some 35) (op := (.call 11 [(.tmp 34), (.const (.string ⟨#[59]⟩))])) (g := none) (v := (.d (.str z21))) (ups := []) (j := 2) rfl (by kernel_rfl) (by kernel_rfl) (ev_call (args := [(.r (.msl 40 0 0 z20.length)), (.d (.str ([59])))]) (l := [(.d (.sl z20.length (eStr.cells z20))), (.d (.str ([59])))]) (r := (.d (.str z21))) (by kernel_rfl) (l_cons (l_own eStr (e := 9) (k := 1) (xs := z20) (by kernel_rfl) rfl rfl) (l_cons (by kernel_rfl) l_nil)) (libJoin_ok (d - 1) (dpt hd rfl) z20 [59] z21 hz21) (by kernel_rfl) (by kernel_rfl) (by kernel_rfl)) ?_
  refine zlRun (n := 2) (j := 4) rfl (by kernel_rfl) ?_
  refine zlEnd (by kernel_rfl) ?_
  refine zkSeq ?_
  refine zrRet ?_
  refine zkNil ?_
  exact endQ hS hQ (fRet ((congrArg (fun s => outR s 0 c21.res) (by kernel_rfl : finSt c21.fin _ = f21_fin z21 0)).trans (f21_out z21 0)))
def f21_j0_J (a1 : List Int) : St := ⟨(up (fun _ => .un) 0 (.d (.sl a1.length ((eInt .i64).cells a1)))), (hB fun _ => 0)⟩
noncomputable def f21_j0 (a1 : List Int) : Option ((List UInt8) × Int) := (bif (decide (32 < (a1.length : Int))) then (some ([], 2)) else (f21_j1 a1 ))
theorem f21_j0_ok {d : Nat} (hd : 4 ≤ d) (a1 : List Int) {r : (List UInt8) × Int} {Q : PX → St → Prop} (hQ : ∀ e st', f21_Q r e st' → Q e st')  (hS : f21_j0 a1 = some r) {st : St} (he : keepSt [0] [] [] st = f21_j0_J a1) : ZR (lev codes baseL (d - 1)) Q c21_5 [] st := by
  refine zrKeep he ?_
  unfold f21_j0 at hS
  refine zrSeq ?_
  refine zrSeq ?_
  refine zrReg ?_
  refine zlRun (n := 2) (j := 2) rfl (by kernel_rfl) ?_
  refine zlBool (d := 16) (op := (.cmpI .gtr (.tmp 15) (.const (.int .i64 32)))) (g := none) (j := 3) (decide (32 < (a1.length : Int))) rfl (by kernel_rfl) (by kernel_rfl) (by kernel_rfl) (fun hc => ?_) (fun hc => ?_)
  · replace hS := cond_t hc hS
    refine zlEnd (by kernel_rfl) ?_
    refine zkSeq ?_
    refine zrCondT (by kernel_rfl) ?_
    refine zrSeq ?_
    refine zrReg ?_
    refine zlRun (n := 2) (j := 2) rfl (by kernel_rfl) ?_
    refine zlEnd (by kernel_rfl) ?_
    refine zkSeq ?_
    refine zrRet ?_
    refine zkSeqR ?_
    refine zkNil ?_
    exact endQ hS hQ (fRet ((congrArg (fun s => outR s 0 c21.res) (by kernel_rfl : finSt c21.fin _ = f21_fin [] 2)).trans (f21_out [] 2)))
  · replace hS := cond_f hc hS
    refine zlEnd (by kernel_rfl) ?_
    refine zkSeq ?_
    refine zrCondF (by kernel_rfl) ?_
    refine zrSkip ?_
    refine zkSeq ?_
    exact f21_j1_ok hd a1 hQ  hS (by kernel_rfl)
noncomputable def f21 (a1 : List Int) : Option ((List UInt8) × Int) := (bif (decide ((a1.length : Int) = 0)) then (some ([], 1)) else ((f35 a1).bind fun z22 => (bif z22 then (some ([], 1)) else (f21_j0 a1 ))))
theorem f21_ok (d : Nat) (hd : 4 ≤ d) (a1 : List Int) (r : (List UInt8) × Int) (hS : f21 a1 = some r) : lev codes baseL d 21 [(.d (.sl a1.length ((eInt .i64).cells a1)))] [] = some ((.tup [(.d (.str r.1)), (.d (.int .i64 r.2))]), []) := by
  refine lev_go codes21 rfl rfl (Nat.le_trans (Nat.le_of_ble_eq_true rfl) hd) fun Q hQ => ?_
  unfold f21 at hS
  show ZR _ Q c21_b [] _
  replace hQ : ∀ e st', f21_Q r e st' → Q e st' := hQ
  refine zrSeq ?_
  refine zrReg ?_
  refine zlRun (n := 2) (j := 2) rfl (by kernel_rfl) ?_
  refine zlEnd (by kernel_rfl) ?_
  refine zkSeq ?_
  refine zrSeq ?_
  refine zrSeq ?_
  refine zrReg ?_
  refine zlRun (n := 2) (j := 2) rfl (by kernel_rfl) ?_
  refine zlBool (d := 9) (op := (.cmpI .eql (.tmp 8) (.const (.int .i64 0)))) (g := none) (j := 3) (decide ((a1.length : Int) = 0)) rfl (by kernel_rfl) (by kernel_rfl) (by kernel_rfl) (fun hc => ?_) (fun hc => ?_)
  · replace hS := cond_t hc hS
    refine zlRun (n := 4) (j := 7) rfl (by kernel_rfl) ?_
    refine zlEnd (by kernel_rfl) ?_
    refine zkSeq ?_
    refine zrCondT (by kernel_rfl) ?_
    refine zrSeq ?_
    refine zrReg ?_
    refine zlRun (n := 2) (j := 2) rfl (by kernel_rfl) ?_
    refine zlEnd (by kernel_rfl) ?_
    refine zkSeq ?_
    refine zrRet ?_
    refine zkSeqR ?_
    refine zkNil ?_
    exact endQ hS hQ (fRet ((congrArg (fun s => outR s 0 c21.res) (by kernel_rfl : finSt c21.fin _ = f21_fin [] 1)).trans (f21_out [] 1)))
  · replace hS := cond_f hc hS
    refine zlRun (n := 2) (j := 5) rfl (by kernel_rfl) ?_
    refine bindE hS (fun z22 hz22 hS => ?_)
    refine zlOp (d := some 12) (op := (.call 35 [(.tmp 11), (.func 36)])) (g := (some (10, false))) (v := (.d (.bool z22))) (ups := []) (j := 6) rfl (by kernel_rfl) (by kernel_rfl) (ev_call (args := [(.d (.sl a1.length ((eInt .i64).cells a1))), (.fn 36 [])]) (l := [(.d (.sl a1.length ((eInt .i64).cells a1))), (.fn 36 [])]) (r := (.d (.bool z22))) (by kernel_rfl) (by kernel_rfl) (f35_ok (d - 1) (dpt hd rfl) a1 z22 hz22) (by kernel_rfl) (by kernel_rfl) (by kernel_rfl)) ?_
    refine zlRun (n := 1) (j := 7) rfl (by kernel_rfl) ?_
    refine zlEnd (by kernel_rfl) ?_
    refine zkSeq ?_
    refine zrSplit 13 z22 (by kernel_rfl) (fun hc => ?_) (fun hc => ?_)
    · replace hS := cond_t hc hS
      refine zrCondT (by kernel_rfl) ?_
      refine zrSeq ?_
      refine zrReg ?_
      refine zlRun (n := 2) (j := 2) rfl (by kernel_rfl) ?_
      refine zlEnd (by kernel_rfl) ?_
      refine zkSeq ?_
      refine zrRet ?_
      refine zkSeqR ?_
      refine zkNil ?_
      exact endQ hS hQ (fRet ((congrArg (fun s => outR s 0 c21.res) (by kernel_rfl : finSt c21.fin _ = f21_fin [] 1)).trans (f21_out [] 1)))
    · replace hS := cond_f hc hS
      refine zrCondF (by kernel_rfl) ?_
      refine zrSkip ?_
      refine zkSeq ?_
      exact f21_j0_ok hd a1 hQ  hS (by kernel_rfl)
/- farwriter/farkeep.ArgsBack -/
def f7_fin (p14 : Bool) : St := ⟨(up (fun _ => .un) 4 (.d (.bool p14))), (hB fun _ => 0)⟩
theorem f7_out (p14 : Bool) : outR (f7_fin p14) 0 c7.res = some ((.d (.bool p14)), []) := by
  kernel_rfl
def f7_Q (r : Bool) (e : PX) (st : St) : Prop := DoneF c7 0 ((.d (.bool r)), []) e st
def f7_j1_J (a1 : List Int) (a2 : List UInt8) (p23 : List Int) : St := ⟨(up (fun _ => .un) 9 (.r (.msl 296 0 0 p23.length))), (up (hB fun _ => 0) 296 ⟨0, some (.own 3 1 ((eInt .i64).cells p23))⟩)⟩
noncomputable def f7_j1 (a1 : List Int) (a2 : List UInt8) (p23 : List Int) : Option (Bool) := ((f21 p23).bind fun z16 => ((f17 z16.1).bind fun z17 => (bif (decide (z16.2 = 0)) then (bif (decide (z17.2 = 0)) then ((f20 p23 z17.1).bind fun z18 => (bif z18 then (bif (decide (1 ≤ (p23.length : Int))) then (bif (decide ((p23.length : Int) ≤ 32)) then (some true) else (some false)) else (some false)) else (some false))) else (some false)) else (some false))))
theorem f7_j1_ok {d : Nat} (hd : 5 ≤ d) (a1 : List Int) (a2 : List UInt8) {r : Bool} {Q : PX → St → Prop} (hQ : ∀ e st', f7_Q r e st' → Q e st') (p23 : List Int) (hS : f7_j1 a1 a2 p23 = some r) {st : St} (he : keepSt [9] [(296, .id 296)] [] st = f7_j1_J a1 a2 p23) : ZR (lev codes baseL (d - 1)) Q c7_1 [] st := by
  refine zrKeep he ?_
  unfold f7_j1 at hS
  refine zrSeq ?_
  refine zrReg ?_
  refine zlRun (n := 1) (j := 1) rfl (by kernel_rfl) ?_
  refine bindE hS (fun z16 hz16 hS => ?_)
  refine zlOp (d := some 53) (op := (.call 21 [(.tmp 52)])) (g := none) (v := (.tup [(.d (.str z16.1)), (.d (.int .i64 z16.2))])) (ups := []) (j := 2) rfl (by kernel_rfl) (by kernel_rfl) (ev_call (args := [(.r (.msl 296 0 0 p23.length))]) (l := [(.d (.sl p23.length ((eInt .i64).cells p23)))]) (r := (.tup [(.d (.str z16.1)), (.d (.int .i64 z16.2))])) (by kernel_rfl) (l_cons (l_own (eInt .i64) (e := 3) (k := 1) (xs := p23) (by kernel_rfl) rfl rfl) l_nil) (f21_ok (d - 1) (dpt hd rfl) p23 z16 hz16) (by kernel_rfl) (by kernel_rfl) (by kernel_rfl)) ?_
  refine zlRun (n := 5) (j := 7) rfl (by kernel_rfl) ?_
  refine zlEnd (by kernel_rfl) ?_
  refine zkSeq ?_
  refine zrSeq ?_
  refine zrReg ?_
  refine zlRun (n := 1) (j := 1) rfl (by kernel_rfl) ?_
  refine bindE hS (fun z17 hz17 hS => ?_)
  refine zlOp (d := some 58) (op := (.call 17 [(.tmp 57)])) (g := none) (v := (.tup [(.r (.msl 472 1 0 z17.1.length)), (.d (.int .i64 z17.2))])) (ups := [(472, ⟨1, some (.own 3 1 ((eInt .i64).cells z17.1))⟩)]) (j := 2) rfl (by kernel_rfl) (by kernel_rfl) (ev_call (args := [(.d (.str z16.1))]) (l := [(.d (.str z16.1))]) (r := (.tup [(.r (.own 0 3 1 z17.1.length ((eInt .i64).cells z17.1))), (.d (.int .i64 z17.2))])) (by kernel_rfl) (by kernel_rfl) (f17_ok (d - 1) (dpt hd rfl) z16.1 z17 hz17) (by kernel_rfl) (by kernel_rfl) (by kernel_rfl)) ?_
  refine zlRun (n := 5) (j := 7) rfl (by kernel_rfl) ?_
  refine zlEnd (by kernel_rfl) ?_
  refine zkSeq ?_
  refine zrSeq ?_
  refine zrReg ?_
  refine zlRun (n := 1) (j := 1) rfl (by kernel_rfl) ?_
  refine zlBool (d := 62) (op := (.cmpI .eql (.tmp 61) (.const (.int .i64 0)))) (g := none) (j := 2) (decide (z16.2 = 0)) rfl (by kernel_rfl) (by kernel_rfl) (by kernel_rfl) (fun hc => ?_) (fun hc => ?_)
  · replace hS := cond_t hc hS
    refine zlRun (n := 2) (j := 4) rfl (by kernel_rfl) ?_
    refine zlBool (d := 65) (op := (.cmpI .eql (.tmp 64) (.const (.int .i64 0)))) (g := (some (63, true))) (j := 5) (decide (z17.2 = 0)) rfl (by kernel_rfl) (by kernel_rfl) (by kernel_rfl) (fun hc => ?_) (fun hc => ?_)
    · replace hS := cond_t hc hS
      refine zlRun (n := 4) (j := 9) rfl (by kernel_rfl) ?_
      refine bindE hS (fun z18 hz18 hS => ?_)
      refine zlOp (d := some 70) (op := (.call 20 [(.tmp 68), (.tmp 69)])) (g := (some (67, true))) (v := (.d (.bool z18))) (ups := []) (j := 10) rfl (by kernel_rfl) (by kernel_rfl) (ev_call (args := [(.r (.msl 296 0 0 p23.length)), (.r (.msl 472 1 0 z17.1.length))]) (l := [(.d (.sl p23.length ((eInt .i64).cells p23))), (.d (.sl z17.1.length ((eInt .i64).cells z17.1)))]) (r := (.d (.bool z18))) (by kernel_rfl) (l_cons (l_own (eInt .i64) (e := 3) (k := 1) (xs := p23) (by kernel_rfl) rfl rfl) (l_cons (l_own (eInt .i64) (e := 3) (k := 1) (xs := z17.1) (by kernel_rfl) rfl rfl) l_nil)) (f20_ok (d - 1) (dpt hd rfl) p23 z17.1 z18 hz18) (by kernel_rfl) (by kernel_rfl) (by kernel_rfl)) ?_
      refine zlRun (n := 2) (j := 12) rfl (by kernel_rfl) ?_
      refine zlSplit 72 z18 (by kernel_rfl) (fun hc => ?_) (fun hc => ?_)
      · replace hS := cond_t hc hS
        refine zlRun (n := 2) (j := 14) rfl (by kernel_rfl) ?_
        refine zlBool (d := 75) (op := (.cmpI .geq (.tmp 74) (.const (.int .i64 1)))) (g := (some (72, true))) (j := 15) (decide (1 ≤ (p23.length : Int))) rfl (by kernel_rfl) (by kernel_rfl) (by kernel_rfl) (fun hc => ?_) (fun hc => ?_)
        · replace hS := cond_t hc hS
          refine zlRun (n := 4) (j := 19) rfl (by kernel_rfl) ?_
          refine zlBool (d := 80) (op := (.cmpI .leq (.tmp 79) (.const (.int .i64 32)))) (g := (some (77, true))) (j := 20) (decide ((p23.length : Int) ≤ 32)) rfl (by kernel_rfl) (by kernel_rfl) (by kernel_rfl) (fun hc => ?_) (fun hc => ?_)
          · replace hS := cond_t hc hS
            refine zlRun (n := 2) (j := 22) rfl (by kernel_rfl) ?_
            refine zlEnd (by kernel_rfl) ?_
            refine zkSeq ?_
            refine zrRet ?_
            refine zkNil ?_
            exact endQ hS hQ (fRet ((congrArg (fun s => outR s 0 c7.res) (by kernel_rfl : finSt c7.fin _ = f7_fin true)).trans (f7_out true)))
          · replace hS := cond_f hc hS
            refine zlRun (n := 2) (j := 22) rfl (by kernel_rfl) ?_
            refine zlEnd (by kernel_rfl) ?_
            refine zkSeq ?_
            refine zrRet ?_
            refine zkNil ?_
            exact endQ hS hQ (fRet ((congrArg (fun s => outR s 0 c7.res) (by kernel_rfl : finSt c7.fin _ = f7_fin false)).trans (f7_out false)))
        · replace hS := cond_f hc hS
          refine zlRun (n := 7) (j := 22) rfl (by kernel_rfl) ?_
          refine zlEnd (by kernel_rfl) ?_
          refine zkSeq ?_
          refine zrRet ?_
          refine zkNil ?_
          exact endQ hS hQ (fRet ((congrArg (fun s => outR s 0 c7.res) (by kernel_rfl : finSt c7.fin _ = f7_fin false)).trans (f7_out false)))
      · replace hS := cond_f hc hS
        refine zlRun (n := 10) (j := 22) rfl (by kernel_rfl) ?_
        refine zlEnd (by kernel_rfl) ?_
        refine zkSeq ?_
        refine zrRet ?_
        refine zkNil ?_
        exact endQ hS hQ (fRet ((congrArg (fun s => outR s 0 c7.res) (by kernel_rfl : finSt c7.fin _ = f7_fin false)).trans (f7_out false)))
    · replace hS := cond_f hc hS
      refine zlRun (n := 17) (j := 22) rfl (by kernel_rfl) ?_
      refine zlEnd (by kernel_rfl) ?_
      refine zkSeq ?_
      refine zrRet ?_
      refine zkNil ?_
      exact endQ hS hQ (fRet ((congrArg (fun s => outR s 0 c7.res) (by kernel_rfl : finSt c7.fin _ = f7_fin false)).trans (f7_out false)))
  · replace hS := cond_f hc hS
    refine zlRun (n := 20) (j := 22) rfl (by kernel_rfl) ?_
    refine zlEnd (by kernel_rfl) ?_
    refine zkSeq ?_
    refine zrRet ?_
    refine zkNil ?_
    exact endQ hS hQ (fRet ((congrArg (fun s => outR s 0 c7.res) (by kernel_rfl : finSt c7.fin _ = f7_fin false)).trans (f7_out false)))
def f7_j2_J (a1 : List Int) (a2 : List UInt8) (p25 : List Int) : St := ⟨(up (fun _ => .un) 9 (.r (.msl 296 0 0 p25.length))), (up (hB fun _ => 0) 296 ⟨0, some (.own 3 1 ((eInt .i64).cells p25))⟩)⟩
noncomputable def f7_j2 (a1 : List Int) (a2 : List UInt8) (p25 : List Int) : Option (Bool) := (f18.bind fun z20 => (bif z20 then (bif (decide ((p25.length : Int) = 0)) then (some true) else (some false)) else (some false)))
theorem f7_j2_ok {d : Nat} (hd : 5 ≤ d) (a1 : List Int) (a2 : List UInt8) {r : Bool} {Q : PX → St → Prop} (hQ : ∀ e st', f7_Q r e st' → Q e st') (p25 : List Int) (hS : f7_j2 a1 a2 p25 = some r) {st : St} (he : keepSt [9] [(296, .id 296)] [] st = f7_j2_J a1 a2 p25) : ZR (lev codes baseL (d - 1)) Q c7_2 [.seq c7_1] st := by
  refine zrKeep he ?_
  unfold f7_j2 at hS
  refine zrSeq ?_
  refine zrReg ?_
  refine bindE hS (fun z20 hz20 hS => ?_)
  refine zlOp (d := some 45) (op := (.call 18 [])) (g := none) (v := (.d (.bool z20))) (ups := []) (j := 1) rfl (by kernel_rfl) (by kernel_rfl) (ev_call (args := []) (l := []) (r := (.d (.bool z20))) (by kernel_rfl) (by kernel_rfl) (f18_ok (d - 1) (dpt hd rfl)  z20 hz20) (by kernel_rfl) (by kernel_rfl) (by kernel_rfl)) ?_
  refine zlRun (n := 1) (j := 2) rfl (by kernel_rfl) ?_
  refine zlSplit 46 z20 (by kernel_rfl) (fun hc => ?_) (fun hc => ?_)
  · replace hS := cond_t hc hS
    refine zlRun (n := 2) (j := 4) rfl (by kernel_rfl) ?_
    refine zlBool (d := 49) (op := (.cmpI .eql (.tmp 48) (.const (.int .i64 0)))) (g := (some (46, true))) (j := 5) (decide ((p25.length : Int) = 0)) rfl (by kernel_rfl) (by kernel_rfl) (by kernel_rfl) (fun hc => ?_) (fun hc => ?_)
    · replace hS := cond_t hc hS
      refine zlRun (n := 2) (j := 7) rfl (by kernel_rfl) ?_
      refine zlEnd (by kernel_rfl) ?_
      refine zkSeq ?_
      refine zrRet ?_
      refine zkSeqR ?_
      refine zkNil ?_
      exact endQ hS hQ (fRet ((congrArg (fun s => outR s 0 c7.res) (by kernel_rfl : finSt c7.fin _ = f7_fin true)).trans (f7_out true)))
    · replace hS := cond_f hc hS
      refine zlRun (n := 2) (j := 7) rfl (by kernel_rfl) ?_
      refine zlEnd (by kernel_rfl) ?_
      refine zkSeq ?_
      refine zrRet ?_
      refine zkSeqR ?_
      refine zkNil ?_
      exact endQ hS hQ (fRet ((congrArg (fun s => outR s 0 c7.res) (by kernel_rfl : finSt c7.fin _ = f7_fin false)).trans (f7_out false)))
  · replace hS := cond_f hc hS
    refine zlRun (n := 5) (j := 7) rfl (by kernel_rfl) ?_
    refine zlEnd (by kernel_rfl) ?_
    refine zkSeq ?_
    refine zrRet ?_
    refine zkSeqR ?_
    refine zkNil ?_
    exact endQ hS hQ (fRet ((congrArg (fun s => outR s 0 c7.res) (by kernel_rfl : finSt c7.fin _ = f7_fin false)).trans (f7_out false)))
def f7_j0_J (a1 : List Int) (a2 : List UInt8) : St := ⟨(up (fun _ => .un) 1 (.d (.str a2))), (hB fun _ => 0)⟩
noncomputable def f7_j0 (a1 : List Int) (a2 : List UInt8) : Option (Bool) := ((f17 a2).bind fun z13 => (f18.bind fun z21 => (bif (!z21) then (f7_j2 a1 a2 z13.1) else (bif (!decide (z13.2 = 0)) then (f7_j2 a1 a2 z13.1) else (f7_j1 a1 a2 z13.1)))))
theorem f7_j0_ok {d : Nat} (hd : 5 ≤ d) (a1 : List Int) (a2 : List UInt8) {r : Bool} {Q : PX → St → Prop} (hQ : ∀ e st', f7_Q r e st' → Q e st')  (hS : f7_j0 a1 a2 = some r) {st : St} (he : keepSt [1] [] [] st = f7_j0_J a1 a2) : ZR (lev codes baseL (d - 1)) Q c7_3 [] st := by
  refine zrKeep he ?_
  unfold f7_j0 at hS
  refine zrSeq ?_
  refine zrReg ?_
  refine zlRun (n := 1) (j := 1) rfl (by kernel_rfl) ?_
  refine bindE hS (fun z13 hz13 hS => ?_)
  refine zlOp (d := some 36) (op := (.call 17 [(.tmp 35)])) (g := none) (v := (.tup [(.r (.msl 296 1 0 z13.1.length)), (.d (.int .i64 z13.2))])) (ups := [(296, ⟨1, some (.own 3 1 ((eInt .i64).cells z13.1))⟩)]) (j := 2) rfl (by kernel_rfl) (by kernel_rfl) (ev_call (args := [(.d (.str a2))]) (l := [(.d (.str a2))]) (r := (.tup [(.r (.own 0 3 1 z13.1.length ((eInt .i64).cells z13.1))), (.d (.int .i64 z13.2))])) (by kernel_rfl) (by kernel_rfl) (f17_ok (d - 1) (dpt hd rfl) a2 z13 hz13) (by kernel_rfl) (by kernel_rfl) (by kernel_rfl)) ?_
  refine zlRun (n := 5) (j := 7) rfl (by kernel_rfl) ?_
  refine zlEnd (by kernel_rfl) ?_
  refine zkSeq ?_
  refine zrSeq ?_
  refine zrSeq ?_
  refine zrReg ?_
  refine bindE hS (fun z21 hz21 hS => ?_)
  refine zlOp (d := some 39) (op := (.call 18 [])) (g := none) (v := (.d (.bool z21))) (ups := []) (j := 1) rfl (by kernel_rfl) (by kernel_rfl) (ev_call (args := []) (l := []) (r := (.d (.bool z21))) (by kernel_rfl) (by kernel_rfl) (f18_ok (d - 1) (dpt hd rfl)  z21 hz21) (by kernel_rfl) (by kernel_rfl) (by kernel_rfl)) ?_
  refine zlRun (n := 2) (j := 3) rfl (by kernel_rfl) ?_
  refine zlSplit 41 (!z21) (by kernel_rfl) (fun hc => ?_) (fun hc => ?_)
  · replace hS := cond_t hc hS
    refine zlRun (n := 3) (j := 6) rfl (by kernel_rfl) ?_
    refine zlEnd (by kernel_rfl) ?_
    refine zkSeq ?_
    refine zrCondT (by kernel_rfl) ?_
    exact f7_j2_ok hd a1 a2 hQ z13.1 hS (by kernel_rfl)
  · replace hS := cond_f hc hS
    refine zlRun (n := 1) (j := 4) rfl (by kernel_rfl) ?_
    refine zlBool (d := 43) (op := (.cmpI .neq (.tmp 42) (.const (.int .i64 0)))) (g := (some (41, false))) (j := 5) (!decide (z13.2 = 0)) rfl (by kernel_rfl) (by kernel_rfl) (by kernel_rfl) (fun hc => ?_) (fun hc => ?_)
    · replace hS := cond_t hc hS
      refine zlRun (n := 1) (j := 6) rfl (by kernel_rfl) ?_
      refine zlEnd (by kernel_rfl) ?_
      refine zkSeq ?_
      refine zrCondT (by kernel_rfl) ?_
      exact f7_j2_ok hd a1 a2 hQ z13.1 hS (by kernel_rfl)
    · replace hS := cond_f hc hS
      refine zlRun (n := 1) (j := 6) rfl (by kernel_rfl) ?_
      refine zlEnd (by kernel_rfl) ?_
      refine zkSeq ?_
      refine zrCondF (by kernel_rfl) ?_
      refine zrSkip ?_
      refine zkSeq ?_
      exact f7_j1_ok hd a1 a2 hQ z13.1 hS (by kernel_rfl)
noncomputable def f7 (a1 : List Int) (a2 : List UInt8) : Option (Bool) := ((f21 a1).bind fun z22 => (bif (decide (z22.2 = 0)) then ((f17 z22.1).bind fun z23 => (bif (!decide (z23.2 = 0)) then (some false) else ((f20 z23.1 a1).bind fun z24 => (bif (!z24) then (some false) else (f7_j0 a1 a2 ))))) else (f7_j0 a1 a2 )))
theorem f7_ok (d : Nat) (hd : 5 ≤ d) (a1 : List Int) (a2 : List UInt8) (r : Bool) (hS : f7 a1 a2 = some r) : lev codes baseL d 7 [(.d (.sl a1.length ((eInt .i64).cells a1))), (.d (.str a2))] [] = some ((.d (.bool r)), []) := by
  refine lev_go codes7 rfl rfl (Nat.le_trans (Nat.le_of_ble_eq_true rfl) hd) fun Q hQ => ?_
  unfold f7 at hS
  show ZR _ Q c7_b [] _
  replace hQ : ∀ e st', f7_Q r e st' → Q e st' := hQ
  refine zrSeq ?_
  refine zrReg ?_
  refine zlRun (n := 1) (j := 1) rfl (by kernel_rfl) ?_
  refine zlEnd (by kernel_rfl) ?_
  refine zkSeq ?_
  refine zrSeq ?_
  refine zrSeq ?_
  refine zrReg ?_
  refine zlRun (n := 1) (j := 1) rfl (by kernel_rfl) ?_
  refine bindE hS (fun z22 hz22 hS => ?_)
  refine zlOp (d := some 16) (op := (.call 21 [(.tmp 15)])) (g := none) (v := (.tup [(.d (.str z22.1)), (.d (.int .i64 z22.2))])) (ups := []) (j := 2) rfl (by kernel_rfl) (by kernel_rfl) (ev_call (args := [(.d (.sl a1.length ((eInt .i64).cells a1)))]) (l := [(.d (.sl a1.length ((eInt .i64).cells a1)))]) (r := (.tup [(.d (.str z22.1)), (.d (.int .i64 z22.2))])) (by kernel_rfl) (by kernel_rfl) (f21_ok (d - 1) (dpt hd rfl) a1 z22 hz22) (by kernel_rfl) (by kernel_rfl) (by kernel_rfl)) ?_
  refine zlRun (n := 5) (j := 7) rfl (by kernel_rfl) ?_
  refine zlEnd (by kernel_rfl) ?_
  refine zkSeq ?_
  refine zrSeq ?_
  refine zrReg ?_
  refine zlRun (n := 1) (j := 1) rfl (by kernel_rfl) ?_
  refine zlBool (d := 20) (op := (.cmpI .eql (.tmp 19) (.const (.int .i64 0)))) (g := none) (j := 2) (decide (z22.2 = 0)) rfl (by kernel_rfl) (by kernel_rfl) (by kernel_rfl) (fun hc => ?_) (fun hc => ?_)
  · replace hS := cond_t hc hS
    refine zlEnd (by kernel_rfl) ?_
    refine zkSeq ?_
    refine zrCondT (by kernel_rfl) ?_
    refine zrSeq ?_
    refine zrReg ?_
    refine zlRun (n := 1) (j := 1) rfl (by kernel_rfl) ?_
    refine bindE hS (fun z23 hz23 hS => ?_)
    refine zlOp (d := some 23) (op := (.call 17 [(.tmp 22)])) (g := none) (v := (.tup [(.r (.msl 192 1 0 z23.1.length)), (.d (.int .i64 z23.2))])) (ups := [(192, ⟨1, some (.own 3 1 ((eInt .i64).cells z23.1))⟩)]) (j := 2) rfl (by kernel_rfl) (by kernel_rfl) (ev_call (args := [(.d (.str z22.1))]) (l := [(.d (.str z22.1))]) (r := (.tup [(.r (.own 0 3 1 z23.1.length ((eInt .i64).cells z23.1))), (.d (.int .i64 z23.2))])) (by kernel_rfl) (by kernel_rfl) (f17_ok (d - 1) (dpt hd rfl) z22.1 z23 hz23) (by kernel_rfl) (by kernel_rfl) (by kernel_rfl)) ?_
    refine zlRun (n := 5) (j := 7) rfl (by kernel_rfl) ?_
    refine zlEnd (by kernel_rfl) ?_
    refine zkSeq ?_
    refine zrSeq ?_
    refine zrReg ?_
    refine zlRun (n := 1) (j := 1) rfl (by kernel_rfl) ?_
    refine zlBool (d := 27) (op := (.cmpI .neq (.tmp 26) (.const (.int .i64 0)))) (g := none) (j := 2) (!decide (z23.2 = 0)) rfl (by kernel_rfl) (by kernel_rfl) (by kernel_rfl) (fun hc => ?_) (fun hc => ?_)
    · replace hS := cond_t hc hS
      refine zlRun (n := 6) (j := 8) rfl (by kernel_rfl) ?_
      refine zlEnd (by kernel_rfl) ?_
      refine zkSeq ?_
      refine zrCondT (by kernel_rfl) ?_
      refine zrSeq ?_
      refine zrReg ?_
      refine zlRun (n := 1) (j := 1) rfl (by kernel_rfl) ?_
      refine zlEnd (by kernel_rfl) ?_
      refine zkSeq ?_
      refine zrRet ?_
      refine zkSeqR ?_
      refine zkNil ?_
      exact endQ hS hQ (fRet ((congrArg (fun s => outR s 0 c7.res) (by kernel_rfl : finSt c7.fin _ = f7_fin false)).trans (f7_out false)))
    · replace hS := cond_f hc hS
      refine zlRun (n := 3) (j := 5) rfl (by kernel_rfl) ?_
      refine bindE hS (fun z24 hz24 hS => ?_)
      refine zlOp (d := some 31) (op := (.call 20 [(.tmp 29), (.tmp 30)])) (g := (some (28, false))) (v := (.d (.bool z24))) (ups := []) (j := 6) rfl (by kernel_rfl) (by kernel_rfl) (ev_call (args := [(.r (.msl 192 1 0 z23.1.length)), (.d (.sl a1.length ((eInt .i64).cells a1)))]) (l := [(.d (.sl z23.1.length ((eInt .i64).cells z23.1))), (.d (.sl a1.length ((eInt .i64).cells a1)))]) (r := (.d (.bool z24))) (by kernel_rfl) (l_cons (l_own (eInt .i64) (e := 3) (k := 1) (xs := z23.1) (by kernel_rfl) rfl rfl) (l_cons (by kernel_rfl) l_nil)) (f20_ok (d - 1) (dpt hd rfl) z23.1 a1 z24 hz24) (by kernel_rfl) (by kernel_rfl) (by kernel_rfl)) ?_
      refine zlRun (n := 2) (j := 8) rfl (by kernel_rfl) ?_
      refine zlEnd (by kernel_rfl) ?_
      refine zkSeq ?_
      refine zrSplit 33 (!z24) (by kernel_rfl) (fun hc => ?_) (fun hc => ?_)
      · replace hS := cond_t hc hS
        refine zrCondT (by kernel_rfl) ?_
        refine zrSeq ?_
        refine zrReg ?_
        refine zlRun (n := 1) (j := 1) rfl (by kernel_rfl) ?_
        refine zlEnd (by kernel_rfl) ?_
        refine zkSeq ?_
        refine zrRet ?_
        refine zkSeqR ?_
        refine zkNil ?_
        exact endQ hS hQ (fRet ((congrArg (fun s => outR s 0 c7.res) (by kernel_rfl : finSt c7.fin _ = f7_fin false)).trans (f7_out false)))
      · replace hS := cond_f hc hS
        refine zrCondF (by kernel_rfl) ?_
        refine zrSkip ?_
        refine zkSeq ?_
        exact f7_j0_ok hd a1 a2 hQ  hS (by kernel_rfl)
  · replace hS := cond_f hc hS
    refine zlEnd (by kernel_rfl) ?_
    refine zkSeq ?_
    refine zrCondF (by kernel_rfl) ?_
    refine zrSkip ?_
    refine zkSeq ?_
    exact f7_j0_ok hd a1 a2 hQ  hS (by kernel_rfl)
end Go.Proofs.YtncgibcnibbdeaaDoor.Pm
