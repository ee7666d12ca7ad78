/- Typed functions, and that the codes are these. Printed by dec.py. -/
import Derived.Test.YtioikkmmjljedaaGreatDoorDCwD
namespace Go.Proofs.YtioikkmmjljedaaGreatDoor.Pm
set_option maxRecDepth 1000000
set_option maxHeartbeats 20000000
set_option linter.unusedVariables false
/- farwriter/clip.Text -/
def f7_fin (p202 : List Int) (p203 : Int) : St := ⟨(up (up (fun _ => .un) 9 (.d (.int .i64 p203))) 8 (.r (.msl 1025 0 0 p202.length))), (up (hB fun _ => 0) 1025 ⟨0, some (.own 3 1 ((eInt .i64).cells p202))⟩)⟩
theorem f7_out (p202 : List Int) (p203 : Int) : outR (f7_fin p202 p203) 0 c7.res = some ((.tup [(.r (.own 0 3 1 p202.length ((eInt .i64).cells p202))), (.d (.int .i64 p203))]), []) := by
  exact out_of (ids := []) (ids' := [1025]) (l := [(.r (.msl 1025 0 0 p202.length)), (.d (.int .i64 p203))]) (by kernel_rfl) (by kernel_rfl) (o_tup (o_cons (o_own (eInt .i64) (e := 3) (k := 1) (xs := p202) (by kernel_rfl) rfl rfl rfl rfl) (o_cons rfl o_nil)))
def f7_Q (r : (List Int) × Int) (e : PX) (st : St) : Prop := DoneF c7 0 ((.tup [(.r (.own 0 3 1 r.1.length ((eInt .i64).cells r.1))), (.d (.int .i64 r.2))]), []) e st
def f7_l3_J (a1 : GScreen) (a2 : GPlace) (a3 : GPlace) (a4 : Bool) (x : GPlace × GPlace × (List (List GCell)) × (List Int) × Int) : St := ⟨(up (up (up (up (up (up (fun _ => .un) 15 (.d (.int .i64 x.2.2.2.2))) 14 (.r (.msl 120 0 0 x.2.2.2.1.length))) 10 (.d (.sl x.2.2.1.length ((eSl e_GCell).cells x.2.2.1)))) 6 (.r (.ptr 56 0 0))) 5 (.r (.ptr 48 0 0))) 3 (.d (.bool a4))), (up (up (up (hB fun _ => 0) 120 ⟨0, some (.own 3 1 ((eInt .i64).cells x.2.2.2.1))⟩) 56 ⟨0, some (.box ((.d (.int .i64 x.2.1.Row)) :: ((.d (.int .i64 x.2.1.Col)) :: [])))⟩) 48 ⟨0, some (.box ((.d (.int .i64 x.1.Row)) :: ((.d (.int .i64 x.1.Col)) :: [])))⟩)⟩
def f7_l3_H (a1 : GScreen) (a2 : GPlace) (a3 : GPlace) (a4 : Bool) (x : GPlace × GPlace × (List (List GCell)) × (List Int) × Int) (st : St) : Prop := keepSt [3, 5, 6, 10, 14, 15] [(48, .id 48), (56, .id 56), (120, .id 120)] [] st = f7_l3_J a1 a2 a3 a4 x
def f7_l3_e2_J (a1 : GScreen) (a2 : GPlace) (a3 : GPlace) (a4 : Bool) (p409 : List Int) : St := ⟨(up (fun _ => .un) 14 (.r (.msl 120 0 0 p409.length))), (up (hB fun _ => 0) 120 ⟨0, some (.own 3 1 ((eInt .i64).cells p409))⟩)⟩
def f7_l3_X (a1 : GScreen) (a2 : GPlace) (a3 : GPlace) (a4 : Bool) (z : ((List Int))) (e : PX) (st : St) : Prop := e = .exit 2 ∧ st = f7_l3_e2_J a1 a2 a3 a4 z
def f7_l3_j6_J (a1 : GScreen) (a2 : GPlace) (a3 : GPlace) (a4 : Bool) (p476 : GPlace) (p477 : GPlace) (p478 : List (List GCell)) (p479 : List Int) (p480 : Int) (p481 : Int) (p482 : Int) : St := ⟨(up (up (up (up (up (up (up (up (fun _ => .un) 17 (.d (.int .i64 p482))) 16 (.d (.int .i64 p481))) 15 (.d (.int .i64 p480))) 14 (.r (.msl 120 0 0 p479.length))) 10 (.d (.sl p478.length ((eSl e_GCell).cells p478)))) 6 (.r (.ptr 56 0 0))) 5 (.r (.ptr 48 0 0))) 3 (.d (.bool a4))), (up (up (up (hB fun _ => 0) 120 ⟨0, some (.own 3 1 ((eInt .i64).cells p479))⟩) 56 ⟨0, some (.box ((.d (.int .i64 p477.Row)) :: ((.d (.int .i64 p477.Col)) :: [])))⟩) 48 ⟨0, some (.box ((.d (.int .i64 p476.Row)) :: ((.d (.int .i64 p476.Col)) :: [])))⟩)⟩
noncomputable def f7_l3_j6 (a1 : GScreen) (a2 : GPlace) (a3 : GPlace) (a4 : Bool) (p476 : GPlace) (p477 : GPlace) (p478 : List (List GCell)) (p479 : List Int) (p480 : Int) (p481 : Int) (p482 : Int) : Option ((GPlace × GPlace × (List (List GCell)) × (List Int) × Int) ⊕ (((List Int)))) := ((idx p478 p480).bind fun z28 => ((f13 z28 p481 p482).bind fun z29 => ((app? 8 p479 z29).bind fun z30 => (some (.inl (p476, p477, p478, z30, (IntKind.i64.wrap (p480 + 1))))))))
theorem f7_l3_j6_ok {d : Nat} (hd : 8 ≤ d) (a1 : GScreen) (a2 : GPlace) (a3 : GPlace) (a4 : Bool) {r : (GPlace × GPlace × (List (List GCell)) × (List Int) × Int) ⊕ (((List Int)))} {Q : PX → St → Prop} (hQ : ∀ e st', finL (f7_l3_H a1 a2 a3 a4) (f7_l3_X a1 a2 a3 a4) r e st' → Q e st') (p476 : GPlace) (p477 : GPlace) (p478 : List (List GCell)) (p479 : List Int) (p480 : Int) (p481 : Int) (p482 : Int) (hS : f7_l3_j6 a1 a2 a3 a4 p476 p477 p478 p479 p480 p481 p482 = some r) {st : St} (he : keepSt [3, 5, 6, 10, 14, 15, 16, 17] [(48, .id 48), (56, .id 56), (120, .id 120)] [] st = f7_l3_j6_J a1 a2 a3 a4 p476 p477 p478 p479 p480 p481 p482) : ZR (lev codes baseL (d - 1)) Q c7_1 [.blk 3, .seq c7_2] st := by
  refine zrKeep he ?_
  unfold f7_l3_j6 at hS
  refine zrReg ?_
  refine zlRun (n := 3) (j := 3) rfl (by kernel_rfl) ?_
  refine bindE hS (fun z28 hz28 hS => ?_)
  refine zlOp (d := some 117) (op := (.ixS 22 1 (.tmp 115) (.tmp 116))) (g := none) (v := (.rptr ((eSl e_GCell).enc z28 ++ ((eSl e_GCell).cells (p478.drop ((p480 : Int).toNat + 1)))))) (ups := []) (j := 4) rfl (by kernel_rfl) (by kernel_rfl) (ev_ixS (eSl e_GCell) (kk := .i64) (xs := p478) (j := p480) (by kernel_rfl) (by kernel_rfl) hz28 rfl (by intro h; cases h)) ?_
  refine zlRun (n := 3) (j := 7) rfl (by kernel_rfl) ?_
  refine bindE hS (fun z29 hz29 hS => ?_)
  refine zlOp (d := some 121) (op := (.call 13 [(.tmp 118), (.tmp 119), (.tmp 120)])) (g := none) (j := 8) rfl (by kernel_rfl) (by kernel_rfl) (ev_callA (by kernel_rfl) (f13_ok (d - 1) (dpt hd rfl) z28 p481 p482 z29 hz29) (by kernel_rfl) (by kernel_rfl)) ?_
  refine bindE hS (fun z30 hz30 hS => ?_)
  refine zlOp (d := some 122) (op := (.app 3 1 8 (.tmp 114) (.tmp 121))) (g := none) (v := (.r (.msl 120 1 0 z30.length))) (ups := [(120, ⟨1, some (.own 3 1 ((eInt .i64).cells z30))⟩)]) (j := 9) rfl (by kernel_rfl) (by kernel_rfl) (ev_app (eInt .i64) (b := 120) (g := 0) (n := p479.length) (xs := p479) (ys := z29) ((congrArg (asL _) (by kernel_rfl : ρof _ (.tmp 121) = (.r (.msl 976 1 0 z29.length)))).trans (as_whole (eInt .i64) (e := 3) (k := 1) (xs := z29) (by kernel_rfl) rfl rfl)) rfl (by kernel_rfl) rfl (by kernel_rfl) rfl hz30) ?_
  refine zlRun (n := 1) (j := 10) rfl (by kernel_rfl) ?_
  refine zlEnd (by kernel_rfl) ?_
  refine zkBlk ?_
  refine zkSeq ?_
  refine zrReg ?_
  refine zlRun (n := 3) (j := 3) rfl (by kernel_rfl) ?_
  refine zlEnd (by kernel_rfl) ?_
  refine zkNil ?_
  exact endQ hS hQ (finL_n (by show keepSt _ _ _ _ = _; kernel_rfl))
def f7_l3_j5_J (a1 : GScreen) (a2 : GPlace) (a3 : GPlace) (a4 : Bool) (p454 : GPlace) (p455 : GPlace) (p456 : List (List GCell)) (p457 : List Int) (p458 : Int) (p459 : Int) (p460 : Int) : St := ⟨(up (up (up (up (up (up (up (up (fun _ => .un) 17 (.d (.int .i64 p460))) 16 (.d (.int .i64 p459))) 15 (.d (.int .i64 p458))) 14 (.r (.msl 120 0 0 p457.length))) 10 (.d (.sl p456.length ((eSl e_GCell).cells p456)))) 6 (.r (.ptr 56 0 0))) 5 (.r (.ptr 48 0 0))) 3 (.d (.bool a4))), (up (up (up (hB fun _ => 0) 120 ⟨0, some (.own 3 1 ((eInt .i64).cells p457))⟩) 56 ⟨0, some (.box ((.d (.int .i64 p455.Row)) :: ((.d (.int .i64 p455.Col)) :: [])))⟩) 48 ⟨0, some (.box ((.d (.int .i64 p454.Row)) :: ((.d (.int .i64 p454.Col)) :: [])))⟩)⟩
noncomputable def f7_l3_j5 (a1 : GScreen) (a2 : GPlace) (a3 : GPlace) (a4 : Bool) (p454 : GPlace) (p455 : GPlace) (p456 : List (List GCell)) (p457 : List Int) (p458 : Int) (p459 : Int) (p460 : Int) : Option ((GPlace × GPlace × (List (List GCell)) × (List Int) × Int) ⊕ (((List Int)))) := (bif (decide (p454.Row < p458)) then ((app? 8 p457 ([10] : List Int)).bind fun z31 => (f7_l3_j6 a1 a2 a3 a4 p454 p455 p456 z31 p458 p459 p460)) else (f7_l3_j6 a1 a2 a3 a4 p454 p455 p456 p457 p458 p459 p460))
theorem f7_l3_j5_ok {d : Nat} (hd : 8 ≤ d) (a1 : GScreen) (a2 : GPlace) (a3 : GPlace) (a4 : Bool) {r : (GPlace × GPlace × (List (List GCell)) × (List Int) × Int) ⊕ (((List Int)))} {Q : PX → St → Prop} (hQ : ∀ e st', finL (f7_l3_H a1 a2 a3 a4) (f7_l3_X a1 a2 a3 a4) r e st' → Q e st') (p454 : GPlace) (p455 : GPlace) (p456 : List (List GCell)) (p457 : List Int) (p458 : Int) (p459 : Int) (p460 : Int) (hS : f7_l3_j5 a1 a2 a3 a4 p454 p455 p456 p457 p458 p459 p460 = some r) {st : St} (he : keepSt [3, 5, 6, 10, 14, 15, 16, 17] [(48, .id 48), (56, .id 56), (120, .id 120)] [] st = f7_l3_j5_J a1 a2 a3 a4 p454 p455 p456 p457 p458 p459 p460) : ZR (lev codes baseL (d - 1)) Q c7_3 [.blk 3, .seq c7_2] st := by
  refine zrKeep he ?_
  unfold f7_l3_j5 at hS
  refine zrSeq ?_
  refine zrSeq ?_
  refine zrReg ?_
  refine zlRun (n := 3) (j := 3) rfl (by kernel_rfl) ?_
  refine zlBool (d := 110) (op := (.cmpI .gtr (.tmp 107) (.tmp 109))) (g := none) (j := 4) (decide (p454.Row < p458)) rfl (by kernel_rfl) (by kernel_rfl) (by kernel_rfl) (fun hc => ?_) (fun hc => ?_)
  · replace hS := cond_t hc hS
    refine zlEnd (by kernel_rfl) ?_
    refine zkSeq ?_
    refine zrCondT (by kernel_rfl) ?_
    refine zrReg ?_
    refine zlRun (n := 2) (j := 2) rfl (by kernel_rfl) ?_
    refine bindE hS (fun z31 hz31 hS => ?_)
    refine zlOp (d := some 113) (op := (.app 3 1 8 (.tmp 111) (.tmp 112))) (g := none) (v := (.r (.msl 120 1 0 z31.length))) (ups := [(120, ⟨1, some (.own 3 1 ((eInt .i64).cells z31))⟩)]) (j := 3) rfl (by kernel_rfl) (by kernel_rfl) (ev_app (eInt .i64) (b := 120) (g := 0) (n := p457.length) (xs := p457) (ys := [10]) ((congrArg (asL _) (by kernel_rfl : ρof _ (.tmp 112) = (.r (.msl 904 1 0 (([10] : List Int).length))))).trans (as_whole (eInt .i64) (e := 3) (k := 1) (xs := [10]) (by kernel_rfl) rfl rfl)) rfl (by kernel_rfl) rfl (by kernel_rfl) rfl hz31) ?_
    refine zlRun (n := 1) (j := 4) rfl (by kernel_rfl) ?_
    refine zlEnd (by kernel_rfl) ?_
    refine zkSeq ?_
    exact f7_l3_j6_ok hd a1 a2 a3 a4 hQ p454 p455 p456 z31 p458 p459 p460 hS (by kernel_rfl)
  · replace hS := cond_f hc hS
    refine zlEnd (by kernel_rfl) ?_
    refine zkSeq ?_
    refine zrCondF (by kernel_rfl) ?_
    refine zrSkip ?_
    refine zkSeq ?_
    exact f7_l3_j6_ok hd a1 a2 a3 a4 hQ p454 p455 p456 p457 p458 p459 p460 hS (by kernel_rfl)
def f7_l3_j7_J (a1 : GScreen) (a2 : GPlace) (a3 : GPlace) (a4 : Bool) (p495 : GPlace) (p496 : GPlace) (p497 : List (List GCell)) (p498 : List Int) (p499 : Int) (p500 : Int) : St := ⟨(up (up (up (up (up (up (up (up (fun _ => .un) 17 (.d (.int .i64 160))) 16 (.d (.int .i64 p500))) 15 (.d (.int .i64 p499))) 14 (.r (.msl 120 0 0 p498.length))) 10 (.d (.sl p497.length ((eSl e_GCell).cells p497)))) 6 (.r (.ptr 56 0 0))) 5 (.r (.ptr 48 0 0))) 3 (.d (.bool a4))), (up (up (up (hB fun _ => 0) 120 ⟨0, some (.own 3 1 ((eInt .i64).cells p498))⟩) 56 ⟨0, some (.box ((.d (.int .i64 p496.Row)) :: ((.d (.int .i64 p496.Col)) :: [])))⟩) 48 ⟨0, some (.box ((.d (.int .i64 p495.Row)) :: ((.d (.int .i64 p495.Col)) :: [])))⟩)⟩
noncomputable def f7_l3_j7 (a1 : GScreen) (a2 : GPlace) (a3 : GPlace) (a4 : Bool) (p495 : GPlace) (p496 : GPlace) (p497 : List (List GCell)) (p498 : List Int) (p499 : Int) (p500 : Int) : Option ((GPlace × GPlace × (List (List GCell)) × (List Int) × Int) ⊕ (((List Int)))) := (bif (decide (p499 = p496.Row)) then (f7_l3_j5 a1 a2 a3 a4 p495 p496 p497 p498 p499 p500 (IntKind.i64.wrap (p496.Col + 1))) else (f7_l3_j5 a1 a2 a3 a4 p495 p496 p497 p498 p499 p500 160))
theorem f7_l3_j7_ok {d : Nat} (hd : 8 ≤ d) (a1 : GScreen) (a2 : GPlace) (a3 : GPlace) (a4 : Bool) {r : (GPlace × GPlace × (List (List GCell)) × (List Int) × Int) ⊕ (((List Int)))} {Q : PX → St → Prop} (hQ : ∀ e st', finL (f7_l3_H a1 a2 a3 a4) (f7_l3_X a1 a2 a3 a4) r e st' → Q e st') (p495 : GPlace) (p496 : GPlace) (p497 : List (List GCell)) (p498 : List Int) (p499 : Int) (p500 : Int) (hS : f7_l3_j7 a1 a2 a3 a4 p495 p496 p497 p498 p499 p500 = some r) {st : St} (he : keepSt [3, 5, 6, 10, 14, 15, 16, 17] [(48, .id 48), (56, .id 56), (120, .id 120)] [] st = f7_l3_j7_J a1 a2 a3 a4 p495 p496 p497 p498 p499 p500) : ZR (lev codes baseL (d - 1)) Q c7_4 [.seq c7_3, .blk 3, .seq c7_2] st := by
  refine zrKeep he ?_
  unfold f7_l3_j7 at hS
  refine zrSeq ?_
  refine zrReg ?_
  refine zlRun (n := 3) (j := 3) rfl (by kernel_rfl) ?_
  refine zlBool (d := 103) (op := (.cmpI .eql (.tmp 100) (.tmp 102))) (g := none) (j := 4) (decide (p499 = p496.Row)) rfl (by kernel_rfl) (by kernel_rfl) (by kernel_rfl) (fun hc => ?_) (fun hc => ?_)
  · replace hS := cond_t hc hS
    refine zlEnd (by kernel_rfl) ?_
    refine zkSeq ?_
    refine zrCondT (by kernel_rfl) ?_
    refine zrReg ?_
    refine zlRun (n := 4) (j := 4) rfl (by kernel_rfl) ?_
    refine zlEnd (by kernel_rfl) ?_
    refine zkSeq ?_
    exact f7_l3_j5_ok hd a1 a2 a3 a4 hQ p495 p496 p497 p498 p499 p500 (IntKind.i64.wrap (p496.Col + 1)) hS (by kernel_rfl)
  · replace hS := cond_f hc hS
    refine zlEnd (by kernel_rfl) ?_
    refine zkSeq ?_
    refine zrCondF (by kernel_rfl) ?_
    refine zrSkip ?_
    refine zkSeq ?_
    exact f7_l3_j5_ok hd a1 a2 a3 a4 hQ p495 p496 p497 p498 p499 p500 160 hS (by kernel_rfl)
def f7_l3_j4_J (a1 : GScreen) (a2 : GPlace) (a3 : GPlace) (a4 : Bool) (p416 : GPlace) (p417 : GPlace) (p418 : List (List GCell)) (p419 : List Int) (p420 : Int) : St := ⟨(up (up (up (up (up (up (fun _ => .un) 15 (.d (.int .i64 p420))) 14 (.r (.msl 120 0 0 p419.length))) 10 (.d (.sl p418.length ((eSl e_GCell).cells p418)))) 6 (.r (.ptr 56 0 0))) 5 (.r (.ptr 48 0 0))) 3 (.d (.bool a4))), (up (up (up (hB fun _ => 0) 120 ⟨0, some (.own 3 1 ((eInt .i64).cells p419))⟩) 56 ⟨0, some (.box ((.d (.int .i64 p417.Row)) :: ((.d (.int .i64 p417.Col)) :: [])))⟩) 48 ⟨0, some (.box ((.d (.int .i64 p416.Row)) :: ((.d (.int .i64 p416.Col)) :: [])))⟩)⟩
noncomputable def f7_l3_j4 (a1 : GScreen) (a2 : GPlace) (a3 : GPlace) (a4 : Bool) (p416 : GPlace) (p417 : GPlace) (p418 : List (List GCell)) (p419 : List Int) (p420 : Int) : Option ((GPlace × GPlace × (List (List GCell)) × (List Int) × Int) ⊕ (((List Int)))) := (bif a4 then (f7_l3_j5 a1 a2 a3 a4 p416 p417 p418 p419 p420 (if p417.Col < p416.Col then p417.Col else p416.Col) (IntKind.i64.wrap ((if p417.Col > p416.Col then p417.Col else p416.Col) + 1))) else (bif (decide (p420 = p416.Row)) then (f7_l3_j7 a1 a2 a3 a4 p416 p417 p418 p419 p420 p416.Col) else (f7_l3_j7 a1 a2 a3 a4 p416 p417 p418 p419 p420 0)))
theorem f7_l3_j4_ok {d : Nat} (hd : 8 ≤ d) (a1 : GScreen) (a2 : GPlace) (a3 : GPlace) (a4 : Bool) {r : (GPlace × GPlace × (List (List GCell)) × (List Int) × Int) ⊕ (((List Int)))} {Q : PX → St → Prop} (hQ : ∀ e st', finL (f7_l3_H a1 a2 a3 a4) (f7_l3_X a1 a2 a3 a4) r e st' → Q e st') (p416 : GPlace) (p417 : GPlace) (p418 : List (List GCell)) (p419 : List Int) (p420 : Int) (hS : f7_l3_j4 a1 a2 a3 a4 p416 p417 p418 p419 p420 = some r) {st : St} (he : keepSt [3, 5, 6, 10, 14, 15] [(48, .id 48), (56, .id 56), (120, .id 120)] [] st = f7_l3_j4_J a1 a2 a3 a4 p416 p417 p418 p419 p420) : ZR (lev codes baseL (d - 1)) Q c7_5 [] st := by
  refine zrKeep he ?_
  unfold f7_l3_j4 at hS
  refine zrSeq ?_
  refine zrBlk ?_
  refine zrSeq ?_
  refine zrReg ?_
  refine zlRun (n := 2) (j := 2) rfl (by kernel_rfl) ?_
  refine zlEnd (by kernel_rfl) ?_
  refine zkSeq ?_
  refine zrSeq ?_
  refine zrSeq ?_
  refine zrReg ?_
  refine zlRun (n := 1) (j := 1) rfl (by kernel_rfl) ?_
  refine zlEnd (by kernel_rfl) ?_
  refine zkSeq ?_
  refine zrSplit 82 a4 (by kernel_rfl) (fun hc => ?_) (fun hc => ?_)
  · replace hS := cond_t hc hS
    refine zrCondT (by kernel_rfl) ?_
    refine zrRegD ?_
    refine zdRun (n := 13) (j := 13) (ts := [[], [(48, false)], [], [(56, false)], [], [], [(48, false)], [], [(56, false)], [], [], [], []]) (acc' := [[], [(48, false)], [], [(56, false)], [], [], [(48, false)], [], [(56, false)], [], [], [], []]) rfl (by kernel_rfl) (by kernel_rfl) (by kernel_rfl) ?_
    refine zdEnd (by kernel_rfl) (by kernel_rfl) ?_
    refine zkSeq ?_
    exact f7_l3_j5_ok hd a1 a2 a3 a4 hQ p416 p417 p418 p419 p420 (if p417.Col < p416.Col then p417.Col else p416.Col) (IntKind.i64.wrap ((if p417.Col > p416.Col then p417.Col else p416.Col) + 1)) hS (by kernel_rfl)
  · replace hS := cond_f hc hS
    refine zrCondF (by kernel_rfl) ?_
    refine zrSeq ?_
    refine zrSeq ?_
    refine zrReg ?_
    refine zlRun (n := 3) (j := 3) rfl (by kernel_rfl) ?_
    refine zlBool (d := 97) (op := (.cmpI .eql (.tmp 94) (.tmp 96))) (g := none) (j := 4) (decide (p420 = p416.Row)) rfl (by kernel_rfl) (by kernel_rfl) (by kernel_rfl) (fun hc => ?_) (fun hc => ?_)
    · replace hS := cond_t hc hS
      refine zlEnd (by kernel_rfl) ?_
      refine zkSeq ?_
      refine zrCondT (by kernel_rfl) ?_
      refine zrReg ?_
      refine zlRun (n := 3) (j := 3) rfl (by kernel_rfl) ?_
      refine zlEnd (by kernel_rfl) ?_
      refine zkSeq ?_
      exact f7_l3_j7_ok hd a1 a2 a3 a4 hQ p416 p417 p418 p419 p420 p416.Col hS (by kernel_rfl)
    · replace hS := cond_f hc hS
      refine zlEnd (by kernel_rfl) ?_
      refine zkSeq ?_
      refine zrCondF (by kernel_rfl) ?_
      refine zrSkip ?_
      refine zkSeq ?_
      exact f7_l3_j7_ok hd a1 a2 a3 a4 hQ p416 p417 p418 p419 p420 0 hS (by kernel_rfl)
noncomputable def f7_l3 (a1 : GScreen) (a2 : GPlace) (a3 : GPlace) (a4 : Bool) (x : GPlace × GPlace × (List (List GCell)) × (List Int) × Int) : Option ((GPlace × GPlace × (List (List GCell)) × (List Int) × Int) ⊕ (((List Int)))) := (bif (decide (x.2.2.2.2 ≤ x.2.1.Row)) then (f7_l3_j4 a1 a2 a3 a4 x.1 x.2.1 x.2.2.1 x.2.2.2.1 x.2.2.2.2) else (some (.inr x.2.2.2.1)))
theorem f7_l3_ok {d : Nat} (hd : 8 ≤ d) (a1 : GScreen) (a2 : GPlace) (a3 : GPlace) (a4 : Bool) {r : (GPlace × GPlace × (List (List GCell)) × (List Int) × Int) ⊕ (((List Int)))} {Q : PX → St → Prop} (hQ : ∀ e st', finL (f7_l3_H a1 a2 a3 a4) (f7_l3_X a1 a2 a3 a4) r e st' → Q e st') {x : GPlace × GPlace × (List (List GCell)) × (List Int) × Int} (hS : f7_l3 a1 a2 a3 a4 x = some r) {st : St} (he : f7_l3_H a1 a2 a3 a4 x st) : ZR (lev codes baseL (d - 1)) Q c7_6 [] st := by
  refine zrKeep he ?_
  unfold f7_l3 at hS
  refine zrSeq ?_
  refine zrSeq ?_
  refine zrReg ?_
  refine zlRun (n := 3) (j := 3) rfl (by kernel_rfl) ?_
  refine zlBool (d := 79) (op := (.cmpI .leq (.tmp 76) (.tmp 78))) (g := none) (j := 4) (decide (x.2.2.2.2 ≤ x.2.1.Row)) rfl (by kernel_rfl) (by kernel_rfl) (by kernel_rfl) (fun hc => ?_) (fun hc => ?_)
  · replace hS := cond_t hc hS
    refine zlEnd (by kernel_rfl) ?_
    refine zkSeq ?_
    refine zrCondT (by kernel_rfl) ?_
    refine zrSkip ?_
    refine zkSeq ?_
    exact f7_l3_j4_ok hd a1 a2 a3 a4 hQ x.1 x.2.1 x.2.2.1 x.2.2.2.1 x.2.2.2.2 hS (by kernel_rfl)
  · replace hS := cond_f hc hS
    refine zlEnd (by kernel_rfl) ?_
    refine zkSeq ?_
    refine zrCondF (by kernel_rfl) ?_
    refine zrKeep (J := f7_l3_e2_J a1 a2 a3 a4 x.2.2.2.1) (by kernel_rfl) ?_
    refine zrExit ?_
    refine zkSeqX ?_
    refine zkNil ?_
    exact endQ hS hQ (finL_x (by intro h; cases h) (by show _ = _ ∧ _ = _; exact ⟨rfl, rfl⟩))
def f7_j2_J (a1 : GScreen) (a2 : GPlace) (a3 : GPlace) (a4 : Bool) (p237 : GPlace) (p238 : GPlace) (p239 : List (List GCell)) : St := ⟨(up (up (up (up (fun _ => .un) 10 (.d (.sl p239.length ((eSl e_GCell).cells p239)))) 6 (.r (.ptr 56 0 0))) 5 (.r (.ptr 48 0 0))) 3 (.d (.bool a4))), (up (up (hB fun _ => 0) 56 ⟨0, some (.box ((.d (.int .i64 p238.Row)) :: ((.d (.int .i64 p238.Col)) :: [])))⟩) 48 ⟨0, some (.box ((.d (.int .i64 p237.Row)) :: ((.d (.int .i64 p237.Col)) :: [])))⟩)⟩
noncomputable def f7_j2 (a1 : GScreen) (a2 : GPlace) (a3 : GPlace) (a4 : Bool) (p237 : GPlace) (p238 : GPlace) (p239 : List (List GCell)) : Option ((List Int) × Int) := ((loopO (f7_l3 a1 a2 a3 a4) (p237, p238, p239, [], p237.Row)).bind fun z32 => (some (z32, 0)))
theorem f7_j2_ok {d : Nat} (hd : 8 ≤ d) (a1 : GScreen) (a2 : GPlace) (a3 : GPlace) (a4 : Bool) {r : (List Int) × Int} {Q : PX → St → Prop} (hQ : ∀ e st', f7_Q r e st' → Q e st') (p237 : GPlace) (p238 : GPlace) (p239 : List (List GCell)) (hS : f7_j2 a1 a2 a3 a4 p237 p238 p239 = some r) {st : St} (he : keepSt [3, 5, 6, 10] [(48, .id 48), (56, .id 56)] [] st = f7_j2_J a1 a2 a3 a4 p237 p238 p239) : ZR (lev codes baseL (d - 1)) Q c7_7 [] st := by
  refine zrKeep he ?_
  unfold f7_j2 at hS
  refine zrSeq ?_
  refine zrReg ?_
  refine zlRun (n := 1) (j := 1) rfl (by kernel_rfl) ?_
  refine zlEnd (by kernel_rfl) ?_
  refine zkSeq ?_
  refine zrSeq ?_
  refine zrSeq ?_
  refine zrReg ?_
  refine zlRun (n := 3) (j := 3) rfl (by kernel_rfl) ?_
  refine zlEnd (by kernel_rfl) ?_
  refine zkSeq ?_
  refine zrBlk ?_
  refine bindE hS (fun z32 hz32 hS => ?_)
  refine zrLoop (f7_l3_H a1 a2 a3 a4) (f7_l3_X a1 a2 a3 a4) (fun x st r Q h0 hS hQ => f7_l3_ok hd a1 a2 a3 a4 hQ hS h0) (x := (p237, p238, p239, [], p237.Row)) (z := z32) (by show keepSt _ _ _ _ = _; kernel_rfl) hz32 ?_
  intro e st' _ hX
  obtain ⟨rfl, rfl⟩ : _ ∧ _ := hX
  refine zkBlkX ?_
  refine zkSeq ?_
  refine zrSeq ?_
  refine zrReg ?_
  refine zlRun (n := 3) (j := 3) rfl (by kernel_rfl) ?_
  refine zlEnd (by kernel_rfl) ?_
  refine zkSeq ?_
  refine zrRet ?_
  refine zkNil ?_
  exact endQ hS hQ (fRet (by kernel_rfl) ((congrArg (fun s => outR s 0 c7.res) (by kernel_rfl : finSt c7.fin _ = f7_fin z32 0)).trans (f7_out z32 0)))
def f7_j1_J (a1 : GScreen) (a2 : GPlace) (a3 : GPlace) (a4 : Bool) (p228 : List (List GCell)) : St := ⟨(up (up (up (up (fun _ => .un) 10 (.d (.sl p228.length ((eSl e_GCell).cells p228)))) 6 (.r (.ptr 56 0 0))) 5 (.r (.ptr 48 0 0))) 3 (.d (.bool a4))), (up (up (hB fun _ => 0) 56 ⟨0, some (.box ((.d (.int .i64 a3.Row)) :: ((.d (.int .i64 a3.Col)) :: [])))⟩) 48 ⟨0, some (.box ((.d (.int .i64 a2.Row)) :: ((.d (.int .i64 a2.Col)) :: [])))⟩)⟩
noncomputable def f7_j1 (a1 : GScreen) (a2 : GPlace) (a3 : GPlace) (a4 : Bool) (p228 : List (List GCell)) : Option ((List Int) × Int) := (bif (decide (a3.Row < a2.Row)) then (f7_j2 a1 a2 a3 a4 a3 a2 p228) else (bif (decide (a3.Row = a2.Row)) then (bif (decide (a3.Col < a2.Col)) then (f7_j2 a1 a2 a3 a4 a3 a2 p228) else (f7_j2 a1 a2 a3 a4 a2 a3 p228)) else (f7_j2 a1 a2 a3 a4 a2 a3 p228)))
theorem f7_j1_ok {d : Nat} (hd : 8 ≤ d) (a1 : GScreen) (a2 : GPlace) (a3 : GPlace) (a4 : Bool) {r : (List Int) × Int} {Q : PX → St → Prop} (hQ : ∀ e st', f7_Q r e st' → Q e st') (p228 : List (List GCell)) (hS : f7_j1 a1 a2 a3 a4 p228 = some r) {st : St} (he : keepSt [3, 5, 6, 10] [(48, .id 48), (56, .id 56)] [] st = f7_j1_J a1 a2 a3 a4 p228) : ZR (lev codes baseL (d - 1)) Q c7_8 [] st := by
  refine zrKeep he ?_
  unfold f7_j1 at hS
  refine zrSeq ?_
  refine zrSeq ?_
  refine zrReg ?_
  refine zlRun (n := 4) (j := 4) rfl (by kernel_rfl) ?_
  refine zlBool (d := 57) (op := (.cmpI .lss (.tmp 54) (.tmp 56))) (g := none) (j := 5) (decide (a3.Row < a2.Row)) rfl (by kernel_rfl) (by kernel_rfl) (by kernel_rfl) (fun hc => ?_) (fun hc => ?_)
  · replace hS := cond_t hc hS
    refine zlRun (n := 14) (j := 19) rfl (by kernel_rfl) ?_
    refine zlEnd (by kernel_rfl) ?_
    refine zkSeq ?_
    refine zrCondT (by kernel_rfl) ?_
    refine zrReg ?_
    refine zlRun (n := 4) (j := 4) rfl (by kernel_rfl) ?_
    refine zlEnd (by kernel_rfl) ?_
    refine zkSeq ?_
    exact f7_j2_ok hd a1 a2 a3 a4 hQ a3 a2 p228 hS (by kernel_rfl)
  · replace hS := cond_f hc hS
    refine zlRun (n := 5) (j := 10) rfl (by kernel_rfl) ?_
    refine zlBool (d := 63) (op := (.cmpI .eql (.tmp 60) (.tmp 62))) (g := (some (58, false))) (j := 11) (decide (a3.Row = a2.Row)) rfl (by kernel_rfl) (by kernel_rfl) (by kernel_rfl) (fun hc => ?_) (fun hc => ?_)
    · replace hS := cond_t hc hS
      refine zlRun (n := 5) (j := 16) rfl (by kernel_rfl) ?_
      refine zlBool (d := 69) (op := (.cmpI .lss (.tmp 66) (.tmp 68))) (g := (some (64, true))) (j := 17) (decide (a3.Col < a2.Col)) rfl (by kernel_rfl) (by kernel_rfl) (by kernel_rfl) (fun hc => ?_) (fun hc => ?_)
      · replace hS := cond_t hc hS
        refine zlRun (n := 2) (j := 19) rfl (by kernel_rfl) ?_
        refine zlEnd (by kernel_rfl) ?_
        refine zkSeq ?_
        refine zrCondT (by kernel_rfl) ?_
        refine zrReg ?_
        refine zlRun (n := 4) (j := 4) rfl (by kernel_rfl) ?_
        refine zlEnd (by kernel_rfl) ?_
        refine zkSeq ?_
        exact f7_j2_ok hd a1 a2 a3 a4 hQ a3 a2 p228 hS (by kernel_rfl)
      · replace hS := cond_f hc hS
        refine zlRun (n := 2) (j := 19) rfl (by kernel_rfl) ?_
        refine zlEnd (by kernel_rfl) ?_
        refine zkSeq ?_
        refine zrCondF (by kernel_rfl) ?_
        refine zrSkip ?_
        refine zkSeq ?_
        exact f7_j2_ok hd a1 a2 a3 a4 hQ a2 a3 p228 hS (by kernel_rfl)
    · replace hS := cond_f hc hS
      refine zlRun (n := 8) (j := 19) rfl (by kernel_rfl) ?_
      refine zlEnd (by kernel_rfl) ?_
      refine zkSeq ?_
      refine zrCondF (by kernel_rfl) ?_
      refine zrSkip ?_
      refine zkSeq ?_
      exact f7_j2_ok hd a1 a2 a3 a4 hQ a2 a3 p228 hS (by kernel_rfl)
def f7_j9_J (a1 : GScreen) (a2 : GPlace) (a3 : GPlace) (a4 : Bool) (p510 : List (List GCell)) : St := ⟨(up (up (up (up (up (up (fun _ => .un) 29 (.d (.int .i64 1))) 28 (.agg ((.d (.int .i64 a2.Row)) :: ((.d (.int .i64 a2.Col)) :: ((.d (.int .i64 a3.Row)) :: ((.d (.int .i64 a3.Col)) :: [])))))) 10 (.d (.sl p510.length ((eSl e_GCell).cells p510)))) 6 (.r (.ptr 56 0 0))) 5 (.r (.ptr 48 0 0))) 3 (.d (.bool a4))), (up (up (hB fun _ => 0) 56 ⟨0, some (.box ((.d (.int .i64 a3.Row)) :: ((.d (.int .i64 a3.Col)) :: [])))⟩) 48 ⟨0, some (.box ((.d (.int .i64 a2.Row)) :: ((.d (.int .i64 a2.Col)) :: [])))⟩)⟩
noncomputable def f7_j9 (a1 : GScreen) (a2 : GPlace) (a3 : GPlace) (a4 : Bool) (p510 : List (List GCell)) : Option ((List Int) × Int) := (bif (decide (a3.Row < 0)) then (some ([], 1)) else (bif (decide ((p510.length : Int) ≤ a3.Row)) then (some ([], 1)) else (bif (decide (a3.Col < 0)) then (some ([], 1)) else (bif (decide (160 ≤ a3.Col)) then (some ([], 1)) else (f7_j1 a1 a2 a3 a4 p510)))))
theorem f7_j9_ok {d : Nat} (hd : 8 ≤ d) (a1 : GScreen) (a2 : GPlace) (a3 : GPlace) (a4 : Bool) {r : (List Int) × Int} {Q : PX → St → Prop} (hQ : ∀ e st', f7_Q r e st' → Q e st') (p510 : List (List GCell)) (hS : f7_j9 a1 a2 a3 a4 p510 = some r) {st : St} (he : keepSt [3, 5, 6, 10, 28, 29] [(48, .id 48), (56, .id 56)] [] st = f7_j9_J a1 a2 a3 a4 p510) : ZR (lev codes baseL (d - 1)) Q c7_9 [.seq c7_10, .blk 0, .seq c7_8] st := by
  refine zrKeep he ?_
  unfold f7_j9 at hS
  refine zrSeq ?_
  refine zrBlk ?_
  refine zrSeq ?_
  refine zrReg ?_
  refine zlRun (n := 3) (j := 3) rfl (by kernel_rfl) ?_
  refine zlEnd (by kernel_rfl) ?_
  refine zkSeq ?_
  refine zrSeq ?_
  refine zrReg ?_
  refine zlRun (n := 2) (j := 2) rfl (by kernel_rfl) ?_
  refine zlBool (d := 34) (op := (.cmpI .lss (.tmp 33) (.const (.int .i64 0)))) (g := none) (j := 3) (decide (a3.Row < 0)) rfl (by kernel_rfl) (by kernel_rfl) (by kernel_rfl) (fun hc => ?_) (fun hc => ?_)
  · replace hS := cond_t hc hS
    refine zlRun (n := 17) (j := 20) rfl (by kernel_rfl) ?_
    refine zlEnd (by kernel_rfl) ?_
    refine zkSeq ?_
    refine zrCondT (by kernel_rfl) ?_
    refine zrSeq ?_
    refine zrReg ?_
    refine zlRun (n := 2) (j := 2) rfl (by kernel_rfl) ?_
    refine zlEnd (by kernel_rfl) ?_
    refine zkSeq ?_
    refine zrRet ?_
    refine zkBlkR ?_
    refine zkSeqR ?_
    refine zkSeqR ?_
    refine zkBlkR ?_
    refine zkSeqR ?_
    refine zkNil ?_
    exact endQ hS hQ (fRet (by kernel_rfl) ((congrArg (fun s => outR s 0 c7.res) (by kernel_rfl : finSt c7.fin _ = f7_fin [] 1)).trans (f7_out [] 1)))
  · replace hS := cond_f hc hS
    refine zlRun (n := 5) (j := 8) rfl (by kernel_rfl) ?_
    refine zlBool (d := 40) (op := (.cmpI .geq (.tmp 37) (.tmp 39))) (g := (some (35, false))) (j := 9) (decide ((p510.length : Int) ≤ a3.Row)) rfl (by kernel_rfl) (by kernel_rfl) (by kernel_rfl) (fun hc => ?_) (fun hc => ?_)
    · replace hS := cond_t hc hS
      refine zlRun (n := 11) (j := 20) rfl (by kernel_rfl) ?_
      refine zlEnd (by kernel_rfl) ?_
      refine zkSeq ?_
      refine zrCondT (by kernel_rfl) ?_
      refine zrSeq ?_
      refine zrReg ?_
      refine zlRun (n := 2) (j := 2) rfl (by kernel_rfl) ?_
      refine zlEnd (by kernel_rfl) ?_
      refine zkSeq ?_
      refine zrRet ?_
      refine zkBlkR ?_
      refine zkSeqR ?_
      refine zkSeqR ?_
      refine zkBlkR ?_
      refine zkSeqR ?_
      refine zkNil ?_
      exact endQ hS hQ (fRet (by kernel_rfl) ((congrArg (fun s => outR s 0 c7.res) (by kernel_rfl : finSt c7.fin _ = f7_fin [] 1)).trans (f7_out [] 1)))
    · replace hS := cond_f hc hS
      refine zlRun (n := 4) (j := 13) rfl (by kernel_rfl) ?_
      refine zlBool (d := 45) (op := (.cmpI .lss (.tmp 44) (.const (.int .i64 0)))) (g := (some (42, false))) (j := 14) (decide (a3.Col < 0)) rfl (by kernel_rfl) (by kernel_rfl) (by kernel_rfl) (fun hc => ?_) (fun hc => ?_)
      · replace hS := cond_t hc hS
        refine zlRun (n := 6) (j := 20) rfl (by kernel_rfl) ?_
        refine zlEnd (by kernel_rfl) ?_
        refine zkSeq ?_
        refine zrCondT (by kernel_rfl) ?_
        refine zrSeq ?_
        refine zrReg ?_
        refine zlRun (n := 2) (j := 2) rfl (by kernel_rfl) ?_
        refine zlEnd (by kernel_rfl) ?_
        refine zkSeq ?_
        refine zrRet ?_
        refine zkBlkR ?_
        refine zkSeqR ?_
        refine zkSeqR ?_
        refine zkBlkR ?_
        refine zkSeqR ?_
        refine zkNil ?_
        exact endQ hS hQ (fRet (by kernel_rfl) ((congrArg (fun s => outR s 0 c7.res) (by kernel_rfl : finSt c7.fin _ = f7_fin [] 1)).trans (f7_out [] 1)))
      · replace hS := cond_f hc hS
        refine zlRun (n := 4) (j := 18) rfl (by kernel_rfl) ?_
        refine zlBool (d := 50) (op := (.cmpI .geq (.tmp 49) (.const (.int .i64 160)))) (g := (some (47, false))) (j := 19) (decide (160 ≤ a3.Col)) rfl (by kernel_rfl) (by kernel_rfl) (by kernel_rfl) (fun hc => ?_) (fun hc => ?_)
        · replace hS := cond_t hc hS
          refine zlRun (n := 1) (j := 20) rfl (by kernel_rfl) ?_
          refine zlEnd (by kernel_rfl) ?_
          refine zkSeq ?_
          refine zrCondT (by kernel_rfl) ?_
          refine zrSeq ?_
          refine zrReg ?_
          refine zlRun (n := 2) (j := 2) rfl (by kernel_rfl) ?_
          refine zlEnd (by kernel_rfl) ?_
          refine zkSeq ?_
          refine zrRet ?_
          refine zkBlkR ?_
          refine zkSeqR ?_
          refine zkSeqR ?_
          refine zkBlkR ?_
          refine zkSeqR ?_
          refine zkNil ?_
          exact endQ hS hQ (fRet (by kernel_rfl) ((congrArg (fun s => outR s 0 c7.res) (by kernel_rfl : finSt c7.fin _ = f7_fin [] 1)).trans (f7_out [] 1)))
        · replace hS := cond_f hc hS
          refine zlRun (n := 1) (j := 20) rfl (by kernel_rfl) ?_
          refine zlEnd (by kernel_rfl) ?_
          refine zkSeq ?_
          refine zrCondF (by kernel_rfl) ?_
          refine zrSkip ?_
          refine zkBlk ?_
          refine zkSeq ?_
          refine zrReg ?_
          refine zlRun (n := 2) (j := 2) rfl (by kernel_rfl) ?_
          refine zlEnd (by kernel_rfl) ?_
          refine zkSeq ?_
          refine zrLoop1 ?_
          refine zrSeq ?_
          refine zrReg ?_
          refine zlRun (n := 1) (j := 1) rfl (by kernel_rfl) ?_
          refine zlEnd (by kernel_rfl) ?_
          refine zkSeq ?_
          refine zrSeq ?_
          refine zrCondF (by kernel_rfl) ?_
          refine zrExit ?_
          refine zkSeqX ?_
          refine zkSeqX ?_
          refine zkBlkX ?_
          refine zkSeq ?_
          exact f7_j1_ok hd a1 a2 a3 a4 hQ p510 hS (by kernel_rfl)
def f7_j8_J (a1 : GScreen) (a2 : GPlace) (a3 : GPlace) (a4 : Bool) (p501 : List (List GCell)) : St := ⟨(up (up (up (up (up (up (fun _ => .un) 29 (.d (.int .i64 0))) 28 (.agg ((.d (.int .i64 a2.Row)) :: ((.d (.int .i64 a2.Col)) :: ((.d (.int .i64 a3.Row)) :: ((.d (.int .i64 a3.Col)) :: [])))))) 10 (.d (.sl p501.length ((eSl e_GCell).cells p501)))) 6 (.r (.ptr 56 0 0))) 5 (.r (.ptr 48 0 0))) 3 (.d (.bool a4))), (up (up (hB fun _ => 0) 56 ⟨0, some (.box ((.d (.int .i64 a3.Row)) :: ((.d (.int .i64 a3.Col)) :: [])))⟩) 48 ⟨0, some (.box ((.d (.int .i64 a2.Row)) :: ((.d (.int .i64 a2.Col)) :: [])))⟩)⟩
noncomputable def f7_j8 (a1 : GScreen) (a2 : GPlace) (a3 : GPlace) (a4 : Bool) (p501 : List (List GCell)) : Option ((List Int) × Int) := (bif (decide (a2.Row < 0)) then (some ([], 1)) else (bif (decide ((p501.length : Int) ≤ a2.Row)) then (some ([], 1)) else (bif (decide (a2.Col < 0)) then (some ([], 1)) else (bif (decide (160 ≤ a2.Col)) then (some ([], 1)) else (f7_j9 a1 a2 a3 a4 p501)))))
theorem f7_j8_ok {d : Nat} (hd : 8 ≤ d) (a1 : GScreen) (a2 : GPlace) (a3 : GPlace) (a4 : Bool) {r : (List Int) × Int} {Q : PX → St → Prop} (hQ : ∀ e st', f7_Q r e st' → Q e st') (p501 : List (List GCell)) (hS : f7_j8 a1 a2 a3 a4 p501 = some r) {st : St} (he : keepSt [3, 5, 6, 10, 28, 29] [(48, .id 48), (56, .id 56)] [] st = f7_j8_J a1 a2 a3 a4 p501) : ZR (lev codes baseL (d - 1)) Q c7_9 [.seq c7_10, .blk 0, .seq c7_8] st := by
  refine zrKeep he ?_
  unfold f7_j8 at hS
  refine zrSeq ?_
  refine zrBlk ?_
  refine zrSeq ?_
  refine zrReg ?_
  refine zlRun (n := 3) (j := 3) rfl (by kernel_rfl) ?_
  refine zlEnd (by kernel_rfl) ?_
  refine zkSeq ?_
  refine zrSeq ?_
  refine zrReg ?_
  refine zlRun (n := 2) (j := 2) rfl (by kernel_rfl) ?_
  refine zlBool (d := 34) (op := (.cmpI .lss (.tmp 33) (.const (.int .i64 0)))) (g := none) (j := 3) (decide (a2.Row < 0)) rfl (by kernel_rfl) (by kernel_rfl) (by kernel_rfl) (fun hc => ?_) (fun hc => ?_)
  · replace hS := cond_t hc hS
    refine zlRun (n := 17) (j := 20) rfl (by kernel_rfl) ?_
    refine zlEnd (by kernel_rfl) ?_
    refine zkSeq ?_
    refine zrCondT (by kernel_rfl) ?_
    refine zrSeq ?_
    refine zrReg ?_
    refine zlRun (n := 2) (j := 2) rfl (by kernel_rfl) ?_
    refine zlEnd (by kernel_rfl) ?_
    refine zkSeq ?_
    refine zrRet ?_
    refine zkBlkR ?_
    refine zkSeqR ?_
    refine zkSeqR ?_
    refine zkBlkR ?_
    refine zkSeqR ?_
    refine zkNil ?_
    exact endQ hS hQ (fRet (by kernel_rfl) ((congrArg (fun s => outR s 0 c7.res) (by kernel_rfl : finSt c7.fin _ = f7_fin [] 1)).trans (f7_out [] 1)))
  · replace hS := cond_f hc hS
    refine zlRun (n := 5) (j := 8) rfl (by kernel_rfl) ?_
    refine zlBool (d := 40) (op := (.cmpI .geq (.tmp 37) (.tmp 39))) (g := (some (35, false))) (j := 9) (decide ((p501.length : Int) ≤ a2.Row)) rfl (by kernel_rfl) (by kernel_rfl) (by kernel_rfl) (fun hc => ?_) (fun hc => ?_)
    · replace hS := cond_t hc hS
      refine zlRun (n := 11) (j := 20) rfl (by kernel_rfl) ?_
      refine zlEnd (by kernel_rfl) ?_
      refine zkSeq ?_
      refine zrCondT (by kernel_rfl) ?_
      refine zrSeq ?_
      refine zrReg ?_
      refine zlRun (n := 2) (j := 2) rfl (by kernel_rfl) ?_
      refine zlEnd (by kernel_rfl) ?_
      refine zkSeq ?_
      refine zrRet ?_
      refine zkBlkR ?_
      refine zkSeqR ?_
      refine zkSeqR ?_
      refine zkBlkR ?_
      refine zkSeqR ?_
      refine zkNil ?_
      exact endQ hS hQ (fRet (by kernel_rfl) ((congrArg (fun s => outR s 0 c7.res) (by kernel_rfl : finSt c7.fin _ = f7_fin [] 1)).trans (f7_out [] 1)))
    · replace hS := cond_f hc hS
      refine zlRun (n := 4) (j := 13) rfl (by kernel_rfl) ?_
      refine zlBool (d := 45) (op := (.cmpI .lss (.tmp 44) (.const (.int .i64 0)))) (g := (some (42, false))) (j := 14) (decide (a2.Col < 0)) rfl (by kernel_rfl) (by kernel_rfl) (by kernel_rfl) (fun hc => ?_) (fun hc => ?_)
      · replace hS := cond_t hc hS
        refine zlRun (n := 6) (j := 20) rfl (by kernel_rfl) ?_
        refine zlEnd (by kernel_rfl) ?_
        refine zkSeq ?_
        refine zrCondT (by kernel_rfl) ?_
        refine zrSeq ?_
        refine zrReg ?_
        refine zlRun (n := 2) (j := 2) rfl (by kernel_rfl) ?_
        refine zlEnd (by kernel_rfl) ?_
        refine zkSeq ?_
        refine zrRet ?_
        refine zkBlkR ?_
        refine zkSeqR ?_
        refine zkSeqR ?_
        refine zkBlkR ?_
        refine zkSeqR ?_
        refine zkNil ?_
        exact endQ hS hQ (fRet (by kernel_rfl) ((congrArg (fun s => outR s 0 c7.res) (by kernel_rfl : finSt c7.fin _ = f7_fin [] 1)).trans (f7_out [] 1)))
      · replace hS := cond_f hc hS
        refine zlRun (n := 4) (j := 18) rfl (by kernel_rfl) ?_
        refine zlBool (d := 50) (op := (.cmpI .geq (.tmp 49) (.const (.int .i64 160)))) (g := (some (47, false))) (j := 19) (decide (160 ≤ a2.Col)) rfl (by kernel_rfl) (by kernel_rfl) (by kernel_rfl) (fun hc => ?_) (fun hc => ?_)
        · replace hS := cond_t hc hS
          refine zlRun (n := 1) (j := 20) rfl (by kernel_rfl) ?_
          refine zlEnd (by kernel_rfl) ?_
          refine zkSeq ?_
          refine zrCondT (by kernel_rfl) ?_
          refine zrSeq ?_
          refine zrReg ?_
          refine zlRun (n := 2) (j := 2) rfl (by kernel_rfl) ?_
          refine zlEnd (by kernel_rfl) ?_
          refine zkSeq ?_
          refine zrRet ?_
          refine zkBlkR ?_
          refine zkSeqR ?_
          refine zkSeqR ?_
          refine zkBlkR ?_
          refine zkSeqR ?_
          refine zkNil ?_
          exact endQ hS hQ (fRet (by kernel_rfl) ((congrArg (fun s => outR s 0 c7.res) (by kernel_rfl : finSt c7.fin _ = f7_fin [] 1)).trans (f7_out [] 1)))
        · replace hS := cond_f hc hS
          refine zlRun (n := 1) (j := 20) rfl (by kernel_rfl) ?_
          refine zlEnd (by kernel_rfl) ?_
          refine zkSeq ?_
          refine zrCondF (by kernel_rfl) ?_
          refine zrSkip ?_
          refine zkBlk ?_
          refine zkSeq ?_
          refine zrReg ?_
          refine zlRun (n := 2) (j := 2) rfl (by kernel_rfl) ?_
          refine zlEnd (by kernel_rfl) ?_
          refine zkSeq ?_
          refine zrLoop1 ?_
          refine zrSeq ?_
          refine zrReg ?_
          refine zlRun (n := 1) (j := 1) rfl (by kernel_rfl) ?_
          refine zlEnd (by kernel_rfl) ?_
          refine zkSeq ?_
          refine zrSeq ?_
          refine zrCondT (by kernel_rfl) ?_
          refine zrSkip ?_
          refine zkSeq ?_
          exact f7_j9_ok hd a1 a2 a3 a4 hQ p501 hS (by kernel_rfl)
def f7_j0_J (a1 : GScreen) (a2 : GPlace) (a3 : GPlace) (a4 : Bool) (p207 : List (List GCell)) : St := ⟨(up (up (up (up (fun _ => .un) 10 (.d (.sl p207.length ((eSl e_GCell).cells p207)))) 6 (.r (.ptr 56 0 0))) 5 (.r (.ptr 48 0 0))) 3 (.d (.bool a4))), (up (up (hB fun _ => 0) 56 ⟨0, some (.box ((.d (.int .i64 a3.Row)) :: ((.d (.int .i64 a3.Col)) :: [])))⟩) 48 ⟨0, some (.box ((.d (.int .i64 a2.Row)) :: ((.d (.int .i64 a2.Col)) :: [])))⟩)⟩
noncomputable def f7_j0 (a1 : GScreen) (a2 : GPlace) (a3 : GPlace) (a4 : Bool) (p207 : List (List GCell)) : Option ((List Int) × Int) := (f7_j8 a1 a2 a3 a4 p207)
theorem f7_j0_ok {d : Nat} (hd : 8 ≤ d) (a1 : GScreen) (a2 : GPlace) (a3 : GPlace) (a4 : Bool) {r : (List Int) × Int} {Q : PX → St → Prop} (hQ : ∀ e st', f7_Q r e st' → Q e st') (p207 : List (List GCell)) (hS : f7_j0 a1 a2 a3 a4 p207 = some r) {st : St} (he : keepSt [3, 5, 6, 10] [(48, .id 48), (56, .id 56)] [] st = f7_j0_J a1 a2 a3 a4 p207) : ZR (lev codes baseL (d - 1)) Q c7_11 [] st := by
  refine zrKeep he ?_
  unfold f7_j0 at hS
  refine zrSeq ?_
  refine zrSeq ?_
  refine zrReg ?_
  refine zlRun (n := 4) (j := 4) rfl (by kernel_rfl) ?_
  refine zlEnd (by kernel_rfl) ?_
  refine zkSeq ?_
  refine zrBlk ?_
  refine zrLoop1 ?_
  refine zrSeq ?_
  refine zrReg ?_
  refine zlRun (n := 1) (j := 1) rfl (by kernel_rfl) ?_
  refine zlEnd (by kernel_rfl) ?_
  refine zkSeq ?_
  refine zrSeq ?_
  refine zrCondT (by kernel_rfl) ?_
  refine zrSkip ?_
  refine zkSeq ?_
  exact f7_j8_ok hd a1 a2 a3 a4 hQ p207 hS (by kernel_rfl)
noncomputable def f7 (a1 : GScreen) (a2 : GPlace) (a3 : GPlace) (a4 : Bool) : Option ((List Int) × Int) := ((f10 a1).bind fun z14 => (bif (!decide (z14.2 = 0)) then (some ([], z14.2)) else (f7_j0 a1 a2 a3 a4 z14.1)))
theorem f7_ok (d : Nat) (hd : 8 ≤ d) (a1 : GScreen) (a2 : GPlace) (a3 : GPlace) (a4 : Bool) (r : (List Int) × Int) (hS : f7 a1 a2 a3 a4 = some r) : lev codes baseL d 7 [(.agg ((.d (.int .i64 a1.Grid.Wide)) :: ((.d (.int .i64 a1.Grid.High)) :: ((.d (.sl a1.Grid.Cells.length (e_GCell.cells a1.Grid.Cells))) :: ((.d (.int .i64 a1.Row)) :: ((.d (.int .i64 a1.Col)) :: ((.d (.bool a1.Late)) :: ((.d (.int .i64 a1.Top)) :: ((.d (.int .i64 a1.Bottom)) :: ((.d (.int .i64 a1.Pen.Flags)) :: ((.d (.int .i64 a1.Pen.Fore)) :: ((.d (.int .i64 a1.Pen.Back)) :: ((.d (.int .i64 a1.Modes)) :: (((eInt .u64).row 4 a1.Stops.Bits) ++ ((.d (.int .i64 a1.Pages.1)) :: ((.d (.int .i64 a1.Pages.2)) :: ((.d (.int .i64 a1.Shift)) :: ((.d (.int .i64 a1.Saved.Row)) :: ((.d (.int .i64 a1.Saved.Col)) :: ((.d (.int .i64 a1.Saved.Pen.Flags)) :: ((.d (.int .i64 a1.Saved.Pen.Fore)) :: ((.d (.int .i64 a1.Saved.Pen.Back)) :: ((.d (.bool a1.Saved.Origin)) :: ((.d (.int .i64 a1.Saved.Pages.1)) :: ((.d (.int .i64 a1.Saved.Pages.2)) :: ((.d (.int .i64 a1.Saved.Shift)) :: ((.d (.int .i64 a1.Other.Wide)) :: ((.d (.int .i64 a1.Other.High)) :: ((.d (.sl a1.Other.Cells.length (e_GCell.cells a1.Other.Cells))) :: ((.d (.str a1.Title)) :: ((.d (.sl a1.Past.length (e_GLine.cells a1.Past))) :: []))))))))))))))))))))))))))))))), (.agg ((.d (.int .i64 a2.Row)) :: ((.d (.int .i64 a2.Col)) :: []))), (.agg ((.d (.int .i64 a3.Row)) :: ((.d (.int .i64 a3.Col)) :: []))), (.d (.bool a4))] [] = some ((.tup [(.r (.own 0 3 1 r.1.length ((eInt .i64).cells r.1))), (.d (.int .i64 r.2))]), []) := by
  refine lev_go codes7 rfl rfl (Nat.le_trans (Nat.le_of_ble_eq_true rfl) hd) fun Q hQ => ?_
  unfold f7 at hS
  show ZR _ Q c7_b [] _
  replace hQ : ∀ e st', f7_Q r e st' → Q e st' := hQ
  refine zrSeq ?_
  refine zrReg ?_
  refine zlRun (n := 5) (j := 5) rfl (by kernel_rfl) ?_
  refine zlEnd (by kernel_rfl) ?_
  refine zkSeq ?_
  refine zrSeq ?_
  refine zrReg ?_
  refine zlRun (n := 1) (j := 1) rfl (by kernel_rfl) ?_
  refine bindE hS (fun z14 hz14 hS => ?_)
  refine zlOp (d := some 20) (op := (.callf 10 [(.tmp 19)])) (g := none) (v := (.tup [(.d (.sl z14.1.length ((eSl e_GCell).cells z14.1))), (.d (.int .i64 z14.2))])) (ups := []) (j := 2) rfl (by kernel_rfl) (by kernel_rfl) (ev_callF (args := [(.agg ((.d (.int .i64 a1.Grid.Wide)) :: ((.d (.int .i64 a1.Grid.High)) :: ((.d (.sl a1.Grid.Cells.length (e_GCell.cells a1.Grid.Cells))) :: ((.d (.int .i64 a1.Row)) :: ((.d (.int .i64 a1.Col)) :: ((.d (.bool a1.Late)) :: ((.d (.int .i64 a1.Top)) :: ((.d (.int .i64 a1.Bottom)) :: ((.d (.int .i64 a1.Pen.Flags)) :: ((.d (.int .i64 a1.Pen.Fore)) :: ((.d (.int .i64 a1.Pen.Back)) :: ((.d (.int .i64 a1.Modes)) :: (((eInt .u64).row 4 a1.Stops.Bits) ++ ((.d (.int .i64 a1.Pages.1)) :: ((.d (.int .i64 a1.Pages.2)) :: ((.d (.int .i64 a1.Shift)) :: ((.d (.int .i64 a1.Saved.Row)) :: ((.d (.int .i64 a1.Saved.Col)) :: ((.d (.int .i64 a1.Saved.Pen.Flags)) :: ((.d (.int .i64 a1.Saved.Pen.Fore)) :: ((.d (.int .i64 a1.Saved.Pen.Back)) :: ((.d (.bool a1.Saved.Origin)) :: ((.d (.int .i64 a1.Saved.Pages.1)) :: ((.d (.int .i64 a1.Saved.Pages.2)) :: ((.d (.int .i64 a1.Saved.Shift)) :: ((.d (.int .i64 a1.Other.Wide)) :: ((.d (.int .i64 a1.Other.High)) :: ((.d (.sl a1.Other.Cells.length (e_GCell.cells a1.Other.Cells))) :: ((.d (.str a1.Title)) :: ((.d (.sl a1.Past.length (e_GLine.cells a1.Past))) :: [])))))))))))))))))))))))))))))))]) (args' := [(.agg ((.d (.int .i64 a1.Grid.Wide)) :: ((.d (.int .i64 a1.Grid.High)) :: ((.d (.sl a1.Grid.Cells.length (e_GCell.cells a1.Grid.Cells))) :: ((.d (.int .i64 a1.Row)) :: ((.d (.int .i64 a1.Col)) :: ((.d (.bool a1.Late)) :: ((.d (.int .i64 a1.Top)) :: ((.d (.int .i64 a1.Bottom)) :: ((.d (.int .i64 a1.Pen.Flags)) :: ((.d (.int .i64 a1.Pen.Fore)) :: ((.d (.int .i64 a1.Pen.Back)) :: ((.d (.int .i64 a1.Modes)) :: (((eInt .u64).row 4 a1.Stops.Bits) ++ ((.d (.int .i64 a1.Pages.1)) :: ((.d (.int .i64 a1.Pages.2)) :: ((.d (.int .i64 a1.Shift)) :: ((.d (.int .i64 a1.Saved.Row)) :: ((.d (.int .i64 a1.Saved.Col)) :: ((.d (.int .i64 a1.Saved.Pen.Flags)) :: ((.d (.int .i64 a1.Saved.Pen.Fore)) :: ((.d (.int .i64 a1.Saved.Pen.Back)) :: ((.d (.bool a1.Saved.Origin)) :: ((.d (.int .i64 a1.Saved.Pages.1)) :: ((.d (.int .i64 a1.Saved.Pages.2)) :: ((.d (.int .i64 a1.Saved.Shift)) :: ((.d (.int .i64 a1.Other.Wide)) :: ((.d (.int .i64 a1.Other.High)) :: ((.d (.sl a1.Other.Cells.length (e_GCell.cells a1.Other.Cells))) :: ((.d (.str a1.Title)) :: ((.d (.sl a1.Past.length (e_GLine.cells a1.Past))) :: [])))))))))))))))))))))))))))))))]) (l := [(.agg ((.d (.int .i64 a1.Grid.Wide)) :: ((.d (.int .i64 a1.Grid.High)) :: ((.d (.sl a1.Grid.Cells.length (e_GCell.cells a1.Grid.Cells))) :: ((.d (.int .i64 a1.Row)) :: ((.d (.int .i64 a1.Col)) :: ((.d (.bool a1.Late)) :: ((.d (.int .i64 a1.Top)) :: ((.d (.int .i64 a1.Bottom)) :: ((.d (.int .i64 a1.Pen.Flags)) :: ((.d (.int .i64 a1.Pen.Fore)) :: ((.d (.int .i64 a1.Pen.Back)) :: ((.d (.int .i64 a1.Modes)) :: (((eInt .u64).row 4 a1.Stops.Bits) ++ ((.d (.int .i64 a1.Pages.1)) :: ((.d (.int .i64 a1.Pages.2)) :: ((.d (.int .i64 a1.Shift)) :: ((.d (.int .i64 a1.Saved.Row)) :: ((.d (.int .i64 a1.Saved.Col)) :: ((.d (.int .i64 a1.Saved.Pen.Flags)) :: ((.d (.int .i64 a1.Saved.Pen.Fore)) :: ((.d (.int .i64 a1.Saved.Pen.Back)) :: ((.d (.bool a1.Saved.Origin)) :: ((.d (.int .i64 a1.Saved.Pages.1)) :: ((.d (.int .i64 a1.Saved.Pages.2)) :: ((.d (.int .i64 a1.Saved.Shift)) :: ((.d (.int .i64 a1.Other.Wide)) :: ((.d (.int .i64 a1.Other.High)) :: ((.d (.sl a1.Other.Cells.length (e_GCell.cells a1.Other.Cells))) :: ((.d (.str a1.Title)) :: ((.d (.sl a1.Past.length (e_GLine.cells a1.Past))) :: [])))))))))))))))))))))))))))))))]) (refs := []) (r := (.tup [(.d (.sl z14.1.length ((eSl e_GCell).cells z14.1))), (.d (.int .i64 z14.2))])) (v := (.tup [(.d (.sl z14.1.length ((eSl e_GCell).cells z14.1))), (.d (.int .i64 z14.2))])) (ups' := []) (by kernel_rfl) (by kernel_rfl) (by kernel_rfl) (fz_cons rfl fz_nil) (by kernel_rfl) (f10_ok (d - 1) (dpt hd rfl) a1 z14 hz14) (by kernel_rfl) (by kernel_rfl) (by kernel_rfl) (by kernel_rfl)) ?_
  refine zlRun (n := 5) (j := 7) rfl (by kernel_rfl) ?_
  refine zlEnd (by kernel_rfl) ?_
  refine zkSeq ?_
  refine zrSeq ?_
  refine zrSeq ?_
  refine zrReg ?_
  refine zlRun (n := 1) (j := 1) rfl (by kernel_rfl) ?_
  refine zlBool (d := 24) (op := (.cmpI .neq (.tmp 23) (.const (.int .i64 0)))) (g := none) (j := 2) (!decide (z14.2 = 0)) rfl (by kernel_rfl) (by kernel_rfl) (by kernel_rfl) (fun hc => ?_) (fun hc => ?_)
  · replace hS := cond_t hc hS
    refine zlEnd (by kernel_rfl) ?_
    refine zkSeq ?_
    refine zrCondT (by kernel_rfl) ?_
    refine zrSeq ?_
    refine zrReg ?_
    refine zlRun (n := 3) (j := 3) rfl (by kernel_rfl) ?_
    refine zlEnd (by kernel_rfl) ?_
    refine zkSeq ?_
    refine zrRet ?_
    refine zkSeqR ?_
    refine zkNil ?_
    exact endQ hS hQ (fRet (by kernel_rfl) ((congrArg (fun s => outR s 0 c7.res) (by kernel_rfl : finSt c7.fin _ = f7_fin [] z14.2)).trans (f7_out [] z14.2)))
  · replace hS := cond_f hc hS
    refine zlEnd (by kernel_rfl) ?_
    refine zkSeq ?_
    refine zrCondF (by kernel_rfl) ?_
    refine zrSkip ?_
    refine zkSeq ?_
    exact f7_j0_ok hd a1 a2 a3 a4 hQ z14.1 hS (by kernel_rfl)
/- farwriter/farkeep.clipLives -/
theorem libLives_ok (d : Nat) (hd : 0 ≤ d)  (r : Bool) (hS : libLives  = some r) : lev codes baseL d 8 [] [] = some ((.d (.bool r)), []) := lib_callC (l := libs) rfl rfl rfl rfl rfl (livesO_ hS) d
/- slices.Equal[[]int,int] -/
def f9_fin (p14 : Bool) : St := ⟨(up (fun _ => .un) 4 (.d (.bool p14))), (hB fun _ => 0)⟩
theorem f9_out (p14 : Bool) : outR (f9_fin p14) 0 c9.res = some ((.d (.bool p14)), []) := by
  kernel_rfl
def f9_Q (r : Bool) (e : PX) (st : St) : Prop := DoneF c9 0 ((.d (.bool r)), []) e st
def f9_l1_J (a1 : List Int) (a2 : List Int) (x : Int) : St := ⟨(up (up (up (up (fun _ => .un) 13 (.d (.int .i64 x))) 12 (.d (.int .i64 (a1.length : Int)))) 1 (.d (.sl a2.length ((eInt .i64).cells a2)))) 0 (.d (.sl a1.length ((eInt .i64).cells a1)))), (hB fun _ => 0)⟩
def f9_l1_H (a1 : List Int) (a2 : List Int) (x : Int) (st : St) : Prop := keepSt [0, 1, 12, 13] [] [] st = f9_l1_J a1 a2 x
def f9_l1_e0_J (a1 : List Int) (a2 : List Int) : St := ⟨(fun _ => .un), (hB fun _ => 0)⟩
def f9_l1_X (a1 : List Int) (a2 : List Int) (z : Unit ⊕ Bool) (e : PX) (st : St) : Prop := (match z with | .inl z => e = .exit 0 ∧ st = f9_l1_e0_J a1 a2 | .inr z => e = .ret ∧ finSt c9.fin st = f9_fin z)
def f9_l1_j3_J (a1 : List Int) (a2 : List Int) (p20 : Int) : St := ⟨(up (up (up (up (fun _ => .un) 13 (.d (.int .i64 p20))) 12 (.d (.int .i64 (a1.length : Int)))) 1 (.d (.sl a2.length ((eInt .i64).cells a2)))) 0 (.d (.sl a1.length ((eInt .i64).cells a1)))), (hB fun _ => 0)⟩
noncomputable def f9_l1_j3 (a1 : List Int) (a2 : List Int) (p20 : Int) : Option (Int ⊕ (Unit ⊕ Bool)) := ((idx a1 p20).bind fun z7 => ((idx a2 p20).bind fun z8 => (bif (!decide (z7 = z8)) then (some (.inr (.inr false))) else (some (.inl (IntKind.i64.wrap (p20 + 1)))))))
theorem f9_l1_j3_ok {d : Nat} (hd : 1 ≤ d) (a1 : List Int) (a2 : List Int) {r : Int ⊕ (Unit ⊕ Bool)} {Q : PX → St → Prop} (hQ : ∀ e st', finL (f9_l1_H a1 a2) (f9_l1_X a1 a2) r e st' → Q e st') (p20 : Int) (hS : f9_l1_j3 a1 a2 p20 = some r) {st : St} (he : keepSt [0, 1, 12, 13] [] [] st = f9_l1_j3_J a1 a2 p20) : ZR (lev codes baseL (d - 1)) Q c9_1 [] st := by
  refine zrKeep he ?_
  unfold f9_l1_j3 at hS
  refine zrSeq ?_
  refine zrBlk ?_
  refine zrSeq ?_
  refine zrReg ?_
  refine zlRun (n := 2) (j := 2) rfl (by kernel_rfl) ?_
  refine zlEnd (by kernel_rfl) ?_
  refine zkSeq ?_
  refine zrSeq ?_
  refine zrRegD ?_
  refine zdRun (n := 2) (j := 2) (ts := [[], []]) (acc' := [[], []]) rfl (by kernel_rfl) (by kernel_rfl) (by kernel_rfl) ?_
  refine bindE hS (fun z7 hz7 hS => ?_)
  refine zdOp (d := some 18) (op := (.ixS 3 1 (.tmp 16) (.tmp 17))) (g := none) (v := (.rptr ((eInt .i64).enc z7 ++ ((eInt .i64).cells (a1.drop ((p20 : Int).toNat + 1)))))) (ups := []) (j := 3) (t1 := []) (acc' := [[], [], []]) (by kernel_rfl) (by kernel_rfl) rfl (by kernel_rfl) (by kernel_rfl) (ev_ixS (eInt .i64) (kk := .i64) (xs := a1) (j := p20) (by kernel_rfl) (by kernel_rfl) hz7 rfl (by intro h; cases h)) ?_
  refine zdRun (n := 3) (j := 6) (ts := [[], [], []]) (acc' := [[], [], [], [], [], []]) rfl (by kernel_rfl) (by kernel_rfl) (by kernel_rfl) ?_
  refine bindE hS (fun z8 hz8 hS => ?_)
  refine zdOp (d := some 22) (op := (.ixS 3 1 (.tmp 20) (.tmp 21))) (g := none) (v := (.rptr ((eInt .i64).enc z8 ++ ((eInt .i64).cells (a2.drop ((p20 : Int).toNat + 1)))))) (ups := []) (j := 7) (t1 := []) (acc' := [[], [], [], [], [], [], []]) (by kernel_rfl) (by kernel_rfl) rfl (by kernel_rfl) (by kernel_rfl) (ev_ixS (eInt .i64) (kk := .i64) (xs := a2) (j := p20) (by kernel_rfl) (by kernel_rfl) hz8 rfl (by intro h; cases h)) ?_
  refine zdRun (n := 1) (j := 8) (ts := [[]]) (acc' := [[], [], [], [], [], [], [], []]) rfl (by kernel_rfl) (by kernel_rfl) (by kernel_rfl) ?_
  refine zdBool (d := 24) (op := (.cmpI .neq (.tmp 19) (.tmp 23))) (g := none) (j := 9) (t1 := []) (acc' := [[], [], [], [], [], [], [], [], []]) (!decide (z7 = z8)) (by kernel_rfl) (by kernel_rfl) rfl (by kernel_rfl) (by kernel_rfl) (by kernel_rfl) (fun hc => ?_) (fun hc => ?_)
  · replace hS := cond_t hc hS
    refine zdEnd (by kernel_rfl) (by kernel_rfl) ?_
    refine zkSeq ?_
    refine zrCondT (by kernel_rfl) ?_
    refine zrSeq ?_
    refine zrReg ?_
    refine zlRun (n := 1) (j := 1) rfl (by kernel_rfl) ?_
    refine zlEnd (by kernel_rfl) ?_
    refine zkSeq ?_
    refine zrRet ?_
    refine zkBlkR ?_
    refine zkSeqR ?_
    refine zkNil ?_
    exact endQ hS hQ (finL_x (by intro h; cases h) (by show _ = _ ∧ _ = _; exact ⟨rfl, by kernel_rfl⟩))
  · replace hS := cond_f hc hS
    refine zdEnd (by kernel_rfl) (by kernel_rfl) ?_
    refine zkSeq ?_
    refine zrCondF (by kernel_rfl) ?_
    refine zrSkip ?_
    refine zkBlk ?_
    refine zkSeq ?_
    refine zrReg ?_
    refine zlRun (n := 2) (j := 2) rfl (by kernel_rfl) ?_
    refine zlEnd (by kernel_rfl) ?_
    refine zkNil ?_
    exact endQ hS hQ (finL_n (by show keepSt _ _ _ _ = _; kernel_rfl))
def f9_l1_j2_J (a1 : List Int) (a2 : List Int) (p18 : Int) (p19 : Bool) : St := ⟨(up (up (up (up (up (fun _ => .un) 14 (.d (.bool p19))) 13 (.d (.int .i64 p18))) 12 (.d (.int .i64 (a1.length : Int)))) 1 (.d (.sl a2.length ((eInt .i64).cells a2)))) 0 (.d (.sl a1.length ((eInt .i64).cells a1)))), (hB fun _ => 0)⟩
noncomputable def f9_l1_j2 (a1 : List Int) (a2 : List Int) (p18 : Int) (p19 : Bool) : Option (Int ⊕ (Unit ⊕ Bool)) := (bif p19 then (f9_l1_j3 a1 a2 p18) else (some (.inr (.inl ()))))
theorem f9_l1_j2_ok {d : Nat} (hd : 1 ≤ d) (a1 : List Int) (a2 : List Int) {r : Int ⊕ (Unit ⊕ Bool)} {Q : PX → St → Prop} (hQ : ∀ e st', finL (f9_l1_H a1 a2) (f9_l1_X a1 a2) r e st' → Q e st') (p18 : Int) (p19 : Bool) (hS : f9_l1_j2 a1 a2 p18 p19 = some r) {st : St} (he : keepSt [0, 1, 12, 13, 14] [] [] st = f9_l1_j2_J a1 a2 p18 p19) : ZR (lev codes baseL (d - 1)) Q c9_2 [] st := by
  refine zrKeep he ?_
  unfold f9_l1_j2 at hS
  refine zrSeq ?_
  refine zrSplit 14 p19 (by kernel_rfl) (fun hc => ?_) (fun hc => ?_)
  · replace hS := cond_t hc hS
    refine zrCondT (by kernel_rfl) ?_
    refine zrSkip ?_
    refine zkSeq ?_
    exact f9_l1_j3_ok hd a1 a2 hQ p18 hS (by kernel_rfl)
  · replace hS := cond_f hc hS
    refine zrCondF (by kernel_rfl) ?_
    refine zrKeep (J := f9_l1_e0_J a1 a2) (by kernel_rfl) ?_
    refine zrExit ?_
    refine zkSeqX ?_
    refine zkNil ?_
    exact endQ hS hQ (finL_x (by intro h; cases h) (by show _ = _ ∧ _ = _; exact ⟨rfl, rfl⟩))
noncomputable def f9_l1 (a1 : List Int) (a2 : List Int) (x : Int) : Option (Int ⊕ (Unit ⊕ Bool)) := (bif (decide (x < (a1.length : Int))) then (f9_l1_j2 a1 a2 x true) else (f9_l1_j2 a1 a2 x false))
theorem f9_l1_ok {d : Nat} (hd : 1 ≤ d) (a1 : List Int) (a2 : List Int) {r : Int ⊕ (Unit ⊕ Bool)} {Q : PX → St → Prop} (hQ : ∀ e st', finL (f9_l1_H a1 a2) (f9_l1_X a1 a2) r e st' → Q e st') {x : Int} (hS : f9_l1 a1 a2 x = some r) {st : St} (he : f9_l1_H a1 a2 x st) : ZR (lev codes baseL (d - 1)) Q c9_3 [] st := by
  refine zrKeep he ?_
  unfold f9_l1 at hS
  refine zrSeq ?_
  refine zrReg ?_
  refine zlBool (d := 14) (op := (.cmpI .lss (.tmp 13) (.tmp 12))) (g := none) (j := 1) (decide (x < (a1.length : Int))) rfl (by kernel_rfl) (by kernel_rfl) (by kernel_rfl) (fun hc => ?_) (fun hc => ?_)
  · replace hS := cond_t hc hS
    refine zlEnd (by kernel_rfl) ?_
    refine zkSeq ?_
    exact f9_l1_j2_ok hd a1 a2 hQ x true hS (by kernel_rfl)
  · replace hS := cond_f hc hS
    refine zlEnd (by kernel_rfl) ?_
    refine zkSeq ?_
    exact f9_l1_j2_ok hd a1 a2 hQ x false hS (by kernel_rfl)
def f9_j0_J (a1 : List Int) (a2 : List Int) : St := ⟨(up (up (fun _ => .un) 1 (.d (.sl a2.length ((eInt .i64).cells a2)))) 0 (.d (.sl a1.length ((eInt .i64).cells a1)))), (hB fun _ => 0)⟩
noncomputable def f9_j0 (a1 : List Int) (a2 : List Int) : Option (Bool) := ((loopO (f9_l1 a1 a2) 0).bind fun z9 => (Sum.elim (fun z10 => (some true)) (fun z11 => (some z11)) z9))
theorem f9_j0_ok {d : Nat} (hd : 1 ≤ d) (a1 : List Int) (a2 : List Int) {r : Bool} {Q : PX → St → Prop} (hQ : ∀ e st', f9_Q r e st' → Q e st')  (hS : f9_j0 a1 a2 = some r) {st : St} (he : keepSt [0, 1] [] [] st = f9_j0_J a1 a2) : ZR (lev codes baseL (d - 1)) Q c9_4 [] st := by
  refine zrKeep he ?_
  unfold f9_j0 at hS
  refine zrSeq ?_
  refine zrSeq ?_
  refine zrReg ?_
  refine zlRun (n := 3) (j := 3) rfl (by kernel_rfl) ?_
  refine zlEnd (by kernel_rfl) ?_
  refine zkSeq ?_
  refine zrBlk ?_
  refine bindE hS (fun z9 hz9 hS => ?_)
  refine zrLoop (f9_l1_H a1 a2) (f9_l1_X a1 a2) (fun x st r Q h0 hS hQ => f9_l1_ok hd a1 a2 hQ hS h0) (x := 0) (z := z9) (by show keepSt _ _ _ _ = _; kernel_rfl) hz9 ?_
  rcases z9 with z10 | z11
  · replace hS := (show _ = _ from hS)
    simp only [Sum.elim_inl] at hS
    intro e st' _ hX
    obtain ⟨rfl, rfl⟩ : _ ∧ _ := hX
    refine zkBlkX ?_
    refine zkSeq ?_
    refine zrSeq ?_
    refine zrReg ?_
    refine zlRun (n := 1) (j := 1) rfl (by kernel_rfl) ?_
    refine zlEnd (by kernel_rfl) ?_
    refine zkSeq ?_
    refine zrRet ?_
    refine zkNil ?_
    exact endQ hS hQ (fRet (by kernel_rfl) ((congrArg (fun s => outR s 0 c9.res) (by kernel_rfl : finSt c9.fin _ = f9_fin true)).trans (f9_out true)))
  · simp only [Sum.elim_inr] at hS
    intro e st' _ hX
    obtain ⟨rfl, hX⟩ : _ ∧ _ := hX
    refine zkBlkR ?_
    refine zkSeqR ?_
    refine zkNil ?_
    exact endQ hS hQ (fRet (by kernel_rfl) ((congrArg (fun s => outR s 0 c9.res) hX).trans (f9_out z11)))
noncomputable def f9 (a1 : List Int) (a2 : List Int) : Option (Bool) := (bif (!decide ((a1.length : Int) = (a2.length : Int))) then (some false) else (f9_j0 a1 a2 ))
theorem f9_ok (d : Nat) (hd : 1 ≤ d) (a1 : List Int) (a2 : List Int) (r : Bool) (hS : f9 a1 a2 = some r) : lev codes baseL d 9 [(.d (.sl a1.length ((eInt .i64).cells a1))), (.d (.sl a2.length ((eInt .i64).cells a2)))] [] = some ((.d (.bool r)), []) := by
  refine lev_go codes9 rfl rfl (Nat.le_trans (Nat.le_of_ble_eq_true rfl) hd) fun Q hQ => ?_
  unfold f9 at hS
  show ZR _ Q c9_b [] _
  replace hQ : ∀ e st', f9_Q r e st' → Q e st' := hQ
  refine zrSeq ?_
  refine zrReg ?_
  refine zlRun (n := 1) (j := 1) rfl (by kernel_rfl) ?_
  refine zlEnd (by kernel_rfl) ?_
  refine zkSeq ?_
  refine zrSeq ?_
  refine zrSeq ?_
  refine zrReg ?_
  refine zlRun (n := 4) (j := 4) rfl (by kernel_rfl) ?_
  refine zlBool (d := 10) (op := (.cmpI .neq (.tmp 7) (.tmp 9))) (g := none) (j := 5) (!decide ((a1.length : Int) = (a2.length : Int))) rfl (by kernel_rfl) (by kernel_rfl) (by kernel_rfl) (fun hc => ?_) (fun hc => ?_)
  · replace hS := cond_t hc hS
    refine zlEnd (by kernel_rfl) ?_
    refine zkSeq ?_
    refine zrCondT (by kernel_rfl) ?_
    refine zrSeq ?_
    refine zrReg ?_
    refine zlRun (n := 1) (j := 1) rfl (by kernel_rfl) ?_
    refine zlEnd (by kernel_rfl) ?_
    refine zkSeq ?_
    refine zrRet ?_
    refine zkSeqR ?_
    refine zkNil ?_
    exact endQ hS hQ (fRet (by kernel_rfl) ((congrArg (fun s => outR s 0 c9.res) (by kernel_rfl : finSt c9.fin _ = f9_fin false)).trans (f9_out false)))
  · replace hS := cond_f hc hS
    refine zlEnd (by kernel_rfl) ?_
    refine zkSeq ?_
    refine zrCondF (by kernel_rfl) ?_
    refine zrSkip ?_
    refine zkSeq ?_
    exact f9_j0_ok hd a1 a2 hQ  hS (by kernel_rfl)
/- farwriter/farkeep.ClipWays -/
def f3_fin (p6 : Bool) : St := ⟨(up (fun _ => .un) 8 (.d (.bool p6))), (hB fun _ => 0)⟩
theorem f3_out (p6 : Bool) : outR (f3_fin p6) 0 c3.res = some ((.d (.bool p6)), []) := by
  kernel_rfl
def f3_Q (r : Bool) (e : PX) (st : St) : Prop := DoneF c3 0 ((.d (.bool r)), []) e st
noncomputable def f3 (a1 : GScreen) (a2 : GPlace) (a3 : GPlace) (a4 : Bool) : Option (Bool) := ((f7 a1 a2 a3 a4).bind fun z7 => ((f7 a1 a3 a2 a4).bind fun z8 => ((f7 a1 a2 a3 (!a4)).bind fun z9 => (libLives.bind fun z10 => (bif z10 then ((f9 z7.1 z8.1).bind fun z11 => (bif z11 then (bif (decide (z7.2 = z8.2)) then (bif (!decide (a2.Row = a3.Row)) then (some true) else ((f9 z7.1 z9.1).bind fun z12 => (bif z12 then (bif (decide (z7.2 = z9.2)) then (some true) else (some false)) else (some false)))) else (some false)) else (some false))) else (some false))))))
theorem f3_ok (d : Nat) (hd : 9 ≤ d) (a1 : GScreen) (a2 : GPlace) (a3 : GPlace) (a4 : Bool) (r : Bool) (hS : f3 a1 a2 a3 a4 = some r) : lev codes baseL d 3 [(.agg ((.d (.int .i64 a1.Grid.Wide)) :: ((.d (.int .i64 a1.Grid.High)) :: ((.d (.sl a1.Grid.Cells.length (e_GCell.cells a1.Grid.Cells))) :: ((.d (.int .i64 a1.Row)) :: ((.d (.int .i64 a1.Col)) :: ((.d (.bool a1.Late)) :: ((.d (.int .i64 a1.Top)) :: ((.d (.int .i64 a1.Bottom)) :: ((.d (.int .i64 a1.Pen.Flags)) :: ((.d (.int .i64 a1.Pen.Fore)) :: ((.d (.int .i64 a1.Pen.Back)) :: ((.d (.int .i64 a1.Modes)) :: (((eInt .u64).row 4 a1.Stops.Bits) ++ ((.d (.int .i64 a1.Pages.1)) :: ((.d (.int .i64 a1.Pages.2)) :: ((.d (.int .i64 a1.Shift)) :: ((.d (.int .i64 a1.Saved.Row)) :: ((.d (.int .i64 a1.Saved.Col)) :: ((.d (.int .i64 a1.Saved.Pen.Flags)) :: ((.d (.int .i64 a1.Saved.Pen.Fore)) :: ((.d (.int .i64 a1.Saved.Pen.Back)) :: ((.d (.bool a1.Saved.Origin)) :: ((.d (.int .i64 a1.Saved.Pages.1)) :: ((.d (.int .i64 a1.Saved.Pages.2)) :: ((.d (.int .i64 a1.Saved.Shift)) :: ((.d (.int .i64 a1.Other.Wide)) :: ((.d (.int .i64 a1.Other.High)) :: ((.d (.sl a1.Other.Cells.length (e_GCell.cells a1.Other.Cells))) :: ((.d (.str a1.Title)) :: ((.d (.sl a1.Past.length (e_GLine.cells a1.Past))) :: []))))))))))))))))))))))))))))))), (.agg ((.d (.int .i64 a2.Row)) :: ((.d (.int .i64 a2.Col)) :: []))), (.agg ((.d (.int .i64 a3.Row)) :: ((.d (.int .i64 a3.Col)) :: []))), (.d (.bool a4))] [] = some ((.d (.bool r)), []) := by
  refine lev_go codes3 rfl rfl (Nat.le_trans (Nat.le_of_ble_eq_true rfl) hd) fun Q hQ => ?_
  unfold f3 at hS
  show ZR _ Q c3_b [] _
  replace hQ : ∀ e st', f3_Q r e st' → Q e st' := hQ
  refine zrSeq ?_
  refine zrReg ?_
  refine zlRun (n := 4) (j := 4) rfl (by kernel_rfl) ?_
  refine zlEnd (by kernel_rfl) ?_
  refine zkSeq ?_
  refine zrSeq ?_
  refine zrReg ?_
  refine zlRun (n := 4) (j := 4) rfl (by kernel_rfl) ?_
  refine bindE hS (fun z7 hz7 hS => ?_)
  refine zlOp (d := some 20) (op := (.call 7 [(.tmp 16), (.tmp 17), (.tmp 18), (.tmp 19)])) (g := none) (j := 5) rfl (by kernel_rfl) (by kernel_rfl) (ev_callA (by kernel_rfl) (f7_ok (d - 1) (dpt hd rfl) a1 a2 a3 a4 z7 hz7) (by kernel_rfl) (by kernel_rfl)) ?_
  refine zlRun (n := 5) (j := 10) rfl (by kernel_rfl) ?_
  refine zlEnd (by kernel_rfl) ?_
  refine zkSeq ?_
  refine zrSeq ?_
  refine zrReg ?_
  refine zlRun (n := 4) (j := 4) rfl (by kernel_rfl) ?_
  refine bindE hS (fun z8 hz8 hS => ?_)
  refine zlOp (d := some 28) (op := (.call 7 [(.tmp 24), (.tmp 25), (.tmp 26), (.tmp 27)])) (g := none) (j := 5) rfl (by kernel_rfl) (by kernel_rfl) (ev_callA (by kernel_rfl) (f7_ok (d - 1) (dpt hd rfl) a1 a3 a2 a4 z8 hz8) (by kernel_rfl) (by kernel_rfl)) ?_
  refine zlRun (n := 5) (j := 10) rfl (by kernel_rfl) ?_
  refine zlEnd (by kernel_rfl) ?_
  refine zkSeq ?_
  refine zrSeq ?_
  refine zrReg ?_
  refine zlRun (n := 5) (j := 5) rfl (by kernel_rfl) ?_
  refine bindE hS (fun z9 hz9 hS => ?_)
  refine zlOp (d := some 37) (op := (.call 7 [(.tmp 32), (.tmp 33), (.tmp 34), (.tmp 36)])) (g := none) (j := 6) rfl (by kernel_rfl) (by kernel_rfl) (ev_callA (by kernel_rfl) (f7_ok (d - 1) (dpt hd rfl) a1 a2 a3 (!a4) z9 hz9) (by kernel_rfl) (by kernel_rfl)) ?_
  refine zlRun (n := 5) (j := 11) rfl (by kernel_rfl) ?_
  refine zlEnd (by kernel_rfl) ?_
  refine zkSeq ?_
  refine zrSeq ?_
  refine zrReg ?_
  refine bindE hS (fun z10 hz10 hS => ?_)
  refine zlOp (d := some 40) (op := (.call 8 [])) (g := none) (j := 1) rfl (by kernel_rfl) (by kernel_rfl) (ev_callA (by kernel_rfl) (libLives_ok (d - 1) (dpt hd rfl)  z10 hz10) (by kernel_rfl) (by kernel_rfl)) ?_
  refine zlRun (n := 1) (j := 2) rfl (by kernel_rfl) ?_
  refine zlSplit 41 z10 (by kernel_rfl) (fun hc => ?_) (fun hc => ?_)
  · replace hS := cond_t hc hS
    refine zlRun (n := 2) (j := 4) rfl (by kernel_rfl) ?_
    refine bindE hS (fun z11 hz11 hS => ?_)
    refine zlOp (d := some 44) (op := (.call 9 [(.tmp 42), (.tmp 43)])) (g := (some (41, true))) (j := 5) rfl (by kernel_rfl) (by kernel_rfl) (ev_callB (args := [(.r (.msl 168 1 0 z7.1.length)), (.r (.msl 232 1 0 z8.1.length))]) (by kernel_rfl) (l_cons (l_own (eInt .i64) (e := 3) (k := 1) (xs := z7.1) (by kernel_rfl) rfl rfl) (l_cons (l_own (eInt .i64) (e := 3) (k := 1) (xs := z8.1) (by kernel_rfl) rfl rfl) l_nil)) (f9_ok (d - 1) (dpt hd rfl) z7.1 z8.1 z11 hz11) (by kernel_rfl) (by kernel_rfl)) ?_
    refine zlRun (n := 2) (j := 7) rfl (by kernel_rfl) ?_
    refine zlSplit 46 z11 (by kernel_rfl) (fun hc => ?_) (fun hc => ?_)
    · replace hS := cond_t hc hS
      refine zlRun (n := 2) (j := 9) rfl (by kernel_rfl) ?_
      refine zlBool (d := 49) (op := (.cmpI .eql (.tmp 47) (.tmp 48))) (g := (some (46, true))) (j := 10) (decide (z7.2 = z8.2)) rfl (by kernel_rfl) (by kernel_rfl) (by kernel_rfl) (fun hc => ?_) (fun hc => ?_)
      · replace hS := cond_t hc hS
        refine zlRun (n := 6) (j := 16) rfl (by kernel_rfl) ?_
        refine zlBool (d := 56) (op := (.cmpI .neq (.tmp 53) (.tmp 55))) (g := (some (51, true))) (j := 17) (!decide (a2.Row = a3.Row)) rfl (by kernel_rfl) (by kernel_rfl) (by kernel_rfl) (fun hc => ?_) (fun hc => ?_)
        · replace hS := cond_t hc hS
          refine zlRun (n := 12) (j := 29) rfl (by kernel_rfl) ?_
          refine zlEnd (by kernel_rfl) ?_
          refine zkSeq ?_
          refine zrRet ?_
          refine zkNil ?_
          exact endQ hS hQ (fRet (by kernel_rfl) ((congrArg (fun s => outR s 0 c3.res) (by kernel_rfl : finSt c3.fin _ = f3_fin true)).trans (f3_out true)))
        · replace hS := cond_f hc hS
          refine zlRun (n := 3) (j := 20) rfl (by kernel_rfl) ?_
          refine bindE hS (fun z12 hz12 hS => ?_)
          refine zlOp (d := some 60) (op := (.call 9 [(.tmp 58), (.tmp 59)])) (g := (some (57, false))) (j := 21) rfl (by kernel_rfl) (by kernel_rfl) (ev_callB (args := [(.r (.msl 168 1 0 z7.1.length)), (.r (.msl 304 1 0 z9.1.length))]) (by kernel_rfl) (l_cons (l_own (eInt .i64) (e := 3) (k := 1) (xs := z7.1) (by kernel_rfl) rfl rfl) (l_cons (l_own (eInt .i64) (e := 3) (k := 1) (xs := z9.1) (by kernel_rfl) rfl rfl) l_nil)) (f9_ok (d - 1) (dpt hd rfl) z7.1 z9.1 z12 hz12) (by kernel_rfl) (by kernel_rfl)) ?_
          refine zlRun (n := 1) (j := 22) rfl (by kernel_rfl) ?_
          refine zlSplit 61 z12 (by kernel_rfl) (fun hc => ?_) (fun hc => ?_)
          · replace hS := cond_t hc hS
            refine zlRun (n := 2) (j := 24) rfl (by kernel_rfl) ?_
            refine zlBool (d := 64) (op := (.cmpI .eql (.tmp 62) (.tmp 63))) (g := (some (61, true))) (j := 25) (decide (z7.2 = z9.2)) rfl (by kernel_rfl) (by kernel_rfl) (by kernel_rfl) (fun hc => ?_) (fun hc => ?_)
            · replace hS := cond_t hc hS
              refine zlRun (n := 4) (j := 29) rfl (by kernel_rfl) ?_
              refine zlEnd (by kernel_rfl) ?_
              refine zkSeq ?_
              refine zrRet ?_
              refine zkNil ?_
              exact endQ hS hQ (fRet (by kernel_rfl) ((congrArg (fun s => outR s 0 c3.res) (by kernel_rfl : finSt c3.fin _ = f3_fin true)).trans (f3_out true)))
            · replace hS := cond_f hc hS
              refine zlRun (n := 4) (j := 29) rfl (by kernel_rfl) ?_
              refine zlEnd (by kernel_rfl) ?_
              refine zkSeq ?_
              refine zrRet ?_
              refine zkNil ?_
              exact endQ hS hQ (fRet (by kernel_rfl) ((congrArg (fun s => outR s 0 c3.res) (by kernel_rfl : finSt c3.fin _ = f3_fin false)).trans (f3_out false)))
          · replace hS := cond_f hc hS
            refine zlRun (n := 7) (j := 29) rfl (by kernel_rfl) ?_
            refine zlEnd (by kernel_rfl) ?_
            refine zkSeq ?_
            refine zrRet ?_
            refine zkNil ?_
            exact endQ hS hQ (fRet (by kernel_rfl) ((congrArg (fun s => outR s 0 c3.res) (by kernel_rfl : finSt c3.fin _ = f3_fin false)).trans (f3_out false)))
      · replace hS := cond_f hc hS
        refine zlRun (n := 19) (j := 29) rfl (by kernel_rfl) ?_
        refine zlEnd (by kernel_rfl) ?_
        refine zkSeq ?_
        refine zrRet ?_
        refine zkNil ?_
        exact endQ hS hQ (fRet (by kernel_rfl) ((congrArg (fun s => outR s 0 c3.res) (by kernel_rfl : finSt c3.fin _ = f3_fin false)).trans (f3_out false)))
    · replace hS := cond_f hc hS
      refine zlRun (n := 22) (j := 29) rfl (by kernel_rfl) ?_
      refine zlEnd (by kernel_rfl) ?_
      refine zkSeq ?_
      refine zrRet ?_
      refine zkNil ?_
      exact endQ hS hQ (fRet (by kernel_rfl) ((congrArg (fun s => outR s 0 c3.res) (by kernel_rfl : finSt c3.fin _ = f3_fin false)).trans (f3_out false)))
  · replace hS := cond_f hc hS
    refine zlRun (n := 27) (j := 29) rfl (by kernel_rfl) ?_
    refine zlEnd (by kernel_rfl) ?_
    refine zkSeq ?_
    refine zrRet ?_
    refine zkNil ?_
    exact endQ hS hQ (fRet (by kernel_rfl) ((congrArg (fun s => outR s 0 c3.res) (by kernel_rfl : finSt c3.fin _ = f3_fin false)).trans (f3_out false)))
/- farwriter/farkeep.ClipCuts -/
def f4_fin (p57 : Bool) : St := ⟨(up (fun _ => .un) 6 (.d (.bool p57))), (hB fun _ => 0)⟩
theorem f4_out (p57 : Bool) : outR (f4_fin p57) 0 c4.res = some ((.d (.bool p57)), []) := by
  kernel_rfl
def f4_Q (r : Bool) (e : PX) (st : St) : Prop := DoneF c4 0 ((.d (.bool r)), []) e st
def f4_l1_J (a1 : GScreen) (a2 : GPlace) (a3 : GPlace) (x : (List Int) × (List Int) × Int) : St := ⟨(up (up (up (up (up (up (fun _ => .un) 10 (.d (.int .i64 x.2.2))) 9 (.r (.msl 80 0 0 x.2.1.length))) 7 (.r (.msl 144 0 0 x.1.length))) 5 (.r (.ptr 48 0 0))) 4 (.r (.ptr 40 0 0))) 3 (.r (.ptr 32 0 0))), (up (up (up (up (up (hB fun _ => 0) 80 ⟨0, some (.own 3 1 ((eInt .i64).cells x.2.1))⟩) 144 ⟨0, some (.own 3 1 ((eInt .i64).cells x.1))⟩) 48 ⟨0, some (.box ((.d (.int .i64 a3.Row)) :: ((.d (.int .i64 a3.Col)) :: [])))⟩) 40 ⟨0, some (.box ((.d (.int .i64 a2.Row)) :: ((.d (.int .i64 a2.Col)) :: [])))⟩) 32 ⟨0, some (.box (bx_GScreen a1 (.d (.sl a1.Grid.Cells.length (e_GCell.cells a1.Grid.Cells))) (.d (.sl a1.Other.Cells.length (e_GCell.cells a1.Other.Cells))) (.d (.sl a1.Past.length (e_GLine.cells a1.Past)))))⟩)⟩
def f4_l1_H (a1 : GScreen) (a2 : GPlace) (a3 : GPlace) (x : (List Int) × (List Int) × Int) (st : St) : Prop := keepSt [3, 4, 5, 7, 9, 10] [(32, .id 32), (40, .id 40), (48, .id 48), (144, .id 144), (80, .id 80)] [] st = f4_l1_J a1 a2 a3 x
def f4_l1_e0_J (a1 : GScreen) (a2 : GPlace) (a3 : GPlace) (p113 : List Int) (p114 : List Int) : St := ⟨(up (up (fun _ => .un) 9 (.r (.msl 80 0 0 p114.length))) 7 (.r (.msl 144 0 0 p113.length))), (up (up (hB fun _ => 0) 80 ⟨0, some (.own 3 1 ((eInt .i64).cells p114))⟩) 144 ⟨0, some (.own 3 1 ((eInt .i64).cells p113))⟩)⟩
def f4_l1_X (a1 : GScreen) (a2 : GPlace) (a3 : GPlace) (z : ((List Int) × (List Int)) ⊕ Bool) (e : PX) (st : St) : Prop := (match z with | .inl z => e = .exit 0 ∧ st = f4_l1_e0_J a1 a2 a3 z.1 z.2 | .inr z => e = .ret ∧ finSt c4.fin st = f4_fin z)
def f4_l1_j3_J (a1 : GScreen) (a2 : GPlace) (a3 : GPlace) (p129 : List Int) (p130 : List Int) (p131 : Int) : St := ⟨(up (up (up (up (up (up (fun _ => .un) 10 (.d (.int .i64 p131))) 9 (.r (.msl 80 0 0 p130.length))) 7 (.r (.msl 144 0 0 p129.length))) 5 (.r (.ptr 48 0 0))) 4 (.r (.ptr 40 0 0))) 3 (.r (.ptr 32 0 0))), (up (up (up (up (up (hB fun _ => 0) 80 ⟨0, some (.own 3 1 ((eInt .i64).cells p130))⟩) 144 ⟨0, some (.own 3 1 ((eInt .i64).cells p129))⟩) 48 ⟨0, some (.box ((.d (.int .i64 a3.Row)) :: ((.d (.int .i64 a3.Col)) :: [])))⟩) 40 ⟨0, some (.box ((.d (.int .i64 a2.Row)) :: ((.d (.int .i64 a2.Col)) :: [])))⟩) 32 ⟨0, some (.box (bx_GScreen a1 (.d (.sl a1.Grid.Cells.length (e_GCell.cells a1.Grid.Cells))) (.d (.sl a1.Other.Cells.length (e_GCell.cells a1.Other.Cells))) (.d (.sl a1.Past.length (e_GLine.cells a1.Past)))))⟩)⟩
noncomputable def f4_l1_j3 (a1 : GScreen) (a2 : GPlace) (a3 : GPlace) (p129 : List Int) (p130 : List Int) (p131 : Int) : Option (((List Int) × (List Int) × Int) ⊕ (((List Int) × (List Int)) ⊕ Bool)) := ((f7 a1 (GPlace.mk p131 a2.Col) (GPlace.mk p131 a3.Col) false).bind fun z27 => (bif (!decide (z27.2 = 0)) then (some (.inr (.inr false))) else ((app? 8 p130 z27.1).bind fun z28 => (some (.inl (p129, z28, (IntKind.i64.wrap (p131 + 1))))))))
theorem f4_l1_j3_ok {d : Nat} (hd : 9 ≤ d) (a1 : GScreen) (a2 : GPlace) (a3 : GPlace) {r : ((List Int) × (List Int) × Int) ⊕ (((List Int) × (List Int)) ⊕ Bool)} {Q : PX → St → Prop} (hQ : ∀ e st', finL (f4_l1_H a1 a2 a3) (f4_l1_X a1 a2 a3) r e st' → Q e st') (p129 : List Int) (p130 : List Int) (p131 : Int) (hS : f4_l1_j3 a1 a2 a3 p129 p130 p131 = some r) {st : St} (he : keepSt [3, 4, 5, 7, 9, 10] [(32, .id 32), (40, .id 40), (48, .id 48), (144, .id 144), (80, .id 80)] [] st = f4_l1_j3_J a1 a2 a3 p129 p130 p131) : ZR (lev codes baseL (d - 1)) Q c4_1 [.blk 1, .seq c4_2] st := by
  refine zrKeep he ?_
  unfold f4_l1_j3 at hS
  refine zrSeq ?_
  refine zrReg ?_
  refine zlRun (n := 9) (j := 9) rfl (by kernel_rfl) ?_
  refine bindE hS (fun z27 hz27 hS => ?_)
  refine zlOp (d := some 66) (op := (.call 7 [(.tmp 57), (.tmp 61), (.tmp 65), (.const (.bool .false))])) (g := none) (j := 10) rfl (by kernel_rfl) (by kernel_rfl) (ev_callA (by kernel_rfl) (f7_ok (d - 1) (dpt hd rfl) a1 (GPlace.mk p131 a2.Col) (GPlace.mk p131 a3.Col) false z27 hz27) (by kernel_rfl) (by kernel_rfl)) ?_
  refine zlRun (n := 5) (j := 15) rfl (by kernel_rfl) ?_
  refine zlEnd (by kernel_rfl) ?_
  refine zkSeq ?_
  refine zrSeq ?_
  refine zrSeq ?_
  refine zrReg ?_
  refine zlRun (n := 1) (j := 1) rfl (by kernel_rfl) ?_
  refine zlBool (d := 70) (op := (.cmpI .neq (.tmp 69) (.const (.int .i64 0)))) (g := none) (j := 2) (!decide (z27.2 = 0)) rfl (by kernel_rfl) (by kernel_rfl) (by kernel_rfl) (fun hc => ?_) (fun hc => ?_)
  · replace hS := cond_t hc hS
    refine zlEnd (by kernel_rfl) ?_
    refine zkSeq ?_
    refine zrCondT (by kernel_rfl) ?_
    refine zrSeq ?_
    refine zrReg ?_
    refine zlRun (n := 1) (j := 1) rfl (by kernel_rfl) ?_
    refine zlEnd (by kernel_rfl) ?_
    refine zkSeq ?_
    refine zrRet ?_
    refine zkSeqR ?_
    refine zkBlkR ?_
    refine zkSeqR ?_
    refine zkNil ?_
    exact endQ hS hQ (finL_x (by intro h; cases h) (by show _ = _ ∧ _ = _; exact ⟨rfl, by kernel_rfl⟩))
  · replace hS := cond_f hc hS
    refine zlEnd (by kernel_rfl) ?_
    refine zkSeq ?_
    refine zrCondF (by kernel_rfl) ?_
    refine zrSkip ?_
    refine zkSeq ?_
    refine zrReg ?_
    refine zlRun (n := 2) (j := 2) rfl (by kernel_rfl) ?_
    refine bindE hS (fun z28 hz28 hS => ?_)
    refine zlOp (d := some 73) (op := (.app 3 1 8 (.tmp 71) (.tmp 72))) (g := none) (v := (.r (.msl 80 1 0 z28.length))) (ups := [(80, ⟨1, some (.own 3 1 ((eInt .i64).cells z28))⟩)]) (j := 3) rfl (by kernel_rfl) (by kernel_rfl) (ev_app (eInt .i64) (b := 80) (g := 0) (n := p130.length) (xs := p130) (ys := z27.1) ((congrArg (asL _) (by kernel_rfl : ρof _ (.tmp 72) = (.r (.msl 536 1 0 z27.1.length)))).trans (as_whole (eInt .i64) (e := 3) (k := 1) (xs := z27.1) (by kernel_rfl) rfl rfl)) rfl (by kernel_rfl) rfl (by kernel_rfl) rfl hz28) ?_
    refine zlRun (n := 1) (j := 4) rfl (by kernel_rfl) ?_
    refine zlEnd (by kernel_rfl) ?_
    refine zkBlk ?_
    refine zkSeq ?_
    refine zrReg ?_
    refine zlRun (n := 3) (j := 3) rfl (by kernel_rfl) ?_
    refine zlEnd (by kernel_rfl) ?_
    refine zkNil ?_
    exact endQ hS hQ (finL_n (by show keepSt _ _ _ _ = _; kernel_rfl))
def f4_l1_j2_J (a1 : GScreen) (a2 : GPlace) (a3 : GPlace) (p119 : List Int) (p120 : List Int) (p121 : Int) : St := ⟨(up (up (up (up (up (up (fun _ => .un) 10 (.d (.int .i64 p121))) 9 (.r (.msl 80 0 0 p120.length))) 7 (.r (.msl 144 0 0 p119.length))) 5 (.r (.ptr 48 0 0))) 4 (.r (.ptr 40 0 0))) 3 (.r (.ptr 32 0 0))), (up (up (up (up (up (hB fun _ => 0) 80 ⟨0, some (.own 3 1 ((eInt .i64).cells p120))⟩) 144 ⟨0, some (.own 3 1 ((eInt .i64).cells p119))⟩) 48 ⟨0, some (.box ((.d (.int .i64 a3.Row)) :: ((.d (.int .i64 a3.Col)) :: [])))⟩) 40 ⟨0, some (.box ((.d (.int .i64 a2.Row)) :: ((.d (.int .i64 a2.Col)) :: [])))⟩) 32 ⟨0, some (.box (bx_GScreen a1 (.d (.sl a1.Grid.Cells.length (e_GCell.cells a1.Grid.Cells))) (.d (.sl a1.Other.Cells.length (e_GCell.cells a1.Other.Cells))) (.d (.sl a1.Past.length (e_GLine.cells a1.Past)))))⟩)⟩
noncomputable def f4_l1_j2 (a1 : GScreen) (a2 : GPlace) (a3 : GPlace) (p119 : List Int) (p120 : List Int) (p121 : Int) : Option (((List Int) × (List Int) × Int) ⊕ (((List Int) × (List Int)) ⊕ Bool)) := (bif (decide ((if a3.Row < a2.Row then a3.Row else a2.Row) < p121)) then ((app? 8 p120 ([10] : List Int)).bind fun z29 => (f4_l1_j3 a1 a2 a3 p119 z29 p121)) else (f4_l1_j3 a1 a2 a3 p119 p120 p121))
theorem f4_l1_j2_ok {d : Nat} (hd : 9 ≤ d) (a1 : GScreen) (a2 : GPlace) (a3 : GPlace) {r : ((List Int) × (List Int) × Int) ⊕ (((List Int) × (List Int)) ⊕ Bool)} {Q : PX → St → Prop} (hQ : ∀ e st', finL (f4_l1_H a1 a2 a3) (f4_l1_X a1 a2 a3) r e st' → Q e st') (p119 : List Int) (p120 : List Int) (p121 : Int) (hS : f4_l1_j2 a1 a2 a3 p119 p120 p121 = some r) {st : St} (he : keepSt [3, 4, 5, 7, 9, 10] [(32, .id 32), (40, .id 40), (48, .id 48), (144, .id 144), (80, .id 80)] [] st = f4_l1_j2_J a1 a2 a3 p119 p120 p121) : ZR (lev codes baseL (d - 1)) Q c4_3 [] st := by
  refine zrKeep he ?_
  unfold f4_l1_j2 at hS
  refine zrSeq ?_
  refine zrBlk ?_
  refine zrSeq ?_
  refine zrSeq ?_
  refine zrReg ?_
  refine zlRun (n := 6) (j := 6) rfl (by kernel_rfl) ?_
  refine zlBool (d := 52) (op := (.cmpI .gtr (.tmp 46) (.tmp 51))) (g := none) (j := 7) (decide ((if a3.Row < a2.Row then a3.Row else a2.Row) < p121)) rfl (by kernel_rfl) (by kernel_rfl) (by kernel_rfl) (fun hc => ?_) (fun hc => ?_)
  · replace hS := cond_t hc hS
    refine zlEnd (by kernel_rfl) ?_
    refine zkSeq ?_
    refine zrCondT (by kernel_rfl) ?_
    refine zrReg ?_
    refine zlRun (n := 2) (j := 2) rfl (by kernel_rfl) ?_
    refine bindE hS (fun z29 hz29 hS => ?_)
    refine zlOp (d := some 55) (op := (.app 3 1 8 (.tmp 53) (.tmp 54))) (g := none) (v := (.r (.msl 80 1 0 z29.length))) (ups := [(80, ⟨1, some (.own 3 1 ((eInt .i64).cells z29))⟩)]) (j := 3) rfl (by kernel_rfl) (by kernel_rfl) (ev_app (eInt .i64) (b := 80) (g := 0) (n := p120.length) (xs := p120) (ys := [10]) ((congrArg (asL _) (by kernel_rfl : ρof _ (.tmp 54) = (.r (.msl 440 1 0 (([10] : List Int).length))))).trans (as_whole (eInt .i64) (e := 3) (k := 1) (xs := [10]) (by kernel_rfl) rfl rfl)) rfl (by kernel_rfl) rfl (by kernel_rfl) rfl hz29) ?_
    refine zlRun (n := 1) (j := 4) rfl (by kernel_rfl) ?_
    refine zlEnd (by kernel_rfl) ?_
    refine zkSeq ?_
    exact f4_l1_j3_ok hd a1 a2 a3 hQ p119 z29 p121 hS (by kernel_rfl)
  · replace hS := cond_f hc hS
    refine zlEnd (by kernel_rfl) ?_
    refine zkSeq ?_
    refine zrCondF (by kernel_rfl) ?_
    refine zrSkip ?_
    refine zkSeq ?_
    exact f4_l1_j3_ok hd a1 a2 a3 hQ p119 p120 p121 hS (by kernel_rfl)
noncomputable def f4_l1 (a1 : GScreen) (a2 : GPlace) (a3 : GPlace) (x : (List Int) × (List Int) × Int) : Option (((List Int) × (List Int) × Int) ⊕ (((List Int) × (List Int)) ⊕ Bool)) := (bif (decide (x.2.2 ≤ (if a3.Row > a2.Row then a3.Row else a2.Row))) then (f4_l1_j2 a1 a2 a3 x.1 x.2.1 x.2.2) else (some (.inr (.inl (x.1, x.2.1)))))
theorem f4_l1_ok {d : Nat} (hd : 9 ≤ d) (a1 : GScreen) (a2 : GPlace) (a3 : GPlace) {r : ((List Int) × (List Int) × Int) ⊕ (((List Int) × (List Int)) ⊕ Bool)} {Q : PX → St → Prop} (hQ : ∀ e st', finL (f4_l1_H a1 a2 a3) (f4_l1_X a1 a2 a3) r e st' → Q e st') {x : (List Int) × (List Int) × Int} (hS : f4_l1 a1 a2 a3 x = some r) {st : St} (he : f4_l1_H a1 a2 a3 x st) : ZR (lev codes baseL (d - 1)) Q c4_4 [] st := by
  refine zrKeep he ?_
  unfold f4_l1 at hS
  refine zrSeq ?_
  refine zrSeq ?_
  refine zrReg ?_
  refine zlRun (n := 6) (j := 6) rfl (by kernel_rfl) ?_
  refine zlBool (d := 43) (op := (.cmpI .leq (.tmp 37) (.tmp 42))) (g := none) (j := 7) (decide (x.2.2 ≤ (if a3.Row > a2.Row then a3.Row else a2.Row))) rfl (by kernel_rfl) (by kernel_rfl) (by kernel_rfl) (fun hc => ?_) (fun hc => ?_)
  · replace hS := cond_t hc hS
    refine zlEnd (by kernel_rfl) ?_
    refine zkSeq ?_
    refine zrCondT (by kernel_rfl) ?_
    refine zrSkip ?_
    refine zkSeq ?_
    exact f4_l1_j2_ok hd a1 a2 a3 hQ x.1 x.2.1 x.2.2 hS (by kernel_rfl)
  · replace hS := cond_f hc hS
    refine zlEnd (by kernel_rfl) ?_
    refine zkSeq ?_
    refine zrCondF (by kernel_rfl) ?_
    refine zrKeep (J := f4_l1_e0_J a1 a2 a3 x.1 x.2.1) (by kernel_rfl) ?_
    refine zrExit ?_
    refine zkSeqX ?_
    refine zkNil ?_
    exact endQ hS hQ (finL_x (by intro h; cases h) (by show _ = _ ∧ _ = _; exact ⟨rfl, rfl⟩))
def f4_j0_J (a1 : GScreen) (a2 : GPlace) (a3 : GPlace) (p63 : List Int) : St := ⟨(up (up (up (up (fun _ => .un) 7 (.r (.msl 144 0 0 p63.length))) 5 (.r (.ptr 48 0 0))) 4 (.r (.ptr 40 0 0))) 3 (.r (.ptr 32 0 0))), (up (up (up (up (hB fun _ => 0) 144 ⟨0, some (.own 3 1 ((eInt .i64).cells p63))⟩) 48 ⟨0, some (.box ((.d (.int .i64 a3.Row)) :: ((.d (.int .i64 a3.Col)) :: [])))⟩) 40 ⟨0, some (.box ((.d (.int .i64 a2.Row)) :: ((.d (.int .i64 a2.Col)) :: [])))⟩) 32 ⟨0, some (.box (bx_GScreen a1 (.d (.sl a1.Grid.Cells.length (e_GCell.cells a1.Grid.Cells))) (.d (.sl a1.Other.Cells.length (e_GCell.cells a1.Other.Cells))) (.d (.sl a1.Past.length (e_GLine.cells a1.Past)))))⟩)⟩
noncomputable def f4_j0 (a1 : GScreen) (a2 : GPlace) (a3 : GPlace) (p63 : List Int) : Option (Bool) := ((loopO (f4_l1 a1 a2 a3) (p63, [], (if a3.Row < a2.Row then a3.Row else a2.Row))).bind fun z30 => (Sum.elim (fun z31 => ((f9 z31.1 z31.2).bind fun z33 => (some z33))) (fun z32 => (some z32)) z30))
theorem f4_j0_ok {d : Nat} (hd : 9 ≤ d) (a1 : GScreen) (a2 : GPlace) (a3 : GPlace) {r : Bool} {Q : PX → St → Prop} (hQ : ∀ e st', f4_Q r e st' → Q e st') (p63 : List Int) (hS : f4_j0 a1 a2 a3 p63 = some r) {st : St} (he : keepSt [3, 4, 5, 7] [(32, .id 32), (40, .id 40), (48, .id 48), (144, .id 144)] [] st = f4_j0_J a1 a2 a3 p63) : ZR (lev codes baseL (d - 1)) Q c4_5 [] st := by
  refine zrKeep he ?_
  unfold f4_j0 at hS
  refine zrSeq ?_
  refine zrReg ?_
  refine zlRun (n := 1) (j := 1) rfl (by kernel_rfl) ?_
  refine zlEnd (by kernel_rfl) ?_
  refine zkSeq ?_
  refine zrSeq ?_
  refine zrSeq ?_
  refine zrReg ?_
  refine zlRun (n := 6) (j := 6) rfl (by kernel_rfl) ?_
  refine zlEnd (by kernel_rfl) ?_
  refine zkSeq ?_
  refine zrBlk ?_
  refine bindE hS (fun z30 hz30 hS => ?_)
  refine zrLoop (f4_l1_H a1 a2 a3) (f4_l1_X a1 a2 a3) (fun x st r Q h0 hS hQ => f4_l1_ok hd a1 a2 a3 hQ hS h0) (x := (p63, [], (if a3.Row < a2.Row then a3.Row else a2.Row))) (z := z30) (by show keepSt _ _ _ _ = _; kernel_rfl) hz30 ?_
  rcases z30 with z31 | z32
  · replace hS := (show _ = _ from hS)
    simp only [Sum.elim_inl] at hS
    intro e st' _ hX
    obtain ⟨rfl, rfl⟩ : _ ∧ _ := hX
    refine zkBlkX ?_
    refine zkSeq ?_
    refine zrSeq ?_
    refine zrReg ?_
    refine zlRun (n := 2) (j := 2) rfl (by kernel_rfl) ?_
    refine bindE hS (fun z33 hz33 hS => ?_)
    refine zlOp (d := some 76) (op := (.call 9 [(.tmp 74), (.tmp 75)])) (g := none) (j := 3) rfl (by kernel_rfl) (by kernel_rfl) (ev_callB (args := [(.r (.msl 144 0 0 z31.1.length)), (.r (.msl 80 0 0 z31.2.length))]) (by kernel_rfl) (l_cons (l_own (eInt .i64) (e := 3) (k := 1) (xs := z31.1) (by kernel_rfl) rfl rfl) (l_cons (l_own (eInt .i64) (e := 3) (k := 1) (xs := z31.2) (by kernel_rfl) rfl rfl) l_nil)) (f9_ok (d - 1) (dpt hd rfl) z31.1 z31.2 z33 hz33) (by kernel_rfl) (by kernel_rfl)) ?_
    refine zlRun (n := 1) (j := 4) rfl (by kernel_rfl) ?_
    refine zlEnd (by kernel_rfl) ?_
    refine zkSeq ?_
    refine zrRet ?_
    refine zkNil ?_
    exact endQ hS hQ (fRet (by kernel_rfl) ((congrArg (fun s => outR s 0 c4.res) (by kernel_rfl : finSt c4.fin _ = f4_fin z33)).trans (f4_out z33)))
  · simp only [Sum.elim_inr] at hS
    intro e st' _ hX
    obtain ⟨rfl, hX⟩ : _ ∧ _ := hX
    refine zkBlkR ?_
    refine zkSeqR ?_
    refine zkNil ?_
    exact endQ hS hQ (fRet (by kernel_rfl) ((congrArg (fun s => outR s 0 c4.res) hX).trans (f4_out z32)))
def f4_j4_J (a1 : GScreen) (a2 : GPlace) (a3 : GPlace) (p133 : List Int) : St := ⟨(up (fun _ => .un) 7 (.r (.msl 144 0 0 p133.length))), (up (hB fun _ => 0) 144 ⟨0, some (.own 3 1 ((eInt .i64).cells p133))⟩)⟩
noncomputable def f4_j4 (a1 : GScreen) (a2 : GPlace) (a3 : GPlace) (p133 : List Int) : Option (Bool) := (libLives.bind fun z35 => (bif z35 then (bif (decide ((p133.length : Int) = 0)) then (some true) else (some false)) else (some false)))
theorem f4_j4_ok {d : Nat} (hd : 9 ≤ d) (a1 : GScreen) (a2 : GPlace) (a3 : GPlace) {r : Bool} {Q : PX → St → Prop} (hQ : ∀ e st', f4_Q r e st' → Q e st') (p133 : List Int) (hS : f4_j4 a1 a2 a3 p133 = some r) {st : St} (he : keepSt [7] [(144, .id 144)] [] st = f4_j4_J a1 a2 a3 p133) : ZR (lev codes baseL (d - 1)) Q c4_6 [.seq c4_5] st := by
  refine zrKeep he ?_
  unfold f4_j4 at hS
  refine zrSeq ?_
  refine zrReg ?_
  refine bindE hS (fun z35 hz35 hS => ?_)
  refine zlOp (d := some 26) (op := (.call 8 [])) (g := none) (j := 1) rfl (by kernel_rfl) (by kernel_rfl) (ev_callA (by kernel_rfl) (libLives_ok (d - 1) (dpt hd rfl)  z35 hz35) (by kernel_rfl) (by kernel_rfl)) ?_
  refine zlRun (n := 1) (j := 2) rfl (by kernel_rfl) ?_
  refine zlSplit 27 z35 (by kernel_rfl) (fun hc => ?_) (fun hc => ?_)
  · replace hS := cond_t hc hS
    refine zlRun (n := 2) (j := 4) rfl (by kernel_rfl) ?_
    refine zlBool (d := 30) (op := (.cmpI .eql (.tmp 29) (.const (.int .i64 0)))) (g := (some (27, true))) (j := 5) (decide ((p133.length : Int) = 0)) rfl (by kernel_rfl) (by kernel_rfl) (by kernel_rfl) (fun hc => ?_) (fun hc => ?_)
    · replace hS := cond_t hc hS
      refine zlRun (n := 2) (j := 7) rfl (by kernel_rfl) ?_
      refine zlEnd (by kernel_rfl) ?_
      refine zkSeq ?_
      refine zrRet ?_
      refine zkSeqR ?_
      refine zkNil ?_
      exact endQ hS hQ (fRet (by kernel_rfl) ((congrArg (fun s => outR s 0 c4.res) (by kernel_rfl : finSt c4.fin _ = f4_fin true)).trans (f4_out true)))
    · replace hS := cond_f hc hS
      refine zlRun (n := 2) (j := 7) rfl (by kernel_rfl) ?_
      refine zlEnd (by kernel_rfl) ?_
      refine zkSeq ?_
      refine zrRet ?_
      refine zkSeqR ?_
      refine zkNil ?_
      exact endQ hS hQ (fRet (by kernel_rfl) ((congrArg (fun s => outR s 0 c4.res) (by kernel_rfl : finSt c4.fin _ = f4_fin false)).trans (f4_out false)))
  · replace hS := cond_f hc hS
    refine zlRun (n := 5) (j := 7) rfl (by kernel_rfl) ?_
    refine zlEnd (by kernel_rfl) ?_
    refine zkSeq ?_
    refine zrRet ?_
    refine zkSeqR ?_
    refine zkNil ?_
    exact endQ hS hQ (fRet (by kernel_rfl) ((congrArg (fun s => outR s 0 c4.res) (by kernel_rfl : finSt c4.fin _ = f4_fin false)).trans (f4_out false)))
noncomputable def f4 (a1 : GScreen) (a2 : GPlace) (a3 : GPlace) : Option (Bool) := ((f7 a1 a2 a3 true).bind fun z14 => (libLives.bind fun z36 => (bif (!z36) then (f4_j4 a1 a2 a3 z14.1) else (bif (!decide (z14.2 = 0)) then (f4_j4 a1 a2 a3 z14.1) else (f4_j0 a1 a2 a3 z14.1)))))
theorem f4_ok (d : Nat) (hd : 9 ≤ d) (a1 : GScreen) (a2 : GPlace) (a3 : GPlace) (r : Bool) (hS : f4 a1 a2 a3 = some r) : lev codes baseL d 4 [(.agg ((.d (.int .i64 a1.Grid.Wide)) :: ((.d (.int .i64 a1.Grid.High)) :: ((.d (.sl a1.Grid.Cells.length (e_GCell.cells a1.Grid.Cells))) :: ((.d (.int .i64 a1.Row)) :: ((.d (.int .i64 a1.Col)) :: ((.d (.bool a1.Late)) :: ((.d (.int .i64 a1.Top)) :: ((.d (.int .i64 a1.Bottom)) :: ((.d (.int .i64 a1.Pen.Flags)) :: ((.d (.int .i64 a1.Pen.Fore)) :: ((.d (.int .i64 a1.Pen.Back)) :: ((.d (.int .i64 a1.Modes)) :: (((eInt .u64).row 4 a1.Stops.Bits) ++ ((.d (.int .i64 a1.Pages.1)) :: ((.d (.int .i64 a1.Pages.2)) :: ((.d (.int .i64 a1.Shift)) :: ((.d (.int .i64 a1.Saved.Row)) :: ((.d (.int .i64 a1.Saved.Col)) :: ((.d (.int .i64 a1.Saved.Pen.Flags)) :: ((.d (.int .i64 a1.Saved.Pen.Fore)) :: ((.d (.int .i64 a1.Saved.Pen.Back)) :: ((.d (.bool a1.Saved.Origin)) :: ((.d (.int .i64 a1.Saved.Pages.1)) :: ((.d (.int .i64 a1.Saved.Pages.2)) :: ((.d (.int .i64 a1.Saved.Shift)) :: ((.d (.int .i64 a1.Other.Wide)) :: ((.d (.int .i64 a1.Other.High)) :: ((.d (.sl a1.Other.Cells.length (e_GCell.cells a1.Other.Cells))) :: ((.d (.str a1.Title)) :: ((.d (.sl a1.Past.length (e_GLine.cells a1.Past))) :: []))))))))))))))))))))))))))))))), (.agg ((.d (.int .i64 a2.Row)) :: ((.d (.int .i64 a2.Col)) :: []))), (.agg ((.d (.int .i64 a3.Row)) :: ((.d (.int .i64 a3.Col)) :: [])))] [] = some ((.d (.bool r)), []) := by
  refine lev_go codes4 rfl rfl (Nat.le_trans (Nat.le_of_ble_eq_true rfl) hd) fun Q hQ => ?_
  unfold f4 at hS
  show ZR _ Q c4_b [] _
  replace hQ : ∀ e st', f4_Q r e st' → Q e st' := hQ
  refine zrSeq ?_
  refine zrReg ?_
  refine zlRun (n := 4) (j := 4) rfl (by kernel_rfl) ?_
  refine zlEnd (by kernel_rfl) ?_
  refine zkSeq ?_
  refine zrSeq ?_
  refine zrReg ?_
  refine zlRun (n := 3) (j := 3) rfl (by kernel_rfl) ?_
  refine bindE hS (fun z14 hz14 hS => ?_)
  refine zlOp (d := some 17) (op := (.call 7 [(.tmp 14), (.tmp 15), (.tmp 16), (.const (.bool .true))])) (g := none) (j := 4) rfl (by kernel_rfl) (by kernel_rfl) (ev_callA (by kernel_rfl) (f7_ok (d - 1) (dpt hd rfl) a1 a2 a3 true z14 hz14) (by kernel_rfl) (by kernel_rfl)) ?_
  refine zlRun (n := 5) (j := 9) rfl (by kernel_rfl) ?_
  refine zlEnd (by kernel_rfl) ?_
  refine zkSeq ?_
  refine zrSeq ?_
  refine zrSeq ?_
  refine zrReg ?_
  refine bindE hS (fun z36 hz36 hS => ?_)
  refine zlOp (d := some 20) (op := (.call 8 [])) (g := none) (j := 1) rfl (by kernel_rfl) (by kernel_rfl) (ev_callA (by kernel_rfl) (libLives_ok (d - 1) (dpt hd rfl)  z36 hz36) (by kernel_rfl) (by kernel_rfl)) ?_
  refine zlRun (n := 2) (j := 3) rfl (by kernel_rfl) ?_
  refine zlSplit 22 (!z36) (by kernel_rfl) (fun hc => ?_) (fun hc => ?_)
  · replace hS := cond_t hc hS
    refine zlRun (n := 3) (j := 6) rfl (by kernel_rfl) ?_
    refine zlEnd (by kernel_rfl) ?_
    refine zkSeq ?_
    refine zrCondT (by kernel_rfl) ?_
    exact f4_j4_ok hd a1 a2 a3 hQ z14.1 hS (by kernel_rfl)
  · replace hS := cond_f hc hS
    refine zlRun (n := 1) (j := 4) rfl (by kernel_rfl) ?_
    refine zlBool (d := 24) (op := (.cmpI .neq (.tmp 23) (.const (.int .i64 0)))) (g := (some (22, false))) (j := 5) (!decide (z14.2 = 0)) rfl (by kernel_rfl) (by kernel_rfl) (by kernel_rfl) (fun hc => ?_) (fun hc => ?_)
    · replace hS := cond_t hc hS
      refine zlRun (n := 1) (j := 6) rfl (by kernel_rfl) ?_
      refine zlEnd (by kernel_rfl) ?_
      refine zkSeq ?_
      refine zrCondT (by kernel_rfl) ?_
      exact f4_j4_ok hd a1 a2 a3 hQ z14.1 hS (by kernel_rfl)
    · replace hS := cond_f hc hS
      refine zlRun (n := 1) (j := 6) rfl (by kernel_rfl) ?_
      refine zlEnd (by kernel_rfl) ?_
      refine zkSeq ?_
      refine zrCondF (by kernel_rfl) ?_
      refine zrSkip ?_
      refine zkSeq ?_
      exact f4_j0_ok hd a1 a2 a3 hQ z14.1 hS (by kernel_rfl)
/- farwriter/farkeep.ClipAll -/
def f5_fin (p595 : Bool) : St := ⟨(up (fun _ => .un) 2 (.d (.bool p595))), (hB fun _ => 0)⟩
theorem f5_out (p595 : Bool) : outR (f5_fin p595) 0 c5.res = some ((.d (.bool p595)), []) := by
  kernel_rfl
def f5_Q (r : Bool) (e : PX) (st : St) : Prop := DoneF c5 0 ((.d (.bool r)), []) e st
def f5_j1_J (a1 : GScreen) (p1190 : List Int) (p1191 : Int) (p1192 : List Int) : St := ⟨(up (up (up (fun _ => .un) 7 (.r (.msl 64 0 0 p1192.length))) 6 (.d (.int .i64 p1191))) 5 (.r (.msl 336 0 0 p1190.length))), (up (up (hB fun _ => 0) 64 ⟨0, some (.own 3 1 ((eInt .i64).cells p1192))⟩) 336 ⟨0, some (.own 3 1 ((eInt .i64).cells p1190))⟩)⟩
noncomputable def f5_j1 (a1 : GScreen) (p1190 : List Int) (p1191 : Int) (p1192 : List Int) : Option (Bool) := (bif (decide (p1191 = 0)) then ((f9 p1190 p1192).bind fun z104 => (some z104)) else (some false))
theorem f5_j1_ok {d : Nat} (hd : 9 ≤ d) (a1 : GScreen) {r : Bool} {Q : PX → St → Prop} (hQ : ∀ e st', f5_Q r e st' → Q e st') (p1190 : List Int) (p1191 : Int) (p1192 : List Int) (hS : f5_j1 a1 p1190 p1191 p1192 = some r) {st : St} (he : keepSt [5, 6, 7] [(336, .id 336), (64, .id 64)] [] st = f5_j1_J a1 p1190 p1191 p1192) : ZR (lev codes baseL (d - 1)) Q c5_1 [] st := by
  refine zrKeep he ?_
  unfold f5_j1 at hS
  refine zrSeq ?_
  refine zrReg ?_
  refine zlRun (n := 1) (j := 1) rfl (by kernel_rfl) ?_
  refine zlBool (d := 93) (op := (.cmpI .eql (.tmp 92) (.const (.int .i64 0)))) (g := none) (j := 2) (decide (p1191 = 0)) rfl (by kernel_rfl) (by kernel_rfl) (by kernel_rfl) (fun hc => ?_) (fun hc => ?_)
  · replace hS := cond_t hc hS
    refine zlRun (n := 3) (j := 5) rfl (by kernel_rfl) ?_
    refine bindE hS (fun z104 hz104 hS => ?_)
    refine zlOp (d := some 97) (op := (.call 9 [(.tmp 95), (.tmp 96)])) (g := (some (94, true))) (j := 6) rfl (by kernel_rfl) (by kernel_rfl) (ev_callB (args := [(.r (.msl 336 0 0 p1190.length)), (.r (.msl 64 0 0 p1192.length))]) (by kernel_rfl) (l_cons (l_own (eInt .i64) (e := 3) (k := 1) (xs := p1190) (by kernel_rfl) rfl rfl) (l_cons (l_own (eInt .i64) (e := 3) (k := 1) (xs := p1192) (by kernel_rfl) rfl rfl) l_nil)) (f9_ok (d - 1) (dpt hd rfl) p1190 p1192 z104 hz104) (by kernel_rfl) (by kernel_rfl)) ?_
    refine zlRun (n := 2) (j := 8) rfl (by kernel_rfl) ?_
    refine zlEnd (by kernel_rfl) ?_
    refine zkSeq ?_
    refine zrRet ?_
    refine zkNil ?_
    exact endQ hS hQ (fRet (by kernel_rfl) ((congrArg (fun s => outR s 0 c5.res) (by kernel_rfl : finSt c5.fin _ = f5_fin z104)).trans (f5_out z104)))
  · replace hS := cond_f hc hS
    refine zlRun (n := 6) (j := 8) rfl (by kernel_rfl) ?_
    refine zlEnd (by kernel_rfl) ?_
    refine zkSeq ?_
    refine zrRet ?_
    refine zkNil ?_
    exact endQ hS hQ (fRet (by kernel_rfl) ((congrArg (fun s => outR s 0 c5.res) (by kernel_rfl : finSt c5.fin _ = f5_fin false)).trans (f5_out false)))
def f5_l2_J (a1 : GScreen) (x : (List Int) × Int × (List Int) × (List (List GCell)) × Int × Int) : St := ⟨(up (up (up (up (up (up (fun _ => .un) 46 (.d (.int .i64 x.2.2.2.2.2))) 45 (.d (.int .i64 x.2.2.2.2.1))) 44 (.d (.sl x.2.2.2.1.length ((eSl e_GCell).cells x.2.2.2.1)))) 7 (.r (.msl 64 0 0 x.2.2.1.length))) 6 (.d (.int .i64 x.2.1))) 5 (.r (.msl 336 0 0 x.1.length))), (up (up (hB fun _ => 0) 64 ⟨0, some (.own 3 1 ((eInt .i64).cells x.2.2.1))⟩) 336 ⟨0, some (.own 3 1 ((eInt .i64).cells x.1))⟩)⟩
def f5_l2_H (a1 : GScreen) (x : (List Int) × Int × (List Int) × (List (List GCell)) × Int × Int) (st : St) : Prop := keepSt [5, 6, 7, 44, 45, 46] [(336, .id 336), (64, .id 64)] [] st = f5_l2_J a1 x
def f5_l2_e0_J (a1 : GScreen) (p1187 : List Int) (p1188 : Int) (p1189 : List Int) : St := ⟨(up (up (up (fun _ => .un) 7 (.r (.msl 64 0 0 p1189.length))) 6 (.d (.int .i64 p1188))) 5 (.r (.msl 336 0 0 p1187.length))), (up (up (hB fun _ => 0) 64 ⟨0, some (.own 3 1 ((eInt .i64).cells p1189))⟩) 336 ⟨0, some (.own 3 1 ((eInt .i64).cells p1187))⟩)⟩
def f5_l2_X (a1 : GScreen) (z : ((List Int) × Int × (List Int))) (e : PX) (st : St) : Prop := e = .exit 0 ∧ st = f5_l2_e0_J a1 z.1 z.2.1 z.2.2
def f5_l2_l7_J (a1 : GScreen) (x : (List Int) × Int × (List Int) × Int × (List (List GCell)) × Int × Int) : St := ⟨(up (up (up (up (up (up (up (fun _ => .un) 46 (.d (.int .i64 x.2.2.2.2.2.2))) 45 (.d (.int .i64 x.2.2.2.2.2.1))) 44 (.d (.sl x.2.2.2.2.1.length ((eSl e_GCell).cells x.2.2.2.2.1)))) 10 (.d (.int .i64 x.2.2.2.1))) 7 (.r (.msl 64 0 0 x.2.2.1.length))) 6 (.d (.int .i64 x.2.1))) 5 (.r (.msl 336 0 0 x.1.length))), (up (up (hB fun _ => 0) 64 ⟨0, some (.own 3 1 ((eInt .i64).cells x.2.2.1))⟩) 336 ⟨0, some (.own 3 1 ((eInt .i64).cells x.1))⟩)⟩
def f5_l2_l7_H (a1 : GScreen) (x : (List Int) × Int × (List Int) × Int × (List (List GCell)) × Int × Int) (st : St) : Prop := keepSt [5, 6, 7, 10, 44, 45, 46] [(336, .id 336), (64, .id 64)] [] st = f5_l2_l7_J a1 x
def f5_l2_l7_e4_J (a1 : GScreen) (p1422 : List Int) (p1423 : Int) (p1424 : List Int) (p1425 : List (List GCell)) (p1426 : Int) (p1427 : Int) : St := ⟨(up (up (up (up (up (up (fun _ => .un) 46 (.d (.int .i64 p1427))) 45 (.d (.int .i64 p1426))) 44 (.d (.sl p1425.length ((eSl e_GCell).cells p1425)))) 7 (.r (.msl 64 0 0 p1424.length))) 6 (.d (.int .i64 p1423))) 5 (.r (.msl 336 0 0 p1422.length))), (up (up (hB fun _ => 0) 64 ⟨0, some (.own 3 1 ((eInt .i64).cells p1424))⟩) 336 ⟨0, some (.own 3 1 ((eInt .i64).cells p1422))⟩)⟩
def f5_l2_l7_X (a1 : GScreen) (z : ((List Int) × Int × (List Int) × (List (List GCell)) × Int × Int)) (e : PX) (st : St) : Prop := e = .exit 4 ∧ st = f5_l2_l7_e4_J a1 z.1 z.2.1 z.2.2.1 z.2.2.2.1 z.2.2.2.2.1 z.2.2.2.2.2
noncomputable def f5_l2_l7 (a1 : GScreen) (x : (List Int) × Int × (List Int) × Int × (List (List GCell)) × Int × Int) : Option (((List Int) × Int × (List Int) × Int × (List (List GCell)) × Int × Int) ⊕ (((List Int) × Int × (List Int) × (List (List GCell)) × Int × Int))) := (bif (decide (x.2.2.2.1 < (x.2.2.1.length : Int))) then ((inR (IntKind.i64.wrap ((x.2.2.1.length : Int) - 1)) x.2.2.1.length).bind fun m121 => ((x.2.2.1[m121]?).bind fun z122 => (bif (decide (z122 = 32)) then ((sub? x.2.2.1 0 (IntKind.i64.wrap ((x.2.2.1.length : Int) - 1))).bind fun z123 => (some (.inl (x.1, x.2.1, z123, x.2.2.2.1, x.2.2.2.2.1, x.2.2.2.2.2.1, x.2.2.2.2.2.2)))) else (some (.inr (x.1, x.2.1, x.2.2.1, x.2.2.2.2.1, x.2.2.2.2.2.1, x.2.2.2.2.2.2)))))) else (some (.inr (x.1, x.2.1, x.2.2.1, x.2.2.2.2.1, x.2.2.2.2.2.1, x.2.2.2.2.2.2))))
theorem f5_l2_l7_ok {d : Nat} (hd : 9 ≤ d) (a1 : GScreen) {r : ((List Int) × Int × (List Int) × Int × (List (List GCell)) × Int × Int) ⊕ (((List Int) × Int × (List Int) × (List (List GCell)) × Int × Int))} {Q : PX → St → Prop} (hQ : ∀ e st', finL (f5_l2_l7_H a1) (f5_l2_l7_X a1) r e st' → Q e st') {x : (List Int) × Int × (List Int) × Int × (List (List GCell)) × Int × Int} (hS : f5_l2_l7 a1 x = some r) {st : St} (he : f5_l2_l7_H a1 x st) : ZR (lev codes baseL (d - 1)) Q c5_2 [] st := by
  refine zrKeep he ?_
  unfold f5_l2_l7 at hS
  refine zrSeq ?_
  refine zrSeq ?_
  refine zrReg ?_
  refine zlRun (n := 3) (j := 3) rfl (by kernel_rfl) ?_
  refine zlBool (d := 76) (op := (.cmpI .gtr (.tmp 74) (.tmp 75))) (g := none) (j := 4) (decide (x.2.2.2.1 < (x.2.2.1.length : Int))) rfl (by kernel_rfl) (by kernel_rfl) (by kernel_rfl) (fun hc => ?_) (fun hc => ?_)
  · replace hS := cond_t hc hS
    refine zlRun (n := 5) (j := 9) rfl (by kernel_rfl) ?_
    refine bindE hS (fun m121 hm121 hS => ?_)
    refine zlOp (d := some 82) (op := (.ixS 3 1 (.tmp 78) (.tmp 81))) (g := (some (77, true))) (v := (.r (.ptr 64 0 ((0 + m121) * 1)))) (ups := []) (j := 10) rfl (by kernel_rfl) (by kernel_rfl) (ev_ixM (kk := .i64) (b := 64) (g := 0) (l := 0) (n := x.2.2.1.length) (j := (IntKind.i64.wrap ((x.2.2.1.length : Int) - 1))) (cs := (eInt .i64).cells x.2.2.1) (by kernel_rfl) (by kernel_rfl) (by kernel_rfl) hm121) ?_
    refine bindE hS (fun z122 hz122 hS => ?_)
    refine zlOp (d := some 83) (op := (.load .false 1 (.tmp 82))) (g := (some (77, true))) (v := (.d (.int .i64 z122))) (ups := []) (j := 11) rfl (by kernel_rfl) (by kernel_rfl) (ev_loadM (eInt .i64) (b := 64) (g := 0) (o := (0 + m121) * 1) (e := 3) (k := 1) (m := m121) (fo := 0) (xs := x.2.2.1) (by kernel_rfl) (by kernel_rfl) (by rw [Nat.zero_add]; rfl) hz122 (by kernel_rfl) (by kernel_rfl) (by kernel_rfl)) ?_
    refine zlBool (d := 84) (op := (.cmpI .eql (.tmp 83) (.const (.int .i64 32)))) (g := (some (77, true))) (j := 12) (decide (z122 = 32)) rfl (by kernel_rfl) (by kernel_rfl) (by kernel_rfl) (fun hc => ?_) (fun hc => ?_)
    · replace hS := cond_t hc hS
      refine zlRun (n := 1) (j := 13) rfl (by kernel_rfl) ?_
      refine zlEnd (by kernel_rfl) ?_
      refine zkSeq ?_
      refine zrCondT (by kernel_rfl) ?_
      refine zrSkip ?_
      refine zkSeq ?_
      refine zrBlk ?_
      refine zrReg ?_
      refine zlRun (n := 4) (j := 4) rfl (by kernel_rfl) ?_
      refine bindE hS (fun z123 hz123 hS => ?_)
      refine zlOp (d := some 90) (op := (.slC 3 1 (.tmp 86) .none (.some (.tmp 89)))) (g := none) (v := (.r (.msl 64 1 0 z123.length))) (ups := [(64, ⟨1, some (.own 3 1 ((eInt .i64).cells z123))⟩)]) (j := 5) rfl (by kernel_rfl) (by kernel_rfl) (ev_slC (eInt .i64) (b := 64) (g := 0) (n := x.2.2.1.length) (c := (IntKind.i64.wrap ((x.2.2.1.length : Int) - 1))) (xs := x.2.2.1) (by kernel_rfl) rfl (by kernel_rfl) rfl (bnd_n 0) (bnd_s _ (kk := .i64) (j := (IntKind.i64.wrap ((x.2.2.1.length : Int) - 1))) (by kernel_rfl)) hz123) ?_
      refine zlRun (n := 1) (j := 6) rfl (by kernel_rfl) ?_
      refine zlEnd (by kernel_rfl) ?_
      refine zkBlk ?_
      refine zkNil ?_
      exact endQ hS hQ (finL_n (by show keepSt _ _ _ _ = _; kernel_rfl))
    · replace hS := cond_f hc hS
      refine zlRun (n := 1) (j := 13) rfl (by kernel_rfl) ?_
      refine zlEnd (by kernel_rfl) ?_
      refine zkSeq ?_
      refine zrCondF (by kernel_rfl) ?_
      refine zrKeep (J := f5_l2_l7_e4_J a1 x.1 x.2.1 x.2.2.1 x.2.2.2.2.1 x.2.2.2.2.2.1 x.2.2.2.2.2.2) (by kernel_rfl) ?_
      refine zrExit ?_
      refine zkSeqX ?_
      refine zkNil ?_
      exact endQ hS hQ (finL_x (by intro h; cases h) (by show _ = _ ∧ _ = _; exact ⟨rfl, rfl⟩))
  · replace hS := cond_f hc hS
    refine zlRun (n := 9) (j := 13) rfl (by kernel_rfl) ?_
    refine zlEnd (by kernel_rfl) ?_
    refine zkSeq ?_
    refine zrCondF (by kernel_rfl) ?_
    refine zrKeep (J := f5_l2_l7_e4_J a1 x.1 x.2.1 x.2.2.1 x.2.2.2.2.1 x.2.2.2.2.2.1 x.2.2.2.2.2.2) (by kernel_rfl) ?_
    refine zrExit ?_
    refine zkSeqX ?_
    refine zkNil ?_
    exact endQ hS hQ (finL_x (by intro h; cases h) (by show _ = _ ∧ _ = _; exact ⟨rfl, rfl⟩))
def f5_l2_j6_J (a1 : GScreen) (p1367 : List Int) (p1368 : Int) (p1369 : List Int) (p1370 : Int) (p1371 : List (List GCell)) (p1372 : Int) (p1373 : Int) : St := ⟨(up (up (up (up (up (up (up (fun _ => .un) 46 (.d (.int .i64 p1373))) 45 (.d (.int .i64 p1372))) 44 (.d (.sl p1371.length ((eSl e_GCell).cells p1371)))) 10 (.d (.int .i64 p1370))) 7 (.r (.msl 64 0 0 p1369.length))) 6 (.d (.int .i64 p1368))) 5 (.r (.msl 336 0 0 p1367.length))), (up (up (hB fun _ => 0) 64 ⟨0, some (.own 3 1 ((eInt .i64).cells p1369))⟩) 336 ⟨0, some (.own 3 1 ((eInt .i64).cells p1367))⟩)⟩
noncomputable def f5_l2_j6 (a1 : GScreen) (p1367 : List Int) (p1368 : Int) (p1369 : List Int) (p1370 : Int) (p1371 : List (List GCell)) (p1372 : Int) (p1373 : Int) : Option (((List Int) × Int × (List Int) × (List (List GCell)) × Int × Int) ⊕ (((List Int) × Int × (List Int)))) := ((loopO (f5_l2_l7 a1) (p1367, p1368, p1369, p1370, p1371, p1372, p1373)).bind fun z124 => (some (.inl (z124.1, z124.2.1, z124.2.2.1, z124.2.2.2.1, z124.2.2.2.2.1, (IntKind.i64.wrap (z124.2.2.2.2.2 + 1))))))
theorem f5_l2_j6_ok {d : Nat} (hd : 9 ≤ d) (a1 : GScreen) {r : ((List Int) × Int × (List Int) × (List (List GCell)) × Int × Int) ⊕ (((List Int) × Int × (List Int)))} {Q : PX → St → Prop} (hQ : ∀ e st', finL (f5_l2_H a1) (f5_l2_X a1) r e st' → Q e st') (p1367 : List Int) (p1368 : Int) (p1369 : List Int) (p1370 : Int) (p1371 : List (List GCell)) (p1372 : Int) (p1373 : Int) (hS : f5_l2_j6 a1 p1367 p1368 p1369 p1370 p1371 p1372 p1373 = some r) {st : St} (he : keepSt [5, 6, 7, 10, 44, 45, 46] [(336, .id 336), (64, .id 64)] [] st = f5_l2_j6_J a1 p1367 p1368 p1369 p1370 p1371 p1372 p1373) : ZR (lev codes baseL (d - 1)) Q c5_3 [.blk 1, .seq c5_4] st := by
  refine zrKeep he ?_
  unfold f5_l2_j6 at hS
  refine zrBlk ?_
  refine bindE hS (fun z124 hz124 hS => ?_)
  refine zrLoop (f5_l2_l7_H a1) (f5_l2_l7_X a1) (fun x st r Q h0 hS hQ => f5_l2_l7_ok hd a1 hQ hS h0) (x := (p1367, p1368, p1369, p1370, p1371, p1372, p1373)) (z := z124) (by show keepSt _ _ _ _ = _; kernel_rfl) hz124 ?_
  intro e st' _ hX
  obtain ⟨rfl, rfl⟩ : _ ∧ _ := hX
  refine zkBlkX ?_
  refine zkBlk ?_
  refine zkSeq ?_
  refine zrReg ?_
  refine zlRun (n := 2) (j := 2) rfl (by kernel_rfl) ?_
  refine zlEnd (by kernel_rfl) ?_
  refine zkNil ?_
  exact endQ hS hQ (finL_n (by show keepSt _ _ _ _ = _; kernel_rfl))
def f5_l2_l8_J (a1 : GScreen) (x : (List Int) × Int × (List Int) × Int × (List (List GCell)) × Int × Int × (List GCell) × Int × Int) : St := ⟨(up (up (up (up (up (up (up (up (up (up (fun _ => .un) 60 (.d (.int .i64 x.2.2.2.2.2.2.2.2.2))) 59 (.d (.int .i64 x.2.2.2.2.2.2.2.2.1))) 58 (.d (.sl x.2.2.2.2.2.2.2.1.length (e_GCell.cells x.2.2.2.2.2.2.2.1)))) 46 (.d (.int .i64 x.2.2.2.2.2.2.1))) 45 (.d (.int .i64 x.2.2.2.2.2.1))) 44 (.d (.sl x.2.2.2.2.1.length ((eSl e_GCell).cells x.2.2.2.2.1)))) 10 (.d (.int .i64 x.2.2.2.1))) 7 (.r (.msl 64 0 0 x.2.2.1.length))) 6 (.d (.int .i64 x.2.1))) 5 (.r (.msl 336 0 0 x.1.length))), (up (up (hB fun _ => 0) 64 ⟨0, some (.own 3 1 ((eInt .i64).cells x.2.2.1))⟩) 336 ⟨0, some (.own 3 1 ((eInt .i64).cells x.1))⟩)⟩
def f5_l2_l8_H (a1 : GScreen) (x : (List Int) × Int × (List Int) × Int × (List (List GCell)) × Int × Int × (List GCell) × Int × Int) (st : St) : Prop := keepSt [5, 6, 7, 10, 44, 45, 46, 58, 59, 60] [(336, .id 336), (64, .id 64)] [] st = f5_l2_l8_J a1 x
def f5_l2_l8_e2_J (a1 : GScreen) (p1360 : List Int) (p1361 : Int) (p1362 : List Int) (p1363 : Int) (p1364 : List (List GCell)) (p1365 : Int) (p1366 : Int) : St := ⟨(up (up (up (up (up (up (up (fun _ => .un) 46 (.d (.int .i64 p1366))) 45 (.d (.int .i64 p1365))) 44 (.d (.sl p1364.length ((eSl e_GCell).cells p1364)))) 10 (.d (.int .i64 p1363))) 7 (.r (.msl 64 0 0 p1362.length))) 6 (.d (.int .i64 p1361))) 5 (.r (.msl 336 0 0 p1360.length))), (up (up (hB fun _ => 0) 64 ⟨0, some (.own 3 1 ((eInt .i64).cells p1362))⟩) 336 ⟨0, some (.own 3 1 ((eInt .i64).cells p1360))⟩)⟩
def f5_l2_l8_X (a1 : GScreen) (z : ((List Int) × Int × (List Int) × Int × (List (List GCell)) × Int × Int)) (e : PX) (st : St) : Prop := e = .exit 2 ∧ st = f5_l2_l8_e2_J a1 z.1 z.2.1 z.2.2.1 z.2.2.2.1 z.2.2.2.2.1 z.2.2.2.2.2.1 z.2.2.2.2.2.2
def f5_l2_l8_j10_J (a1 : GScreen) (p1450 : List Int) (p1451 : Int) (p1452 : List Int) (p1453 : Int) (p1454 : List (List GCell)) (p1455 : Int) (p1456 : Int) (p1457 : List GCell) (p1458 : Int) (p1459 : Int) : St := ⟨(up (up (up (up (up (up (up (up (up (up (fun _ => .un) 60 (.d (.int .i64 p1459))) 59 (.d (.int .i64 p1458))) 58 (.d (.sl p1457.length (e_GCell.cells p1457)))) 46 (.d (.int .i64 p1456))) 45 (.d (.int .i64 p1455))) 44 (.d (.sl p1454.length ((eSl e_GCell).cells p1454)))) 10 (.d (.int .i64 p1453))) 7 (.r (.msl 64 0 0 p1452.length))) 6 (.d (.int .i64 p1451))) 5 (.r (.msl 336 0 0 p1450.length))), (up (up (hB fun _ => 0) 64 ⟨0, some (.own 3 1 ((eInt .i64).cells p1452))⟩) 336 ⟨0, some (.own 3 1 ((eInt .i64).cells p1450))⟩)⟩
noncomputable def f5_l2_l8_j10 (a1 : GScreen) (p1450 : List Int) (p1451 : Int) (p1452 : List Int) (p1453 : Int) (p1454 : List (List GCell)) (p1455 : Int) (p1456 : Int) (p1457 : List GCell) (p1458 : Int) (p1459 : Int) : Option (((List Int) × Int × (List Int) × Int × (List (List GCell)) × Int × Int × (List GCell) × Int × Int) ⊕ (((List Int) × Int × (List Int) × Int × (List (List GCell)) × Int × Int))) := ((idx p1457 p1459).bind fun z125 => (bif (!decide (z125.Rune = 0)) then ((app? 8 p1452 ([z125.Rune] : List Int)).bind fun z126 => (some (.inl (p1450, p1451, z126, p1453, p1454, p1455, p1456, p1457, p1458, (IntKind.i64.wrap (p1459 + 1)))))) else (some (.inl (p1450, p1451, p1452, p1453, p1454, p1455, p1456, p1457, p1458, (IntKind.i64.wrap (p1459 + 1)))))))
theorem f5_l2_l8_j10_ok {d : Nat} (hd : 9 ≤ d) (a1 : GScreen) {r : ((List Int) × Int × (List Int) × Int × (List (List GCell)) × Int × Int × (List GCell) × Int × Int) ⊕ (((List Int) × Int × (List Int) × Int × (List (List GCell)) × Int × Int))} {Q : PX → St → Prop} (hQ : ∀ e st', finL (f5_l2_l8_H a1) (f5_l2_l8_X a1) r e st' → Q e st') (p1450 : List Int) (p1451 : Int) (p1452 : List Int) (p1453 : Int) (p1454 : List (List GCell)) (p1455 : Int) (p1456 : Int) (p1457 : List GCell) (p1458 : Int) (p1459 : Int) (hS : f5_l2_l8_j10 a1 p1450 p1451 p1452 p1453 p1454 p1455 p1456 p1457 p1458 p1459 = some r) {st : St} (he : keepSt [5, 6, 7, 10, 44, 45, 46, 58, 59, 60] [(336, .id 336), (64, .id 64)] [] st = f5_l2_l8_j10_J a1 p1450 p1451 p1452 p1453 p1454 p1455 p1456 p1457 p1458 p1459) : ZR (lev codes baseL (d - 1)) Q c5_5 [] st := by
  refine zrKeep he ?_
  unfold f5_l2_l8_j10 at hS
  refine zrSeq ?_
  refine zrBlk ?_
  refine zrSeq ?_
  refine zrReg ?_
  refine bindE hS (fun z125 hz125 hS => ?_)
  refine zlOp (d := some 62) (op := (.ixS 51 4 (.tmp 58) (.tmp 60))) (g := none) (v := (.rptr (e_GCell.enc z125 ++ (e_GCell.cells (p1457.drop ((p1459 : Int).toNat + 1)))))) (ups := []) (j := 1) rfl (by kernel_rfl) (by kernel_rfl) (ev_ixS e_GCell (kk := .i64) (xs := p1457) (j := p1459) (by kernel_rfl) (by kernel_rfl) hz125 rfl (by intro h; cases h)) ?_
  refine zlRun (n := 3) (j := 4) rfl (by kernel_rfl) ?_
  refine zlEnd (by kernel_rfl) ?_
  refine zkSeq ?_
  refine zrSeq ?_
  refine zrReg ?_
  refine zlRun (n := 2) (j := 2) rfl (by kernel_rfl) ?_
  refine zlBool (d := 66) (op := (.cmpI .neq (.tmp 65) (.const (.int .i64 0)))) (g := none) (j := 3) (!decide (z125.Rune = 0)) rfl (by kernel_rfl) (by kernel_rfl) (by kernel_rfl) (fun hc => ?_) (fun hc => ?_)
  · replace hS := cond_t hc hS
    refine zlEnd (by kernel_rfl) ?_
    refine zkSeq ?_
    refine zrCondT (by kernel_rfl) ?_
    refine zrReg ?_
    refine zlRun (n := 4) (j := 4) rfl (by kernel_rfl) ?_
    refine bindE hS (fun z126 hz126 hS => ?_)
    refine zlOp (d := some 71) (op := (.app 3 1 8 (.tmp 67) (.tmp 70))) (g := none) (v := (.r (.msl 64 1 0 z126.length))) (ups := [(64, ⟨1, some (.own 3 1 ((eInt .i64).cells z126))⟩)]) (j := 5) rfl (by kernel_rfl) (by kernel_rfl) (ev_app (eInt .i64) (b := 64) (g := 0) (n := p1452.length) (xs := p1452) (ys := [z125.Rune]) ((congrArg (asL _) (by kernel_rfl : ρof _ (.tmp 70) = (.r (.msl 568 1 0 (([z125.Rune] : List Int).length))))).trans (as_whole (eInt .i64) (e := 3) (k := 1) (xs := [z125.Rune]) (by kernel_rfl) rfl rfl)) rfl (by kernel_rfl) rfl (by kernel_rfl) rfl hz126) ?_
    refine zlRun (n := 1) (j := 6) rfl (by kernel_rfl) ?_
    refine zlEnd (by kernel_rfl) ?_
    refine zkBlk ?_
    refine zkSeq ?_
    refine zrReg ?_
    refine zlRun (n := 2) (j := 2) rfl (by kernel_rfl) ?_
    refine zlEnd (by kernel_rfl) ?_
    refine zkNil ?_
    exact endQ hS hQ (finL_n (by show keepSt _ _ _ _ = _; kernel_rfl))
  · replace hS := cond_f hc hS
    refine zlEnd (by kernel_rfl) ?_
    refine zkSeq ?_
    refine zrCondF (by kernel_rfl) ?_
    refine zrSkip ?_
    refine zkBlk ?_
    refine zkSeq ?_
    refine zrReg ?_
    refine zlRun (n := 2) (j := 2) rfl (by kernel_rfl) ?_
    refine zlEnd (by kernel_rfl) ?_
    refine zkNil ?_
    exact endQ hS hQ (finL_n (by show keepSt _ _ _ _ = _; kernel_rfl))
def f5_l2_l8_j9_J (a1 : GScreen) (p1439 : List Int) (p1440 : Int) (p1441 : List Int) (p1442 : Int) (p1443 : List (List GCell)) (p1444 : Int) (p1445 : Int) (p1446 : List GCell) (p1447 : Int) (p1448 : Int) (p1449 : Bool) : St := ⟨(up (up (up (up (up (up (up (up (up (up (up (fun _ => .un) 61 (.d (.bool p1449))) 60 (.d (.int .i64 p1448))) 59 (.d (.int .i64 p1447))) 58 (.d (.sl p1446.length (e_GCell.cells p1446)))) 46 (.d (.int .i64 p1445))) 45 (.d (.int .i64 p1444))) 44 (.d (.sl p1443.length ((eSl e_GCell).cells p1443)))) 10 (.d (.int .i64 p1442))) 7 (.r (.msl 64 0 0 p1441.length))) 6 (.d (.int .i64 p1440))) 5 (.r (.msl 336 0 0 p1439.length))), (up (up (hB fun _ => 0) 64 ⟨0, some (.own 3 1 ((eInt .i64).cells p1441))⟩) 336 ⟨0, some (.own 3 1 ((eInt .i64).cells p1439))⟩)⟩
noncomputable def f5_l2_l8_j9 (a1 : GScreen) (p1439 : List Int) (p1440 : Int) (p1441 : List Int) (p1442 : Int) (p1443 : List (List GCell)) (p1444 : Int) (p1445 : Int) (p1446 : List GCell) (p1447 : Int) (p1448 : Int) (p1449 : Bool) : Option (((List Int) × Int × (List Int) × Int × (List (List GCell)) × Int × Int × (List GCell) × Int × Int) ⊕ (((List Int) × Int × (List Int) × Int × (List (List GCell)) × Int × Int))) := (bif p1449 then (f5_l2_l8_j10 a1 p1439 p1440 p1441 p1442 p1443 p1444 p1445 p1446 p1447 p1448) else (some (.inr (p1439, p1440, p1441, p1442, p1443, p1444, p1445))))
theorem f5_l2_l8_j9_ok {d : Nat} (hd : 9 ≤ d) (a1 : GScreen) {r : ((List Int) × Int × (List Int) × Int × (List (List GCell)) × Int × Int × (List GCell) × Int × Int) ⊕ (((List Int) × Int × (List Int) × Int × (List (List GCell)) × Int × Int))} {Q : PX → St → Prop} (hQ : ∀ e st', finL (f5_l2_l8_H a1) (f5_l2_l8_X a1) r e st' → Q e st') (p1439 : List Int) (p1440 : Int) (p1441 : List Int) (p1442 : Int) (p1443 : List (List GCell)) (p1444 : Int) (p1445 : Int) (p1446 : List GCell) (p1447 : Int) (p1448 : Int) (p1449 : Bool) (hS : f5_l2_l8_j9 a1 p1439 p1440 p1441 p1442 p1443 p1444 p1445 p1446 p1447 p1448 p1449 = some r) {st : St} (he : keepSt [5, 6, 7, 10, 44, 45, 46, 58, 59, 60, 61] [(336, .id 336), (64, .id 64)] [] st = f5_l2_l8_j9_J a1 p1439 p1440 p1441 p1442 p1443 p1444 p1445 p1446 p1447 p1448 p1449) : ZR (lev codes baseL (d - 1)) Q c5_6 [] st := by
  refine zrKeep he ?_
  unfold f5_l2_l8_j9 at hS
  refine zrSeq ?_
  refine zrSplit 61 p1449 (by kernel_rfl) (fun hc => ?_) (fun hc => ?_)
  · replace hS := cond_t hc hS
    refine zrCondT (by kernel_rfl) ?_
    refine zrSkip ?_
    refine zkSeq ?_
    exact f5_l2_l8_j10_ok hd a1 hQ p1439 p1440 p1441 p1442 p1443 p1444 p1445 p1446 p1447 p1448 hS (by kernel_rfl)
  · replace hS := cond_f hc hS
    refine zrCondF (by kernel_rfl) ?_
    refine zrKeep (J := f5_l2_l8_e2_J a1 p1439 p1440 p1441 p1442 p1443 p1444 p1445) (by kernel_rfl) ?_
    refine zrExit ?_
    refine zkSeqX ?_
    refine zkNil ?_
    exact endQ hS hQ (finL_x (by intro h; cases h) (by show _ = _ ∧ _ = _; exact ⟨rfl, rfl⟩))
noncomputable def f5_l2_l8 (a1 : GScreen) (x : (List Int) × Int × (List Int) × Int × (List (List GCell)) × Int × Int × (List GCell) × Int × Int) : Option (((List Int) × Int × (List Int) × Int × (List (List GCell)) × Int × Int × (List GCell) × Int × Int) ⊕ (((List Int) × Int × (List Int) × Int × (List (List GCell)) × Int × Int))) := (bif (decide (x.2.2.2.2.2.2.2.2.2 < x.2.2.2.2.2.2.2.2.1)) then (f5_l2_l8_j9 a1 x.1 x.2.1 x.2.2.1 x.2.2.2.1 x.2.2.2.2.1 x.2.2.2.2.2.1 x.2.2.2.2.2.2.1 x.2.2.2.2.2.2.2.1 x.2.2.2.2.2.2.2.2.1 x.2.2.2.2.2.2.2.2.2 true) else (f5_l2_l8_j9 a1 x.1 x.2.1 x.2.2.1 x.2.2.2.1 x.2.2.2.2.1 x.2.2.2.2.2.1 x.2.2.2.2.2.2.1 x.2.2.2.2.2.2.2.1 x.2.2.2.2.2.2.2.2.1 x.2.2.2.2.2.2.2.2.2 false))
theorem f5_l2_l8_ok {d : Nat} (hd : 9 ≤ d) (a1 : GScreen) {r : ((List Int) × Int × (List Int) × Int × (List (List GCell)) × Int × Int × (List GCell) × Int × Int) ⊕ (((List Int) × Int × (List Int) × Int × (List (List GCell)) × Int × Int))} {Q : PX → St → Prop} (hQ : ∀ e st', finL (f5_l2_l8_H a1) (f5_l2_l8_X a1) r e st' → Q e st') {x : (List Int) × Int × (List Int) × Int × (List (List GCell)) × Int × Int × (List GCell) × Int × Int} (hS : f5_l2_l8 a1 x = some r) {st : St} (he : f5_l2_l8_H a1 x st) : ZR (lev codes baseL (d - 1)) Q c5_7 [] st := by
  refine zrKeep he ?_
  unfold f5_l2_l8 at hS
  refine zrSeq ?_
  refine zrReg ?_
  refine zlBool (d := 61) (op := (.cmpI .lss (.tmp 60) (.tmp 59))) (g := none) (j := 1) (decide (x.2.2.2.2.2.2.2.2.2 < x.2.2.2.2.2.2.2.2.1)) rfl (by kernel_rfl) (by kernel_rfl) (by kernel_rfl) (fun hc => ?_) (fun hc => ?_)
  · replace hS := cond_t hc hS
    refine zlEnd (by kernel_rfl) ?_
    refine zkSeq ?_
    exact f5_l2_l8_j9_ok hd a1 hQ x.1 x.2.1 x.2.2.1 x.2.2.2.1 x.2.2.2.2.1 x.2.2.2.2.2.1 x.2.2.2.2.2.2.1 x.2.2.2.2.2.2.2.1 x.2.2.2.2.2.2.2.2.1 x.2.2.2.2.2.2.2.2.2 true hS (by kernel_rfl)
  · replace hS := cond_f hc hS
    refine zlEnd (by kernel_rfl) ?_
    refine zkSeq ?_
    exact f5_l2_l8_j9_ok hd a1 hQ x.1 x.2.1 x.2.2.1 x.2.2.2.1 x.2.2.2.2.1 x.2.2.2.2.2.1 x.2.2.2.2.2.2.1 x.2.2.2.2.2.2.2.1 x.2.2.2.2.2.2.2.2.1 x.2.2.2.2.2.2.2.2.2 false hS (by kernel_rfl)
def f5_l2_j5_J (a1 : GScreen) (p1228 : List Int) (p1229 : Int) (p1230 : List Int) (p1231 : List GCell) (p1232 : List (List GCell)) (p1233 : Int) (p1234 : Int) : St := ⟨(up (up (up (up (up (up (up (fun _ => .un) 46 (.d (.int .i64 p1234))) 45 (.d (.int .i64 p1233))) 44 (.d (.sl p1232.length ((eSl e_GCell).cells p1232)))) 9 (.d (.sl p1231.length (e_GCell.cells p1231)))) 7 (.r (.msl 64 0 0 p1230.length))) 6 (.d (.int .i64 p1229))) 5 (.r (.msl 336 0 0 p1228.length))), (up (up (hB fun _ => 0) 64 ⟨0, some (.own 3 1 ((eInt .i64).cells p1230))⟩) 336 ⟨0, some (.own 3 1 ((eInt .i64).cells p1228))⟩)⟩
noncomputable def f5_l2_j5 (a1 : GScreen) (p1228 : List Int) (p1229 : Int) (p1230 : List Int) (p1231 : List GCell) (p1232 : List (List GCell)) (p1233 : Int) (p1234 : Int) : Option (((List Int) × Int × (List Int) × (List (List GCell)) × Int × Int) ⊕ (((List Int) × Int × (List Int)))) := ((loopO (f5_l2_l8 a1) (p1228, p1229, p1230, (p1230.length : Int), p1232, p1233, p1234, p1231, (p1231.length : Int), 0)).bind fun z127 => (f5_l2_j6 a1 z127.1 z127.2.1 z127.2.2.1 z127.2.2.2.1 z127.2.2.2.2.1 z127.2.2.2.2.2.1 z127.2.2.2.2.2.2))
theorem f5_l2_j5_ok {d : Nat} (hd : 9 ≤ d) (a1 : GScreen) {r : ((List Int) × Int × (List Int) × (List (List GCell)) × Int × Int) ⊕ (((List Int) × Int × (List Int)))} {Q : PX → St → Prop} (hQ : ∀ e st', finL (f5_l2_H a1) (f5_l2_X a1) r e st' → Q e st') (p1228 : List Int) (p1229 : Int) (p1230 : List Int) (p1231 : List GCell) (p1232 : List (List GCell)) (p1233 : Int) (p1234 : Int) (hS : f5_l2_j5 a1 p1228 p1229 p1230 p1231 p1232 p1233 p1234 = some r) {st : St} (he : keepSt [5, 6, 7, 9, 44, 45, 46] [(336, .id 336), (64, .id 64)] [] st = f5_l2_j5_J a1 p1228 p1229 p1230 p1231 p1232 p1233 p1234) : ZR (lev codes baseL (d - 1)) Q c5_8 [.blk 1, .seq c5_4] st := by
  refine zrKeep he ?_
  unfold f5_l2_j5 at hS
  refine zrSeq ?_
  refine zrReg ?_
  refine zlRun (n := 3) (j := 3) rfl (by kernel_rfl) ?_
  refine zlEnd (by kernel_rfl) ?_
  refine zkSeq ?_
  refine zrSeq ?_
  refine zrSeq ?_
  refine zrReg ?_
  refine zlRun (n := 3) (j := 3) rfl (by kernel_rfl) ?_
  refine zlEnd (by kernel_rfl) ?_
  refine zkSeq ?_
  refine zrBlk ?_
  refine bindE hS (fun z127 hz127 hS => ?_)
  refine zrLoop (f5_l2_l8_H a1) (f5_l2_l8_X a1) (fun x st r Q h0 hS hQ => f5_l2_l8_ok hd a1 hQ hS h0) (x := (p1228, p1229, p1230, (p1230.length : Int), p1232, p1233, p1234, p1231, (p1231.length : Int), 0)) (z := z127) (by show keepSt _ _ _ _ = _; kernel_rfl) hz127 ?_
  intro e st' _ hX
  obtain ⟨rfl, rfl⟩ : _ ∧ _ := hX
  refine zkBlkX ?_
  refine zkSeq ?_
  exact f5_l2_j6_ok hd a1 hQ z127.1 z127.2.1 z127.2.2.1 z127.2.2.2.1 z127.2.2.2.2.1 z127.2.2.2.2.2.1 z127.2.2.2.2.2.2 hS (by kernel_rfl)
def f5_l2_j4_J (a1 : GScreen) (p1207 : List Int) (p1208 : Int) (p1209 : List Int) (p1210 : List (List GCell)) (p1211 : Int) (p1212 : Int) : St := ⟨(up (up (up (up (up (up (fun _ => .un) 46 (.d (.int .i64 p1212))) 45 (.d (.int .i64 p1211))) 44 (.d (.sl p1210.length ((eSl e_GCell).cells p1210)))) 7 (.r (.msl 64 0 0 p1209.length))) 6 (.d (.int .i64 p1208))) 5 (.r (.msl 336 0 0 p1207.length))), (up (up (hB fun _ => 0) 64 ⟨0, some (.own 3 1 ((eInt .i64).cells p1209))⟩) 336 ⟨0, some (.own 3 1 ((eInt .i64).cells p1207))⟩)⟩
noncomputable def f5_l2_j4 (a1 : GScreen) (p1207 : List Int) (p1208 : Int) (p1209 : List Int) (p1210 : List (List GCell)) (p1211 : Int) (p1212 : Int) : Option (((List Int) × Int × (List Int) × (List (List GCell)) × Int × Int) ⊕ (((List Int) × Int × (List Int)))) := ((idx p1210 p1212).bind fun z105 => (bif (decide (0 < p1212)) then ((app? 8 p1209 ([10] : List Int)).bind fun z128 => (f5_l2_j5 a1 p1207 p1208 z128 z105 p1210 p1211 p1212)) else (f5_l2_j5 a1 p1207 p1208 p1209 z105 p1210 p1211 p1212)))
theorem f5_l2_j4_ok {d : Nat} (hd : 9 ≤ d) (a1 : GScreen) {r : ((List Int) × Int × (List Int) × (List (List GCell)) × Int × Int) ⊕ (((List Int) × Int × (List Int)))} {Q : PX → St → Prop} (hQ : ∀ e st', finL (f5_l2_H a1) (f5_l2_X a1) r e st' → Q e st') (p1207 : List Int) (p1208 : Int) (p1209 : List Int) (p1210 : List (List GCell)) (p1211 : Int) (p1212 : Int) (hS : f5_l2_j4 a1 p1207 p1208 p1209 p1210 p1211 p1212 = some r) {st : St} (he : keepSt [5, 6, 7, 44, 45, 46] [(336, .id 336), (64, .id 64)] [] st = f5_l2_j4_J a1 p1207 p1208 p1209 p1210 p1211 p1212) : ZR (lev codes baseL (d - 1)) Q c5_9 [] st := by
  refine zrKeep he ?_
  unfold f5_l2_j4 at hS
  refine zrSeq ?_
  refine zrBlk ?_
  refine zrSeq ?_
  refine zrReg ?_
  refine zlRun (n := 1) (j := 1) rfl (by kernel_rfl) ?_
  refine bindE hS (fun z105 hz105 hS => ?_)
  refine zlOp (d := some 49) (op := (.ixS 22 1 (.tmp 44) (.tmp 46))) (g := none) (v := (.rptr ((eSl e_GCell).enc z105 ++ ((eSl e_GCell).cells (p1210.drop ((p1212 : Int).toNat + 1)))))) (ups := []) (j := 2) rfl (by kernel_rfl) (by kernel_rfl) (ev_ixS (eSl e_GCell) (kk := .i64) (xs := p1210) (j := p1212) (by kernel_rfl) (by kernel_rfl) hz105 rfl (by intro h; cases h)) ?_
  refine zlRun (n := 3) (j := 5) rfl (by kernel_rfl) ?_
  refine zlEnd (by kernel_rfl) ?_
  refine zkSeq ?_
  refine zrSeq ?_
  refine zrSeq ?_
  refine zrReg ?_
  refine zlRun (n := 1) (j := 1) rfl (by kernel_rfl) ?_
  refine zlBool (d := 52) (op := (.cmpI .gtr (.tmp 51) (.const (.int .i64 0)))) (g := none) (j := 2) (decide (0 < p1212)) rfl (by kernel_rfl) (by kernel_rfl) (by kernel_rfl) (fun hc => ?_) (fun hc => ?_)
  · replace hS := cond_t hc hS
    refine zlEnd (by kernel_rfl) ?_
    refine zkSeq ?_
    refine zrCondT (by kernel_rfl) ?_
    refine zrReg ?_
    refine zlRun (n := 2) (j := 2) rfl (by kernel_rfl) ?_
    refine bindE hS (fun z128 hz128 hS => ?_)
    refine zlOp (d := some 55) (op := (.app 3 1 8 (.tmp 53) (.tmp 54))) (g := none) (v := (.r (.msl 64 1 0 z128.length))) (ups := [(64, ⟨1, some (.own 3 1 ((eInt .i64).cells z128))⟩)]) (j := 3) rfl (by kernel_rfl) (by kernel_rfl) (ev_app (eInt .i64) (b := 64) (g := 0) (n := p1209.length) (xs := p1209) (ys := [10]) ((congrArg (asL _) (by kernel_rfl : ρof _ (.tmp 54) = (.r (.msl 440 1 0 (([10] : List Int).length))))).trans (as_whole (eInt .i64) (e := 3) (k := 1) (xs := [10]) (by kernel_rfl) rfl rfl)) rfl (by kernel_rfl) rfl (by kernel_rfl) rfl hz128) ?_
    refine zlRun (n := 1) (j := 4) rfl (by kernel_rfl) ?_
    refine zlEnd (by kernel_rfl) ?_
    refine zkSeq ?_
    exact f5_l2_j5_ok hd a1 hQ p1207 p1208 z128 z105 p1210 p1211 p1212 hS (by kernel_rfl)
  · replace hS := cond_f hc hS
    refine zlEnd (by kernel_rfl) ?_
    refine zkSeq ?_
    refine zrCondF (by kernel_rfl) ?_
    refine zrSkip ?_
    refine zkSeq ?_
    exact f5_l2_j5_ok hd a1 hQ p1207 p1208 p1209 z105 p1210 p1211 p1212 hS (by kernel_rfl)
def f5_l2_j3_J (a1 : GScreen) (p1200 : List Int) (p1201 : Int) (p1202 : List Int) (p1203 : List (List GCell)) (p1204 : Int) (p1205 : Int) (p1206 : Bool) : St := ⟨(up (up (up (up (up (up (up (fun _ => .un) 47 (.d (.bool p1206))) 46 (.d (.int .i64 p1205))) 45 (.d (.int .i64 p1204))) 44 (.d (.sl p1203.length ((eSl e_GCell).cells p1203)))) 7 (.r (.msl 64 0 0 p1202.length))) 6 (.d (.int .i64 p1201))) 5 (.r (.msl 336 0 0 p1200.length))), (up (up (hB fun _ => 0) 64 ⟨0, some (.own 3 1 ((eInt .i64).cells p1202))⟩) 336 ⟨0, some (.own 3 1 ((eInt .i64).cells p1200))⟩)⟩
noncomputable def f5_l2_j3 (a1 : GScreen) (p1200 : List Int) (p1201 : Int) (p1202 : List Int) (p1203 : List (List GCell)) (p1204 : Int) (p1205 : Int) (p1206 : Bool) : Option (((List Int) × Int × (List Int) × (List (List GCell)) × Int × Int) ⊕ (((List Int) × Int × (List Int)))) := (bif p1206 then (f5_l2_j4 a1 p1200 p1201 p1202 p1203 p1204 p1205) else (some (.inr (p1200, p1201, p1202))))
theorem f5_l2_j3_ok {d : Nat} (hd : 9 ≤ d) (a1 : GScreen) {r : ((List Int) × Int × (List Int) × (List (List GCell)) × Int × Int) ⊕ (((List Int) × Int × (List Int)))} {Q : PX → St → Prop} (hQ : ∀ e st', finL (f5_l2_H a1) (f5_l2_X a1) r e st' → Q e st') (p1200 : List Int) (p1201 : Int) (p1202 : List Int) (p1203 : List (List GCell)) (p1204 : Int) (p1205 : Int) (p1206 : Bool) (hS : f5_l2_j3 a1 p1200 p1201 p1202 p1203 p1204 p1205 p1206 = some r) {st : St} (he : keepSt [5, 6, 7, 44, 45, 46, 47] [(336, .id 336), (64, .id 64)] [] st = f5_l2_j3_J a1 p1200 p1201 p1202 p1203 p1204 p1205 p1206) : ZR (lev codes baseL (d - 1)) Q c5_10 [] st := by
  refine zrKeep he ?_
  unfold f5_l2_j3 at hS
  refine zrSeq ?_
  refine zrSplit 47 p1206 (by kernel_rfl) (fun hc => ?_) (fun hc => ?_)
  · replace hS := cond_t hc hS
    refine zrCondT (by kernel_rfl) ?_
    refine zrSkip ?_
    refine zkSeq ?_
    exact f5_l2_j4_ok hd a1 hQ p1200 p1201 p1202 p1203 p1204 p1205 hS (by kernel_rfl)
  · replace hS := cond_f hc hS
    refine zrCondF (by kernel_rfl) ?_
    refine zrKeep (J := f5_l2_e0_J a1 p1200 p1201 p1202) (by kernel_rfl) ?_
    refine zrExit ?_
    refine zkSeqX ?_
    refine zkNil ?_
    exact endQ hS hQ (finL_x (by intro h; cases h) (by show _ = _ ∧ _ = _; exact ⟨rfl, rfl⟩))
noncomputable def f5_l2 (a1 : GScreen) (x : (List Int) × Int × (List Int) × (List (List GCell)) × Int × Int) : Option (((List Int) × Int × (List Int) × (List (List GCell)) × Int × Int) ⊕ (((List Int) × Int × (List Int)))) := (bif (decide (x.2.2.2.2.2 < x.2.2.2.2.1)) then (f5_l2_j3 a1 x.1 x.2.1 x.2.2.1 x.2.2.2.1 x.2.2.2.2.1 x.2.2.2.2.2 true) else (f5_l2_j3 a1 x.1 x.2.1 x.2.2.1 x.2.2.2.1 x.2.2.2.2.1 x.2.2.2.2.2 false))
theorem f5_l2_ok {d : Nat} (hd : 9 ≤ d) (a1 : GScreen) {r : ((List Int) × Int × (List Int) × (List (List GCell)) × Int × Int) ⊕ (((List Int) × Int × (List Int)))} {Q : PX → St → Prop} (hQ : ∀ e st', finL (f5_l2_H a1) (f5_l2_X a1) r e st' → Q e st') {x : (List Int) × Int × (List Int) × (List (List GCell)) × Int × Int} (hS : f5_l2 a1 x = some r) {st : St} (he : f5_l2_H a1 x st) : ZR (lev codes baseL (d - 1)) Q c5_11 [] st := by
  refine zrKeep he ?_
  unfold f5_l2 at hS
  refine zrSeq ?_
  refine zrReg ?_
  refine zlBool (d := 47) (op := (.cmpI .lss (.tmp 46) (.tmp 45))) (g := none) (j := 1) (decide (x.2.2.2.2.2 < x.2.2.2.2.1)) rfl (by kernel_rfl) (by kernel_rfl) (by kernel_rfl) (fun hc => ?_) (fun hc => ?_)
  · replace hS := cond_t hc hS
    refine zlEnd (by kernel_rfl) ?_
    refine zkSeq ?_
    exact f5_l2_j3_ok hd a1 hQ x.1 x.2.1 x.2.2.1 x.2.2.2.1 x.2.2.2.2.1 x.2.2.2.2.2 true hS (by kernel_rfl)
  · replace hS := cond_f hc hS
    refine zlEnd (by kernel_rfl) ?_
    refine zkSeq ?_
    exact f5_l2_j3_ok hd a1 hQ x.1 x.2.1 x.2.2.1 x.2.2.2.1 x.2.2.2.2.1 x.2.2.2.2.2 false hS (by kernel_rfl)
def f5_j0_J (a1 : GScreen) (p605 : List (List GCell)) : St := ⟨(up (up (fun _ => .un) 3 (.d (.sl p605.length ((eSl e_GCell).cells p605)))) 1 (.r (.ptr 16 0 0))), (up (hB fun _ => 0) 16 ⟨0, some (.box (bx_GScreen a1 (.d (.sl a1.Grid.Cells.length (e_GCell.cells a1.Grid.Cells))) (.d (.sl a1.Other.Cells.length (e_GCell.cells a1.Other.Cells))) (.d (.sl a1.Past.length (e_GLine.cells a1.Past)))))⟩)⟩
noncomputable def f5_j0 (a1 : GScreen) (p605 : List (List GCell)) : Option (Bool) := ((f7 a1 (GPlace.mk 0 0) (GPlace.mk (IntKind.i64.wrap ((p605.length : Int) - 1)) 159) false).bind fun z56 => ((loopO (f5_l2 a1) (z56.1, z56.2, [], p605, (p605.length : Int), 0)).bind fun z129 => (f5_j1 a1 z129.1 z129.2.1 z129.2.2)))
theorem f5_j0_ok {d : Nat} (hd : 9 ≤ d) (a1 : GScreen) {r : Bool} {Q : PX → St → Prop} (hQ : ∀ e st', f5_Q r e st' → Q e st') (p605 : List (List GCell)) (hS : f5_j0 a1 p605 = some r) {st : St} (he : keepSt [1, 3] [(16, .id 16)] [] st = f5_j0_J a1 p605) : ZR (lev codes baseL (d - 1)) Q c5_12 [] st := by
  refine zrKeep he ?_
  unfold f5_j0 at hS
  refine zrSeq ?_
  refine zrReg ?_
  refine zlRun (n := 6) (j := 6) rfl (by kernel_rfl) ?_
  refine bindE hS (fun z56 hz56 hS => ?_)
  refine zlOp (d := some 41) (op := (.call 7 [(.tmp 35), (.tmp 36), (.tmp 40), (.const (.bool .false))])) (g := none) (j := 7) rfl (by kernel_rfl) (by kernel_rfl) (ev_callA (by kernel_rfl) (f7_ok (d - 1) (dpt hd rfl) a1 (GPlace.mk 0 0) (GPlace.mk (IntKind.i64.wrap ((p605.length : Int) - 1)) 159) false z56 hz56) (by kernel_rfl) (by kernel_rfl)) ?_
  refine zlRun (n := 5) (j := 12) rfl (by kernel_rfl) ?_
  refine zlEnd (by kernel_rfl) ?_
  refine zkSeq ?_
  refine zrSeq ?_
  refine zrReg ?_
  refine zlRun (n := 1) (j := 1) rfl (by kernel_rfl) ?_
  refine zlEnd (by kernel_rfl) ?_
  refine zkSeq ?_
  refine zrSeq ?_
  refine zrSeq ?_
  refine zrReg ?_
  refine zlRun (n := 3) (j := 3) rfl (by kernel_rfl) ?_
  refine zlEnd (by kernel_rfl) ?_
  refine zkSeq ?_
  refine zrBlk ?_
  refine bindE hS (fun z129 hz129 hS => ?_)
  refine zrLoop (f5_l2_H a1) (f5_l2_X a1) (fun x st r Q h0 hS hQ => f5_l2_ok hd a1 hQ hS h0) (x := (z56.1, z56.2, [], p605, (p605.length : Int), 0)) (z := z129) (by show keepSt _ _ _ _ = _; kernel_rfl) hz129 ?_
  intro e st' _ hX
  obtain ⟨rfl, rfl⟩ : _ ∧ _ := hX
  refine zkBlkX ?_
  refine zkSeq ?_
  exact f5_j1_ok hd a1 hQ z129.1 z129.2.1 z129.2.2 hS (by kernel_rfl)
def f5_j11_J (a1 : GScreen) (p1462 : Int) : St := ⟨(up (fun _ => .un) 4 (.d (.int .i64 p1462))), (hB fun _ => 0)⟩
noncomputable def f5_j11 (a1 : GScreen) (p1462 : Int) : Option (Bool) := (libLives.bind fun z131 => (bif z131 then (bif (!decide (p1462 = 0)) then (some true) else (some false)) else (some false)))
theorem f5_j11_ok {d : Nat} (hd : 9 ≤ d) (a1 : GScreen) {r : Bool} {Q : PX → St → Prop} (hQ : ∀ e st', f5_Q r e st' → Q e st') (p1462 : Int) (hS : f5_j11 a1 p1462 = some r) {st : St} (he : keepSt [4] [] [] st = f5_j11_J a1 p1462) : ZR (lev codes baseL (d - 1)) Q c5_13 [.seq c5_12] st := by
  refine zrKeep he ?_
  unfold f5_j11 at hS
  refine zrSeq ?_
  refine zrReg ?_
  refine bindE hS (fun z131 hz131 hS => ?_)
  refine zlOp (d := some 29) (op := (.call 8 [])) (g := none) (j := 1) rfl (by kernel_rfl) (by kernel_rfl) (ev_callA (by kernel_rfl) (libLives_ok (d - 1) (dpt hd rfl)  z131 hz131) (by kernel_rfl) (by kernel_rfl)) ?_
  refine zlRun (n := 1) (j := 2) rfl (by kernel_rfl) ?_
  refine zlSplit 30 z131 (by kernel_rfl) (fun hc => ?_) (fun hc => ?_)
  · replace hS := cond_t hc hS
    refine zlRun (n := 1) (j := 3) rfl (by kernel_rfl) ?_
    refine zlBool (d := 32) (op := (.cmpI .neq (.tmp 31) (.const (.int .i64 0)))) (g := (some (30, true))) (j := 4) (!decide (p1462 = 0)) rfl (by kernel_rfl) (by kernel_rfl) (by kernel_rfl) (fun hc => ?_) (fun hc => ?_)
    · replace hS := cond_t hc hS
      refine zlRun (n := 2) (j := 6) rfl (by kernel_rfl) ?_
      refine zlEnd (by kernel_rfl) ?_
      refine zkSeq ?_
      refine zrRet ?_
      refine zkSeqR ?_
      refine zkNil ?_
      exact endQ hS hQ (fRet (by kernel_rfl) ((congrArg (fun s => outR s 0 c5.res) (by kernel_rfl : finSt c5.fin _ = f5_fin true)).trans (f5_out true)))
    · replace hS := cond_f hc hS
      refine zlRun (n := 2) (j := 6) rfl (by kernel_rfl) ?_
      refine zlEnd (by kernel_rfl) ?_
      refine zkSeq ?_
      refine zrRet ?_
      refine zkSeqR ?_
      refine zkNil ?_
      exact endQ hS hQ (fRet (by kernel_rfl) ((congrArg (fun s => outR s 0 c5.res) (by kernel_rfl : finSt c5.fin _ = f5_fin false)).trans (f5_out false)))
  · replace hS := cond_f hc hS
    refine zlRun (n := 4) (j := 6) rfl (by kernel_rfl) ?_
    refine zlEnd (by kernel_rfl) ?_
    refine zkSeq ?_
    refine zrRet ?_
    refine zkSeqR ?_
    refine zkNil ?_
    exact endQ hS hQ (fRet (by kernel_rfl) ((congrArg (fun s => outR s 0 c5.res) (by kernel_rfl : finSt c5.fin _ = f5_fin false)).trans (f5_out false)))
noncomputable def f5 (a1 : GScreen) : Option (Bool) := ((f10 a1).bind fun z53 => (libLives.bind fun z132 => (bif (!z132) then (f5_j11 a1 z53.2) else (bif (!decide (z53.2 = 0)) then (f5_j11 a1 z53.2) else (bif (decide ((z53.1.length : Int) = 0)) then (f5_j11 a1 z53.2) else (f5_j0 a1 z53.1))))))
theorem f5_ok (d : Nat) (hd : 9 ≤ d) (a1 : GScreen) (r : Bool) (hS : f5 a1 = some r) : lev codes baseL d 5 [(.agg ((.d (.int .i64 a1.Grid.Wide)) :: ((.d (.int .i64 a1.Grid.High)) :: ((.d (.sl a1.Grid.Cells.length (e_GCell.cells a1.Grid.Cells))) :: ((.d (.int .i64 a1.Row)) :: ((.d (.int .i64 a1.Col)) :: ((.d (.bool a1.Late)) :: ((.d (.int .i64 a1.Top)) :: ((.d (.int .i64 a1.Bottom)) :: ((.d (.int .i64 a1.Pen.Flags)) :: ((.d (.int .i64 a1.Pen.Fore)) :: ((.d (.int .i64 a1.Pen.Back)) :: ((.d (.int .i64 a1.Modes)) :: (((eInt .u64).row 4 a1.Stops.Bits) ++ ((.d (.int .i64 a1.Pages.1)) :: ((.d (.int .i64 a1.Pages.2)) :: ((.d (.int .i64 a1.Shift)) :: ((.d (.int .i64 a1.Saved.Row)) :: ((.d (.int .i64 a1.Saved.Col)) :: ((.d (.int .i64 a1.Saved.Pen.Flags)) :: ((.d (.int .i64 a1.Saved.Pen.Fore)) :: ((.d (.int .i64 a1.Saved.Pen.Back)) :: ((.d (.bool a1.Saved.Origin)) :: ((.d (.int .i64 a1.Saved.Pages.1)) :: ((.d (.int .i64 a1.Saved.Pages.2)) :: ((.d (.int .i64 a1.Saved.Shift)) :: ((.d (.int .i64 a1.Other.Wide)) :: ((.d (.int .i64 a1.Other.High)) :: ((.d (.sl a1.Other.Cells.length (e_GCell.cells a1.Other.Cells))) :: ((.d (.str a1.Title)) :: ((.d (.sl a1.Past.length (e_GLine.cells a1.Past))) :: [])))))))))))))))))))))))))))))))] [] = some ((.d (.bool r)), []) := by
  refine lev_go codes5 rfl rfl (Nat.le_trans (Nat.le_of_ble_eq_true rfl) hd) fun Q hQ => ?_
  unfold f5 at hS
  show ZR _ Q c5_b [] _
  replace hQ : ∀ e st', f5_Q r e st' → Q e st' := hQ
  refine zrSeq ?_
  refine zrReg ?_
  refine zlRun (n := 2) (j := 2) rfl (by kernel_rfl) ?_
  refine zlEnd (by kernel_rfl) ?_
  refine zkSeq ?_
  refine zrSeq ?_
  refine zrReg ?_
  refine zlRun (n := 1) (j := 1) rfl (by kernel_rfl) ?_
  refine bindE hS (fun z53 hz53 hS => ?_)
  refine zlOp (d := some 15) (op := (.callf 10 [(.tmp 14)])) (g := none) (v := (.tup [(.d (.sl z53.1.length ((eSl e_GCell).cells z53.1))), (.d (.int .i64 z53.2))])) (ups := []) (j := 2) rfl (by kernel_rfl) (by kernel_rfl) (ev_callF (args := [(.agg ((.d (.int .i64 a1.Grid.Wide)) :: ((.d (.int .i64 a1.Grid.High)) :: ((.d (.sl a1.Grid.Cells.length (e_GCell.cells a1.Grid.Cells))) :: ((.d (.int .i64 a1.Row)) :: ((.d (.int .i64 a1.Col)) :: ((.d (.bool a1.Late)) :: ((.d (.int .i64 a1.Top)) :: ((.d (.int .i64 a1.Bottom)) :: ((.d (.int .i64 a1.Pen.Flags)) :: ((.d (.int .i64 a1.Pen.Fore)) :: ((.d (.int .i64 a1.Pen.Back)) :: ((.d (.int .i64 a1.Modes)) :: (((eInt .u64).row 4 a1.Stops.Bits) ++ ((.d (.int .i64 a1.Pages.1)) :: ((.d (.int .i64 a1.Pages.2)) :: ((.d (.int .i64 a1.Shift)) :: ((.d (.int .i64 a1.Saved.Row)) :: ((.d (.int .i64 a1.Saved.Col)) :: ((.d (.int .i64 a1.Saved.Pen.Flags)) :: ((.d (.int .i64 a1.Saved.Pen.Fore)) :: ((.d (.int .i64 a1.Saved.Pen.Back)) :: ((.d (.bool a1.Saved.Origin)) :: ((.d (.int .i64 a1.Saved.Pages.1)) :: ((.d (.int .i64 a1.Saved.Pages.2)) :: ((.d (.int .i64 a1.Saved.Shift)) :: ((.d (.int .i64 a1.Other.Wide)) :: ((.d (.int .i64 a1.Other.High)) :: ((.d (.sl a1.Other.Cells.length (e_GCell.cells a1.Other.Cells))) :: ((.d (.str a1.Title)) :: ((.d (.sl a1.Past.length (e_GLine.cells a1.Past))) :: [])))))))))))))))))))))))))))))))]) (args' := [(.agg ((.d (.int .i64 a1.Grid.Wide)) :: ((.d (.int .i64 a1.Grid.High)) :: ((.d (.sl a1.Grid.Cells.length (e_GCell.cells a1.Grid.Cells))) :: ((.d (.int .i64 a1.Row)) :: ((.d (.int .i64 a1.Col)) :: ((.d (.bool a1.Late)) :: ((.d (.int .i64 a1.Top)) :: ((.d (.int .i64 a1.Bottom)) :: ((.d (.int .i64 a1.Pen.Flags)) :: ((.d (.int .i64 a1.Pen.Fore)) :: ((.d (.int .i64 a1.Pen.Back)) :: ((.d (.int .i64 a1.Modes)) :: (((eInt .u64).row 4 a1.Stops.Bits) ++ ((.d (.int .i64 a1.Pages.1)) :: ((.d (.int .i64 a1.Pages.2)) :: ((.d (.int .i64 a1.Shift)) :: ((.d (.int .i64 a1.Saved.Row)) :: ((.d (.int .i64 a1.Saved.Col)) :: ((.d (.int .i64 a1.Saved.Pen.Flags)) :: ((.d (.int .i64 a1.Saved.Pen.Fore)) :: ((.d (.int .i64 a1.Saved.Pen.Back)) :: ((.d (.bool a1.Saved.Origin)) :: ((.d (.int .i64 a1.Saved.Pages.1)) :: ((.d (.int .i64 a1.Saved.Pages.2)) :: ((.d (.int .i64 a1.Saved.Shift)) :: ((.d (.int .i64 a1.Other.Wide)) :: ((.d (.int .i64 a1.Other.High)) :: ((.d (.sl a1.Other.Cells.length (e_GCell.cells a1.Other.Cells))) :: ((.d (.str a1.Title)) :: ((.d (.sl a1.Past.length (e_GLine.cells a1.Past))) :: [])))))))))))))))))))))))))))))))]) (l := [(.agg ((.d (.int .i64 a1.Grid.Wide)) :: ((.d (.int .i64 a1.Grid.High)) :: ((.d (.sl a1.Grid.Cells.length (e_GCell.cells a1.Grid.Cells))) :: ((.d (.int .i64 a1.Row)) :: ((.d (.int .i64 a1.Col)) :: ((.d (.bool a1.Late)) :: ((.d (.int .i64 a1.Top)) :: ((.d (.int .i64 a1.Bottom)) :: ((.d (.int .i64 a1.Pen.Flags)) :: ((.d (.int .i64 a1.Pen.Fore)) :: ((.d (.int .i64 a1.Pen.Back)) :: ((.d (.int .i64 a1.Modes)) :: (((eInt .u64).row 4 a1.Stops.Bits) ++ ((.d (.int .i64 a1.Pages.1)) :: ((.d (.int .i64 a1.Pages.2)) :: ((.d (.int .i64 a1.Shift)) :: ((.d (.int .i64 a1.Saved.Row)) :: ((.d (.int .i64 a1.Saved.Col)) :: ((.d (.int .i64 a1.Saved.Pen.Flags)) :: ((.d (.int .i64 a1.Saved.Pen.Fore)) :: ((.d (.int .i64 a1.Saved.Pen.Back)) :: ((.d (.bool a1.Saved.Origin)) :: ((.d (.int .i64 a1.Saved.Pages.1)) :: ((.d (.int .i64 a1.Saved.Pages.2)) :: ((.d (.int .i64 a1.Saved.Shift)) :: ((.d (.int .i64 a1.Other.Wide)) :: ((.d (.int .i64 a1.Other.High)) :: ((.d (.sl a1.Other.Cells.length (e_GCell.cells a1.Other.Cells))) :: ((.d (.str a1.Title)) :: ((.d (.sl a1.Past.length (e_GLine.cells a1.Past))) :: [])))))))))))))))))))))))))))))))]) (refs := []) (r := (.tup [(.d (.sl z53.1.length ((eSl e_GCell).cells z53.1))), (.d (.int .i64 z53.2))])) (v := (.tup [(.d (.sl z53.1.length ((eSl e_GCell).cells z53.1))), (.d (.int .i64 z53.2))])) (ups' := []) (by kernel_rfl) (by kernel_rfl) (by kernel_rfl) (fz_cons rfl fz_nil) (by kernel_rfl) (f10_ok (d - 1) (dpt hd rfl) a1 z53 hz53) (by kernel_rfl) (by kernel_rfl) (by kernel_rfl) (by kernel_rfl)) ?_
  refine zlRun (n := 5) (j := 7) rfl (by kernel_rfl) ?_
  refine zlEnd (by kernel_rfl) ?_
  refine zkSeq ?_
  refine zrSeq ?_
  refine zrSeq ?_
  refine zrReg ?_
  refine bindE hS (fun z132 hz132 hS => ?_)
  refine zlOp (d := some 18) (op := (.call 8 [])) (g := none) (j := 1) rfl (by kernel_rfl) (by kernel_rfl) (ev_callA (by kernel_rfl) (libLives_ok (d - 1) (dpt hd rfl)  z132 hz132) (by kernel_rfl) (by kernel_rfl)) ?_
  refine zlRun (n := 2) (j := 3) rfl (by kernel_rfl) ?_
  refine zlSplit 20 (!z132) (by kernel_rfl) (fun hc => ?_) (fun hc => ?_)
  · replace hS := cond_t hc hS
    refine zlRun (n := 8) (j := 11) rfl (by kernel_rfl) ?_
    refine zlEnd (by kernel_rfl) ?_
    refine zkSeq ?_
    refine zrCondT (by kernel_rfl) ?_
    exact f5_j11_ok hd a1 hQ z53.2 hS (by kernel_rfl)
  · replace hS := cond_f hc hS
    refine zlRun (n := 1) (j := 4) rfl (by kernel_rfl) ?_
    refine zlBool (d := 22) (op := (.cmpI .neq (.tmp 21) (.const (.int .i64 0)))) (g := (some (20, false))) (j := 5) (!decide (z53.2 = 0)) rfl (by kernel_rfl) (by kernel_rfl) (by kernel_rfl) (fun hc => ?_) (fun hc => ?_)
    · replace hS := cond_t hc hS
      refine zlRun (n := 6) (j := 11) rfl (by kernel_rfl) ?_
      refine zlEnd (by kernel_rfl) ?_
      refine zkSeq ?_
      refine zrCondT (by kernel_rfl) ?_
      exact f5_j11_ok hd a1 hQ z53.2 hS (by kernel_rfl)
    · replace hS := cond_f hc hS
      refine zlRun (n := 4) (j := 9) rfl (by kernel_rfl) ?_
      refine zlBool (d := 27) (op := (.cmpI .eql (.tmp 26) (.const (.int .i64 0)))) (g := (some (24, false))) (j := 10) (decide ((z53.1.length : Int) = 0)) rfl (by kernel_rfl) (by kernel_rfl) (by kernel_rfl) (fun hc => ?_) (fun hc => ?_)
      · replace hS := cond_t hc hS
        refine zlRun (n := 1) (j := 11) rfl (by kernel_rfl) ?_
        refine zlEnd (by kernel_rfl) ?_
        refine zkSeq ?_
        refine zrCondT (by kernel_rfl) ?_
        exact f5_j11_ok hd a1 hQ z53.2 hS (by kernel_rfl)
      · replace hS := cond_f hc hS
        refine zlRun (n := 1) (j := 11) rfl (by kernel_rfl) ?_
        refine zlEnd (by kernel_rfl) ?_
        refine zkSeq ?_
        refine zrCondF (by kernel_rfl) ?_
        refine zrSkip ?_
        refine zkSeq ?_
        exact f5_j0_ok hd a1 hQ z53.1 hS (by kernel_rfl)
/- slices.Equal[[]farwriter/api.Cell,farwriter/api.Cell] -/
def f12_fin (p14 : Bool) : St := ⟨(up (fun _ => .un) 4 (.d (.bool p14))), (hB fun _ => 0)⟩
theorem f12_out (p14 : Bool) : outR (f12_fin p14) 0 c12.res = some ((.d (.bool p14)), []) := by
  kernel_rfl
def f12_Q (r : Bool) (e : PX) (st : St) : Prop := DoneF c12 0 ((.d (.bool r)), []) e st
def f12_l1_J (a1 : List GCell) (a2 : List GCell) (x : Int) : St := ⟨(up (up (up (up (fun _ => .un) 13 (.d (.int .i64 x))) 12 (.d (.int .i64 (a1.length : Int)))) 1 (.d (.sl a2.length (e_GCell.cells a2)))) 0 (.d (.sl a1.length (e_GCell.cells a1)))), (hB fun _ => 0)⟩
def f12_l1_H (a1 : List GCell) (a2 : List GCell) (x : Int) (st : St) : Prop := keepSt [0, 1, 12, 13] [] [] st = f12_l1_J a1 a2 x
def f12_l1_e0_J (a1 : List GCell) (a2 : List GCell) : St := ⟨(fun _ => .un), (hB fun _ => 0)⟩
def f12_l1_X (a1 : List GCell) (a2 : List GCell) (z : Unit ⊕ Bool) (e : PX) (st : St) : Prop := (match z with | .inl z => e = .exit 0 ∧ st = f12_l1_e0_J a1 a2 | .inr z => e = .ret ∧ finSt c12.fin st = f12_fin z)
def f12_l1_j3_J (a1 : List GCell) (a2 : List GCell) (p20 : Int) : St := ⟨(up (up (up (up (fun _ => .un) 13 (.d (.int .i64 p20))) 12 (.d (.int .i64 (a1.length : Int)))) 1 (.d (.sl a2.length (e_GCell.cells a2)))) 0 (.d (.sl a1.length (e_GCell.cells a1)))), (hB fun _ => 0)⟩
noncomputable def f12_l1_j3 (a1 : List GCell) (a2 : List GCell) (p20 : Int) : Option (Int ⊕ (Unit ⊕ Bool)) := ((idx a1 p20).bind fun z7 => ((idx a2 p20).bind fun z8 => (bif (!(decide (z7.Rune = z8.Rune) && (decide (z7.Pen.Flags = z8.Pen.Flags) && (decide (z7.Pen.Fore = z8.Pen.Fore) && (decide (z7.Pen.Back = z8.Pen.Back) && true))))) then (some (.inr (.inr false))) else (some (.inl (IntKind.i64.wrap (p20 + 1)))))))
theorem f12_l1_j3_ok {d : Nat} (hd : 1 ≤ d) (a1 : List GCell) (a2 : List GCell) {r : Int ⊕ (Unit ⊕ Bool)} {Q : PX → St → Prop} (hQ : ∀ e st', finL (f12_l1_H a1 a2) (f12_l1_X a1 a2) r e st' → Q e st') (p20 : Int) (hS : f12_l1_j3 a1 a2 p20 = some r) {st : St} (he : keepSt [0, 1, 12, 13] [] [] st = f12_l1_j3_J a1 a2 p20) : ZR (lev codes baseL (d - 1)) Q c12_1 [] st := by
  refine zrKeep he ?_
  unfold f12_l1_j3 at hS
  refine zrSeq ?_
  refine zrBlk ?_
  refine zrSeq ?_
  refine zrReg ?_
  refine zlRun (n := 2) (j := 2) rfl (by kernel_rfl) ?_
  refine zlEnd (by kernel_rfl) ?_
  refine zkSeq ?_
  refine zrSeq ?_
  refine zrRegD ?_
  refine zdRun (n := 2) (j := 2) (ts := [[], []]) (acc' := [[], []]) rfl (by kernel_rfl) (by kernel_rfl) (by kernel_rfl) ?_
  refine bindE hS (fun z7 hz7 hS => ?_)
  refine zdOp (d := some 18) (op := (.ixS 51 4 (.tmp 16) (.tmp 17))) (g := none) (v := (.rptr (e_GCell.enc z7 ++ (e_GCell.cells (a1.drop ((p20 : Int).toNat + 1)))))) (ups := []) (j := 3) (t1 := []) (acc' := [[], [], []]) (by kernel_rfl) (by kernel_rfl) rfl (by kernel_rfl) (by kernel_rfl) (ev_ixS e_GCell (kk := .i64) (xs := a1) (j := p20) (by kernel_rfl) (by kernel_rfl) hz7 rfl (by intro h; cases h)) ?_
  refine zdRun (n := 3) (j := 6) (ts := [[], [], []]) (acc' := [[], [], [], [], [], []]) rfl (by kernel_rfl) (by kernel_rfl) (by kernel_rfl) ?_
  refine bindE hS (fun z8 hz8 hS => ?_)
  refine zdOp (d := some 22) (op := (.ixS 51 4 (.tmp 20) (.tmp 21))) (g := none) (v := (.rptr (e_GCell.enc z8 ++ (e_GCell.cells (a2.drop ((p20 : Int).toNat + 1)))))) (ups := []) (j := 7) (t1 := []) (acc' := [[], [], [], [], [], [], []]) (by kernel_rfl) (by kernel_rfl) rfl (by kernel_rfl) (by kernel_rfl) (ev_ixS e_GCell (kk := .i64) (xs := a2) (j := p20) (by kernel_rfl) (by kernel_rfl) hz8 rfl (by intro h; cases h)) ?_
  refine zdRun (n := 1) (j := 8) (ts := [[]]) (acc' := [[], [], [], [], [], [], [], []]) rfl (by kernel_rfl) (by kernel_rfl) (by kernel_rfl) ?_
  refine zdBool (d := 24) (op := (.eqA .true [(4, .int)] (.tmp 19) (.tmp 23))) (g := none) (j := 9) (t1 := []) (acc' := [[], [], [], [], [], [], [], [], []]) (!(decide (z7.Rune = z8.Rune) && (decide (z7.Pen.Flags = z8.Pen.Flags) && (decide (z7.Pen.Fore = z8.Pen.Fore) && (decide (z7.Pen.Back = z8.Pen.Back) && true))))) (by kernel_rfl) (by kernel_rfl) rfl (by kernel_rfl) (by kernel_rfl) (by kernel_rfl) (fun hc => ?_) (fun hc => ?_)
  · replace hS := cond_t hc hS
    refine zdEnd (by kernel_rfl) (by kernel_rfl) ?_
    refine zkSeq ?_
    refine zrCondT (by kernel_rfl) ?_
    refine zrSeq ?_
    refine zrReg ?_
    refine zlRun (n := 1) (j := 1) rfl (by kernel_rfl) ?_
    refine zlEnd (by kernel_rfl) ?_
    refine zkSeq ?_
    refine zrRet ?_
    refine zkBlkR ?_
    refine zkSeqR ?_
    refine zkNil ?_
    exact endQ hS hQ (finL_x (by intro h; cases h) (by show _ = _ ∧ _ = _; exact ⟨rfl, by kernel_rfl⟩))
  · replace hS := cond_f hc hS
    refine zdEnd (by kernel_rfl) (by kernel_rfl) ?_
    refine zkSeq ?_
    refine zrCondF (by kernel_rfl) ?_
    refine zrSkip ?_
    refine zkBlk ?_
    refine zkSeq ?_
    refine zrReg ?_
    refine zlRun (n := 2) (j := 2) rfl (by kernel_rfl) ?_
    refine zlEnd (by kernel_rfl) ?_
    refine zkNil ?_
    exact endQ hS hQ (finL_n (by show keepSt _ _ _ _ = _; kernel_rfl))
def f12_l1_j2_J (a1 : List GCell) (a2 : List GCell) (p18 : Int) (p19 : Bool) : St := ⟨(up (up (up (up (up (fun _ => .un) 14 (.d (.bool p19))) 13 (.d (.int .i64 p18))) 12 (.d (.int .i64 (a1.length : Int)))) 1 (.d (.sl a2.length (e_GCell.cells a2)))) 0 (.d (.sl a1.length (e_GCell.cells a1)))), (hB fun _ => 0)⟩
noncomputable def f12_l1_j2 (a1 : List GCell) (a2 : List GCell) (p18 : Int) (p19 : Bool) : Option (Int ⊕ (Unit ⊕ Bool)) := (bif p19 then (f12_l1_j3 a1 a2 p18) else (some (.inr (.inl ()))))
theorem f12_l1_j2_ok {d : Nat} (hd : 1 ≤ d) (a1 : List GCell) (a2 : List GCell) {r : Int ⊕ (Unit ⊕ Bool)} {Q : PX → St → Prop} (hQ : ∀ e st', finL (f12_l1_H a1 a2) (f12_l1_X a1 a2) r e st' → Q e st') (p18 : Int) (p19 : Bool) (hS : f12_l1_j2 a1 a2 p18 p19 = some r) {st : St} (he : keepSt [0, 1, 12, 13, 14] [] [] st = f12_l1_j2_J a1 a2 p18 p19) : ZR (lev codes baseL (d - 1)) Q c12_2 [] st := by
  refine zrKeep he ?_
  unfold f12_l1_j2 at hS
  refine zrSeq ?_
  refine zrSplit 14 p19 (by kernel_rfl) (fun hc => ?_) (fun hc => ?_)
  · replace hS := cond_t hc hS
    refine zrCondT (by kernel_rfl) ?_
    refine zrSkip ?_
    refine zkSeq ?_
    exact f12_l1_j3_ok hd a1 a2 hQ p18 hS (by kernel_rfl)
  · replace hS := cond_f hc hS
    refine zrCondF (by kernel_rfl) ?_
    refine zrKeep (J := f12_l1_e0_J a1 a2) (by kernel_rfl) ?_
    refine zrExit ?_
    refine zkSeqX ?_
    refine zkNil ?_
    exact endQ hS hQ (finL_x (by intro h; cases h) (by show _ = _ ∧ _ = _; exact ⟨rfl, rfl⟩))
noncomputable def f12_l1 (a1 : List GCell) (a2 : List GCell) (x : Int) : Option (Int ⊕ (Unit ⊕ Bool)) := (bif (decide (x < (a1.length : Int))) then (f12_l1_j2 a1 a2 x true) else (f12_l1_j2 a1 a2 x false))
theorem f12_l1_ok {d : Nat} (hd : 1 ≤ d) (a1 : List GCell) (a2 : List GCell) {r : Int ⊕ (Unit ⊕ Bool)} {Q : PX → St → Prop} (hQ : ∀ e st', finL (f12_l1_H a1 a2) (f12_l1_X a1 a2) r e st' → Q e st') {x : Int} (hS : f12_l1 a1 a2 x = some r) {st : St} (he : f12_l1_H a1 a2 x st) : ZR (lev codes baseL (d - 1)) Q c12_3 [] st := by
  refine zrKeep he ?_
  unfold f12_l1 at hS
  refine zrSeq ?_
  refine zrReg ?_
  refine zlBool (d := 14) (op := (.cmpI .lss (.tmp 13) (.tmp 12))) (g := none) (j := 1) (decide (x < (a1.length : Int))) rfl (by kernel_rfl) (by kernel_rfl) (by kernel_rfl) (fun hc => ?_) (fun hc => ?_)
  · replace hS := cond_t hc hS
    refine zlEnd (by kernel_rfl) ?_
    refine zkSeq ?_
    exact f12_l1_j2_ok hd a1 a2 hQ x true hS (by kernel_rfl)
  · replace hS := cond_f hc hS
    refine zlEnd (by kernel_rfl) ?_
    refine zkSeq ?_
    exact f12_l1_j2_ok hd a1 a2 hQ x false hS (by kernel_rfl)
def f12_j0_J (a1 : List GCell) (a2 : List GCell) : St := ⟨(up (up (fun _ => .un) 1 (.d (.sl a2.length (e_GCell.cells a2)))) 0 (.d (.sl a1.length (e_GCell.cells a1)))), (hB fun _ => 0)⟩
noncomputable def f12_j0 (a1 : List GCell) (a2 : List GCell) : Option (Bool) := ((loopO (f12_l1 a1 a2) 0).bind fun z9 => (Sum.elim (fun z10 => (some true)) (fun z11 => (some z11)) z9))
theorem f12_j0_ok {d : Nat} (hd : 1 ≤ d) (a1 : List GCell) (a2 : List GCell) {r : Bool} {Q : PX → St → Prop} (hQ : ∀ e st', f12_Q r e st' → Q e st')  (hS : f12_j0 a1 a2 = some r) {st : St} (he : keepSt [0, 1] [] [] st = f12_j0_J a1 a2) : ZR (lev codes baseL (d - 1)) Q c12_4 [] st := by
  refine zrKeep he ?_
  unfold f12_j0 at hS
  refine zrSeq ?_
  refine zrSeq ?_
  refine zrReg ?_
  refine zlRun (n := 3) (j := 3) rfl (by kernel_rfl) ?_
  refine zlEnd (by kernel_rfl) ?_
  refine zkSeq ?_
  refine zrBlk ?_
  refine bindE hS (fun z9 hz9 hS => ?_)
  refine zrLoop (f12_l1_H a1 a2) (f12_l1_X a1 a2) (fun x st r Q h0 hS hQ => f12_l1_ok hd a1 a2 hQ hS h0) (x := 0) (z := z9) (by show keepSt _ _ _ _ = _; kernel_rfl) hz9 ?_
  rcases z9 with z10 | z11
  · replace hS := (show _ = _ from hS)
    simp only [Sum.elim_inl] at hS
    intro e st' _ hX
    obtain ⟨rfl, rfl⟩ : _ ∧ _ := hX
    refine zkBlkX ?_
    refine zkSeq ?_
    refine zrSeq ?_
    refine zrReg ?_
    refine zlRun (n := 1) (j := 1) rfl (by kernel_rfl) ?_
    refine zlEnd (by kernel_rfl) ?_
    refine zkSeq ?_
    refine zrRet ?_
    refine zkNil ?_
    exact endQ hS hQ (fRet (by kernel_rfl) ((congrArg (fun s => outR s 0 c12.res) (by kernel_rfl : finSt c12.fin _ = f12_fin true)).trans (f12_out true)))
  · simp only [Sum.elim_inr] at hS
    intro e st' _ hX
    obtain ⟨rfl, hX⟩ : _ ∧ _ := hX
    refine zkBlkR ?_
    refine zkSeqR ?_
    refine zkNil ?_
    exact endQ hS hQ (fRet (by kernel_rfl) ((congrArg (fun s => outR s 0 c12.res) hX).trans (f12_out z11)))
noncomputable def f12 (a1 : List GCell) (a2 : List GCell) : Option (Bool) := (bif (!decide ((a1.length : Int) = (a2.length : Int))) then (some false) else (f12_j0 a1 a2 ))
theorem f12_ok (d : Nat) (hd : 1 ≤ d) (a1 : List GCell) (a2 : List GCell) (r : Bool) (hS : f12 a1 a2 = some r) : lev codes baseL d 12 [(.d (.sl a1.length (e_GCell.cells a1))), (.d (.sl a2.length (e_GCell.cells a2)))] [] = some ((.d (.bool r)), []) := by
  refine lev_go codes12 rfl rfl (Nat.le_trans (Nat.le_of_ble_eq_true rfl) hd) fun Q hQ => ?_
  unfold f12 at hS
  show ZR _ Q c12_b [] _
  replace hQ : ∀ e st', f12_Q r e st' → Q e st' := hQ
  refine zrSeq ?_
  refine zrReg ?_
  refine zlRun (n := 1) (j := 1) rfl (by kernel_rfl) ?_
  refine zlEnd (by kernel_rfl) ?_
  refine zkSeq ?_
  refine zrSeq ?_
  refine zrSeq ?_
  refine zrReg ?_
  refine zlRun (n := 4) (j := 4) rfl (by kernel_rfl) ?_
  refine zlBool (d := 10) (op := (.cmpI .neq (.tmp 7) (.tmp 9))) (g := none) (j := 5) (!decide ((a1.length : Int) = (a2.length : Int))) rfl (by kernel_rfl) (by kernel_rfl) (by kernel_rfl) (fun hc => ?_) (fun hc => ?_)
  · replace hS := cond_t hc hS
    refine zlEnd (by kernel_rfl) ?_
    refine zkSeq ?_
    refine zrCondT (by kernel_rfl) ?_
    refine zrSeq ?_
    refine zrReg ?_
    refine zlRun (n := 1) (j := 1) rfl (by kernel_rfl) ?_
    refine zlEnd (by kernel_rfl) ?_
    refine zkSeq ?_
    refine zrRet ?_
    refine zkSeqR ?_
    refine zkNil ?_
    exact endQ hS hQ (fRet (by kernel_rfl) ((congrArg (fun s => outR s 0 c12.res) (by kernel_rfl : finSt c12.fin _ = f12_fin false)).trans (f12_out false)))
  · replace hS := cond_f hc hS
    refine zlEnd (by kernel_rfl) ?_
    refine zkSeq ?_
    refine zrCondF (by kernel_rfl) ?_
    refine zrSkip ?_
    refine zkSeq ?_
    exact f12_j0_ok hd a1 a2 hQ  hS (by kernel_rfl)
end Go.Proofs.YtioikkmmjljedaaGreatDoor.Pm
