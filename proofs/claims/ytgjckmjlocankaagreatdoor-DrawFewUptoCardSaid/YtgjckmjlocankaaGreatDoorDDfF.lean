/- Typed functions, and that the codes are these. Printed by dec.py. -/
import Derived.Test.YtgjckmjlocankaaGreatDoorDDfE
namespace Go.Proofs.YtgjckmjlocankaaGreatDoor.Pm
set_option maxRecDepth 1000000
set_option maxHeartbeats 20000000
set_option linter.unusedVariables false
/- farwriter/pen.Change -/
def f24_fin (p81 : List Int) (p82 : Int) : St := ⟨(up (up (fun _ => .un) 5 (.d (.int .i64 p82))) 4 (.r (.msl 761 0 0 p81.length))), (up (hB fun _ => 0) 761 ⟨0, some (.own 3 1 ((eInt .i64).cells p81))⟩)⟩
theorem f24_out (p81 : List Int) (p82 : Int) : outR (f24_fin p81 p82) 0 c24.res = some ((.tup [(.r (.own 0 3 1 p81.length ((eInt .i64).cells p81))), (.d (.int .i64 p82))]), []) := by
  exact out_of (ids := []) (ids' := [761]) (l := [(.r (.msl 761 0 0 p81.length)), (.d (.int .i64 p82))]) (by kernel_rfl) (by kernel_rfl) (o_tup (o_cons (o_own (eInt .i64) (e := 3) (k := 1) (xs := p81) (by kernel_rfl) rfl rfl rfl rfl) (o_cons rfl o_nil)))
def f24_Q (r : (List Int) × Int) (e : PX) (st : St) : Prop := DoneF c24 0 ((.tup [(.r (.own 0 3 1 r.1.length ((eInt .i64).cells r.1))), (.d (.int .i64 r.2))]), []) e st
def f24_j3_J (a1 : GPen) (a2 : GPen) (p160 : GPen) (p161 : List Int) : St := ⟨(up (up (up (fun _ => .un) 9 (.r (.msl 80 0 0 p161.length))) 3 (.r (.ptr 32 0 0))) 2 (.r (.ptr 24 0 0))), (up (up (up (hB fun _ => 0) 80 ⟨0, some (.own 3 1 ((eInt .i64).cells p161))⟩) 32 ⟨0, some (.box ((.d (.int .i64 a2.Flags)) :: ((.d (.int .i64 a2.Fore)) :: ((.d (.int .i64 a2.Back)) :: []))))⟩) 24 ⟨0, some (.box ((.d (.int .i64 p160.Flags)) :: ((.d (.int .i64 p160.Fore)) :: ((.d (.int .i64 p160.Back)) :: []))))⟩)⟩
noncomputable def f24_j3 (a1 : GPen) (a2 : GPen) (p160 : GPen) (p161 : List Int) : Option ((List Int) × Int) := (bif (!decide (a2.Back = p160.Back)) then ((f43 a2.Back 40).bind fun z43 => ((app? 8 p161 z43).bind fun z44 => (some (z44, 0)))) else (some (p161, 0)))
theorem f24_j3_ok {d : Nat} (hd : 3 ≤ d) (a1 : GPen) (a2 : GPen) {r : (List Int) × Int} {Q : PX → St → Prop} (hQ : ∀ e st', f24_Q r e st' → Q e st') (p160 : GPen) (p161 : List Int) (hS : f24_j3 a1 a2 p160 p161 = some r) {st : St} (he : keepSt [2, 3, 9] [(24, .id 24), (32, .id 32), (80, .id 80)] [] st = f24_j3_J a1 a2 p160 p161) : ZR (lev codes baseL (d - 1)) Q c24_1 [] st := by
  refine zrKeep he ?_
  unfold f24_j3 at hS
  refine zrSeq ?_
  refine zrSeq ?_
  refine zrReg ?_
  refine zlRun (n := 4) (j := 4) rfl (by kernel_rfl) ?_
  refine zlBool (d := 84) (op := (.cmpI .neq (.tmp 81) (.tmp 83))) (g := none) (j := 5) (!decide (a2.Back = p160.Back)) rfl (by kernel_rfl) (by kernel_rfl) (by kernel_rfl) (fun hc => ?_) (fun hc => ?_)
  · replace hS := cond_t hc hS
    refine zlEnd (by kernel_rfl) ?_
    refine zkSeq ?_
    refine zrCondT (by kernel_rfl) ?_
    refine zrReg ?_
    refine zlRun (n := 3) (j := 3) rfl (by kernel_rfl) ?_
    refine bindE hS (fun z43 hz43 hS => ?_)
    refine zlOp (d := some 88) (op := (.call 43 [(.tmp 87), (.const (.int .i64 40))])) (g := none) (j := 4) rfl (by kernel_rfl) (by kernel_rfl) (ev_callA (by kernel_rfl) (f43_ok (d - 1) (dpt hd rfl) a2.Back 40 z43 hz43) (by kernel_rfl) (by kernel_rfl)) ?_
    refine bindE hS (fun z44 hz44 hS => ?_)
    refine zlOp (d := some 89) (op := (.app 3 1 8 (.tmp 85) (.tmp 88))) (g := none) (v := (.r (.msl 80 1 0 z44.length))) (ups := [(80, ⟨1, some (.own 3 1 ((eInt .i64).cells z44))⟩)]) (j := 5) rfl (by kernel_rfl) (by kernel_rfl) (ev_app (eInt .i64) (b := 80) (g := 0) (n := p161.length) (xs := p161) (ys := z43) ((congrArg (asL _) (by kernel_rfl : ρof _ (.tmp 88) = (.r (.msl 712 1 0 z43.length)))).trans (as_whole (eInt .i64) (e := 3) (k := 1) (xs := z43) (by kernel_rfl) rfl rfl)) rfl (by kernel_rfl) rfl (by kernel_rfl) rfl hz44) ?_
    refine zlRun (n := 1) (j := 6) rfl (by kernel_rfl) ?_
    refine zlEnd (by kernel_rfl) ?_
    refine zkSeq ?_
    refine zrSeq ?_
    refine zrReg ?_
    refine zlRun (n := 3) (j := 3) rfl (by kernel_rfl) ?_
    refine zlEnd (by kernel_rfl) ?_
    refine zkSeq ?_
    refine zrRet ?_
    refine zkNil ?_
    exact endQ hS hQ (fRet (by kernel_rfl) ((congrArg (fun s => outR s 0 c24.res) (by kernel_rfl : finSt c24.fin _ = f24_fin z44 0)).trans (f24_out z44 0)))
  · replace hS := cond_f hc hS
    refine zlEnd (by kernel_rfl) ?_
    refine zkSeq ?_
    refine zrCondF (by kernel_rfl) ?_
    refine zrSkip ?_
    refine zkSeq ?_
    refine zrSeq ?_
    refine zrReg ?_
    refine zlRun (n := 3) (j := 3) rfl (by kernel_rfl) ?_
    refine zlEnd (by kernel_rfl) ?_
    refine zkSeq ?_
    refine zrRet ?_
    refine zkNil ?_
    exact endQ hS hQ (fRet (by kernel_rfl) ((congrArg (fun s => outR s 0 c24.res) (by kernel_rfl : finSt c24.fin _ = f24_fin p161 0)).trans (f24_out p161 0)))
def f24_j2_J (a1 : GPen) (a2 : GPen) (p153 : GPen) (p154 : List Int) : St := ⟨(up (up (up (fun _ => .un) 9 (.r (.msl 80 0 0 p154.length))) 3 (.r (.ptr 32 0 0))) 2 (.r (.ptr 24 0 0))), (up (up (up (hB fun _ => 0) 80 ⟨0, some (.own 3 1 ((eInt .i64).cells p154))⟩) 32 ⟨0, some (.box ((.d (.int .i64 a2.Flags)) :: ((.d (.int .i64 a2.Fore)) :: ((.d (.int .i64 a2.Back)) :: []))))⟩) 24 ⟨0, some (.box ((.d (.int .i64 p153.Flags)) :: ((.d (.int .i64 p153.Fore)) :: ((.d (.int .i64 p153.Back)) :: []))))⟩)⟩
noncomputable def f24_j2 (a1 : GPen) (a2 : GPen) (p153 : GPen) (p154 : List Int) : Option ((List Int) × Int) := (bif (!decide (a2.Fore = p153.Fore)) then ((f43 a2.Fore 30).bind fun z45 => ((app? 8 p154 z45).bind fun z46 => (f24_j3 a1 a2 p153 z46))) else (f24_j3 a1 a2 p153 p154))
theorem f24_j2_ok {d : Nat} (hd : 3 ≤ d) (a1 : GPen) (a2 : GPen) {r : (List Int) × Int} {Q : PX → St → Prop} (hQ : ∀ e st', f24_Q r e st' → Q e st') (p153 : GPen) (p154 : List Int) (hS : f24_j2 a1 a2 p153 p154 = some r) {st : St} (he : keepSt [2, 3, 9] [(24, .id 24), (32, .id 32), (80, .id 80)] [] st = f24_j2_J a1 a2 p153 p154) : ZR (lev codes baseL (d - 1)) Q c24_2 [] st := by
  refine zrKeep he ?_
  unfold f24_j2 at hS
  refine zrSeq ?_
  refine zrSeq ?_
  refine zrReg ?_
  refine zlRun (n := 4) (j := 4) rfl (by kernel_rfl) ?_
  refine zlBool (d := 74) (op := (.cmpI .neq (.tmp 71) (.tmp 73))) (g := none) (j := 5) (!decide (a2.Fore = p153.Fore)) rfl (by kernel_rfl) (by kernel_rfl) (by kernel_rfl) (fun hc => ?_) (fun hc => ?_)
  · replace hS := cond_t hc hS
    refine zlEnd (by kernel_rfl) ?_
    refine zkSeq ?_
    refine zrCondT (by kernel_rfl) ?_
    refine zrReg ?_
    refine zlRun (n := 3) (j := 3) rfl (by kernel_rfl) ?_
    refine bindE hS (fun z45 hz45 hS => ?_)
    refine zlOp (d := some 78) (op := (.call 43 [(.tmp 77), (.const (.int .i64 30))])) (g := none) (j := 4) rfl (by kernel_rfl) (by kernel_rfl) (ev_callA (by kernel_rfl) (f43_ok (d - 1) (dpt hd rfl) a2.Fore 30 z45 hz45) (by kernel_rfl) (by kernel_rfl)) ?_
    refine bindE hS (fun z46 hz46 hS => ?_)
    refine zlOp (d := some 79) (op := (.app 3 1 8 (.tmp 75) (.tmp 78))) (g := none) (v := (.r (.msl 80 1 0 z46.length))) (ups := [(80, ⟨1, some (.own 3 1 ((eInt .i64).cells z46))⟩)]) (j := 5) rfl (by kernel_rfl) (by kernel_rfl) (ev_app (eInt .i64) (b := 80) (g := 0) (n := p154.length) (xs := p154) (ys := z45) ((congrArg (asL _) (by kernel_rfl : ρof _ (.tmp 78) = (.r (.msl 632 1 0 z45.length)))).trans (as_whole (eInt .i64) (e := 3) (k := 1) (xs := z45) (by kernel_rfl) rfl rfl)) rfl (by kernel_rfl) rfl (by kernel_rfl) rfl hz46) ?_
    refine zlRun (n := 1) (j := 6) rfl (by kernel_rfl) ?_
    refine zlEnd (by kernel_rfl) ?_
    refine zkSeq ?_
    exact f24_j3_ok hd a1 a2 hQ p153 z46 hS (by kernel_rfl)
  · replace hS := cond_f hc hS
    refine zlEnd (by kernel_rfl) ?_
    refine zkSeq ?_
    refine zrCondF (by kernel_rfl) ?_
    refine zrSkip ?_
    refine zkSeq ?_
    exact f24_j3_ok hd a1 a2 hQ p153 p154 hS (by kernel_rfl)
def f24_l4_J (a1 : GPen) (a2 : GPen) (x : GPen × (List Int) × Int) : St := ⟨(up (up (up (up (fun _ => .un) 10 (.d (.int .i64 x.2.2))) 9 (.r (.msl 80 0 0 x.2.1.length))) 3 (.r (.ptr 32 0 0))) 2 (.r (.ptr 24 0 0))), (up (up (up (hB fun _ => 0) 80 ⟨0, some (.own 3 1 ((eInt .i64).cells x.2.1))⟩) 32 ⟨0, some (.box ((.d (.int .i64 a2.Flags)) :: ((.d (.int .i64 a2.Fore)) :: ((.d (.int .i64 a2.Back)) :: []))))⟩) 24 ⟨0, some (.box ((.d (.int .i64 x.1.Flags)) :: ((.d (.int .i64 x.1.Fore)) :: ((.d (.int .i64 x.1.Back)) :: []))))⟩)⟩
def f24_l4_H (a1 : GPen) (a2 : GPen) (x : GPen × (List Int) × Int) (st : St) : Prop := keepSt [2, 3, 9, 10] [(24, .id 24), (32, .id 32), (80, .id 80)] [] st = f24_l4_J a1 a2 x
def f24_l4_e2_J (a1 : GPen) (a2 : GPen) (p151 : GPen) (p152 : List Int) : St := ⟨(up (up (up (fun _ => .un) 9 (.r (.msl 80 0 0 p152.length))) 3 (.r (.ptr 32 0 0))) 2 (.r (.ptr 24 0 0))), (up (up (up (hB fun _ => 0) 80 ⟨0, some (.own 3 1 ((eInt .i64).cells p152))⟩) 32 ⟨0, some (.box ((.d (.int .i64 a2.Flags)) :: ((.d (.int .i64 a2.Fore)) :: ((.d (.int .i64 a2.Back)) :: []))))⟩) 24 ⟨0, some (.box ((.d (.int .i64 p151.Flags)) :: ((.d (.int .i64 p151.Fore)) :: ((.d (.int .i64 p151.Back)) :: []))))⟩)⟩
def f24_l4_X (a1 : GPen) (a2 : GPen) (z : (GPen × (List Int))) (e : PX) (st : St) : Prop := e = .exit 2 ∧ st = f24_l4_e2_J a1 a2 z.1 z.2
def f24_l4_j5_J (a1 : GPen) (a2 : GPen) (p166 : GPen) (p167 : List Int) (p168 : Int) : St := ⟨(up (up (up (up (fun _ => .un) 10 (.d (.int .i64 p168))) 9 (.r (.msl 80 0 0 p167.length))) 3 (.r (.ptr 32 0 0))) 2 (.r (.ptr 24 0 0))), (up (up (up (hB fun _ => 0) 80 ⟨0, some (.own 3 1 ((eInt .i64).cells p167))⟩) 32 ⟨0, some (.box ((.d (.int .i64 a2.Flags)) :: ((.d (.int .i64 a2.Fore)) :: ((.d (.int .i64 a2.Back)) :: []))))⟩) 24 ⟨0, some (.box ((.d (.int .i64 p166.Flags)) :: ((.d (.int .i64 p166.Fore)) :: ((.d (.int .i64 p166.Back)) :: []))))⟩)⟩
noncomputable def f24_l4_j5 (a1 : GPen) (a2 : GPen) (p166 : GPen) (p167 : List Int) (p168 : Int) : Option ((GPen × (List Int) × Int) ⊕ ((GPen × (List Int)))) := ((f42 p168).bind fun z48 => (bif (!decide ((bitI .andNot .i64 (bitI .and .i64 z48 a2.Flags) p166.Flags) = 0)) then ((app? 8 p167 ([p168] : List Int)).bind fun z49 => (some (.inl (p166, z49, (IntKind.i64.wrap (p168 + 1)))))) else (some (.inl (p166, p167, (IntKind.i64.wrap (p168 + 1)))))))
theorem f24_l4_j5_ok {d : Nat} (hd : 3 ≤ d) (a1 : GPen) (a2 : GPen) {r : (GPen × (List Int) × Int) ⊕ ((GPen × (List Int)))} {Q : PX → St → Prop} (hQ : ∀ e st', finL (f24_l4_H a1 a2) (f24_l4_X a1 a2) r e st' → Q e st') (p166 : GPen) (p167 : List Int) (p168 : Int) (hS : f24_l4_j5 a1 a2 p166 p167 p168 = some r) {st : St} (he : keepSt [2, 3, 9, 10] [(24, .id 24), (32, .id 32), (80, .id 80)] [] st = f24_l4_j5_J a1 a2 p166 p167 p168) : ZR (lev codes baseL (d - 1)) Q c24_3 [] st := by
  refine zrKeep he ?_
  unfold f24_l4_j5 at hS
  refine zrSeq ?_
  refine zrBlk ?_
  refine zrSeq ?_
  refine zrRegD ?_
  refine zdRun (n := 1) (j := 1) (ts := [[]]) (acc' := [[]]) rfl (by kernel_rfl) (by kernel_rfl) (by kernel_rfl) ?_
  refine bindE hS (fun z48 hz48 hS => ?_)
  refine zdOp (d := some 58) (op := (.call 42 [(.tmp 57)])) (g := none) (j := 2) (t1 := [(472, true), (473, true), (474, true), (475, true), (476, true), (477, true), (478, true), (479, true)]) (acc' := [[], [(472, true), (473, true), (474, true), (475, true), (476, true), (477, true), (478, true), (479, true)]]) (by kernel_rfl) (by kernel_rfl) rfl (by kernel_rfl) (by kernel_rfl) (ev_callA (by kernel_rfl) (f42_ok (d - 1) (dpt hd rfl) p168 z48 hz48) (by kernel_rfl) (by kernel_rfl)) ?_
  refine zdRun (n := 6) (j := 8) (ts := [[], [(32, false)], [], [], [(24, false)], []]) (acc' := [[], [(472, true), (473, true), (474, true), (475, true), (476, true), (477, true), (478, true), (479, true)], [], [(32, false)], [], [], [(24, false)], []]) rfl (by kernel_rfl) (by kernel_rfl) (by kernel_rfl) ?_
  refine zdBool (d := 65) (op := (.cmpI .neq (.tmp 64) (.const (.int .i64 0)))) (g := none) (j := 9) (t1 := []) (acc' := [[], [(472, true), (473, true), (474, true), (475, true), (476, true), (477, true), (478, true), (479, true)], [], [(32, false)], [], [], [(24, false)], [], []]) (!decide ((bitI .andNot .i64 (bitI .and .i64 z48 a2.Flags) p166.Flags) = 0)) (by kernel_rfl) (by kernel_rfl) rfl (by kernel_rfl) (by kernel_rfl) (by kernel_rfl) (fun hc => ?_) (fun hc => ?_)
  · replace hS := cond_t hc hS
    refine zdEnd (by kernel_rfl) (by kernel_rfl) ?_
    refine zkSeq ?_
    refine zrCondT (by kernel_rfl) ?_
    refine zrReg ?_
    refine zlRun (n := 3) (j := 3) rfl (by kernel_rfl) ?_
    refine bindE hS (fun z49 hz49 hS => ?_)
    refine zlOp (d := some 69) (op := (.app 3 1 8 (.tmp 66) (.tmp 68))) (g := none) (v := (.r (.msl 80 1 0 z49.length))) (ups := [(80, ⟨1, some (.own 3 1 ((eInt .i64).cells z49))⟩)]) (j := 4) rfl (by kernel_rfl) (by kernel_rfl) (ev_app (eInt .i64) (b := 80) (g := 0) (n := p167.length) (xs := p167) (ys := [p168]) ((congrArg (asL _) (by kernel_rfl : ρof _ (.tmp 68) = (.r (.msl 552 1 0 (([p168] : List Int).length))))).trans (as_whole (eInt .i64) (e := 3) (k := 1) (xs := [p168]) (by kernel_rfl) rfl rfl)) rfl (by kernel_rfl) rfl (by kernel_rfl) rfl hz49) ?_
    refine zlRun (n := 1) (j := 5) rfl (by kernel_rfl) ?_
    refine zlEnd (by kernel_rfl) ?_
    refine zkBlk ?_
    refine zkSeq ?_
    refine zrReg ?_
    refine zlRun (n := 3) (j := 3) rfl (by kernel_rfl) ?_
    refine zlEnd (by kernel_rfl) ?_
    refine zkNil ?_
    exact endQ hS hQ (finL_n (by show keepSt _ _ _ _ = _; kernel_rfl))
  · replace hS := cond_f hc hS
    refine zdEnd (by kernel_rfl) (by kernel_rfl) ?_
    refine zkSeq ?_
    refine zrCondF (by kernel_rfl) ?_
    refine zrSkip ?_
    refine zkBlk ?_
    refine zkSeq ?_
    refine zrReg ?_
    refine zlRun (n := 3) (j := 3) rfl (by kernel_rfl) ?_
    refine zlEnd (by kernel_rfl) ?_
    refine zkNil ?_
    exact endQ hS hQ (finL_n (by show keepSt _ _ _ _ = _; kernel_rfl))
noncomputable def f24_l4 (a1 : GPen) (a2 : GPen) (x : GPen × (List Int) × Int) : Option ((GPen × (List Int) × Int) ⊕ ((GPen × (List Int)))) := (bif (decide (x.2.2 ≤ 9)) then (f24_l4_j5 a1 a2 x.1 x.2.1 x.2.2) else (some (.inr (x.1, x.2.1))))
theorem f24_l4_ok {d : Nat} (hd : 3 ≤ d) (a1 : GPen) (a2 : GPen) {r : (GPen × (List Int) × Int) ⊕ ((GPen × (List Int)))} {Q : PX → St → Prop} (hQ : ∀ e st', finL (f24_l4_H a1 a2) (f24_l4_X a1 a2) r e st' → Q e st') {x : GPen × (List Int) × Int} (hS : f24_l4 a1 a2 x = some r) {st : St} (he : f24_l4_H a1 a2 x st) : ZR (lev codes baseL (d - 1)) Q c24_4 [] st := by
  refine zrKeep he ?_
  unfold f24_l4 at hS
  refine zrSeq ?_
  refine zrSeq ?_
  refine zrReg ?_
  refine zlRun (n := 1) (j := 1) rfl (by kernel_rfl) ?_
  refine zlBool (d := 54) (op := (.cmpI .leq (.tmp 53) (.const (.int .i64 9)))) (g := none) (j := 2) (decide (x.2.2 ≤ 9)) rfl (by kernel_rfl) (by kernel_rfl) (by kernel_rfl) (fun hc => ?_) (fun hc => ?_)
  · replace hS := cond_t hc hS
    refine zlEnd (by kernel_rfl) ?_
    refine zkSeq ?_
    refine zrCondT (by kernel_rfl) ?_
    refine zrSkip ?_
    refine zkSeq ?_
    exact f24_l4_j5_ok hd a1 a2 hQ x.1 x.2.1 x.2.2 hS (by kernel_rfl)
  · replace hS := cond_f hc hS
    refine zlEnd (by kernel_rfl) ?_
    refine zkSeq ?_
    refine zrCondF (by kernel_rfl) ?_
    refine zrKeep (J := f24_l4_e2_J a1 a2 x.1 x.2.1) (by kernel_rfl) ?_
    refine zrExit ?_
    refine zkSeqX ?_
    refine zkNil ?_
    exact endQ hS hQ (finL_x (by intro h; cases h) (by show _ = _ ∧ _ = _; exact ⟨rfl, rfl⟩))
def f24_j1_J (a1 : GPen) (a2 : GPen) (p94 : GPen) (p95 : List Int) : St := ⟨(up (up (up (fun _ => .un) 9 (.r (.msl 80 0 0 p95.length))) 3 (.r (.ptr 32 0 0))) 2 (.r (.ptr 24 0 0))), (up (up (up (hB fun _ => 0) 80 ⟨0, some (.own 3 1 ((eInt .i64).cells p95))⟩) 32 ⟨0, some (.box ((.d (.int .i64 a2.Flags)) :: ((.d (.int .i64 a2.Fore)) :: ((.d (.int .i64 a2.Back)) :: []))))⟩) 24 ⟨0, some (.box ((.d (.int .i64 p94.Flags)) :: ((.d (.int .i64 p94.Fore)) :: ((.d (.int .i64 p94.Back)) :: []))))⟩)⟩
noncomputable def f24_j1 (a1 : GPen) (a2 : GPen) (p94 : GPen) (p95 : List Int) : Option ((List Int) × Int) := ((loopO (f24_l4 a1 a2) (p94, p95, 1)).bind fun z50 => (f24_j2 a1 a2 z50.1 z50.2))
theorem f24_j1_ok {d : Nat} (hd : 3 ≤ d) (a1 : GPen) (a2 : GPen) {r : (List Int) × Int} {Q : PX → St → Prop} (hQ : ∀ e st', f24_Q r e st' → Q e st') (p94 : GPen) (p95 : List Int) (hS : f24_j1 a1 a2 p94 p95 = some r) {st : St} (he : keepSt [2, 3, 9] [(24, .id 24), (32, .id 32), (80, .id 80)] [] st = f24_j1_J a1 a2 p94 p95) : ZR (lev codes baseL (d - 1)) Q c24_5 [] st := by
  refine zrKeep he ?_
  unfold f24_j1 at hS
  refine zrSeq ?_
  refine zrSeq ?_
  refine zrReg ?_
  refine zlRun (n := 1) (j := 1) rfl (by kernel_rfl) ?_
  refine zlEnd (by kernel_rfl) ?_
  refine zkSeq ?_
  refine zrBlk ?_
  refine bindE hS (fun z50 hz50 hS => ?_)
  refine zrLoop (f24_l4_H a1 a2) (f24_l4_X a1 a2) (fun x st r Q h0 hS hQ => f24_l4_ok hd a1 a2 hQ hS h0) (x := (p94, p95, 1)) (z := z50) (by show keepSt _ _ _ _ = _; kernel_rfl) hz50 ?_
  intro e st' _ hX
  obtain ⟨rfl, rfl⟩ : _ ∧ _ := hX
  refine zkBlkX ?_
  refine zkSeq ?_
  exact f24_j2_ok hd a1 a2 hQ z50.1 z50.2 hS (by kernel_rfl)
def f24_j6_J (a1 : GPen) (a2 : GPen) : St := ⟨(up (up (up (fun _ => .un) 9 (.r (.msl 80 0 0 (([] : List Int).length)))) 3 (.r (.ptr 32 0 0))) 2 (.r (.ptr 24 0 0))), (up (up (up (hB fun _ => 0) 80 ⟨0, some (.own 3 1 ((eInt .i64).cells ([])))⟩) 32 ⟨0, some (.box ((.d (.int .i64 a2.Flags)) :: ((.d (.int .i64 a2.Fore)) :: ((.d (.int .i64 a2.Back)) :: []))))⟩) 24 ⟨0, some (.box ((.d (.int .i64 a1.Flags)) :: ((.d (.int .i64 a1.Fore)) :: ((.d (.int .i64 a1.Back)) :: []))))⟩)⟩
noncomputable def f24_j6 (a1 : GPen) (a2 : GPen) : Option ((List Int) × Int) := ((app? 8 ([] : List Int) ([0] : List Int)).bind fun z51 => (f24_j1 a1 a2 (GPen.mk 0 0 0) z51))
theorem f24_j6_ok {d : Nat} (hd : 3 ≤ d) (a1 : GPen) (a2 : GPen) {r : (List Int) × Int} {Q : PX → St → Prop} (hQ : ∀ e st', f24_Q r e st' → Q e st')  (hS : f24_j6 a1 a2 = some r) {st : St} (he : keepSt [2, 3, 9] [(24, .id 24), (32, .id 32), (80, .id 80)] [] st = f24_j6_J a1 a2) : ZR (lev codes baseL (d - 1)) Q c24_6 [.seq c24_5] st := by
  refine zrKeep he ?_
  unfold f24_j6 at hS
  refine zrReg ?_
  refine zlRun (n := 2) (j := 2) rfl (by kernel_rfl) ?_
  refine bindE hS (fun z51 hz51 hS => ?_)
  refine zlOp (d := some 51) (op := (.app 3 1 8 (.tmp 49) (.tmp 50))) (g := none) (v := (.r (.msl 80 1 0 z51.length))) (ups := [(80, ⟨1, some (.own 3 1 ((eInt .i64).cells z51))⟩)]) (j := 3) rfl (by kernel_rfl) (by kernel_rfl) (ev_app (eInt .i64) (b := 80) (g := 0) (n := ([] : List Int).length) (xs := []) (ys := [0]) ((congrArg (asL _) (by kernel_rfl : ρof _ (.tmp 50) = (.r (.msl 408 1 0 (([0] : List Int).length))))).trans (as_whole (eInt .i64) (e := 3) (k := 1) (xs := [0]) (by kernel_rfl) rfl rfl)) rfl (by kernel_rfl) rfl (by kernel_rfl) rfl hz51) ?_
  refine zlRun (n := 3) (j := 6) rfl (by kernel_rfl) ?_
  refine zlEnd (by kernel_rfl) ?_
  refine zkSeq ?_
  exact f24_j1_ok hd a1 a2 hQ (GPen.mk 0 0 0) z51 hS (by kernel_rfl)
def f24_j7_J (a1 : GPen) (a2 : GPen) : St := ⟨(up (up (up (fun _ => .un) 9 (.r (.msl 80 0 0 (([] : List Int).length)))) 3 (.r (.ptr 32 0 0))) 2 (.r (.ptr 24 0 0))), (up (up (up (hB fun _ => 0) 80 ⟨0, some (.own 3 1 ((eInt .i64).cells ([])))⟩) 32 ⟨0, some (.box ((.d (.int .i64 a2.Flags)) :: ((.d (.int .i64 a2.Fore)) :: ((.d (.int .i64 a2.Back)) :: []))))⟩) 24 ⟨0, some (.box ((.d (.int .i64 a1.Flags)) :: ((.d (.int .i64 a1.Fore)) :: ((.d (.int .i64 a1.Back)) :: []))))⟩)⟩
noncomputable def f24_j7 (a1 : GPen) (a2 : GPen) : Option ((List Int) × Int) := (f24_j1 a1 a2 a1 [])
theorem f24_j7_ok {d : Nat} (hd : 3 ≤ d) (a1 : GPen) (a2 : GPen) {r : (List Int) × Int} {Q : PX → St → Prop} (hQ : ∀ e st', f24_Q r e st' → Q e st')  (hS : f24_j7 a1 a2 = some r) {st : St} (he : keepSt [2, 3, 9] [(24, .id 24), (32, .id 32), (80, .id 80)] [] st = f24_j7_J a1 a2) : ZR (lev codes baseL (d - 1)) Q c24_7 [.seq c24_5] st := by
  refine zrKeep he ?_
  unfold f24_j7 at hS
  refine zrSkip ?_
  refine zkSeq ?_
  exact f24_j1_ok hd a1 a2 hQ a1 [] hS (by kernel_rfl)
def f24_j0_J (a1 : GPen) (a2 : GPen) : St := ⟨(up (up (fun _ => .un) 3 (.r (.ptr 32 0 0))) 2 (.r (.ptr 24 0 0))), (up (up (hB fun _ => 0) 32 ⟨0, some (.box ((.d (.int .i64 a2.Flags)) :: ((.d (.int .i64 a2.Fore)) :: ((.d (.int .i64 a2.Back)) :: []))))⟩) 24 ⟨0, some (.box ((.d (.int .i64 a1.Flags)) :: ((.d (.int .i64 a1.Fore)) :: ((.d (.int .i64 a1.Back)) :: []))))⟩)⟩
noncomputable def f24_j0 (a1 : GPen) (a2 : GPen) : Option ((List Int) × Int) := (bif (!decide ((bitI .andNot .i64 a1.Flags a2.Flags) = 0)) then (f24_j6 a1 a2 ) else (bif (!decide (a1.Fore = 0)) then (bif (decide (a2.Fore = 0)) then (f24_j6 a1 a2 ) else (bif (!decide (a1.Back = 0)) then (bif (decide (a2.Back = 0)) then (f24_j6 a1 a2 ) else (f24_j7 a1 a2 )) else (f24_j7 a1 a2 ))) else (bif (!decide (a1.Back = 0)) then (bif (decide (a2.Back = 0)) then (f24_j6 a1 a2 ) else (f24_j7 a1 a2 )) else (f24_j7 a1 a2 ))))
theorem f24_j0_ok {d : Nat} (hd : 3 ≤ d) (a1 : GPen) (a2 : GPen) {r : (List Int) × Int} {Q : PX → St → Prop} (hQ : ∀ e st', f24_Q r e st' → Q e st')  (hS : f24_j0 a1 a2 = some r) {st : St} (he : keepSt [2, 3] [(24, .id 24), (32, .id 32)] [] st = f24_j0_J a1 a2) : ZR (lev codes baseL (d - 1)) Q c24_8 [] st := by
  refine zrKeep he ?_
  unfold f24_j0 at hS
  refine zrSeq ?_
  refine zrReg ?_
  refine zlRun (n := 1) (j := 1) rfl (by kernel_rfl) ?_
  refine zlEnd (by kernel_rfl) ?_
  refine zkSeq ?_
  refine zrSeq ?_
  refine zrSeq ?_
  refine zrReg ?_
  refine zlRun (n := 5) (j := 5) rfl (by kernel_rfl) ?_
  refine zlBool (d := 28) (op := (.cmpI .neq (.tmp 27) (.const (.int .i64 0)))) (g := none) (j := 6) (!decide ((bitI .andNot .i64 a1.Flags a2.Flags) = 0)) rfl (by kernel_rfl) (by kernel_rfl) (by kernel_rfl) (fun hc => ?_) (fun hc => ?_)
  · replace hS := cond_t hc hS
    refine zlRun (n := 20) (j := 26) rfl (by kernel_rfl) ?_
    refine zlEnd (by kernel_rfl) ?_
    refine zkSeq ?_
    refine zrCondT (by kernel_rfl) ?_
    exact f24_j6_ok hd a1 a2 hQ  hS (by kernel_rfl)
  · replace hS := cond_f hc hS
    refine zlRun (n := 3) (j := 9) rfl (by kernel_rfl) ?_
    refine zlBool (d := 32) (op := (.cmpI .neq (.tmp 31) (.const (.int .i64 0)))) (g := (some (29, false))) (j := 10) (!decide (a1.Fore = 0)) rfl (by kernel_rfl) (by kernel_rfl) (by kernel_rfl) (fun hc => ?_) (fun hc => ?_)
    · replace hS := cond_t hc hS
      refine zlRun (n := 3) (j := 13) rfl (by kernel_rfl) ?_
      refine zlBool (d := 36) (op := (.cmpI .eql (.tmp 35) (.const (.int .i64 0)))) (g := (some (33, true))) (j := 14) (decide (a2.Fore = 0)) rfl (by kernel_rfl) (by kernel_rfl) (by kernel_rfl) (fun hc => ?_) (fun hc => ?_)
      · replace hS := cond_t hc hS
        refine zlRun (n := 12) (j := 26) rfl (by kernel_rfl) ?_
        refine zlEnd (by kernel_rfl) ?_
        refine zkSeq ?_
        refine zrCondT (by kernel_rfl) ?_
        exact f24_j6_ok hd a1 a2 hQ  hS (by kernel_rfl)
      · replace hS := cond_f hc hS
        refine zlRun (n := 5) (j := 19) rfl (by kernel_rfl) ?_
        refine zlBool (d := 42) (op := (.cmpI .neq (.tmp 41) (.const (.int .i64 0)))) (g := (some (39, false))) (j := 20) (!decide (a1.Back = 0)) rfl (by kernel_rfl) (by kernel_rfl) (by kernel_rfl) (fun hc => ?_) (fun hc => ?_)
        · replace hS := cond_t hc hS
          refine zlRun (n := 3) (j := 23) rfl (by kernel_rfl) ?_
          refine zlBool (d := 46) (op := (.cmpI .eql (.tmp 45) (.const (.int .i64 0)))) (g := (some (43, true))) (j := 24) (decide (a2.Back = 0)) rfl (by kernel_rfl) (by kernel_rfl) (by kernel_rfl) (fun hc => ?_) (fun hc => ?_)
          · replace hS := cond_t hc hS
            refine zlRun (n := 2) (j := 26) rfl (by kernel_rfl) ?_
            refine zlEnd (by kernel_rfl) ?_
            refine zkSeq ?_
            refine zrCondT (by kernel_rfl) ?_
            exact f24_j6_ok hd a1 a2 hQ  hS (by kernel_rfl)
          · replace hS := cond_f hc hS
            refine zlRun (n := 2) (j := 26) rfl (by kernel_rfl) ?_
            refine zlEnd (by kernel_rfl) ?_
            refine zkSeq ?_
            refine zrCondF (by kernel_rfl) ?_
            exact f24_j7_ok hd a1 a2 hQ  hS (by kernel_rfl)
        · replace hS := cond_f hc hS
          refine zlRun (n := 6) (j := 26) rfl (by kernel_rfl) ?_
          refine zlEnd (by kernel_rfl) ?_
          refine zkSeq ?_
          refine zrCondF (by kernel_rfl) ?_
          exact f24_j7_ok hd a1 a2 hQ  hS (by kernel_rfl)
    · replace hS := cond_f hc hS
      refine zlRun (n := 9) (j := 19) rfl (by kernel_rfl) ?_
      refine zlBool (d := 42) (op := (.cmpI .neq (.tmp 41) (.const (.int .i64 0)))) (g := (some (39, false))) (j := 20) (!decide (a1.Back = 0)) rfl (by kernel_rfl) (by kernel_rfl) (by kernel_rfl) (fun hc => ?_) (fun hc => ?_)
      · replace hS := cond_t hc hS
        refine zlRun (n := 3) (j := 23) rfl (by kernel_rfl) ?_
        refine zlBool (d := 46) (op := (.cmpI .eql (.tmp 45) (.const (.int .i64 0)))) (g := (some (43, true))) (j := 24) (decide (a2.Back = 0)) rfl (by kernel_rfl) (by kernel_rfl) (by kernel_rfl) (fun hc => ?_) (fun hc => ?_)
        · replace hS := cond_t hc hS
          refine zlRun (n := 2) (j := 26) rfl (by kernel_rfl) ?_
          refine zlEnd (by kernel_rfl) ?_
          refine zkSeq ?_
          refine zrCondT (by kernel_rfl) ?_
          exact f24_j6_ok hd a1 a2 hQ  hS (by kernel_rfl)
        · replace hS := cond_f hc hS
          refine zlRun (n := 2) (j := 26) rfl (by kernel_rfl) ?_
          refine zlEnd (by kernel_rfl) ?_
          refine zkSeq ?_
          refine zrCondF (by kernel_rfl) ?_
          exact f24_j7_ok hd a1 a2 hQ  hS (by kernel_rfl)
      · replace hS := cond_f hc hS
        refine zlRun (n := 6) (j := 26) rfl (by kernel_rfl) ?_
        refine zlEnd (by kernel_rfl) ?_
        refine zkSeq ?_
        refine zrCondF (by kernel_rfl) ?_
        exact f24_j7_ok hd a1 a2 hQ  hS (by kernel_rfl)
def f24_j9_J (a1 : GPen) (a2 : GPen) : St := ⟨(up (up (up (up (fun _ => .un) 14 (.d (.int .i64 1))) 13 (.agg ((.d (.int .i64 a1.Flags)) :: ((.d (.int .i64 a1.Fore)) :: ((.d (.int .i64 a1.Back)) :: ((.d (.int .i64 a2.Flags)) :: ((.d (.int .i64 a2.Fore)) :: ((.d (.int .i64 a2.Back)) :: [])))))))) 3 (.r (.ptr 32 0 0))) 2 (.r (.ptr 24 0 0))), (up (up (hB fun _ => 0) 32 ⟨0, some (.box ((.d (.int .i64 a2.Flags)) :: ((.d (.int .i64 a2.Fore)) :: ((.d (.int .i64 a2.Back)) :: []))))⟩) 24 ⟨0, some (.box ((.d (.int .i64 a1.Flags)) :: ((.d (.int .i64 a1.Fore)) :: ((.d (.int .i64 a1.Back)) :: []))))⟩)⟩
noncomputable def f24_j9 (a1 : GPen) (a2 : GPen) : Option ((List Int) × Int) := ((f18 a2).bind fun z54 => (bif (!decide (z54 = 0)) then (some ([], z54)) else (f24_j0 a1 a2 )))
theorem f24_j9_ok {d : Nat} (hd : 3 ≤ d) (a1 : GPen) (a2 : GPen) {r : (List Int) × Int} {Q : PX → St → Prop} (hQ : ∀ e st', f24_Q r e st' → Q e st')  (hS : f24_j9 a1 a2 = some r) {st : St} (he : keepSt [2, 3, 13, 14] [(24, .id 24), (32, .id 32)] [] st = f24_j9_J a1 a2) : ZR (lev codes baseL (d - 1)) Q c24_9 [.seq c24_10, .blk 0, .seq c24_8] st := by
  refine zrKeep he ?_
  unfold f24_j9 at hS
  refine zrSeq ?_
  refine zrBlk ?_
  refine zrSeq ?_
  refine zrReg ?_
  refine zlRun (n := 3) (j := 3) rfl (by kernel_rfl) ?_
  refine zlEnd (by kernel_rfl) ?_
  refine zkSeq ?_
  refine zrSeq ?_
  refine zrReg ?_
  refine zlRun (n := 1) (j := 1) rfl (by kernel_rfl) ?_
  refine bindE hS (fun z54 hz54 hS => ?_)
  refine zlOp (d := some 18) (op := (.call 18 [(.tmp 17)])) (g := none) (j := 2) rfl (by kernel_rfl) (by kernel_rfl) (ev_callA (by kernel_rfl) (f18_ok (d - 1) (dpt hd rfl) a2 z54 hz54) (by kernel_rfl) (by kernel_rfl)) ?_
  refine zlRun (n := 1) (j := 3) rfl (by kernel_rfl) ?_
  refine zlEnd (by kernel_rfl) ?_
  refine zkSeq ?_
  refine zrSeq ?_
  refine zrReg ?_
  refine zlRun (n := 1) (j := 1) rfl (by kernel_rfl) ?_
  refine zlBool (d := 20) (op := (.cmpI .neq (.tmp 19) (.const (.int .i64 0)))) (g := none) (j := 2) (!decide (z54 = 0)) rfl (by kernel_rfl) (by kernel_rfl) (by kernel_rfl) (fun hc => ?_) (fun hc => ?_)
  · replace hS := cond_t hc hS
    refine zlEnd (by kernel_rfl) ?_
    refine zkSeq ?_
    refine zrCondT (by kernel_rfl) ?_
    refine zrSeq ?_
    refine zrReg ?_
    refine zlRun (n := 3) (j := 3) rfl (by kernel_rfl) ?_
    refine zlEnd (by kernel_rfl) ?_
    refine zkSeq ?_
    refine zrRet ?_
    refine zkBlkR ?_
    refine zkSeqR ?_
    refine zkSeqR ?_
    refine zkBlkR ?_
    refine zkSeqR ?_
    refine zkNil ?_
    exact endQ hS hQ (fRet (by kernel_rfl) ((congrArg (fun s => outR s 0 c24.res) (by kernel_rfl : finSt c24.fin _ = f24_fin [] z54)).trans (f24_out [] z54)))
  · replace hS := cond_f hc hS
    refine zlEnd (by kernel_rfl) ?_
    refine zkSeq ?_
    refine zrCondF (by kernel_rfl) ?_
    refine zrSkip ?_
    refine zkBlk ?_
    refine zkSeq ?_
    refine zrReg ?_
    refine zlRun (n := 2) (j := 2) rfl (by kernel_rfl) ?_
    refine zlEnd (by kernel_rfl) ?_
    refine zkSeq ?_
    refine zrLoop1 ?_
    refine zrSeq ?_
    refine zrReg ?_
    refine zlRun (n := 1) (j := 1) rfl (by kernel_rfl) ?_
    refine zlEnd (by kernel_rfl) ?_
    refine zkSeq ?_
    refine zrSeq ?_
    refine zrCondF (by kernel_rfl) ?_
    refine zrExit ?_
    refine zkSeqX ?_
    refine zkSeqX ?_
    refine zkBlkX ?_
    refine zkSeq ?_
    exact f24_j0_ok hd a1 a2 hQ  hS (by kernel_rfl)
def f24_j8_J (a1 : GPen) (a2 : GPen) : St := ⟨(up (up (up (up (fun _ => .un) 14 (.d (.int .i64 0))) 13 (.agg ((.d (.int .i64 a1.Flags)) :: ((.d (.int .i64 a1.Fore)) :: ((.d (.int .i64 a1.Back)) :: ((.d (.int .i64 a2.Flags)) :: ((.d (.int .i64 a2.Fore)) :: ((.d (.int .i64 a2.Back)) :: [])))))))) 3 (.r (.ptr 32 0 0))) 2 (.r (.ptr 24 0 0))), (up (up (hB fun _ => 0) 32 ⟨0, some (.box ((.d (.int .i64 a2.Flags)) :: ((.d (.int .i64 a2.Fore)) :: ((.d (.int .i64 a2.Back)) :: []))))⟩) 24 ⟨0, some (.box ((.d (.int .i64 a1.Flags)) :: ((.d (.int .i64 a1.Fore)) :: ((.d (.int .i64 a1.Back)) :: []))))⟩)⟩
noncomputable def f24_j8 (a1 : GPen) (a2 : GPen) : Option ((List Int) × Int) := ((f18 a1).bind fun z52 => (bif (!decide (z52 = 0)) then (some ([], z52)) else (f24_j9 a1 a2 )))
theorem f24_j8_ok {d : Nat} (hd : 3 ≤ d) (a1 : GPen) (a2 : GPen) {r : (List Int) × Int} {Q : PX → St → Prop} (hQ : ∀ e st', f24_Q r e st' → Q e st')  (hS : f24_j8 a1 a2 = some r) {st : St} (he : keepSt [2, 3, 13, 14] [(24, .id 24), (32, .id 32)] [] st = f24_j8_J a1 a2) : ZR (lev codes baseL (d - 1)) Q c24_9 [.seq c24_10, .blk 0, .seq c24_8] st := by
  refine zrKeep he ?_
  unfold f24_j8 at hS
  refine zrSeq ?_
  refine zrBlk ?_
  refine zrSeq ?_
  refine zrReg ?_
  refine zlRun (n := 3) (j := 3) rfl (by kernel_rfl) ?_
  refine zlEnd (by kernel_rfl) ?_
  refine zkSeq ?_
  refine zrSeq ?_
  refine zrReg ?_
  refine zlRun (n := 1) (j := 1) rfl (by kernel_rfl) ?_
  refine bindE hS (fun z52 hz52 hS => ?_)
  refine zlOp (d := some 18) (op := (.call 18 [(.tmp 17)])) (g := none) (j := 2) rfl (by kernel_rfl) (by kernel_rfl) (ev_callA (by kernel_rfl) (f18_ok (d - 1) (dpt hd rfl) a1 z52 hz52) (by kernel_rfl) (by kernel_rfl)) ?_
  refine zlRun (n := 1) (j := 3) rfl (by kernel_rfl) ?_
  refine zlEnd (by kernel_rfl) ?_
  refine zkSeq ?_
  refine zrSeq ?_
  refine zrReg ?_
  refine zlRun (n := 1) (j := 1) rfl (by kernel_rfl) ?_
  refine zlBool (d := 20) (op := (.cmpI .neq (.tmp 19) (.const (.int .i64 0)))) (g := none) (j := 2) (!decide (z52 = 0)) rfl (by kernel_rfl) (by kernel_rfl) (by kernel_rfl) (fun hc => ?_) (fun hc => ?_)
  · replace hS := cond_t hc hS
    refine zlEnd (by kernel_rfl) ?_
    refine zkSeq ?_
    refine zrCondT (by kernel_rfl) ?_
    refine zrSeq ?_
    refine zrReg ?_
    refine zlRun (n := 3) (j := 3) rfl (by kernel_rfl) ?_
    refine zlEnd (by kernel_rfl) ?_
    refine zkSeq ?_
    refine zrRet ?_
    refine zkBlkR ?_
    refine zkSeqR ?_
    refine zkSeqR ?_
    refine zkBlkR ?_
    refine zkSeqR ?_
    refine zkNil ?_
    exact endQ hS hQ (fRet (by kernel_rfl) ((congrArg (fun s => outR s 0 c24.res) (by kernel_rfl : finSt c24.fin _ = f24_fin [] z52)).trans (f24_out [] z52)))
  · replace hS := cond_f hc hS
    refine zlEnd (by kernel_rfl) ?_
    refine zkSeq ?_
    refine zrCondF (by kernel_rfl) ?_
    refine zrSkip ?_
    refine zkBlk ?_
    refine zkSeq ?_
    refine zrReg ?_
    refine zlRun (n := 2) (j := 2) rfl (by kernel_rfl) ?_
    refine zlEnd (by kernel_rfl) ?_
    refine zkSeq ?_
    refine zrLoop1 ?_
    refine zrSeq ?_
    refine zrReg ?_
    refine zlRun (n := 1) (j := 1) rfl (by kernel_rfl) ?_
    refine zlEnd (by kernel_rfl) ?_
    refine zkSeq ?_
    refine zrSeq ?_
    refine zrCondT (by kernel_rfl) ?_
    refine zrSkip ?_
    refine zkSeq ?_
    exact f24_j9_ok hd a1 a2 hQ  hS (by kernel_rfl)
noncomputable def f24 (a1 : GPen) (a2 : GPen) : Option ((List Int) × Int) := (f24_j8 a1 a2 )
theorem f24_ok (d : Nat) (hd : 3 ≤ d) (a1 : GPen) (a2 : GPen) (r : (List Int) × Int) (hS : f24 a1 a2 = some r) : lev codes baseL d 24 [(.agg ((.d (.int .i64 a1.Flags)) :: ((.d (.int .i64 a1.Fore)) :: ((.d (.int .i64 a1.Back)) :: [])))), (.agg ((.d (.int .i64 a2.Flags)) :: ((.d (.int .i64 a2.Fore)) :: ((.d (.int .i64 a2.Back)) :: []))))] [] = some ((.tup [(.r (.own 0 3 1 r.1.length ((eInt .i64).cells r.1))), (.d (.int .i64 r.2))]), []) := by
  refine lev_go codes24 rfl rfl (Nat.le_trans (Nat.le_of_ble_eq_true rfl) hd) fun Q hQ => ?_
  unfold f24 at hS
  show ZR _ Q c24_b [] _
  replace hQ : ∀ e st', f24_Q r e st' → Q e st' := hQ
  refine zrSeq ?_
  refine zrReg ?_
  refine zlRun (n := 4) (j := 4) rfl (by kernel_rfl) ?_
  refine zlEnd (by kernel_rfl) ?_
  refine zkSeq ?_
  refine zrSeq ?_
  refine zrSeq ?_
  refine zrReg ?_
  refine zlRun (n := 4) (j := 4) rfl (by kernel_rfl) ?_
  refine zlEnd (by kernel_rfl) ?_
  refine zkSeq ?_
  refine zrBlk ?_
  refine zrLoop1 ?_
  refine zrSeq ?_
  refine zrReg ?_
  refine zlRun (n := 1) (j := 1) rfl (by kernel_rfl) ?_
  refine zlEnd (by kernel_rfl) ?_
  refine zkSeq ?_
  refine zrSeq ?_
  refine zrCondT (by kernel_rfl) ?_
  refine zrSkip ?_
  refine zkSeq ?_
  exact f24_j8_ok hd a1 a2 hQ  hS (by kernel_rfl)
/- (*farwriter/draw.drawer).to -/
def f11_fin (p7 : List Int) (p8 : Int) (p9 : Int) (p10 : Int) : St := ⟨(up (fun _ => .un) 1000001 .un), (up (up (hB fun _ => 0) 1 ⟨1, some (.own 3 1 ((eInt .i64).cells p7))⟩) 0 ⟨0, some (.box ((.r (.msl 1 1 0 p7.length)) :: ((.d (.int .i64 p8)) :: ((.d (.int .i64 p9)) :: ((.d (.int .i64 p10)) :: [])))))⟩)⟩
theorem f11_out (p7 : List Int) (p8 : Int) (p9 : Int) (p10 : Int) : outR (f11_fin p7 p8 p9 p10) 2 c11.res = some ((.tup []), [(.box ((.r (.msl 1 0 0 p7.length)) :: ((.d (.int .i64 p8)) :: ((.d (.int .i64 p9)) :: ((.d (.int .i64 p10)) :: []))))), (.own 3 1 ((eInt .i64).cells p7))]) := by
  kernel_rfl
def f11_Q (r : (List Int) × Int × Int × Int) (e : PX) (st : St) : Prop := DoneF c11 2 ((.tup []), [(.box ((.r (.msl 1 0 0 r.1.length)) :: ((.d (.int .i64 r.2.1)) :: ((.d (.int .i64 r.2.2.1)) :: ((.d (.int .i64 r.2.2.2)) :: []))))), (.own 3 1 ((eInt .i64).cells r.1))]) e st
noncomputable def f11 (a1 : GPen) (a2 : Int) (a3 : Int) (a4 : Int) (a5 : List Int) : Option ((List Int) × Int × Int × Int) := ((f24 (GPen.mk a2 a3 a4) a1).bind fun z3 => (bif (decide (0 < (z3.1.length : Int))) then ((f10 109 a2 a3 a4 z3.1 a5).bind fun z4 => (some (z4.1, a1.Flags, a1.Fore, a1.Back))) else (some (a5, a1.Flags, a1.Fore, a1.Back))))
theorem f11_ok (d : Nat) (hd : 7 ≤ d) (a1 : GPen) (a2 : Int) (a3 : Int) (a4 : Int) (a5 : List Int) (r : (List Int) × Int × Int × Int) (hS : f11 a1 a2 a3 a4 a5 = some r) : lev codes baseL d 11 [(.r (.ptr 0 0 0)), (.agg ((.d (.int .i64 a1.Flags)) :: ((.d (.int .i64 a1.Fore)) :: ((.d (.int .i64 a1.Back)) :: []))))] [(.box ((.r (.msl 1 0 0 a5.length)) :: ((.d (.int .i64 a2)) :: ((.d (.int .i64 a3)) :: ((.d (.int .i64 a4)) :: []))))), (.own 3 1 ((eInt .i64).cells a5))] = some ((.tup []), [(.box ((.r (.msl 1 0 0 r.1.length)) :: ((.d (.int .i64 r.2.1)) :: ((.d (.int .i64 r.2.2.1)) :: ((.d (.int .i64 r.2.2.2)) :: []))))), (.own 3 1 ((eInt .i64).cells r.1))]) := by
  refine lev_go codes11 rfl rfl (Nat.le_trans (Nat.le_of_ble_eq_true rfl) hd) fun Q hQ => ?_
  unfold f11 at hS
  show ZR _ Q c11_b [] _
  replace hQ : ∀ e st', f11_Q r e st' → Q e st' := hQ
  refine zrSeq ?_
  refine zrReg ?_
  refine zlRun (n := 1) (j := 1) rfl (by kernel_rfl) ?_
  refine zlEnd (by kernel_rfl) ?_
  refine zkSeq ?_
  refine zrSeq ?_
  refine zrSeq ?_
  refine zrRegD ?_
  refine zdRun (n := 5) (j := 5) (ts := [[], [], [], [(0, false)], [(32, false)]]) (acc' := [[], [], [], [(0, false)], [(32, false)]]) rfl (by kernel_rfl) (by kernel_rfl) (by kernel_rfl) ?_
  refine bindE hS (fun z3 hz3 hS => ?_)
  refine zdOp (d := some 12) (op := (.call 24 [(.tmp 10), (.tmp 11)])) (g := none) (j := 6) (t1 := [(104, true), (105, true), (106, true), (107, true), (108, true), (109, true), (110, true), (111, true)]) (acc' := [[], [], [], [(0, false)], [(32, false)], [(104, true), (105, true), (106, true), (107, true), (108, true), (109, true), (110, true), (111, true)]]) (by kernel_rfl) (by kernel_rfl) rfl (by kernel_rfl) (by kernel_rfl) (ev_callA (by kernel_rfl) (f24_ok (d - 1) (dpt hd rfl) (GPen.mk a2 a3 a4) a1 z3 hz3) (by kernel_rfl) (by kernel_rfl)) ?_
  refine zdRun (n := 5) (j := 11) (ts := [[], [], [], [], []]) (acc' := [[], [], [], [(0, false)], [(32, false)], [(104, true), (105, true), (106, true), (107, true), (108, true), (109, true), (110, true), (111, true)], [], [], [], [], []]) rfl (by kernel_rfl) (by kernel_rfl) (by kernel_rfl) ?_
  refine zdEnd (by kernel_rfl) (by kernel_rfl) ?_
  refine zkSeq ?_
  refine zrSeq ?_
  refine zrReg ?_
  refine zlRun (n := 2) (j := 2) rfl (by kernel_rfl) ?_
  refine zlBool (d := 17) (op := (.cmpI .gtr (.tmp 16) (.const (.int .i64 0)))) (g := none) (j := 3) (decide (0 < (z3.1.length : Int))) rfl (by kernel_rfl) (by kernel_rfl) (by kernel_rfl) (fun hc => ?_) (fun hc => ?_)
  · replace hS := cond_t hc hS
    refine zlEnd (by kernel_rfl) ?_
    refine zkSeq ?_
    refine zrCondT (by kernel_rfl) ?_
    refine zrReg ?_
    refine zlRun (n := 2) (j := 2) rfl (by kernel_rfl) ?_
    refine bindE hS (fun z4 hz4 hS => ?_)
    refine zlOp (d := some 20) (op := (.callr 10 [(.tmp 18), (.const (.int .i64 109)), (.tmp 19)])) (g := none) (j := 3) rfl (by kernel_rfl) (by kernel_rfl) (ev_callrA (ids := [0, 104, 1]) (by kernel_rfl) (by kernel_rfl) (by kernel_rfl) (f10_ok (d - 1) (dpt hd rfl) 109 a2 a3 a4 z3.1 a5 z4 hz4) (by kernel_rfl)) ?_
    refine zlEnd (by kernel_rfl) ?_
    refine zkSeq ?_
    refine zrReg ?_
    refine zlRun (n := 5) (j := 5) rfl (by kernel_rfl) ?_
    refine zlEnd (by kernel_rfl) ?_
    refine zkNil ?_
    exact endQ hS hQ (fNorm (by kernel_rfl) ((congrArg (fun s => outR s 2 c11.res) (by kernel_rfl : finSt c11.fin _ = f11_fin z4.1 a1.Flags a1.Fore a1.Back)).trans (f11_out z4.1 a1.Flags a1.Fore a1.Back)))
  · replace hS := cond_f hc hS
    refine zlEnd (by kernel_rfl) ?_
    refine zkSeq ?_
    refine zrCondF (by kernel_rfl) ?_
    refine zrSkip ?_
    refine zkSeq ?_
    refine zrReg ?_
    refine zlRun (n := 5) (j := 5) rfl (by kernel_rfl) ?_
    refine zlEnd (by kernel_rfl) ?_
    refine zkNil ?_
    exact endQ hS hQ (fNorm (by kernel_rfl) ((congrArg (fun s => outR s 2 c11.res) (by kernel_rfl : finSt c11.fin _ = f11_fin a5 a1.Flags a1.Fore a1.Back)).trans (f11_out a5 a1.Flags a1.Fore a1.Back)))
/- farwriter/draw.Draw -/
def f4_fin (p358 : List Int) (p359 : Int) : St := ⟨(up (up (fun _ => .un) 5 (.d (.int .i64 p359))) 4 (.r (.msl 1186 0 0 p358.length))), (up (hB fun _ => 0) 1186 ⟨0, some (.own 3 1 ((eInt .i64).cells p358))⟩)⟩
theorem f4_out (p358 : List Int) (p359 : Int) : outR (f4_fin p358 p359) 0 c4.res = some ((.tup [(.r (.own 0 3 1 p358.length ((eInt .i64).cells p358))), (.d (.int .i64 p359))]), []) := by
  exact out_of (ids := []) (ids' := [1186]) (l := [(.r (.msl 1186 0 0 p358.length)), (.d (.int .i64 p359))]) (by kernel_rfl) (by kernel_rfl) (o_tup (o_cons (o_own (eInt .i64) (e := 3) (k := 1) (xs := p358) (by kernel_rfl) rfl rfl rfl rfl) (o_cons rfl o_nil)))
def f4_Q (r : (List Int) × Int) (e : PX) (st : St) : Prop := DoneF c4 0 ((.tup [(.r (.own 0 3 1 r.1.length ((eInt .i64).cells r.1))), (.d (.int .i64 r.2))]), []) e st
def f4_j1_J (a1 : GScreen) (a2 : GScreen) (p369 : List Int) (p370 : Int) (p371 : Int) (p372 : Int) : St := ⟨(up (up (fun _ => .un) 8 (.r (.ptr 664 0 0))) 3 (.r (.ptr 32 0 0))), (up (up (up (hB fun _ => 0) 1185 ⟨0, some (.own 3 1 ((eInt .i64).cells p369))⟩) 664 ⟨0, some (.box ((.r (.msl 1185 0 0 p369.length)) :: ((.d (.int .i64 p370)) :: ((.d (.int .i64 p371)) :: ((.d (.int .i64 p372)) :: [])))))⟩) 32 ⟨0, some (.box (bx_GScreen a2 (.d (.sl a2.Grid.Cells.length (e_GCell.cells a2.Grid.Cells))) (.d (.sl a2.Other.Cells.length (e_GCell.cells a2.Other.Cells))) (.d (.sl a2.Past.length (e_GLine.cells a2.Past)))))⟩)⟩
noncomputable def f4_j1 (a1 : GScreen) (a2 : GScreen) (p369 : List Int) (p370 : Int) (p371 : Int) (p372 : Int) : Option ((List Int) × Int) := ((f11 a2.Pen p370 p371 p372 p369).bind fun z59 => ((f10 72 z59.2.1 z59.2.2.1 z59.2.2.2 [(IntKind.i64.wrap (a2.Row + 1)), (IntKind.i64.wrap (a2.Col + 1))] z59.1).bind fun z60 => (some (z60.1, 0))))
theorem f4_j1_ok {d : Nat} (hd : 8 ≤ d) (a1 : GScreen) (a2 : GScreen) {r : (List Int) × Int} {Q : PX → St → Prop} (hQ : ∀ e st', f4_Q r e st' → Q e st') (p369 : List Int) (p370 : Int) (p371 : Int) (p372 : Int) (hS : f4_j1 a1 a2 p369 p370 p371 p372 = some r) {st : St} (he : keepSt [3, 8] [(32, .id 32), (664, .id 664), (1185, .id 1185)] [] st = f4_j1_J a1 a2 p369 p370 p371 p372) : ZR (lev codes baseL (d - 1)) Q c4_1 [] st := by
  refine zrKeep he ?_
  unfold f4_j1 at hS
  refine zrSeq ?_
  refine zrReg ?_
  refine zlRun (n := 3) (j := 3) rfl (by kernel_rfl) ?_
  refine bindE hS (fun z59 hz59 hS => ?_)
  refine zlOp (d := some 130) (op := (.callr 11 [(.tmp 127), (.tmp 129)])) (g := none) (j := 4) rfl (by kernel_rfl) (by kernel_rfl) (ev_callrA (ids := [664, 1185]) (by kernel_rfl) (by kernel_rfl) (by kernel_rfl) (f11_ok (d - 1) (dpt hd rfl) a2.Pen p370 p371 p372 p369 z59 hz59) (by kernel_rfl)) ?_
  refine zlEnd (by kernel_rfl) ?_
  refine zkSeq ?_
  refine zrSeq ?_
  refine zrReg ?_
  refine zlRun (n := 8) (j := 8) rfl (by kernel_rfl) ?_
  refine bindE hS (fun z60 hz60 hS => ?_)
  refine zlOp (d := some 139) (op := (.callr 10 [(.tmp 131), (.const (.int .i64 72)), (.tmp 138)])) (g := none) (j := 9) rfl (by kernel_rfl) (by kernel_rfl) (ev_callrA (ids := [664, 1112, 1185]) (by kernel_rfl) (by kernel_rfl) (by kernel_rfl) (f10_ok (d - 1) (dpt hd rfl) 72 z59.2.1 z59.2.2.1 z59.2.2.2 [(IntKind.i64.wrap (a2.Row + 1)), (IntKind.i64.wrap (a2.Col + 1))] z59.1 z60 hz60) (by kernel_rfl)) ?_
  refine zlEnd (by kernel_rfl) ?_
  refine zkSeq ?_
  refine zrSeq ?_
  refine zrReg ?_
  refine zlRun (n := 6) (j := 6) rfl (by kernel_rfl) ?_
  refine zlEnd (by kernel_rfl) ?_
  refine zkSeq ?_
  refine zrRet ?_
  refine zkNil ?_
  exact endQ hS hQ (fRet (by kernel_rfl) ((congrArg (fun s => outR s 0 c4.res) (by kernel_rfl : finSt c4.fin _ = f4_fin z60.1 0)).trans (f4_out z60.1 0)))
def f4_l2_J (a1 : GScreen) (a2 : GScreen) (x : (List Int) × Int × Int × Int × Int) : St := ⟨(up (up (up (up (up (up (fun _ => .un) 85 (.d (.int .i64 x.2.2.2.2))) 84 (.d (.int .i64 a2.Grid.High))) 8 (.r (.ptr 664 0 0))) 7 (.r (.ptr 64 0 0))) 6 (.r (.ptr 56 0 0))) 3 (.r (.ptr 32 0 0))), (up (up (up (up (up (hB fun _ => 0) 1185 ⟨0, some (.own 3 1 ((eInt .i64).cells x.1))⟩) 664 ⟨0, some (.box ((.r (.msl 1185 0 0 x.1.length)) :: ((.d (.int .i64 x.2.1)) :: ((.d (.int .i64 x.2.2.1)) :: ((.d (.int .i64 x.2.2.2.1)) :: [])))))⟩) 64 ⟨0, some (.box ((.d (.int .i64 a2.Grid.Wide)) :: ((.d (.int .i64 a2.Grid.High)) :: ((.d (.sl a2.Grid.Cells.length (e_GCell.cells a2.Grid.Cells))) :: []))))⟩) 56 ⟨0, some (.box ((.d (.int .i64 a1.Grid.Wide)) :: ((.d (.int .i64 a1.Grid.High)) :: ((.d (.sl a1.Grid.Cells.length (e_GCell.cells a1.Grid.Cells))) :: []))))⟩) 32 ⟨0, some (.box (bx_GScreen a2 (.d (.sl a2.Grid.Cells.length (e_GCell.cells a2.Grid.Cells))) (.d (.sl a2.Other.Cells.length (e_GCell.cells a2.Other.Cells))) (.d (.sl a2.Past.length (e_GLine.cells a2.Past)))))⟩)⟩
def f4_l2_H (a1 : GScreen) (a2 : GScreen) (x : (List Int) × Int × Int × Int × Int) (st : St) : Prop := keepSt [3, 6, 7, 8, 84, 85] [(32, .id 32), (56, .id 56), (64, .id 64), (664, .id 664), (1185, (.cell 664 0))] [.cell 664 0 1185 3 1] st = f4_l2_J a1 a2 x
def f4_l2_e1_J (a1 : GScreen) (a2 : GScreen) (p354 : List Int) (p355 : Int) (p356 : Int) (p357 : Int) : St := ⟨(up (up (fun _ => .un) 8 (.r (.ptr 664 0 0))) 3 (.r (.ptr 32 0 0))), (up (up (up (hB fun _ => 0) 1185 ⟨0, some (.own 3 1 ((eInt .i64).cells p354))⟩) 664 ⟨0, some (.box ((.r (.msl 1185 0 0 p354.length)) :: ((.d (.int .i64 p355)) :: ((.d (.int .i64 p356)) :: ((.d (.int .i64 p357)) :: [])))))⟩) 32 ⟨0, some (.box (bx_GScreen a2 (.d (.sl a2.Grid.Cells.length (e_GCell.cells a2.Grid.Cells))) (.d (.sl a2.Other.Cells.length (e_GCell.cells a2.Other.Cells))) (.d (.sl a2.Past.length (e_GLine.cells a2.Past)))))⟩)⟩
def f4_l2_X (a1 : GScreen) (a2 : GScreen) (z : ((List Int) × Int × Int × Int)) (e : PX) (st : St) : Prop := e = .exit 1 ∧ st = f4_l2_e1_J a1 a2 z.1 z.2.1 z.2.2.1 z.2.2.2
def f4_l2_l6_J (a1 : GScreen) (a2 : GScreen) (x : (List Int) × Int × Int × Int × Int × (List GCell) × Int × Int) : St := ⟨(up (up (up (up (up (up (up (up (up (fun _ => .un) 103 (.d (.int .i64 x.2.2.2.2.2.2.2))) 102 (.d (.int .i64 x.2.2.2.2.2.2.1))) 101 (.r (.msl 728 0 0 x.2.2.2.2.2.1.length))) 85 (.d (.int .i64 x.2.2.2.2.1))) 84 (.d (.int .i64 a2.Grid.High))) 8 (.r (.ptr 664 0 0))) 7 (.r (.ptr 64 0 0))) 6 (.r (.ptr 56 0 0))) 3 (.r (.ptr 32 0 0))), (up (up (up (up (up (up (hB fun _ => 0) 728 ⟨0, some (.own 44 4 (e_GCell.cells x.2.2.2.2.2.1))⟩) 1185 ⟨0, some (.own 3 1 ((eInt .i64).cells x.1))⟩) 664 ⟨0, some (.box ((.r (.msl 1185 0 0 x.1.length)) :: ((.d (.int .i64 x.2.1)) :: ((.d (.int .i64 x.2.2.1)) :: ((.d (.int .i64 x.2.2.2.1)) :: [])))))⟩) 64 ⟨0, some (.box ((.d (.int .i64 a2.Grid.Wide)) :: ((.d (.int .i64 a2.Grid.High)) :: ((.d (.sl a2.Grid.Cells.length (e_GCell.cells a2.Grid.Cells))) :: []))))⟩) 56 ⟨0, some (.box ((.d (.int .i64 a1.Grid.Wide)) :: ((.d (.int .i64 a1.Grid.High)) :: ((.d (.sl a1.Grid.Cells.length (e_GCell.cells a1.Grid.Cells))) :: []))))⟩) 32 ⟨0, some (.box (bx_GScreen a2 (.d (.sl a2.Grid.Cells.length (e_GCell.cells a2.Grid.Cells))) (.d (.sl a2.Other.Cells.length (e_GCell.cells a2.Other.Cells))) (.d (.sl a2.Past.length (e_GLine.cells a2.Past)))))⟩)⟩
def f4_l2_l6_H (a1 : GScreen) (a2 : GScreen) (x : (List Int) × Int × Int × Int × Int × (List GCell) × Int × Int) (st : St) : Prop := keepSt [3, 6, 7, 8, 84, 85, 101, 102, 103] [(32, .id 32), (56, .id 56), (64, .id 64), (664, .id 664), (1185, .id 1185), (728, .id 728)] [] st = f4_l2_l6_J a1 a2 x
def f4_l2_l6_e3_J (a1 : GScreen) (a2 : GScreen) (p498 : List Int) (p499 : Int) (p500 : Int) (p501 : Int) (p502 : Int) : St := ⟨(up (up (up (up (up (up (fun _ => .un) 85 (.d (.int .i64 p502))) 84 (.d (.int .i64 a2.Grid.High))) 8 (.r (.ptr 664 0 0))) 7 (.r (.ptr 64 0 0))) 6 (.r (.ptr 56 0 0))) 3 (.r (.ptr 32 0 0))), (up (up (up (up (up (hB fun _ => 0) 1185 ⟨0, some (.own 3 1 ((eInt .i64).cells p498))⟩) 664 ⟨0, some (.box ((.r (.msl 1185 0 0 p498.length)) :: ((.d (.int .i64 p499)) :: ((.d (.int .i64 p500)) :: ((.d (.int .i64 p501)) :: [])))))⟩) 64 ⟨0, some (.box ((.d (.int .i64 a2.Grid.Wide)) :: ((.d (.int .i64 a2.Grid.High)) :: ((.d (.sl a2.Grid.Cells.length (e_GCell.cells a2.Grid.Cells))) :: []))))⟩) 56 ⟨0, some (.box ((.d (.int .i64 a1.Grid.Wide)) :: ((.d (.int .i64 a1.Grid.High)) :: ((.d (.sl a1.Grid.Cells.length (e_GCell.cells a1.Grid.Cells))) :: []))))⟩) 32 ⟨0, some (.box (bx_GScreen a2 (.d (.sl a2.Grid.Cells.length (e_GCell.cells a2.Grid.Cells))) (.d (.sl a2.Other.Cells.length (e_GCell.cells a2.Other.Cells))) (.d (.sl a2.Past.length (e_GLine.cells a2.Past)))))⟩)⟩
def f4_l2_l6_X (a1 : GScreen) (a2 : GScreen) (z : ((List Int) × Int × Int × Int × Int)) (e : PX) (st : St) : Prop := e = .exit 3 ∧ st = f4_l2_l6_e3_J a1 a2 z.1 z.2.1 z.2.2.1 z.2.2.2.1 z.2.2.2.2
def f4_l2_l6_j8_J (a1 : GScreen) (a2 : GScreen) (p521 : List Int) (p522 : Int) (p523 : Int) (p524 : Int) (p525 : Int) (p526 : List GCell) (p527 : Int) (p528 : Int) : St := ⟨(up (up (up (up (up (up (up (up (up (fun _ => .un) 103 (.d (.int .i64 p528))) 102 (.d (.int .i64 p527))) 101 (.r (.msl 728 0 0 p526.length))) 85 (.d (.int .i64 p525))) 84 (.d (.int .i64 a2.Grid.High))) 8 (.r (.ptr 664 0 0))) 7 (.r (.ptr 64 0 0))) 6 (.r (.ptr 56 0 0))) 3 (.r (.ptr 32 0 0))), (up (up (up (up (up (up (hB fun _ => 0) 728 ⟨0, some (.own 44 4 (e_GCell.cells p526))⟩) 1185 ⟨0, some (.own 3 1 ((eInt .i64).cells p521))⟩) 664 ⟨0, some (.box ((.r (.msl 1185 0 0 p521.length)) :: ((.d (.int .i64 p522)) :: ((.d (.int .i64 p523)) :: ((.d (.int .i64 p524)) :: [])))))⟩) 64 ⟨0, some (.box ((.d (.int .i64 a2.Grid.Wide)) :: ((.d (.int .i64 a2.Grid.High)) :: ((.d (.sl a2.Grid.Cells.length (e_GCell.cells a2.Grid.Cells))) :: []))))⟩) 56 ⟨0, some (.box ((.d (.int .i64 a1.Grid.Wide)) :: ((.d (.int .i64 a1.Grid.High)) :: ((.d (.sl a1.Grid.Cells.length (e_GCell.cells a1.Grid.Cells))) :: []))))⟩) 32 ⟨0, some (.box (bx_GScreen a2 (.d (.sl a2.Grid.Cells.length (e_GCell.cells a2.Grid.Cells))) (.d (.sl a2.Other.Cells.length (e_GCell.cells a2.Other.Cells))) (.d (.sl a2.Past.length (e_GLine.cells a2.Past)))))⟩)⟩
noncomputable def f4_l2_l6_j8 (a1 : GScreen) (a2 : GScreen) (p521 : List Int) (p522 : Int) (p523 : Int) (p524 : Int) (p525 : Int) (p526 : List GCell) (p527 : Int) (p528 : Int) : Option (((List Int) × Int × Int × Int × Int × (List GCell) × Int × Int) ⊕ (((List Int) × Int × Int × Int × Int))) := ((inR p528 p526.length).bind fun m77 => ((p526[m77]?).bind fun z78 => (bif (!decide (z78.Rune = 0)) then ((f11 z78.Pen p522 p523 p524 p521).bind fun z79 => ((app? 8 z79.1 ([z78.Rune] : List Int)).bind fun z80 => (some (.inl (z80, z79.2.1, z79.2.2.1, z79.2.2.2, p525, p526, p527, (IntKind.i64.wrap (p528 + 1))))))) else (some (.inl (p521, p522, p523, p524, p525, p526, p527, (IntKind.i64.wrap (p528 + 1))))))))
theorem f4_l2_l6_j8_ok {d : Nat} (hd : 8 ≤ d) (a1 : GScreen) (a2 : GScreen) {r : ((List Int) × Int × Int × Int × Int × (List GCell) × Int × Int) ⊕ (((List Int) × Int × Int × Int × Int))} {Q : PX → St → Prop} (hQ : ∀ e st', finL (f4_l2_l6_H a1 a2) (f4_l2_l6_X a1 a2) r e st' → Q e st') (p521 : List Int) (p522 : Int) (p523 : Int) (p524 : Int) (p525 : Int) (p526 : List GCell) (p527 : Int) (p528 : Int) (hS : f4_l2_l6_j8 a1 a2 p521 p522 p523 p524 p525 p526 p527 p528 = some r) {st : St} (he : keepSt [3, 6, 7, 8, 84, 85, 101, 102, 103] [(32, .id 32), (56, .id 56), (64, .id 64), (664, .id 664), (1185, .id 1185), (728, .id 728)] [] st = f4_l2_l6_j8_J a1 a2 p521 p522 p523 p524 p525 p526 p527 p528) : ZR (lev codes baseL (d - 1)) Q c4_2 [] st := by
  refine zrKeep he ?_
  unfold f4_l2_l6_j8 at hS
  refine zrSeq ?_
  refine zrBlk ?_
  refine zrSeq ?_
  refine zrReg ?_
  refine bindE hS (fun m77 hm77 hS => ?_)
  refine zlOp (d := some 105) (op := (.ixS 44 4 (.tmp 101) (.tmp 103))) (g := none) (v := (.r (.ptr 728 0 ((0 + m77) * 4)))) (ups := []) (j := 1) rfl (by kernel_rfl) (by kernel_rfl) (ev_ixM (kk := .i64) (b := 728) (g := 0) (l := 0) (n := p526.length) (j := p528) (cs := e_GCell.cells p526) (by kernel_rfl) (by kernel_rfl) (by kernel_rfl) hm77) ?_
  refine bindE hS (fun z78 hz78 hS => ?_)
  refine zlOp (d := some 106) (op := (.load .true 4 (.tmp 105))) (g := none) (v := (.agg ((.d (.int .i64 z78.Rune)) :: ((.d (.int .i64 z78.Pen.Flags)) :: ((.d (.int .i64 z78.Pen.Fore)) :: ((.d (.int .i64 z78.Pen.Back)) :: [])))))) (ups := []) (j := 2) rfl (by kernel_rfl) (by kernel_rfl) (ev_loadM e_GCell (b := 728) (g := 0) (o := (0 + m77) * 4) (e := 44) (k := 4) (m := m77) (fo := 0) (xs := p526) (by kernel_rfl) (by kernel_rfl) (by rw [Nat.zero_add]; rfl) hz78 (by kernel_rfl) (by kernel_rfl) (by kernel_rfl)) ?_
  refine zlRun (n := 2) (j := 4) rfl (by kernel_rfl) ?_
  refine zlEnd (by kernel_rfl) ?_
  refine zkSeq ?_
  refine zrSeq ?_
  refine zrReg ?_
  refine zlRun (n := 2) (j := 2) rfl (by kernel_rfl) ?_
  refine zlBool (d := 109) (op := (.cmpI .neq (.tmp 108) (.const (.int .i64 0)))) (g := none) (j := 3) (!decide (z78.Rune = 0)) rfl (by kernel_rfl) (by kernel_rfl) (by kernel_rfl) (fun hc => ?_) (fun hc => ?_)
  · replace hS := cond_t hc hS
    refine zlEnd (by kernel_rfl) ?_
    refine zkSeq ?_
    refine zrCondT (by kernel_rfl) ?_
    refine zrSeq ?_
    refine zrReg ?_
    refine zlRun (n := 3) (j := 3) rfl (by kernel_rfl) ?_
    refine bindE hS (fun z79 hz79 hS => ?_)
    refine zlOp (d := some 113) (op := (.callr 11 [(.tmp 110), (.tmp 112)])) (g := none) (j := 4) rfl (by kernel_rfl) (by kernel_rfl) (ev_callrA (ids := [664, 1185]) (by kernel_rfl) (by kernel_rfl) (by kernel_rfl) (f11_ok (d - 1) (dpt hd rfl) z78.Pen p522 p523 p524 p521 z79 hz79) (by kernel_rfl)) ?_
    refine zlEnd (by kernel_rfl) ?_
    refine zkSeq ?_
    refine zrRegD ?_
    refine zdRun (n := 8) (j := 8) (ts := [[], [], [], [], [(664, false)], [], [(104, false)], [(976, true)]]) (acc' := [[], [], [], [], [(664, false)], [], [(104, false)], [(976, true)]]) rfl (by kernel_rfl) (by kernel_rfl) (by kernel_rfl) ?_
    refine bindE hS (fun z80 hz80 hS => ?_)
    refine zdOp (d := some 122) (op := (.app 3 1 8 (.tmp 118) (.tmp 121))) (g := none) (v := (.r (.msl 1185 2 0 z80.length))) (ups := [(1185, ⟨2, some (.own 3 1 ((eInt .i64).cells z80))⟩)]) (j := 9) (t1 := [(984, true), (1185, true), (976, false)]) (acc' := [[], [], [], [], [(664, false)], [], [(104, false)], [(976, true)], [(984, true), (1185, true), (976, false)]]) (by kernel_rfl) (by kernel_rfl) rfl (by kernel_rfl) (by kernel_rfl) (ev_app (eInt .i64) (b := 1185) (g := 1) (n := z79.1.length) (xs := z79.1) (ys := [z78.Rune]) ((congrArg (asL _) (by kernel_rfl : ρof _ (.tmp 121) = (.r (.msl 976 1 0 (([z78.Rune] : List Int).length))))).trans (as_whole (eInt .i64) (e := 3) (k := 1) (xs := [z78.Rune]) (by kernel_rfl) rfl rfl)) rfl (by kernel_rfl) rfl (by kernel_rfl) rfl hz80) ?_
    refine zdRun (n := 3) (j := 12) (ts := [[], [], [(664, true)]]) (acc' := [[], [], [], [], [(664, false)], [], [(104, false)], [(976, true)], [(984, true), (1185, true), (976, false)], [], [], [(664, true)]]) rfl (by kernel_rfl) (by kernel_rfl) (by kernel_rfl) ?_
    refine zdEnd (by kernel_rfl) (by kernel_rfl) ?_
    refine zkBlk ?_
    refine zkSeq ?_
    refine zrReg ?_
    refine zlRun (n := 2) (j := 2) rfl (by kernel_rfl) ?_
    refine zlEnd (by kernel_rfl) ?_
    refine zkNil ?_
    exact endQ hS hQ (finL_n (by show keepSt _ _ _ _ = _; kernel_rfl))
  · replace hS := cond_f hc hS
    refine zlEnd (by kernel_rfl) ?_
    refine zkSeq ?_
    refine zrCondF (by kernel_rfl) ?_
    refine zrSkip ?_
    refine zkBlk ?_
    refine zkSeq ?_
    refine zrReg ?_
    refine zlRun (n := 2) (j := 2) rfl (by kernel_rfl) ?_
    refine zlEnd (by kernel_rfl) ?_
    refine zkNil ?_
    exact endQ hS hQ (finL_n (by show keepSt _ _ _ _ = _; kernel_rfl))
def f4_l2_l6_j7_J (a1 : GScreen) (a2 : GScreen) (p512 : List Int) (p513 : Int) (p514 : Int) (p515 : Int) (p516 : Int) (p517 : List GCell) (p518 : Int) (p519 : Int) (p520 : Bool) : St := ⟨(up (up (up (up (up (up (up (up (up (up (fun _ => .un) 104 (.d (.bool p520))) 103 (.d (.int .i64 p519))) 102 (.d (.int .i64 p518))) 101 (.r (.msl 728 0 0 p517.length))) 85 (.d (.int .i64 p516))) 84 (.d (.int .i64 a2.Grid.High))) 8 (.r (.ptr 664 0 0))) 7 (.r (.ptr 64 0 0))) 6 (.r (.ptr 56 0 0))) 3 (.r (.ptr 32 0 0))), (up (up (up (up (up (up (hB fun _ => 0) 728 ⟨0, some (.own 44 4 (e_GCell.cells p517))⟩) 1185 ⟨0, some (.own 3 1 ((eInt .i64).cells p512))⟩) 664 ⟨0, some (.box ((.r (.msl 1185 0 0 p512.length)) :: ((.d (.int .i64 p513)) :: ((.d (.int .i64 p514)) :: ((.d (.int .i64 p515)) :: [])))))⟩) 64 ⟨0, some (.box ((.d (.int .i64 a2.Grid.Wide)) :: ((.d (.int .i64 a2.Grid.High)) :: ((.d (.sl a2.Grid.Cells.length (e_GCell.cells a2.Grid.Cells))) :: []))))⟩) 56 ⟨0, some (.box ((.d (.int .i64 a1.Grid.Wide)) :: ((.d (.int .i64 a1.Grid.High)) :: ((.d (.sl a1.Grid.Cells.length (e_GCell.cells a1.Grid.Cells))) :: []))))⟩) 32 ⟨0, some (.box (bx_GScreen a2 (.d (.sl a2.Grid.Cells.length (e_GCell.cells a2.Grid.Cells))) (.d (.sl a2.Other.Cells.length (e_GCell.cells a2.Other.Cells))) (.d (.sl a2.Past.length (e_GLine.cells a2.Past)))))⟩)⟩
noncomputable def f4_l2_l6_j7 (a1 : GScreen) (a2 : GScreen) (p512 : List Int) (p513 : Int) (p514 : Int) (p515 : Int) (p516 : Int) (p517 : List GCell) (p518 : Int) (p519 : Int) (p520 : Bool) : Option (((List Int) × Int × Int × Int × Int × (List GCell) × Int × Int) ⊕ (((List Int) × Int × Int × Int × Int))) := (bif p520 then (f4_l2_l6_j8 a1 a2 p512 p513 p514 p515 p516 p517 p518 p519) else (some (.inr (p512, p513, p514, p515, p516))))
theorem f4_l2_l6_j7_ok {d : Nat} (hd : 8 ≤ d) (a1 : GScreen) (a2 : GScreen) {r : ((List Int) × Int × Int × Int × Int × (List GCell) × Int × Int) ⊕ (((List Int) × Int × Int × Int × Int))} {Q : PX → St → Prop} (hQ : ∀ e st', finL (f4_l2_l6_H a1 a2) (f4_l2_l6_X a1 a2) r e st' → Q e st') (p512 : List Int) (p513 : Int) (p514 : Int) (p515 : Int) (p516 : Int) (p517 : List GCell) (p518 : Int) (p519 : Int) (p520 : Bool) (hS : f4_l2_l6_j7 a1 a2 p512 p513 p514 p515 p516 p517 p518 p519 p520 = some r) {st : St} (he : keepSt [3, 6, 7, 8, 84, 85, 101, 102, 103, 104] [(32, .id 32), (56, .id 56), (64, .id 64), (664, .id 664), (1185, .id 1185), (728, .id 728)] [] st = f4_l2_l6_j7_J a1 a2 p512 p513 p514 p515 p516 p517 p518 p519 p520) : ZR (lev codes baseL (d - 1)) Q c4_3 [] st := by
  refine zrKeep he ?_
  unfold f4_l2_l6_j7 at hS
  refine zrSeq ?_
  refine zrSplit 104 p520 (by kernel_rfl) (fun hc => ?_) (fun hc => ?_)
  · replace hS := cond_t hc hS
    refine zrCondT (by kernel_rfl) ?_
    refine zrSkip ?_
    refine zkSeq ?_
    exact f4_l2_l6_j8_ok hd a1 a2 hQ p512 p513 p514 p515 p516 p517 p518 p519 hS (by kernel_rfl)
  · replace hS := cond_f hc hS
    refine zrCondF (by kernel_rfl) ?_
    refine zrKeep (J := f4_l2_l6_e3_J a1 a2 p512 p513 p514 p515 p516) (by kernel_rfl) ?_
    refine zrExit ?_
    refine zkSeqX ?_
    refine zkNil ?_
    exact endQ hS hQ (finL_x (by intro h; cases h) (by show _ = _ ∧ _ = _; exact ⟨rfl, rfl⟩))
noncomputable def f4_l2_l6 (a1 : GScreen) (a2 : GScreen) (x : (List Int) × Int × Int × Int × Int × (List GCell) × Int × Int) : Option (((List Int) × Int × Int × Int × Int × (List GCell) × Int × Int) ⊕ (((List Int) × Int × Int × Int × Int))) := (bif (decide (x.2.2.2.2.2.2.2 < x.2.2.2.2.2.2.1)) then (f4_l2_l6_j7 a1 a2 x.1 x.2.1 x.2.2.1 x.2.2.2.1 x.2.2.2.2.1 x.2.2.2.2.2.1 x.2.2.2.2.2.2.1 x.2.2.2.2.2.2.2 true) else (f4_l2_l6_j7 a1 a2 x.1 x.2.1 x.2.2.1 x.2.2.2.1 x.2.2.2.2.1 x.2.2.2.2.2.1 x.2.2.2.2.2.2.1 x.2.2.2.2.2.2.2 false))
theorem f4_l2_l6_ok {d : Nat} (hd : 8 ≤ d) (a1 : GScreen) (a2 : GScreen) {r : ((List Int) × Int × Int × Int × Int × (List GCell) × Int × Int) ⊕ (((List Int) × Int × Int × Int × Int))} {Q : PX → St → Prop} (hQ : ∀ e st', finL (f4_l2_l6_H a1 a2) (f4_l2_l6_X a1 a2) r e st' → Q e st') {x : (List Int) × Int × Int × Int × Int × (List GCell) × Int × Int} (hS : f4_l2_l6 a1 a2 x = some r) {st : St} (he : f4_l2_l6_H a1 a2 x st) : ZR (lev codes baseL (d - 1)) Q c4_4 [] st := by
  refine zrKeep he ?_
  unfold f4_l2_l6 at hS
  refine zrSeq ?_
  refine zrReg ?_
  refine zlBool (d := 104) (op := (.cmpI .lss (.tmp 103) (.tmp 102))) (g := none) (j := 1) (decide (x.2.2.2.2.2.2.2 < x.2.2.2.2.2.2.1)) rfl (by kernel_rfl) (by kernel_rfl) (by kernel_rfl) (fun hc => ?_) (fun hc => ?_)
  · replace hS := cond_t hc hS
    refine zlEnd (by kernel_rfl) ?_
    refine zkSeq ?_
    exact f4_l2_l6_j7_ok hd a1 a2 hQ x.1 x.2.1 x.2.2.1 x.2.2.2.1 x.2.2.2.2.1 x.2.2.2.2.2.1 x.2.2.2.2.2.2.1 x.2.2.2.2.2.2.2 true hS (by kernel_rfl)
  · replace hS := cond_f hc hS
    refine zlEnd (by kernel_rfl) ?_
    refine zkSeq ?_
    exact f4_l2_l6_j7_ok hd a1 a2 hQ x.1 x.2.1 x.2.2.1 x.2.2.2.1 x.2.2.2.2.1 x.2.2.2.2.2.1 x.2.2.2.2.2.2.1 x.2.2.2.2.2.2.2 false hS (by kernel_rfl)
def f4_l2_j5_J (a1 : GScreen) (a2 : GScreen) (p390 : List Int) (p391 : Int) (p392 : Int) (p393 : Int) (p394 : Int) (p395 : List GCell) (p396 : Int) : St := ⟨(up (up (up (up (up (up (up (up (fun _ => .un) 85 (.d (.int .i64 p396))) 84 (.d (.int .i64 a2.Grid.High))) 10 (.r (.msl 728 0 0 p395.length))) 9 (.d (.int .i64 p394))) 8 (.r (.ptr 664 0 0))) 7 (.r (.ptr 64 0 0))) 6 (.r (.ptr 56 0 0))) 3 (.r (.ptr 32 0 0))), (up (up (up (up (up (up (hB fun _ => 0) 728 ⟨0, some (.own 44 4 (e_GCell.cells p395))⟩) 1185 ⟨0, some (.own 3 1 ((eInt .i64).cells p390))⟩) 664 ⟨0, some (.box ((.r (.msl 1185 0 0 p390.length)) :: ((.d (.int .i64 p391)) :: ((.d (.int .i64 p392)) :: ((.d (.int .i64 p393)) :: [])))))⟩) 64 ⟨0, some (.box ((.d (.int .i64 a2.Grid.Wide)) :: ((.d (.int .i64 a2.Grid.High)) :: ((.d (.sl a2.Grid.Cells.length (e_GCell.cells a2.Grid.Cells))) :: []))))⟩) 56 ⟨0, some (.box ((.d (.int .i64 a1.Grid.Wide)) :: ((.d (.int .i64 a1.Grid.High)) :: ((.d (.sl a1.Grid.Cells.length (e_GCell.cells a1.Grid.Cells))) :: []))))⟩) 32 ⟨0, some (.box (bx_GScreen a2 (.d (.sl a2.Grid.Cells.length (e_GCell.cells a2.Grid.Cells))) (.d (.sl a2.Other.Cells.length (e_GCell.cells a2.Other.Cells))) (.d (.sl a2.Past.length (e_GLine.cells a2.Past)))))⟩)⟩
noncomputable def f4_l2_j5 (a1 : GScreen) (a2 : GScreen) (p390 : List Int) (p391 : Int) (p392 : Int) (p393 : Int) (p394 : Int) (p395 : List GCell) (p396 : Int) : Option (((List Int) × Int × Int × Int × Int) ⊕ (((List Int) × Int × Int × Int))) := ((f10 72 p391 p392 p393 [(IntKind.i64.wrap (p394 + 1)), 1] p390).bind fun z64 => ((loopO (f4_l2_l6 a1 a2) (z64.1, z64.2.1, z64.2.2.1, z64.2.2.2.1, p396, p395, (p395.length : Int), 0)).bind fun z81 => (some (.inl (z81.1, z81.2.1, z81.2.2.1, z81.2.2.2.1, (IntKind.i64.wrap (z81.2.2.2.2 + 1)))))))
theorem f4_l2_j5_ok {d : Nat} (hd : 8 ≤ d) (a1 : GScreen) (a2 : GScreen) {r : ((List Int) × Int × Int × Int × Int) ⊕ (((List Int) × Int × Int × Int))} {Q : PX → St → Prop} (hQ : ∀ e st', finL (f4_l2_H a1 a2) (f4_l2_X a1 a2) r e st' → Q e st') (p390 : List Int) (p391 : Int) (p392 : Int) (p393 : Int) (p394 : Int) (p395 : List GCell) (p396 : Int) (hS : f4_l2_j5 a1 a2 p390 p391 p392 p393 p394 p395 p396 = some r) {st : St} (he : keepSt [3, 6, 7, 8, 9, 10, 84, 85] [(32, .id 32), (56, .id 56), (64, .id 64), (664, .id 664), (1185, .id 1185), (728, .id 728)] [] st = f4_l2_j5_J a1 a2 p390 p391 p392 p393 p394 p395 p396) : ZR (lev codes baseL (d - 1)) Q c4_5 [.blk 2, .seq c4_6] st := by
  refine zrKeep he ?_
  unfold f4_l2_j5 at hS
  refine zrSeq ?_
  refine zrReg ?_
  refine zlRun (n := 4) (j := 4) rfl (by kernel_rfl) ?_
  refine bindE hS (fun z64 hz64 hS => ?_)
  refine zlOp (d := some 100) (op := (.callr 10 [(.tmp 96), (.const (.int .i64 72)), (.tmp 99)])) (g := none) (j := 5) rfl (by kernel_rfl) (by kernel_rfl) (ev_callrA (ids := [664, 800, 1185]) (by kernel_rfl) (by kernel_rfl) (by kernel_rfl) (f10_ok (d - 1) (dpt hd rfl) 72 p391 p392 p393 [(IntKind.i64.wrap (p394 + 1)), 1] p390 z64 hz64) (by kernel_rfl)) ?_
  refine zlEnd (by kernel_rfl) ?_
  refine zkSeq ?_
  refine zrSeq ?_
  refine zrReg ?_
  refine zlRun (n := 3) (j := 3) rfl (by kernel_rfl) ?_
  refine zlEnd (by kernel_rfl) ?_
  refine zkSeq ?_
  refine zrBlk ?_
  refine bindE hS (fun z81 hz81 hS => ?_)
  refine zrLoop (f4_l2_l6_H a1 a2) (f4_l2_l6_X a1 a2) (fun x st r Q h0 hS hQ => f4_l2_l6_ok hd a1 a2 hQ hS h0) (x := (z64.1, z64.2.1, z64.2.2.1, z64.2.2.2.1, p396, p395, (p395.length : Int), 0)) (z := z81) (by show keepSt _ _ _ _ = _; kernel_rfl) hz81 ?_
  intro e st' _ hX
  obtain ⟨rfl, rfl⟩ : _ ∧ _ := hX
  refine zkBlkX ?_
  refine zkBlk ?_
  refine zkSeq ?_
  refine zrReg ?_
  refine zlRun (n := 2) (j := 2) rfl (by kernel_rfl) ?_
  refine zlEnd (by kernel_rfl) ?_
  refine zkNil ?_
  exact endQ hS hQ (finL_n (by show keepSt _ _ _ _ = _; kernel_rfl))
def f4_l2_j4_J (a1 : GScreen) (a2 : GScreen) (p385 : List Int) (p386 : Int) (p387 : Int) (p388 : Int) (p389 : Int) : St := ⟨(up (up (up (up (up (up (fun _ => .un) 85 (.d (.int .i64 p389))) 84 (.d (.int .i64 a2.Grid.High))) 8 (.r (.ptr 664 0 0))) 7 (.r (.ptr 64 0 0))) 6 (.r (.ptr 56 0 0))) 3 (.r (.ptr 32 0 0))), (up (up (up (up (up (hB fun _ => 0) 1185 ⟨0, some (.own 3 1 ((eInt .i64).cells p385))⟩) 664 ⟨0, some (.box ((.r (.msl 1185 0 0 p385.length)) :: ((.d (.int .i64 p386)) :: ((.d (.int .i64 p387)) :: ((.d (.int .i64 p388)) :: [])))))⟩) 64 ⟨0, some (.box ((.d (.int .i64 a2.Grid.Wide)) :: ((.d (.int .i64 a2.Grid.High)) :: ((.d (.sl a2.Grid.Cells.length (e_GCell.cells a2.Grid.Cells))) :: []))))⟩) 56 ⟨0, some (.box ((.d (.int .i64 a1.Grid.Wide)) :: ((.d (.int .i64 a1.Grid.High)) :: ((.d (.sl a1.Grid.Cells.length (e_GCell.cells a1.Grid.Cells))) :: []))))⟩) 32 ⟨0, some (.box (bx_GScreen a2 (.d (.sl a2.Grid.Cells.length (e_GCell.cells a2.Grid.Cells))) (.d (.sl a2.Other.Cells.length (e_GCell.cells a2.Other.Cells))) (.d (.sl a2.Past.length (e_GLine.cells a2.Past)))))⟩)⟩
noncomputable def f4_l2_j4 (a1 : GScreen) (a2 : GScreen) (p385 : List Int) (p386 : Int) (p387 : Int) (p388 : Int) (p389 : Int) : Option (((List Int) × Int × Int × Int × Int) ⊕ (((List Int) × Int × Int × Int))) := ((f9 a2.Grid p389).bind fun z61 => ((f9 a1.Grid p389).bind fun z82 => ((f6 z82 z61).bind fun z83 => (bif z83 then (some (.inl (p385, p386, p387, p388, (IntKind.i64.wrap (p389 + 1))))) else (f4_l2_j5 a1 a2 p385 p386 p387 p388 p389 z61 p389)))))
theorem f4_l2_j4_ok {d : Nat} (hd : 8 ≤ d) (a1 : GScreen) (a2 : GScreen) {r : ((List Int) × Int × Int × Int × Int) ⊕ (((List Int) × Int × Int × Int))} {Q : PX → St → Prop} (hQ : ∀ e st', finL (f4_l2_H a1 a2) (f4_l2_X a1 a2) r e st' → Q e st') (p385 : List Int) (p386 : Int) (p387 : Int) (p388 : Int) (p389 : Int) (hS : f4_l2_j4 a1 a2 p385 p386 p387 p388 p389 = some r) {st : St} (he : keepSt [3, 6, 7, 8, 84, 85] [(32, .id 32), (56, .id 56), (64, .id 64), (664, .id 664), (1185, .id 1185)] [] st = f4_l2_j4_J a1 a2 p385 p386 p387 p388 p389) : ZR (lev codes baseL (d - 1)) Q c4_7 [] st := by
  refine zrKeep he ?_
  unfold f4_l2_j4 at hS
  refine zrSeq ?_
  refine zrBlk ?_
  refine zrSeq ?_
  refine zrReg ?_
  refine zlRun (n := 2) (j := 2) rfl (by kernel_rfl) ?_
  refine zlEnd (by kernel_rfl) ?_
  refine zkSeq ?_
  refine zrSeq ?_
  refine zrReg ?_
  refine zlRun (n := 2) (j := 2) rfl (by kernel_rfl) ?_
  refine bindE hS (fun z61 hz61 hS => ?_)
  refine zlOp (d := some 90) (op := (.call 9 [(.tmp 88), (.tmp 89)])) (g := none) (j := 3) rfl (by kernel_rfl) (by kernel_rfl) (ev_callA (by kernel_rfl) (f9_ok (d - 1) (dpt hd rfl) a2.Grid p389 z61 hz61) (by kernel_rfl) (by kernel_rfl)) ?_
  refine zlRun (n := 1) (j := 4) rfl (by kernel_rfl) ?_
  refine zlEnd (by kernel_rfl) ?_
  refine zkSeq ?_
  refine zrSeq ?_
  refine zrSeq ?_
  refine zrReg ?_
  refine zlRun (n := 2) (j := 2) rfl (by kernel_rfl) ?_
  refine bindE hS (fun z82 hz82 hS => ?_)
  refine zlOp (d := some 93) (op := (.call 9 [(.tmp 91), (.tmp 92)])) (g := none) (j := 3) rfl (by kernel_rfl) (by kernel_rfl) (ev_callA (by kernel_rfl) (f9_ok (d - 1) (dpt hd rfl) a1.Grid p389 z82 hz82) (by kernel_rfl) (by kernel_rfl)) ?_
  refine zlRun (n := 1) (j := 4) rfl (by kernel_rfl) ?_
  refine bindE hS (fun z83 hz83 hS => ?_)
  refine zlOp (d := some 95) (op := (.call 6 [(.tmp 93), (.tmp 94)])) (g := none) (j := 5) rfl (by kernel_rfl) (by kernel_rfl) (ev_callB (args := [(.r (.msl 752 1 0 z82.length)), (.r (.msl 728 1 0 z61.length))]) (by kernel_rfl) (l_cons (l_own e_GCell (e := 44) (k := 4) (xs := z82) (by kernel_rfl) rfl rfl) (l_cons (l_own e_GCell (e := 44) (k := 4) (xs := z61) (by kernel_rfl) rfl rfl) l_nil)) (f6_ok (d - 1) (dpt hd rfl) z82 z61 z83 hz83) (by kernel_rfl) (by kernel_rfl)) ?_
  refine zlEnd (by kernel_rfl) ?_
  refine zkSeq ?_
  refine zrSplit 95 z83 (by kernel_rfl) (fun hc => ?_) (fun hc => ?_)
  · replace hS := cond_t hc hS
    refine zrCondT (by kernel_rfl) ?_
    refine zrExit ?_
    refine zkSeqX ?_
    refine zkBlkX ?_
    refine zkSeq ?_
    refine zrReg ?_
    refine zlRun (n := 2) (j := 2) rfl (by kernel_rfl) ?_
    refine zlEnd (by kernel_rfl) ?_
    refine zkNil ?_
    exact endQ hS hQ (finL_n (by show keepSt _ _ _ _ = _; kernel_rfl))
  · replace hS := cond_f hc hS
    refine zrCondF (by kernel_rfl) ?_
    refine zrSkip ?_
    refine zkSeq ?_
    exact f4_l2_j5_ok hd a1 a2 hQ p385 p386 p387 p388 p389 z61 p389 hS (by kernel_rfl)
def f4_l2_j3_J (a1 : GScreen) (a2 : GScreen) (p379 : List Int) (p380 : Int) (p381 : Int) (p382 : Int) (p383 : Int) (p384 : Bool) : St := ⟨(up (up (up (up (up (up (up (fun _ => .un) 86 (.d (.bool p384))) 85 (.d (.int .i64 p383))) 84 (.d (.int .i64 a2.Grid.High))) 8 (.r (.ptr 664 0 0))) 7 (.r (.ptr 64 0 0))) 6 (.r (.ptr 56 0 0))) 3 (.r (.ptr 32 0 0))), (up (up (up (up (up (hB fun _ => 0) 1185 ⟨0, some (.own 3 1 ((eInt .i64).cells p379))⟩) 664 ⟨0, some (.box ((.r (.msl 1185 0 0 p379.length)) :: ((.d (.int .i64 p380)) :: ((.d (.int .i64 p381)) :: ((.d (.int .i64 p382)) :: [])))))⟩) 64 ⟨0, some (.box ((.d (.int .i64 a2.Grid.Wide)) :: ((.d (.int .i64 a2.Grid.High)) :: ((.d (.sl a2.Grid.Cells.length (e_GCell.cells a2.Grid.Cells))) :: []))))⟩) 56 ⟨0, some (.box ((.d (.int .i64 a1.Grid.Wide)) :: ((.d (.int .i64 a1.Grid.High)) :: ((.d (.sl a1.Grid.Cells.length (e_GCell.cells a1.Grid.Cells))) :: []))))⟩) 32 ⟨0, some (.box (bx_GScreen a2 (.d (.sl a2.Grid.Cells.length (e_GCell.cells a2.Grid.Cells))) (.d (.sl a2.Other.Cells.length (e_GCell.cells a2.Other.Cells))) (.d (.sl a2.Past.length (e_GLine.cells a2.Past)))))⟩)⟩
noncomputable def f4_l2_j3 (a1 : GScreen) (a2 : GScreen) (p379 : List Int) (p380 : Int) (p381 : Int) (p382 : Int) (p383 : Int) (p384 : Bool) : Option (((List Int) × Int × Int × Int × Int) ⊕ (((List Int) × Int × Int × Int))) := (bif p384 then (f4_l2_j4 a1 a2 p379 p380 p381 p382 p383) else (some (.inr (p379, p380, p381, p382))))
theorem f4_l2_j3_ok {d : Nat} (hd : 8 ≤ d) (a1 : GScreen) (a2 : GScreen) {r : ((List Int) × Int × Int × Int × Int) ⊕ (((List Int) × Int × Int × Int))} {Q : PX → St → Prop} (hQ : ∀ e st', finL (f4_l2_H a1 a2) (f4_l2_X a1 a2) r e st' → Q e st') (p379 : List Int) (p380 : Int) (p381 : Int) (p382 : Int) (p383 : Int) (p384 : Bool) (hS : f4_l2_j3 a1 a2 p379 p380 p381 p382 p383 p384 = some r) {st : St} (he : keepSt [3, 6, 7, 8, 84, 85, 86] [(32, .id 32), (56, .id 56), (64, .id 64), (664, .id 664), (1185, .id 1185)] [] st = f4_l2_j3_J a1 a2 p379 p380 p381 p382 p383 p384) : ZR (lev codes baseL (d - 1)) Q c4_8 [] st := by
  refine zrKeep he ?_
  unfold f4_l2_j3 at hS
  refine zrSeq ?_
  refine zrSplit 86 p384 (by kernel_rfl) (fun hc => ?_) (fun hc => ?_)
  · replace hS := cond_t hc hS
    refine zrCondT (by kernel_rfl) ?_
    refine zrSkip ?_
    refine zkSeq ?_
    exact f4_l2_j4_ok hd a1 a2 hQ p379 p380 p381 p382 p383 hS (by kernel_rfl)
  · replace hS := cond_f hc hS
    refine zrCondF (by kernel_rfl) ?_
    refine zrKeep (J := f4_l2_e1_J a1 a2 p379 p380 p381 p382) (by kernel_rfl) ?_
    refine zrExit ?_
    refine zkSeqX ?_
    refine zkNil ?_
    exact endQ hS hQ (finL_x (by intro h; cases h) (by show _ = _ ∧ _ = _; exact ⟨rfl, rfl⟩))
noncomputable def f4_l2 (a1 : GScreen) (a2 : GScreen) (x : (List Int) × Int × Int × Int × Int) : Option (((List Int) × Int × Int × Int × Int) ⊕ (((List Int) × Int × Int × Int))) := (bif (decide (x.2.2.2.2 < a2.Grid.High)) then (f4_l2_j3 a1 a2 x.1 x.2.1 x.2.2.1 x.2.2.2.1 x.2.2.2.2 true) else (f4_l2_j3 a1 a2 x.1 x.2.1 x.2.2.1 x.2.2.2.1 x.2.2.2.2 false))
theorem f4_l2_ok {d : Nat} (hd : 8 ≤ d) (a1 : GScreen) (a2 : GScreen) {r : ((List Int) × Int × Int × Int × Int) ⊕ (((List Int) × Int × Int × Int))} {Q : PX → St → Prop} (hQ : ∀ e st', finL (f4_l2_H a1 a2) (f4_l2_X a1 a2) r e st' → Q e st') {x : (List Int) × Int × Int × Int × Int} (hS : f4_l2 a1 a2 x = some r) {st : St} (he : f4_l2_H a1 a2 x st) : ZR (lev codes baseL (d - 1)) Q c4_9 [] st := by
  refine zrKeep he ?_
  unfold f4_l2 at hS
  refine zrSeq ?_
  refine zrReg ?_
  refine zlBool (d := 86) (op := (.cmpI .lss (.tmp 85) (.tmp 84))) (g := none) (j := 1) (decide (x.2.2.2.2 < a2.Grid.High)) rfl (by kernel_rfl) (by kernel_rfl) (by kernel_rfl) (fun hc => ?_) (fun hc => ?_)
  · replace hS := cond_t hc hS
    refine zlEnd (by kernel_rfl) ?_
    refine zkSeq ?_
    exact f4_l2_j3_ok hd a1 a2 hQ x.1 x.2.1 x.2.2.1 x.2.2.2.1 x.2.2.2.2 true hS (by kernel_rfl)
  · replace hS := cond_f hc hS
    refine zlEnd (by kernel_rfl) ?_
    refine zkSeq ?_
    exact f4_l2_j3_ok hd a1 a2 hQ x.1 x.2.1 x.2.2.1 x.2.2.2.1 x.2.2.2.2 false hS (by kernel_rfl)
def f4_j0_J (a1 : GScreen) (a2 : GScreen) : St := ⟨(up (up (up (up (fun _ => .un) 7 (.r (.ptr 64 0 0))) 6 (.r (.ptr 56 0 0))) 3 (.r (.ptr 32 0 0))) 2 (.r (.ptr 24 0 0))), (up (up (up (up (hB fun _ => 0) 64 ⟨0, some (.box ((.d (.int .i64 a2.Grid.Wide)) :: ((.d (.int .i64 a2.Grid.High)) :: ((.d (.sl a2.Grid.Cells.length (e_GCell.cells a2.Grid.Cells))) :: []))))⟩) 56 ⟨0, some (.box ((.d (.int .i64 a1.Grid.Wide)) :: ((.d (.int .i64 a1.Grid.High)) :: ((.d (.sl a1.Grid.Cells.length (e_GCell.cells a1.Grid.Cells))) :: []))))⟩) 32 ⟨0, some (.box (bx_GScreen a2 (.d (.sl a2.Grid.Cells.length (e_GCell.cells a2.Grid.Cells))) (.d (.sl a2.Other.Cells.length (e_GCell.cells a2.Other.Cells))) (.d (.sl a2.Past.length (e_GLine.cells a2.Past)))))⟩) 24 ⟨0, some (.box (bx_GScreen a1 (.d (.sl a1.Grid.Cells.length (e_GCell.cells a1.Grid.Cells))) (.d (.sl a1.Other.Cells.length (e_GCell.cells a1.Other.Cells))) (.d (.sl a1.Past.length (e_GLine.cells a1.Past)))))⟩)⟩
noncomputable def f4_j0 (a1 : GScreen) (a2 : GScreen) : Option ((List Int) × Int) := ((loopO (f4_l2 a1 a2) ([], a1.Pen.Flags, a1.Pen.Fore, a1.Pen.Back, 0)).bind fun z84 => (f4_j1 a1 a2 z84.1 z84.2.1 z84.2.2.1 z84.2.2.2))
theorem f4_j0_ok {d : Nat} (hd : 8 ≤ d) (a1 : GScreen) (a2 : GScreen) {r : (List Int) × Int} {Q : PX → St → Prop} (hQ : ∀ e st', f4_Q r e st' → Q e st')  (hS : f4_j0 a1 a2 = some r) {st : St} (he : keepSt [2, 3, 6, 7] [(24, .id 24), (32, .id 32), (56, .id 56), (64, .id 64)] [] st = f4_j0_J a1 a2) : ZR (lev codes baseL (d - 1)) Q c4_10 [] st := by
  refine zrKeep he ?_
  unfold f4_j0 at hS
  refine zrSeq ?_
  refine zrReg ?_
  refine zlRun (n := 5) (j := 5) rfl (by kernel_rfl) ?_
  refine zlEnd (by kernel_rfl) ?_
  refine zkSeq ?_
  refine zrSeq ?_
  refine zrSeq ?_
  refine zrReg ?_
  refine zlRun (n := 3) (j := 3) rfl (by kernel_rfl) ?_
  refine zlEnd (by kernel_rfl) ?_
  refine zkSeq ?_
  refine zrBlk ?_
  refine bindE hS (fun z84 hz84 hS => ?_)
  refine zrLoop (f4_l2_H a1 a2) (f4_l2_X a1 a2) (fun x st r Q h0 hS hQ => f4_l2_ok hd a1 a2 hQ hS h0) (x := ([], a1.Pen.Flags, a1.Pen.Fore, a1.Pen.Back, 0)) (z := z84) (by show keepSt _ _ _ _ = _; kernel_rfl) hz84 ?_
  intro e st' _ hX
  obtain ⟨rfl, rfl⟩ : _ ∧ _ := hX
  refine zkBlkX ?_
  refine zkSeq ?_
  exact f4_j1_ok hd a1 a2 hQ z84.1 z84.2.1 z84.2.2.1 z84.2.2.2 hS (by kernel_rfl)
def f4_j9_J (a1 : GScreen) (a2 : GScreen) : St := ⟨(fun _ => .un), (hB fun _ => 0)⟩
noncomputable def f4_j9 (a1 : GScreen) (a2 : GScreen) : Option ((List Int) × Int) := (some ([], 4))
theorem f4_j9_ok {d : Nat} (hd : 8 ≤ d) (a1 : GScreen) (a2 : GScreen) {r : (List Int) × Int} {Q : PX → St → Prop} (hQ : ∀ e st', f4_Q r e st' → Q e st')  (hS : f4_j9 a1 a2 = some r) {st : St} (he : keepSt [] [] [] st = f4_j9_J a1 a2) : ZR (lev codes baseL (d - 1)) Q c4_11 [.blk 0, .seq c4_10] st := by
  refine zrKeep he ?_
  unfold f4_j9 at hS
  refine zrSeq ?_
  refine zrReg ?_
  refine zlRun (n := 2) (j := 2) rfl (by kernel_rfl) ?_
  refine zlEnd (by kernel_rfl) ?_
  refine zkSeq ?_
  refine zrRet ?_
  refine zkBlkR ?_
  refine zkSeqR ?_
  refine zkNil ?_
  exact endQ hS hQ (fRet (by kernel_rfl) ((congrArg (fun s => outR s 0 c4.res) (by kernel_rfl : finSt c4.fin _ = f4_fin [] 4)).trans (f4_out [] 4)))
def f4_j10_J (a1 : GScreen) (a2 : GScreen) : St := ⟨(fun _ => .un), (hB fun _ => 0)⟩
noncomputable def f4_j10 (a1 : GScreen) (a2 : GScreen) : Option ((List Int) × Int) := (some ([], 1))
theorem f4_j10_ok {d : Nat} (hd : 8 ≤ d) (a1 : GScreen) (a2 : GScreen) {r : (List Int) × Int} {Q : PX → St → Prop} (hQ : ∀ e st', f4_Q r e st' → Q e st')  (hS : f4_j10 a1 a2 = some r) {st : St} (he : keepSt [] [] [] st = f4_j10_J a1 a2) : ZR (lev codes baseL (d - 1)) Q c4_12 [.blk 0, .seq c4_10] st := by
  refine zrKeep he ?_
  unfold f4_j10 at hS
  refine zrSeq ?_
  refine zrReg ?_
  refine zlRun (n := 2) (j := 2) rfl (by kernel_rfl) ?_
  refine zlEnd (by kernel_rfl) ?_
  refine zkSeq ?_
  refine zrRet ?_
  refine zkBlkR ?_
  refine zkSeqR ?_
  refine zkNil ?_
  exact endQ hS hQ (fRet (by kernel_rfl) ((congrArg (fun s => outR s 0 c4.res) (by kernel_rfl : finSt c4.fin _ = f4_fin [] 1)).trans (f4_out [] 1)))
def f4_j11_J (a1 : GScreen) (a2 : GScreen) : St := ⟨(fun _ => .un), (hB fun _ => 0)⟩
noncomputable def f4_j11 (a1 : GScreen) (a2 : GScreen) : Option ((List Int) × Int) := (some ([], 7))
theorem f4_j11_ok {d : Nat} (hd : 8 ≤ d) (a1 : GScreen) (a2 : GScreen) {r : (List Int) × Int} {Q : PX → St → Prop} (hQ : ∀ e st', f4_Q r e st' → Q e st')  (hS : f4_j11 a1 a2 = some r) {st : St} (he : keepSt [] [] [] st = f4_j11_J a1 a2) : ZR (lev codes baseL (d - 1)) Q c4_13 [.blk 0, .seq c4_10] st := by
  refine zrKeep he ?_
  unfold f4_j11 at hS
  refine zrSeq ?_
  refine zrReg ?_
  refine zlRun (n := 2) (j := 2) rfl (by kernel_rfl) ?_
  refine zlEnd (by kernel_rfl) ?_
  refine zkSeq ?_
  refine zrRet ?_
  refine zkBlkR ?_
  refine zkSeqR ?_
  refine zkNil ?_
  exact endQ hS hQ (fRet (by kernel_rfl) ((congrArg (fun s => outR s 0 c4.res) (by kernel_rfl : finSt c4.fin _ = f4_fin [] 7)).trans (f4_out [] 7)))
def f4_j12_J (a1 : GScreen) (a2 : GScreen) : St := ⟨(up (up (up (up (fun _ => .un) 7 (.r (.ptr 64 0 0))) 6 (.r (.ptr 56 0 0))) 3 (.r (.ptr 32 0 0))) 2 (.r (.ptr 24 0 0))), (up (up (up (up (hB fun _ => 0) 64 ⟨0, some (.box ((.d (.int .i64 a2.Grid.Wide)) :: ((.d (.int .i64 a2.Grid.High)) :: ((.d (.sl a2.Grid.Cells.length (e_GCell.cells a2.Grid.Cells))) :: []))))⟩) 56 ⟨0, some (.box ((.d (.int .i64 a1.Grid.Wide)) :: ((.d (.int .i64 a1.Grid.High)) :: ((.d (.sl a1.Grid.Cells.length (e_GCell.cells a1.Grid.Cells))) :: []))))⟩) 32 ⟨0, some (.box (bx_GScreen a2 (.d (.sl a2.Grid.Cells.length (e_GCell.cells a2.Grid.Cells))) (.d (.sl a2.Other.Cells.length (e_GCell.cells a2.Other.Cells))) (.d (.sl a2.Past.length (e_GLine.cells a2.Past)))))⟩) 24 ⟨0, some (.box (bx_GScreen a1 (.d (.sl a1.Grid.Cells.length (e_GCell.cells a1.Grid.Cells))) (.d (.sl a1.Other.Cells.length (e_GCell.cells a1.Other.Cells))) (.d (.sl a1.Past.length (e_GLine.cells a1.Past)))))⟩)⟩
noncomputable def f4_j12 (a1 : GScreen) (a2 : GScreen) : Option ((List Int) × Int) := ((f6 a1.Grid.Cells a2.Grid.Cells).bind fun z90 => (bif z90 then (bif (decide (a1.Row = a2.Row)) then (bif (decide (a1.Col = a2.Col)) then (bif (decide (a1.Pen.Flags = a2.Pen.Flags) && (decide (a1.Pen.Fore = a2.Pen.Fore) && (decide (a1.Pen.Back = a2.Pen.Back) && true))) then (some ([], 0)) else (f4_j0 a1 a2 )) else (f4_j0 a1 a2 )) else (f4_j0 a1 a2 )) else (f4_j0 a1 a2 )))
theorem f4_j12_ok {d : Nat} (hd : 8 ≤ d) (a1 : GScreen) (a2 : GScreen) {r : (List Int) × Int} {Q : PX → St → Prop} (hQ : ∀ e st', f4_Q r e st' → Q e st')  (hS : f4_j12 a1 a2 = some r) {st : St} (he : keepSt [2, 3, 6, 7] [(24, .id 24), (32, .id 32), (56, .id 56), (64, .id 64)] [] st = f4_j12_J a1 a2) : ZR (lev codes baseL (d - 1)) Q c4_14 [.blk 0, .seq c4_10] st := by
  refine zrKeep he ?_
  unfold f4_j12 at hS
  refine zrSeq ?_
  refine zrReg ?_
  refine zlRun (n := 4) (j := 4) rfl (by kernel_rfl) ?_
  refine bindE hS (fun z90 hz90 hS => ?_)
  refine zlOp (d := some 57) (op := (.call 6 [(.tmp 54), (.tmp 56)])) (g := none) (j := 5) rfl (by kernel_rfl) (by kernel_rfl) (ev_callA (by kernel_rfl) (f6_ok (d - 1) (dpt hd rfl) a1.Grid.Cells a2.Grid.Cells z90 hz90) (by kernel_rfl) (by kernel_rfl)) ?_
  refine zlRun (n := 1) (j := 6) rfl (by kernel_rfl) ?_
  refine zlSplit 58 z90 (by kernel_rfl) (fun hc => ?_) (fun hc => ?_)
  · replace hS := cond_t hc hS
    refine zlRun (n := 4) (j := 10) rfl (by kernel_rfl) ?_
    refine zlBool (d := 63) (op := (.cmpI .eql (.tmp 60) (.tmp 62))) (g := (some (58, true))) (j := 11) (decide (a1.Row = a2.Row)) rfl (by kernel_rfl) (by kernel_rfl) (by kernel_rfl) (fun hc => ?_) (fun hc => ?_)
    · replace hS := cond_t hc hS
      refine zlRun (n := 6) (j := 17) rfl (by kernel_rfl) ?_
      refine zlBool (d := 70) (op := (.cmpI .eql (.tmp 67) (.tmp 69))) (g := (some (65, true))) (j := 18) (decide (a1.Col = a2.Col)) rfl (by kernel_rfl) (by kernel_rfl) (by kernel_rfl) (fun hc => ?_) (fun hc => ?_)
      · replace hS := cond_t hc hS
        refine zlRun (n := 6) (j := 24) rfl (by kernel_rfl) ?_
        refine zlBool (d := 77) (op := (.eqA .false [(3, .int)] (.tmp 74) (.tmp 76))) (g := (some (72, true))) (j := 25) (decide (a1.Pen.Flags = a2.Pen.Flags) && (decide (a1.Pen.Fore = a2.Pen.Fore) && (decide (a1.Pen.Back = a2.Pen.Back) && true))) rfl (by kernel_rfl) (by kernel_rfl) (by kernel_rfl) (fun hc => ?_) (fun hc => ?_)
        · replace hS := cond_t hc hS
          refine zlRun (n := 2) (j := 27) rfl (by kernel_rfl) ?_
          refine zlEnd (by kernel_rfl) ?_
          refine zkSeq ?_
          refine zrCondT (by kernel_rfl) ?_
          refine zrSeq ?_
          refine zrReg ?_
          refine zlRun (n := 2) (j := 2) rfl (by kernel_rfl) ?_
          refine zlEnd (by kernel_rfl) ?_
          refine zkSeq ?_
          refine zrRet ?_
          refine zkBlkR ?_
          refine zkSeqR ?_
          refine zkNil ?_
          exact endQ hS hQ (fRet (by kernel_rfl) ((congrArg (fun s => outR s 0 c4.res) (by kernel_rfl : finSt c4.fin _ = f4_fin [] 0)).trans (f4_out [] 0)))
        · replace hS := cond_f hc hS
          refine zlRun (n := 2) (j := 27) rfl (by kernel_rfl) ?_
          refine zlEnd (by kernel_rfl) ?_
          refine zkSeq ?_
          refine zrCondF (by kernel_rfl) ?_
          refine zrSkip ?_
          refine zkBlk ?_
          refine zkSeq ?_
          exact f4_j0_ok hd a1 a2 hQ  hS (by kernel_rfl)
      · replace hS := cond_f hc hS
        refine zlRun (n := 9) (j := 27) rfl (by kernel_rfl) ?_
        refine zlEnd (by kernel_rfl) ?_
        refine zkSeq ?_
        refine zrCondF (by kernel_rfl) ?_
        refine zrSkip ?_
        refine zkBlk ?_
        refine zkSeq ?_
        exact f4_j0_ok hd a1 a2 hQ  hS (by kernel_rfl)
    · replace hS := cond_f hc hS
      refine zlRun (n := 16) (j := 27) rfl (by kernel_rfl) ?_
      refine zlEnd (by kernel_rfl) ?_
      refine zkSeq ?_
      refine zrCondF (by kernel_rfl) ?_
      refine zrSkip ?_
      refine zkBlk ?_
      refine zkSeq ?_
      exact f4_j0_ok hd a1 a2 hQ  hS (by kernel_rfl)
  · replace hS := cond_f hc hS
    refine zlRun (n := 21) (j := 27) rfl (by kernel_rfl) ?_
    refine zlEnd (by kernel_rfl) ?_
    refine zkSeq ?_
    refine zrCondF (by kernel_rfl) ?_
    refine zrSkip ?_
    refine zkBlk ?_
    refine zkSeq ?_
    exact f4_j0_ok hd a1 a2 hQ  hS (by kernel_rfl)
noncomputable def f4 (a1 : GScreen) (a2 : GScreen) : Option ((List Int) × Int) := ((f8 a1).bind fun z87 => (bif (!decide (z87 = 0)) then (f4_j9 a1 a2 ) else ((f8 a2).bind fun z88 => (bif (!decide (z88 = 0)) then (f4_j9 a1 a2 ) else (bif (!decide (a1.Grid.Wide = a2.Grid.Wide)) then (f4_j10 a1 a2 ) else (bif (!decide (a1.Grid.High = a2.Grid.High)) then (f4_j10 a1 a2 ) else (bif (!decide ((bitI .and .i64 a1.Modes 3) = 0)) then (f4_j11 a1 a2 ) else ((inR a1.Shift 2).bind fun m91 => (bif (decide (m91 = 0)) then (bif (!decide (a1.Pages.1 = 1)) then (f4_j11 a1 a2 ) else (f4_j12 a1 a2 )) else (bif (!decide (a1.Pages.2 = 1)) then (f4_j11 a1 a2 ) else (f4_j12 a1 a2 )))))))))))
theorem f4_ok (d : Nat) (hd : 8 ≤ d) (a1 : GScreen) (a2 : GScreen) (r : (List Int) × Int) (hS : f4 a1 a2 = some r) : lev codes baseL d 4 [(.agg ((.d (.int .i64 a1.Grid.Wide)) :: ((.d (.int .i64 a1.Grid.High)) :: ((.d (.sl a1.Grid.Cells.length (e_GCell.cells a1.Grid.Cells))) :: ((.d (.int .i64 a1.Row)) :: ((.d (.int .i64 a1.Col)) :: ((.d (.bool a1.Late)) :: ((.d (.int .i64 a1.Top)) :: ((.d (.int .i64 a1.Bottom)) :: ((.d (.int .i64 a1.Pen.Flags)) :: ((.d (.int .i64 a1.Pen.Fore)) :: ((.d (.int .i64 a1.Pen.Back)) :: ((.d (.int .i64 a1.Modes)) :: (((eInt .u64).row 4 a1.Stops.Bits) ++ ((.d (.int .i64 a1.Pages.1)) :: ((.d (.int .i64 a1.Pages.2)) :: ((.d (.int .i64 a1.Shift)) :: ((.d (.int .i64 a1.Saved.Row)) :: ((.d (.int .i64 a1.Saved.Col)) :: ((.d (.int .i64 a1.Saved.Pen.Flags)) :: ((.d (.int .i64 a1.Saved.Pen.Fore)) :: ((.d (.int .i64 a1.Saved.Pen.Back)) :: ((.d (.bool a1.Saved.Origin)) :: ((.d (.int .i64 a1.Saved.Pages.1)) :: ((.d (.int .i64 a1.Saved.Pages.2)) :: ((.d (.int .i64 a1.Saved.Shift)) :: ((.d (.int .i64 a1.Other.Wide)) :: ((.d (.int .i64 a1.Other.High)) :: ((.d (.sl a1.Other.Cells.length (e_GCell.cells a1.Other.Cells))) :: ((.d (.str a1.Title)) :: ((.d (.sl a1.Past.length (e_GLine.cells a1.Past))) :: []))))))))))))))))))))))))))))))), (.agg ((.d (.int .i64 a2.Grid.Wide)) :: ((.d (.int .i64 a2.Grid.High)) :: ((.d (.sl a2.Grid.Cells.length (e_GCell.cells a2.Grid.Cells))) :: ((.d (.int .i64 a2.Row)) :: ((.d (.int .i64 a2.Col)) :: ((.d (.bool a2.Late)) :: ((.d (.int .i64 a2.Top)) :: ((.d (.int .i64 a2.Bottom)) :: ((.d (.int .i64 a2.Pen.Flags)) :: ((.d (.int .i64 a2.Pen.Fore)) :: ((.d (.int .i64 a2.Pen.Back)) :: ((.d (.int .i64 a2.Modes)) :: (((eInt .u64).row 4 a2.Stops.Bits) ++ ((.d (.int .i64 a2.Pages.1)) :: ((.d (.int .i64 a2.Pages.2)) :: ((.d (.int .i64 a2.Shift)) :: ((.d (.int .i64 a2.Saved.Row)) :: ((.d (.int .i64 a2.Saved.Col)) :: ((.d (.int .i64 a2.Saved.Pen.Flags)) :: ((.d (.int .i64 a2.Saved.Pen.Fore)) :: ((.d (.int .i64 a2.Saved.Pen.Back)) :: ((.d (.bool a2.Saved.Origin)) :: ((.d (.int .i64 a2.Saved.Pages.1)) :: ((.d (.int .i64 a2.Saved.Pages.2)) :: ((.d (.int .i64 a2.Saved.Shift)) :: ((.d (.int .i64 a2.Other.Wide)) :: ((.d (.int .i64 a2.Other.High)) :: ((.d (.sl a2.Other.Cells.length (e_GCell.cells a2.Other.Cells))) :: ((.d (.str a2.Title)) :: ((.d (.sl a2.Past.length (e_GLine.cells a2.Past))) :: [])))))))))))))))))))))))))))))))] [] = some ((.tup [(.r (.own 0 3 1 r.1.length ((eInt .i64).cells r.1))), (.d (.int .i64 r.2))]), []) := by
  refine lev_go codes4 rfl rfl (Nat.le_trans (Nat.le_of_ble_eq_true rfl) hd) fun Q hQ => ?_
  unfold f4 at hS
  show ZR _ Q c4_b [] _
  replace hQ : ∀ e st', f4_Q r e st' → Q e st' := hQ
  refine zrSeq ?_
  refine zrReg ?_
  refine zlRun (n := 4) (j := 4) rfl (by kernel_rfl) ?_
  refine zlEnd (by kernel_rfl) ?_
  refine zkSeq ?_
  refine zrSeq ?_
  refine zrRegD ?_
  refine zdRun (n := 8) (j := 8) (ts := [[], [(24, false)], [], [(32, false)], [(56, true)], [(64, true)], [(56, true)], [(64, true)]]) (acc' := [[], [(24, false)], [], [(32, false)], [(56, true)], [(64, true)], [(56, true)], [(64, true)]]) rfl (by kernel_rfl) (by kernel_rfl) (by kernel_rfl) ?_
  refine zdEnd (by kernel_rfl) (by kernel_rfl) ?_
  refine zkSeq ?_
  refine zrSeq ?_
  refine zrBlk ?_
  refine zrSeq ?_
  refine zrReg ?_
  refine zlRun (n := 1) (j := 1) rfl (by kernel_rfl) ?_
  refine bindE hS (fun z87 hz87 hS => ?_)
  refine zlOp (d := some 19) (op := (.call 8 [(.tmp 18)])) (g := none) (j := 2) rfl (by kernel_rfl) (by kernel_rfl) (ev_callA (by kernel_rfl) (f8_ok (d - 1) (dpt hd rfl) a1 z87 hz87) (by kernel_rfl) (by kernel_rfl)) ?_
  refine zlBool (d := 20) (op := (.cmpI .neq (.tmp 19) (.const (.int .i64 0)))) (g := none) (j := 3) (!decide (z87 = 0)) rfl (by kernel_rfl) (by kernel_rfl) (by kernel_rfl) (fun hc => ?_) (fun hc => ?_)
  · replace hS := cond_t hc hS
    refine zlRun (n := 6) (j := 9) rfl (by kernel_rfl) ?_
    refine zlEnd (by kernel_rfl) ?_
    refine zkSeq ?_
    refine zrCondT (by kernel_rfl) ?_
    exact f4_j9_ok hd a1 a2 hQ  hS (by kernel_rfl)
  · replace hS := cond_f hc hS
    refine zlRun (n := 2) (j := 5) rfl (by kernel_rfl) ?_
    refine bindE hS (fun z88 hz88 hS => ?_)
    refine zlOp (d := some 23) (op := (.call 8 [(.tmp 22)])) (g := (some (21, false))) (j := 6) rfl (by kernel_rfl) (by kernel_rfl) (ev_callA (by kernel_rfl) (f8_ok (d - 1) (dpt hd rfl) a2 z88 hz88) (by kernel_rfl) (by kernel_rfl)) ?_
    refine zlBool (d := 24) (op := (.cmpI .neq (.tmp 23) (.const (.int .i64 0)))) (g := (some (21, false))) (j := 7) (!decide (z88 = 0)) rfl (by kernel_rfl) (by kernel_rfl) (by kernel_rfl) (fun hc => ?_) (fun hc => ?_)
    · replace hS := cond_t hc hS
      refine zlRun (n := 2) (j := 9) rfl (by kernel_rfl) ?_
      refine zlEnd (by kernel_rfl) ?_
      refine zkSeq ?_
      refine zrCondT (by kernel_rfl) ?_
      exact f4_j9_ok hd a1 a2 hQ  hS (by kernel_rfl)
    · replace hS := cond_f hc hS
      refine zlRun (n := 2) (j := 9) rfl (by kernel_rfl) ?_
      refine zlEnd (by kernel_rfl) ?_
      refine zkSeq ?_
      refine zrCondF (by kernel_rfl) ?_
      refine zrSeq ?_
      refine zrReg ?_
      refine zlRun (n := 4) (j := 4) rfl (by kernel_rfl) ?_
      refine zlBool (d := 31) (op := (.cmpI .neq (.tmp 28) (.tmp 30))) (g := none) (j := 5) (!decide (a1.Grid.Wide = a2.Grid.Wide)) rfl (by kernel_rfl) (by kernel_rfl) (by kernel_rfl) (fun hc => ?_) (fun hc => ?_)
      · replace hS := cond_t hc hS
        refine zlRun (n := 8) (j := 13) rfl (by kernel_rfl) ?_
        refine zlEnd (by kernel_rfl) ?_
        refine zkSeq ?_
        refine zrCondT (by kernel_rfl) ?_
        exact f4_j10_ok hd a1 a2 hQ  hS (by kernel_rfl)
      · replace hS := cond_f hc hS
        refine zlRun (n := 5) (j := 10) rfl (by kernel_rfl) ?_
        refine zlBool (d := 37) (op := (.cmpI .neq (.tmp 34) (.tmp 36))) (g := (some (32, false))) (j := 11) (!decide (a1.Grid.High = a2.Grid.High)) rfl (by kernel_rfl) (by kernel_rfl) (by kernel_rfl) (fun hc => ?_) (fun hc => ?_)
        · replace hS := cond_t hc hS
          refine zlRun (n := 2) (j := 13) rfl (by kernel_rfl) ?_
          refine zlEnd (by kernel_rfl) ?_
          refine zkSeq ?_
          refine zrCondT (by kernel_rfl) ?_
          exact f4_j10_ok hd a1 a2 hQ  hS (by kernel_rfl)
        · replace hS := cond_f hc hS
          refine zlRun (n := 2) (j := 13) rfl (by kernel_rfl) ?_
          refine zlEnd (by kernel_rfl) ?_
          refine zkSeq ?_
          refine zrCondF (by kernel_rfl) ?_
          refine zrSeq ?_
          refine zrReg ?_
          refine zlRun (n := 3) (j := 3) rfl (by kernel_rfl) ?_
          refine zlBool (d := 43) (op := (.cmpI .neq (.tmp 42) (.const (.int .i64 0)))) (g := none) (j := 4) (!decide ((bitI .and .i64 a1.Modes 3) = 0)) rfl (by kernel_rfl) (by kernel_rfl) (by kernel_rfl) (fun hc => ?_) (fun hc => ?_)
          · replace hS := cond_t hc hS
            refine zlRun (n := 9) (j := 13) rfl (by kernel_rfl) ?_
            refine zlEnd (by kernel_rfl) ?_
            refine zkSeq ?_
            refine zrCondT (by kernel_rfl) ?_
            exact f4_j11_ok hd a1 a2 hQ  hS (by kernel_rfl)
          · replace hS := cond_f hc hS
            refine zlRun (n := 4) (j := 8) rfl (by kernel_rfl) ?_
            refine bindE hS (fun m91 hm91 hS => ?_)
            refine boolC (decide (m91 = 0)) (fun hc => ?_) (fun hc => ?_)
            · replace hS := cond_t hc hS
              refine zlOp (d := some 48) (op := (.ixA 2 1 (.tmp 47) (.tmp 46))) (g := (some (44, false))) (v := (.r (.ptr 24 1 16))) (ups := []) (j := 9) rfl (by kernel_rfl) (by kernel_rfl) (ev_ixA0 (kk := .i64) (b := 24) (g := 1) (o := 16) (j := a1.Shift) (m := m91) (by kernel_rfl) (by kernel_rfl) hm91 hc) ?_
              refine zlRun (n := 1) (j := 10) rfl (by kernel_rfl) ?_
              refine zlBool (d := 50) (op := (.cmpI .neq (.tmp 49) (.const (.int .i64 1)))) (g := (some (44, false))) (j := 11) (!decide (a1.Pages.1 = 1)) rfl (by kernel_rfl) (by kernel_rfl) (by kernel_rfl) (fun hc => ?_) (fun hc => ?_)
              · replace hS := cond_t hc hS
                refine zlRun (n := 2) (j := 13) rfl (by kernel_rfl) ?_
                refine zlEnd (by kernel_rfl) ?_
                refine zkSeq ?_
                refine zrCondT (by kernel_rfl) ?_
                exact f4_j11_ok hd a1 a2 hQ  hS (by kernel_rfl)
              · replace hS := cond_f hc hS
                refine zlRun (n := 2) (j := 13) rfl (by kernel_rfl) ?_
                refine zlEnd (by kernel_rfl) ?_
                refine zkSeq ?_
                refine zrCondF (by kernel_rfl) ?_
                exact f4_j12_ok hd a1 a2 hQ  hS (by kernel_rfl)
            · replace hS := cond_f hc hS
              refine zlOp (d := some 48) (op := (.ixA 2 1 (.tmp 47) (.tmp 46))) (g := (some (44, false))) (v := (.r (.ptr 24 1 17))) (ups := []) (j := 9) rfl (by kernel_rfl) (by kernel_rfl) (ev_ixA1 (kk := .i64) (b := 24) (g := 1) (o := 16) (j := a1.Shift) (m := m91) (by kernel_rfl) (by kernel_rfl) hm91 hc) ?_
              refine zlRun (n := 1) (j := 10) rfl (by kernel_rfl) ?_
              refine zlBool (d := 50) (op := (.cmpI .neq (.tmp 49) (.const (.int .i64 1)))) (g := (some (44, false))) (j := 11) (!decide (a1.Pages.2 = 1)) rfl (by kernel_rfl) (by kernel_rfl) (by kernel_rfl) (fun hc => ?_) (fun hc => ?_)
              · replace hS := cond_t hc hS
                refine zlRun (n := 2) (j := 13) rfl (by kernel_rfl) ?_
                refine zlEnd (by kernel_rfl) ?_
                refine zkSeq ?_
                refine zrCondT (by kernel_rfl) ?_
                exact f4_j11_ok hd a1 a2 hQ  hS (by kernel_rfl)
              · replace hS := cond_f hc hS
                refine zlRun (n := 2) (j := 13) rfl (by kernel_rfl) ?_
                refine zlEnd (by kernel_rfl) ?_
                refine zkSeq ?_
                refine zrCondF (by kernel_rfl) ?_
                exact f4_j12_ok hd a1 a2 hQ  hS (by kernel_rfl)
/- farwriter/farkeep.drawLives -/
theorem libLives_ok (d : Nat) (hd : 0 ≤ d)  (r : Bool) (hS : libLives  = some r) : lev codes baseL d 5 [] [] = some ((.d (.bool r)), []) := lib_call (l := libs) rfl rfl rfl (livesO_ hS) d
/- farwriter/farref.SameGrid -/
def f15_fin (p3 : Bool) : St := ⟨(up (fun _ => .un) 4 (.d (.bool p3))), (hB fun _ => 0)⟩
theorem f15_out (p3 : Bool) : outR (f15_fin p3) 0 c15.res = some ((.d (.bool p3)), []) := by
  kernel_rfl
def f15_Q (r : Bool) (e : PX) (st : St) : Prop := DoneF c15 0 ((.d (.bool r)), []) e st
noncomputable def f15 (a1 : GGrid) (a2 : GGrid) : Option (Bool) := (bif (decide (a1.Wide = a2.Wide)) then (bif (decide (a1.High = a2.High)) then ((f6 a1.Cells a2.Cells).bind fun z2 => (some z2)) else (some false)) else (some false))
theorem f15_ok (d : Nat) (hd : 2 ≤ d) (a1 : GGrid) (a2 : GGrid) (r : Bool) (hS : f15 a1 a2 = some r) : lev codes baseL d 15 [(.agg ((.d (.int .i64 a1.Wide)) :: ((.d (.int .i64 a1.High)) :: ((.d (.sl a1.Cells.length (e_GCell.cells a1.Cells))) :: [])))), (.agg ((.d (.int .i64 a2.Wide)) :: ((.d (.int .i64 a2.High)) :: ((.d (.sl a2.Cells.length (e_GCell.cells a2.Cells))) :: []))))] [] = some ((.d (.bool r)), []) := by
  refine lev_go codes15 rfl rfl (Nat.le_trans (Nat.le_of_ble_eq_true rfl) hd) fun Q hQ => ?_
  unfold f15 at hS
  show ZR _ Q c15_b [] _
  replace hQ : ∀ e st', f15_Q r e st' → Q e st' := hQ
  refine zrSeq ?_
  refine zrReg ?_
  refine zlRun (n := 3) (j := 3) rfl (by kernel_rfl) ?_
  refine zlEnd (by kernel_rfl) ?_
  refine zkSeq ?_
  refine zrSeq ?_
  refine zrReg ?_
  refine zlRun (n := 4) (j := 4) rfl (by kernel_rfl) ?_
  refine zlBool (d := 9) (op := (.cmpI .eql (.tmp 6) (.tmp 8))) (g := none) (j := 5) (decide (a1.Wide = a2.Wide)) rfl (by kernel_rfl) (by kernel_rfl) (by kernel_rfl) (fun hc => ?_) (fun hc => ?_)
  · replace hS := cond_t hc hS
    refine zlRun (n := 5) (j := 10) rfl (by kernel_rfl) ?_
    refine zlBool (d := 15) (op := (.cmpI .eql (.tmp 12) (.tmp 14))) (g := (some (10, true))) (j := 11) (decide (a1.High = a2.High)) rfl (by kernel_rfl) (by kernel_rfl) (by kernel_rfl) (fun hc => ?_) (fun hc => ?_)
    · replace hS := cond_t hc hS
      refine zlRun (n := 6) (j := 17) rfl (by kernel_rfl) ?_
      refine bindE hS (fun z2 hz2 hS => ?_)
      refine zlOp (d := some 22) (op := (.call 6 [(.tmp 19), (.tmp 21)])) (g := (some (17, true))) (j := 18) rfl (by kernel_rfl) (by kernel_rfl) (ev_callA (by kernel_rfl) (f6_ok (d - 1) (dpt hd rfl) a1.Cells a2.Cells z2 hz2) (by kernel_rfl) (by kernel_rfl)) ?_
      refine zlRun (n := 2) (j := 20) rfl (by kernel_rfl) ?_
      refine zlEnd (by kernel_rfl) ?_
      refine zkSeq ?_
      refine zrRet ?_
      refine zkNil ?_
      exact endQ hS hQ (fRet (by kernel_rfl) ((congrArg (fun s => outR s 0 c15.res) (by kernel_rfl : finSt c15.fin _ = f15_fin z2)).trans (f15_out z2)))
    · replace hS := cond_f hc hS
      refine zlRun (n := 9) (j := 20) rfl (by kernel_rfl) ?_
      refine zlEnd (by kernel_rfl) ?_
      refine zkSeq ?_
      refine zrRet ?_
      refine zkNil ?_
      exact endQ hS hQ (fRet (by kernel_rfl) ((congrArg (fun s => outR s 0 c15.res) (by kernel_rfl : finSt c15.fin _ = f15_fin false)).trans (f15_out false)))
  · replace hS := cond_f hc hS
    refine zlRun (n := 15) (j := 20) rfl (by kernel_rfl) ?_
    refine zlEnd (by kernel_rfl) ?_
    refine zkSeq ?_
    refine zrRet ?_
    refine zkNil ?_
    exact endQ hS hQ (fRet (by kernel_rfl) ((congrArg (fun s => outR s 0 c15.res) (by kernel_rfl : finSt c15.fin _ = f15_fin false)).trans (f15_out false)))
/- farwriter/farref.SameSight -/
def f7_fin (p5 : Bool) : St := ⟨(up (fun _ => .un) 4 (.d (.bool p5))), (hB fun _ => 0)⟩
theorem f7_out (p5 : Bool) : outR (f7_fin p5) 0 c7.res = some ((.d (.bool p5)), []) := by
  kernel_rfl
def f7_Q (r : Bool) (e : PX) (st : St) : Prop := DoneF c7 0 ((.d (.bool r)), []) e st
noncomputable def f7 (a1 : GScreen) (a2 : GScreen) : Option (Bool) := ((f15 a1.Grid a2.Grid).bind fun z2 => (bif z2 then (bif (decide (a1.Row = a2.Row)) then (bif (decide (a1.Col = a2.Col)) then (bif (decide (a1.Pen.Flags = a2.Pen.Flags) && (decide (a1.Pen.Fore = a2.Pen.Fore) && (decide (a1.Pen.Back = a2.Pen.Back) && true))) then (some true) else (some false)) else (some false)) else (some false)) else (some false)))
theorem f7_ok (d : Nat) (hd : 3 ≤ d) (a1 : GScreen) (a2 : GScreen) (r : Bool) (hS : f7 a1 a2 = some r) : lev codes baseL d 7 [(.agg ((.d (.int .i64 a1.Grid.Wide)) :: ((.d (.int .i64 a1.Grid.High)) :: ((.d (.sl a1.Grid.Cells.length (e_GCell.cells a1.Grid.Cells))) :: ((.d (.int .i64 a1.Row)) :: ((.d (.int .i64 a1.Col)) :: ((.d (.bool a1.Late)) :: ((.d (.int .i64 a1.Top)) :: ((.d (.int .i64 a1.Bottom)) :: ((.d (.int .i64 a1.Pen.Flags)) :: ((.d (.int .i64 a1.Pen.Fore)) :: ((.d (.int .i64 a1.Pen.Back)) :: ((.d (.int .i64 a1.Modes)) :: (((eInt .u64).row 4 a1.Stops.Bits) ++ ((.d (.int .i64 a1.Pages.1)) :: ((.d (.int .i64 a1.Pages.2)) :: ((.d (.int .i64 a1.Shift)) :: ((.d (.int .i64 a1.Saved.Row)) :: ((.d (.int .i64 a1.Saved.Col)) :: ((.d (.int .i64 a1.Saved.Pen.Flags)) :: ((.d (.int .i64 a1.Saved.Pen.Fore)) :: ((.d (.int .i64 a1.Saved.Pen.Back)) :: ((.d (.bool a1.Saved.Origin)) :: ((.d (.int .i64 a1.Saved.Pages.1)) :: ((.d (.int .i64 a1.Saved.Pages.2)) :: ((.d (.int .i64 a1.Saved.Shift)) :: ((.d (.int .i64 a1.Other.Wide)) :: ((.d (.int .i64 a1.Other.High)) :: ((.d (.sl a1.Other.Cells.length (e_GCell.cells a1.Other.Cells))) :: ((.d (.str a1.Title)) :: ((.d (.sl a1.Past.length (e_GLine.cells a1.Past))) :: []))))))))))))))))))))))))))))))), (.agg ((.d (.int .i64 a2.Grid.Wide)) :: ((.d (.int .i64 a2.Grid.High)) :: ((.d (.sl a2.Grid.Cells.length (e_GCell.cells a2.Grid.Cells))) :: ((.d (.int .i64 a2.Row)) :: ((.d (.int .i64 a2.Col)) :: ((.d (.bool a2.Late)) :: ((.d (.int .i64 a2.Top)) :: ((.d (.int .i64 a2.Bottom)) :: ((.d (.int .i64 a2.Pen.Flags)) :: ((.d (.int .i64 a2.Pen.Fore)) :: ((.d (.int .i64 a2.Pen.Back)) :: ((.d (.int .i64 a2.Modes)) :: (((eInt .u64).row 4 a2.Stops.Bits) ++ ((.d (.int .i64 a2.Pages.1)) :: ((.d (.int .i64 a2.Pages.2)) :: ((.d (.int .i64 a2.Shift)) :: ((.d (.int .i64 a2.Saved.Row)) :: ((.d (.int .i64 a2.Saved.Col)) :: ((.d (.int .i64 a2.Saved.Pen.Flags)) :: ((.d (.int .i64 a2.Saved.Pen.Fore)) :: ((.d (.int .i64 a2.Saved.Pen.Back)) :: ((.d (.bool a2.Saved.Origin)) :: ((.d (.int .i64 a2.Saved.Pages.1)) :: ((.d (.int .i64 a2.Saved.Pages.2)) :: ((.d (.int .i64 a2.Saved.Shift)) :: ((.d (.int .i64 a2.Other.Wide)) :: ((.d (.int .i64 a2.Other.High)) :: ((.d (.sl a2.Other.Cells.length (e_GCell.cells a2.Other.Cells))) :: ((.d (.str a2.Title)) :: ((.d (.sl a2.Past.length (e_GLine.cells a2.Past))) :: [])))))))))))))))))))))))))))))))] [] = some ((.d (.bool r)), []) := by
  refine lev_go codes7 rfl rfl (Nat.le_trans (Nat.le_of_ble_eq_true rfl) hd) fun Q hQ => ?_
  unfold f7 at hS
  show ZR _ Q c7_b [] _
  replace hQ : ∀ e st', f7_Q r e st' → Q e st' := hQ
  refine zrSeq ?_
  refine zrReg ?_
  refine zlRun (n := 3) (j := 3) rfl (by kernel_rfl) ?_
  refine zlEnd (by kernel_rfl) ?_
  refine zkSeq ?_
  refine zrSeq ?_
  refine zrReg ?_
  refine zlRun (n := 4) (j := 4) rfl (by kernel_rfl) ?_
  refine bindE hS (fun z2 hz2 hS => ?_)
  refine zlOp (d := some 9) (op := (.call 15 [(.tmp 6), (.tmp 8)])) (g := none) (j := 5) rfl (by kernel_rfl) (by kernel_rfl) (ev_callA (by kernel_rfl) (f15_ok (d - 1) (dpt hd rfl) a1.Grid a2.Grid z2 hz2) (by kernel_rfl) (by kernel_rfl)) ?_
  refine zlRun (n := 1) (j := 6) rfl (by kernel_rfl) ?_
  refine zlSplit 10 z2 (by kernel_rfl) (fun hc => ?_) (fun hc => ?_)
  · replace hS := cond_t hc hS
    refine zlRun (n := 4) (j := 10) rfl (by kernel_rfl) ?_
    refine zlBool (d := 15) (op := (.cmpI .eql (.tmp 12) (.tmp 14))) (g := (some (10, true))) (j := 11) (decide (a1.Row = a2.Row)) rfl (by kernel_rfl) (by kernel_rfl) (by kernel_rfl) (fun hc => ?_) (fun hc => ?_)
    · replace hS := cond_t hc hS
      refine zlRun (n := 6) (j := 17) rfl (by kernel_rfl) ?_
      refine zlBool (d := 22) (op := (.cmpI .eql (.tmp 19) (.tmp 21))) (g := (some (17, true))) (j := 18) (decide (a1.Col = a2.Col)) rfl (by kernel_rfl) (by kernel_rfl) (by kernel_rfl) (fun hc => ?_) (fun hc => ?_)
      · replace hS := cond_t hc hS
        refine zlRun (n := 6) (j := 24) rfl (by kernel_rfl) ?_
        refine zlBool (d := 29) (op := (.eqA .false [(3, .int)] (.tmp 26) (.tmp 28))) (g := (some (24, true))) (j := 25) (decide (a1.Pen.Flags = a2.Pen.Flags) && (decide (a1.Pen.Fore = a2.Pen.Fore) && (decide (a1.Pen.Back = a2.Pen.Back) && true))) rfl (by kernel_rfl) (by kernel_rfl) (by kernel_rfl) (fun hc => ?_) (fun hc => ?_)
        · replace hS := cond_t hc hS
          refine zlRun (n := 2) (j := 27) rfl (by kernel_rfl) ?_
          refine zlEnd (by kernel_rfl) ?_
          refine zkSeq ?_
          refine zrRet ?_
          refine zkNil ?_
          exact endQ hS hQ (fRet (by kernel_rfl) ((congrArg (fun s => outR s 0 c7.res) (by kernel_rfl : finSt c7.fin _ = f7_fin true)).trans (f7_out true)))
        · replace hS := cond_f hc hS
          refine zlRun (n := 2) (j := 27) rfl (by kernel_rfl) ?_
          refine zlEnd (by kernel_rfl) ?_
          refine zkSeq ?_
          refine zrRet ?_
          refine zkNil ?_
          exact endQ hS hQ (fRet (by kernel_rfl) ((congrArg (fun s => outR s 0 c7.res) (by kernel_rfl : finSt c7.fin _ = f7_fin false)).trans (f7_out false)))
      · replace hS := cond_f hc hS
        refine zlRun (n := 9) (j := 27) rfl (by kernel_rfl) ?_
        refine zlEnd (by kernel_rfl) ?_
        refine zkSeq ?_
        refine zrRet ?_
        refine zkNil ?_
        exact endQ hS hQ (fRet (by kernel_rfl) ((congrArg (fun s => outR s 0 c7.res) (by kernel_rfl : finSt c7.fin _ = f7_fin false)).trans (f7_out false)))
    · replace hS := cond_f hc hS
      refine zlRun (n := 16) (j := 27) rfl (by kernel_rfl) ?_
      refine zlEnd (by kernel_rfl) ?_
      refine zkSeq ?_
      refine zrRet ?_
      refine zkNil ?_
      exact endQ hS hQ (fRet (by kernel_rfl) ((congrArg (fun s => outR s 0 c7.res) (by kernel_rfl : finSt c7.fin _ = f7_fin false)).trans (f7_out false)))
  · replace hS := cond_f hc hS
    refine zlRun (n := 21) (j := 27) rfl (by kernel_rfl) ?_
    refine zlEnd (by kernel_rfl) ?_
    refine zkSeq ?_
    refine zrRet ?_
    refine zkNil ?_
    exact endQ hS hQ (fRet (by kernel_rfl) ((congrArg (fun s => outR s 0 c7.res) (by kernel_rfl : finSt c7.fin _ = f7_fin false)).trans (f7_out false)))
/- farwriter/farkeep.DrawFew -/
def f3_fin (p33 : Bool) : St := ⟨(up (fun _ => .un) 4 (.d (.bool p33))), (hB fun _ => 0)⟩
theorem f3_out (p33 : Bool) : outR (f3_fin p33) 0 c3.res = some ((.d (.bool p33)), []) := by
  kernel_rfl
def f3_Q (r : Bool) (e : PX) (st : St) : Prop := DoneF c3 0 ((.d (.bool r)), []) e st
def f3_j1_J (a1 : GScreen) (a2 : GScreen) (p65 : List Int) (p66 : Int) : St := ⟨(up (up (up (up (fun _ => .un) 7 (.d (.int .i64 p66))) 5 (.r (.msl 112 0 0 p65.length))) 3 (.r (.ptr 32 0 0))) 2 (.r (.ptr 24 0 0))), (up (up (up (hB fun _ => 0) 112 ⟨0, some (.own 3 1 ((eInt .i64).cells p65))⟩) 32 ⟨0, some (.box (bx_GScreen a2 (.d (.sl a2.Grid.Cells.length (e_GCell.cells a2.Grid.Cells))) (.d (.sl a2.Other.Cells.length (e_GCell.cells a2.Other.Cells))) (.d (.sl a2.Past.length (e_GLine.cells a2.Past)))))⟩) 24 ⟨0, some (.box (bx_GScreen a1 (.d (.sl a1.Grid.Cells.length (e_GCell.cells a1.Grid.Cells))) (.d (.sl a1.Other.Cells.length (e_GCell.cells a1.Other.Cells))) (.d (.sl a1.Past.length (e_GLine.cells a1.Past)))))⟩)⟩
noncomputable def f3_j1 (a1 : GScreen) (a2 : GScreen) (p65 : List Int) (p66 : Int) : Option (Bool) := (bif (decide ((p65.length : Int) ≤ p66)) then ((f7 a1 a2).bind fun z26 => (bif (!z26) then (some true) else (bif (decide ((p65.length : Int) = 0)) then (some true) else (some false)))) else (some false))
theorem f3_j1_ok {d : Nat} (hd : 9 ≤ d) (a1 : GScreen) (a2 : GScreen) {r : Bool} {Q : PX → St → Prop} (hQ : ∀ e st', f3_Q r e st' → Q e st') (p65 : List Int) (p66 : Int) (hS : f3_j1 a1 a2 p65 p66 = some r) {st : St} (he : keepSt [2, 3, 5, 7] [(24, .id 24), (32, .id 32), (112, .id 112)] [] st = f3_j1_J a1 a2 p65 p66) : ZR (lev codes baseL (d - 1)) Q c3_1 [] st := by
  refine zrKeep he ?_
  unfold f3_j1 at hS
  refine zrSeq ?_
  refine zrReg ?_
  refine zlRun (n := 3) (j := 3) rfl (by kernel_rfl) ?_
  refine zlBool (d := 65) (op := (.cmpI .leq (.tmp 63) (.tmp 64))) (g := none) (j := 4) (decide ((p65.length : Int) ≤ p66)) rfl (by kernel_rfl) (by kernel_rfl) (by kernel_rfl) (fun hc => ?_) (fun hc => ?_)
  · replace hS := cond_t hc hS
    refine zlRun (n := 3) (j := 7) rfl (by kernel_rfl) ?_
    refine bindE hS (fun z26 hz26 hS => ?_)
    refine zlOp (d := some 69) (op := (.call 7 [(.tmp 67), (.tmp 68)])) (g := (some (66, true))) (j := 8) rfl (by kernel_rfl) (by kernel_rfl) (ev_callA (by kernel_rfl) (f7_ok (d - 1) (dpt hd rfl) a1 a2 z26 hz26) (by kernel_rfl) (by kernel_rfl)) ?_
    refine zlRun (n := 2) (j := 10) rfl (by kernel_rfl) ?_
    refine zlSplit 71 (!z26) (by kernel_rfl) (fun hc => ?_) (fun hc => ?_)
    · replace hS := cond_t hc hS
      refine zlRun (n := 6) (j := 16) rfl (by kernel_rfl) ?_
      refine zlEnd (by kernel_rfl) ?_
      refine zkSeq ?_
      refine zrRet ?_
      refine zkNil ?_
      exact endQ hS hQ (fRet (by kernel_rfl) ((congrArg (fun s => outR s 0 c3.res) (by kernel_rfl : finSt c3.fin _ = f3_fin true)).trans (f3_out true)))
    · replace hS := cond_f hc hS
      refine zlRun (n := 2) (j := 12) rfl (by kernel_rfl) ?_
      refine zlBool (d := 74) (op := (.cmpI .eql (.tmp 73) (.const (.int .i64 0)))) (g := (some (71, false))) (j := 13) (decide ((p65.length : Int) = 0)) rfl (by kernel_rfl) (by kernel_rfl) (by kernel_rfl) (fun hc => ?_) (fun hc => ?_)
      · replace hS := cond_t hc hS
        refine zlRun (n := 3) (j := 16) rfl (by kernel_rfl) ?_
        refine zlEnd (by kernel_rfl) ?_
        refine zkSeq ?_
        refine zrRet ?_
        refine zkNil ?_
        exact endQ hS hQ (fRet (by kernel_rfl) ((congrArg (fun s => outR s 0 c3.res) (by kernel_rfl : finSt c3.fin _ = f3_fin true)).trans (f3_out true)))
      · replace hS := cond_f hc hS
        refine zlRun (n := 3) (j := 16) rfl (by kernel_rfl) ?_
        refine zlEnd (by kernel_rfl) ?_
        refine zkSeq ?_
        refine zrRet ?_
        refine zkNil ?_
        exact endQ hS hQ (fRet (by kernel_rfl) ((congrArg (fun s => outR s 0 c3.res) (by kernel_rfl : finSt c3.fin _ = f3_fin false)).trans (f3_out false)))
  · replace hS := cond_f hc hS
    refine zlRun (n := 12) (j := 16) rfl (by kernel_rfl) ?_
    refine zlEnd (by kernel_rfl) ?_
    refine zkSeq ?_
    refine zrRet ?_
    refine zkNil ?_
    exact endQ hS hQ (fRet (by kernel_rfl) ((congrArg (fun s => outR s 0 c3.res) (by kernel_rfl : finSt c3.fin _ = f3_fin false)).trans (f3_out false)))
def f3_l2_J (a1 : GScreen) (a2 : GScreen) (x : (List Int) × Int × Int) : St := ⟨(up (up (up (up (up (up (up (fun _ => .un) 29 (.d (.int .i64 x.2.2))) 28 (.d (.int .i64 a1.Grid.High))) 8 (.d (.int .i64 a1.Grid.Wide))) 7 (.d (.int .i64 x.2.1))) 5 (.r (.msl 112 0 0 x.1.length))) 3 (.r (.ptr 32 0 0))) 2 (.r (.ptr 24 0 0))), (up (up (up (hB fun _ => 0) 112 ⟨0, some (.own 3 1 ((eInt .i64).cells x.1))⟩) 32 ⟨0, some (.box (bx_GScreen a2 (.d (.sl a2.Grid.Cells.length (e_GCell.cells a2.Grid.Cells))) (.d (.sl a2.Other.Cells.length (e_GCell.cells a2.Other.Cells))) (.d (.sl a2.Past.length (e_GLine.cells a2.Past)))))⟩) 24 ⟨0, some (.box (bx_GScreen a1 (.d (.sl a1.Grid.Cells.length (e_GCell.cells a1.Grid.Cells))) (.d (.sl a1.Other.Cells.length (e_GCell.cells a1.Other.Cells))) (.d (.sl a1.Past.length (e_GLine.cells a1.Past)))))⟩)⟩
def f3_l2_H (a1 : GScreen) (a2 : GScreen) (x : (List Int) × Int × Int) (st : St) : Prop := keepSt [2, 3, 5, 7, 8, 28, 29] [(24, .id 24), (32, .id 32), (112, .id 112)] [] st = f3_l2_J a1 a2 x
def f3_l2_e0_J (a1 : GScreen) (a2 : GScreen) (p63 : List Int) (p64 : Int) : St := ⟨(up (up (up (up (fun _ => .un) 7 (.d (.int .i64 p64))) 5 (.r (.msl 112 0 0 p63.length))) 3 (.r (.ptr 32 0 0))) 2 (.r (.ptr 24 0 0))), (up (up (up (hB fun _ => 0) 112 ⟨0, some (.own 3 1 ((eInt .i64).cells p63))⟩) 32 ⟨0, some (.box (bx_GScreen a2 (.d (.sl a2.Grid.Cells.length (e_GCell.cells a2.Grid.Cells))) (.d (.sl a2.Other.Cells.length (e_GCell.cells a2.Other.Cells))) (.d (.sl a2.Past.length (e_GLine.cells a2.Past)))))⟩) 24 ⟨0, some (.box (bx_GScreen a1 (.d (.sl a1.Grid.Cells.length (e_GCell.cells a1.Grid.Cells))) (.d (.sl a1.Other.Cells.length (e_GCell.cells a1.Other.Cells))) (.d (.sl a1.Past.length (e_GLine.cells a1.Past)))))⟩)⟩
def f3_l2_X (a1 : GScreen) (a2 : GScreen) (z : ((List Int) × Int)) (e : PX) (st : St) : Prop := e = .exit 0 ∧ st = f3_l2_e0_J a1 a2 z.1 z.2
def f3_l2_j4_J (a1 : GScreen) (a2 : GScreen) (p75 : List Int) (p76 : Int) (p77 : Int) : St := ⟨(up (up (up (up (up (up (up (fun _ => .un) 29 (.d (.int .i64 p77))) 28 (.d (.int .i64 a1.Grid.High))) 8 (.d (.int .i64 a1.Grid.Wide))) 7 (.d (.int .i64 p76))) 5 (.r (.msl 112 0 0 p75.length))) 3 (.r (.ptr 32 0 0))) 2 (.r (.ptr 24 0 0))), (up (up (up (hB fun _ => 0) 112 ⟨0, some (.own 3 1 ((eInt .i64).cells p75))⟩) 32 ⟨0, some (.box (bx_GScreen a2 (.d (.sl a2.Grid.Cells.length (e_GCell.cells a2.Grid.Cells))) (.d (.sl a2.Other.Cells.length (e_GCell.cells a2.Other.Cells))) (.d (.sl a2.Past.length (e_GLine.cells a2.Past)))))⟩) 24 ⟨0, some (.box (bx_GScreen a1 (.d (.sl a1.Grid.Cells.length (e_GCell.cells a1.Grid.Cells))) (.d (.sl a1.Other.Cells.length (e_GCell.cells a1.Other.Cells))) (.d (.sl a1.Past.length (e_GLine.cells a1.Past)))))⟩)⟩
noncomputable def f3_l2_j4 (a1 : GScreen) (a2 : GScreen) (p75 : List Int) (p76 : Int) (p77 : Int) : Option (((List Int) × Int × Int) ⊕ (((List Int) × Int))) := ((sub? a1.Grid.Cells (IntKind.i64.wrap (p77 * a1.Grid.Wide)) (IntKind.i64.wrap ((IntKind.i64.wrap (p77 + 1)) * a1.Grid.Wide))).bind fun z27 => ((sub? a2.Grid.Cells (IntKind.i64.wrap (p77 * a1.Grid.Wide)) (IntKind.i64.wrap ((IntKind.i64.wrap (p77 + 1)) * a1.Grid.Wide))).bind fun z28 => ((f6 z27 z28).bind fun z29 => (bif z29 then (some (.inl (p75, (IntKind.i64.wrap (p76 + 100)), (IntKind.i64.wrap (p77 + 1))))) else (some (.inl (p75, (IntKind.i64.wrap (p76 + (IntKind.i64.wrap (100 * a1.Grid.Wide)))), (IntKind.i64.wrap (p77 + 1)))))))))
theorem f3_l2_j4_ok {d : Nat} (hd : 9 ≤ d) (a1 : GScreen) (a2 : GScreen) {r : ((List Int) × Int × Int) ⊕ (((List Int) × Int))} {Q : PX → St → Prop} (hQ : ∀ e st', finL (f3_l2_H a1 a2) (f3_l2_X a1 a2) r e st' → Q e st') (p75 : List Int) (p76 : Int) (p77 : Int) (hS : f3_l2_j4 a1 a2 p75 p76 p77 = some r) {st : St} (he : keepSt [2, 3, 5, 7, 8, 28, 29] [(24, .id 24), (32, .id 32), (112, .id 112)] [] st = f3_l2_j4_J a1 a2 p75 p76 p77) : ZR (lev codes baseL (d - 1)) Q c3_2 [] st := by
  refine zrKeep he ?_
  unfold f3_l2_j4 at hS
  refine zrSeq ?_
  refine zrBlk ?_
  refine zrSeq ?_
  refine zrReg ?_
  refine zlRun (n := 2) (j := 2) rfl (by kernel_rfl) ?_
  refine zlEnd (by kernel_rfl) ?_
  refine zkSeq ?_
  refine zrSeq ?_
  refine zrRegD ?_
  refine zdRun (n := 10) (j := 10) (ts := [[], [], [(24, false)], [], [], [], [], [], [], []]) (acc' := [[], [], [(24, false)], [], [], [], [], [], [], []]) rfl (by kernel_rfl) (by kernel_rfl) (by kernel_rfl) ?_
  refine bindE hS (fun z27 hz27 hS => ?_)
  refine zdOp (d := some 42) (op := (.slS 44 4 (.tmp 34) (.some (.tmp 37)) (.some (.tmp 41)))) (g := none) (v := (.d (.sl z27.length (e_GCell.cells z27)))) (ups := []) (j := 11) (t1 := []) (acc' := [[], [], [(24, false)], [], [], [], [], [], [], [], []]) (by kernel_rfl) (by kernel_rfl) rfl (by kernel_rfl) (by kernel_rfl) (ev_slS e_GCell (xs := a1.Grid.Cells) (a := (IntKind.i64.wrap (p77 * a1.Grid.Wide))) (c := (IntKind.i64.wrap ((IntKind.i64.wrap (p77 + 1)) * a1.Grid.Wide))) (by kernel_rfl) rfl (bnd_s _ (kk := .i64) (j := (IntKind.i64.wrap (p77 * a1.Grid.Wide))) (by kernel_rfl)) (bnd_s _ (kk := .i64) (j := (IntKind.i64.wrap ((IntKind.i64.wrap (p77 + 1)) * a1.Grid.Wide))) (by kernel_rfl)) hz27) ?_
  refine zdRun (n := 10) (j := 21) (ts := [[], [], [(32, false)], [], [], [], [], [], [], []]) (acc' := [[], [], [(24, false)], [], [], [], [], [], [], [], [], [], [], [(32, false)], [], [], [], [], [], [], []]) rfl (by kernel_rfl) (by kernel_rfl) (by kernel_rfl) ?_
  refine bindE hS (fun z28 hz28 hS => ?_)
  refine zdOp (d := some 53) (op := (.slS 44 4 (.tmp 45) (.some (.tmp 48)) (.some (.tmp 52)))) (g := none) (v := (.d (.sl z28.length (e_GCell.cells z28)))) (ups := []) (j := 22) (t1 := []) (acc' := [[], [], [(24, false)], [], [], [], [], [], [], [], [], [], [], [(32, false)], [], [], [], [], [], [], [], []]) (by kernel_rfl) (by kernel_rfl) rfl (by kernel_rfl) (by kernel_rfl) (ev_slS e_GCell (xs := a2.Grid.Cells) (a := (IntKind.i64.wrap (p77 * a1.Grid.Wide))) (c := (IntKind.i64.wrap ((IntKind.i64.wrap (p77 + 1)) * a1.Grid.Wide))) (by kernel_rfl) rfl (bnd_s _ (kk := .i64) (j := (IntKind.i64.wrap (p77 * a1.Grid.Wide))) (by kernel_rfl)) (bnd_s _ (kk := .i64) (j := (IntKind.i64.wrap ((IntKind.i64.wrap (p77 + 1)) * a1.Grid.Wide))) (by kernel_rfl)) hz28) ?_
  refine bindE hS (fun z29 hz29 hS => ?_)
  refine zdOp (d := some 54) (op := (.call 6 [(.tmp 42), (.tmp 53)])) (g := none) (j := 23) (t1 := [(440, true), (441, true), (442, true), (443, true), (444, true), (445, true), (446, true), (447, true)]) (acc' := [[], [], [(24, false)], [], [], [], [], [], [], [], [], [], [], [(32, false)], [], [], [], [], [], [], [], [], [(440, true), (441, true), (442, true), (443, true), (444, true), (445, true), (446, true), (447, true)]]) (by kernel_rfl) (by kernel_rfl) rfl (by kernel_rfl) (by kernel_rfl) (ev_callA (by kernel_rfl) (f6_ok (d - 1) (dpt hd rfl) z27 z28 z29 hz29) (by kernel_rfl) (by kernel_rfl)) ?_
  refine zdEnd (by kernel_rfl) (by kernel_rfl) ?_
  refine zkSeq ?_
  refine zrSplit 54 z29 (by kernel_rfl) (fun hc => ?_) (fun hc => ?_)
  · replace hS := cond_t hc hS
    refine zrCondT (by kernel_rfl) ?_
    refine zrReg ?_
    refine zlRun (n := 3) (j := 3) rfl (by kernel_rfl) ?_
    refine zlEnd (by kernel_rfl) ?_
    refine zkBlk ?_
    refine zkSeq ?_
    refine zrReg ?_
    refine zlRun (n := 2) (j := 2) rfl (by kernel_rfl) ?_
    refine zlEnd (by kernel_rfl) ?_
    refine zkNil ?_
    exact endQ hS hQ (finL_n (by show keepSt _ _ _ _ = _; kernel_rfl))
  · replace hS := cond_f hc hS
    refine zrCondF (by kernel_rfl) ?_
    refine zrReg ?_
    refine zlRun (n := 5) (j := 5) rfl (by kernel_rfl) ?_
    refine zlEnd (by kernel_rfl) ?_
    refine zkBlk ?_
    refine zkSeq ?_
    refine zrReg ?_
    refine zlRun (n := 2) (j := 2) rfl (by kernel_rfl) ?_
    refine zlEnd (by kernel_rfl) ?_
    refine zkNil ?_
    exact endQ hS hQ (finL_n (by show keepSt _ _ _ _ = _; kernel_rfl))
def f3_l2_j3_J (a1 : GScreen) (a2 : GScreen) (p71 : List Int) (p72 : Int) (p73 : Int) (p74 : Bool) : St := ⟨(up (up (up (up (up (up (up (up (fun _ => .un) 30 (.d (.bool p74))) 29 (.d (.int .i64 p73))) 28 (.d (.int .i64 a1.Grid.High))) 8 (.d (.int .i64 a1.Grid.Wide))) 7 (.d (.int .i64 p72))) 5 (.r (.msl 112 0 0 p71.length))) 3 (.r (.ptr 32 0 0))) 2 (.r (.ptr 24 0 0))), (up (up (up (hB fun _ => 0) 112 ⟨0, some (.own 3 1 ((eInt .i64).cells p71))⟩) 32 ⟨0, some (.box (bx_GScreen a2 (.d (.sl a2.Grid.Cells.length (e_GCell.cells a2.Grid.Cells))) (.d (.sl a2.Other.Cells.length (e_GCell.cells a2.Other.Cells))) (.d (.sl a2.Past.length (e_GLine.cells a2.Past)))))⟩) 24 ⟨0, some (.box (bx_GScreen a1 (.d (.sl a1.Grid.Cells.length (e_GCell.cells a1.Grid.Cells))) (.d (.sl a1.Other.Cells.length (e_GCell.cells a1.Other.Cells))) (.d (.sl a1.Past.length (e_GLine.cells a1.Past)))))⟩)⟩
noncomputable def f3_l2_j3 (a1 : GScreen) (a2 : GScreen) (p71 : List Int) (p72 : Int) (p73 : Int) (p74 : Bool) : Option (((List Int) × Int × Int) ⊕ (((List Int) × Int))) := (bif p74 then (f3_l2_j4 a1 a2 p71 p72 p73) else (some (.inr (p71, p72))))
theorem f3_l2_j3_ok {d : Nat} (hd : 9 ≤ d) (a1 : GScreen) (a2 : GScreen) {r : ((List Int) × Int × Int) ⊕ (((List Int) × Int))} {Q : PX → St → Prop} (hQ : ∀ e st', finL (f3_l2_H a1 a2) (f3_l2_X a1 a2) r e st' → Q e st') (p71 : List Int) (p72 : Int) (p73 : Int) (p74 : Bool) (hS : f3_l2_j3 a1 a2 p71 p72 p73 p74 = some r) {st : St} (he : keepSt [2, 3, 5, 7, 8, 28, 29, 30] [(24, .id 24), (32, .id 32), (112, .id 112)] [] st = f3_l2_j3_J a1 a2 p71 p72 p73 p74) : ZR (lev codes baseL (d - 1)) Q c3_3 [] st := by
  refine zrKeep he ?_
  unfold f3_l2_j3 at hS
  refine zrSeq ?_
  refine zrSplit 30 p74 (by kernel_rfl) (fun hc => ?_) (fun hc => ?_)
  · replace hS := cond_t hc hS
    refine zrCondT (by kernel_rfl) ?_
    refine zrSkip ?_
    refine zkSeq ?_
    exact f3_l2_j4_ok hd a1 a2 hQ p71 p72 p73 hS (by kernel_rfl)
  · replace hS := cond_f hc hS
    refine zrCondF (by kernel_rfl) ?_
    refine zrKeep (J := f3_l2_e0_J a1 a2 p71 p72) (by kernel_rfl) ?_
    refine zrExit ?_
    refine zkSeqX ?_
    refine zkNil ?_
    exact endQ hS hQ (finL_x (by intro h; cases h) (by show _ = _ ∧ _ = _; exact ⟨rfl, rfl⟩))
noncomputable def f3_l2 (a1 : GScreen) (a2 : GScreen) (x : (List Int) × Int × Int) : Option (((List Int) × Int × Int) ⊕ (((List Int) × Int))) := (bif (decide (x.2.2 < a1.Grid.High)) then (f3_l2_j3 a1 a2 x.1 x.2.1 x.2.2 true) else (f3_l2_j3 a1 a2 x.1 x.2.1 x.2.2 false))
theorem f3_l2_ok {d : Nat} (hd : 9 ≤ d) (a1 : GScreen) (a2 : GScreen) {r : ((List Int) × Int × Int) ⊕ (((List Int) × Int))} {Q : PX → St → Prop} (hQ : ∀ e st', finL (f3_l2_H a1 a2) (f3_l2_X a1 a2) r e st' → Q e st') {x : (List Int) × Int × Int} (hS : f3_l2 a1 a2 x = some r) {st : St} (he : f3_l2_H a1 a2 x st) : ZR (lev codes baseL (d - 1)) Q c3_4 [] st := by
  refine zrKeep he ?_
  unfold f3_l2 at hS
  refine zrSeq ?_
  refine zrReg ?_
  refine zlBool (d := 30) (op := (.cmpI .lss (.tmp 29) (.tmp 28))) (g := none) (j := 1) (decide (x.2.2 < a1.Grid.High)) rfl (by kernel_rfl) (by kernel_rfl) (by kernel_rfl) (fun hc => ?_) (fun hc => ?_)
  · replace hS := cond_t hc hS
    refine zlEnd (by kernel_rfl) ?_
    refine zkSeq ?_
    exact f3_l2_j3_ok hd a1 a2 hQ x.1 x.2.1 x.2.2 true hS (by kernel_rfl)
  · replace hS := cond_f hc hS
    refine zlEnd (by kernel_rfl) ?_
    refine zkSeq ?_
    exact f3_l2_j3_ok hd a1 a2 hQ x.1 x.2.1 x.2.2 false hS (by kernel_rfl)
def f3_j0_J (a1 : GScreen) (a2 : GScreen) (p37 : List Int) : St := ⟨(up (up (up (fun _ => .un) 5 (.r (.msl 112 0 0 p37.length))) 3 (.r (.ptr 32 0 0))) 2 (.r (.ptr 24 0 0))), (up (up (up (hB fun _ => 0) 112 ⟨0, some (.own 3 1 ((eInt .i64).cells p37))⟩) 32 ⟨0, some (.box (bx_GScreen a2 (.d (.sl a2.Grid.Cells.length (e_GCell.cells a2.Grid.Cells))) (.d (.sl a2.Other.Cells.length (e_GCell.cells a2.Other.Cells))) (.d (.sl a2.Past.length (e_GLine.cells a2.Past)))))⟩) 24 ⟨0, some (.box (bx_GScreen a1 (.d (.sl a1.Grid.Cells.length (e_GCell.cells a1.Grid.Cells))) (.d (.sl a1.Other.Cells.length (e_GCell.cells a1.Other.Cells))) (.d (.sl a1.Past.length (e_GLine.cells a1.Past)))))⟩)⟩
noncomputable def f3_j0 (a1 : GScreen) (a2 : GScreen) (p37 : List Int) : Option (Bool) := ((loopO (f3_l2 a1 a2) (p37, 200, 0)).bind fun z30 => (f3_j1 a1 a2 z30.1 z30.2))
theorem f3_j0_ok {d : Nat} (hd : 9 ≤ d) (a1 : GScreen) (a2 : GScreen) {r : Bool} {Q : PX → St → Prop} (hQ : ∀ e st', f3_Q r e st' → Q e st') (p37 : List Int) (hS : f3_j0 a1 a2 p37 = some r) {st : St} (he : keepSt [2, 3, 5] [(24, .id 24), (32, .id 32), (112, .id 112)] [] st = f3_j0_J a1 a2 p37) : ZR (lev codes baseL (d - 1)) Q c3_5 [] st := by
  refine zrKeep he ?_
  unfold f3_j0 at hS
  refine zrSeq ?_
  refine zrRegD ?_
  refine zdRun (n := 5) (j := 5) (ts := [[], [], [(24, false)], [], []]) (acc' := [[], [], [(24, false)], [], []]) rfl (by kernel_rfl) (by kernel_rfl) (by kernel_rfl) ?_
  refine zdEnd (by kernel_rfl) (by kernel_rfl) ?_
  refine zkSeq ?_
  refine zrSeq ?_
  refine zrSeq ?_
  refine zrReg ?_
  refine zlRun (n := 4) (j := 4) rfl (by kernel_rfl) ?_
  refine zlEnd (by kernel_rfl) ?_
  refine zkSeq ?_
  refine zrBlk ?_
  refine bindE hS (fun z30 hz30 hS => ?_)
  refine zrLoop (f3_l2_H a1 a2) (f3_l2_X a1 a2) (fun x st r Q h0 hS hQ => f3_l2_ok hd a1 a2 hQ hS h0) (x := (p37, 200, 0)) (z := z30) (by show keepSt _ _ _ _ = _; kernel_rfl) hz30 ?_
  intro e st' _ hX
  obtain ⟨rfl, rfl⟩ : _ ∧ _ := hX
  refine zkBlkX ?_
  refine zkSeq ?_
  exact f3_j1_ok hd a1 a2 hQ z30.1 z30.2 hS (by kernel_rfl)
noncomputable def f3 (a1 : GScreen) (a2 : GScreen) : Option (Bool) := ((f4 a1 a2).bind fun z14 => (libLives.bind fun z31 => (bif (!z31) then (libLives.bind fun z32 => (some z32)) else (bif (!decide (z14.2 = 0)) then (libLives.bind fun z33 => (some z33)) else (f3_j0 a1 a2 z14.1)))))
theorem f3_ok (d : Nat) (hd : 9 ≤ d) (a1 : GScreen) (a2 : GScreen) (r : Bool) (hS : f3 a1 a2 = some r) : lev codes baseL d 3 [(.agg ((.d (.int .i64 a1.Grid.Wide)) :: ((.d (.int .i64 a1.Grid.High)) :: ((.d (.sl a1.Grid.Cells.length (e_GCell.cells a1.Grid.Cells))) :: ((.d (.int .i64 a1.Row)) :: ((.d (.int .i64 a1.Col)) :: ((.d (.bool a1.Late)) :: ((.d (.int .i64 a1.Top)) :: ((.d (.int .i64 a1.Bottom)) :: ((.d (.int .i64 a1.Pen.Flags)) :: ((.d (.int .i64 a1.Pen.Fore)) :: ((.d (.int .i64 a1.Pen.Back)) :: ((.d (.int .i64 a1.Modes)) :: (((eInt .u64).row 4 a1.Stops.Bits) ++ ((.d (.int .i64 a1.Pages.1)) :: ((.d (.int .i64 a1.Pages.2)) :: ((.d (.int .i64 a1.Shift)) :: ((.d (.int .i64 a1.Saved.Row)) :: ((.d (.int .i64 a1.Saved.Col)) :: ((.d (.int .i64 a1.Saved.Pen.Flags)) :: ((.d (.int .i64 a1.Saved.Pen.Fore)) :: ((.d (.int .i64 a1.Saved.Pen.Back)) :: ((.d (.bool a1.Saved.Origin)) :: ((.d (.int .i64 a1.Saved.Pages.1)) :: ((.d (.int .i64 a1.Saved.Pages.2)) :: ((.d (.int .i64 a1.Saved.Shift)) :: ((.d (.int .i64 a1.Other.Wide)) :: ((.d (.int .i64 a1.Other.High)) :: ((.d (.sl a1.Other.Cells.length (e_GCell.cells a1.Other.Cells))) :: ((.d (.str a1.Title)) :: ((.d (.sl a1.Past.length (e_GLine.cells a1.Past))) :: []))))))))))))))))))))))))))))))), (.agg ((.d (.int .i64 a2.Grid.Wide)) :: ((.d (.int .i64 a2.Grid.High)) :: ((.d (.sl a2.Grid.Cells.length (e_GCell.cells a2.Grid.Cells))) :: ((.d (.int .i64 a2.Row)) :: ((.d (.int .i64 a2.Col)) :: ((.d (.bool a2.Late)) :: ((.d (.int .i64 a2.Top)) :: ((.d (.int .i64 a2.Bottom)) :: ((.d (.int .i64 a2.Pen.Flags)) :: ((.d (.int .i64 a2.Pen.Fore)) :: ((.d (.int .i64 a2.Pen.Back)) :: ((.d (.int .i64 a2.Modes)) :: (((eInt .u64).row 4 a2.Stops.Bits) ++ ((.d (.int .i64 a2.Pages.1)) :: ((.d (.int .i64 a2.Pages.2)) :: ((.d (.int .i64 a2.Shift)) :: ((.d (.int .i64 a2.Saved.Row)) :: ((.d (.int .i64 a2.Saved.Col)) :: ((.d (.int .i64 a2.Saved.Pen.Flags)) :: ((.d (.int .i64 a2.Saved.Pen.Fore)) :: ((.d (.int .i64 a2.Saved.Pen.Back)) :: ((.d (.bool a2.Saved.Origin)) :: ((.d (.int .i64 a2.Saved.Pages.1)) :: ((.d (.int .i64 a2.Saved.Pages.2)) :: ((.d (.int .i64 a2.Saved.Shift)) :: ((.d (.int .i64 a2.Other.Wide)) :: ((.d (.int .i64 a2.Other.High)) :: ((.d (.sl a2.Other.Cells.length (e_GCell.cells a2.Other.Cells))) :: ((.d (.str a2.Title)) :: ((.d (.sl a2.Past.length (e_GLine.cells a2.Past))) :: [])))))))))))))))))))))))))))))))] [] = some ((.d (.bool r)), []) := by
  refine lev_go codes3 rfl rfl (Nat.le_trans (Nat.le_of_ble_eq_true rfl) hd) fun Q hQ => ?_
  unfold f3 at hS
  show ZR _ Q c3_b [] _
  replace hQ : ∀ e st', f3_Q r e st' → Q e st' := hQ
  refine zrSeq ?_
  refine zrReg ?_
  refine zlRun (n := 3) (j := 3) rfl (by kernel_rfl) ?_
  refine zlEnd (by kernel_rfl) ?_
  refine zkSeq ?_
  refine zrSeq ?_
  refine zrReg ?_
  refine zlRun (n := 2) (j := 2) rfl (by kernel_rfl) ?_
  refine bindE hS (fun z14 hz14 hS => ?_)
  refine zlOp (d := some 13) (op := (.call 4 [(.tmp 11), (.tmp 12)])) (g := none) (j := 3) rfl (by kernel_rfl) (by kernel_rfl) (ev_callA (by kernel_rfl) (f4_ok (d - 1) (dpt hd rfl) a1 a2 z14 hz14) (by kernel_rfl) (by kernel_rfl)) ?_
  refine zlRun (n := 5) (j := 8) rfl (by kernel_rfl) ?_
  refine zlEnd (by kernel_rfl) ?_
  refine zkSeq ?_
  refine zrSeq ?_
  refine zrSeq ?_
  refine zrReg ?_
  refine bindE hS (fun z31 hz31 hS => ?_)
  refine zlOp (d := some 16) (op := (.call 5 [])) (g := none) (j := 1) rfl (by kernel_rfl) (by kernel_rfl) (ev_callA (by kernel_rfl) (libLives_ok (d - 1) (dpt hd rfl)  z31 hz31) (by kernel_rfl) (by kernel_rfl)) ?_
  refine zlRun (n := 2) (j := 3) rfl (by kernel_rfl) ?_
  refine zlSplit 18 (!z31) (by kernel_rfl) (fun hc => ?_) (fun hc => ?_)
  · replace hS := cond_t hc hS
    refine zlRun (n := 3) (j := 6) rfl (by kernel_rfl) ?_
    refine zlEnd (by kernel_rfl) ?_
    refine zkSeq ?_
    refine zrCondT (by kernel_rfl) ?_
    refine zrSeq ?_
    refine zrReg ?_
    refine bindE hS (fun z32 hz32 hS => ?_)
    refine zlOp (d := some 22) (op := (.call 5 [])) (g := none) (j := 1) rfl (by kernel_rfl) (by kernel_rfl) (ev_callA (by kernel_rfl) (libLives_ok (d - 1) (dpt hd rfl)  z32 hz32) (by kernel_rfl) (by kernel_rfl)) ?_
    refine zlRun (n := 1) (j := 2) rfl (by kernel_rfl) ?_
    refine zlEnd (by kernel_rfl) ?_
    refine zkSeq ?_
    refine zrRet ?_
    refine zkSeqR ?_
    refine zkNil ?_
    exact endQ hS hQ (fRet (by kernel_rfl) ((congrArg (fun s => outR s 0 c3.res) (by kernel_rfl : finSt c3.fin _ = f3_fin z32)).trans (f3_out z32)))
  · replace hS := cond_f hc hS
    refine zlRun (n := 1) (j := 4) rfl (by kernel_rfl) ?_
    refine zlBool (d := 20) (op := (.cmpI .neq (.tmp 19) (.const (.int .i64 0)))) (g := (some (18, false))) (j := 5) (!decide (z14.2 = 0)) rfl (by kernel_rfl) (by kernel_rfl) (by kernel_rfl) (fun hc => ?_) (fun hc => ?_)
    · replace hS := cond_t hc hS
      refine zlRun (n := 1) (j := 6) rfl (by kernel_rfl) ?_
      refine zlEnd (by kernel_rfl) ?_
      refine zkSeq ?_
      refine zrCondT (by kernel_rfl) ?_
      refine zrSeq ?_
      refine zrReg ?_
      refine bindE hS (fun z33 hz33 hS => ?_)
      refine zlOp (d := some 22) (op := (.call 5 [])) (g := none) (j := 1) rfl (by kernel_rfl) (by kernel_rfl) (ev_callA (by kernel_rfl) (libLives_ok (d - 1) (dpt hd rfl)  z33 hz33) (by kernel_rfl) (by kernel_rfl)) ?_
      refine zlRun (n := 1) (j := 2) rfl (by kernel_rfl) ?_
      refine zlEnd (by kernel_rfl) ?_
      refine zkSeq ?_
      refine zrRet ?_
      refine zkSeqR ?_
      refine zkNil ?_
      exact endQ hS hQ (fRet (by kernel_rfl) ((congrArg (fun s => outR s 0 c3.res) (by kernel_rfl : finSt c3.fin _ = f3_fin z33)).trans (f3_out z33)))
    · replace hS := cond_f hc hS
      refine zlRun (n := 1) (j := 6) rfl (by kernel_rfl) ?_
      refine zlEnd (by kernel_rfl) ?_
      refine zkSeq ?_
      refine zrCondF (by kernel_rfl) ?_
      refine zrSkip ?_
      refine zkSeq ?_
      exact f3_j0_ok hd a1 a2 hQ z14.1 hS (by kernel_rfl)
end Go.Proofs.YtgjckmjlocankaaGreatDoor.Pm
