/- Typed functions, and that the codes are these. Printed by dec.py. -/
import Derived.Test.YtjoccdgmcdkbkaaGreatDoorDSsF
namespace Go.Proofs.YtjoccdgmcdkbkaaGreatDoor.Pm
set_option maxRecDepth 1000000
set_option maxHeartbeats 20000000
set_option linter.unusedVariables false
/- farwriter/pen.extended$1 -/
def f135_fin (p2 : Bool) : St := ⟨(up u0 2 (dB p2)), h0⟩
theorem f135_out (p2 : Bool) : outR (f135_fin p2) 0 c135.res = some ((dB p2), []) := by
  kernel_rfl
def f135_Q (r : Bool) (e : PX) (st : St) : Prop := DoneF c135 0 ((dB r), []) e st
noncomputable def f135 (a1 : Int) : Option (Bool) := (bif (decide (255 < a1)) then (some true) else (some false))
theorem f135_ok (d : Nat) (hd : 1 ≤ d) (a1 : Int) (r : Bool) (hS : f135 a1 = some r) : lev codes baseL d 135 [(dI a1)] [] = some ((dB r), []) := by
  refine lev_go codes135 rfl rfl (Nat.le_trans (Nat.le_of_ble_eq_true rfl) hd) fun Q hQ => ?_
  unfold f135 at hS
  show ZR _ Q c135_b [] _
  replace hQ : ∀ e st', f135_Q r e st' → Q e st' := hQ
  refine zrSeq (zrReg (zL 1 1 (zE (zkSeq (zrSeq (zrReg (zL 1 1 ?_)))))))
  refine zB 4 2 (.cmpI .gtr (tm 3) (ki 255)) (decide (255 < a1)) (fun hc => ?_) (fun hc => ?_)
  · replace hS := cond_t hc hS
    refine zL 1 3 (zE (zkSeq ?_))
    refine zrRet ?_
    refine zkNil ?_
    exact endQ hS hQ (fR (f135_out true))
  · replace hS := cond_f hc hS
    refine zL 1 3 (zE (zkSeq ?_))
    refine zrRet ?_
    refine zkNil ?_
    exact endQ hS hQ (fR (f135_out false))
/- slices.IndexFunc[[]int,int] -/
def f84v2_fin (p8 : Int) : St := ⟨(up u0 4 (dI p8)), h0⟩
theorem f84v2_out (p8 : Int) : outR (f84v2_fin p8) 0 c84.res = some ((dI p8), []) := by
  kernel_rfl
def f84v2_Q (r : Int) (e : PX) (st : St) : Prop := DoneF c84 0 ((dI r), []) e st
def f84v2_l0_J (a1 : List Int) (x : Int) : St := ⟨(up (up (up (up u0 8 (dI x)) 7 (dI (a1.length : Int))) 1 (.fn 135 [])) 0 (.d (.sl a1.length ((eInt .i64).cells a1)))), h0⟩
def f84v2_l0_H (a1 : List Int) (x : Int) (st : St) : Prop := keepSt [0, 1, 7, 8] [] [] st = f84v2_l0_J a1 x
def f84v2_l0_e0_J (a1 : List Int) : St := ⟨u0, h0⟩
def f84v2_l0_X (a1 : List Int) (z : Unit ⊕ Int) (e : PX) (st : St) : Prop := (match z with | .inl z => e = .exit 0 ∧ st = f84v2_l0_e0_J a1 | .inr z => e = .ret ∧ finSt c84.fin st = f84v2_fin z)
def f84v2_l0_j2_J (a1 : List Int) (p13 : Int) : St := ⟨(up (up (up (up u0 8 (dI p13)) 7 (dI (a1.length : Int))) 1 (.fn 135 [])) 0 (.d (.sl a1.length ((eInt .i64).cells a1)))), h0⟩
noncomputable def f84v2_l0_j2 (a1 : List Int) (p13 : Int) : Option (Int ⊕ (Unit ⊕ Int)) := ((idx a1 p13).bind fun z7 => ((f135 z7).bind fun z8 => (bif z8 then (some (.inr (.inr p13))) else (some (.inl (IntKind.i64.wrap (p13 + 1)))))))
theorem f84v2_l0_j2_ok {d : Nat} (hd : 2 ≤ d) (a1 : List Int) {r : Int ⊕ (Unit ⊕ Int)} {Q : PX → St → Prop} (hQ : ∀ e st', finL (f84v2_l0_H a1) (f84v2_l0_X a1) r e st' → Q e st') (p13 : Int) (hS : f84v2_l0_j2 a1 p13 = some r) {st : St} (he : keepSt [0, 1, 7, 8] [] [] st = f84v2_l0_j2_J a1 p13) : ZR (lev codes baseL (d - 1)) Q c84_1 [] st := by
  refine zrKeep he ?_
  unfold f84v2_l0_j2 at hS
  refine zrSeq ?_
  refine zrBlk ?_
  refine zrSeq (zrReg (zL 2 2 (zE (zkSeq (zrSeq (zrReg (zL 3 3 ?_)))))))
  refine bindE hS (fun z7 hz7 hS => ?_)
  refine zO (v := (.rptr ((eInt .i64).enc z7 ++ ((eInt .i64).cells (a1.drop ((p13 : Int).toNat + 1)))))) (ups := []) (some 14) 4 (.ixS 3 1 (tm 12) (tm 13)) (ev_ixS (eInt .i64) (kk := .i64) (xs := a1) (j := p13) (by kernel_rfl) (by kernel_rfl) hz7 rfl (by intro h; cases h)) ?_
  refine zL 1 5 ?_
  refine bindE hS (fun z8 hz8 hS => ?_)
  refine zO (v := (dB z8)) (ups := []) (some 16) 6 (.callv (tm 11) [(tm 15)]) (ev_callv (f := 135) (cs := []) (by kernel_rfl) (args := [(dI z7)]) (l := [(dI z7)]) (r := (dB z8)) (by kernel_rfl) (by kernel_rfl) (f135_ok (d - 1) (dpt hd rfl) z7 z8 hz8) (by kernel_rfl) (by kernel_rfl) (by kernel_rfl)) ?_
  refine zE (zkSeq ?_)
  refine zrSplit 16 z8 (by kernel_rfl) (fun hc => ?_) (fun hc => ?_)
  · replace hS := cond_t hc hS
    refine zT (zrSeq (zrReg (zL 2 2 (zE (zkSeq ?_)))))
    refine zrRet ?_
    refine zkBlkR ?_
    refine zkSeqR ?_
    refine zkNil ?_
    exact endQ hS hQ (finL_x (by intro h; cases h) (by show _ = _ ∧ _ = _; exact ⟨rfl, by kernel_rfl⟩))
  · replace hS := cond_f hc hS
    refine zF ?_
    refine zrSkip ?_
    refine zkBlk ?_
    refine zkSeq (zrReg (zL 2 2 (zE ?_)))
    refine zkNil ?_
    exact endQ hS hQ (finL_n (by show keepSt _ _ _ _ = _; kernel_rfl))
def f84v2_l0_j1_J (a1 : List Int) (p11 : Int) (p12 : Bool) : St := ⟨(up (up (up (up (up u0 9 (dB p12)) 8 (dI p11)) 7 (dI (a1.length : Int))) 1 (.fn 135 [])) 0 (.d (.sl a1.length ((eInt .i64).cells a1)))), h0⟩
noncomputable def f84v2_l0_j1 (a1 : List Int) (p11 : Int) (p12 : Bool) : Option (Int ⊕ (Unit ⊕ Int)) := (bif p12 then (f84v2_l0_j2 a1 p11) else (some (.inr (.inl ()))))
theorem f84v2_l0_j1_ok {d : Nat} (hd : 2 ≤ d) (a1 : List Int) {r : Int ⊕ (Unit ⊕ Int)} {Q : PX → St → Prop} (hQ : ∀ e st', finL (f84v2_l0_H a1) (f84v2_l0_X a1) r e st' → Q e st') (p11 : Int) (p12 : Bool) (hS : f84v2_l0_j1 a1 p11 p12 = some r) {st : St} (he : keepSt [0, 1, 7, 8, 9] [] [] st = f84v2_l0_j1_J a1 p11 p12) : ZR (lev codes baseL (d - 1)) Q c84_2 [] st := by
  refine zrKeep he ?_
  unfold f84v2_l0_j1 at hS
  refine zrSeq ?_
  refine zrSplit 9 p12 (by kernel_rfl) (fun hc => ?_) (fun hc => ?_)
  · replace hS := cond_t hc hS
    refine zT ?_
    refine zrSkip ?_
    refine zkSeq ?_
    exact f84v2_l0_j2_ok hd a1 hQ p11 hS (by kernel_rfl)
  · replace hS := cond_f hc hS
    refine zF ?_
    refine zrKeep (J := f84v2_l0_e0_J a1) (by kernel_rfl) ?_
    refine zrExit ?_
    refine zkSeqX ?_
    refine zkNil ?_
    exact endQ hS hQ (finL_x (by intro h; cases h) (by show _ = _ ∧ _ = _; exact ⟨rfl, rfl⟩))
noncomputable def f84v2_l0 (a1 : List Int) (x : Int) : Option (Int ⊕ (Unit ⊕ Int)) := (bif (decide (x < (a1.length : Int))) then (f84v2_l0_j1 a1 x true) else (f84v2_l0_j1 a1 x false))
theorem f84v2_l0_ok {d : Nat} (hd : 2 ≤ d) (a1 : List Int) {r : Int ⊕ (Unit ⊕ Int)} {Q : PX → St → Prop} (hQ : ∀ e st', finL (f84v2_l0_H a1) (f84v2_l0_X a1) r e st' → Q e st') {x : Int} (hS : f84v2_l0 a1 x = some r) {st : St} (he : f84v2_l0_H a1 x st) : ZR (lev codes baseL (d - 1)) Q c84_3 [] st := by
  refine zrKeep he ?_
  unfold f84v2_l0 at hS
  refine zrSeq (zrReg ?_)
  refine zB 9 1 (.cmpI .lss (tm 8) (tm 7)) (decide (x < (a1.length : Int))) (fun hc => ?_) (fun hc => ?_)
  · replace hS := cond_t hc hS
    refine zE (zkSeq ?_)
    exact f84v2_l0_j1_ok hd a1 hQ x true hS (by kernel_rfl)
  · replace hS := cond_f hc hS
    refine zE (zkSeq ?_)
    exact f84v2_l0_j1_ok hd a1 hQ x false hS (by kernel_rfl)
noncomputable def f84v2 (a1 : List Int) : Option (Int) := ((loopO (f84v2_l0 a1) 0).bind fun z9 => (Sum.elim (fun z10 => (some (-1))) (fun z11 => (some z11)) z9))
theorem f84v2_ok (d : Nat) (hd : 2 ≤ d) (a1 : List Int) (r : Int) (hS : f84v2 a1 = some r) : lev codes baseL d 84 [(.d (.sl a1.length ((eInt .i64).cells a1))), (.fn 135 [])] [] = some ((dI r), []) := by
  refine lev_go codes84 rfl rfl (Nat.le_trans (Nat.le_of_ble_eq_true rfl) hd) fun Q hQ => ?_
  unfold f84v2 at hS
  show ZR _ Q c84_b [] _
  replace hQ : ∀ e st', f84v2_Q r e st' → Q e st' := hQ
  refine zrSeq (zrReg (zL 1 1 (zE (zkSeq (zrSeq (zrSeq (zrReg (zL 3 3 (zE (zkSeq ?_))))))))))
  refine zrBlk ?_
  refine bindE hS (fun z9 hz9 hS => ?_)
  refine zrLoop (f84v2_l0_H a1) (f84v2_l0_X a1) (fun x st r Q h0 hS hQ => f84v2_l0_ok hd a1 hQ hS h0) (x := 0) (z := z9) (by show keepSt _ _ _ _ = _; kernel_rfl) hz9 ?_
  rcases z9 with z10 | z11
  · replace hS := (show _ = _ from hS)
    simp only [Sum.elim_inl] at hS
    intro e st' _ hX
    obtain ⟨rfl, rfl⟩ : _ ∧ _ := hX
    refine zkBlkX ?_
    refine zkSeq (zrSeq (zrReg (zL 1 1 (zE (zkSeq ?_)))))
    refine zrRet ?_
    refine zkNil ?_
    exact endQ hS hQ (fR (f84v2_out (-1)))
  · simp only [Sum.elim_inr] at hS
    intro e st' _ hX
    obtain ⟨rfl, hX⟩ : _ ∧ _ := hX
    refine zkBlkR ?_
    refine zkSeqR ?_
    refine zkNil ?_
    exact endQ hS hQ (fRet (by kernel_rfl) ((congrArg (fun s => outR s 0 c84.res) hX).trans (f84v2_out z11)))
/- slices.ContainsFunc[[]int,int] -/
def f61v2_fin (p2 : Bool) : St := ⟨(up u0 4 (dB p2)), h0⟩
theorem f61v2_out (p2 : Bool) : outR (f61v2_fin p2) 0 c61.res = some ((dB p2), []) := by
  kernel_rfl
def f61v2_Q (r : Bool) (e : PX) (st : St) : Prop := DoneF c61 0 ((dB r), []) e st
noncomputable def f61v2 (a1 : List Int) : Option (Bool) := ((f84v2 a1).bind fun z2 => (bif (decide (0 ≤ z2)) then (some true) else (some false)))
theorem f61v2_ok (d : Nat) (hd : 3 ≤ d) (a1 : List Int) (r : Bool) (hS : f61v2 a1 = some r) : lev codes baseL d 61 [(.d (.sl a1.length ((eInt .i64).cells a1))), (.fn 135 [])] [] = some ((dB r), []) := by
  refine lev_go codes61 rfl rfl (Nat.le_trans (Nat.le_of_ble_eq_true rfl) hd) fun Q hQ => ?_
  unfold f61v2 at hS
  show ZR _ Q c61_b [] _
  replace hQ : ∀ e st', f61v2_Q r e st' → Q e st' := hQ
  refine zrSeq (zrReg (zL 1 1 (zE (zkSeq (zrSeq (zrReg (zL 2 2 ?_)))))))
  refine bindE hS (fun z2 hz2 hS => ?_)
  refine zO (some 7) 3 (.call 84 [(tm 5), (tm 6)]) (ev_callA (by kernel_rfl) (f84v2_ok (d - 1) (dpt hd rfl) a1 z2 hz2) (by kernel_rfl) (by kernel_rfl)) ?_
  refine zB 8 4 (.cmpI .geq (tm 7) (ki 0)) (decide (0 ≤ z2)) (fun hc => ?_) (fun hc => ?_)
  · replace hS := cond_t hc hS
    refine zL 1 5 (zE (zkSeq ?_))
    refine zrRet ?_
    refine zkNil ?_
    exact endQ hS hQ (fR (f61v2_out true))
  · replace hS := cond_f hc hS
    refine zL 1 5 (zE (zkSeq ?_))
    refine zrRet ?_
    refine zkNil ?_
    exact endQ hS hQ (fR (f61v2_out false))
/- farwriter/pen.extended -/
def f130_fin (p5 : Int) (p6 : Int) : St := ⟨(up (up u0 3 (dI p6)) 2 (dI p5)), h0⟩
theorem f130_out (p5 : Int) (p6 : Int) : outR (f130_fin p5 p6) 0 c130.res = some ((.tup [(dI p5), (dI p6)]), []) := by
  kernel_rfl
def f130_Q (r : Int × Int) (e : PX) (st : St) : Prop := DoneF c130 0 ((.tup [(dI r.1), (dI r.2)]), []) e st
def f130_j1_J (a1 : List Int) (p12 : Bool) : St := ⟨(up (up u0 27 (dB p12)) 0 (.d (.sl a1.length ((eInt .i64).cells a1)))), h0⟩
noncomputable def f130_j1 (a1 : List Int) (p12 : Bool) : Option (Int × Int) := (bif p12 then ((idx a1 1).bind fun z18 => ((idx a1 2).bind fun z19 => ((idx a1 3).bind fun z20 => (some ((IntKind.i64.wrap ((IntKind.i64.wrap ((IntKind.i64.wrap (16777216 + (IntKind.i64.wrap (z18 * 2 ^ 16)))) + (IntKind.i64.wrap (z19 * 2 ^ 8)))) + z20)), 4))))) else (some (0, 0)))
theorem f130_j1_ok {d : Nat} (hd : 4 ≤ d) (a1 : List Int) {r : Int × Int} {Q : PX → St → Prop} (hQ : ∀ e st', f130_Q r e st' → Q e st') (p12 : Bool) (hS : f130_j1 a1 p12 = some r) {st : St} (he : keepSt [0, 27] [] [] st = f130_j1_J a1 p12) : ZR (lev codes baseL (d - 1)) Q c130_1 [.blk 0, .seq c130_2] st := by
  refine zrKeep he ?_
  unfold f130_j1 at hS
  refine zrSplit 27 p12 (by kernel_rfl) (fun hc => ?_) (fun hc => ?_)
  · replace hS := cond_t hc hS
    refine zT (zrSeq ?_)
    refine zrRegD ?_
    refine zdRun (n := 1) (j := 1) (ts := [[]]) (acc' := [[]]) rfl (by kernel_rfl) (by kernel_rfl) (by kernel_rfl) ?_
    refine bindE hS (fun z18 hz18 hS => ?_)
    refine zdOp (d := some 45) (op := (.ixS 3 1 (tm 44) (ki 1))) (g := none) (v := (.rptr ((eInt .i64).enc z18 ++ ((eInt .i64).cells (a1.drop ((1 : Int).toNat + 1)))))) (ups := []) (j := 2) (t1 := []) (acc' := [[], []]) (by kernel_rfl) (by kernel_rfl) rfl (by kernel_rfl) (by kernel_rfl) (ev_ixS (eInt .i64) (kk := .i64) (xs := a1) (j := 1) (by kernel_rfl) (by kernel_rfl) hz18 rfl (by intro h; cases h)) ?_
    refine zdRun (n := 4) (j := 6) (ts := [[], [], [], []]) (acc' := [[], [], [], [], [], []]) rfl (by kernel_rfl) (by kernel_rfl) (by kernel_rfl) ?_
    refine bindE hS (fun z19 hz19 hS => ?_)
    refine zdOp (d := some 50) (op := (.ixS 3 1 (tm 49) (ki 2))) (g := none) (v := (.rptr ((eInt .i64).enc z19 ++ ((eInt .i64).cells (a1.drop ((2 : Int).toNat + 1)))))) (ups := []) (j := 7) (t1 := []) (acc' := [[], [], [], [], [], [], []]) (by kernel_rfl) (by kernel_rfl) rfl (by kernel_rfl) (by kernel_rfl) (ev_ixS (eInt .i64) (kk := .i64) (xs := a1) (j := 2) (by kernel_rfl) (by kernel_rfl) hz19 rfl (by intro h; cases h)) ?_
    refine zdRun (n := 4) (j := 11) (ts := [[], [], [], []]) (acc' := [[], [], [], [], [], [], [], [], [], [], []]) rfl (by kernel_rfl) (by kernel_rfl) (by kernel_rfl) ?_
    refine bindE hS (fun z20 hz20 hS => ?_)
    refine zdOp (d := some 55) (op := (.ixS 3 1 (tm 54) (ki 3))) (g := none) (v := (.rptr ((eInt .i64).enc z20 ++ ((eInt .i64).cells (a1.drop ((3 : Int).toNat + 1)))))) (ups := []) (j := 12) (t1 := []) (acc' := [[], [], [], [], [], [], [], [], [], [], [], []]) (by kernel_rfl) (by kernel_rfl) rfl (by kernel_rfl) (by kernel_rfl) (ev_ixS (eInt .i64) (kk := .i64) (xs := a1) (j := 3) (by kernel_rfl) (by kernel_rfl) hz20 rfl (by intro h; cases h)) ?_
    refine zdRun (n := 4) (j := 16) (ts := [[], [], [], []]) (acc' := [[], [], [], [], [], [], [], [], [], [], [], [], [], [], [], []]) rfl (by kernel_rfl) (by kernel_rfl) (by kernel_rfl) ?_
    refine zdEnd (by kernel_rfl) (by kernel_rfl) ?_
    refine zkSeq ?_
    refine zrRet ?_
    refine zkBlkR ?_
    refine zkSeqR ?_
    refine zkNil ?_
    exact endQ hS hQ (fR (f130_out (IntKind.i64.wrap ((IntKind.i64.wrap ((IntKind.i64.wrap (16777216 + (IntKind.i64.wrap (z18 * 2 ^ 16)))) + (IntKind.i64.wrap (z19 * 2 ^ 8)))) + z20)) 4))
  · replace hS := cond_f hc hS
    refine zF ?_
    refine zrSkip ?_
    refine zkBlk ?_
    refine zkSeq (zrSeq (zrReg (zL 2 2 (zE (zkSeq ?_)))))
    refine zrRet ?_
    refine zkNil ?_
    exact endQ hS hQ (fR (f130_out 0 0))
def f130_j0_J (a1 : List Int) (p9 : Bool) : St := ⟨(up (up (up u0 5 (dB p9)) 4 (.fn 135 [])) 0 (.d (.sl a1.length ((eInt .i64).cells a1)))), h0⟩
noncomputable def f130_j0 (a1 : List Int) (p9 : Bool) : Option (Int × Int) := (bif p9 then ((idx a1 1).bind fun z14 => (some ((IntKind.i64.wrap (z14 + 1)), 2))) else (bif (decide (4 ≤ (a1.length : Int))) then ((idx a1 0).bind fun z21 => (bif (decide (z21 = 2)) then ((sub? a1 1 4).bind fun z22 => ((f61v2 z22).bind fun z23 => (f130_j1 a1 (!z23)))) else (f130_j1 a1 false))) else (f130_j1 a1 false)))
theorem f130_j0_ok {d : Nat} (hd : 4 ≤ d) (a1 : List Int) {r : Int × Int} {Q : PX → St → Prop} (hQ : ∀ e st', f130_Q r e st' → Q e st') (p9 : Bool) (hS : f130_j0 a1 p9 = some r) {st : St} (he : keepSt [0, 4, 5] [] [] st = f130_j0_J a1 p9) : ZR (lev codes baseL (d - 1)) Q c130_3 [.blk 0, .seq c130_2] st := by
  refine zrKeep he ?_
  unfold f130_j0 at hS
  refine zrSplit 5 p9 (by kernel_rfl) (fun hc => ?_) (fun hc => ?_)
  · replace hS := cond_t hc hS
    refine zT (zrSeq (zrReg (zL 1 1 ?_)))
    refine bindE hS (fun z14 hz14 hS => ?_)
    refine zO (v := (.rptr ((eInt .i64).enc z14 ++ ((eInt .i64).cells (a1.drop ((1 : Int).toNat + 1)))))) (ups := []) (some 24) 2 (.ixS 3 1 (tm 23) (ki 1)) (ev_ixS (eInt .i64) (kk := .i64) (xs := a1) (j := 1) (by kernel_rfl) (by kernel_rfl) hz14 rfl (by intro h; cases h)) ?_
    refine zL 4 6 (zE (zkSeq ?_))
    refine zrRet ?_
    refine zkBlkR ?_
    refine zkSeqR ?_
    refine zkNil ?_
    exact endQ hS hQ (fR (f130_out (IntKind.i64.wrap (z14 + 1)) 2))
  · replace hS := cond_f hc hS
    refine zF (zrSeq (zrReg (zL 2 2 ?_)))
    refine zB 30 3 (.cmpI .geq (tm 29) (ki 4)) (decide (4 ≤ (a1.length : Int))) (fun hc => ?_) (fun hc => ?_)
    · replace hS := cond_t hc hS
      refine zL 2 5 ?_
      refine bindE hS (fun z21 hz21 hS => ?_)
      refine zlOp (d := some 33) (op := (.ixS 3 1 (tm 32) (ki 0))) (g := (some (31, true))) (v := (.rptr ((eInt .i64).enc z21 ++ ((eInt .i64).cells (a1.drop ((0 : Int).toNat + 1)))))) (ups := []) (j := 6) rfl (by kernel_rfl) (by kernel_rfl) (ev_ixS (eInt .i64) (kk := .i64) (xs := a1) (j := 0) (by kernel_rfl) (by kernel_rfl) hz21 rfl (by intro h; cases h)) ?_
      refine zL 1 7 ?_
      refine zlBool (d := 35) (op := (.cmpI .eql (tm 34) (ki 2))) (g := (some (31, true))) (j := 8) (decide (z21 = 2)) rfl (by kernel_rfl) (by kernel_rfl) (by kernel_rfl) (fun hc => ?_) (fun hc => ?_)
      · replace hS := cond_t hc hS
        refine zL 3 11 ?_
        refine bindE hS (fun z22 hz22 hS => ?_)
        refine zlOp (d := some 39) (op := (.slS 3 1 (tm 38) (.some (ki 1)) (.some (ki 4)))) (g := (some (37, true))) (v := (.d (.sl z22.length ((eInt .i64).cells z22)))) (ups := []) (j := 12) rfl (by kernel_rfl) (by kernel_rfl) (ev_slS (eInt .i64) (xs := a1) (a := 1) (c := 4) (by kernel_rfl) rfl (bnd_s _ (kk := .i64) (j := 1) (by kernel_rfl)) (bnd_s _ (kk := .i64) (j := 4) (by kernel_rfl)) hz22) ?_
        refine zL 1 13 ?_
        refine bindE hS (fun z23 hz23 hS => ?_)
        refine zlOp (d := some 41) (op := (.call 61 [(tm 39), (tm 40)])) (g := (some (37, true))) (j := 14) rfl (by kernel_rfl) (by kernel_rfl) (ev_callA (by kernel_rfl) (f61v2_ok (d - 1) (dpt hd rfl) z22 z23 hz23) (by kernel_rfl) (by kernel_rfl)) ?_
        refine zL 3 17 (zE (zkSeq ?_))
        exact f130_j1_ok hd a1 hQ (!z23) hS (by kernel_rfl)
      · replace hS := cond_f hc hS
        refine zL 9 17 (zE (zkSeq ?_))
        exact f130_j1_ok hd a1 hQ false hS (by kernel_rfl)
    · replace hS := cond_f hc hS
      refine zL 14 17 (zE (zkSeq ?_))
      exact f130_j1_ok hd a1 hQ false hS (by kernel_rfl)
noncomputable def f130 (a1 : List Int) : Option (Int × Int) := (bif (decide (2 ≤ (a1.length : Int))) then ((idx a1 0).bind fun z24 => (bif (decide (z24 = 5)) then ((idx a1 1).bind fun z25 => ((f135 z25).bind fun z26 => (f130_j0 a1 (!z26)))) else (f130_j0 a1 false))) else (f130_j0 a1 false))
theorem f130_ok (d : Nat) (hd : 4 ≤ d) (a1 : List Int) (r : Int × Int) (hS : f130 a1 = some r) : lev codes baseL d 130 [(.d (.sl a1.length ((eInt .i64).cells a1)))] [] = some ((.tup [(dI r.1), (dI r.2)]), []) := by
  refine lev_go codes130 rfl rfl (Nat.le_trans (Nat.le_of_ble_eq_true rfl) hd) fun Q hQ => ?_
  unfold f130 at hS
  show ZR _ Q c130_b [] _
  replace hQ : ∀ e st', f130_Q r e st' → Q e st' := hQ
  refine zrSeq (zrReg (zL 2 2 (zE (zkSeq (zrSeq (zrReg (zL 1 1 (zE (zkSeq (zrSeq ?_))))))))))
  refine zrBlk ?_
  refine zrSeq (zrReg (zL 2 2 ?_))
  refine zB 8 3 (.cmpI .geq (tm 7) (ki 2)) (decide (2 ≤ (a1.length : Int))) (fun hc => ?_) (fun hc => ?_)
  · replace hS := cond_t hc hS
    refine zL 2 5 ?_
    refine bindE hS (fun z24 hz24 hS => ?_)
    refine zlOp (d := some 11) (op := (.ixS 3 1 (tm 10) (ki 0))) (g := (some (9, true))) (v := (.rptr ((eInt .i64).enc z24 ++ ((eInt .i64).cells (a1.drop ((0 : Int).toNat + 1)))))) (ups := []) (j := 6) rfl (by kernel_rfl) (by kernel_rfl) (ev_ixS (eInt .i64) (kk := .i64) (xs := a1) (j := 0) (by kernel_rfl) (by kernel_rfl) hz24 rfl (by intro h; cases h)) ?_
    refine zL 1 7 ?_
    refine zlBool (d := 13) (op := (.cmpI .eql (tm 12) (ki 5))) (g := (some (9, true))) (j := 8) (decide (z24 = 5)) rfl (by kernel_rfl) (by kernel_rfl) (by kernel_rfl) (fun hc => ?_) (fun hc => ?_)
    · replace hS := cond_t hc hS
      refine zL 4 12 ?_
      refine bindE hS (fun z25 hz25 hS => ?_)
      refine zlOp (d := some 18) (op := (.ixS 3 1 (tm 17) (ki 1))) (g := (some (15, true))) (v := (.rptr ((eInt .i64).enc z25 ++ ((eInt .i64).cells (a1.drop ((1 : Int).toNat + 1)))))) (ups := []) (j := 13) rfl (by kernel_rfl) (by kernel_rfl) (ev_ixS (eInt .i64) (kk := .i64) (xs := a1) (j := 1) (by kernel_rfl) (by kernel_rfl) hz25 rfl (by intro h; cases h)) ?_
      refine zL 1 14 ?_
      refine bindE hS (fun z26 hz26 hS => ?_)
      refine zlOp (d := some 20) (op := (.callv (tm 16) [(tm 19)])) (g := (some (15, true))) (v := (dB z26)) (ups := []) (j := 15) rfl (by kernel_rfl) (by kernel_rfl) (ev_callv (f := 135) (cs := []) (by kernel_rfl) (args := [(dI z25)]) (l := [(dI z25)]) (r := (dB z26)) (by kernel_rfl) (by kernel_rfl) (f135_ok (d - 1) (dpt hd rfl) z25 z26 hz26) (by kernel_rfl) (by kernel_rfl) (by kernel_rfl)) ?_
      refine zL 3 18 (zE (zkSeq ?_))
      exact f130_j0_ok hd a1 hQ (!z26) hS (by kernel_rfl)
    · replace hS := cond_f hc hS
      refine zL 10 18 (zE (zkSeq ?_))
      exact f130_j0_ok hd a1 hQ false hS (by kernel_rfl)
  · replace hS := cond_f hc hS
    refine zL 15 18 (zE (zkSeq ?_))
    exact f130_j0_ok hd a1 hQ false hS (by kernel_rfl)
/- farwriter/pen.Sgr -/
def f122_fin (p113 : GPen) (p114 : Int) : St := ⟨(up (up u0 5 (dI p114)) 4 (pt 40)), (up h0 40 ⟨0, some (.box ((dI p113.Flags) :: ((dI p113.Fore) :: ((dI p113.Back) :: []))))⟩)⟩
theorem f122_out (p113 : GPen) (p114 : Int) : outR (f122_fin p113 p114) 0 c122.res = some ((.tup [(.agg ((dI p113.Flags) :: ((dI p113.Fore) :: ((dI p113.Back) :: [])))), (dI p114)]), []) := by
  kernel_rfl
def f122_Q (r : GPen × Int) (e : PX) (st : St) : Prop := DoneF c122 0 ((.tup [(.agg ((dI r.1.Flags) :: ((dI r.1.Fore) :: ((dI r.1.Back) :: [])))), (dI r.2)]), []) e st
def f122_l4_J (a1 : GPen) (a2 : List Int) (x : GPen × (List Int) × Int) : St := ⟨(up (up (up (up u0 10 (dI x.2.2)) 7 (.r (.msl 64 0 0 x.2.1.length))) 4 (pt 40)) 2 (pt 24)), (up (up (up h0 64 ⟨0, some (.own 3 1 ((eInt .i64).cells x.2.1))⟩) 40 ⟨0, some (.box ((dI 0) :: ((dI 0) :: ((dI 0) :: []))))⟩) 24 ⟨0, some (.box ((dI x.1.Flags) :: ((dI x.1.Fore) :: ((dI x.1.Back) :: []))))⟩)⟩
def f122_l4_H (a1 : GPen) (a2 : List Int) (x : GPen × (List Int) × Int) (st : St) : Prop := keepSt [2, 4, 7, 10] [(24, .id 24), (40, .id 40), (64, .id 64)] [] st = f122_l4_J a1 a2 x
def f122_l4_e2_J (a1 : GPen) (a2 : List Int) (p215 : GPen) : St := ⟨(up (up u0 4 (pt 40)) 2 (pt 24)), (up (up h0 40 ⟨0, some (.box ((dI 0) :: ((dI 0) :: ((dI 0) :: []))))⟩) 24 ⟨0, some (.box ((dI p215.Flags) :: ((dI p215.Fore) :: ((dI p215.Back) :: []))))⟩)⟩
def f122_l4_X (a1 : GPen) (a2 : List Int) (z : GPen) (e : PX) (st : St) : Prop := e = .exit 2 ∧ st = f122_l4_e2_J a1 a2 z
def f122_l4_j7_J (a1 : GPen) (a2 : List Int) (p243 : GPen) (p244 : List Int) (p245 : Int) (p246 : Int) (p247 : Int) : St := ⟨(up (up (up (up (up (up u0 12 (dI p247)) 11 (dI p246)) 10 (dI p245)) 7 (.r (.msl 64 0 0 p244.length))) 4 (pt 40)) 2 (pt 24)), (up (up (up h0 64 ⟨0, some (.own 3 1 ((eInt .i64).cells p244))⟩) 40 ⟨0, some (.box ((dI 0) :: ((dI 0) :: ((dI 0) :: []))))⟩) 24 ⟨0, some (.box ((dI p243.Flags) :: ((dI p243.Fore) :: ((dI p243.Back) :: []))))⟩)⟩
noncomputable def f122_l4_j7 (a1 : GPen) (a2 : List Int) (p243 : GPen) (p244 : List Int) (p245 : Int) (p246 : Int) (p247 : Int) : Option ((GPen × (List Int) × Int) ⊕ GPen) := ((inR p245 p244.length).bind fun m95 => ((p244[m95]?).bind fun z96 => (bif (decide (z96 = 38)) then (some (.inl ((GPen.mk p243.Flags p246 p243.Back), p244, (IntKind.i64.wrap ((IntKind.i64.wrap (p245 + p247)) + 1))))) else (some (.inl ((GPen.mk p243.Flags p243.Fore p246), p244, (IntKind.i64.wrap ((IntKind.i64.wrap (p245 + p247)) + 1))))))))
theorem f122_l4_j7_ok {d : Nat} (hd : 5 ≤ d) (a1 : GPen) (a2 : List Int) {r : (GPen × (List Int) × Int) ⊕ GPen} {Q : PX → St → Prop} (hQ : ∀ e st', finL (f122_l4_H a1 a2) (f122_l4_X a1 a2) r e st' → Q e st') (p243 : GPen) (p244 : List Int) (p245 : Int) (p246 : Int) (p247 : Int) (hS : f122_l4_j7 a1 a2 p243 p244 p245 p246 p247 = some r) {st : St} (he : keepSt [2, 4, 7, 10, 11, 12] [(24, .id 24), (40, .id 40), (64, .id 64)] [] st = f122_l4_j7_J a1 a2 p243 p244 p245 p246 p247) : ZR (lev codes baseL (d - 1)) Q c122_1 [.blk 3, .seq c122_2] st := by
  refine zrKeep he ?_
  unfold f122_l4_j7 at hS
  refine zrSeq (zrSeq (zrReg (zL 2 2 ?_)))
  refine bindE hS (fun m95 hm95 hS => ?_)
  refine zO (v := (.r (.ptr 64 0 ((0 + m95) * 1)))) (ups := []) (some 78) 3 (.ixS 3 1 (tm 76) (tm 77)) (ev_ixM (kk := .i64) (b := 64) (g := 0) (l := 0) (n := p244.length) (j := p245) (cs := (eInt .i64).cells p244) (by kernel_rfl) (by kernel_rfl) (by kernel_rfl) hm95) ?_
  refine bindE hS (fun z96 hz96 hS => ?_)
  refine zO (v := (dI z96)) (ups := []) (some 79) 4 (.load .false 1 (tm 78)) (ev_loadM (eInt .i64) (b := 64) (g := 0) (o := (0 + m95) * 1) (e := 3) (k := 1) (m := m95) (fo := 0) (xs := p244) (by kernel_rfl) (by kernel_rfl) (by rw [Nat.zero_add]; rfl) hz96 (by kernel_rfl) (by kernel_rfl) (by kernel_rfl)) ?_
  refine zB 80 5 (.cmpI .eql (tm 79) (ki 38)) (decide (z96 = 38)) (fun hc => ?_) (fun hc => ?_)
  · replace hS := cond_t hc hS
    refine zE (zkSeq (zT (zrReg (zL 3 3 (zE (zkSeq (zrReg (zL 4 4 (zE ?_)))))))))
    refine zkBlk ?_
    refine zkSeq (zrReg (zL 3 3 (zE ?_)))
    refine zkNil ?_
    exact endQ hS hQ (finL_n (by show keepSt _ _ _ _ = _; kernel_rfl))
  · replace hS := cond_f hc hS
    refine zE (zkSeq (zF (zrReg (zL 3 3 (zE (zkSeq (zrReg (zL 4 4 (zE ?_)))))))))
    refine zkBlk ?_
    refine zkSeq (zrReg (zL 3 3 (zE ?_)))
    refine zkNil ?_
    exact endQ hS hQ (finL_n (by show keepSt _ _ _ _ = _; kernel_rfl))
def f122_l4_j6_J (a1 : GPen) (a2 : List Int) (p234 : GPen) (p235 : List Int) (p236 : Int) : St := ⟨(up (up (up (up u0 10 (dI p236)) 7 (.r (.msl 64 0 0 p235.length))) 4 (pt 40)) 2 (pt 24)), (up (up (up h0 64 ⟨0, some (.own 3 1 ((eInt .i64).cells p235))⟩) 40 ⟨0, some (.box ((dI 0) :: ((dI 0) :: ((dI 0) :: []))))⟩) 24 ⟨0, some (.box ((dI p234.Flags) :: ((dI p234.Fore) :: ((dI p234.Back) :: []))))⟩)⟩
noncomputable def f122_l4_j6 (a1 : GPen) (a2 : List Int) (p234 : GPen) (p235 : List Int) (p236 : Int) : Option ((GPen × (List Int) × Int) ⊕ GPen) := ((chk (decide (0 ≤ (IntKind.i64.wrap (p236 + 1))) && decide ((IntKind.i64.wrap (p236 + 1)) ≤ (p235.length : Int)) && decide ((p235.length : Int) ≤ (p235.length : Int)))).bind fun z90 => ((part? p235 (((IntKind.i64.wrap (p236 + 1)) : Int).toNat) (((p235.length : Int) : Int).toNat - ((IntKind.i64.wrap (p236 + 1)) : Int).toNat)).bind fun z91 => ((f130 z91).bind fun z92 => (bif (decide (z92.2 = 0)) then (some (.inr p234)) else (f122_l4_j7 a1 a2 p234 p235 p236 z92.1 z92.2)))))
theorem f122_l4_j6_ok {d : Nat} (hd : 5 ≤ d) (a1 : GPen) (a2 : List Int) {r : (GPen × (List Int) × Int) ⊕ GPen} {Q : PX → St → Prop} (hQ : ∀ e st', finL (f122_l4_H a1 a2) (f122_l4_X a1 a2) r e st' → Q e st') (p234 : GPen) (p235 : List Int) (p236 : Int) (hS : f122_l4_j6 a1 a2 p234 p235 p236 = some r) {st : St} (he : keepSt [2, 4, 7, 10] [(24, .id 24), (40, .id 40), (64, .id 64)] [] st = f122_l4_j6_J a1 a2 p234 p235 p236) : ZR (lev codes baseL (d - 1)) Q c122_3 [.blk 3, .seq c122_2] st := by
  refine zrKeep he ?_
  unfold f122_l4_j6 at hS
  refine zrSeq (zrReg (zL 3 3 ?_))
  refine bindE hS (fun z90 hz90 hS => ?_)
  refine zO (v := (.r (.msl 64 0 (((IntKind.i64.wrap (p236 + 1)) : Int).toNat) (((p235.length : Int) : Int).toNat - ((IntKind.i64.wrap (p236 + 1)) : Int).toNat)))) (ups := []) (some 70) 4 (.slS 3 1 (tm 67) (.some (tm 69)) .none) (ev_slM (b := 64) (g := 0) (e := 3) (a := (IntKind.i64.wrap (p236 + 1))) (c := (p235.length : Int)) (l := 0) (n := p235.length) (l' := (((IntKind.i64.wrap (p236 + 1)) : Int).toNat)) (n' := (((p235.length : Int) : Int).toNat - ((IntKind.i64.wrap (p236 + 1)) : Int).toNat)) (cs := (eInt .i64).cells p235) (by kernel_rfl) (by kernel_rfl) (bnd_s _ (kk := .i64) (j := (IntKind.i64.wrap (p236 + 1))) (by kernel_rfl)) (bnd_n _) hz90 (by simp) rfl) ?_
  refine bindE hS (fun z91 hz91 hS => ?_)
  refine bindE hS (fun z92 hz92 hS => ?_)
  refine zO (some 71) 5 (.call 130 [(tm 70)]) (ev_callB (args := [(.r (.msl 64 0 (((IntKind.i64.wrap (p236 + 1)) : Int).toNat) (((p235.length : Int) : Int).toNat - ((IntKind.i64.wrap (p236 + 1)) : Int).toNat)))]) (by kernel_rfl) (l_cons (l_part (eInt .i64) (e := 3) (k := 1) (xs := p235) (by kernel_rfl) rfl hz91) l_nil) (f130_ok (d - 1) (dpt hd rfl) z91 z92 hz92) (by kernel_rfl) (by kernel_rfl)) ?_
  refine zL 5 10 (zE (zkSeq (zrSeq (zrSeq (zrReg (zL 1 1 ?_))))))
  refine zB 75 2 (.cmpI .eql (tm 74) (ki 0)) (decide (z92.2 = 0)) (fun hc => ?_) (fun hc => ?_)
  · replace hS := cond_t hc hS
    refine zE (zkSeq (zT ?_))
    refine zrKeep (J := f122_l4_e2_J a1 a2 p234) (by kernel_rfl) ?_
    refine zrExit ?_
    refine zkSeqX ?_
    refine zkBlkY rfl ?_
    refine zkSeqX ?_
    refine zkNil ?_
    exact endQ hS hQ (finL_x (by intro h; cases h) (by show _ = _ ∧ _ = _; exact ⟨rfl, rfl⟩))
  · replace hS := cond_f hc hS
    refine zE (zkSeq (zF ?_))
    refine zrSkip ?_
    refine zkSeq ?_
    exact f122_l4_j7_ok hd a1 a2 hQ p234 p235 p236 z92.1 z92.2 hS (by kernel_rfl)
def f122_l4_j8_J (a1 : GPen) (a2 : List Int) (p251 : GPen) (p252 : List Int) (p253 : Int) : St := ⟨(up (up (up (up u0 10 (dI p253)) 7 (.r (.msl 64 0 0 p252.length))) 4 (pt 40)) 2 (pt 24)), (up (up (up h0 64 ⟨0, some (.own 3 1 ((eInt .i64).cells p252))⟩) 40 ⟨0, some (.box ((dI 0) :: ((dI 0) :: ((dI 0) :: []))))⟩) 24 ⟨0, some (.box ((dI p251.Flags) :: ((dI p251.Fore) :: ((dI p251.Back) :: []))))⟩)⟩
noncomputable def f122_l4_j8 (a1 : GPen) (a2 : List Int) (p251 : GPen) (p252 : List Int) (p253 : Int) : Option ((GPen × (List Int) × Int) ⊕ GPen) := (f122_l4_j6 a1 a2 p251 p252 p253)
theorem f122_l4_j8_ok {d : Nat} (hd : 5 ≤ d) (a1 : GPen) (a2 : List Int) {r : (GPen × (List Int) × Int) ⊕ GPen} {Q : PX → St → Prop} (hQ : ∀ e st', finL (f122_l4_H a1 a2) (f122_l4_X a1 a2) r e st' → Q e st') (p251 : GPen) (p252 : List Int) (p253 : Int) (hS : f122_l4_j8 a1 a2 p251 p252 p253 = some r) {st : St} (he : keepSt [2, 4, 7, 10] [(24, .id 24), (40, .id 40), (64, .id 64)] [] st = f122_l4_j8_J a1 a2 p251 p252 p253) : ZR (lev codes baseL (d - 1)) Q c122_4 [.seq c122_3, .blk 3, .seq c122_2] st := by
  refine zrKeep he ?_
  unfold f122_l4_j8 at hS
  refine zrSkip ?_
  refine zkSeq ?_
  exact f122_l4_j6_ok hd a1 a2 hQ p251 p252 p253 hS (by kernel_rfl)
def f122_l4_j5_J (a1 : GPen) (a2 : List Int) (p220 : GPen) (p221 : List Int) (p222 : Int) : St := ⟨(up (up (up (up u0 10 (dI p222)) 7 (.r (.msl 64 0 0 p221.length))) 4 (pt 40)) 2 (pt 24)), (up (up (up h0 64 ⟨0, some (.own 3 1 ((eInt .i64).cells p221))⟩) 40 ⟨0, some (.box ((dI 0) :: ((dI 0) :: ((dI 0) :: []))))⟩) 24 ⟨0, some (.box ((dI p220.Flags) :: ((dI p220.Fore) :: ((dI p220.Back) :: []))))⟩)⟩
noncomputable def f122_l4_j5 (a1 : GPen) (a2 : List Int) (p220 : GPen) (p221 : List Int) (p222 : Int) : Option ((GPen × (List Int) × Int) ⊕ GPen) := ((inR p222 p221.length).bind fun m101 => ((p221[m101]?).bind fun z102 => (bif (!decide (z102 = 38)) then ((inR p222 p221.length).bind fun m103 => ((p221[m103]?).bind fun z104 => (bif (!decide (z104 = 48)) then ((inR p222 p221.length).bind fun m105 => ((p221[m105]?).bind fun z106 => ((f129 z106 p220).bind fun z107 => (some (.inl (z107, p221, (IntKind.i64.wrap (p222 + 1)))))))) else (f122_l4_j8 a1 a2 p220 p221 p222)))) else (f122_l4_j8 a1 a2 p220 p221 p222))))
theorem f122_l4_j5_ok {d : Nat} (hd : 5 ≤ d) (a1 : GPen) (a2 : List Int) {r : (GPen × (List Int) × Int) ⊕ GPen} {Q : PX → St → Prop} (hQ : ∀ e st', finL (f122_l4_H a1 a2) (f122_l4_X a1 a2) r e st' → Q e st') (p220 : GPen) (p221 : List Int) (p222 : Int) (hS : f122_l4_j5 a1 a2 p220 p221 p222 = some r) {st : St} (he : keepSt [2, 4, 7, 10] [(24, .id 24), (40, .id 40), (64, .id 64)] [] st = f122_l4_j5_J a1 a2 p220 p221 p222) : ZR (lev codes baseL (d - 1)) Q c122_5 [] st := by
  refine zrKeep he ?_
  unfold f122_l4_j5 at hS
  refine zrSeq ?_
  refine zrBlk ?_
  refine zrSeq (zrSeq (zrReg (zL 2 2 ?_)))
  refine bindE hS (fun m101 hm101 hS => ?_)
  refine zO (v := (.r (.ptr 64 0 ((0 + m101) * 1)))) (ups := []) (some 51) 3 (.ixS 3 1 (tm 49) (tm 50)) (ev_ixM (kk := .i64) (b := 64) (g := 0) (l := 0) (n := p221.length) (j := p222) (cs := (eInt .i64).cells p221) (by kernel_rfl) (by kernel_rfl) (by kernel_rfl) hm101) ?_
  refine bindE hS (fun z102 hz102 hS => ?_)
  refine zO (v := (dI z102)) (ups := []) (some 52) 4 (.load .false 1 (tm 51)) (ev_loadM (eInt .i64) (b := 64) (g := 0) (o := (0 + m101) * 1) (e := 3) (k := 1) (m := m101) (fo := 0) (xs := p221) (by kernel_rfl) (by kernel_rfl) (by rw [Nat.zero_add]; rfl) hz102 (by kernel_rfl) (by kernel_rfl) (by kernel_rfl)) ?_
  refine zB 53 5 (.cmpI .neq (tm 52) (ki 38)) (!decide (z102 = 38)) (fun hc => ?_) (fun hc => ?_)
  · replace hS := cond_t hc hS
    refine zL 3 8 ?_
    refine bindE hS (fun m103 hm103 hS => ?_)
    refine zlOp (d := some 57) (op := (.ixS 3 1 (tm 55) (tm 56))) (g := (some (54, true))) (v := (.r (.ptr 64 0 ((0 + m103) * 1)))) (ups := []) (j := 9) rfl (by kernel_rfl) (by kernel_rfl) (ev_ixM (kk := .i64) (b := 64) (g := 0) (l := 0) (n := p221.length) (j := p222) (cs := (eInt .i64).cells p221) (by kernel_rfl) (by kernel_rfl) (by kernel_rfl) hm103) ?_
    refine bindE hS (fun z104 hz104 hS => ?_)
    refine zlOp (d := some 58) (op := (.load .false 1 (tm 57))) (g := (some (54, true))) (v := (dI z104)) (ups := []) (j := 10) rfl (by kernel_rfl) (by kernel_rfl) (ev_loadM (eInt .i64) (b := 64) (g := 0) (o := (0 + m103) * 1) (e := 3) (k := 1) (m := m103) (fo := 0) (xs := p221) (by kernel_rfl) (by kernel_rfl) (by rw [Nat.zero_add]; rfl) hz104 (by kernel_rfl) (by kernel_rfl) (by kernel_rfl)) ?_
    refine zlBool (d := 59) (op := (.cmpI .neq (tm 58) (ki 48))) (g := (some (54, true))) (j := 11) (!decide (z104 = 48)) rfl (by kernel_rfl) (by kernel_rfl) (by kernel_rfl) (fun hc => ?_) (fun hc => ?_)
    · replace hS := cond_t hc hS
      refine zL 1 12 (zE (zkSeq (zT (zrSeq (zrReg (zL 2 2 ?_))))))
      refine bindE hS (fun m105 hm105 hS => ?_)
      refine zO (v := (.r (.ptr 64 0 ((0 + m105) * 1)))) (ups := []) (some 63) 3 (.ixS 3 1 (tm 61) (tm 62)) (ev_ixM (kk := .i64) (b := 64) (g := 0) (l := 0) (n := p221.length) (j := p222) (cs := (eInt .i64).cells p221) (by kernel_rfl) (by kernel_rfl) (by kernel_rfl) hm105) ?_
      refine bindE hS (fun z106 hz106 hS => ?_)
      refine zO (v := (dI z106)) (ups := []) (some 64) 4 (.load .false 1 (tm 63)) (ev_loadM (eInt .i64) (b := 64) (g := 0) (o := (0 + m105) * 1) (e := 3) (k := 1) (m := m105) (fo := 0) (xs := p221) (by kernel_rfl) (by kernel_rfl) (by rw [Nat.zero_add]; rfl) hz106 (by kernel_rfl) (by kernel_rfl) (by kernel_rfl)) ?_
      refine bindE hS (fun z107 hz107 hS => ?_)
      refine zO (some 65) 5 (.callr 129 [(tm 2), (tm 64)]) (ev_callrA (ids := [24]) (by kernel_rfl) (by kernel_rfl) (by kernel_rfl) (f129_ok (d - 1) (dpt hd rfl) z106 p220 z107 hz107) (by kernel_rfl)) ?_
      refine zE (zkSeq ?_)
      refine zrExit ?_
      refine zkSeqX ?_
      refine zkBlkX ?_
      refine zkSeq (zrReg (zL 3 3 (zE ?_)))
      refine zkNil ?_
      exact endQ hS hQ (finL_n (by show keepSt _ _ _ _ = _; kernel_rfl))
    · replace hS := cond_f hc hS
      refine zL 1 12 (zE (zkSeq (zF ?_)))
      exact f122_l4_j8_ok hd a1 a2 hQ p220 p221 p222 hS (by kernel_rfl)
  · replace hS := cond_f hc hS
    refine zL 7 12 (zE (zkSeq (zF ?_)))
    exact f122_l4_j8_ok hd a1 a2 hQ p220 p221 p222 hS (by kernel_rfl)
noncomputable def f122_l4 (a1 : GPen) (a2 : List Int) (x : GPen × (List Int) × Int) : Option ((GPen × (List Int) × Int) ⊕ GPen) := (bif (decide (x.2.2 < (x.2.1.length : Int))) then (f122_l4_j5 a1 a2 x.1 x.2.1 x.2.2) else (some (.inr x.1)))
theorem f122_l4_ok {d : Nat} (hd : 5 ≤ d) (a1 : GPen) (a2 : List Int) {r : (GPen × (List Int) × Int) ⊕ GPen} {Q : PX → St → Prop} (hQ : ∀ e st', finL (f122_l4_H a1 a2) (f122_l4_X a1 a2) r e st' → Q e st') {x : GPen × (List Int) × Int} (hS : f122_l4 a1 a2 x = some r) {st : St} (he : f122_l4_H a1 a2 x st) : ZR (lev codes baseL (d - 1)) Q c122_6 [] st := by
  refine zrKeep he ?_
  unfold f122_l4 at hS
  refine zrSeq (zrSeq (zrReg (zL 3 3 ?_)))
  refine zB 46 4 (.cmpI .lss (tm 43) (tm 45)) (decide (x.2.2 < (x.2.1.length : Int))) (fun hc => ?_) (fun hc => ?_)
  · replace hS := cond_t hc hS
    refine zE (zkSeq (zT ?_))
    refine zrSkip ?_
    refine zkSeq ?_
    exact f122_l4_j5_ok hd a1 a2 hQ x.1 x.2.1 x.2.2 hS (by kernel_rfl)
  · replace hS := cond_f hc hS
    refine zE (zkSeq (zF ?_))
    refine zrKeep (J := f122_l4_e2_J a1 a2 x.1) (by kernel_rfl) ?_
    refine zrExit ?_
    refine zkSeqX ?_
    refine zkNil ?_
    exact endQ hS hQ (finL_x (by intro h; cases h) (by show _ = _ ∧ _ = _; exact ⟨rfl, rfl⟩))
def f122_j3_J (a1 : GPen) (a2 : List Int) (p119 : List Int) : St := ⟨(up (up (up u0 7 (.r (.msl 64 0 0 p119.length))) 4 (pt 40)) 2 (pt 24)), (up (up (up h0 64 ⟨0, some (.own 3 1 ((eInt .i64).cells p119))⟩) 40 ⟨0, some (.box ((dI 0) :: ((dI 0) :: ((dI 0) :: []))))⟩) 24 ⟨0, some (.box ((dI a1.Flags) :: ((dI a1.Fore) :: ((dI a1.Back) :: []))))⟩)⟩
noncomputable def f122_j3 (a1 : GPen) (a2 : List Int) (p119 : List Int) : Option (GPen × Int) := ((loopO (f122_l4 a1 a2) (a1, p119, 0)).bind fun z108 => (some (z108, 0)))
theorem f122_j3_ok {d : Nat} (hd : 5 ≤ d) (a1 : GPen) (a2 : List Int) {r : GPen × Int} {Q : PX → St → Prop} (hQ : ∀ e st', f122_Q r e st' → Q e st') (p119 : List Int) (hS : f122_j3 a1 a2 p119 = some r) {st : St} (he : keepSt [2, 4, 7] [(24, .id 24), (40, .id 40), (64, .id 64)] [] st = f122_j3_J a1 a2 p119) : ZR (lev codes baseL (d - 1)) Q c122_7 [] st := by
  refine zrKeep he ?_
  unfold f122_j3 at hS
  refine zrSeq (zrSeq (zrReg (zL 1 1 (zE (zkSeq ?_)))))
  refine zrBlk ?_
  refine bindE hS (fun z108 hz108 hS => ?_)
  refine zrLoop (f122_l4_H a1 a2) (f122_l4_X a1 a2) (fun x st r Q h0 hS hQ => f122_l4_ok hd a1 a2 hQ hS h0) (x := (a1, p119, 0)) (z := z108) (by show keepSt _ _ _ _ = _; kernel_rfl) hz108 ?_
  intro e st' _ hX
  obtain ⟨rfl, rfl⟩ : _ ∧ _ := hX
  refine zkBlkX ?_
  refine zkSeq (zrSeq (zrReg (zL 3 3 (zE (zkSeq ?_)))))
  refine zrRet ?_
  refine zkNil ?_
  exact endQ hS hQ (fR (f122_out z108 0))
def f122_l9_J (a1 : GPen) (a2 : List Int) (x : (List Int) × Int) : St := ⟨(up (up (up (up (up (up u0 33 (dI x.2)) 32 (dI (a2.length : Int))) 31 (.d (.sl a2.length ((eInt .i64).cells a2)))) 7 (.r (.msl 64 0 0 x.1.length))) 4 (pt 40)) 2 (pt 24)), (up (up (up h0 64 ⟨0, some (.own 3 1 ((eInt .i64).cells x.1))⟩) 40 ⟨0, some (.box ((dI 0) :: ((dI 0) :: ((dI 0) :: []))))⟩) 24 ⟨0, some (.box ((dI a1.Flags) :: ((dI a1.Fore) :: ((dI a1.Back) :: []))))⟩)⟩
def f122_l9_H (a1 : GPen) (a2 : List Int) (x : (List Int) × Int) (st : St) : Prop := keepSt [2, 4, 7, 31, 32, 33] [(24, .id 24), (40, .id 40), (64, .id 64)] [] st = f122_l9_J a1 a2 x
def f122_l9_e0_J (a1 : GPen) (a2 : List Int) (p16 : List Int) : St := ⟨(up (up (up u0 7 (.r (.msl 64 0 0 p16.length))) 4 (pt 40)) 2 (pt 24)), (up (up (up h0 64 ⟨0, some (.own 3 1 ((eInt .i64).cells p16))⟩) 40 ⟨0, some (.box ((dI 0) :: ((dI 0) :: ((dI 0) :: []))))⟩) 24 ⟨0, some (.box ((dI a1.Flags) :: ((dI a1.Fore) :: ((dI a1.Back) :: []))))⟩)⟩
def f122_l9_X (a1 : GPen) (a2 : List Int) (z : ((List Int))) (e : PX) (st : St) : Prop := e = .exit 0 ∧ st = f122_l9_e0_J a1 a2 z
def f122_l9_j11_J (a1 : GPen) (a2 : List Int) (p260 : List Int) (p261 : Int) : St := ⟨(up (up (up (up (up (up u0 33 (dI p261)) 32 (dI (a2.length : Int))) 31 (.d (.sl a2.length ((eInt .i64).cells a2)))) 7 (.r (.msl 64 0 0 p260.length))) 4 (pt 40)) 2 (pt 24)), (up (up (up h0 64 ⟨0, some (.own 3 1 ((eInt .i64).cells p260))⟩) 40 ⟨0, some (.box ((dI 0) :: ((dI 0) :: ((dI 0) :: []))))⟩) 24 ⟨0, some (.box ((dI a1.Flags) :: ((dI a1.Fore) :: ((dI a1.Back) :: []))))⟩)⟩
noncomputable def f122_l9_j11 (a1 : GPen) (a2 : List Int) (p260 : List Int) (p261 : Int) : Option (((List Int) × Int) ⊕ (((List Int)))) := ((idx a2 p261).bind fun z109 => ((app? 8 p260 ([(if 0 > z109 then 0 else z109)] : List Int)).bind fun z110 => (some (.inl (z110, (IntKind.i64.wrap (p261 + 1)))))))
theorem f122_l9_j11_ok {d : Nat} (hd : 5 ≤ d) (a1 : GPen) (a2 : List Int) {r : ((List Int) × Int) ⊕ (((List Int)))} {Q : PX → St → Prop} (hQ : ∀ e st', finL (f122_l9_H a1 a2) (f122_l9_X a1 a2) r e st' → Q e st') (p260 : List Int) (p261 : Int) (hS : f122_l9_j11 a1 a2 p260 p261 = some r) {st : St} (he : keepSt [2, 4, 7, 31, 32, 33] [(24, .id 24), (40, .id 40), (64, .id 64)] [] st = f122_l9_j11_J a1 a2 p260 p261) : ZR (lev codes baseL (d - 1)) Q c122_8 [] st := by
  refine zrKeep he ?_
  unfold f122_l9_j11 at hS
  refine zrSeq ?_
  refine zrBlk ?_
  refine zrSeq (zrReg ?_)
  refine bindE hS (fun z109 hz109 hS => ?_)
  refine zO (v := (.rptr ((eInt .i64).enc z109 ++ ((eInt .i64).cells (a2.drop ((p261 : Int).toNat + 1)))))) (ups := []) (some 35) 1 (.ixS 3 1 (tm 31) (tm 33)) (ev_ixS (eInt .i64) (kk := .i64) (xs := a2) (j := p261) (by kernel_rfl) (by kernel_rfl) hz109 rfl (by intro h; cases h)) ?_
  refine zL 2 3 (zE (zkSeq (zrReg (zL 4 4 ?_))))
  refine bindE hS (fun z110 hz110 hS => ?_)
  refine zO (v := (.r (.msl 64 1 0 z110.length))) (ups := [(64, ⟨1, some (.own 3 1 ((eInt .i64).cells z110))⟩)]) (some 41) 5 (.app 3 1 8 (tm 37) (tm 40)) (ev_app (eInt .i64) (b := 64) (g := 0) (n := p260.length) (xs := p260) (ys := [(if 0 > z109 then 0 else z109)]) ((congrArg (asL _) (by kernel_rfl : ρof _ (.tmp 40) = (.r (.msl 328 1 0 (([(if 0 > z109 then 0 else z109)] : List Int).length))))).trans (as_whole (eInt .i64) (e := 3) (k := 1) (xs := [(if 0 > z109 then 0 else z109)]) (by kernel_rfl) rfl rfl)) rfl (by kernel_rfl) rfl (by kernel_rfl) rfl hz110) ?_
  refine zL 1 6 (zE ?_)
  refine zkBlk ?_
  refine zkSeq (zrReg (zL 2 2 (zE ?_)))
  refine zkNil ?_
  exact endQ hS hQ (finL_n (by show keepSt _ _ _ _ = _; kernel_rfl))
def f122_l9_j10_J (a1 : GPen) (a2 : List Int) (p257 : List Int) (p258 : Int) (p259 : Bool) : St := ⟨(up (up (up (up (up (up (up u0 34 (dB p259)) 33 (dI p258)) 32 (dI (a2.length : Int))) 31 (.d (.sl a2.length ((eInt .i64).cells a2)))) 7 (.r (.msl 64 0 0 p257.length))) 4 (pt 40)) 2 (pt 24)), (up (up (up h0 64 ⟨0, some (.own 3 1 ((eInt .i64).cells p257))⟩) 40 ⟨0, some (.box ((dI 0) :: ((dI 0) :: ((dI 0) :: []))))⟩) 24 ⟨0, some (.box ((dI a1.Flags) :: ((dI a1.Fore) :: ((dI a1.Back) :: []))))⟩)⟩
noncomputable def f122_l9_j10 (a1 : GPen) (a2 : List Int) (p257 : List Int) (p258 : Int) (p259 : Bool) : Option (((List Int) × Int) ⊕ (((List Int)))) := (bif p259 then (f122_l9_j11 a1 a2 p257 p258) else (some (.inr p257)))
theorem f122_l9_j10_ok {d : Nat} (hd : 5 ≤ d) (a1 : GPen) (a2 : List Int) {r : ((List Int) × Int) ⊕ (((List Int)))} {Q : PX → St → Prop} (hQ : ∀ e st', finL (f122_l9_H a1 a2) (f122_l9_X a1 a2) r e st' → Q e st') (p257 : List Int) (p258 : Int) (p259 : Bool) (hS : f122_l9_j10 a1 a2 p257 p258 p259 = some r) {st : St} (he : keepSt [2, 4, 7, 31, 32, 33, 34] [(24, .id 24), (40, .id 40), (64, .id 64)] [] st = f122_l9_j10_J a1 a2 p257 p258 p259) : ZR (lev codes baseL (d - 1)) Q c122_9 [] st := by
  refine zrKeep he ?_
  unfold f122_l9_j10 at hS
  refine zrSeq ?_
  refine zrSplit 34 p259 (by kernel_rfl) (fun hc => ?_) (fun hc => ?_)
  · replace hS := cond_t hc hS
    refine zT ?_
    refine zrSkip ?_
    refine zkSeq ?_
    exact f122_l9_j11_ok hd a1 a2 hQ p257 p258 hS (by kernel_rfl)
  · replace hS := cond_f hc hS
    refine zF ?_
    refine zrKeep (J := f122_l9_e0_J a1 a2 p257) (by kernel_rfl) ?_
    refine zrExit ?_
    refine zkSeqX ?_
    refine zkNil ?_
    exact endQ hS hQ (finL_x (by intro h; cases h) (by show _ = _ ∧ _ = _; exact ⟨rfl, rfl⟩))
noncomputable def f122_l9 (a1 : GPen) (a2 : List Int) (x : (List Int) × Int) : Option (((List Int) × Int) ⊕ (((List Int)))) := (bif (decide (x.2 < (a2.length : Int))) then (f122_l9_j10 a1 a2 x.1 x.2 true) else (f122_l9_j10 a1 a2 x.1 x.2 false))
theorem f122_l9_ok {d : Nat} (hd : 5 ≤ d) (a1 : GPen) (a2 : List Int) {r : ((List Int) × Int) ⊕ (((List Int)))} {Q : PX → St → Prop} (hQ : ∀ e st', finL (f122_l9_H a1 a2) (f122_l9_X a1 a2) r e st' → Q e st') {x : (List Int) × Int} (hS : f122_l9 a1 a2 x = some r) {st : St} (he : f122_l9_H a1 a2 x st) : ZR (lev codes baseL (d - 1)) Q c122_10 [] st := by
  refine zrKeep he ?_
  unfold f122_l9 at hS
  refine zrSeq (zrReg ?_)
  refine zB 34 1 (.cmpI .lss (tm 33) (tm 32)) (decide (x.2 < (a2.length : Int))) (fun hc => ?_) (fun hc => ?_)
  · replace hS := cond_t hc hS
    refine zE (zkSeq ?_)
    exact f122_l9_j10_ok hd a1 a2 hQ x.1 x.2 true hS (by kernel_rfl)
  · replace hS := cond_f hc hS
    refine zE (zkSeq ?_)
    exact f122_l9_j10_ok hd a1 a2 hQ x.1 x.2 false hS (by kernel_rfl)
def f122_j2_J (a1 : GPen) (a2 : List Int) : St := ⟨(up (up (up u0 4 (pt 40)) 2 (pt 24)) 1 (.d (.sl a2.length ((eInt .i64).cells a2)))), (up (up h0 40 ⟨0, some (.box ((dI 0) :: ((dI 0) :: ((dI 0) :: []))))⟩) 24 ⟨0, some (.box ((dI a1.Flags) :: ((dI a1.Fore) :: ((dI a1.Back) :: []))))⟩)⟩
noncomputable def f122_j2 (a1 : GPen) (a2 : List Int) : Option (GPen × Int) := ((loopO (f122_l9 a1 a2) ([], 0)).bind fun z111 => (f122_j3 a1 a2 z111))
theorem f122_j2_ok {d : Nat} (hd : 5 ≤ d) (a1 : GPen) (a2 : List Int) {r : GPen × Int} {Q : PX → St → Prop} (hQ : ∀ e st', f122_Q r e st' → Q e st')  (hS : f122_j2 a1 a2 = some r) {st : St} (he : keepSt [1, 2, 4] [(24, .id 24), (40, .id 40)] [] st = f122_j2_J a1 a2) : ZR (lev codes baseL (d - 1)) Q c122_11 [] st := by
  refine zrKeep he ?_
  unfold f122_j2 at hS
  refine zrSeq (zrReg (zL 1 1 (zE (zkSeq (zrSeq (zrSeq (zrReg (zL 3 3 (zE (zkSeq ?_))))))))))
  refine zrBlk ?_
  refine bindE hS (fun z111 hz111 hS => ?_)
  refine zrLoop (f122_l9_H a1 a2) (f122_l9_X a1 a2) (fun x st r Q h0 hS hQ => f122_l9_ok hd a1 a2 hQ hS h0) (x := ([], 0)) (z := z111) (by show keepSt _ _ _ _ = _; kernel_rfl) hz111 ?_
  intro e st' _ hX
  obtain ⟨rfl, rfl⟩ : _ ∧ _ := hX
  refine zkBlkX ?_
  refine zkSeq ?_
  exact f122_j3_ok hd a1 a2 hQ z111 hS (by kernel_rfl)
def f122_j1_J (a1 : GPen) (a2 : List Int) : St := ⟨(up (up (up u0 4 (pt 40)) 2 (pt 24)) 1 (.d (.sl a2.length ((eInt .i64).cells a2)))), (up (up h0 40 ⟨0, some (.box ((dI 0) :: ((dI 0) :: ((dI 0) :: []))))⟩) 24 ⟨0, some (.box ((dI a1.Flags) :: ((dI a1.Fore) :: ((dI a1.Back) :: []))))⟩)⟩
noncomputable def f122_j1 (a1 : GPen) (a2 : List Int) : Option (GPen × Int) := (bif (decide (32 < (a2.length : Int))) then (some (a1, 2)) else (f122_j2 a1 a2 ))
theorem f122_j1_ok {d : Nat} (hd : 5 ≤ d) (a1 : GPen) (a2 : List Int) {r : GPen × Int} {Q : PX → St → Prop} (hQ : ∀ e st', f122_Q r e st' → Q e st')  (hS : f122_j1 a1 a2 = some r) {st : St} (he : keepSt [1, 2, 4] [(24, .id 24), (40, .id 40)] [] st = f122_j1_J a1 a2) : ZR (lev codes baseL (d - 1)) Q c122_12 [] st := by
  refine zrKeep he ?_
  unfold f122_j1 at hS
  refine zrSeq (zrSeq (zrReg (zL 2 2 ?_)))
  refine zB 29 3 (.cmpI .gtr (tm 28) (ki 32)) (decide (32 < (a2.length : Int))) (fun hc => ?_) (fun hc => ?_)
  · replace hS := cond_t hc hS
    refine zE (zkSeq (zT (zrSeq (zrReg (zL 3 3 (zE (zkSeq ?_)))))))
    refine zrRet ?_
    refine zkSeqR ?_
    refine zkNil ?_
    exact endQ hS hQ (fR (f122_out a1 2))
  · replace hS := cond_f hc hS
    refine zE (zkSeq (zF ?_))
    refine zrSkip ?_
    refine zkSeq ?_
    exact f122_j2_ok hd a1 a2 hQ  hS (by kernel_rfl)
def f122_j0_J (a1 : GPen) (a2 : List Int) : St := ⟨(up (up (up u0 4 (pt 40)) 2 (pt 24)) 1 (.d (.sl a2.length ((eInt .i64).cells a2)))), (up (up h0 40 ⟨0, some (.box ((dI 0) :: ((dI 0) :: ((dI 0) :: []))))⟩) 24 ⟨0, some (.box ((dI a1.Flags) :: ((dI a1.Fore) :: ((dI a1.Back) :: []))))⟩)⟩
noncomputable def f122_j0 (a1 : GPen) (a2 : List Int) : Option (GPen × Int) := (bif (decide ((a2.length : Int) = 0)) then (some (a1, 1)) else ((f61v1 a2).bind fun z112 => (bif z112 then (some (a1, 1)) else (f122_j1 a1 a2 ))))
theorem f122_j0_ok {d : Nat} (hd : 5 ≤ d) (a1 : GPen) (a2 : List Int) {r : GPen × Int} {Q : PX → St → Prop} (hQ : ∀ e st', f122_Q r e st' → Q e st')  (hS : f122_j0 a1 a2 = some r) {st : St} (he : keepSt [1, 2, 4] [(24, .id 24), (40, .id 40)] [] st = f122_j0_J a1 a2) : ZR (lev codes baseL (d - 1)) Q c122_13 [] st := by
  refine zrKeep he ?_
  unfold f122_j0 at hS
  refine zrSeq (zrSeq (zrReg (zL 2 2 ?_)))
  refine zB 21 3 (.cmpI .eql (tm 20) (ki 0)) (decide ((a2.length : Int) = 0)) (fun hc => ?_) (fun hc => ?_)
  · replace hS := cond_t hc hS
    refine zL 4 7 (zE (zkSeq (zT (zrSeq (zrReg (zL 3 3 (zE (zkSeq ?_))))))))
    refine zrRet ?_
    refine zkSeqR ?_
    refine zkNil ?_
    exact endQ hS hQ (fR (f122_out a1 1))
  · replace hS := cond_f hc hS
    refine zL 2 5 ?_
    refine bindE hS (fun z112 hz112 hS => ?_)
    refine zlOp (d := some 24) (op := (.call 61 [(tm 23), (.func 128)])) (g := (some (22, false))) (j := 6) rfl (by kernel_rfl) (by kernel_rfl) (ev_callA (by kernel_rfl) (f61v1_ok (d - 1) (dpt hd rfl) a2 z112 hz112) (by kernel_rfl) (by kernel_rfl)) ?_
    refine zL 1 7 (zE (zkSeq ?_))
    refine zrSplit 25 z112 (by kernel_rfl) (fun hc => ?_) (fun hc => ?_)
    · replace hS := cond_t hc hS
      refine zT (zrSeq (zrReg (zL 3 3 (zE (zkSeq ?_)))))
      refine zrRet ?_
      refine zkSeqR ?_
      refine zkNil ?_
      exact endQ hS hQ (fR (f122_out a1 1))
    · replace hS := cond_f hc hS
      refine zF ?_
      refine zrSkip ?_
      refine zkSeq ?_
      exact f122_j1_ok hd a1 a2 hQ  hS (by kernel_rfl)
noncomputable def f122 (a1 : GPen) (a2 : List Int) : Option (GPen × Int) := ((f50 a1).bind fun z113 => (bif (!decide (z113 = 0)) then (some (a1, z113)) else (f122_j0 a1 a2 )))
theorem f122_ok (d : Nat) (hd : 5 ≤ d) (a1 : GPen) (a2 : List Int) (r : GPen × Int) (hS : f122 a1 a2 = some r) : lev codes baseL d 122 [(.agg ((dI a1.Flags) :: ((dI a1.Fore) :: ((dI a1.Back) :: [])))), (.d (.sl a2.length ((eInt .i64).cells a2)))] [] = some ((.tup [(.agg ((dI r.1.Flags) :: ((dI r.1.Fore) :: ((dI r.1.Back) :: [])))), (dI r.2)]), []) := by
  refine lev_go codes122 rfl rfl (Nat.le_trans (Nat.le_of_ble_eq_true rfl) hd) fun Q hQ => ?_
  unfold f122 at hS
  show ZR _ Q c122_b [] _
  replace hQ : ∀ e st', f122_Q r e st' → Q e st' := hQ
  refine zrSeq (zrReg (zL 3 3 (zE (zkSeq (zrSeq (zrSeq (zrReg (zL 1 1 ?_))))))))
  refine bindE hS (fun z113 hz113 hS => ?_)
  refine zO (some 14) 2 (.call 50 [(tm 13)]) (ev_callA (by kernel_rfl) (f50_ok (d - 1) (dpt hd rfl) a1 z113 hz113) (by kernel_rfl) (by kernel_rfl)) ?_
  refine zL 1 3 (zE (zkSeq (zrSeq (zrReg (zL 1 1 ?_)))))
  refine zB 16 2 (.cmpI .neq (tm 15) (ki 0)) (!decide (z113 = 0)) (fun hc => ?_) (fun hc => ?_)
  · replace hS := cond_t hc hS
    refine zE (zkSeq (zT (zrSeq (zrReg (zL 4 4 (zE (zkSeq ?_)))))))
    refine zrRet ?_
    refine zkSeqR ?_
    refine zkNil ?_
    exact endQ hS hQ (fR (f122_out a1 z113))
  · replace hS := cond_f hc hS
    refine zE (zkSeq (zF ?_))
    refine zrSkip ?_
    refine zkSeq ?_
    exact f122_j0_ok hd a1 a2 hQ  hS (by kernel_rfl)
/- strconv.Itoa -/
theorem libItoaL_ok (d : Nat) (hd : 0 ≤ d) (a1 : Int) (r : List UInt8) (hS : libItoaL a1 = some r) : lev codes baseL d 131 [(dI a1)] [] = some ((.d (.str r)), []) := lib_call (l := libs) rfl rfl rfl (oiS_ hS) d
/- (*farwriter/screen.terminal).report -/
def f123_fin (p6 : Gterminal) : St := ⟨(up u0 2000000 .un), (gh_Gterminal h0 p6 0 1 2 3)⟩
theorem f123_out (p6 : Gterminal) : outR (f123_fin p6) 4 c123.res = some ((.tup []), (gb_Gterminal p6 1 2 3)) := by
  kernel_rfl
def f123_Q (r : Gterminal) (e : PX) (st : St) : Prop := DoneF c123 4 ((.tup []), [(gx_Gterminal r 1 2 3), (go0_Gterminal r), (go1_Gterminal r), (go2_Gterminal r), .box []]) e st
def f123_j0_J (a1 : Int) (a2 : Gterminal) (p8 : Int) : St := ⟨(up (up (up u0 4 (dI p8)) 1 (dI a1)) 0 (pt 0)), (gh_Gterminal h0 a2 0 1 2 3)⟩
noncomputable def f123_j0 (a1 : Int) (a2 : Gterminal) (p8 : Int) : Option (Gterminal) := (bif (decide (a1 = 5)) then ((cat? a2.sent ([27, 91, 48, 110] : List UInt8)).bind fun z11 => (some (Gterminal.mk a2.Screen z11))) else (bif (decide (a1 = 6)) then ((libItoaL p8).bind fun z12 => ((cat? ([27, 91] : List UInt8) z12).bind fun z13 => ((cat? z13 ([59] : List UInt8)).bind fun z14 => ((libItoaL (IntKind.i64.wrap (a2.Screen.Col + 1))).bind fun z15 => ((cat? z14 z15).bind fun z16 => ((cat? z16 ([82] : List UInt8)).bind fun z17 => ((cat? a2.sent z17).bind fun z18 => (some (Gterminal.mk a2.Screen z18))))))))) else (some a2)))
theorem f123_j0_ok {d : Nat} (hd : 2 ≤ d) (a1 : Int) (a2 : Gterminal) {r : Gterminal} {Q : PX → St → Prop} (hQ : ∀ e st', f123_Q r e st' → Q e st') (p8 : Int) (hS : f123_j0 a1 a2 p8 = some r) {st : St} (he : keepSt [0, 1, 4] [(0, .id 0), (1, .id 1), (2, .id 2), (3, .id 3)] [] st = f123_j0_J a1 a2 p8) : ZR (lev codes baseL (d - 1)) Q c123_1 [] st := by
  refine zrKeep he ?_
  unfold f123_j0 at hS
  refine zrSeq (zrReg (zL 1 1 (zE (zkSeq ?_))))
  refine zrBlk ?_
  refine zrSeq (zrReg ?_)
  refine zB 22 1 (.cmpI .eql (tm 20) (ki 5)) (decide (a1 = 5)) (fun hc => ?_) (fun hc => ?_)
  · replace hS := cond_t hc hS
    refine zL 1 2 (zE (zkSeq (zT (zrReg (zL 4 4 ?_)))))
    refine bindE hS (fun z11 hz11 hS => ?_)
    refine zO (v := (.d (.str z11))) (ups := []) (some 27) 5 (.strO .add (tm 26) (.const (.string ⟨#[27, 91, 48, 110]⟩))) (ev_cat (a := a2.sent) (c := [27, 91, 48, 110]) (by kernel_rfl) (by kernel_rfl) hz11) ?_
    refine zL 3 8 (zE ?_)
    refine zkBlk ?_
    refine zkNil ?_
    exact endQ hS hQ (fNormX (by kernel_rfl) (by kernel_rfl : finSt c123.fin _ = f123_fin (Gterminal.mk a2.Screen z11)) (by kernel_rfl) (f123_out (Gterminal.mk a2.Screen z11)))
  · replace hS := cond_f hc hS
    refine zL 1 2 (zE (zkSeq (zF (zrSeq (zrReg ?_)))))
    refine zB 31 1 (.cmpI .eql (tm 20) (ki 6)) (decide (a1 = 6)) (fun hc => ?_) (fun hc => ?_)
    · replace hS := cond_t hc hS
      refine zL 1 2 (zE (zkSeq (zT ?_)))
      refine zrRegD ?_
      refine zdRun (n := 5) (j := 5) (ts := [[], [], [], [(0, false)], []]) (acc' := [[], [], [], [(0, false)], []]) rfl (by kernel_rfl) (by kernel_rfl) (by kernel_rfl) ?_
      refine bindE hS (fun z12 hz12 hS => ?_)
      refine zdOp (d := some 37) (op := (.call 131 [(tm 36)])) (g := none) (j := 6) (t1 := [(304, true), (305, true), (306, true), (307, true), (308, true), (309, true), (310, true), (311, true)]) (acc' := [[], [], [], [(0, false)], [], [(304, true), (305, true), (306, true), (307, true), (308, true), (309, true), (310, true), (311, true)]]) (by kernel_rfl) (by kernel_rfl) rfl (by kernel_rfl) (by kernel_rfl) (ev_callA (by kernel_rfl) (libItoaL_ok (d - 1) (dpt hd rfl) p8 z12 hz12) (by kernel_rfl) (by kernel_rfl)) ?_
      refine bindE hS (fun z13 hz13 hS => ?_)
      refine zdOp (d := some 38) (op := (.strO .add (.const (.string ⟨#[27, 91]⟩)) (tm 37))) (g := none) (v := (.d (.str z13))) (ups := []) (j := 7) (t1 := []) (acc' := [[], [], [], [(0, false)], [], [(304, true), (305, true), (306, true), (307, true), (308, true), (309, true), (310, true), (311, true)], []]) (by kernel_rfl) (by kernel_rfl) rfl (by kernel_rfl) (by kernel_rfl) (ev_cat (a := [27, 91]) (c := z12) (by kernel_rfl) (by kernel_rfl) hz13) ?_
      refine bindE hS (fun z14 hz14 hS => ?_)
      refine zdOp (d := some 39) (op := (.strO .add (tm 38) (.const (.string ⟨#[59]⟩)))) (g := none) (v := (.d (.str z14))) (ups := []) (j := 8) (t1 := []) (acc' := [[], [], [], [(0, false)], [], [(304, true), (305, true), (306, true), (307, true), (308, true), (309, true), (310, true), (311, true)], [], []]) (by kernel_rfl) (by kernel_rfl) rfl (by kernel_rfl) (by kernel_rfl) (ev_cat (a := z13) (c := [59]) (by kernel_rfl) (by kernel_rfl) hz14) ?_
      refine zdRun (n := 6) (j := 14) (ts := [[], [], [], [], [(0, false)], []]) (acc' := [[], [], [], [(0, false)], [], [(304, true), (305, true), (306, true), (307, true), (308, true), (309, true), (310, true), (311, true)], [], [], [], [], [], [], [(0, false)], []]) rfl (by kernel_rfl) (by kernel_rfl) (by kernel_rfl) ?_
      refine bindE hS (fun z15 hz15 hS => ?_)
      refine zdOp (d := some 46) (op := (.call 131 [(tm 45)])) (g := none) (j := 15) (t1 := [(376, true), (377, true), (378, true), (379, true), (380, true), (381, true), (382, true), (383, true)]) (acc' := [[], [], [], [(0, false)], [], [(304, true), (305, true), (306, true), (307, true), (308, true), (309, true), (310, true), (311, true)], [], [], [], [], [], [], [(0, false)], [], [(376, true), (377, true), (378, true), (379, true), (380, true), (381, true), (382, true), (383, true)]]) (by kernel_rfl) (by kernel_rfl) rfl (by kernel_rfl) (by kernel_rfl) (ev_callA (by kernel_rfl) (libItoaL_ok (d - 1) (dpt hd rfl) (IntKind.i64.wrap (a2.Screen.Col + 1)) z15 hz15) (by kernel_rfl) (by kernel_rfl)) ?_
      refine bindE hS (fun z16 hz16 hS => ?_)
      refine zdOp (d := some 47) (op := (.strO .add (tm 39) (tm 46))) (g := none) (v := (.d (.str z16))) (ups := []) (j := 16) (t1 := []) (acc' := [[], [], [], [(0, false)], [], [(304, true), (305, true), (306, true), (307, true), (308, true), (309, true), (310, true), (311, true)], [], [], [], [], [], [], [(0, false)], [], [(376, true), (377, true), (378, true), (379, true), (380, true), (381, true), (382, true), (383, true)], []]) (by kernel_rfl) (by kernel_rfl) rfl (by kernel_rfl) (by kernel_rfl) (ev_cat (a := z14) (c := z15) (by kernel_rfl) (by kernel_rfl) hz16) ?_
      refine bindE hS (fun z17 hz17 hS => ?_)
      refine zdOp (d := some 48) (op := (.strO .add (tm 47) (.const (.string ⟨#[82]⟩)))) (g := none) (v := (.d (.str z17))) (ups := []) (j := 17) (t1 := []) (acc' := [[], [], [], [(0, false)], [], [(304, true), (305, true), (306, true), (307, true), (308, true), (309, true), (310, true), (311, true)], [], [], [], [], [], [], [(0, false)], [], [(376, true), (377, true), (378, true), (379, true), (380, true), (381, true), (382, true), (383, true)], [], []]) (by kernel_rfl) (by kernel_rfl) rfl (by kernel_rfl) (by kernel_rfl) (ev_cat (a := z16) (c := [82]) (by kernel_rfl) (by kernel_rfl) hz17) ?_
      refine bindE hS (fun z18 hz18 hS => ?_)
      refine zdOp (d := some 49) (op := (.strO .add (tm 35) (tm 48))) (g := none) (v := (.d (.str z18))) (ups := []) (j := 18) (t1 := []) (acc' := [[], [], [], [(0, false)], [], [(304, true), (305, true), (306, true), (307, true), (308, true), (309, true), (310, true), (311, true)], [], [], [], [], [], [], [(0, false)], [], [(376, true), (377, true), (378, true), (379, true), (380, true), (381, true), (382, true), (383, true)], [], [], []]) (by kernel_rfl) (by kernel_rfl) rfl (by kernel_rfl) (by kernel_rfl) (ev_cat (a := a2.sent) (c := z17) (by kernel_rfl) (by kernel_rfl) hz18) ?_
      refine zdRun (n := 3) (j := 21) (ts := [[], [], [(0, true)]]) (acc' := [[], [], [], [(0, false)], [], [(304, true), (305, true), (306, true), (307, true), (308, true), (309, true), (310, true), (311, true)], [], [], [], [], [], [], [(0, false)], [], [(376, true), (377, true), (378, true), (379, true), (380, true), (381, true), (382, true), (383, true)], [], [], [], [], [], [(0, true)]]) rfl (by kernel_rfl) (by kernel_rfl) (by kernel_rfl) ?_
      refine zdEnd (by kernel_rfl) (by kernel_rfl) ?_
      refine zkBlk ?_
      refine zkNil ?_
      exact endQ hS hQ (fNormX (by kernel_rfl) (by kernel_rfl : finSt c123.fin _ = f123_fin (Gterminal.mk a2.Screen z18)) (by kernel_rfl) (f123_out (Gterminal.mk a2.Screen z18)))
    · replace hS := cond_f hc hS
      refine zL 1 2 (zE (zkSeq (zF ?_)))
      refine zrSkip ?_
      refine zkBlk ?_
      refine zkNil ?_
      exact endQ hS hQ (fNormX (by kernel_rfl) (by kernel_rfl : finSt c123.fin _ = f123_fin a2) (by kernel_rfl) (f123_out a2))
noncomputable def f123 (a1 : Int) (a2 : Gterminal) : Option (Gterminal) := ((f88 a2 [] 2).bind fun z19 => (bif z19 then (f123_j0 a1 a2 (IntKind.i64.wrap ((IntKind.i64.wrap (a2.Screen.Row + 1)) - a2.Screen.Top))) else (f123_j0 a1 a2 (IntKind.i64.wrap (a2.Screen.Row + 1)))))
theorem f123_ok (d : Nat) (hd : 2 ≤ d) (a1 : Int) (a2 : Gterminal) (r : Gterminal) (hS : f123 a1 a2 = some r) : lev codes baseL d 123 [(pt 0), (dI a1)] (gb_Gterminal a2 1 2 3) = some ((.tup []), [(gx_Gterminal r 1 2 3), (go0_Gterminal r), (go1_Gterminal r), (go2_Gterminal r), .box []]) := by
  refine lev_go codes123 rfl rfl (Nat.le_trans (Nat.le_of_ble_eq_true rfl) hd) fun Q hQ => ?_
  unfold f123 at hS
  show ZR _ Q c123_b [] _
  replace hQ : ∀ e st', f123_Q r e st' → Q e st' := hQ
  refine zrSeq (zrReg (zL 7 7 (zE (zkSeq (zrSeq (zrSeq (zrReg (zL 1 1 ?_))))))))
  refine bindE hS (fun z19 hz19 hS => ?_)
  refine zO (some 12) 2 (.call 88 [(tm 11), (ki 2)]) (ev_callA (by kernel_rfl) (f88_ok (d - 1) (dpt hd rfl) a2 [] 2 z19 hz19) (by kernel_rfl) (by kernel_rfl)) ?_
  refine zE (zkSeq ?_)
  refine zrSplit 12 z19 (by kernel_rfl) (fun hc => ?_) (fun hc => ?_)
  · replace hS := cond_t hc hS
    refine zT (zrReg (zL 8 8 (zE (zkSeq ?_))))
    exact f123_j0_ok hd a1 a2 hQ (IntKind.i64.wrap ((IntKind.i64.wrap (a2.Screen.Row + 1)) - a2.Screen.Top)) hS (by kernel_rfl)
  · replace hS := cond_f hc hS
    refine zF ?_
    refine zrSkip ?_
    refine zkSeq ?_
    exact f123_j0_ok hd a1 a2 hQ (IntKind.i64.wrap (a2.Screen.Row + 1)) hS (by kernel_rfl)
/- (*farwriter/screen.terminal).other -/
def f104_fin (p68 : Gterminal) : St := ⟨(up (up (up u0 1000003 .un) 1000002 .un) 1000001 .un), (up (up (up (up h0 3 ⟨1, some (go2_Gterminal p68)⟩) 2 ⟨1, some (go1_Gterminal p68)⟩) 1 ⟨1, some (go0_Gterminal p68)⟩) 0 ⟨0, some (.box (bm_Gterminal p68 1 1 2 1 3 1))⟩)⟩
theorem f104_out (p68 : Gterminal) : outR (f104_fin p68) 4 c104.res = some ((.tup []), (gb_Gterminal p68 1 2 3)) := by
  kernel_rfl
def f104_Q (r : Gterminal) (e : PX) (st : St) : Prop := DoneF c104 4 ((.tup []), (gb_Gterminal r 1 2 3)) e st
def f104_l1_J (a1 : GAct) (a2 : Int) (a3 : Int) (a4 : Gterminal) (x : Gterminal × Int) : St := ⟨(up (up (up (up (up (up (up (up u0 1000003 .un) 1000002 .un) 1000001 .un) 51 (dI x.2)) 50 (dI (a1.Args.length : Int))) 49 (.d (.sl a1.Args.length ((eInt .i64).cells a1.Args)))) 5 (pt 48)) 0 (pt 0)), (up (up (up (up (up h0 48 ⟨0, some (.box (bx_GAct a1 (.d (.sl a1.Args.length ((eInt .i64).cells a1.Args)))))⟩) 3 ⟨1, some (go2_Gterminal x.1)⟩) 2 ⟨1, some (go1_Gterminal x.1)⟩) 1 ⟨1, some (go0_Gterminal x.1)⟩) 0 ⟨0, some (.box (bm_Gterminal x.1 1 1 2 1 3 1))⟩)⟩
def f104_l1_H (a1 : GAct) (a2 : Int) (a3 : Int) (a4 : Gterminal) (x : Gterminal × Int) (st : St) : Prop := keepSt [0, 5, 49, 50, 51, 1000001, 1000002, 1000003] [(0, .id 0), (1, .id 1), (2, .id 2), (3, .id 3), (48, .id 48)] [] st = f104_l1_J a1 a2 a3 a4 x
def f104_l1_e2_J (a1 : GAct) (a2 : Int) (a3 : Int) (a4 : Gterminal) (p54 : Gterminal) : St := ⟨(up (up (up u0 1000003 .un) 1000002 .un) 1000001 .un), (up (up (up (up h0 3 ⟨1, some (go2_Gterminal p54)⟩) 2 ⟨1, some (go1_Gterminal p54)⟩) 1 ⟨1, some (go0_Gterminal p54)⟩) 0 ⟨0, some (.box (bm_Gterminal p54 1 1 2 1 3 1))⟩)⟩
def f104_l1_X (a1 : GAct) (a2 : Int) (a3 : Int) (a4 : Gterminal) (z : Gterminal) (e : PX) (st : St) : Prop := e = .exit 2 ∧ st = f104_l1_e2_J a1 a2 a3 a4 z
def f104_l1_j3_J (a1 : GAct) (a2 : Int) (a3 : Int) (a4 : Gterminal) (p78 : Gterminal) (p79 : Int) : St := ⟨(up (up (up (up (up (up (up (up u0 1000003 .un) 1000002 .un) 1000001 .un) 51 (dI p79)) 50 (dI (a1.Args.length : Int))) 49 (.d (.sl a1.Args.length ((eInt .i64).cells a1.Args)))) 5 (pt 48)) 0 (pt 0)), (up (up (up (up (up h0 48 ⟨0, some (.box (bx_GAct a1 (.d (.sl a1.Args.length ((eInt .i64).cells a1.Args)))))⟩) 3 ⟨1, some (go2_Gterminal p78)⟩) 2 ⟨1, some (go1_Gterminal p78)⟩) 1 ⟨1, some (go0_Gterminal p78)⟩) 0 ⟨0, some (.box (bm_Gterminal p78 1 1 2 1 3 1))⟩)⟩
noncomputable def f104_l1_j3 (a1 : GAct) (a2 : Int) (a3 : Int) (a4 : Gterminal) (p78 : Gterminal) (p79 : Int) : Option ((Gterminal × Int) ⊕ Gterminal) := ((idx a1.Args p79).bind fun z65 => (bif (decide (z65 = 4)) then (bif (decide (a1.Code = 104)) then ((f97 1 true p78).bind fun z66 => ((chk (decide (z66.Screen.Past.length = p78.Screen.Past.length))).bind fun z67 => ((chk (decide (z66.Screen.Other.Cells.length = p78.Screen.Other.Cells.length))).bind fun z68 => ((chk (decide (z66.Screen.Grid.Cells.length = p78.Screen.Grid.Cells.length))).bind fun z69 => (some (.inl (z66, (IntKind.i64.wrap (p79 + 1))))))))) else ((f97 1 false p78).bind fun z70 => ((chk (decide (z70.Screen.Past.length = p78.Screen.Past.length))).bind fun z71 => ((chk (decide (z70.Screen.Other.Cells.length = p78.Screen.Other.Cells.length))).bind fun z72 => ((chk (decide (z70.Screen.Grid.Cells.length = p78.Screen.Grid.Cells.length))).bind fun z73 => (some (.inl (z70, (IntKind.i64.wrap (p79 + 1)))))))))) else (bif (decide (z65 = 20)) then (bif (decide (a1.Code = 104)) then ((f97 128 true p78).bind fun z74 => ((chk (decide (z74.Screen.Past.length = p78.Screen.Past.length))).bind fun z75 => ((chk (decide (z74.Screen.Other.Cells.length = p78.Screen.Other.Cells.length))).bind fun z76 => ((chk (decide (z74.Screen.Grid.Cells.length = p78.Screen.Grid.Cells.length))).bind fun z77 => (some (.inl (z74, (IntKind.i64.wrap (p79 + 1))))))))) else ((f97 128 false p78).bind fun z78 => ((chk (decide (z78.Screen.Past.length = p78.Screen.Past.length))).bind fun z79 => ((chk (decide (z78.Screen.Other.Cells.length = p78.Screen.Other.Cells.length))).bind fun z80 => ((chk (decide (z78.Screen.Grid.Cells.length = p78.Screen.Grid.Cells.length))).bind fun z81 => (some (.inl (z78, (IntKind.i64.wrap (p79 + 1)))))))))) else (some (.inl (p78, (IntKind.i64.wrap (p79 + 1))))))))
theorem f104_l1_j3_ok {d : Nat} (hd : 6 ≤ d) (a1 : GAct) (a2 : Int) (a3 : Int) (a4 : Gterminal) {r : (Gterminal × Int) ⊕ Gterminal} {Q : PX → St → Prop} (hQ : ∀ e st', finL (f104_l1_H a1 a2 a3 a4) (f104_l1_X a1 a2 a3 a4) r e st' → Q e st') (p78 : Gterminal) (p79 : Int) (hS : f104_l1_j3 a1 a2 a3 a4 p78 p79 = some r) {st : St} (he : keepSt [0, 5, 49, 50, 51, 1000001, 1000002, 1000003] [(0, .id 0), (1, .id 1), (2, .id 2), (3, .id 3), (48, .id 48)] [] st = f104_l1_j3_J a1 a2 a3 a4 p78 p79) : ZR (lev codes baseL (d - 1)) Q c104_1 [] st := by
  refine zrKeep he ?_
  unfold f104_l1_j3 at hS
  refine zrSeq ?_
  refine zrBlk ?_
  refine zrSeq (zrReg ?_)
  refine bindE hS (fun z65 hz65 hS => ?_)
  refine zO (v := (.rptr ((eInt .i64).enc z65 ++ ((eInt .i64).cells (a1.Args.drop ((p79 : Int).toNat + 1)))))) (ups := []) (some 53) 1 (.ixS 3 1 (tm 49) (tm 51)) (ev_ixS (eInt .i64) (kk := .i64) (xs := a1.Args) (j := p79) (by kernel_rfl) (by kernel_rfl) hz65 rfl (by intro h; cases h)) ?_
  refine zL 2 3 (zE (zkSeq (zrSeq (zrReg (zL 1 1 (zE (zkSeq ?_)))))))
  refine zrBlk ?_
  refine zrSeq (zrReg ?_)
  refine zB 57 1 (.cmpI .eql (tm 55) (ki 4)) (decide (z65 = 4)) (fun hc => ?_) (fun hc => ?_)
  · replace hS := cond_t hc hS
    refine zL 1 2 (zE (zkSeq (zT (zrReg (zL 3 3 ?_)))))
    refine zB 61 4 (.cmpI .eql (tm 60) (ki 104)) (decide (a1.Code = 104)) (fun hc => ?_) (fun hc => ?_)
    · replace hS := cond_t hc hS
      refine bindE hS (fun z66 hz66 hS => ?_)
      refine bindE hS (fun z67 hz67 hS => ?_)
      refine bindE hS (fun z68 hz68 hS => ?_)
      refine bindE hS (fun z69 hz69 hS => ?_)
      refine zO (some 62) 5 (.callr 97 [(tm 58), (ki 1), (tm 61)]) (ev_callrXA (ids := [0, 1, 2, 3]) (bs := [(.box (bm_Gterminal p78 1 1 2 1 3 1)), (go0_Gterminal p78), (go1_Gterminal p78), (go2_Gterminal p78)]) (by kernel_rfl) (by kernel_rfl) (by kernel_rfl) (by kernel_rfl) (f97_ok (d - 1) (dpt hd rfl) 1 true p78 z66 hz66) (by kernel_rfl) (sm_box (cs := (bm_Gterminal p78 1 1 2 1 3 1)) (by kernel_rfl) (sm_own e_GCell (e1 := 58) (k1 := 4) (xs := p78.Screen.Grid.Cells) (ys := z66.Screen.Grid.Cells) (by kernel_rfl) hz69 (sm_own e_GCell (e1 := 58) (k1 := 4) (xs := p78.Screen.Other.Cells) (ys := z66.Screen.Other.Cells) (by kernel_rfl) hz68 (sm_own e_GLine (e1 := 87) (k1 := 1) (xs := p78.Screen.Past) (ys := z66.Screen.Past) (by kernel_rfl) hz67 sm_nil)))) (by kernel_rfl)) ?_
      have lz67 : p78.Screen.Past.length = z66.Screen.Past.length := (of_decide_eq_true (chk_t hz67)).symm
      try delta f104_l1_j3_J
      try rw [lz67]
      have lz68 : p78.Screen.Other.Cells.length = z66.Screen.Other.Cells.length := (of_decide_eq_true (chk_t hz68)).symm
      try delta f104_l1_j3_J
      try rw [lz68]
      have lz69 : p78.Screen.Grid.Cells.length = z66.Screen.Grid.Cells.length := (of_decide_eq_true (chk_t hz69)).symm
      try delta f104_l1_j3_J
      try rw [lz69]
      refine zE ?_
      refine zkBlk ?_
      refine zkBlk ?_
      refine zkSeq (zrReg (zL 2 2 (zE ?_)))
      refine zkNil ?_
      exact endQ hS hQ (finL_n (by show keepSt _ _ _ _ = _; kernel_rfl))
    · replace hS := cond_f hc hS
      refine bindE hS (fun z70 hz70 hS => ?_)
      refine bindE hS (fun z71 hz71 hS => ?_)
      refine bindE hS (fun z72 hz72 hS => ?_)
      refine bindE hS (fun z73 hz73 hS => ?_)
      refine zO (some 62) 5 (.callr 97 [(tm 58), (ki 1), (tm 61)]) (ev_callrXA (ids := [0, 1, 2, 3]) (bs := [(.box (bm_Gterminal p78 1 1 2 1 3 1)), (go0_Gterminal p78), (go1_Gterminal p78), (go2_Gterminal p78)]) (by kernel_rfl) (by kernel_rfl) (by kernel_rfl) (by kernel_rfl) (f97_ok (d - 1) (dpt hd rfl) 1 false p78 z70 hz70) (by kernel_rfl) (sm_box (cs := (bm_Gterminal p78 1 1 2 1 3 1)) (by kernel_rfl) (sm_own e_GCell (e1 := 58) (k1 := 4) (xs := p78.Screen.Grid.Cells) (ys := z70.Screen.Grid.Cells) (by kernel_rfl) hz73 (sm_own e_GCell (e1 := 58) (k1 := 4) (xs := p78.Screen.Other.Cells) (ys := z70.Screen.Other.Cells) (by kernel_rfl) hz72 (sm_own e_GLine (e1 := 87) (k1 := 1) (xs := p78.Screen.Past) (ys := z70.Screen.Past) (by kernel_rfl) hz71 sm_nil)))) (by kernel_rfl)) ?_
      have lz71 : p78.Screen.Past.length = z70.Screen.Past.length := (of_decide_eq_true (chk_t hz71)).symm
      try delta f104_l1_j3_J
      try rw [lz71]
      have lz72 : p78.Screen.Other.Cells.length = z70.Screen.Other.Cells.length := (of_decide_eq_true (chk_t hz72)).symm
      try delta f104_l1_j3_J
      try rw [lz72]
      have lz73 : p78.Screen.Grid.Cells.length = z70.Screen.Grid.Cells.length := (of_decide_eq_true (chk_t hz73)).symm
      try delta f104_l1_j3_J
      try rw [lz73]
      refine zE ?_
      refine zkBlk ?_
      refine zkBlk ?_
      refine zkSeq (zrReg (zL 2 2 (zE ?_)))
      refine zkNil ?_
      exact endQ hS hQ (finL_n (by show keepSt _ _ _ _ = _; kernel_rfl))
  · replace hS := cond_f hc hS
    refine zL 1 2 (zE (zkSeq (zF (zrSeq (zrReg ?_)))))
    refine zB 64 1 (.cmpI .eql (tm 55) (ki 20)) (decide (z65 = 20)) (fun hc => ?_) (fun hc => ?_)
    · replace hS := cond_t hc hS
      refine zL 1 2 (zE (zkSeq (zT (zrReg (zL 3 3 ?_)))))
      refine zB 68 4 (.cmpI .eql (tm 67) (ki 104)) (decide (a1.Code = 104)) (fun hc => ?_) (fun hc => ?_)
      · replace hS := cond_t hc hS
        refine bindE hS (fun z74 hz74 hS => ?_)
        refine bindE hS (fun z75 hz75 hS => ?_)
        refine bindE hS (fun z76 hz76 hS => ?_)
        refine bindE hS (fun z77 hz77 hS => ?_)
        refine zO (some 69) 5 (.callr 97 [(tm 65), (ki 128), (tm 68)]) (ev_callrXA (ids := [0, 1, 2, 3]) (bs := [(.box (bm_Gterminal p78 1 1 2 1 3 1)), (go0_Gterminal p78), (go1_Gterminal p78), (go2_Gterminal p78)]) (by kernel_rfl) (by kernel_rfl) (by kernel_rfl) (by kernel_rfl) (f97_ok (d - 1) (dpt hd rfl) 128 true p78 z74 hz74) (by kernel_rfl) (sm_box (cs := (bm_Gterminal p78 1 1 2 1 3 1)) (by kernel_rfl) (sm_own e_GCell (e1 := 58) (k1 := 4) (xs := p78.Screen.Grid.Cells) (ys := z74.Screen.Grid.Cells) (by kernel_rfl) hz77 (sm_own e_GCell (e1 := 58) (k1 := 4) (xs := p78.Screen.Other.Cells) (ys := z74.Screen.Other.Cells) (by kernel_rfl) hz76 (sm_own e_GLine (e1 := 87) (k1 := 1) (xs := p78.Screen.Past) (ys := z74.Screen.Past) (by kernel_rfl) hz75 sm_nil)))) (by kernel_rfl)) ?_
        have lz75 : p78.Screen.Past.length = z74.Screen.Past.length := (of_decide_eq_true (chk_t hz75)).symm
        try delta f104_l1_j3_J
        try rw [lz75]
        have lz76 : p78.Screen.Other.Cells.length = z74.Screen.Other.Cells.length := (of_decide_eq_true (chk_t hz76)).symm
        try delta f104_l1_j3_J
        try rw [lz76]
        have lz77 : p78.Screen.Grid.Cells.length = z74.Screen.Grid.Cells.length := (of_decide_eq_true (chk_t hz77)).symm
        try delta f104_l1_j3_J
        try rw [lz77]
        refine zE ?_
        refine zkBlk ?_
        refine zkBlk ?_
        refine zkSeq (zrReg (zL 2 2 (zE ?_)))
        refine zkNil ?_
        exact endQ hS hQ (finL_n (by show keepSt _ _ _ _ = _; kernel_rfl))
      · replace hS := cond_f hc hS
        refine bindE hS (fun z78 hz78 hS => ?_)
        refine bindE hS (fun z79 hz79 hS => ?_)
        refine bindE hS (fun z80 hz80 hS => ?_)
        refine bindE hS (fun z81 hz81 hS => ?_)
        refine zO (some 69) 5 (.callr 97 [(tm 65), (ki 128), (tm 68)]) (ev_callrXA (ids := [0, 1, 2, 3]) (bs := [(.box (bm_Gterminal p78 1 1 2 1 3 1)), (go0_Gterminal p78), (go1_Gterminal p78), (go2_Gterminal p78)]) (by kernel_rfl) (by kernel_rfl) (by kernel_rfl) (by kernel_rfl) (f97_ok (d - 1) (dpt hd rfl) 128 false p78 z78 hz78) (by kernel_rfl) (sm_box (cs := (bm_Gterminal p78 1 1 2 1 3 1)) (by kernel_rfl) (sm_own e_GCell (e1 := 58) (k1 := 4) (xs := p78.Screen.Grid.Cells) (ys := z78.Screen.Grid.Cells) (by kernel_rfl) hz81 (sm_own e_GCell (e1 := 58) (k1 := 4) (xs := p78.Screen.Other.Cells) (ys := z78.Screen.Other.Cells) (by kernel_rfl) hz80 (sm_own e_GLine (e1 := 87) (k1 := 1) (xs := p78.Screen.Past) (ys := z78.Screen.Past) (by kernel_rfl) hz79 sm_nil)))) (by kernel_rfl)) ?_
        have lz79 : p78.Screen.Past.length = z78.Screen.Past.length := (of_decide_eq_true (chk_t hz79)).symm
        try delta f104_l1_j3_J
        try rw [lz79]
        have lz80 : p78.Screen.Other.Cells.length = z78.Screen.Other.Cells.length := (of_decide_eq_true (chk_t hz80)).symm
        try delta f104_l1_j3_J
        try rw [lz80]
        have lz81 : p78.Screen.Grid.Cells.length = z78.Screen.Grid.Cells.length := (of_decide_eq_true (chk_t hz81)).symm
        try delta f104_l1_j3_J
        try rw [lz81]
        refine zE ?_
        refine zkBlk ?_
        refine zkBlk ?_
        refine zkSeq (zrReg (zL 2 2 (zE ?_)))
        refine zkNil ?_
        exact endQ hS hQ (finL_n (by show keepSt _ _ _ _ = _; kernel_rfl))
    · replace hS := cond_f hc hS
      refine zL 1 2 (zE (zkSeq (zF ?_)))
      refine zrSkip ?_
      refine zkBlk ?_
      refine zkBlk ?_
      refine zkSeq (zrReg (zL 2 2 (zE ?_)))
      refine zkNil ?_
      exact endQ hS hQ (finL_n (by show keepSt _ _ _ _ = _; kernel_rfl))
def f104_l1_j2_J (a1 : GAct) (a2 : Int) (a3 : Int) (a4 : Gterminal) (p75 : Gterminal) (p76 : Int) (p77 : Bool) : St := ⟨(up (up (up (up (up (up (up (up (up u0 1000003 .un) 1000002 .un) 1000001 .un) 52 (dB p77)) 51 (dI p76)) 50 (dI (a1.Args.length : Int))) 49 (.d (.sl a1.Args.length ((eInt .i64).cells a1.Args)))) 5 (pt 48)) 0 (pt 0)), (up (up (up (up (up h0 48 ⟨0, some (.box (bx_GAct a1 (.d (.sl a1.Args.length ((eInt .i64).cells a1.Args)))))⟩) 3 ⟨1, some (go2_Gterminal p75)⟩) 2 ⟨1, some (go1_Gterminal p75)⟩) 1 ⟨1, some (go0_Gterminal p75)⟩) 0 ⟨0, some (.box (bm_Gterminal p75 1 1 2 1 3 1))⟩)⟩
noncomputable def f104_l1_j2 (a1 : GAct) (a2 : Int) (a3 : Int) (a4 : Gterminal) (p75 : Gterminal) (p76 : Int) (p77 : Bool) : Option ((Gterminal × Int) ⊕ Gterminal) := (bif p77 then (f104_l1_j3 a1 a2 a3 a4 p75 p76) else (some (.inr p75)))
theorem f104_l1_j2_ok {d : Nat} (hd : 6 ≤ d) (a1 : GAct) (a2 : Int) (a3 : Int) (a4 : Gterminal) {r : (Gterminal × Int) ⊕ Gterminal} {Q : PX → St → Prop} (hQ : ∀ e st', finL (f104_l1_H a1 a2 a3 a4) (f104_l1_X a1 a2 a3 a4) r e st' → Q e st') (p75 : Gterminal) (p76 : Int) (p77 : Bool) (hS : f104_l1_j2 a1 a2 a3 a4 p75 p76 p77 = some r) {st : St} (he : keepSt [0, 5, 49, 50, 51, 52, 1000001, 1000002, 1000003] [(0, .id 0), (1, .id 1), (2, .id 2), (3, .id 3), (48, .id 48)] [] st = f104_l1_j2_J a1 a2 a3 a4 p75 p76 p77) : ZR (lev codes baseL (d - 1)) Q c104_2 [] st := by
  refine zrKeep he ?_
  unfold f104_l1_j2 at hS
  refine zrSeq ?_
  refine zrSplit 52 p77 (by kernel_rfl) (fun hc => ?_) (fun hc => ?_)
  · replace hS := cond_t hc hS
    refine zT ?_
    refine zrSkip ?_
    refine zkSeq ?_
    exact f104_l1_j3_ok hd a1 a2 a3 a4 hQ p75 p76 hS (by kernel_rfl)
  · replace hS := cond_f hc hS
    refine zF ?_
    refine zrKeep (J := f104_l1_e2_J a1 a2 a3 a4 p75) (by kernel_rfl) ?_
    refine zrExit ?_
    refine zkSeqX ?_
    refine zkNil ?_
    exact endQ hS hQ (finL_x (by intro h; cases h) (by show _ = _ ∧ _ = _; exact ⟨rfl, rfl⟩))
noncomputable def f104_l1 (a1 : GAct) (a2 : Int) (a3 : Int) (a4 : Gterminal) (x : Gterminal × Int) : Option ((Gterminal × Int) ⊕ Gterminal) := (bif (decide (x.2 < (a1.Args.length : Int))) then (f104_l1_j2 a1 a2 a3 a4 x.1 x.2 true) else (f104_l1_j2 a1 a2 a3 a4 x.1 x.2 false))
theorem f104_l1_ok {d : Nat} (hd : 6 ≤ d) (a1 : GAct) (a2 : Int) (a3 : Int) (a4 : Gterminal) {r : (Gterminal × Int) ⊕ Gterminal} {Q : PX → St → Prop} (hQ : ∀ e st', finL (f104_l1_H a1 a2 a3 a4) (f104_l1_X a1 a2 a3 a4) r e st' → Q e st') {x : Gterminal × Int} (hS : f104_l1 a1 a2 a3 a4 x = some r) {st : St} (he : f104_l1_H a1 a2 a3 a4 x st) : ZR (lev codes baseL (d - 1)) Q c104_3 [] st := by
  refine zrKeep he ?_
  unfold f104_l1 at hS
  refine zrSeq (zrReg ?_)
  refine zB 52 1 (.cmpI .lss (tm 51) (tm 50)) (decide (x.2 < (a1.Args.length : Int))) (fun hc => ?_) (fun hc => ?_)
  · replace hS := cond_t hc hS
    refine zE (zkSeq ?_)
    exact f104_l1_j2_ok hd a1 a2 a3 a4 hQ x.1 x.2 true hS (by kernel_rfl)
  · replace hS := cond_f hc hS
    refine zE (zkSeq ?_)
    exact f104_l1_j2_ok hd a1 a2 a3 a4 hQ x.1 x.2 false hS (by kernel_rfl)
def f104_j4_J (a1 : GAct) (a2 : Int) (a3 : Int) (a4 : Gterminal) (p84 : Int) : St := ⟨(up (up (up (up (up (up u0 1000003 .un) 1000002 .un) 1000001 .un) 12 (dI p84)) 2 (dI a2)) 0 (pt 0)), (up (up (up (up h0 3 ⟨1, some (go2_Gterminal a4)⟩) 2 ⟨1, some (go1_Gterminal a4)⟩) 1 ⟨1, some (go0_Gterminal a4)⟩) 0 ⟨0, some (.box (bm_Gterminal a4 1 1 2 1 3 1))⟩)⟩
noncomputable def f104_j4 (a1 : GAct) (a2 : Int) (a3 : Int) (a4 : Gterminal) (p84 : Int) : Option (Gterminal) := (bif (decide (a2 < p84)) then ((f118 0 0 (Gterminal.mk ({ a4.Screen with Top := (IntKind.i64.wrap (a2 - 1)), Bottom := p84 }) a4.sent)).bind fun z85 => ((chk (decide (z85.Screen.Past.length = a4.Screen.Past.length))).bind fun z86 => ((chk (decide (z85.Screen.Other.Cells.length = a4.Screen.Other.Cells.length))).bind fun z87 => ((chk (decide (z85.Screen.Grid.Cells.length = a4.Screen.Grid.Cells.length))).bind fun z88 => (some z85))))) else (some a4))
theorem f104_j4_ok {d : Nat} (hd : 6 ≤ d) (a1 : GAct) (a2 : Int) (a3 : Int) (a4 : Gterminal) {r : Gterminal} {Q : PX → St → Prop} (hQ : ∀ e st', f104_Q r e st' → Q e st') (p84 : Int) (hS : f104_j4 a1 a2 a3 a4 p84 = some r) {st : St} (he : keepSt [0, 2, 12, 1000001, 1000002, 1000003] [(0, .id 0), (1, .id 1), (2, .id 2), (3, .id 3)] [] st = f104_j4_J a1 a2 a3 a4 p84) : ZR (lev codes baseL (d - 1)) Q c104_4 [.blk 0] st := by
  refine zrKeep he ?_
  unfold f104_j4 at hS
  refine zrSeq (zrReg (zL 2 2 ?_))
  refine zB 116 3 (.cmpI .lss (tm 114) (tm 115)) (decide (a2 < p84)) (fun hc => ?_) (fun hc => ?_)
  · replace hS := cond_t hc hS
    refine zE (zkSeq (zT (zrSeq (zrReg (zL 13 13 (zE (zkSeq (zrReg (zL 1 1 ?_)))))))))
    refine bindE hS (fun z85 hz85 hS => ?_)
    refine bindE hS (fun z86 hz86 hS => ?_)
    refine bindE hS (fun z87 hz87 hS => ?_)
    refine bindE hS (fun z88 hz88 hS => ?_)
    refine zO (some 129) 2 (.callr 118 [(tm 128), (ki 0), (ki 0)]) (ev_callrXA (ids := [0, 1, 2, 3]) (bs := [(.box (bx_Gterminal (Gterminal.mk ({ a4.Screen with Top := (IntKind.i64.wrap (a2 - 1)), Bottom := p84 }) a4.sent) (.r (.msl 1 1 0 a4.Screen.Grid.Cells.length)) (.r (.msl 2 1 0 a4.Screen.Other.Cells.length)) (.r (.msl 3 1 0 a4.Screen.Past.length)))), (go0_Gterminal a4), (go1_Gterminal a4), (go2_Gterminal a4)]) (by kernel_rfl) (by kernel_rfl) (by kernel_rfl) (by kernel_rfl) (f118_ok (d - 1) (dpt hd rfl) 0 0 (Gterminal.mk ({ a4.Screen with Top := (IntKind.i64.wrap (a2 - 1)), Bottom := p84 }) a4.sent) z85 hz85) (by kernel_rfl) (sm_box (cs := ((dI a4.Screen.Grid.Wide) :: ((dI a4.Screen.Grid.High) :: ((.r (.msl 1 1 0 a4.Screen.Grid.Cells.length)) :: ((dI a4.Screen.Row) :: ((dI a4.Screen.Col) :: ((dB a4.Screen.Late) :: ((dI (IntKind.i64.wrap (a2 - 1))) :: ((dI p84) :: ((dI a4.Screen.Pen.Flags) :: ((dI a4.Screen.Pen.Fore) :: ((dI a4.Screen.Pen.Back) :: ((dI a4.Screen.Modes) :: (((eInt .u64).row 4 a4.Screen.Stops.Bits) ++ ((dI a4.Screen.Pages.1) :: ((dI a4.Screen.Pages.2) :: ((dI a4.Screen.Shift) :: ((dI a4.Screen.Saved.Row) :: ((dI a4.Screen.Saved.Col) :: ((dI a4.Screen.Saved.Pen.Flags) :: ((dI a4.Screen.Saved.Pen.Fore) :: ((dI a4.Screen.Saved.Pen.Back) :: ((dB a4.Screen.Saved.Origin) :: ((dI a4.Screen.Saved.Pages.1) :: ((dI a4.Screen.Saved.Pages.2) :: ((dI a4.Screen.Saved.Shift) :: ((dI a4.Screen.Other.Wide) :: ((dI a4.Screen.Other.High) :: ((.r (.msl 2 1 0 a4.Screen.Other.Cells.length)) :: ((.d (.str a4.Screen.Title)) :: ((.r (.msl 3 1 0 a4.Screen.Past.length)) :: ((.d (.str a4.sent)) :: [])))))))))))))))))))))))))))))))) (by kernel_rfl) (sm_own e_GCell (e1 := 58) (k1 := 4) (xs := a4.Screen.Grid.Cells) (ys := z85.Screen.Grid.Cells) (by kernel_rfl) hz88 (sm_own e_GCell (e1 := 58) (k1 := 4) (xs := a4.Screen.Other.Cells) (ys := z85.Screen.Other.Cells) (by kernel_rfl) hz87 (sm_own e_GLine (e1 := 87) (k1 := 1) (xs := a4.Screen.Past) (ys := z85.Screen.Past) (by kernel_rfl) hz86 sm_nil)))) (by kernel_rfl)) ?_
    have lz86 : a4.Screen.Past.length = z85.Screen.Past.length := (of_decide_eq_true (chk_t hz86)).symm
    try delta f104_j4_J
    try rw [lz86]
    have lz87 : a4.Screen.Other.Cells.length = z85.Screen.Other.Cells.length := (of_decide_eq_true (chk_t hz87)).symm
    try delta f104_j4_J
    try rw [lz87]
    have lz88 : a4.Screen.Grid.Cells.length = z85.Screen.Grid.Cells.length := (of_decide_eq_true (chk_t hz88)).symm
    try delta f104_j4_J
    try rw [lz88]
    refine zE ?_
    refine zkBlk ?_
    refine zkNil ?_
    exact endQ hS hQ (fN (f104_out z85))
  · replace hS := cond_f hc hS
    refine zE (zkSeq (zF ?_))
    refine zrSkip ?_
    refine zkBlk ?_
    refine zkNil ?_
    exact endQ hS hQ (fN (f104_out a4))
def f104_j5_J (a1 : GAct) (a2 : Int) (a3 : Int) (a4 : Gterminal) : St := ⟨(up (up (up (up (up u0 1000003 .un) 1000002 .un) 1000001 .un) 2 (dI a2)) 0 (pt 0)), (up (up (up (up h0 3 ⟨1, some (go2_Gterminal a4)⟩) 2 ⟨1, some (go1_Gterminal a4)⟩) 1 ⟨1, some (go0_Gterminal a4)⟩) 0 ⟨0, some (.box (bm_Gterminal a4 1 1 2 1 3 1))⟩)⟩
noncomputable def f104_j5 (a1 : GAct) (a2 : Int) (a3 : Int) (a4 : Gterminal) : Option (Gterminal) := (f104_j4 a1 a2 a3 a4 a4.Screen.Grid.High)
theorem f104_j5_ok {d : Nat} (hd : 6 ≤ d) (a1 : GAct) (a2 : Int) (a3 : Int) (a4 : Gterminal) {r : Gterminal} {Q : PX → St → Prop} (hQ : ∀ e st', f104_Q r e st' → Q e st')  (hS : f104_j5 a1 a2 a3 a4 = some r) {st : St} (he : keepSt [0, 2, 1000001, 1000002, 1000003] [(0, .id 0), (1, .id 1), (2, .id 2), (3, .id 3)] [] st = f104_j5_J a1 a2 a3 a4) : ZR (lev codes baseL (d - 1)) Q c104_5 [.seq c104_4, .blk 0] st := by
  refine zrKeep he ?_
  unfold f104_j5 at hS
  refine zrReg (zL 7 7 (zE (zkSeq ?_)))
  exact f104_j4_ok hd a1 a2 a3 a4 hQ a4.Screen.Grid.High hS (by kernel_rfl)
def f104_j0_J (a1 : GAct) (a2 : Int) (a3 : Int) (a4 : Gterminal) (p71 : Bool) : St := ⟨(up (up (up (up (up (up (up (up (up u0 1000003 .un) 1000002 .un) 1000001 .un) 45 (dB p71)) 14 (dI a1.Code)) 5 (pt 48)) 3 (dI a3)) 2 (dI a2)) 0 (pt 0)), (up (up (up (up (up h0 48 ⟨0, some (.box (bx_GAct a1 (.d (.sl a1.Args.length ((eInt .i64).cells a1.Args)))))⟩) 3 ⟨1, some (go2_Gterminal a4)⟩) 2 ⟨1, some (go1_Gterminal a4)⟩) 1 ⟨1, some (go0_Gterminal a4)⟩) 0 ⟨0, some (.box (bm_Gterminal a4 1 1 2 1 3 1))⟩)⟩
noncomputable def f104_j0 (a1 : GAct) (a2 : Int) (a3 : Int) (a4 : Gterminal) (p71 : Bool) : Option (Gterminal) := (bif p71 then ((loopO (f104_l1 a1 a2 a3 a4) (a4, 0)).bind fun z82 => (some z82)) else (bif (decide (a1.Code = 109)) then ((f122 a4.Screen.Pen a1.Args).bind fun z83 => (bif (decide (z83.2 = 0)) then (some (Gterminal.mk ({ a4.Screen with Pen := z83.1 }) a4.sent)) else (some a4))) else (bif (decide (a1.Code = 114)) then ((f101 a1.Args 1 0).bind fun z84 => (bif (decide (z84 = 0)) then (f104_j5 a1 a2 a3 a4 ) else (bif (decide (a4.Screen.Grid.High < z84)) then (f104_j5 a1 a2 a3 a4 ) else (f104_j4 a1 a2 a3 a4 z84)))) else (bif (decide (a1.Code = 110)) then ((f123 a3 a4).bind fun z89 => ((chk (decide (z89.Screen.Past.length = a4.Screen.Past.length))).bind fun z90 => ((chk (decide (z89.Screen.Other.Cells.length = a4.Screen.Other.Cells.length))).bind fun z91 => ((chk (decide (z89.Screen.Grid.Cells.length = a4.Screen.Grid.Cells.length))).bind fun z92 => (some z89))))) else (bif (decide (a1.Code = 99)) then (bif (decide (a3 = 0)) then ((cat? a4.sent ([27, 91, 63, 54, 50, 99] : List UInt8)).bind fun z93 => (some (Gterminal.mk a4.Screen z93))) else (some a4)) else (some a4))))))
theorem f104_j0_ok {d : Nat} (hd : 6 ≤ d) (a1 : GAct) (a2 : Int) (a3 : Int) (a4 : Gterminal) {r : Gterminal} {Q : PX → St → Prop} (hQ : ∀ e st', f104_Q r e st' → Q e st') (p71 : Bool) (hS : f104_j0 a1 a2 a3 a4 p71 = some r) {st : St} (he : keepSt [0, 2, 3, 5, 14, 45, 1000001, 1000002, 1000003] [(0, .id 0), (1, .id 1), (2, .id 2), (3, .id 3), (48, .id 48)] [] st = f104_j0_J a1 a2 a3 a4 p71) : ZR (lev codes baseL (d - 1)) Q c104_6 [.blk 0] st := by
  refine zrKeep he ?_
  unfold f104_j0 at hS
  refine zrSplit 45 p71 (by kernel_rfl) (fun hc => ?_) (fun hc => ?_)
  · replace hS := cond_t hc hS
    refine zT (zrSeq (zrReg (zL 4 4 (zE (zkSeq ?_)))))
    refine zrBlk ?_
    refine bindE hS (fun z82 hz82 hS => ?_)
    refine zrLoop (f104_l1_H a1 a2 a3 a4) (f104_l1_X a1 a2 a3 a4) (fun x st r Q h0 hS hQ => f104_l1_ok hd a1 a2 a3 a4 hQ hS h0) (x := (a4, 0)) (z := z82) (by show keepSt _ _ _ _ = _; kernel_rfl) hz82 ?_
    intro e st' _ hX
    obtain ⟨rfl, rfl⟩ : _ ∧ _ := hX
    refine zkBlkX ?_
    refine zkBlk ?_
    refine zkNil ?_
    exact endQ hS hQ (fN (f104_out z82))
  · replace hS := cond_f hc hS
    refine zF (zrSeq (zrReg ?_))
    refine zB 72 1 (.cmpI .eql (tm 14) (ki 109)) (decide (a1.Code = 109)) (fun hc => ?_) (fun hc => ?_)
    · replace hS := cond_t hc hS
      refine zL 1 2 (zE (zkSeq (zT (zrSeq ?_))))
      refine zrRegD ?_
      refine zdRun (n := 7) (j := 7) (ts := [[], [], [], [], [(0, false)], [], [(48, false)]]) (acc' := [[], [], [], [], [(0, false)], [], [(48, false)]]) rfl (by kernel_rfl) (by kernel_rfl) (by kernel_rfl) ?_
      refine bindE hS (fun z83 hz83 hS => ?_)
      refine zdOp (d := some 81) (op := (.call 122 [(tm 78), (tm 80)])) (g := none) (j := 8) (t1 := [(656, true), (657, true), (658, true), (659, true), (660, true), (661, true), (662, true), (663, true)]) (acc' := [[], [], [], [], [(0, false)], [], [(48, false)], [(656, true), (657, true), (658, true), (659, true), (660, true), (661, true), (662, true), (663, true)]]) (by kernel_rfl) (by kernel_rfl) rfl (by kernel_rfl) (by kernel_rfl) (ev_callA (by kernel_rfl) (f122_ok (d - 1) (dpt hd rfl) a4.Screen.Pen a1.Args z83 hz83) (by kernel_rfl) (by kernel_rfl)) ?_
      refine zdRun (n := 6) (j := 14) (ts := [[], [], [], [(88, true)], [(88, true)], []]) (acc' := [[], [], [], [], [(0, false)], [], [(48, false)], [(656, true), (657, true), (658, true), (659, true), (660, true), (661, true), (662, true), (663, true)], [], [], [], [(88, true)], [(88, true)], []]) rfl (by kernel_rfl) (by kernel_rfl) (by kernel_rfl) ?_
      refine zdEnd (by kernel_rfl) (by kernel_rfl) ?_
      refine zkSeq (zrSeq (zrReg (zL 1 1 ?_)))
      refine zB 85 2 (.cmpI .eql (tm 84) (ki 0)) (decide (z83.2 = 0)) (fun hc => ?_) (fun hc => ?_)
      · replace hS := cond_t hc hS
        refine zE (zkSeq (zT (zrReg (zL 6 6 (zE ?_)))))
        refine zkBlk ?_
        refine zkNil ?_
        exact endQ hS hQ (fN (f104_out (Gterminal.mk ({ a4.Screen with Pen := z83.1 }) a4.sent)))
      · replace hS := cond_f hc hS
        refine zE (zkSeq (zF ?_))
        refine zrSkip ?_
        refine zkBlk ?_
        refine zkNil ?_
        exact endQ hS hQ (fN (f104_out a4))
    · replace hS := cond_f hc hS
      refine zL 1 2 (zE (zkSeq (zF (zrSeq (zrReg ?_)))))
      refine zB 92 1 (.cmpI .eql (tm 14) (ki 114)) (decide (a1.Code = 114)) (fun hc => ?_) (fun hc => ?_)
      · replace hS := cond_t hc hS
        refine zL 1 2 (zE (zkSeq (zT (zrSeq (zrReg (zL 2 2 ?_))))))
        refine bindE hS (fun z84 hz84 hS => ?_)
        refine zO (some 95) 3 (.call 101 [(tm 94), (ki 1), (ki 0)]) (ev_callA (by kernel_rfl) (f101_ok (d - 1) (dpt hd rfl) a1.Args 1 0 z84 hz84) (by kernel_rfl) (by kernel_rfl)) ?_
        refine zL 1 4 (zE (zkSeq (zrSeq (zrSeq (zrReg (zL 1 1 ?_))))))
        refine zB 97 2 (.cmpI .eql (tm 96) (ki 0)) (decide (z84 = 0)) (fun hc => ?_) (fun hc => ?_)
        · replace hS := cond_t hc hS
          refine zL 10 12 (zE (zkSeq (zT ?_)))
          exact f104_j5_ok hd a1 a2 a3 a4 hQ  hS (by kernel_rfl)
        · replace hS := cond_f hc hS
          refine zL 8 10 ?_
          refine zlBool (d := 106) (op := (.cmpI .gtr (tm 99) (tm 105))) (g := (some (98, false))) (j := 11) (decide (a4.Screen.Grid.High < z84)) rfl (by kernel_rfl) (by kernel_rfl) (by kernel_rfl) (fun hc => ?_) (fun hc => ?_)
          · replace hS := cond_t hc hS
            refine zL 1 12 (zE (zkSeq (zT ?_)))
            exact f104_j5_ok hd a1 a2 a3 a4 hQ  hS (by kernel_rfl)
          · replace hS := cond_f hc hS
            refine zL 1 12 (zE (zkSeq (zF ?_)))
            refine zrSkip ?_
            refine zkSeq ?_
            exact f104_j4_ok hd a1 a2 a3 a4 hQ z84 hS (by kernel_rfl)
      · replace hS := cond_f hc hS
        refine zL 1 2 (zE (zkSeq (zF (zrSeq (zrReg ?_)))))
        refine zB 131 1 (.cmpI .eql (tm 14) (ki 110)) (decide (a1.Code = 110)) (fun hc => ?_) (fun hc => ?_)
        · replace hS := cond_t hc hS
          refine zL 1 2 (zE (zkSeq (zT (zrReg (zL 2 2 ?_)))))
          refine bindE hS (fun z89 hz89 hS => ?_)
          refine bindE hS (fun z90 hz90 hS => ?_)
          refine bindE hS (fun z91 hz91 hS => ?_)
          refine bindE hS (fun z92 hz92 hS => ?_)
          refine zO (some 134) 3 (.callr 123 [(tm 132), (tm 133)]) (ev_callrXA (ids := [0, 1, 2, 3]) (bs := [(.box (bm_Gterminal a4 1 1 2 1 3 1)), (go0_Gterminal a4), (go1_Gterminal a4), (go2_Gterminal a4)]) (by kernel_rfl) (by kernel_rfl) (by kernel_rfl) (by kernel_rfl) (f123_ok (d - 1) (dpt hd rfl) a3 a4 z89 hz89) (by kernel_rfl) (sm_box (cs := (bm_Gterminal a4 1 1 2 1 3 1)) (by kernel_rfl) (sm_own e_GCell (e1 := 58) (k1 := 4) (xs := a4.Screen.Grid.Cells) (ys := z89.Screen.Grid.Cells) (by kernel_rfl) hz92 (sm_own e_GCell (e1 := 58) (k1 := 4) (xs := a4.Screen.Other.Cells) (ys := z89.Screen.Other.Cells) (by kernel_rfl) hz91 (sm_own e_GLine (e1 := 87) (k1 := 1) (xs := a4.Screen.Past) (ys := z89.Screen.Past) (by kernel_rfl) hz90 sm_nil)))) (by kernel_rfl)) ?_
          have lz90 : a4.Screen.Past.length = z89.Screen.Past.length := (of_decide_eq_true (chk_t hz90)).symm
          try delta f104_j0_J
          try rw [lz90]
          have lz91 : a4.Screen.Other.Cells.length = z89.Screen.Other.Cells.length := (of_decide_eq_true (chk_t hz91)).symm
          try delta f104_j0_J
          try rw [lz91]
          have lz92 : a4.Screen.Grid.Cells.length = z89.Screen.Grid.Cells.length := (of_decide_eq_true (chk_t hz92)).symm
          try delta f104_j0_J
          try rw [lz92]
          refine zE ?_
          refine zkBlk ?_
          refine zkNil ?_
          exact endQ hS hQ (fN (f104_out z89))
        · replace hS := cond_f hc hS
          refine zL 1 2 (zE (zkSeq (zF (zrSeq (zrReg ?_)))))
          refine zB 136 1 (.cmpI .eql (tm 14) (ki 99)) (decide (a1.Code = 99)) (fun hc => ?_) (fun hc => ?_)
          · replace hS := cond_t hc hS
            refine zL 1 2 (zE (zkSeq (zT (zrSeq (zrReg (zL 1 1 ?_))))))
            refine zB 138 2 (.cmpI .eql (tm 137) (ki 0)) (decide (a3 = 0)) (fun hc => ?_) (fun hc => ?_)
            · replace hS := cond_t hc hS
              refine zE (zkSeq (zT (zrReg (zL 4 4 ?_))))
              refine bindE hS (fun z93 hz93 hS => ?_)
              refine zO (v := (.d (.str z93))) (ups := []) (some 143) 5 (.strO .add (tm 142) (.const (.string ⟨#[27, 91, 63, 54, 50, 99]⟩))) (ev_cat (a := a4.sent) (c := [27, 91, 63, 54, 50, 99]) (by kernel_rfl) (by kernel_rfl) hz93) ?_
              refine zL 3 8 (zE ?_)
              refine zkBlk ?_
              refine zkNil ?_
              exact endQ hS hQ (fN (f104_out (Gterminal.mk a4.Screen z93)))
            · replace hS := cond_f hc hS
              refine zE (zkSeq (zF ?_))
              refine zrSkip ?_
              refine zkBlk ?_
              refine zkNil ?_
              exact endQ hS hQ (fN (f104_out a4))
          · replace hS := cond_f hc hS
            refine zL 1 2 (zE (zkSeq (zF ?_)))
            refine zrSkip ?_
            refine zkBlk ?_
            refine zkNil ?_
            exact endQ hS hQ (fN (f104_out a4))
noncomputable def f104 (a1 : GAct) (a2 : Int) (a3 : Int) (a4 : Gterminal) : Option (Gterminal) := (bif (decide (a1.Code = 103)) then (bif (decide (a3 = 0)) then ((f94 a4.Screen.Stops a4.Screen.Col false).bind fun z64 => (some (Gterminal.mk ({ a4.Screen with Stops := z64.1 }) a4.sent))) else (bif (decide (a3 = 3)) then (some (Gterminal.mk ({ a4.Screen with Stops := (GStops.mk (fun _ => 0)) }) a4.sent)) else (some a4))) else (bif (decide (a1.Code = 104)) then (f104_j0 a1 a2 a3 a4 true) else (bif (decide (a1.Code = 108)) then (f104_j0 a1 a2 a3 a4 true) else (f104_j0 a1 a2 a3 a4 false))))
theorem f104_ok (d : Nat) (hd : 6 ≤ d) (a1 : GAct) (a2 : Int) (a3 : Int) (a4 : Gterminal) (r : Gterminal) (hS : f104 a1 a2 a3 a4 = some r) : lev codes baseL d 104 [(pt 0), (.agg ((dI a1.Kind) :: ((dI a1.Code) :: ((dI a1.Mark) :: ((.d (.str a1.Inter)) :: ((.d (.sl a1.Args.length ((eInt .i64).cells a1.Args))) :: ((.d (.str a1.Text)) :: []))))))), (dI a2), (dI a3)] (gb_Gterminal a4 1 2 3) = some ((.tup []), (gb_Gterminal r 1 2 3)) := by
  refine lev_go codes104 rfl rfl (Nat.le_trans (Nat.le_of_ble_eq_true rfl) hd) fun Q hQ => ?_
  unfold f104 at hS
  show ZR _ Q c104_b [] _
  replace hQ : ∀ e st', f104_Q r e st' → Q e st' := hQ
  refine zrSeq (zrReg (zL 1 1 (zE (zkSeq (zrSeq (zrReg (zL 2 2 (zE (zkSeq ?_)))))))))
  refine zrBlk ?_
  refine zrSeq (zrReg ?_)
  refine zB 16 1 (.cmpI .eql (tm 14) (ki 103)) (decide (a1.Code = 103)) (fun hc => ?_) (fun hc => ?_)
  · replace hS := cond_t hc hS
    refine zL 1 2 (zE (zkSeq (zT (zrSeq (zrReg (zL 1 1 (zE (zkSeq ?_))))))))
    refine zrBlk ?_
    refine zrSeq (zrReg ?_)
    refine zB 19 1 (.cmpI .eql (tm 17) (ki 0)) (decide (a3 = 0)) (fun hc => ?_) (fun hc => ?_)
    · replace hS := cond_t hc hS
      refine zL 1 2 (zE (zkSeq (zT ?_)))
      refine zrRegD ?_
      refine zdRun (n := 11) (j := 11) (ts := [[], [], [], [], [], [(0, false)], [], [], [], [], [(0, false)]]) (acc' := [[], [], [], [], [], [(0, false)], [], [], [], [], [(0, false)]]) rfl (by kernel_rfl) (by kernel_rfl) (by kernel_rfl) ?_
      refine bindE hS (fun z64 hz64 hS => ?_)
      refine zdOp (d := some 32) (op := (.call 94 [(tm 26), (tm 31), (.const (.bool .false))])) (g := none) (j := 12) (t1 := [(264, true), (265, true), (266, true), (267, true), (268, true), (269, true), (270, true), (271, true)]) (acc' := [[], [], [], [], [], [(0, false)], [], [], [], [], [(0, false)], [(264, true), (265, true), (266, true), (267, true), (268, true), (269, true), (270, true), (271, true)]]) (by kernel_rfl) (by kernel_rfl) rfl (by kernel_rfl) (by kernel_rfl) (ev_callA (by kernel_rfl) (f94_ok (d - 1) (dpt hd rfl) a4.Screen.Stops a4.Screen.Col false z64 hz64) (by kernel_rfl) (by kernel_rfl)) ?_
      refine zdRun (n := 7) (j := 19) (ts := [[], [], [], [], [], [], [(0, true)]]) (acc' := [[], [], [], [], [], [(0, false)], [], [], [], [], [(0, false)], [(264, true), (265, true), (266, true), (267, true), (268, true), (269, true), (270, true), (271, true)], [], [], [], [], [], [], [(0, true)]]) rfl (by kernel_rfl) (by kernel_rfl) (by kernel_rfl) ?_
      refine zdEnd (by kernel_rfl) (by kernel_rfl) ?_
      refine zkBlk ?_
      refine zkBlk ?_
      refine zkNil ?_
      exact endQ hS hQ (fN (f104_out (Gterminal.mk ({ a4.Screen with Stops := z64.1 }) a4.sent)))
    · replace hS := cond_f hc hS
      refine zL 1 2 (zE (zkSeq (zF (zrSeq (zrReg ?_)))))
      refine zB 39 1 (.cmpI .eql (tm 17) (ki 3)) (decide (a3 = 3)) (fun hc => ?_) (fun hc => ?_)
      · replace hS := cond_t hc hS
        refine zL 1 2 (zE (zkSeq (zT (zrReg (zL 6 6 (zE ?_))))))
        refine zkBlk ?_
        refine zkBlk ?_
        refine zkNil ?_
        exact endQ hS hQ (fN (f104_out (Gterminal.mk ({ a4.Screen with Stops := (GStops.mk (fun _ => 0)) }) a4.sent)))
      · replace hS := cond_f hc hS
        refine zL 1 2 (zE (zkSeq (zF ?_)))
        refine zrSkip ?_
        refine zkBlk ?_
        refine zkBlk ?_
        refine zkNil ?_
        exact endQ hS hQ (fN (f104_out a4))
  · replace hS := cond_f hc hS
    refine zL 1 2 (zE (zkSeq (zF (zrSeq (zrSeq (zrReg ?_))))))
    refine zB 46 1 (.cmpI .eql (tm 14) (ki 104)) (decide (a1.Code = 104)) (fun hc => ?_) (fun hc => ?_)
    · replace hS := cond_t hc hS
      refine zL 1 2 (zE (zkSeq (zT ?_)))
      refine zrSkip ?_
      refine zkSeq ?_
      exact f104_j0_ok hd a1 a2 a3 a4 hQ true hS (by kernel_rfl)
    · replace hS := cond_f hc hS
      refine zL 1 2 (zE (zkSeq (zF (zrReg ?_))))
      refine zB 47 1 (.cmpI .eql (tm 14) (ki 108)) (decide (a1.Code = 108)) (fun hc => ?_) (fun hc => ?_)
      · replace hS := cond_t hc hS
        refine zL 1 2 (zE (zkSeq ?_))
        exact f104_j0_ok hd a1 a2 a3 a4 hQ true hS (by kernel_rfl)
      · replace hS := cond_f hc hS
        refine zL 1 2 (zE (zkSeq ?_))
        exact f104_j0_ok hd a1 a2 a3 a4 hQ false hS (by kernel_rfl)
/- (*farwriter/screen.terminal).sequence -/
def f68_fin (p15 : Gterminal) : St := ⟨(up (up (up u0 1000003 .un) 1000002 .un) 1000001 .un), (up (up (up (up h0 3 ⟨1, some (go2_Gterminal p15)⟩) 2 ⟨1, some (go1_Gterminal p15)⟩) 1 ⟨1, some (go0_Gterminal p15)⟩) 0 ⟨0, some (.box (bm_Gterminal p15 1 1 2 1 3 1))⟩)⟩
theorem f68_out (p15 : Gterminal) : outR (f68_fin p15) 4 c68.res = some ((.tup []), (gb_Gterminal p15 1 2 3)) := by
  kernel_rfl
def f68_Q (r : Gterminal) (e : PX) (st : St) : Prop := DoneF c68 4 ((.tup []), (gb_Gterminal r 1 2 3)) e st
def f68_l2_J (a1 : GAct) (a2 : Gterminal) (x : Unit) : St := ⟨(up (up (up (up (up (up (up (up u0 1000003 .un) 1000002 .un) 1000001 .un) 74 (dI 0)) 73 (dI (a1.Args.length : Int))) 72 (.d (.sl a1.Args.length ((eInt .i64).cells a1.Args)))) 3 (pt 32)) 0 (pt 0)), (up (up (up (up (up h0 32 ⟨0, some (.box (bx_GAct a1 (.d (.sl a1.Args.length ((eInt .i64).cells a1.Args)))))⟩) 3 ⟨1, some (go2_Gterminal a2)⟩) 2 ⟨1, some (go1_Gterminal a2)⟩) 1 ⟨1, some (go0_Gterminal a2)⟩) 0 ⟨0, some (.box (bm_Gterminal a2 1 1 2 1 3 1))⟩)⟩
def f68_l2_H (a1 : GAct) (a2 : Gterminal) (x : Unit) (st : St) : Prop := keepSt [0, 3, 72, 73, 74, 1000001, 1000002, 1000003] [(0, .id 0), (1, .id 1), (2, .id 2), (3, .id 3), (32, .id 32)] [] st = f68_l2_J a1 a2 x
def f68_l2_e1_J (a1 : GAct) (a2 : Gterminal) : St := ⟨(up (up (up u0 1000003 .un) 1000002 .un) 1000001 .un), (up (up (up (up h0 3 ⟨1, some (go2_Gterminal a2)⟩) 2 ⟨1, some (go1_Gterminal a2)⟩) 1 ⟨1, some (go0_Gterminal a2)⟩) 0 ⟨0, some (.box (bm_Gterminal a2 1 1 2 1 3 1))⟩)⟩
def f68_l2_X (a1 : GAct) (a2 : Gterminal) (z : Unit) (e : PX) (st : St) : Prop := e = .exit 1 ∧ st = f68_l2_e1_J a1 a2
def f68_l2_j4_J (a1 : GAct) (a2 : Gterminal) : St := ⟨(up (up (up (up (up (up (up (up u0 1000003 .un) 1000002 .un) 1000001 .un) 74 (dI 0)) 73 (dI (a1.Args.length : Int))) 72 (.d (.sl a1.Args.length ((eInt .i64).cells a1.Args)))) 3 (pt 32)) 0 (pt 0)), (up (up (up (up (up h0 32 ⟨0, some (.box (bx_GAct a1 (.d (.sl a1.Args.length ((eInt .i64).cells a1.Args)))))⟩) 3 ⟨1, some (go2_Gterminal a2)⟩) 2 ⟨1, some (go1_Gterminal a2)⟩) 1 ⟨1, some (go0_Gterminal a2)⟩) 0 ⟨0, some (.box (bm_Gterminal a2 1 1 2 1 3 1))⟩)⟩
noncomputable def f68_l2_j4 (a1 : GAct) (a2 : Gterminal) : Option (Unit ⊕ Unit) := ((idx a1.Args 0).bind fun z25 => (bif (decide (a1.Code = 104)) then none else none))
theorem f68_l2_j4_ok {d : Nat} (hd : 7 ≤ d) (a1 : GAct) (a2 : Gterminal) {r : Unit ⊕ Unit} {Q : PX → St → Prop} (hQ : ∀ e st', finL (f68_l2_H a1 a2) (f68_l2_X a1 a2) r e st' → Q e st')  (hS : f68_l2_j4 a1 a2 = some r) {st : St} (he : keepSt [0, 3, 72, 73, 74, 1000001, 1000002, 1000003] [(0, .id 0), (1, .id 1), (2, .id 2), (3, .id 3), (32, .id 32)] [] st = f68_l2_j4_J a1 a2) : ZR (lev codes baseL (d - 1)) Q c68_1 [] st := by
  refine zrKeep he ?_
  unfold f68_l2_j4 at hS
  refine zrSeq ?_
  refine zrBlk ?_
  refine zrSeq (zrReg ?_)
  refine bindE hS (fun z25 hz25 hS => ?_)
  refine zO (v := (.rptr ((eInt .i64).enc z25 ++ ((eInt .i64).cells (a1.Args.drop ((0 : Int).toNat + 1)))))) (ups := []) (some 76) 1 (.ixS 3 1 (tm 72) (tm 74)) (ev_ixS (eInt .i64) (kk := .i64) (xs := a1.Args) (j := 0) (by kernel_rfl) (by kernel_rfl) hz25 rfl (by intro h; cases h)) ?_
  refine zL 2 3 (zE (zkSeq (zrReg (zL 4 4 ?_))))
  refine zB 82 5 (.cmpI .eql (tm 81) (ki 104)) (decide (a1.Code = 104)) (fun hc => ?_) (fun hc => ?_)
  · replace hS := cond_t hc hS
    cases hS
  · replace hS := cond_f hc hS
    cases hS
def f68_l2_j3_J (a1 : GAct) (a2 : Gterminal) (p17 : Bool) : St := ⟨(up (up (up (up (up (up (up (up (up u0 1000003 .un) 1000002 .un) 1000001 .un) 75 (dB p17)) 74 (dI 0)) 73 (dI (a1.Args.length : Int))) 72 (.d (.sl a1.Args.length ((eInt .i64).cells a1.Args)))) 3 (pt 32)) 0 (pt 0)), (up (up (up (up (up h0 32 ⟨0, some (.box (bx_GAct a1 (.d (.sl a1.Args.length ((eInt .i64).cells a1.Args)))))⟩) 3 ⟨1, some (go2_Gterminal a2)⟩) 2 ⟨1, some (go1_Gterminal a2)⟩) 1 ⟨1, some (go0_Gterminal a2)⟩) 0 ⟨0, some (.box (bm_Gterminal a2 1 1 2 1 3 1))⟩)⟩
noncomputable def f68_l2_j3 (a1 : GAct) (a2 : Gterminal) (p17 : Bool) : Option (Unit ⊕ Unit) := (bif p17 then (f68_l2_j4 a1 a2 ) else (some (.inr ())))
theorem f68_l2_j3_ok {d : Nat} (hd : 7 ≤ d) (a1 : GAct) (a2 : Gterminal) {r : Unit ⊕ Unit} {Q : PX → St → Prop} (hQ : ∀ e st', finL (f68_l2_H a1 a2) (f68_l2_X a1 a2) r e st' → Q e st') (p17 : Bool) (hS : f68_l2_j3 a1 a2 p17 = some r) {st : St} (he : keepSt [0, 3, 72, 73, 74, 75, 1000001, 1000002, 1000003] [(0, .id 0), (1, .id 1), (2, .id 2), (3, .id 3), (32, .id 32)] [] st = f68_l2_j3_J a1 a2 p17) : ZR (lev codes baseL (d - 1)) Q c68_2 [] st := by
  refine zrKeep he ?_
  unfold f68_l2_j3 at hS
  refine zrSeq ?_
  refine zrSplit 75 p17 (by kernel_rfl) (fun hc => ?_) (fun hc => ?_)
  · replace hS := cond_t hc hS
    refine zT ?_
    refine zrSkip ?_
    refine zkSeq ?_
    exact f68_l2_j4_ok hd a1 a2 hQ  hS (by kernel_rfl)
  · replace hS := cond_f hc hS
    refine zF ?_
    refine zrKeep (J := f68_l2_e1_J a1 a2) (by kernel_rfl) ?_
    refine zrExit ?_
    refine zkSeqX ?_
    refine zkNil ?_
    exact endQ hS hQ (finL_x (by intro h; cases h) (by show _ = _ ∧ _ = _; exact ⟨rfl, rfl⟩))
noncomputable def f68_l2 (a1 : GAct) (a2 : Gterminal) (x : Unit) : Option (Unit ⊕ Unit) := (bif (decide (0 < (a1.Args.length : Int))) then (f68_l2_j3 a1 a2 true) else (f68_l2_j3 a1 a2 false))
theorem f68_l2_ok {d : Nat} (hd : 7 ≤ d) (a1 : GAct) (a2 : Gterminal) {r : Unit ⊕ Unit} {Q : PX → St → Prop} (hQ : ∀ e st', finL (f68_l2_H a1 a2) (f68_l2_X a1 a2) r e st' → Q e st') {x : Unit} (hS : f68_l2 a1 a2 x = some r) {st : St} (he : f68_l2_H a1 a2 x st) : ZR (lev codes baseL (d - 1)) Q c68_3 [] st := by
  refine zrKeep he ?_
  unfold f68_l2 at hS
  refine zrSeq (zrReg ?_)
  refine zB 75 1 (.cmpI .lss (tm 74) (tm 73)) (decide (0 < (a1.Args.length : Int))) (fun hc => ?_) (fun hc => ?_)
  · replace hS := cond_t hc hS
    refine zE (zkSeq ?_)
    exact f68_l2_j3_ok hd a1 a2 hQ true hS (by kernel_rfl)
  · replace hS := cond_f hc hS
    refine zE (zkSeq ?_)
    exact f68_l2_j3_ok hd a1 a2 hQ false hS (by kernel_rfl)
def f68_j1_J (a1 : GAct) (a2 : Gterminal) : St := ⟨(up (up (up (up (up u0 1000003 .un) 1000002 .un) 1000001 .un) 3 (pt 32)) 0 (pt 0)), (up (up (up (up (up h0 32 ⟨0, some (.box (bx_GAct a1 (.d (.sl a1.Args.length ((eInt .i64).cells a1.Args)))))⟩) 3 ⟨1, some (go2_Gterminal a2)⟩) 2 ⟨1, some (go1_Gterminal a2)⟩) 1 ⟨1, some (go0_Gterminal a2)⟩) 0 ⟨0, some (.box (bm_Gterminal a2 1 1 2 1 3 1))⟩)⟩
noncomputable def f68_j1 (a1 : GAct) (a2 : Gterminal) : Option (Gterminal) := ((loopO (f68_l2 a1 a2) ()).bind fun z26 => (some a2))
theorem f68_j1_ok {d : Nat} (hd : 7 ≤ d) (a1 : GAct) (a2 : Gterminal) {r : Gterminal} {Q : PX → St → Prop} (hQ : ∀ e st', f68_Q r e st' → Q e st')  (hS : f68_j1 a1 a2 = some r) {st : St} (he : keepSt [0, 3, 1000001, 1000002, 1000003] [(0, .id 0), (1, .id 1), (2, .id 2), (3, .id 3), (32, .id 32)] [] st = f68_j1_J a1 a2) : ZR (lev codes baseL (d - 1)) Q c68_4 [.blk 0] st := by
  refine zrKeep he ?_
  unfold f68_j1 at hS
  refine zrSeq (zrReg (zL 4 4 (zE (zkSeq ?_))))
  refine zrBlk ?_
  refine bindE hS (fun z26 hz26 hS => ?_)
  refine zrLoop (f68_l2_H a1 a2) (f68_l2_X a1 a2) (fun x st r Q h0 hS hQ => f68_l2_ok hd a1 a2 hQ hS h0) (x := ()) (z := z26) (by show keepSt _ _ _ _ = _; kernel_rfl) hz26 ?_
  intro e st' _ hX
  obtain ⟨rfl, rfl⟩ : _ ∧ _ := hX
  refine zkBlkX ?_
  refine zkBlk ?_
  refine zkNil ?_
  exact endQ hS hQ (fN (f68_out a2))
def f68_j0_J (a1 : GAct) (a2 : Gterminal) : St := ⟨(up (up (up (up (up u0 1000003 .un) 1000002 .un) 1000001 .un) 3 (pt 32)) 0 (pt 0)), (up (up (up (up (up h0 32 ⟨0, some (.box (bx_GAct a1 (.d (.sl a1.Args.length ((eInt .i64).cells a1.Args)))))⟩) 3 ⟨1, some (go2_Gterminal a2)⟩) 2 ⟨1, some (go1_Gterminal a2)⟩) 1 ⟨1, some (go0_Gterminal a2)⟩) 0 ⟨0, some (.box (bm_Gterminal a2 1 1 2 1 3 1))⟩)⟩
noncomputable def f68_j0 (a1 : GAct) (a2 : Gterminal) : Option (Gterminal) := (bif (decide (a1.Mark = 63)) then (bif (decide (a1.Code = 104)) then (f68_j1 a1 a2 ) else (bif (decide (a1.Code = 108)) then (f68_j1 a1 a2 ) else (some a2))) else (some a2))
theorem f68_j0_ok {d : Nat} (hd : 7 ≤ d) (a1 : GAct) (a2 : Gterminal) {r : Gterminal} {Q : PX → St → Prop} (hQ : ∀ e st', f68_Q r e st' → Q e st')  (hS : f68_j0 a1 a2 = some r) {st : St} (he : keepSt [0, 3, 1000001, 1000002, 1000003] [(0, .id 0), (1, .id 1), (2, .id 2), (3, .id 3), (32, .id 32)] [] st = f68_j0_J a1 a2) : ZR (lev codes baseL (d - 1)) Q c68_5 [.blk 0] st := by
  refine zrKeep he ?_
  unfold f68_j0 at hS
  refine zrSeq (zrReg (zL 2 2 ?_))
  refine zB 60 3 (.cmpI .eql (tm 59) (ki 63)) (decide (a1.Mark = 63)) (fun hc => ?_) (fun hc => ?_)
  · replace hS := cond_t hc hS
    refine zL 3 6 ?_
    refine zlBool (d := 64) (op := (.cmpI .eql (tm 63) (ki 104))) (g := (some (61, true))) (j := 7) (decide (a1.Code = 104)) rfl (by kernel_rfl) (by kernel_rfl) (by kernel_rfl) (fun hc => ?_) (fun hc => ?_)
    · replace hS := cond_t hc hS
      refine zL 7 14 (zE (zkSeq (zT ?_)))
      exact f68_j1_ok hd a1 a2 hQ  hS (by kernel_rfl)
    · replace hS := cond_f hc hS
      refine zL 3 10 ?_
      refine zlBool (d := 68) (op := (.cmpI .eql (tm 67) (ki 108))) (g := (some (65, false))) (j := 11) (decide (a1.Code = 108)) rfl (by kernel_rfl) (by kernel_rfl) (by kernel_rfl) (fun hc => ?_) (fun hc => ?_)
      · replace hS := cond_t hc hS
        refine zL 3 14 (zE (zkSeq (zT ?_)))
        exact f68_j1_ok hd a1 a2 hQ  hS (by kernel_rfl)
      · replace hS := cond_f hc hS
        refine zL 3 14 (zE (zkSeq (zF ?_)))
        refine zrSkip ?_
        refine zkBlk ?_
        refine zkNil ?_
        exact endQ hS hQ (fN (f68_out a2))
  · replace hS := cond_f hc hS
    refine zL 11 14 (zE (zkSeq (zF ?_)))
    refine zrSkip ?_
    refine zkBlk ?_
    refine zkNil ?_
    exact endQ hS hQ (fN (f68_out a2))
noncomputable def f68 (a1 : GAct) (a2 : Gterminal) : Option (Gterminal) := ((f100 a1.Args 0).bind fun z12 => ((f101 a1.Args 0 0).bind fun z13 => (bif (decide (a1.Mark = 0)) then ((f102 a1 z12 a2).bind fun z19 => ((chk (decide (z19.1.Screen.Past.length = a2.Screen.Past.length))).bind fun z20 => ((chk (decide (z19.1.Screen.Other.Cells.length = a2.Screen.Other.Cells.length))).bind fun z21 => ((chk (decide (z19.1.Screen.Grid.Cells.length = a2.Screen.Grid.Cells.length))).bind fun z22 => (bif (!z19.2) then ((f103 a1.Code z12 z13 z19.1).bind fun z23 => (bif (!z23.2) then ((f104 a1 z12 z13 z23.1).bind fun z24 => (some z24)) else (some z23.1))) else (some z19.1)))))) else (bif (decide (a1.Mark = 62)) then (bif (decide (a1.Code = 99)) then (bif (decide (z13 = 0)) then ((cat? a2.sent ([27, 91, 62, 49, 59, 49, 48, 59, 48, 99] : List UInt8)).bind fun z27 => (some (Gterminal.mk a2.Screen z27))) else (f68_j0 a1 a2 )) else (f68_j0 a1 a2 )) else (f68_j0 a1 a2 )))))
theorem f68_ok (d : Nat) (hd : 7 ≤ d) (a1 : GAct) (a2 : Gterminal) (r : Gterminal) (hS : f68 a1 a2 = some r) : lev codes baseL d 68 [(pt 0), (.agg ((dI a1.Kind) :: ((dI a1.Code) :: ((dI a1.Mark) :: ((.d (.str a1.Inter)) :: ((.d (.sl a1.Args.length ((eInt .i64).cells a1.Args))) :: ((.d (.str a1.Text)) :: [])))))))] (gb_Gterminal a2 1 2 3) = some ((.tup []), (gb_Gterminal r 1 2 3)) := by
  refine lev_go codes68 rfl rfl (Nat.le_trans (Nat.le_of_ble_eq_true rfl) hd) fun Q hQ => ?_
  unfold f68 at hS
  show ZR _ Q c68_b [] _
  replace hQ : ∀ e st', f68_Q r e st' → Q e st' := hQ
  refine zrSeq (zrReg (zL 1 1 (zE (zkSeq (zrSeq ?_)))))
  refine zrRegD ?_
  refine zdRun (n := 2) (j := 2) (ts := [[], [(32, false)]]) (acc' := [[], [(32, false)]]) rfl (by kernel_rfl) (by kernel_rfl) (by kernel_rfl) ?_
  refine bindE hS (fun z12 hz12 hS => ?_)
  refine zdOp (d := some 10) (op := (.call 100 [(tm 9), (ki 0)])) (g := none) (j := 3) (t1 := [(88, true), (89, true), (90, true), (91, true), (92, true), (93, true), (94, true), (95, true)]) (acc' := [[], [(32, false)], [(88, true), (89, true), (90, true), (91, true), (92, true), (93, true), (94, true), (95, true)]]) (by kernel_rfl) (by kernel_rfl) rfl (by kernel_rfl) (by kernel_rfl) (ev_callA (by kernel_rfl) (f100_ok (d - 1) (dpt hd rfl) a1.Args 0 z12 hz12) (by kernel_rfl) (by kernel_rfl)) ?_
  refine zdRun (n := 2) (j := 5) (ts := [[], [(32, false)]]) (acc' := [[], [(32, false)], [(88, true), (89, true), (90, true), (91, true), (92, true), (93, true), (94, true), (95, true)], [], [(32, false)]]) rfl (by kernel_rfl) (by kernel_rfl) (by kernel_rfl) ?_
  refine bindE hS (fun z13 hz13 hS => ?_)
  refine zdOp (d := some 13) (op := (.call 101 [(tm 12), (ki 0), (ki 0)])) (g := none) (j := 6) (t1 := [(112, true), (113, true), (114, true), (115, true), (116, true), (117, true), (118, true), (119, true)]) (acc' := [[], [(32, false)], [(88, true), (89, true), (90, true), (91, true), (92, true), (93, true), (94, true), (95, true)], [], [(32, false)], [(112, true), (113, true), (114, true), (115, true), (116, true), (117, true), (118, true), (119, true)]]) (by kernel_rfl) (by kernel_rfl) rfl (by kernel_rfl) (by kernel_rfl) (ev_callA (by kernel_rfl) (f101_ok (d - 1) (dpt hd rfl) a1.Args 0 0 z13 hz13) (by kernel_rfl) (by kernel_rfl)) ?_
  refine zdRun (n := 2) (j := 8) (ts := [[], []]) (acc' := [[], [(32, false)], [(88, true), (89, true), (90, true), (91, true), (92, true), (93, true), (94, true), (95, true)], [], [(32, false)], [(112, true), (113, true), (114, true), (115, true), (116, true), (117, true), (118, true), (119, true)], [], []]) rfl (by kernel_rfl) (by kernel_rfl) (by kernel_rfl) ?_
  refine zdEnd (by kernel_rfl) (by kernel_rfl) ?_
  refine zkSeq ?_
  refine zrBlk ?_
  refine zrSeq (zrReg (zL 2 2 ?_))
  refine zB 17 3 (.cmpI .eql (tm 16) (ki 0)) (decide (a1.Mark = 0)) (fun hc => ?_) (fun hc => ?_)
  · replace hS := cond_t hc hS
    refine zL 1 4 (zE (zkSeq (zT (zrSeq (zrReg (zL 3 3 ?_))))))
    refine bindE hS (fun z19 hz19 hS => ?_)
    refine bindE hS (fun z20 hz20 hS => ?_)
    refine bindE hS (fun z21 hz21 hS => ?_)
    refine bindE hS (fun z22 hz22 hS => ?_)
    refine zO (some 21) 4 (.callr 102 [(tm 18), (tm 19), (tm 20)]) (ev_callrXA (ids := [0, 1, 2, 3]) (bs := (gb_Gterminal a2 1 2 3)) (by kernel_rfl) (by kernel_rfl) (by kernel_rfl) (by kernel_rfl) (f102_ok (d - 1) (dpt hd rfl) a1 z12 a2 z19 hz19) (by kernel_rfl) (sm_box (cs := (bm_Gterminal a2 1 0 2 0 3 0)) (by kernel_rfl) (sm_own e_GCell (e1 := 58) (k1 := 4) (xs := a2.Screen.Grid.Cells) (ys := z19.1.Screen.Grid.Cells) (by kernel_rfl) hz22 (sm_own e_GCell (e1 := 58) (k1 := 4) (xs := a2.Screen.Other.Cells) (ys := z19.1.Screen.Other.Cells) (by kernel_rfl) hz21 (sm_own e_GLine (e1 := 87) (k1 := 1) (xs := a2.Screen.Past) (ys := z19.1.Screen.Past) (by kernel_rfl) hz20 sm_nil)))) (by kernel_rfl)) ?_
    have lz20 : a2.Screen.Past.length = z19.1.Screen.Past.length := (of_decide_eq_true (chk_t hz20)).symm
    skip
    try rw [lz20]
    have lz21 : a2.Screen.Other.Cells.length = z19.1.Screen.Other.Cells.length := (of_decide_eq_true (chk_t hz21)).symm
    skip
    try rw [lz21]
    have lz22 : a2.Screen.Grid.Cells.length = z19.1.Screen.Grid.Cells.length := (of_decide_eq_true (chk_t hz22)).symm
    skip
    try rw [lz22]
    refine zL 2 6 ?_
    refine zlSplit 23 (!z19.2) (by kernel_rfl) (fun hc => ?_) (fun hc => ?_)
    · replace hS := cond_t hc hS
      refine zL 5 11 ?_
      refine bindE hS (fun z23 hz23 hS => ?_)
      refine zlOp (d := some 29) (op := (.callr 103 [(tm 24), (tm 26), (tm 27), (tm 28)])) (g := (some (23, true))) (j := 12) rfl (by kernel_rfl) (by kernel_rfl) (ev_callrA (ids := [0, 1, 2, 3]) (by kernel_rfl) (by kernel_rfl) (by kernel_rfl) (f103_ok (d - 1) (dpt hd rfl) a1.Code z12 z13 z19.1 z23 hz23) (by kernel_rfl)) ?_
      refine zL 2 14 (zE (zkSeq ?_))
      refine zrSplit 31 (!z23.2) (by kernel_rfl) (fun hc => ?_) (fun hc => ?_)
      · replace hS := cond_t hc hS
        refine zT (zrReg (zL 4 4 ?_))
        refine bindE hS (fun z24 hz24 hS => ?_)
        refine zO (some 36) 5 (.callr 104 [(tm 32), (tm 33), (tm 34), (tm 35)]) (ev_callrA (ids := [0, 1, 2, 3]) (by kernel_rfl) (by kernel_rfl) (by kernel_rfl) (f104_ok (d - 1) (dpt hd rfl) a1 z12 z13 z23.1 z24 hz24) (by kernel_rfl)) ?_
        refine zE ?_
        refine zkBlk ?_
        refine zkNil ?_
        exact endQ hS hQ (fN (f68_out z24))
      · replace hS := cond_f hc hS
        refine zF ?_
        refine zrSkip ?_
        refine zkBlk ?_
        refine zkNil ?_
        exact endQ hS hQ (fN (f68_out z23.1))
    · replace hS := cond_f hc hS
      refine zL 8 14 (zE (zkSeq (zF ?_)))
      refine zrSkip ?_
      refine zkBlk ?_
      refine zkNil ?_
      exact endQ hS hQ (fN (f68_out z19.1))
  · replace hS := cond_f hc hS
    refine zL 1 4 (zE (zkSeq (zF (zrSeq (zrReg (zL 2 2 ?_))))))
    refine zB 40 3 (.cmpI .eql (tm 39) (ki 62)) (decide (a1.Mark = 62)) (fun hc => ?_) (fun hc => ?_)
    · replace hS := cond_t hc hS
      refine zL 3 6 ?_
      refine zlBool (d := 44) (op := (.cmpI .eql (tm 43) (ki 99))) (g := (some (41, true))) (j := 7) (decide (a1.Code = 99)) rfl (by kernel_rfl) (by kernel_rfl) (by kernel_rfl) (fun hc => ?_) (fun hc => ?_)
      · replace hS := cond_t hc hS
        refine zL 3 10 ?_
        refine zlBool (d := 48) (op := (.cmpI .eql (tm 47) (ki 0))) (g := (some (46, true))) (j := 11) (decide (z13 = 0)) rfl (by kernel_rfl) (by kernel_rfl) (by kernel_rfl) (fun hc => ?_) (fun hc => ?_)
        · replace hS := cond_t hc hS
          refine zL 2 13 (zE (zkSeq (zT (zrReg (zL 4 4 ?_)))))
          refine bindE hS (fun z27 hz27 hS => ?_)
          refine zO (v := (.d (.str z27))) (ups := []) (some 54) 5 (.strO .add (tm 53) (.const (.string ⟨#[27, 91, 62, 49, 59, 49, 48, 59, 48, 99]⟩))) (ev_cat (a := a2.sent) (c := [27, 91, 62, 49, 59, 49, 48, 59, 48, 99]) (by kernel_rfl) (by kernel_rfl) hz27) ?_
          refine zL 3 8 (zE ?_)
          refine zkBlk ?_
          refine zkNil ?_
          exact endQ hS hQ (fN (f68_out (Gterminal.mk a2.Screen z27)))
        · replace hS := cond_f hc hS
          refine zL 2 13 (zE (zkSeq (zF ?_)))
          exact f68_j0_ok hd a1 a2 hQ  hS (by kernel_rfl)
      · replace hS := cond_f hc hS
        refine zL 6 13 (zE (zkSeq (zF ?_)))
        exact f68_j0_ok hd a1 a2 hQ  hS (by kernel_rfl)
    · replace hS := cond_f hc hS
      refine zL 10 13 (zE (zkSeq (zF ?_)))
      exact f68_j0_ok hd a1 a2 hQ  hS (by kernel_rfl)
/- (*farwriter/screen.terminal).act -/
def f38_fin (p10 : Gterminal) : St := ⟨(up (up (up u0 1000003 .un) 1000002 .un) 1000001 .un), (up (up (up (up h0 3 ⟨1, some (go2_Gterminal p10)⟩) 2 ⟨1, some (go1_Gterminal p10)⟩) 1 ⟨1, some (go0_Gterminal p10)⟩) 0 ⟨0, some (.box (bm_Gterminal p10 1 1 2 1 3 1))⟩)⟩
theorem f38_out (p10 : Gterminal) : outR (f38_fin p10) 4 c38.res = some ((.tup []), (gb_Gterminal p10 1 2 3)) := by
  kernel_rfl
def f38_Q (r : Gterminal) (e : PX) (st : St) : Prop := DoneF c38 4 ((.tup []), (gb_Gterminal r 1 2 3)) e st
def f38_j0_J (a1 : GAct) (a2 : Gterminal) : St := ⟨(up (up (up (up (up u0 1000003 .un) 1000002 .un) 1000001 .un) 3 (pt 32)) 0 (pt 0)), (up (up (up (up (up h0 32 ⟨0, some (.box (bx_GAct a1 (.d (.sl a1.Args.length ((eInt .i64).cells a1.Args)))))⟩) 3 ⟨1, some (go2_Gterminal a2)⟩) 2 ⟨1, some (go1_Gterminal a2)⟩) 1 ⟨1, some (go0_Gterminal a2)⟩) 0 ⟨0, some (.box (bm_Gterminal a2 1 1 2 1 3 1))⟩)⟩
noncomputable def f38_j0 (a1 : GAct) (a2 : Gterminal) : Option (Gterminal) := (bif (decide (a1.Kind = 3)) then none else (bif (decide (a1.Kind = 5)) then ((libHasPrefix a1.Text [48, 59]).bind fun z7 => (bif z7 then ((sub? a1.Text 2 (a1.Text.length : Int)).bind fun z8 => (some (Gterminal.mk ({ a2.Screen with Title := z8 }) a2.sent))) else ((libHasPrefix a1.Text [50, 59]).bind fun z9 => (bif z9 then ((sub? a1.Text 2 (a1.Text.length : Int)).bind fun z10 => (some (Gterminal.mk ({ a2.Screen with Title := z10 }) a2.sent))) else (some a2))))) else (bif (decide (a1.Kind = 4)) then (bif (decide (a1.Inter = ([] : List UInt8))) then ((f68 a1 a2).bind fun z11 => (some z11)) else (some a2)) else (some a2))))
theorem f38_j0_ok {d : Nat} (hd : 8 ≤ d) (a1 : GAct) (a2 : Gterminal) {r : Gterminal} {Q : PX → St → Prop} (hQ : ∀ e st', f38_Q r e st' → Q e st')  (hS : f38_j0 a1 a2 = some r) {st : St} (he : keepSt [0, 3, 1000001, 1000002, 1000003] [(0, .id 0), (1, .id 1), (2, .id 2), (3, .id 3), (32, .id 32)] [] st = f38_j0_J a1 a2) : ZR (lev codes baseL (d - 1)) Q c38_1 [.blk 0] st := by
  refine zrKeep he ?_
  unfold f38_j0 at hS
  refine zrSeq (zrReg (zL 2 2 ?_))
  refine zB 36 3 (.cmpI .eql (tm 35) (ki 3)) (decide (a1.Kind = 3)) (fun hc => ?_) (fun hc => ?_)
  · replace hS := cond_t hc hS
    refine zL 1 4 (zE (zkSeq (zT (zrReg (zL 5 5 ?_)))))
    cases hS
  · replace hS := cond_f hc hS
    refine zL 1 4 (zE (zkSeq (zF (zrSeq (zrReg (zL 2 2 ?_))))))
    refine zB 46 3 (.cmpI .eql (tm 45) (ki 5)) (decide (a1.Kind = 5)) (fun hc => ?_) (fun hc => ?_)
    · replace hS := cond_t hc hS
      refine zL 1 4 (zE (zkSeq (zT (zrSeq (zrReg (zL 2 2 ?_))))))
      refine bindE hS (fun z7 hz7 hS => ?_)
      refine zO (some 49) 3 (.call 67 [(tm 48), (.const (.string ⟨#[48, 59]⟩))]) (ev_callA (by kernel_rfl) (libHasPrefix_ok (d - 1) (dpt hd rfl) a1.Text [48, 59] z7 hz7) (by kernel_rfl) (by kernel_rfl)) ?_
      refine zL 1 4 ?_
      refine zlSplit 50 z7 (by kernel_rfl) (fun hc => ?_) (fun hc => ?_)
      · replace hS := cond_t hc hS
        refine zL 4 8 (zE (zkSeq (zT (zrReg (zL 3 3 ?_)))))
        refine bindE hS (fun z8 hz8 hS => ?_)
        refine zO (v := (.d (.str z8))) (ups := []) (some 58) 4 (.slStr (tm 57) (.some (ki 2)) .none) (ev_slStr (s := a1.Text) (a := 2) (c := (a1.Text.length : Int)) (by kernel_rfl) (bnd_s _ (kk := .i64) (j := 2) (by kernel_rfl)) (bnd_n _) hz8) ?_
        refine zL 4 8 (zE ?_)
        refine zkBlk ?_
        refine zkNil ?_
        exact endQ hS hQ (fN (f38_out (Gterminal.mk ({ a2.Screen with Title := z8 }) a2.sent)))
      · replace hS := cond_f hc hS
        refine zL 2 6 ?_
        refine bindE hS (fun z9 hz9 hS => ?_)
        refine zlOp (d := some 53) (op := (.call 67 [(tm 52), (.const (.string ⟨#[50, 59]⟩))])) (g := (some (50, false))) (j := 7) rfl (by kernel_rfl) (by kernel_rfl) (ev_callA (by kernel_rfl) (libHasPrefix_ok (d - 1) (dpt hd rfl) a1.Text [50, 59] z9 hz9) (by kernel_rfl) (by kernel_rfl)) ?_
        refine zL 1 8 (zE (zkSeq ?_))
        refine zrSplit 54 z9 (by kernel_rfl) (fun hc => ?_) (fun hc => ?_)
        · replace hS := cond_t hc hS
          refine zT (zrReg (zL 3 3 ?_))
          refine bindE hS (fun z10 hz10 hS => ?_)
          refine zO (v := (.d (.str z10))) (ups := []) (some 58) 4 (.slStr (tm 57) (.some (ki 2)) .none) (ev_slStr (s := a1.Text) (a := 2) (c := (a1.Text.length : Int)) (by kernel_rfl) (bnd_s _ (kk := .i64) (j := 2) (by kernel_rfl)) (bnd_n _) hz10) ?_
          refine zL 4 8 (zE ?_)
          refine zkBlk ?_
          refine zkNil ?_
          exact endQ hS hQ (fN (f38_out (Gterminal.mk ({ a2.Screen with Title := z10 }) a2.sent)))
        · replace hS := cond_f hc hS
          refine zF ?_
          refine zrSkip ?_
          refine zkBlk ?_
          refine zkNil ?_
          exact endQ hS hQ (fN (f38_out a2))
    · replace hS := cond_f hc hS
      refine zL 1 4 (zE (zkSeq (zF (zrSeq (zrReg (zL 2 2 ?_))))))
      refine zB 65 3 (.cmpI .eql (tm 64) (ki 4)) (decide (a1.Kind = 4)) (fun hc => ?_) (fun hc => ?_)
      · replace hS := cond_t hc hS
        refine zL 3 6 ?_
        refine zlBool (d := 69) (op := (.strO .eql (tm 68) (.const (.string ⟨#[]⟩)))) (g := (some (66, true))) (j := 7) (decide (a1.Inter = ([] : List UInt8))) rfl (by kernel_rfl) (by kernel_rfl) (by kernel_rfl) (fun hc => ?_) (fun hc => ?_)
        · replace hS := cond_t hc hS
          refine zL 2 9 (zE (zkSeq (zT (zrReg (zL 2 2 ?_)))))
          refine bindE hS (fun z11 hz11 hS => ?_)
          refine zO (some 73) 3 (.callr 68 [(tm 71), (tm 72)]) (ev_callrA (ids := [0, 1, 2, 3]) (by kernel_rfl) (by kernel_rfl) (by kernel_rfl) (f68_ok (d - 1) (dpt hd rfl) a1 a2 z11 hz11) (by kernel_rfl)) ?_
          refine zE ?_
          refine zkBlk ?_
          refine zkNil ?_
          exact endQ hS hQ (fN (f38_out z11))
        · replace hS := cond_f hc hS
          refine zL 2 9 (zE (zkSeq (zF ?_)))
          refine zrSkip ?_
          refine zkBlk ?_
          refine zkNil ?_
          exact endQ hS hQ (fN (f38_out a2))
      · replace hS := cond_f hc hS
        refine zL 6 9 (zE (zkSeq (zF ?_)))
        refine zrSkip ?_
        refine zkBlk ?_
        refine zkNil ?_
        exact endQ hS hQ (fN (f38_out a2))
noncomputable def f38 (a1 : GAct) (a2 : Gterminal) : Option (Gterminal) := (bif (decide (a1.Kind = 1)) then none else (bif (decide (a1.Kind = 2)) then none else (bif (decide (a1.Kind = 3)) then (bif (decide (a1.Inter = ([] : List UInt8))) then none else (f38_j0 a1 a2 )) else (f38_j0 a1 a2 ))))
theorem f38_ok (d : Nat) (hd : 8 ≤ d) (a1 : GAct) (a2 : Gterminal) (r : Gterminal) (hS : f38 a1 a2 = some r) : lev codes baseL d 38 [(pt 0), (.agg ((dI a1.Kind) :: ((dI a1.Code) :: ((dI a1.Mark) :: ((.d (.str a1.Inter)) :: ((.d (.sl a1.Args.length ((eInt .i64).cells a1.Args))) :: ((.d (.str a1.Text)) :: [])))))))] (gb_Gterminal a2 1 2 3) = some ((.tup []), (gb_Gterminal r 1 2 3)) := by
  refine lev_go codes38 rfl rfl (Nat.le_trans (Nat.le_of_ble_eq_true rfl) hd) fun Q hQ => ?_
  unfold f38 at hS
  show ZR _ Q c38_b [] _
  replace hQ : ∀ e st', f38_Q r e st' → Q e st' := hQ
  refine zrSeq (zrReg (zL 1 1 (zE (zkSeq ?_))))
  refine zrBlk ?_
  refine zrSeq (zrReg (zL 2 2 ?_))
  refine zB 7 3 (.cmpI .eql (tm 6) (ki 1)) (decide (a1.Kind = 1)) (fun hc => ?_) (fun hc => ?_)
  · replace hS := cond_t hc hS
    refine zL 1 4 (zE (zkSeq (zT (zrReg (zL 3 3 ?_)))))
    cases hS
  · replace hS := cond_f hc hS
    refine zL 1 4 (zE (zkSeq (zF (zrSeq (zrReg (zL 2 2 ?_))))))
    refine zB 15 3 (.cmpI .eql (tm 14) (ki 2)) (decide (a1.Kind = 2)) (fun hc => ?_) (fun hc => ?_)
    · replace hS := cond_t hc hS
      refine zL 1 4 (zE (zkSeq (zT (zrReg (zL 3 3 ?_)))))
      cases hS
    · replace hS := cond_f hc hS
      refine zL 1 4 (zE (zkSeq (zF (zrSeq (zrReg (zL 2 2 ?_))))))
      refine zB 23 3 (.cmpI .eql (tm 22) (ki 3)) (decide (a1.Kind = 3)) (fun hc => ?_) (fun hc => ?_)
      · replace hS := cond_t hc hS
        refine zL 3 6 ?_
        refine zlBool (d := 27) (op := (.strO .eql (tm 26) (.const (.string ⟨#[]⟩)))) (g := (some (24, true))) (j := 7) (decide (a1.Inter = ([] : List UInt8))) rfl (by kernel_rfl) (by kernel_rfl) (by kernel_rfl) (fun hc => ?_) (fun hc => ?_)
        · replace hS := cond_t hc hS
          refine zL 2 9 (zE (zkSeq (zT (zrReg (zL 3 3 ?_)))))
          cases hS
        · replace hS := cond_f hc hS
          refine zL 2 9 (zE (zkSeq (zF ?_)))
          exact f38_j0_ok hd a1 a2 hQ  hS (by kernel_rfl)
      · replace hS := cond_f hc hS
        refine zL 6 9 (zE (zkSeq (zF ?_)))
        exact f38_j0_ok hd a1 a2 hQ  hS (by kernel_rfl)
end Go.Proofs.YtjoccdgmcdkbkaaGreatDoor.Pm
