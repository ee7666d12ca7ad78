/- Typed functions, and that the codes are these. Printed by dec.py. -/
import Derived.Test.YtobkkblijfhpoaaGreatDoorDTwE
namespace Go.Proofs.YtobkkblijfhpoaaGreatDoor.Pm
noncomputable section
set_option maxRecDepth 1000000
set_option maxHeartbeats 20000000
set_option linter.unusedVariables false
/- farwriter/qneg.Check -/
def f56_fin (p13 : Int) : St := ⟨(up u0 2 (dI p13)), h0⟩
theorem f56_out (p13 : Int) : outR (f56_fin p13) 0 c56.res = some ((dI p13), []) := by
 kernel_rfl
def f56_Q (r : Int) (e : PX) (st : St) : Prop := DoneF c56 0 ((dI r), []) e st
def f56_l1_J (a1 : GNeg) (x : Int) : St := ⟨(up (up (up (up u0 16 (dI x)) 15 (.agg ((eU8.row 256 a1.Us) ++ []))) 12 (dI 0)) 11 (.agg ((eU8.row 256 a1.Us) ++ ((eU8.row 256 a1.Him) ++ [])))), h0⟩
def f56_l1_H (a1 : GNeg) (x : Int) (st : St) : Prop := keepSt [11, 12, 15, 16] [] [] st = f56_l1_J a1 x
def f56_l1_e2_J (a1 : GNeg) : St := ⟨(up (up u0 12 (dI 0)) 11 (.agg ((eU8.row 256 a1.Us) ++ ((eU8.row 256 a1.Him) ++ [])))), h0⟩
def f56_l1_X (a1 : GNeg) (z : Unit ⊕ Int) (e : PX) (st : St) : Prop := (match z with | .inl z => e = .exit 2 ∧ st = f56_l1_e2_J a1 | .inr z => e = .ret ∧ finSt c56.fin st = f56_fin z)
def f56_l1_j3_J (a1 : GNeg) (p24 : Int) : St := ⟨(up (up (up (up u0 16 (dI p24)) 15 (.agg ((eU8.row 256 a1.Us) ++ []))) 12 (dI 0)) 11 (.agg ((eU8.row 256 a1.Us) ++ ((eU8.row 256 a1.Him) ++ [])))), h0⟩
def f56_l1_j3 (a1 : GNeg) (p24 : Int) : Option (Int ⊕ (Unit ⊕ Int)) := ((inR p24 256).bind fun m28 => ((f101 ((a1.Us m28).toNat : Int)).bind fun z29 => (bif (!z29) then (some (.inr (.inr 4))) else (some (.inl (IntKind.i64.wrap (p24 + 1)))))))
theorem f56_l1_j3_ok {d : Nat} (hd : 2 ≤ d) (a1 : GNeg) {r : Int ⊕ (Unit ⊕ Int)} {Q : PQ} (hQ : FQ (finL (f56_l1_H a1) (f56_l1_X a1) r) Q) (p24 : Int) (hS : f56_l1_j3 a1 p24 = some r) {st : St} (he : keepSt [11, 12, 15, 16] [] [] st = f56_l1_j3_J a1 p24) : ZR (lev codes baseL (d - 1)) Q c56_1 [] st := by
 refine zrKeep he ?_
 unfold f56_l1_j3 at hS
 refine zrSeq (zrBlk (zrSeq (zrReg ?_)))
 refine bindE hS (fun m28 hm28 hS => zO (v := (.d (.int .u8 ((a1.Us m28).toNat : Int)))) (ups := []) (some 18) 1 (.ixV .false 256 1 (tm 15) (tm 16)) (ev_ixV eU8 a1.Us (kk := .i64) (j := p24) (by kernel_rfl) (by kernel_rfl) hm28 rfl (by kernel_rfl) (by kernel_rfl)) (zL 1 2 (zE (zkSeq (zrSeq (zrReg (zL 1 1 ?_)))))))
 refine zO (v := (dI ((a1.Us m28).toNat : Int))) (ups := []) (some 20) 2 (.cvI .i64 (tm 19)) (ev_cv (kk := .u8) (a := ((a1.Us m28).toNat : Int)) (by kernel_rfl) (cv_i64 _)) (bindE hS (fun z29 hz29 hS => zO (some 21) 3 (c1 101 20) (ev_cA (f101_ok (d - 1) (dpt hd rfl) ((a1.Us m28).toNat : Int) z29 hz29)) (zL 1 4 (zE (zkSeq ?_)))))
 refine sR 22 hS (fun hS => ?_) (fun hS => ?_)
 ·refine zT (zrSeq (zrReg (zL 1 1 (zE (zkSeq ?_)))))
  exact zrRet (zkBlkR (zkSeqR (zkNil (eX1 hS hQ))))
 ·refine zF (zrSkip (zkBlk (zkSeq (zrReg (zL 2 2 (zE ?_))))))
  exact zkNil (eN1 hS hQ)
def f56_l1_j2_J (a1 : GNeg) (p22 : Int) (p23 : Bool) : St := ⟨(up (up (up (up (up u0 17 (dB p23)) 16 (dI p22)) 15 (.agg ((eU8.row 256 a1.Us) ++ []))) 12 (dI 0)) 11 (.agg ((eU8.row 256 a1.Us) ++ ((eU8.row 256 a1.Him) ++ [])))), h0⟩
def f56_l1_j2 (a1 : GNeg) (p22 : Int) (p23 : Bool) : Option (Int ⊕ (Unit ⊕ Int)) := (bif p23 then (f56_l1_j3 a1 p22) else (some (.inr (.inl ()))))
theorem f56_l1_j2_ok {d : Nat} (hd : 2 ≤ d) (a1 : GNeg) {r : Int ⊕ (Unit ⊕ Int)} {Q : PQ} (hQ : FQ (finL (f56_l1_H a1) (f56_l1_X a1) r) Q) (p22 : Int) (p23 : Bool) (hS : f56_l1_j2 a1 p22 p23 = some r) {st : St} (he : keepSt [11, 12, 15, 16, 17] [] [] st = f56_l1_j2_J a1 p22 p23) : ZR (lev codes baseL (d - 1)) Q c56_2 [] st := by
 refine zrKeep he ?_
 unfold f56_l1_j2 at hS
 refine zrSeq (sR 17 hS (fun hS => ?_) (fun hS => ?_))
 ·exact zT (zrSkip (zkSeq (f56_l1_j3_ok hd a1 hQ p22 hS (by kernel_rfl))))
 ·exact zF (zrKeep (J := f56_l1_e2_J a1) (by kernel_rfl) (zrExit (zkSeqX (zkNil (eX0 hS hQ)))))
def f56_l1 (a1 : GNeg) (x : Int) : Option (Int ⊕ (Unit ⊕ Int)) := (bif (decide (x < 256)) then (f56_l1_j2 a1 x true) else (f56_l1_j2 a1 x false))
theorem f56_l1_ok {d : Nat} (hd : 2 ≤ d) (a1 : GNeg) {r : Int ⊕ (Unit ⊕ Int)} {Q : PQ} (hQ : FQ (finL (f56_l1_H a1) (f56_l1_X a1) r) Q) {x : Int} (hS : f56_l1 a1 x = some r) {st : St} (he : f56_l1_H a1 x st) : ZR (lev codes baseL (d - 1)) Q c56_3 [] st := by
 refine zrKeep he ?_
 unfold f56_l1 at hS
 refine zrSeq (zrReg ?_)
 refine sB 17 1 (.cmpI .lss (tm 16) (ki 256)) hS (fun hS => ?_) (fun hS => ?_)
 ·refine zE (zkSeq ?_)
  exact f56_l1_j2_ok hd a1 hQ x true hS (by kernel_rfl)
 ·refine zE (zkSeq ?_)
  exact f56_l1_j2_ok hd a1 hQ x false hS (by kernel_rfl)
def f56_l5_J (a1 : GNeg) (x : Int) : St := ⟨(up (up (up (up u0 16 (dI x)) 15 (.agg ((eU8.row 256 a1.Him) ++ []))) 12 (dI 1)) 11 (.agg ((eU8.row 256 a1.Us) ++ ((eU8.row 256 a1.Him) ++ [])))), h0⟩
def f56_l5_H (a1 : GNeg) (x : Int) (st : St) : Prop := keepSt [11, 12, 15, 16] [] [] st = f56_l5_J a1 x
def f56_l5_e2_J (a1 : GNeg) : St := ⟨(up (up u0 12 (dI 1)) 11 (.agg ((eU8.row 256 a1.Us) ++ ((eU8.row 256 a1.Him) ++ [])))), h0⟩
def f56_l5_X (a1 : GNeg) (z : Unit ⊕ Int) (e : PX) (st : St) : Prop := (match z with | .inl z => e = .exit 2 ∧ st = f56_l5_e2_J a1 | .inr z => e = .ret ∧ finSt c56.fin st = f56_fin z)
def f56_l5_j7_J (a1 : GNeg) (p29 : Int) : St := ⟨(up (up (up (up u0 16 (dI p29)) 15 (.agg ((eU8.row 256 a1.Him) ++ []))) 12 (dI 1)) 11 (.agg ((eU8.row 256 a1.Us) ++ ((eU8.row 256 a1.Him) ++ [])))), h0⟩
def f56_l5_j7 (a1 : GNeg) (p29 : Int) : Option (Int ⊕ (Unit ⊕ Int)) := ((inR p29 256).bind fun m33 => ((f101 ((a1.Him m33).toNat : Int)).bind fun z34 => (bif (!z34) then (some (.inr (.inr 4))) else (some (.inl (IntKind.i64.wrap (p29 + 1)))))))
theorem f56_l5_j7_ok {d : Nat} (hd : 2 ≤ d) (a1 : GNeg) {r : Int ⊕ (Unit ⊕ Int)} {Q : PQ} (hQ : FQ (finL (f56_l5_H a1) (f56_l5_X a1) r) Q) (p29 : Int) (hS : f56_l5_j7 a1 p29 = some r) {st : St} (he : keepSt [11, 12, 15, 16] [] [] st = f56_l5_j7_J a1 p29) : ZR (lev codes baseL (d - 1)) Q c56_1 [] st := by
 refine zrKeep he ?_
 unfold f56_l5_j7 at hS
 refine zrSeq (zrBlk (zrSeq (zrReg ?_)))
 refine bindE hS (fun m33 hm33 hS => zO (v := (.d (.int .u8 ((a1.Him m33).toNat : Int)))) (ups := []) (some 18) 1 (.ixV .false 256 1 (tm 15) (tm 16)) (ev_ixV eU8 a1.Him (kk := .i64) (j := p29) (by kernel_rfl) (by kernel_rfl) hm33 rfl (by kernel_rfl) (by kernel_rfl)) (zL 1 2 (zE (zkSeq (zrSeq (zrReg (zL 1 1 ?_)))))))
 refine zO (v := (dI ((a1.Him m33).toNat : Int))) (ups := []) (some 20) 2 (.cvI .i64 (tm 19)) (ev_cv (kk := .u8) (a := ((a1.Him m33).toNat : Int)) (by kernel_rfl) (cv_i64 _)) (bindE hS (fun z34 hz34 hS => zO (some 21) 3 (c1 101 20) (ev_cA (f101_ok (d - 1) (dpt hd rfl) ((a1.Him m33).toNat : Int) z34 hz34)) (zL 1 4 (zE (zkSeq ?_)))))
 refine sR 22 hS (fun hS => ?_) (fun hS => ?_)
 ·refine zT (zrSeq (zrReg (zL 1 1 (zE (zkSeq ?_)))))
  exact zrRet (zkBlkR (zkSeqR (zkNil (eX1 hS hQ))))
 ·refine zF (zrSkip (zkBlk (zkSeq (zrReg (zL 2 2 (zE ?_))))))
  exact zkNil (eN1 hS hQ)
def f56_l5_j6_J (a1 : GNeg) (p27 : Int) (p28 : Bool) : St := ⟨(up (up (up (up (up u0 17 (dB p28)) 16 (dI p27)) 15 (.agg ((eU8.row 256 a1.Him) ++ []))) 12 (dI 1)) 11 (.agg ((eU8.row 256 a1.Us) ++ ((eU8.row 256 a1.Him) ++ [])))), h0⟩
def f56_l5_j6 (a1 : GNeg) (p27 : Int) (p28 : Bool) : Option (Int ⊕ (Unit ⊕ Int)) := (bif p28 then (f56_l5_j7 a1 p27) else (some (.inr (.inl ()))))
theorem f56_l5_j6_ok {d : Nat} (hd : 2 ≤ d) (a1 : GNeg) {r : Int ⊕ (Unit ⊕ Int)} {Q : PQ} (hQ : FQ (finL (f56_l5_H a1) (f56_l5_X a1) r) Q) (p27 : Int) (p28 : Bool) (hS : f56_l5_j6 a1 p27 p28 = some r) {st : St} (he : keepSt [11, 12, 15, 16, 17] [] [] st = f56_l5_j6_J a1 p27 p28) : ZR (lev codes baseL (d - 1)) Q c56_2 [] st := by
 refine zrKeep he ?_
 unfold f56_l5_j6 at hS
 refine zrSeq (sR 17 hS (fun hS => ?_) (fun hS => ?_))
 ·exact zT (zrSkip (zkSeq (f56_l5_j7_ok hd a1 hQ p27 hS (by kernel_rfl))))
 ·exact zF (zrKeep (J := f56_l5_e2_J a1) (by kernel_rfl) (zrExit (zkSeqX (zkNil (eX0 hS hQ)))))
def f56_l5 (a1 : GNeg) (x : Int) : Option (Int ⊕ (Unit ⊕ Int)) := (bif (decide (x < 256)) then (f56_l5_j6 a1 x true) else (f56_l5_j6 a1 x false))
theorem f56_l5_ok {d : Nat} (hd : 2 ≤ d) (a1 : GNeg) {r : Int ⊕ (Unit ⊕ Int)} {Q : PQ} (hQ : FQ (finL (f56_l5_H a1) (f56_l5_X a1) r) Q) {x : Int} (hS : f56_l5 a1 x = some r) {st : St} (he : f56_l5_H a1 x st) : ZR (lev codes baseL (d - 1)) Q c56_3 [] st := by
 refine zrKeep he ?_
 unfold f56_l5 at hS
 refine zrSeq (zrReg ?_)
 refine sB 17 1 (.cmpI .lss (tm 16) (ki 256)) hS (fun hS => ?_) (fun hS => ?_)
 ·refine zE (zkSeq ?_)
  exact f56_l5_j6_ok hd a1 hQ x true hS (by kernel_rfl)
 ·refine zE (zkSeq ?_)
  exact f56_l5_j6_ok hd a1 hQ x false hS (by kernel_rfl)
def f56_j4_J (a1 : GNeg) : St := ⟨(up (up u0 12 (dI 1)) 11 (.agg ((eU8.row 256 a1.Us) ++ ((eU8.row 256 a1.Him) ++ [])))), h0⟩
def f56_j4 (a1 : GNeg) : Option (Int) := ((loopO (f56_l5 a1) 0).bind fun z35 => (Sum.elim (fun z36 => (some 0)) (fun z37 => (some z37)) z35))
theorem f56_j4_ok {d : Nat} (hd : 2 ≤ d) (a1 : GNeg) {r : Int} {Q : PQ} (hQ : FQ (f56_Q r) Q)  (hS : f56_j4 a1 = some r) {st : St} (he : keepSt [11, 12] [] [] st = f56_j4_J a1) : ZR (lev codes baseL (d - 1)) Q c56_4 [.seq c56_5, .blk 0, .seq c56_6] st := by
 refine zrKeep he ?_
 unfold f56_j4 at hS
 refine zrSeq (zrBlk (zrSeq (zrReg (zL 3 3 (zE (zkSeq (zrSeq (zrReg (zL 2 2 (zE (zkSeq ?_)))))))))))
 refine zrBlk (bindE hS (fun z35 hz35 hS => zrLoop (f56_l5_H a1) (f56_l5_X a1) (fun x st r Q h0 hS hQ => f56_l5_ok hd a1 hQ hS h0) (x := 0) (z := z35) (by show keepSt _ _ _ _ = _; kernel_rfl) hz35 ?_))
 rcases z35 with z36 | z37
 ·replace hS := (show _ = _ from hS)
  simp only [Sum.elim_inl] at hS
  intro e st' _ hX
  obtain ⟨rfl, rfl⟩ : _ ∧ _ := hX
  refine zkBlkX (zkBlk (zkSeq (zrReg (zL 2 2 (zE (zkSeq ?_))))))
  refine zrLoop1 (zrSeq (zrReg (zL 1 1 (zE (zkSeq (zrSeq (zF ?_)))))))
  refine zrExit (zkSeqX (zkSeqX (zkBlkX (zkSeq (zrSeq (zrReg (zL 1 1 (zE (zkSeq ?_)))))))))
  exact zrRet (zkNil (endQ hS hQ (fR (f56_out 0))))
 ·simp only [Sum.elim_inr] at hS
  intro e st' _ hX
  obtain ⟨rfl, hX⟩ : _ ∧ _ := hX
  exact zkBlkR (zkBlkR (zkSeqR (zkSeqR (zkBlkR (zkSeqR (zkNil (endQ hS hQ (fRet (by kernel_rfl) ((congrArg (fun s => outR s 0 c56.res) hX).trans (f56_out z37))))))))))
def f56_j0_J (a1 : GNeg) : St := ⟨(up (up u0 12 (dI 0)) 11 (.agg ((eU8.row 256 a1.Us) ++ ((eU8.row 256 a1.Him) ++ [])))), h0⟩
def f56_j0 (a1 : GNeg) : Option (Int) := ((loopO (f56_l1 a1) 0).bind fun z30 => (Sum.elim (fun z31 => (f56_j4 a1 )) (fun z32 => (some z32)) z30))
theorem f56_j0_ok {d : Nat} (hd : 2 ≤ d) (a1 : GNeg) {r : Int} {Q : PQ} (hQ : FQ (f56_Q r) Q)  (hS : f56_j0 a1 = some r) {st : St} (he : keepSt [11, 12] [] [] st = f56_j0_J a1) : ZR (lev codes baseL (d - 1)) Q c56_4 [.seq c56_5, .blk 0, .seq c56_6] st := by
 refine zrKeep he ?_
 unfold f56_j0 at hS
 refine zrSeq (zrBlk (zrSeq (zrReg (zL 3 3 (zE (zkSeq (zrSeq (zrReg (zL 2 2 (zE (zkSeq ?_)))))))))))
 refine zrBlk (bindE hS (fun z30 hz30 hS => zrLoop (f56_l1_H a1) (f56_l1_X a1) (fun x st r Q h0 hS hQ => f56_l1_ok hd a1 hQ hS h0) (x := 0) (z := z30) (by show keepSt _ _ _ _ = _; kernel_rfl) hz30 ?_))
 rcases z30 with z31 | z32
 ·replace hS := (show _ = _ from hS)
  simp only [Sum.elim_inl] at hS
  intro e st' _ hX
  obtain ⟨rfl, rfl⟩ : _ ∧ _ := hX
  refine zkBlkX (zkBlk (zkSeq (zrReg (zL 2 2 (zE (zkSeq ?_))))))
  refine zrLoop1 (zrSeq (zrReg (zL 1 1 (zE (zkSeq (zrSeq (zT ?_)))))))
  exact zrSkip (zkSeq (f56_j4_ok hd a1 hQ  hS (by kernel_rfl)))
 ·simp only [Sum.elim_inr] at hS
  intro e st' _ hX
  obtain ⟨rfl, hX⟩ : _ ∧ _ := hX
  exact zkBlkR (zkBlkR (zkSeqR (zkSeqR (zkBlkR (zkSeqR (zkNil (endQ hS hQ (fRet (by kernel_rfl) ((congrArg (fun s => outR s 0 c56.res) hX).trans (f56_out z32))))))))))
def f56 (a1 : GNeg) : Option (Int) := (f56_j0 a1 )
theorem f56_ok (d : Nat) (hd : 2 ≤ d) (a1 : GNeg) (r : Int) (hS : f56 a1 = some r) : lev codes baseL d 56 [(.agg ((eU8.row 256 a1.Us) ++ ((eU8.row 256 a1.Him) ++ (((eInt .u64).row 4 a1.UsOk) ++ (((eInt .u64).row 4 a1.HimOk) ++ [])))))] [] = some ((dI r), []) := by
 refine lev_go codes56 rfl rfl (Nat.le_trans (Nat.le_of_ble_eq_true rfl) hd) fun Q hQ => ?_
 unfold f56 at hS
 show ZR _ Q c56_b [] _
 replace hQ : FQ (f56_Q r) Q := hQ
 refine zrSeq (zrReg (zL 2 2 (zE (zkSeq (zrSeq (zrSeq (zrReg (zL 6 6 (zE (zkSeq ?_))))))))))
 refine zrBlk (zrLoop1 (zrSeq (zrReg (zL 1 1 (zE (zkSeq (zrSeq (zT ?_))))))))
 exact zrSkip (zkSeq (f56_j0_ok hd a1 hQ  hS (by kernel_rfl)))
/- farwriter/slc.Check -/
def f57_fin  : St := ⟨(up u0 2 (dI 0)), h0⟩
theorem f57_out  : outR (f57_fin ) 0 c57.res = some ((dI 0), []) := by
 kernel_rfl
def f57_Q (r : Unit) (e : PX) (st : St) : Prop := DoneF c57 0 ((dI 0), []) e st
def f57_j0_J (a1 : GKeys) : St := ⟨(up u0 1 (pt 16)), (up h0 16 ⟨0, some (.box ((eU8.row 19 a1.Levels) ++ ((eU8.row 19 a1.Chars) ++ [])))⟩)⟩
def f57_j0 (a1 : GKeys) : Option (Unit) := (bif (!decide (((a1.Levels 0).toNat : Int) = 0)) then none else (bif (!decide (((a1.Chars 0).toNat : Int) = 0)) then none else (some ())))
theorem f57_j0_ok {d : Nat} (hd : 1 ≤ d) (a1 : GKeys) {r : Unit} {Q : PQ} (hQ : FQ (f57_Q r) Q)  (hS : f57_j0 a1 = some r) {st : St} (he : keepSt [1] [(16, .id 16)] [] st = f57_j0_J a1) : ZR (lev codes baseL (d - 1)) Q c57_1 [] st := by
 refine zrKeep he ?_
 unfold f57_j0 at hS
 refine zrSeq (zrSeq (zrReg (zL 3 3 ?_)))
 refine sB 16 4 (.cmpI .neq (tm 15) (.const (.int .u8 0))) hS (fun hS => ?_) (fun hS => ?_)
 ·cases hS
 ·refine zL 4 8 (sH 21 9 17 false (.cmpI .neq (tm 20) (.const (.int .u8 0))) hS (fun hS => ?_) (fun hS => ?_))
  ·cases hS
  ·refine zL 1 10 (zE (zkSeq (zF ?_)))
   refine zrSkip (zkSeq (zrSeq (zrReg (zL 1 1 (zE (zkSeq ?_))))))
   exact zrRet (zkNil (endQ hS hQ (fR (f57_out ))))
def f57_l1_J (a1 : GKeys) (x : Int) : St := ⟨(up (up (up u0 7 (dI x)) 6 (.agg ((eU8.row 19 a1.Levels) ++ []))) 1 (pt 16)), (up h0 16 ⟨0, some (.box ((eU8.row 19 a1.Levels) ++ ((eU8.row 19 a1.Chars) ++ [])))⟩)⟩
def f57_l1_H (a1 : GKeys) (x : Int) (st : St) : Prop := keepSt [1, 6, 7] [(16, .id 16)] [] st = f57_l1_J a1 x
def f57_l1_e0_J (a1 : GKeys) : St := ⟨(up u0 1 (pt 16)), (up h0 16 ⟨0, some (.box ((eU8.row 19 a1.Levels) ++ ((eU8.row 19 a1.Chars) ++ [])))⟩)⟩
def f57_l1_X (a1 : GKeys) (z : Unit) (e : PX) (st : St) : Prop := e = .exit 0 ∧ st = f57_l1_e0_J a1
def f57_l1_j3_J (a1 : GKeys) (p11 : Int) : St := ⟨(up (up (up u0 7 (dI p11)) 6 (.agg ((eU8.row 19 a1.Levels) ++ []))) 1 (pt 16)), (up h0 16 ⟨0, some (.box ((eU8.row 19 a1.Levels) ++ ((eU8.row 19 a1.Chars) ++ [])))⟩)⟩
def f57_l1_j3 (a1 : GKeys) (p11 : Int) : Option (Int ⊕ Unit) := ((inR p11 19).bind fun m3 => (bif (decide (2 < ((a1.Levels m3).toNat : Int))) then none else (some (.inl (IntKind.i64.wrap (p11 + 1))))))
theorem f57_l1_j3_ok {d : Nat} (hd : 1 ≤ d) (a1 : GKeys) {r : Int ⊕ Unit} {Q : PQ} (hQ : FQ (finL (f57_l1_H a1) (f57_l1_X a1) r) Q) (p11 : Int) (hS : f57_l1_j3 a1 p11 = some r) {st : St} (he : keepSt [1, 6, 7] [(16, .id 16)] [] st = f57_l1_j3_J a1 p11) : ZR (lev codes baseL (d - 1)) Q c57_2 [] st := by
 refine zrKeep he ?_
 unfold f57_l1_j3 at hS
 refine zrSeq (zrBlk (zrSeq (zrReg ?_)))
 refine bindE hS (fun m3 hm3 hS => zO (v := (.d (.int .u8 ((a1.Levels m3).toNat : Int)))) (ups := []) (some 9) 1 (.ixV .false 19 1 (tm 6) (tm 7)) (ev_ixV eU8 a1.Levels (kk := .i64) (j := p11) (by kernel_rfl) (by kernel_rfl) hm3 rfl (by kernel_rfl) (by kernel_rfl)) (zL 1 2 (zE (zkSeq (zrSeq (zrReg (zL 1 1 ?_)))))))
 refine sB 11 2 (.cmpI .gtr (tm 10) (.const (.int .u8 2))) hS (fun hS => ?_) (fun hS => ?_)
 ·cases hS
 ·refine zE (zkSeq (zF ?_))
  refine zrSkip (zkBlk (zkSeq (zrReg (zL 2 2 (zE ?_)))))
  exact zkNil (eN1 hS hQ)
def f57_l1_j2_J (a1 : GKeys) (p9 : Int) (p10 : Bool) : St := ⟨(up (up (up (up u0 8 (dB p10)) 7 (dI p9)) 6 (.agg ((eU8.row 19 a1.Levels) ++ []))) 1 (pt 16)), (up h0 16 ⟨0, some (.box ((eU8.row 19 a1.Levels) ++ ((eU8.row 19 a1.Chars) ++ [])))⟩)⟩
def f57_l1_j2 (a1 : GKeys) (p9 : Int) (p10 : Bool) : Option (Int ⊕ Unit) := (bif p10 then (f57_l1_j3 a1 p9) else (some (.inr ())))
theorem f57_l1_j2_ok {d : Nat} (hd : 1 ≤ d) (a1 : GKeys) {r : Int ⊕ Unit} {Q : PQ} (hQ : FQ (finL (f57_l1_H a1) (f57_l1_X a1) r) Q) (p9 : Int) (p10 : Bool) (hS : f57_l1_j2 a1 p9 p10 = some r) {st : St} (he : keepSt [1, 6, 7, 8] [(16, .id 16)] [] st = f57_l1_j2_J a1 p9 p10) : ZR (lev codes baseL (d - 1)) Q c57_3 [] st := by
 refine zrKeep he ?_
 unfold f57_l1_j2 at hS
 refine zrSeq (sR 8 hS (fun hS => ?_) (fun hS => ?_))
 ·exact zT (zrSkip (zkSeq (f57_l1_j3_ok hd a1 hQ p9 hS (by kernel_rfl))))
 ·exact zF (zrKeep (J := f57_l1_e0_J a1) (by kernel_rfl) (zrExit (zkSeqX (zkNil (eX0 hS hQ)))))
def f57_l1 (a1 : GKeys) (x : Int) : Option (Int ⊕ Unit) := (bif (decide (x < 19)) then (f57_l1_j2 a1 x true) else (f57_l1_j2 a1 x false))
theorem f57_l1_ok {d : Nat} (hd : 1 ≤ d) (a1 : GKeys) {r : Int ⊕ Unit} {Q : PQ} (hQ : FQ (finL (f57_l1_H a1) (f57_l1_X a1) r) Q) {x : Int} (hS : f57_l1 a1 x = some r) {st : St} (he : f57_l1_H a1 x st) : ZR (lev codes baseL (d - 1)) Q c57_4 [] st := by
 refine zrKeep he ?_
 unfold f57_l1 at hS
 refine zrSeq (zrReg ?_)
 refine sB 8 1 (.cmpI .lss (tm 7) (ki 19)) hS (fun hS => ?_) (fun hS => ?_)
 ·refine zE (zkSeq ?_)
  exact f57_l1_j2_ok hd a1 hQ x true hS (by kernel_rfl)
 ·refine zE (zkSeq ?_)
  exact f57_l1_j2_ok hd a1 hQ x false hS (by kernel_rfl)
def f57 (a1 : GKeys) : Option (Unit) := ((loopO (f57_l1 a1) 0).bind fun z4 => (f57_j0 a1 ))
theorem f57_ok (d : Nat) (hd : 1 ≤ d) (a1 : GKeys) (r : Unit) (hS : f57 a1 = some r) : lev codes baseL d 57 [(.agg ((eU8.row 19 a1.Levels) ++ ((eU8.row 19 a1.Chars) ++ [])))] [] = some ((dI 0), []) := by
 refine lev_go codes57 rfl rfl (Nat.le_trans (Nat.le_of_ble_eq_true rfl) hd) fun Q hQ => ?_
 unfold f57 at hS
 show ZR _ Q c57_b [] _
 replace hQ : FQ (f57_Q r) Q := hQ
 refine zrSeq (zrReg (zL 2 2 (zE (zkSeq (zrSeq (zrSeq (zrReg (zL 3 3 (zE (zkSeq ?_))))))))))
 refine zrBlk (bindE hS (fun z4 hz4 hS => zrLoop (f57_l1_H a1) (f57_l1_X a1) (fun x st r Q h0 hS hQ => f57_l1_ok hd a1 hQ hS h0) (x := 0) (z := z4) (by show keepSt _ _ _ _ = _; kernel_rfl) hz4 ?_))
 intro e st' _ hX
 obtain ⟨rfl, rfl⟩ : _ ∧ _ := hX
 exact zkBlkX (zkSeq (f57_j0_ok hd a1 hQ  hS (by kernel_rfl)))
/- farwriter/line.Check -/
def f58_fin  : St := ⟨(up u0 2 (dI 0)), h0⟩
theorem f58_out  : outR (f58_fin ) 0 c58.res = some ((dI 0), []) := by
 kernel_rfl
def f58_Q (r : Unit) (e : PX) (st : St) : Prop := DoneF c58 0 ((dI 0), []) e st
def f58 (a1 : GEditor) : Option (Unit) := (bif (decide (1024 ≤ (a1.Buf.length : Int))) then none else (some ()))
theorem f58_ok (d : Nat) (hd : 1 ≤ d) (a1 : GEditor) (r : Unit) (hS : f58 a1 = some r) : lev codes baseL d 58 [(.agg ((.d (.str a1.Buf)) :: ((dB a1.Quote) :: [])))] [] = some ((dI 0), []) := by
 refine lev_go codes58 rfl rfl (Nat.le_trans (Nat.le_of_ble_eq_true rfl) hd) fun Q hQ => ?_
 unfold f58 at hS
 show ZR _ Q c58_b [] _
 replace hQ : FQ (f58_Q r) Q := hQ
 refine zrSeq (zrReg (zL 2 2 (zE (zkSeq (zrSeq (zrSeq (zrReg (zL 3 3 ?_))))))))
 refine sB 6 4 (.cmpI .geq (tm 5) (ki 1024)) hS (fun hS => ?_) (fun hS => ?_)
 ·cases hS
 ·refine zE (zkSeq (zF ?_))
  refine zrSkip (zkSeq (zrSeq (zrReg (zL 1 1 (zE (zkSeq ?_))))))
  exact zrRet (zkNil (endQ hS hQ (fR (f58_out ))))
/- farwriter/client.Check -/
def f28_fin  : St := ⟨(up u0 2 (dI 0)), h0⟩
theorem f28_out  : outR (f28_fin ) 0 c28.res = some ((dI 0), []) := by
 kernel_rfl
def f28_Q (r : Unit) (e : PX) (st : St) : Prop := DoneF c28 0 ((dI 0), []) e st
def f28_l0_J (a1 : GClient) (x : (Nat → Int) × Int) : St := ⟨(up (up u0 39 (dI x.2)) 38 (.agg ((eI.row 9 x.1) ++ []))), h0⟩
def f28_l0_H (a1 : GClient) (x : (Nat → Int) × Int) (st : St) : Prop := keepSt [38, 39] [] [] st = f28_l0_J a1 x
def f28_l0_e0_J (a1 : GClient) : St := ⟨u0, h0⟩
def f28_l0_X (a1 : GClient) (z : Unit) (e : PX) (st : St) : Prop := e = .exit 0 ∧ st = f28_l0_e0_J a1
def f28_l0_j2_J (a1 : GClient) (p29 : Nat → Int) (p30 : Int) : St := ⟨(up (up u0 39 (dI p30)) 38 (.agg ((eI.row 9 p29) ++ []))), h0⟩
def f28_l0_j2 (a1 : GClient) (p29 : Nat → Int) (p30 : Int) : Option (((Nat → Int) × Int) ⊕ Unit) := ((inR p30 9).bind fun m23 => (bif (!decide ((p29 m23) = 0)) then none else (some (.inl (p29, (IntKind.i64.wrap (p30 + 1)))))))
theorem f28_l0_j2_ok {d : Nat} (hd : 6 ≤ d) (a1 : GClient) {r : ((Nat → Int) × Int) ⊕ Unit} {Q : PQ} (hQ : FQ (finL (f28_l0_H a1) (f28_l0_X a1) r) Q) (p29 : Nat → Int) (p30 : Int) (hS : f28_l0_j2 a1 p29 p30 = some r) {st : St} (he : keepSt [38, 39] [] [] st = f28_l0_j2_J a1 p29 p30) : ZR (lev codes baseL (d - 1)) Q c28_1 [] st := by
 refine zrKeep he ?_
 unfold f28_l0_j2 at hS
 refine zrSeq (zrBlk (zrSeq (zrReg ?_)))
 refine bindE hS (fun m23 hm23 hS => zO (v := (dI (p29 m23))) (ups := []) (some 41) 1 (.ixV .false 9 1 (tm 38) (tm 39)) (ev_ixV eI p29 (kk := .i64) (j := p30) (by kernel_rfl) (by kernel_rfl) hm23 rfl (by kernel_rfl) (by kernel_rfl)) (zL 1 2 (zE (zkSeq (zrSeq (zrReg (zL 1 1 ?_)))))))
 refine sB 43 2 (.cmpI .neq (tm 42) (ki 0)) hS (fun hS => ?_) (fun hS => ?_)
 ·cases hS
 ·refine zE (zkSeq (zF ?_))
  refine zrSkip (zkBlk (zkSeq (zrReg (zL 2 2 (zE ?_)))))
  exact zkNil (eN1 hS hQ)
def f28_l0_j1_J (a1 : GClient) (p26 : Nat → Int) (p27 : Int) (p28 : Bool) : St := ⟨(up (up (up u0 40 (dB p28)) 39 (dI p27)) 38 (.agg ((eI.row 9 p26) ++ []))), h0⟩
def f28_l0_j1 (a1 : GClient) (p26 : Nat → Int) (p27 : Int) (p28 : Bool) : Option (((Nat → Int) × Int) ⊕ Unit) := (bif p28 then (f28_l0_j2 a1 p26 p27) else (some (.inr ())))
theorem f28_l0_j1_ok {d : Nat} (hd : 6 ≤ d) (a1 : GClient) {r : ((Nat → Int) × Int) ⊕ Unit} {Q : PQ} (hQ : FQ (finL (f28_l0_H a1) (f28_l0_X a1) r) Q) (p26 : Nat → Int) (p27 : Int) (p28 : Bool) (hS : f28_l0_j1 a1 p26 p27 p28 = some r) {st : St} (he : keepSt [38, 39, 40] [] [] st = f28_l0_j1_J a1 p26 p27 p28) : ZR (lev codes baseL (d - 1)) Q c28_2 [] st := by
 refine zrKeep he ?_
 unfold f28_l0_j1 at hS
 refine zrSeq (sR 40 hS (fun hS => ?_) (fun hS => ?_))
 ·exact zT (zrSkip (zkSeq (f28_l0_j2_ok hd a1 hQ p26 p27 hS (by kernel_rfl))))
 ·exact zF (zrKeep (J := f28_l0_e0_J a1) (by kernel_rfl) (zrExit (zkSeqX (zkNil (eX0 hS hQ)))))
def f28_l0 (a1 : GClient) (x : (Nat → Int) × Int) : Option (((Nat → Int) × Int) ⊕ Unit) := (bif (decide (x.2 < 9)) then (f28_l0_j1 a1 x.1 x.2 true) else (f28_l0_j1 a1 x.1 x.2 false))
theorem f28_l0_ok {d : Nat} (hd : 6 ≤ d) (a1 : GClient) {r : ((Nat → Int) × Int) ⊕ Unit} {Q : PQ} (hQ : FQ (finL (f28_l0_H a1) (f28_l0_X a1) r) Q) {x : (Nat → Int) × Int} (hS : f28_l0 a1 x = some r) {st : St} (he : f28_l0_H a1 x st) : ZR (lev codes baseL (d - 1)) Q c28_3 [] st := by
 refine zrKeep he ?_
 unfold f28_l0 at hS
 refine zrSeq (zrReg ?_)
 refine sB 40 1 (.cmpI .lss (tm 39) (ki 9)) hS (fun hS => ?_) (fun hS => ?_)
 ·refine zE (zkSeq ?_)
  exact f28_l0_j1_ok hd a1 hQ x.1 x.2 true hS (by kernel_rfl)
 ·refine zE (zkSeq ?_)
  exact f28_l0_j1_ok hd a1 hQ x.1 x.2 false hS (by kernel_rfl)
def f28 (a1 : GClient) : Option (Unit) := ((f27 a1.Vars).bind fun z12 => ((f52 a1.Wire).bind fun z13 => ((f53 a1.Part).bind fun z14 => ((f54 a1.Psr).bind fun z15 => ((f55 a1.Screen).bind fun z16 => ((f56 a1.Neg).bind fun z17 => ((f26 a1.Sorts).bind fun z18 => ((f57 a1.Keys).bind fun z19 => ((f58 a1.Editor).bind fun z20 => ((loopO (f28_l0 a1) ((fun i => ([z13, 0, 0, 0, z17, 0, 0, 0, 0] : List Int).getD i 0), 0)).bind fun z24 => (some ())))))))))))
theorem f28_ok (d : Nat) (hd : 6 ≤ d) (a1 : GClient) (r : Unit) (hS : f28 a1 = some r) : lev codes baseL d 28 [(.agg (bd_GClient a1))] [] = some ((dI 0), []) := by
 refine lev_go codes28 rfl rfl (Nat.le_trans (Nat.le_of_ble_eq_true rfl) hd) fun Q hQ => ?_
 unfold f28 at hS
 show ZR _ Q c28_b [] _
 replace hQ : FQ (f28_Q r) Q := hQ
 refine zrSeq (zrReg (zL 2 2 (zE (zkSeq (zrSeq (zrReg (zL 2 2 ?_)))))))
 refine bindE hS (fun z12 hz12 hS => zO (some 10) 3 (c1 27 9) (ev_cA (f27_ok (d - 1) (dpt hd rfl) a1.Vars z12 hz12)) (zL 5 8 (zE (zkSeq (zrSeq (zrSeq ?_))))))
 refine zrRegD (zdR 2 2 (bindE hS (fun z13 hz13 hS => zdO (some 15) 3 none (c1 52 14) (ev_cA (f52_ok (d - 1) (dpt hd rfl) a1.Wire z13 hz13)) (zdR 2 5 (bindE hS (fun z14 hz14 hS => zdO (some 18) 6 none (c1 53 17) (ev_cA (f53_ok (d - 1) (dpt hd rfl) a1.Part z14 hz14)) (zdR 2 8 (bindE hS (fun z15 hz15 hS => zdO (some 21) 9 none (c1 54 20) (ev_cA (f54_ok (d - 1) (dpt hd rfl) a1.Psr z15 hz15)) (zdR 2 11 (bindE hS (fun z16 hz16 hS => zdO (some 24) 12 none (c1 55 23) (ev_cA (f55_ok (d - 1) (dpt hd rfl) a1.Screen z16 hz16)) (zdR 2 14 (bindE hS (fun z17 hz17 hS => zdO (some 27) 15 none (c1 56 26) (ev_cA (f56_ok (d - 1) (dpt hd rfl) a1.Neg z17 hz17)) (zdR 2 17 (bindE hS (fun z18 hz18 hS => zdO (some 30) 18 none (c1 26 29) (ev_cA (f26_ok (d - 1) (dpt hd rfl) a1.Sorts z18 hz18)) (zdR 3 21 (bindE hS (fun z19 hz19 hS => zdO (some 34) 22 none (c1 57 33) (ev_cA (f57_ok (d - 1) (dpt hd rfl) a1.Keys z19 hz19)) (zdR 2 24 (bindE hS (fun z20 hz20 hS => zdO (some 37) 25 none (c1 58 36) (ev_cA (f58_ok (d - 1) (dpt hd rfl) a1.Editor z20 hz20)) (zdR 2 27 (zdE (zkSeq (zrBlk (bindE hS (fun z24 hz24 hS => zrLoop (f28_l0_H a1) (f28_l0_X a1) (fun x st r Q h0 hS hQ => f28_l0_ok hd a1 hQ hS h0) (x := ((fun i => ([z13, 0, 0, 0, z17, 0, 0, 0, 0] : List Int).getD i 0), 0)) (z := z24) (by show keepSt _ _ _ _ = _; kernel_rfl) hz24 ?_))))))))))))))))))))))))))))))
 intro e st' _ hX
 obtain ⟨rfl, rfl⟩ : _ ∧ _ := hX
 refine zkBlkX (zkSeq (zrSeq (zrReg (zL 1 1 (zE (zkSeq ?_))))))
 exact zrRet (zkNil (endQ hS hQ (fR (f28_out ))))
/- farwriter/screen.Clone -/
def f59_fin (p20 : GScreen) : St := ⟨(up u0 2 (pt 24)), (gh_GScreen h0 p20 24 72 96 32)⟩
theorem f59_out (p20 : GScreen) : outR (f59_fin p20) 0 c59.res = some ((.agg (bw_GScreen p20)), []) := by
 exact out_of (ids := []) (ids' := [72, 96, 32]) (l := [(.agg (bm_GScreen p20 72 0 96 0 32 0))]) (by kernel_rfl) (by kernel_rfl) (o_agg (o_cons rfl (o_cons rfl (o_cons (o_own e_GCell (e := 100) (k := 4) (xs := p20.Grid.Cells) (by kernel_rfl) rfl rfl rfl rfl) (o_cons rfl (o_cons rfl (o_cons rfl (o_cons rfl (o_cons rfl (o_cons rfl (o_cons rfl (o_cons rfl (o_cons rfl (o_app (o_row (eInt .u64)) (o_cons rfl (o_cons rfl (o_cons rfl (o_cons rfl (o_cons rfl (o_cons rfl (o_cons rfl (o_cons rfl (o_cons rfl (o_cons rfl (o_cons rfl (o_cons rfl (o_cons rfl (o_cons rfl (o_cons (o_own e_GCell (e := 100) (k := 4) (xs := p20.Other.Cells) (by kernel_rfl) rfl rfl rfl rfl) (o_cons rfl (o_cons (o_own e_GLine (e := 91) (k := 1) (xs := p20.Past) (by kernel_rfl) rfl rfl rfl rfl) o_nil)))))))))))))))))))))))))))))))
def f59_Q (r : GScreen) (e : PX) (st : St) : Prop := DoneF c59 0 ((.agg (bw_GScreen r)), []) e st
def f59_l0_J (a1 : GScreen) (x : GScreen × (List GLine) × Int) : St := ⟨(up (up (up (up (up (up u0 17 (dI x.2.2)) 16 (dI (a1.Past.length : Int))) 15 (gd2_GScreen a1)) 3 (.r (.msl 32 0 0 x.2.1.length))) 2 (pt 24)) 1 (pt 16)), (up (up (up (up (up h0 32 ⟨0, some (.own 91 1 (e_GLine.cells x.2.1))⟩) 24 ⟨0, some (.box (bx_GScreen (GScreen.mk (GGrid.mk 0 0 ([])) 0 0 false 0 0 (GPen.mk 0 0 0) 0 (GStops.mk (fun _ => 0)) (0, 0) 0 (GSaved.mk 0 0 (GPen.mk 0 0 0) false (0, 0) 0) (GGrid.mk 0 0 ([])) ([]) ([])) (.d (.sl ([] : List GCell).length (e_GCell.cells ([])))) (.d (.sl ([] : List GCell).length (e_GCell.cells ([])))) (.d (.sl ([] : List GLine).length (e_GLine.cells ([]))))))⟩) 96 ⟨0, some (go1_GScreen x.1)⟩) 72 ⟨0, some (go0_GScreen x.1)⟩) 16 ⟨0, some (.box (bx_GScreen x.1 (.r (.msl 72 0 0 x.1.Grid.Cells.length)) (.r (.msl 96 0 0 x.1.Other.Cells.length)) (gd2_GScreen x.1)))⟩)⟩
def f59_l0_H (a1 : GScreen) (x : GScreen × (List GLine) × Int) (st : St) : Prop := keepSt [1, 2, 3, 15, 16, 17] [(16, .id 16), (72, .id 72), (96, .id 96), (24, .id 24), (32, .id 32)] [.cell 24 2 0 0 1, .cell 24 30 0 0 1, .cell 24 32 0 0 1] st = f59_l0_J a1 x
def f59_l0_e0_J (a1 : GScreen) (p38 : GScreen) (p39 : List GLine) : St := ⟨(up (up (up u0 3 (.r (.msl 32 0 0 p39.length))) 2 (pt 24)) 1 (pt 16)), (up (up (up (up (up h0 32 ⟨0, some (.own 91 1 (e_GLine.cells p39))⟩) 24 ⟨0, some (.box (bx_GScreen (GScreen.mk (GGrid.mk 0 0 ([])) 0 0 false 0 0 (GPen.mk 0 0 0) 0 (GStops.mk (fun _ => 0)) (0, 0) 0 (GSaved.mk 0 0 (GPen.mk 0 0 0) false (0, 0) 0) (GGrid.mk 0 0 ([])) ([]) ([])) (.d (.sl ([] : List GCell).length (e_GCell.cells ([])))) (.d (.sl ([] : List GCell).length (e_GCell.cells ([])))) (.d (.sl ([] : List GLine).length (e_GLine.cells ([]))))))⟩) 96 ⟨0, some (go1_GScreen p38)⟩) 72 ⟨0, some (go0_GScreen p38)⟩) 16 ⟨0, some (.box (bx_GScreen p38 (.r (.msl 72 0 0 p38.Grid.Cells.length)) (.r (.msl 96 0 0 p38.Other.Cells.length)) (gd2_GScreen p38)))⟩)⟩
def f59_l0_X (a1 : GScreen) (z : (GScreen × (List GLine))) (e : PX) (st : St) : Prop := e = .exit 0 ∧ st = f59_l0_e0_J a1 z.1 z.2
def f59_l0_j2_J (a1 : GScreen) (p48 : GScreen) (p49 : List GLine) (p50 : Int) : St := ⟨(up (up (up (up (up (up u0 17 (dI p50)) 16 (dI (a1.Past.length : Int))) 15 (gd2_GScreen a1)) 3 (.r (.msl 32 0 0 p49.length))) 2 (pt 24)) 1 (pt 16)), (up (up (up (up (up h0 32 ⟨0, some (.own 91 1 (e_GLine.cells p49))⟩) 24 ⟨0, some (.box (bx_GScreen (GScreen.mk (GGrid.mk 0 0 ([])) 0 0 false 0 0 (GPen.mk 0 0 0) 0 (GStops.mk (fun _ => 0)) (0, 0) 0 (GSaved.mk 0 0 (GPen.mk 0 0 0) false (0, 0) 0) (GGrid.mk 0 0 ([])) ([]) ([])) (.d (.sl ([] : List GCell).length (e_GCell.cells ([])))) (.d (.sl ([] : List GCell).length (e_GCell.cells ([])))) (.d (.sl ([] : List GLine).length (e_GLine.cells ([]))))))⟩) 96 ⟨0, some (go1_GScreen p48)⟩) 72 ⟨0, some (go0_GScreen p48)⟩) 16 ⟨0, some (.box (bx_GScreen p48 (.r (.msl 72 0 0 p48.Grid.Cells.length)) (.r (.msl 96 0 0 p48.Other.Cells.length)) (gd2_GScreen p48)))⟩)⟩
def f59_l0_j2 (a1 : GScreen) (p48 : GScreen) (p49 : List GLine) (p50 : Int) : Option ((GScreen × (List GLine) × Int) ⊕ ((GScreen × (List GLine)))) := ((idx a1.Past p50).bind fun z23 => ((f91 z23.Cells).bind fun z24 => ((app? 24 p49 ([(GLine.mk z24)] : List GLine)).bind fun z25 => (some (.inl (p48, z25, (IntKind.i64.wrap (p50 + 1))))))))
theorem f59_l0_j2_ok {d : Nat} (hd : 3 ≤ d) (a1 : GScreen) {r : (GScreen × (List GLine) × Int) ⊕ ((GScreen × (List GLine)))} {Q : PQ} (hQ : FQ (finL (f59_l0_H a1) (f59_l0_X a1) r) Q) (p48 : GScreen) (p49 : List GLine) (p50 : Int) (hS : f59_l0_j2 a1 p48 p49 p50 = some r) {st : St} (he : keepSt [1, 2, 3, 15, 16, 17] [(16, .id 16), (72, .id 72), (96, .id 96), (24, .id 24), (32, .id 32)] [] st = f59_l0_j2_J a1 p48 p49 p50) : ZR (lev codes baseL (d - 1)) Q c59_1 [] st := by
 refine zrKeep he ?_
 unfold f59_l0_j2 at hS
 refine zrSeq (zrBlk (zrSeq (zrReg ?_)))
 refine bindE hS (fun z23 hz23 hS => zO (v := (.rptr (e_GLine.enc z23 ++ (e_GLine.cells (a1.Past.drop ((p50 : Int).toNat + 1)))))) (ups := []) (some 19) 1 (.ixS 91 1 (tm 15) (tm 17)) (ev_ixS e_GLine (kk := .i64) (xs := a1.Past) (j := p50) (by kernel_rfl) (by kernel_rfl) hz23 rfl (by intro h; cases h)) (zL 3 4 (zE (zkSeq (zrReg (zL 3 3 ?_))))))
 refine bindE hS (fun z24 hz24 hS => zO (some 24) 4 (c1 91 23) (ev_cA (f91_ok (d - 1) (dpt hd rfl) z23.Cells z24 hz24)) (zL 1 5 (zO (v := (.r (.msl 216 1 0 (([(GLine.mk z24)] : List GLine).length)))) (ups := [(200, ⟨2, none⟩), (216, ⟨1, some (.own 91 1 (e_GLine.cells ([(GLine.mk z24)])))⟩)]) (some 26) 6 (.bsl 91 1 1 [(1, (.slice .none 0 0))] [(0, (1, (tm 25)))]) ((by kernel_rfl : peval _ _ 26 (ρof _) (.bsl 91 1 1 [(1, (.slice .none 0 0))] [(0, (1, (.tmp 25)))]) = some ((.r (.msl 216 1 0 (([(GLine.mk z24)] : List GLine).length))), [(200, ⟨2, none⟩), (216, ⟨1, some (.own 91 1 [.sl z24.length (((e_GCell.cells z24).drop (0 * e_GCell.k)).take (z24.length * e_GCell.k))])⟩)])).trans (by simp only [Enc.frz]; rfl)) (bindE hS (fun z25 hz25 hS => zO (v := (.r (.msl 32 1 0 z25.length))) (ups := [(32, ⟨1, some (.own 91 1 (e_GLine.cells z25))⟩)]) (some 27) 7 (.app 91 1 24 (tm 21) (tm 26)) (ev_app e_GLine (b := 32) (g := 0) (n := p49.length) (xs := p49) (ys := [(GLine.mk z24)]) ((congrArg (asL _) (by kernel_rfl : ρof _ (.tmp 26) = (.r (.msl 216 1 0 (([(GLine.mk z24)] : List GLine).length))))).trans (as_whole e_GLine (e := 91) (k := 1) (xs := [(GLine.mk z24)]) (by kernel_rfl) rfl rfl)) rfl (by kernel_rfl) rfl (by kernel_rfl) rfl hz25) (zL 1 8 (zE ?_)))))))
 refine zkBlk (zkSeq (zrReg (zL 2 2 (zE ?_))))
 exact zkNil (eN1 hS hQ)
def f59_l0_j1_J (a1 : GScreen) (p44 : GScreen) (p45 : List GLine) (p46 : Int) (p47 : Bool) : St := ⟨(up (up (up (up (up (up (up u0 18 (dB p47)) 17 (dI p46)) 16 (dI (a1.Past.length : Int))) 15 (gd2_GScreen a1)) 3 (.r (.msl 32 0 0 p45.length))) 2 (pt 24)) 1 (pt 16)), (up (up (up (up (up h0 32 ⟨0, some (.own 91 1 (e_GLine.cells p45))⟩) 24 ⟨0, some (.box (bx_GScreen (GScreen.mk (GGrid.mk 0 0 ([])) 0 0 false 0 0 (GPen.mk 0 0 0) 0 (GStops.mk (fun _ => 0)) (0, 0) 0 (GSaved.mk 0 0 (GPen.mk 0 0 0) false (0, 0) 0) (GGrid.mk 0 0 ([])) ([]) ([])) (.d (.sl ([] : List GCell).length (e_GCell.cells ([])))) (.d (.sl ([] : List GCell).length (e_GCell.cells ([])))) (.d (.sl ([] : List GLine).length (e_GLine.cells ([]))))))⟩) 96 ⟨0, some (go1_GScreen p44)⟩) 72 ⟨0, some (go0_GScreen p44)⟩) 16 ⟨0, some (.box (bx_GScreen p44 (.r (.msl 72 0 0 p44.Grid.Cells.length)) (.r (.msl 96 0 0 p44.Other.Cells.length)) (gd2_GScreen p44)))⟩)⟩
def f59_l0_j1 (a1 : GScreen) (p44 : GScreen) (p45 : List GLine) (p46 : Int) (p47 : Bool) : Option ((GScreen × (List GLine) × Int) ⊕ ((GScreen × (List GLine)))) := (bif p47 then (f59_l0_j2 a1 p44 p45 p46) else (some (.inr (p44, p45))))
theorem f59_l0_j1_ok {d : Nat} (hd : 3 ≤ d) (a1 : GScreen) {r : (GScreen × (List GLine) × Int) ⊕ ((GScreen × (List GLine)))} {Q : PQ} (hQ : FQ (finL (f59_l0_H a1) (f59_l0_X a1) r) Q) (p44 : GScreen) (p45 : List GLine) (p46 : Int) (p47 : Bool) (hS : f59_l0_j1 a1 p44 p45 p46 p47 = some r) {st : St} (he : keepSt [1, 2, 3, 15, 16, 17, 18] [(16, .id 16), (72, .id 72), (96, .id 96), (24, .id 24), (32, .id 32)] [] st = f59_l0_j1_J a1 p44 p45 p46 p47) : ZR (lev codes baseL (d - 1)) Q c59_2 [] st := by
 refine zrKeep he ?_
 unfold f59_l0_j1 at hS
 refine zrSeq (sR 18 hS (fun hS => ?_) (fun hS => ?_))
 ·exact zT (zrSkip (zkSeq (f59_l0_j2_ok hd a1 hQ p44 p45 p46 hS (by kernel_rfl))))
 ·exact zF (zrKeep (J := f59_l0_e0_J a1 p44 p45) (by kernel_rfl) (zrExit (zkSeqX (zkNil (eX0 hS hQ)))))
def f59_l0 (a1 : GScreen) (x : GScreen × (List GLine) × Int) : Option ((GScreen × (List GLine) × Int) ⊕ ((GScreen × (List GLine)))) := (bif (decide (x.2.2 < (a1.Past.length : Int))) then (f59_l0_j1 a1 x.1 x.2.1 x.2.2 true) else (f59_l0_j1 a1 x.1 x.2.1 x.2.2 false))
theorem f59_l0_ok {d : Nat} (hd : 3 ≤ d) (a1 : GScreen) {r : (GScreen × (List GLine) × Int) ⊕ ((GScreen × (List GLine)))} {Q : PQ} (hQ : FQ (finL (f59_l0_H a1) (f59_l0_X a1) r) Q) {x : GScreen × (List GLine) × Int} (hS : f59_l0 a1 x = some r) {st : St} (he : f59_l0_H a1 x st) : ZR (lev codes baseL (d - 1)) Q c59_3 [] st := by
 refine zrKeep he ?_
 unfold f59_l0 at hS
 refine zrSeq (zrReg ?_)
 refine sB 18 1 (.cmpI .lss (tm 17) (tm 16)) hS (fun hS => ?_) (fun hS => ?_)
 ·refine zE (zkSeq ?_)
  exact f59_l0_j1_ok hd a1 hQ x.1 x.2.1 x.2.2 true hS (by kernel_rfl)
 ·refine zE (zkSeq ?_)
  exact f59_l0_j1_ok hd a1 hQ x.1 x.2.1 x.2.2 false hS (by kernel_rfl)
def f59 (a1 : GScreen) : Option (GScreen) := ((f45 a1.Grid).bind fun z12 => ((f45 a1.Other).bind fun z13 => ((loopO (f59_l0 a1) ({ a1 with Grid := z12, Other := z13 }, [], 0)).bind fun z26 => (some (GScreen.mk z26.1.Grid z26.1.Row z26.1.Col z26.1.Late z26.1.Top z26.1.Bottom z26.1.Pen z26.1.Modes z26.1.Stops z26.1.Pages z26.1.Shift z26.1.Saved z26.1.Other z26.1.Title z26.2)))))
theorem f59_ok (d : Nat) (hd : 3 ≤ d) (a1 : GScreen) (r : GScreen) (hS : f59 a1 = some r) : lev codes baseL d 59 [(.agg (bd_GScreen a1))] [] = some ((.agg (bw_GScreen r)), []) := by
 refine lev_go codes59 rfl rfl (Nat.le_trans (Nat.le_of_ble_eq_true rfl) hd) fun Q hQ => ?_
 unfold f59 at hS
 show ZR _ Q c59_b [] _
 replace hQ : FQ (f59_Q r) Q := hQ
 refine zrSeq (zrReg (zL 2 2 (zE (zkSeq (zrSeq ?_)))))
 refine zrRegD (zdR 2 2 (bindE hS (fun z12 hz12 hS => zdO (some 8) 3 none (c1 45 7) (ev_cA (f45_ok (d - 1) (dpt hd rfl) a1.Grid z12 hz12)) (zdR 2 5 (bindE hS (fun z13 hz13 hS => zdO (some 11) 6 none (c1 45 10) (ev_cA (f45_ok (d - 1) (dpt hd rfl) a1.Other z13 hz13)) (zdR 4 10 (zdE (zkSeq (zrSeq (zrReg (zL 1 1 (zE (zkSeq (zrSeq (zrSeq (zrReg (zL 4 4 (zE (zkSeq ?_))))))))))))))))))))
 refine zrBlk (bindE hS (fun z26 hz26 hS => zrLoop (f59_l0_H a1) (f59_l0_X a1) (fun x st r Q h0 hS hQ => f59_l0_ok hd a1 hQ hS h0) (x := ({ a1 with Grid := z12, Other := z13 }, [], 0)) (z := z26) (by show keepSt _ _ _ _ = _; kernel_rfl) hz26 ?_))
 intro e st' _ hX
 obtain ⟨rfl, rfl⟩ : _ ∧ _ := hX
 refine zkBlkX (zkSeq (zrSeq (zrReg (zL 3 3 (zE (zkSeq (zrSeq (zrReg (zL 2 2 (zE (zkSeq ?_)))))))))))
 exact zrRet (zkNil (endQ hS hQ (fR (f59_out (GScreen.mk z26.1.Grid z26.1.Row z26.1.Col z26.1.Late z26.1.Top z26.1.Bottom z26.1.Pen z26.1.Modes z26.1.Stops z26.1.Pages z26.1.Shift z26.1.Saved z26.1.Other z26.1.Title z26.2)))))
/- farwriter/client.clone -/
def f29_fin (p1 : GClient) : St := ⟨(up u0 2 (pt 24)), (gh_GClient h0 p1 24 48 49 50 88 112)⟩
theorem f29_out (p1 : GClient) : outR (f29_fin p1) 0 c29.res = some ((.agg (bw_GClient p1)), []) := by
 exact out_of (ids := []) (ids' := [48, 49, 50, 88, 112]) (l := [(.agg (bm_GClient p1 48 0 49 0 50 0 88 0 112 0))]) (by kernel_rfl) (by kernel_rfl) (o_agg (o_cons rfl (o_cons rfl (o_cons rfl (o_cons rfl (o_cons rfl (o_cons rfl (o_cons rfl (o_cons rfl (o_cons rfl (o_cons rfl (o_cons rfl (o_cons rfl (o_cons rfl (o_cons rfl (o_cons (o_own e_GCell (e := 100) (k := 4) (xs := p1.Screen.Grid.Cells) (by kernel_rfl) rfl rfl rfl rfl) (o_cons rfl (o_cons rfl (o_cons rfl (o_cons rfl (o_cons rfl (o_cons rfl (o_cons rfl (o_cons rfl (o_cons rfl (o_app (o_row (eInt .u64)) (o_cons rfl (o_cons rfl (o_cons rfl (o_cons rfl (o_cons rfl (o_cons rfl (o_cons rfl (o_cons rfl (o_cons rfl (o_cons rfl (o_cons rfl (o_cons rfl (o_cons rfl (o_cons rfl (o_cons (o_own e_GCell (e := 100) (k := 4) (xs := p1.Screen.Other.Cells) (by kernel_rfl) rfl rfl rfl rfl) (o_cons rfl (o_cons (o_own e_GLine (e := 91) (k := 1) (xs := p1.Screen.Past) (by kernel_rfl) rfl rfl rfl rfl) (o_app (o_row eU8) (o_app (o_row eU8) (o_app (o_row (eInt .u64)) (o_app (o_row (eInt .u64)) (o_cons (o_own eStr (e := 9) (k := 1) (xs := p1.Sorts.Names) (by kernel_rfl) rfl rfl rfl rfl) (o_cons rfl (o_cons (o_own e_GVar (e := 107) (k := 4) (xs := p1.Vars) (by kernel_rfl) rfl rfl rfl rfl) (o_app (o_row eU8) (o_app (o_row eU8) (o_app (o_row (eInt .u64)) (o_cons rfl (o_cons rfl (o_cons rfl o_nil))))))))))))))))))))))))))))))))))))))))))))))))))))))))
def f29_Q (r : GClient) (e : PX) (st : St) : Prop := DoneF c29 0 ((.agg (bw_GClient r)), []) e st
def f29 (a1 : GClient) : Option (GClient) := ((f59 a1.Screen).bind fun z4 => ((f24 a1.Sorts.Names).bind fun z5 => ((f25 a1.Vars).bind fun z6 => (some ({ a1 with Screen := z4, Sorts := (GSorts.mk z5 a1.Sorts.At), Vars := z6 })))))
theorem f29_ok (d : Nat) (hd : 4 ≤ d) (a1 : GClient) (r : GClient) (hS : f29 a1 = some r) : lev codes baseL d 29 [(.agg (bd_GClient a1))] [] = some ((.agg (bw_GClient r)), []) := by
 refine lev_go codes29 rfl rfl (Nat.le_trans (Nat.le_of_ble_eq_true rfl) hd) fun Q hQ => ?_
 unfold f29 at hS
 show ZR _ Q c29_b [] _
 replace hQ : FQ (f29_Q r) Q := hQ
 refine zrSeq (zrReg (zL 2 2 (zE (zkSeq (zrSeq (zrReg (zL 2 2 ?_)))))))
 refine bindE hS (fun z4 hz4 hS => zO (v := (.agg (bm_GScreen z4 48 1 49 1 50 1))) (ups := [(48, ⟨1, some (go0_GScreen z4)⟩), (49, ⟨1, some (go1_GScreen z4)⟩), (50, ⟨1, some (go2_GScreen z4)⟩)]) (some 5) 3 (.callf 59 [(tm 4)]) (ev_callF (args := [(.agg (bx_GScreen a1.Screen (gd0_GClient a1) (gd1_GClient a1) (gd2_GClient a1)))]) (args' := [(.agg (bx_GScreen a1.Screen (gd0_GClient a1) (gd1_GClient a1) (gd2_GClient a1)))]) (l := [(.agg (bx_GScreen a1.Screen (gd0_GClient a1) (gd1_GClient a1) (gd2_GClient a1)))]) (refs := []) (r := (.agg (bw_GScreen z4))) (v := (.agg (bm_GScreen z4 48 1 49 1 50 1))) (ups' := [(48, ⟨1, some (go0_GScreen z4)⟩), (49, ⟨1, some (go1_GScreen z4)⟩), (50, ⟨1, some (go2_GScreen z4)⟩)]) (by kernel_rfl) (by kernel_rfl) (by kernel_rfl) (fz_cons rfl fz_nil) (by kernel_rfl) (f59_ok (d - 1) (dpt hd rfl) a1.Screen z4 hz4) (by kernel_rfl) (by kernel_rfl) (by kernel_rfl) (by kernel_rfl)) (zL 2 5 (zE (zkSeq (zrSeq ?_)))))
 refine zrRegD (zdR 3 3 (bindE hS (fun z5 hz5 hS => zdO (some 10) 4 none (c1 24 9) (ev_cA (f24_ok (d - 1) (dpt hd rfl) a1.Sorts.Names z5 hz5)) (zdR 2 6 (bindE hS (fun z6 hz6 hS => zdO (some 13) 7 none (c1 25 12) (ev_cA (f25_ok (d - 1) (dpt hd rfl) a1.Vars z6 hz6)) (zdR 5 12 (zdE (zkSeq (zrSeq (zrReg (zL 2 2 (zE (zkSeq ?_))))))))))))))
 exact zrRet (zkNil (endQ hS hQ (fR (f29_out ({ a1 with Screen := z4, Sorts := (GSorts.mk z5 a1.Sorts.At), Vars := z6 })))))
/- (*farwriter/iac.receiver).flush -/
def f157_fin (p2 : Int) (p3 : Int) (p4 : Int) (p5 : List UInt8) (p6 : Bool) (p7 : List UInt8) (p8 : List UInt8) (p9 : List GTok) : St := ⟨(up (up (up u0 1000003 .un) 1000002 .un) 1000001 .un), (up (up (up (up h0 3 ⟨1, some (.own 201 4 (e_GTok.cells p9))⟩) 2 ⟨1, some (.own 5 1 (eU8.cells p8))⟩) 1 ⟨1, some (.own 5 1 (eU8.cells p7))⟩) 0 ⟨0, some (.box (bx_Greceiver (Greceiver.mk (GWire.mk p2 p3 p4 p5 p6) ([]) ([]) ([])) (.r (.msl 1 1 0 p7.length)) (.r (.msl 2 1 0 p8.length)) (.r (.msl 3 1 0 p9.length))))⟩)⟩
theorem f157_out (p2 : Int) (p3 : Int) (p4 : Int) (p5 : List UInt8) (p6 : Bool) (p7 : List UInt8) (p8 : List UInt8) (p9 : List GTok) : outR (f157_fin p2 p3 p4 p5 p6 p7 p8 p9) 4 c157.res = some ((.tup []), [(.box (bx_Greceiver (Greceiver.mk (GWire.mk p2 p3 p4 p5 p6) ([]) ([]) ([])) (.r (.msl 1 0 0 p7.length)) (.r (.msl 2 0 0 p8.length)) (.r (.msl 3 0 0 p9.length)))), (.own 5 1 (eU8.cells p7)), (.own 5 1 (eU8.cells p8)), (.own 201 4 (e_GTok.cells p9))]) := by
 kernel_rfl
def f157_Q (r : Int × Int × Int × (List UInt8) × Bool × (List UInt8) × (List UInt8) × (List GTok)) (e : PX) (st : St) : Prop := DoneF c157 4 ((.tup []), [(.box (bx_Greceiver (Greceiver.mk (GWire.mk r.1 r.2.1 r.2.2.1 r.2.2.2.1 r.2.2.2.2.1) ([]) ([]) ([])) (.r (.msl 1 0 0 r.2.2.2.2.2.1.length)) (.r (.msl 2 0 0 r.2.2.2.2.2.2.1.length)) (.r (.msl 3 0 0 r.2.2.2.2.2.2.2.length)))), (.own 5 1 (eU8.cells r.2.2.2.2.2.1)), (.own 5 1 (eU8.cells r.2.2.2.2.2.2.1)), (.own 201 4 (e_GTok.cells r.2.2.2.2.2.2.2))]) e st
def f157 (a1 : Int) (a2 : Int) (a3 : Int) (a4 : List UInt8) (a5 : Bool) (a6 : List UInt8) (a7 : List UInt8) (a8 : List GTok) : Option (Int × Int × Int × (List UInt8) × Bool × (List UInt8) × (List UInt8) × (List GTok)) := (bif (decide (0 < (a7.length : Int))) then ((app? 40 a8 ([(GTok.mk 1 0 0 a7)] : List GTok)).bind fun z2 => (some (a1, a2, a3, a4, a5, a6, [], z2))) else (some (a1, a2, a3, a4, a5, a6, a7, a8)))
theorem f157_ok (d : Nat) (hd : 1 ≤ d) (a1 : Int) (a2 : Int) (a3 : Int) (a4 : List UInt8) (a5 : Bool) (a6 : List UInt8) (a7 : List UInt8) (a8 : List GTok) (r : Int × Int × Int × (List UInt8) × Bool × (List UInt8) × (List UInt8) × (List GTok)) (hS : f157 a1 a2 a3 a4 a5 a6 a7 a8 = some r) : lev codes baseL d 157 [(pt 0)] [(.box (bx_Greceiver (Greceiver.mk (GWire.mk a1 a2 a3 a4 a5) ([]) ([]) ([])) (.r (.msl 1 0 0 a6.length)) (.r (.msl 2 0 0 a7.length)) (.r (.msl 3 0 0 a8.length)))), (.own 5 1 (eU8.cells a6)), (.own 5 1 (eU8.cells a7)), (.own 201 4 (e_GTok.cells a8))] = some ((.tup []), [(.box (bx_Greceiver (Greceiver.mk (GWire.mk r.1 r.2.1 r.2.2.1 r.2.2.2.1 r.2.2.2.2.1) ([]) ([]) ([])) (.r (.msl 1 0 0 r.2.2.2.2.2.1.length)) (.r (.msl 2 0 0 r.2.2.2.2.2.2.1.length)) (.r (.msl 3 0 0 r.2.2.2.2.2.2.2.length)))), (.own 5 1 (eU8.cells r.2.2.2.2.2.1)), (.own 5 1 (eU8.cells r.2.2.2.2.2.2.1)), (.own 201 4 (e_GTok.cells r.2.2.2.2.2.2.2))]) := by
 refine lev_go codes157 rfl rfl (Nat.le_trans (Nat.le_of_ble_eq_true rfl) hd) fun Q hQ => ?_
 unfold f157 at hS
 show ZR _ Q c157_b [] _
 replace hQ : FQ (f157_Q r) Q := hQ
 refine zrSeq (zrReg (zL 5 5 ?_))
 refine sB 7 6 (.cmpI .gtr (tm 6) (ki 0)) hS (fun hS => ?_) (fun hS => ?_)
 ·refine zE (zkSeq (zT (zrSeq ?_)))
  refine zrRegD (zdR 9 9 (zdO (v := (.d (.str a7))) (ups := []) (some 17) 10 none (.cvBS (tm 16)) (ev_cvBS (s := a7) ((congrArg (asL _) (by kernel_rfl : ρof _ (.tmp 16) = (.r (.msl 2 0 0 a7.length)))).trans (as_whole eU8 (e := 5) (k := 1) (xs := a7) (by kernel_rfl) rfl rfl)) rfl) (zdR 2 12 (bindE hS (fun z2 hz2 hS => zdO (v := (.r (.msl 3 1 0 z2.length))) (ups := [(3, ⟨1, some (.own 201 4 (e_GTok.cells z2))⟩)]) (some 20) 13 none (.app 201 4 40 (tm 12) (tm 19)) (ev_app e_GTok (b := 3) (g := 0) (n := a8.length) (xs := a8) (ys := [(GTok.mk 1 0 0 a7)]) ((congrArg (asL _) (by kernel_rfl : ρof _ (.tmp 19) = (.r (.msl 160 1 0 (([(GTok.mk 1 0 0 a7)] : List GTok).length))))).trans (as_whole e_GTok (e := 201) (k := 4) (xs := [(GTok.mk 1 0 0 a7)]) (by kernel_rfl) rfl rfl)) rfl (by kernel_rfl) rfl (by kernel_rfl) rfl hz2) (zdR 3 16 (zdE (zkSeq (zrReg (zL 4 4 (zE ?_)))))))))))
  exact zkNil (endQ hS hQ (fN (f157_out a1 a2 a3 a4 a5 a6 [] z2)))
 ·refine zE (zkSeq (zF ?_))
  exact zrSkip (zkNil (endQ hS hQ (fN (f157_out a1 a2 a3 a4 a5 a6 a7 a8))))
/- (*farwriter/iac.receiver).token -/
def f204_fin (p1 : Int) (p2 : Int) (p3 : Int) (p4 : List UInt8) (p5 : Bool) (p6 : List UInt8) (p7 : List UInt8) (p8 : List GTok) : St := ⟨(up (up (up u0 1000003 .un) 1000002 .un) 1000001 .un), (up (up (up (up h0 3 ⟨1, some (.own 201 4 (e_GTok.cells p8))⟩) 2 ⟨1, some (.own 5 1 (eU8.cells p7))⟩) 1 ⟨1, some (.own 5 1 (eU8.cells p6))⟩) 0 ⟨0, some (.box (bx_Greceiver (Greceiver.mk (GWire.mk p1 p2 p3 p4 p5) ([]) ([]) ([])) (.r (.msl 1 1 0 p6.length)) (.r (.msl 2 1 0 p7.length)) (.r (.msl 3 1 0 p8.length))))⟩)⟩
theorem f204_out (p1 : Int) (p2 : Int) (p3 : Int) (p4 : List UInt8) (p5 : Bool) (p6 : List UInt8) (p7 : List UInt8) (p8 : List GTok) : outR (f204_fin p1 p2 p3 p4 p5 p6 p7 p8) 4 c204.res = some ((.tup []), [(.box (bx_Greceiver (Greceiver.mk (GWire.mk p1 p2 p3 p4 p5) ([]) ([]) ([])) (.r (.msl 1 0 0 p6.length)) (.r (.msl 2 0 0 p7.length)) (.r (.msl 3 0 0 p8.length)))), (.own 5 1 (eU8.cells p6)), (.own 5 1 (eU8.cells p7)), (.own 201 4 (e_GTok.cells p8))]) := by
 kernel_rfl
def f204_Q (r : Int × Int × Int × (List UInt8) × Bool × (List UInt8) × (List UInt8) × (List GTok)) (e : PX) (st : St) : Prop := DoneF c204 4 ((.tup []), [(.box (bx_Greceiver (Greceiver.mk (GWire.mk r.1 r.2.1 r.2.2.1 r.2.2.2.1 r.2.2.2.2.1) ([]) ([]) ([])) (.r (.msl 1 0 0 r.2.2.2.2.2.1.length)) (.r (.msl 2 0 0 r.2.2.2.2.2.2.1.length)) (.r (.msl 3 0 0 r.2.2.2.2.2.2.2.length)))), (.own 5 1 (eU8.cells r.2.2.2.2.2.1)), (.own 5 1 (eU8.cells r.2.2.2.2.2.2.1)), (.own 201 4 (e_GTok.cells r.2.2.2.2.2.2.2))]) e st
def f204 (a1 : GTok) (a2 : Int) (a3 : Int) (a4 : Int) (a5 : List UInt8) (a6 : Bool) (a7 : List UInt8) (a8 : List UInt8) (a9 : List GTok) : Option (Int × Int × Int × (List UInt8) × Bool × (List UInt8) × (List UInt8) × (List GTok)) := ((f157 a2 a3 a4 a5 a6 a7 a8 a9).bind fun z3 => ((app? 40 z3.2.2.2.2.2.2.2 ([a1] : List GTok)).bind fun z4 => (some (z3.1, z3.2.1, z3.2.2.1, z3.2.2.2.1, z3.2.2.2.2.1, z3.2.2.2.2.2.1, z3.2.2.2.2.2.2.1, z4))))
theorem f204_ok (d : Nat) (hd : 2 ≤ d) (a1 : GTok) (a2 : Int) (a3 : Int) (a4 : Int) (a5 : List UInt8) (a6 : Bool) (a7 : List UInt8) (a8 : List UInt8) (a9 : List GTok) (r : Int × Int × Int × (List UInt8) × Bool × (List UInt8) × (List UInt8) × (List GTok)) (hS : f204 a1 a2 a3 a4 a5 a6 a7 a8 a9 = some r) : lev codes baseL d 204 [(pt 0), (.agg ((dI a1.Kind) :: ((dI a1.Cmd) :: ((dI a1.Opt) :: ((.d (.str a1.Data)) :: [])))))] [(.box (bx_Greceiver (Greceiver.mk (GWire.mk a2 a3 a4 a5 a6) ([]) ([]) ([])) (.r (.msl 1 0 0 a7.length)) (.r (.msl 2 0 0 a8.length)) (.r (.msl 3 0 0 a9.length)))), (.own 5 1 (eU8.cells a7)), (.own 5 1 (eU8.cells a8)), (.own 201 4 (e_GTok.cells a9))] = some ((.tup []), [(.box (bx_Greceiver (Greceiver.mk (GWire.mk r.1 r.2.1 r.2.2.1 r.2.2.2.1 r.2.2.2.2.1) ([]) ([]) ([])) (.r (.msl 1 0 0 r.2.2.2.2.2.1.length)) (.r (.msl 2 0 0 r.2.2.2.2.2.2.1.length)) (.r (.msl 3 0 0 r.2.2.2.2.2.2.2.length)))), (.own 5 1 (eU8.cells r.2.2.2.2.2.1)), (.own 5 1 (eU8.cells r.2.2.2.2.2.2.1)), (.own 201 4 (e_GTok.cells r.2.2.2.2.2.2.2))]) := by
 refine lev_go codes204 rfl rfl (Nat.le_trans (Nat.le_of_ble_eq_true rfl) hd) fun Q hQ => ?_
 unfold f204 at hS
 show ZR _ Q c204_b [] _
 replace hQ : FQ (f204_Q r) Q := hQ
 refine zrSeq (zrReg (zL 1 1 (zE (zkSeq (zrSeq (zrReg (zL 1 1 ?_)))))))
 refine bindE hS (fun z3 hz3 hS => zO (some 5) 2 (.callr 157 [(tm 4)]) (ev_cR [0, 1, 2, 3] (f157_ok (d - 1) (dpt hd rfl) a2 a3 a4 a5 a6 a7 a8 a9 z3 hz3)) (zE (zkSeq ?_)))
 exact zrRegD (zdR 7 7 (bindE hS (fun z4 hz4 hS => zdO (v := (.r (.msl 3 2 0 z4.length))) (ups := [(3, ⟨2, some (.own 201 4 (e_GTok.cells z4))⟩)]) (some 13) 8 none (.app 201 4 40 (tm 10) (tm 12)) (ev_app e_GTok (b := 3) (g := 1) (n := z3.2.2.2.2.2.2.2.length) (xs := z3.2.2.2.2.2.2.2) (ys := [a1]) ((congrArg (asL _) (by kernel_rfl : ρof _ (.tmp 12) = (.r (.msl 104 1 0 (([a1] : List GTok).length))))).trans (as_whole e_GTok (e := 201) (k := 4) (xs := [a1]) (by kernel_rfl) rfl rfl)) rfl (by kernel_rfl) rfl (by kernel_rfl) rfl hz4) (zdR 3 11 (zdE (zkNil (endQ hS hQ (fN (f204_out z3.1 z3.2.1 z3.2.2.1 z3.2.2.2.1 z3.2.2.2.2.1 z3.2.2.2.2.2.1 z3.2.2.2.2.2.2.1 z4)))))))))
/- (*farwriter/iac.receiver).command -/
def f203_fin (p5 : Int) (p6 : Int) (p7 : Int) (p8 : List UInt8) (p9 : Bool) (p10 : List UInt8) (p11 : List UInt8) (p12 : List GTok) : St := ⟨(up (up (up u0 1000003 .un) 1000002 .un) 1000001 .un), (up (up (up (up h0 3 ⟨1, some (.own 201 4 (e_GTok.cells p12))⟩) 2 ⟨1, some (.own 5 1 (eU8.cells p11))⟩) 1 ⟨1, some (.own 5 1 (eU8.cells p10))⟩) 0 ⟨0, some (.box (bx_Greceiver (Greceiver.mk (GWire.mk p5 p6 p7 p8 p9) ([]) ([]) ([])) (.r (.msl 1 1 0 p10.length)) (.r (.msl 2 1 0 p11.length)) (.r (.msl 3 1 0 p12.length))))⟩)⟩
theorem f203_out (p5 : Int) (p6 : Int) (p7 : Int) (p8 : List UInt8) (p9 : Bool) (p10 : List UInt8) (p11 : List UInt8) (p12 : List GTok) : outR (f203_fin p5 p6 p7 p8 p9 p10 p11 p12) 4 c203.res = some ((.tup []), [(.box (bx_Greceiver (Greceiver.mk (GWire.mk p5 p6 p7 p8 p9) ([]) ([]) ([])) (.r (.msl 1 0 0 p10.length)) (.r (.msl 2 0 0 p11.length)) (.r (.msl 3 0 0 p12.length)))), (.own 5 1 (eU8.cells p10)), (.own 5 1 (eU8.cells p11)), (.own 201 4 (e_GTok.cells p12))]) := by
 kernel_rfl
def f203_Q (r : Int × Int × Int × (List UInt8) × Bool × (List UInt8) × (List UInt8) × (List GTok)) (e : PX) (st : St) : Prop := DoneF c203 4 ((.tup []), [(.box (bx_Greceiver (Greceiver.mk (GWire.mk r.1 r.2.1 r.2.2.1 r.2.2.2.1 r.2.2.2.2.1) ([]) ([]) ([])) (.r (.msl 1 0 0 r.2.2.2.2.2.1.length)) (.r (.msl 2 0 0 r.2.2.2.2.2.2.1.length)) (.r (.msl 3 0 0 r.2.2.2.2.2.2.2.length)))), (.own 5 1 (eU8.cells r.2.2.2.2.2.1)), (.own 5 1 (eU8.cells r.2.2.2.2.2.2.1)), (.own 201 4 (e_GTok.cells r.2.2.2.2.2.2.2))]) e st
def f203 (a1 : UInt8) (a2 : Int) (a3 : Int) (a4 : Int) (a5 : List UInt8) (a6 : Bool) (a7 : List UInt8) (a8 : List UInt8) (a9 : List GTok) : Option (Int × Int × Int × (List UInt8) × Bool × (List UInt8) × (List UInt8) × (List GTok)) := (bif (decide ((a1.toNat : Int) = 255)) then ((app? 1 a8 ([a1] : List UInt8)).bind fun z4 => (some (0, a3, a4, a5, a6, a7, z4, a9))) else (bif (decide (251 ≤ (a1.toNat : Int))) then (some (2, (a1.toNat : Int), a4, a5, a6, a7, a8, a9)) else (bif (decide ((a1.toNat : Int) = 250)) then (some (3, a3, a4, a5, a6, a7, a8, a9)) else (bif (decide (240 ≤ (a1.toNat : Int))) then ((f204 (GTok.mk 2 (a1.toNat : Int) 0 ([])) 0 a3 a4 a5 a6 a7 a8 a9).bind fun z5 => (some (z5.1, z5.2.1, z5.2.2.1, z5.2.2.2.1, z5.2.2.2.2.1, z5.2.2.2.2.2.1, z5.2.2.2.2.2.2.1, z5.2.2.2.2.2.2.2))) else ((f204 (GTok.mk 5 (a1.toNat : Int) 0 ([])) 0 a3 a4 a5 a6 a7 a8 a9).bind fun z6 => (some (z6.1, z6.2.1, z6.2.2.1, z6.2.2.2.1, z6.2.2.2.2.1, z6.2.2.2.2.2.1, z6.2.2.2.2.2.2.1, z6.2.2.2.2.2.2.2)))))))
theorem f203_ok (d : Nat) (hd : 3 ≤ d) (a1 : UInt8) (a2 : Int) (a3 : Int) (a4 : Int) (a5 : List UInt8) (a6 : Bool) (a7 : List UInt8) (a8 : List UInt8) (a9 : List GTok) (r : Int × Int × Int × (List UInt8) × Bool × (List UInt8) × (List UInt8) × (List GTok)) (hS : f203 a1 a2 a3 a4 a5 a6 a7 a8 a9 = some r) : lev codes baseL d 203 [(pt 0), (.d (.int .u8 (a1.toNat : Int)))] [(.box (bx_Greceiver (Greceiver.mk (GWire.mk a2 a3 a4 a5 a6) ([]) ([]) ([])) (.r (.msl 1 0 0 a7.length)) (.r (.msl 2 0 0 a8.length)) (.r (.msl 3 0 0 a9.length)))), (.own 5 1 (eU8.cells a7)), (.own 5 1 (eU8.cells a8)), (.own 201 4 (e_GTok.cells a9))] = some ((.tup []), [(.box (bx_Greceiver (Greceiver.mk (GWire.mk r.1 r.2.1 r.2.2.1 r.2.2.2.1 r.2.2.2.2.1) ([]) ([]) ([])) (.r (.msl 1 0 0 r.2.2.2.2.2.1.length)) (.r (.msl 2 0 0 r.2.2.2.2.2.2.1.length)) (.r (.msl 3 0 0 r.2.2.2.2.2.2.2.length)))), (.own 5 1 (eU8.cells r.2.2.2.2.2.1)), (.own 5 1 (eU8.cells r.2.2.2.2.2.2.1)), (.own 201 4 (e_GTok.cells r.2.2.2.2.2.2.2))]) := by
 refine lev_go codes203 rfl rfl (Nat.le_trans (Nat.le_of_ble_eq_true rfl) hd) fun Q hQ => ?_
 unfold f203 at hS
 show ZR _ Q c203_b [] _
 replace hQ : FQ (f203_Q r) Q := hQ
 refine zrSeq (zrReg (zL 5 5 (zE (zkSeq ?_))))
 refine zrBlk (zrSeq (zrReg (zL 1 1 ?_)))
 refine sB 15 2 (.cmpI .eql (tm 14) (.const (.int .u8 255))) hS (fun hS => ?_) (fun hS => ?_)
 ·refine zL 1 3 (zE (zkSeq (zT (zrReg (zL 7 7 ?_)))))
  refine bindE hS (fun z4 hz4 hS => zO (v := (.r (.msl 2 1 0 z4.length))) (ups := [(2, ⟨1, some (.own 5 1 (eU8.cells z4))⟩)]) (some 23) 8 (.app 5 1 1 (tm 20) (tm 22)) (ev_app eU8 (b := 2) (g := 0) (n := a8.length) (xs := a8) (ys := [a1]) ((congrArg (asL _) (by kernel_rfl : ρof _ (.tmp 22) = (.r (.msl 184 1 0 (([a1] : List UInt8).length))))).trans (as_whole eU8 (e := 5) (k := 1) (xs := [a1]) (by kernel_rfl) rfl rfl)) rfl (by kernel_rfl) rfl (by kernel_rfl) rfl hz4) (zL 3 11 (zE ?_)))
  exact zkBlk (zkNil (endQ hS hQ (fN (f203_out 0 a3 a4 a5 a6 a7 z4 a9))))
 ·refine zL 1 3 (zE (zkSeq (zF (zrSeq (zrReg (zL 1 1 ?_))))))
  refine sB 28 2 (.cmpI .geq (tm 27) (.const (.int .u8 251))) hS (fun hS => ?_) (fun hS => ?_)
  ·refine zL 1 3 (zE (zkSeq (zT (zrReg (zL 3 3 ?_)))))
   refine zO (v := (dI (a1.toNat : Int))) (ups := []) (some 32) 4 (.cvI .i64 (tm 31)) (ev_cv (kk := .u8) (a := (a1.toNat : Int)) (by kernel_rfl) (cv_i64 _)) (zL 8 12 (zE ?_))
   exact zkBlk (zkNil (endQ hS hQ (fN (f203_out 2 (a1.toNat : Int) a4 a5 a6 a7 a8 a9))))
  ·refine zL 1 3 (zE (zkSeq (zF (zrSeq (zrReg (zL 1 1 ?_))))))
   refine sB 41 2 (.cmpI .eql (tm 40) (.const (.int .u8 250))) hS (fun hS => ?_) (fun hS => ?_)
   ·refine zL 1 3 (zE (zkSeq (zT (zrReg (zL 5 5 (zE ?_))))))
    exact zkBlk (zkNil (endQ hS hQ (fN (f203_out 3 a3 a4 a5 a6 a7 a8 a9))))
   ·refine zL 1 3 (zE (zkSeq (zF (zrSeq (zrReg (zL 1 1 ?_))))))
    refine sB 48 2 (.cmpI .geq (tm 47) (.const (.int .u8 240))) hS (fun hS => ?_) (fun hS => ?_)
    ·refine zL 1 3 (zE (zkSeq (zT (zrReg (zL 2 2 ?_)))))
     exact zO (v := (dI (a1.toNat : Int))) (ups := []) (some 51) 3 (.cvI .i64 (tm 50)) (ev_cv (kk := .u8) (a := (a1.toNat : Int)) (by kernel_rfl) (cv_i64 _)) (zL 1 4 (bindE hS (fun z5 hz5 hS => zO (some 53) 5 (.callr 204 [(tm 49), (tm 52)]) (ev_cR [0, 1, 2, 3] (f204_ok (d - 1) (dpt hd rfl) (GTok.mk 2 (a1.toNat : Int) 0 ([])) 0 a3 a4 a5 a6 a7 a8 a9 z5 hz5)) (zE (zkBlk (zkNil (endQ hS hQ (fN (f203_out z5.1 z5.2.1 z5.2.2.1 z5.2.2.2.1 z5.2.2.2.2.1 z5.2.2.2.2.2.1 z5.2.2.2.2.2.2.1 z5.2.2.2.2.2.2.2)))))))))
    ·refine zL 1 3 (zE (zkSeq (zF (zrReg (zL 2 2 ?_)))))
     exact zO (v := (dI (a1.toNat : Int))) (ups := []) (some 10) 3 (.cvI .i64 (tm 9)) (ev_cv (kk := .u8) (a := (a1.toNat : Int)) (by kernel_rfl) (cv_i64 _)) (zL 1 4 (bindE hS (fun z6 hz6 hS => zO (some 12) 5 (.callr 204 [(tm 8), (tm 11)]) (ev_cR [0, 1, 2, 3] (f204_ok (d - 1) (dpt hd rfl) (GTok.mk 5 (a1.toNat : Int) 0 ([])) 0 a3 a4 a5 a6 a7 a8 a9 z6 hz6)) (zE (zkBlk (zkNil (endQ hS hQ (fN (f203_out z6.1 z6.2.1 z6.2.2.1 z6.2.2.2.1 z6.2.2.2.2.1 z6.2.2.2.2.2.1 z6.2.2.2.2.2.2.1 z6.2.2.2.2.2.2.2)))))))))
/- (*farwriter/iac.receiver).sub -/
def f205_fin (p4 : Int) (p5 : Int) (p6 : Int) (p7 : List UInt8) (p8 : Bool) (p9 : List UInt8) (p10 : List UInt8) (p11 : List GTok) : St := ⟨(up (up (up u0 1000003 .un) 1000002 .un) 1000001 .un), (up (up (up (up h0 3 ⟨1, some (.own 201 4 (e_GTok.cells p11))⟩) 2 ⟨1, some (.own 5 1 (eU8.cells p10))⟩) 1 ⟨1, some (.own 5 1 (eU8.cells p9))⟩) 0 ⟨0, some (.box (bx_Greceiver (Greceiver.mk (GWire.mk p4 p5 p6 p7 p8) ([]) ([]) ([])) (.r (.msl 1 1 0 p9.length)) (.r (.msl 2 1 0 p10.length)) (.r (.msl 3 1 0 p11.length))))⟩)⟩
theorem f205_out (p4 : Int) (p5 : Int) (p6 : Int) (p7 : List UInt8) (p8 : Bool) (p9 : List UInt8) (p10 : List UInt8) (p11 : List GTok) : outR (f205_fin p4 p5 p6 p7 p8 p9 p10 p11) 4 c205.res = some ((.tup []), [(.box (bx_Greceiver (Greceiver.mk (GWire.mk p4 p5 p6 p7 p8) ([]) ([]) ([])) (.r (.msl 1 0 0 p9.length)) (.r (.msl 2 0 0 p10.length)) (.r (.msl 3 0 0 p11.length)))), (.own 5 1 (eU8.cells p9)), (.own 5 1 (eU8.cells p10)), (.own 201 4 (e_GTok.cells p11))]) := by
 kernel_rfl
def f205_Q (r : Int × Int × Int × (List UInt8) × Bool × (List UInt8) × (List UInt8) × (List GTok)) (e : PX) (st : St) : Prop := DoneF c205 4 ((.tup []), [(.box (bx_Greceiver (Greceiver.mk (GWire.mk r.1 r.2.1 r.2.2.1 r.2.2.2.1 r.2.2.2.2.1) ([]) ([]) ([])) (.r (.msl 1 0 0 r.2.2.2.2.2.1.length)) (.r (.msl 2 0 0 r.2.2.2.2.2.2.1.length)) (.r (.msl 3 0 0 r.2.2.2.2.2.2.2.length)))), (.own 5 1 (eU8.cells r.2.2.2.2.2.1)), (.own 5 1 (eU8.cells r.2.2.2.2.2.2.1)), (.own 201 4 (e_GTok.cells r.2.2.2.2.2.2.2))]) e st
def f205_j0_J (a1 : UInt8) (a2 : Int) (a3 : Int) (a4 : Int) (a5 : List UInt8) (a6 : Bool) (a7 : List UInt8) (a8 : List UInt8) (a9 : List GTok) (p15 : Bool) (p16 : List UInt8) : St := ⟨(up (up (up (up (up u0 1000003 .un) 1000002 .un) 1000001 .un) 1 (.d (.int .u8 (a1.toNat : Int)))) 0 (pt 0)), (up (up (up (up h0 3 ⟨1, some (.own 201 4 (e_GTok.cells a9))⟩) 2 ⟨1, some (.own 5 1 (eU8.cells a8))⟩) 1 ⟨1, some (.own 5 1 (eU8.cells p16))⟩) 0 ⟨0, some (.box (bx_Greceiver (Greceiver.mk (GWire.mk a2 a3 a4 a5 p15) ([]) ([]) ([])) (.r (.msl 1 1 0 p16.length)) (.r (.msl 2 1 0 a8.length)) (.r (.msl 3 1 0 a9.length))))⟩)⟩
def f205_j0 (a1 : UInt8) (a2 : Int) (a3 : Int) (a4 : Int) (a5 : List UInt8) (a6 : Bool) (a7 : List UInt8) (a8 : List UInt8) (a9 : List GTok) (p15 : Bool) (p16 : List UInt8) : Option (Int × Int × Int × (List UInt8) × Bool × (List UInt8) × (List UInt8) × (List GTok)) := (bif (!p15) then ((app? 1 p16 ([a1] : List UInt8)).bind fun z2 => (some (a2, a3, a4, a5, p15, z2, a8, a9))) else (some (a2, a3, a4, a5, p15, p16, a8, a9)))
theorem f205_j0_ok {d : Nat} (hd : 1 ≤ d) (a1 : UInt8) (a2 : Int) (a3 : Int) (a4 : Int) (a5 : List UInt8) (a6 : Bool) (a7 : List UInt8) (a8 : List UInt8) (a9 : List GTok) {r : Int × Int × Int × (List UInt8) × Bool × (List UInt8) × (List UInt8) × (List GTok)} {Q : PQ} (hQ : FQ (f205_Q r) Q) (p15 : Bool) (p16 : List UInt8) (hS : f205_j0 a1 a2 a3 a4 a5 a6 a7 a8 a9 p15 p16 = some r) {st : St} (he : keepSt [0, 1, 1000001, 1000002, 1000003] [(0, .id 0), (1, .id 1), (2, .id 2), (3, .id 3)] [.cell 0 5 1 5 1] st = f205_j0_J a1 a2 a3 a4 a5 a6 a7 a8 a9 p15 p16) : ZR (lev codes baseL (d - 1)) Q c205_1 [] st := by
 refine zrKeep he ?_
 unfold f205_j0 at hS
 refine zrSeq (zrReg (zL 6 6 (zE (zkSeq ?_))))
 refine sR 22 hS (fun hS => ?_) (fun hS => ?_)
 ·refine zT (zrReg (zL 7 7 ?_))
  refine bindE hS (fun z2 hz2 hS => zO (v := (.r (.msl 1 2 0 z2.length))) (ups := [(1, ⟨2, some (.own 5 1 (eU8.cells z2))⟩)]) (some 30) 8 (.app 5 1 1 (tm 27) (tm 29)) (ev_app eU8 (b := 1) (g := 1) (n := p16.length) (xs := p16) (ys := [a1]) ((congrArg (asL _) (by kernel_rfl : ρof _ (.tmp 29) = (.r (.msl 240 1 0 (([a1] : List UInt8).length))))).trans (as_whole eU8 (e := 5) (k := 1) (xs := [a1]) (by kernel_rfl) rfl rfl)) rfl (by kernel_rfl) rfl (by kernel_rfl) rfl hz2) (zL 3 11 (zE ?_)))
  exact zkNil (endQ hS hQ (fN (f205_out a2 a3 a4 a5 p15 z2 a8 a9)))
 ·exact zF (zrSkip (zkNil (endQ hS hQ (fN (f205_out a2 a3 a4 a5 p15 p16 a8 a9)))))
def f205 (a1 : UInt8) (a2 : Int) (a3 : Int) (a4 : Int) (a5 : List UInt8) (a6 : Bool) (a7 : List UInt8) (a8 : List UInt8) (a9 : List GTok) : Option (Int × Int × Int × (List UInt8) × Bool × (List UInt8) × (List UInt8) × (List GTok)) := (bif (decide ((a7.length : Int) = 4096)) then (f205_j0 a1 a2 a3 a4 a5 a6 a7 a8 a9 true []) else (f205_j0 a1 a2 a3 a4 a5 a6 a7 a8 a9 a6 a7))
theorem f205_ok (d : Nat) (hd : 1 ≤ d) (a1 : UInt8) (a2 : Int) (a3 : Int) (a4 : Int) (a5 : List UInt8) (a6 : Bool) (a7 : List UInt8) (a8 : List UInt8) (a9 : List GTok) (r : Int × Int × Int × (List UInt8) × Bool × (List UInt8) × (List UInt8) × (List GTok)) (hS : f205 a1 a2 a3 a4 a5 a6 a7 a8 a9 = some r) : lev codes baseL d 205 [(pt 0), (.d (.int .u8 (a1.toNat : Int)))] [(.box (bx_Greceiver (Greceiver.mk (GWire.mk a2 a3 a4 a5 a6) ([]) ([]) ([])) (.r (.msl 1 0 0 a7.length)) (.r (.msl 2 0 0 a8.length)) (.r (.msl 3 0 0 a9.length)))), (.own 5 1 (eU8.cells a7)), (.own 5 1 (eU8.cells a8)), (.own 201 4 (e_GTok.cells a9))] = some ((.tup []), [(.box (bx_Greceiver (Greceiver.mk (GWire.mk r.1 r.2.1 r.2.2.1 r.2.2.2.1 r.2.2.2.2.1) ([]) ([]) ([])) (.r (.msl 1 0 0 r.2.2.2.2.2.1.length)) (.r (.msl 2 0 0 r.2.2.2.2.2.2.1.length)) (.r (.msl 3 0 0 r.2.2.2.2.2.2.2.length)))), (.own 5 1 (eU8.cells r.2.2.2.2.2.1)), (.own 5 1 (eU8.cells r.2.2.2.2.2.2.1)), (.own 201 4 (e_GTok.cells r.2.2.2.2.2.2.2))]) := by
 refine lev_go codes205 rfl rfl (Nat.le_trans (Nat.le_of_ble_eq_true rfl) hd) fun Q hQ => ?_
 unfold f205 at hS
 show ZR _ Q c205_b [] _
 replace hQ : FQ (f205_Q r) Q := hQ
 refine zrSeq (zrSeq (zrReg (zL 5 5 ?_)))
 refine sB 9 6 (ck 8 4096) hS (fun hS => ?_) (fun hS => ?_)
 ·refine zE (zkSeq (zT (zrReg (zL 9 9 (zE (zkSeq ?_))))))
  exact f205_j0_ok hd a1 a2 a3 a4 a5 a6 a7 a8 a9 hQ true [] hS (by kernel_rfl)
 ·refine zE (zkSeq (zF ?_))
  exact zrSkip (zkSeq (f205_j0_ok hd a1 a2 a3 a4 a5 a6 a7 a8 a9 hQ a6 a7 hS (by kernel_rfl)))
/- (*farwriter/iac.receiver).end -/
def f206_fin (p19 : List UInt8) (p20 : List GTok) (p21 : List UInt8) : St := ⟨(up (up (up u0 1000003 .un) 1000002 .un) 1000001 .un), (up (up (up (up h0 1 ⟨1, some (.own 5 1 (eU8.cells p21))⟩) 3 ⟨1, some (.own 201 4 (e_GTok.cells p20))⟩) 2 ⟨1, some (.own 5 1 (eU8.cells p19))⟩) 0 ⟨0, some (.box (bx_Greceiver (Greceiver.mk (GWire.mk 0 0 0 ([]) false) ([]) ([]) ([])) .nil (.r (.msl 2 1 0 p19.length)) (.r (.msl 3 1 0 p20.length))))⟩)⟩
theorem f206_out (p19 : List UInt8) (p20 : List GTok) (p21 : List UInt8) : outR (f206_fin p19 p20 p21) 4 c206.res = some ((.tup []), [(.box (bx_Greceiver (Greceiver.mk (GWire.mk 0 0 0 ([]) false) ([]) ([]) ([])) .nil (.r (.msl 2 0 0 p19.length)) (.r (.msl 3 0 0 p20.length)))), (.own 5 1 (eU8.cells p21)), (.own 5 1 (eU8.cells p19)), (.own 201 4 (e_GTok.cells p20))]) := by
 kernel_rfl
def f206_Q (r : (List UInt8) × (List GTok) × (List UInt8)) (e : PX) (st : St) : Prop := DoneF c206 4 ((.tup []), [(.box (bx_Greceiver (Greceiver.mk (GWire.mk 0 0 0 ([]) false) ([]) ([]) ([])) .nil (.r (.msl 2 0 0 r.1.length)) (.r (.msl 3 0 0 r.2.1.length)))), (.own 5 1 (eU8.cells r.2.2)), (.own 5 1 (eU8.cells r.1)), (.own 201 4 (e_GTok.cells r.2.1))]) e st
def f206_j0_J (a1 : UInt8) (a2 : Int) (a3 : Int) (a4 : Int) (a5 : List UInt8) (a6 : Bool) (a7 : List UInt8) (a8 : List UInt8) (a9 : List GTok) (p40 : Int) (p41 : Int) (p42 : Int) (p43 : List UInt8) (p44 : Bool) (p45 : List UInt8) (p46 : List UInt8) (p47 : List GTok) : St := ⟨(up (up (up (up u0 1000003 .un) 1000002 .un) 1000001 .un) 0 (pt 0)), (up (up (up (up h0 3 ⟨1, some (.own 201 4 (e_GTok.cells p47))⟩) 2 ⟨1, some (.own 5 1 (eU8.cells p46))⟩) 1 ⟨1, some (.own 5 1 (eU8.cells p45))⟩) 0 ⟨0, some (.box (bx_Greceiver (Greceiver.mk (GWire.mk p40 p41 p42 p43 p44) ([]) ([]) ([])) (.r (.msl 1 1 0 p45.length)) (.r (.msl 2 1 0 p46.length)) (.r (.msl 3 1 0 p47.length))))⟩)⟩
def f206_j0 (a1 : UInt8) (a2 : Int) (a3 : Int) (a4 : Int) (a5 : List UInt8) (a6 : Bool) (a7 : List UInt8) (a8 : List UInt8) (a9 : List GTok) (p40 : Int) (p41 : Int) (p42 : Int) (p43 : List UInt8) (p44 : Bool) (p45 : List UInt8) (p46 : List UInt8) (p47 : List GTok) : Option ((List UInt8) × (List GTok) × (List UInt8)) := (some (p46, p47, p45))
theorem f206_j0_ok {d : Nat} (hd : 3 ≤ d) (a1 : UInt8) (a2 : Int) (a3 : Int) (a4 : Int) (a5 : List UInt8) (a6 : Bool) (a7 : List UInt8) (a8 : List UInt8) (a9 : List GTok) {r : (List UInt8) × (List GTok) × (List UInt8)} {Q : PQ} (hQ : FQ (f206_Q r) Q) (p40 : Int) (p41 : Int) (p42 : Int) (p43 : List UInt8) (p44 : Bool) (p45 : List UInt8) (p46 : List UInt8) (p47 : List GTok) (hS : f206_j0 a1 a2 a3 a4 a5 a6 a7 a8 a9 p40 p41 p42 p43 p44 p45 p46 p47 = some r) {st : St} (he : keepSt [0, 1000001, 1000002, 1000003] [(0, .id 0), (1, .id 1), (2, .id 2), (3, .id 3)] [] st = f206_j0_J a1 a2 a3 a4 a5 a6 a7 a8 a9 p40 p41 p42 p43 p44 p45 p46 p47) : ZR (lev codes baseL (d - 1)) Q c206_1 [] st := by
 refine zrKeep he ?_
 unfold f206_j0 at hS
 refine zrReg (zL 9 9 (zE ?_))
 exact zkNil (endQ hS hQ (fN (f206_out p46 p47 p45)))
def f206 (a1 : UInt8) (a2 : Int) (a3 : Int) (a4 : Int) (a5 : List UInt8) (a6 : Bool) (a7 : List UInt8) (a8 : List UInt8) (a9 : List GTok) : Option ((List UInt8) × (List GTok) × (List UInt8)) := (bif (decide ((a1.toNat : Int) = 240)) then (bif a6 then ((f204 (GTok.mk 5 250 a4 ([])) a2 a3 a4 a5 a6 a7 a8 a9).bind fun z7 => (f206_j0 a1 a2 a3 a4 a5 a6 a7 a8 a9 z7.1 z7.2.1 z7.2.2.1 z7.2.2.2.1 z7.2.2.2.2.1 z7.2.2.2.2.2.1 z7.2.2.2.2.2.2.1 z7.2.2.2.2.2.2.2)) else (bif (decide ((a1.toNat : Int) = 240)) then ((f204 (GTok.mk 4 0 a4 a7) a2 a3 a4 a5 a6 a7 a8 a9).bind fun z8 => (f206_j0 a1 a2 a3 a4 a5 a6 a7 a8 a9 z8.1 z8.2.1 z8.2.2.1 z8.2.2.2.1 z8.2.2.2.2.1 z8.2.2.2.2.2.1 z8.2.2.2.2.2.2.1 z8.2.2.2.2.2.2.2)) else ((f204 (GTok.mk 5 (a1.toNat : Int) a4 ([])) a2 a3 a4 a5 a6 a7 a8 a9).bind fun z9 => (f206_j0 a1 a2 a3 a4 a5 a6 a7 a8 a9 z9.1 z9.2.1 z9.2.2.1 z9.2.2.2.1 z9.2.2.2.2.1 z9.2.2.2.2.2.1 z9.2.2.2.2.2.2.1 z9.2.2.2.2.2.2.2)))) else (bif (decide ((a1.toNat : Int) = 240)) then ((f204 (GTok.mk 4 0 a4 a7) a2 a3 a4 a5 a6 a7 a8 a9).bind fun z10 => (f206_j0 a1 a2 a3 a4 a5 a6 a7 a8 a9 z10.1 z10.2.1 z10.2.2.1 z10.2.2.2.1 z10.2.2.2.2.1 z10.2.2.2.2.2.1 z10.2.2.2.2.2.2.1 z10.2.2.2.2.2.2.2)) else ((f204 (GTok.mk 5 (a1.toNat : Int) a4 ([])) a2 a3 a4 a5 a6 a7 a8 a9).bind fun z11 => (f206_j0 a1 a2 a3 a4 a5 a6 a7 a8 a9 z11.1 z11.2.1 z11.2.2.1 z11.2.2.2.1 z11.2.2.2.2.1 z11.2.2.2.2.2.1 z11.2.2.2.2.2.2.1 z11.2.2.2.2.2.2.2))))
theorem f206_ok (d : Nat) (hd : 3 ≤ d) (a1 : UInt8) (a2 : Int) (a3 : Int) (a4 : Int) (a5 : List UInt8) (a6 : Bool) (a7 : List UInt8) (a8 : List UInt8) (a9 : List GTok) (r : (List UInt8) × (List GTok) × (List UInt8)) (hS : f206 a1 a2 a3 a4 a5 a6 a7 a8 a9 = some r) : lev codes baseL d 206 [(pt 0), (.d (.int .u8 (a1.toNat : Int)))] [(.box (bx_Greceiver (Greceiver.mk (GWire.mk a2 a3 a4 a5 a6) ([]) ([]) ([])) (.r (.msl 1 0 0 a7.length)) (.r (.msl 2 0 0 a8.length)) (.r (.msl 3 0 0 a9.length)))), (.own 5 1 (eU8.cells a7)), (.own 5 1 (eU8.cells a8)), (.own 201 4 (e_GTok.cells a9))] = some ((.tup []), [(.box (bx_Greceiver (Greceiver.mk (GWire.mk 0 0 0 ([]) false) ([]) ([]) ([])) .nil (.r (.msl 2 0 0 r.1.length)) (.r (.msl 3 0 0 r.2.1.length)))), (.own 5 1 (eU8.cells r.2.2)), (.own 5 1 (eU8.cells r.1)), (.own 201 4 (e_GTok.cells r.2.1))]) := by
 refine lev_go codes206 rfl rfl (Nat.le_trans (Nat.le_of_ble_eq_true rfl) hd) fun Q hQ => ?_
 unfold f206 at hS
 show ZR _ Q c206_b [] _
 replace hQ : FQ (f206_Q r) Q := hQ
 refine zrSeq (zrBlk (zrSeq (zrReg (zL 1 1 ?_))))
 refine sB 16 2 (.cmpI .eql (tm 15) (.const (.int .u8 240))) hS (fun hS => ?_) (fun hS => ?_)
 ·refine zL 8 10 (zE (zkSeq ?_))
  refine sR 14 hS (fun hS => ?_) (fun hS => ?_)
  ·refine zT (zrReg (zL 7 7 ?_))
   exact bindE hS (fun z7 hz7 hS => zO (some 31) 8 (.callr 204 [(tm 24), (tm 30)]) (ev_cR [0, 1, 2, 3] (f204_ok (d - 1) (dpt hd rfl) (GTok.mk 5 250 a4 ([])) a2 a3 a4 a5 a6 a7 a8 a9 z7 hz7)) (zE (zkBlk (zkSeq (f206_j0_ok hd a1 a2 a3 a4 a5 a6 a7 a8 a9 hQ z7.1 z7.2.1 z7.2.2.1 z7.2.2.2.1 z7.2.2.2.2.1 z7.2.2.2.2.2.1 z7.2.2.2.2.2.2.1 z7.2.2.2.2.2.2.2 hS (by kernel_rfl))))))
  ·refine zF (zrSeq (zrReg (zL 1 1 ?_)))
   refine sB 34 2 (.cmpI .eql (tm 33) (.const (.int .u8 240))) hS (fun hS => ?_) (fun hS => ?_)
   ·refine zL 1 3 (zE (zkSeq (zT ?_)))
    exact zrRegD (zdR 10 10 (zdO (v := (.d (.str a7))) (ups := []) (some 45) 11 none (.cvBS (tm 44)) (ev_cvBS (s := a7) ((congrArg (asL _) (by kernel_rfl : ρof _ (.tmp 44) = (.r (.msl 1 0 0 a7.length)))).trans (as_whole eU8 (e := 5) (k := 1) (xs := a7) (by kernel_rfl) rfl rfl)) rfl) (zdR 1 12 (bindE hS (fun z8 hz8 hS => zdO (some 47) 13 none (.callr 204 [(tm 35), (tm 46)]) (ev_cR [0, 1, 2, 3] (f204_ok (d - 1) (dpt hd rfl) (GTok.mk 4 0 a4 a7) a2 a3 a4 a5 a6 a7 a8 a9 z8 hz8)) (zdE (zkBlk (zkSeq (f206_j0_ok hd a1 a2 a3 a4 a5 a6 a7 a8 a9 hQ z8.1 z8.2.1 z8.2.2.1 z8.2.2.2.1 z8.2.2.2.2.1 z8.2.2.2.2.2.1 z8.2.2.2.2.2.2.1 z8.2.2.2.2.2.2.2 hS (by kernel_rfl))))))))))
   ·refine zL 1 3 (zE (zkSeq (zF (zrReg (zL 2 2 ?_)))))
    exact zO (v := (dI (a1.toNat : Int))) (ups := []) (some 6) 3 (.cvI .i64 (tm 5)) (ev_cv (kk := .u8) (a := (a1.toNat : Int)) (by kernel_rfl) (cv_i64 _)) (zL 6 9 (bindE hS (fun z9 hz9 hS => zO (some 13) 10 (.callr 204 [(tm 4), (tm 12)]) (ev_cR [0, 1, 2, 3] (f204_ok (d - 1) (dpt hd rfl) (GTok.mk 5 (a1.toNat : Int) a4 ([])) a2 a3 a4 a5 a6 a7 a8 a9 z9 hz9)) (zE (zkBlk (zkSeq (f206_j0_ok hd a1 a2 a3 a4 a5 a6 a7 a8 a9 hQ z9.1 z9.2.1 z9.2.2.1 z9.2.2.2.1 z9.2.2.2.2.1 z9.2.2.2.2.2.1 z9.2.2.2.2.2.2.1 z9.2.2.2.2.2.2.2 hS (by kernel_rfl))))))))
 ·refine zL 8 10 (zE (zkSeq (zF (zrSeq (zrReg (zL 1 1 ?_))))))
  refine sB 34 2 (.cmpI .eql (tm 33) (.const (.int .u8 240))) hS (fun hS => ?_) (fun hS => ?_)
  ·refine zL 1 3 (zE (zkSeq (zT ?_)))
   exact zrRegD (zdR 10 10 (zdO (v := (.d (.str a7))) (ups := []) (some 45) 11 none (.cvBS (tm 44)) (ev_cvBS (s := a7) ((congrArg (asL _) (by kernel_rfl : ρof _ (.tmp 44) = (.r (.msl 1 0 0 a7.length)))).trans (as_whole eU8 (e := 5) (k := 1) (xs := a7) (by kernel_rfl) rfl rfl)) rfl) (zdR 1 12 (bindE hS (fun z10 hz10 hS => zdO (some 47) 13 none (.callr 204 [(tm 35), (tm 46)]) (ev_cR [0, 1, 2, 3] (f204_ok (d - 1) (dpt hd rfl) (GTok.mk 4 0 a4 a7) a2 a3 a4 a5 a6 a7 a8 a9 z10 hz10)) (zdE (zkBlk (zkSeq (f206_j0_ok hd a1 a2 a3 a4 a5 a6 a7 a8 a9 hQ z10.1 z10.2.1 z10.2.2.1 z10.2.2.2.1 z10.2.2.2.2.1 z10.2.2.2.2.2.1 z10.2.2.2.2.2.2.1 z10.2.2.2.2.2.2.2 hS (by kernel_rfl))))))))))
  ·refine zL 1 3 (zE (zkSeq (zF (zrReg (zL 2 2 ?_)))))
   exact zO (v := (dI (a1.toNat : Int))) (ups := []) (some 6) 3 (.cvI .i64 (tm 5)) (ev_cv (kk := .u8) (a := (a1.toNat : Int)) (by kernel_rfl) (cv_i64 _)) (zL 6 9 (bindE hS (fun z11 hz11 hS => zO (some 13) 10 (.callr 204 [(tm 4), (tm 12)]) (ev_cR [0, 1, 2, 3] (f204_ok (d - 1) (dpt hd rfl) (GTok.mk 5 (a1.toNat : Int) a4 ([])) a2 a3 a4 a5 a6 a7 a8 a9 z11 hz11)) (zE (zkBlk (zkSeq (f206_j0_ok hd a1 a2 a3 a4 a5 a6 a7 a8 a9 hQ z11.1 z11.2.1 z11.2.2.1 z11.2.2.2.1 z11.2.2.2.2.1 z11.2.2.2.2.2.1 z11.2.2.2.2.2.2.1 z11.2.2.2.2.2.2.2 hS (by kernel_rfl))))))))
/- (*farwriter/iac.receiver).take -/
def f156_fin (p9 : Int) (p10 : Int) (p11 : Int) (p12 : List UInt8) (p13 : Bool) (p14 : List UInt8) (p15 : List UInt8) (p16 : List GTok) : St := ⟨(up (up (up u0 1000003 .un) 1000002 .un) 1000001 .un), (up (up (up (up h0 3 ⟨1, some (.own 201 4 (e_GTok.cells p16))⟩) 2 ⟨1, some (.own 5 1 (eU8.cells p15))⟩) 1 ⟨1, some (.own 5 1 (eU8.cells p14))⟩) 0 ⟨0, some (.box (bx_Greceiver (Greceiver.mk (GWire.mk p9 p10 p11 p12 p13) ([]) ([]) ([])) (.r (.msl 1 1 0 p14.length)) (.r (.msl 2 1 0 p15.length)) (.r (.msl 3 1 0 p16.length))))⟩)⟩
theorem f156_out (p9 : Int) (p10 : Int) (p11 : Int) (p12 : List UInt8) (p13 : Bool) (p14 : List UInt8) (p15 : List UInt8) (p16 : List GTok) : outR (f156_fin p9 p10 p11 p12 p13 p14 p15 p16) 4 c156.res = some ((.tup []), [(.box (bx_Greceiver (Greceiver.mk (GWire.mk p9 p10 p11 p12 p13) ([]) ([]) ([])) (.r (.msl 1 0 0 p14.length)) (.r (.msl 2 0 0 p15.length)) (.r (.msl 3 0 0 p16.length)))), (.own 5 1 (eU8.cells p14)), (.own 5 1 (eU8.cells p15)), (.own 201 4 (e_GTok.cells p16))]) := by
 kernel_rfl
def f156_Q (r : Int × Int × Int × (List UInt8) × Bool × (List UInt8) × (List UInt8) × (List GTok)) (e : PX) (st : St) : Prop := DoneF c156 4 ((.tup []), [(.box (bx_Greceiver (Greceiver.mk (GWire.mk r.1 r.2.1 r.2.2.1 r.2.2.2.1 r.2.2.2.2.1) ([]) ([]) ([])) (.r (.msl 1 0 0 r.2.2.2.2.2.1.length)) (.r (.msl 2 0 0 r.2.2.2.2.2.2.1.length)) (.r (.msl 3 0 0 r.2.2.2.2.2.2.2.length)))), (.own 5 1 (eU8.cells r.2.2.2.2.2.1)), (.own 5 1 (eU8.cells r.2.2.2.2.2.2.1)), (.own 201 4 (e_GTok.cells r.2.2.2.2.2.2.2))]) e st
def f156 (a1 : UInt8) (a2 : Int) (a3 : Int) (a4 : Int) (a5 : List UInt8) (a6 : Bool) (a7 : List UInt8) (a8 : List UInt8) (a9 : List GTok) : Option (Int × Int × Int × (List UInt8) × Bool × (List UInt8) × (List UInt8) × (List GTok)) := (bif (decide (a2 = 0)) then (bif (decide ((a1.toNat : Int) = 255)) then (some (1, a3, a4, a5, a6, a7, a8, a9)) else ((app? 1 a8 ([a1] : List UInt8)).bind fun z7 => (some (a2, a3, a4, a5, a6, a7, z7, a9)))) else (bif (decide (a2 = 1)) then ((f203 a1 a2 a3 a4 a5 a6 a7 a8 a9).bind fun z8 => (some (z8.1, z8.2.1, z8.2.2.1, z8.2.2.2.1, z8.2.2.2.2.1, z8.2.2.2.2.2.1, z8.2.2.2.2.2.2.1, z8.2.2.2.2.2.2.2))) else (bif (decide (a2 = 2)) then ((f204 (GTok.mk 3 a3 (a1.toNat : Int) ([])) a2 a3 a4 a5 a6 a7 a8 a9).bind fun z9 => (some (0, 0, z9.2.2.1, z9.2.2.2.1, z9.2.2.2.2.1, z9.2.2.2.2.2.1, z9.2.2.2.2.2.2.1, z9.2.2.2.2.2.2.2))) else (bif (decide (a2 = 3)) then (some (4, a3, (a1.toNat : Int), a5, a6, a7, a8, a9)) else (bif (decide (a2 = 4)) then (bif (decide ((a1.toNat : Int) = 255)) then (some (5, a3, a4, a5, a6, a7, a8, a9)) else ((f205 a1 a2 a3 a4 a5 a6 a7 a8 a9).bind fun z10 => (some (z10.1, z10.2.1, z10.2.2.1, z10.2.2.2.1, z10.2.2.2.2.1, z10.2.2.2.2.2.1, z10.2.2.2.2.2.2.1, z10.2.2.2.2.2.2.2)))) else (bif (decide ((a1.toNat : Int) = 255)) then ((f205 a1 4 a3 a4 a5 a6 a7 a8 a9).bind fun z11 => (some (z11.1, z11.2.1, z11.2.2.1, z11.2.2.2.1, z11.2.2.2.2.1, z11.2.2.2.2.2.1, z11.2.2.2.2.2.2.1, z11.2.2.2.2.2.2.2))) else ((f206 a1 a2 a3 a4 a5 a6 a7 a8 a9).bind fun z12 => (some (0, 0, 0, [], false, [], z12.1, z12.2.1)))))))))
theorem f156_ok (d : Nat) (hd : 4 ≤ d) (a1 : UInt8) (a2 : Int) (a3 : Int) (a4 : Int) (a5 : List UInt8) (a6 : Bool) (a7 : List UInt8) (a8 : List UInt8) (a9 : List GTok) (r : Int × Int × Int × (List UInt8) × Bool × (List UInt8) × (List UInt8) × (List GTok)) (hS : f156 a1 a2 a3 a4 a5 a6 a7 a8 a9 = some r) : lev codes baseL d 156 [(pt 0), (.d (.int .u8 (a1.toNat : Int)))] [(.box (bx_Greceiver (Greceiver.mk (GWire.mk a2 a3 a4 a5 a6) ([]) ([]) ([])) (.r (.msl 1 0 0 a7.length)) (.r (.msl 2 0 0 a8.length)) (.r (.msl 3 0 0 a9.length)))), (.own 5 1 (eU8.cells a7)), (.own 5 1 (eU8.cells a8)), (.own 201 4 (e_GTok.cells a9))] = some ((.tup []), [(.box (bx_Greceiver (Greceiver.mk (GWire.mk r.1 r.2.1 r.2.2.1 r.2.2.2.1 r.2.2.2.2.1) ([]) ([]) ([])) (.r (.msl 1 0 0 r.2.2.2.2.2.1.length)) (.r (.msl 2 0 0 r.2.2.2.2.2.2.1.length)) (.r (.msl 3 0 0 r.2.2.2.2.2.2.2.length)))), (.own 5 1 (eU8.cells r.2.2.2.2.2.1)), (.own 5 1 (eU8.cells r.2.2.2.2.2.2.1)), (.own 201 4 (e_GTok.cells r.2.2.2.2.2.2.2))]) := by
 refine lev_go codes156 rfl rfl (Nat.le_trans (Nat.le_of_ble_eq_true rfl) hd) fun Q hQ => ?_
 unfold f156 at hS
 show ZR _ Q c156_b [] _
 replace hQ : FQ (f156_Q r) Q := hQ
 refine zrSeq (zrReg (zL 5 5 (zE (zkSeq ?_))))
 refine zrBlk (zrSeq (zrReg ?_))
 refine sB 22 1 (ck 8 0) hS (fun hS => ?_) (fun hS => ?_)
 ·refine zL 1 2 (zE (zkSeq (zT (zrSeq (zrReg (zL 1 1 ?_))))))
  refine sB 24 2 (.cmpI .eql (tm 23) (.const (.int .u8 255))) hS (fun hS => ?_) (fun hS => ?_)
  ·refine zE (zkSeq (zT (zrReg (zL 5 5 (zE ?_)))))
   exact zkBlk (zkNil (endQ hS hQ (fN (f156_out 1 a3 a4 a5 a6 a7 a8 a9))))
  ·refine zE (zkSeq (zF (zrReg (zL 7 7 ?_))))
   refine bindE hS (fun z7 hz7 hS => zO (v := (.r (.msl 2 1 0 z7.length))) (ups := [(2, ⟨1, some (.own 5 1 (eU8.cells z7))⟩)]) (some 36) 8 (.app 5 1 1 (tm 33) (tm 35)) (ev_app eU8 (b := 2) (g := 0) (n := a8.length) (xs := a8) (ys := [a1]) ((congrArg (asL _) (by kernel_rfl : ρof _ (.tmp 35) = (.r (.msl 288 1 0 (([a1] : List UInt8).length))))).trans (as_whole eU8 (e := 5) (k := 1) (xs := [a1]) (by kernel_rfl) rfl rfl)) rfl (by kernel_rfl) rfl (by kernel_rfl) rfl hz7) (zL 3 11 (zE ?_)))
   exact zkBlk (zkNil (endQ hS hQ (fN (f156_out a2 a3 a4 a5 a6 a7 z7 a9))))
 ·refine zL 1 2 (zE (zkSeq (zF (zrSeq (zrReg ?_)))))
  refine sB 40 1 (ck 8 1) hS (fun hS => ?_) (fun hS => ?_)
  ·refine zL 1 2 (zE (zkSeq (zT (zrReg (zL 2 2 ?_)))))
   exact bindE hS (fun z8 hz8 hS => zO (some 43) 3 (.callr 203 [(tm 41), (tm 42)]) (ev_cR [0, 1, 2, 3] (f203_ok (d - 1) (dpt hd rfl) a1 a2 a3 a4 a5 a6 a7 a8 a9 z8 hz8)) (zE (zkBlk (zkNil (endQ hS hQ (fN (f156_out z8.1 z8.2.1 z8.2.2.1 z8.2.2.2.1 z8.2.2.2.2.1 z8.2.2.2.2.2.1 z8.2.2.2.2.2.2.1 z8.2.2.2.2.2.2.2)))))))
  ·refine zL 1 2 (zE (zkSeq (zF (zrSeq (zrReg ?_)))))
   refine sB 45 1 (ck 8 2) hS (fun hS => ?_) (fun hS => ?_)
   ·refine zL 1 2 (zE (zkSeq (zT (zrSeq (zrReg (zL 7 7 ?_))))))
    refine zO (v := (dI (a1.toNat : Int))) (ups := []) (some 53) 8 (.cvI .i64 (tm 52)) (ev_cv (kk := .u8) (a := (a1.toNat : Int)) (by kernel_rfl) (cv_i64 _)) (zL 1 9 (bindE hS (fun z9 hz9 hS => zO (some 55) 10 (.callr 204 [(tm 46), (tm 54)]) (ev_cR [0, 1, 2, 3] (f204_ok (d - 1) (dpt hd rfl) (GTok.mk 3 a3 (a1.toNat : Int) ([])) a2 a3 a4 a5 a6 a7 a8 a9 z9 hz9)) (zE (zkSeq (zrReg (zL 10 10 (zE ?_))))))))
    exact zkBlk (zkNil (endQ hS hQ (fN (f156_out 0 0 z9.2.2.1 z9.2.2.2.1 z9.2.2.2.2.1 z9.2.2.2.2.2.1 z9.2.2.2.2.2.2.1 z9.2.2.2.2.2.2.2))))
   ·refine zL 1 2 (zE (zkSeq (zF (zrSeq (zrReg ?_)))))
    refine sB 65 1 (ck 8 3) hS (fun hS => ?_) (fun hS => ?_)
    ·refine zL 1 2 (zE (zkSeq (zT (zrReg (zL 3 3 ?_)))))
     refine zO (v := (dI (a1.toNat : Int))) (ups := []) (some 69) 4 (.cvI .i64 (tm 68)) (ev_cv (kk := .u8) (a := (a1.toNat : Int)) (by kernel_rfl) (cv_i64 _)) (zL 8 12 (zE ?_))
     exact zkBlk (zkNil (endQ hS hQ (fN (f156_out 4 a3 (a1.toNat : Int) a5 a6 a7 a8 a9))))
    ·refine zL 1 2 (zE (zkSeq (zF (zrSeq (zrReg ?_)))))
     refine sB 77 1 (ck 8 4) hS (fun hS => ?_) (fun hS => ?_)
     ·refine zL 1 2 (zE (zkSeq (zT (zrSeq (zrReg (zL 1 1 ?_))))))
      refine sB 79 2 (.cmpI .eql (tm 78) (.const (.int .u8 255))) hS (fun hS => ?_) (fun hS => ?_)
      ·refine zE (zkSeq (zT (zrReg (zL 5 5 (zE ?_)))))
       exact zkBlk (zkNil (endQ hS hQ (fN (f156_out 5 a3 a4 a5 a6 a7 a8 a9))))
      ·refine zE (zkSeq (zF (zrReg (zL 2 2 ?_))))
       exact bindE hS (fun z10 hz10 hS => zO (some 86) 3 (.callr 205 [(tm 84), (tm 85)]) (ev_cR [0, 1, 2, 3] (f205_ok (d - 1) (dpt hd rfl) a1 a2 a3 a4 a5 a6 a7 a8 a9 z10 hz10)) (zE (zkBlk (zkNil (endQ hS hQ (fN (f156_out z10.1 z10.2.1 z10.2.2.1 z10.2.2.2.1 z10.2.2.2.2.1 z10.2.2.2.2.2.1 z10.2.2.2.2.2.2.1 z10.2.2.2.2.2.2.2)))))))
     ·refine zL 1 2 (zE (zkSeq (zF (zrSeq (zrReg (zL 1 1 ?_))))))
      refine sB 10 2 (.cmpI .eql (tm 9) (.const (.int .u8 255))) hS (fun hS => ?_) (fun hS => ?_)
      ·refine zE (zkSeq (zT (zrSeq (zrReg (zL 5 5 (zE (zkSeq (zrReg (zL 2 2 ?_)))))))))
       exact bindE hS (fun z11 hz11 hS => zO (some 17) 3 (.callr 205 [(tm 15), (tm 16)]) (ev_cR [0, 1, 2, 3] (f205_ok (d - 1) (dpt hd rfl) a1 4 a3 a4 a5 a6 a7 a8 a9 z11 hz11)) (zE (zkBlk (zkNil (endQ hS hQ (fN (f156_out z11.1 z11.2.1 z11.2.2.1 z11.2.2.2.1 z11.2.2.2.2.1 z11.2.2.2.2.2.1 z11.2.2.2.2.2.2.1 z11.2.2.2.2.2.2.2)))))))
      ·refine zE (zkSeq (zF (zrReg (zL 2 2 ?_))))
       exact bindE hS (fun z12 hz12 hS => zO (some 20) 3 (.callr 206 [(tm 18), (tm 19)]) (ev_cR [0, 1, 2, 3] (f206_ok (d - 1) (dpt hd rfl) a1 a2 a3 a4 a5 a6 a7 a8 a9 z12 hz12)) (zE (zkBlk (zkNil (endQ hS hQ (fN (f156_out 0 0 0 [] false [] z12.1 z12.2.1)))))))
end
end Go.Proofs.YtobkkblijfhpoaaGreatDoor.Pm
