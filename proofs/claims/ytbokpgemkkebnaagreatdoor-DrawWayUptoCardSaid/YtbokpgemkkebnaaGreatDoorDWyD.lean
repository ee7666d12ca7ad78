/- Typed functions, and that the codes are these. Printed by dec.py. -/
import Derived.Test.YtbokpgemkkebnaaGreatDoorDWyC
namespace Go.Proofs.YtbokpgemkkebnaaGreatDoor.Pm
noncomputable section
set_option maxRecDepth 1000000
set_option maxHeartbeats 20000000
set_option linter.unusedVariables false
/- farwriter/grid.size -/
def f36_fin (p2 : Int) : St := ⟨(up u0 4 (dI p2)), h0⟩
theorem f36_out (p2 : Int) : outR (f36_fin p2) 0 c36.res = some ((dI p2), []) := by
 kernel_rfl
def f36_Q (r : Int) (e : PX) (st : St) : Prop := DoneF c36 0 ((dI r), []) e st
def f36 (a1 : Int) (a2 : Int) : Option (Int) := (bif (decide (a1 < 1)) then (some 1) else (bif (decide (160 < a1)) then (some 1) else (bif (decide (a2 < 1)) then (some 1) else (bif (decide (60 < a2)) then (some 1) else (some 0)))))
theorem f36_ok (d : Nat) (hd : 1 ≤ d) (a1 : Int) (a2 : Int) (r : Int) (hS : f36 a1 a2 = some r) : lev codes baseL d 36 [(dI a1), (dI a2)] [] = some ((dI r), []) := by
 refine lev_go codes36 rfl rfl (Nat.le_trans (Nat.le_of_ble_eq_true rfl) hd) fun Q hQ => ?_
 unfold f36 at hS
 show ZR _ Q c36_b [] _
 replace hQ : FQ (f36_Q r) Q := hQ
 refine zrSeq (zrReg (zL 1 1 (zE (zkSeq (zrSeq (zrSeq (zrReg (zL 1 1 ?_))))))))
 refine sB 6 2 (.cmpI .lss (tm 5) (ki 1)) hS (fun hS => ?_) (fun hS => ?_)
 ·refine zL 12 14 (zE (zkSeq (zT (zrSeq (zrReg (zL 1 1 (zE (zkSeq ?_))))))))
  exact zrRet (zkSeqR (zkNil (endQ hS hQ (fR (f36_out 1)))))
 ·refine zL 2 4 (sH 9 5 7 false (.cmpI .gtr (tm 8) (ki 160)) hS (fun hS => ?_) (fun hS => ?_))
  ·refine zL 9 14 (zE (zkSeq (zT (zrSeq (zrReg (zL 1 1 (zE (zkSeq ?_))))))))
   exact zrRet (zkSeqR (zkNil (endQ hS hQ (fR (f36_out 1)))))
  ·refine zL 3 8 (sH 13 9 11 false (.cmpI .lss (tm 12) (ki 1)) hS (fun hS => ?_) (fun hS => ?_))
   ·refine zL 5 14 (zE (zkSeq (zT (zrSeq (zrReg (zL 1 1 (zE (zkSeq ?_))))))))
    exact zrRet (zkSeqR (zkNil (endQ hS hQ (fR (f36_out 1)))))
   ·refine zL 3 12 (sH 17 13 15 false (.cmpI .gtr (tm 16) (ki 60)) hS (fun hS => ?_) (fun hS => ?_))
    ·refine zL 1 14 (zE (zkSeq (zT (zrSeq (zrReg (zL 1 1 (zE (zkSeq ?_))))))))
     exact zrRet (zkSeqR (zkNil (endQ hS hQ (fR (f36_out 1)))))
    ·refine zL 1 14 (zE (zkSeq (zF ?_)))
     refine zrSkip (zkSeq (zrSeq (zrReg (zL 1 1 (zE (zkSeq ?_))))))
     exact zrRet (zkNil (endQ hS hQ (fR (f36_out 0))))
/- farwriter/grid.row -/
def f25_fin (p1 : List GCell) : St := ⟨(up (up u0 2000000 .un) 4 (dE e_GCell p1)), (up h0 0 ⟨0, none⟩)⟩
theorem f25_out (p1 : List GCell) : outR (f25_fin p1) 0 c25.res = some ((dE e_GCell p1), []) := by
 kernel_rfl
def f25_Q (r : (List GCell)) (e : PX) (st : St) : Prop := DoneF c25 0 ((dE e_GCell r), [.box []]) e st
def f25 (a1 : GGrid) (a2 : Int) : Option ((List GCell)) := ((sub? a1.Cells (IntKind.i64.wrap (a2 * a1.Wide)) (IntKind.i64.wrap ((IntKind.i64.wrap (a2 + 1)) * a1.Wide))).bind fun z2 => (some z2))
theorem f25_ok (d : Nat) (hd : 1 ≤ d) (a1 : GGrid) (a2 : Int) (r : (List GCell)) (hS : f25 a1 a2 = some r) : lev codes baseL d 25 [(.agg ((dI a1.Wide) :: ((dI a1.High) :: ((dE e_GCell a1.Cells) :: [])))), (dI a2)] [] = some ((dE e_GCell r), [.box []]) := by
 refine lev_go codes25 rfl rfl (Nat.le_trans (Nat.le_of_ble_eq_true rfl) hd) fun Q hQ => ?_
 unfold f25 at hS
 show ZR _ Q c25_b [] _
 replace hQ : FQ (f25_Q r) Q := hQ
 refine zrSeq (zrReg (zL 2 2 (zE (zkSeq (zrSeq (zrReg (zL 11 11 ?_)))))))
 refine bindE hS (fun z2 hz2 hS => zO (v := (dE e_GCell z2)) (ups := []) (some 16) 12 (.slS 49 4 (tm 6) (.some (tm 10)) (.some (tm 15))) (ev_slS e_GCell (xs := a1.Cells) (a := (IntKind.i64.wrap (a2 * a1.Wide))) (c := (IntKind.i64.wrap ((IntKind.i64.wrap (a2 + 1)) * a1.Wide))) (by kernel_rfl) rfl (bnd_s _ (kk := .i64) (j := (IntKind.i64.wrap (a2 * a1.Wide))) (by kernel_rfl)) (bnd_s _ (kk := .i64) (j := (IntKind.i64.wrap ((IntKind.i64.wrap (a2 + 1)) * a1.Wide))) (by kernel_rfl)) hz2) (zL 1 13 (zE (zkSeq ?_))))
 exact zrRet (zkNil (endQ hS hQ (fRetX (by kernel_rfl) (by kernel_rfl : finSt c25.fin _ = f25_fin z2) (by kernel_rfl) (f25_out z2))))
/- farwriter/pen.color -/
def f39_fin (p6 : Bool) : St := ⟨(up u0 2 (dB p6)), h0⟩
theorem f39_out (p6 : Bool) : outR (f39_fin p6) 0 c39.res = some ((dB p6), []) := by
 kernel_rfl
def f39_Q (r : Bool) (e : PX) (st : St) : Prop := DoneF c39 0 ((dB r), []) e st
def f39 (a1 : Int) : Option (Bool) := (bif (decide (0 ≤ a1)) then (bif (decide (a1 ≤ 256)) then (some true) else (bif (decide (16777216 ≤ a1)) then (bif (decide (a1 < 33554432)) then (some true) else (some false)) else (some false))) else (bif (decide (16777216 ≤ a1)) then (bif (decide (a1 < 33554432)) then (some true) else (some false)) else (some false)))
theorem f39_ok (d : Nat) (hd : 1 ≤ d) (a1 : Int) (r : Bool) (hS : f39 a1 = some r) : lev codes baseL d 39 [(dI a1)] [] = some ((dB r), []) := by
 refine lev_go codes39 rfl rfl (Nat.le_trans (Nat.le_of_ble_eq_true rfl) hd) fun Q hQ => ?_
 unfold f39 at hS
 show ZR _ Q c39_b [] _
 replace hQ : FQ (f39_Q r) Q := hQ
 refine zrSeq (zrReg (zL 1 1 (zE (zkSeq (zrSeq (zrReg (zL 1 1 ?_)))))))
 refine sB 4 2 (.cmpI .geq (tm 3) (ki 0)) hS (fun hS => ?_) (fun hS => ?_)
 ·refine zL 2 4 (sH 7 5 5 true (.cmpI .leq (tm 6) (ki 256)) hS (fun hS => ?_) (fun hS => ?_))
  ·refine zL 10 15 (zE (zkSeq ?_))
   exact zrRet (zkNil (endQ hS hQ (fR (f39_out true))))
  ·refine zL 3 8 (sH 11 9 9 false (.cmpI .geq (tm 10) (ki 16777216)) hS (fun hS => ?_) (fun hS => ?_))
   ·refine zL 2 11 (sH 14 12 12 true (.cmpI .lss (tm 13) (ki 33554432)) hS (fun hS => ?_) (fun hS => ?_))
    ·refine zL 3 15 (zE (zkSeq ?_))
     exact zrRet (zkNil (endQ hS hQ (fR (f39_out true))))
    ·refine zL 3 15 (zE (zkSeq ?_))
     exact zrRet (zkNil (endQ hS hQ (fR (f39_out false))))
   ·refine zL 6 15 (zE (zkSeq ?_))
    exact zrRet (zkNil (endQ hS hQ (fR (f39_out false))))
 ·refine zL 6 8 (sH 11 9 9 false (.cmpI .geq (tm 10) (ki 16777216)) hS (fun hS => ?_) (fun hS => ?_))
  ·refine zL 2 11 (sH 14 12 12 true (.cmpI .lss (tm 13) (ki 33554432)) hS (fun hS => ?_) (fun hS => ?_))
   ·refine zL 3 15 (zE (zkSeq ?_))
    exact zrRet (zkNil (endQ hS hQ (fR (f39_out true))))
   ·refine zL 3 15 (zE (zkSeq ?_))
    exact zrRet (zkNil (endQ hS hQ (fR (f39_out false))))
  ·refine zL 6 15 (zE (zkSeq ?_))
   exact zrRet (zkNil (endQ hS hQ (fR (f39_out false))))
/- farwriter/pen.Check -/
def f21_fin (p2 : Int) : St := ⟨(up u0 2 (dI p2)), h0⟩
theorem f21_out (p2 : Int) : outR (f21_fin p2) 0 c21.res = some ((dI p2), []) := by
 kernel_rfl
def f21_Q (r : Int) (e : PX) (st : St) : Prop := DoneF c21 0 ((dI r), []) e st
def f21 (a1 : GPen) : Option (Int) := (bif (decide (a1.Flags < 0)) then (some 4) else (bif (decide (255 < a1.Flags)) then (some 4) else ((f39 a1.Fore).bind fun z3 => (bif (!z3) then (some 4) else ((f39 a1.Back).bind fun z4 => (bif (!z4) then (some 4) else (some 0)))))))
theorem f21_ok (d : Nat) (hd : 2 ≤ d) (a1 : GPen) (r : Int) (hS : f21 a1 = some r) : lev codes baseL d 21 [(.agg ((dI a1.Flags) :: ((dI a1.Fore) :: ((dI a1.Back) :: []))))] [] = some ((dI r), []) := by
 refine lev_go codes21 rfl rfl (Nat.le_trans (Nat.le_of_ble_eq_true rfl) hd) fun Q hQ => ?_
 unfold f21 at hS
 show ZR _ Q c21_b [] _
 replace hQ : FQ (f21_Q r) Q := hQ
 refine zrSeq (zrReg (zL 2 2 (zE (zkSeq (zrSeq (zrSeq (zrReg (zL 2 2 ?_))))))))
 refine sB 5 3 (.cmpI .lss (tm 4) (ki 0)) hS (fun hS => ?_) (fun hS => ?_)
 ·refine zL 17 20 (zE (zkSeq (zT (zrSeq (zrReg (zL 1 1 (zE (zkSeq ?_))))))))
  exact zrRet (zkSeqR (zkNil (endQ hS hQ (fR (f21_out 4)))))
 ·refine zL 3 6 (sH 9 7 6 false (.cmpI .gtr (tm 8) (ki 255)) hS (fun hS => ?_) (fun hS => ?_))
  ·refine zL 13 20 (zE (zkSeq (zT (zrSeq (zrReg (zL 1 1 (zE (zkSeq ?_))))))))
   exact zrRet (zkSeqR (zkNil (endQ hS hQ (fR (f21_out 4)))))
  ·refine zL 4 11 (bindE hS (fun z3 hz3 hS => zG (some 14) 12 11 false (c1 39 13) (ev_cA (f39_ok (d - 1) (dpt hd rfl) a1.Fore z3 hz3)) (zL 3 15 (sL 17 hS (fun hS => ?_) (fun hS => ?_)))))
   ·refine zL 5 20 (zE (zkSeq (zT (zrSeq (zrReg (zL 1 1 (zE (zkSeq ?_))))))))
    exact zrRet (zkSeqR (zkNil (endQ hS hQ (fR (f21_out 4)))))
   ·refine zL 2 17 (bindE hS (fun z4 hz4 hS => zG (some 20) 18 17 false (c1 39 19) (ev_cA (f39_ok (d - 1) (dpt hd rfl) a1.Back z4 hz4)) (zL 2 20 (zE (zkSeq ?_)))))
    refine sR 22 hS (fun hS => ?_) (fun hS => ?_)
    ·refine zT (zrSeq (zrReg (zL 1 1 (zE (zkSeq ?_)))))
     exact zrRet (zkSeqR (zkNil (endQ hS hQ (fR (f21_out 4)))))
    ·refine zF (zrSkip (zkSeq (zrSeq (zrReg (zL 1 1 (zE (zkSeq ?_)))))))
     exact zrRet (zkNil (endQ hS hQ (fR (f21_out 0))))
/- farwriter/width.in -/
def f67_fin (p27 : Bool) : St := ⟨(up u0 4 (dB p27)), h0⟩
theorem f67_out (p27 : Bool) : outR (f67_fin p27) 0 c67.res = some ((dB p27), []) := by
 kernel_rfl
def f67_Q (r : Bool) (e : PX) (st : St) : Prop := DoneF c67 0 ((dB r), []) e st
def f67_l0_J (a1 : Int) (a2 : List (Int × Int)) (x : Int) : St := ⟨(up (up (up (up u0 9 (dI x)) 8 (dI (a2.length : Int))) 7 (dE e_A31 a2)) 0 (dI a1)), h0⟩
def f67_l0_H (a1 : Int) (a2 : List (Int × Int)) (x : Int) (st : St) : Prop := keepSt [0, 7, 8, 9] [] [] st = f67_l0_J a1 a2 x
def f67_l0_e0_J (a1 : Int) (a2 : List (Int × Int)) : St := ⟨u0, h0⟩
def f67_l0_X (a1 : Int) (a2 : List (Int × Int)) (z : Unit ⊕ Bool) (e : PX) (st : St) : Prop := (match z with | .inl z => e = .exit 0 ∧ st = f67_l0_e0_J a1 a2 | .inr z => e = .ret ∧ finSt c67.fin st = f67_fin z)
def f67_l0_j2_J (a1 : Int) (a2 : List (Int × Int)) (p32 : Int) : St := ⟨(up (up (up (up u0 9 (dI p32)) 8 (dI (a2.length : Int))) 7 (dE e_A31 a2)) 0 (dI a1)), h0⟩
def f67_l0_j2 (a1 : Int) (a2 : List (Int × Int)) (p32 : Int) : Option (Int ⊕ (Unit ⊕ Bool)) := ((idx a2 p32).bind fun z4 => (bif (decide (z4.1 ≤ a1)) then (bif (decide (a1 ≤ z4.2)) then (some (.inr (.inr true))) else (some (.inl (IntKind.i64.wrap (p32 + 1))))) else (some (.inl (IntKind.i64.wrap (p32 + 1))))))
theorem f67_l0_j2_ok {d : Nat} (hd : 1 ≤ d) (a1 : Int) (a2 : List (Int × Int)) {r : Int ⊕ (Unit ⊕ Bool)} {Q : PQ} (hQ : FQ (finL (f67_l0_H a1 a2) (f67_l0_X a1 a2) r) Q) (p32 : Int) (hS : f67_l0_j2 a1 a2 p32 = some r) {st : St} (he : keepSt [0, 7, 8, 9] [] [] st = f67_l0_j2_J a1 a2 p32) : ZR (lev codes baseL (d - 1)) Q c67_1 [] st := by
 refine zrKeep he ?_
 unfold f67_l0_j2 at hS
 refine zrSeq (zrBlk (zrSeq (zrReg ?_)))
 refine bindE hS (fun z4 hz4 hS => zO (v := (.rptr (e_A31.enc z4 ++ (e_A31.cells (a2.drop ((p32 : Int).toNat + 1)))))) (ups := []) (some 11) 1 (.ixS 31 2 (tm 7) (tm 9)) (ev_ixS e_A31 (kk := .i64) (xs := a2) (j := p32) (by kernel_rfl) (by kernel_rfl) hz4 rfl (by intro h; cases h)) (zL 3 4 (zE (zkSeq (zrSeq (zrReg (zL 3 3 ?_)))))))
 refine sB 16 4 (.cmpI .geq (tm 13) (tm 15)) hS (fun hS => ?_) (fun hS => ?_)
 ·refine zL 4 8 (sH 21 9 17 true (.cmpI .leq (tm 18) (tm 20)) hS (fun hS => ?_) (fun hS => ?_))
  ·refine zL 1 10 (zE (zkSeq (zT (zrSeq (zrReg (zL 1 1 (zE (zkSeq ?_))))))))
   exact zrRet (zkBlkR (zkSeqR (zkNil (eX1 hS hQ))))
  ·refine zL 1 10 (zE (zkSeq (zF ?_)))
   refine zrSkip (zkBlk (zkSeq (zrReg (zL 2 2 (zE ?_)))))
   exact zkNil (eN1 hS hQ)
 ·refine zL 6 10 (zE (zkSeq (zF ?_)))
  refine zrSkip (zkBlk (zkSeq (zrReg (zL 2 2 (zE ?_)))))
  exact zkNil (eN1 hS hQ)
def f67_l0_j1_J (a1 : Int) (a2 : List (Int × Int)) (p30 : Int) (p31 : Bool) : St := ⟨(up (up (up (up (up u0 10 (dB p31)) 9 (dI p30)) 8 (dI (a2.length : Int))) 7 (dE e_A31 a2)) 0 (dI a1)), h0⟩
def f67_l0_j1 (a1 : Int) (a2 : List (Int × Int)) (p30 : Int) (p31 : Bool) : Option (Int ⊕ (Unit ⊕ Bool)) := (bif p31 then (f67_l0_j2 a1 a2 p30) else (some (.inr (.inl ()))))
theorem f67_l0_j1_ok {d : Nat} (hd : 1 ≤ d) (a1 : Int) (a2 : List (Int × Int)) {r : Int ⊕ (Unit ⊕ Bool)} {Q : PQ} (hQ : FQ (finL (f67_l0_H a1 a2) (f67_l0_X a1 a2) r) Q) (p30 : Int) (p31 : Bool) (hS : f67_l0_j1 a1 a2 p30 p31 = some r) {st : St} (he : keepSt [0, 7, 8, 9, 10] [] [] st = f67_l0_j1_J a1 a2 p30 p31) : ZR (lev codes baseL (d - 1)) Q c67_2 [] st := by
 refine zrKeep he ?_
 unfold f67_l0_j1 at hS
 refine zrSeq (sR 10 hS (fun hS => ?_) (fun hS => ?_))
 ·exact zT (zrSkip (zkSeq (f67_l0_j2_ok hd a1 a2 hQ p30 hS (by kernel_rfl))))
 ·exact zF (zrKeep (J := f67_l0_e0_J a1 a2) (by kernel_rfl) (zrExit (zkSeqX (zkNil (eX0 hS hQ)))))
def f67_l0 (a1 : Int) (a2 : List (Int × Int)) (x : Int) : Option (Int ⊕ (Unit ⊕ Bool)) := (bif (decide (x < (a2.length : Int))) then (f67_l0_j1 a1 a2 x true) else (f67_l0_j1 a1 a2 x false))
theorem f67_l0_ok {d : Nat} (hd : 1 ≤ d) (a1 : Int) (a2 : List (Int × Int)) {r : Int ⊕ (Unit ⊕ Bool)} {Q : PQ} (hQ : FQ (finL (f67_l0_H a1 a2) (f67_l0_X a1 a2) r) Q) {x : Int} (hS : f67_l0 a1 a2 x = some r) {st : St} (he : f67_l0_H a1 a2 x st) : ZR (lev codes baseL (d - 1)) Q c67_3 [] st := by
 refine zrKeep he ?_
 unfold f67_l0 at hS
 refine zrSeq (zrReg ?_)
 refine sB 10 1 (.cmpI .lss (tm 9) (tm 8)) hS (fun hS => ?_) (fun hS => ?_)
 ·refine zE (zkSeq ?_)
  exact f67_l0_j1_ok hd a1 a2 hQ x true hS (by kernel_rfl)
 ·refine zE (zkSeq ?_)
  exact f67_l0_j1_ok hd a1 a2 hQ x false hS (by kernel_rfl)
def f67 (a1 : Int) (a2 : List (Int × Int)) : Option (Bool) := ((loopO (f67_l0 a1 a2) 0).bind fun z5 => (Sum.elim (fun z6 => (some false)) (fun z7 => (some z7)) z5))
theorem f67_ok (d : Nat) (hd : 1 ≤ d) (a1 : Int) (a2 : List (Int × Int)) (r : Bool) (hS : f67 a1 a2 = some r) : lev codes baseL d 67 [(dI a1), (dE e_A31 a2)] [] = some ((dB r), []) := by
 refine lev_go codes67 rfl rfl (Nat.le_trans (Nat.le_of_ble_eq_true rfl) hd) fun Q hQ => ?_
 unfold f67 at hS
 show ZR _ Q c67_b [] _
 replace hQ : FQ (f67_Q r) Q := hQ
 refine zrSeq (zrReg (zL 1 1 (zE (zkSeq (zrSeq (zrSeq (zrReg (zL 3 3 (zE (zkSeq ?_))))))))))
 refine zrBlk (bindE hS (fun z5 hz5 hS => zrLoop (f67_l0_H a1 a2) (f67_l0_X a1 a2) (fun x st r Q h0 hS hQ => f67_l0_ok hd a1 a2 hQ hS h0) (x := 0) (z := z5) (by show keepSt _ _ _ _ = _; kernel_rfl) hz5 ?_))
 rcases z5 with z6 | z7
 ·replace hS := (show _ = _ from hS)
  simp only [Sum.elim_inl] at hS
  intro e st' _ hX
  obtain ⟨rfl, rfl⟩ : _ ∧ _ := hX
  refine zkBlkX (zkSeq (zrSeq (zrReg (zL 1 1 (zE (zkSeq ?_))))))
  exact zrRet (zkNil (endQ hS hQ (fR (f67_out false))))
 ·simp only [Sum.elim_inr] at hS
  intro e st' _ hX
  obtain ⟨rfl, hX⟩ : _ ∧ _ := hX
  exact zkBlkR (zkSeqR (zkNil (endQ hS hQ (fRet (by kernel_rfl) ((congrArg (fun s => outR s 0 c67.res) hX).trans (f67_out z7))))))
/- farwriter/width.Of -/
def f37_fin (p2 : Int) : St := ⟨(up u0 2 (dI p2)), h0⟩
theorem f37_out (p2 : Int) : outR (f37_fin p2) 0 c37.res = some ((dI p2), []) := by
 kernel_rfl
def f37_Q (r : Int) (e : PX) (st : St) : Prop := DoneF c37 0 ((dI r), []) e st
def f37_j0_J (a1 : Int) (p4 : Bool) : St := ⟨(up (up (up u0 25 (dB p4)) 4 (pt 40)) 0 (dI a1)), (up h0 40 ⟨0, some (.box ((e_A31.row 12 (fun i => ([(4352, 4447), (11904, 12350), (12353, 19903), (19968, 42191), (44032, 55203), (63744, 64255), (65072, 65135), (65280, 65376), (65504, 65510), (127744, 128591), (129280, 129535), (131072, 262141)] : List (Int × Int)).getD i (0, 0))) ++ []))⟩)⟩
def f37_j0 (a1 : Int) (p4 : Bool) : Option (Int) := (bif p4 then (some 0) else ((f67 a1 [(4352, 4447), (11904, 12350), (12353, 19903), (19968, 42191), (44032, 55203), (63744, 64255), (65072, 65135), (65280, 65376), (65504, 65510), (127744, 128591), (129280, 129535), (131072, 262141)]).bind fun z4 => (bif z4 then (some 2) else (some 1))))
theorem f37_j0_ok {d : Nat} (hd : 2 ≤ d) (a1 : Int) {r : Int} {Q : PQ} (hQ : FQ (f37_Q r) Q) (p4 : Bool) (hS : f37_j0 a1 p4 = some r) {st : St} (he : keepSt [0, 4, 25] [(40, .id 40)] [] st = f37_j0_J a1 p4) : ZR (lev codes baseL (d - 1)) Q c37_1 [.blk 0, .seq c37_2] st := by
 refine zrKeep he ?_
 unfold f37_j0 at hS
 refine sR 25 hS (fun hS => ?_) (fun hS => ?_)
 ·refine zT (zrSeq (zrReg (zL 1 1 (zE (zkSeq ?_)))))
  exact zrRet (zkBlkR (zkSeqR (zkNil (endQ hS hQ (fR (f37_out 0))))))
 ·refine zF (zrSeq (zrReg (zL 2 2 ?_)))
  refine bindE hS (fun z4 hz4 hS => zO (some 40) 3 (.call 67 [(tm 38), (tm 39)]) (ev_cA (f67_ok (d - 1) (dpt hd rfl) a1 [(4352, 4447), (11904, 12350), (12353, 19903), (19968, 42191), (44032, 55203), (63744, 64255), (65072, 65135), (65280, 65376), (65504, 65510), (127744, 128591), (129280, 129535), (131072, 262141)] z4 hz4)) (zL 1 4 (zE (zkSeq ?_))))
  refine sR 37 hS (fun hS => ?_) (fun hS => ?_)
  ·refine zT (zrSeq (zrReg (zL 1 1 (zE (zkSeq ?_)))))
   exact zrRet (zkBlkR (zkSeqR (zkNil (endQ hS hQ (fR (f37_out 2))))))
  ·refine zF (zrSkip (zkBlk (zkSeq (zrSeq (zrReg (zL 1 1 (zE (zkSeq ?_))))))))
   exact zrRet (zkNil (endQ hS hQ (fR (f37_out 1))))
def f37 (a1 : Int) : Option (Int) := (bif (decide (a1 < 0)) then (f37_j0 a1 true) else (bif (decide (1114111 < a1)) then (f37_j0 a1 true) else ((f67 a1 [(0, 31), (127, 159), (768, 879), (8203, 8207), (55296, 57343), (65024, 65039)]).bind fun z5 => (f37_j0 a1 z5))))
theorem f37_ok (d : Nat) (hd : 2 ≤ d) (a1 : Int) (r : Int) (hS : f37 a1 = some r) : lev codes baseL d 37 [(dI a1)] [] = some ((dI r), []) := by
 refine lev_go codes37 rfl rfl (Nat.le_trans (Nat.le_of_ble_eq_true rfl) hd) fun Q hQ => ?_
 unfold f37 at hS
 show ZR _ Q c37_b [] _
 replace hQ : FQ (f37_Q r) Q := hQ
 refine zrSeq (zrReg (zL 1 1 (zE (zkSeq (zrSeq (zrReg (zL 9 9 (zE (zkSeq (zrSeq (zrReg (zL 15 15 (zE (zkSeq (zrSeq ?_)))))))))))))))
 refine zrBlk (zrSeq (zrReg (zL 1 1 ?_)))
 refine sB 27 2 (.cmpI .lss (tm 26) (ki 0)) hS (fun hS => ?_) (fun hS => ?_)
 ·refine zL 10 12 (zE (zkSeq ?_))
  exact f37_j0_ok hd a1 hQ true hS (by kernel_rfl)
 ·refine zL 2 4 (sH 30 5 28 false (.cmpI .gtr (tm 29) (ki 1114111)) hS (fun hS => ?_) (fun hS => ?_))
  ·refine zL 7 12 (zE (zkSeq ?_))
   exact f37_j0_ok hd a1 hQ true hS (by kernel_rfl)
  ·refine zL 4 9 (bindE hS (fun z5 hz5 hS => zG (some 35) 10 32 false (.call 67 [(tm 33), (tm 34)]) (ev_cA (f67_ok (d - 1) (dpt hd rfl) a1 [(0, 31), (127, 159), (768, 879), (8203, 8207), (55296, 57343), (65024, 65039)] z5 hz5)) (zL 2 12 (zE (zkSeq ?_)))))
   exact f37_j0_ok hd a1 hQ z5 hS (by kernel_rfl)
/- farwriter/grid.lone$1 -/
def f68_fin (p4 : Bool) : St := ⟨(up u0 3 (dB p4)), h0⟩
theorem f68_out (p4 : Bool) : outR (f68_fin p4) 0 c68.res = some ((dB p4), []) := by
 kernel_rfl
def f68_Q (r : Bool) (e : PX) (st : St) : Prop := DoneF c68 0 ((dB r), []) e st
def f68 (a1 : Int) (a2 : List GCell) (a3 : List PD) : Option (Bool) := (bif (decide (a1 < (a2.length : Int))) then ((idx a2 a1).bind fun z4 => (bif (decide (z4.Rune = 0)) then ((idx a2 a1).bind fun z5 => ((idx a2 (IntKind.i64.wrap (a1 - 1))).bind fun z6 => (bif (decide (z5.Pen.Flags = z6.Pen.Flags) && (decide (z5.Pen.Fore = z6.Pen.Fore) && (decide (z5.Pen.Back = z6.Pen.Back) && true))) then (some true) else (some false)))) else (some false))) else (some false))
theorem f68_ok (d : Nat) (hd : 1 ≤ d) (a1 : Int) (a2 : List GCell) (a3 : List PD) (r : Bool) (hS : f68 a1 a2 a3 = some r) : lev codes baseL d 68 [(dI a1), (.rptr ((eSl e_GCell).enc a2 ++ a3))] [] = some ((dB r), []) := by
 refine lev_go codes68 rfl rfl (Nat.le_trans (Nat.le_of_ble_eq_true rfl) hd) fun Q hQ => ?_
 unfold f68 at hS
 show ZR _ Q c68_b [] _
 replace hQ : FQ (f68_Q r) Q := hQ
 refine zrSeq (zrReg (zL 1 1 (zE (zkSeq (zrSeq ?_)))))
 refine zrRegD (zdR 3 3 (sDB 7 4 none (.cmpI .lss (tm 4) (tm 6)) hS (fun hS => ?_) (fun hS => ?_)))
 ·refine zdR 3 7 (bindE hS (fun z4 hz4 hS => zdO (v := (.rptr (e_GCell.enc z4 ++ (e_GCell.cells (a2.drop ((a1 : Int).toNat + 1)))))) (ups := []) (some 11) 8 (some (8, true)) (.ixS 49 4 (tm 9) (tm 10)) (ev_ixS e_GCell (kk := .i64) (xs := a2) (j := a1) (by kernel_rfl) (by kernel_rfl) hz4 rfl (by intro h; cases h)) (zdR 2 10 (sDB 14 11 (some (8, true)) (ck 13 0) hS (fun hS => ?_) (fun hS => ?_)))))
  ·refine zdR 4 15 (bindE hS (fun z5 hz5 hS => zdO (v := (.rptr (e_GCell.enc z5 ++ (e_GCell.cells (a2.drop ((a1 : Int).toNat + 1)))))) (ups := []) (some 19) 16 (some (16, true)) (.ixS 49 4 (tm 17) (tm 18)) (ev_ixS e_GCell (kk := .i64) (xs := a2) (j := a1) (by kernel_rfl) (by kernel_rfl) hz5 rfl (by intro h; cases h)) (zdR 5 21 (bindE hS (fun z6 hz6 hS => zdO (v := (.rptr (e_GCell.enc z6 ++ (e_GCell.cells (a2.drop (((IntKind.i64.wrap (a1 - 1)) : Int).toNat + 1)))))) (ups := []) (some 25) 22 (some (16, true)) (.ixS 49 4 (tm 22) (tm 24)) (ev_ixS e_GCell (kk := .i64) (xs := a2) (j := (IntKind.i64.wrap (a1 - 1))) (by kernel_rfl) (by kernel_rfl) hz6 rfl (by intro h; cases h)) (zdR 2 24 (sDB 28 25 (some (16, true)) (.eqA .false [(3, .int)] (tm 21) (tm 27)) hS (fun hS => ?_) (fun hS => ?_))))))))
   ·exact zdR 2 27 (zdE (zkSeq (zrRet (zkNil (endQ hS hQ (fR (f68_out true)))))))
   ·exact zdR 2 27 (zdE (zkSeq (zrRet (zkNil (endQ hS hQ (fR (f68_out false)))))))
  ·exact zdR 16 27 (zdE (zkSeq (zrRet (zkNil (endQ hS hQ (fR (f68_out false)))))))
 ·exact zdR 23 27 (zdE (zkSeq (zrRet (zkNil (endQ hS hQ (fR (f68_out false)))))))
/- farwriter/grid.lone -/
def f38_fin (p4 : Bool) : St := ⟨(up u0 4 (dB p4)), h0⟩
theorem f38_out (p4 : Bool) : outR (f38_fin p4) 0 c38.res = some ((dB p4), []) := by
 kernel_rfl
def f38_Q (r : Bool) (e : PX) (st : St) : Prop := DoneF c38 0 ((dB r), []) e st
def f38_j0_J (a1 : List GCell) (a2 : Int) : St := ⟨(up (up (up u0 5 (.fn 68 [(pt 24)])) 2 (pt 24)) 1 (dI a2)), (up h0 24 ⟨0, some (.box ((dE e_GCell a1) :: []))⟩)⟩
def f38_j0 (a1 : List GCell) (a2 : Int) : Option (Bool) := ((idx a1 a2).bind fun z12 => ((f37 z12.Rune).bind fun z13 => (bif (decide (z13 = 2)) then ((f68 (IntKind.i64.wrap (a2 + 1)) a1 []).bind fun z14 => (some (!z14))) else (some false))))
theorem f38_j0_ok {d : Nat} (hd : 3 ≤ d) (a1 : List GCell) (a2 : Int) {r : Bool} {Q : PQ} (hQ : FQ (f38_Q r) Q)  (hS : f38_j0 a1 a2 = some r) {st : St} (he : keepSt [1, 2, 5] [(24, .id 24)] [] st = f38_j0_J a1 a2) : ZR (lev codes baseL (d - 1)) Q c38_1 [] st := by
 refine zrKeep he ?_
 unfold f38_j0 at hS
 refine zrSeq (zrReg (zL 2 2 ?_))
 refine bindE hS (fun z12 hz12 hS => zO (v := (.rptr (e_GCell.enc z12 ++ (e_GCell.cells (a1.drop ((a2 : Int).toNat + 1)))))) (ups := []) (some 33) 3 (.ixS 49 4 (tm 31) (tm 32)) (ev_ixS e_GCell (kk := .i64) (xs := a1) (j := a2) (by kernel_rfl) (by kernel_rfl) hz12 rfl (by intro h; cases h)) (zL 2 5 (bindE hS (fun z13 hz13 hS => zO (some 36) 6 (c1 37 35) (ev_cA (f37_ok (d - 1) (dpt hd rfl) z12.Rune z13 hz13)) (sB 37 7 (ck 36 2) hS (fun hS => ?_) (fun hS => ?_))))))
 ·refine zL 4 11 (bindE hS (fun z14 hz14 hS => zG (v := (dB z14)) (ups := []) (some 42) 12 38 true (.callv (tm 39) [(tm 41)]) (ev_callv (f := 68) (cs := [(pt 24)]) (by kernel_rfl) (args := [(dI (IntKind.i64.wrap (a2 + 1))), (pt 24)]) (l := [(dI (IntKind.i64.wrap (a2 + 1))), (.rptr ((eSl e_GCell).enc a1 ++ []))]) (r := (dB z14)) (by kernel_rfl) (by kernel_rfl) (f68_ok (d - 1) (dpt hd rfl) (IntKind.i64.wrap (a2 + 1)) a1 [] z14 hz14) (by kernel_rfl) (by kernel_rfl) (by kernel_rfl)) (zL 3 15 (zE (zkSeq ?_)))))
  exact zrRet (zkNil (endQ hS hQ (fR (f38_out (!z14)))))
 ·refine zL 8 15 (zE (zkSeq ?_))
  exact zrRet (zkNil (endQ hS hQ (fR (f38_out false))))
def f38 (a1 : List GCell) (a2 : Int) : Option (Bool) := ((idx a1 a2).bind fun z16 => (bif (decide (z16.Rune = 0)) then (bif (decide (a2 = 0)) then (some true) else ((idx a1 (IntKind.i64.wrap (a2 - 1))).bind fun z17 => ((f37 z17.Rune).bind fun z18 => (bif (!decide (z18 = 2)) then (some true) else ((f68 a2 a1 []).bind fun z19 => (some (!z19))))))) else (f38_j0 a1 a2 )))
theorem f38_ok (d : Nat) (hd : 3 ≤ d) (a1 : List GCell) (a2 : Int) (r : Bool) (hS : f38 a1 a2 = some r) : lev codes baseL d 38 [(dE e_GCell a1), (dI a2)] [] = some ((dB r), []) := by
 refine lev_go codes38 rfl rfl (Nat.le_trans (Nat.le_of_ble_eq_true rfl) hd) fun Q hQ => ?_
 unfold f38 at hS
 show ZR _ Q c38_b [] _
 replace hQ : FQ (f38_Q r) Q := hQ
 refine zrSeq (zrReg (zL 2 2 (zE (zkSeq (zrSeq (zrReg (zL 2 2 (zE (zkSeq (zrSeq (zrSeq (zrReg (zL 2 2 ?_)))))))))))))
 refine bindE hS (fun z16 hz16 hS => zO (v := (.rptr (e_GCell.enc z16 ++ (e_GCell.cells (a1.drop ((a2 : Int).toNat + 1)))))) (ups := []) (some 9) 3 (.ixS 49 4 (tm 7) (tm 8)) (ev_ixS e_GCell (kk := .i64) (xs := a1) (j := a2) (by kernel_rfl) (by kernel_rfl) hz16 rfl (by intro h; cases h)) (zL 2 5 (sB 12 6 (ck 11 0) hS (fun hS => ?_) (fun hS => ?_))))
 ·refine zE (zkSeq (zT (zrSeq (zrReg (zL 1 1 ?_)))))
  refine sB 14 2 (ck 13 0) hS (fun hS => ?_) (fun hS => ?_)
  ·refine zL 17 19 (zE (zkSeq ?_))
   exact zrRet (zkSeqR (zkNil (endQ hS hQ (fR (f38_out true)))))
  ·refine zL 4 6 (bindE hS (fun z17 hz17 hS => zG (v := (.rptr (e_GCell.enc z17 ++ (e_GCell.cells (a1.drop (((IntKind.i64.wrap (a2 - 1)) : Int).toNat + 1)))))) (ups := []) (some 19) 7 15 false (.ixS 49 4 (tm 16) (tm 18)) (ev_ixS e_GCell (kk := .i64) (xs := a1) (j := (IntKind.i64.wrap (a2 - 1))) (by kernel_rfl) (by kernel_rfl) hz17 rfl (by intro h; cases h)) (zL 2 9 (bindE hS (fun z18 hz18 hS => zG (some 22) 10 15 false (c1 37 21) (ev_cA (f37_ok (d - 1) (dpt hd rfl) z17.Rune z18 hz18)) (sH 23 11 15 false (.cmpI .neq (tm 22) (ki 2)) hS (fun hS => ?_) (fun hS => ?_)))))))
   ·refine zL 8 19 (zE (zkSeq ?_))
    exact zrRet (zkSeqR (zkNil (endQ hS hQ (fR (f38_out true)))))
   ·refine zL 4 15 (bindE hS (fun z19 hz19 hS => zG (v := (dB z19)) (ups := []) (some 28) 16 25 false (.callv (tm 26) [(tm 27)]) (ev_callv (f := 68) (cs := [(.r (.ptr 24 1 0))]) (by kernel_rfl) (args := [(dI a2), (.r (.ptr 24 1 0))]) (l := [(dI a2), (.rptr ((eSl e_GCell).enc a1 ++ []))]) (r := (dB z19)) (by kernel_rfl) (by kernel_rfl) (f68_ok (d - 1) (dpt hd rfl) a2 a1 [] z19 hz19) (by kernel_rfl) (by kernel_rfl) (by kernel_rfl)) (zL 3 19 (zE (zkSeq ?_)))))
    exact zrRet (zkSeqR (zkNil (endQ hS hQ (fR (f38_out (!z19))))))
 ·refine zE (zkSeq (zF ?_))
  exact zrSkip (zkSeq (f38_j0_ok hd a1 a2 hQ  hS (by kernel_rfl)))
/- farwriter/grid.Check -/
def f19_fin (p235 : Int) : St := ⟨(up u0 2 (dI p235)), h0⟩
theorem f19_out (p235 : Int) : outR (f19_fin p235) 0 c19.res = some ((dI p235), []) := by
 kernel_rfl
def f19_Q (r : Int) (e : PX) (st : St) : Prop := DoneF c19 0 ((dI r), []) e st
def f19_l2_J (a1 : GGrid) (x : Int) : St := ⟨(up (up (up u0 27 (dI x)) 26 (dI a1.High)) 1 (pt 16)), (up h0 16 ⟨0, some (.box ((dI a1.Wide) :: ((dI a1.High) :: ((dE e_GCell a1.Cells) :: []))))⟩)⟩
def f19_l2_H (a1 : GGrid) (x : Int) (st : St) : Prop := keepSt [1, 26, 27] [(16, .id 16)] [] st = f19_l2_J a1 x
def f19_l2_e0_J (a1 : GGrid) : St := ⟨u0, h0⟩
def f19_l2_X (a1 : GGrid) (z : Unit ⊕ Int) (e : PX) (st : St) : Prop := (match z with | .inl z => e = .exit 0 ∧ st = f19_l2_e0_J a1 | .inr z => e = .ret ∧ finSt c19.fin st = f19_fin z)
def f19_l2_l5_J (a1 : GGrid) (x : (List GCell) × Int × (List GCell) × Int × Int) : St := ⟨(up (up (up (up (up (up (up u0 35 (dI x.2.2.2.2)) 34 (dI x.2.2.2.1)) 33 (dE e_GCell x.2.2.1)) 27 (dI x.2.1)) 26 (dI a1.High)) 5 (dE e_GCell x.1)) 1 (pt 16)), (up h0 16 ⟨0, some (.box ((dI a1.Wide) :: ((dI a1.High) :: ((dE e_GCell a1.Cells) :: []))))⟩)⟩
def f19_l2_l5_H (a1 : GGrid) (x : (List GCell) × Int × (List GCell) × Int × Int) (st : St) : Prop := keepSt [1, 5, 26, 27, 33, 34, 35] [(16, .id 16)] [] st = f19_l2_l5_J a1 x
def f19_l2_l5_e2_J (a1 : GGrid) (p323 : Int) : St := ⟨(up (up (up u0 27 (dI p323)) 26 (dI a1.High)) 1 (pt 16)), (up h0 16 ⟨0, some (.box ((dI a1.Wide) :: ((dI a1.High) :: ((dE e_GCell a1.Cells) :: []))))⟩)⟩
def f19_l2_l5_X (a1 : GGrid) (z : Int ⊕ Int) (e : PX) (st : St) : Prop := (match z with | .inl z => e = .exit 2 ∧ st = f19_l2_l5_e2_J a1 z | .inr z => e = .ret ∧ finSt c19.fin st = f19_fin z)
def f19_l2_l5_j7_J (a1 : GGrid) (p336 : List GCell) (p337 : Int) (p338 : List GCell) (p339 : Int) (p340 : Int) : St := ⟨(up (up (up (up (up (up (up u0 35 (dI p340)) 34 (dI p339)) 33 (dE e_GCell p338)) 27 (dI p337)) 26 (dI a1.High)) 5 (dE e_GCell p336)) 1 (pt 16)), (up h0 16 ⟨0, some (.box ((dI a1.Wide) :: ((dI a1.High) :: ((dE e_GCell a1.Cells) :: []))))⟩)⟩
def f19_l2_l5_j7 (a1 : GGrid) (p336 : List GCell) (p337 : Int) (p338 : List GCell) (p339 : Int) (p340 : Int) : Option (((List GCell) × Int × (List GCell) × Int × Int) ⊕ (Int ⊕ Int)) := ((idx p338 p340).bind fun z67 => ((f21 z67.Pen).bind fun z68 => (bif (!decide (z68 = 0)) then (some (.inr (.inr 4))) else (bif (!decide (z67.Rune = 0)) then ((f37 z67.Rune).bind fun z69 => (bif (decide (z69 = 0)) then (some (.inr (.inr 4))) else ((f38 p336 p340).bind fun z70 => (bif z70 then (some (.inr (.inr 4))) else (some (.inl (p336, p337, p338, p339, (IntKind.i64.wrap (p340 + 1))))))))) else ((f38 p336 p340).bind fun z71 => (bif z71 then (some (.inr (.inr 4))) else (some (.inl (p336, p337, p338, p339, (IntKind.i64.wrap (p340 + 1)))))))))))
theorem f19_l2_l5_j7_ok {d : Nat} (hd : 4 ≤ d) (a1 : GGrid) {r : ((List GCell) × Int × (List GCell) × Int × Int) ⊕ (Int ⊕ Int)} {Q : PQ} (hQ : FQ (finL (f19_l2_l5_H a1) (f19_l2_l5_X a1) r) Q) (p336 : List GCell) (p337 : Int) (p338 : List GCell) (p339 : Int) (p340 : Int) (hS : f19_l2_l5_j7 a1 p336 p337 p338 p339 p340 = some r) {st : St} (he : keepSt [1, 5, 26, 27, 33, 34, 35] [(16, .id 16)] [] st = f19_l2_l5_j7_J a1 p336 p337 p338 p339 p340) : ZR (lev codes baseL (d - 1)) Q c19_1 [] st := by
 refine zrKeep he ?_
 unfold f19_l2_l5_j7 at hS
 refine zrSeq (zrBlk (zrSeq (zrReg (zL 1 1 ?_))))
 refine bindE hS (fun z67 hz67 hS => zO (v := (.rptr (e_GCell.enc z67 ++ (e_GCell.cells (p338.drop ((p340 : Int).toNat + 1)))))) (ups := []) (some 38) 2 (.ixS 49 4 (tm 33) (tm 35)) (ev_ixS e_GCell (kk := .i64) (xs := p338) (j := p340) (by kernel_rfl) (by kernel_rfl) hz67 rfl (by intro h; cases h)) (zL 4 6 (zE (zkSeq (zrSeq (zrReg (zL 2 2 ?_)))))))
 refine bindE hS (fun z68 hz68 hS => zO (some 42) 3 (c1 21 41) (ev_cA (f21_ok (d - 1) (dpt hd rfl) z67.Pen z68 hz68)) (sB 43 4 (.cmpI .neq (tm 42) (ki 0)) hS (fun hS => ?_) (fun hS => ?_)))
 ·refine zL 16 20 (zE (zkSeq (zT (zrSeq (zrReg (zL 1 1 (zE (zkSeq ?_))))))))
  exact zrRet (zkBlkR (zkSeqR (zkNil (eX1 hS hQ))))
 ·refine zL 3 7 (sH 47 8 44 false (.cmpI .neq (tm 46) (ki 0)) hS (fun hS => ?_) (fun hS => ?_))
  ·refine zL 3 11 (bindE hS (fun z69 hz69 hS => zG (some 51) 12 48 true (c1 37 50) (ev_cA (f37_ok (d - 1) (dpt hd rfl) z67.Rune z69 hz69)) (sH 52 13 48 true (ck 51 0) hS (fun hS => ?_) (fun hS => ?_))))
   ·refine zL 7 20 (zE (zkSeq (zT (zrSeq (zrReg (zL 1 1 (zE (zkSeq ?_))))))))
    exact zrRet (zkBlkR (zkSeqR (zkNil (eX1 hS hQ))))
   ·refine zL 5 18 (bindE hS (fun z70 hz70 hS => zG (some 58) 19 55 false (.call 38 [(tm 56), (tm 57)]) (ev_cA (f38_ok (d - 1) (dpt hd rfl) p336 p340 z70 hz70)) (zL 1 20 (zE (zkSeq ?_)))))
    refine sR 59 hS (fun hS => ?_) (fun hS => ?_)
    ·refine zT (zrSeq (zrReg (zL 1 1 (zE (zkSeq ?_)))))
     exact zrRet (zkBlkR (zkSeqR (zkNil (eX1 hS hQ))))
    ·refine zF (zrSkip (zkBlk (zkSeq (zrReg (zL 2 2 (zE ?_))))))
     exact zkNil (eN1 hS hQ)
  ·refine zL 10 18 (bindE hS (fun z71 hz71 hS => zG (some 58) 19 55 false (.call 38 [(tm 56), (tm 57)]) (ev_cA (f38_ok (d - 1) (dpt hd rfl) p336 p340 z71 hz71)) (zL 1 20 (zE (zkSeq ?_)))))
   refine sR 59 hS (fun hS => ?_) (fun hS => ?_)
   ·refine zT (zrSeq (zrReg (zL 1 1 (zE (zkSeq ?_)))))
    exact zrRet (zkBlkR (zkSeqR (zkNil (eX1 hS hQ))))
   ·refine zF (zrSkip (zkBlk (zkSeq (zrReg (zL 2 2 (zE ?_))))))
    exact zkNil (eN1 hS hQ)
def f19_l2_l5_j6_J (a1 : GGrid) (p330 : List GCell) (p331 : Int) (p332 : List GCell) (p333 : Int) (p334 : Int) (p335 : Bool) : St := ⟨(up (up (up (up (up (up (up (up u0 36 (dB p335)) 35 (dI p334)) 34 (dI p333)) 33 (dE e_GCell p332)) 27 (dI p331)) 26 (dI a1.High)) 5 (dE e_GCell p330)) 1 (pt 16)), (up h0 16 ⟨0, some (.box ((dI a1.Wide) :: ((dI a1.High) :: ((dE e_GCell a1.Cells) :: []))))⟩)⟩
def f19_l2_l5_j6 (a1 : GGrid) (p330 : List GCell) (p331 : Int) (p332 : List GCell) (p333 : Int) (p334 : Int) (p335 : Bool) : Option (((List GCell) × Int × (List GCell) × Int × Int) ⊕ (Int ⊕ Int)) := (bif p335 then (f19_l2_l5_j7 a1 p330 p331 p332 p333 p334) else (some (.inr (.inl p331))))
theorem f19_l2_l5_j6_ok {d : Nat} (hd : 4 ≤ d) (a1 : GGrid) {r : ((List GCell) × Int × (List GCell) × Int × Int) ⊕ (Int ⊕ Int)} {Q : PQ} (hQ : FQ (finL (f19_l2_l5_H a1) (f19_l2_l5_X a1) r) Q) (p330 : List GCell) (p331 : Int) (p332 : List GCell) (p333 : Int) (p334 : Int) (p335 : Bool) (hS : f19_l2_l5_j6 a1 p330 p331 p332 p333 p334 p335 = some r) {st : St} (he : keepSt [1, 5, 26, 27, 33, 34, 35, 36] [(16, .id 16)] [] st = f19_l2_l5_j6_J a1 p330 p331 p332 p333 p334 p335) : ZR (lev codes baseL (d - 1)) Q c19_2 [] st := by
 refine zrKeep he ?_
 unfold f19_l2_l5_j6 at hS
 refine zrSeq (sR 36 hS (fun hS => ?_) (fun hS => ?_))
 ·exact zT (zrSkip (zkSeq (f19_l2_l5_j7_ok hd a1 hQ p330 p331 p332 p333 p334 hS (by kernel_rfl))))
 ·exact zF (zrKeep (J := f19_l2_l5_e2_J a1 p331) (by kernel_rfl) (zrExit (zkSeqX (zkNil (eX0 hS hQ)))))
def f19_l2_l5 (a1 : GGrid) (x : (List GCell) × Int × (List GCell) × Int × Int) : Option (((List GCell) × Int × (List GCell) × Int × Int) ⊕ (Int ⊕ Int)) := (bif (decide (x.2.2.2.2 < x.2.2.2.1)) then (f19_l2_l5_j6 a1 x.1 x.2.1 x.2.2.1 x.2.2.2.1 x.2.2.2.2 true) else (f19_l2_l5_j6 a1 x.1 x.2.1 x.2.2.1 x.2.2.2.1 x.2.2.2.2 false))
theorem f19_l2_l5_ok {d : Nat} (hd : 4 ≤ d) (a1 : GGrid) {r : ((List GCell) × Int × (List GCell) × Int × Int) ⊕ (Int ⊕ Int)} {Q : PQ} (hQ : FQ (finL (f19_l2_l5_H a1) (f19_l2_l5_X a1) r) Q) {x : (List GCell) × Int × (List GCell) × Int × Int} (hS : f19_l2_l5 a1 x = some r) {st : St} (he : f19_l2_l5_H a1 x st) : ZR (lev codes baseL (d - 1)) Q c19_3 [] st := by
 refine zrKeep he ?_
 unfold f19_l2_l5 at hS
 refine zrSeq (zrReg ?_)
 refine sB 36 1 (.cmpI .lss (tm 35) (tm 34)) hS (fun hS => ?_) (fun hS => ?_)
 ·refine zE (zkSeq ?_)
  exact f19_l2_l5_j6_ok hd a1 hQ x.1 x.2.1 x.2.2.1 x.2.2.2.1 x.2.2.2.2 true hS (by kernel_rfl)
 ·refine zE (zkSeq ?_)
  exact f19_l2_l5_j6_ok hd a1 hQ x.1 x.2.1 x.2.2.1 x.2.2.2.1 x.2.2.2.2 false hS (by kernel_rfl)
def f19_l2_j4_J (a1 : GGrid) (p243 : Int) : St := ⟨(up (up (up u0 27 (dI p243)) 26 (dI a1.High)) 1 (pt 16)), (up h0 16 ⟨0, some (.box ((dI a1.Wide) :: ((dI a1.High) :: ((dE e_GCell a1.Cells) :: []))))⟩)⟩
def f19_l2_j4 (a1 : GGrid) (p243 : Int) : Option (Int ⊕ (Unit ⊕ Int)) := ((f25 a1 p243).bind fun z51 => ((loopO (f19_l2_l5 a1) (z51, p243, z51, (z51.length : Int), 0)).bind fun z72 => (Sum.elim (fun z73 => (some (.inl (IntKind.i64.wrap (z73 + 1))))) (fun z74 => (some (.inr (.inr z74)))) z72)))
theorem f19_l2_j4_ok {d : Nat} (hd : 4 ≤ d) (a1 : GGrid) {r : Int ⊕ (Unit ⊕ Int)} {Q : PQ} (hQ : FQ (finL (f19_l2_H a1) (f19_l2_X a1) r) Q) (p243 : Int) (hS : f19_l2_j4 a1 p243 = some r) {st : St} (he : keepSt [1, 26, 27] [(16, .id 16)] [] st = f19_l2_j4_J a1 p243) : ZR (lev codes baseL (d - 1)) Q c19_4 [] st := by
 refine zrKeep he ?_
 unfold f19_l2_j4 at hS
 refine zrSeq (zrBlk (zrSeq (zrReg (zL 2 2 (zE (zkSeq (zrSeq (zrReg (zL 2 2 ?_)))))))))
 refine bindE hS (fun z51 hz51 hS => zO (some 32) 3 (.callr 25 [(tm 30), (tm 31)]) (ev_cX [] [] (f25_ok (d - 1) (dpt hd rfl) a1 p243 z51 hz51) sm_nil) (zL 1 4 (zE (zkSeq (zrSeq (zrReg (zL 3 3 (zE (zkSeq ?_)))))))))
 refine zrBlk (bindE hS (fun z72 hz72 hS => zrLoop (f19_l2_l5_H a1) (f19_l2_l5_X a1) (fun x st r Q h0 hS hQ => f19_l2_l5_ok hd a1 hQ hS h0) (x := (z51, p243, z51, (z51.length : Int), 0)) (z := z72) (by show keepSt _ _ _ _ = _; kernel_rfl) hz72 ?_))
 rcases z72 with z73 | z74
 ·replace hS := (show _ = _ from hS)
  simp only [Sum.elim_inl] at hS
  intro e st' _ hX
  obtain ⟨rfl, rfl⟩ : _ ∧ _ := hX
  refine zkBlkX (zkBlk (zkSeq (zrReg (zL 2 2 (zE ?_)))))
  exact zkNil (eN1 hS hQ)
 ·simp only [Sum.elim_inr] at hS
  intro e st' _ hX
  obtain ⟨rfl, hX⟩ : _ ∧ _ := hX
  exact zkBlkR (zkBlkR (zkSeqR (zkNil (endQ hS hQ (finL_x (by intro h; cases h) (by show _ = _ ∧ _ = _; exact ⟨rfl, hX⟩))))))
def f19_l2_j3_J (a1 : GGrid) (p241 : Int) (p242 : Bool) : St := ⟨(up (up (up (up u0 28 (dB p242)) 27 (dI p241)) 26 (dI a1.High)) 1 (pt 16)), (up h0 16 ⟨0, some (.box ((dI a1.Wide) :: ((dI a1.High) :: ((dE e_GCell a1.Cells) :: []))))⟩)⟩
def f19_l2_j3 (a1 : GGrid) (p241 : Int) (p242 : Bool) : Option (Int ⊕ (Unit ⊕ Int)) := (bif p242 then (f19_l2_j4 a1 p241) else (some (.inr (.inl ()))))
theorem f19_l2_j3_ok {d : Nat} (hd : 4 ≤ d) (a1 : GGrid) {r : Int ⊕ (Unit ⊕ Int)} {Q : PQ} (hQ : FQ (finL (f19_l2_H a1) (f19_l2_X a1) r) Q) (p241 : Int) (p242 : Bool) (hS : f19_l2_j3 a1 p241 p242 = some r) {st : St} (he : keepSt [1, 26, 27, 28] [(16, .id 16)] [] st = f19_l2_j3_J a1 p241 p242) : ZR (lev codes baseL (d - 1)) Q c19_5 [] st := by
 refine zrKeep he ?_
 unfold f19_l2_j3 at hS
 refine zrSeq (sR 28 hS (fun hS => ?_) (fun hS => ?_))
 ·exact zT (zrSkip (zkSeq (f19_l2_j4_ok hd a1 hQ p241 hS (by kernel_rfl))))
 ·exact zF (zrKeep (J := f19_l2_e0_J a1) (by kernel_rfl) (zrExit (zkSeqX (zkNil (eX0 hS hQ)))))
def f19_l2 (a1 : GGrid) (x : Int) : Option (Int ⊕ (Unit ⊕ Int)) := (bif (decide (x < a1.High)) then (f19_l2_j3 a1 x true) else (f19_l2_j3 a1 x false))
theorem f19_l2_ok {d : Nat} (hd : 4 ≤ d) (a1 : GGrid) {r : Int ⊕ (Unit ⊕ Int)} {Q : PQ} (hQ : FQ (finL (f19_l2_H a1) (f19_l2_X a1) r) Q) {x : Int} (hS : f19_l2 a1 x = some r) {st : St} (he : f19_l2_H a1 x st) : ZR (lev codes baseL (d - 1)) Q c19_6 [] st := by
 refine zrKeep he ?_
 unfold f19_l2 at hS
 refine zrSeq (zrReg ?_)
 refine sB 28 1 (.cmpI .lss (tm 27) (tm 26)) hS (fun hS => ?_) (fun hS => ?_)
 ·refine zE (zkSeq ?_)
  exact f19_l2_j3_ok hd a1 hQ x true hS (by kernel_rfl)
 ·refine zE (zkSeq ?_)
  exact f19_l2_j3_ok hd a1 hQ x false hS (by kernel_rfl)
def f19_j1_J (a1 : GGrid) : St := ⟨(up u0 1 (pt 16)), (up h0 16 ⟨0, some (.box ((dI a1.Wide) :: ((dI a1.High) :: ((dE e_GCell a1.Cells) :: []))))⟩)⟩
def f19_j1 (a1 : GGrid) : Option (Int) := ((loopO (f19_l2 a1) 0).bind fun z75 => (Sum.elim (fun z76 => (some 0)) (fun z77 => (some z77)) z75))
theorem f19_j1_ok {d : Nat} (hd : 4 ≤ d) (a1 : GGrid) {r : Int} {Q : PQ} (hQ : FQ (f19_Q r) Q)  (hS : f19_j1 a1 = some r) {st : St} (he : keepSt [1] [(16, .id 16)] [] st = f19_j1_J a1) : ZR (lev codes baseL (d - 1)) Q c19_7 [] st := by
 refine zrKeep he ?_
 unfold f19_j1 at hS
 refine zrSeq (zrSeq (zrReg (zL 3 3 (zE (zkSeq ?_)))))
 refine zrBlk (bindE hS (fun z75 hz75 hS => zrLoop (f19_l2_H a1) (f19_l2_X a1) (fun x st r Q h0 hS hQ => f19_l2_ok hd a1 hQ hS h0) (x := 0) (z := z75) (by show keepSt _ _ _ _ = _; kernel_rfl) hz75 ?_))
 rcases z75 with z76 | z77
 ·replace hS := (show _ = _ from hS)
  simp only [Sum.elim_inl] at hS
  intro e st' _ hX
  obtain ⟨rfl, rfl⟩ : _ ∧ _ := hX
  refine zkBlkX (zkSeq (zrSeq (zrReg (zL 1 1 (zE (zkSeq ?_))))))
  exact zrRet (zkNil (endQ hS hQ (fR (f19_out 0))))
 ·simp only [Sum.elim_inr] at hS
  intro e st' _ hX
  obtain ⟨rfl, hX⟩ : _ ∧ _ := hX
  exact zkBlkR (zkSeqR (zkNil (endQ hS hQ (fRet (by kernel_rfl) ((congrArg (fun s => outR s 0 c19.res) hX).trans (f19_out z77))))))
def f19_j0_J (a1 : GGrid) : St := ⟨(up u0 1 (pt 16)), (up h0 16 ⟨0, some (.box ((dI a1.Wide) :: ((dI a1.High) :: ((dE e_GCell a1.Cells) :: []))))⟩)⟩
def f19_j0 (a1 : GGrid) : Option (Int) := (bif (!decide ((a1.Cells.length : Int) = (IntKind.i64.wrap (a1.Wide * a1.High)))) then (some 4) else (f19_j1 a1 ))
theorem f19_j0_ok {d : Nat} (hd : 4 ≤ d) (a1 : GGrid) {r : Int} {Q : PQ} (hQ : FQ (f19_Q r) Q)  (hS : f19_j0 a1 = some r) {st : St} (he : keepSt [1] [(16, .id 16)] [] st = f19_j0_J a1) : ZR (lev codes baseL (d - 1)) Q c19_8 [] st := by
 refine zrKeep he ?_
 unfold f19_j0 at hS
 refine zrSeq (zrSeq (zrReg (zL 8 8 ?_)))
 refine sB 24 9 (.cmpI .neq (tm 18) (tm 23)) hS (fun hS => ?_) (fun hS => ?_)
 ·refine zE (zkSeq (zT (zrSeq (zrReg (zL 1 1 (zE (zkSeq ?_)))))))
  exact zrRet (zkSeqR (zkNil (endQ hS hQ (fR (f19_out 4)))))
 ·refine zE (zkSeq (zF ?_))
  exact zrSkip (zkSeq (f19_j1_ok hd a1 hQ  hS (by kernel_rfl)))
def f19 (a1 : GGrid) : Option (Int) := ((f36 a1.Wide a1.High).bind fun z78 => (bif (!decide (z78 = 0)) then (some z78) else (f19_j0 a1 )))
theorem f19_ok (d : Nat) (hd : 4 ≤ d) (a1 : GGrid) (r : Int) (hS : f19 a1 = some r) : lev codes baseL d 19 [(.agg ((dI a1.Wide) :: ((dI a1.High) :: ((dE e_GCell a1.Cells) :: []))))] [] = some ((dI r), []) := by
 refine lev_go codes19 rfl rfl (Nat.le_trans (Nat.le_of_ble_eq_true rfl) hd) fun Q hQ => ?_
 unfold f19 at hS
 show ZR _ Q c19_b [] _
 replace hQ : FQ (f19_Q r) Q := hQ
 refine zrSeq (zrReg (zL 2 2 (zE (zkSeq (zrSeq (zrSeq (zrReg (zL 4 4 ?_))))))))
 refine bindE hS (fun z78 hz78 hS => zO (some 12) 5 (.call 36 [(tm 9), (tm 11)]) (ev_cA (f36_ok (d - 1) (dpt hd rfl) a1.Wide a1.High z78 hz78)) (zL 1 6 (zE (zkSeq (zrSeq (zrReg (zL 1 1 ?_)))))))
 refine sB 14 2 (.cmpI .neq (tm 13) (ki 0)) hS (fun hS => ?_) (fun hS => ?_)
 ·refine zE (zkSeq (zT (zrSeq (zrReg (zL 2 2 (zE (zkSeq ?_)))))))
  exact zrRet (zkSeqR (zkNil (endQ hS hQ (fR (f19_out z78)))))
 ·refine zE (zkSeq (zF ?_))
  exact zrSkip (zkSeq (f19_j0_ok hd a1 hQ  hS (by kernel_rfl)))
/- farwriter/screen.within -/
def f20_fin (p3 : Bool) : St := ⟨(up u0 6 (dB p3)), h0⟩
theorem f20_out (p3 : Bool) : outR (f20_fin p3) 0 c20.res = some ((dB p3), []) := by
 kernel_rfl
def f20_Q (r : Bool) (e : PX) (st : St) : Prop := DoneF c20 0 ((dB r), []) e st
def f20 (a1 : Int) (a2 : Int) (a3 : Int) : Option (Bool) := (bif (decide (a2 ≤ a1)) then (bif (decide (a1 ≤ a3)) then (some true) else (some false)) else (some false))
theorem f20_ok (d : Nat) (hd : 1 ≤ d) (a1 : Int) (a2 : Int) (a3 : Int) (r : Bool) (hS : f20 a1 a2 a3 = some r) : lev codes baseL d 20 [(dI a1), (dI a2), (dI a3)] [] = some ((dB r), []) := by
 refine lev_go codes20 rfl rfl (Nat.le_trans (Nat.le_of_ble_eq_true rfl) hd) fun Q hQ => ?_
 unfold f20 at hS
 show ZR _ Q c20_b [] _
 replace hQ : FQ (f20_Q r) Q := hQ
 refine zrSeq (zrReg (zL 1 1 (zE (zkSeq (zrSeq (zrReg (zL 2 2 ?_)))))))
 refine sB 9 3 (.cmpI .geq (tm 7) (tm 8)) hS (fun hS => ?_) (fun hS => ?_)
 ·refine zL 3 6 (sH 13 7 10 true (.cmpI .leq (tm 11) (tm 12)) hS (fun hS => ?_) (fun hS => ?_))
  ·refine zL 2 9 (zE (zkSeq ?_))
   exact zrRet (zkNil (endQ hS hQ (fR (f20_out true))))
  ·refine zL 2 9 (zE (zkSeq ?_))
   exact zrRet (zkNil (endQ hS hQ (fR (f20_out false))))
 ·refine zL 6 9 (zE (zkSeq ?_))
  exact zrRet (zkNil (endQ hS hQ (fR (f20_out false))))
/- farwriter/page.Known -/
def f22_fin (p3 : Bool) : St := ⟨(up u0 2 (dB p3)), h0⟩
theorem f22_out (p3 : Bool) : outR (f22_fin p3) 0 c22.res = some ((dB p3), []) := by
 kernel_rfl
def f22_Q (r : Bool) (e : PX) (st : St) : Prop := DoneF c22 0 ((dB r), []) e st
def f22 (a1 : Int) : Option (Bool) := (bif (decide (1 ≤ a1)) then (bif (decide (a1 ≤ 4)) then (some true) else (some false)) else (some false))
theorem f22_ok (d : Nat) (hd : 1 ≤ d) (a1 : Int) (r : Bool) (hS : f22 a1 = some r) : lev codes baseL d 22 [(dI a1)] [] = some ((dB r), []) := by
 refine lev_go codes22 rfl rfl (Nat.le_trans (Nat.le_of_ble_eq_true rfl) hd) fun Q hQ => ?_
 unfold f22 at hS
 show ZR _ Q c22_b [] _
 replace hQ : FQ (f22_Q r) Q := hQ
 refine zrSeq (zrReg (zL 1 1 (zE (zkSeq (zrSeq (zrReg (zL 1 1 ?_)))))))
 refine sB 4 2 (.cmpI .geq (tm 3) (ki 1)) hS (fun hS => ?_) (fun hS => ?_)
 ·refine zL 2 4 (sH 7 5 5 true (.cmpI .leq (tm 6) (ki 4)) hS (fun hS => ?_) (fun hS => ?_))
  ·refine zL 2 7 (zE (zkSeq ?_))
   exact zrRet (zkNil (endQ hS hQ (fR (f22_out true))))
  ·refine zL 2 7 (zE (zkSeq ?_))
   exact zrRet (zkNil (endQ hS hQ (fR (f22_out false))))
 ·refine zL 5 7 (zE (zkSeq ?_))
  exact zrRet (zkNil (endQ hS hQ (fR (f22_out false))))
/- farwriter/screen.past -/
def f23_fin (p14 : Bool) : St := ⟨(up u0 2 (dB p14)), h0⟩
theorem f23_out (p14 : Bool) : outR (f23_fin p14) 0 c23.res = some ((dB p14), []) := by
 kernel_rfl
def f23_Q (r : Bool) (e : PX) (st : St) : Prop := DoneF c23 0 ((dB r), []) e st
def f23_l0_J (a1 : List GLine) (x : Int) : St := ⟨(up (up (up (up u0 7 (dI x)) 6 (dI (a1.length : Int))) 5 (dE e_GLine a1)) 0 (dE e_GLine a1)), h0⟩
def f23_l0_H (a1 : List GLine) (x : Int) (st : St) : Prop := keepSt [0, 5, 6, 7] [] [] st = f23_l0_J a1 x
def f23_l0_e0_J (a1 : List GLine) : St := ⟨(up u0 0 (dE e_GLine a1)), h0⟩
def f23_l0_X (a1 : List GLine) (z : Unit ⊕ Bool) (e : PX) (st : St) : Prop := (match z with | .inl z => e = .exit 0 ∧ st = f23_l0_e0_J a1 | .inr z => e = .ret ∧ finSt c23.fin st = f23_fin z)
def f23_l0_j2_J (a1 : List GLine) (p19 : Int) : St := ⟨(up (up (up (up u0 7 (dI p19)) 6 (dI (a1.length : Int))) 5 (dE e_GLine a1)) 0 (dE e_GLine a1)), h0⟩
def f23_l0_j2 (a1 : List GLine) (p19 : Int) : Option (Int ⊕ (Unit ⊕ Bool)) := ((idx a1 p19).bind fun z7 => ((f19 (GGrid.mk (z7.Cells.length : Int) 1 z7.Cells)).bind fun z8 => (bif (!decide (z8 = 0)) then (some (.inr (.inr false))) else (some (.inl (IntKind.i64.wrap (p19 + 1)))))))
theorem f23_l0_j2_ok {d : Nat} (hd : 5 ≤ d) (a1 : List GLine) {r : Int ⊕ (Unit ⊕ Bool)} {Q : PQ} (hQ : FQ (finL (f23_l0_H a1) (f23_l0_X a1) r) Q) (p19 : Int) (hS : f23_l0_j2 a1 p19 = some r) {st : St} (he : keepSt [0, 5, 6, 7] [] [] st = f23_l0_j2_J a1 p19) : ZR (lev codes baseL (d - 1)) Q c23_1 [] st := by
 refine zrKeep he ?_
 unfold f23_l0_j2 at hS
 refine zrSeq (zrBlk (zrSeq (zrReg ?_)))
 refine bindE hS (fun z7 hz7 hS => zO (v := (.rptr (e_GLine.enc z7 ++ (e_GLine.cells (a1.drop ((p19 : Int).toNat + 1)))))) (ups := []) (some 9) 1 (.ixS 95 1 (tm 5) (tm 7)) (ev_ixS e_GLine (kk := .i64) (xs := a1) (j := p19) (by kernel_rfl) (by kernel_rfl) hz7 rfl (by intro h; cases h)) (zL 3 4 (zE (zkSeq (zrSeq (zrReg (zL 6 6 ?_)))))))
 refine bindE hS (fun z8 hz8 hS => zO (some 17) 7 (c1 19 16) (ev_cA (f19_ok (d - 1) (dpt hd rfl) (GGrid.mk (z7.Cells.length : Int) 1 z7.Cells) z8 hz8)) (sB 18 8 (.cmpI .neq (tm 17) (ki 0)) hS (fun hS => ?_) (fun hS => ?_)))
 ·refine zE (zkSeq (zT (zrSeq (zrReg (zL 1 1 (zE (zkSeq ?_)))))))
  exact zrRet (zkBlkR (zkSeqR (zkNil (eX1 hS hQ))))
 ·refine zE (zkSeq (zF ?_))
  refine zrSkip (zkBlk (zkSeq (zrReg (zL 2 2 (zE ?_)))))
  exact zkNil (eN1 hS hQ)
def f23_l0_j1_J (a1 : List GLine) (p17 : Int) (p18 : Bool) : St := ⟨(up (up (up (up (up u0 8 (dB p18)) 7 (dI p17)) 6 (dI (a1.length : Int))) 5 (dE e_GLine a1)) 0 (dE e_GLine a1)), h0⟩
def f23_l0_j1 (a1 : List GLine) (p17 : Int) (p18 : Bool) : Option (Int ⊕ (Unit ⊕ Bool)) := (bif p18 then (f23_l0_j2 a1 p17) else (some (.inr (.inl ()))))
theorem f23_l0_j1_ok {d : Nat} (hd : 5 ≤ d) (a1 : List GLine) {r : Int ⊕ (Unit ⊕ Bool)} {Q : PQ} (hQ : FQ (finL (f23_l0_H a1) (f23_l0_X a1) r) Q) (p17 : Int) (p18 : Bool) (hS : f23_l0_j1 a1 p17 p18 = some r) {st : St} (he : keepSt [0, 5, 6, 7, 8] [] [] st = f23_l0_j1_J a1 p17 p18) : ZR (lev codes baseL (d - 1)) Q c23_2 [] st := by
 refine zrKeep he ?_
 unfold f23_l0_j1 at hS
 refine zrSeq (sR 8 hS (fun hS => ?_) (fun hS => ?_))
 ·exact zT (zrSkip (zkSeq (f23_l0_j2_ok hd a1 hQ p17 hS (by kernel_rfl))))
 ·exact zF (zrKeep (J := f23_l0_e0_J a1) (by kernel_rfl) (zrExit (zkSeqX (zkNil (eX0 hS hQ)))))
def f23_l0 (a1 : List GLine) (x : Int) : Option (Int ⊕ (Unit ⊕ Bool)) := (bif (decide (x < (a1.length : Int))) then (f23_l0_j1 a1 x true) else (f23_l0_j1 a1 x false))
theorem f23_l0_ok {d : Nat} (hd : 5 ≤ d) (a1 : List GLine) {r : Int ⊕ (Unit ⊕ Bool)} {Q : PQ} (hQ : FQ (finL (f23_l0_H a1) (f23_l0_X a1) r) Q) {x : Int} (hS : f23_l0 a1 x = some r) {st : St} (he : f23_l0_H a1 x st) : ZR (lev codes baseL (d - 1)) Q c23_3 [] st := by
 refine zrKeep he ?_
 unfold f23_l0 at hS
 refine zrSeq (zrReg ?_)
 refine sB 8 1 (.cmpI .lss (tm 7) (tm 6)) hS (fun hS => ?_) (fun hS => ?_)
 ·refine zE (zkSeq ?_)
  exact f23_l0_j1_ok hd a1 hQ x true hS (by kernel_rfl)
 ·refine zE (zkSeq ?_)
  exact f23_l0_j1_ok hd a1 hQ x false hS (by kernel_rfl)
def f23 (a1 : List GLine) : Option (Bool) := ((loopO (f23_l0 a1) 0).bind fun z9 => (Sum.elim (fun z10 => (bif (decide ((a1.length : Int) ≤ 40)) then (some true) else (some false))) (fun z11 => (some z11)) z9))
theorem f23_ok (d : Nat) (hd : 5 ≤ d) (a1 : List GLine) (r : Bool) (hS : f23 a1 = some r) : lev codes baseL d 23 [(dE e_GLine a1)] [] = some ((dB r), []) := by
 refine lev_go codes23 rfl rfl (Nat.le_trans (Nat.le_of_ble_eq_true rfl) hd) fun Q hQ => ?_
 unfold f23 at hS
 show ZR _ Q c23_b [] _
 replace hQ : FQ (f23_Q r) Q := hQ
 refine zrSeq (zrReg (zL 1 1 (zE (zkSeq (zrSeq (zrSeq (zrReg (zL 3 3 (zE (zkSeq ?_))))))))))
 refine zrBlk (bindE hS (fun z9 hz9 hS => zrLoop (f23_l0_H a1) (f23_l0_X a1) (fun x st r Q h0 hS hQ => f23_l0_ok hd a1 hQ hS h0) (x := 0) (z := z9) (by show keepSt _ _ _ _ = _; kernel_rfl) hz9 ?_))
 rcases z9 with z10 | z11
 ·replace hS := (show _ = _ from hS)
  simp only [Sum.elim_inl] at hS
  intro e st' _ hX
  obtain ⟨rfl, rfl⟩ : _ ∧ _ := hX
  refine zkBlkX (zkSeq (zrSeq (zrReg (zL 2 2 ?_))))
  refine sB 22 3 (.cmpI .leq (tm 21) (ki 40)) hS (fun hS => ?_) (fun hS => ?_)
  ·refine zL 1 4 (zE (zkSeq ?_))
   exact zrRet (zkNil (endQ hS hQ (fR (f23_out true))))
  ·refine zL 1 4 (zE (zkSeq ?_))
   exact zrRet (zkNil (endQ hS hQ (fR (f23_out false))))
 ·simp only [Sum.elim_inr] at hS
  intro e st' _ hX
  obtain ⟨rfl, hX⟩ : _ ∧ _ := hX
  exact zkBlkR (zkSeqR (zkNil (endQ hS hQ (fRet (by kernel_rfl) ((congrArg (fun s => outR s 0 c23.res) hX).trans (f23_out z11))))))
/- farwriter/screen.Check -/
def f9_fin (p33 : Int) : St := ⟨(up u0 2 (dI p33)), h0⟩
theorem f9_out (p33 : Int) : outR (f9_fin p33) 0 c9.res = some ((dI p33), []) := by
 kernel_rfl
def f9_Q (r : Int) (e : PX) (st : St) : Prop := DoneF c9 0 ((dI r), []) e st
def f9_j6_J (a1 : GScreen) (p70 : Bool) : St := ⟨(up (up u0 5 (dB p70)) 1 (pt 16)), (up h0 16 ⟨0, some (.box (bd_GScreen a1))⟩)⟩
def f9_j6 (a1 : GScreen) (p70 : Bool) : Option (Int) := (bif p70 then (bif (decide ((a1.Title.length : Int) ≤ 256)) then ((f23 a1.Past).bind fun z42 => (bif (!z42) then (some 4) else (some 0))) else (some 4)) else (some 4))
theorem f9_j6_ok {d : Nat} (hd : 6 ≤ d) (a1 : GScreen) {r : Int} {Q : PQ} (hQ : FQ (f9_Q r) Q) (p70 : Bool) (hS : f9_j6 a1 p70 = some r) {st : St} (he : keepSt [1, 5] [(16, .id 16)] [] st = f9_j6_J a1 p70) : ZR (lev codes baseL (d - 1)) Q c9_1 [] st := by
 refine zrKeep he ?_
 unfold f9_j6 at hS
 refine zrSeq (zrReg (zL 2 2 ?_))
 refine sL 144 hS (fun hS => ?_) (fun hS => ?_)
 ·refine zL 3 5 (sH 148 6 144 true (.cmpI .leq (tm 147) (ki 256)) hS (fun hS => ?_) (fun hS => ?_))
  ·refine zL 4 10 (bindE hS (fun z42 hz42 hS => zG (some 153) 11 150 true (c1 23 152) (ev_cA (f23_ok (d - 1) (dpt hd rfl) a1.Past z42 hz42)) (zL 2 13 (zE (zkSeq (zrSeq (zrSeq (zrReg (zL 2 2 (zE (zkSeq ?_)))))))))))
   refine sR 156 hS (fun hS => ?_) (fun hS => ?_)
   ·refine zT (zrSeq (zrReg (zL 1 1 (zE (zkSeq ?_)))))
    exact zrRet (zkSeqR (zkNil (endQ hS hQ (fR (f9_out 4)))))
   ·refine zF (zrSkip (zkSeq (zrSeq (zrReg (zL 1 1 (zE (zkSeq ?_)))))))
    exact zrRet (zkNil (endQ hS hQ (fR (f9_out 0))))
  ·refine zL 7 13 (zE (zkSeq (zrSeq (zrSeq (zrReg (zL 2 2 (zE (zkSeq (zT (zrSeq (zrReg (zL 1 1 (zE (zkSeq ?_))))))))))))))
   exact zrRet (zkSeqR (zkNil (endQ hS hQ (fR (f9_out 4)))))
 ·refine zL 11 13 (zE (zkSeq (zrSeq (zrSeq (zrReg (zL 2 2 (zE (zkSeq (zT (zrSeq (zrReg (zL 1 1 (zE (zkSeq ?_))))))))))))))
  exact zrRet (zkSeqR (zkNil (endQ hS hQ (fR (f9_out 4)))))
def f9_j5_J (a1 : GScreen) (p67 : Bool) : St := ⟨(up (up u0 5 (dB p67)) 1 (pt 16)), (up h0 16 ⟨0, some (.box (bd_GScreen a1))⟩)⟩
def f9_j5 (a1 : GScreen) (p67 : Bool) : Option (Int) := (bif p67 then ((f20 a1.Saved.Row 0 59).bind fun z43 => (bif z43 then ((f20 a1.Saved.Col 0 159).bind fun z44 => (f9_j6 a1 z44)) else (f9_j6 a1 false))) else (f9_j6 a1 false))
theorem f9_j5_ok {d : Nat} (hd : 6 ≤ d) (a1 : GScreen) {r : Int} {Q : PQ} (hQ : FQ (f9_Q r) Q) (p67 : Bool) (hS : f9_j5 a1 p67 = some r) {st : St} (he : keepSt [1, 5] [(16, .id 16)] [] st = f9_j5_J a1 p67) : ZR (lev codes baseL (d - 1)) Q c9_2 [] st := by
 refine zrKeep he ?_
 unfold f9_j5 at hS
 refine zrSeq (zrReg (zL 2 2 ?_))
 refine sL 131 hS (fun hS => ?_) (fun hS => ?_)
 ·refine zL 3 5 (bindE hS (fun z43 hz43 hS => zG (some 135) 6 131 true (.call 20 [(tm 134), (ki 0), (ki 59)]) (ev_cA (f20_ok (d - 1) (dpt hd rfl) a1.Saved.Row 0 59 z43 hz43)) (zL 2 8 (sL 137 hS (fun hS => ?_) (fun hS => ?_)))))
  ·refine zL 3 11 (bindE hS (fun z44 hz44 hS => zG (some 141) 12 137 true (.call 20 [(tm 140), (ki 0), (ki 159)]) (ev_cA (f20_ok (d - 1) (dpt hd rfl) a1.Saved.Col 0 159 z44 hz44)) (zL 2 14 (zE (zkSeq ?_)))))
   exact f9_j6_ok hd a1 hQ z44 hS (by kernel_rfl)
  ·refine zL 6 14 (zE (zkSeq ?_))
   exact f9_j6_ok hd a1 hQ false hS (by kernel_rfl)
 ·refine zL 12 14 (zE (zkSeq ?_))
  exact f9_j6_ok hd a1 hQ false hS (by kernel_rfl)
def f9_j4_J (a1 : GScreen) (p64 : Bool) : St := ⟨(up (up u0 5 (dB p64)) 1 (pt 16)), (up h0 16 ⟨0, some (.box (bd_GScreen a1))⟩)⟩
def f9_j4 (a1 : GScreen) (p64 : Bool) : Option (Int) := (bif p64 then ((f20 a1.Shift 0 1).bind fun z45 => (bif z45 then ((f20 a1.Saved.Shift 0 1).bind fun z46 => (f9_j5 a1 z46)) else (f9_j5 a1 false))) else (f9_j5 a1 false))
theorem f9_j4_ok {d : Nat} (hd : 6 ≤ d) (a1 : GScreen) {r : Int} {Q : PQ} (hQ : FQ (f9_Q r) Q) (p64 : Bool) (hS : f9_j4 a1 p64 = some r) {st : St} (he : keepSt [1, 5] [(16, .id 16)] [] st = f9_j4_J a1 p64) : ZR (lev codes baseL (d - 1)) Q c9_3 [] st := by
 refine zrKeep he ?_
 unfold f9_j4 at hS
 refine zrSeq (zrReg (zL 2 2 ?_))
 refine sL 119 hS (fun hS => ?_) (fun hS => ?_)
 ·refine zL 2 4 (bindE hS (fun z45 hz45 hS => zG (some 122) 5 119 true (.call 20 [(tm 121), (ki 0), (ki 1)]) (ev_cA (f20_ok (d - 1) (dpt hd rfl) a1.Shift 0 1 z45 hz45)) (zL 2 7 (sL 124 hS (fun hS => ?_) (fun hS => ?_)))))
  ·refine zL 3 10 (bindE hS (fun z46 hz46 hS => zG (some 128) 11 124 true (.call 20 [(tm 127), (ki 0), (ki 1)]) (ev_cA (f20_ok (d - 1) (dpt hd rfl) a1.Saved.Shift 0 1 z46 hz46)) (zL 2 13 (zE (zkSeq ?_)))))
   exact f9_j5_ok hd a1 hQ z46 hS (by kernel_rfl)
  ·refine zL 6 13 (zE (zkSeq ?_))
   exact f9_j5_ok hd a1 hQ false hS (by kernel_rfl)
 ·refine zL 11 13 (zE (zkSeq ?_))
  exact f9_j5_ok hd a1 hQ false hS (by kernel_rfl)
def f9_j8_J (a1 : GScreen) (p78 : Bool) : St := ⟨(up (up (up u0 98 (dI 1)) 5 (dB p78)) 1 (pt 16)), (up h0 16 ⟨0, some (.box (bd_GScreen a1))⟩)⟩
def f9_j8 (a1 : GScreen) (p78 : Bool) : Option (Int) := (bif p78 then ((f22 a1.Pages.2).bind fun z51 => (bif z51 then ((f22 a1.Saved.Pages.2).bind fun z52 => (f9_j4 a1 z52)) else (f9_j4 a1 false))) else (f9_j4 a1 false))
theorem f9_j8_ok {d : Nat} (hd : 6 ≤ d) (a1 : GScreen) {r : Int} {Q : PQ} (hQ : FQ (f9_Q r) Q) (p78 : Bool) (hS : f9_j8 a1 p78 = some r) {st : St} (he : keepSt [1, 5, 98] [(16, .id 16)] [] st = f9_j8_J a1 p78) : ZR (lev codes baseL (d - 1)) Q c9_4 [.seq c9_5, .blk 0, .seq c9_3] st := by
 refine zrKeep he ?_
 unfold f9_j8 at hS
 refine zrSeq (zrBlk (zrSeq (zrReg (zL 2 2 (zE (zkSeq (zrReg (zL 2 2 ?_))))))))
 refine sL 102 hS (fun hS => ?_) (fun hS => ?_)
 ·refine zL 4 6 (bindE hS (fun z51 hz51 hS => zG (some 107) 7 102 true (c1 22 106) (ev_cA (f22_ok (d - 1) (dpt hd rfl) a1.Pages.2 z51 hz51)) (zL 2 9 (sL 109 hS (fun hS => ?_) (fun hS => ?_)))))
  ·refine zL 5 14 (bindE hS (fun z52 hz52 hS => zG (some 115) 15 109 true (c1 22 114) (ev_cA (f22_ok (d - 1) (dpt hd rfl) a1.Saved.Pages.2 z52 hz52)) (zL 2 17 (zE ?_))))
   refine zkBlk (zkSeq (zrReg (zL 2 2 (zE (zkSeq ?_)))))
   refine zrLoop1 (zrSeq (zrReg (zL 1 1 (zE (zkSeq (zrSeq (zF ?_)))))))
   exact zrExit (zkSeqX (zkSeqX (zkBlkX (zkSeq (f9_j4_ok hd a1 hQ z52 hS (by kernel_rfl))))))
  ·refine zL 8 17 (zE ?_)
   refine zkBlk (zkSeq (zrReg (zL 2 2 (zE (zkSeq ?_)))))
   refine zrLoop1 (zrSeq (zrReg (zL 1 1 (zE (zkSeq (zrSeq (zF ?_)))))))
   exact zrExit (zkSeqX (zkSeqX (zkBlkX (zkSeq (f9_j4_ok hd a1 hQ false hS (by kernel_rfl))))))
 ·refine zL 15 17 (zE ?_)
  refine zkBlk (zkSeq (zrReg (zL 2 2 (zE (zkSeq ?_)))))
  refine zrLoop1 (zrSeq (zrReg (zL 1 1 (zE (zkSeq (zrSeq (zF ?_)))))))
  exact zrExit (zkSeqX (zkSeqX (zkBlkX (zkSeq (f9_j4_ok hd a1 hQ false hS (by kernel_rfl))))))
def f9_j9_J (a1 : GScreen) : St := ⟨(up (up (up u0 98 (dI 1)) 5 (dB false)) 1 (pt 16)), (up h0 16 ⟨0, some (.box (bd_GScreen a1))⟩)⟩
def f9_j9 (a1 : GScreen) : Option (Int) := (f9_j4 a1 false)
theorem f9_j9_ok {d : Nat} (hd : 6 ≤ d) (a1 : GScreen) {r : Int} {Q : PQ} (hQ : FQ (f9_Q r) Q)  (hS : f9_j9 a1 = some r) {st : St} (he : keepSt [1, 5, 98] [(16, .id 16)] [] st = f9_j9_J a1) : ZR (lev codes baseL (d - 1)) Q c9_4 [.seq c9_5, .blk 0, .seq c9_3] st := by
 refine zrKeep he ?_
 unfold f9_j9 at hS
 refine zrSeq (zrBlk (zrSeq (zrReg (zL 2 2 (zE (zkSeq (zrReg (zL 17 17 (zE ?_)))))))))
 refine zkBlk (zkSeq (zrReg (zL 2 2 (zE (zkSeq ?_)))))
 refine zrLoop1 (zrSeq (zrReg (zL 1 1 (zE (zkSeq (zrSeq (zF ?_)))))))
 exact zrExit (zkSeqX (zkSeqX (zkBlkX (zkSeq (f9_j4_ok hd a1 hQ false hS (by kernel_rfl))))))
def f9_j10_J (a1 : GScreen) : St := ⟨(up (up (up u0 98 (dI 1)) 5 (dB false)) 1 (pt 16)), (up h0 16 ⟨0, some (.box (bd_GScreen a1))⟩)⟩
def f9_j10 (a1 : GScreen) : Option (Int) := (f9_j4 a1 false)
theorem f9_j10_ok {d : Nat} (hd : 6 ≤ d) (a1 : GScreen) {r : Int} {Q : PQ} (hQ : FQ (f9_Q r) Q)  (hS : f9_j10 a1 = some r) {st : St} (he : keepSt [1, 5, 98] [(16, .id 16)] [] st = f9_j10_J a1) : ZR (lev codes baseL (d - 1)) Q c9_4 [.seq c9_5, .blk 0, .seq c9_3] st := by
 refine zrKeep he ?_
 unfold f9_j10 at hS
 refine zrSeq (zrBlk (zrSeq (zrReg (zL 2 2 (zE (zkSeq (zrReg (zL 17 17 (zE ?_)))))))))
 refine zkBlk (zkSeq (zrReg (zL 2 2 (zE (zkSeq ?_)))))
 refine zrLoop1 (zrSeq (zrReg (zL 1 1 (zE (zkSeq (zrSeq (zF ?_)))))))
 exact zrExit (zkSeqX (zkSeqX (zkBlkX (zkSeq (f9_j4_ok hd a1 hQ false hS (by kernel_rfl))))))
def f9_j7_J (a1 : GScreen) (p71 : Bool) : St := ⟨(up (up (up u0 98 (dI 0)) 5 (dB p71)) 1 (pt 16)), (up h0 16 ⟨0, some (.box (bd_GScreen a1))⟩)⟩
def f9_j7 (a1 : GScreen) (p71 : Bool) : Option (Int) := (bif p71 then ((f22 a1.Pages.1).bind fun z47 => (bif z47 then ((f22 a1.Saved.Pages.1).bind fun z48 => (f9_j8 a1 z48)) else (f9_j9 a1 ))) else (f9_j10 a1 ))
theorem f9_j7_ok {d : Nat} (hd : 6 ≤ d) (a1 : GScreen) {r : Int} {Q : PQ} (hQ : FQ (f9_Q r) Q) (p71 : Bool) (hS : f9_j7 a1 p71 = some r) {st : St} (he : keepSt [1, 5, 98] [(16, .id 16)] [] st = f9_j7_J a1 p71) : ZR (lev codes baseL (d - 1)) Q c9_4 [.seq c9_5, .blk 0, .seq c9_3] st := by
 refine zrKeep he ?_
 unfold f9_j7 at hS
 refine zrSeq (zrBlk (zrSeq (zrReg (zL 2 2 (zE (zkSeq (zrReg (zL 2 2 ?_))))))))
 refine sL 102 hS (fun hS => ?_) (fun hS => ?_)
 ·refine zL 4 6 (bindE hS (fun z47 hz47 hS => zG (some 107) 7 102 true (c1 22 106) (ev_cA (f22_ok (d - 1) (dpt hd rfl) a1.Pages.1 z47 hz47)) (zL 2 9 (sL 109 hS (fun hS => ?_) (fun hS => ?_)))))
  ·refine zL 5 14 (bindE hS (fun z48 hz48 hS => zG (some 115) 15 109 true (c1 22 114) (ev_cA (f22_ok (d - 1) (dpt hd rfl) a1.Saved.Pages.1 z48 hz48)) (zL 2 17 (zE ?_))))
   refine zkBlk (zkSeq (zrReg (zL 2 2 (zE (zkSeq ?_)))))
   refine zrLoop1 (zrSeq (zrReg (zL 1 1 (zE (zkSeq (zrSeq (zT ?_)))))))
   exact zrSkip (zkSeq (f9_j8_ok hd a1 hQ z48 hS (by kernel_rfl)))
  ·refine zL 8 17 (zE ?_)
   refine zkBlk (zkSeq (zrReg (zL 2 2 (zE (zkSeq ?_)))))
   refine zrLoop1 (zrSeq (zrReg (zL 1 1 (zE (zkSeq (zrSeq (zT ?_)))))))
   exact zrSkip (zkSeq (f9_j9_ok hd a1 hQ  hS (by kernel_rfl)))
 ·refine zL 15 17 (zE ?_)
  refine zkBlk (zkSeq (zrReg (zL 2 2 (zE (zkSeq ?_)))))
  refine zrLoop1 (zrSeq (zrReg (zL 1 1 (zE (zkSeq (zrSeq (zT ?_)))))))
  exact zrSkip (zkSeq (f9_j10_ok hd a1 hQ  hS (by kernel_rfl)))
def f9_j3_J (a1 : GScreen) (p51 : Bool) : St := ⟨(up (up u0 5 (dB p51)) 1 (pt 16)), (up h0 16 ⟨0, some (.box (bd_GScreen a1))⟩)⟩
def f9_j3 (a1 : GScreen) (p51 : Bool) : Option (Int) := (f9_j7 a1 p51)
theorem f9_j3_ok {d : Nat} (hd : 6 ≤ d) (a1 : GScreen) {r : Int} {Q : PQ} (hQ : FQ (f9_Q r) Q) (p51 : Bool) (hS : f9_j3 a1 p51 = some r) {st : St} (he : keepSt [1, 5] [(16, .id 16)] [] st = f9_j3_J a1 p51) : ZR (lev codes baseL (d - 1)) Q c9_6 [] st := by
 refine zrKeep he ?_
 unfold f9_j3 at hS
 refine zrSeq (zrSeq (zrReg (zL 1 1 (zE (zkSeq ?_)))))
 refine zrBlk (zrLoop1 (zrSeq (zrReg (zL 1 1 (zE (zkSeq (zrSeq (zT ?_))))))))
 exact zrSkip (zkSeq (f9_j7_ok hd a1 hQ p51 hS (by kernel_rfl)))
def f9_j2_J (a1 : GScreen) (p47 : Bool) : St := ⟨(up (up u0 5 (dB p47)) 1 (pt 16)), (up h0 16 ⟨0, some (.box (bd_GScreen a1))⟩)⟩
def f9_j2 (a1 : GScreen) (p47 : Bool) : Option (Int) := (bif p47 then ((f21 a1.Pen).bind fun z53 => (bif (decide (z53 = 0)) then ((f21 a1.Saved.Pen).bind fun z54 => (bif (decide (z54 = 0)) then ((f20 a1.Modes 0 2047).bind fun z55 => (f9_j3 a1 z55)) else (f9_j3 a1 false))) else (f9_j3 a1 false))) else (f9_j3 a1 false))
theorem f9_j2_ok {d : Nat} (hd : 6 ≤ d) (a1 : GScreen) {r : Int} {Q : PQ} (hQ : FQ (f9_Q r) Q) (p47 : Bool) (hS : f9_j2 a1 p47 = some r) {st : St} (he : keepSt [1, 5] [(16, .id 16)] [] st = f9_j2_J a1 p47) : ZR (lev codes baseL (d - 1)) Q c9_7 [] st := by
 refine zrKeep he ?_
 unfold f9_j2 at hS
 refine zrSeq (zrReg (zL 2 2 ?_))
 refine sL 80 hS (fun hS => ?_) (fun hS => ?_)
 ·refine zL 2 4 (bindE hS (fun z53 hz53 hS => zG (some 83) 5 80 true (c1 21 82) (ev_cA (f21_ok (d - 1) (dpt hd rfl) a1.Pen z53 hz53)) (sH 84 6 80 true (ck 83 0) hS (fun hS => ?_) (fun hS => ?_))))
  ·refine zL 5 11 (bindE hS (fun z54 hz54 hS => zG (some 90) 12 86 true (c1 21 89) (ev_cA (f21_ok (d - 1) (dpt hd rfl) a1.Saved.Pen z54 hz54)) (sH 91 13 86 true (ck 90 0) hS (fun hS => ?_) (fun hS => ?_))))
   ·refine zL 4 17 (bindE hS (fun z55 hz55 hS => zG (some 96) 18 93 true (.call 20 [(tm 95), (ki 0), (ki 2047)]) (ev_cA (f20_ok (d - 1) (dpt hd rfl) a1.Modes 0 2047 z55 hz55)) (zL 2 20 (zE (zkSeq ?_)))))
    exact f9_j3_ok hd a1 hQ z55 hS (by kernel_rfl)
   ·refine zL 7 20 (zE (zkSeq ?_))
    exact f9_j3_ok hd a1 hQ false hS (by kernel_rfl)
  ·refine zL 14 20 (zE (zkSeq ?_))
   exact f9_j3_ok hd a1 hQ false hS (by kernel_rfl)
 ·refine zL 18 20 (zE (zkSeq ?_))
  exact f9_j3_ok hd a1 hQ false hS (by kernel_rfl)
def f9_j1_J (a1 : GScreen) (p43 : Bool) : St := ⟨(up (up (up u0 5 (dB p43)) 3 (pt 32)) 1 (pt 16)), (up (up h0 32 ⟨0, some (.box ((dI a1.Grid.Wide) :: ((dI a1.Grid.High) :: ((gd0_GScreen a1) :: []))))⟩) 16 ⟨0, some (.box (bd_GScreen a1))⟩)⟩
def f9_j1 (a1 : GScreen) (p43 : Bool) : Option (Int) := (bif p43 then ((f20 a1.Top 0 (IntKind.i64.wrap (a1.Bottom - 1))).bind fun z56 => (bif z56 then (bif (decide (a1.Bottom ≤ a1.Grid.High)) then (f9_j2 a1 true) else (f9_j2 a1 false)) else (f9_j2 a1 false))) else (f9_j2 a1 false))
theorem f9_j1_ok {d : Nat} (hd : 6 ≤ d) (a1 : GScreen) {r : Int} {Q : PQ} (hQ : FQ (f9_Q r) Q) (p43 : Bool) (hS : f9_j1 a1 p43 = some r) {st : St} (he : keepSt [1, 3, 5] [(16, .id 16), (32, .id 32)] [] st = f9_j1_J a1 p43) : ZR (lev codes baseL (d - 1)) Q c9_8 [] st := by
 refine zrKeep he ?_
 unfold f9_j1 at hS
 refine zrSeq (zrReg (zL 2 2 ?_))
 refine sL 64 hS (fun hS => ?_) (fun hS => ?_)
 ·refine zL 5 7 (bindE hS (fun z56 hz56 hS => zG (some 70) 8 64 true (.call 20 [(tm 66), (ki 0), (tm 69)]) (ev_cA (f20_ok (d - 1) (dpt hd rfl) a1.Top 0 (IntKind.i64.wrap (a1.Bottom - 1)) z56 hz56)) (zL 2 10 (sL 72 hS (fun hS => ?_) (fun hS => ?_)))))
  ·refine zL 4 14 (sH 77 15 72 true (.cmpI .leq (tm 74) (tm 76)) hS (fun hS => ?_) (fun hS => ?_))
   ·refine zL 2 17 (zE (zkSeq ?_))
    exact f9_j2_ok hd a1 hQ true hS (by kernel_rfl)
   ·refine zL 2 17 (zE (zkSeq ?_))
    exact f9_j2_ok hd a1 hQ false hS (by kernel_rfl)
  ·refine zL 7 17 (zE (zkSeq ?_))
   exact f9_j2_ok hd a1 hQ false hS (by kernel_rfl)
 ·refine zL 15 17 (zE (zkSeq ?_))
  exact f9_j2_ok hd a1 hQ false hS (by kernel_rfl)
def f9_j0_J (a1 : GScreen) (p38 : Bool) : St := ⟨(up (up (up u0 5 (dB p38)) 3 (pt 32)) 1 (pt 16)), (up (up h0 32 ⟨0, some (.box ((dI a1.Grid.Wide) :: ((dI a1.Grid.High) :: ((gd0_GScreen a1) :: []))))⟩) 16 ⟨0, some (.box (bd_GScreen a1))⟩)⟩
def f9_j0 (a1 : GScreen) (p38 : Bool) : Option (Int) := (bif p38 then ((f20 a1.Row 0 (IntKind.i64.wrap (a1.Grid.High - 1))).bind fun z57 => (bif z57 then ((f20 a1.Col 0 (IntKind.i64.wrap (a1.Grid.Wide - 1))).bind fun z58 => (bif z58 then (bif (!a1.Late) then (f9_j1 a1 true) else (bif (decide (a1.Col = (IntKind.i64.wrap (a1.Grid.Wide - 1)))) then (f9_j1 a1 true) else (f9_j1 a1 false))) else (f9_j1 a1 false))) else (f9_j1 a1 false))) else (f9_j1 a1 false))
theorem f9_j0_ok {d : Nat} (hd : 6 ≤ d) (a1 : GScreen) {r : Int} {Q : PQ} (hQ : FQ (f9_Q r) Q) (p38 : Bool) (hS : f9_j0 a1 p38 = some r) {st : St} (he : keepSt [1, 3, 5] [(16, .id 16), (32, .id 32)] [] st = f9_j0_J a1 p38) : ZR (lev codes baseL (d - 1)) Q c9_9 [] st := by
 refine zrKeep he ?_
 unfold f9_j0 at hS
 refine zrSeq (zrReg (zL 2 2 ?_))
 refine sL 34 hS (fun hS => ?_) (fun hS => ?_)
 ·refine zL 5 7 (bindE hS (fun z57 hz57 hS => zG (some 40) 8 34 true (.call 20 [(tm 36), (ki 0), (tm 39)]) (ev_cA (f20_ok (d - 1) (dpt hd rfl) a1.Row 0 (IntKind.i64.wrap (a1.Grid.High - 1)) z57 hz57)) (zL 2 10 (sL 42 hS (fun hS => ?_) (fun hS => ?_)))))
  ·refine zL 5 15 (bindE hS (fun z58 hz58 hS => zG (some 48) 16 42 true (.call 20 [(tm 44), (ki 0), (tm 47)]) (ev_cA (f20_ok (d - 1) (dpt hd rfl) a1.Col 0 (IntKind.i64.wrap (a1.Grid.Wide - 1)) z58 hz58)) (zL 2 18 (sL 50 hS (fun hS => ?_) (fun hS => ?_)))))
   ·refine zL 4 22 (sL 54 hS (fun hS => ?_) (fun hS => ?_))
    ·refine zL 9 31 (zE (zkSeq ?_))
     exact f9_j1_ok hd a1 hQ true hS (by kernel_rfl)
    ·refine zL 5 27 (sH 60 28 54 false (.cmpI .eql (tm 56) (tm 59)) hS (fun hS => ?_) (fun hS => ?_))
     ·refine zL 3 31 (zE (zkSeq ?_))
      exact f9_j1_ok hd a1 hQ true hS (by kernel_rfl)
     ·refine zL 3 31 (zE (zkSeq ?_))
      exact f9_j1_ok hd a1 hQ false hS (by kernel_rfl)
   ·refine zL 13 31 (zE (zkSeq ?_))
    exact f9_j1_ok hd a1 hQ false hS (by kernel_rfl)
  ·refine zL 21 31 (zE (zkSeq ?_))
   exact f9_j1_ok hd a1 hQ false hS (by kernel_rfl)
 ·refine zL 29 31 (zE (zkSeq ?_))
  exact f9_j1_ok hd a1 hQ false hS (by kernel_rfl)
def f9 (a1 : GScreen) : Option (Int) := ((f19 a1.Grid).bind fun z59 => (bif (decide (z59 = 0)) then ((f19 a1.Other).bind fun z60 => (bif (decide (z60 = 0)) then (bif (decide (a1.Grid.Wide = a1.Other.Wide)) then (bif (decide (a1.Grid.High = a1.Other.High)) then (f9_j0 a1 true) else (f9_j0 a1 false)) else (f9_j0 a1 false)) else (f9_j0 a1 false))) else (f9_j0 a1 false)))
theorem f9_ok (d : Nat) (hd : 6 ≤ d) (a1 : GScreen) (r : Int) (hS : f9 a1 = some r) : lev codes baseL d 9 [(.agg (bd_GScreen a1))] [] = some ((dI r), []) := by
 refine lev_go codes9 rfl rfl (Nat.le_trans (Nat.le_of_ble_eq_true rfl) hd) fun Q hQ => ?_
 unfold f9 at hS
 show ZR _ Q c9_b [] _
 replace hQ : FQ (f9_Q r) Q := hQ
 refine zrSeq (zrReg (zL 2 2 (zE (zkSeq (zrSeq ?_)))))
 refine zrRegD (zdR 8 8 (zdE (zkSeq (zrSeq (zrReg (zL 1 1 ?_))))))
 refine bindE hS (fun z59 hz59 hS => zO (some 12) 2 (c1 19 11) (ev_cA (f19_ok (d - 1) (dpt hd rfl) a1.Grid z59 hz59)) (sB 13 3 (ck 12 0) hS (fun hS => ?_) (fun hS => ?_)))
 ·refine zL 2 5 (bindE hS (fun z60 hz60 hS => zG (some 16) 6 14 true (c1 19 15) (ev_cA (f19_ok (d - 1) (dpt hd rfl) a1.Other z60 hz60)) (sH 17 7 14 true (ck 16 0) hS (fun hS => ?_) (fun hS => ?_))))
  ·refine zL 6 13 (sH 24 14 19 true (.cmpI .eql (tm 21) (tm 23)) hS (fun hS => ?_) (fun hS => ?_))
   ·refine zL 6 20 (sH 31 21 26 true (.cmpI .eql (tm 28) (tm 30)) hS (fun hS => ?_) (fun hS => ?_))
    ·refine zL 2 23 (zE (zkSeq ?_))
     exact f9_j0_ok hd a1 hQ true hS (by kernel_rfl)
    ·refine zL 2 23 (zE (zkSeq ?_))
     exact f9_j0_ok hd a1 hQ false hS (by kernel_rfl)
   ·refine zL 9 23 (zE (zkSeq ?_))
    exact f9_j0_ok hd a1 hQ false hS (by kernel_rfl)
  ·refine zL 16 23 (zE (zkSeq ?_))
   exact f9_j0_ok hd a1 hQ false hS (by kernel_rfl)
 ·refine zL 20 23 (zE (zkSeq ?_))
  exact f9_j0_ok hd a1 hQ false hS (by kernel_rfl)
/- slices.Equal[[]farwriter/api.Cell,farwriter/api.Cell] -/
def f10_fin (p14 : Bool) : St := ⟨(up u0 4 (dB p14)), h0⟩
theorem f10_out (p14 : Bool) : outR (f10_fin p14) 0 c10.res = some ((dB p14), []) := by
 kernel_rfl
def f10_Q (r : Bool) (e : PX) (st : St) : Prop := DoneF c10 0 ((dB r), []) e st
def f10_l1_J (a1 : List GCell) (a2 : List GCell) (x : Int) : St := ⟨(up (up (up (up u0 13 (dI x)) 12 (dI (a1.length : Int))) 1 (dE e_GCell a2)) 0 (dE e_GCell a1)), h0⟩
def f10_l1_H (a1 : List GCell) (a2 : List GCell) (x : Int) (st : St) : Prop := keepSt [0, 1, 12, 13] [] [] st = f10_l1_J a1 a2 x
def f10_l1_e0_J (a1 : List GCell) (a2 : List GCell) : St := ⟨u0, h0⟩
def f10_l1_X (a1 : List GCell) (a2 : List GCell) (z : Unit ⊕ Bool) (e : PX) (st : St) : Prop := (match z with | .inl z => e = .exit 0 ∧ st = f10_l1_e0_J a1 a2 | .inr z => e = .ret ∧ finSt c10.fin st = f10_fin z)
def f10_l1_j3_J (a1 : List GCell) (a2 : List GCell) (p20 : Int) : St := ⟨(up (up (up (up u0 13 (dI p20)) 12 (dI (a1.length : Int))) 1 (dE e_GCell a2)) 0 (dE e_GCell a1)), h0⟩
def f10_l1_j3 (a1 : List GCell) (a2 : List GCell) (p20 : Int) : Option (Int ⊕ (Unit ⊕ Bool)) := ((idx a1 p20).bind fun z7 => ((idx a2 p20).bind fun z8 => (bif (!(decide (z7.Rune = z8.Rune) && (decide (z7.Pen.Flags = z8.Pen.Flags) && (decide (z7.Pen.Fore = z8.Pen.Fore) && (decide (z7.Pen.Back = z8.Pen.Back) && true))))) then (some (.inr (.inr false))) else (some (.inl (IntKind.i64.wrap (p20 + 1)))))))
theorem f10_l1_j3_ok {d : Nat} (hd : 1 ≤ d) (a1 : List GCell) (a2 : List GCell) {r : Int ⊕ (Unit ⊕ Bool)} {Q : PQ} (hQ : FQ (finL (f10_l1_H a1 a2) (f10_l1_X a1 a2) r) Q) (p20 : Int) (hS : f10_l1_j3 a1 a2 p20 = some r) {st : St} (he : keepSt [0, 1, 12, 13] [] [] st = f10_l1_j3_J a1 a2 p20) : ZR (lev codes baseL (d - 1)) Q c10_1 [] st := by
 refine zrKeep he ?_
 unfold f10_l1_j3 at hS
 refine zrSeq (zrBlk (zrSeq (zrReg (zL 2 2 (zE (zkSeq (zrSeq ?_)))))))
 refine zrRegD (zdR 2 2 (bindE hS (fun z7 hz7 hS => zdO (v := (.rptr (e_GCell.enc z7 ++ (e_GCell.cells (a1.drop ((p20 : Int).toNat + 1)))))) (ups := []) (some 18) 3 none (.ixS 49 4 (tm 16) (tm 17)) (ev_ixS e_GCell (kk := .i64) (xs := a1) (j := p20) (by kernel_rfl) (by kernel_rfl) hz7 rfl (by intro h; cases h)) (zdR 3 6 (bindE hS (fun z8 hz8 hS => zdO (v := (.rptr (e_GCell.enc z8 ++ (e_GCell.cells (a2.drop ((p20 : Int).toNat + 1)))))) (ups := []) (some 22) 7 none (.ixS 49 4 (tm 20) (tm 21)) (ev_ixS e_GCell (kk := .i64) (xs := a2) (j := p20) (by kernel_rfl) (by kernel_rfl) hz8 rfl (by intro h; cases h)) (zdR 1 8 (sDB 24 9 none (.eqA .true [(4, .int)] (tm 19) (tm 23)) hS (fun hS => ?_) (fun hS => ?_)))))))))
 ·refine zdE (zkSeq (zT (zrSeq (zrReg (zL 1 1 (zE (zkSeq ?_)))))))
  exact zrRet (zkBlkR (zkSeqR (zkNil (eX1 hS hQ))))
 ·refine zdE (zkSeq (zF ?_))
  refine zrSkip (zkBlk (zkSeq (zrReg (zL 2 2 (zE ?_)))))
  exact zkNil (eN1 hS hQ)
def f10_l1_j2_J (a1 : List GCell) (a2 : List GCell) (p18 : Int) (p19 : Bool) : St := ⟨(up (up (up (up (up u0 14 (dB p19)) 13 (dI p18)) 12 (dI (a1.length : Int))) 1 (dE e_GCell a2)) 0 (dE e_GCell a1)), h0⟩
def f10_l1_j2 (a1 : List GCell) (a2 : List GCell) (p18 : Int) (p19 : Bool) : Option (Int ⊕ (Unit ⊕ Bool)) := (bif p19 then (f10_l1_j3 a1 a2 p18) else (some (.inr (.inl ()))))
theorem f10_l1_j2_ok {d : Nat} (hd : 1 ≤ d) (a1 : List GCell) (a2 : List GCell) {r : Int ⊕ (Unit ⊕ Bool)} {Q : PQ} (hQ : FQ (finL (f10_l1_H a1 a2) (f10_l1_X a1 a2) r) Q) (p18 : Int) (p19 : Bool) (hS : f10_l1_j2 a1 a2 p18 p19 = some r) {st : St} (he : keepSt [0, 1, 12, 13, 14] [] [] st = f10_l1_j2_J a1 a2 p18 p19) : ZR (lev codes baseL (d - 1)) Q c10_2 [] st := by
 refine zrKeep he ?_
 unfold f10_l1_j2 at hS
 refine zrSeq (sR 14 hS (fun hS => ?_) (fun hS => ?_))
 ·exact zT (zrSkip (zkSeq (f10_l1_j3_ok hd a1 a2 hQ p18 hS (by kernel_rfl))))
 ·exact zF (zrKeep (J := f10_l1_e0_J a1 a2) (by kernel_rfl) (zrExit (zkSeqX (zkNil (eX0 hS hQ)))))
def f10_l1 (a1 : List GCell) (a2 : List GCell) (x : Int) : Option (Int ⊕ (Unit ⊕ Bool)) := (bif (decide (x < (a1.length : Int))) then (f10_l1_j2 a1 a2 x true) else (f10_l1_j2 a1 a2 x false))
theorem f10_l1_ok {d : Nat} (hd : 1 ≤ d) (a1 : List GCell) (a2 : List GCell) {r : Int ⊕ (Unit ⊕ Bool)} {Q : PQ} (hQ : FQ (finL (f10_l1_H a1 a2) (f10_l1_X a1 a2) r) Q) {x : Int} (hS : f10_l1 a1 a2 x = some r) {st : St} (he : f10_l1_H a1 a2 x st) : ZR (lev codes baseL (d - 1)) Q c10_3 [] st := by
 refine zrKeep he ?_
 unfold f10_l1 at hS
 refine zrSeq (zrReg ?_)
 refine sB 14 1 (.cmpI .lss (tm 13) (tm 12)) hS (fun hS => ?_) (fun hS => ?_)
 ·refine zE (zkSeq ?_)
  exact f10_l1_j2_ok hd a1 a2 hQ x true hS (by kernel_rfl)
 ·refine zE (zkSeq ?_)
  exact f10_l1_j2_ok hd a1 a2 hQ x false hS (by kernel_rfl)
def f10_j0_J (a1 : List GCell) (a2 : List GCell) : St := ⟨(up (up u0 1 (dE e_GCell a2)) 0 (dE e_GCell a1)), h0⟩
def f10_j0 (a1 : List GCell) (a2 : List GCell) : Option (Bool) := ((loopO (f10_l1 a1 a2) 0).bind fun z9 => (Sum.elim (fun z10 => (some true)) (fun z11 => (some z11)) z9))
theorem f10_j0_ok {d : Nat} (hd : 1 ≤ d) (a1 : List GCell) (a2 : List GCell) {r : Bool} {Q : PQ} (hQ : FQ (f10_Q r) Q)  (hS : f10_j0 a1 a2 = some r) {st : St} (he : keepSt [0, 1] [] [] st = f10_j0_J a1 a2) : ZR (lev codes baseL (d - 1)) Q c10_4 [] st := by
 refine zrKeep he ?_
 unfold f10_j0 at hS
 refine zrSeq (zrSeq (zrReg (zL 3 3 (zE (zkSeq ?_)))))
 refine zrBlk (bindE hS (fun z9 hz9 hS => zrLoop (f10_l1_H a1 a2) (f10_l1_X a1 a2) (fun x st r Q h0 hS hQ => f10_l1_ok hd a1 a2 hQ hS h0) (x := 0) (z := z9) (by show keepSt _ _ _ _ = _; kernel_rfl) hz9 ?_))
 rcases z9 with z10 | z11
 ·replace hS := (show _ = _ from hS)
  simp only [Sum.elim_inl] at hS
  intro e st' _ hX
  obtain ⟨rfl, rfl⟩ : _ ∧ _ := hX
  refine zkBlkX (zkSeq (zrSeq (zrReg (zL 1 1 (zE (zkSeq ?_))))))
  exact zrRet (zkNil (endQ hS hQ (fR (f10_out true))))
 ·simp only [Sum.elim_inr] at hS
  intro e st' _ hX
  obtain ⟨rfl, hX⟩ : _ ∧ _ := hX
  exact zkBlkR (zkSeqR (zkNil (endQ hS hQ (fRet (by kernel_rfl) ((congrArg (fun s => outR s 0 c10.res) hX).trans (f10_out z11))))))
def f10 (a1 : List GCell) (a2 : List GCell) : Option (Bool) := (bif (!decide ((a1.length : Int) = (a2.length : Int))) then (some false) else (f10_j0 a1 a2 ))
theorem f10_ok (d : Nat) (hd : 1 ≤ d) (a1 : List GCell) (a2 : List GCell) (r : Bool) (hS : f10 a1 a2 = some r) : lev codes baseL d 10 [(dE e_GCell a1), (dE e_GCell a2)] [] = some ((dB r), []) := by
 refine lev_go codes10 rfl rfl (Nat.le_trans (Nat.le_of_ble_eq_true rfl) hd) fun Q hQ => ?_
 unfold f10 at hS
 show ZR _ Q c10_b [] _
 replace hQ : FQ (f10_Q r) Q := hQ
 refine zrSeq (zrReg (zL 1 1 (zE (zkSeq (zrSeq (zrSeq (zrReg (zL 4 4 ?_))))))))
 refine sB 10 5 (.cmpI .neq (tm 7) (tm 9)) hS (fun hS => ?_) (fun hS => ?_)
 ·refine zE (zkSeq (zT (zrSeq (zrReg (zL 1 1 (zE (zkSeq ?_)))))))
  exact zrRet (zkSeqR (zkNil (endQ hS hQ (fR (f10_out false)))))
 ·refine zE (zkSeq (zF ?_))
  exact zrSkip (zkSeq (f10_j0_ok hd a1 a2 hQ  hS (by kernel_rfl)))
/- slices.Clone[[]farwriter/api.Cell,farwriter/api.Cell] -/
def f24_fin (p1 : List GCell) : St := ⟨(up u0 2 (.r (.msl 97 0 0 p1.length))), (up h0 97 ⟨0, some (.own 49 4 (e_GCell.cells p1))⟩)⟩
theorem f24_out (p1 : List GCell) : outR (f24_fin p1) 0 c24.res = some ((.r (.own 0 49 4 p1.length (e_GCell.cells p1))), []) := by
 exact out_of (ids := []) (ids' := [97]) (l := [(.r (.msl 97 0 0 p1.length))]) (by kernel_rfl) (by kernel_rfl) (o_own e_GCell (e := 49) (k := 4) (xs := p1) (by kernel_rfl) rfl rfl rfl rfl)
def f24_Q (r : List GCell) (e : PX) (st : St) : Prop := DoneF c24 0 ((.r (.own 0 49 4 r.length (e_GCell.cells r))), []) e st
def f24 (a1 : List GCell) : Option (List GCell) := ((app? 32 ([] : List GCell) a1).bind fun z2 => (some z2))
theorem f24_ok (d : Nat) (hd : 1 ≤ d) (a1 : List GCell) (r : List GCell) (hS : f24 a1 = some r) : lev codes baseL d 24 [(dE e_GCell a1)] [] = some ((.r (.own 0 49 4 r.length (e_GCell.cells r))), []) := by
 refine lev_goZ codes24 rfl rfl (Nat.le_trans (Nat.le_of_ble_eq_true rfl) hd) (fun Q hQ => ?_) (fun h0 Q hQ => ?_)
 ·unfold f24 at hS
  show ZR _ Q c24_b [] _
  refine zrSeq (zrReg (zL 1 1 (zE (zkSeq (zrSeq (zrSeq (zrReg (zL 2 2 (zE (zkSeq (zF ?_)))))))))))
  refine zrSkip (zkSeq (zrSeq (zrReg (zL 2 2 ?_))))
  refine bindE hS (fun z2 hz2 hS => zO (v := (.r (.msl 48 2 0 z2.length))) (ups := [(48, ⟨2, some (.own 49 4 (e_GCell.cells z2))⟩)]) (some 7) 3 (.app 49 4 32 (tm 5) (tm 6)) (ev_app e_GCell (b := 48) (g := 1) (n := ([] : List GCell).length) (xs := []) (ys := a1) ((congrArg (asL _) (by kernel_rfl : ρof _ (.tmp 6) = (.slz false a1.length (e_GCell.cells a1)))).trans rfl) rfl (by kernel_rfl) rfl (by kernel_rfl) rfl hz2) (zL 1 4 (zE (zkSeq ?_))))
  exact zrRet (zkNil (endQ (F := f24_Q) hS hQ (fRet (by kernel_rfl) ((congrArg (fun s => outR s 0 c24.res) (by kernel_rfl : finSt c24.fin _ = f24_fin z2)).trans (f24_out z2)))))
 ·have hS : (some []) = some r := by
   have hl := List.eq_nil_of_length_eq_zero h0
   subst hl
   simpa [f24, app?] using hS
  show ZR _ Q c24_b [] _
  refine zrSeq (zrReg (zL 1 1 (zE (zkSeq (zrSeq (zrSeq (zrReg (zL 2 2 (zE (zkSeq (zT (zrSeq (zrReg (zL 1 1 (zE (zkSeq ?_))))))))))))))))
  exact zrRet (zkSeqR (zkNil (endQ (F := f24_Q) hS hQ (fRet (by kernel_rfl) ((congrArg (fun s => outR s 0 c24.res) (by kernel_rfl : finSt c24.fin _ = f24_fin [])).trans (f24_out []))))))
/- farwriter/grid.Row -/
def f11_fin (p1 : List GCell) : St := ⟨(up u0 4 (.r (.msl 72 0 0 p1.length))), (up h0 72 ⟨0, some (.own 49 4 (e_GCell.cells p1))⟩)⟩
theorem f11_out (p1 : List GCell) : outR (f11_fin p1) 0 c11.res = some ((.r (.own 0 49 4 p1.length (e_GCell.cells p1))), []) := by
 exact out_of (ids := []) (ids' := [72]) (l := [(.r (.msl 72 0 0 p1.length))]) (by kernel_rfl) (by kernel_rfl) (o_own e_GCell (e := 49) (k := 4) (xs := p1) (by kernel_rfl) rfl rfl rfl rfl)
def f11_Q (r : (List GCell)) (e : PX) (st : St) : Prop := DoneF c11 0 ((.r (.own 0 49 4 r.length (e_GCell.cells r))), []) e st
def f11 (a1 : GGrid) (a2 : Int) : Option ((List GCell)) := ((f25 a1 a2).bind fun z3 => ((f24 z3).bind fun z4 => (some z4)))
theorem f11_ok (d : Nat) (hd : 2 ≤ d) (a1 : GGrid) (a2 : Int) (r : (List GCell)) (hS : f11 a1 a2 = some r) : lev codes baseL d 11 [(.agg ((dI a1.Wide) :: ((dI a1.High) :: ((dE e_GCell a1.Cells) :: [])))), (dI a2)] [] = some ((.r (.own 0 49 4 r.length (e_GCell.cells r))), []) := by
 refine lev_go codes11 rfl rfl (Nat.le_trans (Nat.le_of_ble_eq_true rfl) hd) fun Q hQ => ?_
 unfold f11 at hS
 show ZR _ Q c11_b [] _
 replace hQ : FQ (f11_Q r) Q := hQ
 refine zrSeq (zrReg (zL 2 2 (zE (zkSeq (zrSeq (zrReg (zL 2 2 ?_)))))))
 refine bindE hS (fun z3 hz3 hS => zO (some 7) 3 (.callr 25 [(tm 5), (tm 6)]) (ev_cX [] [] (f25_ok (d - 1) (dpt hd rfl) a1 a2 z3 hz3) sm_nil) (bindE hS (fun z4 hz4 hS => zO (some 8) 4 (c1 24 7) (ev_cA (f24_ok (d - 1) (dpt hd rfl) z3 z4 hz4)) (zL 1 5 (zE (zkSeq ?_))))))
 exact zrRet (zkNil (endQ hS hQ (fR (f11_out z4))))
/- farwriter/parse.plain -/
def f40_fin (p19 : Bool) : St := ⟨(up u0 2 (dB p19)), h0⟩
theorem f40_out (p19 : Bool) : outR (f40_fin p19) 0 c40.res = some ((dB p19), []) := by
 kernel_rfl
def f40_Q (r : Bool) (e : PX) (st : St) : Prop := DoneF c40 0 ((dB r), []) e st
def f40_j0_J (a1 : GAct) (p37 : Bool) (p38 : Bool) (p39 : Bool) : St := ⟨(up (up (up (up u0 5 (dB p39)) 4 (dB p38)) 3 (dB p37)) 1 (pt 16)), (up h0 16 ⟨0, some (.box (bx_GAct a1 (dL a1.Args)))⟩)⟩
def f40_j0 (a1 : GAct) (p37 : Bool) (p38 : Bool) (p39 : Bool) : Option (Bool) := (bif p37 then (bif p37 then (bif p39 then (bif (!p39) then (some true) else none) else (bif (decide (a1.Text = ([] : List UInt8))) then (bif (!p39) then (some true) else none) else (some false))) else none) else none)
theorem f40_j0_ok {d : Nat} (hd : 1 ≤ d) (a1 : GAct) {r : Bool} {Q : PQ} (hQ : FQ (f40_Q r) Q) (p37 : Bool) (p38 : Bool) (p39 : Bool) (hS : f40_j0 a1 p37 p38 p39 = some r) {st : St} (he : keepSt [1, 3, 4, 5] [(16, .id 16)] [] st = f40_j0_J a1 p37 p38 p39) : ZR (lev codes baseL (d - 1)) Q c40_1 [] st := by
 refine zrKeep he ?_
 unfold f40_j0 at hS
 refine zrSeq (zrReg (zL 2 2 ?_))
 refine sL 16 hS (fun hS => ?_) (fun hS => ?_)
 ·refine zL 13 15 (sL 29 hS (fun hS => ?_) (fun hS => ?_))
  ·refine zL 11 26 (sL 40 hS (fun hS => ?_) (fun hS => ?_))
   ·refine zL 9 35 (sL 49 hS (fun hS => ?_) (fun hS => ?_))
    ·refine zL 6 41 (zE (zkSeq ?_))
     exact zrRet (zkNil (endQ hS hQ (fR (f40_out true))))
    ·refine zL 1 36 ?_
     cases hS
   ·refine zL 2 28 (sH 43 29 40 false (.strO .eql (tm 42) (.const (.string ⟨#[]⟩))) hS (fun hS => ?_) (fun hS => ?_))
    ·refine zL 6 35 (sL 49 hS (fun hS => ?_) (fun hS => ?_))
     ·refine zL 6 41 (zE (zkSeq ?_))
      exact zrRet (zkNil (endQ hS hQ (fR (f40_out true))))
     ·refine zL 1 36 ?_
      cases hS
    ·refine zL 12 41 (zE (zkSeq ?_))
     exact zrRet (zkNil (endQ hS hQ (fR (f40_out false))))
  ·cases hS
 ·refine zL 1 3 ?_
  cases hS
def f40 (a1 : GAct) : Option (Bool) := (bif (decide (a1.Kind = 4)) then (bif (decide (a1.Kind = 3)) then (bif (decide (a1.Kind = 5)) then (f40_j0 a1 true true true) else (f40_j0 a1 true true false)) else (bif (decide (a1.Kind = 5)) then (f40_j0 a1 true false true) else (f40_j0 a1 true false false))) else (bif (decide (a1.Kind = 3)) then (bif (decide (a1.Kind = 5)) then (f40_j0 a1 false true true) else (f40_j0 a1 false true false)) else (bif (decide (a1.Kind = 5)) then (f40_j0 a1 false false true) else (f40_j0 a1 false false false))))
theorem f40_ok (d : Nat) (hd : 1 ≤ d) (a1 : GAct) (r : Bool) (hS : f40 a1 = some r) : lev codes baseL d 40 [(.agg ((dI a1.Kind) :: ((dI a1.Code) :: ((dI a1.Mark) :: ((.d (.str a1.Inter)) :: ((dL a1.Args) :: ((.d (.str a1.Text)) :: [])))))))] [] = some ((dB r), []) := by
 refine lev_go codes40 rfl rfl (Nat.le_trans (Nat.le_of_ble_eq_true rfl) hd) fun Q hQ => ?_
 unfold f40 at hS
 show ZR _ Q c40_b [] _
 replace hQ : FQ (f40_Q r) Q := hQ
 refine zrSeq (zrReg (zL 2 2 (zE (zkSeq (zrSeq ?_)))))
 refine zrRegD (zdR 2 2 (sDB 8 3 none (ck 7 4) hS (fun hS => ?_) (fun hS => ?_)))
 ·refine zdR 2 5 (sDB 11 6 none (ck 10 3) hS (fun hS => ?_) (fun hS => ?_))
  ·refine zdR 2 8 (sDB 14 9 none (ck 13 5) hS (fun hS => ?_) (fun hS => ?_))
   ·exact zdR 3 12 (zdE (zkSeq (f40_j0_ok hd a1 hQ true true true hS (by kernel_rfl))))
   ·exact zdR 3 12 (zdE (zkSeq (f40_j0_ok hd a1 hQ true true false hS (by kernel_rfl))))
  ·refine zdR 2 8 (sDB 14 9 none (ck 13 5) hS (fun hS => ?_) (fun hS => ?_))
   ·exact zdR 3 12 (zdE (zkSeq (f40_j0_ok hd a1 hQ true false true hS (by kernel_rfl))))
   ·exact zdR 3 12 (zdE (zkSeq (f40_j0_ok hd a1 hQ true false false hS (by kernel_rfl))))
 ·refine zdR 2 5 (sDB 11 6 none (ck 10 3) hS (fun hS => ?_) (fun hS => ?_))
  ·refine zdR 2 8 (sDB 14 9 none (ck 13 5) hS (fun hS => ?_) (fun hS => ?_))
   ·exact zdR 3 12 (zdE (zkSeq (f40_j0_ok hd a1 hQ false true true hS (by kernel_rfl))))
   ·exact zdR 3 12 (zdE (zkSeq (f40_j0_ok hd a1 hQ false true false hS (by kernel_rfl))))
  ·refine zdR 2 8 (sDB 14 9 none (ck 13 5) hS (fun hS => ?_) (fun hS => ?_))
   ·exact zdR 3 12 (zdE (zkSeq (f40_j0_ok hd a1 hQ false false true hS (by kernel_rfl))))
   ·exact zdR 3 12 (zdE (zkSeq (f40_j0_ok hd a1 hQ false false false hS (by kernel_rfl))))
/- farwriter/args.Write$1 -/
def f70_fin (p2 : Bool) : St := ⟨(up u0 2 (dB p2)), h0⟩
theorem f70_out (p2 : Bool) : outR (f70_fin p2) 0 c70.res = some ((dB p2), []) := by
 kernel_rfl
def f70_Q (r : Bool) (e : PX) (st : St) : Prop := DoneF c70 0 ((dB r), []) e st
def f70 (a1 : Int) : Option (Bool) := (bif (decide (a1 < (-1))) then (some true) else (bif (decide (16383 < a1)) then (some true) else (some false)))
theorem f70_ok (d : Nat) (hd : 1 ≤ d) (a1 : Int) (r : Bool) (hS : f70 a1 = some r) : lev codes baseL d 70 [(dI a1)] [] = some ((dB r), []) := by
 refine lev_go codes70 rfl rfl (Nat.le_trans (Nat.le_of_ble_eq_true rfl) hd) fun Q hQ => ?_
 unfold f70 at hS
 show ZR _ Q c70_b [] _
 replace hQ : FQ (f70_Q r) Q := hQ
 refine zrSeq (zrReg (zL 1 1 (zE (zkSeq (zrSeq (zrReg (zL 1 1 ?_)))))))
 refine sB 4 2 (.cmpI .lss (tm 3) (ki (-1))) hS (fun hS => ?_) (fun hS => ?_)
 ·refine zL 5 7 (zE (zkSeq ?_))
  exact zrRet (zkNil (endQ hS hQ (fR (f70_out true))))
 ·refine zL 2 4 (sH 7 5 5 false (.cmpI .gtr (tm 6) (ki 16383)) hS (fun hS => ?_) (fun hS => ?_))
  ·refine zL 2 7 (zE (zkSeq ?_))
   exact zrRet (zkNil (endQ hS hQ (fR (f70_out true))))
  ·refine zL 2 7 (zE (zkSeq ?_))
   exact zrRet (zkNil (endQ hS hQ (fR (f70_out false))))
/- slices.IndexFunc[[]int,int] -/
def f82_fin (p8 : Int) : St := ⟨(up u0 4 (dI p8)), h0⟩
theorem f82_out (p8 : Int) : outR (f82_fin p8) 0 c82.res = some ((dI p8), []) := by
 kernel_rfl
def f82_Q (r : Int) (e : PX) (st : St) : Prop := DoneF c82 0 ((dI r), []) e st
def f82_l0_J (a1 : List Int) (x : Int) : St := ⟨(up (up (up (up u0 8 (dI x)) 7 (dI (a1.length : Int))) 1 (.fn 70 [])) 0 (dL a1)), h0⟩
def f82_l0_H (a1 : List Int) (x : Int) (st : St) : Prop := keepSt [0, 1, 7, 8] [] [] st = f82_l0_J a1 x
def f82_l0_e0_J (a1 : List Int) : St := ⟨u0, h0⟩
def f82_l0_X (a1 : List Int) (z : Unit ⊕ Int) (e : PX) (st : St) : Prop := (match z with | .inl z => e = .exit 0 ∧ st = f82_l0_e0_J a1 | .inr z => e = .ret ∧ finSt c82.fin st = f82_fin z)
def f82_l0_j2_J (a1 : List Int) (p13 : Int) : St := ⟨(up (up (up (up u0 8 (dI p13)) 7 (dI (a1.length : Int))) 1 (.fn 70 [])) 0 (dL a1)), h0⟩
def f82_l0_j2 (a1 : List Int) (p13 : Int) : Option (Int ⊕ (Unit ⊕ Int)) := ((idx a1 p13).bind fun z7 => ((f70 z7).bind fun z8 => (bif z8 then (some (.inr (.inr p13))) else (some (.inl (IntKind.i64.wrap (p13 + 1)))))))
theorem f82_l0_j2_ok {d : Nat} (hd : 2 ≤ d) (a1 : List Int) {r : Int ⊕ (Unit ⊕ Int)} {Q : PQ} (hQ : FQ (finL (f82_l0_H a1) (f82_l0_X a1) r) Q) (p13 : Int) (hS : f82_l0_j2 a1 p13 = some r) {st : St} (he : keepSt [0, 1, 7, 8] [] [] st = f82_l0_j2_J a1 p13) : ZR (lev codes baseL (d - 1)) Q c82_1 [] st := by
 refine zrKeep he ?_
 unfold f82_l0_j2 at hS
 refine zrSeq (zrBlk (zrSeq (zrReg (zL 2 2 (zE (zkSeq (zrSeq (zrReg (zL 3 3 ?_)))))))))
 refine bindE hS (fun z7 hz7 hS => zO (v := (.rptr (eI.enc z7 ++ (eI.cells (a1.drop ((p13 : Int).toNat + 1)))))) (ups := []) (some 14) 4 (.ixS 3 1 (tm 12) (tm 13)) (ev_ixS eI (kk := .i64) (xs := a1) (j := p13) (by kernel_rfl) (by kernel_rfl) hz7 rfl (by intro h; cases h)) (zL 1 5 (bindE hS (fun z8 hz8 hS => zO (v := (dB z8)) (ups := []) (some 16) 6 (.callv (tm 11) [(tm 15)]) (ev_callv (f := 70) (cs := []) (by kernel_rfl) (args := [(dI z7)]) (l := [(dI z7)]) (r := (dB z8)) (by kernel_rfl) (by kernel_rfl) (f70_ok (d - 1) (dpt hd rfl) z7 z8 hz8) (by kernel_rfl) (by kernel_rfl) (by kernel_rfl)) (zE (zkSeq ?_))))))
 refine sR 16 hS (fun hS => ?_) (fun hS => ?_)
 ·refine zT (zrSeq (zrReg (zL 2 2 (zE (zkSeq ?_)))))
  exact zrRet (zkBlkR (zkSeqR (zkNil (eX1 hS hQ))))
 ·refine zF (zrSkip (zkBlk (zkSeq (zrReg (zL 2 2 (zE ?_))))))
  exact zkNil (eN1 hS hQ)
def f82_l0_j1_J (a1 : List Int) (p11 : Int) (p12 : Bool) : St := ⟨(up (up (up (up (up u0 9 (dB p12)) 8 (dI p11)) 7 (dI (a1.length : Int))) 1 (.fn 70 [])) 0 (dL a1)), h0⟩
def f82_l0_j1 (a1 : List Int) (p11 : Int) (p12 : Bool) : Option (Int ⊕ (Unit ⊕ Int)) := (bif p12 then (f82_l0_j2 a1 p11) else (some (.inr (.inl ()))))
theorem f82_l0_j1_ok {d : Nat} (hd : 2 ≤ d) (a1 : List Int) {r : Int ⊕ (Unit ⊕ Int)} {Q : PQ} (hQ : FQ (finL (f82_l0_H a1) (f82_l0_X a1) r) Q) (p11 : Int) (p12 : Bool) (hS : f82_l0_j1 a1 p11 p12 = some r) {st : St} (he : keepSt [0, 1, 7, 8, 9] [] [] st = f82_l0_j1_J a1 p11 p12) : ZR (lev codes baseL (d - 1)) Q c82_2 [] st := by
 refine zrKeep he ?_
 unfold f82_l0_j1 at hS
 refine zrSeq (sR 9 hS (fun hS => ?_) (fun hS => ?_))
 ·exact zT (zrSkip (zkSeq (f82_l0_j2_ok hd a1 hQ p11 hS (by kernel_rfl))))
 ·exact zF (zrKeep (J := f82_l0_e0_J a1) (by kernel_rfl) (zrExit (zkSeqX (zkNil (eX0 hS hQ)))))
def f82_l0 (a1 : List Int) (x : Int) : Option (Int ⊕ (Unit ⊕ Int)) := (bif (decide (x < (a1.length : Int))) then (f82_l0_j1 a1 x true) else (f82_l0_j1 a1 x false))
theorem f82_l0_ok {d : Nat} (hd : 2 ≤ d) (a1 : List Int) {r : Int ⊕ (Unit ⊕ Int)} {Q : PQ} (hQ : FQ (finL (f82_l0_H a1) (f82_l0_X a1) r) Q) {x : Int} (hS : f82_l0 a1 x = some r) {st : St} (he : f82_l0_H a1 x st) : ZR (lev codes baseL (d - 1)) Q c82_3 [] st := by
 refine zrKeep he ?_
 unfold f82_l0 at hS
 refine zrSeq (zrReg ?_)
 refine sB 9 1 (.cmpI .lss (tm 8) (tm 7)) hS (fun hS => ?_) (fun hS => ?_)
 ·refine zE (zkSeq ?_)
  exact f82_l0_j1_ok hd a1 hQ x true hS (by kernel_rfl)
 ·refine zE (zkSeq ?_)
  exact f82_l0_j1_ok hd a1 hQ x false hS (by kernel_rfl)
def f82 (a1 : List Int) : Option (Int) := ((loopO (f82_l0 a1) 0).bind fun z9 => (Sum.elim (fun z10 => (some (-1))) (fun z11 => (some z11)) z9))
theorem f82_ok (d : Nat) (hd : 2 ≤ d) (a1 : List Int) (r : Int) (hS : f82 a1 = some r) : lev codes baseL d 82 [(dL a1), (.fn 70 [])] [] = some ((dI r), []) := by
 refine lev_go codes82 rfl rfl (Nat.le_trans (Nat.le_of_ble_eq_true rfl) hd) fun Q hQ => ?_
 unfold f82 at hS
 show ZR _ Q c82_b [] _
 replace hQ : FQ (f82_Q r) Q := hQ
 refine zrSeq (zrReg (zL 1 1 (zE (zkSeq (zrSeq (zrSeq (zrReg (zL 3 3 (zE (zkSeq ?_))))))))))
 refine zrBlk (bindE hS (fun z9 hz9 hS => zrLoop (f82_l0_H a1) (f82_l0_X a1) (fun x st r Q h0 hS hQ => f82_l0_ok hd a1 hQ hS h0) (x := 0) (z := z9) (by show keepSt _ _ _ _ = _; kernel_rfl) hz9 ?_))
 rcases z9 with z10 | z11
 ·replace hS := (show _ = _ from hS)
  simp only [Sum.elim_inl] at hS
  intro e st' _ hX
  obtain ⟨rfl, rfl⟩ : _ ∧ _ := hX
  refine zkBlkX (zkSeq (zrSeq (zrReg (zL 1 1 (zE (zkSeq ?_))))))
  exact zrRet (zkNil (endQ hS hQ (fR (f82_out (-1)))))
 ·simp only [Sum.elim_inr] at hS
  intro e st' _ hX
  obtain ⟨rfl, hX⟩ : _ ∧ _ := hX
  exact zkBlkR (zkSeqR (zkNil (endQ hS hQ (fRet (by kernel_rfl) ((congrArg (fun s => outR s 0 c82.res) hX).trans (f82_out z11))))))
/- slices.ContainsFunc[[]int,int] -/
def f59_fin (p2 : Bool) : St := ⟨(up u0 4 (dB p2)), h0⟩
theorem f59_out (p2 : Bool) : outR (f59_fin p2) 0 c59.res = some ((dB p2), []) := by
 kernel_rfl
def f59_Q (r : Bool) (e : PX) (st : St) : Prop := DoneF c59 0 ((dB r), []) e st
def f59 (a1 : List Int) : Option (Bool) := ((f82 a1).bind fun z2 => (bif (decide (0 ≤ z2)) then (some true) else (some false)))
theorem f59_ok (d : Nat) (hd : 3 ≤ d) (a1 : List Int) (r : Bool) (hS : f59 a1 = some r) : lev codes baseL d 59 [(dL a1), (.fn 70 [])] [] = some ((dB r), []) := by
 refine lev_go codes59 rfl rfl (Nat.le_trans (Nat.le_of_ble_eq_true rfl) hd) fun Q hQ => ?_
 unfold f59 at hS
 show ZR _ Q c59_b [] _
 replace hQ : FQ (f59_Q r) Q := hQ
 refine zrSeq (zrReg (zL 1 1 (zE (zkSeq (zrSeq (zrReg (zL 2 2 ?_)))))))
 refine bindE hS (fun z2 hz2 hS => zO (some 7) 3 (.call 82 [(tm 5), (tm 6)]) (ev_cA (f82_ok (d - 1) (dpt hd rfl) a1 z2 hz2)) (sB 8 4 (.cmpI .geq (tm 7) (ki 0)) hS (fun hS => ?_) (fun hS => ?_)))
 ·refine zL 1 5 (zE (zkSeq ?_))
  exact zrRet (zkNil (endQ hS hQ (fR (f59_out true))))
 ·refine zL 1 5 (zE (zkSeq ?_))
  exact zrRet (zkNil (endQ hS hQ (fR (f59_out false))))
/- strconv.Itoa -/
theorem libItoaL_ok (d : Nat) (hd : 0 ≤ d) (a1 : Int) (r : List UInt8) (hS : libItoaL a1 = some r) : lev codes baseL d 71 [(dI a1)] [] = some ((.d (.str r)), []) := lib_call (l := libs) rfl rfl rfl (oiS_ hS) d
/- strings.Join -/
theorem libJoin_ok (d : Nat) (hd : 0 ≤ d) (a1 : List (List UInt8)) (a2 : List UInt8) (r : List UInt8) (hS : libJoin a1 a2 = some r) : lev codes baseL d 72 [(dE eStr a1), (.d (.str a2))] [] = some ((.d (.str r)), []) := lib_call (l := libs) rfl rfl rfl (oSsS_ hS) d
end
end Go.Proofs.YtbokpgemkkebnaaGreatDoor.Pm
