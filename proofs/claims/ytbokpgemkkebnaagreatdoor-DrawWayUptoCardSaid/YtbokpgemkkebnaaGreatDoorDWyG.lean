/- Typed functions, and that the codes are these. Printed by dec.py. -/
import Derived.Test.YtbokpgemkkebnaaGreatDoorDWyF
namespace Go.Proofs.YtbokpgemkkebnaaGreatDoor.Pm
noncomputable section
set_option maxRecDepth 1000000
set_option maxHeartbeats 20000000
set_option linter.unusedVariables false
/- farwriter/screen.actions -/
def f34_fin (p15 : Int) : St := ⟨(up u0 2 (dI p15)), h0⟩
theorem f34_out (p15 : Int) : outR (f34_fin p15) 0 c34.res = some ((dI p15), []) := by
 kernel_rfl
def f34_Q (r : Int) (e : PX) (st : St) : Prop := DoneF c34 0 ((dI r), []) e st
def f34_l0_J (a1 : List GAct) (x : Int) : St := ⟨(up (up (up u0 7 (dI x)) 6 (dI (a1.length : Int))) 5 (dE e_GAct a1)), h0⟩
def f34_l0_H (a1 : List GAct) (x : Int) (st : St) : Prop := keepSt [5, 6, 7] [] [] st = f34_l0_J a1 x
def f34_l0_e0_J (a1 : List GAct) : St := ⟨u0, h0⟩
def f34_l0_X (a1 : List GAct) (z : Unit ⊕ Int) (e : PX) (st : St) : Prop := (match z with | .inl z => e = .exit 0 ∧ st = f34_l0_e0_J a1 | .inr z => e = .ret ∧ finSt c34.fin st = f34_fin z)
def f34_l0_j2_J (a1 : List GAct) (p20 : Int) : St := ⟨(up (up (up u0 7 (dI p20)) 6 (dI (a1.length : Int))) 5 (dE e_GAct a1)), h0⟩
def f34_l0_j2 (a1 : List GAct) (p20 : Int) : Option (Int ⊕ (Unit ⊕ Int)) := ((idx a1 p20).bind fun z7 => (bif (decide (32 < (z7.Args.length : Int))) then (some (.inr (.inr 1))) else (bif (decide (256 < (z7.Text.length : Int))) then (some (.inr (.inr 1))) else ((f59v1 z7.Args).bind fun z8 => (bif z8 then (some (.inr (.inr 1))) else (some (.inl (IntKind.i64.wrap (p20 + 1)))))))))
theorem f34_l0_j2_ok {d : Nat} (hd : 5 ≤ d) (a1 : List GAct) {r : Int ⊕ (Unit ⊕ Int)} {Q : PQ} (hQ : FQ (finL (f34_l0_H a1) (f34_l0_X a1) r) Q) (p20 : Int) (hS : f34_l0_j2 a1 p20 = some r) {st : St} (he : keepSt [5, 6, 7] [] [] st = f34_l0_j2_J a1 p20) : ZR (lev codes baseL (d - 1)) Q c34_1 [] st := by
 refine zrKeep he ?_
 unfold f34_l0_j2 at hS
 refine zrSeq (zrBlk (zrSeq (zrReg ?_)))
 refine bindE hS (fun z7 hz7 hS => zO (v := (.rptr (e_GAct.enc z7 ++ (e_GAct.cells (a1.drop ((p20 : Int).toNat + 1)))))) (ups := []) (some 9) 1 (.ixS 74 6 (tm 5) (tm 7)) (ev_ixS e_GAct (kk := .i64) (xs := a1) (j := p20) (by kernel_rfl) (by kernel_rfl) hz7 rfl (by intro h; cases h)) (zL 3 4 (zE (zkSeq (zrSeq (zrReg (zL 3 3 ?_)))))))
 refine sB 14 4 (.cmpI .gtr (tm 13) (ki 32)) hS (fun hS => ?_) (fun hS => ?_)
 ·refine zL 11 15 (zE (zkSeq (zT (zrSeq (zrReg (zL 1 1 (zE (zkSeq ?_))))))))
  exact zrRet (zkBlkR (zkSeqR (zkNil (eX1 hS hQ))))
 ·refine zL 4 8 (sH 19 9 15 false (.cmpI .gtr (tm 18) (ki 256)) hS (fun hS => ?_) (fun hS => ?_))
  ·refine zL 6 15 (zE (zkSeq (zT (zrSeq (zrReg (zL 1 1 (zE (zkSeq ?_))))))))
   exact zrRet (zkBlkR (zkSeqR (zkNil (eX1 hS hQ))))
  ·refine zL 4 13 (bindE hS (fun z8 hz8 hS => zG (some 24) 14 21 false (.call 59 [(tm 23), (.func 60)]) (ev_cA (f59v1_ok (d - 1) (dpt hd rfl) z7.Args z8 hz8)) (zL 1 15 (zE (zkSeq ?_)))))
   refine sR 25 hS (fun hS => ?_) (fun hS => ?_)
   ·refine zT (zrSeq (zrReg (zL 1 1 (zE (zkSeq ?_)))))
    exact zrRet (zkBlkR (zkSeqR (zkNil (eX1 hS hQ))))
   ·refine zF (zrSkip (zkBlk (zkSeq (zrReg (zL 2 2 (zE ?_))))))
    exact zkNil (eN1 hS hQ)
def f34_l0_j1_J (a1 : List GAct) (p18 : Int) (p19 : Bool) : St := ⟨(up (up (up (up u0 8 (dB p19)) 7 (dI p18)) 6 (dI (a1.length : Int))) 5 (dE e_GAct a1)), h0⟩
def f34_l0_j1 (a1 : List GAct) (p18 : Int) (p19 : Bool) : Option (Int ⊕ (Unit ⊕ Int)) := (bif p19 then (f34_l0_j2 a1 p18) else (some (.inr (.inl ()))))
theorem f34_l0_j1_ok {d : Nat} (hd : 5 ≤ d) (a1 : List GAct) {r : Int ⊕ (Unit ⊕ Int)} {Q : PQ} (hQ : FQ (finL (f34_l0_H a1) (f34_l0_X a1) r) Q) (p18 : Int) (p19 : Bool) (hS : f34_l0_j1 a1 p18 p19 = some r) {st : St} (he : keepSt [5, 6, 7, 8] [] [] st = f34_l0_j1_J a1 p18 p19) : ZR (lev codes baseL (d - 1)) Q c34_2 [] st := by
 refine zrKeep he ?_
 unfold f34_l0_j1 at hS
 refine zrSeq (sR 8 hS (fun hS => ?_) (fun hS => ?_))
 ·exact zT (zrSkip (zkSeq (f34_l0_j2_ok hd a1 hQ p18 hS (by kernel_rfl))))
 ·exact zF (zrKeep (J := f34_l0_e0_J a1) (by kernel_rfl) (zrExit (zkSeqX (zkNil (eX0 hS hQ)))))
def f34_l0 (a1 : List GAct) (x : Int) : Option (Int ⊕ (Unit ⊕ Int)) := (bif (decide (x < (a1.length : Int))) then (f34_l0_j1 a1 x true) else (f34_l0_j1 a1 x false))
theorem f34_l0_ok {d : Nat} (hd : 5 ≤ d) (a1 : List GAct) {r : Int ⊕ (Unit ⊕ Int)} {Q : PQ} (hQ : FQ (finL (f34_l0_H a1) (f34_l0_X a1) r) Q) {x : Int} (hS : f34_l0 a1 x = some r) {st : St} (he : f34_l0_H a1 x st) : ZR (lev codes baseL (d - 1)) Q c34_3 [] st := by
 refine zrKeep he ?_
 unfold f34_l0 at hS
 refine zrSeq (zrReg ?_)
 refine sB 8 1 (.cmpI .lss (tm 7) (tm 6)) hS (fun hS => ?_) (fun hS => ?_)
 ·refine zE (zkSeq ?_)
  exact f34_l0_j1_ok hd a1 hQ x true hS (by kernel_rfl)
 ·refine zE (zkSeq ?_)
  exact f34_l0_j1_ok hd a1 hQ x false hS (by kernel_rfl)
def f34 (a1 : List GAct) : Option (Int) := ((loopO (f34_l0 a1) 0).bind fun z9 => (Sum.elim (fun z10 => (some 0)) (fun z11 => (some z11)) z9))
theorem f34_ok (d : Nat) (hd : 5 ≤ d) (a1 : List GAct) (r : Int) (hS : f34 a1 = some r) : lev codes baseL d 34 [(dE e_GAct a1)] [] = some ((dI r), []) := by
 refine lev_go codes34 rfl rfl (Nat.le_trans (Nat.le_of_ble_eq_true rfl) hd) fun Q hQ => ?_
 unfold f34 at hS
 show ZR _ Q c34_b [] _
 replace hQ : FQ (f34_Q r) Q := hQ
 refine zrSeq (zrReg (zL 1 1 (zE (zkSeq (zrSeq (zrSeq (zrReg (zL 3 3 (zE (zkSeq ?_))))))))))
 refine zrBlk (bindE hS (fun z9 hz9 hS => zrLoop (f34_l0_H a1) (f34_l0_X a1) (fun x st r Q h0 hS hQ => f34_l0_ok hd a1 hQ hS h0) (x := 0) (z := z9) (by show keepSt _ _ _ _ = _; kernel_rfl) hz9 ?_))
 rcases z9 with z10 | z11
 ·replace hS := (show _ = _ from hS)
  simp only [Sum.elim_inl] at hS
  intro e st' _ hX
  obtain ⟨rfl, rfl⟩ : _ ∧ _ := hX
  refine zkBlkX (zkSeq (zrSeq (zrReg (zL 1 1 (zE (zkSeq ?_))))))
  exact zrRet (zkNil (endQ hS hQ (fR (f34_out 0))))
 ·simp only [Sum.elim_inr] at hS
  intro e st' _ hX
  obtain ⟨rfl, hX⟩ : _ ∧ _ := hX
  exact zkBlkR (zkSeqR (zkNil (endQ hS hQ (fRet (by kernel_rfl) ((congrArg (fun s => outR s 0 c34.res) hX).trans (f34_out z11))))))
/- farwriter/page.of -/
def f120_fin (p8 : Int) : St := ⟨(up u0 4 (dI p8)), h0⟩
theorem f120_out (p8 : Int) : outR (f120_fin p8) 0 c120.res = some ((dI p8), []) := by
 kernel_rfl
def f120_Q (r : Int) (e : PX) (st : St) : Prop := DoneF c120 0 ((dI r), []) e st
def f120_j0_J (a1 : Int) (a2 : UInt8) : St := ⟨(up (up (up u0 5 (pt 48)) 1 (.d (.int .u8 (a2.toNat : Int)))) 0 (dI a1)), (up h0 48 ⟨0, some (.box ((eI.row 32 (fun i => ([160, 9670, 9618, 9225, 9228, 9229, 9226, 176, 177, 9252, 9227, 9496, 9488, 9484, 9492, 9532, 9146, 9147, 9472, 9148, 9149, 9500, 9508, 9524, 9516, 9474, 8804, 8805, 960, 8800, 163, 183] : List Int).getD i 0)) ++ []))⟩)⟩
def f120_j0 (a1 : Int) (a2 : UInt8) : Option (Int) := (bif (decide (a1 = 3)) then (bif (decide (95 ≤ (a2.toNat : Int))) then (bif (decide ((a2.toNat : Int) ≤ 126)) then ((inR ((a2 - (95 : UInt8)).toNat : Int) 32).bind fun m2 => (some (([160, 9670, 9618, 9225, 9228, 9229, 9226, 176, 177, 9252, 9227, 9496, 9488, 9484, 9492, 9532, 9146, 9147, 9472, 9148, 9149, 9500, 9508, 9524, 9516, 9474, 8804, 8805, 960, 8800, 163, 183] : List Int).getD m2 0))) else (some (a2.toNat : Int))) else (some (a2.toNat : Int))) else (some (a2.toNat : Int)))
theorem f120_j0_ok {d : Nat} (hd : 1 ≤ d) (a1 : Int) (a2 : UInt8) {r : Int} {Q : PQ} (hQ : FQ (f120_Q r) Q)  (hS : f120_j0 a1 a2 = some r) {st : St} (he : keepSt [0, 1, 5] [(48, .id 48)] [] st = f120_j0_J a1 a2) : ZR (lev codes baseL (d - 1)) Q c120_1 [.blk 0, .seq c120_2] st := by
 refine zrKeep he ?_
 unfold f120_j0 at hS
 refine zrSeq (zrReg (zL 1 1 ?_))
 refine sB 24 2 (ck 23 3) hS (fun hS => ?_) (fun hS => ?_)
 ·refine zL 2 4 (sH 27 5 25 true (.cmpI .geq (tm 26) (.const (.int .u8 95))) hS (fun hS => ?_) (fun hS => ?_))
  ·refine zL 3 8 (sH 31 9 29 true (.cmpI .leq (tm 30) (.const (.int .u8 126))) hS (fun hS => ?_) (fun hS => ?_))
   ·refine zL 2 11 (zE (zkSeq (zT (zrSeq (zrReg (zL 1 1 ?_))))))
    refine zO (v := (.d (.int .u8 ((a2 - (95 : UInt8)).toNat : Int)))) (ups := []) (some 34) 2 (.arI .sub (tm 33) (.const (.int .u8 95))) (ev_arI (kk := .u8) (a := (a2.toNat : Int)) (c := ((95 : UInt8).toNat : Int)) (by kernel_rfl) (by kernel_rfl) (ar_sub8 a2 (95 : UInt8))) (bindE hS (fun m2 hm2 hS => zO (v := (.r (.ptr 48 0 (0 + m2 * 1)))) (ups := []) (some 35) 3 (.ixA 32 1 (tm 5) (tm 34)) (ev_ixA (kk := .u8) (b := 48) (g := 0) (o := 0) (j := ((a2 - (95 : UInt8)).toNat : Int)) (by kernel_rfl) (by kernel_rfl) hm2) (zO (v := (dI (([160, 9670, 9618, 9225, 9228, 9229, 9226, 176, 177, 9252, 9227, 9496, 9488, 9484, 9492, 9532, 9146, 9147, 9472, 9148, 9149, 9500, 9508, 9524, 9516, 9474, 8804, 8805, 960, 8800, 163, 183] : List Int).getD m2 0))) (ups := []) (some 36) 4 (lf 1 35) (ev_loadA eI (b := 48) (g := 0) (o := 0 + m2 * 1) (f := (fun i => ([160, 9670, 9618, 9225, 9228, 9229, 9226, 176, 177, 9252, 9227, 9496, 9488, 9484, 9492, 9532, 9146, 9147, 9472, 9148, 9149, 9500, 9508, 9524, 9516, 9474, 8804, 8805, 960, 8800, 163, 183] : List Int).getD i 0)) (nn := 32) (m := m2) (fo := 0) (pre := []) (post := []) (by kernel_rfl) (by kernel_rfl) (by kernel_rfl) (inR_lt hm2) (by kernel_rfl) (by kernel_rfl) (by kernel_rfl)) (zL 1 5 (zE (zkSeq ?_))))))
    exact zrRet (zkBlkR (zkSeqR (zkNil (endQ hS hQ (fR (f120_out (([160, 9670, 9618, 9225, 9228, 9229, 9226, 176, 177, 9252, 9227, 9496, 9488, 9484, 9492, 9532, 9146, 9147, 9472, 9148, 9149, 9500, 9508, 9524, 9516, 9474, 8804, 8805, 960, 8800, 163, 183] : List Int).getD m2 0)))))))
   ·refine zL 2 11 (zE (zkSeq (zF ?_)))
    refine zrSkip (zkBlk (zkSeq (zrSeq (zrReg (zL 1 1 ?_)))))
    refine zO (v := (dI (a2.toNat : Int))) (ups := []) (some 38) 2 (.cvI .i64 (tm 37)) (ev_cv (kk := .u8) (a := (a2.toNat : Int)) (by kernel_rfl) (cv_i64 _)) (zL 1 3 (zE (zkSeq ?_)))
    exact zrRet (zkNil (endQ hS hQ (fR (f120_out (a2.toNat : Int)))))
  ·refine zL 6 11 (zE (zkSeq (zF ?_)))
   refine zrSkip (zkBlk (zkSeq (zrSeq (zrReg (zL 1 1 ?_)))))
   refine zO (v := (dI (a2.toNat : Int))) (ups := []) (some 38) 2 (.cvI .i64 (tm 37)) (ev_cv (kk := .u8) (a := (a2.toNat : Int)) (by kernel_rfl) (cv_i64 _)) (zL 1 3 (zE (zkSeq ?_)))
   exact zrRet (zkNil (endQ hS hQ (fR (f120_out (a2.toNat : Int)))))
 ·refine zL 9 11 (zE (zkSeq (zF ?_)))
  refine zrSkip (zkBlk (zkSeq (zrSeq (zrReg (zL 1 1 ?_)))))
  refine zO (v := (dI (a2.toNat : Int))) (ups := []) (some 38) 2 (.cvI .i64 (tm 37)) (ev_cv (kk := .u8) (a := (a2.toNat : Int)) (by kernel_rfl) (cv_i64 _)) (zL 1 3 (zE (zkSeq ?_)))
  exact zrRet (zkNil (endQ hS hQ (fR (f120_out (a2.toNat : Int)))))
def f120 (a1 : Int) (a2 : UInt8) : Option (Int) := (bif (decide (a1 = 2)) then (some (a2.toNat : Int)) else (bif (decide (127 < (a2.toNat : Int))) then (some 65533) else (bif (decide (a1 = 4)) then (bif (decide ((a2.toNat : Int) = 35)) then (some 163) else (f120_j0 a1 a2 )) else (f120_j0 a1 a2 ))))
theorem f120_ok (d : Nat) (hd : 1 ≤ d) (a1 : Int) (a2 : UInt8) (r : Int) (hS : f120 a1 a2 = some r) : lev codes baseL d 120 [(dI a1), (.d (.int .u8 (a2.toNat : Int)))] [] = some ((dI r), []) := by
 refine lev_go codes120 rfl rfl (Nat.le_trans (Nat.le_of_ble_eq_true rfl) hd) fun Q hQ => ?_
 unfold f120 at hS
 show ZR _ Q c120_b [] _
 replace hQ : FQ (f120_Q r) Q := hQ
 refine zrSeq (zrReg (zL 1 1 (zE (zkSeq (zrSeq (zrReg (zL 3 3 (zE (zkSeq (zrSeq ?_))))))))))
 refine zrBlk (zrSeq (zrReg (zL 1 1 ?_)))
 refine sB 9 2 (ck 8 2) hS (fun hS => ?_) (fun hS => ?_)
 ·refine zL 1 3 (zE (zkSeq (zT (zrSeq (zrReg (zL 1 1 ?_))))))
  refine zO (v := (dI (a2.toNat : Int))) (ups := []) (some 11) 2 (.cvI .i64 (tm 10)) (ev_cv (kk := .u8) (a := (a2.toNat : Int)) (by kernel_rfl) (cv_i64 _)) (zL 1 3 (zE (zkSeq ?_)))
  exact zrRet (zkBlkR (zkSeqR (zkNil (endQ hS hQ (fR (f120_out (a2.toNat : Int)))))))
 ·refine zL 1 3 (zE (zkSeq (zF (zrSeq (zrReg (zL 1 1 ?_))))))
  refine sB 14 2 (.cmpI .gtr (tm 13) (.const (.int .u8 127))) hS (fun hS => ?_) (fun hS => ?_)
  ·refine zL 1 3 (zE (zkSeq (zT (zrSeq (zrReg (zL 1 1 (zE (zkSeq ?_))))))))
   exact zrRet (zkBlkR (zkSeqR (zkNil (endQ hS hQ (fR (f120_out 65533))))))
  ·refine zL 1 3 (zE (zkSeq (zF (zrSeq (zrReg (zL 1 1 ?_))))))
   refine sB 17 2 (ck 16 4) hS (fun hS => ?_) (fun hS => ?_)
   ·refine zL 2 4 (sH 20 5 18 true (.cmpI .eql (tm 19) (.const (.int .u8 35))) hS (fun hS => ?_) (fun hS => ?_))
    ·refine zL 2 7 (zE (zkSeq (zT (zrSeq (zrReg (zL 1 1 (zE (zkSeq ?_))))))))
     exact zrRet (zkBlkR (zkSeqR (zkNil (endQ hS hQ (fR (f120_out 163))))))
    ·refine zL 2 7 (zE (zkSeq (zF ?_)))
     exact f120_j0_ok hd a1 a2 hQ  hS (by kernel_rfl)
   ·refine zL 5 7 (zE (zkSeq (zF ?_)))
    exact f120_j0_ok hd a1 a2 hQ  hS (by kernel_rfl)
/- farwriter/page.Rune -/
def f83_fin (p1 : Int) (p2 : Int) : St := ⟨(up (up u0 5 (dI p2)) 4 (dI p1)), h0⟩
theorem f83_out (p1 : Int) (p2 : Int) : outR (f83_fin p1 p2) 0 c83.res = some ((.tup [(dI p1), (dI p2)]), []) := by
 kernel_rfl
def f83_Q (r : Int × Int) (e : PX) (st : St) : Prop := DoneF c83 0 ((.tup [(dI r.1), (dI r.2)]), []) e st
def f83 (a1 : Int) (a2 : UInt8) : Option (Int × Int) := ((f22 a1).bind fun z3 => (bif (!z3) then (some (0, 6)) else ((f120 a1 a2).bind fun z4 => (some (z4, 0)))))
theorem f83_ok (d : Nat) (hd : 2 ≤ d) (a1 : Int) (a2 : UInt8) (r : Int × Int) (hS : f83 a1 a2 = some r) : lev codes baseL d 83 [(dI a1), (.d (.int .u8 (a2.toNat : Int)))] [] = some ((.tup [(dI r.1), (dI r.2)]), []) := by
 refine lev_go codes83 rfl rfl (Nat.le_trans (Nat.le_of_ble_eq_true rfl) hd) fun Q hQ => ?_
 unfold f83 at hS
 show ZR _ Q c83_b [] _
 replace hQ : FQ (f83_Q r) Q := hQ
 refine zrSeq (zrReg (zL 2 2 (zE (zkSeq (zrSeq (zrSeq (zrReg (zL 1 1 ?_))))))))
 refine bindE hS (fun z3 hz3 hS => zO (some 7) 2 (c1 22 6) (ev_cA (f22_ok (d - 1) (dpt hd rfl) a1 z3 hz3)) (zL 1 3 (zE (zkSeq ?_))))
 refine sR 8 hS (fun hS => ?_) (fun hS => ?_)
 ·refine zT (zrSeq (zrReg (zL 2 2 (zE (zkSeq ?_)))))
  exact zrRet (zkSeqR (zkNil (endQ hS hQ (fR (f83_out 0 6)))))
 ·refine zF (zrSkip (zkSeq (zrSeq (zrReg (zL 2 2 ?_)))))
  refine bindE hS (fun z4 hz4 hS => zO (some 11) 3 (.call 120 [(tm 9), (tm 10)]) (ev_cA (f120_ok (d - 1) (dpt hd rfl) a1 a2 z4 hz4)) (zL 2 5 (zE (zkSeq ?_))))
  exact zrRet (zkNil (endQ hS hQ (fR (f83_out z4 0))))
/- (*farwriter/screen.terminal).is -/
def f86_fin (p2 : Bool) : St := ⟨(up u0 4 (dB p2)), h0⟩
theorem f86_out (p2 : Bool) : outR (f86_fin p2) 0 c86.res = some ((dB p2), []) := by
 kernel_rfl
def f86_Q (r : Bool) (e : PX) (st : St) : Prop := DoneF c86 0 ((dB r), []) e st
def f86 (a1 : Gterminal) (a2 : List PD) (a3 : Int) : Option (Bool) := (bif (!decide ((bitI .and .i64 a1.Screen.Modes a3) = 0)) then (some true) else (some false))
theorem f86_ok (d : Nat) (hd : 1 ≤ d) (a1 : Gterminal) (a2 : List PD) (a3 : Int) (r : Bool) (hS : f86 a1 a2 a3 = some r) : lev codes baseL d 86 [(.rptr (e_UGterminal.enc a1 ++ a2)), (dI a3)] [] = some ((dB r), []) := by
 refine lev_go codes86 rfl rfl (Nat.le_trans (Nat.le_of_ble_eq_true rfl) hd) fun Q hQ => ?_
 unfold f86 at hS
 show ZR _ Q c86_b [] _
 replace hQ : FQ (f86_Q r) Q := hQ
 refine zrSeq (zrReg (zL 1 1 (zE (zkSeq (zrSeq (zrReg (zL 7 7 ?_)))))))
 refine sB 12 8 (.cmpI .neq (tm 11) (ki 0)) hS (fun hS => ?_) (fun hS => ?_)
 ·refine zL 1 9 (zE (zkSeq ?_))
  exact zrRet (zkNil (endQ hS hQ (fR (f86_out true))))
 ·refine zL 1 9 (zE (zkSeq ?_))
  exact zrRet (zkNil (endQ hS hQ (fR (f86_out false))))
/- farwriter/grid.row -/
def f25v1_fin (p1 : List GCell) (p2 : Nat) (p3 : Nat) : St := ⟨(up (up u0 2000000 .un) 4 (.r (.msl 0 0 p2 p3))), (up h0 0 ⟨0, some (.own 49 4 (e_GCell.cells p1))⟩)⟩
theorem f25v1_out (p1 : List GCell) (p2 : Nat) (p3 : Nat) : outR (f25v1_fin p1 p2 p3) 1 c25.res = some ((.r (.msl 0 0 p2 p3)), [(.own 49 4 (e_GCell.cells p1))]) := by
 kernel_rfl
def f25v1_Q (r : (List GCell) × Nat × Nat) (e : PX) (st : St) : Prop := DoneF c25 1 ((.r (.msl 0 0 r.2.1 r.2.2)), [(.own 49 4 (e_GCell.cells r.1)), .box []]) e st
def f25v1 (a1 : Int) (a2 : Int) (a3 : Int) (a4 : List GCell) : Option ((List GCell) × Nat × Nat) := ((chk (decide (0 ≤ (IntKind.i64.wrap (a3 * a1))) && decide ((IntKind.i64.wrap (a3 * a1)) ≤ (IntKind.i64.wrap ((IntKind.i64.wrap (a3 + 1)) * a1))) && decide ((IntKind.i64.wrap ((IntKind.i64.wrap (a3 + 1)) * a1)) ≤ (a4.length : Int)))).bind fun z2 => (some (a4, (((IntKind.i64.wrap (a3 * a1)) : Int).toNat), (((IntKind.i64.wrap ((IntKind.i64.wrap (a3 + 1)) * a1)) : Int).toNat - ((IntKind.i64.wrap (a3 * a1)) : Int).toNat))))
theorem f25v1_ok (d : Nat) (hd : 1 ≤ d) (a1 : Int) (a2 : Int) (a3 : Int) (a4 : List GCell) (r : (List GCell) × Nat × Nat) (hS : f25v1 a1 a2 a3 a4 = some r) : lev codes baseL d 25 [(.agg ((dI a1) :: ((dI a2) :: ((.r (.msl 0 0 0 a4.length)) :: [])))), (dI a3)] [(.own 49 4 (e_GCell.cells a4))] = some ((.r (.msl 0 0 r.2.1 r.2.2)), [(.own 49 4 (e_GCell.cells r.1)), .box []]) := by
 refine lev_go codes25 rfl rfl (Nat.le_trans (Nat.le_of_ble_eq_true rfl) hd) fun Q hQ => ?_
 unfold f25v1 at hS
 show ZR _ Q c25_b [] _
 replace hQ : FQ (f25v1_Q r) Q := hQ
 refine zrSeq (zrReg (zL 2 2 (zE (zkSeq (zrSeq (zrReg (zL 11 11 ?_)))))))
 refine bindE hS (fun z2 hz2 hS => zO (v := (.r (.msl 0 0 (((IntKind.i64.wrap (a3 * a1)) : Int).toNat) (((IntKind.i64.wrap ((IntKind.i64.wrap (a3 + 1)) * a1)) : Int).toNat - ((IntKind.i64.wrap (a3 * a1)) : Int).toNat)))) (ups := []) (some 16) 12 (.slS 49 4 (tm 6) (.some (tm 10)) (.some (tm 15))) (ev_slM (b := 0) (g := 0) (e := 49) (a := (IntKind.i64.wrap (a3 * a1))) (c := (IntKind.i64.wrap ((IntKind.i64.wrap (a3 + 1)) * a1))) (l := 0) (n := a4.length) (l' := (((IntKind.i64.wrap (a3 * a1)) : Int).toNat)) (n' := (((IntKind.i64.wrap ((IntKind.i64.wrap (a3 + 1)) * a1)) : Int).toNat - ((IntKind.i64.wrap (a3 * a1)) : Int).toNat)) (cs := e_GCell.cells a4) (by kernel_rfl) (by kernel_rfl) (bnd_s _ (kk := .i64) (j := (IntKind.i64.wrap (a3 * a1))) (by kernel_rfl)) (bnd_s _ (kk := .i64) (j := (IntKind.i64.wrap ((IntKind.i64.wrap (a3 + 1)) * a1))) (by kernel_rfl)) hz2 (by simp) rfl) (zL 1 13 (zE (zkSeq ?_))))
 exact zrRet (zkNil (endQ hS hQ (fRetX (by kernel_rfl) (by kernel_rfl : finSt c25.fin _ = f25v1_fin a4 (((IntKind.i64.wrap (a3 * a1)) : Int).toNat) (((IntKind.i64.wrap ((IntKind.i64.wrap (a3 + 1)) * a1)) : Int).toNat - ((IntKind.i64.wrap (a3 * a1)) : Int).toNat)) (by kernel_rfl) (f25v1_out a4 (((IntKind.i64.wrap (a3 * a1)) : Int).toNat) (((IntKind.i64.wrap ((IntKind.i64.wrap (a3 + 1)) * a1)) : Int).toNat - ((IntKind.i64.wrap (a3 * a1)) : Int).toNat)))))
/- farwriter/grid.Blank -/
def f75_fin (p1 : GCell) : St := ⟨(up u0 2 (pt 24)), (up h0 24 ⟨0, some (.box ((dI p1.Rune) :: ((dI p1.Pen.Flags) :: ((dI p1.Pen.Fore) :: ((dI p1.Pen.Back) :: [])))))⟩)⟩
theorem f75_out (p1 : GCell) : outR (f75_fin p1) 0 c75.res = some ((.agg ((dI p1.Rune) :: ((dI p1.Pen.Flags) :: ((dI p1.Pen.Fore) :: ((dI p1.Pen.Back) :: []))))), []) := by
 kernel_rfl
def f75_Q (r : GCell) (e : PX) (st : St) : Prop := DoneF c75 0 ((.agg ((dI r.Rune) :: ((dI r.Pen.Flags) :: ((dI r.Pen.Fore) :: ((dI r.Pen.Back) :: []))))), []) e st
def f75 (a1 : GPen) : Option (GCell) := (some (GCell.mk 32 a1))
theorem f75_ok (d : Nat) (hd : 1 ≤ d) (a1 : GPen) (r : GCell) (hS : f75 a1 = some r) : lev codes baseL d 75 [(.agg ((dI a1.Flags) :: ((dI a1.Fore) :: ((dI a1.Back) :: []))))] [] = some ((.agg ((dI r.Rune) :: ((dI r.Pen.Flags) :: ((dI r.Pen.Fore) :: ((dI r.Pen.Back) :: []))))), []) := by
 refine lev_go codes75 rfl rfl (Nat.le_trans (Nat.le_of_ble_eq_true rfl) hd) fun Q hQ => ?_
 unfold f75 at hS
 show ZR _ Q c75_b [] _
 replace hQ : FQ (f75_Q r) Q := hQ
 refine zrSeq (zrReg (zL 2 2 (zE (zkSeq (zrSeq (zrReg (zL 3 3 (zE (zkSeq ?_)))))))))
 exact zrRet (zkNil (endQ hS hQ (fR (f75_out (GCell.mk 32 a1)))))
/- farwriter/grid.repair -/
def f125_fin (p27 : List GCell) : St := ⟨(up u0 2000000 .un), (up h0 0 ⟨0, some (.own 49 4 (e_GCell.cells p27))⟩)⟩
theorem f125_out (p27 : List GCell) : outR (f125_fin p27) 1 c125.res = some ((.tup []), [(.own 49 4 (e_GCell.cells p27))]) := by
 kernel_rfl
def f125_Q (r : (List GCell)) (e : PX) (st : St) : Prop := DoneF c125 1 ((.tup []), [(.own 49 4 (e_GCell.cells r)), .box []]) e st
def f125_l0_J (a1 : Nat) (a2 : Nat) (a3 : List GCell) (x : (List GCell) × (List GCell) × Int) : St := ⟨(up (up (up (up u0 8 (dI x.2.2)) 7 (dI (a2 : Int))) 2 (.r (.msl 48 0 0 x.2.1.length))) 0 (.r (.msl 0 0 a1 a2))), (up (up h0 48 ⟨0, some (.own 49 4 (e_GCell.cells x.2.1))⟩) 0 ⟨0, some (.own 49 4 (e_GCell.cells x.1))⟩)⟩
def f125_l0_H (a1 : Nat) (a2 : Nat) (a3 : List GCell) (x : (List GCell) × (List GCell) × Int) (st : St) : Prop := keepSt [0, 2, 7, 8] [(0, .id 0), (48, .id 48)] [] st = f125_l0_J a1 a2 a3 x
def f125_l0_e0_J (a1 : Nat) (a2 : Nat) (a3 : List GCell) (p53 : List GCell) : St := ⟨u0, (up h0 0 ⟨0, some (.own 49 4 (e_GCell.cells p53))⟩)⟩
def f125_l0_X (a1 : Nat) (a2 : Nat) (a3 : List GCell) (z : ((List GCell))) (e : PX) (st : St) : Prop := e = .exit 0 ∧ st = f125_l0_e0_J a1 a2 a3 z
def f125_l0_j2_J (a1 : Nat) (a2 : Nat) (a3 : List GCell) (p62 : List GCell) (p63 : List GCell) (p64 : Int) : St := ⟨(up (up (up (up u0 8 (dI p64)) 7 (dI (a2 : Int))) 2 (.r (.msl 48 0 0 p63.length))) 0 (.r (.msl 0 0 a1 a2))), (up (up h0 48 ⟨0, some (.own 49 4 (e_GCell.cells p63))⟩) 0 ⟨0, some (.own 49 4 (e_GCell.cells p62))⟩)⟩
def f125_l0_j2 (a1 : Nat) (a2 : Nat) (a3 : List GCell) (p62 : List GCell) (p63 : List GCell) (p64 : Int) : Option (((List GCell) × (List GCell) × Int) ⊕ (((List GCell)))) := ((f38 p63 p64).bind fun z47 => (bif z47 then ((inR p64 p63.length).bind fun m48 => ((p63[m48]?).bind fun z49 => ((f75 z49.Pen).bind fun z50 => ((inR p64 a2).bind fun m51 => ((p62[(a1 + m51)]?).bind fun z52 => ((some (p62.set (a1 + m51) z50)).bind fun z53 => (some (.inl (z53, p63, (IntKind.i64.wrap (p64 + 1))))))))))) else (some (.inl (p62, p63, (IntKind.i64.wrap (p64 + 1)))))))
theorem f125_l0_j2_ok {d : Nat} (hd : 4 ≤ d) (a1 : Nat) (a2 : Nat) (a3 : List GCell) {r : ((List GCell) × (List GCell) × Int) ⊕ (((List GCell)))} {Q : PQ} (hQ : FQ (finL (f125_l0_H a1 a2 a3) (f125_l0_X a1 a2 a3) r) Q) (p62 : List GCell) (p63 : List GCell) (p64 : Int) (hS : f125_l0_j2 a1 a2 a3 p62 p63 p64 = some r) {st : St} (he : keepSt [0, 2, 7, 8] [(0, .id 0), (48, .id 48)] [] st = f125_l0_j2_J a1 a2 a3 p62 p63 p64) : ZR (lev codes baseL (d - 1)) Q c125_1 [] st := by
 refine zrKeep he ?_
 unfold f125_l0_j2 at hS
 refine zrSeq (zrBlk (zrSeq (zrReg (zL 2 2 (zE (zkSeq (zrSeq (zrReg (zL 2 2 ?_)))))))))
 refine bindE hS (fun z47 hz47 hS => zO (some 13) 3 (.call 38 [(tm 11), (tm 12)]) (ev_callB (args := [(.r (.msl 48 0 0 p63.length)), (dI p64)]) (by kernel_rfl) (l_cons (l_own e_GCell (e := 49) (k := 4) (xs := p63) (by kernel_rfl) rfl rfl) (lk l_nil)) (f38_ok (d - 1) (dpt hd rfl) p63 p64 z47 hz47) (by kernel_rfl) (by kernel_rfl)) (zE (zkSeq ?_)))
 refine sR 13 hS (fun hS => ?_) (fun hS => ?_)
 ·refine zT (zrReg (zL 4 4 ?_))
  refine bindE hS (fun m48 hm48 hS => zO (v := (.r (.ptr 48 0 ((0 + m48) * 4)))) (ups := []) (some 18) 5 (.ixS 49 4 (tm 16) (tm 17)) (ev_ixM (kk := .i64) (b := 48) (g := 0) (l := 0) (n := p63.length) (j := p64) (cs := e_GCell.cells p63) (by kernel_rfl) (by kernel_rfl) (by kernel_rfl) hm48) (zL 1 6 (bindE hS (fun z49 hz49 hS => zO (v := (.agg ((dI z49.Pen.Flags) :: ((dI z49.Pen.Fore) :: ((dI z49.Pen.Back) :: []))))) (ups := []) (some 20) 7 (lt 3 19) (ev_loadM e_GCell (b := 48) (g := 0) (o := (0 + m48) * 4 + 1) (e := 49) (k := 4) (m := m48) (fo := 1) (xs := p63) (by kernel_rfl) (by kernel_rfl) (by rw [Nat.zero_add]; rfl) hz49 (by kernel_rfl) (by kernel_rfl) (by kernel_rfl)) (bindE hS (fun z50 hz50 hS => zO (some 21) 8 (c1 75 20) (ev_cA (f75_ok (d - 1) (dpt hd rfl) z49.Pen z50 hz50)) (bindE hS (fun m51 hm51 hS => zO (v := (.r (.ptr 0 0 ((a1 + m51) * 4)))) (ups := []) (some 22) 9 (.ixS 49 4 (tm 14) (tm 15)) (ev_ixM (kk := .i64) (b := 0) (g := 0) (l := a1) (n := a2) (j := p64) (cs := e_GCell.cells p62) (by kernel_rfl) (by kernel_rfl) (by kernel_rfl) hm51) (bindE hS (fun z52 hz52 hS => bindE hS (fun z53 hz53 hS => zO (v := .un) (ups := [(0, ⟨0, some (.own 49 4 (e_GCell.cells (p62.set (a1 + m51) z50)))⟩)]) none 10 (.store 4 (tm 22) (tm 21)) (ev_storeM e_GCell (b := 0) (g := 0) (o := (a1 + m51) * 4) (e := 49) (k := 4) (m := (a1 + m51)) (fo := 0) (xs := p62) (z := z52) (z' := z50) (by kernel_rfl) (new := ((dI z50.Rune) :: ((dI z50.Pen.Flags) :: ((dI z50.Pen.Fore) :: ((dI z50.Pen.Back) :: []))))) (ds := [.int .i64 z50.Rune, .int .i64 z50.Pen.Flags, .int .i64 z50.Pen.Fore, .int .i64 z50.Pen.Back]) (by kernel_rfl) (by kernel_rfl) (by kernel_rfl) rfl hz52 (by kernel_rfl) (by kernel_rfl) (by kernel_rfl)) ?_)))))))))))
  have ez53 := Option.some.inj hz53
  have lz53 : p62.length = z53.length := by rw [← ez53, List.length_set]
  rw [ez53]
  try delta f125_l0_j2_J
  try delta bm_Gterminal
  try delta bm_GScreen
  try rw [lz53]
  refine zE (zkBlk (zkSeq (zrReg (zL 2 2 (zE ?_)))))
  exact zkNil (eN1 hS hQ)
 ·refine zF (zrSkip (zkBlk (zkSeq (zrReg (zL 2 2 (zE ?_))))))
  exact zkNil (eN1 hS hQ)
def f125_l0_j1_J (a1 : Nat) (a2 : Nat) (a3 : List GCell) (p58 : List GCell) (p59 : List GCell) (p60 : Int) (p61 : Bool) : St := ⟨(up (up (up (up (up u0 9 (dB p61)) 8 (dI p60)) 7 (dI (a2 : Int))) 2 (.r (.msl 48 0 0 p59.length))) 0 (.r (.msl 0 0 a1 a2))), (up (up h0 48 ⟨0, some (.own 49 4 (e_GCell.cells p59))⟩) 0 ⟨0, some (.own 49 4 (e_GCell.cells p58))⟩)⟩
def f125_l0_j1 (a1 : Nat) (a2 : Nat) (a3 : List GCell) (p58 : List GCell) (p59 : List GCell) (p60 : Int) (p61 : Bool) : Option (((List GCell) × (List GCell) × Int) ⊕ (((List GCell)))) := (bif p61 then (f125_l0_j2 a1 a2 a3 p58 p59 p60) else (some (.inr p58)))
theorem f125_l0_j1_ok {d : Nat} (hd : 4 ≤ d) (a1 : Nat) (a2 : Nat) (a3 : List GCell) {r : ((List GCell) × (List GCell) × Int) ⊕ (((List GCell)))} {Q : PQ} (hQ : FQ (finL (f125_l0_H a1 a2 a3) (f125_l0_X a1 a2 a3) r) Q) (p58 : List GCell) (p59 : List GCell) (p60 : Int) (p61 : Bool) (hS : f125_l0_j1 a1 a2 a3 p58 p59 p60 p61 = some r) {st : St} (he : keepSt [0, 2, 7, 8, 9] [(0, .id 0), (48, .id 48)] [] st = f125_l0_j1_J a1 a2 a3 p58 p59 p60 p61) : ZR (lev codes baseL (d - 1)) Q c125_2 [] st := by
 refine zrKeep he ?_
 unfold f125_l0_j1 at hS
 refine zrSeq (sR 9 hS (fun hS => ?_) (fun hS => ?_))
 ·exact zT (zrSkip (zkSeq (f125_l0_j2_ok hd a1 a2 a3 hQ p58 p59 p60 hS (by kernel_rfl))))
 ·exact zF (zrKeep (J := f125_l0_e0_J a1 a2 a3 p58) (by kernel_rfl) (zrExit (zkSeqX (zkNil (eX0 hS hQ)))))
def f125_l0 (a1 : Nat) (a2 : Nat) (a3 : List GCell) (x : (List GCell) × (List GCell) × Int) : Option (((List GCell) × (List GCell) × Int) ⊕ (((List GCell)))) := (bif (decide (x.2.2 < (a2 : Int))) then (f125_l0_j1 a1 a2 a3 x.1 x.2.1 x.2.2 true) else (f125_l0_j1 a1 a2 a3 x.1 x.2.1 x.2.2 false))
theorem f125_l0_ok {d : Nat} (hd : 4 ≤ d) (a1 : Nat) (a2 : Nat) (a3 : List GCell) {r : ((List GCell) × (List GCell) × Int) ⊕ (((List GCell)))} {Q : PQ} (hQ : FQ (finL (f125_l0_H a1 a2 a3) (f125_l0_X a1 a2 a3) r) Q) {x : (List GCell) × (List GCell) × Int} (hS : f125_l0 a1 a2 a3 x = some r) {st : St} (he : f125_l0_H a1 a2 a3 x st) : ZR (lev codes baseL (d - 1)) Q c125_3 [] st := by
 refine zrKeep he ?_
 unfold f125_l0 at hS
 refine zrSeq (zrReg ?_)
 refine sB 9 1 (.cmpI .lss (tm 8) (tm 7)) hS (fun hS => ?_) (fun hS => ?_)
 ·refine zE (zkSeq ?_)
  exact f125_l0_j1_ok hd a1 a2 a3 hQ x.1 x.2.1 x.2.2 true hS (by kernel_rfl)
 ·refine zE (zkSeq ?_)
  exact f125_l0_j1_ok hd a1 a2 a3 hQ x.1 x.2.1 x.2.2 false hS (by kernel_rfl)
def f125 (a1 : Nat) (a2 : Nat) (a3 : List GCell) : Option ((List GCell)) := ((part? a3 a1 a2).bind fun z24 => ((f24 z24).bind fun z25 => ((loopO (f125_l0 a1 a2 a3) (a3, z25, 0)).bind fun z54 => (some z54))))
theorem f125_ok (d : Nat) (hd : 4 ≤ d) (a1 : Nat) (a2 : Nat) (a3 : List GCell) (r : (List GCell)) (hS : f125 a1 a2 a3 = some r) : lev codes baseL d 125 [(.r (.msl 0 0 a1 a2))] [(.own 49 4 (e_GCell.cells a3))] = some ((.tup []), [(.own 49 4 (e_GCell.cells r)), .box []]) := by
 refine lev_go codes125 rfl rfl (Nat.le_trans (Nat.le_of_ble_eq_true rfl) hd) fun Q hQ => ?_
 unfold f125 at hS
 show ZR _ Q c125_b [] _
 replace hQ : FQ (f125_Q r) Q := hQ
 refine zrSeq (zrReg (zL 1 1 ?_))
 refine bindE hS (fun z24 hz24 hS => bindE hS (fun z25 hz25 hS => zO (some 5) 2 (c1 24 4) (ev_callB (args := [(.r (.msl 0 0 a1 a2))]) (by kernel_rfl) (l_cons (l_part e_GCell (e := 49) (k := 4) (xs := a3) (by kernel_rfl) rfl hz24) l_nil) (f24_ok (d - 1) (dpt hd rfl) z24 z25 hz25) (by simp only [free_own e_GCell (fun _ => rfl), free_tup, free_agg, free_nl, free_cs, free_int, free_bool, free_str, free_un, free_ni, free_s0, Bool.and_true, Bool.or_true, Bool.and_self]) (by kernel_rfl)) (zL 1 3 (zE (zkSeq (zrSeq (zrReg (zL 3 3 (zE (zkSeq ?_))))))))))
 refine zrBlk (bindE hS (fun z54 hz54 hS => zrLoop (f125_l0_H a1 a2 a3) (f125_l0_X a1 a2 a3) (fun x st r Q h0 hS hQ => f125_l0_ok hd a1 a2 a3 hQ hS h0) (x := (a3, z25, 0)) (z := z54) (by show keepSt _ _ _ _ = _; kernel_rfl) hz54 ?_))
 intro e st' _ hX
 obtain ⟨rfl, rfl⟩ : _ ∧ _ := hX
 exact zkBlkX (zkNil (endQ hS hQ (fNormX (by kernel_rfl) (by kernel_rfl : finSt c125.fin _ = f125_fin z54) (by kernel_rfl) (f125_out z54))))
/- farwriter/grid.PutIn -/
def f89_fin (p8 : List GCell) : St := ⟨(up u0 2000000 .un), (up h0 0 ⟨0, some (.own 49 4 (e_GCell.cells p8))⟩)⟩
theorem f89_out (p8 : List GCell) : outR (f89_fin p8) 1 c89.res = some ((.tup []), [(.own 49 4 (e_GCell.cells p8))]) := by
 kernel_rfl
def f89_Q (r : (List GCell)) (e : PX) (st : St) : Prop := DoneF c89 1 ((.tup []), [(.own 49 4 (e_GCell.cells r)), .box []]) e st
def f89 (a1 : Int) (a2 : Int) (a3 : Int) (a4 : Int) (a5 : Int) (a6 : GPen) (a7 : List GCell) : Option ((List GCell)) := ((f25v1 a1 a2 a3 a7).bind fun z12 => ((chk (decide (z12.1.length = a7.length))).bind fun z13 => ((inR a4 z12.2.2).bind fun m14 => ((z12.1[(z12.2.1 + m14)]?).bind fun z15 => ((some (z12.1.set (z12.2.1 + m14) (GCell.mk a5 a6))).bind fun z16 => ((f37 a5).bind fun z18 => (bif (decide (z18 = 2)) then ((inR (IntKind.i64.wrap (a4 + 1)) z12.2.2).bind fun m19 => ((z16[(z12.2.1 + m19)]?).bind fun z20 => ((some (z16.set (z12.2.1 + m19) (GCell.mk 0 a6))).bind fun z21 => ((f125 z12.2.1 z12.2.2 z21).bind fun z22 => ((chk (decide (z22.length = z21.length))).bind fun z23 => (some z22)))))) else ((f125 z12.2.1 z12.2.2 z16).bind fun z24 => ((chk (decide (z24.length = z16.length))).bind fun z25 => (some z24))))))))))
theorem f89_ok (d : Nat) (hd : 5 ≤ d) (a1 : Int) (a2 : Int) (a3 : Int) (a4 : Int) (a5 : Int) (a6 : GPen) (a7 : List GCell) (r : (List GCell)) (hS : f89 a1 a2 a3 a4 a5 a6 a7 = some r) : lev codes baseL d 89 [(.agg ((dI a1) :: ((dI a2) :: ((.r (.msl 0 0 0 a7.length)) :: [])))), (dI a3), (dI a4), (dI a5), (.agg ((dI a6.Flags) :: ((dI a6.Fore) :: ((dI a6.Back) :: []))))] [(.own 49 4 (e_GCell.cells a7))] = some ((.tup []), [(.own 49 4 (e_GCell.cells r)), .box []]) := by
 refine lev_go codes89 rfl rfl (Nat.le_trans (Nat.le_of_ble_eq_true rfl) hd) fun Q hQ => ?_
 unfold f89 at hS
 show ZR _ Q c89_b [] _
 replace hQ : FQ (f89_Q r) Q := hQ
 refine zrSeq (zrReg (zL 2 2 (zE (zkSeq (zrSeq (zrReg (zL 2 2 ?_)))))))
 refine bindE hS (fun z12 hz12 hS => bindE hS (fun z13 hz13 hS => zO (some 13) 3 (.callr 25 [(tm 11), (tm 12)]) (ev_cX [0] [(.own 49 4 (e_GCell.cells a7))] (f25v1_ok (d - 1) (dpt hd rfl) a1 a2 a3 a7 z12 hz12) (sm_own e_GCell (e1 := 49) (k1 := 4) (xs := a7) (ys := z12.1) (by kernel_rfl) hz13 sm_nil)) ?_))
 have lz13 : a7.length = z12.1.length := (of_decide_eq_true (chk_t hz13)).symm
 skip
 try delta bm_Gterminal
 try delta bm_GScreen
 try rw [lz13]
 refine zL 1 4 (zE (zkSeq (zrSeq (zrReg (zL 5 5 ?_)))))
 refine bindE hS (fun m14 hm14 hS => zO (v := (.r (.ptr 0 0 ((z12.2.1 + m14) * 4)))) (ups := []) (some 19) 6 (.ixS 49 4 (tm 14) (tm 15)) (ev_ixM (kk := .i64) (b := 0) (g := 0) (l := z12.2.1) (n := z12.2.2) (j := a4) (cs := e_GCell.cells z12.1) (by kernel_rfl) (by kernel_rfl) (by kernel_rfl) hm14) (bindE hS (fun z15 hz15 hS => bindE hS (fun z16 hz16 hS => zO (v := .un) (ups := [(0, ⟨0, some (.own 49 4 (e_GCell.cells (z12.1.set (z12.2.1 + m14) (GCell.mk a5 a6))))⟩)]) none 7 (.store 4 (tm 19) (tm 18)) (ev_storeM e_GCell (b := 0) (g := 0) (o := (z12.2.1 + m14) * 4) (e := 49) (k := 4) (m := (z12.2.1 + m14)) (fo := 0) (xs := z12.1) (z := z15) (z' := (GCell.mk a5 a6)) (by kernel_rfl) (new := ((dI a5) :: ((dI a6.Flags) :: ((dI a6.Fore) :: ((dI a6.Back) :: []))))) (ds := [.int .i64 a5, .int .i64 a6.Flags, .int .i64 a6.Fore, .int .i64 a6.Back]) (by kernel_rfl) (by kernel_rfl) (by kernel_rfl) rfl hz15 (by kernel_rfl) (by kernel_rfl) (by kernel_rfl)) ?_))))
 have ez16 := Option.some.inj hz16
 have lz16 : z12.1.length = z16.length := by rw [← ez16, List.length_set]
 rw [ez16]
 skip
 try delta bm_Gterminal
 try delta bm_GScreen
 try rw [lz16]
 refine zE (zkSeq (zrSeq (zrSeq (zrReg (zL 1 1 ?_)))))
 refine bindE hS (fun z18 hz18 hS => zO (some 21) 2 (c1 37 20) (ev_cA (f37_ok (d - 1) (dpt hd rfl) a5 z18 hz18)) (sB 22 3 (ck 21 2) hS (fun hS => ?_) (fun hS => ?_)))
 ·refine zE (zkSeq (zT (zrReg (zL 5 5 ?_))))
  refine bindE hS (fun m19 hm19 hS => zO (v := (.r (.ptr 0 0 ((z12.2.1 + m19) * 4)))) (ups := []) (some 28) 6 (.ixS 49 4 (tm 23) (tm 25)) (ev_ixM (kk := .i64) (b := 0) (g := 0) (l := z12.2.1) (n := z12.2.2) (j := (IntKind.i64.wrap (a4 + 1))) (cs := e_GCell.cells z16) (by kernel_rfl) (by kernel_rfl) (by kernel_rfl) hm19) (bindE hS (fun z20 hz20 hS => bindE hS (fun z21 hz21 hS => zO (v := .un) (ups := [(0, ⟨0, some (.own 49 4 (e_GCell.cells (z16.set (z12.2.1 + m19) (GCell.mk 0 a6))))⟩)]) none 7 (.store 4 (tm 28) (tm 27)) (ev_storeM e_GCell (b := 0) (g := 0) (o := (z12.2.1 + m19) * 4) (e := 49) (k := 4) (m := (z12.2.1 + m19)) (fo := 0) (xs := z16) (z := z20) (z' := (GCell.mk 0 a6)) (by kernel_rfl) (new := ((dI 0) :: ((dI a6.Flags) :: ((dI a6.Fore) :: ((dI a6.Back) :: []))))) (ds := [.int .i64 0, .int .i64 a6.Flags, .int .i64 a6.Fore, .int .i64 a6.Back]) (by kernel_rfl) (by kernel_rfl) (by kernel_rfl) rfl hz20 (by kernel_rfl) (by kernel_rfl) (by kernel_rfl)) ?_))))
  have ez21 := Option.some.inj hz21
  have lz21 : z16.length = z21.length := by rw [← ez21, List.length_set]
  rw [ez21]
  skip
  try delta bm_Gterminal
  try delta bm_GScreen
  try rw [lz21]
  refine zE (zkSeq (zrReg (zL 1 1 ?_)))
  refine bindE hS (fun z22 hz22 hS => bindE hS (fun z23 hz23 hS => zO (some 30) 2 (.callr 125 [(tm 29)]) (ev_cX [0] [(.own 49 4 (e_GCell.cells z21))] (f125_ok (d - 1) (dpt hd rfl) z12.2.1 z12.2.2 z21 z22 hz22) (sm_own e_GCell (e1 := 49) (k1 := 4) (xs := z21) (ys := z22) (by kernel_rfl) hz23 sm_nil)) ?_))
  have lz23 : z21.length = z22.length := (of_decide_eq_true (chk_t hz23)).symm
  skip
  try delta bm_Gterminal
  try delta bm_GScreen
  try rw [lz23]
  exact zE (zkNil (endQ hS hQ (fNormX (by kernel_rfl) (by kernel_rfl : finSt c89.fin _ = f89_fin z22) (by kernel_rfl) (f89_out z22))))
 ·refine zE (zkSeq (zF ?_))
  refine zrSkip (zkSeq (zrReg (zL 1 1 ?_)))
  refine bindE hS (fun z24 hz24 hS => bindE hS (fun z25 hz25 hS => zO (some 30) 2 (.callr 125 [(tm 29)]) (ev_cX [0] [(.own 49 4 (e_GCell.cells z16))] (f125_ok (d - 1) (dpt hd rfl) z12.2.1 z12.2.2 z16 z24 hz24) (sm_own e_GCell (e1 := 49) (k1 := 4) (xs := z16) (ys := z24) (by kernel_rfl) hz25 sm_nil)) ?_))
  have lz25 : z16.length = z24.length := (of_decide_eq_true (chk_t hz25)).symm
  skip
  try delta bm_Gterminal
  try delta bm_GScreen
  try rw [lz25]
  exact zE (zkNil (endQ hS hQ (fNormX (by kernel_rfl) (by kernel_rfl : finSt c89.fin _ = f89_fin z24) (by kernel_rfl) (f89_out z24))))
/- (*farwriter/screen.terminal).print -/
def f61_fin (p18 : Gterminal) : St := ⟨(up (up (up u0 1000003 .un) 1000002 .un) 1000001 .un), (up (up (up (up h0 3 ⟨1, some (go2_Gterminal p18)⟩) 2 ⟨1, some (go1_Gterminal p18)⟩) 1 ⟨1, some (go0_Gterminal p18)⟩) 0 ⟨0, some (.box (bm_Gterminal p18 1 1 2 1 3 1))⟩)⟩
theorem f61_out (p18 : Gterminal) : outR (f61_fin p18) 4 c61.res = some ((.tup []), (gb_Gterminal p18 1 2 3)) := by
 kernel_rfl
def f61_Q (r : Gterminal) (e : PX) (st : St) : Prop := DoneF c61 4 ((.tup []), (gb_Gterminal r 1 2 3)) e st
def f61_j4_J (a1 : Int) (a2 : Gterminal) (p41 : Int) (p42 : Int) : St := ⟨(up (up (up (up (up (up (up u0 1000003 .un) 1000002 .un) 1000001 .un) 5 (dI (IntKind.i64.wrap (a2.Screen.Grid.Wide - 1)))) 4 (dI p42)) 1 (dI p41)) 0 (pt 0)), (up (up (up (up h0 3 ⟨1, some (go2_Gterminal a2)⟩) 2 ⟨1, some (go1_Gterminal a2)⟩) 1 ⟨1, some (go0_Gterminal a2)⟩) 0 ⟨0, some (.box (bm_Gterminal a2 1 1 2 1 3 1))⟩)⟩
def f61_j4 (a1 : Int) (a2 : Gterminal) (p41 : Int) (p42 : Int) : Option (Gterminal) := ((f89 a2.Screen.Grid.Wide a2.Screen.Grid.High a2.Screen.Row a2.Screen.Col p41 a2.Screen.Pen a2.Screen.Grid.Cells).bind fun z14 => ((chk (decide (z14.length = a2.Screen.Grid.Cells.length))).bind fun z15 => (bif (decide ((IntKind.i64.wrap (a2.Screen.Grid.Wide - 1)) < (IntKind.i64.wrap (a2.Screen.Col + p42)))) then ((f86 (Gterminal.mk ({ a2.Screen with Grid := (GGrid.mk a2.Screen.Grid.Wide a2.Screen.Grid.High z14), Col := (IntKind.i64.wrap (a2.Screen.Col + p42)) }) a2.sent) [] 4).bind fun z16 => (some (Gterminal.mk ({ a2.Screen with Grid := (GGrid.mk a2.Screen.Grid.Wide a2.Screen.Grid.High z14), Col := (IntKind.i64.wrap (a2.Screen.Grid.Wide - 1)), Late := z16 }) a2.sent))) else (some (Gterminal.mk ({ a2.Screen with Grid := (GGrid.mk a2.Screen.Grid.Wide a2.Screen.Grid.High z14), Col := (IntKind.i64.wrap (a2.Screen.Col + p42)) }) a2.sent)))))
theorem f61_j4_ok {d : Nat} (hd : 6 ≤ d) (a1 : Int) (a2 : Gterminal) {r : Gterminal} {Q : PQ} (hQ : FQ (f61_Q r) Q) (p41 : Int) (p42 : Int) (hS : f61_j4 a1 a2 p41 p42 = some r) {st : St} (he : keepSt [0, 1, 4, 5, 1000001, 1000002, 1000003] [(0, .id 0), (1, .id 1), (2, .id 2), (3, .id 3)] [] st = f61_j4_J a1 a2 p41 p42) : ZR (lev codes baseL (d - 1)) Q c61_1 [] st := by
 refine zrKeep he ?_
 unfold f61_j4 at hS
 refine zrSeq (zrRegD (zdR 21 21 (bindE hS (fun z14 hz14 hS => bindE hS (fun z15 hz15 hS => zdO (some 125) 22 none (.callr 89 [(tm 108), (tm 113), (tm 118), (tm 119), (tm 124)]) (ev_cX [1] [(go0_Gterminal a2)] (f89_ok (d - 1) (dpt hd rfl) a2.Screen.Grid.Wide a2.Screen.Grid.High a2.Screen.Row a2.Screen.Col p41 a2.Screen.Pen a2.Screen.Grid.Cells z14 hz14) (sm_own e_GCell (e1 := 49) (k1 := 4) (xs := a2.Screen.Grid.Cells) (ys := z14) (by kernel_rfl) hz15 sm_nil)) ?_)))))
 have lz15 : a2.Screen.Grid.Cells.length = z14.length := (of_decide_eq_true (chk_t hz15)).symm
 try delta f61_j4_J
 try delta bm_Gterminal
 try delta bm_GScreen
 try rw [lz15]
 refine zdE (zkSeq (zrSeq (zrReg (zL 11 11 (zE (zkSeq (zrSeq (zrReg (zL 6 6 ?_)))))))))
 refine sB 142 7 (.cmpI .gtr (tm 140) (tm 141)) hS (fun hS => ?_) (fun hS => ?_)
 ·refine zE (zkSeq (zT (zrReg (zL 4 4 ?_))))
  refine bindE hS (fun z16 hz16 hS => zO (some 147) 5 (.call 86 [(tm 146), (ki 4)]) (ev_cA (f86_ok (d - 1) (dpt hd rfl) (Gterminal.mk ({ a2.Screen with Grid := (GGrid.mk a2.Screen.Grid.Wide a2.Screen.Grid.High z14), Col := (IntKind.i64.wrap (a2.Screen.Col + p42)) }) a2.sent) [] 4 z16 hz16)) (zL 8 13 (zE ?_)))
  exact zkNil (endQ hS hQ (fN (f61_out (Gterminal.mk ({ a2.Screen with Grid := (GGrid.mk a2.Screen.Grid.Wide a2.Screen.Grid.High z14), Col := (IntKind.i64.wrap (a2.Screen.Grid.Wide - 1)), Late := z16 }) a2.sent))))
 ·refine zE (zkSeq (zF ?_))
  exact zrSkip (zkNil (endQ hS hQ (fN (f61_out (Gterminal.mk ({ a2.Screen with Grid := (GGrid.mk a2.Screen.Grid.Wide a2.Screen.Grid.High z14), Col := (IntKind.i64.wrap (a2.Screen.Col + p42)) }) a2.sent)))))
def f61_j3_J (a1 : Int) (a2 : Gterminal) (p39 : Int) (p40 : Int) : St := ⟨(up (up (up (up (up (up (up u0 1000003 .un) 1000002 .un) 1000001 .un) 5 (dI (IntKind.i64.wrap (a2.Screen.Grid.Wide - 1)))) 4 (dI p40)) 1 (dI p39)) 0 (pt 0)), (up (up (up (up h0 3 ⟨1, some (go2_Gterminal a2)⟩) 2 ⟨1, some (go1_Gterminal a2)⟩) 1 ⟨1, some (go0_Gterminal a2)⟩) 0 ⟨0, some (.box (bm_Gterminal a2 1 1 2 1 3 1))⟩)⟩
def f61_j3 (a1 : Int) (a2 : Gterminal) (p39 : Int) (p40 : Int) : Option (Gterminal) := ((f86 a2 [] 1).bind fun z17 => (bif z17 then none else (f61_j4 a1 a2 p39 p40)))
theorem f61_j3_ok {d : Nat} (hd : 6 ≤ d) (a1 : Int) (a2 : Gterminal) {r : Gterminal} {Q : PQ} (hQ : FQ (f61_Q r) Q) (p39 : Int) (p40 : Int) (hS : f61_j3 a1 a2 p39 p40 = some r) {st : St} (he : keepSt [0, 1, 4, 5, 1000001, 1000002, 1000003] [(0, .id 0), (1, .id 1), (2, .id 2), (3, .id 3)] [] st = f61_j3_J a1 a2 p39 p40) : ZR (lev codes baseL (d - 1)) Q c61_2 [] st := by
 refine zrKeep he ?_
 unfold f61_j3 at hS
 refine zrSeq (zrSeq (zrReg (zL 1 1 ?_)))
 refine bindE hS (fun z17 hz17 hS => zO (some 78) 2 (.call 86 [(tm 77), (ki 1)]) (ev_cA (f86_ok (d - 1) (dpt hd rfl) a2 [] 1 z17 hz17)) (zE (zkSeq ?_)))
 refine sR 78 hS (fun hS => ?_) (fun hS => ?_)
 ·refine zT (zrRegD ?_)
  cases hS
 ·exact zF (zrSkip (zkSeq (f61_j4_ok hd a1 a2 hQ p39 p40 hS (by kernel_rfl))))
def f61_j5_J (a1 : Int) (a2 : Gterminal) (p45 : Int) (p46 : Int) : St := ⟨(up (up (up (up (up (up (up u0 1000003 .un) 1000002 .un) 1000001 .un) 5 (dI (IntKind.i64.wrap (a2.Screen.Grid.Wide - 1)))) 4 (dI p46)) 1 (dI p45)) 0 (pt 0)), (up (up (up (up h0 3 ⟨1, some (go2_Gterminal a2)⟩) 2 ⟨1, some (go1_Gterminal a2)⟩) 1 ⟨1, some (go0_Gterminal a2)⟩) 0 ⟨0, some (.box (bm_Gterminal a2 1 1 2 1 3 1))⟩)⟩
def f61_j5 (a1 : Int) (a2 : Gterminal) (p45 : Int) (p46 : Int) : Option (Gterminal) := (f61_j3 a1 a2 p45 p46)
theorem f61_j5_ok {d : Nat} (hd : 6 ≤ d) (a1 : Int) (a2 : Gterminal) {r : Gterminal} {Q : PQ} (hQ : FQ (f61_Q r) Q) (p45 : Int) (p46 : Int) (hS : f61_j5 a1 a2 p45 p46 = some r) {st : St} (he : keepSt [0, 1, 4, 5, 1000001, 1000002, 1000003] [(0, .id 0), (1, .id 1), (2, .id 2), (3, .id 3)] [] st = f61_j5_J a1 a2 p45 p46) : ZR (lev codes baseL (d - 1)) Q c61_3 [.seq c61_2] st := by
 refine zrKeep he ?_
 unfold f61_j5 at hS
 exact zrSkip (zkSeq (f61_j3_ok hd a1 a2 hQ p45 p46 hS (by kernel_rfl)))
def f61_j2_J (a1 : Int) (a2 : Gterminal) (p31 : Int) (p32 : Int) : St := ⟨(up (up (up (up (up (up (up u0 1000003 .un) 1000002 .un) 1000001 .un) 5 (dI (IntKind.i64.wrap (a2.Screen.Grid.Wide - 1)))) 4 (dI p32)) 1 (dI p31)) 0 (pt 0)), (up (up (up (up h0 3 ⟨1, some (go2_Gterminal a2)⟩) 2 ⟨1, some (go1_Gterminal a2)⟩) 1 ⟨1, some (go0_Gterminal a2)⟩) 0 ⟨0, some (.box (bm_Gterminal a2 1 1 2 1 3 1))⟩)⟩
def f61_j2 (a1 : Int) (a2 : Gterminal) (p31 : Int) (p32 : Int) : Option (Gterminal) := (bif (decide (p32 = 2)) then (bif (decide (a2.Screen.Col = (IntKind.i64.wrap (a2.Screen.Grid.Wide - 1)))) then none else (f61_j5 a1 a2 p31 p32)) else (f61_j5 a1 a2 p31 p32))
theorem f61_j2_ok {d : Nat} (hd : 6 ≤ d) (a1 : Int) (a2 : Gterminal) {r : Gterminal} {Q : PQ} (hQ : FQ (f61_Q r) Q) (p31 : Int) (p32 : Int) (hS : f61_j2 a1 a2 p31 p32 = some r) {st : St} (he : keepSt [0, 1, 4, 5, 1000001, 1000002, 1000003] [(0, .id 0), (1, .id 1), (2, .id 2), (3, .id 3)] [] st = f61_j2_J a1 a2 p31 p32) : ZR (lev codes baseL (d - 1)) Q c61_4 [] st := by
 refine zrKeep he ?_
 unfold f61_j2 at hS
 refine zrSeq (zrSeq (zrReg (zL 1 1 ?_)))
 refine sB 60 2 (ck 59 2) hS (fun hS => ?_) (fun hS => ?_)
 ·refine zL 7 9 (sH 68 10 61 true (.cmpI .eql (tm 66) (tm 67)) hS (fun hS => ?_) (fun hS => ?_))
  ·refine zL 1 11 (zE (zkSeq (zT (zrSeq (zrSeq (zrReg ?_))))))
   cases hS
  ·refine zL 1 11 (zE (zkSeq (zF ?_)))
   exact f61_j5_ok hd a1 a2 hQ p31 p32 hS (by kernel_rfl)
 ·refine zL 9 11 (zE (zkSeq (zF ?_)))
  exact f61_j5_ok hd a1 a2 hQ p31 p32 hS (by kernel_rfl)
def f61_j1_J (a1 : Int) (a2 : Gterminal) (p29 : Int) (p30 : Int) : St := ⟨(up (up (up (up (up (up (up u0 1000003 .un) 1000002 .un) 1000001 .un) 5 (dI (IntKind.i64.wrap (a2.Screen.Grid.Wide - 1)))) 4 (dI p30)) 1 (dI p29)) 0 (pt 0)), (up (up (up (up h0 3 ⟨1, some (go2_Gterminal a2)⟩) 2 ⟨1, some (go1_Gterminal a2)⟩) 1 ⟨1, some (go0_Gterminal a2)⟩) 0 ⟨0, some (.box (bm_Gterminal a2 1 1 2 1 3 1))⟩)⟩
def f61_j1 (a1 : Int) (a2 : Gterminal) (p29 : Int) (p30 : Int) : Option (Gterminal) := (bif a2.Screen.Late then none else (f61_j2 a1 a2 p29 p30))
theorem f61_j1_ok {d : Nat} (hd : 6 ≤ d) (a1 : Int) (a2 : Gterminal) {r : Gterminal} {Q : PQ} (hQ : FQ (f61_Q r) Q) (p29 : Int) (p30 : Int) (hS : f61_j1 a1 a2 p29 p30 = some r) {st : St} (he : keepSt [0, 1, 4, 5, 1000001, 1000002, 1000003] [(0, .id 0), (1, .id 1), (2, .id 2), (3, .id 3)] [] st = f61_j1_J a1 a2 p29 p30) : ZR (lev codes baseL (d - 1)) Q c61_5 [] st := by
 refine zrKeep he ?_
 unfold f61_j1 at hS
 refine zrSeq (zrSeq (zrReg (zL 5 5 (zE (zkSeq ?_)))))
 refine sR 54 hS (fun hS => ?_) (fun hS => ?_)
 ·refine zT (zrSeq (zrReg ?_))
  cases hS
 ·exact zF (zrSkip (zkSeq (f61_j2_ok hd a1 a2 hQ p29 p30 hS (by kernel_rfl))))
def f61_j0_J (a1 : Int) (a2 : Gterminal) (p23 : Int) : St := ⟨(up (up (up (up (up u0 1000003 .un) 1000002 .un) 1000001 .un) 1 (dI p23)) 0 (pt 0)), (up (up (up (up h0 3 ⟨1, some (go2_Gterminal a2)⟩) 2 ⟨1, some (go1_Gterminal a2)⟩) 1 ⟨1, some (go0_Gterminal a2)⟩) 0 ⟨0, some (.box (bm_Gterminal a2 1 1 2 1 3 1))⟩)⟩
def f61_j0 (a1 : Int) (a2 : Gterminal) (p23 : Int) : Option (Gterminal) := ((f37 p23).bind fun z12 => (bif (decide (z12 = 0)) then (some a2) else (bif (decide (a2.Screen.Grid.Wide < z12)) then (some a2) else (f61_j1 a1 a2 p23 z12))))
theorem f61_j0_ok {d : Nat} (hd : 6 ≤ d) (a1 : Int) (a2 : Gterminal) {r : Gterminal} {Q : PQ} (hQ : FQ (f61_Q r) Q) (p23 : Int) (hS : f61_j0 a1 a2 p23 = some r) {st : St} (he : keepSt [0, 1, 1000001, 1000002, 1000003] [(0, .id 0), (1, .id 1), (2, .id 2), (3, .id 3)] [] st = f61_j0_J a1 a2 p23) : ZR (lev codes baseL (d - 1)) Q c61_6 [] st := by
 refine zrKeep he ?_
 unfold f61_j0 at hS
 refine zrSeq (zrRegD (zdR 1 1 (bindE hS (fun z12 hz12 hS => zdO (some 30) 2 none (c1 37 29) (ev_cA (f37_ok (d - 1) (dpt hd rfl) p23 z12 hz12)) (zdR 9 11 (zdE (zkSeq (zrSeq (zrSeq (zrReg (zL 1 1 ?_)))))))))))
 refine sB 39 2 (ck 38 0) hS (fun hS => ?_) (fun hS => ?_)
 ·refine zL 10 12 (zE (zkSeq (zT ?_)))
  exact zrRet (zkSeqR (zkNil (endQ hS hQ (fR (f61_out a2)))))
 ·refine zL 8 10 (sH 48 11 40 false (.cmpI .gtr (tm 41) (tm 47)) hS (fun hS => ?_) (fun hS => ?_))
  ·refine zL 1 12 (zE (zkSeq (zT ?_)))
   exact zrRet (zkSeqR (zkNil (endQ hS hQ (fR (f61_out a2)))))
  ·refine zL 1 12 (zE (zkSeq (zF ?_)))
   exact zrSkip (zkSeq (f61_j1_ok hd a1 a2 hQ p23 z12 hS (by kernel_rfl)))
def f61_j6_J (a1 : Int) (a2 : Gterminal) : St := ⟨(up (up (up (up (up u0 1000003 .un) 1000002 .un) 1000001 .un) 1 (dI a1)) 0 (pt 0)), (up (up (up (up h0 3 ⟨1, some (go2_Gterminal a2)⟩) 2 ⟨1, some (go1_Gterminal a2)⟩) 1 ⟨1, some (go0_Gterminal a2)⟩) 0 ⟨0, some (.box (bm_Gterminal a2 1 1 2 1 3 1))⟩)⟩
def f61_j6 (a1 : Int) (a2 : Gterminal) : Option (Gterminal) := (f61_j0 a1 a2 a1)
theorem f61_j6_ok {d : Nat} (hd : 6 ≤ d) (a1 : Int) (a2 : Gterminal) {r : Gterminal} {Q : PQ} (hQ : FQ (f61_Q r) Q)  (hS : f61_j6 a1 a2 = some r) {st : St} (he : keepSt [0, 1, 1000001, 1000002, 1000003] [(0, .id 0), (1, .id 1), (2, .id 2), (3, .id 3)] [] st = f61_j6_J a1 a2) : ZR (lev codes baseL (d - 1)) Q c61_7 [.seq c61_6] st := by
 refine zrKeep he ?_
 unfold f61_j6 at hS
 exact zrSkip (zkSeq (f61_j0_ok hd a1 a2 hQ a1 hS (by kernel_rfl)))
def f61 (a1 : Int) (a2 : Gterminal) : Option (Gterminal) := (bif (decide (0 ≤ a1)) then (bif (decide (a1 ≤ 127)) then ((inR a2.Screen.Shift 2).bind fun m18 => (bif (decide (m18 = 0)) then ((f83 a2.Screen.Pages.1 (u8 a1)).bind fun z19 => (f61_j0 a1 a2 z19.1)) else ((f83 a2.Screen.Pages.2 (u8 a1)).bind fun z20 => (f61_j0 a1 a2 z20.1)))) else (f61_j6 a1 a2 )) else (f61_j6 a1 a2 ))
theorem f61_ok (d : Nat) (hd : 6 ≤ d) (a1 : Int) (a2 : Gterminal) (r : Gterminal) (hS : f61 a1 a2 = some r) : lev codes baseL d 61 [(pt 0), (dI a1)] (gb_Gterminal a2 1 2 3) = some ((.tup []), (gb_Gterminal r 1 2 3)) := by
 refine lev_go codes61 rfl rfl (Nat.le_trans (Nat.le_of_ble_eq_true rfl) hd) fun Q hQ => ?_
 unfold f61 at hS
 show ZR _ Q c61_b [] _
 replace hQ : FQ (f61_Q r) Q := hQ
 refine zrSeq (zrSeq (zrReg (zL 1 1 ?_)))
 refine sB 7 2 (.cmpI .geq (tm 6) (ki 0)) hS (fun hS => ?_) (fun hS => ?_)
 ·refine zL 2 4 (sH 10 5 8 true (.cmpI .leq (tm 9) (ki 127)) hS (fun hS => ?_) (fun hS => ?_))
  ·refine zL 1 6 (zE (zkSeq (zT ?_)))
   refine zrRegD (zdR 9 9 (bindE hS (fun m18 hm18 hS => boolC (decide (m18 = 0)) (fun hc => ?_) (fun hc => ?_))))
   ·replace hS := cond_t hc hS
    exact zdO (v := (.r (.ptr 0 0 16))) (ups := []) (some 22) 10 none (.ixA 2 1 (tm 21) (tm 18)) (ev_ixA0 (kk := .i64) (b := 0) (g := 0) (o := 16) (j := a2.Screen.Shift) (m := m18) (by kernel_rfl) (by kernel_rfl) hm18 hc) (zdR 2 12 (zdO (v := (.d (.int .u8 ((u8 a1).toNat : Int)))) (ups := []) (some 25) 13 none (.cvI .u8 (tm 24)) (ev_cv (kk := .i64) (a := a1) (by kernel_rfl) (u8_wrap _)) (bindE hS (fun z19 hz19 hS => zdO (some 26) 14 none (.call 83 [(tm 23), (tm 25)]) (ev_cA (f83_ok (d - 1) (dpt hd rfl) a2.Screen.Pages.1 (u8 a1) z19 hz19)) (zdR 4 18 (zdE (zkSeq (f61_j0_ok hd a1 a2 hQ z19.1 hS (by kernel_rfl)))))))))
   ·replace hS := cond_f hc hS
    exact zdO (v := (.r (.ptr 0 0 17))) (ups := []) (some 22) 10 none (.ixA 2 1 (tm 21) (tm 18)) (ev_ixA1 (kk := .i64) (b := 0) (g := 0) (o := 16) (j := a2.Screen.Shift) (m := m18) (by kernel_rfl) (by kernel_rfl) hm18 hc) (zdR 2 12 (zdO (v := (.d (.int .u8 ((u8 a1).toNat : Int)))) (ups := []) (some 25) 13 none (.cvI .u8 (tm 24)) (ev_cv (kk := .i64) (a := a1) (by kernel_rfl) (u8_wrap _)) (bindE hS (fun z20 hz20 hS => zdO (some 26) 14 none (.call 83 [(tm 23), (tm 25)]) (ev_cA (f83_ok (d - 1) (dpt hd rfl) a2.Screen.Pages.2 (u8 a1) z20 hz20)) (zdR 4 18 (zdE (zkSeq (f61_j0_ok hd a1 a2 hQ z20.1 hS (by kernel_rfl)))))))))
  ·refine zL 1 6 (zE (zkSeq (zF ?_)))
   exact f61_j6_ok hd a1 a2 hQ  hS (by kernel_rfl)
 ·refine zL 4 6 (zE (zkSeq (zF ?_)))
  exact f61_j6_ok hd a1 a2 hQ  hS (by kernel_rfl)
/- farwriter/args.Get -/
def f99_fin (p2 : Int) : St := ⟨(up u0 6 (dI p2)), h0⟩
theorem f99_out (p2 : Int) : outR (f99_fin p2) 0 c99.res = some ((dI p2), []) := by
 kernel_rfl
def f99_Q (r : Int) (e : PX) (st : St) : Prop := DoneF c99 0 ((dI r), []) e st
def f99 (a1 : List Int) (a2 : Int) (a3 : Int) : Option (Int) := (bif (decide (a2 < 0)) then (some a3) else (bif (decide ((a1.length : Int) ≤ a2)) then (some a3) else ((idx a1 a2).bind fun z3 => (bif (decide (z3 = (-1))) then (some a3) else ((idx a1 a2).bind fun z4 => (some z4))))))
theorem f99_ok (d : Nat) (hd : 1 ≤ d) (a1 : List Int) (a2 : Int) (a3 : Int) (r : Int) (hS : f99 a1 a2 a3 = some r) : lev codes baseL d 99 [(dL a1), (dI a2), (dI a3)] [] = some ((dI r), []) := by
 refine lev_go codes99 rfl rfl (Nat.le_trans (Nat.le_of_ble_eq_true rfl) hd) fun Q hQ => ?_
 unfold f99 at hS
 show ZR _ Q c99_b [] _
 replace hQ : FQ (f99_Q r) Q := hQ
 refine zrSeq (zrReg (zL 1 1 (zE (zkSeq (zrSeq (zrSeq (zrReg (zL 1 1 ?_))))))))
 refine sB 8 2 (.cmpI .lss (tm 7) (ki 0)) hS (fun hS => ?_) (fun hS => ?_)
 ·refine zL 13 15 (zE (zkSeq (zT (zrSeq (zrReg (zL 2 2 (zE (zkSeq ?_))))))))
  exact zrRet (zkSeqR (zkNil (endQ hS hQ (fR (f99_out a3)))))
 ·refine zL 4 6 (sH 13 7 9 false (.cmpI .geq (tm 10) (tm 12)) hS (fun hS => ?_) (fun hS => ?_))
  ·refine zL 8 15 (zE (zkSeq (zT (zrSeq (zrReg (zL 2 2 (zE (zkSeq ?_))))))))
   exact zrRet (zkSeqR (zkNil (endQ hS hQ (fR (f99_out a3)))))
  ·refine zL 4 11 (bindE hS (fun z3 hz3 hS => zG (v := (.rptr (eI.enc z3 ++ (eI.cells (a1.drop ((a2 : Int).toNat + 1)))))) (ups := []) (some 18) 12 15 false (.ixS 3 1 (tm 16) (tm 17)) (ev_ixS eI (kk := .i64) (xs := a1) (j := a2) (by kernel_rfl) (by kernel_rfl) hz3 rfl (by intro h; cases h)) (zL 1 13 (sH 20 14 15 false (.cmpI .eql (tm 19) (ki (-1))) hS (fun hS => ?_) (fun hS => ?_)))))
   ·refine zL 1 15 (zE (zkSeq (zT (zrSeq (zrReg (zL 2 2 (zE (zkSeq ?_))))))))
    exact zrRet (zkSeqR (zkNil (endQ hS hQ (fR (f99_out a3)))))
   ·refine zL 1 15 (zE (zkSeq (zF ?_)))
    refine zrSkip (zkSeq (zrSeq (zrReg (zL 2 2 ?_))))
    refine bindE hS (fun z4 hz4 hS => zO (v := (.rptr (eI.enc z4 ++ (eI.cells (a1.drop ((a2 : Int).toNat + 1)))))) (ups := []) (some 25) 3 (.ixS 3 1 (tm 23) (tm 24)) (ev_ixS eI (kk := .i64) (xs := a1) (j := a2) (by kernel_rfl) (by kernel_rfl) hz4 rfl (by intro h; cases h)) (zL 2 5 (zE (zkSeq ?_))))
    exact zrRet (zkNil (endQ hS hQ (fR (f99_out z4))))
/- farwriter/screen.positive -/
def f98_fin (p1 : Int) : St := ⟨(up u0 4 (dI p1)), h0⟩
theorem f98_out (p1 : Int) : outR (f98_fin p1) 0 c98.res = some ((dI p1), []) := by
 kernel_rfl
def f98_Q (r : Int) (e : PX) (st : St) : Prop := DoneF c98 0 ((dI r), []) e st
def f98 (a1 : List Int) (a2 : Int) : Option (Int) := ((f99 a1 a2 1).bind fun z2 => (some (if 1 > z2 then 1 else z2)))
theorem f98_ok (d : Nat) (hd : 2 ≤ d) (a1 : List Int) (a2 : Int) (r : Int) (hS : f98 a1 a2 = some r) : lev codes baseL d 98 [(dL a1), (dI a2)] [] = some ((dI r), []) := by
 refine lev_go codes98 rfl rfl (Nat.le_trans (Nat.le_of_ble_eq_true rfl) hd) fun Q hQ => ?_
 unfold f98 at hS
 show ZR _ Q c98_b [] _
 replace hQ : FQ (f98_Q r) Q := hQ
 refine zrSeq (zrReg (zL 1 1 (zE (zkSeq (zrSeq (zrReg (zL 2 2 ?_)))))))
 refine bindE hS (fun z2 hz2 hS => zO (some 7) 3 (.call 99 [(tm 5), (tm 6), (ki 1)]) (ev_cA (f99_ok (d - 1) (dpt hd rfl) a1 a2 1 z2 hz2)) (zL 2 5 (zE (zkSeq ?_))))
 exact zrRet (zkNil (endQ hS hQ (fR (f98_out (if 1 > z2 then 1 else z2)))))
/- farwriter/screen.limit -/
def f121_fin (p1 : Int) : St := ⟨(up u0 6 (dI p1)), h0⟩
theorem f121_out (p1 : Int) : outR (f121_fin p1) 0 c121.res = some ((dI p1), []) := by
 kernel_rfl
def f121_Q (r : Int) (e : PX) (st : St) : Prop := DoneF c121 0 ((dI r), []) e st
def f121 (a1 : Int) (a2 : Int) (a3 : Int) : Option (Int) := (some (if (if a3 < a1 then a3 else a1) > a2 then (if a3 < a1 then a3 else a1) else a2))
theorem f121_ok (d : Nat) (hd : 1 ≤ d) (a1 : Int) (a2 : Int) (a3 : Int) (r : Int) (hS : f121 a1 a2 a3 = some r) : lev codes baseL d 121 [(dI a1), (dI a2), (dI a3)] [] = some ((dI r), []) := by
 refine lev_go codes121 rfl rfl (Nat.le_trans (Nat.le_of_ble_eq_true rfl) hd) fun Q hQ => ?_
 unfold f121 at hS
 show ZR _ Q c121_b [] _
 replace hQ : FQ (f121_Q r) Q := hQ
 refine zrSeq (zrReg (zL 1 1 (zE (zkSeq (zrSeq (zrReg (zL 6 6 (zE (zkSeq ?_)))))))))
 exact zrRet (zkNil (endQ hS hQ (fR (f121_out (if (if a3 < a1 then a3 else a1) > a2 then (if a3 < a1 then a3 else a1) else a2)))))
/- (*farwriter/screen.terminal).column -/
def f84_fin (p1 : Gterminal) : St := ⟨(up u0 2000000 .un), (gh_Gterminal h0 p1 0 1 2 3)⟩
theorem f84_out (p1 : Gterminal) : outR (f84_fin p1) 4 c84.res = some ((.tup []), (gb_Gterminal p1 1 2 3)) := by
 kernel_rfl
def f84_Q (r : Gterminal) (e : PX) (st : St) : Prop := DoneF c84 4 ((.tup []), [(gx_Gterminal r 1 2 3), (go0_Gterminal r), (go1_Gterminal r), (go2_Gterminal r), .box []]) e st
def f84 (a1 : Int) (a2 : Gterminal) : Option (Gterminal) := ((f121 a1 0 (IntKind.i64.wrap (a2.Screen.Grid.Wide - 1))).bind fun z2 => (some (Gterminal.mk ({ a2.Screen with Col := z2, Late := false }) a2.sent)))
theorem f84_ok (d : Nat) (hd : 2 ≤ d) (a1 : Int) (a2 : Gterminal) (r : Gterminal) (hS : f84 a1 a2 = some r) : lev codes baseL d 84 [(pt 0), (dI a1)] (gb_Gterminal a2 1 2 3) = some ((.tup []), [(gx_Gterminal r 1 2 3), (go0_Gterminal r), (go1_Gterminal r), (go2_Gterminal r), .box []]) := by
 refine lev_go codes84 rfl rfl (Nat.le_trans (Nat.le_of_ble_eq_true rfl) hd) fun Q hQ => ?_
 unfold f84 at hS
 show ZR _ Q c84_b [] _
 replace hQ : FQ (f84_Q r) Q := hQ
 refine zrSeq (zrReg (zL 5 5 (zE (zkSeq (zrReg (zL 9 9 ?_))))))
 refine bindE hS (fun z2 hz2 hS => zO (some 17) 10 (.call 121 [(tm 9), (ki 0), (tm 16)]) (ev_cA (f121_ok (d - 1) (dpt hd rfl) a1 0 (IntKind.i64.wrap (a2.Screen.Grid.Wide - 1)) z2 hz2)) (zL 4 14 (zE ?_)))
 exact zkNil (endQ hS hQ (fNormX (by kernel_rfl) (by kernel_rfl : finSt c84.fin _ = f84_fin (Gterminal.mk ({ a2.Screen with Col := z2, Late := false }) a2.sent)) (by kernel_rfl) (f84_out (Gterminal.mk ({ a2.Screen with Col := z2, Late := false }) a2.sent))))
/- (*farwriter/screen.terminal).move -/
def f128_fin (p2 : Gterminal) : St := ⟨(up u0 2000000 .un), (gh_Gterminal h0 p2 0 1 2 3)⟩
theorem f128_out (p2 : Gterminal) : outR (f128_fin p2) 4 c128.res = some ((.tup []), (gb_Gterminal p2 1 2 3)) := by
 kernel_rfl
def f128_Q (r : Gterminal) (e : PX) (st : St) : Prop := DoneF c128 4 ((.tup []), [(gx_Gterminal r 1 2 3), (go0_Gterminal r), (go1_Gterminal r), (go2_Gterminal r), .box []]) e st
def f128 (a1 : Int) (a2 : Int) (a3 : Gterminal) : Option (Gterminal) := ((f86 a3 [] 2).bind fun z8 => (bif z8 then ((f121 (IntKind.i64.wrap (a1 + a3.Screen.Top)) a3.Screen.Top (IntKind.i64.wrap (a3.Screen.Bottom - 1))).bind fun z9 => ((f84 a2 (Gterminal.mk ({ a3.Screen with Row := z9 }) a3.sent)).bind fun z10 => ((chk (decide (z10.Screen.Past.length = a3.Screen.Past.length))).bind fun z11 => ((chk (decide (z10.Screen.Other.Cells.length = a3.Screen.Other.Cells.length))).bind fun z12 => ((chk (decide (z10.Screen.Grid.Cells.length = a3.Screen.Grid.Cells.length))).bind fun z13 => (some z10)))))) else ((f121 a1 0 (IntKind.i64.wrap (a3.Screen.Grid.High - 1))).bind fun z14 => ((f84 a2 (Gterminal.mk ({ a3.Screen with Row := z14 }) a3.sent)).bind fun z15 => ((chk (decide (z15.Screen.Past.length = a3.Screen.Past.length))).bind fun z16 => ((chk (decide (z15.Screen.Other.Cells.length = a3.Screen.Other.Cells.length))).bind fun z17 => ((chk (decide (z15.Screen.Grid.Cells.length = a3.Screen.Grid.Cells.length))).bind fun z18 => (some z15))))))))
theorem f128_ok (d : Nat) (hd : 3 ≤ d) (a1 : Int) (a2 : Int) (a3 : Gterminal) (r : Gterminal) (hS : f128 a1 a2 a3 = some r) : lev codes baseL d 128 [(pt 0), (dI a1), (dI a2)] (gb_Gterminal a3 1 2 3) = some ((.tup []), [(gx_Gterminal r 1 2 3), (go0_Gterminal r), (go1_Gterminal r), (go2_Gterminal r), .box []]) := by
 refine lev_go codes128 rfl rfl (Nat.le_trans (Nat.le_of_ble_eq_true rfl) hd) fun Q hQ => ?_
 unfold f128 at hS
 show ZR _ Q c128_b [] _
 replace hQ : FQ (f128_Q r) Q := hQ
 refine zrSeq (zrSeq (zrReg (zL 1 1 ?_)))
 refine bindE hS (fun z8 hz8 hS => zO (some 7) 2 (.call 86 [(tm 6), (ki 2)]) (ev_cA (f86_ok (d - 1) (dpt hd rfl) a3 [] 2 z8 hz8)) (zE (zkSeq ?_)))
 refine sR 7 hS (fun hS => ?_) (fun hS => ?_)
 ·refine zT (zrRegD (zdR 19 19 (bindE hS (fun z9 hz9 hS => zdO (some 27) 20 none (.call 121 [(tm 15), (tm 20), (tm 26)]) (ev_cA (f121_ok (d - 1) (dpt hd rfl) (IntKind.i64.wrap (a1 + a3.Screen.Top)) a3.Screen.Top (IntKind.i64.wrap (a3.Screen.Bottom - 1)) z9 hz9)) (zdR 4 24 (zdE (zkSeq (zrReg (zL 2 2 ?_)))))))))
  refine bindE hS (fun z10 hz10 hS => bindE hS (fun z11 hz11 hS => bindE hS (fun z12 hz12 hS => bindE hS (fun z13 hz13 hS => zO (some 46) 3 (.callr 84 [(tm 44), (tm 45)]) (ev_cX [0, 1, 2, 3] [(.box (bx_Gterminal (Gterminal.mk ({ a3.Screen with Row := z9 }) a3.sent) (.r (.msl 1 0 0 a3.Screen.Grid.Cells.length)) (.r (.msl 2 0 0 a3.Screen.Other.Cells.length)) (.r (.msl 3 0 0 a3.Screen.Past.length)))), (go0_Gterminal a3), (go1_Gterminal a3), (go2_Gterminal a3)] (f84_ok (d - 1) (dpt hd rfl) a2 (Gterminal.mk ({ a3.Screen with Row := z9 }) a3.sent) z10 hz10) (sm_box (cs := ((dI a3.Screen.Grid.Wide) :: ((dI a3.Screen.Grid.High) :: ((.r (.msl 1 0 0 a3.Screen.Grid.Cells.length)) :: ((dI z9) :: ((dI a3.Screen.Col) :: ((dB a3.Screen.Late) :: ((dI a3.Screen.Top) :: ((dI a3.Screen.Bottom) :: ((dI a3.Screen.Pen.Flags) :: ((dI a3.Screen.Pen.Fore) :: ((dI a3.Screen.Pen.Back) :: ((dI a3.Screen.Modes) :: (((eInt .u64).row 4 a3.Screen.Stops.Bits) ++ ((dI a3.Screen.Pages.1) :: ((dI a3.Screen.Pages.2) :: ((dI a3.Screen.Shift) :: ((dI a3.Screen.Saved.Row) :: ((dI a3.Screen.Saved.Col) :: ((dI a3.Screen.Saved.Pen.Flags) :: ((dI a3.Screen.Saved.Pen.Fore) :: ((dI a3.Screen.Saved.Pen.Back) :: ((dB a3.Screen.Saved.Origin) :: ((dI a3.Screen.Saved.Pages.1) :: ((dI a3.Screen.Saved.Pages.2) :: ((dI a3.Screen.Saved.Shift) :: ((dI a3.Screen.Other.Wide) :: ((dI a3.Screen.Other.High) :: ((.r (.msl 2 0 0 a3.Screen.Other.Cells.length)) :: ((.d (.str a3.Screen.Title)) :: ((.r (.msl 3 0 0 a3.Screen.Past.length)) :: ((.d (.str a3.sent)) :: [])))))))))))))))))))))))))))))))) (by kernel_rfl) (sm_own e_GCell (e1 := 49) (k1 := 4) (xs := a3.Screen.Grid.Cells) (ys := z10.Screen.Grid.Cells) (by kernel_rfl) hz13 (sm_own e_GCell (e1 := 49) (k1 := 4) (xs := a3.Screen.Other.Cells) (ys := z10.Screen.Other.Cells) (by kernel_rfl) hz12 (sm_own e_GLine (e1 := 95) (k1 := 1) (xs := a3.Screen.Past) (ys := z10.Screen.Past) (by kernel_rfl) hz11 sm_nil))))) ?_))))
  have lz11 : a3.Screen.Past.length = z10.Screen.Past.length := (of_decide_eq_true (chk_t hz11)).symm
  skip
  try delta bm_Gterminal
  try delta bm_GScreen
  try rw [lz11]
  have lz12 : a3.Screen.Other.Cells.length = z10.Screen.Other.Cells.length := (of_decide_eq_true (chk_t hz12)).symm
  skip
  try delta bm_Gterminal
  try delta bm_GScreen
  try rw [lz12]
  have lz13 : a3.Screen.Grid.Cells.length = z10.Screen.Grid.Cells.length := (of_decide_eq_true (chk_t hz13)).symm
  skip
  try delta bm_Gterminal
  try delta bm_GScreen
  try rw [lz13]
  exact zE (zkNil (endQ hS hQ (fNormX (by kernel_rfl) (by kernel_rfl : finSt c128.fin _ = f128_fin z10) (by kernel_rfl) (f128_out z10))))
 ·refine zF (zrReg (zL 9 9 ?_))
  refine bindE hS (fun z14 hz14 hS => zO (some 40) 10 (.call 121 [(tm 32), (ki 0), (tm 39)]) (ev_cA (f121_ok (d - 1) (dpt hd rfl) a1 0 (IntKind.i64.wrap (a3.Screen.Grid.High - 1)) z14 hz14)) (zL 4 14 (zE (zkSeq (zrReg (zL 2 2 ?_))))))
  refine bindE hS (fun z15 hz15 hS => bindE hS (fun z16 hz16 hS => bindE hS (fun z17 hz17 hS => bindE hS (fun z18 hz18 hS => zO (some 46) 3 (.callr 84 [(tm 44), (tm 45)]) (ev_cX [0, 1, 2, 3] [(.box (bx_Gterminal (Gterminal.mk ({ a3.Screen with Row := z14 }) a3.sent) (.r (.msl 1 0 0 a3.Screen.Grid.Cells.length)) (.r (.msl 2 0 0 a3.Screen.Other.Cells.length)) (.r (.msl 3 0 0 a3.Screen.Past.length)))), (go0_Gterminal a3), (go1_Gterminal a3), (go2_Gterminal a3)] (f84_ok (d - 1) (dpt hd rfl) a2 (Gterminal.mk ({ a3.Screen with Row := z14 }) a3.sent) z15 hz15) (sm_box (cs := ((dI a3.Screen.Grid.Wide) :: ((dI a3.Screen.Grid.High) :: ((.r (.msl 1 0 0 a3.Screen.Grid.Cells.length)) :: ((dI z14) :: ((dI a3.Screen.Col) :: ((dB a3.Screen.Late) :: ((dI a3.Screen.Top) :: ((dI a3.Screen.Bottom) :: ((dI a3.Screen.Pen.Flags) :: ((dI a3.Screen.Pen.Fore) :: ((dI a3.Screen.Pen.Back) :: ((dI a3.Screen.Modes) :: (((eInt .u64).row 4 a3.Screen.Stops.Bits) ++ ((dI a3.Screen.Pages.1) :: ((dI a3.Screen.Pages.2) :: ((dI a3.Screen.Shift) :: ((dI a3.Screen.Saved.Row) :: ((dI a3.Screen.Saved.Col) :: ((dI a3.Screen.Saved.Pen.Flags) :: ((dI a3.Screen.Saved.Pen.Fore) :: ((dI a3.Screen.Saved.Pen.Back) :: ((dB a3.Screen.Saved.Origin) :: ((dI a3.Screen.Saved.Pages.1) :: ((dI a3.Screen.Saved.Pages.2) :: ((dI a3.Screen.Saved.Shift) :: ((dI a3.Screen.Other.Wide) :: ((dI a3.Screen.Other.High) :: ((.r (.msl 2 0 0 a3.Screen.Other.Cells.length)) :: ((.d (.str a3.Screen.Title)) :: ((.r (.msl 3 0 0 a3.Screen.Past.length)) :: ((.d (.str a3.sent)) :: [])))))))))))))))))))))))))))))))) (by kernel_rfl) (sm_own e_GCell (e1 := 49) (k1 := 4) (xs := a3.Screen.Grid.Cells) (ys := z15.Screen.Grid.Cells) (by kernel_rfl) hz18 (sm_own e_GCell (e1 := 49) (k1 := 4) (xs := a3.Screen.Other.Cells) (ys := z15.Screen.Other.Cells) (by kernel_rfl) hz17 (sm_own e_GLine (e1 := 95) (k1 := 1) (xs := a3.Screen.Past) (ys := z15.Screen.Past) (by kernel_rfl) hz16 sm_nil))))) ?_))))
  have lz16 : a3.Screen.Past.length = z15.Screen.Past.length := (of_decide_eq_true (chk_t hz16)).symm
  skip
  try delta bm_Gterminal
  try delta bm_GScreen
  try rw [lz16]
  have lz17 : a3.Screen.Other.Cells.length = z15.Screen.Other.Cells.length := (of_decide_eq_true (chk_t hz17)).symm
  skip
  try delta bm_Gterminal
  try delta bm_GScreen
  try rw [lz17]
  have lz18 : a3.Screen.Grid.Cells.length = z15.Screen.Grid.Cells.length := (of_decide_eq_true (chk_t hz18)).symm
  skip
  try delta bm_Gterminal
  try delta bm_GScreen
  try rw [lz18]
  exact zE (zkNil (endQ hS hQ (fNormX (by kernel_rfl) (by kernel_rfl : finSt c128.fin _ = f128_fin z15) (by kernel_rfl) (f128_out z15))))
/- (*farwriter/screen.terminal).cursor -/
def f100_fin (p16 : Gterminal) (p17 : Bool) : St := ⟨(up (up u0 2000000 .un) 6 (dB p17)), (gh_Gterminal h0 p16 0 1 2 3)⟩
theorem f100_out (p16 : Gterminal) (p17 : Bool) : outR (f100_fin p16 p17) 4 c100.res = some ((dB p17), (gb_Gterminal p16 1 2 3)) := by
 kernel_rfl
def f100_Q (r : Gterminal × Bool) (e : PX) (st : St) : Prop := DoneF c100 4 ((dB r.2), [(gx_Gterminal r.1 1 2 3), (go0_Gterminal r.1), (go1_Gterminal r.1), (go2_Gterminal r.1), .box []]) e st
def f100_j1_J (a1 : GAct) (a2 : Int) (a3 : Gterminal) (p23 : Bool) : St := ⟨(up (up (up (up (up u0 79 (dB p23)) 12 (dI a1.Code)) 4 (pt 40)) 2 (dI a2)) 0 (pt 0)), (gh_Gterminal (up h0 40 ⟨0, some (.box (bx_GAct a1 (dL a1.Args)))⟩) a3 0 1 2 3)⟩
def f100_j1 (a1 : GAct) (a2 : Int) (a3 : Gterminal) (p23 : Bool) : Option (Gterminal × Bool) := (bif p23 then ((f98 a1.Args 1).bind fun z6 => ((f128 (IntKind.i64.wrap (a2 - 1)) (IntKind.i64.wrap (z6 - 1)) a3).bind fun z7 => ((chk (decide (z7.Screen.Past.length = a3.Screen.Past.length))).bind fun z8 => ((chk (decide (z7.Screen.Other.Cells.length = a3.Screen.Other.Cells.length))).bind fun z9 => ((chk (decide (z7.Screen.Grid.Cells.length = a3.Screen.Grid.Cells.length))).bind fun z10 => (some (z7, true))))))) else (bif (decide (a1.Code = 73)) then none else (bif (decide (a1.Code = 90)) then none else (bif (decide (a1.Code = 115)) then none else (bif (decide (a1.Code = 117)) then none else (some (a3, false)))))))
theorem f100_j1_ok {d : Nat} (hd : 4 ≤ d) (a1 : GAct) (a2 : Int) (a3 : Gterminal) {r : Gterminal × Bool} {Q : PQ} (hQ : FQ (f100_Q r) Q) (p23 : Bool) (hS : f100_j1 a1 a2 a3 p23 = some r) {st : St} (he : keepSt [0, 2, 4, 12, 79] [(0, .id 0), (1, .id 1), (2, .id 2), (3, .id 3), (40, .id 40)] [] st = f100_j1_J a1 a2 a3 p23) : ZR (lev codes baseL (d - 1)) Q c100_1 [.blk 0, .seq c100_2] st := by
 refine zrKeep he ?_
 unfold f100_j1 at hS
 refine sR 79 hS (fun hS => ?_) (fun hS => ?_)
 ·refine zT (zrReg (zL 5 5 ?_))
  refine bindE hS (fun z6 hz6 hS => zO (some 87) 6 (.call 98 [(tm 86), (ki 1)]) (ev_cA (f98_ok (d - 1) (dpt hd rfl) a1.Args 1 z6 hz6)) (zL 1 7 (bindE hS (fun z7 hz7 hS => bindE hS (fun z8 hz8 hS => bindE hS (fun z9 hz9 hS => bindE hS (fun z10 hz10 hS => zO (some 89) 8 (.callr 128 [(tm 82), (tm 84), (tm 88)]) (ev_cX [0, 1, 2, 3] (gb_Gterminal a3 1 2 3) (f128_ok (d - 1) (dpt hd rfl) (IntKind.i64.wrap (a2 - 1)) (IntKind.i64.wrap (z6 - 1)) a3 z7 hz7) (sm_box (cs := (bm_Gterminal a3 1 0 2 0 3 0)) (by kernel_rfl) (sm_own e_GCell (e1 := 49) (k1 := 4) (xs := a3.Screen.Grid.Cells) (ys := z7.Screen.Grid.Cells) (by kernel_rfl) hz10 (sm_own e_GCell (e1 := 49) (k1 := 4) (xs := a3.Screen.Other.Cells) (ys := z7.Screen.Other.Cells) (by kernel_rfl) hz9 (sm_own e_GLine (e1 := 95) (k1 := 1) (xs := a3.Screen.Past) (ys := z7.Screen.Past) (by kernel_rfl) hz8 sm_nil))))) ?_)))))))
  have lz8 : a3.Screen.Past.length = z7.Screen.Past.length := (of_decide_eq_true (chk_t hz8)).symm
  try delta f100_j1_J
  try delta bm_Gterminal
  try delta bm_GScreen
  try rw [lz8]
  have lz9 : a3.Screen.Other.Cells.length = z7.Screen.Other.Cells.length := (of_decide_eq_true (chk_t hz9)).symm
  try delta f100_j1_J
  try delta bm_Gterminal
  try delta bm_GScreen
  try rw [lz9]
  have lz10 : a3.Screen.Grid.Cells.length = z7.Screen.Grid.Cells.length := (of_decide_eq_true (chk_t hz10)).symm
  try delta f100_j1_J
  try delta bm_Gterminal
  try delta bm_GScreen
  try rw [lz10]
  refine zE (zkBlk (zkSeq (zrSeq (zrReg (zL 1 1 (zE (zkSeq ?_)))))))
  exact zrRet (zkNil (endQ hS hQ (fRetX (by kernel_rfl) (by kernel_rfl : finSt c100.fin _ = f100_fin z7 true) (by kernel_rfl) (f100_out z7 true))))
 ·refine zF (zrSeq (zrReg ?_))
  refine sB 91 1 (ck 12 73) hS (fun hS => ?_) (fun hS => ?_)
  ·refine zL 1 2 (zE (zkSeq (zT (zrSeq ?_))))
   refine zrRegD ?_
   cases hS
  ·refine zL 1 2 (zE (zkSeq (zF (zrSeq (zrReg ?_)))))
   refine sB 117 1 (ck 12 90) hS (fun hS => ?_) (fun hS => ?_)
   ·refine zL 1 2 (zE (zkSeq (zT (zrSeq ?_))))
    refine zrRegD ?_
    cases hS
   ·refine zL 1 2 (zE (zkSeq (zF (zrSeq (zrReg ?_)))))
    refine sB 137 1 (ck 12 115) hS (fun hS => ?_) (fun hS => ?_)
    ·refine zL 1 2 (zE (zkSeq (zT (zrReg ?_))))
     cases hS
    ·refine zL 1 2 (zE (zkSeq (zF (zrSeq (zrReg ?_)))))
     refine sB 141 1 (ck 12 117) hS (fun hS => ?_) (fun hS => ?_)
     ·refine zL 1 2 (zE (zkSeq (zT (zrReg ?_))))
      cases hS
     ·refine zL 1 2 (zE (zkSeq (zF (zrSeq (zrReg (zL 1 1 (zE (zkSeq ?_))))))))
      exact zrRet (zkBlkR (zkSeqR (zkNil (endQ hS hQ (fRetX (by kernel_rfl) (by kernel_rfl : finSt c100.fin _ = f100_fin a3 false) (by kernel_rfl) (f100_out a3 false))))))
def f100_j0_J (a1 : GAct) (a2 : Int) (a3 : Gterminal) (p20 : Bool) : St := ⟨(up (up (up (up (up u0 61 (dB p20)) 12 (dI a1.Code)) 4 (pt 40)) 2 (dI a2)) 0 (pt 0)), (gh_Gterminal (up h0 40 ⟨0, some (.box (bx_GAct a1 (dL a1.Args)))⟩) a3 0 1 2 3)⟩
def f100_j0 (a1 : GAct) (a2 : Int) (a3 : Gterminal) (p20 : Bool) : Option (Gterminal × Bool) := (bif p20 then none else (bif (decide (a1.Code = 100)) then none else (bif (decide (a1.Code = 72)) then (f100_j1 a1 a2 a3 true) else (bif (decide (a1.Code = 102)) then (f100_j1 a1 a2 a3 true) else (f100_j1 a1 a2 a3 false)))))
theorem f100_j0_ok {d : Nat} (hd : 4 ≤ d) (a1 : GAct) (a2 : Int) (a3 : Gterminal) {r : Gterminal × Bool} {Q : PQ} (hQ : FQ (f100_Q r) Q) (p20 : Bool) (hS : f100_j0 a1 a2 a3 p20 = some r) {st : St} (he : keepSt [0, 2, 4, 12, 61] [(0, .id 0), (1, .id 1), (2, .id 2), (3, .id 3), (40, .id 40)] [] st = f100_j0_J a1 a2 a3 p20) : ZR (lev codes baseL (d - 1)) Q c100_3 [.blk 0, .seq c100_2] st := by
 refine zrKeep he ?_
 unfold f100_j0 at hS
 refine sR 61 hS (fun hS => ?_) (fun hS => ?_)
 ·refine zT (zrReg ?_)
  cases hS
 ·refine zF (zrSeq (zrReg ?_))
  refine sB 69 1 (ck 12 100) hS (fun hS => ?_) (fun hS => ?_)
  ·refine zL 1 2 (zE (zkSeq (zT (zrReg ?_))))
   cases hS
  ·refine zL 1 2 (zE (zkSeq (zF (zrSeq (zrSeq (zrReg ?_))))))
   refine sB 80 1 (ck 12 72) hS (fun hS => ?_) (fun hS => ?_)
   ·refine zL 1 2 (zE (zkSeq (zT ?_)))
    exact zrSkip (zkSeq (f100_j1_ok hd a1 a2 a3 hQ true hS (by kernel_rfl)))
   ·refine zL 1 2 (zE (zkSeq (zF (zrReg ?_))))
    refine sB 81 1 (ck 12 102) hS (fun hS => ?_) (fun hS => ?_)
    ·refine zL 1 2 (zE (zkSeq ?_))
     exact f100_j1_ok hd a1 a2 a3 hQ true hS (by kernel_rfl)
    ·refine zL 1 2 (zE (zkSeq ?_))
     exact f100_j1_ok hd a1 a2 a3 hQ false hS (by kernel_rfl)
def f100 (a1 : GAct) (a2 : Int) (a3 : Gterminal) : Option (Gterminal × Bool) := (bif (decide (a1.Code = 65)) then none else (bif (decide (a1.Code = 66)) then none else (bif (decide (a1.Code = 67)) then none else (bif (decide (a1.Code = 68)) then none else (bif (decide (a1.Code = 69)) then none else (bif (decide (a1.Code = 70)) then none else (bif (decide (a1.Code = 71)) then (f100_j0 a1 a2 a3 true) else (bif (decide (a1.Code = 96)) then (f100_j0 a1 a2 a3 true) else (f100_j0 a1 a2 a3 false)))))))))
theorem f100_ok (d : Nat) (hd : 4 ≤ d) (a1 : GAct) (a2 : Int) (a3 : Gterminal) (r : Gterminal × Bool) (hS : f100 a1 a2 a3 = some r) : lev codes baseL d 100 [(pt 0), (.agg ((dI a1.Kind) :: ((dI a1.Code) :: ((dI a1.Mark) :: ((.d (.str a1.Inter)) :: ((dL a1.Args) :: ((.d (.str a1.Text)) :: []))))))), (dI a2)] (gb_Gterminal a3 1 2 3) = some ((dB r.2), [(gx_Gterminal r.1 1 2 3), (go0_Gterminal r.1), (go1_Gterminal r.1), (go2_Gterminal r.1), .box []]) := by
 refine lev_go codes100 rfl rfl (Nat.le_trans (Nat.le_of_ble_eq_true rfl) hd) fun Q hQ => ?_
 unfold f100 at hS
 show ZR _ Q c100_b [] _
 replace hQ : FQ (f100_Q r) Q := hQ
 refine zrSeq (zrReg (zL 2 2 (zE (zkSeq (zrSeq (zrSeq (zrReg (zL 2 2 (zE (zkSeq ?_))))))))))
 refine zrBlk (zrSeq (zrReg ?_))
 refine sB 14 1 (ck 12 65) hS (fun hS => ?_) (fun hS => ?_)
 ·refine zL 1 2 (zE (zkSeq (zT (zrReg ?_))))
  cases hS
 ·refine zL 1 2 (zE (zkSeq (zF (zrSeq (zrReg ?_)))))
  refine sB 19 1 (ck 12 66) hS (fun hS => ?_) (fun hS => ?_)
  ·refine zL 1 2 (zE (zkSeq (zT (zrReg ?_))))
   cases hS
  ·refine zL 1 2 (zE (zkSeq (zF (zrSeq (zrReg ?_)))))
   refine sB 25 1 (ck 12 67) hS (fun hS => ?_) (fun hS => ?_)
   ·refine zL 1 2 (zE (zkSeq (zT (zrReg ?_))))
    cases hS
   ·refine zL 1 2 (zE (zkSeq (zF (zrSeq (zrReg ?_)))))
    refine sB 36 1 (ck 12 68) hS (fun hS => ?_) (fun hS => ?_)
    ·refine zL 1 2 (zE (zkSeq (zT (zrReg ?_))))
     cases hS
    ·refine zL 1 2 (zE (zkSeq (zF (zrSeq (zrReg ?_)))))
     refine sB 47 1 (ck 12 69) hS (fun hS => ?_) (fun hS => ?_)
     ·refine zL 1 2 (zE (zkSeq (zT (zrSeq (zrReg ?_)))))
      cases hS
     ·refine zL 1 2 (zE (zkSeq (zF (zrSeq (zrReg ?_)))))
      refine sB 55 1 (ck 12 70) hS (fun hS => ?_) (fun hS => ?_)
      ·refine zL 1 2 (zE (zkSeq (zT (zrSeq (zrReg ?_)))))
       cases hS
      ·refine zL 1 2 (zE (zkSeq (zF (zrSeq (zrSeq (zrReg ?_))))))
       refine sB 62 1 (ck 12 71) hS (fun hS => ?_) (fun hS => ?_)
       ·refine zL 1 2 (zE (zkSeq (zT ?_)))
        exact zrSkip (zkSeq (f100_j0_ok hd a1 a2 a3 hQ true hS (by kernel_rfl)))
       ·refine zL 1 2 (zE (zkSeq (zF (zrReg ?_))))
        refine sB 63 1 (ck 12 96) hS (fun hS => ?_) (fun hS => ?_)
        ·refine zL 1 2 (zE (zkSeq ?_))
         exact f100_j0_ok hd a1 a2 a3 hQ true hS (by kernel_rfl)
        ·refine zL 1 2 (zE (zkSeq ?_))
         exact f100_j0_ok hd a1 a2 a3 hQ false hS (by kernel_rfl)
/- (*farwriter/screen.terminal).erase -/
def f101_fin (p10 : Gterminal) : St := ⟨(up (up (up (up u0 1000003 .un) 1000002 .un) 1000001 .un) 8 (dB false)), (up (up (up (up h0 3 ⟨1, some (go2_Gterminal p10)⟩) 2 ⟨1, some (go1_Gterminal p10)⟩) 1 ⟨1, some (go0_Gterminal p10)⟩) 0 ⟨0, some (.box (bm_Gterminal p10 1 1 2 1 3 1))⟩)⟩
theorem f101_out (p10 : Gterminal) : outR (f101_fin p10) 4 c101.res = some ((dB false), (gb_Gterminal p10 1 2 3)) := by
 kernel_rfl
def f101_Q (r : Gterminal) (e : PX) (st : St) : Prop := DoneF c101 4 ((dB false), (gb_Gterminal r 1 2 3)) e st
def f101_j2_J (a1 : Int) (a2 : Int) (a3 : Int) (a4 : Gterminal) (p19 : Bool) : St := ⟨(up (up (up (up (up (up (up u0 1000003 .un) 1000002 .un) 1000001 .un) 176 (dB p19)) 2 (dI a2)) 1 (dI a1)) 0 (pt 0)), (up (up (up (up h0 3 ⟨1, some (go2_Gterminal a4)⟩) 2 ⟨1, some (go1_Gterminal a4)⟩) 1 ⟨1, some (go0_Gterminal a4)⟩) 0 ⟨0, some (.box (bm_Gterminal a4 1 1 2 1 3 1))⟩)⟩
def f101_j2 (a1 : Int) (a2 : Int) (a3 : Int) (a4 : Gterminal) (p19 : Bool) : Option (Gterminal) := (bif p19 then none else (some a4))
theorem f101_j2_ok {d : Nat} (hd : 1 ≤ d) (a1 : Int) (a2 : Int) (a3 : Int) (a4 : Gterminal) {r : Gterminal} {Q : PQ} (hQ : FQ (f101_Q r) Q) (p19 : Bool) (hS : f101_j2 a1 a2 a3 a4 p19 = some r) {st : St} (he : keepSt [0, 1, 2, 176, 1000001, 1000002, 1000003] [(0, .id 0), (1, .id 1), (2, .id 2), (3, .id 3)] [] st = f101_j2_J a1 a2 a3 a4 p19) : ZR (lev codes baseL (d - 1)) Q c101_1 [.blk 0, .seq c101_2] st := by
 refine zrKeep he ?_
 unfold f101_j2 at hS
 refine sR 176 hS (fun hS => ?_) (fun hS => ?_)
 ·refine zT (zrSeq (zrSeq (zrReg ?_)))
  cases hS
 ·refine zF (zrSeq (zrReg (zL 1 1 (zE (zkSeq ?_)))))
  exact zrRet (zkBlkR (zkSeqR (zkNil (endQ hS hQ (fR (f101_out a4))))))
def f101_j1_J (a1 : Int) (a2 : Int) (a3 : Int) (a4 : Gterminal) (p16 : Bool) : St := ⟨(up (up (up (up (up (up (up (up u0 1000003 .un) 1000002 .un) 1000001 .un) 131 (dB p16)) 17 (dI a1)) 2 (dI a2)) 1 (dI a1)) 0 (pt 0)), (up (up (up (up h0 3 ⟨1, some (go2_Gterminal a4)⟩) 2 ⟨1, some (go1_Gterminal a4)⟩) 1 ⟨1, some (go0_Gterminal a4)⟩) 0 ⟨0, some (.box (bm_Gterminal a4 1 1 2 1 3 1))⟩)⟩
def f101_j1 (a1 : Int) (a2 : Int) (a3 : Int) (a4 : Gterminal) (p16 : Bool) : Option (Gterminal) := (bif p16 then none else (bif (decide (a1 = 83)) then (f101_j2 a1 a2 a3 a4 true) else (bif (decide (a1 = 84)) then (f101_j2 a1 a2 a3 a4 true) else (f101_j2 a1 a2 a3 a4 false))))
theorem f101_j1_ok {d : Nat} (hd : 1 ≤ d) (a1 : Int) (a2 : Int) (a3 : Int) (a4 : Gterminal) {r : Gterminal} {Q : PQ} (hQ : FQ (f101_Q r) Q) (p16 : Bool) (hS : f101_j1 a1 a2 a3 a4 p16 = some r) {st : St} (he : keepSt [0, 1, 2, 17, 131, 1000001, 1000002, 1000003] [(0, .id 0), (1, .id 1), (2, .id 2), (3, .id 3)] [] st = f101_j1_J a1 a2 a3 a4 p16) : ZR (lev codes baseL (d - 1)) Q c101_3 [.blk 0, .seq c101_2] st := by
 refine zrKeep he ?_
 unfold f101_j1 at hS
 refine sR 131 hS (fun hS => ?_) (fun hS => ?_)
 ·refine zT (zrSeq (zrSeq (zrReg ?_)))
  cases hS
 ·refine zF (zrSeq (zrSeq (zrReg ?_)))
  refine sB 177 1 (ck 17 83) hS (fun hS => ?_) (fun hS => ?_)
  ·refine zL 1 2 (zE (zkSeq (zT ?_)))
   exact zrSkip (zkSeq (f101_j2_ok hd a1 a2 a3 a4 hQ true hS (by kernel_rfl)))
  ·refine zL 1 2 (zE (zkSeq (zF (zrReg ?_))))
   refine sB 178 1 (ck 17 84) hS (fun hS => ?_) (fun hS => ?_)
   ·refine zL 1 2 (zE (zkSeq ?_))
    exact f101_j2_ok hd a1 a2 a3 a4 hQ true hS (by kernel_rfl)
   ·refine zL 1 2 (zE (zkSeq ?_))
    exact f101_j2_ok hd a1 a2 a3 a4 hQ false hS (by kernel_rfl)
def f101_j0_J (a1 : Int) (a2 : Int) (a3 : Int) (a4 : Gterminal) (p13 : Bool) : St := ⟨(up (up (up (up (up (up (up (up (up (up u0 1000003 .un) 1000002 .un) 1000001 .un) 18 (dB p13)) 17 (dI a1)) 9 (dI a4.Screen.Grid.Wide)) 3 (dI a3)) 2 (dI a2)) 1 (dI a1)) 0 (pt 0)), (up (up (up (up h0 3 ⟨1, some (go2_Gterminal a4)⟩) 2 ⟨1, some (go1_Gterminal a4)⟩) 1 ⟨1, some (go0_Gterminal a4)⟩) 0 ⟨0, some (.box (bm_Gterminal a4 1 1 2 1 3 1))⟩)⟩
def f101_j0 (a1 : Int) (a2 : Int) (a3 : Int) (a4 : Gterminal) (p13 : Bool) : Option (Gterminal) := (bif p13 then none else (bif (decide (a1 = 74)) then none else (bif (decide (a1 = 75)) then none else (bif (decide (a1 = 88)) then none else (bif (decide (a1 = 76)) then (f101_j1 a1 a2 a3 a4 true) else (bif (decide (a1 = 77)) then (f101_j1 a1 a2 a3 a4 true) else (f101_j1 a1 a2 a3 a4 false)))))))
theorem f101_j0_ok {d : Nat} (hd : 1 ≤ d) (a1 : Int) (a2 : Int) (a3 : Int) (a4 : Gterminal) {r : Gterminal} {Q : PQ} (hQ : FQ (f101_Q r) Q) (p13 : Bool) (hS : f101_j0 a1 a2 a3 a4 p13 = some r) {st : St} (he : keepSt [0, 1, 2, 3, 9, 17, 18, 1000001, 1000002, 1000003] [(0, .id 0), (1, .id 1), (2, .id 2), (3, .id 3)] [] st = f101_j0_J a1 a2 a3 a4 p13) : ZR (lev codes baseL (d - 1)) Q c101_4 [.blk 0, .seq c101_2] st := by
 refine zrKeep he ?_
 unfold f101_j0 at hS
 refine sR 18 hS (fun hS => ?_) (fun hS => ?_)
 ·refine zT (zrSeq (zrSeq (zrReg ?_)))
  cases hS
 ·refine zF (zrSeq (zrReg ?_))
  refine sB 50 1 (ck 17 74) hS (fun hS => ?_) (fun hS => ?_)
  ·refine zL 1 2 (zE (zkSeq (zT (zrSeq (zrSeq (zrReg ?_))))))
   cases hS
  ·refine zL 1 2 (zE (zkSeq (zF (zrSeq (zrReg ?_)))))
   refine sB 104 1 (ck 17 75) hS (fun hS => ?_) (fun hS => ?_)
   ·refine zL 1 2 (zE (zkSeq (zT (zrReg ?_))))
    cases hS
   ·refine zL 1 2 (zE (zkSeq (zF (zrSeq (zrReg ?_)))))
    refine sB 109 1 (ck 17 88) hS (fun hS => ?_) (fun hS => ?_)
    ·refine zL 1 2 (zE (zkSeq (zT ?_)))
     refine zrRegD ?_
     cases hS
    ·refine zL 1 2 (zE (zkSeq (zF (zrSeq (zrSeq (zrReg ?_))))))
     refine sB 132 1 (ck 17 76) hS (fun hS => ?_) (fun hS => ?_)
     ·refine zL 1 2 (zE (zkSeq (zT ?_)))
      exact zrSkip (zkSeq (f101_j1_ok hd a1 a2 a3 a4 hQ true hS (by kernel_rfl)))
     ·refine zL 1 2 (zE (zkSeq (zF (zrReg ?_))))
      refine sB 133 1 (ck 17 77) hS (fun hS => ?_) (fun hS => ?_)
      ·refine zL 1 2 (zE (zkSeq ?_))
       exact f101_j1_ok hd a1 a2 a3 a4 hQ true hS (by kernel_rfl)
      ·refine zL 1 2 (zE (zkSeq ?_))
       exact f101_j1_ok hd a1 a2 a3 a4 hQ false hS (by kernel_rfl)
def f101 (a1 : Int) (a2 : Int) (a3 : Int) (a4 : Gterminal) : Option (Gterminal) := (bif (decide (a1 = 64)) then (f101_j0 a1 a2 a3 a4 true) else (bif (decide (a1 = 80)) then (f101_j0 a1 a2 a3 a4 true) else (f101_j0 a1 a2 a3 a4 false)))
theorem f101_ok (d : Nat) (hd : 1 ≤ d) (a1 : Int) (a2 : Int) (a3 : Int) (a4 : Gterminal) (r : Gterminal) (hS : f101 a1 a2 a3 a4 = some r) : lev codes baseL d 101 [(pt 0), (dI a1), (dI a2), (dI a3)] (gb_Gterminal a4 1 2 3) = some ((dB false), (gb_Gterminal r 1 2 3)) := by
 refine lev_go codes101 rfl rfl (Nat.le_trans (Nat.le_of_ble_eq_true rfl) hd) fun Q hQ => ?_
 unfold f101 at hS
 show ZR _ Q c101_b [] _
 replace hQ : FQ (f101_Q r) Q := hQ
 refine zrSeq (zrReg (zL 1 1 (zE (zkSeq (zrSeq (zrReg (zL 7 7 (zE (zkSeq (zrSeq (zrSeq (zrReg (zL 1 1 (zE (zkSeq ?_)))))))))))))))
 refine zrBlk (zrSeq (zrSeq (zrReg ?_)))
 refine sB 19 1 (ck 17 64) hS (fun hS => ?_) (fun hS => ?_)
 ·refine zL 1 2 (zE (zkSeq (zT ?_)))
  exact zrSkip (zkSeq (f101_j0_ok hd a1 a2 a3 a4 hQ true hS (by kernel_rfl)))
 ·refine zL 1 2 (zE (zkSeq (zF (zrReg ?_))))
  refine sB 20 1 (ck 17 80) hS (fun hS => ?_) (fun hS => ?_)
  ·refine zL 1 2 (zE (zkSeq ?_))
   exact f101_j0_ok hd a1 a2 a3 a4 hQ true hS (by kernel_rfl)
  ·refine zL 1 2 (zE (zkSeq ?_))
   exact f101_j0_ok hd a1 a2 a3 a4 hQ false hS (by kernel_rfl)
/- farwriter/pen.Sgr$1 -/
def f150_fin (p2 : Bool) : St := ⟨(up u0 2 (dB p2)), h0⟩
theorem f150_out (p2 : Bool) : outR (f150_fin p2) 0 c150.res = some ((dB p2), []) := by
 kernel_rfl
def f150_Q (r : Bool) (e : PX) (st : St) : Prop := DoneF c150 0 ((dB r), []) e st
def f150 (a1 : Int) : Option (Bool) := (bif (decide (a1 < (-1))) then (some true) else (bif (decide (16383 < a1)) then (some true) else (some false)))
theorem f150_ok (d : Nat) (hd : 1 ≤ d) (a1 : Int) (r : Bool) (hS : f150 a1 = some r) : lev codes baseL d 150 [(dI a1)] [] = some ((dB r), []) := by
 refine lev_go codes150 rfl rfl (Nat.le_trans (Nat.le_of_ble_eq_true rfl) hd) fun Q hQ => ?_
 unfold f150 at hS
 show ZR _ Q c150_b [] _
 replace hQ : FQ (f150_Q r) Q := hQ
 refine zrSeq (zrReg (zL 1 1 (zE (zkSeq (zrSeq (zrReg (zL 1 1 ?_)))))))
 refine sB 4 2 (.cmpI .lss (tm 3) (ki (-1))) hS (fun hS => ?_) (fun hS => ?_)
 ·refine zL 5 7 (zE (zkSeq ?_))
  exact zrRet (zkNil (endQ hS hQ (fR (f150_out true))))
 ·refine zL 2 4 (sH 7 5 5 false (.cmpI .gtr (tm 6) (ki 16383)) hS (fun hS => ?_) (fun hS => ?_))
  ·refine zL 2 7 (zE (zkSeq ?_))
   exact zrRet (zkNil (endQ hS hQ (fR (f150_out true))))
  ·refine zL 2 7 (zE (zkSeq ?_))
   exact zrRet (zkNil (endQ hS hQ (fR (f150_out false))))
/- slices.IndexFunc[[]int,int] -/
def f82v2_fin (p8 : Int) : St := ⟨(up u0 4 (dI p8)), h0⟩
theorem f82v2_out (p8 : Int) : outR (f82v2_fin p8) 0 c82.res = some ((dI p8), []) := by
 kernel_rfl
def f82v2_Q (r : Int) (e : PX) (st : St) : Prop := DoneF c82 0 ((dI r), []) e st
def f82v2_l0_J (a1 : List Int) (x : Int) : St := ⟨(up (up (up (up u0 8 (dI x)) 7 (dI (a1.length : Int))) 1 (.fn 150 [])) 0 (dL a1)), h0⟩
def f82v2_l0_H (a1 : List Int) (x : Int) (st : St) : Prop := keepSt [0, 1, 7, 8] [] [] st = f82v2_l0_J a1 x
def f82v2_l0_e0_J (a1 : List Int) : St := ⟨u0, h0⟩
def f82v2_l0_X (a1 : List Int) (z : Unit ⊕ Int) (e : PX) (st : St) : Prop := (match z with | .inl z => e = .exit 0 ∧ st = f82v2_l0_e0_J a1 | .inr z => e = .ret ∧ finSt c82.fin st = f82v2_fin z)
def f82v2_l0_j2_J (a1 : List Int) (p13 : Int) : St := ⟨(up (up (up (up u0 8 (dI p13)) 7 (dI (a1.length : Int))) 1 (.fn 150 [])) 0 (dL a1)), h0⟩
def f82v2_l0_j2 (a1 : List Int) (p13 : Int) : Option (Int ⊕ (Unit ⊕ Int)) := ((idx a1 p13).bind fun z7 => ((f150 z7).bind fun z8 => (bif z8 then (some (.inr (.inr p13))) else (some (.inl (IntKind.i64.wrap (p13 + 1)))))))
theorem f82v2_l0_j2_ok {d : Nat} (hd : 2 ≤ d) (a1 : List Int) {r : Int ⊕ (Unit ⊕ Int)} {Q : PQ} (hQ : FQ (finL (f82v2_l0_H a1) (f82v2_l0_X a1) r) Q) (p13 : Int) (hS : f82v2_l0_j2 a1 p13 = some r) {st : St} (he : keepSt [0, 1, 7, 8] [] [] st = f82v2_l0_j2_J a1 p13) : ZR (lev codes baseL (d - 1)) Q c82_1 [] st := by
 refine zrKeep he ?_
 unfold f82v2_l0_j2 at hS
 refine zrSeq (zrBlk (zrSeq (zrReg (zL 2 2 (zE (zkSeq (zrSeq (zrReg (zL 3 3 ?_)))))))))
 refine bindE hS (fun z7 hz7 hS => zO (v := (.rptr (eI.enc z7 ++ (eI.cells (a1.drop ((p13 : Int).toNat + 1)))))) (ups := []) (some 14) 4 (.ixS 3 1 (tm 12) (tm 13)) (ev_ixS eI (kk := .i64) (xs := a1) (j := p13) (by kernel_rfl) (by kernel_rfl) hz7 rfl (by intro h; cases h)) (zL 1 5 (bindE hS (fun z8 hz8 hS => zO (v := (dB z8)) (ups := []) (some 16) 6 (.callv (tm 11) [(tm 15)]) (ev_callv (f := 150) (cs := []) (by kernel_rfl) (args := [(dI z7)]) (l := [(dI z7)]) (r := (dB z8)) (by kernel_rfl) (by kernel_rfl) (f150_ok (d - 1) (dpt hd rfl) z7 z8 hz8) (by kernel_rfl) (by kernel_rfl) (by kernel_rfl)) (zE (zkSeq ?_))))))
 refine sR 16 hS (fun hS => ?_) (fun hS => ?_)
 ·refine zT (zrSeq (zrReg (zL 2 2 (zE (zkSeq ?_)))))
  exact zrRet (zkBlkR (zkSeqR (zkNil (eX1 hS hQ))))
 ·refine zF (zrSkip (zkBlk (zkSeq (zrReg (zL 2 2 (zE ?_))))))
  exact zkNil (eN1 hS hQ)
def f82v2_l0_j1_J (a1 : List Int) (p11 : Int) (p12 : Bool) : St := ⟨(up (up (up (up (up u0 9 (dB p12)) 8 (dI p11)) 7 (dI (a1.length : Int))) 1 (.fn 150 [])) 0 (dL a1)), h0⟩
def f82v2_l0_j1 (a1 : List Int) (p11 : Int) (p12 : Bool) : Option (Int ⊕ (Unit ⊕ Int)) := (bif p12 then (f82v2_l0_j2 a1 p11) else (some (.inr (.inl ()))))
theorem f82v2_l0_j1_ok {d : Nat} (hd : 2 ≤ d) (a1 : List Int) {r : Int ⊕ (Unit ⊕ Int)} {Q : PQ} (hQ : FQ (finL (f82v2_l0_H a1) (f82v2_l0_X a1) r) Q) (p11 : Int) (p12 : Bool) (hS : f82v2_l0_j1 a1 p11 p12 = some r) {st : St} (he : keepSt [0, 1, 7, 8, 9] [] [] st = f82v2_l0_j1_J a1 p11 p12) : ZR (lev codes baseL (d - 1)) Q c82_2 [] st := by
 refine zrKeep he ?_
 unfold f82v2_l0_j1 at hS
 refine zrSeq (sR 9 hS (fun hS => ?_) (fun hS => ?_))
 ·exact zT (zrSkip (zkSeq (f82v2_l0_j2_ok hd a1 hQ p11 hS (by kernel_rfl))))
 ·exact zF (zrKeep (J := f82v2_l0_e0_J a1) (by kernel_rfl) (zrExit (zkSeqX (zkNil (eX0 hS hQ)))))
def f82v2_l0 (a1 : List Int) (x : Int) : Option (Int ⊕ (Unit ⊕ Int)) := (bif (decide (x < (a1.length : Int))) then (f82v2_l0_j1 a1 x true) else (f82v2_l0_j1 a1 x false))
theorem f82v2_l0_ok {d : Nat} (hd : 2 ≤ d) (a1 : List Int) {r : Int ⊕ (Unit ⊕ Int)} {Q : PQ} (hQ : FQ (finL (f82v2_l0_H a1) (f82v2_l0_X a1) r) Q) {x : Int} (hS : f82v2_l0 a1 x = some r) {st : St} (he : f82v2_l0_H a1 x st) : ZR (lev codes baseL (d - 1)) Q c82_3 [] st := by
 refine zrKeep he ?_
 unfold f82v2_l0 at hS
 refine zrSeq (zrReg ?_)
 refine sB 9 1 (.cmpI .lss (tm 8) (tm 7)) hS (fun hS => ?_) (fun hS => ?_)
 ·refine zE (zkSeq ?_)
  exact f82v2_l0_j1_ok hd a1 hQ x true hS (by kernel_rfl)
 ·refine zE (zkSeq ?_)
  exact f82v2_l0_j1_ok hd a1 hQ x false hS (by kernel_rfl)
def f82v2 (a1 : List Int) : Option (Int) := ((loopO (f82v2_l0 a1) 0).bind fun z9 => (Sum.elim (fun z10 => (some (-1))) (fun z11 => (some z11)) z9))
theorem f82v2_ok (d : Nat) (hd : 2 ≤ d) (a1 : List Int) (r : Int) (hS : f82v2 a1 = some r) : lev codes baseL d 82 [(dL a1), (.fn 150 [])] [] = some ((dI r), []) := by
 refine lev_go codes82 rfl rfl (Nat.le_trans (Nat.le_of_ble_eq_true rfl) hd) fun Q hQ => ?_
 unfold f82v2 at hS
 show ZR _ Q c82_b [] _
 replace hQ : FQ (f82v2_Q r) Q := hQ
 refine zrSeq (zrReg (zL 1 1 (zE (zkSeq (zrSeq (zrSeq (zrReg (zL 3 3 (zE (zkSeq ?_))))))))))
 refine zrBlk (bindE hS (fun z9 hz9 hS => zrLoop (f82v2_l0_H a1) (f82v2_l0_X a1) (fun x st r Q h0 hS hQ => f82v2_l0_ok hd a1 hQ hS h0) (x := 0) (z := z9) (by show keepSt _ _ _ _ = _; kernel_rfl) hz9 ?_))
 rcases z9 with z10 | z11
 ·replace hS := (show _ = _ from hS)
  simp only [Sum.elim_inl] at hS
  intro e st' _ hX
  obtain ⟨rfl, rfl⟩ : _ ∧ _ := hX
  refine zkBlkX (zkSeq (zrSeq (zrReg (zL 1 1 (zE (zkSeq ?_))))))
  exact zrRet (zkNil (endQ hS hQ (fR (f82v2_out (-1)))))
 ·simp only [Sum.elim_inr] at hS
  intro e st' _ hX
  obtain ⟨rfl, hX⟩ : _ ∧ _ := hX
  exact zkBlkR (zkSeqR (zkNil (endQ hS hQ (fRet (by kernel_rfl) ((congrArg (fun s => outR s 0 c82.res) hX).trans (f82v2_out z11))))))
/- slices.ContainsFunc[[]int,int] -/
def f59v2_fin (p2 : Bool) : St := ⟨(up u0 4 (dB p2)), h0⟩
theorem f59v2_out (p2 : Bool) : outR (f59v2_fin p2) 0 c59.res = some ((dB p2), []) := by
 kernel_rfl
def f59v2_Q (r : Bool) (e : PX) (st : St) : Prop := DoneF c59 0 ((dB r), []) e st
def f59v2 (a1 : List Int) : Option (Bool) := ((f82v2 a1).bind fun z2 => (bif (decide (0 ≤ z2)) then (some true) else (some false)))
theorem f59v2_ok (d : Nat) (hd : 3 ≤ d) (a1 : List Int) (r : Bool) (hS : f59v2 a1 = some r) : lev codes baseL d 59 [(dL a1), (.fn 150 [])] [] = some ((dB r), []) := by
 refine lev_go codes59 rfl rfl (Nat.le_trans (Nat.le_of_ble_eq_true rfl) hd) fun Q hQ => ?_
 unfold f59v2 at hS
 show ZR _ Q c59_b [] _
 replace hQ : FQ (f59v2_Q r) Q := hQ
 refine zrSeq (zrReg (zL 1 1 (zE (zkSeq (zrSeq (zrReg (zL 2 2 ?_)))))))
 refine bindE hS (fun z2 hz2 hS => zO (some 7) 3 (.call 82 [(tm 5), (tm 6)]) (ev_cA (f82v2_ok (d - 1) (dpt hd rfl) a1 z2 hz2)) (sB 8 4 (.cmpI .geq (tm 7) (ki 0)) hS (fun hS => ?_) (fun hS => ?_)))
 ·refine zL 1 5 (zE (zkSeq ?_))
  exact zrRet (zkNil (endQ hS hQ (fR (f59v2_out true))))
 ·refine zL 1 5 (zE (zkSeq ?_))
  exact zrRet (zkNil (endQ hS hQ (fR (f59v2_out false))))
end
end Go.Proofs.YtbokpgemkkebnaaGreatDoor.Pm
