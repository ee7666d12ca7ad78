/- Typed functions, and that the codes are these. Printed by dec.py. -/
import Derived.Test.YtjoccdgmcdkbkaaGreatDoorDSsC
namespace Go.Proofs.YtjoccdgmcdkbkaaGreatDoor.Pm
set_option maxRecDepth 1000000
set_option maxHeartbeats 20000000
set_option linter.unusedVariables false
/- slices.Clone[[]farwriter/api.Act,farwriter/api.Act] -/
def f19_fin (p1 : List GAct) : St := ⟨(up u0 2 (.r (.msl 97 0 0 p1.length))), (up h0 97 ⟨0, some (.own 45 6 (e_GAct.cells p1))⟩)⟩
theorem f19_out (p1 : List GAct) : outR (f19_fin p1) 0 c19.res = some ((.r (.own 0 45 6 p1.length (e_GAct.cells p1))), []) := by
  exact out_of (ids := []) (ids' := [97]) (l := [(.r (.msl 97 0 0 p1.length))]) (by kernel_rfl) (by kernel_rfl) (o_own e_GAct (e := 45) (k := 6) (xs := p1) (by kernel_rfl) rfl rfl rfl rfl)
def f19_Q (r : List GAct) (e : PX) (st : St) : Prop := DoneF c19 0 ((.r (.own 0 45 6 r.length (e_GAct.cells r))), []) e st
noncomputable def f19 (a1 : List GAct) : Option (List GAct) := ((app? 80 ([] : List GAct) a1).bind fun z2 => (some z2))
theorem f19_ok (d : Nat) (hd : 1 ≤ d) (a1 : List GAct) (r : List GAct) (hS : f19 a1 = some r) : lev codes baseL d 19 [(.d (.sl a1.length (e_GAct.cells a1)))] [] = some ((.r (.own 0 45 6 r.length (e_GAct.cells r))), []) := by
  refine lev_goZ codes19 rfl rfl (Nat.le_trans (Nat.le_of_ble_eq_true rfl) hd) (fun Q hQ => ?_) (fun h0 Q hQ => ?_)
  · unfold f19 at hS
    show ZR _ Q c19_b [] _
    refine zrSeq (zrReg (zL 1 1 (zE (zkSeq (zrSeq (zrSeq (zrReg (zL 2 2 (zE (zkSeq (zF ?_)))))))))))
    refine zrSkip ?_
    refine zkSeq (zrSeq (zrReg (zL 2 2 ?_)))
    refine bindE hS (fun z2 hz2 hS => ?_)
    refine zO (v := (.r (.msl 48 2 0 z2.length))) (ups := [(48, ⟨2, some (.own 45 6 (e_GAct.cells z2))⟩)]) (some 7) 3 (.app 45 6 80 (tm 5) (tm 6)) (ev_app e_GAct (b := 48) (g := 1) (n := ([] : List GAct).length) (xs := []) (ys := a1) ((congrArg (asL _) (by kernel_rfl : ρof _ (.tmp 6) = (.slz false a1.length (e_GAct.cells a1)))).trans rfl) rfl (by kernel_rfl) rfl (by kernel_rfl) rfl hz2) ?_
    refine zL 1 4 (zE (zkSeq ?_))
    refine zrRet ?_
    refine zkNil ?_
    exact endQ (F := f19_Q) hS hQ (fRet (by kernel_rfl) ((congrArg (fun s => outR s 0 c19.res) (by kernel_rfl : finSt c19.fin _ = f19_fin z2)).trans (f19_out z2)))
  · have hS : (some []) = some r := by
      have hl := List.eq_nil_of_length_eq_zero h0
      subst hl
      simpa [f19, app?] using hS
    show ZR _ Q c19_b [] _
    refine zrSeq (zrReg (zL 1 1 (zE (zkSeq (zrSeq (zrSeq (zrReg (zL 2 2 (zE (zkSeq (zT (zrSeq (zrReg (zL 1 1 (zE (zkSeq ?_))))))))))))))))
    refine zrRet ?_
    refine zkSeqR ?_
    refine zkNil ?_
    exact endQ (F := f19_Q) hS hQ (fRet (by kernel_rfl) ((congrArg (fun s => outR s 0 c19.res) (by kernel_rfl : finSt c19.fin _ = f19_fin [])).trans (f19_out [])))
/- farwriter/grid.size -/
def f74_fin (p2 : Int) : St := ⟨(up u0 4 (dI p2)), h0⟩
theorem f74_out (p2 : Int) : outR (f74_fin p2) 0 c74.res = some ((dI p2), []) := by
  kernel_rfl
def f74_Q (r : Int) (e : PX) (st : St) : Prop := DoneF c74 0 ((dI r), []) e st
noncomputable def f74 (a1 : Int) (a2 : Int) : Option (Int) := (bif (decide (a1 < 1)) then (some 1) else (bif (decide (160 < a1)) then (some 1) else (bif (decide (a2 < 1)) then (some 1) else (bif (decide (60 < a2)) then (some 1) else (some 0)))))
theorem f74_ok (d : Nat) (hd : 1 ≤ d) (a1 : Int) (a2 : Int) (r : Int) (hS : f74 a1 a2 = some r) : lev codes baseL d 74 [(dI a1), (dI a2)] [] = some ((dI r), []) := by
  refine lev_go codes74 rfl rfl (Nat.le_trans (Nat.le_of_ble_eq_true rfl) hd) fun Q hQ => ?_
  unfold f74 at hS
  show ZR _ Q c74_b [] _
  replace hQ : ∀ e st', f74_Q r e st' → Q e st' := hQ
  refine zrSeq (zrReg (zL 1 1 (zE (zkSeq (zrSeq (zrSeq (zrReg (zL 1 1 ?_))))))))
  refine zB 6 2 (.cmpI .lss (tm 5) (ki 1)) (decide (a1 < 1)) (fun hc => ?_) (fun hc => ?_)
  · replace hS := cond_t hc hS
    refine zL 12 14 (zE (zkSeq (zT (zrSeq (zrReg (zL 1 1 (zE (zkSeq ?_))))))))
    refine zrRet ?_
    refine zkSeqR ?_
    refine zkNil ?_
    exact endQ hS hQ (fR (f74_out 1))
  · replace hS := cond_f hc hS
    refine zL 2 4 ?_
    refine zlBool (d := 9) (op := (.cmpI .gtr (tm 8) (ki 160))) (g := (some (7, false))) (j := 5) (decide (160 < a1)) rfl (by kernel_rfl) (by kernel_rfl) (by kernel_rfl) (fun hc => ?_) (fun hc => ?_)
    · replace hS := cond_t hc hS
      refine zL 9 14 (zE (zkSeq (zT (zrSeq (zrReg (zL 1 1 (zE (zkSeq ?_))))))))
      refine zrRet ?_
      refine zkSeqR ?_
      refine zkNil ?_
      exact endQ hS hQ (fR (f74_out 1))
    · replace hS := cond_f hc hS
      refine zL 3 8 ?_
      refine zlBool (d := 13) (op := (.cmpI .lss (tm 12) (ki 1))) (g := (some (11, false))) (j := 9) (decide (a2 < 1)) rfl (by kernel_rfl) (by kernel_rfl) (by kernel_rfl) (fun hc => ?_) (fun hc => ?_)
      · replace hS := cond_t hc hS
        refine zL 5 14 (zE (zkSeq (zT (zrSeq (zrReg (zL 1 1 (zE (zkSeq ?_))))))))
        refine zrRet ?_
        refine zkSeqR ?_
        refine zkNil ?_
        exact endQ hS hQ (fR (f74_out 1))
      · replace hS := cond_f hc hS
        refine zL 3 12 ?_
        refine zlBool (d := 17) (op := (.cmpI .gtr (tm 16) (ki 60))) (g := (some (15, false))) (j := 13) (decide (60 < a2)) rfl (by kernel_rfl) (by kernel_rfl) (by kernel_rfl) (fun hc => ?_) (fun hc => ?_)
        · replace hS := cond_t hc hS
          refine zL 1 14 (zE (zkSeq (zT (zrSeq (zrReg (zL 1 1 (zE (zkSeq ?_))))))))
          refine zrRet ?_
          refine zkSeqR ?_
          refine zkNil ?_
          exact endQ hS hQ (fR (f74_out 1))
        · replace hS := cond_f hc hS
          refine zL 1 14 (zE (zkSeq (zF ?_)))
          refine zrSkip ?_
          refine zkSeq (zrSeq (zrReg (zL 1 1 (zE (zkSeq ?_)))))
          refine zrRet ?_
          refine zkNil ?_
          exact endQ hS hQ (fR (f74_out 0))
/- farwriter/grid.row -/
def f75_fin (p1 : List GCell) : St := ⟨(up (up u0 2000000 .un) 4 (.d (.sl p1.length (e_GCell.cells p1)))), (up h0 0 ⟨0, none⟩)⟩
theorem f75_out (p1 : List GCell) : outR (f75_fin p1) 0 c75.res = some ((.d (.sl p1.length (e_GCell.cells p1))), []) := by
  kernel_rfl
def f75_Q (r : (List GCell)) (e : PX) (st : St) : Prop := DoneF c75 0 ((.d (.sl r.length (e_GCell.cells r))), [.box []]) e st
noncomputable def f75 (a1 : GGrid) (a2 : Int) : Option ((List GCell)) := ((sub? a1.Cells (IntKind.i64.wrap (a2 * a1.Wide)) (IntKind.i64.wrap ((IntKind.i64.wrap (a2 + 1)) * a1.Wide))).bind fun z2 => (some z2))
theorem f75_ok (d : Nat) (hd : 1 ≤ d) (a1 : GGrid) (a2 : Int) (r : (List GCell)) (hS : f75 a1 a2 = some r) : lev codes baseL d 75 [(.agg ((dI a1.Wide) :: ((dI a1.High) :: ((.d (.sl a1.Cells.length (e_GCell.cells a1.Cells))) :: [])))), (dI a2)] [] = some ((.d (.sl r.length (e_GCell.cells r))), [.box []]) := by
  refine lev_go codes75 rfl rfl (Nat.le_trans (Nat.le_of_ble_eq_true rfl) hd) fun Q hQ => ?_
  unfold f75 at hS
  show ZR _ Q c75_b [] _
  replace hQ : ∀ e st', f75_Q r e st' → Q e st' := hQ
  refine zrSeq (zrReg (zL 2 2 (zE (zkSeq (zrSeq (zrReg (zL 11 11 ?_)))))))
  refine bindE hS (fun z2 hz2 hS => ?_)
  refine zO (v := (.d (.sl z2.length (e_GCell.cells z2)))) (ups := []) (some 16) 12 (.slS 58 4 (tm 6) (.some (tm 10)) (.some (tm 15))) (ev_slS e_GCell (xs := a1.Cells) (a := (IntKind.i64.wrap (a2 * a1.Wide))) (c := (IntKind.i64.wrap ((IntKind.i64.wrap (a2 + 1)) * a1.Wide))) (by kernel_rfl) rfl (bnd_s _ (kk := .i64) (j := (IntKind.i64.wrap (a2 * a1.Wide))) (by kernel_rfl)) (bnd_s _ (kk := .i64) (j := (IntKind.i64.wrap ((IntKind.i64.wrap (a2 + 1)) * a1.Wide))) (by kernel_rfl)) hz2) ?_
  refine zL 1 13 (zE (zkSeq ?_))
  refine zrRet ?_
  refine zkNil ?_
  exact endQ hS hQ (fRetX (by kernel_rfl) (by kernel_rfl : finSt c75.fin _ = f75_fin z2) (by kernel_rfl) (f75_out z2))
/- farwriter/pen.color -/
def f78_fin (p6 : Bool) : St := ⟨(up u0 2 (dB p6)), h0⟩
theorem f78_out (p6 : Bool) : outR (f78_fin p6) 0 c78.res = some ((dB p6), []) := by
  kernel_rfl
def f78_Q (r : Bool) (e : PX) (st : St) : Prop := DoneF c78 0 ((dB r), []) e st
noncomputable def f78 (a1 : Int) : Option (Bool) := (bif (decide (0 ≤ a1)) then (bif (decide (a1 ≤ 256)) then (some true) else (bif (decide (16777216 ≤ a1)) then (bif (decide (a1 < 33554432)) then (some true) else (some false)) else (some false))) else (bif (decide (16777216 ≤ a1)) then (bif (decide (a1 < 33554432)) then (some true) else (some false)) else (some false)))
theorem f78_ok (d : Nat) (hd : 1 ≤ d) (a1 : Int) (r : Bool) (hS : f78 a1 = some r) : lev codes baseL d 78 [(dI a1)] [] = some ((dB r), []) := by
  refine lev_go codes78 rfl rfl (Nat.le_trans (Nat.le_of_ble_eq_true rfl) hd) fun Q hQ => ?_
  unfold f78 at hS
  show ZR _ Q c78_b [] _
  replace hQ : ∀ e st', f78_Q r e st' → Q e st' := hQ
  refine zrSeq (zrReg (zL 1 1 (zE (zkSeq (zrSeq (zrReg (zL 1 1 ?_)))))))
  refine zB 4 2 (.cmpI .geq (tm 3) (ki 0)) (decide (0 ≤ a1)) (fun hc => ?_) (fun hc => ?_)
  · replace hS := cond_t hc hS
    refine zL 2 4 ?_
    refine zlBool (d := 7) (op := (.cmpI .leq (tm 6) (ki 256))) (g := (some (5, true))) (j := 5) (decide (a1 ≤ 256)) rfl (by kernel_rfl) (by kernel_rfl) (by kernel_rfl) (fun hc => ?_) (fun hc => ?_)
    · replace hS := cond_t hc hS
      refine zL 10 15 (zE (zkSeq ?_))
      refine zrRet ?_
      refine zkNil ?_
      exact endQ hS hQ (fR (f78_out true))
    · replace hS := cond_f hc hS
      refine zL 3 8 ?_
      refine zlBool (d := 11) (op := (.cmpI .geq (tm 10) (ki 16777216))) (g := (some (9, false))) (j := 9) (decide (16777216 ≤ a1)) rfl (by kernel_rfl) (by kernel_rfl) (by kernel_rfl) (fun hc => ?_) (fun hc => ?_)
      · replace hS := cond_t hc hS
        refine zL 2 11 ?_
        refine zlBool (d := 14) (op := (.cmpI .lss (tm 13) (ki 33554432))) (g := (some (12, true))) (j := 12) (decide (a1 < 33554432)) rfl (by kernel_rfl) (by kernel_rfl) (by kernel_rfl) (fun hc => ?_) (fun hc => ?_)
        · replace hS := cond_t hc hS
          refine zL 3 15 (zE (zkSeq ?_))
          refine zrRet ?_
          refine zkNil ?_
          exact endQ hS hQ (fR (f78_out true))
        · replace hS := cond_f hc hS
          refine zL 3 15 (zE (zkSeq ?_))
          refine zrRet ?_
          refine zkNil ?_
          exact endQ hS hQ (fR (f78_out false))
      · replace hS := cond_f hc hS
        refine zL 6 15 (zE (zkSeq ?_))
        refine zrRet ?_
        refine zkNil ?_
        exact endQ hS hQ (fR (f78_out false))
  · replace hS := cond_f hc hS
    refine zL 6 8 ?_
    refine zlBool (d := 11) (op := (.cmpI .geq (tm 10) (ki 16777216))) (g := (some (9, false))) (j := 9) (decide (16777216 ≤ a1)) rfl (by kernel_rfl) (by kernel_rfl) (by kernel_rfl) (fun hc => ?_) (fun hc => ?_)
    · replace hS := cond_t hc hS
      refine zL 2 11 ?_
      refine zlBool (d := 14) (op := (.cmpI .lss (tm 13) (ki 33554432))) (g := (some (12, true))) (j := 12) (decide (a1 < 33554432)) rfl (by kernel_rfl) (by kernel_rfl) (by kernel_rfl) (fun hc => ?_) (fun hc => ?_)
      · replace hS := cond_t hc hS
        refine zL 3 15 (zE (zkSeq ?_))
        refine zrRet ?_
        refine zkNil ?_
        exact endQ hS hQ (fR (f78_out true))
      · replace hS := cond_f hc hS
        refine zL 3 15 (zE (zkSeq ?_))
        refine zrRet ?_
        refine zkNil ?_
        exact endQ hS hQ (fR (f78_out false))
    · replace hS := cond_f hc hS
      refine zL 6 15 (zE (zkSeq ?_))
      refine zrRet ?_
      refine zkNil ?_
      exact endQ hS hQ (fR (f78_out false))
/- farwriter/pen.Check -/
def f50_fin (p2 : Int) : St := ⟨(up u0 2 (dI p2)), h0⟩
theorem f50_out (p2 : Int) : outR (f50_fin p2) 0 c50.res = some ((dI p2), []) := by
  kernel_rfl
def f50_Q (r : Int) (e : PX) (st : St) : Prop := DoneF c50 0 ((dI r), []) e st
noncomputable def f50 (a1 : GPen) : Option (Int) := (bif (decide (a1.Flags < 0)) then (some 4) else (bif (decide (255 < a1.Flags)) then (some 4) else ((f78 a1.Fore).bind fun z3 => (bif (!z3) then (some 4) else ((f78 a1.Back).bind fun z4 => (bif (!z4) then (some 4) else (some 0)))))))
theorem f50_ok (d : Nat) (hd : 2 ≤ d) (a1 : GPen) (r : Int) (hS : f50 a1 = some r) : lev codes baseL d 50 [(.agg ((dI a1.Flags) :: ((dI a1.Fore) :: ((dI a1.Back) :: []))))] [] = some ((dI r), []) := by
  refine lev_go codes50 rfl rfl (Nat.le_trans (Nat.le_of_ble_eq_true rfl) hd) fun Q hQ => ?_
  unfold f50 at hS
  show ZR _ Q c50_b [] _
  replace hQ : ∀ e st', f50_Q r e st' → Q e st' := hQ
  refine zrSeq (zrReg (zL 2 2 (zE (zkSeq (zrSeq (zrSeq (zrReg (zL 2 2 ?_))))))))
  refine zB 5 3 (.cmpI .lss (tm 4) (ki 0)) (decide (a1.Flags < 0)) (fun hc => ?_) (fun hc => ?_)
  · replace hS := cond_t hc hS
    refine zL 17 20 (zE (zkSeq (zT (zrSeq (zrReg (zL 1 1 (zE (zkSeq ?_))))))))
    refine zrRet ?_
    refine zkSeqR ?_
    refine zkNil ?_
    exact endQ hS hQ (fR (f50_out 4))
  · replace hS := cond_f hc hS
    refine zL 3 6 ?_
    refine zlBool (d := 9) (op := (.cmpI .gtr (tm 8) (ki 255))) (g := (some (6, false))) (j := 7) (decide (255 < a1.Flags)) rfl (by kernel_rfl) (by kernel_rfl) (by kernel_rfl) (fun hc => ?_) (fun hc => ?_)
    · replace hS := cond_t hc hS
      refine zL 13 20 (zE (zkSeq (zT (zrSeq (zrReg (zL 1 1 (zE (zkSeq ?_))))))))
      refine zrRet ?_
      refine zkSeqR ?_
      refine zkNil ?_
      exact endQ hS hQ (fR (f50_out 4))
    · replace hS := cond_f hc hS
      refine zL 4 11 ?_
      refine bindE hS (fun z3 hz3 hS => ?_)
      refine zlOp (d := some 14) (op := (.call 78 [(tm 13)])) (g := (some (11, false))) (j := 12) rfl (by kernel_rfl) (by kernel_rfl) (ev_callA (by kernel_rfl) (f78_ok (d - 1) (dpt hd rfl) a1.Fore z3 hz3) (by kernel_rfl) (by kernel_rfl)) ?_
      refine zL 3 15 ?_
      refine zlSplit 17 (!z3) (by kernel_rfl) (fun hc => ?_) (fun hc => ?_)
      · replace hS := cond_t hc hS
        refine zL 5 20 (zE (zkSeq (zT (zrSeq (zrReg (zL 1 1 (zE (zkSeq ?_))))))))
        refine zrRet ?_
        refine zkSeqR ?_
        refine zkNil ?_
        exact endQ hS hQ (fR (f50_out 4))
      · replace hS := cond_f hc hS
        refine zL 2 17 ?_
        refine bindE hS (fun z4 hz4 hS => ?_)
        refine zlOp (d := some 20) (op := (.call 78 [(tm 19)])) (g := (some (17, false))) (j := 18) rfl (by kernel_rfl) (by kernel_rfl) (ev_callA (by kernel_rfl) (f78_ok (d - 1) (dpt hd rfl) a1.Back z4 hz4) (by kernel_rfl) (by kernel_rfl)) ?_
        refine zL 2 20 (zE (zkSeq ?_))
        refine zrSplit 22 (!z4) (by kernel_rfl) (fun hc => ?_) (fun hc => ?_)
        · replace hS := cond_t hc hS
          refine zT (zrSeq (zrReg (zL 1 1 (zE (zkSeq ?_)))))
          refine zrRet ?_
          refine zkSeqR ?_
          refine zkNil ?_
          exact endQ hS hQ (fR (f50_out 4))
        · replace hS := cond_f hc hS
          refine zF ?_
          refine zrSkip ?_
          refine zkSeq (zrSeq (zrReg (zL 1 1 (zE (zkSeq ?_)))))
          refine zrRet ?_
          refine zkNil ?_
          exact endQ hS hQ (fR (f50_out 0))
/- farwriter/width.in -/
def f107_fin (p27 : Bool) : St := ⟨(up u0 4 (dB p27)), h0⟩
theorem f107_out (p27 : Bool) : outR (f107_fin p27) 0 c107.res = some ((dB p27), []) := by
  kernel_rfl
def f107_Q (r : Bool) (e : PX) (st : St) : Prop := DoneF c107 0 ((dB r), []) e st
def f107_l0_J (a1 : Int) (a2 : List (Int × Int)) (x : Int) : St := ⟨(up (up (up (up u0 9 (dI x)) 8 (dI (a2.length : Int))) 7 (.d (.sl a2.length (e_A31.cells a2)))) 0 (dI a1)), h0⟩
def f107_l0_H (a1 : Int) (a2 : List (Int × Int)) (x : Int) (st : St) : Prop := keepSt [0, 7, 8, 9] [] [] st = f107_l0_J a1 a2 x
def f107_l0_e0_J (a1 : Int) (a2 : List (Int × Int)) : St := ⟨u0, h0⟩
def f107_l0_X (a1 : Int) (a2 : List (Int × Int)) (z : Unit ⊕ Bool) (e : PX) (st : St) : Prop := (match z with | .inl z => e = .exit 0 ∧ st = f107_l0_e0_J a1 a2 | .inr z => e = .ret ∧ finSt c107.fin st = f107_fin z)
def f107_l0_j2_J (a1 : Int) (a2 : List (Int × Int)) (p32 : Int) : St := ⟨(up (up (up (up u0 9 (dI p32)) 8 (dI (a2.length : Int))) 7 (.d (.sl a2.length (e_A31.cells a2)))) 0 (dI a1)), h0⟩
noncomputable def f107_l0_j2 (a1 : Int) (a2 : List (Int × Int)) (p32 : Int) : Option (Int ⊕ (Unit ⊕ Bool)) := ((idx a2 p32).bind fun z4 => (bif (decide (z4.1 ≤ a1)) then (bif (decide (a1 ≤ z4.2)) then (some (.inr (.inr true))) else (some (.inl (IntKind.i64.wrap (p32 + 1))))) else (some (.inl (IntKind.i64.wrap (p32 + 1))))))
theorem f107_l0_j2_ok {d : Nat} (hd : 1 ≤ d) (a1 : Int) (a2 : List (Int × Int)) {r : Int ⊕ (Unit ⊕ Bool)} {Q : PX → St → Prop} (hQ : ∀ e st', finL (f107_l0_H a1 a2) (f107_l0_X a1 a2) r e st' → Q e st') (p32 : Int) (hS : f107_l0_j2 a1 a2 p32 = some r) {st : St} (he : keepSt [0, 7, 8, 9] [] [] st = f107_l0_j2_J a1 a2 p32) : ZR (lev codes baseL (d - 1)) Q c107_1 [] st := by
  refine zrKeep he ?_
  unfold f107_l0_j2 at hS
  refine zrSeq ?_
  refine zrBlk ?_
  refine zrSeq (zrReg ?_)
  refine bindE hS (fun z4 hz4 hS => ?_)
  refine zO (v := (.rptr (e_A31.enc z4 ++ (e_A31.cells (a2.drop ((p32 : Int).toNat + 1)))))) (ups := []) (some 11) 1 (.ixS 31 2 (tm 7) (tm 9)) (ev_ixS e_A31 (kk := .i64) (xs := a2) (j := p32) (by kernel_rfl) (by kernel_rfl) hz4 rfl (by intro h; cases h)) ?_
  refine zL 3 4 (zE (zkSeq (zrSeq (zrReg (zL 3 3 ?_)))))
  refine zB 16 4 (.cmpI .geq (tm 13) (tm 15)) (decide (z4.1 ≤ a1)) (fun hc => ?_) (fun hc => ?_)
  · replace hS := cond_t hc hS
    refine zL 4 8 ?_
    refine zlBool (d := 21) (op := (.cmpI .leq (tm 18) (tm 20))) (g := (some (17, true))) (j := 9) (decide (a1 ≤ z4.2)) rfl (by kernel_rfl) (by kernel_rfl) (by kernel_rfl) (fun hc => ?_) (fun hc => ?_)
    · replace hS := cond_t hc hS
      refine zL 1 10 (zE (zkSeq (zT (zrSeq (zrReg (zL 1 1 (zE (zkSeq ?_))))))))
      refine zrRet ?_
      refine zkBlkR ?_
      refine zkSeqR ?_
      refine zkNil ?_
      exact endQ hS hQ (finL_x (by intro h; cases h) (by show _ = _ ∧ _ = _; exact ⟨rfl, by kernel_rfl⟩))
    · replace hS := cond_f hc hS
      refine zL 1 10 (zE (zkSeq (zF ?_)))
      refine zrSkip ?_
      refine zkBlk ?_
      refine zkSeq (zrReg (zL 2 2 (zE ?_)))
      refine zkNil ?_
      exact endQ hS hQ (finL_n (by show keepSt _ _ _ _ = _; kernel_rfl))
  · replace hS := cond_f hc hS
    refine zL 6 10 (zE (zkSeq (zF ?_)))
    refine zrSkip ?_
    refine zkBlk ?_
    refine zkSeq (zrReg (zL 2 2 (zE ?_)))
    refine zkNil ?_
    exact endQ hS hQ (finL_n (by show keepSt _ _ _ _ = _; kernel_rfl))
def f107_l0_j1_J (a1 : Int) (a2 : List (Int × Int)) (p30 : Int) (p31 : Bool) : St := ⟨(up (up (up (up (up u0 10 (dB p31)) 9 (dI p30)) 8 (dI (a2.length : Int))) 7 (.d (.sl a2.length (e_A31.cells a2)))) 0 (dI a1)), h0⟩
noncomputable def f107_l0_j1 (a1 : Int) (a2 : List (Int × Int)) (p30 : Int) (p31 : Bool) : Option (Int ⊕ (Unit ⊕ Bool)) := (bif p31 then (f107_l0_j2 a1 a2 p30) else (some (.inr (.inl ()))))
theorem f107_l0_j1_ok {d : Nat} (hd : 1 ≤ d) (a1 : Int) (a2 : List (Int × Int)) {r : Int ⊕ (Unit ⊕ Bool)} {Q : PX → St → Prop} (hQ : ∀ e st', finL (f107_l0_H a1 a2) (f107_l0_X a1 a2) r e st' → Q e st') (p30 : Int) (p31 : Bool) (hS : f107_l0_j1 a1 a2 p30 p31 = some r) {st : St} (he : keepSt [0, 7, 8, 9, 10] [] [] st = f107_l0_j1_J a1 a2 p30 p31) : ZR (lev codes baseL (d - 1)) Q c107_2 [] st := by
  refine zrKeep he ?_
  unfold f107_l0_j1 at hS
  refine zrSeq ?_
  refine zrSplit 10 p31 (by kernel_rfl) (fun hc => ?_) (fun hc => ?_)
  · replace hS := cond_t hc hS
    refine zT ?_
    refine zrSkip ?_
    refine zkSeq ?_
    exact f107_l0_j2_ok hd a1 a2 hQ p30 hS (by kernel_rfl)
  · replace hS := cond_f hc hS
    refine zF ?_
    refine zrKeep (J := f107_l0_e0_J a1 a2) (by kernel_rfl) ?_
    refine zrExit ?_
    refine zkSeqX ?_
    refine zkNil ?_
    exact endQ hS hQ (finL_x (by intro h; cases h) (by show _ = _ ∧ _ = _; exact ⟨rfl, rfl⟩))
noncomputable def f107_l0 (a1 : Int) (a2 : List (Int × Int)) (x : Int) : Option (Int ⊕ (Unit ⊕ Bool)) := (bif (decide (x < (a2.length : Int))) then (f107_l0_j1 a1 a2 x true) else (f107_l0_j1 a1 a2 x false))
theorem f107_l0_ok {d : Nat} (hd : 1 ≤ d) (a1 : Int) (a2 : List (Int × Int)) {r : Int ⊕ (Unit ⊕ Bool)} {Q : PX → St → Prop} (hQ : ∀ e st', finL (f107_l0_H a1 a2) (f107_l0_X a1 a2) r e st' → Q e st') {x : Int} (hS : f107_l0 a1 a2 x = some r) {st : St} (he : f107_l0_H a1 a2 x st) : ZR (lev codes baseL (d - 1)) Q c107_3 [] st := by
  refine zrKeep he ?_
  unfold f107_l0 at hS
  refine zrSeq (zrReg ?_)
  refine zB 10 1 (.cmpI .lss (tm 9) (tm 8)) (decide (x < (a2.length : Int))) (fun hc => ?_) (fun hc => ?_)
  · replace hS := cond_t hc hS
    refine zE (zkSeq ?_)
    exact f107_l0_j1_ok hd a1 a2 hQ x true hS (by kernel_rfl)
  · replace hS := cond_f hc hS
    refine zE (zkSeq ?_)
    exact f107_l0_j1_ok hd a1 a2 hQ x false hS (by kernel_rfl)
noncomputable def f107 (a1 : Int) (a2 : List (Int × Int)) : Option (Bool) := ((loopO (f107_l0 a1 a2) 0).bind fun z5 => (Sum.elim (fun z6 => (some false)) (fun z7 => (some z7)) z5))
theorem f107_ok (d : Nat) (hd : 1 ≤ d) (a1 : Int) (a2 : List (Int × Int)) (r : Bool) (hS : f107 a1 a2 = some r) : lev codes baseL d 107 [(dI a1), (.d (.sl a2.length (e_A31.cells a2)))] [] = some ((dB r), []) := by
  refine lev_go codes107 rfl rfl (Nat.le_trans (Nat.le_of_ble_eq_true rfl) hd) fun Q hQ => ?_
  unfold f107 at hS
  show ZR _ Q c107_b [] _
  replace hQ : ∀ e st', f107_Q r e st' → Q e st' := hQ
  refine zrSeq (zrReg (zL 1 1 (zE (zkSeq (zrSeq (zrSeq (zrReg (zL 3 3 (zE (zkSeq ?_))))))))))
  refine zrBlk ?_
  refine bindE hS (fun z5 hz5 hS => ?_)
  refine zrLoop (f107_l0_H a1 a2) (f107_l0_X a1 a2) (fun x st r Q h0 hS hQ => f107_l0_ok hd a1 a2 hQ hS h0) (x := 0) (z := z5) (by show keepSt _ _ _ _ = _; kernel_rfl) hz5 ?_
  rcases z5 with z6 | z7
  · replace hS := (show _ = _ from hS)
    simp only [Sum.elim_inl] at hS
    intro e st' _ hX
    obtain ⟨rfl, rfl⟩ : _ ∧ _ := hX
    refine zkBlkX ?_
    refine zkSeq (zrSeq (zrReg (zL 1 1 (zE (zkSeq ?_)))))
    refine zrRet ?_
    refine zkNil ?_
    exact endQ hS hQ (fR (f107_out false))
  · simp only [Sum.elim_inr] at hS
    intro e st' _ hX
    obtain ⟨rfl, hX⟩ : _ ∧ _ := hX
    refine zkBlkR ?_
    refine zkSeqR ?_
    refine zkNil ?_
    exact endQ hS hQ (fRet (by kernel_rfl) ((congrArg (fun s => outR s 0 c107.res) hX).trans (f107_out z7)))
/- farwriter/width.Of -/
def f76_fin (p2 : Int) : St := ⟨(up u0 2 (dI p2)), h0⟩
theorem f76_out (p2 : Int) : outR (f76_fin p2) 0 c76.res = some ((dI p2), []) := by
  kernel_rfl
def f76_Q (r : Int) (e : PX) (st : St) : Prop := DoneF c76 0 ((dI r), []) e st
def f76_j0_J (a1 : Int) (p4 : Bool) : St := ⟨(up (up (up u0 25 (dB p4)) 4 (pt 40)) 0 (dI a1)), (up h0 40 ⟨0, some (.box ((e_A31.row 12 (fun i => ([(4352, 4447), (11904, 12350), (12353, 19903), (19968, 42191), (44032, 55203), (63744, 64255), (65072, 65135), (65280, 65376), (65504, 65510), (127744, 128591), (129280, 129535), (131072, 262141)] : List (Int × Int)).getD i (0, 0))) ++ []))⟩)⟩
noncomputable def f76_j0 (a1 : Int) (p4 : Bool) : Option (Int) := (bif p4 then (some 0) else ((f107 a1 [(4352, 4447), (11904, 12350), (12353, 19903), (19968, 42191), (44032, 55203), (63744, 64255), (65072, 65135), (65280, 65376), (65504, 65510), (127744, 128591), (129280, 129535), (131072, 262141)]).bind fun z4 => (bif z4 then (some 2) else (some 1))))
theorem f76_j0_ok {d : Nat} (hd : 2 ≤ d) (a1 : Int) {r : Int} {Q : PX → St → Prop} (hQ : ∀ e st', f76_Q r e st' → Q e st') (p4 : Bool) (hS : f76_j0 a1 p4 = some r) {st : St} (he : keepSt [0, 4, 25] [(40, .id 40)] [] st = f76_j0_J a1 p4) : ZR (lev codes baseL (d - 1)) Q c76_1 [.blk 0, .seq c76_2] st := by
  refine zrKeep he ?_
  unfold f76_j0 at hS
  refine zrSplit 25 p4 (by kernel_rfl) (fun hc => ?_) (fun hc => ?_)
  · replace hS := cond_t hc hS
    refine zT (zrSeq (zrReg (zL 1 1 (zE (zkSeq ?_)))))
    refine zrRet ?_
    refine zkBlkR ?_
    refine zkSeqR ?_
    refine zkNil ?_
    exact endQ hS hQ (fR (f76_out 0))
  · replace hS := cond_f hc hS
    refine zF (zrSeq (zrReg (zL 2 2 ?_)))
    refine bindE hS (fun z4 hz4 hS => ?_)
    refine zO (some 40) 3 (.call 107 [(tm 38), (tm 39)]) (ev_callA (by kernel_rfl) (f107_ok (d - 1) (dpt hd rfl) a1 [(4352, 4447), (11904, 12350), (12353, 19903), (19968, 42191), (44032, 55203), (63744, 64255), (65072, 65135), (65280, 65376), (65504, 65510), (127744, 128591), (129280, 129535), (131072, 262141)] z4 hz4) (by kernel_rfl) (by kernel_rfl)) ?_
    refine zL 1 4 (zE (zkSeq ?_))
    refine zrSplit 37 z4 (by kernel_rfl) (fun hc => ?_) (fun hc => ?_)
    · replace hS := cond_t hc hS
      refine zT (zrSeq (zrReg (zL 1 1 (zE (zkSeq ?_)))))
      refine zrRet ?_
      refine zkBlkR ?_
      refine zkSeqR ?_
      refine zkNil ?_
      exact endQ hS hQ (fR (f76_out 2))
    · replace hS := cond_f hc hS
      refine zF ?_
      refine zrSkip ?_
      refine zkBlk ?_
      refine zkSeq (zrSeq (zrReg (zL 1 1 (zE (zkSeq ?_)))))
      refine zrRet ?_
      refine zkNil ?_
      exact endQ hS hQ (fR (f76_out 1))
noncomputable def f76 (a1 : Int) : Option (Int) := (bif (decide (a1 < 0)) then (f76_j0 a1 true) else (bif (decide (1114111 < a1)) then (f76_j0 a1 true) else ((f107 a1 [(0, 31), (127, 159), (768, 879), (8203, 8207), (55296, 57343), (65024, 65039)]).bind fun z5 => (f76_j0 a1 z5))))
theorem f76_ok (d : Nat) (hd : 2 ≤ d) (a1 : Int) (r : Int) (hS : f76 a1 = some r) : lev codes baseL d 76 [(dI a1)] [] = some ((dI r), []) := by
  refine lev_go codes76 rfl rfl (Nat.le_trans (Nat.le_of_ble_eq_true rfl) hd) fun Q hQ => ?_
  unfold f76 at hS
  show ZR _ Q c76_b [] _
  replace hQ : ∀ e st', f76_Q r e st' → Q e st' := hQ
  refine zrSeq (zrReg (zL 1 1 (zE (zkSeq (zrSeq (zrReg (zL 9 9 (zE (zkSeq (zrSeq (zrReg (zL 15 15 (zE (zkSeq (zrSeq ?_)))))))))))))))
  refine zrBlk ?_
  refine zrSeq (zrReg (zL 1 1 ?_))
  refine zB 27 2 (.cmpI .lss (tm 26) (ki 0)) (decide (a1 < 0)) (fun hc => ?_) (fun hc => ?_)
  · replace hS := cond_t hc hS
    refine zL 10 12 (zE (zkSeq ?_))
    exact f76_j0_ok hd a1 hQ true hS (by kernel_rfl)
  · replace hS := cond_f hc hS
    refine zL 2 4 ?_
    refine zlBool (d := 30) (op := (.cmpI .gtr (tm 29) (ki 1114111))) (g := (some (28, false))) (j := 5) (decide (1114111 < a1)) rfl (by kernel_rfl) (by kernel_rfl) (by kernel_rfl) (fun hc => ?_) (fun hc => ?_)
    · replace hS := cond_t hc hS
      refine zL 7 12 (zE (zkSeq ?_))
      exact f76_j0_ok hd a1 hQ true hS (by kernel_rfl)
    · replace hS := cond_f hc hS
      refine zL 4 9 ?_
      refine bindE hS (fun z5 hz5 hS => ?_)
      refine zlOp (d := some 35) (op := (.call 107 [(tm 33), (tm 34)])) (g := (some (32, false))) (j := 10) rfl (by kernel_rfl) (by kernel_rfl) (ev_callA (by kernel_rfl) (f107_ok (d - 1) (dpt hd rfl) a1 [(0, 31), (127, 159), (768, 879), (8203, 8207), (55296, 57343), (65024, 65039)] z5 hz5) (by kernel_rfl) (by kernel_rfl)) ?_
      refine zL 2 12 (zE (zkSeq ?_))
      exact f76_j0_ok hd a1 hQ z5 hS (by kernel_rfl)
/- farwriter/grid.lone$1 -/
def f108_fin (p4 : Bool) : St := ⟨(up u0 3 (dB p4)), h0⟩
theorem f108_out (p4 : Bool) : outR (f108_fin p4) 0 c108.res = some ((dB p4), []) := by
  kernel_rfl
def f108_Q (r : Bool) (e : PX) (st : St) : Prop := DoneF c108 0 ((dB r), []) e st
noncomputable def f108 (a1 : Int) (a2 : List GCell) (a3 : List PD) : Option (Bool) := (bif (decide (a1 < (a2.length : Int))) then ((idx a2 a1).bind fun z4 => (bif (decide (z4.Rune = 0)) then ((idx a2 a1).bind fun z5 => ((idx a2 (IntKind.i64.wrap (a1 - 1))).bind fun z6 => (bif (decide (z5.Pen.Flags = z6.Pen.Flags) && (decide (z5.Pen.Fore = z6.Pen.Fore) && (decide (z5.Pen.Back = z6.Pen.Back) && true))) then (some true) else (some false)))) else (some false))) else (some false))
theorem f108_ok (d : Nat) (hd : 1 ≤ d) (a1 : Int) (a2 : List GCell) (a3 : List PD) (r : Bool) (hS : f108 a1 a2 a3 = some r) : lev codes baseL d 108 [(dI a1), (.rptr ((eSl e_GCell).enc a2 ++ a3))] [] = some ((dB r), []) := by
  refine lev_go codes108 rfl rfl (Nat.le_trans (Nat.le_of_ble_eq_true rfl) hd) fun Q hQ => ?_
  unfold f108 at hS
  show ZR _ Q c108_b [] _
  replace hQ : ∀ e st', f108_Q r e st' → Q e st' := hQ
  refine zrSeq (zrReg (zL 1 1 (zE (zkSeq (zrSeq ?_)))))
  refine zrRegD ?_
  refine zdRun (n := 3) (j := 3) (ts := [[], [], []]) (acc' := [[], [], []]) rfl (by kernel_rfl) (by kernel_rfl) (by kernel_rfl) ?_
  refine zdBool (d := 7) (op := (.cmpI .lss (tm 4) (tm 6))) (g := none) (j := 4) (t1 := []) (acc' := [[], [], [], []]) (decide (a1 < (a2.length : Int))) (by kernel_rfl) (by kernel_rfl) rfl (by kernel_rfl) (by kernel_rfl) (by kernel_rfl) (fun hc => ?_) (fun hc => ?_)
  · replace hS := cond_t hc hS
    refine zdRun (n := 3) (j := 7) (ts := [[], [], []]) (acc' := [[], [], [], [], [], [], []]) rfl (by kernel_rfl) (by kernel_rfl) (by kernel_rfl) ?_
    refine bindE hS (fun z4 hz4 hS => ?_)
    refine zdOp (d := some 11) (op := (.ixS 58 4 (tm 9) (tm 10))) (g := (some (8, true))) (v := (.rptr (e_GCell.enc z4 ++ (e_GCell.cells (a2.drop ((a1 : Int).toNat + 1)))))) (ups := []) (j := 8) (t1 := []) (acc' := [[], [], [], [], [], [], [], []]) (by kernel_rfl) (by kernel_rfl) rfl (by kernel_rfl) (by kernel_rfl) (ev_ixS e_GCell (kk := .i64) (xs := a2) (j := a1) (by kernel_rfl) (by kernel_rfl) hz4 rfl (by intro h; cases h)) ?_
    refine zdRun (n := 2) (j := 10) (ts := [[], []]) (acc' := [[], [], [], [], [], [], [], [], [], []]) rfl (by kernel_rfl) (by kernel_rfl) (by kernel_rfl) ?_
    refine zdBool (d := 14) (op := (.cmpI .eql (tm 13) (ki 0))) (g := (some (8, true))) (j := 11) (t1 := []) (acc' := [[], [], [], [], [], [], [], [], [], [], []]) (decide (z4.Rune = 0)) (by kernel_rfl) (by kernel_rfl) rfl (by kernel_rfl) (by kernel_rfl) (by kernel_rfl) (fun hc => ?_) (fun hc => ?_)
    · replace hS := cond_t hc hS
      refine zdRun (n := 4) (j := 15) (ts := [[], [], [], []]) (acc' := [[], [], [], [], [], [], [], [], [], [], [], [], [], [], []]) rfl (by kernel_rfl) (by kernel_rfl) (by kernel_rfl) ?_
      refine bindE hS (fun z5 hz5 hS => ?_)
      refine zdOp (d := some 19) (op := (.ixS 58 4 (tm 17) (tm 18))) (g := (some (16, true))) (v := (.rptr (e_GCell.enc z5 ++ (e_GCell.cells (a2.drop ((a1 : Int).toNat + 1)))))) (ups := []) (j := 16) (t1 := []) (acc' := [[], [], [], [], [], [], [], [], [], [], [], [], [], [], [], []]) (by kernel_rfl) (by kernel_rfl) rfl (by kernel_rfl) (by kernel_rfl) (ev_ixS e_GCell (kk := .i64) (xs := a2) (j := a1) (by kernel_rfl) (by kernel_rfl) hz5 rfl (by intro h; cases h)) ?_
      refine zdRun (n := 5) (j := 21) (ts := [[], [], [], [], []]) (acc' := [[], [], [], [], [], [], [], [], [], [], [], [], [], [], [], [], [], [], [], [], []]) rfl (by kernel_rfl) (by kernel_rfl) (by kernel_rfl) ?_
      refine bindE hS (fun z6 hz6 hS => ?_)
      refine zdOp (d := some 25) (op := (.ixS 58 4 (tm 22) (tm 24))) (g := (some (16, true))) (v := (.rptr (e_GCell.enc z6 ++ (e_GCell.cells (a2.drop (((IntKind.i64.wrap (a1 - 1)) : Int).toNat + 1)))))) (ups := []) (j := 22) (t1 := []) (acc' := [[], [], [], [], [], [], [], [], [], [], [], [], [], [], [], [], [], [], [], [], [], []]) (by kernel_rfl) (by kernel_rfl) rfl (by kernel_rfl) (by kernel_rfl) (ev_ixS e_GCell (kk := .i64) (xs := a2) (j := (IntKind.i64.wrap (a1 - 1))) (by kernel_rfl) (by kernel_rfl) hz6 rfl (by intro h; cases h)) ?_
      refine zdRun (n := 2) (j := 24) (ts := [[], []]) (acc' := [[], [], [], [], [], [], [], [], [], [], [], [], [], [], [], [], [], [], [], [], [], [], [], []]) rfl (by kernel_rfl) (by kernel_rfl) (by kernel_rfl) ?_
      refine zdBool (d := 28) (op := (.eqA .false [(3, .int)] (tm 21) (tm 27))) (g := (some (16, true))) (j := 25) (t1 := []) (acc' := [[], [], [], [], [], [], [], [], [], [], [], [], [], [], [], [], [], [], [], [], [], [], [], [], []]) (decide (z5.Pen.Flags = z6.Pen.Flags) && (decide (z5.Pen.Fore = z6.Pen.Fore) && (decide (z5.Pen.Back = z6.Pen.Back) && true))) (by kernel_rfl) (by kernel_rfl) rfl (by kernel_rfl) (by kernel_rfl) (by kernel_rfl) (fun hc => ?_) (fun hc => ?_)
      · replace hS := cond_t hc hS
        refine zdRun (n := 2) (j := 27) (ts := [[], []]) (acc' := [[], [], [], [], [], [], [], [], [], [], [], [], [], [], [], [], [], [], [], [], [], [], [], [], [], [], []]) rfl (by kernel_rfl) (by kernel_rfl) (by kernel_rfl) ?_
        refine zdEnd (by kernel_rfl) (by kernel_rfl) ?_
        refine zkSeq ?_
        refine zrRet ?_
        refine zkNil ?_
        exact endQ hS hQ (fR (f108_out true))
      · replace hS := cond_f hc hS
        refine zdRun (n := 2) (j := 27) (ts := [[], []]) (acc' := [[], [], [], [], [], [], [], [], [], [], [], [], [], [], [], [], [], [], [], [], [], [], [], [], [], [], []]) rfl (by kernel_rfl) (by kernel_rfl) (by kernel_rfl) ?_
        refine zdEnd (by kernel_rfl) (by kernel_rfl) ?_
        refine zkSeq ?_
        refine zrRet ?_
        refine zkNil ?_
        exact endQ hS hQ (fR (f108_out false))
    · replace hS := cond_f hc hS
      refine zdRun (n := 16) (j := 27) (ts := [[], [], [], [], [], [], [], [], [], [], [], [], [], [], [], []]) (acc' := [[], [], [], [], [], [], [], [], [], [], [], [], [], [], [], [], [], [], [], [], [], [], [], [], [], [], []]) rfl (by kernel_rfl) (by kernel_rfl) (by kernel_rfl) ?_
      refine zdEnd (by kernel_rfl) (by kernel_rfl) ?_
      refine zkSeq ?_
      refine zrRet ?_
      refine zkNil ?_
      exact endQ hS hQ (fR (f108_out false))
  · replace hS := cond_f hc hS
    refine zdRun (n := 23) (j := 27) (ts := [[], [], [], [], [], [], [], [], [], [], [], [], [], [], [], [], [], [], [], [], [], [], []]) (acc' := [[], [], [], [], [], [], [], [], [], [], [], [], [], [], [], [], [], [], [], [], [], [], [], [], [], [], []]) rfl (by kernel_rfl) (by kernel_rfl) (by kernel_rfl) ?_
    refine zdEnd (by kernel_rfl) (by kernel_rfl) ?_
    refine zkSeq ?_
    refine zrRet ?_
    refine zkNil ?_
    exact endQ hS hQ (fR (f108_out false))
/- farwriter/grid.lone -/
def f77_fin (p4 : Bool) : St := ⟨(up u0 4 (dB p4)), h0⟩
theorem f77_out (p4 : Bool) : outR (f77_fin p4) 0 c77.res = some ((dB p4), []) := by
  kernel_rfl
def f77_Q (r : Bool) (e : PX) (st : St) : Prop := DoneF c77 0 ((dB r), []) e st
def f77_j0_J (a1 : List GCell) (a2 : Int) : St := ⟨(up (up (up u0 5 (.fn 108 [(pt 24)])) 2 (pt 24)) 1 (dI a2)), (up h0 24 ⟨0, some (.box ((.d (.sl a1.length (e_GCell.cells a1))) :: []))⟩)⟩
noncomputable def f77_j0 (a1 : List GCell) (a2 : Int) : Option (Bool) := ((idx a1 a2).bind fun z12 => ((f76 z12.Rune).bind fun z13 => (bif (decide (z13 = 2)) then ((f108 (IntKind.i64.wrap (a2 + 1)) a1 []).bind fun z14 => (some (!z14))) else (some false))))
theorem f77_j0_ok {d : Nat} (hd : 3 ≤ d) (a1 : List GCell) (a2 : Int) {r : Bool} {Q : PX → St → Prop} (hQ : ∀ e st', f77_Q r e st' → Q e st')  (hS : f77_j0 a1 a2 = some r) {st : St} (he : keepSt [1, 2, 5] [(24, .id 24)] [] st = f77_j0_J a1 a2) : ZR (lev codes baseL (d - 1)) Q c77_1 [] st := by
  refine zrKeep he ?_
  unfold f77_j0 at hS
  refine zrSeq (zrReg (zL 2 2 ?_))
  refine bindE hS (fun z12 hz12 hS => ?_)
  refine zO (v := (.rptr (e_GCell.enc z12 ++ (e_GCell.cells (a1.drop ((a2 : Int).toNat + 1)))))) (ups := []) (some 33) 3 (.ixS 58 4 (tm 31) (tm 32)) (ev_ixS e_GCell (kk := .i64) (xs := a1) (j := a2) (by kernel_rfl) (by kernel_rfl) hz12 rfl (by intro h; cases h)) ?_
  refine zL 2 5 ?_
  refine bindE hS (fun z13 hz13 hS => ?_)
  refine zO (some 36) 6 (.call 76 [(tm 35)]) (ev_callA (by kernel_rfl) (f76_ok (d - 1) (dpt hd rfl) z12.Rune z13 hz13) (by kernel_rfl) (by kernel_rfl)) ?_
  refine zB 37 7 (.cmpI .eql (tm 36) (ki 2)) (decide (z13 = 2)) (fun hc => ?_) (fun hc => ?_)
  · replace hS := cond_t hc hS
    refine zL 4 11 ?_
    refine bindE hS (fun z14 hz14 hS => ?_)
    refine zlOp (d := some 42) (op := (.callv (tm 39) [(tm 41)])) (g := (some (38, true))) (v := (dB z14)) (ups := []) (j := 12) rfl (by kernel_rfl) (by kernel_rfl) (ev_callv (f := 108) (cs := [(pt 24)]) (by kernel_rfl) (args := [(dI (IntKind.i64.wrap (a2 + 1))), (pt 24)]) (l := [(dI (IntKind.i64.wrap (a2 + 1))), (.rptr ((eSl e_GCell).enc a1 ++ []))]) (r := (dB z14)) (by kernel_rfl) (by kernel_rfl) (f108_ok (d - 1) (dpt hd rfl) (IntKind.i64.wrap (a2 + 1)) a1 [] z14 hz14) (by kernel_rfl) (by kernel_rfl) (by kernel_rfl)) ?_
    refine zL 3 15 (zE (zkSeq ?_))
    refine zrRet ?_
    refine zkNil ?_
    exact endQ hS hQ (fR (f77_out (!z14)))
  · replace hS := cond_f hc hS
    refine zL 8 15 (zE (zkSeq ?_))
    refine zrRet ?_
    refine zkNil ?_
    exact endQ hS hQ (fR (f77_out false))
noncomputable def f77 (a1 : List GCell) (a2 : Int) : Option (Bool) := ((idx a1 a2).bind fun z16 => (bif (decide (z16.Rune = 0)) then (bif (decide (a2 = 0)) then (some true) else ((idx a1 (IntKind.i64.wrap (a2 - 1))).bind fun z17 => ((f76 z17.Rune).bind fun z18 => (bif (!decide (z18 = 2)) then (some true) else ((f108 a2 a1 []).bind fun z19 => (some (!z19))))))) else (f77_j0 a1 a2 )))
theorem f77_ok (d : Nat) (hd : 3 ≤ d) (a1 : List GCell) (a2 : Int) (r : Bool) (hS : f77 a1 a2 = some r) : lev codes baseL d 77 [(.d (.sl a1.length (e_GCell.cells a1))), (dI a2)] [] = some ((dB r), []) := by
  refine lev_go codes77 rfl rfl (Nat.le_trans (Nat.le_of_ble_eq_true rfl) hd) fun Q hQ => ?_
  unfold f77 at hS
  show ZR _ Q c77_b [] _
  replace hQ : ∀ e st', f77_Q r e st' → Q e st' := hQ
  refine zrSeq (zrReg (zL 2 2 (zE (zkSeq (zrSeq (zrReg (zL 2 2 (zE (zkSeq (zrSeq (zrSeq (zrReg (zL 2 2 ?_)))))))))))))
  refine bindE hS (fun z16 hz16 hS => ?_)
  refine zO (v := (.rptr (e_GCell.enc z16 ++ (e_GCell.cells (a1.drop ((a2 : Int).toNat + 1)))))) (ups := []) (some 9) 3 (.ixS 58 4 (tm 7) (tm 8)) (ev_ixS e_GCell (kk := .i64) (xs := a1) (j := a2) (by kernel_rfl) (by kernel_rfl) hz16 rfl (by intro h; cases h)) ?_
  refine zL 2 5 ?_
  refine zB 12 6 (.cmpI .eql (tm 11) (ki 0)) (decide (z16.Rune = 0)) (fun hc => ?_) (fun hc => ?_)
  · replace hS := cond_t hc hS
    refine zE (zkSeq (zT (zrSeq (zrReg (zL 1 1 ?_)))))
    refine zB 14 2 (.cmpI .eql (tm 13) (ki 0)) (decide (a2 = 0)) (fun hc => ?_) (fun hc => ?_)
    · replace hS := cond_t hc hS
      refine zL 17 19 (zE (zkSeq ?_))
      refine zrRet ?_
      refine zkSeqR ?_
      refine zkNil ?_
      exact endQ hS hQ (fR (f77_out true))
    · replace hS := cond_f hc hS
      refine zL 4 6 ?_
      refine bindE hS (fun z17 hz17 hS => ?_)
      refine zlOp (d := some 19) (op := (.ixS 58 4 (tm 16) (tm 18))) (g := (some (15, false))) (v := (.rptr (e_GCell.enc z17 ++ (e_GCell.cells (a1.drop (((IntKind.i64.wrap (a2 - 1)) : Int).toNat + 1)))))) (ups := []) (j := 7) rfl (by kernel_rfl) (by kernel_rfl) (ev_ixS e_GCell (kk := .i64) (xs := a1) (j := (IntKind.i64.wrap (a2 - 1))) (by kernel_rfl) (by kernel_rfl) hz17 rfl (by intro h; cases h)) ?_
      refine zL 2 9 ?_
      refine bindE hS (fun z18 hz18 hS => ?_)
      refine zlOp (d := some 22) (op := (.call 76 [(tm 21)])) (g := (some (15, false))) (j := 10) rfl (by kernel_rfl) (by kernel_rfl) (ev_callA (by kernel_rfl) (f76_ok (d - 1) (dpt hd rfl) z17.Rune z18 hz18) (by kernel_rfl) (by kernel_rfl)) ?_
      refine zlBool (d := 23) (op := (.cmpI .neq (tm 22) (ki 2))) (g := (some (15, false))) (j := 11) (!decide (z18 = 2)) rfl (by kernel_rfl) (by kernel_rfl) (by kernel_rfl) (fun hc => ?_) (fun hc => ?_)
      · replace hS := cond_t hc hS
        refine zL 8 19 (zE (zkSeq ?_))
        refine zrRet ?_
        refine zkSeqR ?_
        refine zkNil ?_
        exact endQ hS hQ (fR (f77_out true))
      · replace hS := cond_f hc hS
        refine zL 4 15 ?_
        refine bindE hS (fun z19 hz19 hS => ?_)
        refine zlOp (d := some 28) (op := (.callv (tm 26) [(tm 27)])) (g := (some (25, false))) (v := (dB z19)) (ups := []) (j := 16) rfl (by kernel_rfl) (by kernel_rfl) (ev_callv (f := 108) (cs := [(.r (.ptr 24 1 0))]) (by kernel_rfl) (args := [(dI a2), (.r (.ptr 24 1 0))]) (l := [(dI a2), (.rptr ((eSl e_GCell).enc a1 ++ []))]) (r := (dB z19)) (by kernel_rfl) (by kernel_rfl) (f108_ok (d - 1) (dpt hd rfl) a2 a1 [] z19 hz19) (by kernel_rfl) (by kernel_rfl) (by kernel_rfl)) ?_
        refine zL 3 19 (zE (zkSeq ?_))
        refine zrRet ?_
        refine zkSeqR ?_
        refine zkNil ?_
        exact endQ hS hQ (fR (f77_out (!z19)))
  · replace hS := cond_f hc hS
    refine zE (zkSeq (zF ?_))
    refine zrSkip ?_
    refine zkSeq ?_
    exact f77_j0_ok hd a1 a2 hQ  hS (by kernel_rfl)
/- farwriter/grid.Check -/
def f48_fin (p235 : Int) : St := ⟨(up u0 2 (dI p235)), h0⟩
theorem f48_out (p235 : Int) : outR (f48_fin p235) 0 c48.res = some ((dI p235), []) := by
  kernel_rfl
def f48_Q (r : Int) (e : PX) (st : St) : Prop := DoneF c48 0 ((dI r), []) e st
def f48_l2_J (a1 : GGrid) (x : Int) : St := ⟨(up (up (up u0 27 (dI x)) 26 (dI a1.High)) 1 (pt 16)), (up h0 16 ⟨0, some (.box ((dI a1.Wide) :: ((dI a1.High) :: ((.d (.sl a1.Cells.length (e_GCell.cells a1.Cells))) :: []))))⟩)⟩
def f48_l2_H (a1 : GGrid) (x : Int) (st : St) : Prop := keepSt [1, 26, 27] [(16, .id 16)] [] st = f48_l2_J a1 x
def f48_l2_e0_J (a1 : GGrid) : St := ⟨u0, h0⟩
def f48_l2_X (a1 : GGrid) (z : Unit ⊕ Int) (e : PX) (st : St) : Prop := (match z with | .inl z => e = .exit 0 ∧ st = f48_l2_e0_J a1 | .inr z => e = .ret ∧ finSt c48.fin st = f48_fin z)
def f48_l2_l5_J (a1 : GGrid) (x : (List GCell) × Int × (List GCell) × Int × Int) : St := ⟨(up (up (up (up (up (up (up u0 35 (dI x.2.2.2.2)) 34 (dI x.2.2.2.1)) 33 (.d (.sl x.2.2.1.length (e_GCell.cells x.2.2.1)))) 27 (dI x.2.1)) 26 (dI a1.High)) 5 (.d (.sl x.1.length (e_GCell.cells x.1)))) 1 (pt 16)), (up h0 16 ⟨0, some (.box ((dI a1.Wide) :: ((dI a1.High) :: ((.d (.sl a1.Cells.length (e_GCell.cells a1.Cells))) :: []))))⟩)⟩
def f48_l2_l5_H (a1 : GGrid) (x : (List GCell) × Int × (List GCell) × Int × Int) (st : St) : Prop := keepSt [1, 5, 26, 27, 33, 34, 35] [(16, .id 16)] [] st = f48_l2_l5_J a1 x
def f48_l2_l5_e2_J (a1 : GGrid) (p323 : Int) : St := ⟨(up (up (up u0 27 (dI p323)) 26 (dI a1.High)) 1 (pt 16)), (up h0 16 ⟨0, some (.box ((dI a1.Wide) :: ((dI a1.High) :: ((.d (.sl a1.Cells.length (e_GCell.cells a1.Cells))) :: []))))⟩)⟩
def f48_l2_l5_X (a1 : GGrid) (z : Int ⊕ Int) (e : PX) (st : St) : Prop := (match z with | .inl z => e = .exit 2 ∧ st = f48_l2_l5_e2_J a1 z | .inr z => e = .ret ∧ finSt c48.fin st = f48_fin z)
def f48_l2_l5_j7_J (a1 : GGrid) (p336 : List GCell) (p337 : Int) (p338 : List GCell) (p339 : Int) (p340 : Int) : St := ⟨(up (up (up (up (up (up (up u0 35 (dI p340)) 34 (dI p339)) 33 (.d (.sl p338.length (e_GCell.cells p338)))) 27 (dI p337)) 26 (dI a1.High)) 5 (.d (.sl p336.length (e_GCell.cells p336)))) 1 (pt 16)), (up h0 16 ⟨0, some (.box ((dI a1.Wide) :: ((dI a1.High) :: ((.d (.sl a1.Cells.length (e_GCell.cells a1.Cells))) :: []))))⟩)⟩
noncomputable def f48_l2_l5_j7 (a1 : GGrid) (p336 : List GCell) (p337 : Int) (p338 : List GCell) (p339 : Int) (p340 : Int) : Option (((List GCell) × Int × (List GCell) × Int × Int) ⊕ (Int ⊕ Int)) := ((idx p338 p340).bind fun z67 => ((f50 z67.Pen).bind fun z68 => (bif (!decide (z68 = 0)) then (some (.inr (.inr 4))) else (bif (!decide (z67.Rune = 0)) then ((f76 z67.Rune).bind fun z69 => (bif (decide (z69 = 0)) then (some (.inr (.inr 4))) else ((f77 p336 p340).bind fun z70 => (bif z70 then (some (.inr (.inr 4))) else (some (.inl (p336, p337, p338, p339, (IntKind.i64.wrap (p340 + 1))))))))) else ((f77 p336 p340).bind fun z71 => (bif z71 then (some (.inr (.inr 4))) else (some (.inl (p336, p337, p338, p339, (IntKind.i64.wrap (p340 + 1)))))))))))
theorem f48_l2_l5_j7_ok {d : Nat} (hd : 4 ≤ d) (a1 : GGrid) {r : ((List GCell) × Int × (List GCell) × Int × Int) ⊕ (Int ⊕ Int)} {Q : PX → St → Prop} (hQ : ∀ e st', finL (f48_l2_l5_H a1) (f48_l2_l5_X a1) r e st' → Q e st') (p336 : List GCell) (p337 : Int) (p338 : List GCell) (p339 : Int) (p340 : Int) (hS : f48_l2_l5_j7 a1 p336 p337 p338 p339 p340 = some r) {st : St} (he : keepSt [1, 5, 26, 27, 33, 34, 35] [(16, .id 16)] [] st = f48_l2_l5_j7_J a1 p336 p337 p338 p339 p340) : ZR (lev codes baseL (d - 1)) Q c48_1 [] st := by
  refine zrKeep he ?_
  unfold f48_l2_l5_j7 at hS
  refine zrSeq ?_
  refine zrBlk ?_
  refine zrSeq (zrReg (zL 1 1 ?_))
  refine bindE hS (fun z67 hz67 hS => ?_)
  refine zO (v := (.rptr (e_GCell.enc z67 ++ (e_GCell.cells (p338.drop ((p340 : Int).toNat + 1)))))) (ups := []) (some 38) 2 (.ixS 58 4 (tm 33) (tm 35)) (ev_ixS e_GCell (kk := .i64) (xs := p338) (j := p340) (by kernel_rfl) (by kernel_rfl) hz67 rfl (by intro h; cases h)) ?_
  refine zL 4 6 (zE (zkSeq (zrSeq (zrReg (zL 2 2 ?_)))))
  refine bindE hS (fun z68 hz68 hS => ?_)
  refine zO (some 42) 3 (.call 50 [(tm 41)]) (ev_callA (by kernel_rfl) (f50_ok (d - 1) (dpt hd rfl) z67.Pen z68 hz68) (by kernel_rfl) (by kernel_rfl)) ?_
  refine zB 43 4 (.cmpI .neq (tm 42) (ki 0)) (!decide (z68 = 0)) (fun hc => ?_) (fun hc => ?_)
  · replace hS := cond_t hc hS
    refine zL 16 20 (zE (zkSeq (zT (zrSeq (zrReg (zL 1 1 (zE (zkSeq ?_))))))))
    refine zrRet ?_
    refine zkBlkR ?_
    refine zkSeqR ?_
    refine zkNil ?_
    exact endQ hS hQ (finL_x (by intro h; cases h) (by show _ = _ ∧ _ = _; exact ⟨rfl, by kernel_rfl⟩))
  · replace hS := cond_f hc hS
    refine zL 3 7 ?_
    refine zlBool (d := 47) (op := (.cmpI .neq (tm 46) (ki 0))) (g := (some (44, false))) (j := 8) (!decide (z67.Rune = 0)) rfl (by kernel_rfl) (by kernel_rfl) (by kernel_rfl) (fun hc => ?_) (fun hc => ?_)
    · replace hS := cond_t hc hS
      refine zL 3 11 ?_
      refine bindE hS (fun z69 hz69 hS => ?_)
      refine zlOp (d := some 51) (op := (.call 76 [(tm 50)])) (g := (some (48, true))) (j := 12) rfl (by kernel_rfl) (by kernel_rfl) (ev_callA (by kernel_rfl) (f76_ok (d - 1) (dpt hd rfl) z67.Rune z69 hz69) (by kernel_rfl) (by kernel_rfl)) ?_
      refine zlBool (d := 52) (op := (.cmpI .eql (tm 51) (ki 0))) (g := (some (48, true))) (j := 13) (decide (z69 = 0)) rfl (by kernel_rfl) (by kernel_rfl) (by kernel_rfl) (fun hc => ?_) (fun hc => ?_)
      · replace hS := cond_t hc hS
        refine zL 7 20 (zE (zkSeq (zT (zrSeq (zrReg (zL 1 1 (zE (zkSeq ?_))))))))
        refine zrRet ?_
        refine zkBlkR ?_
        refine zkSeqR ?_
        refine zkNil ?_
        exact endQ hS hQ (finL_x (by intro h; cases h) (by show _ = _ ∧ _ = _; exact ⟨rfl, by kernel_rfl⟩))
      · replace hS := cond_f hc hS
        refine zL 5 18 ?_
        refine bindE hS (fun z70 hz70 hS => ?_)
        refine zlOp (d := some 58) (op := (.call 77 [(tm 56), (tm 57)])) (g := (some (55, false))) (j := 19) rfl (by kernel_rfl) (by kernel_rfl) (ev_callA (by kernel_rfl) (f77_ok (d - 1) (dpt hd rfl) p336 p340 z70 hz70) (by kernel_rfl) (by kernel_rfl)) ?_
        refine zL 1 20 (zE (zkSeq ?_))
        refine zrSplit 59 z70 (by kernel_rfl) (fun hc => ?_) (fun hc => ?_)
        · replace hS := cond_t hc hS
          refine zT (zrSeq (zrReg (zL 1 1 (zE (zkSeq ?_)))))
          refine zrRet ?_
          refine zkBlkR ?_
          refine zkSeqR ?_
          refine zkNil ?_
          exact endQ hS hQ (finL_x (by intro h; cases h) (by show _ = _ ∧ _ = _; exact ⟨rfl, by kernel_rfl⟩))
        · replace hS := cond_f hc hS
          refine zF ?_
          refine zrSkip ?_
          refine zkBlk ?_
          refine zkSeq (zrReg (zL 2 2 (zE ?_)))
          refine zkNil ?_
          exact endQ hS hQ (finL_n (by show keepSt _ _ _ _ = _; kernel_rfl))
    · replace hS := cond_f hc hS
      refine zL 10 18 ?_
      refine bindE hS (fun z71 hz71 hS => ?_)
      refine zlOp (d := some 58) (op := (.call 77 [(tm 56), (tm 57)])) (g := (some (55, false))) (j := 19) rfl (by kernel_rfl) (by kernel_rfl) (ev_callA (by kernel_rfl) (f77_ok (d - 1) (dpt hd rfl) p336 p340 z71 hz71) (by kernel_rfl) (by kernel_rfl)) ?_
      refine zL 1 20 (zE (zkSeq ?_))
      refine zrSplit 59 z71 (by kernel_rfl) (fun hc => ?_) (fun hc => ?_)
      · replace hS := cond_t hc hS
        refine zT (zrSeq (zrReg (zL 1 1 (zE (zkSeq ?_)))))
        refine zrRet ?_
        refine zkBlkR ?_
        refine zkSeqR ?_
        refine zkNil ?_
        exact endQ hS hQ (finL_x (by intro h; cases h) (by show _ = _ ∧ _ = _; exact ⟨rfl, by kernel_rfl⟩))
      · replace hS := cond_f hc hS
        refine zF ?_
        refine zrSkip ?_
        refine zkBlk ?_
        refine zkSeq (zrReg (zL 2 2 (zE ?_)))
        refine zkNil ?_
        exact endQ hS hQ (finL_n (by show keepSt _ _ _ _ = _; kernel_rfl))
def f48_l2_l5_j6_J (a1 : GGrid) (p330 : List GCell) (p331 : Int) (p332 : List GCell) (p333 : Int) (p334 : Int) (p335 : Bool) : St := ⟨(up (up (up (up (up (up (up (up u0 36 (dB p335)) 35 (dI p334)) 34 (dI p333)) 33 (.d (.sl p332.length (e_GCell.cells p332)))) 27 (dI p331)) 26 (dI a1.High)) 5 (.d (.sl p330.length (e_GCell.cells p330)))) 1 (pt 16)), (up h0 16 ⟨0, some (.box ((dI a1.Wide) :: ((dI a1.High) :: ((.d (.sl a1.Cells.length (e_GCell.cells a1.Cells))) :: []))))⟩)⟩
noncomputable def f48_l2_l5_j6 (a1 : GGrid) (p330 : List GCell) (p331 : Int) (p332 : List GCell) (p333 : Int) (p334 : Int) (p335 : Bool) : Option (((List GCell) × Int × (List GCell) × Int × Int) ⊕ (Int ⊕ Int)) := (bif p335 then (f48_l2_l5_j7 a1 p330 p331 p332 p333 p334) else (some (.inr (.inl p331))))
theorem f48_l2_l5_j6_ok {d : Nat} (hd : 4 ≤ d) (a1 : GGrid) {r : ((List GCell) × Int × (List GCell) × Int × Int) ⊕ (Int ⊕ Int)} {Q : PX → St → Prop} (hQ : ∀ e st', finL (f48_l2_l5_H a1) (f48_l2_l5_X a1) r e st' → Q e st') (p330 : List GCell) (p331 : Int) (p332 : List GCell) (p333 : Int) (p334 : Int) (p335 : Bool) (hS : f48_l2_l5_j6 a1 p330 p331 p332 p333 p334 p335 = some r) {st : St} (he : keepSt [1, 5, 26, 27, 33, 34, 35, 36] [(16, .id 16)] [] st = f48_l2_l5_j6_J a1 p330 p331 p332 p333 p334 p335) : ZR (lev codes baseL (d - 1)) Q c48_2 [] st := by
  refine zrKeep he ?_
  unfold f48_l2_l5_j6 at hS
  refine zrSeq ?_
  refine zrSplit 36 p335 (by kernel_rfl) (fun hc => ?_) (fun hc => ?_)
  · replace hS := cond_t hc hS
    refine zT ?_
    refine zrSkip ?_
    refine zkSeq ?_
    exact f48_l2_l5_j7_ok hd a1 hQ p330 p331 p332 p333 p334 hS (by kernel_rfl)
  · replace hS := cond_f hc hS
    refine zF ?_
    refine zrKeep (J := f48_l2_l5_e2_J a1 p331) (by kernel_rfl) ?_
    refine zrExit ?_
    refine zkSeqX ?_
    refine zkNil ?_
    exact endQ hS hQ (finL_x (by intro h; cases h) (by show _ = _ ∧ _ = _; exact ⟨rfl, rfl⟩))
noncomputable def f48_l2_l5 (a1 : GGrid) (x : (List GCell) × Int × (List GCell) × Int × Int) : Option (((List GCell) × Int × (List GCell) × Int × Int) ⊕ (Int ⊕ Int)) := (bif (decide (x.2.2.2.2 < x.2.2.2.1)) then (f48_l2_l5_j6 a1 x.1 x.2.1 x.2.2.1 x.2.2.2.1 x.2.2.2.2 true) else (f48_l2_l5_j6 a1 x.1 x.2.1 x.2.2.1 x.2.2.2.1 x.2.2.2.2 false))
theorem f48_l2_l5_ok {d : Nat} (hd : 4 ≤ d) (a1 : GGrid) {r : ((List GCell) × Int × (List GCell) × Int × Int) ⊕ (Int ⊕ Int)} {Q : PX → St → Prop} (hQ : ∀ e st', finL (f48_l2_l5_H a1) (f48_l2_l5_X a1) r e st' → Q e st') {x : (List GCell) × Int × (List GCell) × Int × Int} (hS : f48_l2_l5 a1 x = some r) {st : St} (he : f48_l2_l5_H a1 x st) : ZR (lev codes baseL (d - 1)) Q c48_3 [] st := by
  refine zrKeep he ?_
  unfold f48_l2_l5 at hS
  refine zrSeq (zrReg ?_)
  refine zB 36 1 (.cmpI .lss (tm 35) (tm 34)) (decide (x.2.2.2.2 < x.2.2.2.1)) (fun hc => ?_) (fun hc => ?_)
  · replace hS := cond_t hc hS
    refine zE (zkSeq ?_)
    exact f48_l2_l5_j6_ok hd a1 hQ x.1 x.2.1 x.2.2.1 x.2.2.2.1 x.2.2.2.2 true hS (by kernel_rfl)
  · replace hS := cond_f hc hS
    refine zE (zkSeq ?_)
    exact f48_l2_l5_j6_ok hd a1 hQ x.1 x.2.1 x.2.2.1 x.2.2.2.1 x.2.2.2.2 false hS (by kernel_rfl)
def f48_l2_j4_J (a1 : GGrid) (p243 : Int) : St := ⟨(up (up (up u0 27 (dI p243)) 26 (dI a1.High)) 1 (pt 16)), (up h0 16 ⟨0, some (.box ((dI a1.Wide) :: ((dI a1.High) :: ((.d (.sl a1.Cells.length (e_GCell.cells a1.Cells))) :: []))))⟩)⟩
noncomputable def f48_l2_j4 (a1 : GGrid) (p243 : Int) : Option (Int ⊕ (Unit ⊕ Int)) := ((f75 a1 p243).bind fun z51 => ((loopO (f48_l2_l5 a1) (z51, p243, z51, (z51.length : Int), 0)).bind fun z72 => (Sum.elim (fun z73 => (some (.inl (IntKind.i64.wrap (z73 + 1))))) (fun z74 => (some (.inr (.inr z74)))) z72)))
theorem f48_l2_j4_ok {d : Nat} (hd : 4 ≤ d) (a1 : GGrid) {r : Int ⊕ (Unit ⊕ Int)} {Q : PX → St → Prop} (hQ : ∀ e st', finL (f48_l2_H a1) (f48_l2_X a1) r e st' → Q e st') (p243 : Int) (hS : f48_l2_j4 a1 p243 = some r) {st : St} (he : keepSt [1, 26, 27] [(16, .id 16)] [] st = f48_l2_j4_J a1 p243) : ZR (lev codes baseL (d - 1)) Q c48_4 [] st := by
  refine zrKeep he ?_
  unfold f48_l2_j4 at hS
  refine zrSeq ?_
  refine zrBlk ?_
  refine zrSeq (zrReg (zL 2 2 (zE (zkSeq (zrSeq (zrReg (zL 2 2 ?_)))))))
  refine bindE hS (fun z51 hz51 hS => ?_)
  refine zO (some 32) 3 (.callr 75 [(tm 30), (tm 31)]) (ev_callrXA (ids := []) (bs := []) (by kernel_rfl) (by kernel_rfl) (by kernel_rfl) (by kernel_rfl) (f75_ok (d - 1) (dpt hd rfl) a1 p243 z51 hz51) (by kernel_rfl) sm_nil (by kernel_rfl)) ?_
  refine zL 1 4 (zE (zkSeq (zrSeq (zrReg (zL 3 3 (zE (zkSeq ?_)))))))
  refine zrBlk ?_
  refine bindE hS (fun z72 hz72 hS => ?_)
  refine zrLoop (f48_l2_l5_H a1) (f48_l2_l5_X a1) (fun x st r Q h0 hS hQ => f48_l2_l5_ok hd a1 hQ hS h0) (x := (z51, p243, z51, (z51.length : Int), 0)) (z := z72) (by show keepSt _ _ _ _ = _; kernel_rfl) hz72 ?_
  rcases z72 with z73 | z74
  · replace hS := (show _ = _ from hS)
    simp only [Sum.elim_inl] at hS
    intro e st' _ hX
    obtain ⟨rfl, rfl⟩ : _ ∧ _ := hX
    refine zkBlkX ?_
    refine zkBlk ?_
    refine zkSeq (zrReg (zL 2 2 (zE ?_)))
    refine zkNil ?_
    exact endQ hS hQ (finL_n (by show keepSt _ _ _ _ = _; kernel_rfl))
  · simp only [Sum.elim_inr] at hS
    intro e st' _ hX
    obtain ⟨rfl, hX⟩ : _ ∧ _ := hX
    refine zkBlkR ?_
    refine zkBlkR ?_
    refine zkSeqR ?_
    refine zkNil ?_
    exact endQ hS hQ (finL_x (by intro h; cases h) (by show _ = _ ∧ _ = _; exact ⟨rfl, hX⟩))
def f48_l2_j3_J (a1 : GGrid) (p241 : Int) (p242 : Bool) : St := ⟨(up (up (up (up u0 28 (dB p242)) 27 (dI p241)) 26 (dI a1.High)) 1 (pt 16)), (up h0 16 ⟨0, some (.box ((dI a1.Wide) :: ((dI a1.High) :: ((.d (.sl a1.Cells.length (e_GCell.cells a1.Cells))) :: []))))⟩)⟩
noncomputable def f48_l2_j3 (a1 : GGrid) (p241 : Int) (p242 : Bool) : Option (Int ⊕ (Unit ⊕ Int)) := (bif p242 then (f48_l2_j4 a1 p241) else (some (.inr (.inl ()))))
theorem f48_l2_j3_ok {d : Nat} (hd : 4 ≤ d) (a1 : GGrid) {r : Int ⊕ (Unit ⊕ Int)} {Q : PX → St → Prop} (hQ : ∀ e st', finL (f48_l2_H a1) (f48_l2_X a1) r e st' → Q e st') (p241 : Int) (p242 : Bool) (hS : f48_l2_j3 a1 p241 p242 = some r) {st : St} (he : keepSt [1, 26, 27, 28] [(16, .id 16)] [] st = f48_l2_j3_J a1 p241 p242) : ZR (lev codes baseL (d - 1)) Q c48_5 [] st := by
  refine zrKeep he ?_
  unfold f48_l2_j3 at hS
  refine zrSeq ?_
  refine zrSplit 28 p242 (by kernel_rfl) (fun hc => ?_) (fun hc => ?_)
  · replace hS := cond_t hc hS
    refine zT ?_
    refine zrSkip ?_
    refine zkSeq ?_
    exact f48_l2_j4_ok hd a1 hQ p241 hS (by kernel_rfl)
  · replace hS := cond_f hc hS
    refine zF ?_
    refine zrKeep (J := f48_l2_e0_J a1) (by kernel_rfl) ?_
    refine zrExit ?_
    refine zkSeqX ?_
    refine zkNil ?_
    exact endQ hS hQ (finL_x (by intro h; cases h) (by show _ = _ ∧ _ = _; exact ⟨rfl, rfl⟩))
noncomputable def f48_l2 (a1 : GGrid) (x : Int) : Option (Int ⊕ (Unit ⊕ Int)) := (bif (decide (x < a1.High)) then (f48_l2_j3 a1 x true) else (f48_l2_j3 a1 x false))
theorem f48_l2_ok {d : Nat} (hd : 4 ≤ d) (a1 : GGrid) {r : Int ⊕ (Unit ⊕ Int)} {Q : PX → St → Prop} (hQ : ∀ e st', finL (f48_l2_H a1) (f48_l2_X a1) r e st' → Q e st') {x : Int} (hS : f48_l2 a1 x = some r) {st : St} (he : f48_l2_H a1 x st) : ZR (lev codes baseL (d - 1)) Q c48_6 [] st := by
  refine zrKeep he ?_
  unfold f48_l2 at hS
  refine zrSeq (zrReg ?_)
  refine zB 28 1 (.cmpI .lss (tm 27) (tm 26)) (decide (x < a1.High)) (fun hc => ?_) (fun hc => ?_)
  · replace hS := cond_t hc hS
    refine zE (zkSeq ?_)
    exact f48_l2_j3_ok hd a1 hQ x true hS (by kernel_rfl)
  · replace hS := cond_f hc hS
    refine zE (zkSeq ?_)
    exact f48_l2_j3_ok hd a1 hQ x false hS (by kernel_rfl)
def f48_j1_J (a1 : GGrid) : St := ⟨(up u0 1 (pt 16)), (up h0 16 ⟨0, some (.box ((dI a1.Wide) :: ((dI a1.High) :: ((.d (.sl a1.Cells.length (e_GCell.cells a1.Cells))) :: []))))⟩)⟩
noncomputable def f48_j1 (a1 : GGrid) : Option (Int) := ((loopO (f48_l2 a1) 0).bind fun z75 => (Sum.elim (fun z76 => (some 0)) (fun z77 => (some z77)) z75))
theorem f48_j1_ok {d : Nat} (hd : 4 ≤ d) (a1 : GGrid) {r : Int} {Q : PX → St → Prop} (hQ : ∀ e st', f48_Q r e st' → Q e st')  (hS : f48_j1 a1 = some r) {st : St} (he : keepSt [1] [(16, .id 16)] [] st = f48_j1_J a1) : ZR (lev codes baseL (d - 1)) Q c48_7 [] st := by
  refine zrKeep he ?_
  unfold f48_j1 at hS
  refine zrSeq (zrSeq (zrReg (zL 3 3 (zE (zkSeq ?_)))))
  refine zrBlk ?_
  refine bindE hS (fun z75 hz75 hS => ?_)
  refine zrLoop (f48_l2_H a1) (f48_l2_X a1) (fun x st r Q h0 hS hQ => f48_l2_ok hd a1 hQ hS h0) (x := 0) (z := z75) (by show keepSt _ _ _ _ = _; kernel_rfl) hz75 ?_
  rcases z75 with z76 | z77
  · replace hS := (show _ = _ from hS)
    simp only [Sum.elim_inl] at hS
    intro e st' _ hX
    obtain ⟨rfl, rfl⟩ : _ ∧ _ := hX
    refine zkBlkX ?_
    refine zkSeq (zrSeq (zrReg (zL 1 1 (zE (zkSeq ?_)))))
    refine zrRet ?_
    refine zkNil ?_
    exact endQ hS hQ (fR (f48_out 0))
  · simp only [Sum.elim_inr] at hS
    intro e st' _ hX
    obtain ⟨rfl, hX⟩ : _ ∧ _ := hX
    refine zkBlkR ?_
    refine zkSeqR ?_
    refine zkNil ?_
    exact endQ hS hQ (fRet (by kernel_rfl) ((congrArg (fun s => outR s 0 c48.res) hX).trans (f48_out z77)))
def f48_j0_J (a1 : GGrid) : St := ⟨(up u0 1 (pt 16)), (up h0 16 ⟨0, some (.box ((dI a1.Wide) :: ((dI a1.High) :: ((.d (.sl a1.Cells.length (e_GCell.cells a1.Cells))) :: []))))⟩)⟩
noncomputable def f48_j0 (a1 : GGrid) : Option (Int) := (bif (!decide ((a1.Cells.length : Int) = (IntKind.i64.wrap (a1.Wide * a1.High)))) then (some 4) else (f48_j1 a1 ))
theorem f48_j0_ok {d : Nat} (hd : 4 ≤ d) (a1 : GGrid) {r : Int} {Q : PX → St → Prop} (hQ : ∀ e st', f48_Q r e st' → Q e st')  (hS : f48_j0 a1 = some r) {st : St} (he : keepSt [1] [(16, .id 16)] [] st = f48_j0_J a1) : ZR (lev codes baseL (d - 1)) Q c48_8 [] st := by
  refine zrKeep he ?_
  unfold f48_j0 at hS
  refine zrSeq (zrSeq (zrReg (zL 8 8 ?_)))
  refine zB 24 9 (.cmpI .neq (tm 18) (tm 23)) (!decide ((a1.Cells.length : Int) = (IntKind.i64.wrap (a1.Wide * a1.High)))) (fun hc => ?_) (fun hc => ?_)
  · replace hS := cond_t hc hS
    refine zE (zkSeq (zT (zrSeq (zrReg (zL 1 1 (zE (zkSeq ?_)))))))
    refine zrRet ?_
    refine zkSeqR ?_
    refine zkNil ?_
    exact endQ hS hQ (fR (f48_out 4))
  · replace hS := cond_f hc hS
    refine zE (zkSeq (zF ?_))
    refine zrSkip ?_
    refine zkSeq ?_
    exact f48_j1_ok hd a1 hQ  hS (by kernel_rfl)
noncomputable def f48 (a1 : GGrid) : Option (Int) := ((f74 a1.Wide a1.High).bind fun z78 => (bif (!decide (z78 = 0)) then (some z78) else (f48_j0 a1 )))
theorem f48_ok (d : Nat) (hd : 4 ≤ d) (a1 : GGrid) (r : Int) (hS : f48 a1 = some r) : lev codes baseL d 48 [(.agg ((dI a1.Wide) :: ((dI a1.High) :: ((.d (.sl a1.Cells.length (e_GCell.cells a1.Cells))) :: []))))] [] = some ((dI r), []) := by
  refine lev_go codes48 rfl rfl (Nat.le_trans (Nat.le_of_ble_eq_true rfl) hd) fun Q hQ => ?_
  unfold f48 at hS
  show ZR _ Q c48_b [] _
  replace hQ : ∀ e st', f48_Q r e st' → Q e st' := hQ
  refine zrSeq (zrReg (zL 2 2 (zE (zkSeq (zrSeq (zrSeq (zrReg (zL 4 4 ?_))))))))
  refine bindE hS (fun z78 hz78 hS => ?_)
  refine zO (some 12) 5 (.call 74 [(tm 9), (tm 11)]) (ev_callA (by kernel_rfl) (f74_ok (d - 1) (dpt hd rfl) a1.Wide a1.High z78 hz78) (by kernel_rfl) (by kernel_rfl)) ?_
  refine zL 1 6 (zE (zkSeq (zrSeq (zrReg (zL 1 1 ?_)))))
  refine zB 14 2 (.cmpI .neq (tm 13) (ki 0)) (!decide (z78 = 0)) (fun hc => ?_) (fun hc => ?_)
  · replace hS := cond_t hc hS
    refine zE (zkSeq (zT (zrSeq (zrReg (zL 2 2 (zE (zkSeq ?_)))))))
    refine zrRet ?_
    refine zkSeqR ?_
    refine zkNil ?_
    exact endQ hS hQ (fR (f48_out z78))
  · replace hS := cond_f hc hS
    refine zE (zkSeq (zF ?_))
    refine zrSkip ?_
    refine zkSeq ?_
    exact f48_j0_ok hd a1 hQ  hS (by kernel_rfl)
/- farwriter/screen.within -/
def f49_fin (p3 : Bool) : St := ⟨(up u0 6 (dB p3)), h0⟩
theorem f49_out (p3 : Bool) : outR (f49_fin p3) 0 c49.res = some ((dB p3), []) := by
  kernel_rfl
def f49_Q (r : Bool) (e : PX) (st : St) : Prop := DoneF c49 0 ((dB r), []) e st
noncomputable def f49 (a1 : Int) (a2 : Int) (a3 : Int) : Option (Bool) := (bif (decide (a2 ≤ a1)) then (bif (decide (a1 ≤ a3)) then (some true) else (some false)) else (some false))
theorem f49_ok (d : Nat) (hd : 1 ≤ d) (a1 : Int) (a2 : Int) (a3 : Int) (r : Bool) (hS : f49 a1 a2 a3 = some r) : lev codes baseL d 49 [(dI a1), (dI a2), (dI a3)] [] = some ((dB r), []) := by
  refine lev_go codes49 rfl rfl (Nat.le_trans (Nat.le_of_ble_eq_true rfl) hd) fun Q hQ => ?_
  unfold f49 at hS
  show ZR _ Q c49_b [] _
  replace hQ : ∀ e st', f49_Q r e st' → Q e st' := hQ
  refine zrSeq (zrReg (zL 1 1 (zE (zkSeq (zrSeq (zrReg (zL 2 2 ?_)))))))
  refine zB 9 3 (.cmpI .geq (tm 7) (tm 8)) (decide (a2 ≤ a1)) (fun hc => ?_) (fun hc => ?_)
  · replace hS := cond_t hc hS
    refine zL 3 6 ?_
    refine zlBool (d := 13) (op := (.cmpI .leq (tm 11) (tm 12))) (g := (some (10, true))) (j := 7) (decide (a1 ≤ a3)) rfl (by kernel_rfl) (by kernel_rfl) (by kernel_rfl) (fun hc => ?_) (fun hc => ?_)
    · replace hS := cond_t hc hS
      refine zL 2 9 (zE (zkSeq ?_))
      refine zrRet ?_
      refine zkNil ?_
      exact endQ hS hQ (fR (f49_out true))
    · replace hS := cond_f hc hS
      refine zL 2 9 (zE (zkSeq ?_))
      refine zrRet ?_
      refine zkNil ?_
      exact endQ hS hQ (fR (f49_out false))
  · replace hS := cond_f hc hS
    refine zL 6 9 (zE (zkSeq ?_))
    refine zrRet ?_
    refine zkNil ?_
    exact endQ hS hQ (fR (f49_out false))
/- farwriter/page.Known -/
def f51_fin (p3 : Bool) : St := ⟨(up u0 2 (dB p3)), h0⟩
theorem f51_out (p3 : Bool) : outR (f51_fin p3) 0 c51.res = some ((dB p3), []) := by
  kernel_rfl
def f51_Q (r : Bool) (e : PX) (st : St) : Prop := DoneF c51 0 ((dB r), []) e st
noncomputable def f51 (a1 : Int) : Option (Bool) := (bif (decide (1 ≤ a1)) then (bif (decide (a1 ≤ 4)) then (some true) else (some false)) else (some false))
theorem f51_ok (d : Nat) (hd : 1 ≤ d) (a1 : Int) (r : Bool) (hS : f51 a1 = some r) : lev codes baseL d 51 [(dI a1)] [] = some ((dB r), []) := by
  refine lev_go codes51 rfl rfl (Nat.le_trans (Nat.le_of_ble_eq_true rfl) hd) fun Q hQ => ?_
  unfold f51 at hS
  show ZR _ Q c51_b [] _
  replace hQ : ∀ e st', f51_Q r e st' → Q e st' := hQ
  refine zrSeq (zrReg (zL 1 1 (zE (zkSeq (zrSeq (zrReg (zL 1 1 ?_)))))))
  refine zB 4 2 (.cmpI .geq (tm 3) (ki 1)) (decide (1 ≤ a1)) (fun hc => ?_) (fun hc => ?_)
  · replace hS := cond_t hc hS
    refine zL 2 4 ?_
    refine zlBool (d := 7) (op := (.cmpI .leq (tm 6) (ki 4))) (g := (some (5, true))) (j := 5) (decide (a1 ≤ 4)) rfl (by kernel_rfl) (by kernel_rfl) (by kernel_rfl) (fun hc => ?_) (fun hc => ?_)
    · replace hS := cond_t hc hS
      refine zL 2 7 (zE (zkSeq ?_))
      refine zrRet ?_
      refine zkNil ?_
      exact endQ hS hQ (fR (f51_out true))
    · replace hS := cond_f hc hS
      refine zL 2 7 (zE (zkSeq ?_))
      refine zrRet ?_
      refine zkNil ?_
      exact endQ hS hQ (fR (f51_out false))
  · replace hS := cond_f hc hS
    refine zL 5 7 (zE (zkSeq ?_))
    refine zrRet ?_
    refine zkNil ?_
    exact endQ hS hQ (fR (f51_out false))
/- farwriter/screen.past -/
def f52_fin (p14 : Bool) : St := ⟨(up u0 2 (dB p14)), h0⟩
theorem f52_out (p14 : Bool) : outR (f52_fin p14) 0 c52.res = some ((dB p14), []) := by
  kernel_rfl
def f52_Q (r : Bool) (e : PX) (st : St) : Prop := DoneF c52 0 ((dB r), []) e st
def f52_l0_J (a1 : List GLine) (x : Int) : St := ⟨(up (up (up (up u0 7 (dI x)) 6 (dI (a1.length : Int))) 5 (.d (.sl a1.length (e_GLine.cells a1)))) 0 (.d (.sl a1.length (e_GLine.cells a1)))), h0⟩
def f52_l0_H (a1 : List GLine) (x : Int) (st : St) : Prop := keepSt [0, 5, 6, 7] [] [] st = f52_l0_J a1 x
def f52_l0_e0_J (a1 : List GLine) : St := ⟨(up u0 0 (.d (.sl a1.length (e_GLine.cells a1)))), h0⟩
def f52_l0_X (a1 : List GLine) (z : Unit ⊕ Bool) (e : PX) (st : St) : Prop := (match z with | .inl z => e = .exit 0 ∧ st = f52_l0_e0_J a1 | .inr z => e = .ret ∧ finSt c52.fin st = f52_fin z)
def f52_l0_j2_J (a1 : List GLine) (p19 : Int) : St := ⟨(up (up (up (up u0 7 (dI p19)) 6 (dI (a1.length : Int))) 5 (.d (.sl a1.length (e_GLine.cells a1)))) 0 (.d (.sl a1.length (e_GLine.cells a1)))), h0⟩
noncomputable def f52_l0_j2 (a1 : List GLine) (p19 : Int) : Option (Int ⊕ (Unit ⊕ Bool)) := ((idx a1 p19).bind fun z7 => ((f48 (GGrid.mk (z7.Cells.length : Int) 1 z7.Cells)).bind fun z8 => (bif (!decide (z8 = 0)) then (some (.inr (.inr false))) else (some (.inl (IntKind.i64.wrap (p19 + 1)))))))
theorem f52_l0_j2_ok {d : Nat} (hd : 5 ≤ d) (a1 : List GLine) {r : Int ⊕ (Unit ⊕ Bool)} {Q : PX → St → Prop} (hQ : ∀ e st', finL (f52_l0_H a1) (f52_l0_X a1) r e st' → Q e st') (p19 : Int) (hS : f52_l0_j2 a1 p19 = some r) {st : St} (he : keepSt [0, 5, 6, 7] [] [] st = f52_l0_j2_J a1 p19) : ZR (lev codes baseL (d - 1)) Q c52_1 [] st := by
  refine zrKeep he ?_
  unfold f52_l0_j2 at hS
  refine zrSeq ?_
  refine zrBlk ?_
  refine zrSeq (zrReg ?_)
  refine bindE hS (fun z7 hz7 hS => ?_)
  refine zO (v := (.rptr (e_GLine.enc z7 ++ (e_GLine.cells (a1.drop ((p19 : Int).toNat + 1)))))) (ups := []) (some 9) 1 (.ixS 87 1 (tm 5) (tm 7)) (ev_ixS e_GLine (kk := .i64) (xs := a1) (j := p19) (by kernel_rfl) (by kernel_rfl) hz7 rfl (by intro h; cases h)) ?_
  refine zL 3 4 (zE (zkSeq (zrSeq (zrReg (zL 6 6 ?_)))))
  refine bindE hS (fun z8 hz8 hS => ?_)
  refine zO (some 17) 7 (.call 48 [(tm 16)]) (ev_callA (by kernel_rfl) (f48_ok (d - 1) (dpt hd rfl) (GGrid.mk (z7.Cells.length : Int) 1 z7.Cells) z8 hz8) (by kernel_rfl) (by kernel_rfl)) ?_
  refine zB 18 8 (.cmpI .neq (tm 17) (ki 0)) (!decide (z8 = 0)) (fun hc => ?_) (fun hc => ?_)
  · replace hS := cond_t hc hS
    refine zE (zkSeq (zT (zrSeq (zrReg (zL 1 1 (zE (zkSeq ?_)))))))
    refine zrRet ?_
    refine zkBlkR ?_
    refine zkSeqR ?_
    refine zkNil ?_
    exact endQ hS hQ (finL_x (by intro h; cases h) (by show _ = _ ∧ _ = _; exact ⟨rfl, by kernel_rfl⟩))
  · replace hS := cond_f hc hS
    refine zE (zkSeq (zF ?_))
    refine zrSkip ?_
    refine zkBlk ?_
    refine zkSeq (zrReg (zL 2 2 (zE ?_)))
    refine zkNil ?_
    exact endQ hS hQ (finL_n (by show keepSt _ _ _ _ = _; kernel_rfl))
def f52_l0_j1_J (a1 : List GLine) (p17 : Int) (p18 : Bool) : St := ⟨(up (up (up (up (up u0 8 (dB p18)) 7 (dI p17)) 6 (dI (a1.length : Int))) 5 (.d (.sl a1.length (e_GLine.cells a1)))) 0 (.d (.sl a1.length (e_GLine.cells a1)))), h0⟩
noncomputable def f52_l0_j1 (a1 : List GLine) (p17 : Int) (p18 : Bool) : Option (Int ⊕ (Unit ⊕ Bool)) := (bif p18 then (f52_l0_j2 a1 p17) else (some (.inr (.inl ()))))
theorem f52_l0_j1_ok {d : Nat} (hd : 5 ≤ d) (a1 : List GLine) {r : Int ⊕ (Unit ⊕ Bool)} {Q : PX → St → Prop} (hQ : ∀ e st', finL (f52_l0_H a1) (f52_l0_X a1) r e st' → Q e st') (p17 : Int) (p18 : Bool) (hS : f52_l0_j1 a1 p17 p18 = some r) {st : St} (he : keepSt [0, 5, 6, 7, 8] [] [] st = f52_l0_j1_J a1 p17 p18) : ZR (lev codes baseL (d - 1)) Q c52_2 [] st := by
  refine zrKeep he ?_
  unfold f52_l0_j1 at hS
  refine zrSeq ?_
  refine zrSplit 8 p18 (by kernel_rfl) (fun hc => ?_) (fun hc => ?_)
  · replace hS := cond_t hc hS
    refine zT ?_
    refine zrSkip ?_
    refine zkSeq ?_
    exact f52_l0_j2_ok hd a1 hQ p17 hS (by kernel_rfl)
  · replace hS := cond_f hc hS
    refine zF ?_
    refine zrKeep (J := f52_l0_e0_J a1) (by kernel_rfl) ?_
    refine zrExit ?_
    refine zkSeqX ?_
    refine zkNil ?_
    exact endQ hS hQ (finL_x (by intro h; cases h) (by show _ = _ ∧ _ = _; exact ⟨rfl, rfl⟩))
noncomputable def f52_l0 (a1 : List GLine) (x : Int) : Option (Int ⊕ (Unit ⊕ Bool)) := (bif (decide (x < (a1.length : Int))) then (f52_l0_j1 a1 x true) else (f52_l0_j1 a1 x false))
theorem f52_l0_ok {d : Nat} (hd : 5 ≤ d) (a1 : List GLine) {r : Int ⊕ (Unit ⊕ Bool)} {Q : PX → St → Prop} (hQ : ∀ e st', finL (f52_l0_H a1) (f52_l0_X a1) r e st' → Q e st') {x : Int} (hS : f52_l0 a1 x = some r) {st : St} (he : f52_l0_H a1 x st) : ZR (lev codes baseL (d - 1)) Q c52_3 [] st := by
  refine zrKeep he ?_
  unfold f52_l0 at hS
  refine zrSeq (zrReg ?_)
  refine zB 8 1 (.cmpI .lss (tm 7) (tm 6)) (decide (x < (a1.length : Int))) (fun hc => ?_) (fun hc => ?_)
  · replace hS := cond_t hc hS
    refine zE (zkSeq ?_)
    exact f52_l0_j1_ok hd a1 hQ x true hS (by kernel_rfl)
  · replace hS := cond_f hc hS
    refine zE (zkSeq ?_)
    exact f52_l0_j1_ok hd a1 hQ x false hS (by kernel_rfl)
noncomputable def f52 (a1 : List GLine) : Option (Bool) := ((loopO (f52_l0 a1) 0).bind fun z9 => (Sum.elim (fun z10 => (bif (decide ((a1.length : Int) ≤ 40)) then (some true) else (some false))) (fun z11 => (some z11)) z9))
theorem f52_ok (d : Nat) (hd : 5 ≤ d) (a1 : List GLine) (r : Bool) (hS : f52 a1 = some r) : lev codes baseL d 52 [(.d (.sl a1.length (e_GLine.cells a1)))] [] = some ((dB r), []) := by
  refine lev_go codes52 rfl rfl (Nat.le_trans (Nat.le_of_ble_eq_true rfl) hd) fun Q hQ => ?_
  unfold f52 at hS
  show ZR _ Q c52_b [] _
  replace hQ : ∀ e st', f52_Q r e st' → Q e st' := hQ
  refine zrSeq (zrReg (zL 1 1 (zE (zkSeq (zrSeq (zrSeq (zrReg (zL 3 3 (zE (zkSeq ?_))))))))))
  refine zrBlk ?_
  refine bindE hS (fun z9 hz9 hS => ?_)
  refine zrLoop (f52_l0_H a1) (f52_l0_X a1) (fun x st r Q h0 hS hQ => f52_l0_ok hd a1 hQ hS h0) (x := 0) (z := z9) (by show keepSt _ _ _ _ = _; kernel_rfl) hz9 ?_
  rcases z9 with z10 | z11
  · replace hS := (show _ = _ from hS)
    simp only [Sum.elim_inl] at hS
    intro e st' _ hX
    obtain ⟨rfl, rfl⟩ : _ ∧ _ := hX
    refine zkBlkX ?_
    refine zkSeq (zrSeq (zrReg (zL 2 2 ?_)))
    refine zB 22 3 (.cmpI .leq (tm 21) (ki 40)) (decide ((a1.length : Int) ≤ 40)) (fun hc => ?_) (fun hc => ?_)
    · replace hS := cond_t hc hS
      refine zL 1 4 (zE (zkSeq ?_))
      refine zrRet ?_
      refine zkNil ?_
      exact endQ hS hQ (fR (f52_out true))
    · replace hS := cond_f hc hS
      refine zL 1 4 (zE (zkSeq ?_))
      refine zrRet ?_
      refine zkNil ?_
      exact endQ hS hQ (fR (f52_out false))
  · simp only [Sum.elim_inr] at hS
    intro e st' _ hX
    obtain ⟨rfl, hX⟩ : _ ∧ _ := hX
    refine zkBlkR ?_
    refine zkSeqR ?_
    refine zkNil ?_
    exact endQ hS hQ (fRet (by kernel_rfl) ((congrArg (fun s => outR s 0 c52.res) hX).trans (f52_out z11)))
/- farwriter/screen.Check -/
def f28_fin (p33 : Int) : St := ⟨(up u0 2 (dI p33)), h0⟩
theorem f28_out (p33 : Int) : outR (f28_fin p33) 0 c28.res = some ((dI p33), []) := by
  kernel_rfl
def f28_Q (r : Int) (e : PX) (st : St) : Prop := DoneF c28 0 ((dI r), []) e st
def f28_j6_J (a1 : GScreen) (p70 : Bool) : St := ⟨(up (up u0 5 (dB p70)) 1 (pt 16)), (up h0 16 ⟨0, some (.box (bd_GScreen a1))⟩)⟩
noncomputable def f28_j6 (a1 : GScreen) (p70 : Bool) : Option (Int) := (bif p70 then (bif (decide ((a1.Title.length : Int) ≤ 256)) then ((f52 a1.Past).bind fun z42 => (bif (!z42) then (some 4) else (some 0))) else (some 4)) else (some 4))
theorem f28_j6_ok {d : Nat} (hd : 6 ≤ d) (a1 : GScreen) {r : Int} {Q : PX → St → Prop} (hQ : ∀ e st', f28_Q r e st' → Q e st') (p70 : Bool) (hS : f28_j6 a1 p70 = some r) {st : St} (he : keepSt [1, 5] [(16, .id 16)] [] st = f28_j6_J a1 p70) : ZR (lev codes baseL (d - 1)) Q c28_1 [] st := by
  refine zrKeep he ?_
  unfold f28_j6 at hS
  refine zrSeq (zrReg (zL 2 2 ?_))
  refine zlSplit 144 p70 (by kernel_rfl) (fun hc => ?_) (fun hc => ?_)
  · replace hS := cond_t hc hS
    refine zL 3 5 ?_
    refine zlBool (d := 148) (op := (.cmpI .leq (tm 147) (ki 256))) (g := (some (144, true))) (j := 6) (decide ((a1.Title.length : Int) ≤ 256)) rfl (by kernel_rfl) (by kernel_rfl) (by kernel_rfl) (fun hc => ?_) (fun hc => ?_)
    · replace hS := cond_t hc hS
      refine zL 4 10 ?_
      refine bindE hS (fun z42 hz42 hS => ?_)
      refine zlOp (d := some 153) (op := (.call 52 [(tm 152)])) (g := (some (150, true))) (j := 11) rfl (by kernel_rfl) (by kernel_rfl) (ev_callA (by kernel_rfl) (f52_ok (d - 1) (dpt hd rfl) a1.Past z42 hz42) (by kernel_rfl) (by kernel_rfl)) ?_
      refine zL 2 13 (zE (zkSeq (zrSeq (zrSeq (zrReg (zL 2 2 (zE (zkSeq ?_))))))))
      refine zrSplit 156 (!z42) (by kernel_rfl) (fun hc => ?_) (fun hc => ?_)
      · replace hS := cond_t hc hS
        refine zT (zrSeq (zrReg (zL 1 1 (zE (zkSeq ?_)))))
        refine zrRet ?_
        refine zkSeqR ?_
        refine zkNil ?_
        exact endQ hS hQ (fR (f28_out 4))
      · replace hS := cond_f hc hS
        refine zF ?_
        refine zrSkip ?_
        refine zkSeq (zrSeq (zrReg (zL 1 1 (zE (zkSeq ?_)))))
        refine zrRet ?_
        refine zkNil ?_
        exact endQ hS hQ (fR (f28_out 0))
    · replace hS := cond_f hc hS
      refine zL 7 13 (zE (zkSeq (zrSeq (zrSeq (zrReg (zL 2 2 (zE (zkSeq (zT (zrSeq (zrReg (zL 1 1 (zE (zkSeq ?_))))))))))))))
      refine zrRet ?_
      refine zkSeqR ?_
      refine zkNil ?_
      exact endQ hS hQ (fR (f28_out 4))
  · replace hS := cond_f hc hS
    refine zL 11 13 (zE (zkSeq (zrSeq (zrSeq (zrReg (zL 2 2 (zE (zkSeq (zT (zrSeq (zrReg (zL 1 1 (zE (zkSeq ?_))))))))))))))
    refine zrRet ?_
    refine zkSeqR ?_
    refine zkNil ?_
    exact endQ hS hQ (fR (f28_out 4))
def f28_j5_J (a1 : GScreen) (p67 : Bool) : St := ⟨(up (up u0 5 (dB p67)) 1 (pt 16)), (up h0 16 ⟨0, some (.box (bd_GScreen a1))⟩)⟩
noncomputable def f28_j5 (a1 : GScreen) (p67 : Bool) : Option (Int) := (bif p67 then ((f49 a1.Saved.Row 0 59).bind fun z43 => (bif z43 then ((f49 a1.Saved.Col 0 159).bind fun z44 => (f28_j6 a1 z44)) else (f28_j6 a1 false))) else (f28_j6 a1 false))
theorem f28_j5_ok {d : Nat} (hd : 6 ≤ d) (a1 : GScreen) {r : Int} {Q : PX → St → Prop} (hQ : ∀ e st', f28_Q r e st' → Q e st') (p67 : Bool) (hS : f28_j5 a1 p67 = some r) {st : St} (he : keepSt [1, 5] [(16, .id 16)] [] st = f28_j5_J a1 p67) : ZR (lev codes baseL (d - 1)) Q c28_2 [] st := by
  refine zrKeep he ?_
  unfold f28_j5 at hS
  refine zrSeq (zrReg (zL 2 2 ?_))
  refine zlSplit 131 p67 (by kernel_rfl) (fun hc => ?_) (fun hc => ?_)
  · replace hS := cond_t hc hS
    refine zL 3 5 ?_
    refine bindE hS (fun z43 hz43 hS => ?_)
    refine zlOp (d := some 135) (op := (.call 49 [(tm 134), (ki 0), (ki 59)])) (g := (some (131, true))) (j := 6) rfl (by kernel_rfl) (by kernel_rfl) (ev_callA (by kernel_rfl) (f49_ok (d - 1) (dpt hd rfl) a1.Saved.Row 0 59 z43 hz43) (by kernel_rfl) (by kernel_rfl)) ?_
    refine zL 2 8 ?_
    refine zlSplit 137 z43 (by kernel_rfl) (fun hc => ?_) (fun hc => ?_)
    · replace hS := cond_t hc hS
      refine zL 3 11 ?_
      refine bindE hS (fun z44 hz44 hS => ?_)
      refine zlOp (d := some 141) (op := (.call 49 [(tm 140), (ki 0), (ki 159)])) (g := (some (137, true))) (j := 12) rfl (by kernel_rfl) (by kernel_rfl) (ev_callA (by kernel_rfl) (f49_ok (d - 1) (dpt hd rfl) a1.Saved.Col 0 159 z44 hz44) (by kernel_rfl) (by kernel_rfl)) ?_
      refine zL 2 14 (zE (zkSeq ?_))
      exact f28_j6_ok hd a1 hQ z44 hS (by kernel_rfl)
    · replace hS := cond_f hc hS
      refine zL 6 14 (zE (zkSeq ?_))
      exact f28_j6_ok hd a1 hQ false hS (by kernel_rfl)
  · replace hS := cond_f hc hS
    refine zL 12 14 (zE (zkSeq ?_))
    exact f28_j6_ok hd a1 hQ false hS (by kernel_rfl)
def f28_j4_J (a1 : GScreen) (p64 : Bool) : St := ⟨(up (up u0 5 (dB p64)) 1 (pt 16)), (up h0 16 ⟨0, some (.box (bd_GScreen a1))⟩)⟩
noncomputable def f28_j4 (a1 : GScreen) (p64 : Bool) : Option (Int) := (bif p64 then ((f49 a1.Shift 0 1).bind fun z45 => (bif z45 then ((f49 a1.Saved.Shift 0 1).bind fun z46 => (f28_j5 a1 z46)) else (f28_j5 a1 false))) else (f28_j5 a1 false))
theorem f28_j4_ok {d : Nat} (hd : 6 ≤ d) (a1 : GScreen) {r : Int} {Q : PX → St → Prop} (hQ : ∀ e st', f28_Q r e st' → Q e st') (p64 : Bool) (hS : f28_j4 a1 p64 = some r) {st : St} (he : keepSt [1, 5] [(16, .id 16)] [] st = f28_j4_J a1 p64) : ZR (lev codes baseL (d - 1)) Q c28_3 [] st := by
  refine zrKeep he ?_
  unfold f28_j4 at hS
  refine zrSeq (zrReg (zL 2 2 ?_))
  refine zlSplit 119 p64 (by kernel_rfl) (fun hc => ?_) (fun hc => ?_)
  · replace hS := cond_t hc hS
    refine zL 2 4 ?_
    refine bindE hS (fun z45 hz45 hS => ?_)
    refine zlOp (d := some 122) (op := (.call 49 [(tm 121), (ki 0), (ki 1)])) (g := (some (119, true))) (j := 5) rfl (by kernel_rfl) (by kernel_rfl) (ev_callA (by kernel_rfl) (f49_ok (d - 1) (dpt hd rfl) a1.Shift 0 1 z45 hz45) (by kernel_rfl) (by kernel_rfl)) ?_
    refine zL 2 7 ?_
    refine zlSplit 124 z45 (by kernel_rfl) (fun hc => ?_) (fun hc => ?_)
    · replace hS := cond_t hc hS
      refine zL 3 10 ?_
      refine bindE hS (fun z46 hz46 hS => ?_)
      refine zlOp (d := some 128) (op := (.call 49 [(tm 127), (ki 0), (ki 1)])) (g := (some (124, true))) (j := 11) rfl (by kernel_rfl) (by kernel_rfl) (ev_callA (by kernel_rfl) (f49_ok (d - 1) (dpt hd rfl) a1.Saved.Shift 0 1 z46 hz46) (by kernel_rfl) (by kernel_rfl)) ?_
      refine zL 2 13 (zE (zkSeq ?_))
      exact f28_j5_ok hd a1 hQ z46 hS (by kernel_rfl)
    · replace hS := cond_f hc hS
      refine zL 6 13 (zE (zkSeq ?_))
      exact f28_j5_ok hd a1 hQ false hS (by kernel_rfl)
  · replace hS := cond_f hc hS
    refine zL 11 13 (zE (zkSeq ?_))
    exact f28_j5_ok hd a1 hQ false hS (by kernel_rfl)
def f28_j8_J (a1 : GScreen) (p78 : Bool) : St := ⟨(up (up (up u0 98 (dI 1)) 5 (dB p78)) 1 (pt 16)), (up h0 16 ⟨0, some (.box (bd_GScreen a1))⟩)⟩
noncomputable def f28_j8 (a1 : GScreen) (p78 : Bool) : Option (Int) := (bif p78 then ((f51 a1.Pages.2).bind fun z51 => (bif z51 then ((f51 a1.Saved.Pages.2).bind fun z52 => (f28_j4 a1 z52)) else (f28_j4 a1 false))) else (f28_j4 a1 false))
theorem f28_j8_ok {d : Nat} (hd : 6 ≤ d) (a1 : GScreen) {r : Int} {Q : PX → St → Prop} (hQ : ∀ e st', f28_Q r e st' → Q e st') (p78 : Bool) (hS : f28_j8 a1 p78 = some r) {st : St} (he : keepSt [1, 5, 98] [(16, .id 16)] [] st = f28_j8_J a1 p78) : ZR (lev codes baseL (d - 1)) Q c28_4 [.seq c28_5, .blk 0, .seq c28_3] st := by
  refine zrKeep he ?_
  unfold f28_j8 at hS
  refine zrSeq ?_
  refine zrBlk ?_
  refine zrSeq (zrReg (zL 2 2 (zE (zkSeq (zrReg (zL 2 2 ?_))))))
  refine zlSplit 102 p78 (by kernel_rfl) (fun hc => ?_) (fun hc => ?_)
  · replace hS := cond_t hc hS
    refine zL 4 6 ?_
    refine bindE hS (fun z51 hz51 hS => ?_)
    refine zlOp (d := some 107) (op := (.call 51 [(tm 106)])) (g := (some (102, true))) (j := 7) rfl (by kernel_rfl) (by kernel_rfl) (ev_callA (by kernel_rfl) (f51_ok (d - 1) (dpt hd rfl) a1.Pages.2 z51 hz51) (by kernel_rfl) (by kernel_rfl)) ?_
    refine zL 2 9 ?_
    refine zlSplit 109 z51 (by kernel_rfl) (fun hc => ?_) (fun hc => ?_)
    · replace hS := cond_t hc hS
      refine zL 5 14 ?_
      refine bindE hS (fun z52 hz52 hS => ?_)
      refine zlOp (d := some 115) (op := (.call 51 [(tm 114)])) (g := (some (109, true))) (j := 15) rfl (by kernel_rfl) (by kernel_rfl) (ev_callA (by kernel_rfl) (f51_ok (d - 1) (dpt hd rfl) a1.Saved.Pages.2 z52 hz52) (by kernel_rfl) (by kernel_rfl)) ?_
      refine zL 2 17 (zE ?_)
      refine zkBlk ?_
      refine zkSeq (zrReg (zL 2 2 (zE (zkSeq ?_))))
      refine zrLoop1 ?_
      refine zrSeq (zrReg (zL 1 1 (zE (zkSeq (zrSeq (zF ?_))))))
      refine zrExit ?_
      refine zkSeqX ?_
      refine zkSeqX ?_
      refine zkBlkX ?_
      refine zkSeq ?_
      exact f28_j4_ok hd a1 hQ z52 hS (by kernel_rfl)
    · replace hS := cond_f hc hS
      refine zL 8 17 (zE ?_)
      refine zkBlk ?_
      refine zkSeq (zrReg (zL 2 2 (zE (zkSeq ?_))))
      refine zrLoop1 ?_
      refine zrSeq (zrReg (zL 1 1 (zE (zkSeq (zrSeq (zF ?_))))))
      refine zrExit ?_
      refine zkSeqX ?_
      refine zkSeqX ?_
      refine zkBlkX ?_
      refine zkSeq ?_
      exact f28_j4_ok hd a1 hQ false hS (by kernel_rfl)
  · replace hS := cond_f hc hS
    refine zL 15 17 (zE ?_)
    refine zkBlk ?_
    refine zkSeq (zrReg (zL 2 2 (zE (zkSeq ?_))))
    refine zrLoop1 ?_
    refine zrSeq (zrReg (zL 1 1 (zE (zkSeq (zrSeq (zF ?_))))))
    refine zrExit ?_
    refine zkSeqX ?_
    refine zkSeqX ?_
    refine zkBlkX ?_
    refine zkSeq ?_
    exact f28_j4_ok hd a1 hQ false hS (by kernel_rfl)
def f28_j9_J (a1 : GScreen) : St := ⟨(up (up (up u0 98 (dI 1)) 5 (dB false)) 1 (pt 16)), (up h0 16 ⟨0, some (.box (bd_GScreen a1))⟩)⟩
noncomputable def f28_j9 (a1 : GScreen) : Option (Int) := (f28_j4 a1 false)
theorem f28_j9_ok {d : Nat} (hd : 6 ≤ d) (a1 : GScreen) {r : Int} {Q : PX → St → Prop} (hQ : ∀ e st', f28_Q r e st' → Q e st')  (hS : f28_j9 a1 = some r) {st : St} (he : keepSt [1, 5, 98] [(16, .id 16)] [] st = f28_j9_J a1) : ZR (lev codes baseL (d - 1)) Q c28_4 [.seq c28_5, .blk 0, .seq c28_3] st := by
  refine zrKeep he ?_
  unfold f28_j9 at hS
  refine zrSeq ?_
  refine zrBlk ?_
  refine zrSeq (zrReg (zL 2 2 (zE (zkSeq (zrReg (zL 17 17 (zE ?_)))))))
  refine zkBlk ?_
  refine zkSeq (zrReg (zL 2 2 (zE (zkSeq ?_))))
  refine zrLoop1 ?_
  refine zrSeq (zrReg (zL 1 1 (zE (zkSeq (zrSeq (zF ?_))))))
  refine zrExit ?_
  refine zkSeqX ?_
  refine zkSeqX ?_
  refine zkBlkX ?_
  refine zkSeq ?_
  exact f28_j4_ok hd a1 hQ false hS (by kernel_rfl)
def f28_j10_J (a1 : GScreen) : St := ⟨(up (up (up u0 98 (dI 1)) 5 (dB false)) 1 (pt 16)), (up h0 16 ⟨0, some (.box (bd_GScreen a1))⟩)⟩
noncomputable def f28_j10 (a1 : GScreen) : Option (Int) := (f28_j4 a1 false)
theorem f28_j10_ok {d : Nat} (hd : 6 ≤ d) (a1 : GScreen) {r : Int} {Q : PX → St → Prop} (hQ : ∀ e st', f28_Q r e st' → Q e st')  (hS : f28_j10 a1 = some r) {st : St} (he : keepSt [1, 5, 98] [(16, .id 16)] [] st = f28_j10_J a1) : ZR (lev codes baseL (d - 1)) Q c28_4 [.seq c28_5, .blk 0, .seq c28_3] st := by
  refine zrKeep he ?_
  unfold f28_j10 at hS
  refine zrSeq ?_
  refine zrBlk ?_
  refine zrSeq (zrReg (zL 2 2 (zE (zkSeq (zrReg (zL 17 17 (zE ?_)))))))
  refine zkBlk ?_
  refine zkSeq (zrReg (zL 2 2 (zE (zkSeq ?_))))
  refine zrLoop1 ?_
  refine zrSeq (zrReg (zL 1 1 (zE (zkSeq (zrSeq (zF ?_))))))
  refine zrExit ?_
  refine zkSeqX ?_
  refine zkSeqX ?_
  refine zkBlkX ?_
  refine zkSeq ?_
  exact f28_j4_ok hd a1 hQ false hS (by kernel_rfl)
def f28_j7_J (a1 : GScreen) (p71 : Bool) : St := ⟨(up (up (up u0 98 (dI 0)) 5 (dB p71)) 1 (pt 16)), (up h0 16 ⟨0, some (.box (bd_GScreen a1))⟩)⟩
noncomputable def f28_j7 (a1 : GScreen) (p71 : Bool) : Option (Int) := (bif p71 then ((f51 a1.Pages.1).bind fun z47 => (bif z47 then ((f51 a1.Saved.Pages.1).bind fun z48 => (f28_j8 a1 z48)) else (f28_j9 a1 ))) else (f28_j10 a1 ))
theorem f28_j7_ok {d : Nat} (hd : 6 ≤ d) (a1 : GScreen) {r : Int} {Q : PX → St → Prop} (hQ : ∀ e st', f28_Q r e st' → Q e st') (p71 : Bool) (hS : f28_j7 a1 p71 = some r) {st : St} (he : keepSt [1, 5, 98] [(16, .id 16)] [] st = f28_j7_J a1 p71) : ZR (lev codes baseL (d - 1)) Q c28_4 [.seq c28_5, .blk 0, .seq c28_3] st := by
  refine zrKeep he ?_
  unfold f28_j7 at hS
  refine zrSeq ?_
  refine zrBlk ?_
  refine zrSeq (zrReg (zL 2 2 (zE (zkSeq (zrReg (zL 2 2 ?_))))))
  refine zlSplit 102 p71 (by kernel_rfl) (fun hc => ?_) (fun hc => ?_)
  · replace hS := cond_t hc hS
    refine zL 4 6 ?_
    refine bindE hS (fun z47 hz47 hS => ?_)
    refine zlOp (d := some 107) (op := (.call 51 [(tm 106)])) (g := (some (102, true))) (j := 7) rfl (by kernel_rfl) (by kernel_rfl) (ev_callA (by kernel_rfl) (f51_ok (d - 1) (dpt hd rfl) a1.Pages.1 z47 hz47) (by kernel_rfl) (by kernel_rfl)) ?_
    refine zL 2 9 ?_
    refine zlSplit 109 z47 (by kernel_rfl) (fun hc => ?_) (fun hc => ?_)
    · replace hS := cond_t hc hS
      refine zL 5 14 ?_
      refine bindE hS (fun z48 hz48 hS => ?_)
      refine zlOp (d := some 115) (op := (.call 51 [(tm 114)])) (g := (some (109, true))) (j := 15) rfl (by kernel_rfl) (by kernel_rfl) (ev_callA (by kernel_rfl) (f51_ok (d - 1) (dpt hd rfl) a1.Saved.Pages.1 z48 hz48) (by kernel_rfl) (by kernel_rfl)) ?_
      refine zL 2 17 (zE ?_)
      refine zkBlk ?_
      refine zkSeq (zrReg (zL 2 2 (zE (zkSeq ?_))))
      refine zrLoop1 ?_
      refine zrSeq (zrReg (zL 1 1 (zE (zkSeq (zrSeq (zT ?_))))))
      refine zrSkip ?_
      refine zkSeq ?_
      exact f28_j8_ok hd a1 hQ z48 hS (by kernel_rfl)
    · replace hS := cond_f hc hS
      refine zL 8 17 (zE ?_)
      refine zkBlk ?_
      refine zkSeq (zrReg (zL 2 2 (zE (zkSeq ?_))))
      refine zrLoop1 ?_
      refine zrSeq (zrReg (zL 1 1 (zE (zkSeq (zrSeq (zT ?_))))))
      refine zrSkip ?_
      refine zkSeq ?_
      exact f28_j9_ok hd a1 hQ  hS (by kernel_rfl)
  · replace hS := cond_f hc hS
    refine zL 15 17 (zE ?_)
    refine zkBlk ?_
    refine zkSeq (zrReg (zL 2 2 (zE (zkSeq ?_))))
    refine zrLoop1 ?_
    refine zrSeq (zrReg (zL 1 1 (zE (zkSeq (zrSeq (zT ?_))))))
    refine zrSkip ?_
    refine zkSeq ?_
    exact f28_j10_ok hd a1 hQ  hS (by kernel_rfl)
def f28_j3_J (a1 : GScreen) (p51 : Bool) : St := ⟨(up (up u0 5 (dB p51)) 1 (pt 16)), (up h0 16 ⟨0, some (.box (bd_GScreen a1))⟩)⟩
noncomputable def f28_j3 (a1 : GScreen) (p51 : Bool) : Option (Int) := (f28_j7 a1 p51)
theorem f28_j3_ok {d : Nat} (hd : 6 ≤ d) (a1 : GScreen) {r : Int} {Q : PX → St → Prop} (hQ : ∀ e st', f28_Q r e st' → Q e st') (p51 : Bool) (hS : f28_j3 a1 p51 = some r) {st : St} (he : keepSt [1, 5] [(16, .id 16)] [] st = f28_j3_J a1 p51) : ZR (lev codes baseL (d - 1)) Q c28_6 [] st := by
  refine zrKeep he ?_
  unfold f28_j3 at hS
  refine zrSeq (zrSeq (zrReg (zL 1 1 (zE (zkSeq ?_)))))
  refine zrBlk ?_
  refine zrLoop1 ?_
  refine zrSeq (zrReg (zL 1 1 (zE (zkSeq (zrSeq (zT ?_))))))
  refine zrSkip ?_
  refine zkSeq ?_
  exact f28_j7_ok hd a1 hQ p51 hS (by kernel_rfl)
def f28_j2_J (a1 : GScreen) (p47 : Bool) : St := ⟨(up (up u0 5 (dB p47)) 1 (pt 16)), (up h0 16 ⟨0, some (.box (bd_GScreen a1))⟩)⟩
noncomputable def f28_j2 (a1 : GScreen) (p47 : Bool) : Option (Int) := (bif p47 then ((f50 a1.Pen).bind fun z53 => (bif (decide (z53 = 0)) then ((f50 a1.Saved.Pen).bind fun z54 => (bif (decide (z54 = 0)) then ((f49 a1.Modes 0 2047).bind fun z55 => (f28_j3 a1 z55)) else (f28_j3 a1 false))) else (f28_j3 a1 false))) else (f28_j3 a1 false))
theorem f28_j2_ok {d : Nat} (hd : 6 ≤ d) (a1 : GScreen) {r : Int} {Q : PX → St → Prop} (hQ : ∀ e st', f28_Q r e st' → Q e st') (p47 : Bool) (hS : f28_j2 a1 p47 = some r) {st : St} (he : keepSt [1, 5] [(16, .id 16)] [] st = f28_j2_J a1 p47) : ZR (lev codes baseL (d - 1)) Q c28_7 [] st := by
  refine zrKeep he ?_
  unfold f28_j2 at hS
  refine zrSeq (zrReg (zL 2 2 ?_))
  refine zlSplit 80 p47 (by kernel_rfl) (fun hc => ?_) (fun hc => ?_)
  · replace hS := cond_t hc hS
    refine zL 2 4 ?_
    refine bindE hS (fun z53 hz53 hS => ?_)
    refine zlOp (d := some 83) (op := (.call 50 [(tm 82)])) (g := (some (80, true))) (j := 5) rfl (by kernel_rfl) (by kernel_rfl) (ev_callA (by kernel_rfl) (f50_ok (d - 1) (dpt hd rfl) a1.Pen z53 hz53) (by kernel_rfl) (by kernel_rfl)) ?_
    refine zlBool (d := 84) (op := (.cmpI .eql (tm 83) (ki 0))) (g := (some (80, true))) (j := 6) (decide (z53 = 0)) rfl (by kernel_rfl) (by kernel_rfl) (by kernel_rfl) (fun hc => ?_) (fun hc => ?_)
    · replace hS := cond_t hc hS
      refine zL 5 11 ?_
      refine bindE hS (fun z54 hz54 hS => ?_)
      refine zlOp (d := some 90) (op := (.call 50 [(tm 89)])) (g := (some (86, true))) (j := 12) rfl (by kernel_rfl) (by kernel_rfl) (ev_callA (by kernel_rfl) (f50_ok (d - 1) (dpt hd rfl) a1.Saved.Pen z54 hz54) (by kernel_rfl) (by kernel_rfl)) ?_
      refine zlBool (d := 91) (op := (.cmpI .eql (tm 90) (ki 0))) (g := (some (86, true))) (j := 13) (decide (z54 = 0)) rfl (by kernel_rfl) (by kernel_rfl) (by kernel_rfl) (fun hc => ?_) (fun hc => ?_)
      · replace hS := cond_t hc hS
        refine zL 4 17 ?_
        refine bindE hS (fun z55 hz55 hS => ?_)
        refine zlOp (d := some 96) (op := (.call 49 [(tm 95), (ki 0), (ki 2047)])) (g := (some (93, true))) (j := 18) rfl (by kernel_rfl) (by kernel_rfl) (ev_callA (by kernel_rfl) (f49_ok (d - 1) (dpt hd rfl) a1.Modes 0 2047 z55 hz55) (by kernel_rfl) (by kernel_rfl)) ?_
        refine zL 2 20 (zE (zkSeq ?_))
        exact f28_j3_ok hd a1 hQ z55 hS (by kernel_rfl)
      · replace hS := cond_f hc hS
        refine zL 7 20 (zE (zkSeq ?_))
        exact f28_j3_ok hd a1 hQ false hS (by kernel_rfl)
    · replace hS := cond_f hc hS
      refine zL 14 20 (zE (zkSeq ?_))
      exact f28_j3_ok hd a1 hQ false hS (by kernel_rfl)
  · replace hS := cond_f hc hS
    refine zL 18 20 (zE (zkSeq ?_))
    exact f28_j3_ok hd a1 hQ false hS (by kernel_rfl)
def f28_j1_J (a1 : GScreen) (p43 : Bool) : St := ⟨(up (up (up u0 5 (dB p43)) 3 (pt 32)) 1 (pt 16)), (up (up h0 32 ⟨0, some (.box ((dI a1.Grid.Wide) :: ((dI a1.Grid.High) :: ((gd0_GScreen a1) :: []))))⟩) 16 ⟨0, some (.box (bd_GScreen a1))⟩)⟩
noncomputable def f28_j1 (a1 : GScreen) (p43 : Bool) : Option (Int) := (bif p43 then ((f49 a1.Top 0 (IntKind.i64.wrap (a1.Bottom - 1))).bind fun z56 => (bif z56 then (bif (decide (a1.Bottom ≤ a1.Grid.High)) then (f28_j2 a1 true) else (f28_j2 a1 false)) else (f28_j2 a1 false))) else (f28_j2 a1 false))
theorem f28_j1_ok {d : Nat} (hd : 6 ≤ d) (a1 : GScreen) {r : Int} {Q : PX → St → Prop} (hQ : ∀ e st', f28_Q r e st' → Q e st') (p43 : Bool) (hS : f28_j1 a1 p43 = some r) {st : St} (he : keepSt [1, 3, 5] [(16, .id 16), (32, .id 32)] [] st = f28_j1_J a1 p43) : ZR (lev codes baseL (d - 1)) Q c28_8 [] st := by
  refine zrKeep he ?_
  unfold f28_j1 at hS
  refine zrSeq (zrReg (zL 2 2 ?_))
  refine zlSplit 64 p43 (by kernel_rfl) (fun hc => ?_) (fun hc => ?_)
  · replace hS := cond_t hc hS
    refine zL 5 7 ?_
    refine bindE hS (fun z56 hz56 hS => ?_)
    refine zlOp (d := some 70) (op := (.call 49 [(tm 66), (ki 0), (tm 69)])) (g := (some (64, true))) (j := 8) rfl (by kernel_rfl) (by kernel_rfl) (ev_callA (by kernel_rfl) (f49_ok (d - 1) (dpt hd rfl) a1.Top 0 (IntKind.i64.wrap (a1.Bottom - 1)) z56 hz56) (by kernel_rfl) (by kernel_rfl)) ?_
    refine zL 2 10 ?_
    refine zlSplit 72 z56 (by kernel_rfl) (fun hc => ?_) (fun hc => ?_)
    · replace hS := cond_t hc hS
      refine zL 4 14 ?_
      refine zlBool (d := 77) (op := (.cmpI .leq (tm 74) (tm 76))) (g := (some (72, true))) (j := 15) (decide (a1.Bottom ≤ a1.Grid.High)) rfl (by kernel_rfl) (by kernel_rfl) (by kernel_rfl) (fun hc => ?_) (fun hc => ?_)
      · replace hS := cond_t hc hS
        refine zL 2 17 (zE (zkSeq ?_))
        exact f28_j2_ok hd a1 hQ true hS (by kernel_rfl)
      · replace hS := cond_f hc hS
        refine zL 2 17 (zE (zkSeq ?_))
        exact f28_j2_ok hd a1 hQ false hS (by kernel_rfl)
    · replace hS := cond_f hc hS
      refine zL 7 17 (zE (zkSeq ?_))
      exact f28_j2_ok hd a1 hQ false hS (by kernel_rfl)
  · replace hS := cond_f hc hS
    refine zL 15 17 (zE (zkSeq ?_))
    exact f28_j2_ok hd a1 hQ false hS (by kernel_rfl)
def f28_j0_J (a1 : GScreen) (p38 : Bool) : St := ⟨(up (up (up u0 5 (dB p38)) 3 (pt 32)) 1 (pt 16)), (up (up h0 32 ⟨0, some (.box ((dI a1.Grid.Wide) :: ((dI a1.Grid.High) :: ((gd0_GScreen a1) :: []))))⟩) 16 ⟨0, some (.box (bd_GScreen a1))⟩)⟩
noncomputable def f28_j0 (a1 : GScreen) (p38 : Bool) : Option (Int) := (bif p38 then ((f49 a1.Row 0 (IntKind.i64.wrap (a1.Grid.High - 1))).bind fun z57 => (bif z57 then ((f49 a1.Col 0 (IntKind.i64.wrap (a1.Grid.Wide - 1))).bind fun z58 => (bif z58 then (bif (!a1.Late) then (f28_j1 a1 true) else (bif (decide (a1.Col = (IntKind.i64.wrap (a1.Grid.Wide - 1)))) then (f28_j1 a1 true) else (f28_j1 a1 false))) else (f28_j1 a1 false))) else (f28_j1 a1 false))) else (f28_j1 a1 false))
theorem f28_j0_ok {d : Nat} (hd : 6 ≤ d) (a1 : GScreen) {r : Int} {Q : PX → St → Prop} (hQ : ∀ e st', f28_Q r e st' → Q e st') (p38 : Bool) (hS : f28_j0 a1 p38 = some r) {st : St} (he : keepSt [1, 3, 5] [(16, .id 16), (32, .id 32)] [] st = f28_j0_J a1 p38) : ZR (lev codes baseL (d - 1)) Q c28_9 [] st := by
  refine zrKeep he ?_
  unfold f28_j0 at hS
  refine zrSeq (zrReg (zL 2 2 ?_))
  refine zlSplit 34 p38 (by kernel_rfl) (fun hc => ?_) (fun hc => ?_)
  · replace hS := cond_t hc hS
    refine zL 5 7 ?_
    refine bindE hS (fun z57 hz57 hS => ?_)
    refine zlOp (d := some 40) (op := (.call 49 [(tm 36), (ki 0), (tm 39)])) (g := (some (34, true))) (j := 8) rfl (by kernel_rfl) (by kernel_rfl) (ev_callA (by kernel_rfl) (f49_ok (d - 1) (dpt hd rfl) a1.Row 0 (IntKind.i64.wrap (a1.Grid.High - 1)) z57 hz57) (by kernel_rfl) (by kernel_rfl)) ?_
    refine zL 2 10 ?_
    refine zlSplit 42 z57 (by kernel_rfl) (fun hc => ?_) (fun hc => ?_)
    · replace hS := cond_t hc hS
      refine zL 5 15 ?_
      refine bindE hS (fun z58 hz58 hS => ?_)
      refine zlOp (d := some 48) (op := (.call 49 [(tm 44), (ki 0), (tm 47)])) (g := (some (42, true))) (j := 16) rfl (by kernel_rfl) (by kernel_rfl) (ev_callA (by kernel_rfl) (f49_ok (d - 1) (dpt hd rfl) a1.Col 0 (IntKind.i64.wrap (a1.Grid.Wide - 1)) z58 hz58) (by kernel_rfl) (by kernel_rfl)) ?_
      refine zL 2 18 ?_
      refine zlSplit 50 z58 (by kernel_rfl) (fun hc => ?_) (fun hc => ?_)
      · replace hS := cond_t hc hS
        refine zL 4 22 ?_
        refine zlSplit 54 (!a1.Late) (by kernel_rfl) (fun hc => ?_) (fun hc => ?_)
        · replace hS := cond_t hc hS
          refine zL 9 31 (zE (zkSeq ?_))
          exact f28_j1_ok hd a1 hQ true hS (by kernel_rfl)
        · replace hS := cond_f hc hS
          refine zL 5 27 ?_
          refine zlBool (d := 60) (op := (.cmpI .eql (tm 56) (tm 59))) (g := (some (54, false))) (j := 28) (decide (a1.Col = (IntKind.i64.wrap (a1.Grid.Wide - 1)))) rfl (by kernel_rfl) (by kernel_rfl) (by kernel_rfl) (fun hc => ?_) (fun hc => ?_)
          · replace hS := cond_t hc hS
            refine zL 3 31 (zE (zkSeq ?_))
            exact f28_j1_ok hd a1 hQ true hS (by kernel_rfl)
          · replace hS := cond_f hc hS
            refine zL 3 31 (zE (zkSeq ?_))
            exact f28_j1_ok hd a1 hQ false hS (by kernel_rfl)
      · replace hS := cond_f hc hS
        refine zL 13 31 (zE (zkSeq ?_))
        exact f28_j1_ok hd a1 hQ false hS (by kernel_rfl)
    · replace hS := cond_f hc hS
      refine zL 21 31 (zE (zkSeq ?_))
      exact f28_j1_ok hd a1 hQ false hS (by kernel_rfl)
  · replace hS := cond_f hc hS
    refine zL 29 31 (zE (zkSeq ?_))
    exact f28_j1_ok hd a1 hQ false hS (by kernel_rfl)
noncomputable def f28 (a1 : GScreen) : Option (Int) := ((f48 a1.Grid).bind fun z59 => (bif (decide (z59 = 0)) then ((f48 a1.Other).bind fun z60 => (bif (decide (z60 = 0)) then (bif (decide (a1.Grid.Wide = a1.Other.Wide)) then (bif (decide (a1.Grid.High = a1.Other.High)) then (f28_j0 a1 true) else (f28_j0 a1 false)) else (f28_j0 a1 false)) else (f28_j0 a1 false))) else (f28_j0 a1 false)))
theorem f28_ok (d : Nat) (hd : 6 ≤ d) (a1 : GScreen) (r : Int) (hS : f28 a1 = some r) : lev codes baseL d 28 [(.agg (bd_GScreen a1))] [] = some ((dI r), []) := by
  refine lev_go codes28 rfl rfl (Nat.le_trans (Nat.le_of_ble_eq_true rfl) hd) fun Q hQ => ?_
  unfold f28 at hS
  show ZR _ Q c28_b [] _
  replace hQ : ∀ e st', f28_Q r e st' → Q e st' := hQ
  refine zrSeq (zrReg (zL 2 2 (zE (zkSeq (zrSeq ?_)))))
  refine zrRegD ?_
  refine zdRun (n := 8) (j := 8) (ts := [[], [(16, false)], [], [(16, false)], [(32, true)], [(40, true)], [(32, true)], [(40, true)]]) (acc' := [[], [(16, false)], [], [(16, false)], [(32, true)], [(40, true)], [(32, true)], [(40, true)]]) rfl (by kernel_rfl) (by kernel_rfl) (by kernel_rfl) ?_
  refine zdEnd (by kernel_rfl) (by kernel_rfl) ?_
  refine zkSeq (zrSeq (zrReg (zL 1 1 ?_)))
  refine bindE hS (fun z59 hz59 hS => ?_)
  refine zO (some 12) 2 (.call 48 [(tm 11)]) (ev_callA (by kernel_rfl) (f48_ok (d - 1) (dpt hd rfl) a1.Grid z59 hz59) (by kernel_rfl) (by kernel_rfl)) ?_
  refine zB 13 3 (.cmpI .eql (tm 12) (ki 0)) (decide (z59 = 0)) (fun hc => ?_) (fun hc => ?_)
  · replace hS := cond_t hc hS
    refine zL 2 5 ?_
    refine bindE hS (fun z60 hz60 hS => ?_)
    refine zlOp (d := some 16) (op := (.call 48 [(tm 15)])) (g := (some (14, true))) (j := 6) rfl (by kernel_rfl) (by kernel_rfl) (ev_callA (by kernel_rfl) (f48_ok (d - 1) (dpt hd rfl) a1.Other z60 hz60) (by kernel_rfl) (by kernel_rfl)) ?_
    refine zlBool (d := 17) (op := (.cmpI .eql (tm 16) (ki 0))) (g := (some (14, true))) (j := 7) (decide (z60 = 0)) rfl (by kernel_rfl) (by kernel_rfl) (by kernel_rfl) (fun hc => ?_) (fun hc => ?_)
    · replace hS := cond_t hc hS
      refine zL 6 13 ?_
      refine zlBool (d := 24) (op := (.cmpI .eql (tm 21) (tm 23))) (g := (some (19, true))) (j := 14) (decide (a1.Grid.Wide = a1.Other.Wide)) rfl (by kernel_rfl) (by kernel_rfl) (by kernel_rfl) (fun hc => ?_) (fun hc => ?_)
      · replace hS := cond_t hc hS
        refine zL 6 20 ?_
        refine zlBool (d := 31) (op := (.cmpI .eql (tm 28) (tm 30))) (g := (some (26, true))) (j := 21) (decide (a1.Grid.High = a1.Other.High)) rfl (by kernel_rfl) (by kernel_rfl) (by kernel_rfl) (fun hc => ?_) (fun hc => ?_)
        · replace hS := cond_t hc hS
          refine zL 2 23 (zE (zkSeq ?_))
          exact f28_j0_ok hd a1 hQ true hS (by kernel_rfl)
        · replace hS := cond_f hc hS
          refine zL 2 23 (zE (zkSeq ?_))
          exact f28_j0_ok hd a1 hQ false hS (by kernel_rfl)
      · replace hS := cond_f hc hS
        refine zL 9 23 (zE (zkSeq ?_))
        exact f28_j0_ok hd a1 hQ false hS (by kernel_rfl)
    · replace hS := cond_f hc hS
      refine zL 16 23 (zE (zkSeq ?_))
      exact f28_j0_ok hd a1 hQ false hS (by kernel_rfl)
  · replace hS := cond_f hc hS
    refine zL 20 23 (zE (zkSeq ?_))
    exact f28_j0_ok hd a1 hQ false hS (by kernel_rfl)
/- slices.Clone[[]farwriter/api.Cell,farwriter/api.Cell] -/
def f60_fin (p1 : List GCell) : St := ⟨(up u0 2 (.r (.msl 97 0 0 p1.length))), (up h0 97 ⟨0, some (.own 58 4 (e_GCell.cells p1))⟩)⟩
theorem f60_out (p1 : List GCell) : outR (f60_fin p1) 0 c60.res = some ((.r (.own 0 58 4 p1.length (e_GCell.cells p1))), []) := by
  exact out_of (ids := []) (ids' := [97]) (l := [(.r (.msl 97 0 0 p1.length))]) (by kernel_rfl) (by kernel_rfl) (o_own e_GCell (e := 58) (k := 4) (xs := p1) (by kernel_rfl) rfl rfl rfl rfl)
def f60_Q (r : List GCell) (e : PX) (st : St) : Prop := DoneF c60 0 ((.r (.own 0 58 4 r.length (e_GCell.cells r))), []) e st
noncomputable def f60 (a1 : List GCell) : Option (List GCell) := ((app? 32 ([] : List GCell) a1).bind fun z2 => (some z2))
theorem f60_ok (d : Nat) (hd : 1 ≤ d) (a1 : List GCell) (r : List GCell) (hS : f60 a1 = some r) : lev codes baseL d 60 [(.d (.sl a1.length (e_GCell.cells a1)))] [] = some ((.r (.own 0 58 4 r.length (e_GCell.cells r))), []) := by
  refine lev_goZ codes60 rfl rfl (Nat.le_trans (Nat.le_of_ble_eq_true rfl) hd) (fun Q hQ => ?_) (fun h0 Q hQ => ?_)
  · unfold f60 at hS
    show ZR _ Q c60_b [] _
    refine zrSeq (zrReg (zL 1 1 (zE (zkSeq (zrSeq (zrSeq (zrReg (zL 2 2 (zE (zkSeq (zF ?_)))))))))))
    refine zrSkip ?_
    refine zkSeq (zrSeq (zrReg (zL 2 2 ?_)))
    refine bindE hS (fun z2 hz2 hS => ?_)
    refine zO (v := (.r (.msl 48 2 0 z2.length))) (ups := [(48, ⟨2, some (.own 58 4 (e_GCell.cells z2))⟩)]) (some 7) 3 (.app 58 4 32 (tm 5) (tm 6)) (ev_app e_GCell (b := 48) (g := 1) (n := ([] : List GCell).length) (xs := []) (ys := a1) ((congrArg (asL _) (by kernel_rfl : ρof _ (.tmp 6) = (.slz false a1.length (e_GCell.cells a1)))).trans rfl) rfl (by kernel_rfl) rfl (by kernel_rfl) rfl hz2) ?_
    refine zL 1 4 (zE (zkSeq ?_))
    refine zrRet ?_
    refine zkNil ?_
    exact endQ (F := f60_Q) hS hQ (fRet (by kernel_rfl) ((congrArg (fun s => outR s 0 c60.res) (by kernel_rfl : finSt c60.fin _ = f60_fin z2)).trans (f60_out z2)))
  · have hS : (some []) = some r := by
      have hl := List.eq_nil_of_length_eq_zero h0
      subst hl
      simpa [f60, app?] using hS
    show ZR _ Q c60_b [] _
    refine zrSeq (zrReg (zL 1 1 (zE (zkSeq (zrSeq (zrSeq (zrReg (zL 2 2 (zE (zkSeq (zT (zrSeq (zrReg (zL 1 1 (zE (zkSeq ?_))))))))))))))))
    refine zrRet ?_
    refine zkSeqR ?_
    refine zkNil ?_
    exact endQ (F := f60_Q) hS hQ (fRet (by kernel_rfl) ((congrArg (fun s => outR s 0 c60.res) (by kernel_rfl : finSt c60.fin _ = f60_fin [])).trans (f60_out [])))
/- farwriter/grid.Clone -/
def f54_fin (p1 : GGrid) : St := ⟨(up u0 2 (pt 24)), (up (up h0 48 ⟨0, some (.own 58 4 (e_GCell.cells p1.Cells))⟩) 24 ⟨0, some (.box ((dI p1.Wide) :: ((dI p1.High) :: ((.r (.msl 48 0 0 p1.Cells.length)) :: []))))⟩)⟩
theorem f54_out (p1 : GGrid) : outR (f54_fin p1) 0 c54.res = some ((.agg ((dI p1.Wide) :: ((dI p1.High) :: ((.r (.own 0 58 4 p1.Cells.length (e_GCell.cells p1.Cells))) :: [])))), []) := by
  exact out_of (ids := []) (ids' := [48]) (l := [(.agg ((dI p1.Wide) :: ((dI p1.High) :: ((.r (.msl 48 0 0 p1.Cells.length)) :: []))))]) (by kernel_rfl) (by kernel_rfl) (o_agg (o_cons rfl (o_cons rfl (o_cons (o_own e_GCell (e := 58) (k := 4) (xs := p1.Cells) (by kernel_rfl) rfl rfl rfl rfl) o_nil))))
def f54_Q (r : GGrid) (e : PX) (st : St) : Prop := DoneF c54 0 ((.agg ((dI r.Wide) :: ((dI r.High) :: ((.r (.own 0 58 4 r.Cells.length (e_GCell.cells r.Cells))) :: [])))), []) e st
noncomputable def f54 (a1 : GGrid) : Option (GGrid) := ((f60 a1.Cells).bind fun z2 => (some (GGrid.mk a1.Wide a1.High z2)))
theorem f54_ok (d : Nat) (hd : 2 ≤ d) (a1 : GGrid) (r : GGrid) (hS : f54 a1 = some r) : lev codes baseL d 54 [(.agg ((dI a1.Wide) :: ((dI a1.High) :: ((.d (.sl a1.Cells.length (e_GCell.cells a1.Cells))) :: []))))] [] = some ((.agg ((dI r.Wide) :: ((dI r.High) :: ((.r (.own 0 58 4 r.Cells.length (e_GCell.cells r.Cells))) :: [])))), []) := by
  refine lev_go codes54 rfl rfl (Nat.le_trans (Nat.le_of_ble_eq_true rfl) hd) fun Q hQ => ?_
  unfold f54 at hS
  show ZR _ Q c54_b [] _
  replace hQ : ∀ e st', f54_Q r e st' → Q e st' := hQ
  refine zrSeq (zrReg (zL 2 2 (zE (zkSeq (zrSeq (zrReg (zL 2 2 ?_)))))))
  refine bindE hS (fun z2 hz2 hS => ?_)
  refine zO (some 5) 3 (.call 60 [(tm 4)]) (ev_callA (by kernel_rfl) (f60_ok (d - 1) (dpt hd rfl) a1.Cells z2 hz2) (by kernel_rfl) (by kernel_rfl)) ?_
  refine zL 2 5 (zE (zkSeq (zrSeq (zrReg (zL 2 2 (zE (zkSeq ?_)))))))
  refine zrRet ?_
  refine zkNil ?_
  exact endQ hS hQ (fR (f54_out (GGrid.mk a1.Wide a1.High z2)))
/- farwriter/screen.Clone -/
def f36_fin (p20 : GScreen) : St := ⟨(up u0 2 (pt 24)), (gh_GScreen h0 p20 24 72 96 32)⟩
theorem f36_out (p20 : GScreen) : outR (f36_fin p20) 0 c36.res = some ((.agg (bw_GScreen p20)), []) := by
  exact out_of (ids := []) (ids' := [72, 96, 32]) (l := [(.agg (bm_GScreen p20 72 0 96 0 32 0))]) (by kernel_rfl) (by kernel_rfl) (o_agg (o_cons rfl (o_cons rfl (o_cons (o_own e_GCell (e := 58) (k := 4) (xs := p20.Grid.Cells) (by kernel_rfl) rfl rfl rfl rfl) (o_cons rfl (o_cons rfl (o_cons rfl (o_cons rfl (o_cons rfl (o_cons rfl (o_cons rfl (o_cons rfl (o_cons rfl (o_app (o_row (eInt .u64)) (o_cons rfl (o_cons rfl (o_cons rfl (o_cons rfl (o_cons rfl (o_cons rfl (o_cons rfl (o_cons rfl (o_cons rfl (o_cons rfl (o_cons rfl (o_cons rfl (o_cons rfl (o_cons rfl (o_cons (o_own e_GCell (e := 58) (k := 4) (xs := p20.Other.Cells) (by kernel_rfl) rfl rfl rfl rfl) (o_cons rfl (o_cons (o_own e_GLine (e := 87) (k := 1) (xs := p20.Past) (by kernel_rfl) rfl rfl rfl rfl) o_nil)))))))))))))))))))))))))))))))
def f36_Q (r : GScreen) (e : PX) (st : St) : Prop := DoneF c36 0 ((.agg (bw_GScreen r)), []) e st
def f36_l0_J (a1 : GScreen) (x : GScreen × (List GLine) × Int) : St := ⟨(up (up (up (up (up (up u0 17 (dI x.2.2)) 16 (dI (a1.Past.length : Int))) 15 (gd2_GScreen a1)) 3 (.r (.msl 32 0 0 x.2.1.length))) 2 (pt 24)) 1 (pt 16)), (up (up (up (up (up h0 32 ⟨0, some (.own 87 1 (e_GLine.cells x.2.1))⟩) 24 ⟨0, some (.box (bx_GScreen (GScreen.mk (GGrid.mk 0 0 ([])) 0 0 false 0 0 (GPen.mk 0 0 0) 0 (GStops.mk (fun _ => 0)) (0, 0) 0 (GSaved.mk 0 0 (GPen.mk 0 0 0) false (0, 0) 0) (GGrid.mk 0 0 ([])) ([]) ([])) (.d (.sl ([] : List GCell).length (e_GCell.cells ([])))) (.d (.sl ([] : List GCell).length (e_GCell.cells ([])))) (.d (.sl ([] : List GLine).length (e_GLine.cells ([]))))))⟩) 96 ⟨0, some (go1_GScreen x.1)⟩) 72 ⟨0, some (go0_GScreen x.1)⟩) 16 ⟨0, some (.box (bx_GScreen x.1 (.r (.msl 72 0 0 x.1.Grid.Cells.length)) (.r (.msl 96 0 0 x.1.Other.Cells.length)) (gd2_GScreen x.1)))⟩)⟩
def f36_l0_H (a1 : GScreen) (x : GScreen × (List GLine) × Int) (st : St) : Prop := keepSt [1, 2, 3, 15, 16, 17] [(16, .id 16), (72, .id 72), (96, .id 96), (24, .id 24), (32, .id 32)] [.cell 24 2 0 0 1, .cell 24 30 0 0 1, .cell 24 32 0 0 1] st = f36_l0_J a1 x
def f36_l0_e0_J (a1 : GScreen) (p38 : GScreen) (p39 : List GLine) : St := ⟨(up (up (up u0 3 (.r (.msl 32 0 0 p39.length))) 2 (pt 24)) 1 (pt 16)), (up (up (up (up (up h0 32 ⟨0, some (.own 87 1 (e_GLine.cells p39))⟩) 24 ⟨0, some (.box (bx_GScreen (GScreen.mk (GGrid.mk 0 0 ([])) 0 0 false 0 0 (GPen.mk 0 0 0) 0 (GStops.mk (fun _ => 0)) (0, 0) 0 (GSaved.mk 0 0 (GPen.mk 0 0 0) false (0, 0) 0) (GGrid.mk 0 0 ([])) ([]) ([])) (.d (.sl ([] : List GCell).length (e_GCell.cells ([])))) (.d (.sl ([] : List GCell).length (e_GCell.cells ([])))) (.d (.sl ([] : List GLine).length (e_GLine.cells ([]))))))⟩) 96 ⟨0, some (go1_GScreen p38)⟩) 72 ⟨0, some (go0_GScreen p38)⟩) 16 ⟨0, some (.box (bx_GScreen p38 (.r (.msl 72 0 0 p38.Grid.Cells.length)) (.r (.msl 96 0 0 p38.Other.Cells.length)) (gd2_GScreen p38)))⟩)⟩
def f36_l0_X (a1 : GScreen) (z : (GScreen × (List GLine))) (e : PX) (st : St) : Prop := e = .exit 0 ∧ st = f36_l0_e0_J a1 z.1 z.2
def f36_l0_j2_J (a1 : GScreen) (p48 : GScreen) (p49 : List GLine) (p50 : Int) : St := ⟨(up (up (up (up (up (up u0 17 (dI p50)) 16 (dI (a1.Past.length : Int))) 15 (gd2_GScreen a1)) 3 (.r (.msl 32 0 0 p49.length))) 2 (pt 24)) 1 (pt 16)), (up (up (up (up (up h0 32 ⟨0, some (.own 87 1 (e_GLine.cells p49))⟩) 24 ⟨0, some (.box (bx_GScreen (GScreen.mk (GGrid.mk 0 0 ([])) 0 0 false 0 0 (GPen.mk 0 0 0) 0 (GStops.mk (fun _ => 0)) (0, 0) 0 (GSaved.mk 0 0 (GPen.mk 0 0 0) false (0, 0) 0) (GGrid.mk 0 0 ([])) ([]) ([])) (.d (.sl ([] : List GCell).length (e_GCell.cells ([])))) (.d (.sl ([] : List GCell).length (e_GCell.cells ([])))) (.d (.sl ([] : List GLine).length (e_GLine.cells ([]))))))⟩) 96 ⟨0, some (go1_GScreen p48)⟩) 72 ⟨0, some (go0_GScreen p48)⟩) 16 ⟨0, some (.box (bx_GScreen p48 (.r (.msl 72 0 0 p48.Grid.Cells.length)) (.r (.msl 96 0 0 p48.Other.Cells.length)) (gd2_GScreen p48)))⟩)⟩
noncomputable def f36_l0_j2 (a1 : GScreen) (p48 : GScreen) (p49 : List GLine) (p50 : Int) : Option ((GScreen × (List GLine) × Int) ⊕ ((GScreen × (List GLine)))) := ((idx a1.Past p50).bind fun z23 => ((f60 z23.Cells).bind fun z24 => ((app? 24 p49 ([(GLine.mk z24)] : List GLine)).bind fun z25 => (some (.inl (p48, z25, (IntKind.i64.wrap (p50 + 1))))))))
theorem f36_l0_j2_ok {d : Nat} (hd : 3 ≤ d) (a1 : GScreen) {r : (GScreen × (List GLine) × Int) ⊕ ((GScreen × (List GLine)))} {Q : PX → St → Prop} (hQ : ∀ e st', finL (f36_l0_H a1) (f36_l0_X a1) r e st' → Q e st') (p48 : GScreen) (p49 : List GLine) (p50 : Int) (hS : f36_l0_j2 a1 p48 p49 p50 = some r) {st : St} (he : keepSt [1, 2, 3, 15, 16, 17] [(16, .id 16), (72, .id 72), (96, .id 96), (24, .id 24), (32, .id 32)] [] st = f36_l0_j2_J a1 p48 p49 p50) : ZR (lev codes baseL (d - 1)) Q c36_1 [] st := by
  refine zrKeep he ?_
  unfold f36_l0_j2 at hS
  refine zrSeq ?_
  refine zrBlk ?_
  refine zrSeq (zrReg ?_)
  refine bindE hS (fun z23 hz23 hS => ?_)
  refine zO (v := (.rptr (e_GLine.enc z23 ++ (e_GLine.cells (a1.Past.drop ((p50 : Int).toNat + 1)))))) (ups := []) (some 19) 1 (.ixS 87 1 (tm 15) (tm 17)) (ev_ixS e_GLine (kk := .i64) (xs := a1.Past) (j := p50) (by kernel_rfl) (by kernel_rfl) hz23 rfl (by intro h; cases h)) ?_
  refine zL 3 4 (zE (zkSeq (zrReg (zL 3 3 ?_))))
  refine bindE hS (fun z24 hz24 hS => ?_)
  refine zO (some 24) 4 (.call 60 [(tm 23)]) (ev_callA (by kernel_rfl) (f60_ok (d - 1) (dpt hd rfl) z23.Cells z24 hz24) (by kernel_rfl) (by kernel_rfl)) ?_
  refine zL 1 5 ?_
  refine zO (v := (.r (.msl 216 1 0 (([(GLine.mk z24)] : List GLine).length)))) (ups := [(200, ⟨2, none⟩), (216, ⟨1, some (.own 87 1 (e_GLine.cells ([(GLine.mk z24)])))⟩)]) (some 26) 6 (.bsl 87 1 1 [(1, (.slice .none 0 0))] [(0, (1, (tm 25)))]) ((by kernel_rfl : peval _ _ 26 (ρof _) (.bsl 87 1 1 [(1, (.slice .none 0 0))] [(0, (1, (.tmp 25)))]) = some ((.r (.msl 216 1 0 (([(GLine.mk z24)] : List GLine).length))), [(200, ⟨2, none⟩), (216, ⟨1, some (.own 87 1 [.sl z24.length (((e_GCell.cells z24).drop (0 * e_GCell.k)).take (z24.length * e_GCell.k))])⟩)])).trans (by simp only [Enc.frz]; rfl)) ?_
  refine bindE hS (fun z25 hz25 hS => ?_)
  refine zO (v := (.r (.msl 32 1 0 z25.length))) (ups := [(32, ⟨1, some (.own 87 1 (e_GLine.cells z25))⟩)]) (some 27) 7 (.app 87 1 24 (tm 21) (tm 26)) (ev_app e_GLine (b := 32) (g := 0) (n := p49.length) (xs := p49) (ys := [(GLine.mk z24)]) ((congrArg (asL _) (by kernel_rfl : ρof _ (.tmp 26) = (.r (.msl 216 1 0 (([(GLine.mk z24)] : List GLine).length))))).trans (as_whole e_GLine (e := 87) (k := 1) (xs := [(GLine.mk z24)]) (by kernel_rfl) rfl rfl)) rfl (by kernel_rfl) rfl (by kernel_rfl) rfl hz25) ?_
  refine zL 1 8 (zE ?_)
  refine zkBlk ?_
  refine zkSeq (zrReg (zL 2 2 (zE ?_)))
  refine zkNil ?_
  exact endQ hS hQ (finL_n (by show keepSt _ _ _ _ = _; kernel_rfl))
def f36_l0_j1_J (a1 : GScreen) (p44 : GScreen) (p45 : List GLine) (p46 : Int) (p47 : Bool) : St := ⟨(up (up (up (up (up (up (up u0 18 (dB p47)) 17 (dI p46)) 16 (dI (a1.Past.length : Int))) 15 (gd2_GScreen a1)) 3 (.r (.msl 32 0 0 p45.length))) 2 (pt 24)) 1 (pt 16)), (up (up (up (up (up h0 32 ⟨0, some (.own 87 1 (e_GLine.cells p45))⟩) 24 ⟨0, some (.box (bx_GScreen (GScreen.mk (GGrid.mk 0 0 ([])) 0 0 false 0 0 (GPen.mk 0 0 0) 0 (GStops.mk (fun _ => 0)) (0, 0) 0 (GSaved.mk 0 0 (GPen.mk 0 0 0) false (0, 0) 0) (GGrid.mk 0 0 ([])) ([]) ([])) (.d (.sl ([] : List GCell).length (e_GCell.cells ([])))) (.d (.sl ([] : List GCell).length (e_GCell.cells ([])))) (.d (.sl ([] : List GLine).length (e_GLine.cells ([]))))))⟩) 96 ⟨0, some (go1_GScreen p44)⟩) 72 ⟨0, some (go0_GScreen p44)⟩) 16 ⟨0, some (.box (bx_GScreen p44 (.r (.msl 72 0 0 p44.Grid.Cells.length)) (.r (.msl 96 0 0 p44.Other.Cells.length)) (gd2_GScreen p44)))⟩)⟩
noncomputable def f36_l0_j1 (a1 : GScreen) (p44 : GScreen) (p45 : List GLine) (p46 : Int) (p47 : Bool) : Option ((GScreen × (List GLine) × Int) ⊕ ((GScreen × (List GLine)))) := (bif p47 then (f36_l0_j2 a1 p44 p45 p46) else (some (.inr (p44, p45))))
theorem f36_l0_j1_ok {d : Nat} (hd : 3 ≤ d) (a1 : GScreen) {r : (GScreen × (List GLine) × Int) ⊕ ((GScreen × (List GLine)))} {Q : PX → St → Prop} (hQ : ∀ e st', finL (f36_l0_H a1) (f36_l0_X a1) r e st' → Q e st') (p44 : GScreen) (p45 : List GLine) (p46 : Int) (p47 : Bool) (hS : f36_l0_j1 a1 p44 p45 p46 p47 = some r) {st : St} (he : keepSt [1, 2, 3, 15, 16, 17, 18] [(16, .id 16), (72, .id 72), (96, .id 96), (24, .id 24), (32, .id 32)] [] st = f36_l0_j1_J a1 p44 p45 p46 p47) : ZR (lev codes baseL (d - 1)) Q c36_2 [] st := by
  refine zrKeep he ?_
  unfold f36_l0_j1 at hS
  refine zrSeq ?_
  refine zrSplit 18 p47 (by kernel_rfl) (fun hc => ?_) (fun hc => ?_)
  · replace hS := cond_t hc hS
    refine zT ?_
    refine zrSkip ?_
    refine zkSeq ?_
    exact f36_l0_j2_ok hd a1 hQ p44 p45 p46 hS (by kernel_rfl)
  · replace hS := cond_f hc hS
    refine zF ?_
    refine zrKeep (J := f36_l0_e0_J a1 p44 p45) (by kernel_rfl) ?_
    refine zrExit ?_
    refine zkSeqX ?_
    refine zkNil ?_
    exact endQ hS hQ (finL_x (by intro h; cases h) (by show _ = _ ∧ _ = _; exact ⟨rfl, rfl⟩))
noncomputable def f36_l0 (a1 : GScreen) (x : GScreen × (List GLine) × Int) : Option ((GScreen × (List GLine) × Int) ⊕ ((GScreen × (List GLine)))) := (bif (decide (x.2.2 < (a1.Past.length : Int))) then (f36_l0_j1 a1 x.1 x.2.1 x.2.2 true) else (f36_l0_j1 a1 x.1 x.2.1 x.2.2 false))
theorem f36_l0_ok {d : Nat} (hd : 3 ≤ d) (a1 : GScreen) {r : (GScreen × (List GLine) × Int) ⊕ ((GScreen × (List GLine)))} {Q : PX → St → Prop} (hQ : ∀ e st', finL (f36_l0_H a1) (f36_l0_X a1) r e st' → Q e st') {x : GScreen × (List GLine) × Int} (hS : f36_l0 a1 x = some r) {st : St} (he : f36_l0_H a1 x st) : ZR (lev codes baseL (d - 1)) Q c36_3 [] st := by
  refine zrKeep he ?_
  unfold f36_l0 at hS
  refine zrSeq (zrReg ?_)
  refine zB 18 1 (.cmpI .lss (tm 17) (tm 16)) (decide (x.2.2 < (a1.Past.length : Int))) (fun hc => ?_) (fun hc => ?_)
  · replace hS := cond_t hc hS
    refine zE (zkSeq ?_)
    exact f36_l0_j1_ok hd a1 hQ x.1 x.2.1 x.2.2 true hS (by kernel_rfl)
  · replace hS := cond_f hc hS
    refine zE (zkSeq ?_)
    exact f36_l0_j1_ok hd a1 hQ x.1 x.2.1 x.2.2 false hS (by kernel_rfl)
noncomputable def f36 (a1 : GScreen) : Option (GScreen) := ((f54 a1.Grid).bind fun z12 => ((f54 a1.Other).bind fun z13 => ((loopO (f36_l0 a1) ({ a1 with Grid := z12, Other := z13 }, [], 0)).bind fun z26 => (some (GScreen.mk z26.1.Grid z26.1.Row z26.1.Col z26.1.Late z26.1.Top z26.1.Bottom z26.1.Pen z26.1.Modes z26.1.Stops z26.1.Pages z26.1.Shift z26.1.Saved z26.1.Other z26.1.Title z26.2)))))
theorem f36_ok (d : Nat) (hd : 3 ≤ d) (a1 : GScreen) (r : GScreen) (hS : f36 a1 = some r) : lev codes baseL d 36 [(.agg (bd_GScreen a1))] [] = some ((.agg (bw_GScreen r)), []) := by
  refine lev_go codes36 rfl rfl (Nat.le_trans (Nat.le_of_ble_eq_true rfl) hd) fun Q hQ => ?_
  unfold f36 at hS
  show ZR _ Q c36_b [] _
  replace hQ : ∀ e st', f36_Q r e st' → Q e st' := hQ
  refine zrSeq (zrReg (zL 2 2 (zE (zkSeq (zrSeq ?_)))))
  refine zrRegD ?_
  refine zdRun (n := 2) (j := 2) (ts := [[], [(16, false)]]) (acc' := [[], [(16, false)]]) rfl (by kernel_rfl) (by kernel_rfl) (by kernel_rfl) ?_
  refine bindE hS (fun z12 hz12 hS => ?_)
  refine zdOp (d := some 8) (op := (.callf 54 [(tm 7)])) (g := none) (v := (.agg ((dI z12.Wide) :: ((dI z12.High) :: ((.r (.msl 72 1 0 z12.Cells.length)) :: []))))) (ups := [(72, ⟨1, some (.own 58 4 (e_GCell.cells z12.Cells))⟩)]) (j := 3) (t1 := [(72, true), (73, true), (74, true), (75, true), (76, true), (77, true), (78, true), (79, true)]) (acc' := [[], [(16, false)], [(72, true), (73, true), (74, true), (75, true), (76, true), (77, true), (78, true), (79, true)]]) (by kernel_rfl) (by kernel_rfl) rfl (by kernel_rfl) (by kernel_rfl) (ev_callF (args := [(.agg ((dI a1.Grid.Wide) :: ((dI a1.Grid.High) :: ((gd0_GScreen a1) :: []))))]) (args' := [(.agg ((dI a1.Grid.Wide) :: ((dI a1.Grid.High) :: ((gd0_GScreen a1) :: []))))]) (l := [(.agg ((dI a1.Grid.Wide) :: ((dI a1.Grid.High) :: ((gd0_GScreen a1) :: []))))]) (refs := []) (r := (.agg ((dI z12.Wide) :: ((dI z12.High) :: ((.r (.own 0 58 4 z12.Cells.length (e_GCell.cells z12.Cells))) :: []))))) (v := (.agg ((dI z12.Wide) :: ((dI z12.High) :: ((.r (.msl 72 1 0 z12.Cells.length)) :: []))))) (ups' := [(72, ⟨1, some (.own 58 4 (e_GCell.cells z12.Cells))⟩)]) (by kernel_rfl) (by kernel_rfl) (by kernel_rfl) (fz_cons rfl fz_nil) (by kernel_rfl) (f54_ok (d - 1) (dpt hd rfl) a1.Grid z12 hz12) (by kernel_rfl) (by kernel_rfl) (by kernel_rfl) (by kernel_rfl)) ?_
  refine zdRun (n := 2) (j := 5) (ts := [[], [(16, false)]]) (acc' := [[], [(16, false)], [(72, true), (73, true), (74, true), (75, true), (76, true), (77, true), (78, true), (79, true)], [], [(16, false)]]) rfl (by kernel_rfl) (by kernel_rfl) (by kernel_rfl) ?_
  refine bindE hS (fun z13 hz13 hS => ?_)
  refine zdOp (d := some 11) (op := (.callf 54 [(tm 10)])) (g := none) (v := (.agg ((dI z13.Wide) :: ((dI z13.High) :: ((.r (.msl 96 1 0 z13.Cells.length)) :: []))))) (ups := [(96, ⟨1, some (.own 58 4 (e_GCell.cells z13.Cells))⟩)]) (j := 6) (t1 := [(96, true), (97, true), (98, true), (99, true), (100, true), (101, true), (102, true), (103, true)]) (acc' := [[], [(16, false)], [(72, true), (73, true), (74, true), (75, true), (76, true), (77, true), (78, true), (79, true)], [], [(16, false)], [(96, true), (97, true), (98, true), (99, true), (100, true), (101, true), (102, true), (103, true)]]) (by kernel_rfl) (by kernel_rfl) rfl (by kernel_rfl) (by kernel_rfl) (ev_callF (args := [(.agg ((dI a1.Other.Wide) :: ((dI a1.Other.High) :: ((gd1_GScreen a1) :: []))))]) (args' := [(.agg ((dI a1.Other.Wide) :: ((dI a1.Other.High) :: ((gd1_GScreen a1) :: []))))]) (l := [(.agg ((dI a1.Other.Wide) :: ((dI a1.Other.High) :: ((gd1_GScreen a1) :: []))))]) (refs := []) (r := (.agg ((dI z13.Wide) :: ((dI z13.High) :: ((.r (.own 0 58 4 z13.Cells.length (e_GCell.cells z13.Cells))) :: []))))) (v := (.agg ((dI z13.Wide) :: ((dI z13.High) :: ((.r (.msl 96 1 0 z13.Cells.length)) :: []))))) (ups' := [(96, ⟨1, some (.own 58 4 (e_GCell.cells z13.Cells))⟩)]) (by kernel_rfl) (by kernel_rfl) (by kernel_rfl) (fz_cons rfl fz_nil) (by kernel_rfl) (f54_ok (d - 1) (dpt hd rfl) a1.Other z13 hz13) (by kernel_rfl) (by kernel_rfl) (by kernel_rfl) (by kernel_rfl)) ?_
  refine zdRun (n := 4) (j := 10) (ts := [[], [(16, true)], [], [(16, true)]]) (acc' := [[], [(16, false)], [(72, true), (73, true), (74, true), (75, true), (76, true), (77, true), (78, true), (79, true)], [], [(16, false)], [(96, true), (97, true), (98, true), (99, true), (100, true), (101, true), (102, true), (103, true)], [], [(16, true)], [], [(16, true)]]) rfl (by kernel_rfl) (by kernel_rfl) (by kernel_rfl) ?_
  refine zdEnd (by kernel_rfl) (by kernel_rfl) ?_
  refine zkSeq (zrSeq (zrReg (zL 1 1 (zE (zkSeq (zrSeq (zrSeq (zrReg (zL 4 4 (zE (zkSeq ?_)))))))))))
  refine zrBlk ?_
  refine bindE hS (fun z26 hz26 hS => ?_)
  refine zrLoop (f36_l0_H a1) (f36_l0_X a1) (fun x st r Q h0 hS hQ => f36_l0_ok hd a1 hQ hS h0) (x := ({ a1 with Grid := z12, Other := z13 }, [], 0)) (z := z26) (by show keepSt _ _ _ _ = _; kernel_rfl) hz26 ?_
  intro e st' _ hX
  obtain ⟨rfl, rfl⟩ : _ ∧ _ := hX
  refine zkBlkX ?_
  refine zkSeq (zrSeq (zrReg (zL 3 3 (zE (zkSeq (zrSeq (zrReg (zL 2 2 (zE (zkSeq ?_))))))))))
  refine zrRet ?_
  refine zkNil ?_
  exact endQ hS hQ (fR (f36_out (GScreen.mk z26.1.Grid z26.1.Row z26.1.Col z26.1.Late z26.1.Top z26.1.Bottom z26.1.Pen z26.1.Modes z26.1.Stops z26.1.Pages z26.1.Shift z26.1.Saved z26.1.Other z26.1.Title z26.2)))
/- farwriter/screen.actions$1 -/
def f62_fin (p1 : Bool) : St := ⟨(up u0 2 (dB p1)), h0⟩
theorem f62_out (p1 : Bool) : outR (f62_fin p1) 0 c62.res = some ((dB p1), []) := by
  kernel_rfl
def f62_Q (r : Bool) (e : PX) (st : St) : Prop := DoneF c62 0 ((dB r), []) e st
noncomputable def f62 (a1 : Int) : Option (Bool) := ((f49 a1 (-1) 16383).bind fun z2 => (some (!z2)))
theorem f62_ok (d : Nat) (hd : 2 ≤ d) (a1 : Int) (r : Bool) (hS : f62 a1 = some r) : lev codes baseL d 62 [(dI a1)] [] = some ((dB r), []) := by
  refine lev_go codes62 rfl rfl (Nat.le_trans (Nat.le_of_ble_eq_true rfl) hd) fun Q hQ => ?_
  unfold f62 at hS
  show ZR _ Q c62_b [] _
  replace hQ : ∀ e st', f62_Q r e st' → Q e st' := hQ
  refine zrSeq (zrReg (zL 1 1 (zE (zkSeq (zrSeq (zrReg (zL 1 1 ?_)))))))
  refine bindE hS (fun z2 hz2 hS => ?_)
  refine zO (some 4) 2 (.call 49 [(tm 3), (ki (-1)), (ki 16383)]) (ev_callA (by kernel_rfl) (f49_ok (d - 1) (dpt hd rfl) a1 (-1) 16383 z2 hz2) (by kernel_rfl) (by kernel_rfl)) ?_
  refine zL 2 4 (zE (zkSeq ?_))
  refine zrRet ?_
  refine zkNil ?_
  exact endQ hS hQ (fR (f62_out (!z2)))
/- slices.IndexFunc[[]int,int] -/
def f84_fin (p8 : Int) : St := ⟨(up u0 4 (dI p8)), h0⟩
theorem f84_out (p8 : Int) : outR (f84_fin p8) 0 c84.res = some ((dI p8), []) := by
  kernel_rfl
def f84_Q (r : Int) (e : PX) (st : St) : Prop := DoneF c84 0 ((dI r), []) e st
def f84_l0_J (a1 : List Int) (x : Int) : St := ⟨(up (up (up (up u0 8 (dI x)) 7 (dI (a1.length : Int))) 1 (.fn 62 [])) 0 (.d (.sl a1.length ((eInt .i64).cells a1)))), h0⟩
def f84_l0_H (a1 : List Int) (x : Int) (st : St) : Prop := keepSt [0, 1, 7, 8] [] [] st = f84_l0_J a1 x
def f84_l0_e0_J (a1 : List Int) : St := ⟨u0, h0⟩
def f84_l0_X (a1 : List Int) (z : Unit ⊕ Int) (e : PX) (st : St) : Prop := (match z with | .inl z => e = .exit 0 ∧ st = f84_l0_e0_J a1 | .inr z => e = .ret ∧ finSt c84.fin st = f84_fin z)
def f84_l0_j2_J (a1 : List Int) (p13 : Int) : St := ⟨(up (up (up (up u0 8 (dI p13)) 7 (dI (a1.length : Int))) 1 (.fn 62 [])) 0 (.d (.sl a1.length ((eInt .i64).cells a1)))), h0⟩
noncomputable def f84_l0_j2 (a1 : List Int) (p13 : Int) : Option (Int ⊕ (Unit ⊕ Int)) := ((idx a1 p13).bind fun z7 => ((f62 z7).bind fun z8 => (bif z8 then (some (.inr (.inr p13))) else (some (.inl (IntKind.i64.wrap (p13 + 1)))))))
theorem f84_l0_j2_ok {d : Nat} (hd : 3 ≤ d) (a1 : List Int) {r : Int ⊕ (Unit ⊕ Int)} {Q : PX → St → Prop} (hQ : ∀ e st', finL (f84_l0_H a1) (f84_l0_X a1) r e st' → Q e st') (p13 : Int) (hS : f84_l0_j2 a1 p13 = some r) {st : St} (he : keepSt [0, 1, 7, 8] [] [] st = f84_l0_j2_J a1 p13) : ZR (lev codes baseL (d - 1)) Q c84_1 [] st := by
  refine zrKeep he ?_
  unfold f84_l0_j2 at hS
  refine zrSeq ?_
  refine zrBlk ?_
  refine zrSeq (zrReg (zL 2 2 (zE (zkSeq (zrSeq (zrReg (zL 3 3 ?_)))))))
  refine bindE hS (fun z7 hz7 hS => ?_)
  refine zO (v := (.rptr ((eInt .i64).enc z7 ++ ((eInt .i64).cells (a1.drop ((p13 : Int).toNat + 1)))))) (ups := []) (some 14) 4 (.ixS 3 1 (tm 12) (tm 13)) (ev_ixS (eInt .i64) (kk := .i64) (xs := a1) (j := p13) (by kernel_rfl) (by kernel_rfl) hz7 rfl (by intro h; cases h)) ?_
  refine zL 1 5 ?_
  refine bindE hS (fun z8 hz8 hS => ?_)
  refine zO (v := (dB z8)) (ups := []) (some 16) 6 (.callv (tm 11) [(tm 15)]) (ev_callv (f := 62) (cs := []) (by kernel_rfl) (args := [(dI z7)]) (l := [(dI z7)]) (r := (dB z8)) (by kernel_rfl) (by kernel_rfl) (f62_ok (d - 1) (dpt hd rfl) z7 z8 hz8) (by kernel_rfl) (by kernel_rfl) (by kernel_rfl)) ?_
  refine zE (zkSeq ?_)
  refine zrSplit 16 z8 (by kernel_rfl) (fun hc => ?_) (fun hc => ?_)
  · replace hS := cond_t hc hS
    refine zT (zrSeq (zrReg (zL 2 2 (zE (zkSeq ?_)))))
    refine zrRet ?_
    refine zkBlkR ?_
    refine zkSeqR ?_
    refine zkNil ?_
    exact endQ hS hQ (finL_x (by intro h; cases h) (by show _ = _ ∧ _ = _; exact ⟨rfl, by kernel_rfl⟩))
  · replace hS := cond_f hc hS
    refine zF ?_
    refine zrSkip ?_
    refine zkBlk ?_
    refine zkSeq (zrReg (zL 2 2 (zE ?_)))
    refine zkNil ?_
    exact endQ hS hQ (finL_n (by show keepSt _ _ _ _ = _; kernel_rfl))
def f84_l0_j1_J (a1 : List Int) (p11 : Int) (p12 : Bool) : St := ⟨(up (up (up (up (up u0 9 (dB p12)) 8 (dI p11)) 7 (dI (a1.length : Int))) 1 (.fn 62 [])) 0 (.d (.sl a1.length ((eInt .i64).cells a1)))), h0⟩
noncomputable def f84_l0_j1 (a1 : List Int) (p11 : Int) (p12 : Bool) : Option (Int ⊕ (Unit ⊕ Int)) := (bif p12 then (f84_l0_j2 a1 p11) else (some (.inr (.inl ()))))
theorem f84_l0_j1_ok {d : Nat} (hd : 3 ≤ d) (a1 : List Int) {r : Int ⊕ (Unit ⊕ Int)} {Q : PX → St → Prop} (hQ : ∀ e st', finL (f84_l0_H a1) (f84_l0_X a1) r e st' → Q e st') (p11 : Int) (p12 : Bool) (hS : f84_l0_j1 a1 p11 p12 = some r) {st : St} (he : keepSt [0, 1, 7, 8, 9] [] [] st = f84_l0_j1_J a1 p11 p12) : ZR (lev codes baseL (d - 1)) Q c84_2 [] st := by
  refine zrKeep he ?_
  unfold f84_l0_j1 at hS
  refine zrSeq ?_
  refine zrSplit 9 p12 (by kernel_rfl) (fun hc => ?_) (fun hc => ?_)
  · replace hS := cond_t hc hS
    refine zT ?_
    refine zrSkip ?_
    refine zkSeq ?_
    exact f84_l0_j2_ok hd a1 hQ p11 hS (by kernel_rfl)
  · replace hS := cond_f hc hS
    refine zF ?_
    refine zrKeep (J := f84_l0_e0_J a1) (by kernel_rfl) ?_
    refine zrExit ?_
    refine zkSeqX ?_
    refine zkNil ?_
    exact endQ hS hQ (finL_x (by intro h; cases h) (by show _ = _ ∧ _ = _; exact ⟨rfl, rfl⟩))
noncomputable def f84_l0 (a1 : List Int) (x : Int) : Option (Int ⊕ (Unit ⊕ Int)) := (bif (decide (x < (a1.length : Int))) then (f84_l0_j1 a1 x true) else (f84_l0_j1 a1 x false))
theorem f84_l0_ok {d : Nat} (hd : 3 ≤ d) (a1 : List Int) {r : Int ⊕ (Unit ⊕ Int)} {Q : PX → St → Prop} (hQ : ∀ e st', finL (f84_l0_H a1) (f84_l0_X a1) r e st' → Q e st') {x : Int} (hS : f84_l0 a1 x = some r) {st : St} (he : f84_l0_H a1 x st) : ZR (lev codes baseL (d - 1)) Q c84_3 [] st := by
  refine zrKeep he ?_
  unfold f84_l0 at hS
  refine zrSeq (zrReg ?_)
  refine zB 9 1 (.cmpI .lss (tm 8) (tm 7)) (decide (x < (a1.length : Int))) (fun hc => ?_) (fun hc => ?_)
  · replace hS := cond_t hc hS
    refine zE (zkSeq ?_)
    exact f84_l0_j1_ok hd a1 hQ x true hS (by kernel_rfl)
  · replace hS := cond_f hc hS
    refine zE (zkSeq ?_)
    exact f84_l0_j1_ok hd a1 hQ x false hS (by kernel_rfl)
noncomputable def f84 (a1 : List Int) : Option (Int) := ((loopO (f84_l0 a1) 0).bind fun z9 => (Sum.elim (fun z10 => (some (-1))) (fun z11 => (some z11)) z9))
theorem f84_ok (d : Nat) (hd : 3 ≤ d) (a1 : List Int) (r : Int) (hS : f84 a1 = some r) : lev codes baseL d 84 [(.d (.sl a1.length ((eInt .i64).cells a1))), (.fn 62 [])] [] = some ((dI r), []) := by
  refine lev_go codes84 rfl rfl (Nat.le_trans (Nat.le_of_ble_eq_true rfl) hd) fun Q hQ => ?_
  unfold f84 at hS
  show ZR _ Q c84_b [] _
  replace hQ : ∀ e st', f84_Q r e st' → Q e st' := hQ
  refine zrSeq (zrReg (zL 1 1 (zE (zkSeq (zrSeq (zrSeq (zrReg (zL 3 3 (zE (zkSeq ?_))))))))))
  refine zrBlk ?_
  refine bindE hS (fun z9 hz9 hS => ?_)
  refine zrLoop (f84_l0_H a1) (f84_l0_X a1) (fun x st r Q h0 hS hQ => f84_l0_ok hd a1 hQ hS h0) (x := 0) (z := z9) (by show keepSt _ _ _ _ = _; kernel_rfl) hz9 ?_
  rcases z9 with z10 | z11
  · replace hS := (show _ = _ from hS)
    simp only [Sum.elim_inl] at hS
    intro e st' _ hX
    obtain ⟨rfl, rfl⟩ : _ ∧ _ := hX
    refine zkBlkX ?_
    refine zkSeq (zrSeq (zrReg (zL 1 1 (zE (zkSeq ?_)))))
    refine zrRet ?_
    refine zkNil ?_
    exact endQ hS hQ (fR (f84_out (-1)))
  · simp only [Sum.elim_inr] at hS
    intro e st' _ hX
    obtain ⟨rfl, hX⟩ : _ ∧ _ := hX
    refine zkBlkR ?_
    refine zkSeqR ?_
    refine zkNil ?_
    exact endQ hS hQ (fRet (by kernel_rfl) ((congrArg (fun s => outR s 0 c84.res) hX).trans (f84_out z11)))
/- slices.ContainsFunc[[]int,int] -/
def f61_fin (p2 : Bool) : St := ⟨(up u0 4 (dB p2)), h0⟩
theorem f61_out (p2 : Bool) : outR (f61_fin p2) 0 c61.res = some ((dB p2), []) := by
  kernel_rfl
def f61_Q (r : Bool) (e : PX) (st : St) : Prop := DoneF c61 0 ((dB r), []) e st
noncomputable def f61 (a1 : List Int) : Option (Bool) := ((f84 a1).bind fun z2 => (bif (decide (0 ≤ z2)) then (some true) else (some false)))
theorem f61_ok (d : Nat) (hd : 4 ≤ d) (a1 : List Int) (r : Bool) (hS : f61 a1 = some r) : lev codes baseL d 61 [(.d (.sl a1.length ((eInt .i64).cells a1))), (.fn 62 [])] [] = some ((dB r), []) := by
  refine lev_go codes61 rfl rfl (Nat.le_trans (Nat.le_of_ble_eq_true rfl) hd) fun Q hQ => ?_
  unfold f61 at hS
  show ZR _ Q c61_b [] _
  replace hQ : ∀ e st', f61_Q r e st' → Q e st' := hQ
  refine zrSeq (zrReg (zL 1 1 (zE (zkSeq (zrSeq (zrReg (zL 2 2 ?_)))))))
  refine bindE hS (fun z2 hz2 hS => ?_)
  refine zO (some 7) 3 (.call 84 [(tm 5), (tm 6)]) (ev_callA (by kernel_rfl) (f84_ok (d - 1) (dpt hd rfl) a1 z2 hz2) (by kernel_rfl) (by kernel_rfl)) ?_
  refine zB 8 4 (.cmpI .geq (tm 7) (ki 0)) (decide (0 ≤ z2)) (fun hc => ?_) (fun hc => ?_)
  · replace hS := cond_t hc hS
    refine zL 1 5 (zE (zkSeq ?_))
    refine zrRet ?_
    refine zkNil ?_
    exact endQ hS hQ (fR (f61_out true))
  · replace hS := cond_f hc hS
    refine zL 1 5 (zE (zkSeq ?_))
    refine zrRet ?_
    refine zkNil ?_
    exact endQ hS hQ (fR (f61_out false))
end Go.Proofs.YtjoccdgmcdkbkaaGreatDoor.Pm
