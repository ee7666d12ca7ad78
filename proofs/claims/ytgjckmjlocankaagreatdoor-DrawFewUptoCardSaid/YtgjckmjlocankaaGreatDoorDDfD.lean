/- Typed functions, and that the codes are these. Printed by dec.py. -/
import Derived.Test.YtgjckmjlocankaaGreatDoorDDfC
namespace Go.Proofs.YtgjckmjlocankaaGreatDoor.Pm
set_option maxRecDepth 1000000
set_option maxHeartbeats 20000000
set_option linter.unusedVariables false
/- farwriter/grid.size -/
def f30_fin (p2 : Int) : St := ⟨(up (fun _ => .un) 4 (.d (.int .i64 p2))), (hB fun _ => 0)⟩
theorem f30_out (p2 : Int) : outR (f30_fin p2) 0 c30.res = some ((.d (.int .i64 p2)), []) := by
  kernel_rfl
def f30_Q (r : Int) (e : PX) (st : St) : Prop := DoneF c30 0 ((.d (.int .i64 r)), []) e st
noncomputable def f30 (a1 : Int) (a2 : Int) : Option (Int) := (bif (decide (a1 < 1)) then (some 1) else (bif (decide (160 < a1)) then (some 1) else (bif (decide (a2 < 1)) then (some 1) else (bif (decide (60 < a2)) then (some 1) else (some 0)))))
theorem f30_ok (d : Nat) (hd : 1 ≤ d) (a1 : Int) (a2 : Int) (r : Int) (hS : f30 a1 a2 = some r) : lev codes baseL d 30 [(.d (.int .i64 a1)), (.d (.int .i64 a2))] [] = some ((.d (.int .i64 r)), []) := by
  refine lev_go codes30 rfl rfl (Nat.le_trans (Nat.le_of_ble_eq_true rfl) hd) fun Q hQ => ?_
  unfold f30 at hS
  show ZR _ Q c30_b [] _
  replace hQ : ∀ e st', f30_Q r e st' → Q e st' := hQ
  refine zrSeq ?_
  refine zrReg ?_
  refine zlRun (n := 1) (j := 1) rfl (by kernel_rfl) ?_
  refine zlEnd (by kernel_rfl) ?_
  refine zkSeq ?_
  refine zrSeq ?_
  refine zrSeq ?_
  refine zrReg ?_
  refine zlRun (n := 1) (j := 1) rfl (by kernel_rfl) ?_
  refine zlBool (d := 6) (op := (.cmpI .lss (.tmp 5) (.const (.int .i64 1)))) (g := none) (j := 2) (decide (a1 < 1)) rfl (by kernel_rfl) (by kernel_rfl) (by kernel_rfl) (fun hc => ?_) (fun hc => ?_)
  · replace hS := cond_t hc hS
    refine zlRun (n := 12) (j := 14) rfl (by kernel_rfl) ?_
    refine zlEnd (by kernel_rfl) ?_
    refine zkSeq ?_
    refine zrCondT (by kernel_rfl) ?_
    refine zrSeq ?_
    refine zrReg ?_
    refine zlRun (n := 1) (j := 1) rfl (by kernel_rfl) ?_
    refine zlEnd (by kernel_rfl) ?_
    refine zkSeq ?_
    refine zrRet ?_
    refine zkSeqR ?_
    refine zkNil ?_
    exact endQ hS hQ (fRet (by kernel_rfl) ((congrArg (fun s => outR s 0 c30.res) (by kernel_rfl : finSt c30.fin _ = f30_fin 1)).trans (f30_out 1)))
  · replace hS := cond_f hc hS
    refine zlRun (n := 2) (j := 4) rfl (by kernel_rfl) ?_
    refine zlBool (d := 9) (op := (.cmpI .gtr (.tmp 8) (.const (.int .i64 160)))) (g := (some (7, false))) (j := 5) (decide (160 < a1)) rfl (by kernel_rfl) (by kernel_rfl) (by kernel_rfl) (fun hc => ?_) (fun hc => ?_)
    · replace hS := cond_t hc hS
      refine zlRun (n := 9) (j := 14) rfl (by kernel_rfl) ?_
      refine zlEnd (by kernel_rfl) ?_
      refine zkSeq ?_
      refine zrCondT (by kernel_rfl) ?_
      refine zrSeq ?_
      refine zrReg ?_
      refine zlRun (n := 1) (j := 1) rfl (by kernel_rfl) ?_
      refine zlEnd (by kernel_rfl) ?_
      refine zkSeq ?_
      refine zrRet ?_
      refine zkSeqR ?_
      refine zkNil ?_
      exact endQ hS hQ (fRet (by kernel_rfl) ((congrArg (fun s => outR s 0 c30.res) (by kernel_rfl : finSt c30.fin _ = f30_fin 1)).trans (f30_out 1)))
    · replace hS := cond_f hc hS
      refine zlRun (n := 3) (j := 8) rfl (by kernel_rfl) ?_
      refine zlBool (d := 13) (op := (.cmpI .lss (.tmp 12) (.const (.int .i64 1)))) (g := (some (11, false))) (j := 9) (decide (a2 < 1)) rfl (by kernel_rfl) (by kernel_rfl) (by kernel_rfl) (fun hc => ?_) (fun hc => ?_)
      · replace hS := cond_t hc hS
        refine zlRun (n := 5) (j := 14) rfl (by kernel_rfl) ?_
        refine zlEnd (by kernel_rfl) ?_
        refine zkSeq ?_
        refine zrCondT (by kernel_rfl) ?_
        refine zrSeq ?_
        refine zrReg ?_
        refine zlRun (n := 1) (j := 1) rfl (by kernel_rfl) ?_
        refine zlEnd (by kernel_rfl) ?_
        refine zkSeq ?_
        refine zrRet ?_
        refine zkSeqR ?_
        refine zkNil ?_
        exact endQ hS hQ (fRet (by kernel_rfl) ((congrArg (fun s => outR s 0 c30.res) (by kernel_rfl : finSt c30.fin _ = f30_fin 1)).trans (f30_out 1)))
      · replace hS := cond_f hc hS
        refine zlRun (n := 3) (j := 12) rfl (by kernel_rfl) ?_
        refine zlBool (d := 17) (op := (.cmpI .gtr (.tmp 16) (.const (.int .i64 60)))) (g := (some (15, false))) (j := 13) (decide (60 < a2)) rfl (by kernel_rfl) (by kernel_rfl) (by kernel_rfl) (fun hc => ?_) (fun hc => ?_)
        · replace hS := cond_t hc hS
          refine zlRun (n := 1) (j := 14) rfl (by kernel_rfl) ?_
          refine zlEnd (by kernel_rfl) ?_
          refine zkSeq ?_
          refine zrCondT (by kernel_rfl) ?_
          refine zrSeq ?_
          refine zrReg ?_
          refine zlRun (n := 1) (j := 1) rfl (by kernel_rfl) ?_
          refine zlEnd (by kernel_rfl) ?_
          refine zkSeq ?_
          refine zrRet ?_
          refine zkSeqR ?_
          refine zkNil ?_
          exact endQ hS hQ (fRet (by kernel_rfl) ((congrArg (fun s => outR s 0 c30.res) (by kernel_rfl : finSt c30.fin _ = f30_fin 1)).trans (f30_out 1)))
        · replace hS := cond_f hc hS
          refine zlRun (n := 1) (j := 14) rfl (by kernel_rfl) ?_
          refine zlEnd (by kernel_rfl) ?_
          refine zkSeq ?_
          refine zrCondF (by kernel_rfl) ?_
          refine zrSkip ?_
          refine zkSeq ?_
          refine zrSeq ?_
          refine zrReg ?_
          refine zlRun (n := 1) (j := 1) rfl (by kernel_rfl) ?_
          refine zlEnd (by kernel_rfl) ?_
          refine zkSeq ?_
          refine zrRet ?_
          refine zkNil ?_
          exact endQ hS hQ (fRet (by kernel_rfl) ((congrArg (fun s => outR s 0 c30.res) (by kernel_rfl : finSt c30.fin _ = f30_fin 0)).trans (f30_out 0)))
/- farwriter/grid.row -/
def f22_fin (p1 : List GCell) : St := ⟨(up (up (fun _ => .un) 2000000 .un) 4 (.d (.sl p1.length (e_GCell.cells p1)))), (hB fun _ => 0)⟩
theorem f22_out (p1 : List GCell) : outR (f22_fin p1) 0 c22.res = some ((.d (.sl p1.length (e_GCell.cells p1))), []) := by
  kernel_rfl
def f22_Q (r : (List GCell)) (e : PX) (st : St) : Prop := DoneF c22 0 ((.d (.sl r.length (e_GCell.cells r))), [.box []]) e st
noncomputable def f22 (a1 : GGrid) (a2 : Int) : Option ((List GCell)) := ((sub? a1.Cells (IntKind.i64.wrap (a2 * a1.Wide)) (IntKind.i64.wrap ((IntKind.i64.wrap (a2 + 1)) * a1.Wide))).bind fun z2 => (some z2))
theorem f22_ok (d : Nat) (hd : 1 ≤ d) (a1 : GGrid) (a2 : Int) (r : (List GCell)) (hS : f22 a1 a2 = some r) : lev codes baseL d 22 [(.agg ((.d (.int .i64 a1.Wide)) :: ((.d (.int .i64 a1.High)) :: ((.d (.sl a1.Cells.length (e_GCell.cells a1.Cells))) :: [])))), (.d (.int .i64 a2))] [] = some ((.d (.sl r.length (e_GCell.cells r))), [.box []]) := by
  refine lev_go codes22 rfl rfl (Nat.le_trans (Nat.le_of_ble_eq_true rfl) hd) fun Q hQ => ?_
  unfold f22 at hS
  show ZR _ Q c22_b [] _
  replace hQ : ∀ e st', f22_Q r e st' → Q e st' := hQ
  refine zrSeq ?_
  refine zrReg ?_
  refine zlRun (n := 2) (j := 2) rfl (by kernel_rfl) ?_
  refine zlEnd (by kernel_rfl) ?_
  refine zkSeq ?_
  refine zrSeq ?_
  refine zrReg ?_
  refine zlRun (n := 11) (j := 11) rfl (by kernel_rfl) ?_
  refine bindE hS (fun z2 hz2 hS => ?_)
  refine zlOp (d := some 16) (op := (.slS 44 4 (.tmp 6) (.some (.tmp 10)) (.some (.tmp 15)))) (g := none) (v := (.d (.sl z2.length (e_GCell.cells z2)))) (ups := []) (j := 12) rfl (by kernel_rfl) (by kernel_rfl) (ev_slS e_GCell (xs := a1.Cells) (a := (IntKind.i64.wrap (a2 * a1.Wide))) (c := (IntKind.i64.wrap ((IntKind.i64.wrap (a2 + 1)) * a1.Wide))) (by kernel_rfl) rfl (bnd_s _ (kk := .i64) (j := (IntKind.i64.wrap (a2 * a1.Wide))) (by kernel_rfl)) (bnd_s _ (kk := .i64) (j := (IntKind.i64.wrap ((IntKind.i64.wrap (a2 + 1)) * a1.Wide))) (by kernel_rfl)) hz2) ?_
  refine zlRun (n := 1) (j := 13) rfl (by kernel_rfl) ?_
  refine zlEnd (by kernel_rfl) ?_
  refine zkSeq ?_
  refine zrRet ?_
  refine zkNil ?_
  exact endQ hS hQ (fRetX (by kernel_rfl) (by kernel_rfl : finSt c22.fin _ = f22_fin z2) (by kernel_rfl) (f22_out z2))
/- farwriter/pen.color -/
def f33_fin (p6 : Bool) : St := ⟨(up (fun _ => .un) 2 (.d (.bool p6))), (hB fun _ => 0)⟩
theorem f33_out (p6 : Bool) : outR (f33_fin p6) 0 c33.res = some ((.d (.bool p6)), []) := by
  kernel_rfl
def f33_Q (r : Bool) (e : PX) (st : St) : Prop := DoneF c33 0 ((.d (.bool r)), []) e st
noncomputable def f33 (a1 : Int) : Option (Bool) := (bif (decide (0 ≤ a1)) then (bif (decide (a1 ≤ 256)) then (some true) else (bif (decide (16777216 ≤ a1)) then (bif (decide (a1 < 33554432)) then (some true) else (some false)) else (some false))) else (bif (decide (16777216 ≤ a1)) then (bif (decide (a1 < 33554432)) then (some true) else (some false)) else (some false)))
theorem f33_ok (d : Nat) (hd : 1 ≤ d) (a1 : Int) (r : Bool) (hS : f33 a1 = some r) : lev codes baseL d 33 [(.d (.int .i64 a1))] [] = some ((.d (.bool r)), []) := by
  refine lev_go codes33 rfl rfl (Nat.le_trans (Nat.le_of_ble_eq_true rfl) hd) fun Q hQ => ?_
  unfold f33 at hS
  show ZR _ Q c33_b [] _
  replace hQ : ∀ e st', f33_Q r e st' → Q e st' := hQ
  refine zrSeq ?_
  refine zrReg ?_
  refine zlRun (n := 1) (j := 1) rfl (by kernel_rfl) ?_
  refine zlEnd (by kernel_rfl) ?_
  refine zkSeq ?_
  refine zrSeq ?_
  refine zrReg ?_
  refine zlRun (n := 1) (j := 1) rfl (by kernel_rfl) ?_
  refine zlBool (d := 4) (op := (.cmpI .geq (.tmp 3) (.const (.int .i64 0)))) (g := none) (j := 2) (decide (0 ≤ a1)) rfl (by kernel_rfl) (by kernel_rfl) (by kernel_rfl) (fun hc => ?_) (fun hc => ?_)
  · replace hS := cond_t hc hS
    refine zlRun (n := 2) (j := 4) rfl (by kernel_rfl) ?_
    refine zlBool (d := 7) (op := (.cmpI .leq (.tmp 6) (.const (.int .i64 256)))) (g := (some (5, true))) (j := 5) (decide (a1 ≤ 256)) rfl (by kernel_rfl) (by kernel_rfl) (by kernel_rfl) (fun hc => ?_) (fun hc => ?_)
    · replace hS := cond_t hc hS
      refine zlRun (n := 10) (j := 15) rfl (by kernel_rfl) ?_
      refine zlEnd (by kernel_rfl) ?_
      refine zkSeq ?_
      refine zrRet ?_
      refine zkNil ?_
      exact endQ hS hQ (fRet (by kernel_rfl) ((congrArg (fun s => outR s 0 c33.res) (by kernel_rfl : finSt c33.fin _ = f33_fin true)).trans (f33_out true)))
    · replace hS := cond_f hc hS
      refine zlRun (n := 3) (j := 8) rfl (by kernel_rfl) ?_
      refine zlBool (d := 11) (op := (.cmpI .geq (.tmp 10) (.const (.int .i64 16777216)))) (g := (some (9, false))) (j := 9) (decide (16777216 ≤ a1)) rfl (by kernel_rfl) (by kernel_rfl) (by kernel_rfl) (fun hc => ?_) (fun hc => ?_)
      · replace hS := cond_t hc hS
        refine zlRun (n := 2) (j := 11) rfl (by kernel_rfl) ?_
        refine zlBool (d := 14) (op := (.cmpI .lss (.tmp 13) (.const (.int .i64 33554432)))) (g := (some (12, true))) (j := 12) (decide (a1 < 33554432)) rfl (by kernel_rfl) (by kernel_rfl) (by kernel_rfl) (fun hc => ?_) (fun hc => ?_)
        · replace hS := cond_t hc hS
          refine zlRun (n := 3) (j := 15) rfl (by kernel_rfl) ?_
          refine zlEnd (by kernel_rfl) ?_
          refine zkSeq ?_
          refine zrRet ?_
          refine zkNil ?_
          exact endQ hS hQ (fRet (by kernel_rfl) ((congrArg (fun s => outR s 0 c33.res) (by kernel_rfl : finSt c33.fin _ = f33_fin true)).trans (f33_out true)))
        · replace hS := cond_f hc hS
          refine zlRun (n := 3) (j := 15) rfl (by kernel_rfl) ?_
          refine zlEnd (by kernel_rfl) ?_
          refine zkSeq ?_
          refine zrRet ?_
          refine zkNil ?_
          exact endQ hS hQ (fRet (by kernel_rfl) ((congrArg (fun s => outR s 0 c33.res) (by kernel_rfl : finSt c33.fin _ = f33_fin false)).trans (f33_out false)))
      · replace hS := cond_f hc hS
        refine zlRun (n := 6) (j := 15) rfl (by kernel_rfl) ?_
        refine zlEnd (by kernel_rfl) ?_
        refine zkSeq ?_
        refine zrRet ?_
        refine zkNil ?_
        exact endQ hS hQ (fRet (by kernel_rfl) ((congrArg (fun s => outR s 0 c33.res) (by kernel_rfl : finSt c33.fin _ = f33_fin false)).trans (f33_out false)))
  · replace hS := cond_f hc hS
    refine zlRun (n := 6) (j := 8) rfl (by kernel_rfl) ?_
    refine zlBool (d := 11) (op := (.cmpI .geq (.tmp 10) (.const (.int .i64 16777216)))) (g := (some (9, false))) (j := 9) (decide (16777216 ≤ a1)) rfl (by kernel_rfl) (by kernel_rfl) (by kernel_rfl) (fun hc => ?_) (fun hc => ?_)
    · replace hS := cond_t hc hS
      refine zlRun (n := 2) (j := 11) rfl (by kernel_rfl) ?_
      refine zlBool (d := 14) (op := (.cmpI .lss (.tmp 13) (.const (.int .i64 33554432)))) (g := (some (12, true))) (j := 12) (decide (a1 < 33554432)) rfl (by kernel_rfl) (by kernel_rfl) (by kernel_rfl) (fun hc => ?_) (fun hc => ?_)
      · replace hS := cond_t hc hS
        refine zlRun (n := 3) (j := 15) rfl (by kernel_rfl) ?_
        refine zlEnd (by kernel_rfl) ?_
        refine zkSeq ?_
        refine zrRet ?_
        refine zkNil ?_
        exact endQ hS hQ (fRet (by kernel_rfl) ((congrArg (fun s => outR s 0 c33.res) (by kernel_rfl : finSt c33.fin _ = f33_fin true)).trans (f33_out true)))
      · replace hS := cond_f hc hS
        refine zlRun (n := 3) (j := 15) rfl (by kernel_rfl) ?_
        refine zlEnd (by kernel_rfl) ?_
        refine zkSeq ?_
        refine zrRet ?_
        refine zkNil ?_
        exact endQ hS hQ (fRet (by kernel_rfl) ((congrArg (fun s => outR s 0 c33.res) (by kernel_rfl : finSt c33.fin _ = f33_fin false)).trans (f33_out false)))
    · replace hS := cond_f hc hS
      refine zlRun (n := 6) (j := 15) rfl (by kernel_rfl) ?_
      refine zlEnd (by kernel_rfl) ?_
      refine zkSeq ?_
      refine zrRet ?_
      refine zkNil ?_
      exact endQ hS hQ (fRet (by kernel_rfl) ((congrArg (fun s => outR s 0 c33.res) (by kernel_rfl : finSt c33.fin _ = f33_fin false)).trans (f33_out false)))
/- farwriter/pen.Check -/
def f18_fin (p2 : Int) : St := ⟨(up (fun _ => .un) 2 (.d (.int .i64 p2))), (hB fun _ => 0)⟩
theorem f18_out (p2 : Int) : outR (f18_fin p2) 0 c18.res = some ((.d (.int .i64 p2)), []) := by
  kernel_rfl
def f18_Q (r : Int) (e : PX) (st : St) : Prop := DoneF c18 0 ((.d (.int .i64 r)), []) e st
noncomputable def f18 (a1 : GPen) : Option (Int) := (bif (decide (a1.Flags < 0)) then (some 4) else (bif (decide (255 < a1.Flags)) then (some 4) else ((f33 a1.Fore).bind fun z3 => (bif (!z3) then (some 4) else ((f33 a1.Back).bind fun z4 => (bif (!z4) then (some 4) else (some 0)))))))
theorem f18_ok (d : Nat) (hd : 2 ≤ d) (a1 : GPen) (r : Int) (hS : f18 a1 = some r) : lev codes baseL d 18 [(.agg ((.d (.int .i64 a1.Flags)) :: ((.d (.int .i64 a1.Fore)) :: ((.d (.int .i64 a1.Back)) :: []))))] [] = some ((.d (.int .i64 r)), []) := by
  refine lev_go codes18 rfl rfl (Nat.le_trans (Nat.le_of_ble_eq_true rfl) hd) fun Q hQ => ?_
  unfold f18 at hS
  show ZR _ Q c18_b [] _
  replace hQ : ∀ e st', f18_Q r e st' → Q e st' := hQ
  refine zrSeq ?_
  refine zrReg ?_
  refine zlRun (n := 2) (j := 2) rfl (by kernel_rfl) ?_
  refine zlEnd (by kernel_rfl) ?_
  refine zkSeq ?_
  refine zrSeq ?_
  refine zrSeq ?_
  refine zrReg ?_
  refine zlRun (n := 2) (j := 2) rfl (by kernel_rfl) ?_
  refine zlBool (d := 5) (op := (.cmpI .lss (.tmp 4) (.const (.int .i64 0)))) (g := none) (j := 3) (decide (a1.Flags < 0)) rfl (by kernel_rfl) (by kernel_rfl) (by kernel_rfl) (fun hc => ?_) (fun hc => ?_)
  · replace hS := cond_t hc hS
    refine zlRun (n := 17) (j := 20) rfl (by kernel_rfl) ?_
    refine zlEnd (by kernel_rfl) ?_
    refine zkSeq ?_
    refine zrCondT (by kernel_rfl) ?_
    refine zrSeq ?_
    refine zrReg ?_
    refine zlRun (n := 1) (j := 1) rfl (by kernel_rfl) ?_
    refine zlEnd (by kernel_rfl) ?_
    refine zkSeq ?_
    refine zrRet ?_
    refine zkSeqR ?_
    refine zkNil ?_
    exact endQ hS hQ (fRet (by kernel_rfl) ((congrArg (fun s => outR s 0 c18.res) (by kernel_rfl : finSt c18.fin _ = f18_fin 4)).trans (f18_out 4)))
  · replace hS := cond_f hc hS
    refine zlRun (n := 3) (j := 6) rfl (by kernel_rfl) ?_
    refine zlBool (d := 9) (op := (.cmpI .gtr (.tmp 8) (.const (.int .i64 255)))) (g := (some (6, false))) (j := 7) (decide (255 < a1.Flags)) rfl (by kernel_rfl) (by kernel_rfl) (by kernel_rfl) (fun hc => ?_) (fun hc => ?_)
    · replace hS := cond_t hc hS
      refine zlRun (n := 13) (j := 20) rfl (by kernel_rfl) ?_
      refine zlEnd (by kernel_rfl) ?_
      refine zkSeq ?_
      refine zrCondT (by kernel_rfl) ?_
      refine zrSeq ?_
      refine zrReg ?_
      refine zlRun (n := 1) (j := 1) rfl (by kernel_rfl) ?_
      refine zlEnd (by kernel_rfl) ?_
      refine zkSeq ?_
      refine zrRet ?_
      refine zkSeqR ?_
      refine zkNil ?_
      exact endQ hS hQ (fRet (by kernel_rfl) ((congrArg (fun s => outR s 0 c18.res) (by kernel_rfl : finSt c18.fin _ = f18_fin 4)).trans (f18_out 4)))
    · replace hS := cond_f hc hS
      refine zlRun (n := 4) (j := 11) rfl (by kernel_rfl) ?_
      refine bindE hS (fun z3 hz3 hS => ?_)
      refine zlOp (d := some 14) (op := (.call 33 [(.tmp 13)])) (g := (some (11, false))) (j := 12) rfl (by kernel_rfl) (by kernel_rfl) (ev_callA (by kernel_rfl) (f33_ok (d - 1) (dpt hd rfl) a1.Fore z3 hz3) (by kernel_rfl) (by kernel_rfl)) ?_
      refine zlRun (n := 3) (j := 15) rfl (by kernel_rfl) ?_
      refine zlSplit 17 (!z3) (by kernel_rfl) (fun hc => ?_) (fun hc => ?_)
      · replace hS := cond_t hc hS
        refine zlRun (n := 5) (j := 20) rfl (by kernel_rfl) ?_
        refine zlEnd (by kernel_rfl) ?_
        refine zkSeq ?_
        refine zrCondT (by kernel_rfl) ?_
        refine zrSeq ?_
        refine zrReg ?_
        refine zlRun (n := 1) (j := 1) rfl (by kernel_rfl) ?_
        refine zlEnd (by kernel_rfl) ?_
        refine zkSeq ?_
        refine zrRet ?_
        refine zkSeqR ?_
        refine zkNil ?_
        exact endQ hS hQ (fRet (by kernel_rfl) ((congrArg (fun s => outR s 0 c18.res) (by kernel_rfl : finSt c18.fin _ = f18_fin 4)).trans (f18_out 4)))
      · replace hS := cond_f hc hS
        refine zlRun (n := 2) (j := 17) rfl (by kernel_rfl) ?_
        refine bindE hS (fun z4 hz4 hS => ?_)
        refine zlOp (d := some 20) (op := (.call 33 [(.tmp 19)])) (g := (some (17, false))) (j := 18) rfl (by kernel_rfl) (by kernel_rfl) (ev_callA (by kernel_rfl) (f33_ok (d - 1) (dpt hd rfl) a1.Back z4 hz4) (by kernel_rfl) (by kernel_rfl)) ?_
        refine zlRun (n := 2) (j := 20) rfl (by kernel_rfl) ?_
        refine zlEnd (by kernel_rfl) ?_
        refine zkSeq ?_
        refine zrSplit 22 (!z4) (by kernel_rfl) (fun hc => ?_) (fun hc => ?_)
        · replace hS := cond_t hc hS
          refine zrCondT (by kernel_rfl) ?_
          refine zrSeq ?_
          refine zrReg ?_
          refine zlRun (n := 1) (j := 1) rfl (by kernel_rfl) ?_
          refine zlEnd (by kernel_rfl) ?_
          refine zkSeq ?_
          refine zrRet ?_
          refine zkSeqR ?_
          refine zkNil ?_
          exact endQ hS hQ (fRet (by kernel_rfl) ((congrArg (fun s => outR s 0 c18.res) (by kernel_rfl : finSt c18.fin _ = f18_fin 4)).trans (f18_out 4)))
        · replace hS := cond_f hc hS
          refine zrCondF (by kernel_rfl) ?_
          refine zrSkip ?_
          refine zkSeq ?_
          refine zrSeq ?_
          refine zrReg ?_
          refine zlRun (n := 1) (j := 1) rfl (by kernel_rfl) ?_
          refine zlEnd (by kernel_rfl) ?_
          refine zkSeq ?_
          refine zrRet ?_
          refine zkNil ?_
          exact endQ hS hQ (fRet (by kernel_rfl) ((congrArg (fun s => outR s 0 c18.res) (by kernel_rfl : finSt c18.fin _ = f18_fin 0)).trans (f18_out 0)))
/- farwriter/width.in -/
def f50_fin (p27 : Bool) : St := ⟨(up (fun _ => .un) 4 (.d (.bool p27))), (hB fun _ => 0)⟩
theorem f50_out (p27 : Bool) : outR (f50_fin p27) 0 c50.res = some ((.d (.bool p27)), []) := by
  kernel_rfl
def f50_Q (r : Bool) (e : PX) (st : St) : Prop := DoneF c50 0 ((.d (.bool r)), []) e st
def f50_l0_J (a1 : Int) (a2 : List (Int × Int)) (x : Int) : St := ⟨(up (up (up (up (fun _ => .un) 9 (.d (.int .i64 x))) 8 (.d (.int .i64 (a2.length : Int)))) 7 (.d (.sl a2.length (e_A31.cells a2)))) 0 (.d (.int .i64 a1))), (hB fun _ => 0)⟩
def f50_l0_H (a1 : Int) (a2 : List (Int × Int)) (x : Int) (st : St) : Prop := keepSt [0, 7, 8, 9] [] [] st = f50_l0_J a1 a2 x
def f50_l0_e0_J (a1 : Int) (a2 : List (Int × Int)) : St := ⟨(fun _ => .un), (hB fun _ => 0)⟩
def f50_l0_X (a1 : Int) (a2 : List (Int × Int)) (z : Unit ⊕ Bool) (e : PX) (st : St) : Prop := (match z with | .inl z => e = .exit 0 ∧ st = f50_l0_e0_J a1 a2 | .inr z => e = .ret ∧ finSt c50.fin st = f50_fin z)
def f50_l0_j2_J (a1 : Int) (a2 : List (Int × Int)) (p32 : Int) : St := ⟨(up (up (up (up (fun _ => .un) 9 (.d (.int .i64 p32))) 8 (.d (.int .i64 (a2.length : Int)))) 7 (.d (.sl a2.length (e_A31.cells a2)))) 0 (.d (.int .i64 a1))), (hB fun _ => 0)⟩
noncomputable def f50_l0_j2 (a1 : Int) (a2 : List (Int × Int)) (p32 : Int) : Option (Int ⊕ (Unit ⊕ Bool)) := ((idx a2 p32).bind fun z4 => (bif (decide (z4.1 ≤ a1)) then (bif (decide (a1 ≤ z4.2)) then (some (.inr (.inr true))) else (some (.inl (IntKind.i64.wrap (p32 + 1))))) else (some (.inl (IntKind.i64.wrap (p32 + 1))))))
theorem f50_l0_j2_ok {d : Nat} (hd : 1 ≤ d) (a1 : Int) (a2 : List (Int × Int)) {r : Int ⊕ (Unit ⊕ Bool)} {Q : PX → St → Prop} (hQ : ∀ e st', finL (f50_l0_H a1 a2) (f50_l0_X a1 a2) r e st' → Q e st') (p32 : Int) (hS : f50_l0_j2 a1 a2 p32 = some r) {st : St} (he : keepSt [0, 7, 8, 9] [] [] st = f50_l0_j2_J a1 a2 p32) : ZR (lev codes baseL (d - 1)) Q c50_1 [] st := by
  refine zrKeep he ?_
  unfold f50_l0_j2 at hS
  refine zrSeq ?_
  refine zrBlk ?_
  refine zrSeq ?_
  refine zrReg ?_
  refine bindE hS (fun z4 hz4 hS => ?_)
  refine zlOp (d := some 11) (op := (.ixS 31 2 (.tmp 7) (.tmp 9))) (g := none) (v := (.rptr (e_A31.enc z4 ++ (e_A31.cells (a2.drop ((p32 : Int).toNat + 1)))))) (ups := []) (j := 1) rfl (by kernel_rfl) (by kernel_rfl) (ev_ixS e_A31 (kk := .i64) (xs := a2) (j := p32) (by kernel_rfl) (by kernel_rfl) hz4 rfl (by intro h; cases h)) ?_
  refine zlRun (n := 3) (j := 4) rfl (by kernel_rfl) ?_
  refine zlEnd (by kernel_rfl) ?_
  refine zkSeq ?_
  refine zrSeq ?_
  refine zrReg ?_
  refine zlRun (n := 3) (j := 3) rfl (by kernel_rfl) ?_
  refine zlBool (d := 16) (op := (.cmpI .geq (.tmp 13) (.tmp 15))) (g := none) (j := 4) (decide (z4.1 ≤ a1)) rfl (by kernel_rfl) (by kernel_rfl) (by kernel_rfl) (fun hc => ?_) (fun hc => ?_)
  · replace hS := cond_t hc hS
    refine zlRun (n := 4) (j := 8) rfl (by kernel_rfl) ?_
    refine zlBool (d := 21) (op := (.cmpI .leq (.tmp 18) (.tmp 20))) (g := (some (17, true))) (j := 9) (decide (a1 ≤ z4.2)) rfl (by kernel_rfl) (by kernel_rfl) (by kernel_rfl) (fun hc => ?_) (fun hc => ?_)
    · replace hS := cond_t hc hS
      refine zlRun (n := 1) (j := 10) rfl (by kernel_rfl) ?_
      refine zlEnd (by kernel_rfl) ?_
      refine zkSeq ?_
      refine zrCondT (by kernel_rfl) ?_
      refine zrSeq ?_
      refine zrReg ?_
      refine zlRun (n := 1) (j := 1) rfl (by kernel_rfl) ?_
      refine zlEnd (by kernel_rfl) ?_
      refine zkSeq ?_
      refine zrRet ?_
      refine zkBlkR ?_
      refine zkSeqR ?_
      refine zkNil ?_
      exact endQ hS hQ (finL_x (by intro h; cases h) (by show _ = _ ∧ _ = _; exact ⟨rfl, by kernel_rfl⟩))
    · replace hS := cond_f hc hS
      refine zlRun (n := 1) (j := 10) rfl (by kernel_rfl) ?_
      refine zlEnd (by kernel_rfl) ?_
      refine zkSeq ?_
      refine zrCondF (by kernel_rfl) ?_
      refine zrSkip ?_
      refine zkBlk ?_
      refine zkSeq ?_
      refine zrReg ?_
      refine zlRun (n := 2) (j := 2) rfl (by kernel_rfl) ?_
      refine zlEnd (by kernel_rfl) ?_
      refine zkNil ?_
      exact endQ hS hQ (finL_n (by show keepSt _ _ _ _ = _; kernel_rfl))
  · replace hS := cond_f hc hS
    refine zlRun (n := 6) (j := 10) rfl (by kernel_rfl) ?_
    refine zlEnd (by kernel_rfl) ?_
    refine zkSeq ?_
    refine zrCondF (by kernel_rfl) ?_
    refine zrSkip ?_
    refine zkBlk ?_
    refine zkSeq ?_
    refine zrReg ?_
    refine zlRun (n := 2) (j := 2) rfl (by kernel_rfl) ?_
    refine zlEnd (by kernel_rfl) ?_
    refine zkNil ?_
    exact endQ hS hQ (finL_n (by show keepSt _ _ _ _ = _; kernel_rfl))
def f50_l0_j1_J (a1 : Int) (a2 : List (Int × Int)) (p30 : Int) (p31 : Bool) : St := ⟨(up (up (up (up (up (fun _ => .un) 10 (.d (.bool p31))) 9 (.d (.int .i64 p30))) 8 (.d (.int .i64 (a2.length : Int)))) 7 (.d (.sl a2.length (e_A31.cells a2)))) 0 (.d (.int .i64 a1))), (hB fun _ => 0)⟩
noncomputable def f50_l0_j1 (a1 : Int) (a2 : List (Int × Int)) (p30 : Int) (p31 : Bool) : Option (Int ⊕ (Unit ⊕ Bool)) := (bif p31 then (f50_l0_j2 a1 a2 p30) else (some (.inr (.inl ()))))
theorem f50_l0_j1_ok {d : Nat} (hd : 1 ≤ d) (a1 : Int) (a2 : List (Int × Int)) {r : Int ⊕ (Unit ⊕ Bool)} {Q : PX → St → Prop} (hQ : ∀ e st', finL (f50_l0_H a1 a2) (f50_l0_X a1 a2) r e st' → Q e st') (p30 : Int) (p31 : Bool) (hS : f50_l0_j1 a1 a2 p30 p31 = some r) {st : St} (he : keepSt [0, 7, 8, 9, 10] [] [] st = f50_l0_j1_J a1 a2 p30 p31) : ZR (lev codes baseL (d - 1)) Q c50_2 [] st := by
  refine zrKeep he ?_
  unfold f50_l0_j1 at hS
  refine zrSeq ?_
  refine zrSplit 10 p31 (by kernel_rfl) (fun hc => ?_) (fun hc => ?_)
  · replace hS := cond_t hc hS
    refine zrCondT (by kernel_rfl) ?_
    refine zrSkip ?_
    refine zkSeq ?_
    exact f50_l0_j2_ok hd a1 a2 hQ p30 hS (by kernel_rfl)
  · replace hS := cond_f hc hS
    refine zrCondF (by kernel_rfl) ?_
    refine zrKeep (J := f50_l0_e0_J a1 a2) (by kernel_rfl) ?_
    refine zrExit ?_
    refine zkSeqX ?_
    refine zkNil ?_
    exact endQ hS hQ (finL_x (by intro h; cases h) (by show _ = _ ∧ _ = _; exact ⟨rfl, rfl⟩))
noncomputable def f50_l0 (a1 : Int) (a2 : List (Int × Int)) (x : Int) : Option (Int ⊕ (Unit ⊕ Bool)) := (bif (decide (x < (a2.length : Int))) then (f50_l0_j1 a1 a2 x true) else (f50_l0_j1 a1 a2 x false))
theorem f50_l0_ok {d : Nat} (hd : 1 ≤ d) (a1 : Int) (a2 : List (Int × Int)) {r : Int ⊕ (Unit ⊕ Bool)} {Q : PX → St → Prop} (hQ : ∀ e st', finL (f50_l0_H a1 a2) (f50_l0_X a1 a2) r e st' → Q e st') {x : Int} (hS : f50_l0 a1 a2 x = some r) {st : St} (he : f50_l0_H a1 a2 x st) : ZR (lev codes baseL (d - 1)) Q c50_3 [] st := by
  refine zrKeep he ?_
  unfold f50_l0 at hS
  refine zrSeq ?_
  refine zrReg ?_
  refine zlBool (d := 10) (op := (.cmpI .lss (.tmp 9) (.tmp 8))) (g := none) (j := 1) (decide (x < (a2.length : Int))) rfl (by kernel_rfl) (by kernel_rfl) (by kernel_rfl) (fun hc => ?_) (fun hc => ?_)
  · replace hS := cond_t hc hS
    refine zlEnd (by kernel_rfl) ?_
    refine zkSeq ?_
    exact f50_l0_j1_ok hd a1 a2 hQ x true hS (by kernel_rfl)
  · replace hS := cond_f hc hS
    refine zlEnd (by kernel_rfl) ?_
    refine zkSeq ?_
    exact f50_l0_j1_ok hd a1 a2 hQ x false hS (by kernel_rfl)
noncomputable def f50 (a1 : Int) (a2 : List (Int × Int)) : Option (Bool) := ((loopO (f50_l0 a1 a2) 0).bind fun z5 => (Sum.elim (fun z6 => (some false)) (fun z7 => (some z7)) z5))
theorem f50_ok (d : Nat) (hd : 1 ≤ d) (a1 : Int) (a2 : List (Int × Int)) (r : Bool) (hS : f50 a1 a2 = some r) : lev codes baseL d 50 [(.d (.int .i64 a1)), (.d (.sl a2.length (e_A31.cells a2)))] [] = some ((.d (.bool r)), []) := by
  refine lev_go codes50 rfl rfl (Nat.le_trans (Nat.le_of_ble_eq_true rfl) hd) fun Q hQ => ?_
  unfold f50 at hS
  show ZR _ Q c50_b [] _
  replace hQ : ∀ e st', f50_Q r e st' → Q e st' := hQ
  refine zrSeq ?_
  refine zrReg ?_
  refine zlRun (n := 1) (j := 1) rfl (by kernel_rfl) ?_
  refine zlEnd (by kernel_rfl) ?_
  refine zkSeq ?_
  refine zrSeq ?_
  refine zrSeq ?_
  refine zrReg ?_
  refine zlRun (n := 3) (j := 3) rfl (by kernel_rfl) ?_
  refine zlEnd (by kernel_rfl) ?_
  refine zkSeq ?_
  refine zrBlk ?_
  refine bindE hS (fun z5 hz5 hS => ?_)
  refine zrLoop (f50_l0_H a1 a2) (f50_l0_X a1 a2) (fun x st r Q h0 hS hQ => f50_l0_ok hd a1 a2 hQ hS h0) (x := 0) (z := z5) (by show keepSt _ _ _ _ = _; kernel_rfl) hz5 ?_
  rcases z5 with z6 | z7
  · replace hS := (show _ = _ from hS)
    simp only [Sum.elim_inl] at hS
    intro e st' _ hX
    obtain ⟨rfl, rfl⟩ : _ ∧ _ := hX
    refine zkBlkX ?_
    refine zkSeq ?_
    refine zrSeq ?_
    refine zrReg ?_
    refine zlRun (n := 1) (j := 1) rfl (by kernel_rfl) ?_
    refine zlEnd (by kernel_rfl) ?_
    refine zkSeq ?_
    refine zrRet ?_
    refine zkNil ?_
    exact endQ hS hQ (fRet (by kernel_rfl) ((congrArg (fun s => outR s 0 c50.res) (by kernel_rfl : finSt c50.fin _ = f50_fin false)).trans (f50_out false)))
  · simp only [Sum.elim_inr] at hS
    intro e st' _ hX
    obtain ⟨rfl, hX⟩ : _ ∧ _ := hX
    refine zkBlkR ?_
    refine zkSeqR ?_
    refine zkNil ?_
    exact endQ hS hQ (fRet (by kernel_rfl) ((congrArg (fun s => outR s 0 c50.res) hX).trans (f50_out z7)))
/- farwriter/width.Of -/
def f31_fin (p2 : Int) : St := ⟨(up (fun _ => .un) 2 (.d (.int .i64 p2))), (hB fun _ => 0)⟩
theorem f31_out (p2 : Int) : outR (f31_fin p2) 0 c31.res = some ((.d (.int .i64 p2)), []) := by
  kernel_rfl
def f31_Q (r : Int) (e : PX) (st : St) : Prop := DoneF c31 0 ((.d (.int .i64 r)), []) e st
def f31_j0_J (a1 : Int) (p4 : Bool) : St := ⟨(up (up (up (fun _ => .un) 25 (.d (.bool p4))) 4 (.r (.ptr 40 0 0))) 0 (.d (.int .i64 a1))), (up (hB fun _ => 0) 40 ⟨0, some (.box ((e_A31.row 12 (fun i => ([(4352, 4447), (11904, 12350), (12353, 19903), (19968, 42191), (44032, 55203), (63744, 64255), (65072, 65135), (65280, 65376), (65504, 65510), (127744, 128591), (129280, 129535), (131072, 262141)] : List (Int × Int)).getD i (0, 0))) ++ []))⟩)⟩
noncomputable def f31_j0 (a1 : Int) (p4 : Bool) : Option (Int) := (bif p4 then (some 0) else ((f50 a1 [(4352, 4447), (11904, 12350), (12353, 19903), (19968, 42191), (44032, 55203), (63744, 64255), (65072, 65135), (65280, 65376), (65504, 65510), (127744, 128591), (129280, 129535), (131072, 262141)]).bind fun z4 => (bif z4 then (some 2) else (some 1))))
theorem f31_j0_ok {d : Nat} (hd : 2 ≤ d) (a1 : Int) {r : Int} {Q : PX → St → Prop} (hQ : ∀ e st', f31_Q r e st' → Q e st') (p4 : Bool) (hS : f31_j0 a1 p4 = some r) {st : St} (he : keepSt [0, 4, 25] [(40, .id 40)] [] st = f31_j0_J a1 p4) : ZR (lev codes baseL (d - 1)) Q c31_1 [.blk 0, .seq c31_2] st := by
  refine zrKeep he ?_
  unfold f31_j0 at hS
  refine zrSplit 25 p4 (by kernel_rfl) (fun hc => ?_) (fun hc => ?_)
  · replace hS := cond_t hc hS
    refine zrCondT (by kernel_rfl) ?_
    refine zrSeq ?_
    refine zrReg ?_
    refine zlRun (n := 1) (j := 1) rfl (by kernel_rfl) ?_
    refine zlEnd (by kernel_rfl) ?_
    refine zkSeq ?_
    refine zrRet ?_
    refine zkBlkR ?_
    refine zkSeqR ?_
    refine zkNil ?_
    exact endQ hS hQ (fRet (by kernel_rfl) ((congrArg (fun s => outR s 0 c31.res) (by kernel_rfl : finSt c31.fin _ = f31_fin 0)).trans (f31_out 0)))
  · replace hS := cond_f hc hS
    refine zrCondF (by kernel_rfl) ?_
    refine zrSeq ?_
    refine zrReg ?_
    refine zlRun (n := 2) (j := 2) rfl (by kernel_rfl) ?_
    refine bindE hS (fun z4 hz4 hS => ?_)
    refine zlOp (d := some 40) (op := (.call 50 [(.tmp 38), (.tmp 39)])) (g := none) (j := 3) rfl (by kernel_rfl) (by kernel_rfl) (ev_callA (by kernel_rfl) (f50_ok (d - 1) (dpt hd rfl) a1 [(4352, 4447), (11904, 12350), (12353, 19903), (19968, 42191), (44032, 55203), (63744, 64255), (65072, 65135), (65280, 65376), (65504, 65510), (127744, 128591), (129280, 129535), (131072, 262141)] z4 hz4) (by kernel_rfl) (by kernel_rfl)) ?_
    refine zlRun (n := 1) (j := 4) rfl (by kernel_rfl) ?_
    refine zlEnd (by kernel_rfl) ?_
    refine zkSeq ?_
    refine zrSplit 37 z4 (by kernel_rfl) (fun hc => ?_) (fun hc => ?_)
    · replace hS := cond_t hc hS
      refine zrCondT (by kernel_rfl) ?_
      refine zrSeq ?_
      refine zrReg ?_
      refine zlRun (n := 1) (j := 1) rfl (by kernel_rfl) ?_
      refine zlEnd (by kernel_rfl) ?_
      refine zkSeq ?_
      refine zrRet ?_
      refine zkBlkR ?_
      refine zkSeqR ?_
      refine zkNil ?_
      exact endQ hS hQ (fRet (by kernel_rfl) ((congrArg (fun s => outR s 0 c31.res) (by kernel_rfl : finSt c31.fin _ = f31_fin 2)).trans (f31_out 2)))
    · replace hS := cond_f hc hS
      refine zrCondF (by kernel_rfl) ?_
      refine zrSkip ?_
      refine zkBlk ?_
      refine zkSeq ?_
      refine zrSeq ?_
      refine zrReg ?_
      refine zlRun (n := 1) (j := 1) rfl (by kernel_rfl) ?_
      refine zlEnd (by kernel_rfl) ?_
      refine zkSeq ?_
      refine zrRet ?_
      refine zkNil ?_
      exact endQ hS hQ (fRet (by kernel_rfl) ((congrArg (fun s => outR s 0 c31.res) (by kernel_rfl : finSt c31.fin _ = f31_fin 1)).trans (f31_out 1)))
noncomputable def f31 (a1 : Int) : Option (Int) := (bif (decide (a1 < 0)) then (f31_j0 a1 true) else (bif (decide (1114111 < a1)) then (f31_j0 a1 true) else ((f50 a1 [(0, 31), (127, 159), (768, 879), (8203, 8207), (55296, 57343), (65024, 65039)]).bind fun z5 => (f31_j0 a1 z5))))
theorem f31_ok (d : Nat) (hd : 2 ≤ d) (a1 : Int) (r : Int) (hS : f31 a1 = some r) : lev codes baseL d 31 [(.d (.int .i64 a1))] [] = some ((.d (.int .i64 r)), []) := by
  refine lev_go codes31 rfl rfl (Nat.le_trans (Nat.le_of_ble_eq_true rfl) hd) fun Q hQ => ?_
  unfold f31 at hS
  show ZR _ Q c31_b [] _
  replace hQ : ∀ e st', f31_Q r e st' → Q e st' := hQ
  refine zrSeq ?_
  refine zrReg ?_
  refine zlRun (n := 1) (j := 1) rfl (by kernel_rfl) ?_
  refine zlEnd (by kernel_rfl) ?_
  refine zkSeq ?_
  refine zrSeq ?_
  refine zrReg ?_
  refine zlRun (n := 9) (j := 9) rfl (by kernel_rfl) ?_
  refine zlEnd (by kernel_rfl) ?_
  refine zkSeq ?_
  refine zrSeq ?_
  refine zrReg ?_
  refine zlRun (n := 15) (j := 15) rfl (by kernel_rfl) ?_
  refine zlEnd (by kernel_rfl) ?_
  refine zkSeq ?_
  refine zrSeq ?_
  refine zrBlk ?_
  refine zrSeq ?_
  refine zrReg ?_
  refine zlRun (n := 1) (j := 1) rfl (by kernel_rfl) ?_
  refine zlBool (d := 27) (op := (.cmpI .lss (.tmp 26) (.const (.int .i64 0)))) (g := none) (j := 2) (decide (a1 < 0)) rfl (by kernel_rfl) (by kernel_rfl) (by kernel_rfl) (fun hc => ?_) (fun hc => ?_)
  · replace hS := cond_t hc hS
    refine zlRun (n := 10) (j := 12) rfl (by kernel_rfl) ?_
    refine zlEnd (by kernel_rfl) ?_
    refine zkSeq ?_
    exact f31_j0_ok hd a1 hQ true hS (by kernel_rfl)
  · replace hS := cond_f hc hS
    refine zlRun (n := 2) (j := 4) rfl (by kernel_rfl) ?_
    refine zlBool (d := 30) (op := (.cmpI .gtr (.tmp 29) (.const (.int .i64 1114111)))) (g := (some (28, false))) (j := 5) (decide (1114111 < a1)) rfl (by kernel_rfl) (by kernel_rfl) (by kernel_rfl) (fun hc => ?_) (fun hc => ?_)
    · replace hS := cond_t hc hS
      refine zlRun (n := 7) (j := 12) rfl (by kernel_rfl) ?_
      refine zlEnd (by kernel_rfl) ?_
      refine zkSeq ?_
      exact f31_j0_ok hd a1 hQ true hS (by kernel_rfl)
    · replace hS := cond_f hc hS
      refine zlRun (n := 4) (j := 9) rfl (by kernel_rfl) ?_
      refine bindE hS (fun z5 hz5 hS => ?_)
      refine zlOp (d := some 35) (op := (.call 50 [(.tmp 33), (.tmp 34)])) (g := (some (32, false))) (j := 10) rfl (by kernel_rfl) (by kernel_rfl) (ev_callA (by kernel_rfl) (f50_ok (d - 1) (dpt hd rfl) a1 [(0, 31), (127, 159), (768, 879), (8203, 8207), (55296, 57343), (65024, 65039)] z5 hz5) (by kernel_rfl) (by kernel_rfl)) ?_
      refine zlRun (n := 2) (j := 12) rfl (by kernel_rfl) ?_
      refine zlEnd (by kernel_rfl) ?_
      refine zkSeq ?_
      exact f31_j0_ok hd a1 hQ z5 hS (by kernel_rfl)
/- farwriter/grid.lone$1 -/
def f51_fin (p4 : Bool) : St := ⟨(up (fun _ => .un) 3 (.d (.bool p4))), (hB fun _ => 0)⟩
theorem f51_out (p4 : Bool) : outR (f51_fin p4) 0 c51.res = some ((.d (.bool p4)), []) := by
  kernel_rfl
def f51_Q (r : Bool) (e : PX) (st : St) : Prop := DoneF c51 0 ((.d (.bool r)), []) e st
noncomputable def f51 (a1 : Int) (a2 : List GCell) (a3 : List PD) : Option (Bool) := (bif (decide (a1 < (a2.length : Int))) then ((idx a2 a1).bind fun z4 => (bif (decide (z4.Rune = 0)) then ((idx a2 a1).bind fun z5 => ((idx a2 (IntKind.i64.wrap (a1 - 1))).bind fun z6 => (bif (decide (z5.Pen.Flags = z6.Pen.Flags) && (decide (z5.Pen.Fore = z6.Pen.Fore) && (decide (z5.Pen.Back = z6.Pen.Back) && true))) then (some true) else (some false)))) else (some false))) else (some false))
theorem f51_ok (d : Nat) (hd : 1 ≤ d) (a1 : Int) (a2 : List GCell) (a3 : List PD) (r : Bool) (hS : f51 a1 a2 a3 = some r) : lev codes baseL d 51 [(.d (.int .i64 a1)), (.rptr ((eSl e_GCell).enc a2 ++ a3))] [] = some ((.d (.bool r)), []) := by
  refine lev_go codes51 rfl rfl (Nat.le_trans (Nat.le_of_ble_eq_true rfl) hd) fun Q hQ => ?_
  unfold f51 at hS
  show ZR _ Q c51_b [] _
  replace hQ : ∀ e st', f51_Q r e st' → Q e st' := hQ
  refine zrSeq ?_
  refine zrReg ?_
  refine zlRun (n := 1) (j := 1) rfl (by kernel_rfl) ?_
  refine zlEnd (by kernel_rfl) ?_
  refine zkSeq ?_
  refine zrSeq ?_
  refine zrRegD ?_
  refine zdRun (n := 3) (j := 3) (ts := [[], [], []]) (acc' := [[], [], []]) rfl (by kernel_rfl) (by kernel_rfl) (by kernel_rfl) ?_
  refine zdBool (d := 7) (op := (.cmpI .lss (.tmp 4) (.tmp 6))) (g := none) (j := 4) (t1 := []) (acc' := [[], [], [], []]) (decide (a1 < (a2.length : Int))) (by kernel_rfl) (by kernel_rfl) rfl (by kernel_rfl) (by kernel_rfl) (by kernel_rfl) (fun hc => ?_) (fun hc => ?_)
  · replace hS := cond_t hc hS
    refine zdRun (n := 3) (j := 7) (ts := [[], [], []]) (acc' := [[], [], [], [], [], [], []]) rfl (by kernel_rfl) (by kernel_rfl) (by kernel_rfl) ?_
    refine bindE hS (fun z4 hz4 hS => ?_)
    refine zdOp (d := some 11) (op := (.ixS 44 4 (.tmp 9) (.tmp 10))) (g := (some (8, true))) (v := (.rptr (e_GCell.enc z4 ++ (e_GCell.cells (a2.drop ((a1 : Int).toNat + 1)))))) (ups := []) (j := 8) (t1 := []) (acc' := [[], [], [], [], [], [], [], []]) (by kernel_rfl) (by kernel_rfl) rfl (by kernel_rfl) (by kernel_rfl) (ev_ixS e_GCell (kk := .i64) (xs := a2) (j := a1) (by kernel_rfl) (by kernel_rfl) hz4 rfl (by intro h; cases h)) ?_
    refine zdRun (n := 2) (j := 10) (ts := [[], []]) (acc' := [[], [], [], [], [], [], [], [], [], []]) rfl (by kernel_rfl) (by kernel_rfl) (by kernel_rfl) ?_
    refine zdBool (d := 14) (op := (.cmpI .eql (.tmp 13) (.const (.int .i64 0)))) (g := (some (8, true))) (j := 11) (t1 := []) (acc' := [[], [], [], [], [], [], [], [], [], [], []]) (decide (z4.Rune = 0)) (by kernel_rfl) (by kernel_rfl) rfl (by kernel_rfl) (by kernel_rfl) (by kernel_rfl) (fun hc => ?_) (fun hc => ?_)
    · replace hS := cond_t hc hS
      refine zdRun (n := 4) (j := 15) (ts := [[], [], [], []]) (acc' := [[], [], [], [], [], [], [], [], [], [], [], [], [], [], []]) rfl (by kernel_rfl) (by kernel_rfl) (by kernel_rfl) ?_
      refine bindE hS (fun z5 hz5 hS => ?_)
      refine zdOp (d := some 19) (op := (.ixS 44 4 (.tmp 17) (.tmp 18))) (g := (some (16, true))) (v := (.rptr (e_GCell.enc z5 ++ (e_GCell.cells (a2.drop ((a1 : Int).toNat + 1)))))) (ups := []) (j := 16) (t1 := []) (acc' := [[], [], [], [], [], [], [], [], [], [], [], [], [], [], [], []]) (by kernel_rfl) (by kernel_rfl) rfl (by kernel_rfl) (by kernel_rfl) (ev_ixS e_GCell (kk := .i64) (xs := a2) (j := a1) (by kernel_rfl) (by kernel_rfl) hz5 rfl (by intro h; cases h)) ?_
      refine zdRun (n := 5) (j := 21) (ts := [[], [], [], [], []]) (acc' := [[], [], [], [], [], [], [], [], [], [], [], [], [], [], [], [], [], [], [], [], []]) rfl (by kernel_rfl) (by kernel_rfl) (by kernel_rfl) ?_
      refine bindE hS (fun z6 hz6 hS => ?_)
      refine zdOp (d := some 25) (op := (.ixS 44 4 (.tmp 22) (.tmp 24))) (g := (some (16, true))) (v := (.rptr (e_GCell.enc z6 ++ (e_GCell.cells (a2.drop (((IntKind.i64.wrap (a1 - 1)) : Int).toNat + 1)))))) (ups := []) (j := 22) (t1 := []) (acc' := [[], [], [], [], [], [], [], [], [], [], [], [], [], [], [], [], [], [], [], [], [], []]) (by kernel_rfl) (by kernel_rfl) rfl (by kernel_rfl) (by kernel_rfl) (ev_ixS e_GCell (kk := .i64) (xs := a2) (j := (IntKind.i64.wrap (a1 - 1))) (by kernel_rfl) (by kernel_rfl) hz6 rfl (by intro h; cases h)) ?_
      refine zdRun (n := 2) (j := 24) (ts := [[], []]) (acc' := [[], [], [], [], [], [], [], [], [], [], [], [], [], [], [], [], [], [], [], [], [], [], [], []]) rfl (by kernel_rfl) (by kernel_rfl) (by kernel_rfl) ?_
      refine zdBool (d := 28) (op := (.eqA .false [(3, .int)] (.tmp 21) (.tmp 27))) (g := (some (16, true))) (j := 25) (t1 := []) (acc' := [[], [], [], [], [], [], [], [], [], [], [], [], [], [], [], [], [], [], [], [], [], [], [], [], []]) (decide (z5.Pen.Flags = z6.Pen.Flags) && (decide (z5.Pen.Fore = z6.Pen.Fore) && (decide (z5.Pen.Back = z6.Pen.Back) && true))) (by kernel_rfl) (by kernel_rfl) rfl (by kernel_rfl) (by kernel_rfl) (by kernel_rfl) (fun hc => ?_) (fun hc => ?_)
      · replace hS := cond_t hc hS
        refine zdRun (n := 2) (j := 27) (ts := [[], []]) (acc' := [[], [], [], [], [], [], [], [], [], [], [], [], [], [], [], [], [], [], [], [], [], [], [], [], [], [], []]) rfl (by kernel_rfl) (by kernel_rfl) (by kernel_rfl) ?_
        refine zdEnd (by kernel_rfl) (by kernel_rfl) ?_
        refine zkSeq ?_
        refine zrRet ?_
        refine zkNil ?_
        exact endQ hS hQ (fRet (by kernel_rfl) ((congrArg (fun s => outR s 0 c51.res) (by kernel_rfl : finSt c51.fin _ = f51_fin true)).trans (f51_out true)))
      · replace hS := cond_f hc hS
        refine zdRun (n := 2) (j := 27) (ts := [[], []]) (acc' := [[], [], [], [], [], [], [], [], [], [], [], [], [], [], [], [], [], [], [], [], [], [], [], [], [], [], []]) rfl (by kernel_rfl) (by kernel_rfl) (by kernel_rfl) ?_
        refine zdEnd (by kernel_rfl) (by kernel_rfl) ?_
        refine zkSeq ?_
        refine zrRet ?_
        refine zkNil ?_
        exact endQ hS hQ (fRet (by kernel_rfl) ((congrArg (fun s => outR s 0 c51.res) (by kernel_rfl : finSt c51.fin _ = f51_fin false)).trans (f51_out false)))
    · replace hS := cond_f hc hS
      refine zdRun (n := 16) (j := 27) (ts := [[], [], [], [], [], [], [], [], [], [], [], [], [], [], [], []]) (acc' := [[], [], [], [], [], [], [], [], [], [], [], [], [], [], [], [], [], [], [], [], [], [], [], [], [], [], []]) rfl (by kernel_rfl) (by kernel_rfl) (by kernel_rfl) ?_
      refine zdEnd (by kernel_rfl) (by kernel_rfl) ?_
      refine zkSeq ?_
      refine zrRet ?_
      refine zkNil ?_
      exact endQ hS hQ (fRet (by kernel_rfl) ((congrArg (fun s => outR s 0 c51.res) (by kernel_rfl : finSt c51.fin _ = f51_fin false)).trans (f51_out false)))
  · replace hS := cond_f hc hS
    refine zdRun (n := 23) (j := 27) (ts := [[], [], [], [], [], [], [], [], [], [], [], [], [], [], [], [], [], [], [], [], [], [], []]) (acc' := [[], [], [], [], [], [], [], [], [], [], [], [], [], [], [], [], [], [], [], [], [], [], [], [], [], [], []]) rfl (by kernel_rfl) (by kernel_rfl) (by kernel_rfl) ?_
    refine zdEnd (by kernel_rfl) (by kernel_rfl) ?_
    refine zkSeq ?_
    refine zrRet ?_
    refine zkNil ?_
    exact endQ hS hQ (fRet (by kernel_rfl) ((congrArg (fun s => outR s 0 c51.res) (by kernel_rfl : finSt c51.fin _ = f51_fin false)).trans (f51_out false)))
/- farwriter/grid.lone -/
def f32_fin (p4 : Bool) : St := ⟨(up (fun _ => .un) 4 (.d (.bool p4))), (hB fun _ => 0)⟩
theorem f32_out (p4 : Bool) : outR (f32_fin p4) 0 c32.res = some ((.d (.bool p4)), []) := by
  kernel_rfl
def f32_Q (r : Bool) (e : PX) (st : St) : Prop := DoneF c32 0 ((.d (.bool r)), []) e st
def f32_j0_J (a1 : List GCell) (a2 : Int) : St := ⟨(up (up (up (fun _ => .un) 5 (.fn 51 [(.r (.ptr 24 0 0))])) 2 (.r (.ptr 24 0 0))) 1 (.d (.int .i64 a2))), (up (hB fun _ => 0) 24 ⟨0, some (.box ((.d (.sl a1.length (e_GCell.cells a1))) :: []))⟩)⟩
noncomputable def f32_j0 (a1 : List GCell) (a2 : Int) : Option (Bool) := ((idx a1 a2).bind fun z12 => ((f31 z12.Rune).bind fun z13 => (bif (decide (z13 = 2)) then ((f51 (IntKind.i64.wrap (a2 + 1)) a1 []).bind fun z14 => (some (!z14))) else (some false))))
theorem f32_j0_ok {d : Nat} (hd : 3 ≤ d) (a1 : List GCell) (a2 : Int) {r : Bool} {Q : PX → St → Prop} (hQ : ∀ e st', f32_Q r e st' → Q e st')  (hS : f32_j0 a1 a2 = some r) {st : St} (he : keepSt [1, 2, 5] [(24, .id 24)] [] st = f32_j0_J a1 a2) : ZR (lev codes baseL (d - 1)) Q c32_1 [] st := by
  refine zrKeep he ?_
  unfold f32_j0 at hS
  refine zrSeq ?_
  refine zrReg ?_
  refine zlRun (n := 2) (j := 2) rfl (by kernel_rfl) ?_
  refine bindE hS (fun z12 hz12 hS => ?_)
  refine zlOp (d := some 33) (op := (.ixS 44 4 (.tmp 31) (.tmp 32))) (g := none) (v := (.rptr (e_GCell.enc z12 ++ (e_GCell.cells (a1.drop ((a2 : Int).toNat + 1)))))) (ups := []) (j := 3) rfl (by kernel_rfl) (by kernel_rfl) (ev_ixS e_GCell (kk := .i64) (xs := a1) (j := a2) (by kernel_rfl) (by kernel_rfl) hz12 rfl (by intro h; cases h)) ?_
  refine zlRun (n := 2) (j := 5) rfl (by kernel_rfl) ?_
  refine bindE hS (fun z13 hz13 hS => ?_)
  refine zlOp (d := some 36) (op := (.call 31 [(.tmp 35)])) (g := none) (j := 6) rfl (by kernel_rfl) (by kernel_rfl) (ev_callA (by kernel_rfl) (f31_ok (d - 1) (dpt hd rfl) z12.Rune z13 hz13) (by kernel_rfl) (by kernel_rfl)) ?_
  refine zlBool (d := 37) (op := (.cmpI .eql (.tmp 36) (.const (.int .i64 2)))) (g := none) (j := 7) (decide (z13 = 2)) rfl (by kernel_rfl) (by kernel_rfl) (by kernel_rfl) (fun hc => ?_) (fun hc => ?_)
  · replace hS := cond_t hc hS
    refine zlRun (n := 4) (j := 11) rfl (by kernel_rfl) ?_
    refine bindE hS (fun z14 hz14 hS => ?_)
    refine zlOp (d := some 42) (op := (.callv (.tmp 39) [(.tmp 41)])) (g := (some (38, true))) (v := (.d (.bool z14))) (ups := []) (j := 12) rfl (by kernel_rfl) (by kernel_rfl) (ev_callv (f := 51) (cs := [(.r (.ptr 24 0 0))]) (by kernel_rfl) (args := [(.d (.int .i64 (IntKind.i64.wrap (a2 + 1)))), (.r (.ptr 24 0 0))]) (l := [(.d (.int .i64 (IntKind.i64.wrap (a2 + 1)))), (.rptr ((eSl e_GCell).enc a1 ++ []))]) (r := (.d (.bool z14))) (by kernel_rfl) (by kernel_rfl) (f51_ok (d - 1) (dpt hd rfl) (IntKind.i64.wrap (a2 + 1)) a1 [] z14 hz14) (by kernel_rfl) (by kernel_rfl) (by kernel_rfl)) ?_
    refine zlRun (n := 3) (j := 15) rfl (by kernel_rfl) ?_
    refine zlEnd (by kernel_rfl) ?_
    refine zkSeq ?_
    refine zrRet ?_
    refine zkNil ?_
    exact endQ hS hQ (fRet (by kernel_rfl) ((congrArg (fun s => outR s 0 c32.res) (by kernel_rfl : finSt c32.fin _ = f32_fin (!z14))).trans (f32_out (!z14))))
  · replace hS := cond_f hc hS
    refine zlRun (n := 8) (j := 15) rfl (by kernel_rfl) ?_
    refine zlEnd (by kernel_rfl) ?_
    refine zkSeq ?_
    refine zrRet ?_
    refine zkNil ?_
    exact endQ hS hQ (fRet (by kernel_rfl) ((congrArg (fun s => outR s 0 c32.res) (by kernel_rfl : finSt c32.fin _ = f32_fin false)).trans (f32_out false)))
noncomputable def f32 (a1 : List GCell) (a2 : Int) : Option (Bool) := ((idx a1 a2).bind fun z16 => (bif (decide (z16.Rune = 0)) then (bif (decide (a2 = 0)) then (some true) else ((idx a1 (IntKind.i64.wrap (a2 - 1))).bind fun z17 => ((f31 z17.Rune).bind fun z18 => (bif (!decide (z18 = 2)) then (some true) else ((f51 a2 a1 []).bind fun z19 => (some (!z19))))))) else (f32_j0 a1 a2 )))
theorem f32_ok (d : Nat) (hd : 3 ≤ d) (a1 : List GCell) (a2 : Int) (r : Bool) (hS : f32 a1 a2 = some r) : lev codes baseL d 32 [(.d (.sl a1.length (e_GCell.cells a1))), (.d (.int .i64 a2))] [] = some ((.d (.bool r)), []) := by
  refine lev_go codes32 rfl rfl (Nat.le_trans (Nat.le_of_ble_eq_true rfl) hd) fun Q hQ => ?_
  unfold f32 at hS
  show ZR _ Q c32_b [] _
  replace hQ : ∀ e st', f32_Q r e st' → Q e st' := hQ
  refine zrSeq ?_
  refine zrReg ?_
  refine zlRun (n := 2) (j := 2) rfl (by kernel_rfl) ?_
  refine zlEnd (by kernel_rfl) ?_
  refine zkSeq ?_
  refine zrSeq ?_
  refine zrReg ?_
  refine zlRun (n := 2) (j := 2) rfl (by kernel_rfl) ?_
  refine zlEnd (by kernel_rfl) ?_
  refine zkSeq ?_
  refine zrSeq ?_
  refine zrSeq ?_
  refine zrReg ?_
  refine zlRun (n := 2) (j := 2) rfl (by kernel_rfl) ?_
  refine bindE hS (fun z16 hz16 hS => ?_)
  refine zlOp (d := some 9) (op := (.ixS 44 4 (.tmp 7) (.tmp 8))) (g := none) (v := (.rptr (e_GCell.enc z16 ++ (e_GCell.cells (a1.drop ((a2 : Int).toNat + 1)))))) (ups := []) (j := 3) rfl (by kernel_rfl) (by kernel_rfl) (ev_ixS e_GCell (kk := .i64) (xs := a1) (j := a2) (by kernel_rfl) (by kernel_rfl) hz16 rfl (by intro h; cases h)) ?_
  refine zlRun (n := 2) (j := 5) rfl (by kernel_rfl) ?_
  refine zlBool (d := 12) (op := (.cmpI .eql (.tmp 11) (.const (.int .i64 0)))) (g := none) (j := 6) (decide (z16.Rune = 0)) rfl (by kernel_rfl) (by kernel_rfl) (by kernel_rfl) (fun hc => ?_) (fun hc => ?_)
  · replace hS := cond_t hc hS
    refine zlEnd (by kernel_rfl) ?_
    refine zkSeq ?_
    refine zrCondT (by kernel_rfl) ?_
    refine zrSeq ?_
    refine zrReg ?_
    refine zlRun (n := 1) (j := 1) rfl (by kernel_rfl) ?_
    refine zlBool (d := 14) (op := (.cmpI .eql (.tmp 13) (.const (.int .i64 0)))) (g := none) (j := 2) (decide (a2 = 0)) rfl (by kernel_rfl) (by kernel_rfl) (by kernel_rfl) (fun hc => ?_) (fun hc => ?_)
    · replace hS := cond_t hc hS
      refine zlRun (n := 17) (j := 19) rfl (by kernel_rfl) ?_
      refine zlEnd (by kernel_rfl) ?_
      refine zkSeq ?_
      refine zrRet ?_
      refine zkSeqR ?_
      refine zkNil ?_
      exact endQ hS hQ (fRet (by kernel_rfl) ((congrArg (fun s => outR s 0 c32.res) (by kernel_rfl : finSt c32.fin _ = f32_fin true)).trans (f32_out true)))
    · replace hS := cond_f hc hS
      refine zlRun (n := 4) (j := 6) rfl (by kernel_rfl) ?_
      refine bindE hS (fun z17 hz17 hS => ?_)
      refine zlOp (d := some 19) (op := (.ixS 44 4 (.tmp 16) (.tmp 18))) (g := (some (15, false))) (v := (.rptr (e_GCell.enc z17 ++ (e_GCell.cells (a1.drop (((IntKind.i64.wrap (a2 - 1)) : Int).toNat + 1)))))) (ups := []) (j := 7) rfl (by kernel_rfl) (by kernel_rfl) (ev_ixS e_GCell (kk := .i64) (xs := a1) (j := (IntKind.i64.wrap (a2 - 1))) (by kernel_rfl) (by kernel_rfl) hz17 rfl (by intro h; cases h)) ?_
      refine zlRun (n := 2) (j := 9) rfl (by kernel_rfl) ?_
      refine bindE hS (fun z18 hz18 hS => ?_)
      refine zlOp (d := some 22) (op := (.call 31 [(.tmp 21)])) (g := (some (15, false))) (j := 10) rfl (by kernel_rfl) (by kernel_rfl) (ev_callA (by kernel_rfl) (f31_ok (d - 1) (dpt hd rfl) z17.Rune z18 hz18) (by kernel_rfl) (by kernel_rfl)) ?_
      refine zlBool (d := 23) (op := (.cmpI .neq (.tmp 22) (.const (.int .i64 2)))) (g := (some (15, false))) (j := 11) (!decide (z18 = 2)) rfl (by kernel_rfl) (by kernel_rfl) (by kernel_rfl) (fun hc => ?_) (fun hc => ?_)
      · replace hS := cond_t hc hS
        refine zlRun (n := 8) (j := 19) rfl (by kernel_rfl) ?_
        refine zlEnd (by kernel_rfl) ?_
        refine zkSeq ?_
        refine zrRet ?_
        refine zkSeqR ?_
        refine zkNil ?_
        exact endQ hS hQ (fRet (by kernel_rfl) ((congrArg (fun s => outR s 0 c32.res) (by kernel_rfl : finSt c32.fin _ = f32_fin true)).trans (f32_out true)))
      · replace hS := cond_f hc hS
        refine zlRun (n := 4) (j := 15) rfl (by kernel_rfl) ?_
        refine bindE hS (fun z19 hz19 hS => ?_)
        refine zlOp (d := some 28) (op := (.callv (.tmp 26) [(.tmp 27)])) (g := (some (25, false))) (v := (.d (.bool z19))) (ups := []) (j := 16) rfl (by kernel_rfl) (by kernel_rfl) (ev_callv (f := 51) (cs := [(.r (.ptr 24 1 0))]) (by kernel_rfl) (args := [(.d (.int .i64 a2)), (.r (.ptr 24 1 0))]) (l := [(.d (.int .i64 a2)), (.rptr ((eSl e_GCell).enc a1 ++ []))]) (r := (.d (.bool z19))) (by kernel_rfl) (by kernel_rfl) (f51_ok (d - 1) (dpt hd rfl) a2 a1 [] z19 hz19) (by kernel_rfl) (by kernel_rfl) (by kernel_rfl)) ?_
        refine zlRun (n := 3) (j := 19) rfl (by kernel_rfl) ?_
        refine zlEnd (by kernel_rfl) ?_
        refine zkSeq ?_
        refine zrRet ?_
        refine zkSeqR ?_
        refine zkNil ?_
        exact endQ hS hQ (fRet (by kernel_rfl) ((congrArg (fun s => outR s 0 c32.res) (by kernel_rfl : finSt c32.fin _ = f32_fin (!z19))).trans (f32_out (!z19))))
  · replace hS := cond_f hc hS
    refine zlEnd (by kernel_rfl) ?_
    refine zkSeq ?_
    refine zrCondF (by kernel_rfl) ?_
    refine zrSkip ?_
    refine zkSeq ?_
    exact f32_j0_ok hd a1 a2 hQ  hS (by kernel_rfl)
/- farwriter/grid.Check -/
def f16_fin (p235 : Int) : St := ⟨(up (fun _ => .un) 2 (.d (.int .i64 p235))), (hB fun _ => 0)⟩
theorem f16_out (p235 : Int) : outR (f16_fin p235) 0 c16.res = some ((.d (.int .i64 p235)), []) := by
  kernel_rfl
def f16_Q (r : Int) (e : PX) (st : St) : Prop := DoneF c16 0 ((.d (.int .i64 r)), []) e st
def f16_l2_J (a1 : GGrid) (x : Int) : St := ⟨(up (up (up (fun _ => .un) 27 (.d (.int .i64 x))) 26 (.d (.int .i64 a1.High))) 1 (.r (.ptr 16 0 0))), (up (hB fun _ => 0) 16 ⟨0, some (.box ((.d (.int .i64 a1.Wide)) :: ((.d (.int .i64 a1.High)) :: ((.d (.sl a1.Cells.length (e_GCell.cells a1.Cells))) :: []))))⟩)⟩
def f16_l2_H (a1 : GGrid) (x : Int) (st : St) : Prop := keepSt [1, 26, 27] [(16, .id 16)] [] st = f16_l2_J a1 x
def f16_l2_e0_J (a1 : GGrid) : St := ⟨(fun _ => .un), (hB fun _ => 0)⟩
def f16_l2_X (a1 : GGrid) (z : Unit ⊕ Int) (e : PX) (st : St) : Prop := (match z with | .inl z => e = .exit 0 ∧ st = f16_l2_e0_J a1 | .inr z => e = .ret ∧ finSt c16.fin st = f16_fin z)
def f16_l2_l5_J (a1 : GGrid) (x : (List GCell) × Int × (List GCell) × Int × Int) : St := ⟨(up (up (up (up (up (up (up (fun _ => .un) 35 (.d (.int .i64 x.2.2.2.2))) 34 (.d (.int .i64 x.2.2.2.1))) 33 (.d (.sl x.2.2.1.length (e_GCell.cells x.2.2.1)))) 27 (.d (.int .i64 x.2.1))) 26 (.d (.int .i64 a1.High))) 5 (.d (.sl x.1.length (e_GCell.cells x.1)))) 1 (.r (.ptr 16 0 0))), (up (hB fun _ => 0) 16 ⟨0, some (.box ((.d (.int .i64 a1.Wide)) :: ((.d (.int .i64 a1.High)) :: ((.d (.sl a1.Cells.length (e_GCell.cells a1.Cells))) :: []))))⟩)⟩
def f16_l2_l5_H (a1 : GGrid) (x : (List GCell) × Int × (List GCell) × Int × Int) (st : St) : Prop := keepSt [1, 5, 26, 27, 33, 34, 35] [(16, .id 16)] [] st = f16_l2_l5_J a1 x
def f16_l2_l5_e2_J (a1 : GGrid) (p323 : Int) : St := ⟨(up (up (up (fun _ => .un) 27 (.d (.int .i64 p323))) 26 (.d (.int .i64 a1.High))) 1 (.r (.ptr 16 0 0))), (up (hB fun _ => 0) 16 ⟨0, some (.box ((.d (.int .i64 a1.Wide)) :: ((.d (.int .i64 a1.High)) :: ((.d (.sl a1.Cells.length (e_GCell.cells a1.Cells))) :: []))))⟩)⟩
def f16_l2_l5_X (a1 : GGrid) (z : Int ⊕ Int) (e : PX) (st : St) : Prop := (match z with | .inl z => e = .exit 2 ∧ st = f16_l2_l5_e2_J a1 z | .inr z => e = .ret ∧ finSt c16.fin st = f16_fin z)
def f16_l2_l5_j7_J (a1 : GGrid) (p336 : List GCell) (p337 : Int) (p338 : List GCell) (p339 : Int) (p340 : Int) : St := ⟨(up (up (up (up (up (up (up (fun _ => .un) 35 (.d (.int .i64 p340))) 34 (.d (.int .i64 p339))) 33 (.d (.sl p338.length (e_GCell.cells p338)))) 27 (.d (.int .i64 p337))) 26 (.d (.int .i64 a1.High))) 5 (.d (.sl p336.length (e_GCell.cells p336)))) 1 (.r (.ptr 16 0 0))), (up (hB fun _ => 0) 16 ⟨0, some (.box ((.d (.int .i64 a1.Wide)) :: ((.d (.int .i64 a1.High)) :: ((.d (.sl a1.Cells.length (e_GCell.cells a1.Cells))) :: []))))⟩)⟩
noncomputable def f16_l2_l5_j7 (a1 : GGrid) (p336 : List GCell) (p337 : Int) (p338 : List GCell) (p339 : Int) (p340 : Int) : Option (((List GCell) × Int × (List GCell) × Int × Int) ⊕ (Int ⊕ Int)) := ((idx p338 p340).bind fun z67 => ((f18 z67.Pen).bind fun z68 => (bif (!decide (z68 = 0)) then (some (.inr (.inr 4))) else (bif (!decide (z67.Rune = 0)) then ((f31 z67.Rune).bind fun z69 => (bif (decide (z69 = 0)) then (some (.inr (.inr 4))) else ((f32 p336 p340).bind fun z70 => (bif z70 then (some (.inr (.inr 4))) else (some (.inl (p336, p337, p338, p339, (IntKind.i64.wrap (p340 + 1))))))))) else ((f32 p336 p340).bind fun z71 => (bif z71 then (some (.inr (.inr 4))) else (some (.inl (p336, p337, p338, p339, (IntKind.i64.wrap (p340 + 1)))))))))))
theorem f16_l2_l5_j7_ok {d : Nat} (hd : 4 ≤ d) (a1 : GGrid) {r : ((List GCell) × Int × (List GCell) × Int × Int) ⊕ (Int ⊕ Int)} {Q : PX → St → Prop} (hQ : ∀ e st', finL (f16_l2_l5_H a1) (f16_l2_l5_X a1) r e st' → Q e st') (p336 : List GCell) (p337 : Int) (p338 : List GCell) (p339 : Int) (p340 : Int) (hS : f16_l2_l5_j7 a1 p336 p337 p338 p339 p340 = some r) {st : St} (he : keepSt [1, 5, 26, 27, 33, 34, 35] [(16, .id 16)] [] st = f16_l2_l5_j7_J a1 p336 p337 p338 p339 p340) : ZR (lev codes baseL (d - 1)) Q c16_1 [] st := by
  refine zrKeep he ?_
  unfold f16_l2_l5_j7 at hS
  refine zrSeq ?_
  refine zrBlk ?_
  refine zrSeq ?_
  refine zrReg ?_
  refine zlRun (n := 1) (j := 1) rfl (by kernel_rfl) ?_
  refine bindE hS (fun z67 hz67 hS => ?_)
  refine zlOp (d := some 38) (op := (.ixS 44 4 (.tmp 33) (.tmp 35))) (g := none) (v := (.rptr (e_GCell.enc z67 ++ (e_GCell.cells (p338.drop ((p340 : Int).toNat + 1)))))) (ups := []) (j := 2) rfl (by kernel_rfl) (by kernel_rfl) (ev_ixS e_GCell (kk := .i64) (xs := p338) (j := p340) (by kernel_rfl) (by kernel_rfl) hz67 rfl (by intro h; cases h)) ?_
  refine zlRun (n := 4) (j := 6) rfl (by kernel_rfl) ?_
  refine zlEnd (by kernel_rfl) ?_
  refine zkSeq ?_
  refine zrSeq ?_
  refine zrReg ?_
  refine zlRun (n := 2) (j := 2) rfl (by kernel_rfl) ?_
  refine bindE hS (fun z68 hz68 hS => ?_)
  refine zlOp (d := some 42) (op := (.call 18 [(.tmp 41)])) (g := none) (j := 3) rfl (by kernel_rfl) (by kernel_rfl) (ev_callA (by kernel_rfl) (f18_ok (d - 1) (dpt hd rfl) z67.Pen z68 hz68) (by kernel_rfl) (by kernel_rfl)) ?_
  refine zlBool (d := 43) (op := (.cmpI .neq (.tmp 42) (.const (.int .i64 0)))) (g := none) (j := 4) (!decide (z68 = 0)) rfl (by kernel_rfl) (by kernel_rfl) (by kernel_rfl) (fun hc => ?_) (fun hc => ?_)
  · replace hS := cond_t hc hS
    refine zlRun (n := 16) (j := 20) rfl (by kernel_rfl) ?_
    refine zlEnd (by kernel_rfl) ?_
    refine zkSeq ?_
    refine zrCondT (by kernel_rfl) ?_
    refine zrSeq ?_
    refine zrReg ?_
    refine zlRun (n := 1) (j := 1) rfl (by kernel_rfl) ?_
    refine zlEnd (by kernel_rfl) ?_
    refine zkSeq ?_
    refine zrRet ?_
    refine zkBlkR ?_
    refine zkSeqR ?_
    refine zkNil ?_
    exact endQ hS hQ (finL_x (by intro h; cases h) (by show _ = _ ∧ _ = _; exact ⟨rfl, by kernel_rfl⟩))
  · replace hS := cond_f hc hS
    refine zlRun (n := 3) (j := 7) rfl (by kernel_rfl) ?_
    refine zlBool (d := 47) (op := (.cmpI .neq (.tmp 46) (.const (.int .i64 0)))) (g := (some (44, false))) (j := 8) (!decide (z67.Rune = 0)) rfl (by kernel_rfl) (by kernel_rfl) (by kernel_rfl) (fun hc => ?_) (fun hc => ?_)
    · replace hS := cond_t hc hS
      refine zlRun (n := 3) (j := 11) rfl (by kernel_rfl) ?_
      refine bindE hS (fun z69 hz69 hS => ?_)
      refine zlOp (d := some 51) (op := (.call 31 [(.tmp 50)])) (g := (some (48, true))) (j := 12) rfl (by kernel_rfl) (by kernel_rfl) (ev_callA (by kernel_rfl) (f31_ok (d - 1) (dpt hd rfl) z67.Rune z69 hz69) (by kernel_rfl) (by kernel_rfl)) ?_
      refine zlBool (d := 52) (op := (.cmpI .eql (.tmp 51) (.const (.int .i64 0)))) (g := (some (48, true))) (j := 13) (decide (z69 = 0)) rfl (by kernel_rfl) (by kernel_rfl) (by kernel_rfl) (fun hc => ?_) (fun hc => ?_)
      · replace hS := cond_t hc hS
        refine zlRun (n := 7) (j := 20) rfl (by kernel_rfl) ?_
        refine zlEnd (by kernel_rfl) ?_
        refine zkSeq ?_
        refine zrCondT (by kernel_rfl) ?_
        refine zrSeq ?_
        refine zrReg ?_
        refine zlRun (n := 1) (j := 1) rfl (by kernel_rfl) ?_
        refine zlEnd (by kernel_rfl) ?_
        refine zkSeq ?_
        refine zrRet ?_
        refine zkBlkR ?_
        refine zkSeqR ?_
        refine zkNil ?_
        exact endQ hS hQ (finL_x (by intro h; cases h) (by show _ = _ ∧ _ = _; exact ⟨rfl, by kernel_rfl⟩))
      · replace hS := cond_f hc hS
        refine zlRun (n := 5) (j := 18) rfl (by kernel_rfl) ?_
        refine bindE hS (fun z70 hz70 hS => ?_)
        refine zlOp (d := some 58) (op := (.call 32 [(.tmp 56), (.tmp 57)])) (g := (some (55, false))) (j := 19) rfl (by kernel_rfl) (by kernel_rfl) (ev_callA (by kernel_rfl) (f32_ok (d - 1) (dpt hd rfl) p336 p340 z70 hz70) (by kernel_rfl) (by kernel_rfl)) ?_
        refine zlRun (n := 1) (j := 20) rfl (by kernel_rfl) ?_
        refine zlEnd (by kernel_rfl) ?_
        refine zkSeq ?_
        refine zrSplit 59 z70 (by kernel_rfl) (fun hc => ?_) (fun hc => ?_)
        · replace hS := cond_t hc hS
          refine zrCondT (by kernel_rfl) ?_
          refine zrSeq ?_
          refine zrReg ?_
          refine zlRun (n := 1) (j := 1) rfl (by kernel_rfl) ?_
          refine zlEnd (by kernel_rfl) ?_
          refine zkSeq ?_
          refine zrRet ?_
          refine zkBlkR ?_
          refine zkSeqR ?_
          refine zkNil ?_
          exact endQ hS hQ (finL_x (by intro h; cases h) (by show _ = _ ∧ _ = _; exact ⟨rfl, by kernel_rfl⟩))
        · replace hS := cond_f hc hS
          refine zrCondF (by kernel_rfl) ?_
          refine zrSkip ?_
          refine zkBlk ?_
          refine zkSeq ?_
          refine zrReg ?_
          refine zlRun (n := 2) (j := 2) rfl (by kernel_rfl) ?_
          refine zlEnd (by kernel_rfl) ?_
          refine zkNil ?_
          exact endQ hS hQ (finL_n (by show keepSt _ _ _ _ = _; kernel_rfl))
    · replace hS := cond_f hc hS
      refine zlRun (n := 10) (j := 18) rfl (by kernel_rfl) ?_
      refine bindE hS (fun z71 hz71 hS => ?_)
      refine zlOp (d := some 58) (op := (.call 32 [(.tmp 56), (.tmp 57)])) (g := (some (55, false))) (j := 19) rfl (by kernel_rfl) (by kernel_rfl) (ev_callA (by kernel_rfl) (f32_ok (d - 1) (dpt hd rfl) p336 p340 z71 hz71) (by kernel_rfl) (by kernel_rfl)) ?_
      refine zlRun (n := 1) (j := 20) rfl (by kernel_rfl) ?_
      refine zlEnd (by kernel_rfl) ?_
      refine zkSeq ?_
      refine zrSplit 59 z71 (by kernel_rfl) (fun hc => ?_) (fun hc => ?_)
      · replace hS := cond_t hc hS
        refine zrCondT (by kernel_rfl) ?_
        refine zrSeq ?_
        refine zrReg ?_
        refine zlRun (n := 1) (j := 1) rfl (by kernel_rfl) ?_
        refine zlEnd (by kernel_rfl) ?_
        refine zkSeq ?_
        refine zrRet ?_
        refine zkBlkR ?_
        refine zkSeqR ?_
        refine zkNil ?_
        exact endQ hS hQ (finL_x (by intro h; cases h) (by show _ = _ ∧ _ = _; exact ⟨rfl, by kernel_rfl⟩))
      · replace hS := cond_f hc hS
        refine zrCondF (by kernel_rfl) ?_
        refine zrSkip ?_
        refine zkBlk ?_
        refine zkSeq ?_
        refine zrReg ?_
        refine zlRun (n := 2) (j := 2) rfl (by kernel_rfl) ?_
        refine zlEnd (by kernel_rfl) ?_
        refine zkNil ?_
        exact endQ hS hQ (finL_n (by show keepSt _ _ _ _ = _; kernel_rfl))
def f16_l2_l5_j6_J (a1 : GGrid) (p330 : List GCell) (p331 : Int) (p332 : List GCell) (p333 : Int) (p334 : Int) (p335 : Bool) : St := ⟨(up (up (up (up (up (up (up (up (fun _ => .un) 36 (.d (.bool p335))) 35 (.d (.int .i64 p334))) 34 (.d (.int .i64 p333))) 33 (.d (.sl p332.length (e_GCell.cells p332)))) 27 (.d (.int .i64 p331))) 26 (.d (.int .i64 a1.High))) 5 (.d (.sl p330.length (e_GCell.cells p330)))) 1 (.r (.ptr 16 0 0))), (up (hB fun _ => 0) 16 ⟨0, some (.box ((.d (.int .i64 a1.Wide)) :: ((.d (.int .i64 a1.High)) :: ((.d (.sl a1.Cells.length (e_GCell.cells a1.Cells))) :: []))))⟩)⟩
noncomputable def f16_l2_l5_j6 (a1 : GGrid) (p330 : List GCell) (p331 : Int) (p332 : List GCell) (p333 : Int) (p334 : Int) (p335 : Bool) : Option (((List GCell) × Int × (List GCell) × Int × Int) ⊕ (Int ⊕ Int)) := (bif p335 then (f16_l2_l5_j7 a1 p330 p331 p332 p333 p334) else (some (.inr (.inl p331))))
theorem f16_l2_l5_j6_ok {d : Nat} (hd : 4 ≤ d) (a1 : GGrid) {r : ((List GCell) × Int × (List GCell) × Int × Int) ⊕ (Int ⊕ Int)} {Q : PX → St → Prop} (hQ : ∀ e st', finL (f16_l2_l5_H a1) (f16_l2_l5_X a1) r e st' → Q e st') (p330 : List GCell) (p331 : Int) (p332 : List GCell) (p333 : Int) (p334 : Int) (p335 : Bool) (hS : f16_l2_l5_j6 a1 p330 p331 p332 p333 p334 p335 = some r) {st : St} (he : keepSt [1, 5, 26, 27, 33, 34, 35, 36] [(16, .id 16)] [] st = f16_l2_l5_j6_J a1 p330 p331 p332 p333 p334 p335) : ZR (lev codes baseL (d - 1)) Q c16_2 [] st := by
  refine zrKeep he ?_
  unfold f16_l2_l5_j6 at hS
  refine zrSeq ?_
  refine zrSplit 36 p335 (by kernel_rfl) (fun hc => ?_) (fun hc => ?_)
  · replace hS := cond_t hc hS
    refine zrCondT (by kernel_rfl) ?_
    refine zrSkip ?_
    refine zkSeq ?_
    exact f16_l2_l5_j7_ok hd a1 hQ p330 p331 p332 p333 p334 hS (by kernel_rfl)
  · replace hS := cond_f hc hS
    refine zrCondF (by kernel_rfl) ?_
    refine zrKeep (J := f16_l2_l5_e2_J a1 p331) (by kernel_rfl) ?_
    refine zrExit ?_
    refine zkSeqX ?_
    refine zkNil ?_
    exact endQ hS hQ (finL_x (by intro h; cases h) (by show _ = _ ∧ _ = _; exact ⟨rfl, rfl⟩))
noncomputable def f16_l2_l5 (a1 : GGrid) (x : (List GCell) × Int × (List GCell) × Int × Int) : Option (((List GCell) × Int × (List GCell) × Int × Int) ⊕ (Int ⊕ Int)) := (bif (decide (x.2.2.2.2 < x.2.2.2.1)) then (f16_l2_l5_j6 a1 x.1 x.2.1 x.2.2.1 x.2.2.2.1 x.2.2.2.2 true) else (f16_l2_l5_j6 a1 x.1 x.2.1 x.2.2.1 x.2.2.2.1 x.2.2.2.2 false))
theorem f16_l2_l5_ok {d : Nat} (hd : 4 ≤ d) (a1 : GGrid) {r : ((List GCell) × Int × (List GCell) × Int × Int) ⊕ (Int ⊕ Int)} {Q : PX → St → Prop} (hQ : ∀ e st', finL (f16_l2_l5_H a1) (f16_l2_l5_X a1) r e st' → Q e st') {x : (List GCell) × Int × (List GCell) × Int × Int} (hS : f16_l2_l5 a1 x = some r) {st : St} (he : f16_l2_l5_H a1 x st) : ZR (lev codes baseL (d - 1)) Q c16_3 [] st := by
  refine zrKeep he ?_
  unfold f16_l2_l5 at hS
  refine zrSeq ?_
  refine zrReg ?_
  refine zlBool (d := 36) (op := (.cmpI .lss (.tmp 35) (.tmp 34))) (g := none) (j := 1) (decide (x.2.2.2.2 < x.2.2.2.1)) rfl (by kernel_rfl) (by kernel_rfl) (by kernel_rfl) (fun hc => ?_) (fun hc => ?_)
  · replace hS := cond_t hc hS
    refine zlEnd (by kernel_rfl) ?_
    refine zkSeq ?_
    exact f16_l2_l5_j6_ok hd a1 hQ x.1 x.2.1 x.2.2.1 x.2.2.2.1 x.2.2.2.2 true hS (by kernel_rfl)
  · replace hS := cond_f hc hS
    refine zlEnd (by kernel_rfl) ?_
    refine zkSeq ?_
    exact f16_l2_l5_j6_ok hd a1 hQ x.1 x.2.1 x.2.2.1 x.2.2.2.1 x.2.2.2.2 false hS (by kernel_rfl)
def f16_l2_j4_J (a1 : GGrid) (p243 : Int) : St := ⟨(up (up (up (fun _ => .un) 27 (.d (.int .i64 p243))) 26 (.d (.int .i64 a1.High))) 1 (.r (.ptr 16 0 0))), (up (hB fun _ => 0) 16 ⟨0, some (.box ((.d (.int .i64 a1.Wide)) :: ((.d (.int .i64 a1.High)) :: ((.d (.sl a1.Cells.length (e_GCell.cells a1.Cells))) :: []))))⟩)⟩
noncomputable def f16_l2_j4 (a1 : GGrid) (p243 : Int) : Option (Int ⊕ (Unit ⊕ Int)) := ((f22 a1 p243).bind fun z51 => ((loopO (f16_l2_l5 a1) (z51, p243, z51, (z51.length : Int), 0)).bind fun z72 => (Sum.elim (fun z73 => (some (.inl (IntKind.i64.wrap (z73 + 1))))) (fun z74 => (some (.inr (.inr z74)))) z72)))
theorem f16_l2_j4_ok {d : Nat} (hd : 4 ≤ d) (a1 : GGrid) {r : Int ⊕ (Unit ⊕ Int)} {Q : PX → St → Prop} (hQ : ∀ e st', finL (f16_l2_H a1) (f16_l2_X a1) r e st' → Q e st') (p243 : Int) (hS : f16_l2_j4 a1 p243 = some r) {st : St} (he : keepSt [1, 26, 27] [(16, .id 16)] [] st = f16_l2_j4_J a1 p243) : ZR (lev codes baseL (d - 1)) Q c16_4 [] st := by
  refine zrKeep he ?_
  unfold f16_l2_j4 at hS
  refine zrSeq ?_
  refine zrBlk ?_
  refine zrSeq ?_
  refine zrReg ?_
  refine zlRun (n := 2) (j := 2) rfl (by kernel_rfl) ?_
  refine zlEnd (by kernel_rfl) ?_
  refine zkSeq ?_
  refine zrSeq ?_
  refine zrReg ?_
  refine zlRun (n := 2) (j := 2) rfl (by kernel_rfl) ?_
  refine bindE hS (fun z51 hz51 hS => ?_)
  refine zlOp (d := some 32) (op := (.callr 22 [(.tmp 30), (.tmp 31)])) (g := none) (j := 3) rfl (by kernel_rfl) (by kernel_rfl) (ev_callrXA (ids := []) (bs := []) (by kernel_rfl) (by kernel_rfl) (by kernel_rfl) (by kernel_rfl) (f22_ok (d - 1) (dpt hd rfl) a1 p243 z51 hz51) (by kernel_rfl) sm_nil (by kernel_rfl)) ?_
  refine zlRun (n := 1) (j := 4) rfl (by kernel_rfl) ?_
  refine zlEnd (by kernel_rfl) ?_
  refine zkSeq ?_
  refine zrSeq ?_
  refine zrReg ?_
  refine zlRun (n := 3) (j := 3) rfl (by kernel_rfl) ?_
  refine zlEnd (by kernel_rfl) ?_
  refine zkSeq ?_
  refine zrBlk ?_
  refine bindE hS (fun z72 hz72 hS => ?_)
  refine zrLoop (f16_l2_l5_H a1) (f16_l2_l5_X a1) (fun x st r Q h0 hS hQ => f16_l2_l5_ok hd a1 hQ hS h0) (x := (z51, p243, z51, (z51.length : Int), 0)) (z := z72) (by show keepSt _ _ _ _ = _; kernel_rfl) hz72 ?_
  rcases z72 with z73 | z74
  · replace hS := (show _ = _ from hS)
    simp only [Sum.elim_inl] at hS
    intro e st' _ hX
    obtain ⟨rfl, rfl⟩ : _ ∧ _ := hX
    refine zkBlkX ?_
    refine zkBlk ?_
    refine zkSeq ?_
    refine zrReg ?_
    refine zlRun (n := 2) (j := 2) rfl (by kernel_rfl) ?_
    refine zlEnd (by kernel_rfl) ?_
    refine zkNil ?_
    exact endQ hS hQ (finL_n (by show keepSt _ _ _ _ = _; kernel_rfl))
  · simp only [Sum.elim_inr] at hS
    intro e st' _ hX
    obtain ⟨rfl, hX⟩ : _ ∧ _ := hX
    refine zkBlkR ?_
    refine zkBlkR ?_
    refine zkSeqR ?_
    refine zkNil ?_
    exact endQ hS hQ (finL_x (by intro h; cases h) (by show _ = _ ∧ _ = _; exact ⟨rfl, hX⟩))
def f16_l2_j3_J (a1 : GGrid) (p241 : Int) (p242 : Bool) : St := ⟨(up (up (up (up (fun _ => .un) 28 (.d (.bool p242))) 27 (.d (.int .i64 p241))) 26 (.d (.int .i64 a1.High))) 1 (.r (.ptr 16 0 0))), (up (hB fun _ => 0) 16 ⟨0, some (.box ((.d (.int .i64 a1.Wide)) :: ((.d (.int .i64 a1.High)) :: ((.d (.sl a1.Cells.length (e_GCell.cells a1.Cells))) :: []))))⟩)⟩
noncomputable def f16_l2_j3 (a1 : GGrid) (p241 : Int) (p242 : Bool) : Option (Int ⊕ (Unit ⊕ Int)) := (bif p242 then (f16_l2_j4 a1 p241) else (some (.inr (.inl ()))))
theorem f16_l2_j3_ok {d : Nat} (hd : 4 ≤ d) (a1 : GGrid) {r : Int ⊕ (Unit ⊕ Int)} {Q : PX → St → Prop} (hQ : ∀ e st', finL (f16_l2_H a1) (f16_l2_X a1) r e st' → Q e st') (p241 : Int) (p242 : Bool) (hS : f16_l2_j3 a1 p241 p242 = some r) {st : St} (he : keepSt [1, 26, 27, 28] [(16, .id 16)] [] st = f16_l2_j3_J a1 p241 p242) : ZR (lev codes baseL (d - 1)) Q c16_5 [] st := by
  refine zrKeep he ?_
  unfold f16_l2_j3 at hS
  refine zrSeq ?_
  refine zrSplit 28 p242 (by kernel_rfl) (fun hc => ?_) (fun hc => ?_)
  · replace hS := cond_t hc hS
    refine zrCondT (by kernel_rfl) ?_
    refine zrSkip ?_
    refine zkSeq ?_
    exact f16_l2_j4_ok hd a1 hQ p241 hS (by kernel_rfl)
  · replace hS := cond_f hc hS
    refine zrCondF (by kernel_rfl) ?_
    refine zrKeep (J := f16_l2_e0_J a1) (by kernel_rfl) ?_
    refine zrExit ?_
    refine zkSeqX ?_
    refine zkNil ?_
    exact endQ hS hQ (finL_x (by intro h; cases h) (by show _ = _ ∧ _ = _; exact ⟨rfl, rfl⟩))
noncomputable def f16_l2 (a1 : GGrid) (x : Int) : Option (Int ⊕ (Unit ⊕ Int)) := (bif (decide (x < a1.High)) then (f16_l2_j3 a1 x true) else (f16_l2_j3 a1 x false))
theorem f16_l2_ok {d : Nat} (hd : 4 ≤ d) (a1 : GGrid) {r : Int ⊕ (Unit ⊕ Int)} {Q : PX → St → Prop} (hQ : ∀ e st', finL (f16_l2_H a1) (f16_l2_X a1) r e st' → Q e st') {x : Int} (hS : f16_l2 a1 x = some r) {st : St} (he : f16_l2_H a1 x st) : ZR (lev codes baseL (d - 1)) Q c16_6 [] st := by
  refine zrKeep he ?_
  unfold f16_l2 at hS
  refine zrSeq ?_
  refine zrReg ?_
  refine zlBool (d := 28) (op := (.cmpI .lss (.tmp 27) (.tmp 26))) (g := none) (j := 1) (decide (x < a1.High)) rfl (by kernel_rfl) (by kernel_rfl) (by kernel_rfl) (fun hc => ?_) (fun hc => ?_)
  · replace hS := cond_t hc hS
    refine zlEnd (by kernel_rfl) ?_
    refine zkSeq ?_
    exact f16_l2_j3_ok hd a1 hQ x true hS (by kernel_rfl)
  · replace hS := cond_f hc hS
    refine zlEnd (by kernel_rfl) ?_
    refine zkSeq ?_
    exact f16_l2_j3_ok hd a1 hQ x false hS (by kernel_rfl)
def f16_j1_J (a1 : GGrid) : St := ⟨(up (fun _ => .un) 1 (.r (.ptr 16 0 0))), (up (hB fun _ => 0) 16 ⟨0, some (.box ((.d (.int .i64 a1.Wide)) :: ((.d (.int .i64 a1.High)) :: ((.d (.sl a1.Cells.length (e_GCell.cells a1.Cells))) :: []))))⟩)⟩
noncomputable def f16_j1 (a1 : GGrid) : Option (Int) := ((loopO (f16_l2 a1) 0).bind fun z75 => (Sum.elim (fun z76 => (some 0)) (fun z77 => (some z77)) z75))
theorem f16_j1_ok {d : Nat} (hd : 4 ≤ d) (a1 : GGrid) {r : Int} {Q : PX → St → Prop} (hQ : ∀ e st', f16_Q r e st' → Q e st')  (hS : f16_j1 a1 = some r) {st : St} (he : keepSt [1] [(16, .id 16)] [] st = f16_j1_J a1) : ZR (lev codes baseL (d - 1)) Q c16_7 [] st := by
  refine zrKeep he ?_
  unfold f16_j1 at hS
  refine zrSeq ?_
  refine zrSeq ?_
  refine zrReg ?_
  refine zlRun (n := 3) (j := 3) rfl (by kernel_rfl) ?_
  refine zlEnd (by kernel_rfl) ?_
  refine zkSeq ?_
  refine zrBlk ?_
  refine bindE hS (fun z75 hz75 hS => ?_)
  refine zrLoop (f16_l2_H a1) (f16_l2_X a1) (fun x st r Q h0 hS hQ => f16_l2_ok hd a1 hQ hS h0) (x := 0) (z := z75) (by show keepSt _ _ _ _ = _; kernel_rfl) hz75 ?_
  rcases z75 with z76 | z77
  · replace hS := (show _ = _ from hS)
    simp only [Sum.elim_inl] at hS
    intro e st' _ hX
    obtain ⟨rfl, rfl⟩ : _ ∧ _ := hX
    refine zkBlkX ?_
    refine zkSeq ?_
    refine zrSeq ?_
    refine zrReg ?_
    refine zlRun (n := 1) (j := 1) rfl (by kernel_rfl) ?_
    refine zlEnd (by kernel_rfl) ?_
    refine zkSeq ?_
    refine zrRet ?_
    refine zkNil ?_
    exact endQ hS hQ (fRet (by kernel_rfl) ((congrArg (fun s => outR s 0 c16.res) (by kernel_rfl : finSt c16.fin _ = f16_fin 0)).trans (f16_out 0)))
  · simp only [Sum.elim_inr] at hS
    intro e st' _ hX
    obtain ⟨rfl, hX⟩ : _ ∧ _ := hX
    refine zkBlkR ?_
    refine zkSeqR ?_
    refine zkNil ?_
    exact endQ hS hQ (fRet (by kernel_rfl) ((congrArg (fun s => outR s 0 c16.res) hX).trans (f16_out z77)))
def f16_j0_J (a1 : GGrid) : St := ⟨(up (fun _ => .un) 1 (.r (.ptr 16 0 0))), (up (hB fun _ => 0) 16 ⟨0, some (.box ((.d (.int .i64 a1.Wide)) :: ((.d (.int .i64 a1.High)) :: ((.d (.sl a1.Cells.length (e_GCell.cells a1.Cells))) :: []))))⟩)⟩
noncomputable def f16_j0 (a1 : GGrid) : Option (Int) := (bif (!decide ((a1.Cells.length : Int) = (IntKind.i64.wrap (a1.Wide * a1.High)))) then (some 4) else (f16_j1 a1 ))
theorem f16_j0_ok {d : Nat} (hd : 4 ≤ d) (a1 : GGrid) {r : Int} {Q : PX → St → Prop} (hQ : ∀ e st', f16_Q r e st' → Q e st')  (hS : f16_j0 a1 = some r) {st : St} (he : keepSt [1] [(16, .id 16)] [] st = f16_j0_J a1) : ZR (lev codes baseL (d - 1)) Q c16_8 [] st := by
  refine zrKeep he ?_
  unfold f16_j0 at hS
  refine zrSeq ?_
  refine zrSeq ?_
  refine zrReg ?_
  refine zlRun (n := 8) (j := 8) rfl (by kernel_rfl) ?_
  refine zlBool (d := 24) (op := (.cmpI .neq (.tmp 18) (.tmp 23))) (g := none) (j := 9) (!decide ((a1.Cells.length : Int) = (IntKind.i64.wrap (a1.Wide * a1.High)))) rfl (by kernel_rfl) (by kernel_rfl) (by kernel_rfl) (fun hc => ?_) (fun hc => ?_)
  · replace hS := cond_t hc hS
    refine zlEnd (by kernel_rfl) ?_
    refine zkSeq ?_
    refine zrCondT (by kernel_rfl) ?_
    refine zrSeq ?_
    refine zrReg ?_
    refine zlRun (n := 1) (j := 1) rfl (by kernel_rfl) ?_
    refine zlEnd (by kernel_rfl) ?_
    refine zkSeq ?_
    refine zrRet ?_
    refine zkSeqR ?_
    refine zkNil ?_
    exact endQ hS hQ (fRet (by kernel_rfl) ((congrArg (fun s => outR s 0 c16.res) (by kernel_rfl : finSt c16.fin _ = f16_fin 4)).trans (f16_out 4)))
  · replace hS := cond_f hc hS
    refine zlEnd (by kernel_rfl) ?_
    refine zkSeq ?_
    refine zrCondF (by kernel_rfl) ?_
    refine zrSkip ?_
    refine zkSeq ?_
    exact f16_j1_ok hd a1 hQ  hS (by kernel_rfl)
noncomputable def f16 (a1 : GGrid) : Option (Int) := ((f30 a1.Wide a1.High).bind fun z78 => (bif (!decide (z78 = 0)) then (some z78) else (f16_j0 a1 )))
theorem f16_ok (d : Nat) (hd : 4 ≤ d) (a1 : GGrid) (r : Int) (hS : f16 a1 = some r) : lev codes baseL d 16 [(.agg ((.d (.int .i64 a1.Wide)) :: ((.d (.int .i64 a1.High)) :: ((.d (.sl a1.Cells.length (e_GCell.cells a1.Cells))) :: []))))] [] = some ((.d (.int .i64 r)), []) := by
  refine lev_go codes16 rfl rfl (Nat.le_trans (Nat.le_of_ble_eq_true rfl) hd) fun Q hQ => ?_
  unfold f16 at hS
  show ZR _ Q c16_b [] _
  replace hQ : ∀ e st', f16_Q r e st' → Q e st' := hQ
  refine zrSeq ?_
  refine zrReg ?_
  refine zlRun (n := 2) (j := 2) rfl (by kernel_rfl) ?_
  refine zlEnd (by kernel_rfl) ?_
  refine zkSeq ?_
  refine zrSeq ?_
  refine zrSeq ?_
  refine zrReg ?_
  refine zlRun (n := 4) (j := 4) rfl (by kernel_rfl) ?_
  refine bindE hS (fun z78 hz78 hS => ?_)
  refine zlOp (d := some 12) (op := (.call 30 [(.tmp 9), (.tmp 11)])) (g := none) (j := 5) rfl (by kernel_rfl) (by kernel_rfl) (ev_callA (by kernel_rfl) (f30_ok (d - 1) (dpt hd rfl) a1.Wide a1.High z78 hz78) (by kernel_rfl) (by kernel_rfl)) ?_
  refine zlRun (n := 1) (j := 6) rfl (by kernel_rfl) ?_
  refine zlEnd (by kernel_rfl) ?_
  refine zkSeq ?_
  refine zrSeq ?_
  refine zrReg ?_
  refine zlRun (n := 1) (j := 1) rfl (by kernel_rfl) ?_
  refine zlBool (d := 14) (op := (.cmpI .neq (.tmp 13) (.const (.int .i64 0)))) (g := none) (j := 2) (!decide (z78 = 0)) rfl (by kernel_rfl) (by kernel_rfl) (by kernel_rfl) (fun hc => ?_) (fun hc => ?_)
  · replace hS := cond_t hc hS
    refine zlEnd (by kernel_rfl) ?_
    refine zkSeq ?_
    refine zrCondT (by kernel_rfl) ?_
    refine zrSeq ?_
    refine zrReg ?_
    refine zlRun (n := 2) (j := 2) rfl (by kernel_rfl) ?_
    refine zlEnd (by kernel_rfl) ?_
    refine zkSeq ?_
    refine zrRet ?_
    refine zkSeqR ?_
    refine zkNil ?_
    exact endQ hS hQ (fRet (by kernel_rfl) ((congrArg (fun s => outR s 0 c16.res) (by kernel_rfl : finSt c16.fin _ = f16_fin z78)).trans (f16_out z78)))
  · replace hS := cond_f hc hS
    refine zlEnd (by kernel_rfl) ?_
    refine zkSeq ?_
    refine zrCondF (by kernel_rfl) ?_
    refine zrSkip ?_
    refine zkSeq ?_
    exact f16_j0_ok hd a1 hQ  hS (by kernel_rfl)
/- farwriter/screen.within -/
def f17_fin (p3 : Bool) : St := ⟨(up (fun _ => .un) 6 (.d (.bool p3))), (hB fun _ => 0)⟩
theorem f17_out (p3 : Bool) : outR (f17_fin p3) 0 c17.res = some ((.d (.bool p3)), []) := by
  kernel_rfl
def f17_Q (r : Bool) (e : PX) (st : St) : Prop := DoneF c17 0 ((.d (.bool r)), []) e st
noncomputable def f17 (a1 : Int) (a2 : Int) (a3 : Int) : Option (Bool) := (bif (decide (a2 ≤ a1)) then (bif (decide (a1 ≤ a3)) then (some true) else (some false)) else (some false))
theorem f17_ok (d : Nat) (hd : 1 ≤ d) (a1 : Int) (a2 : Int) (a3 : Int) (r : Bool) (hS : f17 a1 a2 a3 = some r) : lev codes baseL d 17 [(.d (.int .i64 a1)), (.d (.int .i64 a2)), (.d (.int .i64 a3))] [] = some ((.d (.bool r)), []) := by
  refine lev_go codes17 rfl rfl (Nat.le_trans (Nat.le_of_ble_eq_true rfl) hd) fun Q hQ => ?_
  unfold f17 at hS
  show ZR _ Q c17_b [] _
  replace hQ : ∀ e st', f17_Q r e st' → Q e st' := hQ
  refine zrSeq ?_
  refine zrReg ?_
  refine zlRun (n := 1) (j := 1) rfl (by kernel_rfl) ?_
  refine zlEnd (by kernel_rfl) ?_
  refine zkSeq ?_
  refine zrSeq ?_
  refine zrReg ?_
  refine zlRun (n := 2) (j := 2) rfl (by kernel_rfl) ?_
  refine zlBool (d := 9) (op := (.cmpI .geq (.tmp 7) (.tmp 8))) (g := none) (j := 3) (decide (a2 ≤ a1)) rfl (by kernel_rfl) (by kernel_rfl) (by kernel_rfl) (fun hc => ?_) (fun hc => ?_)
  · replace hS := cond_t hc hS
    refine zlRun (n := 3) (j := 6) rfl (by kernel_rfl) ?_
    refine zlBool (d := 13) (op := (.cmpI .leq (.tmp 11) (.tmp 12))) (g := (some (10, true))) (j := 7) (decide (a1 ≤ a3)) rfl (by kernel_rfl) (by kernel_rfl) (by kernel_rfl) (fun hc => ?_) (fun hc => ?_)
    · replace hS := cond_t hc hS
      refine zlRun (n := 2) (j := 9) rfl (by kernel_rfl) ?_
      refine zlEnd (by kernel_rfl) ?_
      refine zkSeq ?_
      refine zrRet ?_
      refine zkNil ?_
      exact endQ hS hQ (fRet (by kernel_rfl) ((congrArg (fun s => outR s 0 c17.res) (by kernel_rfl : finSt c17.fin _ = f17_fin true)).trans (f17_out true)))
    · replace hS := cond_f hc hS
      refine zlRun (n := 2) (j := 9) rfl (by kernel_rfl) ?_
      refine zlEnd (by kernel_rfl) ?_
      refine zkSeq ?_
      refine zrRet ?_
      refine zkNil ?_
      exact endQ hS hQ (fRet (by kernel_rfl) ((congrArg (fun s => outR s 0 c17.res) (by kernel_rfl : finSt c17.fin _ = f17_fin false)).trans (f17_out false)))
  · replace hS := cond_f hc hS
    refine zlRun (n := 6) (j := 9) rfl (by kernel_rfl) ?_
    refine zlEnd (by kernel_rfl) ?_
    refine zkSeq ?_
    refine zrRet ?_
    refine zkNil ?_
    exact endQ hS hQ (fRet (by kernel_rfl) ((congrArg (fun s => outR s 0 c17.res) (by kernel_rfl : finSt c17.fin _ = f17_fin false)).trans (f17_out false)))
/- farwriter/page.Known -/
def f19_fin (p3 : Bool) : St := ⟨(up (fun _ => .un) 2 (.d (.bool p3))), (hB fun _ => 0)⟩
theorem f19_out (p3 : Bool) : outR (f19_fin p3) 0 c19.res = some ((.d (.bool p3)), []) := by
  kernel_rfl
def f19_Q (r : Bool) (e : PX) (st : St) : Prop := DoneF c19 0 ((.d (.bool r)), []) e st
noncomputable def f19 (a1 : Int) : Option (Bool) := (bif (decide (1 ≤ a1)) then (bif (decide (a1 ≤ 4)) then (some true) else (some false)) else (some false))
theorem f19_ok (d : Nat) (hd : 1 ≤ d) (a1 : Int) (r : Bool) (hS : f19 a1 = some r) : lev codes baseL d 19 [(.d (.int .i64 a1))] [] = some ((.d (.bool r)), []) := by
  refine lev_go codes19 rfl rfl (Nat.le_trans (Nat.le_of_ble_eq_true rfl) hd) fun Q hQ => ?_
  unfold f19 at hS
  show ZR _ Q c19_b [] _
  replace hQ : ∀ e st', f19_Q r e st' → Q e st' := hQ
  refine zrSeq ?_
  refine zrReg ?_
  refine zlRun (n := 1) (j := 1) rfl (by kernel_rfl) ?_
  refine zlEnd (by kernel_rfl) ?_
  refine zkSeq ?_
  refine zrSeq ?_
  refine zrReg ?_
  refine zlRun (n := 1) (j := 1) rfl (by kernel_rfl) ?_
  refine zlBool (d := 4) (op := (.cmpI .geq (.tmp 3) (.const (.int .i64 1)))) (g := none) (j := 2) (decide (1 ≤ a1)) rfl (by kernel_rfl) (by kernel_rfl) (by kernel_rfl) (fun hc => ?_) (fun hc => ?_)
  · replace hS := cond_t hc hS
    refine zlRun (n := 2) (j := 4) rfl (by kernel_rfl) ?_
    refine zlBool (d := 7) (op := (.cmpI .leq (.tmp 6) (.const (.int .i64 4)))) (g := (some (5, true))) (j := 5) (decide (a1 ≤ 4)) rfl (by kernel_rfl) (by kernel_rfl) (by kernel_rfl) (fun hc => ?_) (fun hc => ?_)
    · replace hS := cond_t hc hS
      refine zlRun (n := 2) (j := 7) rfl (by kernel_rfl) ?_
      refine zlEnd (by kernel_rfl) ?_
      refine zkSeq ?_
      refine zrRet ?_
      refine zkNil ?_
      exact endQ hS hQ (fRet (by kernel_rfl) ((congrArg (fun s => outR s 0 c19.res) (by kernel_rfl : finSt c19.fin _ = f19_fin true)).trans (f19_out true)))
    · replace hS := cond_f hc hS
      refine zlRun (n := 2) (j := 7) rfl (by kernel_rfl) ?_
      refine zlEnd (by kernel_rfl) ?_
      refine zkSeq ?_
      refine zrRet ?_
      refine zkNil ?_
      exact endQ hS hQ (fRet (by kernel_rfl) ((congrArg (fun s => outR s 0 c19.res) (by kernel_rfl : finSt c19.fin _ = f19_fin false)).trans (f19_out false)))
  · replace hS := cond_f hc hS
    refine zlRun (n := 5) (j := 7) rfl (by kernel_rfl) ?_
    refine zlEnd (by kernel_rfl) ?_
    refine zkSeq ?_
    refine zrRet ?_
    refine zkNil ?_
    exact endQ hS hQ (fRet (by kernel_rfl) ((congrArg (fun s => outR s 0 c19.res) (by kernel_rfl : finSt c19.fin _ = f19_fin false)).trans (f19_out false)))
/- farwriter/screen.past -/
def f20_fin (p14 : Bool) : St := ⟨(up (fun _ => .un) 2 (.d (.bool p14))), (hB fun _ => 0)⟩
theorem f20_out (p14 : Bool) : outR (f20_fin p14) 0 c20.res = some ((.d (.bool p14)), []) := by
  kernel_rfl
def f20_Q (r : Bool) (e : PX) (st : St) : Prop := DoneF c20 0 ((.d (.bool r)), []) e st
def f20_l0_J (a1 : List GLine) (x : Int) : St := ⟨(up (up (up (up (fun _ => .un) 7 (.d (.int .i64 x))) 6 (.d (.int .i64 (a1.length : Int)))) 5 (.d (.sl a1.length (e_GLine.cells a1)))) 0 (.d (.sl a1.length (e_GLine.cells a1)))), (hB fun _ => 0)⟩
def f20_l0_H (a1 : List GLine) (x : Int) (st : St) : Prop := keepSt [0, 5, 6, 7] [] [] st = f20_l0_J a1 x
def f20_l0_e0_J (a1 : List GLine) : St := ⟨(up (fun _ => .un) 0 (.d (.sl a1.length (e_GLine.cells a1)))), (hB fun _ => 0)⟩
def f20_l0_X (a1 : List GLine) (z : Unit ⊕ Bool) (e : PX) (st : St) : Prop := (match z with | .inl z => e = .exit 0 ∧ st = f20_l0_e0_J a1 | .inr z => e = .ret ∧ finSt c20.fin st = f20_fin z)
def f20_l0_j2_J (a1 : List GLine) (p19 : Int) : St := ⟨(up (up (up (up (fun _ => .un) 7 (.d (.int .i64 p19))) 6 (.d (.int .i64 (a1.length : Int)))) 5 (.d (.sl a1.length (e_GLine.cells a1)))) 0 (.d (.sl a1.length (e_GLine.cells a1)))), (hB fun _ => 0)⟩
noncomputable def f20_l0_j2 (a1 : List GLine) (p19 : Int) : Option (Int ⊕ (Unit ⊕ Bool)) := ((idx a1 p19).bind fun z7 => ((f16 (GGrid.mk (z7.Cells.length : Int) 1 z7.Cells)).bind fun z8 => (bif (!decide (z8 = 0)) then (some (.inr (.inr false))) else (some (.inl (IntKind.i64.wrap (p19 + 1)))))))
theorem f20_l0_j2_ok {d : Nat} (hd : 5 ≤ d) (a1 : List GLine) {r : Int ⊕ (Unit ⊕ Bool)} {Q : PX → St → Prop} (hQ : ∀ e st', finL (f20_l0_H a1) (f20_l0_X a1) r e st' → Q e st') (p19 : Int) (hS : f20_l0_j2 a1 p19 = some r) {st : St} (he : keepSt [0, 5, 6, 7] [] [] st = f20_l0_j2_J a1 p19) : ZR (lev codes baseL (d - 1)) Q c20_1 [] st := by
  refine zrKeep he ?_
  unfold f20_l0_j2 at hS
  refine zrSeq ?_
  refine zrBlk ?_
  refine zrSeq ?_
  refine zrReg ?_
  refine bindE hS (fun z7 hz7 hS => ?_)
  refine zlOp (d := some 9) (op := (.ixS 83 1 (.tmp 5) (.tmp 7))) (g := none) (v := (.rptr (e_GLine.enc z7 ++ (e_GLine.cells (a1.drop ((p19 : Int).toNat + 1)))))) (ups := []) (j := 1) rfl (by kernel_rfl) (by kernel_rfl) (ev_ixS e_GLine (kk := .i64) (xs := a1) (j := p19) (by kernel_rfl) (by kernel_rfl) hz7 rfl (by intro h; cases h)) ?_
  refine zlRun (n := 3) (j := 4) rfl (by kernel_rfl) ?_
  refine zlEnd (by kernel_rfl) ?_
  refine zkSeq ?_
  refine zrSeq ?_
  refine zrReg ?_
  refine zlRun (n := 6) (j := 6) rfl (by kernel_rfl) ?_
  refine bindE hS (fun z8 hz8 hS => ?_)
  refine zlOp (d := some 17) (op := (.call 16 [(.tmp 16)])) (g := none) (j := 7) rfl (by kernel_rfl) (by kernel_rfl) (ev_callA (by kernel_rfl) (f16_ok (d - 1) (dpt hd rfl) (GGrid.mk (z7.Cells.length : Int) 1 z7.Cells) z8 hz8) (by kernel_rfl) (by kernel_rfl)) ?_
  refine zlBool (d := 18) (op := (.cmpI .neq (.tmp 17) (.const (.int .i64 0)))) (g := none) (j := 8) (!decide (z8 = 0)) rfl (by kernel_rfl) (by kernel_rfl) (by kernel_rfl) (fun hc => ?_) (fun hc => ?_)
  · replace hS := cond_t hc hS
    refine zlEnd (by kernel_rfl) ?_
    refine zkSeq ?_
    refine zrCondT (by kernel_rfl) ?_
    refine zrSeq ?_
    refine zrReg ?_
    refine zlRun (n := 1) (j := 1) rfl (by kernel_rfl) ?_
    refine zlEnd (by kernel_rfl) ?_
    refine zkSeq ?_
    refine zrRet ?_
    refine zkBlkR ?_
    refine zkSeqR ?_
    refine zkNil ?_
    exact endQ hS hQ (finL_x (by intro h; cases h) (by show _ = _ ∧ _ = _; exact ⟨rfl, by kernel_rfl⟩))
  · replace hS := cond_f hc hS
    refine zlEnd (by kernel_rfl) ?_
    refine zkSeq ?_
    refine zrCondF (by kernel_rfl) ?_
    refine zrSkip ?_
    refine zkBlk ?_
    refine zkSeq ?_
    refine zrReg ?_
    refine zlRun (n := 2) (j := 2) rfl (by kernel_rfl) ?_
    refine zlEnd (by kernel_rfl) ?_
    refine zkNil ?_
    exact endQ hS hQ (finL_n (by show keepSt _ _ _ _ = _; kernel_rfl))
def f20_l0_j1_J (a1 : List GLine) (p17 : Int) (p18 : Bool) : St := ⟨(up (up (up (up (up (fun _ => .un) 8 (.d (.bool p18))) 7 (.d (.int .i64 p17))) 6 (.d (.int .i64 (a1.length : Int)))) 5 (.d (.sl a1.length (e_GLine.cells a1)))) 0 (.d (.sl a1.length (e_GLine.cells a1)))), (hB fun _ => 0)⟩
noncomputable def f20_l0_j1 (a1 : List GLine) (p17 : Int) (p18 : Bool) : Option (Int ⊕ (Unit ⊕ Bool)) := (bif p18 then (f20_l0_j2 a1 p17) else (some (.inr (.inl ()))))
theorem f20_l0_j1_ok {d : Nat} (hd : 5 ≤ d) (a1 : List GLine) {r : Int ⊕ (Unit ⊕ Bool)} {Q : PX → St → Prop} (hQ : ∀ e st', finL (f20_l0_H a1) (f20_l0_X a1) r e st' → Q e st') (p17 : Int) (p18 : Bool) (hS : f20_l0_j1 a1 p17 p18 = some r) {st : St} (he : keepSt [0, 5, 6, 7, 8] [] [] st = f20_l0_j1_J a1 p17 p18) : ZR (lev codes baseL (d - 1)) Q c20_2 [] st := by
  refine zrKeep he ?_
  unfold f20_l0_j1 at hS
  refine zrSeq ?_
  refine zrSplit 8 p18 (by kernel_rfl) (fun hc => ?_) (fun hc => ?_)
  · replace hS := cond_t hc hS
    refine zrCondT (by kernel_rfl) ?_
    refine zrSkip ?_
    refine zkSeq ?_
    exact f20_l0_j2_ok hd a1 hQ p17 hS (by kernel_rfl)
  · replace hS := cond_f hc hS
    refine zrCondF (by kernel_rfl) ?_
    refine zrKeep (J := f20_l0_e0_J a1) (by kernel_rfl) ?_
    refine zrExit ?_
    refine zkSeqX ?_
    refine zkNil ?_
    exact endQ hS hQ (finL_x (by intro h; cases h) (by show _ = _ ∧ _ = _; exact ⟨rfl, rfl⟩))
noncomputable def f20_l0 (a1 : List GLine) (x : Int) : Option (Int ⊕ (Unit ⊕ Bool)) := (bif (decide (x < (a1.length : Int))) then (f20_l0_j1 a1 x true) else (f20_l0_j1 a1 x false))
theorem f20_l0_ok {d : Nat} (hd : 5 ≤ d) (a1 : List GLine) {r : Int ⊕ (Unit ⊕ Bool)} {Q : PX → St → Prop} (hQ : ∀ e st', finL (f20_l0_H a1) (f20_l0_X a1) r e st' → Q e st') {x : Int} (hS : f20_l0 a1 x = some r) {st : St} (he : f20_l0_H a1 x st) : ZR (lev codes baseL (d - 1)) Q c20_3 [] st := by
  refine zrKeep he ?_
  unfold f20_l0 at hS
  refine zrSeq ?_
  refine zrReg ?_
  refine zlBool (d := 8) (op := (.cmpI .lss (.tmp 7) (.tmp 6))) (g := none) (j := 1) (decide (x < (a1.length : Int))) rfl (by kernel_rfl) (by kernel_rfl) (by kernel_rfl) (fun hc => ?_) (fun hc => ?_)
  · replace hS := cond_t hc hS
    refine zlEnd (by kernel_rfl) ?_
    refine zkSeq ?_
    exact f20_l0_j1_ok hd a1 hQ x true hS (by kernel_rfl)
  · replace hS := cond_f hc hS
    refine zlEnd (by kernel_rfl) ?_
    refine zkSeq ?_
    exact f20_l0_j1_ok hd a1 hQ x false hS (by kernel_rfl)
noncomputable def f20 (a1 : List GLine) : Option (Bool) := ((loopO (f20_l0 a1) 0).bind fun z9 => (Sum.elim (fun z10 => (bif (decide ((a1.length : Int) ≤ 40)) then (some true) else (some false))) (fun z11 => (some z11)) z9))
theorem f20_ok (d : Nat) (hd : 5 ≤ d) (a1 : List GLine) (r : Bool) (hS : f20 a1 = some r) : lev codes baseL d 20 [(.d (.sl a1.length (e_GLine.cells a1)))] [] = some ((.d (.bool r)), []) := by
  refine lev_go codes20 rfl rfl (Nat.le_trans (Nat.le_of_ble_eq_true rfl) hd) fun Q hQ => ?_
  unfold f20 at hS
  show ZR _ Q c20_b [] _
  replace hQ : ∀ e st', f20_Q r e st' → Q e st' := hQ
  refine zrSeq ?_
  refine zrReg ?_
  refine zlRun (n := 1) (j := 1) rfl (by kernel_rfl) ?_
  refine zlEnd (by kernel_rfl) ?_
  refine zkSeq ?_
  refine zrSeq ?_
  refine zrSeq ?_
  refine zrReg ?_
  refine zlRun (n := 3) (j := 3) rfl (by kernel_rfl) ?_
  refine zlEnd (by kernel_rfl) ?_
  refine zkSeq ?_
  refine zrBlk ?_
  refine bindE hS (fun z9 hz9 hS => ?_)
  refine zrLoop (f20_l0_H a1) (f20_l0_X a1) (fun x st r Q h0 hS hQ => f20_l0_ok hd a1 hQ hS h0) (x := 0) (z := z9) (by show keepSt _ _ _ _ = _; kernel_rfl) hz9 ?_
  rcases z9 with z10 | z11
  · replace hS := (show _ = _ from hS)
    simp only [Sum.elim_inl] at hS
    intro e st' _ hX
    obtain ⟨rfl, rfl⟩ : _ ∧ _ := hX
    refine zkBlkX ?_
    refine zkSeq ?_
    refine zrSeq ?_
    refine zrReg ?_
    refine zlRun (n := 2) (j := 2) rfl (by kernel_rfl) ?_
    refine zlBool (d := 22) (op := (.cmpI .leq (.tmp 21) (.const (.int .i64 40)))) (g := none) (j := 3) (decide ((a1.length : Int) ≤ 40)) rfl (by kernel_rfl) (by kernel_rfl) (by kernel_rfl) (fun hc => ?_) (fun hc => ?_)
    · replace hS := cond_t hc hS
      refine zlRun (n := 1) (j := 4) rfl (by kernel_rfl) ?_
      refine zlEnd (by kernel_rfl) ?_
      refine zkSeq ?_
      refine zrRet ?_
      refine zkNil ?_
      exact endQ hS hQ (fRet (by kernel_rfl) ((congrArg (fun s => outR s 0 c20.res) (by kernel_rfl : finSt c20.fin _ = f20_fin true)).trans (f20_out true)))
    · replace hS := cond_f hc hS
      refine zlRun (n := 1) (j := 4) rfl (by kernel_rfl) ?_
      refine zlEnd (by kernel_rfl) ?_
      refine zkSeq ?_
      refine zrRet ?_
      refine zkNil ?_
      exact endQ hS hQ (fRet (by kernel_rfl) ((congrArg (fun s => outR s 0 c20.res) (by kernel_rfl : finSt c20.fin _ = f20_fin false)).trans (f20_out false)))
  · simp only [Sum.elim_inr] at hS
    intro e st' _ hX
    obtain ⟨rfl, hX⟩ : _ ∧ _ := hX
    refine zkBlkR ?_
    refine zkSeqR ?_
    refine zkNil ?_
    exact endQ hS hQ (fRet (by kernel_rfl) ((congrArg (fun s => outR s 0 c20.res) hX).trans (f20_out z11)))
/- farwriter/screen.Check -/
def f8_fin (p33 : Int) : St := ⟨(up (fun _ => .un) 2 (.d (.int .i64 p33))), (hB fun _ => 0)⟩
theorem f8_out (p33 : Int) : outR (f8_fin p33) 0 c8.res = some ((.d (.int .i64 p33)), []) := by
  kernel_rfl
def f8_Q (r : Int) (e : PX) (st : St) : Prop := DoneF c8 0 ((.d (.int .i64 r)), []) e st
def f8_j6_J (a1 : GScreen) (p70 : Bool) : St := ⟨(up (up (fun _ => .un) 5 (.d (.bool p70))) 1 (.r (.ptr 16 0 0))), (up (hB fun _ => 0) 16 ⟨0, some (.box (bx_GScreen a1 (.d (.sl a1.Grid.Cells.length (e_GCell.cells a1.Grid.Cells))) (.d (.sl a1.Other.Cells.length (e_GCell.cells a1.Other.Cells))) (.d (.sl a1.Past.length (e_GLine.cells a1.Past)))))⟩)⟩
noncomputable def f8_j6 (a1 : GScreen) (p70 : Bool) : Option (Int) := (bif p70 then (bif (decide ((a1.Title.length : Int) ≤ 256)) then ((f20 a1.Past).bind fun z42 => (bif (!z42) then (some 4) else (some 0))) else (some 4)) else (some 4))
theorem f8_j6_ok {d : Nat} (hd : 6 ≤ d) (a1 : GScreen) {r : Int} {Q : PX → St → Prop} (hQ : ∀ e st', f8_Q r e st' → Q e st') (p70 : Bool) (hS : f8_j6 a1 p70 = some r) {st : St} (he : keepSt [1, 5] [(16, .id 16)] [] st = f8_j6_J a1 p70) : ZR (lev codes baseL (d - 1)) Q c8_1 [] st := by
  refine zrKeep he ?_
  unfold f8_j6 at hS
  refine zrSeq ?_
  refine zrReg ?_
  refine zlRun (n := 2) (j := 2) rfl (by kernel_rfl) ?_
  refine zlSplit 144 p70 (by kernel_rfl) (fun hc => ?_) (fun hc => ?_)
  · replace hS := cond_t hc hS
    refine zlRun (n := 3) (j := 5) rfl (by kernel_rfl) ?_
    refine zlBool (d := 148) (op := (.cmpI .leq (.tmp 147) (.const (.int .i64 256)))) (g := (some (144, true))) (j := 6) (decide ((a1.Title.length : Int) ≤ 256)) rfl (by kernel_rfl) (by kernel_rfl) (by kernel_rfl) (fun hc => ?_) (fun hc => ?_)
    · replace hS := cond_t hc hS
      refine zlRun (n := 4) (j := 10) rfl (by kernel_rfl) ?_
      refine bindE hS (fun z42 hz42 hS => ?_)
      refine zlOp (d := some 153) (op := (.call 20 [(.tmp 152)])) (g := (some (150, true))) (j := 11) rfl (by kernel_rfl) (by kernel_rfl) (ev_callA (by kernel_rfl) (f20_ok (d - 1) (dpt hd rfl) a1.Past z42 hz42) (by kernel_rfl) (by kernel_rfl)) ?_
      refine zlRun (n := 2) (j := 13) rfl (by kernel_rfl) ?_
      refine zlEnd (by kernel_rfl) ?_
      refine zkSeq ?_
      refine zrSeq ?_
      refine zrSeq ?_
      refine zrReg ?_
      refine zlRun (n := 2) (j := 2) rfl (by kernel_rfl) ?_
      refine zlEnd (by kernel_rfl) ?_
      refine zkSeq ?_
      refine zrSplit 156 (!z42) (by kernel_rfl) (fun hc => ?_) (fun hc => ?_)
      · replace hS := cond_t hc hS
        refine zrCondT (by kernel_rfl) ?_
        refine zrSeq ?_
        refine zrReg ?_
        refine zlRun (n := 1) (j := 1) rfl (by kernel_rfl) ?_
        refine zlEnd (by kernel_rfl) ?_
        refine zkSeq ?_
        refine zrRet ?_
        refine zkSeqR ?_
        refine zkNil ?_
        exact endQ hS hQ (fRet (by kernel_rfl) ((congrArg (fun s => outR s 0 c8.res) (by kernel_rfl : finSt c8.fin _ = f8_fin 4)).trans (f8_out 4)))
      · replace hS := cond_f hc hS
        refine zrCondF (by kernel_rfl) ?_
        refine zrSkip ?_
        refine zkSeq ?_
        refine zrSeq ?_
        refine zrReg ?_
        refine zlRun (n := 1) (j := 1) rfl (by kernel_rfl) ?_
        refine zlEnd (by kernel_rfl) ?_
        refine zkSeq ?_
        refine zrRet ?_
        refine zkNil ?_
        exact endQ hS hQ (fRet (by kernel_rfl) ((congrArg (fun s => outR s 0 c8.res) (by kernel_rfl : finSt c8.fin _ = f8_fin 0)).trans (f8_out 0)))
    · replace hS := cond_f hc hS
      refine zlRun (n := 7) (j := 13) rfl (by kernel_rfl) ?_
      refine zlEnd (by kernel_rfl) ?_
      refine zkSeq ?_
      refine zrSeq ?_
      refine zrSeq ?_
      refine zrReg ?_
      refine zlRun (n := 2) (j := 2) rfl (by kernel_rfl) ?_
      refine zlEnd (by kernel_rfl) ?_
      refine zkSeq ?_
      refine zrCondT (by kernel_rfl) ?_
      refine zrSeq ?_
      refine zrReg ?_
      refine zlRun (n := 1) (j := 1) rfl (by kernel_rfl) ?_
      refine zlEnd (by kernel_rfl) ?_
      refine zkSeq ?_
      refine zrRet ?_
      refine zkSeqR ?_
      refine zkNil ?_
      exact endQ hS hQ (fRet (by kernel_rfl) ((congrArg (fun s => outR s 0 c8.res) (by kernel_rfl : finSt c8.fin _ = f8_fin 4)).trans (f8_out 4)))
  · replace hS := cond_f hc hS
    refine zlRun (n := 11) (j := 13) rfl (by kernel_rfl) ?_
    refine zlEnd (by kernel_rfl) ?_
    refine zkSeq ?_
    refine zrSeq ?_
    refine zrSeq ?_
    refine zrReg ?_
    refine zlRun (n := 2) (j := 2) rfl (by kernel_rfl) ?_
    refine zlEnd (by kernel_rfl) ?_
    refine zkSeq ?_
    refine zrCondT (by kernel_rfl) ?_
    refine zrSeq ?_
    refine zrReg ?_
    refine zlRun (n := 1) (j := 1) rfl (by kernel_rfl) ?_
    refine zlEnd (by kernel_rfl) ?_
    refine zkSeq ?_
    refine zrRet ?_
    refine zkSeqR ?_
    refine zkNil ?_
    exact endQ hS hQ (fRet (by kernel_rfl) ((congrArg (fun s => outR s 0 c8.res) (by kernel_rfl : finSt c8.fin _ = f8_fin 4)).trans (f8_out 4)))
def f8_j5_J (a1 : GScreen) (p67 : Bool) : St := ⟨(up (up (fun _ => .un) 5 (.d (.bool p67))) 1 (.r (.ptr 16 0 0))), (up (hB fun _ => 0) 16 ⟨0, some (.box (bx_GScreen a1 (.d (.sl a1.Grid.Cells.length (e_GCell.cells a1.Grid.Cells))) (.d (.sl a1.Other.Cells.length (e_GCell.cells a1.Other.Cells))) (.d (.sl a1.Past.length (e_GLine.cells a1.Past)))))⟩)⟩
noncomputable def f8_j5 (a1 : GScreen) (p67 : Bool) : Option (Int) := (bif p67 then ((f17 a1.Saved.Row 0 59).bind fun z43 => (bif z43 then ((f17 a1.Saved.Col 0 159).bind fun z44 => (f8_j6 a1 z44)) else (f8_j6 a1 false))) else (f8_j6 a1 false))
theorem f8_j5_ok {d : Nat} (hd : 6 ≤ d) (a1 : GScreen) {r : Int} {Q : PX → St → Prop} (hQ : ∀ e st', f8_Q r e st' → Q e st') (p67 : Bool) (hS : f8_j5 a1 p67 = some r) {st : St} (he : keepSt [1, 5] [(16, .id 16)] [] st = f8_j5_J a1 p67) : ZR (lev codes baseL (d - 1)) Q c8_2 [] st := by
  refine zrKeep he ?_
  unfold f8_j5 at hS
  refine zrSeq ?_
  refine zrReg ?_
  refine zlRun (n := 2) (j := 2) rfl (by kernel_rfl) ?_
  refine zlSplit 131 p67 (by kernel_rfl) (fun hc => ?_) (fun hc => ?_)
  · replace hS := cond_t hc hS
    refine zlRun (n := 3) (j := 5) rfl (by kernel_rfl) ?_
    refine bindE hS (fun z43 hz43 hS => ?_)
    refine zlOp (d := some 135) (op := (.call 17 [(.tmp 134), (.const (.int .i64 0)), (.const (.int .i64 59))])) (g := (some (131, true))) (j := 6) rfl (by kernel_rfl) (by kernel_rfl) (ev_callA (by kernel_rfl) (f17_ok (d - 1) (dpt hd rfl) a1.Saved.Row 0 59 z43 hz43) (by kernel_rfl) (by kernel_rfl)) ?_
    refine zlRun (n := 2) (j := 8) rfl (by kernel_rfl) ?_
    refine zlSplit 137 z43 (by kernel_rfl) (fun hc => ?_) (fun hc => ?_)
    · replace hS := cond_t hc hS
      refine zlRun (n := 3) (j := 11) rfl (by kernel_rfl) ?_
      refine bindE hS (fun z44 hz44 hS => ?_)
      refine zlOp (d := some 141) (op := (.call 17 [(.tmp 140), (.const (.int .i64 0)), (.const (.int .i64 159))])) (g := (some (137, true))) (j := 12) rfl (by kernel_rfl) (by kernel_rfl) (ev_callA (by kernel_rfl) (f17_ok (d - 1) (dpt hd rfl) a1.Saved.Col 0 159 z44 hz44) (by kernel_rfl) (by kernel_rfl)) ?_
      refine zlRun (n := 2) (j := 14) rfl (by kernel_rfl) ?_
      refine zlEnd (by kernel_rfl) ?_
      refine zkSeq ?_
      exact f8_j6_ok hd a1 hQ z44 hS (by kernel_rfl)
    · replace hS := cond_f hc hS
      refine zlRun (n := 6) (j := 14) rfl (by kernel_rfl) ?_
      refine zlEnd (by kernel_rfl) ?_
      refine zkSeq ?_
      exact f8_j6_ok hd a1 hQ false hS (by kernel_rfl)
  · replace hS := cond_f hc hS
    refine zlRun (n := 12) (j := 14) rfl (by kernel_rfl) ?_
    refine zlEnd (by kernel_rfl) ?_
    refine zkSeq ?_
    exact f8_j6_ok hd a1 hQ false hS (by kernel_rfl)
def f8_j4_J (a1 : GScreen) (p64 : Bool) : St := ⟨(up (up (fun _ => .un) 5 (.d (.bool p64))) 1 (.r (.ptr 16 0 0))), (up (hB fun _ => 0) 16 ⟨0, some (.box (bx_GScreen a1 (.d (.sl a1.Grid.Cells.length (e_GCell.cells a1.Grid.Cells))) (.d (.sl a1.Other.Cells.length (e_GCell.cells a1.Other.Cells))) (.d (.sl a1.Past.length (e_GLine.cells a1.Past)))))⟩)⟩
noncomputable def f8_j4 (a1 : GScreen) (p64 : Bool) : Option (Int) := (bif p64 then ((f17 a1.Shift 0 1).bind fun z45 => (bif z45 then ((f17 a1.Saved.Shift 0 1).bind fun z46 => (f8_j5 a1 z46)) else (f8_j5 a1 false))) else (f8_j5 a1 false))
theorem f8_j4_ok {d : Nat} (hd : 6 ≤ d) (a1 : GScreen) {r : Int} {Q : PX → St → Prop} (hQ : ∀ e st', f8_Q r e st' → Q e st') (p64 : Bool) (hS : f8_j4 a1 p64 = some r) {st : St} (he : keepSt [1, 5] [(16, .id 16)] [] st = f8_j4_J a1 p64) : ZR (lev codes baseL (d - 1)) Q c8_3 [] st := by
  refine zrKeep he ?_
  unfold f8_j4 at hS
  refine zrSeq ?_
  refine zrReg ?_
  refine zlRun (n := 2) (j := 2) rfl (by kernel_rfl) ?_
  refine zlSplit 119 p64 (by kernel_rfl) (fun hc => ?_) (fun hc => ?_)
  · replace hS := cond_t hc hS
    refine zlRun (n := 2) (j := 4) rfl (by kernel_rfl) ?_
    refine bindE hS (fun z45 hz45 hS => ?_)
    refine zlOp (d := some 122) (op := (.call 17 [(.tmp 121), (.const (.int .i64 0)), (.const (.int .i64 1))])) (g := (some (119, true))) (j := 5) rfl (by kernel_rfl) (by kernel_rfl) (ev_callA (by kernel_rfl) (f17_ok (d - 1) (dpt hd rfl) a1.Shift 0 1 z45 hz45) (by kernel_rfl) (by kernel_rfl)) ?_
    refine zlRun (n := 2) (j := 7) rfl (by kernel_rfl) ?_
    refine zlSplit 124 z45 (by kernel_rfl) (fun hc => ?_) (fun hc => ?_)
    · replace hS := cond_t hc hS
      refine zlRun (n := 3) (j := 10) rfl (by kernel_rfl) ?_
      refine bindE hS (fun z46 hz46 hS => ?_)
      refine zlOp (d := some 128) (op := (.call 17 [(.tmp 127), (.const (.int .i64 0)), (.const (.int .i64 1))])) (g := (some (124, true))) (j := 11) rfl (by kernel_rfl) (by kernel_rfl) (ev_callA (by kernel_rfl) (f17_ok (d - 1) (dpt hd rfl) a1.Saved.Shift 0 1 z46 hz46) (by kernel_rfl) (by kernel_rfl)) ?_
      refine zlRun (n := 2) (j := 13) rfl (by kernel_rfl) ?_
      refine zlEnd (by kernel_rfl) ?_
      refine zkSeq ?_
      exact f8_j5_ok hd a1 hQ z46 hS (by kernel_rfl)
    · replace hS := cond_f hc hS
      refine zlRun (n := 6) (j := 13) rfl (by kernel_rfl) ?_
      refine zlEnd (by kernel_rfl) ?_
      refine zkSeq ?_
      exact f8_j5_ok hd a1 hQ false hS (by kernel_rfl)
  · replace hS := cond_f hc hS
    refine zlRun (n := 11) (j := 13) rfl (by kernel_rfl) ?_
    refine zlEnd (by kernel_rfl) ?_
    refine zkSeq ?_
    exact f8_j5_ok hd a1 hQ false hS (by kernel_rfl)
def f8_j8_J (a1 : GScreen) (p78 : Bool) : St := ⟨(up (up (up (fun _ => .un) 98 (.d (.int .i64 1))) 5 (.d (.bool p78))) 1 (.r (.ptr 16 0 0))), (up (hB fun _ => 0) 16 ⟨0, some (.box (bx_GScreen a1 (.d (.sl a1.Grid.Cells.length (e_GCell.cells a1.Grid.Cells))) (.d (.sl a1.Other.Cells.length (e_GCell.cells a1.Other.Cells))) (.d (.sl a1.Past.length (e_GLine.cells a1.Past)))))⟩)⟩
noncomputable def f8_j8 (a1 : GScreen) (p78 : Bool) : Option (Int) := (bif p78 then ((f19 a1.Pages.2).bind fun z51 => (bif z51 then ((f19 a1.Saved.Pages.2).bind fun z52 => (f8_j4 a1 z52)) else (f8_j4 a1 false))) else (f8_j4 a1 false))
theorem f8_j8_ok {d : Nat} (hd : 6 ≤ d) (a1 : GScreen) {r : Int} {Q : PX → St → Prop} (hQ : ∀ e st', f8_Q r e st' → Q e st') (p78 : Bool) (hS : f8_j8 a1 p78 = some r) {st : St} (he : keepSt [1, 5, 98] [(16, .id 16)] [] st = f8_j8_J a1 p78) : ZR (lev codes baseL (d - 1)) Q c8_4 [.seq c8_5, .blk 0, .seq c8_3] st := by
  refine zrKeep he ?_
  unfold f8_j8 at hS
  refine zrSeq ?_
  refine zrBlk ?_
  refine zrSeq ?_
  refine zrReg ?_
  refine zlRun (n := 2) (j := 2) rfl (by kernel_rfl) ?_
  refine zlEnd (by kernel_rfl) ?_
  refine zkSeq ?_
  refine zrReg ?_
  refine zlRun (n := 2) (j := 2) rfl (by kernel_rfl) ?_
  refine zlSplit 102 p78 (by kernel_rfl) (fun hc => ?_) (fun hc => ?_)
  · replace hS := cond_t hc hS
    refine zlRun (n := 4) (j := 6) rfl (by kernel_rfl) ?_
    refine bindE hS (fun z51 hz51 hS => ?_)
    refine zlOp (d := some 107) (op := (.call 19 [(.tmp 106)])) (g := (some (102, true))) (j := 7) rfl (by kernel_rfl) (by kernel_rfl) (ev_callA (by kernel_rfl) (f19_ok (d - 1) (dpt hd rfl) a1.Pages.2 z51 hz51) (by kernel_rfl) (by kernel_rfl)) ?_
    refine zlRun (n := 2) (j := 9) rfl (by kernel_rfl) ?_
    refine zlSplit 109 z51 (by kernel_rfl) (fun hc => ?_) (fun hc => ?_)
    · replace hS := cond_t hc hS
      refine zlRun (n := 5) (j := 14) rfl (by kernel_rfl) ?_
      refine bindE hS (fun z52 hz52 hS => ?_)
      refine zlOp (d := some 115) (op := (.call 19 [(.tmp 114)])) (g := (some (109, true))) (j := 15) rfl (by kernel_rfl) (by kernel_rfl) (ev_callA (by kernel_rfl) (f19_ok (d - 1) (dpt hd rfl) a1.Saved.Pages.2 z52 hz52) (by kernel_rfl) (by kernel_rfl)) ?_
      refine zlRun (n := 2) (j := 17) rfl (by kernel_rfl) ?_
      refine zlEnd (by kernel_rfl) ?_
      refine zkBlk ?_
      refine zkSeq ?_
      refine zrReg ?_
      refine zlRun (n := 2) (j := 2) rfl (by kernel_rfl) ?_
      refine zlEnd (by kernel_rfl) ?_
      refine zkSeq ?_
      refine zrLoop1 ?_
      refine zrSeq ?_
      refine zrReg ?_
      refine zlRun (n := 1) (j := 1) rfl (by kernel_rfl) ?_
      refine zlEnd (by kernel_rfl) ?_
      refine zkSeq ?_
      refine zrSeq ?_
      refine zrCondF (by kernel_rfl) ?_
      refine zrExit ?_
      refine zkSeqX ?_
      refine zkSeqX ?_
      refine zkBlkX ?_
      refine zkSeq ?_
      exact f8_j4_ok hd a1 hQ z52 hS (by kernel_rfl)
    · replace hS := cond_f hc hS
      refine zlRun (n := 8) (j := 17) rfl (by kernel_rfl) ?_
      refine zlEnd (by kernel_rfl) ?_
      refine zkBlk ?_
      refine zkSeq ?_
      refine zrReg ?_
      refine zlRun (n := 2) (j := 2) rfl (by kernel_rfl) ?_
      refine zlEnd (by kernel_rfl) ?_
      refine zkSeq ?_
      refine zrLoop1 ?_
      refine zrSeq ?_
      refine zrReg ?_
      refine zlRun (n := 1) (j := 1) rfl (by kernel_rfl) ?_
      refine zlEnd (by kernel_rfl) ?_
      refine zkSeq ?_
      refine zrSeq ?_
      refine zrCondF (by kernel_rfl) ?_
      refine zrExit ?_
      refine zkSeqX ?_
      refine zkSeqX ?_
      refine zkBlkX ?_
      refine zkSeq ?_
      exact f8_j4_ok hd a1 hQ false hS (by kernel_rfl)
  · replace hS := cond_f hc hS
    refine zlRun (n := 15) (j := 17) rfl (by kernel_rfl) ?_
    refine zlEnd (by kernel_rfl) ?_
    refine zkBlk ?_
    refine zkSeq ?_
    refine zrReg ?_
    refine zlRun (n := 2) (j := 2) rfl (by kernel_rfl) ?_
    refine zlEnd (by kernel_rfl) ?_
    refine zkSeq ?_
    refine zrLoop1 ?_
    refine zrSeq ?_
    refine zrReg ?_
    refine zlRun (n := 1) (j := 1) rfl (by kernel_rfl) ?_
    refine zlEnd (by kernel_rfl) ?_
    refine zkSeq ?_
    refine zrSeq ?_
    refine zrCondF (by kernel_rfl) ?_
    refine zrExit ?_
    refine zkSeqX ?_
    refine zkSeqX ?_
    refine zkBlkX ?_
    refine zkSeq ?_
    exact f8_j4_ok hd a1 hQ false hS (by kernel_rfl)
def f8_j9_J (a1 : GScreen) : St := ⟨(up (up (up (fun _ => .un) 98 (.d (.int .i64 1))) 5 (.d (.bool false))) 1 (.r (.ptr 16 0 0))), (up (hB fun _ => 0) 16 ⟨0, some (.box (bx_GScreen a1 (.d (.sl a1.Grid.Cells.length (e_GCell.cells a1.Grid.Cells))) (.d (.sl a1.Other.Cells.length (e_GCell.cells a1.Other.Cells))) (.d (.sl a1.Past.length (e_GLine.cells a1.Past)))))⟩)⟩
noncomputable def f8_j9 (a1 : GScreen) : Option (Int) := (f8_j4 a1 false)
theorem f8_j9_ok {d : Nat} (hd : 6 ≤ d) (a1 : GScreen) {r : Int} {Q : PX → St → Prop} (hQ : ∀ e st', f8_Q r e st' → Q e st')  (hS : f8_j9 a1 = some r) {st : St} (he : keepSt [1, 5, 98] [(16, .id 16)] [] st = f8_j9_J a1) : ZR (lev codes baseL (d - 1)) Q c8_4 [.seq c8_5, .blk 0, .seq c8_3] st := by
  refine zrKeep he ?_
  unfold f8_j9 at hS
  refine zrSeq ?_
  refine zrBlk ?_
  refine zrSeq ?_
  refine zrReg ?_
  refine zlRun (n := 2) (j := 2) rfl (by kernel_rfl) ?_
  refine zlEnd (by kernel_rfl) ?_
  refine zkSeq ?_
  refine zrReg ?_
  refine zlRun (n := 17) (j := 17) rfl (by kernel_rfl) ?_
  refine zlEnd (by kernel_rfl) ?_
  refine zkBlk ?_
  refine zkSeq ?_
  refine zrReg ?_
  refine zlRun (n := 2) (j := 2) rfl (by kernel_rfl) ?_
  refine zlEnd (by kernel_rfl) ?_
  refine zkSeq ?_
  refine zrLoop1 ?_
  refine zrSeq ?_
  refine zrReg ?_
  refine zlRun (n := 1) (j := 1) rfl (by kernel_rfl) ?_
  refine zlEnd (by kernel_rfl) ?_
  refine zkSeq ?_
  refine zrSeq ?_
  refine zrCondF (by kernel_rfl) ?_
  refine zrExit ?_
  refine zkSeqX ?_
  refine zkSeqX ?_
  refine zkBlkX ?_
  refine zkSeq ?_
  exact f8_j4_ok hd a1 hQ false hS (by kernel_rfl)
def f8_j10_J (a1 : GScreen) : St := ⟨(up (up (up (fun _ => .un) 98 (.d (.int .i64 1))) 5 (.d (.bool false))) 1 (.r (.ptr 16 0 0))), (up (hB fun _ => 0) 16 ⟨0, some (.box (bx_GScreen a1 (.d (.sl a1.Grid.Cells.length (e_GCell.cells a1.Grid.Cells))) (.d (.sl a1.Other.Cells.length (e_GCell.cells a1.Other.Cells))) (.d (.sl a1.Past.length (e_GLine.cells a1.Past)))))⟩)⟩
noncomputable def f8_j10 (a1 : GScreen) : Option (Int) := (f8_j4 a1 false)
theorem f8_j10_ok {d : Nat} (hd : 6 ≤ d) (a1 : GScreen) {r : Int} {Q : PX → St → Prop} (hQ : ∀ e st', f8_Q r e st' → Q e st')  (hS : f8_j10 a1 = some r) {st : St} (he : keepSt [1, 5, 98] [(16, .id 16)] [] st = f8_j10_J a1) : ZR (lev codes baseL (d - 1)) Q c8_4 [.seq c8_5, .blk 0, .seq c8_3] st := by
  refine zrKeep he ?_
  unfold f8_j10 at hS
  refine zrSeq ?_
  refine zrBlk ?_
  refine zrSeq ?_
  refine zrReg ?_
  refine zlRun (n := 2) (j := 2) rfl (by kernel_rfl) ?_
  refine zlEnd (by kernel_rfl) ?_
  refine zkSeq ?_
  refine zrReg ?_
  refine zlRun (n := 17) (j := 17) rfl (by kernel_rfl) ?_
  refine zlEnd (by kernel_rfl) ?_
  refine zkBlk ?_
  refine zkSeq ?_
  refine zrReg ?_
  refine zlRun (n := 2) (j := 2) rfl (by kernel_rfl) ?_
  refine zlEnd (by kernel_rfl) ?_
  refine zkSeq ?_
  refine zrLoop1 ?_
  refine zrSeq ?_
  refine zrReg ?_
  refine zlRun (n := 1) (j := 1) rfl (by kernel_rfl) ?_
  refine zlEnd (by kernel_rfl) ?_
  refine zkSeq ?_
  refine zrSeq ?_
  refine zrCondF (by kernel_rfl) ?_
  refine zrExit ?_
  refine zkSeqX ?_
  refine zkSeqX ?_
  refine zkBlkX ?_
  refine zkSeq ?_
  exact f8_j4_ok hd a1 hQ false hS (by kernel_rfl)
def f8_j7_J (a1 : GScreen) (p71 : Bool) : St := ⟨(up (up (up (fun _ => .un) 98 (.d (.int .i64 0))) 5 (.d (.bool p71))) 1 (.r (.ptr 16 0 0))), (up (hB fun _ => 0) 16 ⟨0, some (.box (bx_GScreen a1 (.d (.sl a1.Grid.Cells.length (e_GCell.cells a1.Grid.Cells))) (.d (.sl a1.Other.Cells.length (e_GCell.cells a1.Other.Cells))) (.d (.sl a1.Past.length (e_GLine.cells a1.Past)))))⟩)⟩
noncomputable def f8_j7 (a1 : GScreen) (p71 : Bool) : Option (Int) := (bif p71 then ((f19 a1.Pages.1).bind fun z47 => (bif z47 then ((f19 a1.Saved.Pages.1).bind fun z48 => (f8_j8 a1 z48)) else (f8_j9 a1 ))) else (f8_j10 a1 ))
theorem f8_j7_ok {d : Nat} (hd : 6 ≤ d) (a1 : GScreen) {r : Int} {Q : PX → St → Prop} (hQ : ∀ e st', f8_Q r e st' → Q e st') (p71 : Bool) (hS : f8_j7 a1 p71 = some r) {st : St} (he : keepSt [1, 5, 98] [(16, .id 16)] [] st = f8_j7_J a1 p71) : ZR (lev codes baseL (d - 1)) Q c8_4 [.seq c8_5, .blk 0, .seq c8_3] st := by
  refine zrKeep he ?_
  unfold f8_j7 at hS
  refine zrSeq ?_
  refine zrBlk ?_
  refine zrSeq ?_
  refine zrReg ?_
  refine zlRun (n := 2) (j := 2) rfl (by kernel_rfl) ?_
  refine zlEnd (by kernel_rfl) ?_
  refine zkSeq ?_
  refine zrReg ?_
  refine zlRun (n := 2) (j := 2) rfl (by kernel_rfl) ?_
  refine zlSplit 102 p71 (by kernel_rfl) (fun hc => ?_) (fun hc => ?_)
  · replace hS := cond_t hc hS
    refine zlRun (n := 4) (j := 6) rfl (by kernel_rfl) ?_
    refine bindE hS (fun z47 hz47 hS => ?_)
    refine zlOp (d := some 107) (op := (.call 19 [(.tmp 106)])) (g := (some (102, true))) (j := 7) rfl (by kernel_rfl) (by kernel_rfl) (ev_callA (by kernel_rfl) (f19_ok (d - 1) (dpt hd rfl) a1.Pages.1 z47 hz47) (by kernel_rfl) (by kernel_rfl)) ?_
    refine zlRun (n := 2) (j := 9) rfl (by kernel_rfl) ?_
    refine zlSplit 109 z47 (by kernel_rfl) (fun hc => ?_) (fun hc => ?_)
    · replace hS := cond_t hc hS
      refine zlRun (n := 5) (j := 14) rfl (by kernel_rfl) ?_
      refine bindE hS (fun z48 hz48 hS => ?_)
      refine zlOp (d := some 115) (op := (.call 19 [(.tmp 114)])) (g := (some (109, true))) (j := 15) rfl (by kernel_rfl) (by kernel_rfl) (ev_callA (by kernel_rfl) (f19_ok (d - 1) (dpt hd rfl) a1.Saved.Pages.1 z48 hz48) (by kernel_rfl) (by kernel_rfl)) ?_
      refine zlRun (n := 2) (j := 17) rfl (by kernel_rfl) ?_
      refine zlEnd (by kernel_rfl) ?_
      refine zkBlk ?_
      refine zkSeq ?_
      refine zrReg ?_
      refine zlRun (n := 2) (j := 2) rfl (by kernel_rfl) ?_
      refine zlEnd (by kernel_rfl) ?_
      refine zkSeq ?_
      refine zrLoop1 ?_
      refine zrSeq ?_
      refine zrReg ?_
      refine zlRun (n := 1) (j := 1) rfl (by kernel_rfl) ?_
      refine zlEnd (by kernel_rfl) ?_
      refine zkSeq ?_
      refine zrSeq ?_
      refine zrCondT (by kernel_rfl) ?_
      refine zrSkip ?_
      refine zkSeq ?_
      exact f8_j8_ok hd a1 hQ z48 hS (by kernel_rfl)
    · replace hS := cond_f hc hS
      refine zlRun (n := 8) (j := 17) rfl (by kernel_rfl) ?_
      refine zlEnd (by kernel_rfl) ?_
      refine zkBlk ?_
      refine zkSeq ?_
      refine zrReg ?_
      refine zlRun (n := 2) (j := 2) rfl (by kernel_rfl) ?_
      refine zlEnd (by kernel_rfl) ?_
      refine zkSeq ?_
      refine zrLoop1 ?_
      refine zrSeq ?_
      refine zrReg ?_
      refine zlRun (n := 1) (j := 1) rfl (by kernel_rfl) ?_
      refine zlEnd (by kernel_rfl) ?_
      refine zkSeq ?_
      refine zrSeq ?_
      refine zrCondT (by kernel_rfl) ?_
      refine zrSkip ?_
      refine zkSeq ?_
      exact f8_j9_ok hd a1 hQ  hS (by kernel_rfl)
  · replace hS := cond_f hc hS
    refine zlRun (n := 15) (j := 17) rfl (by kernel_rfl) ?_
    refine zlEnd (by kernel_rfl) ?_
    refine zkBlk ?_
    refine zkSeq ?_
    refine zrReg ?_
    refine zlRun (n := 2) (j := 2) rfl (by kernel_rfl) ?_
    refine zlEnd (by kernel_rfl) ?_
    refine zkSeq ?_
    refine zrLoop1 ?_
    refine zrSeq ?_
    refine zrReg ?_
    refine zlRun (n := 1) (j := 1) rfl (by kernel_rfl) ?_
    refine zlEnd (by kernel_rfl) ?_
    refine zkSeq ?_
    refine zrSeq ?_
    refine zrCondT (by kernel_rfl) ?_
    refine zrSkip ?_
    refine zkSeq ?_
    exact f8_j10_ok hd a1 hQ  hS (by kernel_rfl)
def f8_j3_J (a1 : GScreen) (p51 : Bool) : St := ⟨(up (up (fun _ => .un) 5 (.d (.bool p51))) 1 (.r (.ptr 16 0 0))), (up (hB fun _ => 0) 16 ⟨0, some (.box (bx_GScreen a1 (.d (.sl a1.Grid.Cells.length (e_GCell.cells a1.Grid.Cells))) (.d (.sl a1.Other.Cells.length (e_GCell.cells a1.Other.Cells))) (.d (.sl a1.Past.length (e_GLine.cells a1.Past)))))⟩)⟩
noncomputable def f8_j3 (a1 : GScreen) (p51 : Bool) : Option (Int) := (f8_j7 a1 p51)
theorem f8_j3_ok {d : Nat} (hd : 6 ≤ d) (a1 : GScreen) {r : Int} {Q : PX → St → Prop} (hQ : ∀ e st', f8_Q r e st' → Q e st') (p51 : Bool) (hS : f8_j3 a1 p51 = some r) {st : St} (he : keepSt [1, 5] [(16, .id 16)] [] st = f8_j3_J a1 p51) : ZR (lev codes baseL (d - 1)) Q c8_6 [] st := by
  refine zrKeep he ?_
  unfold f8_j3 at hS
  refine zrSeq ?_
  refine zrSeq ?_
  refine zrReg ?_
  refine zlRun (n := 1) (j := 1) rfl (by kernel_rfl) ?_
  refine zlEnd (by kernel_rfl) ?_
  refine zkSeq ?_
  refine zrBlk ?_
  refine zrLoop1 ?_
  refine zrSeq ?_
  refine zrReg ?_
  refine zlRun (n := 1) (j := 1) rfl (by kernel_rfl) ?_
  refine zlEnd (by kernel_rfl) ?_
  refine zkSeq ?_
  refine zrSeq ?_
  refine zrCondT (by kernel_rfl) ?_
  refine zrSkip ?_
  refine zkSeq ?_
  exact f8_j7_ok hd a1 hQ p51 hS (by kernel_rfl)
def f8_j2_J (a1 : GScreen) (p47 : Bool) : St := ⟨(up (up (fun _ => .un) 5 (.d (.bool p47))) 1 (.r (.ptr 16 0 0))), (up (hB fun _ => 0) 16 ⟨0, some (.box (bx_GScreen a1 (.d (.sl a1.Grid.Cells.length (e_GCell.cells a1.Grid.Cells))) (.d (.sl a1.Other.Cells.length (e_GCell.cells a1.Other.Cells))) (.d (.sl a1.Past.length (e_GLine.cells a1.Past)))))⟩)⟩
noncomputable def f8_j2 (a1 : GScreen) (p47 : Bool) : Option (Int) := (bif p47 then ((f18 a1.Pen).bind fun z53 => (bif (decide (z53 = 0)) then ((f18 a1.Saved.Pen).bind fun z54 => (bif (decide (z54 = 0)) then ((f17 a1.Modes 0 2047).bind fun z55 => (f8_j3 a1 z55)) else (f8_j3 a1 false))) else (f8_j3 a1 false))) else (f8_j3 a1 false))
theorem f8_j2_ok {d : Nat} (hd : 6 ≤ d) (a1 : GScreen) {r : Int} {Q : PX → St → Prop} (hQ : ∀ e st', f8_Q r e st' → Q e st') (p47 : Bool) (hS : f8_j2 a1 p47 = some r) {st : St} (he : keepSt [1, 5] [(16, .id 16)] [] st = f8_j2_J a1 p47) : ZR (lev codes baseL (d - 1)) Q c8_7 [] st := by
  refine zrKeep he ?_
  unfold f8_j2 at hS
  refine zrSeq ?_
  refine zrReg ?_
  refine zlRun (n := 2) (j := 2) rfl (by kernel_rfl) ?_
  refine zlSplit 80 p47 (by kernel_rfl) (fun hc => ?_) (fun hc => ?_)
  · replace hS := cond_t hc hS
    refine zlRun (n := 2) (j := 4) rfl (by kernel_rfl) ?_
    refine bindE hS (fun z53 hz53 hS => ?_)
    refine zlOp (d := some 83) (op := (.call 18 [(.tmp 82)])) (g := (some (80, true))) (j := 5) rfl (by kernel_rfl) (by kernel_rfl) (ev_callA (by kernel_rfl) (f18_ok (d - 1) (dpt hd rfl) a1.Pen z53 hz53) (by kernel_rfl) (by kernel_rfl)) ?_
    refine zlBool (d := 84) (op := (.cmpI .eql (.tmp 83) (.const (.int .i64 0)))) (g := (some (80, true))) (j := 6) (decide (z53 = 0)) rfl (by kernel_rfl) (by kernel_rfl) (by kernel_rfl) (fun hc => ?_) (fun hc => ?_)
    · replace hS := cond_t hc hS
      refine zlRun (n := 5) (j := 11) rfl (by kernel_rfl) ?_
      refine bindE hS (fun z54 hz54 hS => ?_)
      refine zlOp (d := some 90) (op := (.call 18 [(.tmp 89)])) (g := (some (86, true))) (j := 12) rfl (by kernel_rfl) (by kernel_rfl) (ev_callA (by kernel_rfl) (f18_ok (d - 1) (dpt hd rfl) a1.Saved.Pen z54 hz54) (by kernel_rfl) (by kernel_rfl)) ?_
      refine zlBool (d := 91) (op := (.cmpI .eql (.tmp 90) (.const (.int .i64 0)))) (g := (some (86, true))) (j := 13) (decide (z54 = 0)) rfl (by kernel_rfl) (by kernel_rfl) (by kernel_rfl) (fun hc => ?_) (fun hc => ?_)
      · replace hS := cond_t hc hS
        refine zlRun (n := 4) (j := 17) rfl (by kernel_rfl) ?_
        refine bindE hS (fun z55 hz55 hS => ?_)
        refine zlOp (d := some 96) (op := (.call 17 [(.tmp 95), (.const (.int .i64 0)), (.const (.int .i64 2047))])) (g := (some (93, true))) (j := 18) rfl (by kernel_rfl) (by kernel_rfl) (ev_callA (by kernel_rfl) (f17_ok (d - 1) (dpt hd rfl) a1.Modes 0 2047 z55 hz55) (by kernel_rfl) (by kernel_rfl)) ?_
        refine zlRun (n := 2) (j := 20) rfl (by kernel_rfl) ?_
        refine zlEnd (by kernel_rfl) ?_
        refine zkSeq ?_
        exact f8_j3_ok hd a1 hQ z55 hS (by kernel_rfl)
      · replace hS := cond_f hc hS
        refine zlRun (n := 7) (j := 20) rfl (by kernel_rfl) ?_
        refine zlEnd (by kernel_rfl) ?_
        refine zkSeq ?_
        exact f8_j3_ok hd a1 hQ false hS (by kernel_rfl)
    · replace hS := cond_f hc hS
      refine zlRun (n := 14) (j := 20) rfl (by kernel_rfl) ?_
      refine zlEnd (by kernel_rfl) ?_
      refine zkSeq ?_
      exact f8_j3_ok hd a1 hQ false hS (by kernel_rfl)
  · replace hS := cond_f hc hS
    refine zlRun (n := 18) (j := 20) rfl (by kernel_rfl) ?_
    refine zlEnd (by kernel_rfl) ?_
    refine zkSeq ?_
    exact f8_j3_ok hd a1 hQ false hS (by kernel_rfl)
def f8_j1_J (a1 : GScreen) (p43 : Bool) : St := ⟨(up (up (up (fun _ => .un) 5 (.d (.bool p43))) 3 (.r (.ptr 32 0 0))) 1 (.r (.ptr 16 0 0))), (up (up (hB fun _ => 0) 32 ⟨0, some (.box ((.d (.int .i64 a1.Grid.Wide)) :: ((.d (.int .i64 a1.Grid.High)) :: ((.d (.sl a1.Grid.Cells.length (e_GCell.cells a1.Grid.Cells))) :: []))))⟩) 16 ⟨0, some (.box (bx_GScreen a1 (.d (.sl a1.Grid.Cells.length (e_GCell.cells a1.Grid.Cells))) (.d (.sl a1.Other.Cells.length (e_GCell.cells a1.Other.Cells))) (.d (.sl a1.Past.length (e_GLine.cells a1.Past)))))⟩)⟩
noncomputable def f8_j1 (a1 : GScreen) (p43 : Bool) : Option (Int) := (bif p43 then ((f17 a1.Top 0 (IntKind.i64.wrap (a1.Bottom - 1))).bind fun z56 => (bif z56 then (bif (decide (a1.Bottom ≤ a1.Grid.High)) then (f8_j2 a1 true) else (f8_j2 a1 false)) else (f8_j2 a1 false))) else (f8_j2 a1 false))
theorem f8_j1_ok {d : Nat} (hd : 6 ≤ d) (a1 : GScreen) {r : Int} {Q : PX → St → Prop} (hQ : ∀ e st', f8_Q r e st' → Q e st') (p43 : Bool) (hS : f8_j1 a1 p43 = some r) {st : St} (he : keepSt [1, 3, 5] [(16, .id 16), (32, .id 32)] [] st = f8_j1_J a1 p43) : ZR (lev codes baseL (d - 1)) Q c8_8 [] st := by
  refine zrKeep he ?_
  unfold f8_j1 at hS
  refine zrSeq ?_
  refine zrReg ?_
  refine zlRun (n := 2) (j := 2) rfl (by kernel_rfl) ?_
  refine zlSplit 64 p43 (by kernel_rfl) (fun hc => ?_) (fun hc => ?_)
  · replace hS := cond_t hc hS
    refine zlRun (n := 5) (j := 7) rfl (by kernel_rfl) ?_
    refine bindE hS (fun z56 hz56 hS => ?_)
    refine zlOp (d := some 70) (op := (.call 17 [(.tmp 66), (.const (.int .i64 0)), (.tmp 69)])) (g := (some (64, true))) (j := 8) rfl (by kernel_rfl) (by kernel_rfl) (ev_callA (by kernel_rfl) (f17_ok (d - 1) (dpt hd rfl) a1.Top 0 (IntKind.i64.wrap (a1.Bottom - 1)) z56 hz56) (by kernel_rfl) (by kernel_rfl)) ?_
    refine zlRun (n := 2) (j := 10) rfl (by kernel_rfl) ?_
    refine zlSplit 72 z56 (by kernel_rfl) (fun hc => ?_) (fun hc => ?_)
    · replace hS := cond_t hc hS
      refine zlRun (n := 4) (j := 14) rfl (by kernel_rfl) ?_
      refine zlBool (d := 77) (op := (.cmpI .leq (.tmp 74) (.tmp 76))) (g := (some (72, true))) (j := 15) (decide (a1.Bottom ≤ a1.Grid.High)) rfl (by kernel_rfl) (by kernel_rfl) (by kernel_rfl) (fun hc => ?_) (fun hc => ?_)
      · replace hS := cond_t hc hS
        refine zlRun (n := 2) (j := 17) rfl (by kernel_rfl) ?_
        refine zlEnd (by kernel_rfl) ?_
        refine zkSeq ?_
        exact f8_j2_ok hd a1 hQ true hS (by kernel_rfl)
      · replace hS := cond_f hc hS
        refine zlRun (n := 2) (j := 17) rfl (by kernel_rfl) ?_
        refine zlEnd (by kernel_rfl) ?_
        refine zkSeq ?_
        exact f8_j2_ok hd a1 hQ false hS (by kernel_rfl)
    · replace hS := cond_f hc hS
      refine zlRun (n := 7) (j := 17) rfl (by kernel_rfl) ?_
      refine zlEnd (by kernel_rfl) ?_
      refine zkSeq ?_
      exact f8_j2_ok hd a1 hQ false hS (by kernel_rfl)
  · replace hS := cond_f hc hS
    refine zlRun (n := 15) (j := 17) rfl (by kernel_rfl) ?_
    refine zlEnd (by kernel_rfl) ?_
    refine zkSeq ?_
    exact f8_j2_ok hd a1 hQ false hS (by kernel_rfl)
def f8_j0_J (a1 : GScreen) (p38 : Bool) : St := ⟨(up (up (up (fun _ => .un) 5 (.d (.bool p38))) 3 (.r (.ptr 32 0 0))) 1 (.r (.ptr 16 0 0))), (up (up (hB fun _ => 0) 32 ⟨0, some (.box ((.d (.int .i64 a1.Grid.Wide)) :: ((.d (.int .i64 a1.Grid.High)) :: ((.d (.sl a1.Grid.Cells.length (e_GCell.cells a1.Grid.Cells))) :: []))))⟩) 16 ⟨0, some (.box (bx_GScreen a1 (.d (.sl a1.Grid.Cells.length (e_GCell.cells a1.Grid.Cells))) (.d (.sl a1.Other.Cells.length (e_GCell.cells a1.Other.Cells))) (.d (.sl a1.Past.length (e_GLine.cells a1.Past)))))⟩)⟩
noncomputable def f8_j0 (a1 : GScreen) (p38 : Bool) : Option (Int) := (bif p38 then ((f17 a1.Row 0 (IntKind.i64.wrap (a1.Grid.High - 1))).bind fun z57 => (bif z57 then ((f17 a1.Col 0 (IntKind.i64.wrap (a1.Grid.Wide - 1))).bind fun z58 => (bif z58 then (bif (!a1.Late) then (f8_j1 a1 true) else (bif (decide (a1.Col = (IntKind.i64.wrap (a1.Grid.Wide - 1)))) then (f8_j1 a1 true) else (f8_j1 a1 false))) else (f8_j1 a1 false))) else (f8_j1 a1 false))) else (f8_j1 a1 false))
theorem f8_j0_ok {d : Nat} (hd : 6 ≤ d) (a1 : GScreen) {r : Int} {Q : PX → St → Prop} (hQ : ∀ e st', f8_Q r e st' → Q e st') (p38 : Bool) (hS : f8_j0 a1 p38 = some r) {st : St} (he : keepSt [1, 3, 5] [(16, .id 16), (32, .id 32)] [] st = f8_j0_J a1 p38) : ZR (lev codes baseL (d - 1)) Q c8_9 [] st := by
  refine zrKeep he ?_
  unfold f8_j0 at hS
  refine zrSeq ?_
  refine zrReg ?_
  refine zlRun (n := 2) (j := 2) rfl (by kernel_rfl) ?_
  refine zlSplit 34 p38 (by kernel_rfl) (fun hc => ?_) (fun hc => ?_)
  · replace hS := cond_t hc hS
    refine zlRun (n := 5) (j := 7) rfl (by kernel_rfl) ?_
    refine bindE hS (fun z57 hz57 hS => ?_)
    refine zlOp (d := some 40) (op := (.call 17 [(.tmp 36), (.const (.int .i64 0)), (.tmp 39)])) (g := (some (34, true))) (j := 8) rfl (by kernel_rfl) (by kernel_rfl) (ev_callA (by kernel_rfl) (f17_ok (d - 1) (dpt hd rfl) a1.Row 0 (IntKind.i64.wrap (a1.Grid.High - 1)) z57 hz57) (by kernel_rfl) (by kernel_rfl)) ?_
    refine zlRun (n := 2) (j := 10) rfl (by kernel_rfl) ?_
    refine zlSplit 42 z57 (by kernel_rfl) (fun hc => ?_) (fun hc => ?_)
    · replace hS := cond_t hc hS
      refine zlRun (n := 5) (j := 15) rfl (by kernel_rfl) ?_
      refine bindE hS (fun z58 hz58 hS => ?_)
      refine zlOp (d := some 48) (op := (.call 17 [(.tmp 44), (.const (.int .i64 0)), (.tmp 47)])) (g := (some (42, true))) (j := 16) rfl (by kernel_rfl) (by kernel_rfl) (ev_callA (by kernel_rfl) (f17_ok (d - 1) (dpt hd rfl) a1.Col 0 (IntKind.i64.wrap (a1.Grid.Wide - 1)) z58 hz58) (by kernel_rfl) (by kernel_rfl)) ?_
      refine zlRun (n := 2) (j := 18) rfl (by kernel_rfl) ?_
      refine zlSplit 50 z58 (by kernel_rfl) (fun hc => ?_) (fun hc => ?_)
      · replace hS := cond_t hc hS
        refine zlRun (n := 4) (j := 22) rfl (by kernel_rfl) ?_
        refine zlSplit 54 (!a1.Late) (by kernel_rfl) (fun hc => ?_) (fun hc => ?_)
        · replace hS := cond_t hc hS
          refine zlRun (n := 9) (j := 31) rfl (by kernel_rfl) ?_
          refine zlEnd (by kernel_rfl) ?_
          refine zkSeq ?_
          exact f8_j1_ok hd a1 hQ true hS (by kernel_rfl)
        · replace hS := cond_f hc hS
          refine zlRun (n := 5) (j := 27) rfl (by kernel_rfl) ?_
          refine zlBool (d := 60) (op := (.cmpI .eql (.tmp 56) (.tmp 59))) (g := (some (54, false))) (j := 28) (decide (a1.Col = (IntKind.i64.wrap (a1.Grid.Wide - 1)))) rfl (by kernel_rfl) (by kernel_rfl) (by kernel_rfl) (fun hc => ?_) (fun hc => ?_)
          · replace hS := cond_t hc hS
            refine zlRun (n := 3) (j := 31) rfl (by kernel_rfl) ?_
            refine zlEnd (by kernel_rfl) ?_
            refine zkSeq ?_
            exact f8_j1_ok hd a1 hQ true hS (by kernel_rfl)
          · replace hS := cond_f hc hS
            refine zlRun (n := 3) (j := 31) rfl (by kernel_rfl) ?_
            refine zlEnd (by kernel_rfl) ?_
            refine zkSeq ?_
            exact f8_j1_ok hd a1 hQ false hS (by kernel_rfl)
      · replace hS := cond_f hc hS
        refine zlRun (n := 13) (j := 31) rfl (by kernel_rfl) ?_
        refine zlEnd (by kernel_rfl) ?_
        refine zkSeq ?_
        exact f8_j1_ok hd a1 hQ false hS (by kernel_rfl)
    · replace hS := cond_f hc hS
      refine zlRun (n := 21) (j := 31) rfl (by kernel_rfl) ?_
      refine zlEnd (by kernel_rfl) ?_
      refine zkSeq ?_
      exact f8_j1_ok hd a1 hQ false hS (by kernel_rfl)
  · replace hS := cond_f hc hS
    refine zlRun (n := 29) (j := 31) rfl (by kernel_rfl) ?_
    refine zlEnd (by kernel_rfl) ?_
    refine zkSeq ?_
    exact f8_j1_ok hd a1 hQ false hS (by kernel_rfl)
noncomputable def f8 (a1 : GScreen) : Option (Int) := ((f16 a1.Grid).bind fun z59 => (bif (decide (z59 = 0)) then ((f16 a1.Other).bind fun z60 => (bif (decide (z60 = 0)) then (bif (decide (a1.Grid.Wide = a1.Other.Wide)) then (bif (decide (a1.Grid.High = a1.Other.High)) then (f8_j0 a1 true) else (f8_j0 a1 false)) else (f8_j0 a1 false)) else (f8_j0 a1 false))) else (f8_j0 a1 false)))
theorem f8_ok (d : Nat) (hd : 6 ≤ d) (a1 : GScreen) (r : Int) (hS : f8 a1 = some r) : lev codes baseL d 8 [(.agg ((.d (.int .i64 a1.Grid.Wide)) :: ((.d (.int .i64 a1.Grid.High)) :: ((.d (.sl a1.Grid.Cells.length (e_GCell.cells a1.Grid.Cells))) :: ((.d (.int .i64 a1.Row)) :: ((.d (.int .i64 a1.Col)) :: ((.d (.bool a1.Late)) :: ((.d (.int .i64 a1.Top)) :: ((.d (.int .i64 a1.Bottom)) :: ((.d (.int .i64 a1.Pen.Flags)) :: ((.d (.int .i64 a1.Pen.Fore)) :: ((.d (.int .i64 a1.Pen.Back)) :: ((.d (.int .i64 a1.Modes)) :: (((eInt .u64).row 4 a1.Stops.Bits) ++ ((.d (.int .i64 a1.Pages.1)) :: ((.d (.int .i64 a1.Pages.2)) :: ((.d (.int .i64 a1.Shift)) :: ((.d (.int .i64 a1.Saved.Row)) :: ((.d (.int .i64 a1.Saved.Col)) :: ((.d (.int .i64 a1.Saved.Pen.Flags)) :: ((.d (.int .i64 a1.Saved.Pen.Fore)) :: ((.d (.int .i64 a1.Saved.Pen.Back)) :: ((.d (.bool a1.Saved.Origin)) :: ((.d (.int .i64 a1.Saved.Pages.1)) :: ((.d (.int .i64 a1.Saved.Pages.2)) :: ((.d (.int .i64 a1.Saved.Shift)) :: ((.d (.int .i64 a1.Other.Wide)) :: ((.d (.int .i64 a1.Other.High)) :: ((.d (.sl a1.Other.Cells.length (e_GCell.cells a1.Other.Cells))) :: ((.d (.str a1.Title)) :: ((.d (.sl a1.Past.length (e_GLine.cells a1.Past))) :: [])))))))))))))))))))))))))))))))] [] = some ((.d (.int .i64 r)), []) := by
  refine lev_go codes8 rfl rfl (Nat.le_trans (Nat.le_of_ble_eq_true rfl) hd) fun Q hQ => ?_
  unfold f8 at hS
  show ZR _ Q c8_b [] _
  replace hQ : ∀ e st', f8_Q r e st' → Q e st' := hQ
  refine zrSeq ?_
  refine zrReg ?_
  refine zlRun (n := 2) (j := 2) rfl (by kernel_rfl) ?_
  refine zlEnd (by kernel_rfl) ?_
  refine zkSeq ?_
  refine zrSeq ?_
  refine zrRegD ?_
  refine zdRun (n := 8) (j := 8) (ts := [[], [(16, false)], [], [(16, false)], [(32, true)], [(40, true)], [(32, true)], [(40, true)]]) (acc' := [[], [(16, false)], [], [(16, false)], [(32, true)], [(40, true)], [(32, true)], [(40, true)]]) rfl (by kernel_rfl) (by kernel_rfl) (by kernel_rfl) ?_
  refine zdEnd (by kernel_rfl) (by kernel_rfl) ?_
  refine zkSeq ?_
  refine zrSeq ?_
  refine zrReg ?_
  refine zlRun (n := 1) (j := 1) rfl (by kernel_rfl) ?_
  refine bindE hS (fun z59 hz59 hS => ?_)
  refine zlOp (d := some 12) (op := (.call 16 [(.tmp 11)])) (g := none) (j := 2) rfl (by kernel_rfl) (by kernel_rfl) (ev_callA (by kernel_rfl) (f16_ok (d - 1) (dpt hd rfl) a1.Grid z59 hz59) (by kernel_rfl) (by kernel_rfl)) ?_
  refine zlBool (d := 13) (op := (.cmpI .eql (.tmp 12) (.const (.int .i64 0)))) (g := none) (j := 3) (decide (z59 = 0)) rfl (by kernel_rfl) (by kernel_rfl) (by kernel_rfl) (fun hc => ?_) (fun hc => ?_)
  · replace hS := cond_t hc hS
    refine zlRun (n := 2) (j := 5) rfl (by kernel_rfl) ?_
    refine bindE hS (fun z60 hz60 hS => ?_)
    refine zlOp (d := some 16) (op := (.call 16 [(.tmp 15)])) (g := (some (14, true))) (j := 6) rfl (by kernel_rfl) (by kernel_rfl) (ev_callA (by kernel_rfl) (f16_ok (d - 1) (dpt hd rfl) a1.Other z60 hz60) (by kernel_rfl) (by kernel_rfl)) ?_
    refine zlBool (d := 17) (op := (.cmpI .eql (.tmp 16) (.const (.int .i64 0)))) (g := (some (14, true))) (j := 7) (decide (z60 = 0)) rfl (by kernel_rfl) (by kernel_rfl) (by kernel_rfl) (fun hc => ?_) (fun hc => ?_)
    · replace hS := cond_t hc hS
      refine zlRun (n := 6) (j := 13) rfl (by kernel_rfl) ?_
      refine zlBool (d := 24) (op := (.cmpI .eql (.tmp 21) (.tmp 23))) (g := (some (19, true))) (j := 14) (decide (a1.Grid.Wide = a1.Other.Wide)) rfl (by kernel_rfl) (by kernel_rfl) (by kernel_rfl) (fun hc => ?_) (fun hc => ?_)
      · replace hS := cond_t hc hS
        refine zlRun (n := 6) (j := 20) rfl (by kernel_rfl) ?_
        refine zlBool (d := 31) (op := (.cmpI .eql (.tmp 28) (.tmp 30))) (g := (some (26, true))) (j := 21) (decide (a1.Grid.High = a1.Other.High)) rfl (by kernel_rfl) (by kernel_rfl) (by kernel_rfl) (fun hc => ?_) (fun hc => ?_)
        · replace hS := cond_t hc hS
          refine zlRun (n := 2) (j := 23) rfl (by kernel_rfl) ?_
          refine zlEnd (by kernel_rfl) ?_
          refine zkSeq ?_
          exact f8_j0_ok hd a1 hQ true hS (by kernel_rfl)
        · replace hS := cond_f hc hS
          refine zlRun (n := 2) (j := 23) rfl (by kernel_rfl) ?_
          refine zlEnd (by kernel_rfl) ?_
          refine zkSeq ?_
          exact f8_j0_ok hd a1 hQ false hS (by kernel_rfl)
      · replace hS := cond_f hc hS
        refine zlRun (n := 9) (j := 23) rfl (by kernel_rfl) ?_
        refine zlEnd (by kernel_rfl) ?_
        refine zkSeq ?_
        exact f8_j0_ok hd a1 hQ false hS (by kernel_rfl)
    · replace hS := cond_f hc hS
      refine zlRun (n := 16) (j := 23) rfl (by kernel_rfl) ?_
      refine zlEnd (by kernel_rfl) ?_
      refine zkSeq ?_
      exact f8_j0_ok hd a1 hQ false hS (by kernel_rfl)
  · replace hS := cond_f hc hS
    refine zlRun (n := 20) (j := 23) rfl (by kernel_rfl) ?_
    refine zlEnd (by kernel_rfl) ?_
    refine zkSeq ?_
    exact f8_j0_ok hd a1 hQ false hS (by kernel_rfl)
/- slices.Equal[[]farwriter/api.Cell,farwriter/api.Cell] -/
def f6_fin (p14 : Bool) : St := ⟨(up (fun _ => .un) 4 (.d (.bool p14))), (hB fun _ => 0)⟩
theorem f6_out (p14 : Bool) : outR (f6_fin p14) 0 c6.res = some ((.d (.bool p14)), []) := by
  kernel_rfl
def f6_Q (r : Bool) (e : PX) (st : St) : Prop := DoneF c6 0 ((.d (.bool r)), []) e st
def f6_l1_J (a1 : List GCell) (a2 : List GCell) (x : Int) : St := ⟨(up (up (up (up (fun _ => .un) 13 (.d (.int .i64 x))) 12 (.d (.int .i64 (a1.length : Int)))) 1 (.d (.sl a2.length (e_GCell.cells a2)))) 0 (.d (.sl a1.length (e_GCell.cells a1)))), (hB fun _ => 0)⟩
def f6_l1_H (a1 : List GCell) (a2 : List GCell) (x : Int) (st : St) : Prop := keepSt [0, 1, 12, 13] [] [] st = f6_l1_J a1 a2 x
def f6_l1_e0_J (a1 : List GCell) (a2 : List GCell) : St := ⟨(fun _ => .un), (hB fun _ => 0)⟩
def f6_l1_X (a1 : List GCell) (a2 : List GCell) (z : Unit ⊕ Bool) (e : PX) (st : St) : Prop := (match z with | .inl z => e = .exit 0 ∧ st = f6_l1_e0_J a1 a2 | .inr z => e = .ret ∧ finSt c6.fin st = f6_fin z)
def f6_l1_j3_J (a1 : List GCell) (a2 : List GCell) (p20 : Int) : St := ⟨(up (up (up (up (fun _ => .un) 13 (.d (.int .i64 p20))) 12 (.d (.int .i64 (a1.length : Int)))) 1 (.d (.sl a2.length (e_GCell.cells a2)))) 0 (.d (.sl a1.length (e_GCell.cells a1)))), (hB fun _ => 0)⟩
noncomputable def f6_l1_j3 (a1 : List GCell) (a2 : List GCell) (p20 : Int) : Option (Int ⊕ (Unit ⊕ Bool)) := ((idx a1 p20).bind fun z7 => ((idx a2 p20).bind fun z8 => (bif (!(decide (z7.Rune = z8.Rune) && (decide (z7.Pen.Flags = z8.Pen.Flags) && (decide (z7.Pen.Fore = z8.Pen.Fore) && (decide (z7.Pen.Back = z8.Pen.Back) && true))))) then (some (.inr (.inr false))) else (some (.inl (IntKind.i64.wrap (p20 + 1)))))))
theorem f6_l1_j3_ok {d : Nat} (hd : 1 ≤ d) (a1 : List GCell) (a2 : List GCell) {r : Int ⊕ (Unit ⊕ Bool)} {Q : PX → St → Prop} (hQ : ∀ e st', finL (f6_l1_H a1 a2) (f6_l1_X a1 a2) r e st' → Q e st') (p20 : Int) (hS : f6_l1_j3 a1 a2 p20 = some r) {st : St} (he : keepSt [0, 1, 12, 13] [] [] st = f6_l1_j3_J a1 a2 p20) : ZR (lev codes baseL (d - 1)) Q c6_1 [] st := by
  refine zrKeep he ?_
  unfold f6_l1_j3 at hS
  refine zrSeq ?_
  refine zrBlk ?_
  refine zrSeq ?_
  refine zrReg ?_
  refine zlRun (n := 2) (j := 2) rfl (by kernel_rfl) ?_
  refine zlEnd (by kernel_rfl) ?_
  refine zkSeq ?_
  refine zrSeq ?_
  refine zrRegD ?_
  refine zdRun (n := 2) (j := 2) (ts := [[], []]) (acc' := [[], []]) rfl (by kernel_rfl) (by kernel_rfl) (by kernel_rfl) ?_
  refine bindE hS (fun z7 hz7 hS => ?_)
  refine zdOp (d := some 18) (op := (.ixS 44 4 (.tmp 16) (.tmp 17))) (g := none) (v := (.rptr (e_GCell.enc z7 ++ (e_GCell.cells (a1.drop ((p20 : Int).toNat + 1)))))) (ups := []) (j := 3) (t1 := []) (acc' := [[], [], []]) (by kernel_rfl) (by kernel_rfl) rfl (by kernel_rfl) (by kernel_rfl) (ev_ixS e_GCell (kk := .i64) (xs := a1) (j := p20) (by kernel_rfl) (by kernel_rfl) hz7 rfl (by intro h; cases h)) ?_
  refine zdRun (n := 3) (j := 6) (ts := [[], [], []]) (acc' := [[], [], [], [], [], []]) rfl (by kernel_rfl) (by kernel_rfl) (by kernel_rfl) ?_
  refine bindE hS (fun z8 hz8 hS => ?_)
  refine zdOp (d := some 22) (op := (.ixS 44 4 (.tmp 20) (.tmp 21))) (g := none) (v := (.rptr (e_GCell.enc z8 ++ (e_GCell.cells (a2.drop ((p20 : Int).toNat + 1)))))) (ups := []) (j := 7) (t1 := []) (acc' := [[], [], [], [], [], [], []]) (by kernel_rfl) (by kernel_rfl) rfl (by kernel_rfl) (by kernel_rfl) (ev_ixS e_GCell (kk := .i64) (xs := a2) (j := p20) (by kernel_rfl) (by kernel_rfl) hz8 rfl (by intro h; cases h)) ?_
  refine zdRun (n := 1) (j := 8) (ts := [[]]) (acc' := [[], [], [], [], [], [], [], []]) rfl (by kernel_rfl) (by kernel_rfl) (by kernel_rfl) ?_
  refine zdBool (d := 24) (op := (.eqA .true [(4, .int)] (.tmp 19) (.tmp 23))) (g := none) (j := 9) (t1 := []) (acc' := [[], [], [], [], [], [], [], [], []]) (!(decide (z7.Rune = z8.Rune) && (decide (z7.Pen.Flags = z8.Pen.Flags) && (decide (z7.Pen.Fore = z8.Pen.Fore) && (decide (z7.Pen.Back = z8.Pen.Back) && true))))) (by kernel_rfl) (by kernel_rfl) rfl (by kernel_rfl) (by kernel_rfl) (by kernel_rfl) (fun hc => ?_) (fun hc => ?_)
  · replace hS := cond_t hc hS
    refine zdEnd (by kernel_rfl) (by kernel_rfl) ?_
    refine zkSeq ?_
    refine zrCondT (by kernel_rfl) ?_
    refine zrSeq ?_
    refine zrReg ?_
    refine zlRun (n := 1) (j := 1) rfl (by kernel_rfl) ?_
    refine zlEnd (by kernel_rfl) ?_
    refine zkSeq ?_
    refine zrRet ?_
    refine zkBlkR ?_
    refine zkSeqR ?_
    refine zkNil ?_
    exact endQ hS hQ (finL_x (by intro h; cases h) (by show _ = _ ∧ _ = _; exact ⟨rfl, by kernel_rfl⟩))
  · replace hS := cond_f hc hS
    refine zdEnd (by kernel_rfl) (by kernel_rfl) ?_
    refine zkSeq ?_
    refine zrCondF (by kernel_rfl) ?_
    refine zrSkip ?_
    refine zkBlk ?_
    refine zkSeq ?_
    refine zrReg ?_
    refine zlRun (n := 2) (j := 2) rfl (by kernel_rfl) ?_
    refine zlEnd (by kernel_rfl) ?_
    refine zkNil ?_
    exact endQ hS hQ (finL_n (by show keepSt _ _ _ _ = _; kernel_rfl))
def f6_l1_j2_J (a1 : List GCell) (a2 : List GCell) (p18 : Int) (p19 : Bool) : St := ⟨(up (up (up (up (up (fun _ => .un) 14 (.d (.bool p19))) 13 (.d (.int .i64 p18))) 12 (.d (.int .i64 (a1.length : Int)))) 1 (.d (.sl a2.length (e_GCell.cells a2)))) 0 (.d (.sl a1.length (e_GCell.cells a1)))), (hB fun _ => 0)⟩
noncomputable def f6_l1_j2 (a1 : List GCell) (a2 : List GCell) (p18 : Int) (p19 : Bool) : Option (Int ⊕ (Unit ⊕ Bool)) := (bif p19 then (f6_l1_j3 a1 a2 p18) else (some (.inr (.inl ()))))
theorem f6_l1_j2_ok {d : Nat} (hd : 1 ≤ d) (a1 : List GCell) (a2 : List GCell) {r : Int ⊕ (Unit ⊕ Bool)} {Q : PX → St → Prop} (hQ : ∀ e st', finL (f6_l1_H a1 a2) (f6_l1_X a1 a2) r e st' → Q e st') (p18 : Int) (p19 : Bool) (hS : f6_l1_j2 a1 a2 p18 p19 = some r) {st : St} (he : keepSt [0, 1, 12, 13, 14] [] [] st = f6_l1_j2_J a1 a2 p18 p19) : ZR (lev codes baseL (d - 1)) Q c6_2 [] st := by
  refine zrKeep he ?_
  unfold f6_l1_j2 at hS
  refine zrSeq ?_
  refine zrSplit 14 p19 (by kernel_rfl) (fun hc => ?_) (fun hc => ?_)
  · replace hS := cond_t hc hS
    refine zrCondT (by kernel_rfl) ?_
    refine zrSkip ?_
    refine zkSeq ?_
    exact f6_l1_j3_ok hd a1 a2 hQ p18 hS (by kernel_rfl)
  · replace hS := cond_f hc hS
    refine zrCondF (by kernel_rfl) ?_
    refine zrKeep (J := f6_l1_e0_J a1 a2) (by kernel_rfl) ?_
    refine zrExit ?_
    refine zkSeqX ?_
    refine zkNil ?_
    exact endQ hS hQ (finL_x (by intro h; cases h) (by show _ = _ ∧ _ = _; exact ⟨rfl, rfl⟩))
noncomputable def f6_l1 (a1 : List GCell) (a2 : List GCell) (x : Int) : Option (Int ⊕ (Unit ⊕ Bool)) := (bif (decide (x < (a1.length : Int))) then (f6_l1_j2 a1 a2 x true) else (f6_l1_j2 a1 a2 x false))
theorem f6_l1_ok {d : Nat} (hd : 1 ≤ d) (a1 : List GCell) (a2 : List GCell) {r : Int ⊕ (Unit ⊕ Bool)} {Q : PX → St → Prop} (hQ : ∀ e st', finL (f6_l1_H a1 a2) (f6_l1_X a1 a2) r e st' → Q e st') {x : Int} (hS : f6_l1 a1 a2 x = some r) {st : St} (he : f6_l1_H a1 a2 x st) : ZR (lev codes baseL (d - 1)) Q c6_3 [] st := by
  refine zrKeep he ?_
  unfold f6_l1 at hS
  refine zrSeq ?_
  refine zrReg ?_
  refine zlBool (d := 14) (op := (.cmpI .lss (.tmp 13) (.tmp 12))) (g := none) (j := 1) (decide (x < (a1.length : Int))) rfl (by kernel_rfl) (by kernel_rfl) (by kernel_rfl) (fun hc => ?_) (fun hc => ?_)
  · replace hS := cond_t hc hS
    refine zlEnd (by kernel_rfl) ?_
    refine zkSeq ?_
    exact f6_l1_j2_ok hd a1 a2 hQ x true hS (by kernel_rfl)
  · replace hS := cond_f hc hS
    refine zlEnd (by kernel_rfl) ?_
    refine zkSeq ?_
    exact f6_l1_j2_ok hd a1 a2 hQ x false hS (by kernel_rfl)
def f6_j0_J (a1 : List GCell) (a2 : List GCell) : St := ⟨(up (up (fun _ => .un) 1 (.d (.sl a2.length (e_GCell.cells a2)))) 0 (.d (.sl a1.length (e_GCell.cells a1)))), (hB fun _ => 0)⟩
noncomputable def f6_j0 (a1 : List GCell) (a2 : List GCell) : Option (Bool) := ((loopO (f6_l1 a1 a2) 0).bind fun z9 => (Sum.elim (fun z10 => (some true)) (fun z11 => (some z11)) z9))
theorem f6_j0_ok {d : Nat} (hd : 1 ≤ d) (a1 : List GCell) (a2 : List GCell) {r : Bool} {Q : PX → St → Prop} (hQ : ∀ e st', f6_Q r e st' → Q e st')  (hS : f6_j0 a1 a2 = some r) {st : St} (he : keepSt [0, 1] [] [] st = f6_j0_J a1 a2) : ZR (lev codes baseL (d - 1)) Q c6_4 [] st := by
  refine zrKeep he ?_
  unfold f6_j0 at hS
  refine zrSeq ?_
  refine zrSeq ?_
  refine zrReg ?_
  refine zlRun (n := 3) (j := 3) rfl (by kernel_rfl) ?_
  refine zlEnd (by kernel_rfl) ?_
  refine zkSeq ?_
  refine zrBlk ?_
  refine bindE hS (fun z9 hz9 hS => ?_)
  refine zrLoop (f6_l1_H a1 a2) (f6_l1_X a1 a2) (fun x st r Q h0 hS hQ => f6_l1_ok hd a1 a2 hQ hS h0) (x := 0) (z := z9) (by show keepSt _ _ _ _ = _; kernel_rfl) hz9 ?_
  rcases z9 with z10 | z11
  · replace hS := (show _ = _ from hS)
    simp only [Sum.elim_inl] at hS
    intro e st' _ hX
    obtain ⟨rfl, rfl⟩ : _ ∧ _ := hX
    refine zkBlkX ?_
    refine zkSeq ?_
    refine zrSeq ?_
    refine zrReg ?_
    refine zlRun (n := 1) (j := 1) rfl (by kernel_rfl) ?_
    refine zlEnd (by kernel_rfl) ?_
    refine zkSeq ?_
    refine zrRet ?_
    refine zkNil ?_
    exact endQ hS hQ (fRet (by kernel_rfl) ((congrArg (fun s => outR s 0 c6.res) (by kernel_rfl : finSt c6.fin _ = f6_fin true)).trans (f6_out true)))
  · simp only [Sum.elim_inr] at hS
    intro e st' _ hX
    obtain ⟨rfl, hX⟩ : _ ∧ _ := hX
    refine zkBlkR ?_
    refine zkSeqR ?_
    refine zkNil ?_
    exact endQ hS hQ (fRet (by kernel_rfl) ((congrArg (fun s => outR s 0 c6.res) hX).trans (f6_out z11)))
noncomputable def f6 (a1 : List GCell) (a2 : List GCell) : Option (Bool) := (bif (!decide ((a1.length : Int) = (a2.length : Int))) then (some false) else (f6_j0 a1 a2 ))
theorem f6_ok (d : Nat) (hd : 1 ≤ d) (a1 : List GCell) (a2 : List GCell) (r : Bool) (hS : f6 a1 a2 = some r) : lev codes baseL d 6 [(.d (.sl a1.length (e_GCell.cells a1))), (.d (.sl a2.length (e_GCell.cells a2)))] [] = some ((.d (.bool r)), []) := by
  refine lev_go codes6 rfl rfl (Nat.le_trans (Nat.le_of_ble_eq_true rfl) hd) fun Q hQ => ?_
  unfold f6 at hS
  show ZR _ Q c6_b [] _
  replace hQ : ∀ e st', f6_Q r e st' → Q e st' := hQ
  refine zrSeq ?_
  refine zrReg ?_
  refine zlRun (n := 1) (j := 1) rfl (by kernel_rfl) ?_
  refine zlEnd (by kernel_rfl) ?_
  refine zkSeq ?_
  refine zrSeq ?_
  refine zrSeq ?_
  refine zrReg ?_
  refine zlRun (n := 4) (j := 4) rfl (by kernel_rfl) ?_
  refine zlBool (d := 10) (op := (.cmpI .neq (.tmp 7) (.tmp 9))) (g := none) (j := 5) (!decide ((a1.length : Int) = (a2.length : Int))) rfl (by kernel_rfl) (by kernel_rfl) (by kernel_rfl) (fun hc => ?_) (fun hc => ?_)
  · replace hS := cond_t hc hS
    refine zlEnd (by kernel_rfl) ?_
    refine zkSeq ?_
    refine zrCondT (by kernel_rfl) ?_
    refine zrSeq ?_
    refine zrReg ?_
    refine zlRun (n := 1) (j := 1) rfl (by kernel_rfl) ?_
    refine zlEnd (by kernel_rfl) ?_
    refine zkSeq ?_
    refine zrRet ?_
    refine zkSeqR ?_
    refine zkNil ?_
    exact endQ hS hQ (fRet (by kernel_rfl) ((congrArg (fun s => outR s 0 c6.res) (by kernel_rfl : finSt c6.fin _ = f6_fin false)).trans (f6_out false)))
  · replace hS := cond_f hc hS
    refine zlEnd (by kernel_rfl) ?_
    refine zkSeq ?_
    refine zrCondF (by kernel_rfl) ?_
    refine zrSkip ?_
    refine zkSeq ?_
    exact f6_j0_ok hd a1 a2 hQ  hS (by kernel_rfl)
/- slices.Clone[[]farwriter/api.Cell,farwriter/api.Cell] -/
def f21_fin (p1 : List GCell) : St := ⟨(up (fun _ => .un) 2 (.r (.msl 97 0 0 p1.length))), (up (hB fun _ => 0) 97 ⟨0, some (.own 44 4 (e_GCell.cells p1))⟩)⟩
theorem f21_out (p1 : List GCell) : outR (f21_fin p1) 0 c21.res = some ((.r (.own 0 44 4 p1.length (e_GCell.cells p1))), []) := by
  exact out_of (ids := []) (ids' := [97]) (l := [(.r (.msl 97 0 0 p1.length))]) (by kernel_rfl) (by kernel_rfl) (o_own e_GCell (e := 44) (k := 4) (xs := p1) (by kernel_rfl) rfl rfl rfl rfl)
def f21_Q (r : List GCell) (e : PX) (st : St) : Prop := DoneF c21 0 ((.r (.own 0 44 4 r.length (e_GCell.cells r))), []) e st
noncomputable def f21 (a1 : List GCell) : Option (List GCell) := ((app? 32 ([] : List GCell) a1).bind fun z2 => (some z2))
theorem f21_ok (d : Nat) (hd : 1 ≤ d) (a1 : List GCell) (r : List GCell) (hS : f21 a1 = some r) : lev codes baseL d 21 [(.d (.sl a1.length (e_GCell.cells a1)))] [] = some ((.r (.own 0 44 4 r.length (e_GCell.cells r))), []) := by
  refine lev_goZ codes21 rfl rfl (Nat.le_trans (Nat.le_of_ble_eq_true rfl) hd) (fun Q hQ => ?_) (fun h0 Q hQ => ?_)
  · unfold f21 at hS
    show ZR _ Q c21_b [] _
    refine zrSeq ?_
    refine zrReg ?_
    refine zlRun (n := 1) (j := 1) rfl (by kernel_rfl) ?_
    refine zlEnd (by kernel_rfl) ?_
    refine zkSeq ?_
    refine zrSeq ?_
    refine zrSeq ?_
    refine zrReg ?_
    refine zlRun (n := 2) (j := 2) rfl (by kernel_rfl) ?_
    refine zlEnd (by kernel_rfl) ?_
    refine zkSeq ?_
    refine zrCondF (by kernel_rfl) ?_
    refine zrSkip ?_
    refine zkSeq ?_
    refine zrSeq ?_
    refine zrReg ?_
    refine zlRun (n := 2) (j := 2) rfl (by kernel_rfl) ?_
    refine bindE hS (fun z2 hz2 hS => ?_)
    refine zlOp (d := some 7) (op := (.app 44 4 32 (.tmp 5) (.tmp 6))) (g := none) (v := (.r (.msl 48 2 0 z2.length))) (ups := [(48, ⟨2, some (.own 44 4 (e_GCell.cells z2))⟩)]) (j := 3) rfl (by kernel_rfl) (by kernel_rfl) (ev_app e_GCell (b := 48) (g := 1) (n := ([] : List GCell).length) (xs := []) (ys := a1) ((congrArg (asL _) (by kernel_rfl : ρof _ (.tmp 6) = (.slz false a1.length (e_GCell.cells a1)))).trans rfl) rfl (by kernel_rfl) rfl (by kernel_rfl) rfl hz2) ?_
    refine zlRun (n := 1) (j := 4) rfl (by kernel_rfl) ?_
    refine zlEnd (by kernel_rfl) ?_
    refine zkSeq ?_
    refine zrRet ?_
    refine zkNil ?_
    exact endQ (F := f21_Q) hS hQ (fRet (by kernel_rfl) ((congrArg (fun s => outR s 0 c21.res) (by kernel_rfl : finSt c21.fin _ = f21_fin z2)).trans (f21_out z2)))
  · have hS : (some []) = some r := by
      have hl := List.eq_nil_of_length_eq_zero h0
      subst hl
      simpa [f21, app?] using hS
    show ZR _ Q c21_b [] _
    refine zrSeq ?_
    refine zrReg ?_
    refine zlRun (n := 1) (j := 1) rfl (by kernel_rfl) ?_
    refine zlEnd (by kernel_rfl) ?_
    refine zkSeq ?_
    refine zrSeq ?_
    refine zrSeq ?_
    refine zrReg ?_
    refine zlRun (n := 2) (j := 2) rfl (by kernel_rfl) ?_
    refine zlEnd (by kernel_rfl) ?_
    refine zkSeq ?_
    refine zrCondT (by kernel_rfl) ?_
    refine zrSeq ?_
    refine zrReg ?_
    refine zlRun (n := 1) (j := 1) rfl (by kernel_rfl) ?_
    refine zlEnd (by kernel_rfl) ?_
    refine zkSeq ?_
    refine zrRet ?_
    refine zkSeqR ?_
    refine zkNil ?_
    exact endQ (F := f21_Q) hS hQ (fRet (by kernel_rfl) ((congrArg (fun s => outR s 0 c21.res) (by kernel_rfl : finSt c21.fin _ = f21_fin [])).trans (f21_out [])))
/- farwriter/grid.Row -/
def f9_fin (p1 : List GCell) : St := ⟨(up (fun _ => .un) 4 (.r (.msl 72 0 0 p1.length))), (up (hB fun _ => 0) 72 ⟨0, some (.own 44 4 (e_GCell.cells p1))⟩)⟩
theorem f9_out (p1 : List GCell) : outR (f9_fin p1) 0 c9.res = some ((.r (.own 0 44 4 p1.length (e_GCell.cells p1))), []) := by
  exact out_of (ids := []) (ids' := [72]) (l := [(.r (.msl 72 0 0 p1.length))]) (by kernel_rfl) (by kernel_rfl) (o_own e_GCell (e := 44) (k := 4) (xs := p1) (by kernel_rfl) rfl rfl rfl rfl)
def f9_Q (r : (List GCell)) (e : PX) (st : St) : Prop := DoneF c9 0 ((.r (.own 0 44 4 r.length (e_GCell.cells r))), []) e st
noncomputable def f9 (a1 : GGrid) (a2 : Int) : Option ((List GCell)) := ((f22 a1 a2).bind fun z3 => ((f21 z3).bind fun z4 => (some z4)))
theorem f9_ok (d : Nat) (hd : 2 ≤ d) (a1 : GGrid) (a2 : Int) (r : (List GCell)) (hS : f9 a1 a2 = some r) : lev codes baseL d 9 [(.agg ((.d (.int .i64 a1.Wide)) :: ((.d (.int .i64 a1.High)) :: ((.d (.sl a1.Cells.length (e_GCell.cells a1.Cells))) :: [])))), (.d (.int .i64 a2))] [] = some ((.r (.own 0 44 4 r.length (e_GCell.cells r))), []) := by
  refine lev_go codes9 rfl rfl (Nat.le_trans (Nat.le_of_ble_eq_true rfl) hd) fun Q hQ => ?_
  unfold f9 at hS
  show ZR _ Q c9_b [] _
  replace hQ : ∀ e st', f9_Q r e st' → Q e st' := hQ
  refine zrSeq ?_
  refine zrReg ?_
  refine zlRun (n := 2) (j := 2) rfl (by kernel_rfl) ?_
  refine zlEnd (by kernel_rfl) ?_
  refine zkSeq ?_
  refine zrSeq ?_
  refine zrReg ?_
  refine zlRun (n := 2) (j := 2) rfl (by kernel_rfl) ?_
  refine bindE hS (fun z3 hz3 hS => ?_)
  refine zlOp (d := some 7) (op := (.callr 22 [(.tmp 5), (.tmp 6)])) (g := none) (j := 3) rfl (by kernel_rfl) (by kernel_rfl) (ev_callrXA (ids := []) (bs := []) (by kernel_rfl) (by kernel_rfl) (by kernel_rfl) (by kernel_rfl) (f22_ok (d - 1) (dpt hd rfl) a1 a2 z3 hz3) (by kernel_rfl) sm_nil (by kernel_rfl)) ?_
  refine bindE hS (fun z4 hz4 hS => ?_)
  refine zlOp (d := some 8) (op := (.call 21 [(.tmp 7)])) (g := none) (j := 4) rfl (by kernel_rfl) (by kernel_rfl) (ev_callA (by kernel_rfl) (f21_ok (d - 1) (dpt hd rfl) z3 z4 hz4) (by kernel_rfl) (by kernel_rfl)) ?_
  refine zlRun (n := 1) (j := 5) rfl (by kernel_rfl) ?_
  refine zlEnd (by kernel_rfl) ?_
  refine zkSeq ?_
  refine zrRet ?_
  refine zkNil ?_
  exact endQ hS hQ (fRet (by kernel_rfl) ((congrArg (fun s => outR s 0 c9.res) (by kernel_rfl : finSt c9.fin _ = f9_fin z4)).trans (f9_out z4)))
end Go.Proofs.YtgjckmjlocankaaGreatDoor.Pm
