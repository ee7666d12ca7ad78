/- Typed functions, and that the codes are these. Printed by dec.py. -/
import Derived.Test.YtjoccdgmcdkbkaaGreatDoorDSzC
namespace Go.Proofs.YtjoccdgmcdkbkaaGreatDoor.Pm
set_option maxRecDepth 1000000
set_option maxHeartbeats 20000000
set_option linter.unusedVariables false
/- farwriter/grid.size -/
def f74_fin (p2 : Int) : St := ⟨(up (fun _ => .un) 4 (.d (.int .i64 p2))), (hB fun _ => 0)⟩
theorem f74_out (p2 : Int) : outR (f74_fin p2) 0 c74.res = some ((.d (.int .i64 p2)), []) := by
  kernel_rfl
def f74_Q (r : Int) (e : PX) (st : St) : Prop := DoneF c74 0 ((.d (.int .i64 r)), []) e st
noncomputable def f74 (a1 : Int) (a2 : Int) : Option (Int) := (bif (decide (a1 < 1)) then (some 1) else (bif (decide (160 < a1)) then (some 1) else (bif (decide (a2 < 1)) then (some 1) else (bif (decide (60 < a2)) then (some 1) else (some 0)))))
theorem f74_ok (d : Nat) (hd : 1 ≤ d) (a1 : Int) (a2 : Int) (r : Int) (hS : f74 a1 a2 = some r) : lev codes baseL d 74 [(.d (.int .i64 a1)), (.d (.int .i64 a2))] [] = some ((.d (.int .i64 r)), []) := by
  refine lev_go codes74 rfl rfl (Nat.le_trans (Nat.le_of_ble_eq_true rfl) hd) fun Q hQ => ?_
  unfold f74 at hS
  show ZR _ Q c74_b [] _
  replace hQ : ∀ e st', f74_Q r e st' → Q e st' := hQ
  refine zrSeq ?_
  refine zrReg ?_
  refine zlRun (n := 1) (j := 1) rfl (by kernel_rfl) ?_
  refine zlEnd (by kernel_rfl) ?_
  refine zkSeq ?_
  refine zrSeq ?_
  refine zrSeq ?_
  refine zrReg ?_
  refine zlRun (n := 1) (j := 1) rfl (by kernel_rfl) ?_
  refine zlBool (d := 6) (op := (.cmpI .lss (.tmp 5) (.const (.int .i64 1)))) (g := none) (j := 2) (decide (a1 < 1)) rfl (by kernel_rfl) (by kernel_rfl) (by kernel_rfl) (fun hc => ?_) (fun hc => ?_)
  · replace hS := cond_t hc hS
    refine zlRun (n := 12) (j := 14) rfl (by kernel_rfl) ?_
    refine zlEnd (by kernel_rfl) ?_
    refine zkSeq ?_
    refine zrCondT (by kernel_rfl) ?_
    refine zrSeq ?_
    refine zrReg ?_
    refine zlRun (n := 1) (j := 1) rfl (by kernel_rfl) ?_
    refine zlEnd (by kernel_rfl) ?_
    refine zkSeq ?_
    refine zrRet ?_
    refine zkSeqR ?_
    refine zkNil ?_
    exact endQ hS hQ (fRet (by kernel_rfl) ((congrArg (fun s => outR s 0 c74.res) (by kernel_rfl : finSt c74.fin _ = f74_fin 1)).trans (f74_out 1)))
  · replace hS := cond_f hc hS
    refine zlRun (n := 2) (j := 4) rfl (by kernel_rfl) ?_
    refine zlBool (d := 9) (op := (.cmpI .gtr (.tmp 8) (.const (.int .i64 160)))) (g := (some (7, false))) (j := 5) (decide (160 < a1)) rfl (by kernel_rfl) (by kernel_rfl) (by kernel_rfl) (fun hc => ?_) (fun hc => ?_)
    · replace hS := cond_t hc hS
      refine zlRun (n := 9) (j := 14) rfl (by kernel_rfl) ?_
      refine zlEnd (by kernel_rfl) ?_
      refine zkSeq ?_
      refine zrCondT (by kernel_rfl) ?_
      refine zrSeq ?_
      refine zrReg ?_
      refine zlRun (n := 1) (j := 1) rfl (by kernel_rfl) ?_
      refine zlEnd (by kernel_rfl) ?_
      refine zkSeq ?_
      refine zrRet ?_
      refine zkSeqR ?_
      refine zkNil ?_
      exact endQ hS hQ (fRet (by kernel_rfl) ((congrArg (fun s => outR s 0 c74.res) (by kernel_rfl : finSt c74.fin _ = f74_fin 1)).trans (f74_out 1)))
    · replace hS := cond_f hc hS
      refine zlRun (n := 3) (j := 8) rfl (by kernel_rfl) ?_
      refine zlBool (d := 13) (op := (.cmpI .lss (.tmp 12) (.const (.int .i64 1)))) (g := (some (11, false))) (j := 9) (decide (a2 < 1)) rfl (by kernel_rfl) (by kernel_rfl) (by kernel_rfl) (fun hc => ?_) (fun hc => ?_)
      · replace hS := cond_t hc hS
        refine zlRun (n := 5) (j := 14) rfl (by kernel_rfl) ?_
        refine zlEnd (by kernel_rfl) ?_
        refine zkSeq ?_
        refine zrCondT (by kernel_rfl) ?_
        refine zrSeq ?_
        refine zrReg ?_
        refine zlRun (n := 1) (j := 1) rfl (by kernel_rfl) ?_
        refine zlEnd (by kernel_rfl) ?_
        refine zkSeq ?_
        refine zrRet ?_
        refine zkSeqR ?_
        refine zkNil ?_
        exact endQ hS hQ (fRet (by kernel_rfl) ((congrArg (fun s => outR s 0 c74.res) (by kernel_rfl : finSt c74.fin _ = f74_fin 1)).trans (f74_out 1)))
      · replace hS := cond_f hc hS
        refine zlRun (n := 3) (j := 12) rfl (by kernel_rfl) ?_
        refine zlBool (d := 17) (op := (.cmpI .gtr (.tmp 16) (.const (.int .i64 60)))) (g := (some (15, false))) (j := 13) (decide (60 < a2)) rfl (by kernel_rfl) (by kernel_rfl) (by kernel_rfl) (fun hc => ?_) (fun hc => ?_)
        · replace hS := cond_t hc hS
          refine zlRun (n := 1) (j := 14) rfl (by kernel_rfl) ?_
          refine zlEnd (by kernel_rfl) ?_
          refine zkSeq ?_
          refine zrCondT (by kernel_rfl) ?_
          refine zrSeq ?_
          refine zrReg ?_
          refine zlRun (n := 1) (j := 1) rfl (by kernel_rfl) ?_
          refine zlEnd (by kernel_rfl) ?_
          refine zkSeq ?_
          refine zrRet ?_
          refine zkSeqR ?_
          refine zkNil ?_
          exact endQ hS hQ (fRet (by kernel_rfl) ((congrArg (fun s => outR s 0 c74.res) (by kernel_rfl : finSt c74.fin _ = f74_fin 1)).trans (f74_out 1)))
        · replace hS := cond_f hc hS
          refine zlRun (n := 1) (j := 14) rfl (by kernel_rfl) ?_
          refine zlEnd (by kernel_rfl) ?_
          refine zkSeq ?_
          refine zrCondF (by kernel_rfl) ?_
          refine zrSkip ?_
          refine zkSeq ?_
          refine zrSeq ?_
          refine zrReg ?_
          refine zlRun (n := 1) (j := 1) rfl (by kernel_rfl) ?_
          refine zlEnd (by kernel_rfl) ?_
          refine zkSeq ?_
          refine zrRet ?_
          refine zkNil ?_
          exact endQ hS hQ (fRet (by kernel_rfl) ((congrArg (fun s => outR s 0 c74.res) (by kernel_rfl : finSt c74.fin _ = f74_fin 0)).trans (f74_out 0)))
/- farwriter/grid.row -/
def f75_fin (p1 : List GCell) : St := ⟨(up (up (fun _ => .un) 2000000 .un) 4 (.d (.sl p1.length (e_GCell.cells p1)))), (up (hB fun _ => 0) 0 ⟨0, none⟩)⟩
theorem f75_out (p1 : List GCell) : outR (f75_fin p1) 0 c75.res = some ((.d (.sl p1.length (e_GCell.cells p1))), []) := by
  kernel_rfl
def f75_Q (r : (List GCell)) (e : PX) (st : St) : Prop := DoneF c75 0 ((.d (.sl r.length (e_GCell.cells r))), [.box []]) e st
noncomputable def f75 (a1 : GGrid) (a2 : Int) : Option ((List GCell)) := ((sub? a1.Cells (IntKind.i64.wrap (a2 * a1.Wide)) (IntKind.i64.wrap ((IntKind.i64.wrap (a2 + 1)) * a1.Wide))).bind fun z2 => (some z2))
theorem f75_ok (d : Nat) (hd : 1 ≤ d) (a1 : GGrid) (a2 : Int) (r : (List GCell)) (hS : f75 a1 a2 = some r) : lev codes baseL d 75 [(.agg ((.d (.int .i64 a1.Wide)) :: ((.d (.int .i64 a1.High)) :: ((.d (.sl a1.Cells.length (e_GCell.cells a1.Cells))) :: [])))), (.d (.int .i64 a2))] [] = some ((.d (.sl r.length (e_GCell.cells r))), [.box []]) := by
  refine lev_go codes75 rfl rfl (Nat.le_trans (Nat.le_of_ble_eq_true rfl) hd) fun Q hQ => ?_
  unfold f75 at hS
  show ZR _ Q c75_b [] _
  replace hQ : ∀ e st', f75_Q r e st' → Q e st' := hQ
  refine zrSeq ?_
  refine zrReg ?_
  refine zlRun (n := 2) (j := 2) rfl (by kernel_rfl) ?_
  refine zlEnd (by kernel_rfl) ?_
  refine zkSeq ?_
  refine zrSeq ?_
  refine zrReg ?_
  refine zlRun (n := 11) (j := 11) rfl (by kernel_rfl) ?_
  refine bindE hS (fun z2 hz2 hS => ?_)
  refine zlOp (d := some 16) (op := (.slS 58 4 (.tmp 6) (.some (.tmp 10)) (.some (.tmp 15)))) (g := none) (v := (.d (.sl z2.length (e_GCell.cells z2)))) (ups := []) (j := 12) rfl (by kernel_rfl) (by kernel_rfl) (ev_slS e_GCell (xs := a1.Cells) (a := (IntKind.i64.wrap (a2 * a1.Wide))) (c := (IntKind.i64.wrap ((IntKind.i64.wrap (a2 + 1)) * a1.Wide))) (by kernel_rfl) rfl (bnd_s _ (kk := .i64) (j := (IntKind.i64.wrap (a2 * a1.Wide))) (by kernel_rfl)) (bnd_s _ (kk := .i64) (j := (IntKind.i64.wrap ((IntKind.i64.wrap (a2 + 1)) * a1.Wide))) (by kernel_rfl)) hz2) ?_
  refine zlRun (n := 1) (j := 13) rfl (by kernel_rfl) ?_
  refine zlEnd (by kernel_rfl) ?_
  refine zkSeq ?_
  refine zrRet ?_
  refine zkNil ?_
  exact endQ hS hQ (fRetX (by kernel_rfl) (by kernel_rfl : finSt c75.fin _ = f75_fin z2) (by kernel_rfl) (f75_out z2))
/- farwriter/pen.color -/
def f78_fin (p6 : Bool) : St := ⟨(up (fun _ => .un) 2 (.d (.bool p6))), (hB fun _ => 0)⟩
theorem f78_out (p6 : Bool) : outR (f78_fin p6) 0 c78.res = some ((.d (.bool p6)), []) := by
  kernel_rfl
def f78_Q (r : Bool) (e : PX) (st : St) : Prop := DoneF c78 0 ((.d (.bool r)), []) e st
noncomputable def f78 (a1 : Int) : Option (Bool) := (bif (decide (0 ≤ a1)) then (bif (decide (a1 ≤ 256)) then (some true) else (bif (decide (16777216 ≤ a1)) then (bif (decide (a1 < 33554432)) then (some true) else (some false)) else (some false))) else (bif (decide (16777216 ≤ a1)) then (bif (decide (a1 < 33554432)) then (some true) else (some false)) else (some false)))
theorem f78_ok (d : Nat) (hd : 1 ≤ d) (a1 : Int) (r : Bool) (hS : f78 a1 = some r) : lev codes baseL d 78 [(.d (.int .i64 a1))] [] = some ((.d (.bool r)), []) := by
  refine lev_go codes78 rfl rfl (Nat.le_trans (Nat.le_of_ble_eq_true rfl) hd) fun Q hQ => ?_
  unfold f78 at hS
  show ZR _ Q c78_b [] _
  replace hQ : ∀ e st', f78_Q r e st' → Q e st' := hQ
  refine zrSeq ?_
  refine zrReg ?_
  refine zlRun (n := 1) (j := 1) rfl (by kernel_rfl) ?_
  refine zlEnd (by kernel_rfl) ?_
  refine zkSeq ?_
  refine zrSeq ?_
  refine zrReg ?_
  refine zlRun (n := 1) (j := 1) rfl (by kernel_rfl) ?_
  refine zlBool (d := 4) (op := (.cmpI .geq (.tmp 3) (.const (.int .i64 0)))) (g := none) (j := 2) (decide (0 ≤ a1)) rfl (by kernel_rfl) (by kernel_rfl) (by kernel_rfl) (fun hc => ?_) (fun hc => ?_)
  · replace hS := cond_t hc hS
    refine zlRun (n := 2) (j := 4) rfl (by kernel_rfl) ?_
    refine zlBool (d := 7) (op := (.cmpI .leq (.tmp 6) (.const (.int .i64 256)))) (g := (some (5, true))) (j := 5) (decide (a1 ≤ 256)) rfl (by kernel_rfl) (by kernel_rfl) (by kernel_rfl) (fun hc => ?_) (fun hc => ?_)
    · replace hS := cond_t hc hS
      refine zlRun (n := 10) (j := 15) rfl (by kernel_rfl) ?_
      refine zlEnd (by kernel_rfl) ?_
      refine zkSeq ?_
      refine zrRet ?_
      refine zkNil ?_
      exact endQ hS hQ (fRet (by kernel_rfl) ((congrArg (fun s => outR s 0 c78.res) (by kernel_rfl : finSt c78.fin _ = f78_fin true)).trans (f78_out true)))
    · replace hS := cond_f hc hS
      refine zlRun (n := 3) (j := 8) rfl (by kernel_rfl) ?_
      refine zlBool (d := 11) (op := (.cmpI .geq (.tmp 10) (.const (.int .i64 16777216)))) (g := (some (9, false))) (j := 9) (decide (16777216 ≤ a1)) rfl (by kernel_rfl) (by kernel_rfl) (by kernel_rfl) (fun hc => ?_) (fun hc => ?_)
      · replace hS := cond_t hc hS
        refine zlRun (n := 2) (j := 11) rfl (by kernel_rfl) ?_
        refine zlBool (d := 14) (op := (.cmpI .lss (.tmp 13) (.const (.int .i64 33554432)))) (g := (some (12, true))) (j := 12) (decide (a1 < 33554432)) rfl (by kernel_rfl) (by kernel_rfl) (by kernel_rfl) (fun hc => ?_) (fun hc => ?_)
        · replace hS := cond_t hc hS
          refine zlRun (n := 3) (j := 15) rfl (by kernel_rfl) ?_
          refine zlEnd (by kernel_rfl) ?_
          refine zkSeq ?_
          refine zrRet ?_
          refine zkNil ?_
          exact endQ hS hQ (fRet (by kernel_rfl) ((congrArg (fun s => outR s 0 c78.res) (by kernel_rfl : finSt c78.fin _ = f78_fin true)).trans (f78_out true)))
        · replace hS := cond_f hc hS
          refine zlRun (n := 3) (j := 15) rfl (by kernel_rfl) ?_
          refine zlEnd (by kernel_rfl) ?_
          refine zkSeq ?_
          refine zrRet ?_
          refine zkNil ?_
          exact endQ hS hQ (fRet (by kernel_rfl) ((congrArg (fun s => outR s 0 c78.res) (by kernel_rfl : finSt c78.fin _ = f78_fin false)).trans (f78_out false)))
      · replace hS := cond_f hc hS
        refine zlRun (n := 6) (j := 15) rfl (by kernel_rfl) ?_
        refine zlEnd (by kernel_rfl) ?_
        refine zkSeq ?_
        refine zrRet ?_
        refine zkNil ?_
        exact endQ hS hQ (fRet (by kernel_rfl) ((congrArg (fun s => outR s 0 c78.res) (by kernel_rfl : finSt c78.fin _ = f78_fin false)).trans (f78_out false)))
  · replace hS := cond_f hc hS
    refine zlRun (n := 6) (j := 8) rfl (by kernel_rfl) ?_
    refine zlBool (d := 11) (op := (.cmpI .geq (.tmp 10) (.const (.int .i64 16777216)))) (g := (some (9, false))) (j := 9) (decide (16777216 ≤ a1)) rfl (by kernel_rfl) (by kernel_rfl) (by kernel_rfl) (fun hc => ?_) (fun hc => ?_)
    · replace hS := cond_t hc hS
      refine zlRun (n := 2) (j := 11) rfl (by kernel_rfl) ?_
      refine zlBool (d := 14) (op := (.cmpI .lss (.tmp 13) (.const (.int .i64 33554432)))) (g := (some (12, true))) (j := 12) (decide (a1 < 33554432)) rfl (by kernel_rfl) (by kernel_rfl) (by kernel_rfl) (fun hc => ?_) (fun hc => ?_)
      · replace hS := cond_t hc hS
        refine zlRun (n := 3) (j := 15) rfl (by kernel_rfl) ?_
        refine zlEnd (by kernel_rfl) ?_
        refine zkSeq ?_
        refine zrRet ?_
        refine zkNil ?_
        exact endQ hS hQ (fRet (by kernel_rfl) ((congrArg (fun s => outR s 0 c78.res) (by kernel_rfl : finSt c78.fin _ = f78_fin true)).trans (f78_out true)))
      · replace hS := cond_f hc hS
        refine zlRun (n := 3) (j := 15) rfl (by kernel_rfl) ?_
        refine zlEnd (by kernel_rfl) ?_
        refine zkSeq ?_
        refine zrRet ?_
        refine zkNil ?_
        exact endQ hS hQ (fRet (by kernel_rfl) ((congrArg (fun s => outR s 0 c78.res) (by kernel_rfl : finSt c78.fin _ = f78_fin false)).trans (f78_out false)))
    · replace hS := cond_f hc hS
      refine zlRun (n := 6) (j := 15) rfl (by kernel_rfl) ?_
      refine zlEnd (by kernel_rfl) ?_
      refine zkSeq ?_
      refine zrRet ?_
      refine zkNil ?_
      exact endQ hS hQ (fRet (by kernel_rfl) ((congrArg (fun s => outR s 0 c78.res) (by kernel_rfl : finSt c78.fin _ = f78_fin false)).trans (f78_out false)))
/- farwriter/pen.Check -/
def f50_fin (p2 : Int) : St := ⟨(up (fun _ => .un) 2 (.d (.int .i64 p2))), (hB fun _ => 0)⟩
theorem f50_out (p2 : Int) : outR (f50_fin p2) 0 c50.res = some ((.d (.int .i64 p2)), []) := by
  kernel_rfl
def f50_Q (r : Int) (e : PX) (st : St) : Prop := DoneF c50 0 ((.d (.int .i64 r)), []) e st
noncomputable def f50 (a1 : GPen) : Option (Int) := (bif (decide (a1.Flags < 0)) then (some 4) else (bif (decide (255 < a1.Flags)) then (some 4) else ((f78 a1.Fore).bind fun z3 => (bif (!z3) then (some 4) else ((f78 a1.Back).bind fun z4 => (bif (!z4) then (some 4) else (some 0)))))))
theorem f50_ok (d : Nat) (hd : 2 ≤ d) (a1 : GPen) (r : Int) (hS : f50 a1 = some r) : lev codes baseL d 50 [(.agg ((.d (.int .i64 a1.Flags)) :: ((.d (.int .i64 a1.Fore)) :: ((.d (.int .i64 a1.Back)) :: []))))] [] = some ((.d (.int .i64 r)), []) := by
  refine lev_go codes50 rfl rfl (Nat.le_trans (Nat.le_of_ble_eq_true rfl) hd) fun Q hQ => ?_
  unfold f50 at hS
  show ZR _ Q c50_b [] _
  replace hQ : ∀ e st', f50_Q r e st' → Q e st' := hQ
  refine zrSeq ?_
  refine zrReg ?_
  refine zlRun (n := 2) (j := 2) rfl (by kernel_rfl) ?_
  refine zlEnd (by kernel_rfl) ?_
  refine zkSeq ?_
  refine zrSeq ?_
  refine zrSeq ?_
  refine zrReg ?_
  refine zlRun (n := 2) (j := 2) rfl (by kernel_rfl) ?_
  refine zlBool (d := 5) (op := (.cmpI .lss (.tmp 4) (.const (.int .i64 0)))) (g := none) (j := 3) (decide (a1.Flags < 0)) rfl (by kernel_rfl) (by kernel_rfl) (by kernel_rfl) (fun hc => ?_) (fun hc => ?_)
  · replace hS := cond_t hc hS
    refine zlRun (n := 17) (j := 20) rfl (by kernel_rfl) ?_
    refine zlEnd (by kernel_rfl) ?_
    refine zkSeq ?_
    refine zrCondT (by kernel_rfl) ?_
    refine zrSeq ?_
    refine zrReg ?_
    refine zlRun (n := 1) (j := 1) rfl (by kernel_rfl) ?_
    refine zlEnd (by kernel_rfl) ?_
    refine zkSeq ?_
    refine zrRet ?_
    refine zkSeqR ?_
    refine zkNil ?_
    exact endQ hS hQ (fRet (by kernel_rfl) ((congrArg (fun s => outR s 0 c50.res) (by kernel_rfl : finSt c50.fin _ = f50_fin 4)).trans (f50_out 4)))
  · replace hS := cond_f hc hS
    refine zlRun (n := 3) (j := 6) rfl (by kernel_rfl) ?_
    refine zlBool (d := 9) (op := (.cmpI .gtr (.tmp 8) (.const (.int .i64 255)))) (g := (some (6, false))) (j := 7) (decide (255 < a1.Flags)) rfl (by kernel_rfl) (by kernel_rfl) (by kernel_rfl) (fun hc => ?_) (fun hc => ?_)
    · replace hS := cond_t hc hS
      refine zlRun (n := 13) (j := 20) rfl (by kernel_rfl) ?_
      refine zlEnd (by kernel_rfl) ?_
      refine zkSeq ?_
      refine zrCondT (by kernel_rfl) ?_
      refine zrSeq ?_
      refine zrReg ?_
      refine zlRun (n := 1) (j := 1) rfl (by kernel_rfl) ?_
      refine zlEnd (by kernel_rfl) ?_
      refine zkSeq ?_
      refine zrRet ?_
      refine zkSeqR ?_
      refine zkNil ?_
      exact endQ hS hQ (fRet (by kernel_rfl) ((congrArg (fun s => outR s 0 c50.res) (by kernel_rfl : finSt c50.fin _ = f50_fin 4)).trans (f50_out 4)))
    · replace hS := cond_f hc hS
      refine zlRun (n := 4) (j := 11) rfl (by kernel_rfl) ?_
      refine bindE hS (fun z3 hz3 hS => ?_)
      refine zlOp (d := some 14) (op := (.call 78 [(.tmp 13)])) (g := (some (11, false))) (j := 12) rfl (by kernel_rfl) (by kernel_rfl) (ev_callA (by kernel_rfl) (f78_ok (d - 1) (dpt hd rfl) a1.Fore z3 hz3) (by kernel_rfl) (by kernel_rfl)) ?_
      refine zlRun (n := 3) (j := 15) rfl (by kernel_rfl) ?_
      refine zlSplit 17 (!z3) (by kernel_rfl) (fun hc => ?_) (fun hc => ?_)
      · replace hS := cond_t hc hS
        refine zlRun (n := 5) (j := 20) rfl (by kernel_rfl) ?_
        refine zlEnd (by kernel_rfl) ?_
        refine zkSeq ?_
        refine zrCondT (by kernel_rfl) ?_
        refine zrSeq ?_
        refine zrReg ?_
        refine zlRun (n := 1) (j := 1) rfl (by kernel_rfl) ?_
        refine zlEnd (by kernel_rfl) ?_
        refine zkSeq ?_
        refine zrRet ?_
        refine zkSeqR ?_
        refine zkNil ?_
        exact endQ hS hQ (fRet (by kernel_rfl) ((congrArg (fun s => outR s 0 c50.res) (by kernel_rfl : finSt c50.fin _ = f50_fin 4)).trans (f50_out 4)))
      · replace hS := cond_f hc hS
        refine zlRun (n := 2) (j := 17) rfl (by kernel_rfl) ?_
        refine bindE hS (fun z4 hz4 hS => ?_)
        refine zlOp (d := some 20) (op := (.call 78 [(.tmp 19)])) (g := (some (17, false))) (j := 18) rfl (by kernel_rfl) (by kernel_rfl) (ev_callA (by kernel_rfl) (f78_ok (d - 1) (dpt hd rfl) a1.Back z4 hz4) (by kernel_rfl) (by kernel_rfl)) ?_
        refine zlRun (n := 2) (j := 20) rfl (by kernel_rfl) ?_
        refine zlEnd (by kernel_rfl) ?_
        refine zkSeq ?_
        refine zrSplit 22 (!z4) (by kernel_rfl) (fun hc => ?_) (fun hc => ?_)
        · replace hS := cond_t hc hS
          refine zrCondT (by kernel_rfl) ?_
          refine zrSeq ?_
          refine zrReg ?_
          refine zlRun (n := 1) (j := 1) rfl (by kernel_rfl) ?_
          refine zlEnd (by kernel_rfl) ?_
          refine zkSeq ?_
          refine zrRet ?_
          refine zkSeqR ?_
          refine zkNil ?_
          exact endQ hS hQ (fRet (by kernel_rfl) ((congrArg (fun s => outR s 0 c50.res) (by kernel_rfl : finSt c50.fin _ = f50_fin 4)).trans (f50_out 4)))
        · replace hS := cond_f hc hS
          refine zrCondF (by kernel_rfl) ?_
          refine zrSkip ?_
          refine zkSeq ?_
          refine zrSeq ?_
          refine zrReg ?_
          refine zlRun (n := 1) (j := 1) rfl (by kernel_rfl) ?_
          refine zlEnd (by kernel_rfl) ?_
          refine zkSeq ?_
          refine zrRet ?_
          refine zkNil ?_
          exact endQ hS hQ (fRet (by kernel_rfl) ((congrArg (fun s => outR s 0 c50.res) (by kernel_rfl : finSt c50.fin _ = f50_fin 0)).trans (f50_out 0)))
/- farwriter/width.in -/
def f107_fin (p27 : Bool) : St := ⟨(up (fun _ => .un) 4 (.d (.bool p27))), (hB fun _ => 0)⟩
theorem f107_out (p27 : Bool) : outR (f107_fin p27) 0 c107.res = some ((.d (.bool p27)), []) := by
  kernel_rfl
def f107_Q (r : Bool) (e : PX) (st : St) : Prop := DoneF c107 0 ((.d (.bool r)), []) e st
def f107_l0_J (a1 : Int) (a2 : List (Int × Int)) (x : Int) : St := ⟨(up (up (up (up (fun _ => .un) 9 (.d (.int .i64 x))) 8 (.d (.int .i64 (a2.length : Int)))) 7 (.d (.sl a2.length (e_A31.cells a2)))) 0 (.d (.int .i64 a1))), (hB fun _ => 0)⟩
def f107_l0_H (a1 : Int) (a2 : List (Int × Int)) (x : Int) (st : St) : Prop := keepSt [0, 7, 8, 9] [] [] st = f107_l0_J a1 a2 x
def f107_l0_e0_J (a1 : Int) (a2 : List (Int × Int)) : St := ⟨(fun _ => .un), (hB fun _ => 0)⟩
def f107_l0_X (a1 : Int) (a2 : List (Int × Int)) (z : Unit ⊕ Bool) (e : PX) (st : St) : Prop := (match z with | .inl z => e = .exit 0 ∧ st = f107_l0_e0_J a1 a2 | .inr z => e = .ret ∧ finSt c107.fin st = f107_fin z)
def f107_l0_j2_J (a1 : Int) (a2 : List (Int × Int)) (p32 : Int) : St := ⟨(up (up (up (up (fun _ => .un) 9 (.d (.int .i64 p32))) 8 (.d (.int .i64 (a2.length : Int)))) 7 (.d (.sl a2.length (e_A31.cells a2)))) 0 (.d (.int .i64 a1))), (hB fun _ => 0)⟩
noncomputable def f107_l0_j2 (a1 : Int) (a2 : List (Int × Int)) (p32 : Int) : Option (Int ⊕ (Unit ⊕ Bool)) := ((idx a2 p32).bind fun z4 => (bif (decide (z4.1 ≤ a1)) then (bif (decide (a1 ≤ z4.2)) then (some (.inr (.inr true))) else (some (.inl (IntKind.i64.wrap (p32 + 1))))) else (some (.inl (IntKind.i64.wrap (p32 + 1))))))
theorem f107_l0_j2_ok {d : Nat} (hd : 1 ≤ d) (a1 : Int) (a2 : List (Int × Int)) {r : Int ⊕ (Unit ⊕ Bool)} {Q : PX → St → Prop} (hQ : ∀ e st', finL (f107_l0_H a1 a2) (f107_l0_X a1 a2) r e st' → Q e st') (p32 : Int) (hS : f107_l0_j2 a1 a2 p32 = some r) {st : St} (he : keepSt [0, 7, 8, 9] [] [] st = f107_l0_j2_J a1 a2 p32) : ZR (lev codes baseL (d - 1)) Q c107_1 [] st := by
  refine zrKeep he ?_
  unfold f107_l0_j2 at hS
  refine zrSeq ?_
  refine zrBlk ?_
  refine zrSeq ?_
  refine zrReg ?_
  refine bindE hS (fun z4 hz4 hS => ?_)
  refine zlOp (d := some 11) (op := (.ixS 31 2 (.tmp 7) (.tmp 9))) (g := none) (v := (.rptr (e_A31.enc z4 ++ (e_A31.cells (a2.drop ((p32 : Int).toNat + 1)))))) (ups := []) (j := 1) rfl (by kernel_rfl) (by kernel_rfl) (ev_ixS e_A31 (kk := .i64) (xs := a2) (j := p32) (by kernel_rfl) (by kernel_rfl) hz4 rfl (by intro h; cases h)) ?_
  refine zlRun (n := 3) (j := 4) rfl (by kernel_rfl) ?_
  refine zlEnd (by kernel_rfl) ?_
  refine zkSeq ?_
  refine zrSeq ?_
  refine zrReg ?_
  refine zlRun (n := 3) (j := 3) rfl (by kernel_rfl) ?_
  refine zlBool (d := 16) (op := (.cmpI .geq (.tmp 13) (.tmp 15))) (g := none) (j := 4) (decide (z4.1 ≤ a1)) rfl (by kernel_rfl) (by kernel_rfl) (by kernel_rfl) (fun hc => ?_) (fun hc => ?_)
  · replace hS := cond_t hc hS
    refine zlRun (n := 4) (j := 8) rfl (by kernel_rfl) ?_
    refine zlBool (d := 21) (op := (.cmpI .leq (.tmp 18) (.tmp 20))) (g := (some (17, true))) (j := 9) (decide (a1 ≤ z4.2)) rfl (by kernel_rfl) (by kernel_rfl) (by kernel_rfl) (fun hc => ?_) (fun hc => ?_)
    · replace hS := cond_t hc hS
      refine zlRun (n := 1) (j := 10) rfl (by kernel_rfl) ?_
      refine zlEnd (by kernel_rfl) ?_
      refine zkSeq ?_
      refine zrCondT (by kernel_rfl) ?_
      refine zrSeq ?_
      refine zrReg ?_
      refine zlRun (n := 1) (j := 1) rfl (by kernel_rfl) ?_
      refine zlEnd (by kernel_rfl) ?_
      refine zkSeq ?_
      refine zrRet ?_
      refine zkBlkR ?_
      refine zkSeqR ?_
      refine zkNil ?_
      exact endQ hS hQ (finL_x (by intro h; cases h) (by show _ = _ ∧ _ = _; exact ⟨rfl, by kernel_rfl⟩))
    · replace hS := cond_f hc hS
      refine zlRun (n := 1) (j := 10) rfl (by kernel_rfl) ?_
      refine zlEnd (by kernel_rfl) ?_
      refine zkSeq ?_
      refine zrCondF (by kernel_rfl) ?_
      refine zrSkip ?_
      refine zkBlk ?_
      refine zkSeq ?_
      refine zrReg ?_
      refine zlRun (n := 2) (j := 2) rfl (by kernel_rfl) ?_
      refine zlEnd (by kernel_rfl) ?_
      refine zkNil ?_
      exact endQ hS hQ (finL_n (by show keepSt _ _ _ _ = _; kernel_rfl))
  · replace hS := cond_f hc hS
    refine zlRun (n := 6) (j := 10) rfl (by kernel_rfl) ?_
    refine zlEnd (by kernel_rfl) ?_
    refine zkSeq ?_
    refine zrCondF (by kernel_rfl) ?_
    refine zrSkip ?_
    refine zkBlk ?_
    refine zkSeq ?_
    refine zrReg ?_
    refine zlRun (n := 2) (j := 2) rfl (by kernel_rfl) ?_
    refine zlEnd (by kernel_rfl) ?_
    refine zkNil ?_
    exact endQ hS hQ (finL_n (by show keepSt _ _ _ _ = _; kernel_rfl))
def f107_l0_j1_J (a1 : Int) (a2 : List (Int × Int)) (p30 : Int) (p31 : Bool) : St := ⟨(up (up (up (up (up (fun _ => .un) 10 (.d (.bool p31))) 9 (.d (.int .i64 p30))) 8 (.d (.int .i64 (a2.length : Int)))) 7 (.d (.sl a2.length (e_A31.cells a2)))) 0 (.d (.int .i64 a1))), (hB fun _ => 0)⟩
noncomputable def f107_l0_j1 (a1 : Int) (a2 : List (Int × Int)) (p30 : Int) (p31 : Bool) : Option (Int ⊕ (Unit ⊕ Bool)) := (bif p31 then (f107_l0_j2 a1 a2 p30) else (some (.inr (.inl ()))))
theorem f107_l0_j1_ok {d : Nat} (hd : 1 ≤ d) (a1 : Int) (a2 : List (Int × Int)) {r : Int ⊕ (Unit ⊕ Bool)} {Q : PX → St → Prop} (hQ : ∀ e st', finL (f107_l0_H a1 a2) (f107_l0_X a1 a2) r e st' → Q e st') (p30 : Int) (p31 : Bool) (hS : f107_l0_j1 a1 a2 p30 p31 = some r) {st : St} (he : keepSt [0, 7, 8, 9, 10] [] [] st = f107_l0_j1_J a1 a2 p30 p31) : ZR (lev codes baseL (d - 1)) Q c107_2 [] st := by
  refine zrKeep he ?_
  unfold f107_l0_j1 at hS
  refine zrSeq ?_
  refine zrSplit 10 p31 (by kernel_rfl) (fun hc => ?_) (fun hc => ?_)
  · replace hS := cond_t hc hS
    refine zrCondT (by kernel_rfl) ?_
    refine zrSkip ?_
    refine zkSeq ?_
    exact f107_l0_j2_ok hd a1 a2 hQ p30 hS (by kernel_rfl)
  · replace hS := cond_f hc hS
    refine zrCondF (by kernel_rfl) ?_
    refine zrKeep (J := f107_l0_e0_J a1 a2) (by kernel_rfl) ?_
    refine zrExit ?_
    refine zkSeqX ?_
    refine zkNil ?_
    exact endQ hS hQ (finL_x (by intro h; cases h) (by show _ = _ ∧ _ = _; exact ⟨rfl, rfl⟩))
noncomputable def f107_l0 (a1 : Int) (a2 : List (Int × Int)) (x : Int) : Option (Int ⊕ (Unit ⊕ Bool)) := (bif (decide (x < (a2.length : Int))) then (f107_l0_j1 a1 a2 x true) else (f107_l0_j1 a1 a2 x false))
theorem f107_l0_ok {d : Nat} (hd : 1 ≤ d) (a1 : Int) (a2 : List (Int × Int)) {r : Int ⊕ (Unit ⊕ Bool)} {Q : PX → St → Prop} (hQ : ∀ e st', finL (f107_l0_H a1 a2) (f107_l0_X a1 a2) r e st' → Q e st') {x : Int} (hS : f107_l0 a1 a2 x = some r) {st : St} (he : f107_l0_H a1 a2 x st) : ZR (lev codes baseL (d - 1)) Q c107_3 [] st := by
  refine zrKeep he ?_
  unfold f107_l0 at hS
  refine zrSeq ?_
  refine zrReg ?_
  refine zlBool (d := 10) (op := (.cmpI .lss (.tmp 9) (.tmp 8))) (g := none) (j := 1) (decide (x < (a2.length : Int))) rfl (by kernel_rfl) (by kernel_rfl) (by kernel_rfl) (fun hc => ?_) (fun hc => ?_)
  · replace hS := cond_t hc hS
    refine zlEnd (by kernel_rfl) ?_
    refine zkSeq ?_
    exact f107_l0_j1_ok hd a1 a2 hQ x true hS (by kernel_rfl)
  · replace hS := cond_f hc hS
    refine zlEnd (by kernel_rfl) ?_
    refine zkSeq ?_
    exact f107_l0_j1_ok hd a1 a2 hQ x false hS (by kernel_rfl)
noncomputable def f107 (a1 : Int) (a2 : List (Int × Int)) : Option (Bool) := ((loopO (f107_l0 a1 a2) 0).bind fun z5 => (Sum.elim (fun z6 => (some false)) (fun z7 => (some z7)) z5))
theorem f107_ok (d : Nat) (hd : 1 ≤ d) (a1 : Int) (a2 : List (Int × Int)) (r : Bool) (hS : f107 a1 a2 = some r) : lev codes baseL d 107 [(.d (.int .i64 a1)), (.d (.sl a2.length (e_A31.cells a2)))] [] = some ((.d (.bool r)), []) := by
  refine lev_go codes107 rfl rfl (Nat.le_trans (Nat.le_of_ble_eq_true rfl) hd) fun Q hQ => ?_
  unfold f107 at hS
  show ZR _ Q c107_b [] _
  replace hQ : ∀ e st', f107_Q r e st' → Q e st' := hQ
  refine zrSeq ?_
  refine zrReg ?_
  refine zlRun (n := 1) (j := 1) rfl (by kernel_rfl) ?_
  refine zlEnd (by kernel_rfl) ?_
  refine zkSeq ?_
  refine zrSeq ?_
  refine zrSeq ?_
  refine zrReg ?_
  refine zlRun (n := 3) (j := 3) rfl (by kernel_rfl) ?_
  refine zlEnd (by kernel_rfl) ?_
  refine zkSeq ?_
  refine zrBlk ?_
  refine bindE hS (fun z5 hz5 hS => ?_)
  refine zrLoop (f107_l0_H a1 a2) (f107_l0_X a1 a2) (fun x st r Q h0 hS hQ => f107_l0_ok hd a1 a2 hQ hS h0) (x := 0) (z := z5) (by show keepSt _ _ _ _ = _; kernel_rfl) hz5 ?_
  rcases z5 with z6 | z7
  · replace hS := (show _ = _ from hS)
    simp only [Sum.elim_inl] at hS
    intro e st' _ hX
    obtain ⟨rfl, rfl⟩ : _ ∧ _ := hX
    refine zkBlkX ?_
    refine zkSeq ?_
    refine zrSeq ?_
    refine zrReg ?_
    refine zlRun (n := 1) (j := 1) rfl (by kernel_rfl) ?_
    refine zlEnd (by kernel_rfl) ?_
    refine zkSeq ?_
    refine zrRet ?_
    refine zkNil ?_
    exact endQ hS hQ (fRet (by kernel_rfl) ((congrArg (fun s => outR s 0 c107.res) (by kernel_rfl : finSt c107.fin _ = f107_fin false)).trans (f107_out false)))
  · simp only [Sum.elim_inr] at hS
    intro e st' _ hX
    obtain ⟨rfl, hX⟩ : _ ∧ _ := hX
    refine zkBlkR ?_
    refine zkSeqR ?_
    refine zkNil ?_
    exact endQ hS hQ (fRet (by kernel_rfl) ((congrArg (fun s => outR s 0 c107.res) hX).trans (f107_out z7)))
/- farwriter/width.Of -/
def f76_fin (p2 : Int) : St := ⟨(up (fun _ => .un) 2 (.d (.int .i64 p2))), (hB fun _ => 0)⟩
theorem f76_out (p2 : Int) : outR (f76_fin p2) 0 c76.res = some ((.d (.int .i64 p2)), []) := by
  kernel_rfl
def f76_Q (r : Int) (e : PX) (st : St) : Prop := DoneF c76 0 ((.d (.int .i64 r)), []) e st
def f76_j0_J (a1 : Int) (p4 : Bool) : St := ⟨(up (up (up (fun _ => .un) 25 (.d (.bool p4))) 4 (.r (.ptr 40 0 0))) 0 (.d (.int .i64 a1))), (up (hB fun _ => 0) 40 ⟨0, some (.box ((e_A31.row 12 (fun i => ([(4352, 4447), (11904, 12350), (12353, 19903), (19968, 42191), (44032, 55203), (63744, 64255), (65072, 65135), (65280, 65376), (65504, 65510), (127744, 128591), (129280, 129535), (131072, 262141)] : List (Int × Int)).getD i (0, 0))) ++ []))⟩)⟩
noncomputable def f76_j0 (a1 : Int) (p4 : Bool) : Option (Int) := (bif p4 then (some 0) else ((f107 a1 [(4352, 4447), (11904, 12350), (12353, 19903), (19968, 42191), (44032, 55203), (63744, 64255), (65072, 65135), (65280, 65376), (65504, 65510), (127744, 128591), (129280, 129535), (131072, 262141)]).bind fun z4 => (bif z4 then (some 2) else (some 1))))
theorem f76_j0_ok {d : Nat} (hd : 2 ≤ d) (a1 : Int) {r : Int} {Q : PX → St → Prop} (hQ : ∀ e st', f76_Q r e st' → Q e st') (p4 : Bool) (hS : f76_j0 a1 p4 = some r) {st : St} (he : keepSt [0, 4, 25] [(40, .id 40)] [] st = f76_j0_J a1 p4) : ZR (lev codes baseL (d - 1)) Q c76_1 [.blk 0, .seq c76_2] st := by
  refine zrKeep he ?_
  unfold f76_j0 at hS
  refine zrSplit 25 p4 (by kernel_rfl) (fun hc => ?_) (fun hc => ?_)
  · replace hS := cond_t hc hS
    refine zrCondT (by kernel_rfl) ?_
    refine zrSeq ?_
    refine zrReg ?_
    refine zlRun (n := 1) (j := 1) rfl (by kernel_rfl) ?_
    refine zlEnd (by kernel_rfl) ?_
    refine zkSeq ?_
    refine zrRet ?_
    refine zkBlkR ?_
    refine zkSeqR ?_
    refine zkNil ?_
    exact endQ hS hQ (fRet (by kernel_rfl) ((congrArg (fun s => outR s 0 c76.res) (by kernel_rfl : finSt c76.fin _ = f76_fin 0)).trans (f76_out 0)))
  · replace hS := cond_f hc hS
    refine zrCondF (by kernel_rfl) ?_
    refine zrSeq ?_
    refine zrReg ?_
    refine zlRun (n := 2) (j := 2) rfl (by kernel_rfl) ?_
    refine bindE hS (fun z4 hz4 hS => ?_)
    refine zlOp (d := some 40) (op := (.call 107 [(.tmp 38), (.tmp 39)])) (g := none) (j := 3) rfl (by kernel_rfl) (by kernel_rfl) (ev_callA (by kernel_rfl) (f107_ok (d - 1) (dpt hd rfl) a1 [(4352, 4447), (11904, 12350), (12353, 19903), (19968, 42191), (44032, 55203), (63744, 64255), (65072, 65135), (65280, 65376), (65504, 65510), (127744, 128591), (129280, 129535), (131072, 262141)] z4 hz4) (by kernel_rfl) (by kernel_rfl)) ?_
    refine zlRun (n := 1) (j := 4) rfl (by kernel_rfl) ?_
    refine zlEnd (by kernel_rfl) ?_
    refine zkSeq ?_
    refine zrSplit 37 z4 (by kernel_rfl) (fun hc => ?_) (fun hc => ?_)
    · replace hS := cond_t hc hS
      refine zrCondT (by kernel_rfl) ?_
      refine zrSeq ?_
      refine zrReg ?_
      refine zlRun (n := 1) (j := 1) rfl (by kernel_rfl) ?_
      refine zlEnd (by kernel_rfl) ?_
      refine zkSeq ?_
      refine zrRet ?_
      refine zkBlkR ?_
      refine zkSeqR ?_
      refine zkNil ?_
      exact endQ hS hQ (fRet (by kernel_rfl) ((congrArg (fun s => outR s 0 c76.res) (by kernel_rfl : finSt c76.fin _ = f76_fin 2)).trans (f76_out 2)))
    · replace hS := cond_f hc hS
      refine zrCondF (by kernel_rfl) ?_
      refine zrSkip ?_
      refine zkBlk ?_
      refine zkSeq ?_
      refine zrSeq ?_
      refine zrReg ?_
      refine zlRun (n := 1) (j := 1) rfl (by kernel_rfl) ?_
      refine zlEnd (by kernel_rfl) ?_
      refine zkSeq ?_
      refine zrRet ?_
      refine zkNil ?_
      exact endQ hS hQ (fRet (by kernel_rfl) ((congrArg (fun s => outR s 0 c76.res) (by kernel_rfl : finSt c76.fin _ = f76_fin 1)).trans (f76_out 1)))
noncomputable def f76 (a1 : Int) : Option (Int) := (bif (decide (a1 < 0)) then (f76_j0 a1 true) else (bif (decide (1114111 < a1)) then (f76_j0 a1 true) else ((f107 a1 [(0, 31), (127, 159), (768, 879), (8203, 8207), (55296, 57343), (65024, 65039)]).bind fun z5 => (f76_j0 a1 z5))))
theorem f76_ok (d : Nat) (hd : 2 ≤ d) (a1 : Int) (r : Int) (hS : f76 a1 = some r) : lev codes baseL d 76 [(.d (.int .i64 a1))] [] = some ((.d (.int .i64 r)), []) := by
  refine lev_go codes76 rfl rfl (Nat.le_trans (Nat.le_of_ble_eq_true rfl) hd) fun Q hQ => ?_
  unfold f76 at hS
  show ZR _ Q c76_b [] _
  replace hQ : ∀ e st', f76_Q r e st' → Q e st' := hQ
  refine zrSeq ?_
  refine zrReg ?_
  refine zlRun (n := 1) (j := 1) rfl (by kernel_rfl) ?_
  refine zlEnd (by kernel_rfl) ?_
  refine zkSeq ?_
  refine zrSeq ?_
  refine zrReg ?_
  refine zlRun (n := 9) (j := 9) rfl (by kernel_rfl) ?_
  refine zlEnd (by kernel_rfl) ?_
  refine zkSeq ?_
  refine zrSeq ?_
  refine zrReg ?_
  refine zlRun (n := 15) (j := 15) rfl (by kernel_rfl) ?_
  refine zlEnd (by kernel_rfl) ?_
  refine zkSeq ?_
  refine zrSeq ?_
  refine zrBlk ?_
  refine zrSeq ?_
  refine zrReg ?_
  refine zlRun (n := 1) (j := 1) rfl (by kernel_rfl) ?_
  refine zlBool (d := 27) (op := (.cmpI .lss (.tmp 26) (.const (.int .i64 0)))) (g := none) (j := 2) (decide (a1 < 0)) rfl (by kernel_rfl) (by kernel_rfl) (by kernel_rfl) (fun hc => ?_) (fun hc => ?_)
  · replace hS := cond_t hc hS
    refine zlRun (n := 10) (j := 12) rfl (by kernel_rfl) ?_
    refine zlEnd (by kernel_rfl) ?_
    refine zkSeq ?_
    exact f76_j0_ok hd a1 hQ true hS (by kernel_rfl)
  · replace hS := cond_f hc hS
    refine zlRun (n := 2) (j := 4) rfl (by kernel_rfl) ?_
    refine zlBool (d := 30) (op := (.cmpI .gtr (.tmp 29) (.const (.int .i64 1114111)))) (g := (some (28, false))) (j := 5) (decide (1114111 < a1)) rfl (by kernel_rfl) (by kernel_rfl) (by kernel_rfl) (fun hc => ?_) (fun hc => ?_)
    · replace hS := cond_t hc hS
      refine zlRun (n := 7) (j := 12) rfl (by kernel_rfl) ?_
      refine zlEnd (by kernel_rfl) ?_
      refine zkSeq ?_
      exact f76_j0_ok hd a1 hQ true hS (by kernel_rfl)
    · replace hS := cond_f hc hS
      refine zlRun (n := 4) (j := 9) rfl (by kernel_rfl) ?_
      refine bindE hS (fun z5 hz5 hS => ?_)
      refine zlOp (d := some 35) (op := (.call 107 [(.tmp 33), (.tmp 34)])) (g := (some (32, false))) (j := 10) rfl (by kernel_rfl) (by kernel_rfl) (ev_callA (by kernel_rfl) (f107_ok (d - 1) (dpt hd rfl) a1 [(0, 31), (127, 159), (768, 879), (8203, 8207), (55296, 57343), (65024, 65039)] z5 hz5) (by kernel_rfl) (by kernel_rfl)) ?_
      refine zlRun (n := 2) (j := 12) rfl (by kernel_rfl) ?_
      refine zlEnd (by kernel_rfl) ?_
      refine zkSeq ?_
      exact f76_j0_ok hd a1 hQ z5 hS (by kernel_rfl)
/- farwriter/grid.lone$1 -/
def f108_fin (p4 : Bool) : St := ⟨(up (fun _ => .un) 3 (.d (.bool p4))), (hB fun _ => 0)⟩
theorem f108_out (p4 : Bool) : outR (f108_fin p4) 0 c108.res = some ((.d (.bool p4)), []) := by
  kernel_rfl
def f108_Q (r : Bool) (e : PX) (st : St) : Prop := DoneF c108 0 ((.d (.bool r)), []) e st
noncomputable def f108 (a1 : Int) (a2 : List GCell) (a3 : List PD) : Option (Bool) := (bif (decide (a1 < (a2.length : Int))) then ((idx a2 a1).bind fun z4 => (bif (decide (z4.Rune = 0)) then ((idx a2 a1).bind fun z5 => ((idx a2 (IntKind.i64.wrap (a1 - 1))).bind fun z6 => (bif (decide (z5.Pen.Flags = z6.Pen.Flags) && (decide (z5.Pen.Fore = z6.Pen.Fore) && (decide (z5.Pen.Back = z6.Pen.Back) && true))) then (some true) else (some false)))) else (some false))) else (some false))
theorem f108_ok (d : Nat) (hd : 1 ≤ d) (a1 : Int) (a2 : List GCell) (a3 : List PD) (r : Bool) (hS : f108 a1 a2 a3 = some r) : lev codes baseL d 108 [(.d (.int .i64 a1)), (.rptr ((eSl e_GCell).enc a2 ++ a3))] [] = some ((.d (.bool r)), []) := by
  refine lev_go codes108 rfl rfl (Nat.le_trans (Nat.le_of_ble_eq_true rfl) hd) fun Q hQ => ?_
  unfold f108 at hS
  show ZR _ Q c108_b [] _
  replace hQ : ∀ e st', f108_Q r e st' → Q e st' := hQ
  refine zrSeq ?_
  refine zrReg ?_
  refine zlRun (n := 1) (j := 1) rfl (by kernel_rfl) ?_
  refine zlEnd (by kernel_rfl) ?_
  refine zkSeq ?_
  refine zrSeq ?_
  refine zrRegD ?_
  refine zdRun (n := 3) (j := 3) (ts := [[], [], []]) (acc' := [[], [], []]) rfl (by kernel_rfl) (by kernel_rfl) (by kernel_rfl) ?_
  refine zdBool (d := 7) (op := (.cmpI .lss (.tmp 4) (.tmp 6))) (g := none) (j := 4) (t1 := []) (acc' := [[], [], [], []]) (decide (a1 < (a2.length : Int))) (by kernel_rfl) (by kernel_rfl) rfl (by kernel_rfl) (by kernel_rfl) (by kernel_rfl) (fun hc => ?_) (fun hc => ?_)
  · replace hS := cond_t hc hS
    refine zdRun (n := 3) (j := 7) (ts := [[], [], []]) (acc' := [[], [], [], [], [], [], []]) rfl (by kernel_rfl) (by kernel_rfl) (by kernel_rfl) ?_
    refine bindE hS (fun z4 hz4 hS => ?_)
    refine zdOp (d := some 11) (op := (.ixS 58 4 (.tmp 9) (.tmp 10))) (g := (some (8, true))) (v := (.rptr (e_GCell.enc z4 ++ (e_GCell.cells (a2.drop ((a1 : Int).toNat + 1)))))) (ups := []) (j := 8) (t1 := []) (acc' := [[], [], [], [], [], [], [], []]) (by kernel_rfl) (by kernel_rfl) rfl (by kernel_rfl) (by kernel_rfl) (ev_ixS e_GCell (kk := .i64) (xs := a2) (j := a1) (by kernel_rfl) (by kernel_rfl) hz4 rfl (by intro h; cases h)) ?_
    refine zdRun (n := 2) (j := 10) (ts := [[], []]) (acc' := [[], [], [], [], [], [], [], [], [], []]) rfl (by kernel_rfl) (by kernel_rfl) (by kernel_rfl) ?_
    refine zdBool (d := 14) (op := (.cmpI .eql (.tmp 13) (.const (.int .i64 0)))) (g := (some (8, true))) (j := 11) (t1 := []) (acc' := [[], [], [], [], [], [], [], [], [], [], []]) (decide (z4.Rune = 0)) (by kernel_rfl) (by kernel_rfl) rfl (by kernel_rfl) (by kernel_rfl) (by kernel_rfl) (fun hc => ?_) (fun hc => ?_)
    · replace hS := cond_t hc hS
      refine zdRun (n := 4) (j := 15) (ts := [[], [], [], []]) (acc' := [[], [], [], [], [], [], [], [], [], [], [], [], [], [], []]) rfl (by kernel_rfl) (by kernel_rfl) (by kernel_rfl) ?_
      refine bindE hS (fun z5 hz5 hS => ?_)
      refine zdOp (d := some 19) (op := (.ixS 58 4 (.tmp 17) (.tmp 18))) (g := (some (16, true))) (v := (.rptr (e_GCell.enc z5 ++ (e_GCell.cells (a2.drop ((a1 : Int).toNat + 1)))))) (ups := []) (j := 16) (t1 := []) (acc' := [[], [], [], [], [], [], [], [], [], [], [], [], [], [], [], []]) (by kernel_rfl) (by kernel_rfl) rfl (by kernel_rfl) (by kernel_rfl) (ev_ixS e_GCell (kk := .i64) (xs := a2) (j := a1) (by kernel_rfl) (by kernel_rfl) hz5 rfl (by intro h; cases h)) ?_
      refine zdRun (n := 5) (j := 21) (ts := [[], [], [], [], []]) (acc' := [[], [], [], [], [], [], [], [], [], [], [], [], [], [], [], [], [], [], [], [], []]) rfl (by kernel_rfl) (by kernel_rfl) (by kernel_rfl) ?_
      refine bindE hS (fun z6 hz6 hS => ?_)
      refine zdOp (d := some 25) (op := (.ixS 58 4 (.tmp 22) (.tmp 24))) (g := (some (16, true))) (v := (.rptr (e_GCell.enc z6 ++ (e_GCell.cells (a2.drop (((IntKind.i64.wrap (a1 - 1)) : Int).toNat + 1)))))) (ups := []) (j := 22) (t1 := []) (acc' := [[], [], [], [], [], [], [], [], [], [], [], [], [], [], [], [], [], [], [], [], [], []]) (by kernel_rfl) (by kernel_rfl) rfl (by kernel_rfl) (by kernel_rfl) (ev_ixS e_GCell (kk := .i64) (xs := a2) (j := (IntKind.i64.wrap (a1 - 1))) (by kernel_rfl) (by kernel_rfl) hz6 rfl (by intro h; cases h)) ?_
      refine zdRun (n := 2) (j := 24) (ts := [[], []]) (acc' := [[], [], [], [], [], [], [], [], [], [], [], [], [], [], [], [], [], [], [], [], [], [], [], []]) rfl (by kernel_rfl) (by kernel_rfl) (by kernel_rfl) ?_
      refine zdBool (d := 28) (op := (.eqA .false [(3, .int)] (.tmp 21) (.tmp 27))) (g := (some (16, true))) (j := 25) (t1 := []) (acc' := [[], [], [], [], [], [], [], [], [], [], [], [], [], [], [], [], [], [], [], [], [], [], [], [], []]) (decide (z5.Pen.Flags = z6.Pen.Flags) && (decide (z5.Pen.Fore = z6.Pen.Fore) && (decide (z5.Pen.Back = z6.Pen.Back) && true))) (by kernel_rfl) (by kernel_rfl) rfl (by kernel_rfl) (by kernel_rfl) (by kernel_rfl) (fun hc => ?_) (fun hc => ?_)
      · replace hS := cond_t hc hS
        refine zdRun (n := 2) (j := 27) (ts := [[], []]) (acc' := [[], [], [], [], [], [], [], [], [], [], [], [], [], [], [], [], [], [], [], [], [], [], [], [], [], [], []]) rfl (by kernel_rfl) (by kernel_rfl) (by kernel_rfl) ?_
        refine zdEnd (by kernel_rfl) (by kernel_rfl) ?_
        refine zkSeq ?_
        refine zrRet ?_
        refine zkNil ?_
        exact endQ hS hQ (fRet (by kernel_rfl) ((congrArg (fun s => outR s 0 c108.res) (by kernel_rfl : finSt c108.fin _ = f108_fin true)).trans (f108_out true)))
      · replace hS := cond_f hc hS
        refine zdRun (n := 2) (j := 27) (ts := [[], []]) (acc' := [[], [], [], [], [], [], [], [], [], [], [], [], [], [], [], [], [], [], [], [], [], [], [], [], [], [], []]) rfl (by kernel_rfl) (by kernel_rfl) (by kernel_rfl) ?_
        refine zdEnd (by kernel_rfl) (by kernel_rfl) ?_
        refine zkSeq ?_
        refine zrRet ?_
        refine zkNil ?_
        exact endQ hS hQ (fRet (by kernel_rfl) ((congrArg (fun s => outR s 0 c108.res) (by kernel_rfl : finSt c108.fin _ = f108_fin false)).trans (f108_out false)))
    · replace hS := cond_f hc hS
      refine zdRun (n := 16) (j := 27) (ts := [[], [], [], [], [], [], [], [], [], [], [], [], [], [], [], []]) (acc' := [[], [], [], [], [], [], [], [], [], [], [], [], [], [], [], [], [], [], [], [], [], [], [], [], [], [], []]) rfl (by kernel_rfl) (by kernel_rfl) (by kernel_rfl) ?_
      refine zdEnd (by kernel_rfl) (by kernel_rfl) ?_
      refine zkSeq ?_
      refine zrRet ?_
      refine zkNil ?_
      exact endQ hS hQ (fRet (by kernel_rfl) ((congrArg (fun s => outR s 0 c108.res) (by kernel_rfl : finSt c108.fin _ = f108_fin false)).trans (f108_out false)))
  · replace hS := cond_f hc hS
    refine zdRun (n := 23) (j := 27) (ts := [[], [], [], [], [], [], [], [], [], [], [], [], [], [], [], [], [], [], [], [], [], [], []]) (acc' := [[], [], [], [], [], [], [], [], [], [], [], [], [], [], [], [], [], [], [], [], [], [], [], [], [], [], []]) rfl (by kernel_rfl) (by kernel_rfl) (by kernel_rfl) ?_
    refine zdEnd (by kernel_rfl) (by kernel_rfl) ?_
    refine zkSeq ?_
    refine zrRet ?_
    refine zkNil ?_
    exact endQ hS hQ (fRet (by kernel_rfl) ((congrArg (fun s => outR s 0 c108.res) (by kernel_rfl : finSt c108.fin _ = f108_fin false)).trans (f108_out false)))
/- farwriter/grid.lone -/
def f77_fin (p4 : Bool) : St := ⟨(up (fun _ => .un) 4 (.d (.bool p4))), (hB fun _ => 0)⟩
theorem f77_out (p4 : Bool) : outR (f77_fin p4) 0 c77.res = some ((.d (.bool p4)), []) := by
  kernel_rfl
def f77_Q (r : Bool) (e : PX) (st : St) : Prop := DoneF c77 0 ((.d (.bool r)), []) e st
def f77_j0_J (a1 : List GCell) (a2 : Int) : St := ⟨(up (up (up (fun _ => .un) 5 (.fn 108 [(.r (.ptr 24 0 0))])) 2 (.r (.ptr 24 0 0))) 1 (.d (.int .i64 a2))), (up (hB fun _ => 0) 24 ⟨0, some (.box ((.d (.sl a1.length (e_GCell.cells a1))) :: []))⟩)⟩
noncomputable def f77_j0 (a1 : List GCell) (a2 : Int) : Option (Bool) := ((idx a1 a2).bind fun z12 => ((f76 z12.Rune).bind fun z13 => (bif (decide (z13 = 2)) then ((f108 (IntKind.i64.wrap (a2 + 1)) a1 []).bind fun z14 => (some (!z14))) else (some false))))
theorem f77_j0_ok {d : Nat} (hd : 3 ≤ d) (a1 : List GCell) (a2 : Int) {r : Bool} {Q : PX → St → Prop} (hQ : ∀ e st', f77_Q r e st' → Q e st')  (hS : f77_j0 a1 a2 = some r) {st : St} (he : keepSt [1, 2, 5] [(24, .id 24)] [] st = f77_j0_J a1 a2) : ZR (lev codes baseL (d - 1)) Q c77_1 [] st := by
  refine zrKeep he ?_
  unfold f77_j0 at hS
  refine zrSeq ?_
  refine zrReg ?_
  refine zlRun (n := 2) (j := 2) rfl (by kernel_rfl) ?_
  refine bindE hS (fun z12 hz12 hS => ?_)
  refine zlOp (d := some 33) (op := (.ixS 58 4 (.tmp 31) (.tmp 32))) (g := none) (v := (.rptr (e_GCell.enc z12 ++ (e_GCell.cells (a1.drop ((a2 : Int).toNat + 1)))))) (ups := []) (j := 3) rfl (by kernel_rfl) (by kernel_rfl) (ev_ixS e_GCell (kk := .i64) (xs := a1) (j := a2) (by kernel_rfl) (by kernel_rfl) hz12 rfl (by intro h; cases h)) ?_
  refine zlRun (n := 2) (j := 5) rfl (by kernel_rfl) ?_
  refine bindE hS (fun z13 hz13 hS => ?_)
  refine zlOp (d := some 36) (op := (.call 76 [(.tmp 35)])) (g := none) (j := 6) rfl (by kernel_rfl) (by kernel_rfl) (ev_callA (by kernel_rfl) (f76_ok (d - 1) (dpt hd rfl) z12.Rune z13 hz13) (by kernel_rfl) (by kernel_rfl)) ?_
  refine zlBool (d := 37) (op := (.cmpI .eql (.tmp 36) (.const (.int .i64 2)))) (g := none) (j := 7) (decide (z13 = 2)) rfl (by kernel_rfl) (by kernel_rfl) (by kernel_rfl) (fun hc => ?_) (fun hc => ?_)
  · replace hS := cond_t hc hS
    refine zlRun (n := 4) (j := 11) rfl (by kernel_rfl) ?_
    refine bindE hS (fun z14 hz14 hS => ?_)
    refine zlOp (d := some 42) (op := (.callv (.tmp 39) [(.tmp 41)])) (g := (some (38, true))) (v := (.d (.bool z14))) (ups := []) (j := 12) rfl (by kernel_rfl) (by kernel_rfl) (ev_callv (f := 108) (cs := [(.r (.ptr 24 0 0))]) (by kernel_rfl) (args := [(.d (.int .i64 (IntKind.i64.wrap (a2 + 1)))), (.r (.ptr 24 0 0))]) (l := [(.d (.int .i64 (IntKind.i64.wrap (a2 + 1)))), (.rptr ((eSl e_GCell).enc a1 ++ []))]) (r := (.d (.bool z14))) (by kernel_rfl) (by kernel_rfl) (f108_ok (d - 1) (dpt hd rfl) (IntKind.i64.wrap (a2 + 1)) a1 [] z14 hz14) (by kernel_rfl) (by kernel_rfl) (by kernel_rfl)) ?_
    refine zlRun (n := 3) (j := 15) rfl (by kernel_rfl) ?_
    refine zlEnd (by kernel_rfl) ?_
    refine zkSeq ?_
    refine zrRet ?_
    refine zkNil ?_
    exact endQ hS hQ (fRet (by kernel_rfl) ((congrArg (fun s => outR s 0 c77.res) (by kernel_rfl : finSt c77.fin _ = f77_fin (!z14))).trans (f77_out (!z14))))
  · replace hS := cond_f hc hS
    refine zlRun (n := 8) (j := 15) rfl (by kernel_rfl) ?_
    refine zlEnd (by kernel_rfl) ?_
    refine zkSeq ?_
    refine zrRet ?_
    refine zkNil ?_
    exact endQ hS hQ (fRet (by kernel_rfl) ((congrArg (fun s => outR s 0 c77.res) (by kernel_rfl : finSt c77.fin _ = f77_fin false)).trans (f77_out false)))
noncomputable def f77 (a1 : List GCell) (a2 : Int) : Option (Bool) := ((idx a1 a2).bind fun z16 => (bif (decide (z16.Rune = 0)) then (bif (decide (a2 = 0)) then (some true) else ((idx a1 (IntKind.i64.wrap (a2 - 1))).bind fun z17 => ((f76 z17.Rune).bind fun z18 => (bif (!decide (z18 = 2)) then (some true) else ((f108 a2 a1 []).bind fun z19 => (some (!z19))))))) else (f77_j0 a1 a2 )))
theorem f77_ok (d : Nat) (hd : 3 ≤ d) (a1 : List GCell) (a2 : Int) (r : Bool) (hS : f77 a1 a2 = some r) : lev codes baseL d 77 [(.d (.sl a1.length (e_GCell.cells a1))), (.d (.int .i64 a2))] [] = some ((.d (.bool r)), []) := by
  refine lev_go codes77 rfl rfl (Nat.le_trans (Nat.le_of_ble_eq_true rfl) hd) fun Q hQ => ?_
  unfold f77 at hS
  show ZR _ Q c77_b [] _
  replace hQ : ∀ e st', f77_Q r e st' → Q e st' := hQ
  refine zrSeq ?_
  refine zrReg ?_
  refine zlRun (n := 2) (j := 2) rfl (by kernel_rfl) ?_
  refine zlEnd (by kernel_rfl) ?_
  refine zkSeq ?_
  refine zrSeq ?_
  refine zrReg ?_
  refine zlRun (n := 2) (j := 2) rfl (by kernel_rfl) ?_
  refine zlEnd (by kernel_rfl) ?_
  refine zkSeq ?_
  refine zrSeq ?_
  refine zrSeq ?_
  refine zrReg ?_
  refine zlRun (n := 2) (j := 2) rfl (by kernel_rfl) ?_
  refine bindE hS (fun z16 hz16 hS => ?_)
  refine zlOp (d := some 9) (op := (.ixS 58 4 (.tmp 7) (.tmp 8))) (g := none) (v := (.rptr (e_GCell.enc z16 ++ (e_GCell.cells (a1.drop ((a2 : Int).toNat + 1)))))) (ups := []) (j := 3) rfl (by kernel_rfl) (by kernel_rfl) (ev_ixS e_GCell (kk := .i64) (xs := a1) (j := a2) (by kernel_rfl) (by kernel_rfl) hz16 rfl (by intro h; cases h)) ?_
  refine zlRun (n := 2) (j := 5) rfl (by kernel_rfl) ?_
  refine zlBool (d := 12) (op := (.cmpI .eql (.tmp 11) (.const (.int .i64 0)))) (g := none) (j := 6) (decide (z16.Rune = 0)) rfl (by kernel_rfl) (by kernel_rfl) (by kernel_rfl) (fun hc => ?_) (fun hc => ?_)
  · replace hS := cond_t hc hS
    refine zlEnd (by kernel_rfl) ?_
    refine zkSeq ?_
    refine zrCondT (by kernel_rfl) ?_
    refine zrSeq ?_
    refine zrReg ?_
    refine zlRun (n := 1) (j := 1) rfl (by kernel_rfl) ?_
    refine zlBool (d := 14) (op := (.cmpI .eql (.tmp 13) (.const (.int .i64 0)))) (g := none) (j := 2) (decide (a2 = 0)) rfl (by kernel_rfl) (by kernel_rfl) (by kernel_rfl) (fun hc => ?_) (fun hc => ?_)
    · replace hS := cond_t hc hS
      refine zlRun (n := 17) (j := 19) rfl (by kernel_rfl) ?_
      refine zlEnd (by kernel_rfl) ?_
      refine zkSeq ?_
      refine zrRet ?_
      refine zkSeqR ?_
      refine zkNil ?_
      exact endQ hS hQ (fRet (by kernel_rfl) ((congrArg (fun s => outR s 0 c77.res) (by kernel_rfl : finSt c77.fin _ = f77_fin true)).trans (f77_out true)))
    · replace hS := cond_f hc hS
      refine zlRun (n := 4) (j := 6) rfl (by kernel_rfl) ?_
      refine bindE hS (fun z17 hz17 hS => ?_)
      refine zlOp (d := some 19) (op := (.ixS 58 4 (.tmp 16) (.tmp 18))) (g := (some (15, false))) (v := (.rptr (e_GCell.enc z17 ++ (e_GCell.cells (a1.drop (((IntKind.i64.wrap (a2 - 1)) : Int).toNat + 1)))))) (ups := []) (j := 7) rfl (by kernel_rfl) (by kernel_rfl) (ev_ixS e_GCell (kk := .i64) (xs := a1) (j := (IntKind.i64.wrap (a2 - 1))) (by kernel_rfl) (by kernel_rfl) hz17 rfl (by intro h; cases h)) ?_
      refine zlRun (n := 2) (j := 9) rfl (by kernel_rfl) ?_
      refine bindE hS (fun z18 hz18 hS => ?_)
      refine zlOp (d := some 22) (op := (.call 76 [(.tmp 21)])) (g := (some (15, false))) (j := 10) rfl (by kernel_rfl) (by kernel_rfl) (ev_callA (by kernel_rfl) (f76_ok (d - 1) (dpt hd rfl) z17.Rune z18 hz18) (by kernel_rfl) (by kernel_rfl)) ?_
      refine zlBool (d := 23) (op := (.cmpI .neq (.tmp 22) (.const (.int .i64 2)))) (g := (some (15, false))) (j := 11) (!decide (z18 = 2)) rfl (by kernel_rfl) (by kernel_rfl) (by kernel_rfl) (fun hc => ?_) (fun hc => ?_)
      · replace hS := cond_t hc hS
        refine zlRun (n := 8) (j := 19) rfl (by kernel_rfl) ?_
        refine zlEnd (by kernel_rfl) ?_
        refine zkSeq ?_
        refine zrRet ?_
        refine zkSeqR ?_
        refine zkNil ?_
        exact endQ hS hQ (fRet (by kernel_rfl) ((congrArg (fun s => outR s 0 c77.res) (by kernel_rfl : finSt c77.fin _ = f77_fin true)).trans (f77_out true)))
      · replace hS := cond_f hc hS
        refine zlRun (n := 4) (j := 15) rfl (by kernel_rfl) ?_
        refine bindE hS (fun z19 hz19 hS => ?_)
        refine zlOp (d := some 28) (op := (.callv (.tmp 26) [(.tmp 27)])) (g := (some (25, false))) (v := (.d (.bool z19))) (ups := []) (j := 16) rfl (by kernel_rfl) (by kernel_rfl) (ev_callv (f := 108) (cs := [(.r (.ptr 24 1 0))]) (by kernel_rfl) (args := [(.d (.int .i64 a2)), (.r (.ptr 24 1 0))]) (l := [(.d (.int .i64 a2)), (.rptr ((eSl e_GCell).enc a1 ++ []))]) (r := (.d (.bool z19))) (by kernel_rfl) (by kernel_rfl) (f108_ok (d - 1) (dpt hd rfl) a2 a1 [] z19 hz19) (by kernel_rfl) (by kernel_rfl) (by kernel_rfl)) ?_
        refine zlRun (n := 3) (j := 19) rfl (by kernel_rfl) ?_
        refine zlEnd (by kernel_rfl) ?_
        refine zkSeq ?_
        refine zrRet ?_
        refine zkSeqR ?_
        refine zkNil ?_
        exact endQ hS hQ (fRet (by kernel_rfl) ((congrArg (fun s => outR s 0 c77.res) (by kernel_rfl : finSt c77.fin _ = f77_fin (!z19))).trans (f77_out (!z19))))
  · replace hS := cond_f hc hS
    refine zlEnd (by kernel_rfl) ?_
    refine zkSeq ?_
    refine zrCondF (by kernel_rfl) ?_
    refine zrSkip ?_
    refine zkSeq ?_
    exact f77_j0_ok hd a1 a2 hQ  hS (by kernel_rfl)
/- farwriter/grid.Check -/
def f48_fin (p235 : Int) : St := ⟨(up (fun _ => .un) 2 (.d (.int .i64 p235))), (hB fun _ => 0)⟩
theorem f48_out (p235 : Int) : outR (f48_fin p235) 0 c48.res = some ((.d (.int .i64 p235)), []) := by
  kernel_rfl
def f48_Q (r : Int) (e : PX) (st : St) : Prop := DoneF c48 0 ((.d (.int .i64 r)), []) e st
def f48_l2_J (a1 : GGrid) (x : Int) : St := ⟨(up (up (up (fun _ => .un) 27 (.d (.int .i64 x))) 26 (.d (.int .i64 a1.High))) 1 (.r (.ptr 16 0 0))), (up (hB fun _ => 0) 16 ⟨0, some (.box ((.d (.int .i64 a1.Wide)) :: ((.d (.int .i64 a1.High)) :: ((.d (.sl a1.Cells.length (e_GCell.cells a1.Cells))) :: []))))⟩)⟩
def f48_l2_H (a1 : GGrid) (x : Int) (st : St) : Prop := keepSt [1, 26, 27] [(16, .id 16)] [] st = f48_l2_J a1 x
def f48_l2_e0_J (a1 : GGrid) : St := ⟨(fun _ => .un), (hB fun _ => 0)⟩
def f48_l2_X (a1 : GGrid) (z : Unit ⊕ Int) (e : PX) (st : St) : Prop := (match z with | .inl z => e = .exit 0 ∧ st = f48_l2_e0_J a1 | .inr z => e = .ret ∧ finSt c48.fin st = f48_fin z)
def f48_l2_l5_J (a1 : GGrid) (x : (List GCell) × Int × (List GCell) × Int × Int) : St := ⟨(up (up (up (up (up (up (up (fun _ => .un) 35 (.d (.int .i64 x.2.2.2.2))) 34 (.d (.int .i64 x.2.2.2.1))) 33 (.d (.sl x.2.2.1.length (e_GCell.cells x.2.2.1)))) 27 (.d (.int .i64 x.2.1))) 26 (.d (.int .i64 a1.High))) 5 (.d (.sl x.1.length (e_GCell.cells x.1)))) 1 (.r (.ptr 16 0 0))), (up (hB fun _ => 0) 16 ⟨0, some (.box ((.d (.int .i64 a1.Wide)) :: ((.d (.int .i64 a1.High)) :: ((.d (.sl a1.Cells.length (e_GCell.cells a1.Cells))) :: []))))⟩)⟩
def f48_l2_l5_H (a1 : GGrid) (x : (List GCell) × Int × (List GCell) × Int × Int) (st : St) : Prop := keepSt [1, 5, 26, 27, 33, 34, 35] [(16, .id 16)] [] st = f48_l2_l5_J a1 x
def f48_l2_l5_e2_J (a1 : GGrid) (p323 : Int) : St := ⟨(up (up (up (fun _ => .un) 27 (.d (.int .i64 p323))) 26 (.d (.int .i64 a1.High))) 1 (.r (.ptr 16 0 0))), (up (hB fun _ => 0) 16 ⟨0, some (.box ((.d (.int .i64 a1.Wide)) :: ((.d (.int .i64 a1.High)) :: ((.d (.sl a1.Cells.length (e_GCell.cells a1.Cells))) :: []))))⟩)⟩
def f48_l2_l5_X (a1 : GGrid) (z : Int ⊕ Int) (e : PX) (st : St) : Prop := (match z with | .inl z => e = .exit 2 ∧ st = f48_l2_l5_e2_J a1 z | .inr z => e = .ret ∧ finSt c48.fin st = f48_fin z)
def f48_l2_l5_j7_J (a1 : GGrid) (p336 : List GCell) (p337 : Int) (p338 : List GCell) (p339 : Int) (p340 : Int) : St := ⟨(up (up (up (up (up (up (up (fun _ => .un) 35 (.d (.int .i64 p340))) 34 (.d (.int .i64 p339))) 33 (.d (.sl p338.length (e_GCell.cells p338)))) 27 (.d (.int .i64 p337))) 26 (.d (.int .i64 a1.High))) 5 (.d (.sl p336.length (e_GCell.cells p336)))) 1 (.r (.ptr 16 0 0))), (up (hB fun _ => 0) 16 ⟨0, some (.box ((.d (.int .i64 a1.Wide)) :: ((.d (.int .i64 a1.High)) :: ((.d (.sl a1.Cells.length (e_GCell.cells a1.Cells))) :: []))))⟩)⟩
noncomputable def f48_l2_l5_j7 (a1 : GGrid) (p336 : List GCell) (p337 : Int) (p338 : List GCell) (p339 : Int) (p340 : Int) : Option (((List GCell) × Int × (List GCell) × Int × Int) ⊕ (Int ⊕ Int)) := ((idx p338 p340).bind fun z67 => ((f50 z67.Pen).bind fun z68 => (bif (!decide (z68 = 0)) then (some (.inr (.inr 4))) else (bif (!decide (z67.Rune = 0)) then ((f76 z67.Rune).bind fun z69 => (bif (decide (z69 = 0)) then (some (.inr (.inr 4))) else ((f77 p336 p340).bind fun z70 => (bif z70 then (some (.inr (.inr 4))) else (some (.inl (p336, p337, p338, p339, (IntKind.i64.wrap (p340 + 1))))))))) else ((f77 p336 p340).bind fun z71 => (bif z71 then (some (.inr (.inr 4))) else (some (.inl (p336, p337, p338, p339, (IntKind.i64.wrap (p340 + 1)))))))))))
theorem f48_l2_l5_j7_ok {d : Nat} (hd : 4 ≤ d) (a1 : GGrid) {r : ((List GCell) × Int × (List GCell) × Int × Int) ⊕ (Int ⊕ Int)} {Q : PX → St → Prop} (hQ : ∀ e st', finL (f48_l2_l5_H a1) (f48_l2_l5_X a1) r e st' → Q e st') (p336 : List GCell) (p337 : Int) (p338 : List GCell) (p339 : Int) (p340 : Int) (hS : f48_l2_l5_j7 a1 p336 p337 p338 p339 p340 = some r) {st : St} (he : keepSt [1, 5, 26, 27, 33, 34, 35] [(16, .id 16)] [] st = f48_l2_l5_j7_J a1 p336 p337 p338 p339 p340) : ZR (lev codes baseL (d - 1)) Q c48_1 [] st := by
  refine zrKeep he ?_
  unfold f48_l2_l5_j7 at hS
  refine zrSeq ?_
  refine zrBlk ?_
  refine zrSeq ?_
  refine zrReg ?_
  refine zlRun (n := 1) (j := 1) rfl (by kernel_rfl) ?_
  refine bindE hS (fun z67 hz67 hS => ?_)
  refine zlOp (d := some 38) (op := (.ixS 58 4 (.tmp 33) (.tmp 35))) (g := none) (v := (.rptr (e_GCell.enc z67 ++ (e_GCell.cells (p338.drop ((p340 : Int).toNat + 1)))))) (ups := []) (j := 2) rfl (by kernel_rfl) (by kernel_rfl) (ev_ixS e_GCell (kk := .i64) (xs := p338) (j := p340) (by kernel_rfl) (by kernel_rfl) hz67 rfl (by intro h; cases h)) ?_
  refine zlRun (n := 4) (j := 6) rfl (by kernel_rfl) ?_
  refine zlEnd (by kernel_rfl) ?_
  refine zkSeq ?_
  refine zrSeq ?_
  refine zrReg ?_
  refine zlRun (n := 2) (j := 2) rfl (by kernel_rfl) ?_
  refine bindE hS (fun z68 hz68 hS => ?_)
  refine zlOp (d := some 42) (op := (.call 50 [(.tmp 41)])) (g := none) (j := 3) rfl (by kernel_rfl) (by kernel_rfl) (ev_callA (by kernel_rfl) (f50_ok (d - 1) (dpt hd rfl) z67.Pen z68 hz68) (by kernel_rfl) (by kernel_rfl)) ?_
  refine zlBool (d := 43) (op := (.cmpI .neq (.tmp 42) (.const (.int .i64 0)))) (g := none) (j := 4) (!decide (z68 = 0)) rfl (by kernel_rfl) (by kernel_rfl) (by kernel_rfl) (fun hc => ?_) (fun hc => ?_)
  · replace hS := cond_t hc hS
    refine zlRun (n := 16) (j := 20) rfl (by kernel_rfl) ?_
    refine zlEnd (by kernel_rfl) ?_
    refine zkSeq ?_
    refine zrCondT (by kernel_rfl) ?_
    refine zrSeq ?_
    refine zrReg ?_
    refine zlRun (n := 1) (j := 1) rfl (by kernel_rfl) ?_
    refine zlEnd (by kernel_rfl) ?_
    refine zkSeq ?_
    refine zrRet ?_
    refine zkBlkR ?_
    refine zkSeqR ?_
    refine zkNil ?_
    exact endQ hS hQ (finL_x (by intro h; cases h) (by show _ = _ ∧ _ = _; exact ⟨rfl, by kernel_rfl⟩))
  · replace hS := cond_f hc hS
    refine zlRun (n := 3) (j := 7) rfl (by kernel_rfl) ?_
    refine zlBool (d := 47) (op := (.cmpI .neq (.tmp 46) (.const (.int .i64 0)))) (g := (some (44, false))) (j := 8) (!decide (z67.Rune = 0)) rfl (by kernel_rfl) (by kernel_rfl) (by kernel_rfl) (fun hc => ?_) (fun hc => ?_)
    · replace hS := cond_t hc hS
      refine zlRun (n := 3) (j := 11) rfl (by kernel_rfl) ?_
      refine bindE hS (fun z69 hz69 hS => ?_)
      refine zlOp (d := some 51) (op := (.call 76 [(.tmp 50)])) (g := (some (48, true))) (j := 12) rfl (by kernel_rfl) (by kernel_rfl) (ev_callA (by kernel_rfl) (f76_ok (d - 1) (dpt hd rfl) z67.Rune z69 hz69) (by kernel_rfl) (by kernel_rfl)) ?_
      refine zlBool (d := 52) (op := (.cmpI .eql (.tmp 51) (.const (.int .i64 0)))) (g := (some (48, true))) (j := 13) (decide (z69 = 0)) rfl (by kernel_rfl) (by kernel_rfl) (by kernel_rfl) (fun hc => ?_) (fun hc => ?_)
      · replace hS := cond_t hc hS
        refine zlRun (n := 7) (j := 20) rfl (by kernel_rfl) ?_
        refine zlEnd (by kernel_rfl) ?_
        refine zkSeq ?_
        refine zrCondT (by kernel_rfl) ?_
        refine zrSeq ?_
        refine zrReg ?_
        refine zlRun (n := 1) (j := 1) rfl (by kernel_rfl) ?_
        refine zlEnd (by kernel_rfl) ?_
        refine zkSeq ?_
        refine zrRet ?_
        refine zkBlkR ?_
        refine zkSeqR ?_
        refine zkNil ?_
        exact endQ hS hQ (finL_x (by intro h; cases h) (by show _ = _ ∧ _ = _; exact ⟨rfl, by kernel_rfl⟩))
      · replace hS := cond_f hc hS
        refine zlRun (n := 5) (j := 18) rfl (by kernel_rfl) ?_
        refine bindE hS (fun z70 hz70 hS => ?_)
        refine zlOp (d := some 58) (op := (.call 77 [(.tmp 56), (.tmp 57)])) (g := (some (55, false))) (j := 19) rfl (by kernel_rfl) (by kernel_rfl) (ev_callA (by kernel_rfl) (f77_ok (d - 1) (dpt hd rfl) p336 p340 z70 hz70) (by kernel_rfl) (by kernel_rfl)) ?_
        refine zlRun (n := 1) (j := 20) rfl (by kernel_rfl) ?_
        refine zlEnd (by kernel_rfl) ?_
        refine zkSeq ?_
        refine zrSplit 59 z70 (by kernel_rfl) (fun hc => ?_) (fun hc => ?_)
        · replace hS := cond_t hc hS
          refine zrCondT (by kernel_rfl) ?_
          refine zrSeq ?_
          refine zrReg ?_
          refine zlRun (n := 1) (j := 1) rfl (by kernel_rfl) ?_
          refine zlEnd (by kernel_rfl) ?_
          refine zkSeq ?_
          refine zrRet ?_
          refine zkBlkR ?_
          refine zkSeqR ?_
          refine zkNil ?_
          exact endQ hS hQ (finL_x (by intro h; cases h) (by show _ = _ ∧ _ = _; exact ⟨rfl, by kernel_rfl⟩))
        · replace hS := cond_f hc hS
          refine zrCondF (by kernel_rfl) ?_
          refine zrSkip ?_
          refine zkBlk ?_
          refine zkSeq ?_
          refine zrReg ?_
          refine zlRun (n := 2) (j := 2) rfl (by kernel_rfl) ?_
          refine zlEnd (by kernel_rfl) ?_
          refine zkNil ?_
          exact endQ hS hQ (finL_n (by show keepSt _ _ _ _ = _; kernel_rfl))
    · replace hS := cond_f hc hS
      refine zlRun (n := 10) (j := 18) rfl (by kernel_rfl) ?_
      refine bindE hS (fun z71 hz71 hS => ?_)
      refine zlOp (d := some 58) (op := (.call 77 [(.tmp 56), (.tmp 57)])) (g := (some (55, false))) (j := 19) rfl (by kernel_rfl) (by kernel_rfl) (ev_callA (by kernel_rfl) (f77_ok (d - 1) (dpt hd rfl) p336 p340 z71 hz71) (by kernel_rfl) (by kernel_rfl)) ?_
      refine zlRun (n := 1) (j := 20) rfl (by kernel_rfl) ?_
      refine zlEnd (by kernel_rfl) ?_
      refine zkSeq ?_
      refine zrSplit 59 z71 (by kernel_rfl) (fun hc => ?_) (fun hc => ?_)
      · replace hS := cond_t hc hS
        refine zrCondT (by kernel_rfl) ?_
        refine zrSeq ?_
        refine zrReg ?_
        refine zlRun (n := 1) (j := 1) rfl (by kernel_rfl) ?_
        refine zlEnd (by kernel_rfl) ?_
        refine zkSeq ?_
        refine zrRet ?_
        refine zkBlkR ?_
        refine zkSeqR ?_
        refine zkNil ?_
        exact endQ hS hQ (finL_x (by intro h; cases h) (by show _ = _ ∧ _ = _; exact ⟨rfl, by kernel_rfl⟩))
      · replace hS := cond_f hc hS
        refine zrCondF (by kernel_rfl) ?_
        refine zrSkip ?_
        refine zkBlk ?_
        refine zkSeq ?_
        refine zrReg ?_
        refine zlRun (n := 2) (j := 2) rfl (by kernel_rfl) ?_
        refine zlEnd (by kernel_rfl) ?_
        refine zkNil ?_
        exact endQ hS hQ (finL_n (by show keepSt _ _ _ _ = _; kernel_rfl))
def f48_l2_l5_j6_J (a1 : GGrid) (p330 : List GCell) (p331 : Int) (p332 : List GCell) (p333 : Int) (p334 : Int) (p335 : Bool) : St := ⟨(up (up (up (up (up (up (up (up (fun _ => .un) 36 (.d (.bool p335))) 35 (.d (.int .i64 p334))) 34 (.d (.int .i64 p333))) 33 (.d (.sl p332.length (e_GCell.cells p332)))) 27 (.d (.int .i64 p331))) 26 (.d (.int .i64 a1.High))) 5 (.d (.sl p330.length (e_GCell.cells p330)))) 1 (.r (.ptr 16 0 0))), (up (hB fun _ => 0) 16 ⟨0, some (.box ((.d (.int .i64 a1.Wide)) :: ((.d (.int .i64 a1.High)) :: ((.d (.sl a1.Cells.length (e_GCell.cells a1.Cells))) :: []))))⟩)⟩
noncomputable def f48_l2_l5_j6 (a1 : GGrid) (p330 : List GCell) (p331 : Int) (p332 : List GCell) (p333 : Int) (p334 : Int) (p335 : Bool) : Option (((List GCell) × Int × (List GCell) × Int × Int) ⊕ (Int ⊕ Int)) := (bif p335 then (f48_l2_l5_j7 a1 p330 p331 p332 p333 p334) else (some (.inr (.inl p331))))
theorem f48_l2_l5_j6_ok {d : Nat} (hd : 4 ≤ d) (a1 : GGrid) {r : ((List GCell) × Int × (List GCell) × Int × Int) ⊕ (Int ⊕ Int)} {Q : PX → St → Prop} (hQ : ∀ e st', finL (f48_l2_l5_H a1) (f48_l2_l5_X a1) r e st' → Q e st') (p330 : List GCell) (p331 : Int) (p332 : List GCell) (p333 : Int) (p334 : Int) (p335 : Bool) (hS : f48_l2_l5_j6 a1 p330 p331 p332 p333 p334 p335 = some r) {st : St} (he : keepSt [1, 5, 26, 27, 33, 34, 35, 36] [(16, .id 16)] [] st = f48_l2_l5_j6_J a1 p330 p331 p332 p333 p334 p335) : ZR (lev codes baseL (d - 1)) Q c48_2 [] st := by
  refine zrKeep he ?_
  unfold f48_l2_l5_j6 at hS
  refine zrSeq ?_
  refine zrSplit 36 p335 (by kernel_rfl) (fun hc => ?_) (fun hc => ?_)
  · replace hS := cond_t hc hS
    refine zrCondT (by kernel_rfl) ?_
    refine zrSkip ?_
    refine zkSeq ?_
    exact f48_l2_l5_j7_ok hd a1 hQ p330 p331 p332 p333 p334 hS (by kernel_rfl)
  · replace hS := cond_f hc hS
    refine zrCondF (by kernel_rfl) ?_
    refine zrKeep (J := f48_l2_l5_e2_J a1 p331) (by kernel_rfl) ?_
    refine zrExit ?_
    refine zkSeqX ?_
    refine zkNil ?_
    exact endQ hS hQ (finL_x (by intro h; cases h) (by show _ = _ ∧ _ = _; exact ⟨rfl, rfl⟩))
noncomputable def f48_l2_l5 (a1 : GGrid) (x : (List GCell) × Int × (List GCell) × Int × Int) : Option (((List GCell) × Int × (List GCell) × Int × Int) ⊕ (Int ⊕ Int)) := (bif (decide (x.2.2.2.2 < x.2.2.2.1)) then (f48_l2_l5_j6 a1 x.1 x.2.1 x.2.2.1 x.2.2.2.1 x.2.2.2.2 true) else (f48_l2_l5_j6 a1 x.1 x.2.1 x.2.2.1 x.2.2.2.1 x.2.2.2.2 false))
theorem f48_l2_l5_ok {d : Nat} (hd : 4 ≤ d) (a1 : GGrid) {r : ((List GCell) × Int × (List GCell) × Int × Int) ⊕ (Int ⊕ Int)} {Q : PX → St → Prop} (hQ : ∀ e st', finL (f48_l2_l5_H a1) (f48_l2_l5_X a1) r e st' → Q e st') {x : (List GCell) × Int × (List GCell) × Int × Int} (hS : f48_l2_l5 a1 x = some r) {st : St} (he : f48_l2_l5_H a1 x st) : ZR (lev codes baseL (d - 1)) Q c48_3 [] st := by
  refine zrKeep he ?_
  unfold f48_l2_l5 at hS
  refine zrSeq ?_
  refine zrReg ?_
  refine zlBool (d := 36) (op := (.cmpI .lss (.tmp 35) (.tmp 34))) (g := none) (j := 1) (decide (x.2.2.2.2 < x.2.2.2.1)) rfl (by kernel_rfl) (by kernel_rfl) (by kernel_rfl) (fun hc => ?_) (fun hc => ?_)
  · replace hS := cond_t hc hS
    refine zlEnd (by kernel_rfl) ?_
    refine zkSeq ?_
    exact f48_l2_l5_j6_ok hd a1 hQ x.1 x.2.1 x.2.2.1 x.2.2.2.1 x.2.2.2.2 true hS (by kernel_rfl)
  · replace hS := cond_f hc hS
    refine zlEnd (by kernel_rfl) ?_
    refine zkSeq ?_
    exact f48_l2_l5_j6_ok hd a1 hQ x.1 x.2.1 x.2.2.1 x.2.2.2.1 x.2.2.2.2 false hS (by kernel_rfl)
def f48_l2_j4_J (a1 : GGrid) (p243 : Int) : St := ⟨(up (up (up (fun _ => .un) 27 (.d (.int .i64 p243))) 26 (.d (.int .i64 a1.High))) 1 (.r (.ptr 16 0 0))), (up (hB fun _ => 0) 16 ⟨0, some (.box ((.d (.int .i64 a1.Wide)) :: ((.d (.int .i64 a1.High)) :: ((.d (.sl a1.Cells.length (e_GCell.cells a1.Cells))) :: []))))⟩)⟩
noncomputable def f48_l2_j4 (a1 : GGrid) (p243 : Int) : Option (Int ⊕ (Unit ⊕ Int)) := ((f75 a1 p243).bind fun z51 => ((loopO (f48_l2_l5 a1) (z51, p243, z51, (z51.length : Int), 0)).bind fun z72 => (Sum.elim (fun z73 => (some (.inl (IntKind.i64.wrap (z73 + 1))))) (fun z74 => (some (.inr (.inr z74)))) z72)))
theorem f48_l2_j4_ok {d : Nat} (hd : 4 ≤ d) (a1 : GGrid) {r : Int ⊕ (Unit ⊕ Int)} {Q : PX → St → Prop} (hQ : ∀ e st', finL (f48_l2_H a1) (f48_l2_X a1) r e st' → Q e st') (p243 : Int) (hS : f48_l2_j4 a1 p243 = some r) {st : St} (he : keepSt [1, 26, 27] [(16, .id 16)] [] st = f48_l2_j4_J a1 p243) : ZR (lev codes baseL (d - 1)) Q c48_4 [] st := by
  refine zrKeep he ?_
  unfold f48_l2_j4 at hS
  refine zrSeq ?_
  refine zrBlk ?_
  refine zrSeq ?_
  refine zrReg ?_
  refine zlRun (n := 2) (j := 2) rfl (by kernel_rfl) ?_
  refine zlEnd (by kernel_rfl) ?_
  refine zkSeq ?_
  refine zrSeq ?_
  refine zrReg ?_
  refine zlRun (n := 2) (j := 2) rfl (by kernel_rfl) ?_
  refine bindE hS (fun z51 hz51 hS => ?_)
  refine zlOp (d := some 32) (op := (.callr 75 [(.tmp 30), (.tmp 31)])) (g := none) (j := 3) rfl (by kernel_rfl) (by kernel_rfl) (ev_callrXA (ids := []) (bs := []) (by kernel_rfl) (by kernel_rfl) (by kernel_rfl) (by kernel_rfl) (f75_ok (d - 1) (dpt hd rfl) a1 p243 z51 hz51) (by kernel_rfl) sm_nil (by kernel_rfl)) ?_
  refine zlRun (n := 1) (j := 4) rfl (by kernel_rfl) ?_
  refine zlEnd (by kernel_rfl) ?_
  refine zkSeq ?_
  refine zrSeq ?_
  refine zrReg ?_
  refine zlRun (n := 3) (j := 3) rfl (by kernel_rfl) ?_
  refine zlEnd (by kernel_rfl) ?_
  refine zkSeq ?_
  refine zrBlk ?_
  refine bindE hS (fun z72 hz72 hS => ?_)
  refine zrLoop (f48_l2_l5_H a1) (f48_l2_l5_X a1) (fun x st r Q h0 hS hQ => f48_l2_l5_ok hd a1 hQ hS h0) (x := (z51, p243, z51, (z51.length : Int), 0)) (z := z72) (by show keepSt _ _ _ _ = _; kernel_rfl) hz72 ?_
  rcases z72 with z73 | z74
  · replace hS := (show _ = _ from hS)
    simp only [Sum.elim_inl] at hS
    intro e st' _ hX
    obtain ⟨rfl, rfl⟩ : _ ∧ _ := hX
    refine zkBlkX ?_
    refine zkBlk ?_
    refine zkSeq ?_
    refine zrReg ?_
    refine zlRun (n := 2) (j := 2) rfl (by kernel_rfl) ?_
    refine zlEnd (by kernel_rfl) ?_
    refine zkNil ?_
    exact endQ hS hQ (finL_n (by show keepSt _ _ _ _ = _; kernel_rfl))
  · simp only [Sum.elim_inr] at hS
    intro e st' _ hX
    obtain ⟨rfl, hX⟩ : _ ∧ _ := hX
    refine zkBlkR ?_
    refine zkBlkR ?_
    refine zkSeqR ?_
    refine zkNil ?_
    exact endQ hS hQ (finL_x (by intro h; cases h) (by show _ = _ ∧ _ = _; exact ⟨rfl, hX⟩))
def f48_l2_j3_J (a1 : GGrid) (p241 : Int) (p242 : Bool) : St := ⟨(up (up (up (up (fun _ => .un) 28 (.d (.bool p242))) 27 (.d (.int .i64 p241))) 26 (.d (.int .i64 a1.High))) 1 (.r (.ptr 16 0 0))), (up (hB fun _ => 0) 16 ⟨0, some (.box ((.d (.int .i64 a1.Wide)) :: ((.d (.int .i64 a1.High)) :: ((.d (.sl a1.Cells.length (e_GCell.cells a1.Cells))) :: []))))⟩)⟩
noncomputable def f48_l2_j3 (a1 : GGrid) (p241 : Int) (p242 : Bool) : Option (Int ⊕ (Unit ⊕ Int)) := (bif p242 then (f48_l2_j4 a1 p241) else (some (.inr (.inl ()))))
theorem f48_l2_j3_ok {d : Nat} (hd : 4 ≤ d) (a1 : GGrid) {r : Int ⊕ (Unit ⊕ Int)} {Q : PX → St → Prop} (hQ : ∀ e st', finL (f48_l2_H a1) (f48_l2_X a1) r e st' → Q e st') (p241 : Int) (p242 : Bool) (hS : f48_l2_j3 a1 p241 p242 = some r) {st : St} (he : keepSt [1, 26, 27, 28] [(16, .id 16)] [] st = f48_l2_j3_J a1 p241 p242) : ZR (lev codes baseL (d - 1)) Q c48_5 [] st := by
  refine zrKeep he ?_
  unfold f48_l2_j3 at hS
  refine zrSeq ?_
  refine zrSplit 28 p242 (by kernel_rfl) (fun hc => ?_) (fun hc => ?_)
  · replace hS := cond_t hc hS
    refine zrCondT (by kernel_rfl) ?_
    refine zrSkip ?_
    refine zkSeq ?_
    exact f48_l2_j4_ok hd a1 hQ p241 hS (by kernel_rfl)
  · replace hS := cond_f hc hS
    refine zrCondF (by kernel_rfl) ?_
    refine zrKeep (J := f48_l2_e0_J a1) (by kernel_rfl) ?_
    refine zrExit ?_
    refine zkSeqX ?_
    refine zkNil ?_
    exact endQ hS hQ (finL_x (by intro h; cases h) (by show _ = _ ∧ _ = _; exact ⟨rfl, rfl⟩))
noncomputable def f48_l2 (a1 : GGrid) (x : Int) : Option (Int ⊕ (Unit ⊕ Int)) := (bif (decide (x < a1.High)) then (f48_l2_j3 a1 x true) else (f48_l2_j3 a1 x false))
theorem f48_l2_ok {d : Nat} (hd : 4 ≤ d) (a1 : GGrid) {r : Int ⊕ (Unit ⊕ Int)} {Q : PX → St → Prop} (hQ : ∀ e st', finL (f48_l2_H a1) (f48_l2_X a1) r e st' → Q e st') {x : Int} (hS : f48_l2 a1 x = some r) {st : St} (he : f48_l2_H a1 x st) : ZR (lev codes baseL (d - 1)) Q c48_6 [] st := by
  refine zrKeep he ?_
  unfold f48_l2 at hS
  refine zrSeq ?_
  refine zrReg ?_
  refine zlBool (d := 28) (op := (.cmpI .lss (.tmp 27) (.tmp 26))) (g := none) (j := 1) (decide (x < a1.High)) rfl (by kernel_rfl) (by kernel_rfl) (by kernel_rfl) (fun hc => ?_) (fun hc => ?_)
  · replace hS := cond_t hc hS
    refine zlEnd (by kernel_rfl) ?_
    refine zkSeq ?_
    exact f48_l2_j3_ok hd a1 hQ x true hS (by kernel_rfl)
  · replace hS := cond_f hc hS
    refine zlEnd (by kernel_rfl) ?_
    refine zkSeq ?_
    exact f48_l2_j3_ok hd a1 hQ x false hS (by kernel_rfl)
def f48_j1_J (a1 : GGrid) : St := ⟨(up (fun _ => .un) 1 (.r (.ptr 16 0 0))), (up (hB fun _ => 0) 16 ⟨0, some (.box ((.d (.int .i64 a1.Wide)) :: ((.d (.int .i64 a1.High)) :: ((.d (.sl a1.Cells.length (e_GCell.cells a1.Cells))) :: []))))⟩)⟩
noncomputable def f48_j1 (a1 : GGrid) : Option (Int) := ((loopO (f48_l2 a1) 0).bind fun z75 => (Sum.elim (fun z76 => (some 0)) (fun z77 => (some z77)) z75))
theorem f48_j1_ok {d : Nat} (hd : 4 ≤ d) (a1 : GGrid) {r : Int} {Q : PX → St → Prop} (hQ : ∀ e st', f48_Q r e st' → Q e st')  (hS : f48_j1 a1 = some r) {st : St} (he : keepSt [1] [(16, .id 16)] [] st = f48_j1_J a1) : ZR (lev codes baseL (d - 1)) Q c48_7 [] st := by
  refine zrKeep he ?_
  unfold f48_j1 at hS
  refine zrSeq ?_
  refine zrSeq ?_
  refine zrReg ?_
  refine zlRun (n := 3) (j := 3) rfl (by kernel_rfl) ?_
  refine zlEnd (by kernel_rfl) ?_
  refine zkSeq ?_
  refine zrBlk ?_
  refine bindE hS (fun z75 hz75 hS => ?_)
  refine zrLoop (f48_l2_H a1) (f48_l2_X a1) (fun x st r Q h0 hS hQ => f48_l2_ok hd a1 hQ hS h0) (x := 0) (z := z75) (by show keepSt _ _ _ _ = _; kernel_rfl) hz75 ?_
  rcases z75 with z76 | z77
  · replace hS := (show _ = _ from hS)
    simp only [Sum.elim_inl] at hS
    intro e st' _ hX
    obtain ⟨rfl, rfl⟩ : _ ∧ _ := hX
    refine zkBlkX ?_
    refine zkSeq ?_
    refine zrSeq ?_
    refine zrReg ?_
    refine zlRun (n := 1) (j := 1) rfl (by kernel_rfl) ?_
    refine zlEnd (by kernel_rfl) ?_
    refine zkSeq ?_
    refine zrRet ?_
    refine zkNil ?_
    exact endQ hS hQ (fRet (by kernel_rfl) ((congrArg (fun s => outR s 0 c48.res) (by kernel_rfl : finSt c48.fin _ = f48_fin 0)).trans (f48_out 0)))
  · simp only [Sum.elim_inr] at hS
    intro e st' _ hX
    obtain ⟨rfl, hX⟩ : _ ∧ _ := hX
    refine zkBlkR ?_
    refine zkSeqR ?_
    refine zkNil ?_
    exact endQ hS hQ (fRet (by kernel_rfl) ((congrArg (fun s => outR s 0 c48.res) hX).trans (f48_out z77)))
def f48_j0_J (a1 : GGrid) : St := ⟨(up (fun _ => .un) 1 (.r (.ptr 16 0 0))), (up (hB fun _ => 0) 16 ⟨0, some (.box ((.d (.int .i64 a1.Wide)) :: ((.d (.int .i64 a1.High)) :: ((.d (.sl a1.Cells.length (e_GCell.cells a1.Cells))) :: []))))⟩)⟩
noncomputable def f48_j0 (a1 : GGrid) : Option (Int) := (bif (!decide ((a1.Cells.length : Int) = (IntKind.i64.wrap (a1.Wide * a1.High)))) then (some 4) else (f48_j1 a1 ))
theorem f48_j0_ok {d : Nat} (hd : 4 ≤ d) (a1 : GGrid) {r : Int} {Q : PX → St → Prop} (hQ : ∀ e st', f48_Q r e st' → Q e st')  (hS : f48_j0 a1 = some r) {st : St} (he : keepSt [1] [(16, .id 16)] [] st = f48_j0_J a1) : ZR (lev codes baseL (d - 1)) Q c48_8 [] st := by
  refine zrKeep he ?_
  unfold f48_j0 at hS
  refine zrSeq ?_
  refine zrSeq ?_
  refine zrReg ?_
  refine zlRun (n := 8) (j := 8) rfl (by kernel_rfl) ?_
  refine zlBool (d := 24) (op := (.cmpI .neq (.tmp 18) (.tmp 23))) (g := none) (j := 9) (!decide ((a1.Cells.length : Int) = (IntKind.i64.wrap (a1.Wide * a1.High)))) rfl (by kernel_rfl) (by kernel_rfl) (by kernel_rfl) (fun hc => ?_) (fun hc => ?_)
  · replace hS := cond_t hc hS
    refine zlEnd (by kernel_rfl) ?_
    refine zkSeq ?_
    refine zrCondT (by kernel_rfl) ?_
    refine zrSeq ?_
    refine zrReg ?_
    refine zlRun (n := 1) (j := 1) rfl (by kernel_rfl) ?_
    refine zlEnd (by kernel_rfl) ?_
    refine zkSeq ?_
    refine zrRet ?_
    refine zkSeqR ?_
    refine zkNil ?_
    exact endQ hS hQ (fRet (by kernel_rfl) ((congrArg (fun s => outR s 0 c48.res) (by kernel_rfl : finSt c48.fin _ = f48_fin 4)).trans (f48_out 4)))
  · replace hS := cond_f hc hS
    refine zlEnd (by kernel_rfl) ?_
    refine zkSeq ?_
    refine zrCondF (by kernel_rfl) ?_
    refine zrSkip ?_
    refine zkSeq ?_
    exact f48_j1_ok hd a1 hQ  hS (by kernel_rfl)
noncomputable def f48 (a1 : GGrid) : Option (Int) := ((f74 a1.Wide a1.High).bind fun z78 => (bif (!decide (z78 = 0)) then (some z78) else (f48_j0 a1 )))
theorem f48_ok (d : Nat) (hd : 4 ≤ d) (a1 : GGrid) (r : Int) (hS : f48 a1 = some r) : lev codes baseL d 48 [(.agg ((.d (.int .i64 a1.Wide)) :: ((.d (.int .i64 a1.High)) :: ((.d (.sl a1.Cells.length (e_GCell.cells a1.Cells))) :: []))))] [] = some ((.d (.int .i64 r)), []) := by
  refine lev_go codes48 rfl rfl (Nat.le_trans (Nat.le_of_ble_eq_true rfl) hd) fun Q hQ => ?_
  unfold f48 at hS
  show ZR _ Q c48_b [] _
  replace hQ : ∀ e st', f48_Q r e st' → Q e st' := hQ
  refine zrSeq ?_
  refine zrReg ?_
  refine zlRun (n := 2) (j := 2) rfl (by kernel_rfl) ?_
  refine zlEnd (by kernel_rfl) ?_
  refine zkSeq ?_
  refine zrSeq ?_
  refine zrSeq ?_
  refine zrReg ?_
  refine zlRun (n := 4) (j := 4) rfl (by kernel_rfl) ?_
  refine bindE hS (fun z78 hz78 hS => ?_)
  refine zlOp (d := some 12) (op := (.call 74 [(.tmp 9), (.tmp 11)])) (g := none) (j := 5) rfl (by kernel_rfl) (by kernel_rfl) (ev_callA (by kernel_rfl) (f74_ok (d - 1) (dpt hd rfl) a1.Wide a1.High z78 hz78) (by kernel_rfl) (by kernel_rfl)) ?_
  refine zlRun (n := 1) (j := 6) rfl (by kernel_rfl) ?_
  refine zlEnd (by kernel_rfl) ?_
  refine zkSeq ?_
  refine zrSeq ?_
  refine zrReg ?_
  refine zlRun (n := 1) (j := 1) rfl (by kernel_rfl) ?_
  refine zlBool (d := 14) (op := (.cmpI .neq (.tmp 13) (.const (.int .i64 0)))) (g := none) (j := 2) (!decide (z78 = 0)) rfl (by kernel_rfl) (by kernel_rfl) (by kernel_rfl) (fun hc => ?_) (fun hc => ?_)
  · replace hS := cond_t hc hS
    refine zlEnd (by kernel_rfl) ?_
    refine zkSeq ?_
    refine zrCondT (by kernel_rfl) ?_
    refine zrSeq ?_
    refine zrReg ?_
    refine zlRun (n := 2) (j := 2) rfl (by kernel_rfl) ?_
    refine zlEnd (by kernel_rfl) ?_
    refine zkSeq ?_
    refine zrRet ?_
    refine zkSeqR ?_
    refine zkNil ?_
    exact endQ hS hQ (fRet (by kernel_rfl) ((congrArg (fun s => outR s 0 c48.res) (by kernel_rfl : finSt c48.fin _ = f48_fin z78)).trans (f48_out z78)))
  · replace hS := cond_f hc hS
    refine zlEnd (by kernel_rfl) ?_
    refine zkSeq ?_
    refine zrCondF (by kernel_rfl) ?_
    refine zrSkip ?_
    refine zkSeq ?_
    exact f48_j0_ok hd a1 hQ  hS (by kernel_rfl)
/- farwriter/screen.within -/
def f49_fin (p3 : Bool) : St := ⟨(up (fun _ => .un) 6 (.d (.bool p3))), (hB fun _ => 0)⟩
theorem f49_out (p3 : Bool) : outR (f49_fin p3) 0 c49.res = some ((.d (.bool p3)), []) := by
  kernel_rfl
def f49_Q (r : Bool) (e : PX) (st : St) : Prop := DoneF c49 0 ((.d (.bool r)), []) e st
noncomputable def f49 (a1 : Int) (a2 : Int) (a3 : Int) : Option (Bool) := (bif (decide (a2 ≤ a1)) then (bif (decide (a1 ≤ a3)) then (some true) else (some false)) else (some false))
theorem f49_ok (d : Nat) (hd : 1 ≤ d) (a1 : Int) (a2 : Int) (a3 : Int) (r : Bool) (hS : f49 a1 a2 a3 = some r) : lev codes baseL d 49 [(.d (.int .i64 a1)), (.d (.int .i64 a2)), (.d (.int .i64 a3))] [] = some ((.d (.bool r)), []) := by
  refine lev_go codes49 rfl rfl (Nat.le_trans (Nat.le_of_ble_eq_true rfl) hd) fun Q hQ => ?_
  unfold f49 at hS
  show ZR _ Q c49_b [] _
  replace hQ : ∀ e st', f49_Q r e st' → Q e st' := hQ
  refine zrSeq ?_
  refine zrReg ?_
  refine zlRun (n := 1) (j := 1) rfl (by kernel_rfl) ?_
  refine zlEnd (by kernel_rfl) ?_
  refine zkSeq ?_
  refine zrSeq ?_
  refine zrReg ?_
  refine zlRun (n := 2) (j := 2) rfl (by kernel_rfl) ?_
  refine zlBool (d := 9) (op := (.cmpI .geq (.tmp 7) (.tmp 8))) (g := none) (j := 3) (decide (a2 ≤ a1)) rfl (by kernel_rfl) (by kernel_rfl) (by kernel_rfl) (fun hc => ?_) (fun hc => ?_)
  · replace hS := cond_t hc hS
    refine zlRun (n := 3) (j := 6) rfl (by kernel_rfl) ?_
    refine zlBool (d := 13) (op := (.cmpI .leq (.tmp 11) (.tmp 12))) (g := (some (10, true))) (j := 7) (decide (a1 ≤ a3)) rfl (by kernel_rfl) (by kernel_rfl) (by kernel_rfl) (fun hc => ?_) (fun hc => ?_)
    · replace hS := cond_t hc hS
      refine zlRun (n := 2) (j := 9) rfl (by kernel_rfl) ?_
      refine zlEnd (by kernel_rfl) ?_
      refine zkSeq ?_
      refine zrRet ?_
      refine zkNil ?_
      exact endQ hS hQ (fRet (by kernel_rfl) ((congrArg (fun s => outR s 0 c49.res) (by kernel_rfl : finSt c49.fin _ = f49_fin true)).trans (f49_out true)))
    · replace hS := cond_f hc hS
      refine zlRun (n := 2) (j := 9) rfl (by kernel_rfl) ?_
      refine zlEnd (by kernel_rfl) ?_
      refine zkSeq ?_
      refine zrRet ?_
      refine zkNil ?_
      exact endQ hS hQ (fRet (by kernel_rfl) ((congrArg (fun s => outR s 0 c49.res) (by kernel_rfl : finSt c49.fin _ = f49_fin false)).trans (f49_out false)))
  · replace hS := cond_f hc hS
    refine zlRun (n := 6) (j := 9) rfl (by kernel_rfl) ?_
    refine zlEnd (by kernel_rfl) ?_
    refine zkSeq ?_
    refine zrRet ?_
    refine zkNil ?_
    exact endQ hS hQ (fRet (by kernel_rfl) ((congrArg (fun s => outR s 0 c49.res) (by kernel_rfl : finSt c49.fin _ = f49_fin false)).trans (f49_out false)))
/- farwriter/page.Known -/
def f51_fin (p3 : Bool) : St := ⟨(up (fun _ => .un) 2 (.d (.bool p3))), (hB fun _ => 0)⟩
theorem f51_out (p3 : Bool) : outR (f51_fin p3) 0 c51.res = some ((.d (.bool p3)), []) := by
  kernel_rfl
def f51_Q (r : Bool) (e : PX) (st : St) : Prop := DoneF c51 0 ((.d (.bool r)), []) e st
noncomputable def f51 (a1 : Int) : Option (Bool) := (bif (decide (1 ≤ a1)) then (bif (decide (a1 ≤ 4)) then (some true) else (some false)) else (some false))
theorem f51_ok (d : Nat) (hd : 1 ≤ d) (a1 : Int) (r : Bool) (hS : f51 a1 = some r) : lev codes baseL d 51 [(.d (.int .i64 a1))] [] = some ((.d (.bool r)), []) := by
  refine lev_go codes51 rfl rfl (Nat.le_trans (Nat.le_of_ble_eq_true rfl) hd) fun Q hQ => ?_
  unfold f51 at hS
  show ZR _ Q c51_b [] _
  replace hQ : ∀ e st', f51_Q r e st' → Q e st' := hQ
  refine zrSeq ?_
  refine zrReg ?_
  refine zlRun (n := 1) (j := 1) rfl (by kernel_rfl) ?_
  refine zlEnd (by kernel_rfl) ?_
  refine zkSeq ?_
  refine zrSeq ?_
  refine zrReg ?_
  refine zlRun (n := 1) (j := 1) rfl (by kernel_rfl) ?_
  refine zlBool (d := 4) (op := (.cmpI .geq (.tmp 3) (.const (.int .i64 1)))) (g := none) (j := 2) (decide (1 ≤ a1)) rfl (by kernel_rfl) (by kernel_rfl) (by kernel_rfl) (fun hc => ?_) (fun hc => ?_)
  · replace hS := cond_t hc hS
    refine zlRun (n := 2) (j := 4) rfl (by kernel_rfl) ?_
    refine zlBool (d := 7) (op := (.cmpI .leq (.tmp 6) (.const (.int .i64 4)))) (g := (some (5, true))) (j := 5) (decide (a1 ≤ 4)) rfl (by kernel_rfl) (by kernel_rfl) (by kernel_rfl) (fun hc => ?_) (fun hc => ?_)
    · replace hS := cond_t hc hS
      refine zlRun (n := 2) (j := 7) rfl (by kernel_rfl) ?_
      refine zlEnd (by kernel_rfl) ?_
      refine zkSeq ?_
      refine zrRet ?_
      refine zkNil ?_
      exact endQ hS hQ (fRet (by kernel_rfl) ((congrArg (fun s => outR s 0 c51.res) (by kernel_rfl : finSt c51.fin _ = f51_fin true)).trans (f51_out true)))
    · replace hS := cond_f hc hS
      refine zlRun (n := 2) (j := 7) rfl (by kernel_rfl) ?_
      refine zlEnd (by kernel_rfl) ?_
      refine zkSeq ?_
      refine zrRet ?_
      refine zkNil ?_
      exact endQ hS hQ (fRet (by kernel_rfl) ((congrArg (fun s => outR s 0 c51.res) (by kernel_rfl : finSt c51.fin _ = f51_fin false)).trans (f51_out false)))
  · replace hS := cond_f hc hS
    refine zlRun (n := 5) (j := 7) rfl (by kernel_rfl) ?_
    refine zlEnd (by kernel_rfl) ?_
    refine zkSeq ?_
    refine zrRet ?_
    refine zkNil ?_
    exact endQ hS hQ (fRet (by kernel_rfl) ((congrArg (fun s => outR s 0 c51.res) (by kernel_rfl : finSt c51.fin _ = f51_fin false)).trans (f51_out false)))
/- farwriter/screen.past -/
def f52_fin (p14 : Bool) : St := ⟨(up (fun _ => .un) 2 (.d (.bool p14))), (hB fun _ => 0)⟩
theorem f52_out (p14 : Bool) : outR (f52_fin p14) 0 c52.res = some ((.d (.bool p14)), []) := by
  kernel_rfl
def f52_Q (r : Bool) (e : PX) (st : St) : Prop := DoneF c52 0 ((.d (.bool r)), []) e st
def f52_l0_J (a1 : List GLine) (x : Int) : St := ⟨(up (up (up (up (fun _ => .un) 7 (.d (.int .i64 x))) 6 (.d (.int .i64 (a1.length : Int)))) 5 (.d (.sl a1.length (e_GLine.cells a1)))) 0 (.d (.sl a1.length (e_GLine.cells a1)))), (hB fun _ => 0)⟩
def f52_l0_H (a1 : List GLine) (x : Int) (st : St) : Prop := keepSt [0, 5, 6, 7] [] [] st = f52_l0_J a1 x
def f52_l0_e0_J (a1 : List GLine) : St := ⟨(up (fun _ => .un) 0 (.d (.sl a1.length (e_GLine.cells a1)))), (hB fun _ => 0)⟩
def f52_l0_X (a1 : List GLine) (z : Unit ⊕ Bool) (e : PX) (st : St) : Prop := (match z with | .inl z => e = .exit 0 ∧ st = f52_l0_e0_J a1 | .inr z => e = .ret ∧ finSt c52.fin st = f52_fin z)
def f52_l0_j2_J (a1 : List GLine) (p19 : Int) : St := ⟨(up (up (up (up (fun _ => .un) 7 (.d (.int .i64 p19))) 6 (.d (.int .i64 (a1.length : Int)))) 5 (.d (.sl a1.length (e_GLine.cells a1)))) 0 (.d (.sl a1.length (e_GLine.cells a1)))), (hB fun _ => 0)⟩
noncomputable def f52_l0_j2 (a1 : List GLine) (p19 : Int) : Option (Int ⊕ (Unit ⊕ Bool)) := ((idx a1 p19).bind fun z7 => ((f48 (GGrid.mk (z7.Cells.length : Int) 1 z7.Cells)).bind fun z8 => (bif (!decide (z8 = 0)) then (some (.inr (.inr false))) else (some (.inl (IntKind.i64.wrap (p19 + 1)))))))
theorem f52_l0_j2_ok {d : Nat} (hd : 5 ≤ d) (a1 : List GLine) {r : Int ⊕ (Unit ⊕ Bool)} {Q : PX → St → Prop} (hQ : ∀ e st', finL (f52_l0_H a1) (f52_l0_X a1) r e st' → Q e st') (p19 : Int) (hS : f52_l0_j2 a1 p19 = some r) {st : St} (he : keepSt [0, 5, 6, 7] [] [] st = f52_l0_j2_J a1 p19) : ZR (lev codes baseL (d - 1)) Q c52_1 [] st := by
  refine zrKeep he ?_
  unfold f52_l0_j2 at hS
  refine zrSeq ?_
  refine zrBlk ?_
  refine zrSeq ?_
  refine zrReg ?_
  refine bindE hS (fun z7 hz7 hS => ?_)
  refine zlOp (d := some 9) (op := (.ixS 87 1 (.tmp 5) (.tmp 7))) (g := none) (v := (.rptr (e_GLine.enc z7 ++ (e_GLine.cells (a1.drop ((p19 : Int).toNat + 1)))))) (ups := []) (j := 1) rfl (by kernel_rfl) (by kernel_rfl) (ev_ixS e_GLine (kk := .i64) (xs := a1) (j := p19) (by kernel_rfl) (by kernel_rfl) hz7 rfl (by intro h; cases h)) ?_
  refine zlRun (n := 3) (j := 4) rfl (by kernel_rfl) ?_
  refine zlEnd (by kernel_rfl) ?_
  refine zkSeq ?_
  refine zrSeq ?_
  refine zrReg ?_
  refine zlRun (n := 6) (j := 6) rfl (by kernel_rfl) ?_
  refine bindE hS (fun z8 hz8 hS => ?_)
  refine zlOp (d := some 17) (op := (.call 48 [(.tmp 16)])) (g := none) (j := 7) rfl (by kernel_rfl) (by kernel_rfl) (ev_callA (by kernel_rfl) (f48_ok (d - 1) (dpt hd rfl) (GGrid.mk (z7.Cells.length : Int) 1 z7.Cells) z8 hz8) (by kernel_rfl) (by kernel_rfl)) ?_
  refine zlBool (d := 18) (op := (.cmpI .neq (.tmp 17) (.const (.int .i64 0)))) (g := none) (j := 8) (!decide (z8 = 0)) rfl (by kernel_rfl) (by kernel_rfl) (by kernel_rfl) (fun hc => ?_) (fun hc => ?_)
  · replace hS := cond_t hc hS
    refine zlEnd (by kernel_rfl) ?_
    refine zkSeq ?_
    refine zrCondT (by kernel_rfl) ?_
    refine zrSeq ?_
    refine zrReg ?_
    refine zlRun (n := 1) (j := 1) rfl (by kernel_rfl) ?_
    refine zlEnd (by kernel_rfl) ?_
    refine zkSeq ?_
    refine zrRet ?_
    refine zkBlkR ?_
    refine zkSeqR ?_
    refine zkNil ?_
    exact endQ hS hQ (finL_x (by intro h; cases h) (by show _ = _ ∧ _ = _; exact ⟨rfl, by kernel_rfl⟩))
  · replace hS := cond_f hc hS
    refine zlEnd (by kernel_rfl) ?_
    refine zkSeq ?_
    refine zrCondF (by kernel_rfl) ?_
    refine zrSkip ?_
    refine zkBlk ?_
    refine zkSeq ?_
    refine zrReg ?_
    refine zlRun (n := 2) (j := 2) rfl (by kernel_rfl) ?_
    refine zlEnd (by kernel_rfl) ?_
    refine zkNil ?_
    exact endQ hS hQ (finL_n (by show keepSt _ _ _ _ = _; kernel_rfl))
def f52_l0_j1_J (a1 : List GLine) (p17 : Int) (p18 : Bool) : St := ⟨(up (up (up (up (up (fun _ => .un) 8 (.d (.bool p18))) 7 (.d (.int .i64 p17))) 6 (.d (.int .i64 (a1.length : Int)))) 5 (.d (.sl a1.length (e_GLine.cells a1)))) 0 (.d (.sl a1.length (e_GLine.cells a1)))), (hB fun _ => 0)⟩
noncomputable def f52_l0_j1 (a1 : List GLine) (p17 : Int) (p18 : Bool) : Option (Int ⊕ (Unit ⊕ Bool)) := (bif p18 then (f52_l0_j2 a1 p17) else (some (.inr (.inl ()))))
theorem f52_l0_j1_ok {d : Nat} (hd : 5 ≤ d) (a1 : List GLine) {r : Int ⊕ (Unit ⊕ Bool)} {Q : PX → St → Prop} (hQ : ∀ e st', finL (f52_l0_H a1) (f52_l0_X a1) r e st' → Q e st') (p17 : Int) (p18 : Bool) (hS : f52_l0_j1 a1 p17 p18 = some r) {st : St} (he : keepSt [0, 5, 6, 7, 8] [] [] st = f52_l0_j1_J a1 p17 p18) : ZR (lev codes baseL (d - 1)) Q c52_2 [] st := by
  refine zrKeep he ?_
  unfold f52_l0_j1 at hS
  refine zrSeq ?_
  refine zrSplit 8 p18 (by kernel_rfl) (fun hc => ?_) (fun hc => ?_)
  · replace hS := cond_t hc hS
    refine zrCondT (by kernel_rfl) ?_
    refine zrSkip ?_
    refine zkSeq ?_
    exact f52_l0_j2_ok hd a1 hQ p17 hS (by kernel_rfl)
  · replace hS := cond_f hc hS
    refine zrCondF (by kernel_rfl) ?_
    refine zrKeep (J := f52_l0_e0_J a1) (by kernel_rfl) ?_
    refine zrExit ?_
    refine zkSeqX ?_
    refine zkNil ?_
    exact endQ hS hQ (finL_x (by intro h; cases h) (by show _ = _ ∧ _ = _; exact ⟨rfl, rfl⟩))
noncomputable def f52_l0 (a1 : List GLine) (x : Int) : Option (Int ⊕ (Unit ⊕ Bool)) := (bif (decide (x < (a1.length : Int))) then (f52_l0_j1 a1 x true) else (f52_l0_j1 a1 x false))
theorem f52_l0_ok {d : Nat} (hd : 5 ≤ d) (a1 : List GLine) {r : Int ⊕ (Unit ⊕ Bool)} {Q : PX → St → Prop} (hQ : ∀ e st', finL (f52_l0_H a1) (f52_l0_X a1) r e st' → Q e st') {x : Int} (hS : f52_l0 a1 x = some r) {st : St} (he : f52_l0_H a1 x st) : ZR (lev codes baseL (d - 1)) Q c52_3 [] st := by
  refine zrKeep he ?_
  unfold f52_l0 at hS
  refine zrSeq ?_
  refine zrReg ?_
  refine zlBool (d := 8) (op := (.cmpI .lss (.tmp 7) (.tmp 6))) (g := none) (j := 1) (decide (x < (a1.length : Int))) rfl (by kernel_rfl) (by kernel_rfl) (by kernel_rfl) (fun hc => ?_) (fun hc => ?_)
  · replace hS := cond_t hc hS
    refine zlEnd (by kernel_rfl) ?_
    refine zkSeq ?_
    exact f52_l0_j1_ok hd a1 hQ x true hS (by kernel_rfl)
  · replace hS := cond_f hc hS
    refine zlEnd (by kernel_rfl) ?_
    refine zkSeq ?_
    exact f52_l0_j1_ok hd a1 hQ x false hS (by kernel_rfl)
noncomputable def f52 (a1 : List GLine) : Option (Bool) := ((loopO (f52_l0 a1) 0).bind fun z9 => (Sum.elim (fun z10 => (bif (decide ((a1.length : Int) ≤ 40)) then (some true) else (some false))) (fun z11 => (some z11)) z9))
theorem f52_ok (d : Nat) (hd : 5 ≤ d) (a1 : List GLine) (r : Bool) (hS : f52 a1 = some r) : lev codes baseL d 52 [(.d (.sl a1.length (e_GLine.cells a1)))] [] = some ((.d (.bool r)), []) := by
  refine lev_go codes52 rfl rfl (Nat.le_trans (Nat.le_of_ble_eq_true rfl) hd) fun Q hQ => ?_
  unfold f52 at hS
  show ZR _ Q c52_b [] _
  replace hQ : ∀ e st', f52_Q r e st' → Q e st' := hQ
  refine zrSeq ?_
  refine zrReg ?_
  refine zlRun (n := 1) (j := 1) rfl (by kernel_rfl) ?_
  refine zlEnd (by kernel_rfl) ?_
  refine zkSeq ?_
  refine zrSeq ?_
  refine zrSeq ?_
  refine zrReg ?_
  refine zlRun (n := 3) (j := 3) rfl (by kernel_rfl) ?_
  refine zlEnd (by kernel_rfl) ?_
  refine zkSeq ?_
  refine zrBlk ?_
  refine bindE hS (fun z9 hz9 hS => ?_)
  refine zrLoop (f52_l0_H a1) (f52_l0_X a1) (fun x st r Q h0 hS hQ => f52_l0_ok hd a1 hQ hS h0) (x := 0) (z := z9) (by show keepSt _ _ _ _ = _; kernel_rfl) hz9 ?_
  rcases z9 with z10 | z11
  · replace hS := (show _ = _ from hS)
    simp only [Sum.elim_inl] at hS
    intro e st' _ hX
    obtain ⟨rfl, rfl⟩ : _ ∧ _ := hX
    refine zkBlkX ?_
    refine zkSeq ?_
    refine zrSeq ?_
    refine zrReg ?_
    refine zlRun (n := 2) (j := 2) rfl (by kernel_rfl) ?_
    refine zlBool (d := 22) (op := (.cmpI .leq (.tmp 21) (.const (.int .i64 40)))) (g := none) (j := 3) (decide ((a1.length : Int) ≤ 40)) rfl (by kernel_rfl) (by kernel_rfl) (by kernel_rfl) (fun hc => ?_) (fun hc => ?_)
    · replace hS := cond_t hc hS
      refine zlRun (n := 1) (j := 4) rfl (by kernel_rfl) ?_
      refine zlEnd (by kernel_rfl) ?_
      refine zkSeq ?_
      refine zrRet ?_
      refine zkNil ?_
      exact endQ hS hQ (fRet (by kernel_rfl) ((congrArg (fun s => outR s 0 c52.res) (by kernel_rfl : finSt c52.fin _ = f52_fin true)).trans (f52_out true)))
    · replace hS := cond_f hc hS
      refine zlRun (n := 1) (j := 4) rfl (by kernel_rfl) ?_
      refine zlEnd (by kernel_rfl) ?_
      refine zkSeq ?_
      refine zrRet ?_
      refine zkNil ?_
      exact endQ hS hQ (fRet (by kernel_rfl) ((congrArg (fun s => outR s 0 c52.res) (by kernel_rfl : finSt c52.fin _ = f52_fin false)).trans (f52_out false)))
  · simp only [Sum.elim_inr] at hS
    intro e st' _ hX
    obtain ⟨rfl, hX⟩ : _ ∧ _ := hX
    refine zkBlkR ?_
    refine zkSeqR ?_
    refine zkNil ?_
    exact endQ hS hQ (fRet (by kernel_rfl) ((congrArg (fun s => outR s 0 c52.res) hX).trans (f52_out z11)))
/- farwriter/screen.Check -/
def f28_fin (p33 : Int) : St := ⟨(up (fun _ => .un) 2 (.d (.int .i64 p33))), (hB fun _ => 0)⟩
theorem f28_out (p33 : Int) : outR (f28_fin p33) 0 c28.res = some ((.d (.int .i64 p33)), []) := by
  kernel_rfl
def f28_Q (r : Int) (e : PX) (st : St) : Prop := DoneF c28 0 ((.d (.int .i64 r)), []) e st
def f28_j6_J (a1 : GScreen) (p70 : Bool) : St := ⟨(up (up (fun _ => .un) 5 (.d (.bool p70))) 1 (.r (.ptr 16 0 0))), (up (hB fun _ => 0) 16 ⟨0, some (.box ((.d (.int .i64 a1.Grid.Wide)) :: ((.d (.int .i64 a1.Grid.High)) :: ((.d (.sl a1.Grid.Cells.length (e_GCell.cells a1.Grid.Cells))) :: ((.d (.int .i64 a1.Row)) :: ((.d (.int .i64 a1.Col)) :: ((.d (.bool a1.Late)) :: ((.d (.int .i64 a1.Top)) :: ((.d (.int .i64 a1.Bottom)) :: ((.d (.int .i64 a1.Pen.Flags)) :: ((.d (.int .i64 a1.Pen.Fore)) :: ((.d (.int .i64 a1.Pen.Back)) :: ((.d (.int .i64 a1.Modes)) :: (((eInt .u64).row 4 a1.Stops.Bits) ++ ((.d (.int .i64 a1.Pages.1)) :: ((.d (.int .i64 a1.Pages.2)) :: ((.d (.int .i64 a1.Shift)) :: ((.d (.int .i64 a1.Saved.Row)) :: ((.d (.int .i64 a1.Saved.Col)) :: ((.d (.int .i64 a1.Saved.Pen.Flags)) :: ((.d (.int .i64 a1.Saved.Pen.Fore)) :: ((.d (.int .i64 a1.Saved.Pen.Back)) :: ((.d (.bool a1.Saved.Origin)) :: ((.d (.int .i64 a1.Saved.Pages.1)) :: ((.d (.int .i64 a1.Saved.Pages.2)) :: ((.d (.int .i64 a1.Saved.Shift)) :: ((.d (.int .i64 a1.Other.Wide)) :: ((.d (.int .i64 a1.Other.High)) :: ((.d (.sl a1.Other.Cells.length (e_GCell.cells a1.Other.Cells))) :: ((.d (.str a1.Title)) :: ((.d (.sl a1.Past.length (e_GLine.cells a1.Past))) :: [])))))))))))))))))))))))))))))))⟩)⟩
noncomputable def f28_j6 (a1 : GScreen) (p70 : Bool) : Option (Int) := (bif p70 then (bif (decide ((a1.Title.length : Int) ≤ 256)) then ((f52 a1.Past).bind fun z42 => (bif (!z42) then (some 4) else (some 0))) else (some 4)) else (some 4))
theorem f28_j6_ok {d : Nat} (hd : 6 ≤ d) (a1 : GScreen) {r : Int} {Q : PX → St → Prop} (hQ : ∀ e st', f28_Q r e st' → Q e st') (p70 : Bool) (hS : f28_j6 a1 p70 = some r) {st : St} (he : keepSt [1, 5] [(16, .id 16)] [] st = f28_j6_J a1 p70) : ZR (lev codes baseL (d - 1)) Q c28_1 [] st := by
  refine zrKeep he ?_
  unfold f28_j6 at hS
  refine zrSeq ?_
  refine zrReg ?_
  refine zlRun (n := 2) (j := 2) rfl (by kernel_rfl) ?_
  refine zlSplit 144 p70 (by kernel_rfl) (fun hc => ?_) (fun hc => ?_)
  · replace hS := cond_t hc hS
    refine zlRun (n := 3) (j := 5) rfl (by kernel_rfl) ?_
    refine zlBool (d := 148) (op := (.cmpI .leq (.tmp 147) (.const (.int .i64 256)))) (g := (some (144, true))) (j := 6) (decide ((a1.Title.length : Int) ≤ 256)) rfl (by kernel_rfl) (by kernel_rfl) (by kernel_rfl) (fun hc => ?_) (fun hc => ?_)
    · replace hS := cond_t hc hS
      refine zlRun (n := 4) (j := 10) rfl (by kernel_rfl) ?_
      refine bindE hS (fun z42 hz42 hS => ?_)
      refine zlOp (d := some 153) (op := (.call 52 [(.tmp 152)])) (g := (some (150, true))) (j := 11) rfl (by kernel_rfl) (by kernel_rfl) (ev_callA (by kernel_rfl) (f52_ok (d - 1) (dpt hd rfl) a1.Past z42 hz42) (by kernel_rfl) (by kernel_rfl)) ?_
      refine zlRun (n := 2) (j := 13) rfl (by kernel_rfl) ?_
      refine zlEnd (by kernel_rfl) ?_
      refine zkSeq ?_
      refine zrSeq ?_
      refine zrSeq ?_
      refine zrReg ?_
      refine zlRun (n := 2) (j := 2) rfl (by kernel_rfl) ?_
      refine zlEnd (by kernel_rfl) ?_
      refine zkSeq ?_
      refine zrSplit 156 (!z42) (by kernel_rfl) (fun hc => ?_) (fun hc => ?_)
      · replace hS := cond_t hc hS
        refine zrCondT (by kernel_rfl) ?_
        refine zrSeq ?_
        refine zrReg ?_
        refine zlRun (n := 1) (j := 1) rfl (by kernel_rfl) ?_
        refine zlEnd (by kernel_rfl) ?_
        refine zkSeq ?_
        refine zrRet ?_
        refine zkSeqR ?_
        refine zkNil ?_
        exact endQ hS hQ (fRet (by kernel_rfl) ((congrArg (fun s => outR s 0 c28.res) (by kernel_rfl : finSt c28.fin _ = f28_fin 4)).trans (f28_out 4)))
      · replace hS := cond_f hc hS
        refine zrCondF (by kernel_rfl) ?_
        refine zrSkip ?_
        refine zkSeq ?_
        refine zrSeq ?_
        refine zrReg ?_
        refine zlRun (n := 1) (j := 1) rfl (by kernel_rfl) ?_
        refine zlEnd (by kernel_rfl) ?_
        refine zkSeq ?_
        refine zrRet ?_
        refine zkNil ?_
        exact endQ hS hQ (fRet (by kernel_rfl) ((congrArg (fun s => outR s 0 c28.res) (by kernel_rfl : finSt c28.fin _ = f28_fin 0)).trans (f28_out 0)))
    · replace hS := cond_f hc hS
      refine zlRun (n := 7) (j := 13) rfl (by kernel_rfl) ?_
      refine zlEnd (by kernel_rfl) ?_
      refine zkSeq ?_
      refine zrSeq ?_
      refine zrSeq ?_
      refine zrReg ?_
      refine zlRun (n := 2) (j := 2) rfl (by kernel_rfl) ?_
      refine zlEnd (by kernel_rfl) ?_
      refine zkSeq ?_
      refine zrCondT (by kernel_rfl) ?_
      refine zrSeq ?_
      refine zrReg ?_
      refine zlRun (n := 1) (j := 1) rfl (by kernel_rfl) ?_
      refine zlEnd (by kernel_rfl) ?_
      refine zkSeq ?_
      refine zrRet ?_
      refine zkSeqR ?_
      refine zkNil ?_
      exact endQ hS hQ (fRet (by kernel_rfl) ((congrArg (fun s => outR s 0 c28.res) (by kernel_rfl : finSt c28.fin _ = f28_fin 4)).trans (f28_out 4)))
  · replace hS := cond_f hc hS
    refine zlRun (n := 11) (j := 13) rfl (by kernel_rfl) ?_
    refine zlEnd (by kernel_rfl) ?_
    refine zkSeq ?_
    refine zrSeq ?_
    refine zrSeq ?_
    refine zrReg ?_
    refine zlRun (n := 2) (j := 2) rfl (by kernel_rfl) ?_
    refine zlEnd (by kernel_rfl) ?_
    refine zkSeq ?_
    refine zrCondT (by kernel_rfl) ?_
    refine zrSeq ?_
    refine zrReg ?_
    refine zlRun (n := 1) (j := 1) rfl (by kernel_rfl) ?_
    refine zlEnd (by kernel_rfl) ?_
    refine zkSeq ?_
    refine zrRet ?_
    refine zkSeqR ?_
    refine zkNil ?_
    exact endQ hS hQ (fRet (by kernel_rfl) ((congrArg (fun s => outR s 0 c28.res) (by kernel_rfl : finSt c28.fin _ = f28_fin 4)).trans (f28_out 4)))
def f28_j5_J (a1 : GScreen) (p67 : Bool) : St := ⟨(up (up (fun _ => .un) 5 (.d (.bool p67))) 1 (.r (.ptr 16 0 0))), (up (hB fun _ => 0) 16 ⟨0, some (.box ((.d (.int .i64 a1.Grid.Wide)) :: ((.d (.int .i64 a1.Grid.High)) :: ((.d (.sl a1.Grid.Cells.length (e_GCell.cells a1.Grid.Cells))) :: ((.d (.int .i64 a1.Row)) :: ((.d (.int .i64 a1.Col)) :: ((.d (.bool a1.Late)) :: ((.d (.int .i64 a1.Top)) :: ((.d (.int .i64 a1.Bottom)) :: ((.d (.int .i64 a1.Pen.Flags)) :: ((.d (.int .i64 a1.Pen.Fore)) :: ((.d (.int .i64 a1.Pen.Back)) :: ((.d (.int .i64 a1.Modes)) :: (((eInt .u64).row 4 a1.Stops.Bits) ++ ((.d (.int .i64 a1.Pages.1)) :: ((.d (.int .i64 a1.Pages.2)) :: ((.d (.int .i64 a1.Shift)) :: ((.d (.int .i64 a1.Saved.Row)) :: ((.d (.int .i64 a1.Saved.Col)) :: ((.d (.int .i64 a1.Saved.Pen.Flags)) :: ((.d (.int .i64 a1.Saved.Pen.Fore)) :: ((.d (.int .i64 a1.Saved.Pen.Back)) :: ((.d (.bool a1.Saved.Origin)) :: ((.d (.int .i64 a1.Saved.Pages.1)) :: ((.d (.int .i64 a1.Saved.Pages.2)) :: ((.d (.int .i64 a1.Saved.Shift)) :: ((.d (.int .i64 a1.Other.Wide)) :: ((.d (.int .i64 a1.Other.High)) :: ((.d (.sl a1.Other.Cells.length (e_GCell.cells a1.Other.Cells))) :: ((.d (.str a1.Title)) :: ((.d (.sl a1.Past.length (e_GLine.cells a1.Past))) :: [])))))))))))))))))))))))))))))))⟩)⟩
noncomputable def f28_j5 (a1 : GScreen) (p67 : Bool) : Option (Int) := (bif p67 then ((f49 a1.Saved.Row 0 59).bind fun z43 => (bif z43 then ((f49 a1.Saved.Col 0 159).bind fun z44 => (f28_j6 a1 z44)) else (f28_j6 a1 false))) else (f28_j6 a1 false))
theorem f28_j5_ok {d : Nat} (hd : 6 ≤ d) (a1 : GScreen) {r : Int} {Q : PX → St → Prop} (hQ : ∀ e st', f28_Q r e st' → Q e st') (p67 : Bool) (hS : f28_j5 a1 p67 = some r) {st : St} (he : keepSt [1, 5] [(16, .id 16)] [] st = f28_j5_J a1 p67) : ZR (lev codes baseL (d - 1)) Q c28_2 [] st := by
  refine zrKeep he ?_
  unfold f28_j5 at hS
  refine zrSeq ?_
  refine zrReg ?_
  refine zlRun (n := 2) (j := 2) rfl (by kernel_rfl) ?_
  refine zlSplit 131 p67 (by kernel_rfl) (fun hc => ?_) (fun hc => ?_)
  · replace hS := cond_t hc hS
    refine zlRun (n := 3) (j := 5) rfl (by kernel_rfl) ?_
    refine bindE hS (fun z43 hz43 hS => ?_)
    refine zlOp (d := some 135) (op := (.call 49 [(.tmp 134), (.const (.int .i64 0)), (.const (.int .i64 59))])) (g := (some (131, true))) (j := 6) rfl (by kernel_rfl) (by kernel_rfl) (ev_callA (by kernel_rfl) (f49_ok (d - 1) (dpt hd rfl) a1.Saved.Row 0 59 z43 hz43) (by kernel_rfl) (by kernel_rfl)) ?_
    refine zlRun (n := 2) (j := 8) rfl (by kernel_rfl) ?_
    refine zlSplit 137 z43 (by kernel_rfl) (fun hc => ?_) (fun hc => ?_)
    · replace hS := cond_t hc hS
      refine zlRun (n := 3) (j := 11) rfl (by kernel_rfl) ?_
      refine bindE hS (fun z44 hz44 hS => ?_)
      refine zlOp (d := some 141) (op := (.call 49 [(.tmp 140), (.const (.int .i64 0)), (.const (.int .i64 159))])) (g := (some (137, true))) (j := 12) rfl (by kernel_rfl) (by kernel_rfl) (ev_callA (by kernel_rfl) (f49_ok (d - 1) (dpt hd rfl) a1.Saved.Col 0 159 z44 hz44) (by kernel_rfl) (by kernel_rfl)) ?_
      refine zlRun (n := 2) (j := 14) rfl (by kernel_rfl) ?_
      refine zlEnd (by kernel_rfl) ?_
      refine zkSeq ?_
      exact f28_j6_ok hd a1 hQ z44 hS (by kernel_rfl)
    · replace hS := cond_f hc hS
      refine zlRun (n := 6) (j := 14) rfl (by kernel_rfl) ?_
      refine zlEnd (by kernel_rfl) ?_
      refine zkSeq ?_
      exact f28_j6_ok hd a1 hQ false hS (by kernel_rfl)
  · replace hS := cond_f hc hS
    refine zlRun (n := 12) (j := 14) rfl (by kernel_rfl) ?_
    refine zlEnd (by kernel_rfl) ?_
    refine zkSeq ?_
    exact f28_j6_ok hd a1 hQ false hS (by kernel_rfl)
def f28_j4_J (a1 : GScreen) (p64 : Bool) : St := ⟨(up (up (fun _ => .un) 5 (.d (.bool p64))) 1 (.r (.ptr 16 0 0))), (up (hB fun _ => 0) 16 ⟨0, some (.box ((.d (.int .i64 a1.Grid.Wide)) :: ((.d (.int .i64 a1.Grid.High)) :: ((.d (.sl a1.Grid.Cells.length (e_GCell.cells a1.Grid.Cells))) :: ((.d (.int .i64 a1.Row)) :: ((.d (.int .i64 a1.Col)) :: ((.d (.bool a1.Late)) :: ((.d (.int .i64 a1.Top)) :: ((.d (.int .i64 a1.Bottom)) :: ((.d (.int .i64 a1.Pen.Flags)) :: ((.d (.int .i64 a1.Pen.Fore)) :: ((.d (.int .i64 a1.Pen.Back)) :: ((.d (.int .i64 a1.Modes)) :: (((eInt .u64).row 4 a1.Stops.Bits) ++ ((.d (.int .i64 a1.Pages.1)) :: ((.d (.int .i64 a1.Pages.2)) :: ((.d (.int .i64 a1.Shift)) :: ((.d (.int .i64 a1.Saved.Row)) :: ((.d (.int .i64 a1.Saved.Col)) :: ((.d (.int .i64 a1.Saved.Pen.Flags)) :: ((.d (.int .i64 a1.Saved.Pen.Fore)) :: ((.d (.int .i64 a1.Saved.Pen.Back)) :: ((.d (.bool a1.Saved.Origin)) :: ((.d (.int .i64 a1.Saved.Pages.1)) :: ((.d (.int .i64 a1.Saved.Pages.2)) :: ((.d (.int .i64 a1.Saved.Shift)) :: ((.d (.int .i64 a1.Other.Wide)) :: ((.d (.int .i64 a1.Other.High)) :: ((.d (.sl a1.Other.Cells.length (e_GCell.cells a1.Other.Cells))) :: ((.d (.str a1.Title)) :: ((.d (.sl a1.Past.length (e_GLine.cells a1.Past))) :: [])))))))))))))))))))))))))))))))⟩)⟩
noncomputable def f28_j4 (a1 : GScreen) (p64 : Bool) : Option (Int) := (bif p64 then ((f49 a1.Shift 0 1).bind fun z45 => (bif z45 then ((f49 a1.Saved.Shift 0 1).bind fun z46 => (f28_j5 a1 z46)) else (f28_j5 a1 false))) else (f28_j5 a1 false))
theorem f28_j4_ok {d : Nat} (hd : 6 ≤ d) (a1 : GScreen) {r : Int} {Q : PX → St → Prop} (hQ : ∀ e st', f28_Q r e st' → Q e st') (p64 : Bool) (hS : f28_j4 a1 p64 = some r) {st : St} (he : keepSt [1, 5] [(16, .id 16)] [] st = f28_j4_J a1 p64) : ZR (lev codes baseL (d - 1)) Q c28_3 [] st := by
  refine zrKeep he ?_
  unfold f28_j4 at hS
  refine zrSeq ?_
  refine zrReg ?_
  refine zlRun (n := 2) (j := 2) rfl (by kernel_rfl) ?_
  refine zlSplit 119 p64 (by kernel_rfl) (fun hc => ?_) (fun hc => ?_)
  · replace hS := cond_t hc hS
    refine zlRun (n := 2) (j := 4) rfl (by kernel_rfl) ?_
    refine bindE hS (fun z45 hz45 hS => ?_)
    refine zlOp (d := some 122) (op := (.call 49 [(.tmp 121), (.const (.int .i64 0)), (.const (.int .i64 1))])) (g := (some (119, true))) (j := 5) rfl (by kernel_rfl) (by kernel_rfl) (ev_callA (by kernel_rfl) (f49_ok (d - 1) (dpt hd rfl) a1.Shift 0 1 z45 hz45) (by kernel_rfl) (by kernel_rfl)) ?_
    refine zlRun (n := 2) (j := 7) rfl (by kernel_rfl) ?_
    refine zlSplit 124 z45 (by kernel_rfl) (fun hc => ?_) (fun hc => ?_)
    · replace hS := cond_t hc hS
      refine zlRun (n := 3) (j := 10) rfl (by kernel_rfl) ?_
      refine bindE hS (fun z46 hz46 hS => ?_)
      refine zlOp (d := some 128) (op := (.call 49 [(.tmp 127), (.const (.int .i64 0)), (.const (.int .i64 1))])) (g := (some (124, true))) (j := 11) rfl (by kernel_rfl) (by kernel_rfl) (ev_callA (by kernel_rfl) (f49_ok (d - 1) (dpt hd rfl) a1.Saved.Shift 0 1 z46 hz46) (by kernel_rfl) (by kernel_rfl)) ?_
      refine zlRun (n := 2) (j := 13) rfl (by kernel_rfl) ?_
      refine zlEnd (by kernel_rfl) ?_
      refine zkSeq ?_
      exact f28_j5_ok hd a1 hQ z46 hS (by kernel_rfl)
    · replace hS := cond_f hc hS
      refine zlRun (n := 6) (j := 13) rfl (by kernel_rfl) ?_
      refine zlEnd (by kernel_rfl) ?_
      refine zkSeq ?_
      exact f28_j5_ok hd a1 hQ false hS (by kernel_rfl)
  · replace hS := cond_f hc hS
    refine zlRun (n := 11) (j := 13) rfl (by kernel_rfl) ?_
    refine zlEnd (by kernel_rfl) ?_
    refine zkSeq ?_
    exact f28_j5_ok hd a1 hQ false hS (by kernel_rfl)
def f28_j8_J (a1 : GScreen) (p78 : Bool) : St := ⟨(up (up (up (fun _ => .un) 98 (.d (.int .i64 1))) 5 (.d (.bool p78))) 1 (.r (.ptr 16 0 0))), (up (hB fun _ => 0) 16 ⟨0, some (.box ((.d (.int .i64 a1.Grid.Wide)) :: ((.d (.int .i64 a1.Grid.High)) :: ((.d (.sl a1.Grid.Cells.length (e_GCell.cells a1.Grid.Cells))) :: ((.d (.int .i64 a1.Row)) :: ((.d (.int .i64 a1.Col)) :: ((.d (.bool a1.Late)) :: ((.d (.int .i64 a1.Top)) :: ((.d (.int .i64 a1.Bottom)) :: ((.d (.int .i64 a1.Pen.Flags)) :: ((.d (.int .i64 a1.Pen.Fore)) :: ((.d (.int .i64 a1.Pen.Back)) :: ((.d (.int .i64 a1.Modes)) :: (((eInt .u64).row 4 a1.Stops.Bits) ++ ((.d (.int .i64 a1.Pages.1)) :: ((.d (.int .i64 a1.Pages.2)) :: ((.d (.int .i64 a1.Shift)) :: ((.d (.int .i64 a1.Saved.Row)) :: ((.d (.int .i64 a1.Saved.Col)) :: ((.d (.int .i64 a1.Saved.Pen.Flags)) :: ((.d (.int .i64 a1.Saved.Pen.Fore)) :: ((.d (.int .i64 a1.Saved.Pen.Back)) :: ((.d (.bool a1.Saved.Origin)) :: ((.d (.int .i64 a1.Saved.Pages.1)) :: ((.d (.int .i64 a1.Saved.Pages.2)) :: ((.d (.int .i64 a1.Saved.Shift)) :: ((.d (.int .i64 a1.Other.Wide)) :: ((.d (.int .i64 a1.Other.High)) :: ((.d (.sl a1.Other.Cells.length (e_GCell.cells a1.Other.Cells))) :: ((.d (.str a1.Title)) :: ((.d (.sl a1.Past.length (e_GLine.cells a1.Past))) :: [])))))))))))))))))))))))))))))))⟩)⟩
noncomputable def f28_j8 (a1 : GScreen) (p78 : Bool) : Option (Int) := (bif p78 then ((f51 a1.Pages.2).bind fun z51 => (bif z51 then ((f51 a1.Saved.Pages.2).bind fun z52 => (f28_j4 a1 z52)) else (f28_j4 a1 false))) else (f28_j4 a1 false))
theorem f28_j8_ok {d : Nat} (hd : 6 ≤ d) (a1 : GScreen) {r : Int} {Q : PX → St → Prop} (hQ : ∀ e st', f28_Q r e st' → Q e st') (p78 : Bool) (hS : f28_j8 a1 p78 = some r) {st : St} (he : keepSt [1, 5, 98] [(16, .id 16)] [] st = f28_j8_J a1 p78) : ZR (lev codes baseL (d - 1)) Q c28_4 [.seq c28_5, .blk 0, .seq c28_3] st := by
  refine zrKeep he ?_
  unfold f28_j8 at hS
  refine zrSeq ?_
  refine zrBlk ?_
  refine zrSeq ?_
  refine zrReg ?_
  refine zlRun (n := 2) (j := 2) rfl (by kernel_rfl) ?_
  refine zlEnd (by kernel_rfl) ?_
  refine zkSeq ?_
  refine zrReg ?_
  refine zlRun (n := 2) (j := 2) rfl (by kernel_rfl) ?_
  refine zlSplit 102 p78 (by kernel_rfl) (fun hc => ?_) (fun hc => ?_)
  · replace hS := cond_t hc hS
    refine zlRun (n := 4) (j := 6) rfl (by kernel_rfl) ?_
    refine bindE hS (fun z51 hz51 hS => ?_)
    refine zlOp (d := some 107) (op := (.call 51 [(.tmp 106)])) (g := (some (102, true))) (j := 7) rfl (by kernel_rfl) (by kernel_rfl) (ev_callA (by kernel_rfl) (f51_ok (d - 1) (dpt hd rfl) a1.Pages.2 z51 hz51) (by kernel_rfl) (by kernel_rfl)) ?_
    refine zlRun (n := 2) (j := 9) rfl (by kernel_rfl) ?_
    refine zlSplit 109 z51 (by kernel_rfl) (fun hc => ?_) (fun hc => ?_)
    · replace hS := cond_t hc hS
      refine zlRun (n := 5) (j := 14) rfl (by kernel_rfl) ?_
      refine bindE hS (fun z52 hz52 hS => ?_)
      refine zlOp (d := some 115) (op := (.call 51 [(.tmp 114)])) (g := (some (109, true))) (j := 15) rfl (by kernel_rfl) (by kernel_rfl) (ev_callA (by kernel_rfl) (f51_ok (d - 1) (dpt hd rfl) a1.Saved.Pages.2 z52 hz52) (by kernel_rfl) (by kernel_rfl)) ?_
      refine zlRun (n := 2) (j := 17) rfl (by kernel_rfl) ?_
      refine zlEnd (by kernel_rfl) ?_
      refine zkBlk ?_
      refine zkSeq ?_
      refine zrReg ?_
      refine zlRun (n := 2) (j := 2) rfl (by kernel_rfl) ?_
      refine zlEnd (by kernel_rfl) ?_
      refine zkSeq ?_
      refine zrLoop1 ?_
      refine zrSeq ?_
      refine zrReg ?_
      refine zlRun (n := 1) (j := 1) rfl (by kernel_rfl) ?_
      refine zlEnd (by kernel_rfl) ?_
      refine zkSeq ?_
      refine zrSeq ?_
      refine zrCondF (by kernel_rfl) ?_
      refine zrExit ?_
      refine zkSeqX ?_
      refine zkSeqX ?_
      refine zkBlkX ?_
      refine zkSeq ?_
      exact f28_j4_ok hd a1 hQ z52 hS (by kernel_rfl)
    · replace hS := cond_f hc hS
      refine zlRun (n := 8) (j := 17) rfl (by kernel_rfl) ?_
      refine zlEnd (by kernel_rfl) ?_
      refine zkBlk ?_
      refine zkSeq ?_
      refine zrReg ?_
      refine zlRun (n := 2) (j := 2) rfl (by kernel_rfl) ?_
      refine zlEnd (by kernel_rfl) ?_
      refine zkSeq ?_
      refine zrLoop1 ?_
      refine zrSeq ?_
      refine zrReg ?_
      refine zlRun (n := 1) (j := 1) rfl (by kernel_rfl) ?_
      refine zlEnd (by kernel_rfl) ?_
      refine zkSeq ?_
      refine zrSeq ?_
      refine zrCondF (by kernel_rfl) ?_
      refine zrExit ?_
      refine zkSeqX ?_
      refine zkSeqX ?_
      refine zkBlkX ?_
      refine zkSeq ?_
      exact f28_j4_ok hd a1 hQ false hS (by kernel_rfl)
  · replace hS := cond_f hc hS
    refine zlRun (n := 15) (j := 17) rfl (by kernel_rfl) ?_
    refine zlEnd (by kernel_rfl) ?_
    refine zkBlk ?_
    refine zkSeq ?_
    refine zrReg ?_
    refine zlRun (n := 2) (j := 2) rfl (by kernel_rfl) ?_
    refine zlEnd (by kernel_rfl) ?_
    refine zkSeq ?_
    refine zrLoop1 ?_
    refine zrSeq ?_
    refine zrReg ?_
    refine zlRun (n := 1) (j := 1) rfl (by kernel_rfl) ?_
    refine zlEnd (by kernel_rfl) ?_
    refine zkSeq ?_
    refine zrSeq ?_
    refine zrCondF (by kernel_rfl) ?_
    refine zrExit ?_
    refine zkSeqX ?_
    refine zkSeqX ?_
    refine zkBlkX ?_
    refine zkSeq ?_
    exact f28_j4_ok hd a1 hQ false hS (by kernel_rfl)
def f28_j9_J (a1 : GScreen) : St := ⟨(up (up (up (fun _ => .un) 98 (.d (.int .i64 1))) 5 (.d (.bool false))) 1 (.r (.ptr 16 0 0))), (up (hB fun _ => 0) 16 ⟨0, some (.box ((.d (.int .i64 a1.Grid.Wide)) :: ((.d (.int .i64 a1.Grid.High)) :: ((.d (.sl a1.Grid.Cells.length (e_GCell.cells a1.Grid.Cells))) :: ((.d (.int .i64 a1.Row)) :: ((.d (.int .i64 a1.Col)) :: ((.d (.bool a1.Late)) :: ((.d (.int .i64 a1.Top)) :: ((.d (.int .i64 a1.Bottom)) :: ((.d (.int .i64 a1.Pen.Flags)) :: ((.d (.int .i64 a1.Pen.Fore)) :: ((.d (.int .i64 a1.Pen.Back)) :: ((.d (.int .i64 a1.Modes)) :: (((eInt .u64).row 4 a1.Stops.Bits) ++ ((.d (.int .i64 a1.Pages.1)) :: ((.d (.int .i64 a1.Pages.2)) :: ((.d (.int .i64 a1.Shift)) :: ((.d (.int .i64 a1.Saved.Row)) :: ((.d (.int .i64 a1.Saved.Col)) :: ((.d (.int .i64 a1.Saved.Pen.Flags)) :: ((.d (.int .i64 a1.Saved.Pen.Fore)) :: ((.d (.int .i64 a1.Saved.Pen.Back)) :: ((.d (.bool a1.Saved.Origin)) :: ((.d (.int .i64 a1.Saved.Pages.1)) :: ((.d (.int .i64 a1.Saved.Pages.2)) :: ((.d (.int .i64 a1.Saved.Shift)) :: ((.d (.int .i64 a1.Other.Wide)) :: ((.d (.int .i64 a1.Other.High)) :: ((.d (.sl a1.Other.Cells.length (e_GCell.cells a1.Other.Cells))) :: ((.d (.str a1.Title)) :: ((.d (.sl a1.Past.length (e_GLine.cells a1.Past))) :: [])))))))))))))))))))))))))))))))⟩)⟩
noncomputable def f28_j9 (a1 : GScreen) : Option (Int) := (f28_j4 a1 false)
theorem f28_j9_ok {d : Nat} (hd : 6 ≤ d) (a1 : GScreen) {r : Int} {Q : PX → St → Prop} (hQ : ∀ e st', f28_Q r e st' → Q e st')  (hS : f28_j9 a1 = some r) {st : St} (he : keepSt [1, 5, 98] [(16, .id 16)] [] st = f28_j9_J a1) : ZR (lev codes baseL (d - 1)) Q c28_4 [.seq c28_5, .blk 0, .seq c28_3] st := by
  refine zrKeep he ?_
  unfold f28_j9 at hS
  refine zrSeq ?_
  refine zrBlk ?_
  refine zrSeq ?_
  refine zrReg ?_
  refine zlRun (n := 2) (j := 2) rfl (by kernel_rfl) ?_
  refine zlEnd (by kernel_rfl) ?_
  refine zkSeq ?_
  refine zrReg ?_
  refine zlRun (n := 17) (j := 17) rfl (by kernel_rfl) ?_
  refine zlEnd (by kernel_rfl) ?_
  refine zkBlk ?_
  refine zkSeq ?_
  refine zrReg ?_
  refine zlRun (n := 2) (j := 2) rfl (by kernel_rfl) ?_
  refine zlEnd (by kernel_rfl) ?_
  refine zkSeq ?_
  refine zrLoop1 ?_
  refine zrSeq ?_
  refine zrReg ?_
  refine zlRun (n := 1) (j := 1) rfl (by kernel_rfl) ?_
  refine zlEnd (by kernel_rfl) ?_
  refine zkSeq ?_
  refine zrSeq ?_
  refine zrCondF (by kernel_rfl) ?_
  refine zrExit ?_
  refine zkSeqX ?_
  refine zkSeqX ?_
  refine zkBlkX ?_
  refine zkSeq ?_
  exact f28_j4_ok hd a1 hQ false hS (by kernel_rfl)
def f28_j10_J (a1 : GScreen) : St := ⟨(up (up (up (fun _ => .un) 98 (.d (.int .i64 1))) 5 (.d (.bool false))) 1 (.r (.ptr 16 0 0))), (up (hB fun _ => 0) 16 ⟨0, some (.box ((.d (.int .i64 a1.Grid.Wide)) :: ((.d (.int .i64 a1.Grid.High)) :: ((.d (.sl a1.Grid.Cells.length (e_GCell.cells a1.Grid.Cells))) :: ((.d (.int .i64 a1.Row)) :: ((.d (.int .i64 a1.Col)) :: ((.d (.bool a1.Late)) :: ((.d (.int .i64 a1.Top)) :: ((.d (.int .i64 a1.Bottom)) :: ((.d (.int .i64 a1.Pen.Flags)) :: ((.d (.int .i64 a1.Pen.Fore)) :: ((.d (.int .i64 a1.Pen.Back)) :: ((.d (.int .i64 a1.Modes)) :: (((eInt .u64).row 4 a1.Stops.Bits) ++ ((.d (.int .i64 a1.Pages.1)) :: ((.d (.int .i64 a1.Pages.2)) :: ((.d (.int .i64 a1.Shift)) :: ((.d (.int .i64 a1.Saved.Row)) :: ((.d (.int .i64 a1.Saved.Col)) :: ((.d (.int .i64 a1.Saved.Pen.Flags)) :: ((.d (.int .i64 a1.Saved.Pen.Fore)) :: ((.d (.int .i64 a1.Saved.Pen.Back)) :: ((.d (.bool a1.Saved.Origin)) :: ((.d (.int .i64 a1.Saved.Pages.1)) :: ((.d (.int .i64 a1.Saved.Pages.2)) :: ((.d (.int .i64 a1.Saved.Shift)) :: ((.d (.int .i64 a1.Other.Wide)) :: ((.d (.int .i64 a1.Other.High)) :: ((.d (.sl a1.Other.Cells.length (e_GCell.cells a1.Other.Cells))) :: ((.d (.str a1.Title)) :: ((.d (.sl a1.Past.length (e_GLine.cells a1.Past))) :: [])))))))))))))))))))))))))))))))⟩)⟩
noncomputable def f28_j10 (a1 : GScreen) : Option (Int) := (f28_j4 a1 false)
theorem f28_j10_ok {d : Nat} (hd : 6 ≤ d) (a1 : GScreen) {r : Int} {Q : PX → St → Prop} (hQ : ∀ e st', f28_Q r e st' → Q e st')  (hS : f28_j10 a1 = some r) {st : St} (he : keepSt [1, 5, 98] [(16, .id 16)] [] st = f28_j10_J a1) : ZR (lev codes baseL (d - 1)) Q c28_4 [.seq c28_5, .blk 0, .seq c28_3] st := by
  refine zrKeep he ?_
  unfold f28_j10 at hS
  refine zrSeq ?_
  refine zrBlk ?_
  refine zrSeq ?_
  refine zrReg ?_
  refine zlRun (n := 2) (j := 2) rfl (by kernel_rfl) ?_
  refine zlEnd (by kernel_rfl) ?_
  refine zkSeq ?_
  refine zrReg ?_
  refine zlRun (n := 17) (j := 17) rfl (by kernel_rfl) ?_
  refine zlEnd (by kernel_rfl) ?_
  refine zkBlk ?_
  refine zkSeq ?_
  refine zrReg ?_
  refine zlRun (n := 2) (j := 2) rfl (by kernel_rfl) ?_
  refine zlEnd (by kernel_rfl) ?_
  refine zkSeq ?_
  refine zrLoop1 ?_
  refine zrSeq ?_
  refine zrReg ?_
  refine zlRun (n := 1) (j := 1) rfl (by kernel_rfl) ?_
  refine zlEnd (by kernel_rfl) ?_
  refine zkSeq ?_
  refine zrSeq ?_
  refine zrCondF (by kernel_rfl) ?_
  refine zrExit ?_
  refine zkSeqX ?_
  refine zkSeqX ?_
  refine zkBlkX ?_
  refine zkSeq ?_
  exact f28_j4_ok hd a1 hQ false hS (by kernel_rfl)
def f28_j7_J (a1 : GScreen) (p71 : Bool) : St := ⟨(up (up (up (fun _ => .un) 98 (.d (.int .i64 0))) 5 (.d (.bool p71))) 1 (.r (.ptr 16 0 0))), (up (hB fun _ => 0) 16 ⟨0, some (.box ((.d (.int .i64 a1.Grid.Wide)) :: ((.d (.int .i64 a1.Grid.High)) :: ((.d (.sl a1.Grid.Cells.length (e_GCell.cells a1.Grid.Cells))) :: ((.d (.int .i64 a1.Row)) :: ((.d (.int .i64 a1.Col)) :: ((.d (.bool a1.Late)) :: ((.d (.int .i64 a1.Top)) :: ((.d (.int .i64 a1.Bottom)) :: ((.d (.int .i64 a1.Pen.Flags)) :: ((.d (.int .i64 a1.Pen.Fore)) :: ((.d (.int .i64 a1.Pen.Back)) :: ((.d (.int .i64 a1.Modes)) :: (((eInt .u64).row 4 a1.Stops.Bits) ++ ((.d (.int .i64 a1.Pages.1)) :: ((.d (.int .i64 a1.Pages.2)) :: ((.d (.int .i64 a1.Shift)) :: ((.d (.int .i64 a1.Saved.Row)) :: ((.d (.int .i64 a1.Saved.Col)) :: ((.d (.int .i64 a1.Saved.Pen.Flags)) :: ((.d (.int .i64 a1.Saved.Pen.Fore)) :: ((.d (.int .i64 a1.Saved.Pen.Back)) :: ((.d (.bool a1.Saved.Origin)) :: ((.d (.int .i64 a1.Saved.Pages.1)) :: ((.d (.int .i64 a1.Saved.Pages.2)) :: ((.d (.int .i64 a1.Saved.Shift)) :: ((.d (.int .i64 a1.Other.Wide)) :: ((.d (.int .i64 a1.Other.High)) :: ((.d (.sl a1.Other.Cells.length (e_GCell.cells a1.Other.Cells))) :: ((.d (.str a1.Title)) :: ((.d (.sl a1.Past.length (e_GLine.cells a1.Past))) :: [])))))))))))))))))))))))))))))))⟩)⟩
noncomputable def f28_j7 (a1 : GScreen) (p71 : Bool) : Option (Int) := (bif p71 then ((f51 a1.Pages.1).bind fun z47 => (bif z47 then ((f51 a1.Saved.Pages.1).bind fun z48 => (f28_j8 a1 z48)) else (f28_j9 a1 ))) else (f28_j10 a1 ))
theorem f28_j7_ok {d : Nat} (hd : 6 ≤ d) (a1 : GScreen) {r : Int} {Q : PX → St → Prop} (hQ : ∀ e st', f28_Q r e st' → Q e st') (p71 : Bool) (hS : f28_j7 a1 p71 = some r) {st : St} (he : keepSt [1, 5, 98] [(16, .id 16)] [] st = f28_j7_J a1 p71) : ZR (lev codes baseL (d - 1)) Q c28_4 [.seq c28_5, .blk 0, .seq c28_3] st := by
  refine zrKeep he ?_
  unfold f28_j7 at hS
  refine zrSeq ?_
  refine zrBlk ?_
  refine zrSeq ?_
  refine zrReg ?_
  refine zlRun (n := 2) (j := 2) rfl (by kernel_rfl) ?_
  refine zlEnd (by kernel_rfl) ?_
  refine zkSeq ?_
  refine zrReg ?_
  refine zlRun (n := 2) (j := 2) rfl (by kernel_rfl) ?_
  refine zlSplit 102 p71 (by kernel_rfl) (fun hc => ?_) (fun hc => ?_)
  · replace hS := cond_t hc hS
    refine zlRun (n := 4) (j := 6) rfl (by kernel_rfl) ?_
    refine bindE hS (fun z47 hz47 hS => ?_)
    refine zlOp (d := some 107) (op := (.call 51 [(.tmp 106)])) (g := (some (102, true))) (j := 7) rfl (by kernel_rfl) (by kernel_rfl) (ev_callA (by kernel_rfl) (f51_ok (d - 1) (dpt hd rfl) a1.Pages.1 z47 hz47) (by kernel_rfl) (by kernel_rfl)) ?_
    refine zlRun (n := 2) (j := 9) rfl (by kernel_rfl) ?_
    refine zlSplit 109 z47 (by kernel_rfl) (fun hc => ?_) (fun hc => ?_)
    · replace hS := cond_t hc hS
      refine zlRun (n := 5) (j := 14) rfl (by kernel_rfl) ?_
      refine bindE hS (fun z48 hz48 hS => ?_)
      refine zlOp (d := some 115) (op := (.call 51 [(.tmp 114)])) (g := (some (109, true))) (j := 15) rfl (by kernel_rfl) (by kernel_rfl) (ev_callA (by kernel_rfl) (f51_ok (d - 1) (dpt hd rfl) a1.Saved.Pages.1 z48 hz48) (by kernel_rfl) (by kernel_rfl)) ?_
      refine zlRun (n := 2) (j := 17) rfl (by kernel_rfl) ?_
      refine zlEnd (by kernel_rfl) ?_
      refine zkBlk ?_
      refine zkSeq ?_
      refine zrReg ?_
      refine zlRun (n := 2) (j := 2) rfl (by kernel_rfl) ?_
      refine zlEnd (by kernel_rfl) ?_
      refine zkSeq ?_
      refine zrLoop1 ?_
      refine zrSeq ?_
      refine zrReg ?_
      refine zlRun (n := 1) (j := 1) rfl (by kernel_rfl) ?_
      refine zlEnd (by kernel_rfl) ?_
      refine zkSeq ?_
      refine zrSeq ?_
      refine zrCondT (by kernel_rfl) ?_
      refine zrSkip ?_
      refine zkSeq ?_
      exact f28_j8_ok hd a1 hQ z48 hS (by kernel_rfl)
    · replace hS := cond_f hc hS
      refine zlRun (n := 8) (j := 17) rfl (by kernel_rfl) ?_
      refine zlEnd (by kernel_rfl) ?_
      refine zkBlk ?_
      refine zkSeq ?_
      refine zrReg ?_
      refine zlRun (n := 2) (j := 2) rfl (by kernel_rfl) ?_
      refine zlEnd (by kernel_rfl) ?_
      refine zkSeq ?_
      refine zrLoop1 ?_
      refine zrSeq ?_
      refine zrReg ?_
      refine zlRun (n := 1) (j := 1) rfl (by kernel_rfl) ?_
      refine zlEnd (by kernel_rfl) ?_
      refine zkSeq ?_
      refine zrSeq ?_
      refine zrCondT (by kernel_rfl) ?_
      refine zrSkip ?_
      refine zkSeq ?_
      exact f28_j9_ok hd a1 hQ  hS (by kernel_rfl)
  · replace hS := cond_f hc hS
    refine zlRun (n := 15) (j := 17) rfl (by kernel_rfl) ?_
    refine zlEnd (by kernel_rfl) ?_
    refine zkBlk ?_
    refine zkSeq ?_
    refine zrReg ?_
    refine zlRun (n := 2) (j := 2) rfl (by kernel_rfl) ?_
    refine zlEnd (by kernel_rfl) ?_
    refine zkSeq ?_
    refine zrLoop1 ?_
    refine zrSeq ?_
    refine zrReg ?_
    refine zlRun (n := 1) (j := 1) rfl (by kernel_rfl) ?_
    refine zlEnd (by kernel_rfl) ?_
    refine zkSeq ?_
    refine zrSeq ?_
    refine zrCondT (by kernel_rfl) ?_
    refine zrSkip ?_
    refine zkSeq ?_
    exact f28_j10_ok hd a1 hQ  hS (by kernel_rfl)
def f28_j3_J (a1 : GScreen) (p51 : Bool) : St := ⟨(up (up (fun _ => .un) 5 (.d (.bool p51))) 1 (.r (.ptr 16 0 0))), (up (hB fun _ => 0) 16 ⟨0, some (.box ((.d (.int .i64 a1.Grid.Wide)) :: ((.d (.int .i64 a1.Grid.High)) :: ((.d (.sl a1.Grid.Cells.length (e_GCell.cells a1.Grid.Cells))) :: ((.d (.int .i64 a1.Row)) :: ((.d (.int .i64 a1.Col)) :: ((.d (.bool a1.Late)) :: ((.d (.int .i64 a1.Top)) :: ((.d (.int .i64 a1.Bottom)) :: ((.d (.int .i64 a1.Pen.Flags)) :: ((.d (.int .i64 a1.Pen.Fore)) :: ((.d (.int .i64 a1.Pen.Back)) :: ((.d (.int .i64 a1.Modes)) :: (((eInt .u64).row 4 a1.Stops.Bits) ++ ((.d (.int .i64 a1.Pages.1)) :: ((.d (.int .i64 a1.Pages.2)) :: ((.d (.int .i64 a1.Shift)) :: ((.d (.int .i64 a1.Saved.Row)) :: ((.d (.int .i64 a1.Saved.Col)) :: ((.d (.int .i64 a1.Saved.Pen.Flags)) :: ((.d (.int .i64 a1.Saved.Pen.Fore)) :: ((.d (.int .i64 a1.Saved.Pen.Back)) :: ((.d (.bool a1.Saved.Origin)) :: ((.d (.int .i64 a1.Saved.Pages.1)) :: ((.d (.int .i64 a1.Saved.Pages.2)) :: ((.d (.int .i64 a1.Saved.Shift)) :: ((.d (.int .i64 a1.Other.Wide)) :: ((.d (.int .i64 a1.Other.High)) :: ((.d (.sl a1.Other.Cells.length (e_GCell.cells a1.Other.Cells))) :: ((.d (.str a1.Title)) :: ((.d (.sl a1.Past.length (e_GLine.cells a1.Past))) :: [])))))))))))))))))))))))))))))))⟩)⟩
noncomputable def f28_j3 (a1 : GScreen) (p51 : Bool) : Option (Int) := (f28_j7 a1 p51)
theorem f28_j3_ok {d : Nat} (hd : 6 ≤ d) (a1 : GScreen) {r : Int} {Q : PX → St → Prop} (hQ : ∀ e st', f28_Q r e st' → Q e st') (p51 : Bool) (hS : f28_j3 a1 p51 = some r) {st : St} (he : keepSt [1, 5] [(16, .id 16)] [] st = f28_j3_J a1 p51) : ZR (lev codes baseL (d - 1)) Q c28_6 [] st := by
  refine zrKeep he ?_
  unfold f28_j3 at hS
  refine zrSeq ?_
  refine zrSeq ?_
  refine zrReg ?_
  refine zlRun (n := 1) (j := 1) rfl (by kernel_rfl) ?_
  refine zlEnd (by kernel_rfl) ?_
  refine zkSeq ?_
  refine zrBlk ?_
  refine zrLoop1 ?_
  refine zrSeq ?_
  refine zrReg ?_
  refine zlRun (n := 1) (j := 1) rfl (by kernel_rfl) ?_
  refine zlEnd (by kernel_rfl) ?_
  refine zkSeq ?_
  refine zrSeq ?_
  refine zrCondT (by kernel_rfl) ?_
  refine zrSkip ?_
  refine zkSeq ?_
  exact f28_j7_ok hd a1 hQ p51 hS (by kernel_rfl)
def f28_j2_J (a1 : GScreen) (p47 : Bool) : St := ⟨(up (up (fun _ => .un) 5 (.d (.bool p47))) 1 (.r (.ptr 16 0 0))), (up (hB fun _ => 0) 16 ⟨0, some (.box ((.d (.int .i64 a1.Grid.Wide)) :: ((.d (.int .i64 a1.Grid.High)) :: ((.d (.sl a1.Grid.Cells.length (e_GCell.cells a1.Grid.Cells))) :: ((.d (.int .i64 a1.Row)) :: ((.d (.int .i64 a1.Col)) :: ((.d (.bool a1.Late)) :: ((.d (.int .i64 a1.Top)) :: ((.d (.int .i64 a1.Bottom)) :: ((.d (.int .i64 a1.Pen.Flags)) :: ((.d (.int .i64 a1.Pen.Fore)) :: ((.d (.int .i64 a1.Pen.Back)) :: ((.d (.int .i64 a1.Modes)) :: (((eInt .u64).row 4 a1.Stops.Bits) ++ ((.d (.int .i64 a1.Pages.1)) :: ((.d (.int .i64 a1.Pages.2)) :: ((.d (.int .i64 a1.Shift)) :: ((.d (.int .i64 a1.Saved.Row)) :: ((.d (.int .i64 a1.Saved.Col)) :: ((.d (.int .i64 a1.Saved.Pen.Flags)) :: ((.d (.int .i64 a1.Saved.Pen.Fore)) :: ((.d (.int .i64 a1.Saved.Pen.Back)) :: ((.d (.bool a1.Saved.Origin)) :: ((.d (.int .i64 a1.Saved.Pages.1)) :: ((.d (.int .i64 a1.Saved.Pages.2)) :: ((.d (.int .i64 a1.Saved.Shift)) :: ((.d (.int .i64 a1.Other.Wide)) :: ((.d (.int .i64 a1.Other.High)) :: ((.d (.sl a1.Other.Cells.length (e_GCell.cells a1.Other.Cells))) :: ((.d (.str a1.Title)) :: ((.d (.sl a1.Past.length (e_GLine.cells a1.Past))) :: [])))))))))))))))))))))))))))))))⟩)⟩
noncomputable def f28_j2 (a1 : GScreen) (p47 : Bool) : Option (Int) := (bif p47 then ((f50 a1.Pen).bind fun z53 => (bif (decide (z53 = 0)) then ((f50 a1.Saved.Pen).bind fun z54 => (bif (decide (z54 = 0)) then ((f49 a1.Modes 0 2047).bind fun z55 => (f28_j3 a1 z55)) else (f28_j3 a1 false))) else (f28_j3 a1 false))) else (f28_j3 a1 false))
theorem f28_j2_ok {d : Nat} (hd : 6 ≤ d) (a1 : GScreen) {r : Int} {Q : PX → St → Prop} (hQ : ∀ e st', f28_Q r e st' → Q e st') (p47 : Bool) (hS : f28_j2 a1 p47 = some r) {st : St} (he : keepSt [1, 5] [(16, .id 16)] [] st = f28_j2_J a1 p47) : ZR (lev codes baseL (d - 1)) Q c28_7 [] st := by
  refine zrKeep he ?_
  unfold f28_j2 at hS
  refine zrSeq ?_
  refine zrReg ?_
  refine zlRun (n := 2) (j := 2) rfl (by kernel_rfl) ?_
  refine zlSplit 80 p47 (by kernel_rfl) (fun hc => ?_) (fun hc => ?_)
  · replace hS := cond_t hc hS
    refine zlRun (n := 2) (j := 4) rfl (by kernel_rfl) ?_
    refine bindE hS (fun z53 hz53 hS => ?_)
    refine zlOp (d := some 83) (op := (.call 50 [(.tmp 82)])) (g := (some (80, true))) (j := 5) rfl (by kernel_rfl) (by kernel_rfl) (ev_callA (by kernel_rfl) (f50_ok (d - 1) (dpt hd rfl) a1.Pen z53 hz53) (by kernel_rfl) (by kernel_rfl)) ?_
    refine zlBool (d := 84) (op := (.cmpI .eql (.tmp 83) (.const (.int .i64 0)))) (g := (some (80, true))) (j := 6) (decide (z53 = 0)) rfl (by kernel_rfl) (by kernel_rfl) (by kernel_rfl) (fun hc => ?_) (fun hc => ?_)
    · replace hS := cond_t hc hS
      refine zlRun (n := 5) (j := 11) rfl (by kernel_rfl) ?_
      refine bindE hS (fun z54 hz54 hS => ?_)
      refine zlOp (d := some 90) (op := (.call 50 [(.tmp 89)])) (g := (some (86, true))) (j := 12) rfl (by kernel_rfl) (by kernel_rfl) (ev_callA (by kernel_rfl) (f50_ok (d - 1) (dpt hd rfl) a1.Saved.Pen z54 hz54) (by kernel_rfl) (by kernel_rfl)) ?_
      refine zlBool (d := 91) (op := (.cmpI .eql (.tmp 90) (.const (.int .i64 0)))) (g := (some (86, true))) (j := 13) (decide (z54 = 0)) rfl (by kernel_rfl) (by kernel_rfl) (by kernel_rfl) (fun hc => ?_) (fun hc => ?_)
      · replace hS := cond_t hc hS
        refine zlRun (n := 4) (j := 17) rfl (by kernel_rfl) ?_
        refine bindE hS (fun z55 hz55 hS => ?_)
        refine zlOp (d := some 96) (op := (.call 49 [(.tmp 95), (.const (.int .i64 0)), (.const (.int .i64 2047))])) (g := (some (93, true))) (j := 18) rfl (by kernel_rfl) (by kernel_rfl) (ev_callA (by kernel_rfl) (f49_ok (d - 1) (dpt hd rfl) a1.Modes 0 2047 z55 hz55) (by kernel_rfl) (by kernel_rfl)) ?_
        refine zlRun (n := 2) (j := 20) rfl (by kernel_rfl) ?_
        refine zlEnd (by kernel_rfl) ?_
        refine zkSeq ?_
        exact f28_j3_ok hd a1 hQ z55 hS (by kernel_rfl)
      · replace hS := cond_f hc hS
        refine zlRun (n := 7) (j := 20) rfl (by kernel_rfl) ?_
        refine zlEnd (by kernel_rfl) ?_
        refine zkSeq ?_
        exact f28_j3_ok hd a1 hQ false hS (by kernel_rfl)
    · replace hS := cond_f hc hS
      refine zlRun (n := 14) (j := 20) rfl (by kernel_rfl) ?_
      refine zlEnd (by kernel_rfl) ?_
      refine zkSeq ?_
      exact f28_j3_ok hd a1 hQ false hS (by kernel_rfl)
  · replace hS := cond_f hc hS
    refine zlRun (n := 18) (j := 20) rfl (by kernel_rfl) ?_
    refine zlEnd (by kernel_rfl) ?_
    refine zkSeq ?_
    exact f28_j3_ok hd a1 hQ false hS (by kernel_rfl)
def f28_j1_J (a1 : GScreen) (p43 : Bool) : St := ⟨(up (up (up (fun _ => .un) 5 (.d (.bool p43))) 3 (.r (.ptr 32 0 0))) 1 (.r (.ptr 16 0 0))), (up (up (hB fun _ => 0) 32 ⟨0, some (.box ((.d (.int .i64 a1.Grid.Wide)) :: ((.d (.int .i64 a1.Grid.High)) :: ((.d (.sl a1.Grid.Cells.length (e_GCell.cells a1.Grid.Cells))) :: []))))⟩) 16 ⟨0, some (.box ((.d (.int .i64 a1.Grid.Wide)) :: ((.d (.int .i64 a1.Grid.High)) :: ((.d (.sl a1.Grid.Cells.length (e_GCell.cells a1.Grid.Cells))) :: ((.d (.int .i64 a1.Row)) :: ((.d (.int .i64 a1.Col)) :: ((.d (.bool a1.Late)) :: ((.d (.int .i64 a1.Top)) :: ((.d (.int .i64 a1.Bottom)) :: ((.d (.int .i64 a1.Pen.Flags)) :: ((.d (.int .i64 a1.Pen.Fore)) :: ((.d (.int .i64 a1.Pen.Back)) :: ((.d (.int .i64 a1.Modes)) :: (((eInt .u64).row 4 a1.Stops.Bits) ++ ((.d (.int .i64 a1.Pages.1)) :: ((.d (.int .i64 a1.Pages.2)) :: ((.d (.int .i64 a1.Shift)) :: ((.d (.int .i64 a1.Saved.Row)) :: ((.d (.int .i64 a1.Saved.Col)) :: ((.d (.int .i64 a1.Saved.Pen.Flags)) :: ((.d (.int .i64 a1.Saved.Pen.Fore)) :: ((.d (.int .i64 a1.Saved.Pen.Back)) :: ((.d (.bool a1.Saved.Origin)) :: ((.d (.int .i64 a1.Saved.Pages.1)) :: ((.d (.int .i64 a1.Saved.Pages.2)) :: ((.d (.int .i64 a1.Saved.Shift)) :: ((.d (.int .i64 a1.Other.Wide)) :: ((.d (.int .i64 a1.Other.High)) :: ((.d (.sl a1.Other.Cells.length (e_GCell.cells a1.Other.Cells))) :: ((.d (.str a1.Title)) :: ((.d (.sl a1.Past.length (e_GLine.cells a1.Past))) :: [])))))))))))))))))))))))))))))))⟩)⟩
noncomputable def f28_j1 (a1 : GScreen) (p43 : Bool) : Option (Int) := (bif p43 then ((f49 a1.Top 0 (IntKind.i64.wrap (a1.Bottom - 1))).bind fun z56 => (bif z56 then (bif (decide (a1.Bottom ≤ a1.Grid.High)) then (f28_j2 a1 true) else (f28_j2 a1 false)) else (f28_j2 a1 false))) else (f28_j2 a1 false))
theorem f28_j1_ok {d : Nat} (hd : 6 ≤ d) (a1 : GScreen) {r : Int} {Q : PX → St → Prop} (hQ : ∀ e st', f28_Q r e st' → Q e st') (p43 : Bool) (hS : f28_j1 a1 p43 = some r) {st : St} (he : keepSt [1, 3, 5] [(16, .id 16), (32, .id 32)] [] st = f28_j1_J a1 p43) : ZR (lev codes baseL (d - 1)) Q c28_8 [] st := by
  refine zrKeep he ?_
  unfold f28_j1 at hS
  refine zrSeq ?_
  refine zrReg ?_
  refine zlRun (n := 2) (j := 2) rfl (by kernel_rfl) ?_
  refine zlSplit 64 p43 (by kernel_rfl) (fun hc => ?_) (fun hc => ?_)
  · replace hS := cond_t hc hS
    refine zlRun (n := 5) (j := 7) rfl (by kernel_rfl) ?_
    refine bindE hS (fun z56 hz56 hS => ?_)
    refine zlOp (d := some 70) (op := (.call 49 [(.tmp 66), (.const (.int .i64 0)), (.tmp 69)])) (g := (some (64, true))) (j := 8) rfl (by kernel_rfl) (by kernel_rfl) (ev_callA (by kernel_rfl) (f49_ok (d - 1) (dpt hd rfl) a1.Top 0 (IntKind.i64.wrap (a1.Bottom - 1)) z56 hz56) (by kernel_rfl) (by kernel_rfl)) ?_
    refine zlRun (n := 2) (j := 10) rfl (by kernel_rfl) ?_
    refine zlSplit 72 z56 (by kernel_rfl) (fun hc => ?_) (fun hc => ?_)
    · replace hS := cond_t hc hS
      refine zlRun (n := 4) (j := 14) rfl (by kernel_rfl) ?_
      refine zlBool (d := 77) (op := (.cmpI .leq (.tmp 74) (.tmp 76))) (g := (some (72, true))) (j := 15) (decide (a1.Bottom ≤ a1.Grid.High)) rfl (by kernel_rfl) (by kernel_rfl) (by kernel_rfl) (fun hc => ?_) (fun hc => ?_)
      · replace hS := cond_t hc hS
        refine zlRun (n := 2) (j := 17) rfl (by kernel_rfl) ?_
        refine zlEnd (by kernel_rfl) ?_
        refine zkSeq ?_
        exact f28_j2_ok hd a1 hQ true hS (by kernel_rfl)
      · replace hS := cond_f hc hS
        refine zlRun (n := 2) (j := 17) rfl (by kernel_rfl) ?_
        refine zlEnd (by kernel_rfl) ?_
        refine zkSeq ?_
        exact f28_j2_ok hd a1 hQ false hS (by kernel_rfl)
    · replace hS := cond_f hc hS
      refine zlRun (n := 7) (j := 17) rfl (by kernel_rfl) ?_
      refine zlEnd (by kernel_rfl) ?_
      refine zkSeq ?_
      exact f28_j2_ok hd a1 hQ false hS (by kernel_rfl)
  · replace hS := cond_f hc hS
    refine zlRun (n := 15) (j := 17) rfl (by kernel_rfl) ?_
    refine zlEnd (by kernel_rfl) ?_
    refine zkSeq ?_
    exact f28_j2_ok hd a1 hQ false hS (by kernel_rfl)
def f28_j0_J (a1 : GScreen) (p38 : Bool) : St := ⟨(up (up (up (fun _ => .un) 5 (.d (.bool p38))) 3 (.r (.ptr 32 0 0))) 1 (.r (.ptr 16 0 0))), (up (up (hB fun _ => 0) 32 ⟨0, some (.box ((.d (.int .i64 a1.Grid.Wide)) :: ((.d (.int .i64 a1.Grid.High)) :: ((.d (.sl a1.Grid.Cells.length (e_GCell.cells a1.Grid.Cells))) :: []))))⟩) 16 ⟨0, some (.box ((.d (.int .i64 a1.Grid.Wide)) :: ((.d (.int .i64 a1.Grid.High)) :: ((.d (.sl a1.Grid.Cells.length (e_GCell.cells a1.Grid.Cells))) :: ((.d (.int .i64 a1.Row)) :: ((.d (.int .i64 a1.Col)) :: ((.d (.bool a1.Late)) :: ((.d (.int .i64 a1.Top)) :: ((.d (.int .i64 a1.Bottom)) :: ((.d (.int .i64 a1.Pen.Flags)) :: ((.d (.int .i64 a1.Pen.Fore)) :: ((.d (.int .i64 a1.Pen.Back)) :: ((.d (.int .i64 a1.Modes)) :: (((eInt .u64).row 4 a1.Stops.Bits) ++ ((.d (.int .i64 a1.Pages.1)) :: ((.d (.int .i64 a1.Pages.2)) :: ((.d (.int .i64 a1.Shift)) :: ((.d (.int .i64 a1.Saved.Row)) :: ((.d (.int .i64 a1.Saved.Col)) :: ((.d (.int .i64 a1.Saved.Pen.Flags)) :: ((.d (.int .i64 a1.Saved.Pen.Fore)) :: ((.d (.int .i64 a1.Saved.Pen.Back)) :: ((.d (.bool a1.Saved.Origin)) :: ((.d (.int .i64 a1.Saved.Pages.1)) :: ((.d (.int .i64 a1.Saved.Pages.2)) :: ((.d (.int .i64 a1.Saved.Shift)) :: ((.d (.int .i64 a1.Other.Wide)) :: ((.d (.int .i64 a1.Other.High)) :: ((.d (.sl a1.Other.Cells.length (e_GCell.cells a1.Other.Cells))) :: ((.d (.str a1.Title)) :: ((.d (.sl a1.Past.length (e_GLine.cells a1.Past))) :: [])))))))))))))))))))))))))))))))⟩)⟩
noncomputable def f28_j0 (a1 : GScreen) (p38 : Bool) : Option (Int) := (bif p38 then ((f49 a1.Row 0 (IntKind.i64.wrap (a1.Grid.High - 1))).bind fun z57 => (bif z57 then ((f49 a1.Col 0 (IntKind.i64.wrap (a1.Grid.Wide - 1))).bind fun z58 => (bif z58 then (bif (!a1.Late) then (f28_j1 a1 true) else (bif (decide (a1.Col = (IntKind.i64.wrap (a1.Grid.Wide - 1)))) then (f28_j1 a1 true) else (f28_j1 a1 false))) else (f28_j1 a1 false))) else (f28_j1 a1 false))) else (f28_j1 a1 false))
theorem f28_j0_ok {d : Nat} (hd : 6 ≤ d) (a1 : GScreen) {r : Int} {Q : PX → St → Prop} (hQ : ∀ e st', f28_Q r e st' → Q e st') (p38 : Bool) (hS : f28_j0 a1 p38 = some r) {st : St} (he : keepSt [1, 3, 5] [(16, .id 16), (32, .id 32)] [] st = f28_j0_J a1 p38) : ZR (lev codes baseL (d - 1)) Q c28_9 [] st := by
  refine zrKeep he ?_
  unfold f28_j0 at hS
  refine zrSeq ?_
  refine zrReg ?_
  refine zlRun (n := 2) (j := 2) rfl (by kernel_rfl) ?_
  refine zlSplit 34 p38 (by kernel_rfl) (fun hc => ?_) (fun hc => ?_)
  · replace hS := cond_t hc hS
    refine zlRun (n := 5) (j := 7) rfl (by kernel_rfl) ?_
    refine bindE hS (fun z57 hz57 hS => ?_)
    refine zlOp (d := some 40) (op := (.call 49 [(.tmp 36), (.const (.int .i64 0)), (.tmp 39)])) (g := (some (34, true))) (j := 8) rfl (by kernel_rfl) (by kernel_rfl) (ev_callA (by kernel_rfl) (f49_ok (d - 1) (dpt hd rfl) a1.Row 0 (IntKind.i64.wrap (a1.Grid.High - 1)) z57 hz57) (by kernel_rfl) (by kernel_rfl)) ?_
    refine zlRun (n := 2) (j := 10) rfl (by kernel_rfl) ?_
    refine zlSplit 42 z57 (by kernel_rfl) (fun hc => ?_) (fun hc => ?_)
    · replace hS := cond_t hc hS
      refine zlRun (n := 5) (j := 15) rfl (by kernel_rfl) ?_
      refine bindE hS (fun z58 hz58 hS => ?_)
      refine zlOp (d := some 48) (op := (.call 49 [(.tmp 44), (.const (.int .i64 0)), (.tmp 47)])) (g := (some (42, true))) (j := 16) rfl (by kernel_rfl) (by kernel_rfl) (ev_callA (by kernel_rfl) (f49_ok (d - 1) (dpt hd rfl) a1.Col 0 (IntKind.i64.wrap (a1.Grid.Wide - 1)) z58 hz58) (by kernel_rfl) (by kernel_rfl)) ?_
      refine zlRun (n := 2) (j := 18) rfl (by kernel_rfl) ?_
      refine zlSplit 50 z58 (by kernel_rfl) (fun hc => ?_) (fun hc => ?_)
      · replace hS := cond_t hc hS
        refine zlRun (n := 4) (j := 22) rfl (by kernel_rfl) ?_
        refine zlSplit 54 (!a1.Late) (by kernel_rfl) (fun hc => ?_) (fun hc => ?_)
        · replace hS := cond_t hc hS
          refine zlRun (n := 9) (j := 31) rfl (by kernel_rfl) ?_
          refine zlEnd (by kernel_rfl) ?_
          refine zkSeq ?_
          exact f28_j1_ok hd a1 hQ true hS (by kernel_rfl)
        · replace hS := cond_f hc hS
          refine zlRun (n := 5) (j := 27) rfl (by kernel_rfl) ?_
          refine zlBool (d := 60) (op := (.cmpI .eql (.tmp 56) (.tmp 59))) (g := (some (54, false))) (j := 28) (decide (a1.Col = (IntKind.i64.wrap (a1.Grid.Wide - 1)))) rfl (by kernel_rfl) (by kernel_rfl) (by kernel_rfl) (fun hc => ?_) (fun hc => ?_)
          · replace hS := cond_t hc hS
            refine zlRun (n := 3) (j := 31) rfl (by kernel_rfl) ?_
            refine zlEnd (by kernel_rfl) ?_
            refine zkSeq ?_
            exact f28_j1_ok hd a1 hQ true hS (by kernel_rfl)
          · replace hS := cond_f hc hS
            refine zlRun (n := 3) (j := 31) rfl (by kernel_rfl) ?_
            refine zlEnd (by kernel_rfl) ?_
            refine zkSeq ?_
            exact f28_j1_ok hd a1 hQ false hS (by kernel_rfl)
      · replace hS := cond_f hc hS
        refine zlRun (n := 13) (j := 31) rfl (by kernel_rfl) ?_
        refine zlEnd (by kernel_rfl) ?_
        refine zkSeq ?_
        exact f28_j1_ok hd a1 hQ false hS (by kernel_rfl)
    · replace hS := cond_f hc hS
      refine zlRun (n := 21) (j := 31) rfl (by kernel_rfl) ?_
      refine zlEnd (by kernel_rfl) ?_
      refine zkSeq ?_
      exact f28_j1_ok hd a1 hQ false hS (by kernel_rfl)
  · replace hS := cond_f hc hS
    refine zlRun (n := 29) (j := 31) rfl (by kernel_rfl) ?_
    refine zlEnd (by kernel_rfl) ?_
    refine zkSeq ?_
    exact f28_j1_ok hd a1 hQ false hS (by kernel_rfl)
noncomputable def f28 (a1 : GScreen) : Option (Int) := ((f48 a1.Grid).bind fun z59 => (bif (decide (z59 = 0)) then ((f48 a1.Other).bind fun z60 => (bif (decide (z60 = 0)) then (bif (decide (a1.Grid.Wide = a1.Other.Wide)) then (bif (decide (a1.Grid.High = a1.Other.High)) then (f28_j0 a1 true) else (f28_j0 a1 false)) else (f28_j0 a1 false)) else (f28_j0 a1 false))) else (f28_j0 a1 false)))
theorem f28_ok (d : Nat) (hd : 6 ≤ d) (a1 : GScreen) (r : Int) (hS : f28 a1 = some r) : lev codes baseL d 28 [(.agg ((.d (.int .i64 a1.Grid.Wide)) :: ((.d (.int .i64 a1.Grid.High)) :: ((.d (.sl a1.Grid.Cells.length (e_GCell.cells a1.Grid.Cells))) :: ((.d (.int .i64 a1.Row)) :: ((.d (.int .i64 a1.Col)) :: ((.d (.bool a1.Late)) :: ((.d (.int .i64 a1.Top)) :: ((.d (.int .i64 a1.Bottom)) :: ((.d (.int .i64 a1.Pen.Flags)) :: ((.d (.int .i64 a1.Pen.Fore)) :: ((.d (.int .i64 a1.Pen.Back)) :: ((.d (.int .i64 a1.Modes)) :: (((eInt .u64).row 4 a1.Stops.Bits) ++ ((.d (.int .i64 a1.Pages.1)) :: ((.d (.int .i64 a1.Pages.2)) :: ((.d (.int .i64 a1.Shift)) :: ((.d (.int .i64 a1.Saved.Row)) :: ((.d (.int .i64 a1.Saved.Col)) :: ((.d (.int .i64 a1.Saved.Pen.Flags)) :: ((.d (.int .i64 a1.Saved.Pen.Fore)) :: ((.d (.int .i64 a1.Saved.Pen.Back)) :: ((.d (.bool a1.Saved.Origin)) :: ((.d (.int .i64 a1.Saved.Pages.1)) :: ((.d (.int .i64 a1.Saved.Pages.2)) :: ((.d (.int .i64 a1.Saved.Shift)) :: ((.d (.int .i64 a1.Other.Wide)) :: ((.d (.int .i64 a1.Other.High)) :: ((.d (.sl a1.Other.Cells.length (e_GCell.cells a1.Other.Cells))) :: ((.d (.str a1.Title)) :: ((.d (.sl a1.Past.length (e_GLine.cells a1.Past))) :: [])))))))))))))))))))))))))))))))] [] = some ((.d (.int .i64 r)), []) := by
  refine lev_go codes28 rfl rfl (Nat.le_trans (Nat.le_of_ble_eq_true rfl) hd) fun Q hQ => ?_
  unfold f28 at hS
  show ZR _ Q c28_b [] _
  replace hQ : ∀ e st', f28_Q r e st' → Q e st' := hQ
  refine zrSeq ?_
  refine zrReg ?_
  refine zlRun (n := 2) (j := 2) rfl (by kernel_rfl) ?_
  refine zlEnd (by kernel_rfl) ?_
  refine zkSeq ?_
  refine zrSeq ?_
  refine zrRegD ?_
  refine zdRun (n := 8) (j := 8) (ts := [[], [(16, false)], [], [(16, false)], [(32, true)], [(40, true)], [(32, true)], [(40, true)]]) (acc' := [[], [(16, false)], [], [(16, false)], [(32, true)], [(40, true)], [(32, true)], [(40, true)]]) rfl (by kernel_rfl) (by kernel_rfl) (by kernel_rfl) ?_
  refine zdEnd (by kernel_rfl) (by kernel_rfl) ?_
  refine zkSeq ?_
  refine zrSeq ?_
  refine zrReg ?_
  refine zlRun (n := 1) (j := 1) rfl (by kernel_rfl) ?_
  refine bindE hS (fun z59 hz59 hS => ?_)
  refine zlOp (d := some 12) (op := (.call 48 [(.tmp 11)])) (g := none) (j := 2) rfl (by kernel_rfl) (by kernel_rfl) (ev_callA (by kernel_rfl) (f48_ok (d - 1) (dpt hd rfl) a1.Grid z59 hz59) (by kernel_rfl) (by kernel_rfl)) ?_
  refine zlBool (d := 13) (op := (.cmpI .eql (.tmp 12) (.const (.int .i64 0)))) (g := none) (j := 3) (decide (z59 = 0)) rfl (by kernel_rfl) (by kernel_rfl) (by kernel_rfl) (fun hc => ?_) (fun hc => ?_)
  · replace hS := cond_t hc hS
    refine zlRun (n := 2) (j := 5) rfl (by kernel_rfl) ?_
    refine bindE hS (fun z60 hz60 hS => ?_)
    refine zlOp (d := some 16) (op := (.call 48 [(.tmp 15)])) (g := (some (14, true))) (j := 6) rfl (by kernel_rfl) (by kernel_rfl) (ev_callA (by kernel_rfl) (f48_ok (d - 1) (dpt hd rfl) a1.Other z60 hz60) (by kernel_rfl) (by kernel_rfl)) ?_
    refine zlBool (d := 17) (op := (.cmpI .eql (.tmp 16) (.const (.int .i64 0)))) (g := (some (14, true))) (j := 7) (decide (z60 = 0)) rfl (by kernel_rfl) (by kernel_rfl) (by kernel_rfl) (fun hc => ?_) (fun hc => ?_)
    · replace hS := cond_t hc hS
      refine zlRun (n := 6) (j := 13) rfl (by kernel_rfl) ?_
      refine zlBool (d := 24) (op := (.cmpI .eql (.tmp 21) (.tmp 23))) (g := (some (19, true))) (j := 14) (decide (a1.Grid.Wide = a1.Other.Wide)) rfl (by kernel_rfl) (by kernel_rfl) (by kernel_rfl) (fun hc => ?_) (fun hc => ?_)
      · replace hS := cond_t hc hS
        refine zlRun (n := 6) (j := 20) rfl (by kernel_rfl) ?_
        refine zlBool (d := 31) (op := (.cmpI .eql (.tmp 28) (.tmp 30))) (g := (some (26, true))) (j := 21) (decide (a1.Grid.High = a1.Other.High)) rfl (by kernel_rfl) (by kernel_rfl) (by kernel_rfl) (fun hc => ?_) (fun hc => ?_)
        · replace hS := cond_t hc hS
          refine zlRun (n := 2) (j := 23) rfl (by kernel_rfl) ?_
          refine zlEnd (by kernel_rfl) ?_
          refine zkSeq ?_
          exact f28_j0_ok hd a1 hQ true hS (by kernel_rfl)
        · replace hS := cond_f hc hS
          refine zlRun (n := 2) (j := 23) rfl (by kernel_rfl) ?_
          refine zlEnd (by kernel_rfl) ?_
          refine zkSeq ?_
          exact f28_j0_ok hd a1 hQ false hS (by kernel_rfl)
      · replace hS := cond_f hc hS
        refine zlRun (n := 9) (j := 23) rfl (by kernel_rfl) ?_
        refine zlEnd (by kernel_rfl) ?_
        refine zkSeq ?_
        exact f28_j0_ok hd a1 hQ false hS (by kernel_rfl)
    · replace hS := cond_f hc hS
      refine zlRun (n := 16) (j := 23) rfl (by kernel_rfl) ?_
      refine zlEnd (by kernel_rfl) ?_
      refine zkSeq ?_
      exact f28_j0_ok hd a1 hQ false hS (by kernel_rfl)
  · replace hS := cond_f hc hS
    refine zlRun (n := 20) (j := 23) rfl (by kernel_rfl) ?_
    refine zlEnd (by kernel_rfl) ?_
    refine zkSeq ?_
    exact f28_j0_ok hd a1 hQ false hS (by kernel_rfl)
/- farwriter/grid.Blank -/
def f110_fin (p1 : GCell) : St := ⟨(up (fun _ => .un) 2 (.r (.ptr 24 0 0))), (up (hB fun _ => 0) 24 ⟨0, some (.box ((.d (.int .i64 p1.Rune)) :: ((.d (.int .i64 p1.Pen.Flags)) :: ((.d (.int .i64 p1.Pen.Fore)) :: ((.d (.int .i64 p1.Pen.Back)) :: [])))))⟩)⟩
theorem f110_out (p1 : GCell) : outR (f110_fin p1) 0 c110.res = some ((.agg ((.d (.int .i64 p1.Rune)) :: ((.d (.int .i64 p1.Pen.Flags)) :: ((.d (.int .i64 p1.Pen.Fore)) :: ((.d (.int .i64 p1.Pen.Back)) :: []))))), []) := by
  kernel_rfl
def f110_Q (r : GCell) (e : PX) (st : St) : Prop := DoneF c110 0 ((.agg ((.d (.int .i64 r.Rune)) :: ((.d (.int .i64 r.Pen.Flags)) :: ((.d (.int .i64 r.Pen.Fore)) :: ((.d (.int .i64 r.Pen.Back)) :: []))))), []) e st
noncomputable def f110 (a1 : GPen) : Option (GCell) := (some (GCell.mk 32 a1))
theorem f110_ok (d : Nat) (hd : 1 ≤ d) (a1 : GPen) (r : GCell) (hS : f110 a1 = some r) : lev codes baseL d 110 [(.agg ((.d (.int .i64 a1.Flags)) :: ((.d (.int .i64 a1.Fore)) :: ((.d (.int .i64 a1.Back)) :: []))))] [] = some ((.agg ((.d (.int .i64 r.Rune)) :: ((.d (.int .i64 r.Pen.Flags)) :: ((.d (.int .i64 r.Pen.Fore)) :: ((.d (.int .i64 r.Pen.Back)) :: []))))), []) := by
  refine lev_go codes110 rfl rfl (Nat.le_trans (Nat.le_of_ble_eq_true rfl) hd) fun Q hQ => ?_
  unfold f110 at hS
  show ZR _ Q c110_b [] _
  replace hQ : ∀ e st', f110_Q r e st' → Q e st' := hQ
  refine zrSeq ?_
  refine zrReg ?_
  refine zlRun (n := 2) (j := 2) rfl (by kernel_rfl) ?_
  refine zlEnd (by kernel_rfl) ?_
  refine zkSeq ?_
  refine zrSeq ?_
  refine zrReg ?_
  refine zlRun (n := 3) (j := 3) rfl (by kernel_rfl) ?_
  refine zlEnd (by kernel_rfl) ?_
  refine zkSeq ?_
  refine zrRet ?_
  refine zkNil ?_
  exact endQ hS hQ (fRet (by kernel_rfl) ((congrArg (fun s => outR s 0 c110.res) (by kernel_rfl : finSt c110.fin _ = f110_fin (GCell.mk 32 a1))).trans (f110_out (GCell.mk 32 a1))))
/- math/bits.Mul64 -/
def f133_fin (p1 : Int) (p2 : Int) : St := ⟨(up (up (fun _ => .un) 5 (.d (.int .u64 p2))) 4 (.d (.int .u64 p1))), (hB fun _ => 0)⟩
theorem f133_out (p1 : Int) (p2 : Int) : outR (f133_fin p1 p2) 0 c133.res = some ((.tup [(.d (.int .u64 p1)), (.d (.int .u64 p2))]), []) := by
  kernel_rfl
def f133_Q (r : Int × Int) (e : PX) (st : St) : Prop := DoneF c133 0 ((.tup [(.d (.int .u64 r.1)), (.d (.int .u64 r.2))]), []) e st
noncomputable def f133 (a1 : Int) (a2 : Int) : Option (Int × Int) := (some ((IntKind.u64.wrap ((IntKind.u64.wrap ((IntKind.u64.wrap ((Int.fdiv a1 (2 ^ 32)) * (Int.fdiv a2 (2 ^ 32)))) + (Int.fdiv (IntKind.u64.wrap ((IntKind.u64.wrap ((Int.fdiv a1 (2 ^ 32)) * (bitI .and .u64 a2 4294967295))) + (Int.fdiv (IntKind.u64.wrap ((bitI .and .u64 a1 4294967295) * (bitI .and .u64 a2 4294967295))) (2 ^ 32)))) (2 ^ 32)))) + (Int.fdiv (IntKind.u64.wrap ((bitI .and .u64 (IntKind.u64.wrap ((IntKind.u64.wrap ((Int.fdiv a1 (2 ^ 32)) * (bitI .and .u64 a2 4294967295))) + (Int.fdiv (IntKind.u64.wrap ((bitI .and .u64 a1 4294967295) * (bitI .and .u64 a2 4294967295))) (2 ^ 32)))) 4294967295) + (IntKind.u64.wrap ((bitI .and .u64 a1 4294967295) * (Int.fdiv a2 (2 ^ 32)))))) (2 ^ 32)))), (IntKind.u64.wrap (a1 * a2))))
theorem f133_ok (d : Nat) (hd : 1 ≤ d) (a1 : Int) (a2 : Int) (r : Int × Int) (hS : f133 a1 a2 = some r) : lev codes baseL d 133 [(.d (.int .u64 a1)), (.d (.int .u64 a2))] [] = some ((.tup [(.d (.int .u64 r.1)), (.d (.int .u64 r.2))]), []) := by
  refine lev_go codes133 rfl rfl (Nat.le_trans (Nat.le_of_ble_eq_true rfl) hd) fun Q hQ => ?_
  unfold f133 at hS
  show ZR _ Q c133_b [] _
  replace hQ : ∀ e st', f133_Q r e st' → Q e st' := hQ
  refine zrSeq ?_
  refine zrReg ?_
  refine zlRun (n := 2) (j := 2) rfl (by kernel_rfl) ?_
  refine zlEnd (by kernel_rfl) ?_
  refine zkSeq ?_
  refine zrSeq ?_
  refine zrReg ?_
  refine zlRun (n := 3) (j := 3) rfl (by kernel_rfl) ?_
  refine zlEnd (by kernel_rfl) ?_
  refine zkSeq ?_
  refine zrSeq ?_
  refine zrReg ?_
  refine zlRun (n := 3) (j := 3) rfl (by kernel_rfl) ?_
  refine zlEnd (by kernel_rfl) ?_
  refine zkSeq ?_
  refine zrSeq ?_
  refine zrReg ?_
  refine zlRun (n := 3) (j := 3) rfl (by kernel_rfl) ?_
  refine zlEnd (by kernel_rfl) ?_
  refine zkSeq ?_
  refine zrSeq ?_
  refine zrReg ?_
  refine zlRun (n := 3) (j := 3) rfl (by kernel_rfl) ?_
  refine zlEnd (by kernel_rfl) ?_
  refine zkSeq ?_
  refine zrSeq ?_
  refine zrReg ?_
  refine zlRun (n := 4) (j := 4) rfl (by kernel_rfl) ?_
  refine zlEnd (by kernel_rfl) ?_
  refine zkSeq ?_
  refine zrSeq ?_
  refine zrReg ?_
  refine zlRun (n := 7) (j := 7) rfl (by kernel_rfl) ?_
  refine zlEnd (by kernel_rfl) ?_
  refine zkSeq ?_
  refine zrSeq ?_
  refine zrReg ?_
  refine zlRun (n := 3) (j := 3) rfl (by kernel_rfl) ?_
  refine zlEnd (by kernel_rfl) ?_
  refine zkSeq ?_
  refine zrSeq ?_
  refine zrReg ?_
  refine zlRun (n := 3) (j := 3) rfl (by kernel_rfl) ?_
  refine zlEnd (by kernel_rfl) ?_
  refine zkSeq ?_
  refine zrSeq ?_
  refine zrReg ?_
  refine zlRun (n := 6) (j := 6) rfl (by kernel_rfl) ?_
  refine zlEnd (by kernel_rfl) ?_
  refine zkSeq ?_
  refine zrSeq ?_
  refine zrReg ?_
  refine zlRun (n := 9) (j := 9) rfl (by kernel_rfl) ?_
  refine zlEnd (by kernel_rfl) ?_
  refine zkSeq ?_
  refine zrSeq ?_
  refine zrReg ?_
  refine zlRun (n := 4) (j := 4) rfl (by kernel_rfl) ?_
  refine zlEnd (by kernel_rfl) ?_
  refine zkSeq ?_
  refine zrRet ?_
  refine zkNil ?_
  exact endQ hS hQ (fRet (by kernel_rfl) ((congrArg (fun s => outR s 0 c133.res) (by kernel_rfl : finSt c133.fin _ = f133_fin (IntKind.u64.wrap ((IntKind.u64.wrap ((IntKind.u64.wrap ((Int.fdiv a1 (2 ^ 32)) * (Int.fdiv a2 (2 ^ 32)))) + (Int.fdiv (IntKind.u64.wrap ((IntKind.u64.wrap ((Int.fdiv a1 (2 ^ 32)) * (bitI .and .u64 a2 4294967295))) + (Int.fdiv (IntKind.u64.wrap ((bitI .and .u64 a1 4294967295) * (bitI .and .u64 a2 4294967295))) (2 ^ 32)))) (2 ^ 32)))) + (Int.fdiv (IntKind.u64.wrap ((bitI .and .u64 (IntKind.u64.wrap ((IntKind.u64.wrap ((Int.fdiv a1 (2 ^ 32)) * (bitI .and .u64 a2 4294967295))) + (Int.fdiv (IntKind.u64.wrap ((bitI .and .u64 a1 4294967295) * (bitI .and .u64 a2 4294967295))) (2 ^ 32)))) 4294967295) + (IntKind.u64.wrap ((bitI .and .u64 a1 4294967295) * (Int.fdiv a2 (2 ^ 32)))))) (2 ^ 32)))) (IntKind.u64.wrap (a1 * a2)))).trans (f133_out (IntKind.u64.wrap ((IntKind.u64.wrap ((IntKind.u64.wrap ((Int.fdiv a1 (2 ^ 32)) * (Int.fdiv a2 (2 ^ 32)))) + (Int.fdiv (IntKind.u64.wrap ((IntKind.u64.wrap ((Int.fdiv a1 (2 ^ 32)) * (bitI .and .u64 a2 4294967295))) + (Int.fdiv (IntKind.u64.wrap ((bitI .and .u64 a1 4294967295) * (bitI .and .u64 a2 4294967295))) (2 ^ 32)))) (2 ^ 32)))) + (Int.fdiv (IntKind.u64.wrap ((bitI .and .u64 (IntKind.u64.wrap ((IntKind.u64.wrap ((Int.fdiv a1 (2 ^ 32)) * (bitI .and .u64 a2 4294967295))) + (Int.fdiv (IntKind.u64.wrap ((bitI .and .u64 a1 4294967295) * (bitI .and .u64 a2 4294967295))) (2 ^ 32)))) 4294967295) + (IntKind.u64.wrap ((bitI .and .u64 a1 4294967295) * (Int.fdiv a2 (2 ^ 32)))))) (2 ^ 32)))) (IntKind.u64.wrap (a1 * a2)))))
/- math/bits.Mul -/
def f124_fin (p1 : Int) (p2 : Int) : St := ⟨(up (up (fun _ => .un) 5 (.d (.int .u64 p2))) 4 (.d (.int .u64 p1))), (hB fun _ => 0)⟩
theorem f124_out (p1 : Int) (p2 : Int) : outR (f124_fin p1 p2) 0 c124.res = some ((.tup [(.d (.int .u64 p1)), (.d (.int .u64 p2))]), []) := by
  kernel_rfl
def f124_Q (r : Int × Int) (e : PX) (st : St) : Prop := DoneF c124 0 ((.tup [(.d (.int .u64 r.1)), (.d (.int .u64 r.2))]), []) e st
def f124_j0_J (a1 : Int) (a2 : Int) : St := ⟨(up (up (fun _ => .un) 1 (.d (.int .u64 a2))) 0 (.d (.int .u64 a1))), (hB fun _ => 0)⟩
noncomputable def f124_j0 (a1 : Int) (a2 : Int) : Option (Int × Int) := ((f133 a1 a2).bind fun z2 => (some (z2.1, z2.2)))
theorem f124_j0_ok {d : Nat} (hd : 2 ≤ d) (a1 : Int) (a2 : Int) {r : Int × Int} {Q : PX → St → Prop} (hQ : ∀ e st', f124_Q r e st' → Q e st')  (hS : f124_j0 a1 a2 = some r) {st : St} (he : keepSt [0, 1] [] [] st = f124_j0_J a1 a2) : ZR (lev codes baseL (d - 1)) Q c124_1 [] st := by
  refine zrKeep he ?_
  unfold f124_j0 at hS
  refine zrSeq ?_
  refine zrReg ?_
  refine zlRun (n := 2) (j := 2) rfl (by kernel_rfl) ?_
  refine bindE hS (fun z2 hz2 hS => ?_)
  refine zlOp (d := some 25) (op := (.call 133 [(.tmp 23), (.tmp 24)])) (g := none) (j := 3) rfl (by kernel_rfl) (by kernel_rfl) (ev_callA (by kernel_rfl) (f133_ok (d - 1) (dpt hd rfl) a1 a2 z2 hz2) (by kernel_rfl) (by kernel_rfl)) ?_
  refine zlRun (n := 5) (j := 8) rfl (by kernel_rfl) ?_
  refine zlEnd (by kernel_rfl) ?_
  refine zkSeq ?_
  refine zrSeq ?_
  refine zrReg ?_
  refine zlRun (n := 4) (j := 4) rfl (by kernel_rfl) ?_
  refine zlEnd (by kernel_rfl) ?_
  refine zkSeq ?_
  refine zrRet ?_
  refine zkNil ?_
  exact endQ hS hQ (fRet (by kernel_rfl) ((congrArg (fun s => outR s 0 c124.res) (by kernel_rfl : finSt c124.fin _ = f124_fin z2.1 z2.2)).trans (f124_out z2.1 z2.2)))
noncomputable def f124 (a1 : Int) (a2 : Int) : Option (Int × Int) := (f124_j0 a1 a2 )
theorem f124_ok (d : Nat) (hd : 2 ≤ d) (a1 : Int) (a2 : Int) (r : Int × Int) (hS : f124 a1 a2 = some r) : lev codes baseL d 124 [(.d (.int .u64 a1)), (.d (.int .u64 a2))] [] = some ((.tup [(.d (.int .u64 r.1)), (.d (.int .u64 r.2))]), []) := by
  refine lev_go codes124 rfl rfl (Nat.le_trans (Nat.le_of_ble_eq_true rfl) hd) fun Q hQ => ?_
  unfold f124 at hS
  show ZR _ Q c124_b [] _
  replace hQ : ∀ e st', f124_Q r e st' → Q e st' := hQ
  refine zrSeq ?_
  refine zrReg ?_
  refine zlRun (n := 2) (j := 2) rfl (by kernel_rfl) ?_
  refine zlEnd (by kernel_rfl) ?_
  refine zkSeq ?_
  refine zrSeq ?_
  refine zrCondF (by kernel_rfl) ?_
  refine zrSkip ?_
  refine zkSeq ?_
  exact f124_j0_ok hd a1 a2 hQ  hS (by kernel_rfl)
/- slices.Repeat[[]farwriter/api.Cell,farwriter/api.Cell] -/
def f109_fin (p17 : List GCell) : St := ⟨(up (fun _ => .un) 4 (.r (.msl 248 0 0 p17.length))), (up (hB fun _ => 0) 248 ⟨0, some (.own 58 4 (e_GCell.cells p17))⟩)⟩
theorem f109_out (p17 : List GCell) : outR (f109_fin p17) 0 c109.res = some ((.r (.own 0 58 4 p17.length (e_GCell.cells p17))), []) := by
  exact out_of (ids := []) (ids' := [248]) (l := [(.r (.msl 248 0 0 p17.length))]) (by kernel_rfl) (by kernel_rfl) (o_own e_GCell (e := 58) (k := 4) (xs := p17) (by kernel_rfl) rfl rfl rfl rfl)
def f109_Q (r : (List GCell)) (e : PX) (st : St) : Prop := DoneF c109 0 ((.r (.own 0 58 4 r.length (e_GCell.cells r))), []) e st
def f109_l2_J (a1 : List GCell) (a2 : Int) (x : (List GCell) × Int) : St := ⟨(up (up (fun _ => .un) 8 (.d (.int .i64 x.2))) 7 (.r (.msl 248 0 0 x.1.length))), (up (hB fun _ => 0) 248 ⟨0, some (.own 58 4 (e_GCell.cells x.1))⟩)⟩
def f109_l2_H (a1 : List GCell) (a2 : Int) (x : (List GCell) × Int) (st : St) : Prop := keepSt [7, 8] [(248, .id 248)] [] st = f109_l2_J a1 a2 x
def f109_l2_e0_J (a1 : List GCell) (a2 : Int) (p34 : List GCell) : St := ⟨(up (fun _ => .un) 7 (.r (.msl 248 0 0 p34.length))), (up (hB fun _ => 0) 248 ⟨0, some (.own 58 4 (e_GCell.cells p34))⟩)⟩
def f109_l2_X (a1 : List GCell) (a2 : Int) (z : ((List GCell))) (e : PX) (st : St) : Prop := e = .exit 0 ∧ st = f109_l2_e0_J a1 a2 z
def f109_l2_j3_J (a1 : List GCell) (a2 : Int) (p38 : List GCell) (p39 : Int) : St := ⟨(up (up (fun _ => .un) 8 (.d (.int .i64 p39))) 7 (.r (.msl 248 0 0 p38.length))), (up (hB fun _ => 0) 248 ⟨0, some (.own 58 4 (e_GCell.cells p38))⟩)⟩
noncomputable def f109_l2_j3 (a1 : List GCell) (a2 : Int) (p38 : List GCell) (p39 : Int) : Option (((List GCell) × Int) ⊕ (((List GCell)))) := ((chk (decide (0 ≤ p39) && decide (p39 ≤ (p38.length : Int)) && decide ((p38.length : Int) ≤ (p38.length : Int)))).bind fun z37 => ((chk (decide (0 ≤ 0) && decide (0 ≤ p39) && decide (p39 ≤ (p38.length : Int)))).bind fun z38 => ((part? p38 0 ((p39 : Int).toNat - (0 : Int).toNat)).bind fun z39 => ((chk (decide (((p39 : Int).toNat) + (((p38.length : Int) : Int).toNat - (p39 : Int).toNat) ≤ p38.length))).bind fun z40 => ((some (cpyL p38 ((p39 : Int).toNat) (((p38.length : Int) : Int).toNat - (p39 : Int).toNat) z39)).bind fun z41 => (some (.inl (z41, (IntKind.i64.wrap (p39 + ((min z39.length (((z41.length : Int) : Int).toNat - (p39 : Int).toNat) : Nat) : Int)))))))))))
theorem f109_l2_j3_ok {d : Nat} (hd : 3 ≤ d) (a1 : List GCell) (a2 : Int) {r : ((List GCell) × Int) ⊕ (((List GCell)))} {Q : PX → St → Prop} (hQ : ∀ e st', finL (f109_l2_H a1 a2) (f109_l2_X a1 a2) r e st' → Q e st') (p38 : List GCell) (p39 : Int) (hS : f109_l2_j3 a1 a2 p38 p39 = some r) {st : St} (he : keepSt [7, 8] [(248, .id 248)] [] st = f109_l2_j3_J a1 a2 p38 p39) : ZR (lev codes baseL (d - 1)) Q c109_1 [] st := by
  refine zrKeep he ?_
  unfold f109_l2_j3 at hS
  refine zrBlk ?_
  refine zrRegD ?_
  refine zdRun (n := 3) (j := 3) (ts := [[], [], []]) (acc' := [[], [], []]) rfl (by kernel_rfl) (by kernel_rfl) (by kernel_rfl) ?_
  refine bindE hS (fun z37 hz37 hS => ?_)
  refine zdOp (d := some 41) (op := (.slS 58 4 (.tmp 39) (.some (.tmp 40)) .none)) (g := none) (v := (.r (.msl 248 0 ((p39 : Int).toNat) (((p38.length : Int) : Int).toNat - (p39 : Int).toNat)))) (ups := []) (j := 4) (t1 := [(248, false)]) (acc' := [[], [], [], [(248, false)]]) (by kernel_rfl) (by kernel_rfl) rfl (by kernel_rfl) (by kernel_rfl) (ev_slM (b := 248) (g := 0) (e := 58) (a := p39) (c := (p38.length : Int)) (l := 0) (n := p38.length) (l' := ((p39 : Int).toNat)) (n' := (((p38.length : Int) : Int).toNat - (p39 : Int).toNat)) (cs := e_GCell.cells p38) (by kernel_rfl) (by kernel_rfl) (bnd_s _ (kk := .i64) (j := p39) (by kernel_rfl)) (bnd_n _) hz37 (by simp) rfl) ?_
  refine zdRun (n := 2) (j := 6) (ts := [[], []]) (acc' := [[], [], [], [(248, false)], [], []]) rfl (by kernel_rfl) (by kernel_rfl) (by kernel_rfl) ?_
  refine bindE hS (fun z38 hz38 hS => ?_)
  refine zdOp (d := some 44) (op := (.slS 58 4 (.tmp 42) .none (.some (.tmp 43)))) (g := none) (v := (.r (.msl 248 0 0 ((p39 : Int).toNat - (0 : Int).toNat)))) (ups := []) (j := 7) (t1 := [(248, false)]) (acc' := [[], [], [], [(248, false)], [], [], [(248, false)]]) (by kernel_rfl) (by kernel_rfl) rfl (by kernel_rfl) (by kernel_rfl) (ev_slM (b := 248) (g := 0) (e := 58) (a := 0) (c := p39) (l := 0) (n := p38.length) (l' := 0) (n' := ((p39 : Int).toNat - (0 : Int).toNat)) (cs := e_GCell.cells p38) (by kernel_rfl) (by kernel_rfl) (bnd_n 0) (bnd_s _ (kk := .i64) (j := p39) (by kernel_rfl)) hz38 (by simp) rfl) ?_
  refine bindE hS (fun z39 hz39 hS => ?_)
  refine bindE hS (fun z40 hz40 hS => ?_)
  refine bindE hS (fun z41 hz41 hS => ?_)
  refine zdOp (d := some 45) (op := (.cpy 4 (.tmp 41) (.tmp 44))) (g := none) (v := (.d (.int .i64 ((min z39.length (((p38.length : Int) : Int).toNat - (p39 : Int).toNat) : Nat) : Int)))) (ups := [(248, ⟨0, some (.own 58 4 (e_GCell.cells (cpyL p38 ((p39 : Int).toNat) (((p38.length : Int) : Int).toNat - (p39 : Int).toNat) z39)))⟩)]) (j := 8) (t1 := [(248, true), (248, false)]) (acc' := [[], [], [], [(248, false)], [], [], [(248, false)], [(248, true), (248, false)]]) (by kernel_rfl) (by kernel_rfl) rfl (by kernel_rfl) (by kernel_rfl) (ev_cpy e_GCell (b := 248) (g := 0) (l := ((p39 : Int).toNat)) (n := (((p38.length : Int) : Int).toNat - (p39 : Int).toNat)) (e := 58) (xs := p38) (ys := z39) (by kernel_rfl) (by kernel_rfl) rfl ((congrArg (asL _) (by kernel_rfl : ρof _ (.tmp 44) = (.r (.msl 248 0 0 ((p39 : Int).toNat - (0 : Int).toNat))))).trans (as_part e_GCell (e := 58) (k := 4) (xs := p38) (by kernel_rfl) rfl hz39)) hz40) ?_
  have ez41 := Option.some.inj hz41
  have lz41 : p38.length = z41.length := by rw [← ez41]; exact (cpyL_len (of_decide_eq_true (chk_t hz40))).symm
  rw [ez41]
  try delta f109_l2_j3_J
  try rw [lz41]
  refine zdRun (n := 2) (j := 10) (ts := [[], []]) (acc' := [[], [], [], [(248, false)], [], [], [(248, false)], [(248, true), (248, false)], [], []]) rfl (by kernel_rfl) (by kernel_rfl) (by kernel_rfl) ?_
  refine zdEnd (by kernel_rfl) (by kernel_rfl) ?_
  refine zkBlk ?_
  refine zkNil ?_
  exact endQ hS hQ (finL_n (by show keepSt _ _ _ _ = _; kernel_rfl))
noncomputable def f109_l2 (a1 : List GCell) (a2 : Int) (x : (List GCell) × Int) : Option (((List GCell) × Int) ⊕ (((List GCell)))) := (bif (decide (x.2 < (x.1.length : Int))) then (f109_l2_j3 a1 a2 x.1 x.2) else (some (.inr x.1)))
theorem f109_l2_ok {d : Nat} (hd : 3 ≤ d) (a1 : List GCell) (a2 : Int) {r : ((List GCell) × Int) ⊕ (((List GCell)))} {Q : PX → St → Prop} (hQ : ∀ e st', finL (f109_l2_H a1 a2) (f109_l2_X a1 a2) r e st' → Q e st') {x : (List GCell) × Int} (hS : f109_l2 a1 a2 x = some r) {st : St} (he : f109_l2_H a1 a2 x st) : ZR (lev codes baseL (d - 1)) Q c109_2 [] st := by
  refine zrKeep he ?_
  unfold f109_l2 at hS
  refine zrSeq ?_
  refine zrSeq ?_
  refine zrReg ?_
  refine zlRun (n := 3) (j := 3) rfl (by kernel_rfl) ?_
  refine zlBool (d := 37) (op := (.cmpI .lss (.tmp 34) (.tmp 36))) (g := none) (j := 4) (decide (x.2 < (x.1.length : Int))) rfl (by kernel_rfl) (by kernel_rfl) (by kernel_rfl) (fun hc => ?_) (fun hc => ?_)
  · replace hS := cond_t hc hS
    refine zlEnd (by kernel_rfl) ?_
    refine zkSeq ?_
    refine zrCondT (by kernel_rfl) ?_
    refine zrSkip ?_
    refine zkSeq ?_
    exact f109_l2_j3_ok hd a1 a2 hQ x.1 x.2 hS (by kernel_rfl)
  · replace hS := cond_f hc hS
    refine zlEnd (by kernel_rfl) ?_
    refine zkSeq ?_
    refine zrCondF (by kernel_rfl) ?_
    refine zrKeep (J := f109_l2_e0_J a1 a2 x.1) (by kernel_rfl) ?_
    refine zrExit ?_
    refine zkSeqX ?_
    refine zkNil ?_
    exact endQ hS hQ (finL_x (by intro h; cases h) (by show _ = _ ∧ _ = _; exact ⟨rfl, rfl⟩))
def f109_j1_J (a1 : List GCell) (a2 : Int) (p23 : Int) : St := ⟨(up (up (fun _ => .un) 6 (.d (.int .u64 p23))) 0 (.d (.sl a1.length (e_GCell.cells a1)))), (hB fun _ => 0)⟩
noncomputable def f109_j1 (a1 : List GCell) (a2 : Int) (p23 : Int) : Option ((List GCell)) := ((mk? 32 (IntKind.i64.wrap (p23)) (IntKind.i64.wrap (p23)) (GCell.mk 0 (GPen.mk 0 0 0))).bind fun z24 => ((chk (decide (0 + z24.length ≤ z24.length))).bind fun z25 => ((some (cpyL z24 0 z24.length a1)).bind fun z26 => ((loopO (f109_l2 a1 a2) (z26, ((min a1.length z26.length : Nat) : Int))).bind fun z42 => (some z42)))))
theorem f109_j1_ok {d : Nat} (hd : 3 ≤ d) (a1 : List GCell) (a2 : Int) {r : (List GCell)} {Q : PX → St → Prop} (hQ : ∀ e st', f109_Q r e st' → Q e st') (p23 : Int) (hS : f109_j1 a1 a2 p23 = some r) {st : St} (he : keepSt [0, 6] [] [] st = f109_j1_J a1 a2 p23) : ZR (lev codes baseL (d - 1)) Q c109_3 [] st := by
  refine zrKeep he ?_
  unfold f109_j1 at hS
  refine zrSeq ?_
  refine zrReg ?_
  refine zlRun (n := 2) (j := 2) rfl (by kernel_rfl) ?_
  refine bindE hS (fun z24 hz24 hS => ?_)
  refine zlOp (d := some 30) (op := (.mks 58 4 32 [(4, (.int .i64 0))] (.tmp 29) (.tmp 29))) (g := none) (v := (.r (.msl 248 1 0 z24.length))) (ups := [(248, ⟨1, some (.own 58 4 (e_GCell.cells z24))⟩)]) (j := 3) rfl (by kernel_rfl) (by kernel_rfl) (ev_mks e_GCell (kl := .i64) (kc := .i64) (z0 := (GCell.mk 0 (GPen.mk 0 0 0))) (a := (IntKind.i64.wrap (p23))) (c := (IntKind.i64.wrap (p23))) (by kernel_rfl) (by kernel_rfl) (by kernel_rfl) rfl hz24) ?_
  refine zlRun (n := 1) (j := 4) rfl (by kernel_rfl) ?_
  refine zlEnd (by kernel_rfl) ?_
  refine zkSeq ?_
  refine zrSeq ?_
  refine zrReg ?_
  refine zlRun (n := 2) (j := 2) rfl (by kernel_rfl) ?_
  refine bindE hS (fun z25 hz25 hS => ?_)
  refine bindE hS (fun z26 hz26 hS => ?_)
  refine zlOp (d := some 33) (op := (.cpy 4 (.tmp 31) (.tmp 32))) (g := none) (v := (.d (.int .i64 ((min a1.length z24.length : Nat) : Int)))) (ups := [(248, ⟨1, some (.own 58 4 (e_GCell.cells (cpyL z24 0 z24.length a1)))⟩)]) (j := 3) rfl (by kernel_rfl) (by kernel_rfl) (ev_cpy e_GCell (b := 248) (g := 1) (l := 0) (n := z24.length) (e := 58) (xs := z24) (ys := a1) (by kernel_rfl) (by kernel_rfl) rfl ((congrArg (asL _) (by kernel_rfl : ρof _ (.tmp 32) = (.d (.sl a1.length (e_GCell.cells a1))))).trans (as_d _ _)) hz25) ?_
  have ez26 := Option.some.inj hz26
  have lz26 : z24.length = z26.length := by rw [← ez26]; exact (cpyL_len (of_decide_eq_true (chk_t hz25))).symm
  rw [ez26]
  try delta f109_j1_J
  try rw [lz26]
  refine zlRun (n := 1) (j := 4) rfl (by kernel_rfl) ?_
  refine zlEnd (by kernel_rfl) ?_
  refine zkSeq ?_
  refine zrSeq ?_
  refine zrBlk ?_
  refine bindE hS (fun z42 hz42 hS => ?_)
  refine zrLoop (f109_l2_H a1 a2) (f109_l2_X a1 a2) (fun x st r Q h0 hS hQ => f109_l2_ok hd a1 a2 hQ hS h0) (x := (z26, ((min a1.length z26.length : Nat) : Int))) (z := z42) (by show keepSt _ _ _ _ = _; kernel_rfl) hz42 ?_
  intro e st' _ hX
  obtain ⟨rfl, rfl⟩ : _ ∧ _ := hX
  refine zkBlkX ?_
  refine zkSeq ?_
  refine zrSeq ?_
  refine zrReg ?_
  refine zlRun (n := 2) (j := 2) rfl (by kernel_rfl) ?_
  refine zlEnd (by kernel_rfl) ?_
  refine zkSeq ?_
  refine zrRet ?_
  refine zkNil ?_
  exact endQ hS hQ (fRet (by kernel_rfl) ((congrArg (fun s => outR s 0 c109.res) (by kernel_rfl : finSt c109.fin _ = f109_fin z42)).trans (f109_out z42)))
def f109_j0_J (a1 : List GCell) (a2 : Int) : St := ⟨(up (up (fun _ => .un) 1 (.d (.int .i64 a2))) 0 (.d (.sl a1.length (e_GCell.cells a1)))), (hB fun _ => 0)⟩
noncomputable def f109_j0 (a1 : List GCell) (a2 : Int) : Option ((List GCell)) := ((f124 (IntKind.u64.wrap ((a1.length : Int))) (IntKind.u64.wrap (a2))).bind fun z21 => (bif (decide (0 < z21.1)) then ((chk false).bind fun z43 => ((chk false).bind fun z44 => (f109_j1 a1 a2 z21.2))) else (bif (decide (9223372036854775807 < z21.2)) then ((chk false).bind fun z45 => ((chk false).bind fun z46 => (f109_j1 a1 a2 z21.2))) else (f109_j1 a1 a2 z21.2))))
theorem f109_j0_ok {d : Nat} (hd : 3 ≤ d) (a1 : List GCell) (a2 : Int) {r : (List GCell)} {Q : PX → St → Prop} (hQ : ∀ e st', f109_Q r e st' → Q e st')  (hS : f109_j0 a1 a2 = some r) {st : St} (he : keepSt [0, 1] [] [] st = f109_j0_J a1 a2) : ZR (lev codes baseL (d - 1)) Q c109_4 [] st := by
  refine zrKeep he ?_
  unfold f109_j0 at hS
  refine zrSeq ?_
  refine zrReg ?_
  refine zlRun (n := 5) (j := 5) rfl (by kernel_rfl) ?_
  refine bindE hS (fun z21 hz21 hS => ?_)
  refine zlOp (d := some 18) (op := (.call 124 [(.tmp 15), (.tmp 17)])) (g := none) (j := 6) rfl (by kernel_rfl) (by kernel_rfl) (ev_callA (by kernel_rfl) (f124_ok (d - 1) (dpt hd rfl) (IntKind.u64.wrap ((a1.length : Int))) (IntKind.u64.wrap (a2)) z21 hz21) (by kernel_rfl) (by kernel_rfl)) ?_
  refine zlRun (n := 5) (j := 11) rfl (by kernel_rfl) ?_
  refine zlEnd (by kernel_rfl) ?_
  refine zkSeq ?_
  refine zrSeq ?_
  refine zrSeq ?_
  refine zrReg ?_
  refine zlRun (n := 1) (j := 1) rfl (by kernel_rfl) ?_
  refine zlBool (d := 22) (op := (.cmpI .gtr (.tmp 21) (.const (.int .u64 0)))) (g := none) (j := 2) (decide (0 < z21.1)) rfl (by kernel_rfl) (by kernel_rfl) (by kernel_rfl) (fun hc => ?_) (fun hc => ?_)
  · replace hS := cond_t hc hS
    refine zlRun (n := 4) (j := 6) rfl (by kernel_rfl) ?_
    refine zlEnd (by kernel_rfl) ?_
    refine zkSeq ?_
    refine zrCondT (by kernel_rfl) ?_
    refine zrReg ?_
    refine bindE hS (fun z43 hz43 hS => ?_)
    refine zlOp (d := some 27) (op := (.mx [])) (g := none) (v := .un) (ups := []) (j := 1) rfl (by kernel_rfl) (by kernel_rfl) (by exact absurd hz43 (by simp [chk])) ?_
    refine bindE hS (fun z44 hz44 hS => ?_)
    refine zlOp (d := none) (op := (.mx [])) (g := none) (v := .un) (ups := []) (j := 2) rfl (by kernel_rfl) (by kernel_rfl) (by exact absurd hz44 (by simp [chk])) ?_
    refine zlEnd (by kernel_rfl) ?_
    refine zkSeq ?_
    exact f109_j1_ok hd a1 a2 hQ z21.2 hS (by kernel_rfl)
  · replace hS := cond_f hc hS
    refine zlRun (n := 2) (j := 4) rfl (by kernel_rfl) ?_
    refine zlBool (d := 25) (op := (.cmpI .gtr (.tmp 24) (.const (.int .u64 9223372036854775807)))) (g := (some (23, false))) (j := 5) (decide (9223372036854775807 < z21.2)) rfl (by kernel_rfl) (by kernel_rfl) (by kernel_rfl) (fun hc => ?_) (fun hc => ?_)
    · replace hS := cond_t hc hS
      refine zlRun (n := 1) (j := 6) rfl (by kernel_rfl) ?_
      refine zlEnd (by kernel_rfl) ?_
      refine zkSeq ?_
      refine zrCondT (by kernel_rfl) ?_
      refine zrReg ?_
      refine bindE hS (fun z45 hz45 hS => ?_)
      refine zlOp (d := some 27) (op := (.mx [])) (g := none) (v := .un) (ups := []) (j := 1) rfl (by kernel_rfl) (by kernel_rfl) (by exact absurd hz45 (by simp [chk])) ?_
      refine bindE hS (fun z46 hz46 hS => ?_)
      refine zlOp (d := none) (op := (.mx [])) (g := none) (v := .un) (ups := []) (j := 2) rfl (by kernel_rfl) (by kernel_rfl) (by exact absurd hz46 (by simp [chk])) ?_
      refine zlEnd (by kernel_rfl) ?_
      refine zkSeq ?_
      exact f109_j1_ok hd a1 a2 hQ z21.2 hS (by kernel_rfl)
    · replace hS := cond_f hc hS
      refine zlRun (n := 1) (j := 6) rfl (by kernel_rfl) ?_
      refine zlEnd (by kernel_rfl) ?_
      refine zkSeq ?_
      refine zrCondF (by kernel_rfl) ?_
      refine zrSkip ?_
      refine zkSeq ?_
      exact f109_j1_ok hd a1 a2 hQ z21.2 hS (by kernel_rfl)
noncomputable def f109 (a1 : List GCell) (a2 : Int) : Option ((List GCell)) := (bif (decide (a2 < 0)) then ((chk false).bind fun z47 => ((chk false).bind fun z48 => (f109_j0 a1 a2 ))) else (f109_j0 a1 a2 ))
theorem f109_ok (d : Nat) (hd : 3 ≤ d) (a1 : List GCell) (a2 : Int) (r : (List GCell)) (hS : f109 a1 a2 = some r) : lev codes baseL d 109 [(.d (.sl a1.length (e_GCell.cells a1))), (.d (.int .i64 a2))] [] = some ((.r (.own 0 58 4 r.length (e_GCell.cells r))), []) := by
  refine lev_go codes109 rfl rfl (Nat.le_trans (Nat.le_of_ble_eq_true rfl) hd) fun Q hQ => ?_
  unfold f109 at hS
  show ZR _ Q c109_b [] _
  replace hQ : ∀ e st', f109_Q r e st' → Q e st' := hQ
  refine zrSeq ?_
  refine zrReg ?_
  refine zlRun (n := 1) (j := 1) rfl (by kernel_rfl) ?_
  refine zlEnd (by kernel_rfl) ?_
  refine zkSeq ?_
  refine zrSeq ?_
  refine zrSeq ?_
  refine zrReg ?_
  refine zlRun (n := 1) (j := 1) rfl (by kernel_rfl) ?_
  refine zlBool (d := 10) (op := (.cmpI .lss (.tmp 9) (.const (.int .i64 0)))) (g := none) (j := 2) (decide (a2 < 0)) rfl (by kernel_rfl) (by kernel_rfl) (by kernel_rfl) (fun hc => ?_) (fun hc => ?_)
  · replace hS := cond_t hc hS
    refine zlEnd (by kernel_rfl) ?_
    refine zkSeq ?_
    refine zrCondT (by kernel_rfl) ?_
    refine zrReg ?_
    refine bindE hS (fun z47 hz47 hS => ?_)
    refine zlOp (d := some 11) (op := (.mx [])) (g := none) (v := .un) (ups := []) (j := 1) rfl (by kernel_rfl) (by kernel_rfl) (by exact absurd hz47 (by simp [chk])) ?_
    refine bindE hS (fun z48 hz48 hS => ?_)
    refine zlOp (d := none) (op := (.mx [])) (g := none) (v := .un) (ups := []) (j := 2) rfl (by kernel_rfl) (by kernel_rfl) (by exact absurd hz48 (by simp [chk])) ?_
    refine zlEnd (by kernel_rfl) ?_
    refine zkSeq ?_
    exact f109_j0_ok hd a1 a2 hQ  hS (by kernel_rfl)
  · replace hS := cond_f hc hS
    refine zlEnd (by kernel_rfl) ?_
    refine zkSeq ?_
    refine zrCondF (by kernel_rfl) ?_
    refine zrSkip ?_
    refine zkSeq ?_
    exact f109_j0_ok hd a1 a2 hQ  hS (by kernel_rfl)
/- farwriter/grid.blanks -/
def f79_fin (p1 : Int) (p2 : Int) (p3 : List GCell) : St := ⟨(up (fun _ => .un) 6 (.r (.ptr 56 0 0))), (up (up (hB fun _ => 0) 128 ⟨0, some (.own 58 4 (e_GCell.cells p3))⟩) 56 ⟨0, some (.box ((.d (.int .i64 p1)) :: ((.d (.int .i64 p2)) :: ((.r (.msl 128 0 0 p3.length)) :: []))))⟩)⟩
theorem f79_out (p1 : Int) (p2 : Int) (p3 : List GCell) : outR (f79_fin p1 p2 p3) 0 c79.res = some ((.agg ((.d (.int .i64 p1)) :: ((.d (.int .i64 p2)) :: ((.r (.own 0 58 4 p3.length (e_GCell.cells p3))) :: [])))), []) := by
  exact out_of (ids := []) (ids' := [128]) (l := [(.agg ((.d (.int .i64 p1)) :: ((.d (.int .i64 p2)) :: ((.r (.msl 128 0 0 p3.length)) :: []))))]) (by kernel_rfl) (by kernel_rfl) (o_agg (o_cons rfl (o_cons rfl (o_cons (o_own e_GCell (e := 58) (k := 4) (xs := p3) (by kernel_rfl) rfl rfl rfl rfl) o_nil))))
def f79_Q (r : Int × Int × (List GCell)) (e : PX) (st : St) : Prop := DoneF c79 0 ((.agg ((.d (.int .i64 r.1)) :: ((.d (.int .i64 r.2.1)) :: ((.r (.own 0 58 4 r.2.2.length (e_GCell.cells r.2.2))) :: [])))), []) e st
noncomputable def f79 (a1 : Int) (a2 : Int) (a3 : GPen) : Option (Int × Int × (List GCell)) := ((f110 a3).bind fun z3 => ((f109 [z3] (IntKind.i64.wrap (a1 * a2))).bind fun z4 => (some (a1, a2, z4))))
theorem f79_ok (d : Nat) (hd : 4 ≤ d) (a1 : Int) (a2 : Int) (a3 : GPen) (r : Int × Int × (List GCell)) (hS : f79 a1 a2 a3 = some r) : lev codes baseL d 79 [(.d (.int .i64 a1)), (.d (.int .i64 a2)), (.agg ((.d (.int .i64 a3.Flags)) :: ((.d (.int .i64 a3.Fore)) :: ((.d (.int .i64 a3.Back)) :: []))))] [] = some ((.agg ((.d (.int .i64 r.1)) :: ((.d (.int .i64 r.2.1)) :: ((.r (.own 0 58 4 r.2.2.length (e_GCell.cells r.2.2))) :: [])))), []) := by
  refine lev_go codes79 rfl rfl (Nat.le_trans (Nat.le_of_ble_eq_true rfl) hd) fun Q hQ => ?_
  unfold f79 at hS
  show ZR _ Q c79_b [] _
  replace hQ : ∀ e st', f79_Q r e st' → Q e st' := hQ
  refine zrSeq ?_
  refine zrReg ?_
  refine zlRun (n := 2) (j := 2) rfl (by kernel_rfl) ?_
  refine zlEnd (by kernel_rfl) ?_
  refine zkSeq ?_
  refine zrSeq ?_
  refine zrReg ?_
  refine zlRun (n := 3) (j := 3) rfl (by kernel_rfl) ?_
  refine bindE hS (fun z3 hz3 hS => ?_)
  refine zlOp (d := some 10) (op := (.call 110 [(.tmp 9)])) (g := none) (j := 4) rfl (by kernel_rfl) (by kernel_rfl) (ev_callA (by kernel_rfl) (f110_ok (d - 1) (dpt hd rfl) a3 z3 hz3) (by kernel_rfl) (by kernel_rfl)) ?_
  refine zlRun (n := 4) (j := 8) rfl (by kernel_rfl) ?_
  refine bindE hS (fun z4 hz4 hS => ?_)
  refine zlOp (d := some 15) (op := (.call 109 [(.tmp 11), (.tmp 14)])) (g := none) (j := 9) rfl (by kernel_rfl) (by kernel_rfl) (ev_callB (args := [(.r (.msl 96 1 0 (([z3] : List GCell).length))), (.d (.int .i64 (IntKind.i64.wrap (a1 * a2))))]) (by kernel_rfl) (l_cons (l_own e_GCell (e := 58) (k := 4) (xs := [z3]) (by kernel_rfl) rfl rfl) (l_cons (by kernel_rfl) l_nil)) (f109_ok (d - 1) (dpt hd rfl) [z3] (IntKind.i64.wrap (a1 * a2)) z4 hz4) (by simp only [free_own e_GCell (fun _ => rfl), free_tup, free_agg, free_nl, free_cs, free_int, free_bool, free_str, free_un, free_ni, free_s0, Bool.and_true, Bool.or_true, Bool.and_self]) (by kernel_rfl)) ?_
  refine zlRun (n := 2) (j := 11) rfl (by kernel_rfl) ?_
  refine zlEnd (by kernel_rfl) ?_
  refine zkSeq ?_
  refine zrRet ?_
  refine zkNil ?_
  exact endQ hS hQ (fRet (by kernel_rfl) ((congrArg (fun s => outR s 0 c79.res) (by kernel_rfl : finSt c79.fin _ = f79_fin a1 a2 z4)).trans (f79_out a1 a2 z4)))
/- farwriter/grid.New -/
def f53_fin (p5 : Int) (p6 : Int) (p7 : List GCell) (p8 : Int) : St := ⟨(up (up (fun _ => .un) 7 (.d (.int .i64 p8))) 6 (.r (.ptr 56 0 0))), (up (up (hB fun _ => 0) 216 ⟨0, some (.own 58 4 (e_GCell.cells p7))⟩) 56 ⟨0, some (.box ((.d (.int .i64 p5)) :: ((.d (.int .i64 p6)) :: ((.r (.msl 216 0 0 p7.length)) :: []))))⟩)⟩
theorem f53_out (p5 : Int) (p6 : Int) (p7 : List GCell) (p8 : Int) : outR (f53_fin p5 p6 p7 p8) 0 c53.res = some ((.tup [(.agg ((.d (.int .i64 p5)) :: ((.d (.int .i64 p6)) :: ((.r (.own 0 58 4 p7.length (e_GCell.cells p7))) :: [])))), (.d (.int .i64 p8))]), []) := by
  exact out_of (ids := []) (ids' := [216]) (l := [(.agg ((.d (.int .i64 p5)) :: ((.d (.int .i64 p6)) :: ((.r (.msl 216 0 0 p7.length)) :: [])))), (.d (.int .i64 p8))]) (by kernel_rfl) (by kernel_rfl) (o_tup (o_cons (o_agg (o_cons rfl (o_cons rfl (o_cons (o_own e_GCell (e := 58) (k := 4) (xs := p7) (by kernel_rfl) rfl rfl rfl rfl) o_nil)))) (o_cons rfl o_nil)))
def f53_Q (r : Int × Int × (List GCell) × Int) (e : PX) (st : St) : Prop := DoneF c53 0 ((.tup [(.agg ((.d (.int .i64 r.1)) :: ((.d (.int .i64 r.2.1)) :: ((.r (.own 0 58 4 r.2.2.1.length (e_GCell.cells r.2.2.1))) :: [])))), (.d (.int .i64 r.2.2.2))]), []) e st
def f53_j0_J (a1 : Int) (a2 : Int) (a3 : GPen) : St := ⟨(up (up (up (up (fun _ => .un) 6 (.r (.ptr 56 0 0))) 5 (.r (.ptr 48 0 0))) 1 (.d (.int .i64 a2))) 0 (.d (.int .i64 a1))), (up (up (hB fun _ => 0) 56 ⟨0, some (.box ((.d (.int .i64 0)) :: ((.d (.int .i64 0)) :: ((.d (.sl ([] : List GCell).length (e_GCell.cells ([])))) :: []))))⟩) 48 ⟨0, some (.box ((.d (.int .i64 a3.Flags)) :: ((.d (.int .i64 a3.Fore)) :: ((.d (.int .i64 a3.Back)) :: []))))⟩)⟩
noncomputable def f53_j0 (a1 : Int) (a2 : Int) (a3 : GPen) : Option (Int × Int × (List GCell) × Int) := ((f50 a3).bind fun z5 => (bif (!decide (z5 = 0)) then (some (0, 0, [], z5)) else ((f79 a1 a2 a3).bind fun z6 => (some (z6.1, z6.2.1, z6.2.2, 0)))))
theorem f53_j0_ok {d : Nat} (hd : 5 ≤ d) (a1 : Int) (a2 : Int) (a3 : GPen) {r : Int × Int × (List GCell) × Int} {Q : PX → St → Prop} (hQ : ∀ e st', f53_Q r e st' → Q e st')  (hS : f53_j0 a1 a2 a3 = some r) {st : St} (he : keepSt [0, 1, 5, 6] [(48, .id 48), (56, .id 56)] [.cell 56 2 0 0 1] st = f53_j0_J a1 a2 a3) : ZR (lev codes baseL (d - 1)) Q c53_1 [] st := by
  refine zrKeep he ?_
  unfold f53_j0 at hS
  refine zrSeq ?_
  refine zrSeq ?_
  refine zrReg ?_
  refine zlRun (n := 1) (j := 1) rfl (by kernel_rfl) ?_
  refine bindE hS (fun z5 hz5 hS => ?_)
  refine zlOp (d := some 18) (op := (.call 50 [(.tmp 17)])) (g := none) (j := 2) rfl (by kernel_rfl) (by kernel_rfl) (ev_callA (by kernel_rfl) (f50_ok (d - 1) (dpt hd rfl) a3 z5 hz5) (by kernel_rfl) (by kernel_rfl)) ?_
  refine zlRun (n := 1) (j := 3) rfl (by kernel_rfl) ?_
  refine zlEnd (by kernel_rfl) ?_
  refine zkSeq ?_
  refine zrSeq ?_
  refine zrReg ?_
  refine zlRun (n := 1) (j := 1) rfl (by kernel_rfl) ?_
  refine zlBool (d := 20) (op := (.cmpI .neq (.tmp 19) (.const (.int .i64 0)))) (g := none) (j := 2) (!decide (z5 = 0)) rfl (by kernel_rfl) (by kernel_rfl) (by kernel_rfl) (fun hc => ?_) (fun hc => ?_)
  · replace hS := cond_t hc hS
    refine zlEnd (by kernel_rfl) ?_
    refine zkSeq ?_
    refine zrCondT (by kernel_rfl) ?_
    refine zrSeq ?_
    refine zrReg ?_
    refine zlRun (n := 4) (j := 4) rfl (by kernel_rfl) ?_
    refine zlEnd (by kernel_rfl) ?_
    refine zkSeq ?_
    refine zrRet ?_
    refine zkSeqR ?_
    refine zkNil ?_
    exact endQ hS hQ (fRet (by kernel_rfl) ((congrArg (fun s => outR s 0 c53.res) (by kernel_rfl : finSt c53.fin _ = f53_fin 0 0 [] z5)).trans (f53_out 0 0 [] z5)))
  · replace hS := cond_f hc hS
    refine zlEnd (by kernel_rfl) ?_
    refine zkSeq ?_
    refine zrCondF (by kernel_rfl) ?_
    refine zrSkip ?_
    refine zkSeq ?_
    refine zrSeq ?_
    refine zrReg ?_
    refine zlRun (n := 3) (j := 3) rfl (by kernel_rfl) ?_
    refine bindE hS (fun z6 hz6 hS => ?_)
    refine zlOp (d := some 26) (op := (.call 79 [(.tmp 23), (.tmp 24), (.tmp 25)])) (g := none) (j := 4) rfl (by kernel_rfl) (by kernel_rfl) (ev_callA (by kernel_rfl) (f79_ok (d - 1) (dpt hd rfl) a1 a2 a3 z6 hz6) (by kernel_rfl) (by kernel_rfl)) ?_
    refine zlRun (n := 2) (j := 6) rfl (by kernel_rfl) ?_
    refine zlEnd (by kernel_rfl) ?_
    refine zkSeq ?_
    refine zrRet ?_
    refine zkNil ?_
    exact endQ hS hQ (fRet (by kernel_rfl) ((congrArg (fun s => outR s 0 c53.res) (by kernel_rfl : finSt c53.fin _ = f53_fin z6.1 z6.2.1 z6.2.2 0)).trans (f53_out z6.1 z6.2.1 z6.2.2 0)))
noncomputable def f53 (a1 : Int) (a2 : Int) (a3 : GPen) : Option (Int × Int × (List GCell) × Int) := ((f74 a1 a2).bind fun z7 => (bif (!decide (z7 = 0)) then (some (0, 0, [], z7)) else (f53_j0 a1 a2 a3 )))
theorem f53_ok (d : Nat) (hd : 5 ≤ d) (a1 : Int) (a2 : Int) (a3 : GPen) (r : Int × Int × (List GCell) × Int) (hS : f53 a1 a2 a3 = some r) : lev codes baseL d 53 [(.d (.int .i64 a1)), (.d (.int .i64 a2)), (.agg ((.d (.int .i64 a3.Flags)) :: ((.d (.int .i64 a3.Fore)) :: ((.d (.int .i64 a3.Back)) :: []))))] [] = some ((.tup [(.agg ((.d (.int .i64 r.1)) :: ((.d (.int .i64 r.2.1)) :: ((.r (.own 0 58 4 r.2.2.1.length (e_GCell.cells r.2.2.1))) :: [])))), (.d (.int .i64 r.2.2.2))]), []) := by
  refine lev_go codes53 rfl rfl (Nat.le_trans (Nat.le_of_ble_eq_true rfl) hd) fun Q hQ => ?_
  unfold f53 at hS
  show ZR _ Q c53_b [] _
  replace hQ : ∀ e st', f53_Q r e st' → Q e st' := hQ
  refine zrSeq ?_
  refine zrReg ?_
  refine zlRun (n := 3) (j := 3) rfl (by kernel_rfl) ?_
  refine zlEnd (by kernel_rfl) ?_
  refine zkSeq ?_
  refine zrSeq ?_
  refine zrSeq ?_
  refine zrReg ?_
  refine zlRun (n := 2) (j := 2) rfl (by kernel_rfl) ?_
  refine bindE hS (fun z7 hz7 hS => ?_)
  refine zlOp (d := some 12) (op := (.call 74 [(.tmp 10), (.tmp 11)])) (g := none) (j := 3) rfl (by kernel_rfl) (by kernel_rfl) (ev_callA (by kernel_rfl) (f74_ok (d - 1) (dpt hd rfl) a1 a2 z7 hz7) (by kernel_rfl) (by kernel_rfl)) ?_
  refine zlRun (n := 1) (j := 4) rfl (by kernel_rfl) ?_
  refine zlEnd (by kernel_rfl) ?_
  refine zkSeq ?_
  refine zrSeq ?_
  refine zrReg ?_
  refine zlRun (n := 1) (j := 1) rfl (by kernel_rfl) ?_
  refine zlBool (d := 14) (op := (.cmpI .neq (.tmp 13) (.const (.int .i64 0)))) (g := none) (j := 2) (!decide (z7 = 0)) rfl (by kernel_rfl) (by kernel_rfl) (by kernel_rfl) (fun hc => ?_) (fun hc => ?_)
  · replace hS := cond_t hc hS
    refine zlEnd (by kernel_rfl) ?_
    refine zkSeq ?_
    refine zrCondT (by kernel_rfl) ?_
    refine zrSeq ?_
    refine zrReg ?_
    refine zlRun (n := 4) (j := 4) rfl (by kernel_rfl) ?_
    refine zlEnd (by kernel_rfl) ?_
    refine zkSeq ?_
    refine zrRet ?_
    refine zkSeqR ?_
    refine zkNil ?_
    exact endQ hS hQ (fRet (by kernel_rfl) ((congrArg (fun s => outR s 0 c53.res) (by kernel_rfl : finSt c53.fin _ = f53_fin 0 0 [] z7)).trans (f53_out 0 0 [] z7)))
  · replace hS := cond_f hc hS
    refine zlEnd (by kernel_rfl) ?_
    refine zkSeq ?_
    refine zrCondF (by kernel_rfl) ?_
    refine zrSkip ?_
    refine zkSeq ?_
    exact f53_j0_ok hd a1 a2 a3 hQ  hS (by kernel_rfl)
end Go.Proofs.YtjoccdgmcdkbkaaGreatDoor.Pm
