/- Typed functions, and that the codes are these. Printed by dec.py. -/
import Derived.Test.YtioikkmmjljedaaGreatDoorDCwC
namespace Go.Proofs.YtioikkmmjljedaaGreatDoor.Pm
set_option maxRecDepth 1000000
set_option maxHeartbeats 20000000
set_option linter.unusedVariables false
/- farwriter/grid.size -/
def f34_fin (p2 : Int) : St := ⟨(up (fun _ => .un) 4 (.d (.int .i64 p2))), (hB fun _ => 0)⟩
theorem f34_out (p2 : Int) : outR (f34_fin p2) 0 c34.res = some ((.d (.int .i64 p2)), []) := by
  kernel_rfl
def f34_Q (r : Int) (e : PX) (st : St) : Prop := DoneF c34 0 ((.d (.int .i64 r)), []) e st
noncomputable def f34 (a1 : Int) (a2 : Int) : Option (Int) := (bif (decide (a1 < 1)) then (some 1) else (bif (decide (160 < a1)) then (some 1) else (bif (decide (a2 < 1)) then (some 1) else (bif (decide (60 < a2)) then (some 1) else (some 0)))))
theorem f34_ok (d : Nat) (hd : 1 ≤ d) (a1 : Int) (a2 : Int) (r : Int) (hS : f34 a1 a2 = some r) : lev codes baseL d 34 [(.d (.int .i64 a1)), (.d (.int .i64 a2))] [] = some ((.d (.int .i64 r)), []) := by
  refine lev_go codes34 rfl rfl (Nat.le_trans (Nat.le_of_ble_eq_true rfl) hd) fun Q hQ => ?_
  unfold f34 at hS
  show ZR _ Q c34_b [] _
  replace hQ : ∀ e st', f34_Q r e st' → Q e st' := hQ
  refine zrSeq ?_
  refine zrReg ?_
  refine zlRun (n := 1) (j := 1) rfl (by kernel_rfl) ?_
  refine zlEnd (by kernel_rfl) ?_
  refine zkSeq ?_
  refine zrSeq ?_
  refine zrSeq ?_
  refine zrReg ?_
  refine zlRun (n := 1) (j := 1) rfl (by kernel_rfl) ?_
  refine zlBool (d := 6) (op := (.cmpI .lss (.tmp 5) (.const (.int .i64 1)))) (g := none) (j := 2) (decide (a1 < 1)) rfl (by kernel_rfl) (by kernel_rfl) (by kernel_rfl) (fun hc => ?_) (fun hc => ?_)
  · replace hS := cond_t hc hS
    refine zlRun (n := 12) (j := 14) rfl (by kernel_rfl) ?_
    refine zlEnd (by kernel_rfl) ?_
    refine zkSeq ?_
    refine zrCondT (by kernel_rfl) ?_
    refine zrSeq ?_
    refine zrReg ?_
    refine zlRun (n := 1) (j := 1) rfl (by kernel_rfl) ?_
    refine zlEnd (by kernel_rfl) ?_
    refine zkSeq ?_
    refine zrRet ?_
    refine zkSeqR ?_
    refine zkNil ?_
    exact endQ hS hQ (fRet (by kernel_rfl) ((congrArg (fun s => outR s 0 c34.res) (by kernel_rfl : finSt c34.fin _ = f34_fin 1)).trans (f34_out 1)))
  · replace hS := cond_f hc hS
    refine zlRun (n := 2) (j := 4) rfl (by kernel_rfl) ?_
    refine zlBool (d := 9) (op := (.cmpI .gtr (.tmp 8) (.const (.int .i64 160)))) (g := (some (7, false))) (j := 5) (decide (160 < a1)) rfl (by kernel_rfl) (by kernel_rfl) (by kernel_rfl) (fun hc => ?_) (fun hc => ?_)
    · replace hS := cond_t hc hS
      refine zlRun (n := 9) (j := 14) rfl (by kernel_rfl) ?_
      refine zlEnd (by kernel_rfl) ?_
      refine zkSeq ?_
      refine zrCondT (by kernel_rfl) ?_
      refine zrSeq ?_
      refine zrReg ?_
      refine zlRun (n := 1) (j := 1) rfl (by kernel_rfl) ?_
      refine zlEnd (by kernel_rfl) ?_
      refine zkSeq ?_
      refine zrRet ?_
      refine zkSeqR ?_
      refine zkNil ?_
      exact endQ hS hQ (fRet (by kernel_rfl) ((congrArg (fun s => outR s 0 c34.res) (by kernel_rfl : finSt c34.fin _ = f34_fin 1)).trans (f34_out 1)))
    · replace hS := cond_f hc hS
      refine zlRun (n := 3) (j := 8) rfl (by kernel_rfl) ?_
      refine zlBool (d := 13) (op := (.cmpI .lss (.tmp 12) (.const (.int .i64 1)))) (g := (some (11, false))) (j := 9) (decide (a2 < 1)) rfl (by kernel_rfl) (by kernel_rfl) (by kernel_rfl) (fun hc => ?_) (fun hc => ?_)
      · replace hS := cond_t hc hS
        refine zlRun (n := 5) (j := 14) rfl (by kernel_rfl) ?_
        refine zlEnd (by kernel_rfl) ?_
        refine zkSeq ?_
        refine zrCondT (by kernel_rfl) ?_
        refine zrSeq ?_
        refine zrReg ?_
        refine zlRun (n := 1) (j := 1) rfl (by kernel_rfl) ?_
        refine zlEnd (by kernel_rfl) ?_
        refine zkSeq ?_
        refine zrRet ?_
        refine zkSeqR ?_
        refine zkNil ?_
        exact endQ hS hQ (fRet (by kernel_rfl) ((congrArg (fun s => outR s 0 c34.res) (by kernel_rfl : finSt c34.fin _ = f34_fin 1)).trans (f34_out 1)))
      · replace hS := cond_f hc hS
        refine zlRun (n := 3) (j := 12) rfl (by kernel_rfl) ?_
        refine zlBool (d := 17) (op := (.cmpI .gtr (.tmp 16) (.const (.int .i64 60)))) (g := (some (15, false))) (j := 13) (decide (60 < a2)) rfl (by kernel_rfl) (by kernel_rfl) (by kernel_rfl) (fun hc => ?_) (fun hc => ?_)
        · replace hS := cond_t hc hS
          refine zlRun (n := 1) (j := 14) rfl (by kernel_rfl) ?_
          refine zlEnd (by kernel_rfl) ?_
          refine zkSeq ?_
          refine zrCondT (by kernel_rfl) ?_
          refine zrSeq ?_
          refine zrReg ?_
          refine zlRun (n := 1) (j := 1) rfl (by kernel_rfl) ?_
          refine zlEnd (by kernel_rfl) ?_
          refine zkSeq ?_
          refine zrRet ?_
          refine zkSeqR ?_
          refine zkNil ?_
          exact endQ hS hQ (fRet (by kernel_rfl) ((congrArg (fun s => outR s 0 c34.res) (by kernel_rfl : finSt c34.fin _ = f34_fin 1)).trans (f34_out 1)))
        · replace hS := cond_f hc hS
          refine zlRun (n := 1) (j := 14) rfl (by kernel_rfl) ?_
          refine zlEnd (by kernel_rfl) ?_
          refine zkSeq ?_
          refine zrCondF (by kernel_rfl) ?_
          refine zrSkip ?_
          refine zkSeq ?_
          refine zrSeq ?_
          refine zrReg ?_
          refine zlRun (n := 1) (j := 1) rfl (by kernel_rfl) ?_
          refine zlEnd (by kernel_rfl) ?_
          refine zkSeq ?_
          refine zrRet ?_
          refine zkNil ?_
          exact endQ hS hQ (fRet (by kernel_rfl) ((congrArg (fun s => outR s 0 c34.res) (by kernel_rfl : finSt c34.fin _ = f34_fin 0)).trans (f34_out 0)))
/- farwriter/grid.row -/
def f44_fin (p1 : List GCell) : St := ⟨(up (up (fun _ => .un) 2000000 .un) 4 (.d (.sl p1.length (e_GCell.cells p1)))), (hB fun _ => 0)⟩
theorem f44_out (p1 : List GCell) : outR (f44_fin p1) 0 c44.res = some ((.d (.sl p1.length (e_GCell.cells p1))), []) := by
  kernel_rfl
def f44_Q (r : (List GCell)) (e : PX) (st : St) : Prop := DoneF c44 0 ((.d (.sl r.length (e_GCell.cells r))), [.box []]) e st
noncomputable def f44 (a1 : GGrid) (a2 : Int) : Option ((List GCell)) := ((sub? a1.Cells (IntKind.i64.wrap (a2 * a1.Wide)) (IntKind.i64.wrap ((IntKind.i64.wrap (a2 + 1)) * a1.Wide))).bind fun z2 => (some z2))
theorem f44_ok (d : Nat) (hd : 1 ≤ d) (a1 : GGrid) (a2 : Int) (r : (List GCell)) (hS : f44 a1 a2 = some r) : lev codes baseL d 44 [(.agg ((.d (.int .i64 a1.Wide)) :: ((.d (.int .i64 a1.High)) :: ((.d (.sl a1.Cells.length (e_GCell.cells a1.Cells))) :: [])))), (.d (.int .i64 a2))] [] = some ((.d (.sl r.length (e_GCell.cells r))), [.box []]) := by
  refine lev_go codes44 rfl rfl (Nat.le_trans (Nat.le_of_ble_eq_true rfl) hd) fun Q hQ => ?_
  unfold f44 at hS
  show ZR _ Q c44_b [] _
  replace hQ : ∀ e st', f44_Q r e st' → Q e st' := hQ
  refine zrSeq ?_
  refine zrReg ?_
  refine zlRun (n := 2) (j := 2) rfl (by kernel_rfl) ?_
  refine zlEnd (by kernel_rfl) ?_
  refine zkSeq ?_
  refine zrSeq ?_
  refine zrReg ?_
  refine zlRun (n := 11) (j := 11) rfl (by kernel_rfl) ?_
  refine bindE hS (fun z2 hz2 hS => ?_)
  refine zlOp (d := some 16) (op := (.slS 51 4 (.tmp 6) (.some (.tmp 10)) (.some (.tmp 15)))) (g := none) (v := (.d (.sl z2.length (e_GCell.cells z2)))) (ups := []) (j := 12) rfl (by kernel_rfl) (by kernel_rfl) (ev_slS e_GCell (xs := a1.Cells) (a := (IntKind.i64.wrap (a2 * a1.Wide))) (c := (IntKind.i64.wrap ((IntKind.i64.wrap (a2 + 1)) * a1.Wide))) (by kernel_rfl) rfl (bnd_s _ (kk := .i64) (j := (IntKind.i64.wrap (a2 * a1.Wide))) (by kernel_rfl)) (bnd_s _ (kk := .i64) (j := (IntKind.i64.wrap ((IntKind.i64.wrap (a2 + 1)) * a1.Wide))) (by kernel_rfl)) hz2) ?_
  refine zlRun (n := 1) (j := 13) rfl (by kernel_rfl) ?_
  refine zlEnd (by kernel_rfl) ?_
  refine zkSeq ?_
  refine zrRet ?_
  refine zkNil ?_
  exact endQ hS hQ (fRetX (by kernel_rfl) (by kernel_rfl : finSt c44.fin _ = f44_fin z2) (by kernel_rfl) (f44_out z2))
/- farwriter/pen.color -/
def f47_fin (p6 : Bool) : St := ⟨(up (fun _ => .un) 2 (.d (.bool p6))), (hB fun _ => 0)⟩
theorem f47_out (p6 : Bool) : outR (f47_fin p6) 0 c47.res = some ((.d (.bool p6)), []) := by
  kernel_rfl
def f47_Q (r : Bool) (e : PX) (st : St) : Prop := DoneF c47 0 ((.d (.bool r)), []) e st
noncomputable def f47 (a1 : Int) : Option (Bool) := (bif (decide (0 ≤ a1)) then (bif (decide (a1 ≤ 256)) then (some true) else (bif (decide (16777216 ≤ a1)) then (bif (decide (a1 < 33554432)) then (some true) else (some false)) else (some false))) else (bif (decide (16777216 ≤ a1)) then (bif (decide (a1 < 33554432)) then (some true) else (some false)) else (some false)))
theorem f47_ok (d : Nat) (hd : 1 ≤ d) (a1 : Int) (r : Bool) (hS : f47 a1 = some r) : lev codes baseL d 47 [(.d (.int .i64 a1))] [] = some ((.d (.bool r)), []) := by
  refine lev_go codes47 rfl rfl (Nat.le_trans (Nat.le_of_ble_eq_true rfl) hd) fun Q hQ => ?_
  unfold f47 at hS
  show ZR _ Q c47_b [] _
  replace hQ : ∀ e st', f47_Q r e st' → Q e st' := hQ
  refine zrSeq ?_
  refine zrReg ?_
  refine zlRun (n := 1) (j := 1) rfl (by kernel_rfl) ?_
  refine zlEnd (by kernel_rfl) ?_
  refine zkSeq ?_
  refine zrSeq ?_
  refine zrReg ?_
  refine zlRun (n := 1) (j := 1) rfl (by kernel_rfl) ?_
  refine zlBool (d := 4) (op := (.cmpI .geq (.tmp 3) (.const (.int .i64 0)))) (g := none) (j := 2) (decide (0 ≤ a1)) rfl (by kernel_rfl) (by kernel_rfl) (by kernel_rfl) (fun hc => ?_) (fun hc => ?_)
  · replace hS := cond_t hc hS
    refine zlRun (n := 2) (j := 4) rfl (by kernel_rfl) ?_
    refine zlBool (d := 7) (op := (.cmpI .leq (.tmp 6) (.const (.int .i64 256)))) (g := (some (5, true))) (j := 5) (decide (a1 ≤ 256)) rfl (by kernel_rfl) (by kernel_rfl) (by kernel_rfl) (fun hc => ?_) (fun hc => ?_)
    · replace hS := cond_t hc hS
      refine zlRun (n := 10) (j := 15) rfl (by kernel_rfl) ?_
      refine zlEnd (by kernel_rfl) ?_
      refine zkSeq ?_
      refine zrRet ?_
      refine zkNil ?_
      exact endQ hS hQ (fRet (by kernel_rfl) ((congrArg (fun s => outR s 0 c47.res) (by kernel_rfl : finSt c47.fin _ = f47_fin true)).trans (f47_out true)))
    · replace hS := cond_f hc hS
      refine zlRun (n := 3) (j := 8) rfl (by kernel_rfl) ?_
      refine zlBool (d := 11) (op := (.cmpI .geq (.tmp 10) (.const (.int .i64 16777216)))) (g := (some (9, false))) (j := 9) (decide (16777216 ≤ a1)) rfl (by kernel_rfl) (by kernel_rfl) (by kernel_rfl) (fun hc => ?_) (fun hc => ?_)
      · replace hS := cond_t hc hS
        refine zlRun (n := 2) (j := 11) rfl (by kernel_rfl) ?_
        refine zlBool (d := 14) (op := (.cmpI .lss (.tmp 13) (.const (.int .i64 33554432)))) (g := (some (12, true))) (j := 12) (decide (a1 < 33554432)) rfl (by kernel_rfl) (by kernel_rfl) (by kernel_rfl) (fun hc => ?_) (fun hc => ?_)
        · replace hS := cond_t hc hS
          refine zlRun (n := 3) (j := 15) rfl (by kernel_rfl) ?_
          refine zlEnd (by kernel_rfl) ?_
          refine zkSeq ?_
          refine zrRet ?_
          refine zkNil ?_
          exact endQ hS hQ (fRet (by kernel_rfl) ((congrArg (fun s => outR s 0 c47.res) (by kernel_rfl : finSt c47.fin _ = f47_fin true)).trans (f47_out true)))
        · replace hS := cond_f hc hS
          refine zlRun (n := 3) (j := 15) rfl (by kernel_rfl) ?_
          refine zlEnd (by kernel_rfl) ?_
          refine zkSeq ?_
          refine zrRet ?_
          refine zkNil ?_
          exact endQ hS hQ (fRet (by kernel_rfl) ((congrArg (fun s => outR s 0 c47.res) (by kernel_rfl : finSt c47.fin _ = f47_fin false)).trans (f47_out false)))
      · replace hS := cond_f hc hS
        refine zlRun (n := 6) (j := 15) rfl (by kernel_rfl) ?_
        refine zlEnd (by kernel_rfl) ?_
        refine zkSeq ?_
        refine zrRet ?_
        refine zkNil ?_
        exact endQ hS hQ (fRet (by kernel_rfl) ((congrArg (fun s => outR s 0 c47.res) (by kernel_rfl : finSt c47.fin _ = f47_fin false)).trans (f47_out false)))
  · replace hS := cond_f hc hS
    refine zlRun (n := 6) (j := 8) rfl (by kernel_rfl) ?_
    refine zlBool (d := 11) (op := (.cmpI .geq (.tmp 10) (.const (.int .i64 16777216)))) (g := (some (9, false))) (j := 9) (decide (16777216 ≤ a1)) rfl (by kernel_rfl) (by kernel_rfl) (by kernel_rfl) (fun hc => ?_) (fun hc => ?_)
    · replace hS := cond_t hc hS
      refine zlRun (n := 2) (j := 11) rfl (by kernel_rfl) ?_
      refine zlBool (d := 14) (op := (.cmpI .lss (.tmp 13) (.const (.int .i64 33554432)))) (g := (some (12, true))) (j := 12) (decide (a1 < 33554432)) rfl (by kernel_rfl) (by kernel_rfl) (by kernel_rfl) (fun hc => ?_) (fun hc => ?_)
      · replace hS := cond_t hc hS
        refine zlRun (n := 3) (j := 15) rfl (by kernel_rfl) ?_
        refine zlEnd (by kernel_rfl) ?_
        refine zkSeq ?_
        refine zrRet ?_
        refine zkNil ?_
        exact endQ hS hQ (fRet (by kernel_rfl) ((congrArg (fun s => outR s 0 c47.res) (by kernel_rfl : finSt c47.fin _ = f47_fin true)).trans (f47_out true)))
      · replace hS := cond_f hc hS
        refine zlRun (n := 3) (j := 15) rfl (by kernel_rfl) ?_
        refine zlEnd (by kernel_rfl) ?_
        refine zkSeq ?_
        refine zrRet ?_
        refine zkNil ?_
        exact endQ hS hQ (fRet (by kernel_rfl) ((congrArg (fun s => outR s 0 c47.res) (by kernel_rfl : finSt c47.fin _ = f47_fin false)).trans (f47_out false)))
    · replace hS := cond_f hc hS
      refine zlRun (n := 6) (j := 15) rfl (by kernel_rfl) ?_
      refine zlEnd (by kernel_rfl) ?_
      refine zkSeq ?_
      refine zrRet ?_
      refine zkNil ?_
      exact endQ hS hQ (fRet (by kernel_rfl) ((congrArg (fun s => outR s 0 c47.res) (by kernel_rfl : finSt c47.fin _ = f47_fin false)).trans (f47_out false)))
/- farwriter/pen.Check -/
def f28_fin (p2 : Int) : St := ⟨(up (fun _ => .un) 2 (.d (.int .i64 p2))), (hB fun _ => 0)⟩
theorem f28_out (p2 : Int) : outR (f28_fin p2) 0 c28.res = some ((.d (.int .i64 p2)), []) := by
  kernel_rfl
def f28_Q (r : Int) (e : PX) (st : St) : Prop := DoneF c28 0 ((.d (.int .i64 r)), []) e st
noncomputable def f28 (a1 : GPen) : Option (Int) := (bif (decide (a1.Flags < 0)) then (some 4) else (bif (decide (255 < a1.Flags)) then (some 4) else ((f47 a1.Fore).bind fun z3 => (bif (!z3) then (some 4) else ((f47 a1.Back).bind fun z4 => (bif (!z4) then (some 4) else (some 0)))))))
theorem f28_ok (d : Nat) (hd : 2 ≤ d) (a1 : GPen) (r : Int) (hS : f28 a1 = some r) : lev codes baseL d 28 [(.agg ((.d (.int .i64 a1.Flags)) :: ((.d (.int .i64 a1.Fore)) :: ((.d (.int .i64 a1.Back)) :: []))))] [] = some ((.d (.int .i64 r)), []) := by
  refine lev_go codes28 rfl rfl (Nat.le_trans (Nat.le_of_ble_eq_true rfl) hd) fun Q hQ => ?_
  unfold f28 at hS
  show ZR _ Q c28_b [] _
  replace hQ : ∀ e st', f28_Q r e st' → Q e st' := hQ
  refine zrSeq ?_
  refine zrReg ?_
  refine zlRun (n := 2) (j := 2) rfl (by kernel_rfl) ?_
  refine zlEnd (by kernel_rfl) ?_
  refine zkSeq ?_
  refine zrSeq ?_
  refine zrSeq ?_
  refine zrReg ?_
  refine zlRun (n := 2) (j := 2) rfl (by kernel_rfl) ?_
  refine zlBool (d := 5) (op := (.cmpI .lss (.tmp 4) (.const (.int .i64 0)))) (g := none) (j := 3) (decide (a1.Flags < 0)) rfl (by kernel_rfl) (by kernel_rfl) (by kernel_rfl) (fun hc => ?_) (fun hc => ?_)
  · replace hS := cond_t hc hS
    refine zlRun (n := 17) (j := 20) rfl (by kernel_rfl) ?_
    refine zlEnd (by kernel_rfl) ?_
    refine zkSeq ?_
    refine zrCondT (by kernel_rfl) ?_
    refine zrSeq ?_
    refine zrReg ?_
    refine zlRun (n := 1) (j := 1) rfl (by kernel_rfl) ?_
    refine zlEnd (by kernel_rfl) ?_
    refine zkSeq ?_
    refine zrRet ?_
    refine zkSeqR ?_
    refine zkNil ?_
    exact endQ hS hQ (fRet (by kernel_rfl) ((congrArg (fun s => outR s 0 c28.res) (by kernel_rfl : finSt c28.fin _ = f28_fin 4)).trans (f28_out 4)))
  · replace hS := cond_f hc hS
    refine zlRun (n := 3) (j := 6) rfl (by kernel_rfl) ?_
    refine zlBool (d := 9) (op := (.cmpI .gtr (.tmp 8) (.const (.int .i64 255)))) (g := (some (6, false))) (j := 7) (decide (255 < a1.Flags)) rfl (by kernel_rfl) (by kernel_rfl) (by kernel_rfl) (fun hc => ?_) (fun hc => ?_)
    · replace hS := cond_t hc hS
      refine zlRun (n := 13) (j := 20) rfl (by kernel_rfl) ?_
      refine zlEnd (by kernel_rfl) ?_
      refine zkSeq ?_
      refine zrCondT (by kernel_rfl) ?_
      refine zrSeq ?_
      refine zrReg ?_
      refine zlRun (n := 1) (j := 1) rfl (by kernel_rfl) ?_
      refine zlEnd (by kernel_rfl) ?_
      refine zkSeq ?_
      refine zrRet ?_
      refine zkSeqR ?_
      refine zkNil ?_
      exact endQ hS hQ (fRet (by kernel_rfl) ((congrArg (fun s => outR s 0 c28.res) (by kernel_rfl : finSt c28.fin _ = f28_fin 4)).trans (f28_out 4)))
    · replace hS := cond_f hc hS
      refine zlRun (n := 4) (j := 11) rfl (by kernel_rfl) ?_
      refine bindE hS (fun z3 hz3 hS => ?_)
      refine zlOp (d := some 14) (op := (.call 47 [(.tmp 13)])) (g := (some (11, false))) (j := 12) rfl (by kernel_rfl) (by kernel_rfl) (ev_callA (by kernel_rfl) (f47_ok (d - 1) (dpt hd rfl) a1.Fore z3 hz3) (by kernel_rfl) (by kernel_rfl)) ?_
      refine zlRun (n := 3) (j := 15) rfl (by kernel_rfl) ?_
      refine zlSplit 17 (!z3) (by kernel_rfl) (fun hc => ?_) (fun hc => ?_)
      · replace hS := cond_t hc hS
        refine zlRun (n := 5) (j := 20) rfl (by kernel_rfl) ?_
        refine zlEnd (by kernel_rfl) ?_
        refine zkSeq ?_
        refine zrCondT (by kernel_rfl) ?_
        refine zrSeq ?_
        refine zrReg ?_
        refine zlRun (n := 1) (j := 1) rfl (by kernel_rfl) ?_
        refine zlEnd (by kernel_rfl) ?_
        refine zkSeq ?_
        refine zrRet ?_
        refine zkSeqR ?_
        refine zkNil ?_
        exact endQ hS hQ (fRet (by kernel_rfl) ((congrArg (fun s => outR s 0 c28.res) (by kernel_rfl : finSt c28.fin _ = f28_fin 4)).trans (f28_out 4)))
      · replace hS := cond_f hc hS
        refine zlRun (n := 2) (j := 17) rfl (by kernel_rfl) ?_
        refine bindE hS (fun z4 hz4 hS => ?_)
        refine zlOp (d := some 20) (op := (.call 47 [(.tmp 19)])) (g := (some (17, false))) (j := 18) rfl (by kernel_rfl) (by kernel_rfl) (ev_callA (by kernel_rfl) (f47_ok (d - 1) (dpt hd rfl) a1.Back z4 hz4) (by kernel_rfl) (by kernel_rfl)) ?_
        refine zlRun (n := 2) (j := 20) rfl (by kernel_rfl) ?_
        refine zlEnd (by kernel_rfl) ?_
        refine zkSeq ?_
        refine zrSplit 22 (!z4) (by kernel_rfl) (fun hc => ?_) (fun hc => ?_)
        · replace hS := cond_t hc hS
          refine zrCondT (by kernel_rfl) ?_
          refine zrSeq ?_
          refine zrReg ?_
          refine zlRun (n := 1) (j := 1) rfl (by kernel_rfl) ?_
          refine zlEnd (by kernel_rfl) ?_
          refine zkSeq ?_
          refine zrRet ?_
          refine zkSeqR ?_
          refine zkNil ?_
          exact endQ hS hQ (fRet (by kernel_rfl) ((congrArg (fun s => outR s 0 c28.res) (by kernel_rfl : finSt c28.fin _ = f28_fin 4)).trans (f28_out 4)))
        · replace hS := cond_f hc hS
          refine zrCondF (by kernel_rfl) ?_
          refine zrSkip ?_
          refine zkSeq ?_
          refine zrSeq ?_
          refine zrReg ?_
          refine zlRun (n := 1) (j := 1) rfl (by kernel_rfl) ?_
          refine zlEnd (by kernel_rfl) ?_
          refine zkSeq ?_
          refine zrRet ?_
          refine zkNil ?_
          exact endQ hS hQ (fRet (by kernel_rfl) ((congrArg (fun s => outR s 0 c28.res) (by kernel_rfl : finSt c28.fin _ = f28_fin 0)).trans (f28_out 0)))
/- farwriter/width.in -/
def f72_fin (p27 : Bool) : St := ⟨(up (fun _ => .un) 4 (.d (.bool p27))), (hB fun _ => 0)⟩
theorem f72_out (p27 : Bool) : outR (f72_fin p27) 0 c72.res = some ((.d (.bool p27)), []) := by
  kernel_rfl
def f72_Q (r : Bool) (e : PX) (st : St) : Prop := DoneF c72 0 ((.d (.bool r)), []) e st
def f72_l0_J (a1 : Int) (a2 : List (Int × Int)) (x : Int) : St := ⟨(up (up (up (up (fun _ => .un) 9 (.d (.int .i64 x))) 8 (.d (.int .i64 (a2.length : Int)))) 7 (.d (.sl a2.length (e_A31.cells a2)))) 0 (.d (.int .i64 a1))), (hB fun _ => 0)⟩
def f72_l0_H (a1 : Int) (a2 : List (Int × Int)) (x : Int) (st : St) : Prop := keepSt [0, 7, 8, 9] [] [] st = f72_l0_J a1 a2 x
def f72_l0_e0_J (a1 : Int) (a2 : List (Int × Int)) : St := ⟨(fun _ => .un), (hB fun _ => 0)⟩
def f72_l0_X (a1 : Int) (a2 : List (Int × Int)) (z : Unit ⊕ Bool) (e : PX) (st : St) : Prop := (match z with | .inl z => e = .exit 0 ∧ st = f72_l0_e0_J a1 a2 | .inr z => e = .ret ∧ finSt c72.fin st = f72_fin z)
def f72_l0_j2_J (a1 : Int) (a2 : List (Int × Int)) (p32 : Int) : St := ⟨(up (up (up (up (fun _ => .un) 9 (.d (.int .i64 p32))) 8 (.d (.int .i64 (a2.length : Int)))) 7 (.d (.sl a2.length (e_A31.cells a2)))) 0 (.d (.int .i64 a1))), (hB fun _ => 0)⟩
noncomputable def f72_l0_j2 (a1 : Int) (a2 : List (Int × Int)) (p32 : Int) : Option (Int ⊕ (Unit ⊕ Bool)) := ((idx a2 p32).bind fun z4 => (bif (decide (z4.1 ≤ a1)) then (bif (decide (a1 ≤ z4.2)) then (some (.inr (.inr true))) else (some (.inl (IntKind.i64.wrap (p32 + 1))))) else (some (.inl (IntKind.i64.wrap (p32 + 1))))))
theorem f72_l0_j2_ok {d : Nat} (hd : 1 ≤ d) (a1 : Int) (a2 : List (Int × Int)) {r : Int ⊕ (Unit ⊕ Bool)} {Q : PX → St → Prop} (hQ : ∀ e st', finL (f72_l0_H a1 a2) (f72_l0_X a1 a2) r e st' → Q e st') (p32 : Int) (hS : f72_l0_j2 a1 a2 p32 = some r) {st : St} (he : keepSt [0, 7, 8, 9] [] [] st = f72_l0_j2_J a1 a2 p32) : ZR (lev codes baseL (d - 1)) Q c72_1 [] st := by
  refine zrKeep he ?_
  unfold f72_l0_j2 at hS
  refine zrSeq ?_
  refine zrBlk ?_
  refine zrSeq ?_
  refine zrReg ?_
  refine bindE hS (fun z4 hz4 hS => ?_)
  refine zlOp (d := some 11) (op := (.ixS 31 2 (.tmp 7) (.tmp 9))) (g := none) (v := (.rptr (e_A31.enc z4 ++ (e_A31.cells (a2.drop ((p32 : Int).toNat + 1)))))) (ups := []) (j := 1) rfl (by kernel_rfl) (by kernel_rfl) (ev_ixS e_A31 (kk := .i64) (xs := a2) (j := p32) (by kernel_rfl) (by kernel_rfl) hz4 rfl (by intro h; cases h)) ?_
  refine zlRun (n := 3) (j := 4) rfl (by kernel_rfl) ?_
  refine zlEnd (by kernel_rfl) ?_
  refine zkSeq ?_
  refine zrSeq ?_
  refine zrReg ?_
  refine zlRun (n := 3) (j := 3) rfl (by kernel_rfl) ?_
  refine zlBool (d := 16) (op := (.cmpI .geq (.tmp 13) (.tmp 15))) (g := none) (j := 4) (decide (z4.1 ≤ a1)) rfl (by kernel_rfl) (by kernel_rfl) (by kernel_rfl) (fun hc => ?_) (fun hc => ?_)
  · replace hS := cond_t hc hS
    refine zlRun (n := 4) (j := 8) rfl (by kernel_rfl) ?_
    refine zlBool (d := 21) (op := (.cmpI .leq (.tmp 18) (.tmp 20))) (g := (some (17, true))) (j := 9) (decide (a1 ≤ z4.2)) rfl (by kernel_rfl) (by kernel_rfl) (by kernel_rfl) (fun hc => ?_) (fun hc => ?_)
    · replace hS := cond_t hc hS
      refine zlRun (n := 1) (j := 10) rfl (by kernel_rfl) ?_
      refine zlEnd (by kernel_rfl) ?_
      refine zkSeq ?_
      refine zrCondT (by kernel_rfl) ?_
      refine zrSeq ?_
      refine zrReg ?_
      refine zlRun (n := 1) (j := 1) rfl (by kernel_rfl) ?_
      refine zlEnd (by kernel_rfl) ?_
      refine zkSeq ?_
      refine zrRet ?_
      refine zkBlkR ?_
      refine zkSeqR ?_
      refine zkNil ?_
      exact endQ hS hQ (finL_x (by intro h; cases h) (by show _ = _ ∧ _ = _; exact ⟨rfl, by kernel_rfl⟩))
    · replace hS := cond_f hc hS
      refine zlRun (n := 1) (j := 10) rfl (by kernel_rfl) ?_
      refine zlEnd (by kernel_rfl) ?_
      refine zkSeq ?_
      refine zrCondF (by kernel_rfl) ?_
      refine zrSkip ?_
      refine zkBlk ?_
      refine zkSeq ?_
      refine zrReg ?_
      refine zlRun (n := 2) (j := 2) rfl (by kernel_rfl) ?_
      refine zlEnd (by kernel_rfl) ?_
      refine zkNil ?_
      exact endQ hS hQ (finL_n (by show keepSt _ _ _ _ = _; kernel_rfl))
  · replace hS := cond_f hc hS
    refine zlRun (n := 6) (j := 10) rfl (by kernel_rfl) ?_
    refine zlEnd (by kernel_rfl) ?_
    refine zkSeq ?_
    refine zrCondF (by kernel_rfl) ?_
    refine zrSkip ?_
    refine zkBlk ?_
    refine zkSeq ?_
    refine zrReg ?_
    refine zlRun (n := 2) (j := 2) rfl (by kernel_rfl) ?_
    refine zlEnd (by kernel_rfl) ?_
    refine zkNil ?_
    exact endQ hS hQ (finL_n (by show keepSt _ _ _ _ = _; kernel_rfl))
def f72_l0_j1_J (a1 : Int) (a2 : List (Int × Int)) (p30 : Int) (p31 : Bool) : St := ⟨(up (up (up (up (up (fun _ => .un) 10 (.d (.bool p31))) 9 (.d (.int .i64 p30))) 8 (.d (.int .i64 (a2.length : Int)))) 7 (.d (.sl a2.length (e_A31.cells a2)))) 0 (.d (.int .i64 a1))), (hB fun _ => 0)⟩
noncomputable def f72_l0_j1 (a1 : Int) (a2 : List (Int × Int)) (p30 : Int) (p31 : Bool) : Option (Int ⊕ (Unit ⊕ Bool)) := (bif p31 then (f72_l0_j2 a1 a2 p30) else (some (.inr (.inl ()))))
theorem f72_l0_j1_ok {d : Nat} (hd : 1 ≤ d) (a1 : Int) (a2 : List (Int × Int)) {r : Int ⊕ (Unit ⊕ Bool)} {Q : PX → St → Prop} (hQ : ∀ e st', finL (f72_l0_H a1 a2) (f72_l0_X a1 a2) r e st' → Q e st') (p30 : Int) (p31 : Bool) (hS : f72_l0_j1 a1 a2 p30 p31 = some r) {st : St} (he : keepSt [0, 7, 8, 9, 10] [] [] st = f72_l0_j1_J a1 a2 p30 p31) : ZR (lev codes baseL (d - 1)) Q c72_2 [] st := by
  refine zrKeep he ?_
  unfold f72_l0_j1 at hS
  refine zrSeq ?_
  refine zrSplit 10 p31 (by kernel_rfl) (fun hc => ?_) (fun hc => ?_)
  · replace hS := cond_t hc hS
    refine zrCondT (by kernel_rfl) ?_
    refine zrSkip ?_
    refine zkSeq ?_
    exact f72_l0_j2_ok hd a1 a2 hQ p30 hS (by kernel_rfl)
  · replace hS := cond_f hc hS
    refine zrCondF (by kernel_rfl) ?_
    refine zrKeep (J := f72_l0_e0_J a1 a2) (by kernel_rfl) ?_
    refine zrExit ?_
    refine zkSeqX ?_
    refine zkNil ?_
    exact endQ hS hQ (finL_x (by intro h; cases h) (by show _ = _ ∧ _ = _; exact ⟨rfl, rfl⟩))
noncomputable def f72_l0 (a1 : Int) (a2 : List (Int × Int)) (x : Int) : Option (Int ⊕ (Unit ⊕ Bool)) := (bif (decide (x < (a2.length : Int))) then (f72_l0_j1 a1 a2 x true) else (f72_l0_j1 a1 a2 x false))
theorem f72_l0_ok {d : Nat} (hd : 1 ≤ d) (a1 : Int) (a2 : List (Int × Int)) {r : Int ⊕ (Unit ⊕ Bool)} {Q : PX → St → Prop} (hQ : ∀ e st', finL (f72_l0_H a1 a2) (f72_l0_X a1 a2) r e st' → Q e st') {x : Int} (hS : f72_l0 a1 a2 x = some r) {st : St} (he : f72_l0_H a1 a2 x st) : ZR (lev codes baseL (d - 1)) Q c72_3 [] st := by
  refine zrKeep he ?_
  unfold f72_l0 at hS
  refine zrSeq ?_
  refine zrReg ?_
  refine zlBool (d := 10) (op := (.cmpI .lss (.tmp 9) (.tmp 8))) (g := none) (j := 1) (decide (x < (a2.length : Int))) rfl (by kernel_rfl) (by kernel_rfl) (by kernel_rfl) (fun hc => ?_) (fun hc => ?_)
  · replace hS := cond_t hc hS
    refine zlEnd (by kernel_rfl) ?_
    refine zkSeq ?_
    exact f72_l0_j1_ok hd a1 a2 hQ x true hS (by kernel_rfl)
  · replace hS := cond_f hc hS
    refine zlEnd (by kernel_rfl) ?_
    refine zkSeq ?_
    exact f72_l0_j1_ok hd a1 a2 hQ x false hS (by kernel_rfl)
noncomputable def f72 (a1 : Int) (a2 : List (Int × Int)) : Option (Bool) := ((loopO (f72_l0 a1 a2) 0).bind fun z5 => (Sum.elim (fun z6 => (some false)) (fun z7 => (some z7)) z5))
theorem f72_ok (d : Nat) (hd : 1 ≤ d) (a1 : Int) (a2 : List (Int × Int)) (r : Bool) (hS : f72 a1 a2 = some r) : lev codes baseL d 72 [(.d (.int .i64 a1)), (.d (.sl a2.length (e_A31.cells a2)))] [] = some ((.d (.bool r)), []) := by
  refine lev_go codes72 rfl rfl (Nat.le_trans (Nat.le_of_ble_eq_true rfl) hd) fun Q hQ => ?_
  unfold f72 at hS
  show ZR _ Q c72_b [] _
  replace hQ : ∀ e st', f72_Q r e st' → Q e st' := hQ
  refine zrSeq ?_
  refine zrReg ?_
  refine zlRun (n := 1) (j := 1) rfl (by kernel_rfl) ?_
  refine zlEnd (by kernel_rfl) ?_
  refine zkSeq ?_
  refine zrSeq ?_
  refine zrSeq ?_
  refine zrReg ?_
  refine zlRun (n := 3) (j := 3) rfl (by kernel_rfl) ?_
  refine zlEnd (by kernel_rfl) ?_
  refine zkSeq ?_
  refine zrBlk ?_
  refine bindE hS (fun z5 hz5 hS => ?_)
  refine zrLoop (f72_l0_H a1 a2) (f72_l0_X a1 a2) (fun x st r Q h0 hS hQ => f72_l0_ok hd a1 a2 hQ hS h0) (x := 0) (z := z5) (by show keepSt _ _ _ _ = _; kernel_rfl) hz5 ?_
  rcases z5 with z6 | z7
  · replace hS := (show _ = _ from hS)
    simp only [Sum.elim_inl] at hS
    intro e st' _ hX
    obtain ⟨rfl, rfl⟩ : _ ∧ _ := hX
    refine zkBlkX ?_
    refine zkSeq ?_
    refine zrSeq ?_
    refine zrReg ?_
    refine zlRun (n := 1) (j := 1) rfl (by kernel_rfl) ?_
    refine zlEnd (by kernel_rfl) ?_
    refine zkSeq ?_
    refine zrRet ?_
    refine zkNil ?_
    exact endQ hS hQ (fRet (by kernel_rfl) ((congrArg (fun s => outR s 0 c72.res) (by kernel_rfl : finSt c72.fin _ = f72_fin false)).trans (f72_out false)))
  · simp only [Sum.elim_inr] at hS
    intro e st' _ hX
    obtain ⟨rfl, hX⟩ : _ ∧ _ := hX
    refine zkBlkR ?_
    refine zkSeqR ?_
    refine zkNil ?_
    exact endQ hS hQ (fRet (by kernel_rfl) ((congrArg (fun s => outR s 0 c72.res) hX).trans (f72_out z7)))
/- farwriter/width.Of -/
def f45_fin (p2 : Int) : St := ⟨(up (fun _ => .un) 2 (.d (.int .i64 p2))), (hB fun _ => 0)⟩
theorem f45_out (p2 : Int) : outR (f45_fin p2) 0 c45.res = some ((.d (.int .i64 p2)), []) := by
  kernel_rfl
def f45_Q (r : Int) (e : PX) (st : St) : Prop := DoneF c45 0 ((.d (.int .i64 r)), []) e st
def f45_j0_J (a1 : Int) (p4 : Bool) : St := ⟨(up (up (up (fun _ => .un) 25 (.d (.bool p4))) 4 (.r (.ptr 40 0 0))) 0 (.d (.int .i64 a1))), (up (hB fun _ => 0) 40 ⟨0, some (.box ((e_A31.row 12 (fun i => ([(4352, 4447), (11904, 12350), (12353, 19903), (19968, 42191), (44032, 55203), (63744, 64255), (65072, 65135), (65280, 65376), (65504, 65510), (127744, 128591), (129280, 129535), (131072, 262141)] : List (Int × Int)).getD i (0, 0))) ++ []))⟩)⟩
noncomputable def f45_j0 (a1 : Int) (p4 : Bool) : Option (Int) := (bif p4 then (some 0) else ((f72 a1 [(4352, 4447), (11904, 12350), (12353, 19903), (19968, 42191), (44032, 55203), (63744, 64255), (65072, 65135), (65280, 65376), (65504, 65510), (127744, 128591), (129280, 129535), (131072, 262141)]).bind fun z4 => (bif z4 then (some 2) else (some 1))))
theorem f45_j0_ok {d : Nat} (hd : 2 ≤ d) (a1 : Int) {r : Int} {Q : PX → St → Prop} (hQ : ∀ e st', f45_Q r e st' → Q e st') (p4 : Bool) (hS : f45_j0 a1 p4 = some r) {st : St} (he : keepSt [0, 4, 25] [(40, .id 40)] [] st = f45_j0_J a1 p4) : ZR (lev codes baseL (d - 1)) Q c45_1 [.blk 0, .seq c45_2] st := by
  refine zrKeep he ?_
  unfold f45_j0 at hS
  refine zrSplit 25 p4 (by kernel_rfl) (fun hc => ?_) (fun hc => ?_)
  · replace hS := cond_t hc hS
    refine zrCondT (by kernel_rfl) ?_
    refine zrSeq ?_
    refine zrReg ?_
    refine zlRun (n := 1) (j := 1) rfl (by kernel_rfl) ?_
    refine zlEnd (by kernel_rfl) ?_
    refine zkSeq ?_
    refine zrRet ?_
    refine zkBlkR ?_
    refine zkSeqR ?_
    refine zkNil ?_
    exact endQ hS hQ (fRet (by kernel_rfl) ((congrArg (fun s => outR s 0 c45.res) (by kernel_rfl : finSt c45.fin _ = f45_fin 0)).trans (f45_out 0)))
  · replace hS := cond_f hc hS
    refine zrCondF (by kernel_rfl) ?_
    refine zrSeq ?_
    refine zrReg ?_
    refine zlRun (n := 2) (j := 2) rfl (by kernel_rfl) ?_
    refine bindE hS (fun z4 hz4 hS => ?_)
    refine zlOp (d := some 40) (op := (.call 72 [(.tmp 38), (.tmp 39)])) (g := none) (j := 3) rfl (by kernel_rfl) (by kernel_rfl) (ev_callA (by kernel_rfl) (f72_ok (d - 1) (dpt hd rfl) a1 [(4352, 4447), (11904, 12350), (12353, 19903), (19968, 42191), (44032, 55203), (63744, 64255), (65072, 65135), (65280, 65376), (65504, 65510), (127744, 128591), (129280, 129535), (131072, 262141)] z4 hz4) (by kernel_rfl) (by kernel_rfl)) ?_
    refine zlRun (n := 1) (j := 4) rfl (by kernel_rfl) ?_
    refine zlEnd (by kernel_rfl) ?_
    refine zkSeq ?_
    refine zrSplit 37 z4 (by kernel_rfl) (fun hc => ?_) (fun hc => ?_)
    · replace hS := cond_t hc hS
      refine zrCondT (by kernel_rfl) ?_
      refine zrSeq ?_
      refine zrReg ?_
      refine zlRun (n := 1) (j := 1) rfl (by kernel_rfl) ?_
      refine zlEnd (by kernel_rfl) ?_
      refine zkSeq ?_
      refine zrRet ?_
      refine zkBlkR ?_
      refine zkSeqR ?_
      refine zkNil ?_
      exact endQ hS hQ (fRet (by kernel_rfl) ((congrArg (fun s => outR s 0 c45.res) (by kernel_rfl : finSt c45.fin _ = f45_fin 2)).trans (f45_out 2)))
    · replace hS := cond_f hc hS
      refine zrCondF (by kernel_rfl) ?_
      refine zrSkip ?_
      refine zkBlk ?_
      refine zkSeq ?_
      refine zrSeq ?_
      refine zrReg ?_
      refine zlRun (n := 1) (j := 1) rfl (by kernel_rfl) ?_
      refine zlEnd (by kernel_rfl) ?_
      refine zkSeq ?_
      refine zrRet ?_
      refine zkNil ?_
      exact endQ hS hQ (fRet (by kernel_rfl) ((congrArg (fun s => outR s 0 c45.res) (by kernel_rfl : finSt c45.fin _ = f45_fin 1)).trans (f45_out 1)))
noncomputable def f45 (a1 : Int) : Option (Int) := (bif (decide (a1 < 0)) then (f45_j0 a1 true) else (bif (decide (1114111 < a1)) then (f45_j0 a1 true) else ((f72 a1 [(0, 31), (127, 159), (768, 879), (8203, 8207), (55296, 57343), (65024, 65039)]).bind fun z5 => (f45_j0 a1 z5))))
theorem f45_ok (d : Nat) (hd : 2 ≤ d) (a1 : Int) (r : Int) (hS : f45 a1 = some r) : lev codes baseL d 45 [(.d (.int .i64 a1))] [] = some ((.d (.int .i64 r)), []) := by
  refine lev_go codes45 rfl rfl (Nat.le_trans (Nat.le_of_ble_eq_true rfl) hd) fun Q hQ => ?_
  unfold f45 at hS
  show ZR _ Q c45_b [] _
  replace hQ : ∀ e st', f45_Q r e st' → Q e st' := hQ
  refine zrSeq ?_
  refine zrReg ?_
  refine zlRun (n := 1) (j := 1) rfl (by kernel_rfl) ?_
  refine zlEnd (by kernel_rfl) ?_
  refine zkSeq ?_
  refine zrSeq ?_
  refine zrReg ?_
  refine zlRun (n := 9) (j := 9) rfl (by kernel_rfl) ?_
  refine zlEnd (by kernel_rfl) ?_
  refine zkSeq ?_
  refine zrSeq ?_
  refine zrReg ?_
  refine zlRun (n := 15) (j := 15) rfl (by kernel_rfl) ?_
  refine zlEnd (by kernel_rfl) ?_
  refine zkSeq ?_
  refine zrSeq ?_
  refine zrBlk ?_
  refine zrSeq ?_
  refine zrReg ?_
  refine zlRun (n := 1) (j := 1) rfl (by kernel_rfl) ?_
  refine zlBool (d := 27) (op := (.cmpI .lss (.tmp 26) (.const (.int .i64 0)))) (g := none) (j := 2) (decide (a1 < 0)) rfl (by kernel_rfl) (by kernel_rfl) (by kernel_rfl) (fun hc => ?_) (fun hc => ?_)
  · replace hS := cond_t hc hS
    refine zlRun (n := 10) (j := 12) rfl (by kernel_rfl) ?_
    refine zlEnd (by kernel_rfl) ?_
    refine zkSeq ?_
    exact f45_j0_ok hd a1 hQ true hS (by kernel_rfl)
  · replace hS := cond_f hc hS
    refine zlRun (n := 2) (j := 4) rfl (by kernel_rfl) ?_
    refine zlBool (d := 30) (op := (.cmpI .gtr (.tmp 29) (.const (.int .i64 1114111)))) (g := (some (28, false))) (j := 5) (decide (1114111 < a1)) rfl (by kernel_rfl) (by kernel_rfl) (by kernel_rfl) (fun hc => ?_) (fun hc => ?_)
    · replace hS := cond_t hc hS
      refine zlRun (n := 7) (j := 12) rfl (by kernel_rfl) ?_
      refine zlEnd (by kernel_rfl) ?_
      refine zkSeq ?_
      exact f45_j0_ok hd a1 hQ true hS (by kernel_rfl)
    · replace hS := cond_f hc hS
      refine zlRun (n := 4) (j := 9) rfl (by kernel_rfl) ?_
      refine bindE hS (fun z5 hz5 hS => ?_)
      refine zlOp (d := some 35) (op := (.call 72 [(.tmp 33), (.tmp 34)])) (g := (some (32, false))) (j := 10) rfl (by kernel_rfl) (by kernel_rfl) (ev_callA (by kernel_rfl) (f72_ok (d - 1) (dpt hd rfl) a1 [(0, 31), (127, 159), (768, 879), (8203, 8207), (55296, 57343), (65024, 65039)] z5 hz5) (by kernel_rfl) (by kernel_rfl)) ?_
      refine zlRun (n := 2) (j := 12) rfl (by kernel_rfl) ?_
      refine zlEnd (by kernel_rfl) ?_
      refine zkSeq ?_
      exact f45_j0_ok hd a1 hQ z5 hS (by kernel_rfl)
/- farwriter/grid.lone$1 -/
def f73_fin (p4 : Bool) : St := ⟨(up (fun _ => .un) 3 (.d (.bool p4))), (hB fun _ => 0)⟩
theorem f73_out (p4 : Bool) : outR (f73_fin p4) 0 c73.res = some ((.d (.bool p4)), []) := by
  kernel_rfl
def f73_Q (r : Bool) (e : PX) (st : St) : Prop := DoneF c73 0 ((.d (.bool r)), []) e st
noncomputable def f73 (a1 : Int) (a2 : List GCell) (a3 : List PD) : Option (Bool) := (bif (decide (a1 < (a2.length : Int))) then ((idx a2 a1).bind fun z4 => (bif (decide (z4.Rune = 0)) then ((idx a2 a1).bind fun z5 => ((idx a2 (IntKind.i64.wrap (a1 - 1))).bind fun z6 => (bif (decide (z5.Pen.Flags = z6.Pen.Flags) && (decide (z5.Pen.Fore = z6.Pen.Fore) && (decide (z5.Pen.Back = z6.Pen.Back) && true))) then (some true) else (some false)))) else (some false))) else (some false))
theorem f73_ok (d : Nat) (hd : 1 ≤ d) (a1 : Int) (a2 : List GCell) (a3 : List PD) (r : Bool) (hS : f73 a1 a2 a3 = some r) : lev codes baseL d 73 [(.d (.int .i64 a1)), (.rptr ((eSl e_GCell).enc a2 ++ a3))] [] = some ((.d (.bool r)), []) := by
  refine lev_go codes73 rfl rfl (Nat.le_trans (Nat.le_of_ble_eq_true rfl) hd) fun Q hQ => ?_
  unfold f73 at hS
  show ZR _ Q c73_b [] _
  replace hQ : ∀ e st', f73_Q r e st' → Q e st' := hQ
  refine zrSeq ?_
  refine zrReg ?_
  refine zlRun (n := 1) (j := 1) rfl (by kernel_rfl) ?_
  refine zlEnd (by kernel_rfl) ?_
  refine zkSeq ?_
  refine zrSeq ?_
  refine zrRegD ?_
  refine zdRun (n := 3) (j := 3) (ts := [[], [], []]) (acc' := [[], [], []]) rfl (by kernel_rfl) (by kernel_rfl) (by kernel_rfl) ?_
  refine zdBool (d := 7) (op := (.cmpI .lss (.tmp 4) (.tmp 6))) (g := none) (j := 4) (t1 := []) (acc' := [[], [], [], []]) (decide (a1 < (a2.length : Int))) (by kernel_rfl) (by kernel_rfl) rfl (by kernel_rfl) (by kernel_rfl) (by kernel_rfl) (fun hc => ?_) (fun hc => ?_)
  · replace hS := cond_t hc hS
    refine zdRun (n := 3) (j := 7) (ts := [[], [], []]) (acc' := [[], [], [], [], [], [], []]) rfl (by kernel_rfl) (by kernel_rfl) (by kernel_rfl) ?_
    refine bindE hS (fun z4 hz4 hS => ?_)
    refine zdOp (d := some 11) (op := (.ixS 51 4 (.tmp 9) (.tmp 10))) (g := (some (8, true))) (v := (.rptr (e_GCell.enc z4 ++ (e_GCell.cells (a2.drop ((a1 : Int).toNat + 1)))))) (ups := []) (j := 8) (t1 := []) (acc' := [[], [], [], [], [], [], [], []]) (by kernel_rfl) (by kernel_rfl) rfl (by kernel_rfl) (by kernel_rfl) (ev_ixS e_GCell (kk := .i64) (xs := a2) (j := a1) (by kernel_rfl) (by kernel_rfl) hz4 rfl (by intro h; cases h)) ?_
    refine zdRun (n := 2) (j := 10) (ts := [[], []]) (acc' := [[], [], [], [], [], [], [], [], [], []]) rfl (by kernel_rfl) (by kernel_rfl) (by kernel_rfl) ?_
    refine zdBool (d := 14) (op := (.cmpI .eql (.tmp 13) (.const (.int .i64 0)))) (g := (some (8, true))) (j := 11) (t1 := []) (acc' := [[], [], [], [], [], [], [], [], [], [], []]) (decide (z4.Rune = 0)) (by kernel_rfl) (by kernel_rfl) rfl (by kernel_rfl) (by kernel_rfl) (by kernel_rfl) (fun hc => ?_) (fun hc => ?_)
    · replace hS := cond_t hc hS
      refine zdRun (n := 4) (j := 15) (ts := [[], [], [], []]) (acc' := [[], [], [], [], [], [], [], [], [], [], [], [], [], [], []]) rfl (by kernel_rfl) (by kernel_rfl) (by kernel_rfl) ?_
      refine bindE hS (fun z5 hz5 hS => ?_)
      refine zdOp (d := some 19) (op := (.ixS 51 4 (.tmp 17) (.tmp 18))) (g := (some (16, true))) (v := (.rptr (e_GCell.enc z5 ++ (e_GCell.cells (a2.drop ((a1 : Int).toNat + 1)))))) (ups := []) (j := 16) (t1 := []) (acc' := [[], [], [], [], [], [], [], [], [], [], [], [], [], [], [], []]) (by kernel_rfl) (by kernel_rfl) rfl (by kernel_rfl) (by kernel_rfl) (ev_ixS e_GCell (kk := .i64) (xs := a2) (j := a1) (by kernel_rfl) (by kernel_rfl) hz5 rfl (by intro h; cases h)) ?_
      refine zdRun (n := 5) (j := 21) (ts := [[], [], [], [], []]) (acc' := [[], [], [], [], [], [], [], [], [], [], [], [], [], [], [], [], [], [], [], [], []]) rfl (by kernel_rfl) (by kernel_rfl) (by kernel_rfl) ?_
      refine bindE hS (fun z6 hz6 hS => ?_)
      refine zdOp (d := some 25) (op := (.ixS 51 4 (.tmp 22) (.tmp 24))) (g := (some (16, true))) (v := (.rptr (e_GCell.enc z6 ++ (e_GCell.cells (a2.drop (((IntKind.i64.wrap (a1 - 1)) : Int).toNat + 1)))))) (ups := []) (j := 22) (t1 := []) (acc' := [[], [], [], [], [], [], [], [], [], [], [], [], [], [], [], [], [], [], [], [], [], []]) (by kernel_rfl) (by kernel_rfl) rfl (by kernel_rfl) (by kernel_rfl) (ev_ixS e_GCell (kk := .i64) (xs := a2) (j := (IntKind.i64.wrap (a1 - 1))) (by kernel_rfl) (by kernel_rfl) hz6 rfl (by intro h; cases h)) ?_
      refine zdRun (n := 2) (j := 24) (ts := [[], []]) (acc' := [[], [], [], [], [], [], [], [], [], [], [], [], [], [], [], [], [], [], [], [], [], [], [], []]) rfl (by kernel_rfl) (by kernel_rfl) (by kernel_rfl) ?_
      refine zdBool (d := 28) (op := (.eqA .false [(3, .int)] (.tmp 21) (.tmp 27))) (g := (some (16, true))) (j := 25) (t1 := []) (acc' := [[], [], [], [], [], [], [], [], [], [], [], [], [], [], [], [], [], [], [], [], [], [], [], [], []]) (decide (z5.Pen.Flags = z6.Pen.Flags) && (decide (z5.Pen.Fore = z6.Pen.Fore) && (decide (z5.Pen.Back = z6.Pen.Back) && true))) (by kernel_rfl) (by kernel_rfl) rfl (by kernel_rfl) (by kernel_rfl) (by kernel_rfl) (fun hc => ?_) (fun hc => ?_)
      · replace hS := cond_t hc hS
        refine zdRun (n := 2) (j := 27) (ts := [[], []]) (acc' := [[], [], [], [], [], [], [], [], [], [], [], [], [], [], [], [], [], [], [], [], [], [], [], [], [], [], []]) rfl (by kernel_rfl) (by kernel_rfl) (by kernel_rfl) ?_
        refine zdEnd (by kernel_rfl) (by kernel_rfl) ?_
        refine zkSeq ?_
        refine zrRet ?_
        refine zkNil ?_
        exact endQ hS hQ (fRet (by kernel_rfl) ((congrArg (fun s => outR s 0 c73.res) (by kernel_rfl : finSt c73.fin _ = f73_fin true)).trans (f73_out true)))
      · replace hS := cond_f hc hS
        refine zdRun (n := 2) (j := 27) (ts := [[], []]) (acc' := [[], [], [], [], [], [], [], [], [], [], [], [], [], [], [], [], [], [], [], [], [], [], [], [], [], [], []]) rfl (by kernel_rfl) (by kernel_rfl) (by kernel_rfl) ?_
        refine zdEnd (by kernel_rfl) (by kernel_rfl) ?_
        refine zkSeq ?_
        refine zrRet ?_
        refine zkNil ?_
        exact endQ hS hQ (fRet (by kernel_rfl) ((congrArg (fun s => outR s 0 c73.res) (by kernel_rfl : finSt c73.fin _ = f73_fin false)).trans (f73_out false)))
    · replace hS := cond_f hc hS
      refine zdRun (n := 16) (j := 27) (ts := [[], [], [], [], [], [], [], [], [], [], [], [], [], [], [], []]) (acc' := [[], [], [], [], [], [], [], [], [], [], [], [], [], [], [], [], [], [], [], [], [], [], [], [], [], [], []]) rfl (by kernel_rfl) (by kernel_rfl) (by kernel_rfl) ?_
      refine zdEnd (by kernel_rfl) (by kernel_rfl) ?_
      refine zkSeq ?_
      refine zrRet ?_
      refine zkNil ?_
      exact endQ hS hQ (fRet (by kernel_rfl) ((congrArg (fun s => outR s 0 c73.res) (by kernel_rfl : finSt c73.fin _ = f73_fin false)).trans (f73_out false)))
  · replace hS := cond_f hc hS
    refine zdRun (n := 23) (j := 27) (ts := [[], [], [], [], [], [], [], [], [], [], [], [], [], [], [], [], [], [], [], [], [], [], []]) (acc' := [[], [], [], [], [], [], [], [], [], [], [], [], [], [], [], [], [], [], [], [], [], [], [], [], [], [], []]) rfl (by kernel_rfl) (by kernel_rfl) (by kernel_rfl) ?_
    refine zdEnd (by kernel_rfl) (by kernel_rfl) ?_
    refine zkSeq ?_
    refine zrRet ?_
    refine zkNil ?_
    exact endQ hS hQ (fRet (by kernel_rfl) ((congrArg (fun s => outR s 0 c73.res) (by kernel_rfl : finSt c73.fin _ = f73_fin false)).trans (f73_out false)))
/- farwriter/grid.lone -/
def f46_fin (p4 : Bool) : St := ⟨(up (fun _ => .un) 4 (.d (.bool p4))), (hB fun _ => 0)⟩
theorem f46_out (p4 : Bool) : outR (f46_fin p4) 0 c46.res = some ((.d (.bool p4)), []) := by
  kernel_rfl
def f46_Q (r : Bool) (e : PX) (st : St) : Prop := DoneF c46 0 ((.d (.bool r)), []) e st
def f46_j0_J (a1 : List GCell) (a2 : Int) : St := ⟨(up (up (up (fun _ => .un) 5 (.fn 73 [(.r (.ptr 24 0 0))])) 2 (.r (.ptr 24 0 0))) 1 (.d (.int .i64 a2))), (up (hB fun _ => 0) 24 ⟨0, some (.box ((.d (.sl a1.length (e_GCell.cells a1))) :: []))⟩)⟩
noncomputable def f46_j0 (a1 : List GCell) (a2 : Int) : Option (Bool) := ((idx a1 a2).bind fun z12 => ((f45 z12.Rune).bind fun z13 => (bif (decide (z13 = 2)) then ((f73 (IntKind.i64.wrap (a2 + 1)) a1 []).bind fun z14 => (some (!z14))) else (some false))))
theorem f46_j0_ok {d : Nat} (hd : 3 ≤ d) (a1 : List GCell) (a2 : Int) {r : Bool} {Q : PX → St → Prop} (hQ : ∀ e st', f46_Q r e st' → Q e st')  (hS : f46_j0 a1 a2 = some r) {st : St} (he : keepSt [1, 2, 5] [(24, .id 24)] [] st = f46_j0_J a1 a2) : ZR (lev codes baseL (d - 1)) Q c46_1 [] st := by
  refine zrKeep he ?_
  unfold f46_j0 at hS
  refine zrSeq ?_
  refine zrReg ?_
  refine zlRun (n := 2) (j := 2) rfl (by kernel_rfl) ?_
  refine bindE hS (fun z12 hz12 hS => ?_)
  refine zlOp (d := some 33) (op := (.ixS 51 4 (.tmp 31) (.tmp 32))) (g := none) (v := (.rptr (e_GCell.enc z12 ++ (e_GCell.cells (a1.drop ((a2 : Int).toNat + 1)))))) (ups := []) (j := 3) rfl (by kernel_rfl) (by kernel_rfl) (ev_ixS e_GCell (kk := .i64) (xs := a1) (j := a2) (by kernel_rfl) (by kernel_rfl) hz12 rfl (by intro h; cases h)) ?_
  refine zlRun (n := 2) (j := 5) rfl (by kernel_rfl) ?_
  refine bindE hS (fun z13 hz13 hS => ?_)
  refine zlOp (d := some 36) (op := (.call 45 [(.tmp 35)])) (g := none) (j := 6) rfl (by kernel_rfl) (by kernel_rfl) (ev_callA (by kernel_rfl) (f45_ok (d - 1) (dpt hd rfl) z12.Rune z13 hz13) (by kernel_rfl) (by kernel_rfl)) ?_
  refine zlBool (d := 37) (op := (.cmpI .eql (.tmp 36) (.const (.int .i64 2)))) (g := none) (j := 7) (decide (z13 = 2)) rfl (by kernel_rfl) (by kernel_rfl) (by kernel_rfl) (fun hc => ?_) (fun hc => ?_)
  · replace hS := cond_t hc hS
    refine zlRun (n := 4) (j := 11) rfl (by kernel_rfl) ?_
    refine bindE hS (fun z14 hz14 hS => ?_)
    refine zlOp (d := some 42) (op := (.callv (.tmp 39) [(.tmp 41)])) (g := (some (38, true))) (v := (.d (.bool z14))) (ups := []) (j := 12) rfl (by kernel_rfl) (by kernel_rfl) (ev_callv (f := 73) (cs := [(.r (.ptr 24 0 0))]) (by kernel_rfl) (args := [(.d (.int .i64 (IntKind.i64.wrap (a2 + 1)))), (.r (.ptr 24 0 0))]) (l := [(.d (.int .i64 (IntKind.i64.wrap (a2 + 1)))), (.rptr ((eSl e_GCell).enc a1 ++ []))]) (r := (.d (.bool z14))) (by kernel_rfl) (by kernel_rfl) (f73_ok (d - 1) (dpt hd rfl) (IntKind.i64.wrap (a2 + 1)) a1 [] z14 hz14) (by kernel_rfl) (by kernel_rfl) (by kernel_rfl)) ?_
    refine zlRun (n := 3) (j := 15) rfl (by kernel_rfl) ?_
    refine zlEnd (by kernel_rfl) ?_
    refine zkSeq ?_
    refine zrRet ?_
    refine zkNil ?_
    exact endQ hS hQ (fRet (by kernel_rfl) ((congrArg (fun s => outR s 0 c46.res) (by kernel_rfl : finSt c46.fin _ = f46_fin (!z14))).trans (f46_out (!z14))))
  · replace hS := cond_f hc hS
    refine zlRun (n := 8) (j := 15) rfl (by kernel_rfl) ?_
    refine zlEnd (by kernel_rfl) ?_
    refine zkSeq ?_
    refine zrRet ?_
    refine zkNil ?_
    exact endQ hS hQ (fRet (by kernel_rfl) ((congrArg (fun s => outR s 0 c46.res) (by kernel_rfl : finSt c46.fin _ = f46_fin false)).trans (f46_out false)))
noncomputable def f46 (a1 : List GCell) (a2 : Int) : Option (Bool) := ((idx a1 a2).bind fun z16 => (bif (decide (z16.Rune = 0)) then (bif (decide (a2 = 0)) then (some true) else ((idx a1 (IntKind.i64.wrap (a2 - 1))).bind fun z17 => ((f45 z17.Rune).bind fun z18 => (bif (!decide (z18 = 2)) then (some true) else ((f73 a2 a1 []).bind fun z19 => (some (!z19))))))) else (f46_j0 a1 a2 )))
theorem f46_ok (d : Nat) (hd : 3 ≤ d) (a1 : List GCell) (a2 : Int) (r : Bool) (hS : f46 a1 a2 = some r) : lev codes baseL d 46 [(.d (.sl a1.length (e_GCell.cells a1))), (.d (.int .i64 a2))] [] = some ((.d (.bool r)), []) := by
  refine lev_go codes46 rfl rfl (Nat.le_trans (Nat.le_of_ble_eq_true rfl) hd) fun Q hQ => ?_
  unfold f46 at hS
  show ZR _ Q c46_b [] _
  replace hQ : ∀ e st', f46_Q r e st' → Q e st' := hQ
  refine zrSeq ?_
  refine zrReg ?_
  refine zlRun (n := 2) (j := 2) rfl (by kernel_rfl) ?_
  refine zlEnd (by kernel_rfl) ?_
  refine zkSeq ?_
  refine zrSeq ?_
  refine zrReg ?_
  refine zlRun (n := 2) (j := 2) rfl (by kernel_rfl) ?_
  refine zlEnd (by kernel_rfl) ?_
  refine zkSeq ?_
  refine zrSeq ?_
  refine zrSeq ?_
  refine zrReg ?_
  refine zlRun (n := 2) (j := 2) rfl (by kernel_rfl) ?_
  refine bindE hS (fun z16 hz16 hS => ?_)
  refine zlOp (d := some 9) (op := (.ixS 51 4 (.tmp 7) (.tmp 8))) (g := none) (v := (.rptr (e_GCell.enc z16 ++ (e_GCell.cells (a1.drop ((a2 : Int).toNat + 1)))))) (ups := []) (j := 3) rfl (by kernel_rfl) (by kernel_rfl) (ev_ixS e_GCell (kk := .i64) (xs := a1) (j := a2) (by kernel_rfl) (by kernel_rfl) hz16 rfl (by intro h; cases h)) ?_
  refine zlRun (n := 2) (j := 5) rfl (by kernel_rfl) ?_
  refine zlBool (d := 12) (op := (.cmpI .eql (.tmp 11) (.const (.int .i64 0)))) (g := none) (j := 6) (decide (z16.Rune = 0)) rfl (by kernel_rfl) (by kernel_rfl) (by kernel_rfl) (fun hc => ?_) (fun hc => ?_)
  · replace hS := cond_t hc hS
    refine zlEnd (by kernel_rfl) ?_
    refine zkSeq ?_
    refine zrCondT (by kernel_rfl) ?_
    refine zrSeq ?_
    refine zrReg ?_
    refine zlRun (n := 1) (j := 1) rfl (by kernel_rfl) ?_
    refine zlBool (d := 14) (op := (.cmpI .eql (.tmp 13) (.const (.int .i64 0)))) (g := none) (j := 2) (decide (a2 = 0)) rfl (by kernel_rfl) (by kernel_rfl) (by kernel_rfl) (fun hc => ?_) (fun hc => ?_)
    · replace hS := cond_t hc hS
      refine zlRun (n := 17) (j := 19) rfl (by kernel_rfl) ?_
      refine zlEnd (by kernel_rfl) ?_
      refine zkSeq ?_
      refine zrRet ?_
      refine zkSeqR ?_
      refine zkNil ?_
      exact endQ hS hQ (fRet (by kernel_rfl) ((congrArg (fun s => outR s 0 c46.res) (by kernel_rfl : finSt c46.fin _ = f46_fin true)).trans (f46_out true)))
    · replace hS := cond_f hc hS
      refine zlRun (n := 4) (j := 6) rfl (by kernel_rfl) ?_
      refine bindE hS (fun z17 hz17 hS => ?_)
      refine zlOp (d := some 19) (op := (.ixS 51 4 (.tmp 16) (.tmp 18))) (g := (some (15, false))) (v := (.rptr (e_GCell.enc z17 ++ (e_GCell.cells (a1.drop (((IntKind.i64.wrap (a2 - 1)) : Int).toNat + 1)))))) (ups := []) (j := 7) rfl (by kernel_rfl) (by kernel_rfl) (ev_ixS e_GCell (kk := .i64) (xs := a1) (j := (IntKind.i64.wrap (a2 - 1))) (by kernel_rfl) (by kernel_rfl) hz17 rfl (by intro h; cases h)) ?_
      refine zlRun (n := 2) (j := 9) rfl (by kernel_rfl) ?_
      refine bindE hS (fun z18 hz18 hS => ?_)
      refine zlOp (d := some 22) (op := (.call 45 [(.tmp 21)])) (g := (some (15, false))) (j := 10) rfl (by kernel_rfl) (by kernel_rfl) (ev_callA (by kernel_rfl) (f45_ok (d - 1) (dpt hd rfl) z17.Rune z18 hz18) (by kernel_rfl) (by kernel_rfl)) ?_
      refine zlBool (d := 23) (op := (.cmpI .neq (.tmp 22) (.const (.int .i64 2)))) (g := (some (15, false))) (j := 11) (!decide (z18 = 2)) rfl (by kernel_rfl) (by kernel_rfl) (by kernel_rfl) (fun hc => ?_) (fun hc => ?_)
      · replace hS := cond_t hc hS
        refine zlRun (n := 8) (j := 19) rfl (by kernel_rfl) ?_
        refine zlEnd (by kernel_rfl) ?_
        refine zkSeq ?_
        refine zrRet ?_
        refine zkSeqR ?_
        refine zkNil ?_
        exact endQ hS hQ (fRet (by kernel_rfl) ((congrArg (fun s => outR s 0 c46.res) (by kernel_rfl : finSt c46.fin _ = f46_fin true)).trans (f46_out true)))
      · replace hS := cond_f hc hS
        refine zlRun (n := 4) (j := 15) rfl (by kernel_rfl) ?_
        refine bindE hS (fun z19 hz19 hS => ?_)
        refine zlOp (d := some 28) (op := (.callv (.tmp 26) [(.tmp 27)])) (g := (some (25, false))) (v := (.d (.bool z19))) (ups := []) (j := 16) rfl (by kernel_rfl) (by kernel_rfl) (ev_callv (f := 73) (cs := [(.r (.ptr 24 1 0))]) (by kernel_rfl) (args := [(.d (.int .i64 a2)), (.r (.ptr 24 1 0))]) (l := [(.d (.int .i64 a2)), (.rptr ((eSl e_GCell).enc a1 ++ []))]) (r := (.d (.bool z19))) (by kernel_rfl) (by kernel_rfl) (f73_ok (d - 1) (dpt hd rfl) a2 a1 [] z19 hz19) (by kernel_rfl) (by kernel_rfl) (by kernel_rfl)) ?_
        refine zlRun (n := 3) (j := 19) rfl (by kernel_rfl) ?_
        refine zlEnd (by kernel_rfl) ?_
        refine zkSeq ?_
        refine zrRet ?_
        refine zkSeqR ?_
        refine zkNil ?_
        exact endQ hS hQ (fRet (by kernel_rfl) ((congrArg (fun s => outR s 0 c46.res) (by kernel_rfl : finSt c46.fin _ = f46_fin (!z19))).trans (f46_out (!z19))))
  · replace hS := cond_f hc hS
    refine zlEnd (by kernel_rfl) ?_
    refine zkSeq ?_
    refine zrCondF (by kernel_rfl) ?_
    refine zrSkip ?_
    refine zkSeq ?_
    exact f46_j0_ok hd a1 a2 hQ  hS (by kernel_rfl)
/- farwriter/grid.Check -/
def f26_fin (p235 : Int) : St := ⟨(up (fun _ => .un) 2 (.d (.int .i64 p235))), (hB fun _ => 0)⟩
theorem f26_out (p235 : Int) : outR (f26_fin p235) 0 c26.res = some ((.d (.int .i64 p235)), []) := by
  kernel_rfl
def f26_Q (r : Int) (e : PX) (st : St) : Prop := DoneF c26 0 ((.d (.int .i64 r)), []) e st
def f26_l2_J (a1 : GGrid) (x : Int) : St := ⟨(up (up (up (fun _ => .un) 27 (.d (.int .i64 x))) 26 (.d (.int .i64 a1.High))) 1 (.r (.ptr 16 0 0))), (up (hB fun _ => 0) 16 ⟨0, some (.box ((.d (.int .i64 a1.Wide)) :: ((.d (.int .i64 a1.High)) :: ((.d (.sl a1.Cells.length (e_GCell.cells a1.Cells))) :: []))))⟩)⟩
def f26_l2_H (a1 : GGrid) (x : Int) (st : St) : Prop := keepSt [1, 26, 27] [(16, .id 16)] [] st = f26_l2_J a1 x
def f26_l2_e0_J (a1 : GGrid) : St := ⟨(fun _ => .un), (hB fun _ => 0)⟩
def f26_l2_X (a1 : GGrid) (z : Unit ⊕ Int) (e : PX) (st : St) : Prop := (match z with | .inl z => e = .exit 0 ∧ st = f26_l2_e0_J a1 | .inr z => e = .ret ∧ finSt c26.fin st = f26_fin z)
def f26_l2_l5_J (a1 : GGrid) (x : (List GCell) × Int × (List GCell) × Int × Int) : St := ⟨(up (up (up (up (up (up (up (fun _ => .un) 35 (.d (.int .i64 x.2.2.2.2))) 34 (.d (.int .i64 x.2.2.2.1))) 33 (.d (.sl x.2.2.1.length (e_GCell.cells x.2.2.1)))) 27 (.d (.int .i64 x.2.1))) 26 (.d (.int .i64 a1.High))) 5 (.d (.sl x.1.length (e_GCell.cells x.1)))) 1 (.r (.ptr 16 0 0))), (up (hB fun _ => 0) 16 ⟨0, some (.box ((.d (.int .i64 a1.Wide)) :: ((.d (.int .i64 a1.High)) :: ((.d (.sl a1.Cells.length (e_GCell.cells a1.Cells))) :: []))))⟩)⟩
def f26_l2_l5_H (a1 : GGrid) (x : (List GCell) × Int × (List GCell) × Int × Int) (st : St) : Prop := keepSt [1, 5, 26, 27, 33, 34, 35] [(16, .id 16)] [] st = f26_l2_l5_J a1 x
def f26_l2_l5_e2_J (a1 : GGrid) (p323 : Int) : St := ⟨(up (up (up (fun _ => .un) 27 (.d (.int .i64 p323))) 26 (.d (.int .i64 a1.High))) 1 (.r (.ptr 16 0 0))), (up (hB fun _ => 0) 16 ⟨0, some (.box ((.d (.int .i64 a1.Wide)) :: ((.d (.int .i64 a1.High)) :: ((.d (.sl a1.Cells.length (e_GCell.cells a1.Cells))) :: []))))⟩)⟩
def f26_l2_l5_X (a1 : GGrid) (z : Int ⊕ Int) (e : PX) (st : St) : Prop := (match z with | .inl z => e = .exit 2 ∧ st = f26_l2_l5_e2_J a1 z | .inr z => e = .ret ∧ finSt c26.fin st = f26_fin z)
def f26_l2_l5_j7_J (a1 : GGrid) (p336 : List GCell) (p337 : Int) (p338 : List GCell) (p339 : Int) (p340 : Int) : St := ⟨(up (up (up (up (up (up (up (fun _ => .un) 35 (.d (.int .i64 p340))) 34 (.d (.int .i64 p339))) 33 (.d (.sl p338.length (e_GCell.cells p338)))) 27 (.d (.int .i64 p337))) 26 (.d (.int .i64 a1.High))) 5 (.d (.sl p336.length (e_GCell.cells p336)))) 1 (.r (.ptr 16 0 0))), (up (hB fun _ => 0) 16 ⟨0, some (.box ((.d (.int .i64 a1.Wide)) :: ((.d (.int .i64 a1.High)) :: ((.d (.sl a1.Cells.length (e_GCell.cells a1.Cells))) :: []))))⟩)⟩
noncomputable def f26_l2_l5_j7 (a1 : GGrid) (p336 : List GCell) (p337 : Int) (p338 : List GCell) (p339 : Int) (p340 : Int) : Option (((List GCell) × Int × (List GCell) × Int × Int) ⊕ (Int ⊕ Int)) := ((idx p338 p340).bind fun z67 => ((f28 z67.Pen).bind fun z68 => (bif (!decide (z68 = 0)) then (some (.inr (.inr 4))) else (bif (!decide (z67.Rune = 0)) then ((f45 z67.Rune).bind fun z69 => (bif (decide (z69 = 0)) then (some (.inr (.inr 4))) else ((f46 p336 p340).bind fun z70 => (bif z70 then (some (.inr (.inr 4))) else (some (.inl (p336, p337, p338, p339, (IntKind.i64.wrap (p340 + 1))))))))) else ((f46 p336 p340).bind fun z71 => (bif z71 then (some (.inr (.inr 4))) else (some (.inl (p336, p337, p338, p339, (IntKind.i64.wrap (p340 + 1)))))))))))
theorem f26_l2_l5_j7_ok {d : Nat} (hd : 4 ≤ d) (a1 : GGrid) {r : ((List GCell) × Int × (List GCell) × Int × Int) ⊕ (Int ⊕ Int)} {Q : PX → St → Prop} (hQ : ∀ e st', finL (f26_l2_l5_H a1) (f26_l2_l5_X a1) r e st' → Q e st') (p336 : List GCell) (p337 : Int) (p338 : List GCell) (p339 : Int) (p340 : Int) (hS : f26_l2_l5_j7 a1 p336 p337 p338 p339 p340 = some r) {st : St} (he : keepSt [1, 5, 26, 27, 33, 34, 35] [(16, .id 16)] [] st = f26_l2_l5_j7_J a1 p336 p337 p338 p339 p340) : ZR (lev codes baseL (d - 1)) Q c26_1 [] st := by
  refine zrKeep he ?_
  unfold f26_l2_l5_j7 at hS
  refine zrSeq ?_
  refine zrBlk ?_
  refine zrSeq ?_
  refine zrReg ?_
  refine zlRun (n := 1) (j := 1) rfl (by kernel_rfl) ?_
  refine bindE hS (fun z67 hz67 hS => ?_)
  refine zlOp (d := some 38) (op := (.ixS 51 4 (.tmp 33) (.tmp 35))) (g := none) (v := (.rptr (e_GCell.enc z67 ++ (e_GCell.cells (p338.drop ((p340 : Int).toNat + 1)))))) (ups := []) (j := 2) rfl (by kernel_rfl) (by kernel_rfl) (ev_ixS e_GCell (kk := .i64) (xs := p338) (j := p340) (by kernel_rfl) (by kernel_rfl) hz67 rfl (by intro h; cases h)) ?_
  refine zlRun (n := 4) (j := 6) rfl (by kernel_rfl) ?_
  refine zlEnd (by kernel_rfl) ?_
  refine zkSeq ?_
  refine zrSeq ?_
  refine zrReg ?_
  refine zlRun (n := 2) (j := 2) rfl (by kernel_rfl) ?_
  refine bindE hS (fun z68 hz68 hS => ?_)
  refine zlOp (d := some 42) (op := (.call 28 [(.tmp 41)])) (g := none) (j := 3) rfl (by kernel_rfl) (by kernel_rfl) (ev_callA (by kernel_rfl) (f28_ok (d - 1) (dpt hd rfl) z67.Pen z68 hz68) (by kernel_rfl) (by kernel_rfl)) ?_
  refine zlBool (d := 43) (op := (.cmpI .neq (.tmp 42) (.const (.int .i64 0)))) (g := none) (j := 4) (!decide (z68 = 0)) rfl (by kernel_rfl) (by kernel_rfl) (by kernel_rfl) (fun hc => ?_) (fun hc => ?_)
  · replace hS := cond_t hc hS
    refine zlRun (n := 16) (j := 20) rfl (by kernel_rfl) ?_
    refine zlEnd (by kernel_rfl) ?_
    refine zkSeq ?_
    refine zrCondT (by kernel_rfl) ?_
    refine zrSeq ?_
    refine zrReg ?_
    refine zlRun (n := 1) (j := 1) rfl (by kernel_rfl) ?_
    refine zlEnd (by kernel_rfl) ?_
    refine zkSeq ?_
    refine zrRet ?_
    refine zkBlkR ?_
    refine zkSeqR ?_
    refine zkNil ?_
    exact endQ hS hQ (finL_x (by intro h; cases h) (by show _ = _ ∧ _ = _; exact ⟨rfl, by kernel_rfl⟩))
  · replace hS := cond_f hc hS
    refine zlRun (n := 3) (j := 7) rfl (by kernel_rfl) ?_
    refine zlBool (d := 47) (op := (.cmpI .neq (.tmp 46) (.const (.int .i64 0)))) (g := (some (44, false))) (j := 8) (!decide (z67.Rune = 0)) rfl (by kernel_rfl) (by kernel_rfl) (by kernel_rfl) (fun hc => ?_) (fun hc => ?_)
    · replace hS := cond_t hc hS
      refine zlRun (n := 3) (j := 11) rfl (by kernel_rfl) ?_
      refine bindE hS (fun z69 hz69 hS => ?_)
      refine zlOp (d := some 51) (op := (.call 45 [(.tmp 50)])) (g := (some (48, true))) (j := 12) rfl (by kernel_rfl) (by kernel_rfl) (ev_callA (by kernel_rfl) (f45_ok (d - 1) (dpt hd rfl) z67.Rune z69 hz69) (by kernel_rfl) (by kernel_rfl)) ?_
      refine zlBool (d := 52) (op := (.cmpI .eql (.tmp 51) (.const (.int .i64 0)))) (g := (some (48, true))) (j := 13) (decide (z69 = 0)) rfl (by kernel_rfl) (by kernel_rfl) (by kernel_rfl) (fun hc => ?_) (fun hc => ?_)
      · replace hS := cond_t hc hS
        refine zlRun (n := 7) (j := 20) rfl (by kernel_rfl) ?_
        refine zlEnd (by kernel_rfl) ?_
        refine zkSeq ?_
        refine zrCondT (by kernel_rfl) ?_
        refine zrSeq ?_
        refine zrReg ?_
        refine zlRun (n := 1) (j := 1) rfl (by kernel_rfl) ?_
        refine zlEnd (by kernel_rfl) ?_
        refine zkSeq ?_
        refine zrRet ?_
        refine zkBlkR ?_
        refine zkSeqR ?_
        refine zkNil ?_
        exact endQ hS hQ (finL_x (by intro h; cases h) (by show _ = _ ∧ _ = _; exact ⟨rfl, by kernel_rfl⟩))
      · replace hS := cond_f hc hS
        refine zlRun (n := 5) (j := 18) rfl (by kernel_rfl) ?_
        refine bindE hS (fun z70 hz70 hS => ?_)
        refine zlOp (d := some 58) (op := (.call 46 [(.tmp 56), (.tmp 57)])) (g := (some (55, false))) (j := 19) rfl (by kernel_rfl) (by kernel_rfl) (ev_callA (by kernel_rfl) (f46_ok (d - 1) (dpt hd rfl) p336 p340 z70 hz70) (by kernel_rfl) (by kernel_rfl)) ?_
        refine zlRun (n := 1) (j := 20) rfl (by kernel_rfl) ?_
        refine zlEnd (by kernel_rfl) ?_
        refine zkSeq ?_
        refine zrSplit 59 z70 (by kernel_rfl) (fun hc => ?_) (fun hc => ?_)
        · replace hS := cond_t hc hS
          refine zrCondT (by kernel_rfl) ?_
          refine zrSeq ?_
          refine zrReg ?_
          refine zlRun (n := 1) (j := 1) rfl (by kernel_rfl) ?_
          refine zlEnd (by kernel_rfl) ?_
          refine zkSeq ?_
          refine zrRet ?_
          refine zkBlkR ?_
          refine zkSeqR ?_
          refine zkNil ?_
          exact endQ hS hQ (finL_x (by intro h; cases h) (by show _ = _ ∧ _ = _; exact ⟨rfl, by kernel_rfl⟩))
        · replace hS := cond_f hc hS
          refine zrCondF (by kernel_rfl) ?_
          refine zrSkip ?_
          refine zkBlk ?_
          refine zkSeq ?_
          refine zrReg ?_
          refine zlRun (n := 2) (j := 2) rfl (by kernel_rfl) ?_
          refine zlEnd (by kernel_rfl) ?_
          refine zkNil ?_
          exact endQ hS hQ (finL_n (by show keepSt _ _ _ _ = _; kernel_rfl))
    · replace hS := cond_f hc hS
      refine zlRun (n := 10) (j := 18) rfl (by kernel_rfl) ?_
      refine bindE hS (fun z71 hz71 hS => ?_)
      refine zlOp (d := some 58) (op := (.call 46 [(.tmp 56), (.tmp 57)])) (g := (some (55, false))) (j := 19) rfl (by kernel_rfl) (by kernel_rfl) (ev_callA (by kernel_rfl) (f46_ok (d - 1) (dpt hd rfl) p336 p340 z71 hz71) (by kernel_rfl) (by kernel_rfl)) ?_
      refine zlRun (n := 1) (j := 20) rfl (by kernel_rfl) ?_
      refine zlEnd (by kernel_rfl) ?_
      refine zkSeq ?_
      refine zrSplit 59 z71 (by kernel_rfl) (fun hc => ?_) (fun hc => ?_)
      · replace hS := cond_t hc hS
        refine zrCondT (by kernel_rfl) ?_
        refine zrSeq ?_
        refine zrReg ?_
        refine zlRun (n := 1) (j := 1) rfl (by kernel_rfl) ?_
        refine zlEnd (by kernel_rfl) ?_
        refine zkSeq ?_
        refine zrRet ?_
        refine zkBlkR ?_
        refine zkSeqR ?_
        refine zkNil ?_
        exact endQ hS hQ (finL_x (by intro h; cases h) (by show _ = _ ∧ _ = _; exact ⟨rfl, by kernel_rfl⟩))
      · replace hS := cond_f hc hS
        refine zrCondF (by kernel_rfl) ?_
        refine zrSkip ?_
        refine zkBlk ?_
        refine zkSeq ?_
        refine zrReg ?_
        refine zlRun (n := 2) (j := 2) rfl (by kernel_rfl) ?_
        refine zlEnd (by kernel_rfl) ?_
        refine zkNil ?_
        exact endQ hS hQ (finL_n (by show keepSt _ _ _ _ = _; kernel_rfl))
def f26_l2_l5_j6_J (a1 : GGrid) (p330 : List GCell) (p331 : Int) (p332 : List GCell) (p333 : Int) (p334 : Int) (p335 : Bool) : St := ⟨(up (up (up (up (up (up (up (up (fun _ => .un) 36 (.d (.bool p335))) 35 (.d (.int .i64 p334))) 34 (.d (.int .i64 p333))) 33 (.d (.sl p332.length (e_GCell.cells p332)))) 27 (.d (.int .i64 p331))) 26 (.d (.int .i64 a1.High))) 5 (.d (.sl p330.length (e_GCell.cells p330)))) 1 (.r (.ptr 16 0 0))), (up (hB fun _ => 0) 16 ⟨0, some (.box ((.d (.int .i64 a1.Wide)) :: ((.d (.int .i64 a1.High)) :: ((.d (.sl a1.Cells.length (e_GCell.cells a1.Cells))) :: []))))⟩)⟩
noncomputable def f26_l2_l5_j6 (a1 : GGrid) (p330 : List GCell) (p331 : Int) (p332 : List GCell) (p333 : Int) (p334 : Int) (p335 : Bool) : Option (((List GCell) × Int × (List GCell) × Int × Int) ⊕ (Int ⊕ Int)) := (bif p335 then (f26_l2_l5_j7 a1 p330 p331 p332 p333 p334) else (some (.inr (.inl p331))))
theorem f26_l2_l5_j6_ok {d : Nat} (hd : 4 ≤ d) (a1 : GGrid) {r : ((List GCell) × Int × (List GCell) × Int × Int) ⊕ (Int ⊕ Int)} {Q : PX → St → Prop} (hQ : ∀ e st', finL (f26_l2_l5_H a1) (f26_l2_l5_X a1) r e st' → Q e st') (p330 : List GCell) (p331 : Int) (p332 : List GCell) (p333 : Int) (p334 : Int) (p335 : Bool) (hS : f26_l2_l5_j6 a1 p330 p331 p332 p333 p334 p335 = some r) {st : St} (he : keepSt [1, 5, 26, 27, 33, 34, 35, 36] [(16, .id 16)] [] st = f26_l2_l5_j6_J a1 p330 p331 p332 p333 p334 p335) : ZR (lev codes baseL (d - 1)) Q c26_2 [] st := by
  refine zrKeep he ?_
  unfold f26_l2_l5_j6 at hS
  refine zrSeq ?_
  refine zrSplit 36 p335 (by kernel_rfl) (fun hc => ?_) (fun hc => ?_)
  · replace hS := cond_t hc hS
    refine zrCondT (by kernel_rfl) ?_
    refine zrSkip ?_
    refine zkSeq ?_
    exact f26_l2_l5_j7_ok hd a1 hQ p330 p331 p332 p333 p334 hS (by kernel_rfl)
  · replace hS := cond_f hc hS
    refine zrCondF (by kernel_rfl) ?_
    refine zrKeep (J := f26_l2_l5_e2_J a1 p331) (by kernel_rfl) ?_
    refine zrExit ?_
    refine zkSeqX ?_
    refine zkNil ?_
    exact endQ hS hQ (finL_x (by intro h; cases h) (by show _ = _ ∧ _ = _; exact ⟨rfl, rfl⟩))
noncomputable def f26_l2_l5 (a1 : GGrid) (x : (List GCell) × Int × (List GCell) × Int × Int) : Option (((List GCell) × Int × (List GCell) × Int × Int) ⊕ (Int ⊕ Int)) := (bif (decide (x.2.2.2.2 < x.2.2.2.1)) then (f26_l2_l5_j6 a1 x.1 x.2.1 x.2.2.1 x.2.2.2.1 x.2.2.2.2 true) else (f26_l2_l5_j6 a1 x.1 x.2.1 x.2.2.1 x.2.2.2.1 x.2.2.2.2 false))
theorem f26_l2_l5_ok {d : Nat} (hd : 4 ≤ d) (a1 : GGrid) {r : ((List GCell) × Int × (List GCell) × Int × Int) ⊕ (Int ⊕ Int)} {Q : PX → St → Prop} (hQ : ∀ e st', finL (f26_l2_l5_H a1) (f26_l2_l5_X a1) r e st' → Q e st') {x : (List GCell) × Int × (List GCell) × Int × Int} (hS : f26_l2_l5 a1 x = some r) {st : St} (he : f26_l2_l5_H a1 x st) : ZR (lev codes baseL (d - 1)) Q c26_3 [] st := by
  refine zrKeep he ?_
  unfold f26_l2_l5 at hS
  refine zrSeq ?_
  refine zrReg ?_
  refine zlBool (d := 36) (op := (.cmpI .lss (.tmp 35) (.tmp 34))) (g := none) (j := 1) (decide (x.2.2.2.2 < x.2.2.2.1)) rfl (by kernel_rfl) (by kernel_rfl) (by kernel_rfl) (fun hc => ?_) (fun hc => ?_)
  · replace hS := cond_t hc hS
    refine zlEnd (by kernel_rfl) ?_
    refine zkSeq ?_
    exact f26_l2_l5_j6_ok hd a1 hQ x.1 x.2.1 x.2.2.1 x.2.2.2.1 x.2.2.2.2 true hS (by kernel_rfl)
  · replace hS := cond_f hc hS
    refine zlEnd (by kernel_rfl) ?_
    refine zkSeq ?_
    exact f26_l2_l5_j6_ok hd a1 hQ x.1 x.2.1 x.2.2.1 x.2.2.2.1 x.2.2.2.2 false hS (by kernel_rfl)
def f26_l2_j4_J (a1 : GGrid) (p243 : Int) : St := ⟨(up (up (up (fun _ => .un) 27 (.d (.int .i64 p243))) 26 (.d (.int .i64 a1.High))) 1 (.r (.ptr 16 0 0))), (up (hB fun _ => 0) 16 ⟨0, some (.box ((.d (.int .i64 a1.Wide)) :: ((.d (.int .i64 a1.High)) :: ((.d (.sl a1.Cells.length (e_GCell.cells a1.Cells))) :: []))))⟩)⟩
noncomputable def f26_l2_j4 (a1 : GGrid) (p243 : Int) : Option (Int ⊕ (Unit ⊕ Int)) := ((f44 a1 p243).bind fun z51 => ((loopO (f26_l2_l5 a1) (z51, p243, z51, (z51.length : Int), 0)).bind fun z72 => (Sum.elim (fun z73 => (some (.inl (IntKind.i64.wrap (z73 + 1))))) (fun z74 => (some (.inr (.inr z74)))) z72)))
theorem f26_l2_j4_ok {d : Nat} (hd : 4 ≤ d) (a1 : GGrid) {r : Int ⊕ (Unit ⊕ Int)} {Q : PX → St → Prop} (hQ : ∀ e st', finL (f26_l2_H a1) (f26_l2_X a1) r e st' → Q e st') (p243 : Int) (hS : f26_l2_j4 a1 p243 = some r) {st : St} (he : keepSt [1, 26, 27] [(16, .id 16)] [] st = f26_l2_j4_J a1 p243) : ZR (lev codes baseL (d - 1)) Q c26_4 [] st := by
  refine zrKeep he ?_
  unfold f26_l2_j4 at hS
  refine zrSeq ?_
  refine zrBlk ?_
  refine zrSeq ?_
  refine zrReg ?_
  refine zlRun (n := 2) (j := 2) rfl (by kernel_rfl) ?_
  refine zlEnd (by kernel_rfl) ?_
  refine zkSeq ?_
  refine zrSeq ?_
  refine zrReg ?_
  refine zlRun (n := 2) (j := 2) rfl (by kernel_rfl) ?_
  refine bindE hS (fun z51 hz51 hS => ?_)
  refine zlOp (d := some 32) (op := (.callr 44 [(.tmp 30), (.tmp 31)])) (g := none) (j := 3) rfl (by kernel_rfl) (by kernel_rfl) (ev_callrXA (ids := []) (bs := []) (by kernel_rfl) (by kernel_rfl) (by kernel_rfl) (by kernel_rfl) (f44_ok (d - 1) (dpt hd rfl) a1 p243 z51 hz51) (by kernel_rfl) sm_nil (by kernel_rfl)) ?_
  refine zlRun (n := 1) (j := 4) rfl (by kernel_rfl) ?_
  refine zlEnd (by kernel_rfl) ?_
  refine zkSeq ?_
  refine zrSeq ?_
  refine zrReg ?_
  refine zlRun (n := 3) (j := 3) rfl (by kernel_rfl) ?_
  refine zlEnd (by kernel_rfl) ?_
  refine zkSeq ?_
  refine zrBlk ?_
  refine bindE hS (fun z72 hz72 hS => ?_)
  refine zrLoop (f26_l2_l5_H a1) (f26_l2_l5_X a1) (fun x st r Q h0 hS hQ => f26_l2_l5_ok hd a1 hQ hS h0) (x := (z51, p243, z51, (z51.length : Int), 0)) (z := z72) (by show keepSt _ _ _ _ = _; kernel_rfl) hz72 ?_
  rcases z72 with z73 | z74
  · replace hS := (show _ = _ from hS)
    simp only [Sum.elim_inl] at hS
    intro e st' _ hX
    obtain ⟨rfl, rfl⟩ : _ ∧ _ := hX
    refine zkBlkX ?_
    refine zkBlk ?_
    refine zkSeq ?_
    refine zrReg ?_
    refine zlRun (n := 2) (j := 2) rfl (by kernel_rfl) ?_
    refine zlEnd (by kernel_rfl) ?_
    refine zkNil ?_
    exact endQ hS hQ (finL_n (by show keepSt _ _ _ _ = _; kernel_rfl))
  · simp only [Sum.elim_inr] at hS
    intro e st' _ hX
    obtain ⟨rfl, hX⟩ : _ ∧ _ := hX
    refine zkBlkR ?_
    refine zkBlkR ?_
    refine zkSeqR ?_
    refine zkNil ?_
    exact endQ hS hQ (finL_x (by intro h; cases h) (by show _ = _ ∧ _ = _; exact ⟨rfl, hX⟩))
def f26_l2_j3_J (a1 : GGrid) (p241 : Int) (p242 : Bool) : St := ⟨(up (up (up (up (fun _ => .un) 28 (.d (.bool p242))) 27 (.d (.int .i64 p241))) 26 (.d (.int .i64 a1.High))) 1 (.r (.ptr 16 0 0))), (up (hB fun _ => 0) 16 ⟨0, some (.box ((.d (.int .i64 a1.Wide)) :: ((.d (.int .i64 a1.High)) :: ((.d (.sl a1.Cells.length (e_GCell.cells a1.Cells))) :: []))))⟩)⟩
noncomputable def f26_l2_j3 (a1 : GGrid) (p241 : Int) (p242 : Bool) : Option (Int ⊕ (Unit ⊕ Int)) := (bif p242 then (f26_l2_j4 a1 p241) else (some (.inr (.inl ()))))
theorem f26_l2_j3_ok {d : Nat} (hd : 4 ≤ d) (a1 : GGrid) {r : Int ⊕ (Unit ⊕ Int)} {Q : PX → St → Prop} (hQ : ∀ e st', finL (f26_l2_H a1) (f26_l2_X a1) r e st' → Q e st') (p241 : Int) (p242 : Bool) (hS : f26_l2_j3 a1 p241 p242 = some r) {st : St} (he : keepSt [1, 26, 27, 28] [(16, .id 16)] [] st = f26_l2_j3_J a1 p241 p242) : ZR (lev codes baseL (d - 1)) Q c26_5 [] st := by
  refine zrKeep he ?_
  unfold f26_l2_j3 at hS
  refine zrSeq ?_
  refine zrSplit 28 p242 (by kernel_rfl) (fun hc => ?_) (fun hc => ?_)
  · replace hS := cond_t hc hS
    refine zrCondT (by kernel_rfl) ?_
    refine zrSkip ?_
    refine zkSeq ?_
    exact f26_l2_j4_ok hd a1 hQ p241 hS (by kernel_rfl)
  · replace hS := cond_f hc hS
    refine zrCondF (by kernel_rfl) ?_
    refine zrKeep (J := f26_l2_e0_J a1) (by kernel_rfl) ?_
    refine zrExit ?_
    refine zkSeqX ?_
    refine zkNil ?_
    exact endQ hS hQ (finL_x (by intro h; cases h) (by show _ = _ ∧ _ = _; exact ⟨rfl, rfl⟩))
noncomputable def f26_l2 (a1 : GGrid) (x : Int) : Option (Int ⊕ (Unit ⊕ Int)) := (bif (decide (x < a1.High)) then (f26_l2_j3 a1 x true) else (f26_l2_j3 a1 x false))
theorem f26_l2_ok {d : Nat} (hd : 4 ≤ d) (a1 : GGrid) {r : Int ⊕ (Unit ⊕ Int)} {Q : PX → St → Prop} (hQ : ∀ e st', finL (f26_l2_H a1) (f26_l2_X a1) r e st' → Q e st') {x : Int} (hS : f26_l2 a1 x = some r) {st : St} (he : f26_l2_H a1 x st) : ZR (lev codes baseL (d - 1)) Q c26_6 [] st := by
  refine zrKeep he ?_
  unfold f26_l2 at hS
  refine zrSeq ?_
  refine zrReg ?_
  refine zlBool (d := 28) (op := (.cmpI .lss (.tmp 27) (.tmp 26))) (g := none) (j := 1) (decide (x < a1.High)) rfl (by kernel_rfl) (by kernel_rfl) (by kernel_rfl) (fun hc => ?_) (fun hc => ?_)
  · replace hS := cond_t hc hS
    refine zlEnd (by kernel_rfl) ?_
    refine zkSeq ?_
    exact f26_l2_j3_ok hd a1 hQ x true hS (by kernel_rfl)
  · replace hS := cond_f hc hS
    refine zlEnd (by kernel_rfl) ?_
    refine zkSeq ?_
    exact f26_l2_j3_ok hd a1 hQ x false hS (by kernel_rfl)
def f26_j1_J (a1 : GGrid) : St := ⟨(up (fun _ => .un) 1 (.r (.ptr 16 0 0))), (up (hB fun _ => 0) 16 ⟨0, some (.box ((.d (.int .i64 a1.Wide)) :: ((.d (.int .i64 a1.High)) :: ((.d (.sl a1.Cells.length (e_GCell.cells a1.Cells))) :: []))))⟩)⟩
noncomputable def f26_j1 (a1 : GGrid) : Option (Int) := ((loopO (f26_l2 a1) 0).bind fun z75 => (Sum.elim (fun z76 => (some 0)) (fun z77 => (some z77)) z75))
theorem f26_j1_ok {d : Nat} (hd : 4 ≤ d) (a1 : GGrid) {r : Int} {Q : PX → St → Prop} (hQ : ∀ e st', f26_Q r e st' → Q e st')  (hS : f26_j1 a1 = some r) {st : St} (he : keepSt [1] [(16, .id 16)] [] st = f26_j1_J a1) : ZR (lev codes baseL (d - 1)) Q c26_7 [] st := by
  refine zrKeep he ?_
  unfold f26_j1 at hS
  refine zrSeq ?_
  refine zrSeq ?_
  refine zrReg ?_
  refine zlRun (n := 3) (j := 3) rfl (by kernel_rfl) ?_
  refine zlEnd (by kernel_rfl) ?_
  refine zkSeq ?_
  refine zrBlk ?_
  refine bindE hS (fun z75 hz75 hS => ?_)
  refine zrLoop (f26_l2_H a1) (f26_l2_X a1) (fun x st r Q h0 hS hQ => f26_l2_ok hd a1 hQ hS h0) (x := 0) (z := z75) (by show keepSt _ _ _ _ = _; kernel_rfl) hz75 ?_
  rcases z75 with z76 | z77
  · replace hS := (show _ = _ from hS)
    simp only [Sum.elim_inl] at hS
    intro e st' _ hX
    obtain ⟨rfl, rfl⟩ : _ ∧ _ := hX
    refine zkBlkX ?_
    refine zkSeq ?_
    refine zrSeq ?_
    refine zrReg ?_
    refine zlRun (n := 1) (j := 1) rfl (by kernel_rfl) ?_
    refine zlEnd (by kernel_rfl) ?_
    refine zkSeq ?_
    refine zrRet ?_
    refine zkNil ?_
    exact endQ hS hQ (fRet (by kernel_rfl) ((congrArg (fun s => outR s 0 c26.res) (by kernel_rfl : finSt c26.fin _ = f26_fin 0)).trans (f26_out 0)))
  · simp only [Sum.elim_inr] at hS
    intro e st' _ hX
    obtain ⟨rfl, hX⟩ : _ ∧ _ := hX
    refine zkBlkR ?_
    refine zkSeqR ?_
    refine zkNil ?_
    exact endQ hS hQ (fRet (by kernel_rfl) ((congrArg (fun s => outR s 0 c26.res) hX).trans (f26_out z77)))
def f26_j0_J (a1 : GGrid) : St := ⟨(up (fun _ => .un) 1 (.r (.ptr 16 0 0))), (up (hB fun _ => 0) 16 ⟨0, some (.box ((.d (.int .i64 a1.Wide)) :: ((.d (.int .i64 a1.High)) :: ((.d (.sl a1.Cells.length (e_GCell.cells a1.Cells))) :: []))))⟩)⟩
noncomputable def f26_j0 (a1 : GGrid) : Option (Int) := (bif (!decide ((a1.Cells.length : Int) = (IntKind.i64.wrap (a1.Wide * a1.High)))) then (some 4) else (f26_j1 a1 ))
theorem f26_j0_ok {d : Nat} (hd : 4 ≤ d) (a1 : GGrid) {r : Int} {Q : PX → St → Prop} (hQ : ∀ e st', f26_Q r e st' → Q e st')  (hS : f26_j0 a1 = some r) {st : St} (he : keepSt [1] [(16, .id 16)] [] st = f26_j0_J a1) : ZR (lev codes baseL (d - 1)) Q c26_8 [] st := by
  refine zrKeep he ?_
  unfold f26_j0 at hS
  refine zrSeq ?_
  refine zrSeq ?_
  refine zrReg ?_
  refine zlRun (n := 8) (j := 8) rfl (by kernel_rfl) ?_
  refine zlBool (d := 24) (op := (.cmpI .neq (.tmp 18) (.tmp 23))) (g := none) (j := 9) (!decide ((a1.Cells.length : Int) = (IntKind.i64.wrap (a1.Wide * a1.High)))) rfl (by kernel_rfl) (by kernel_rfl) (by kernel_rfl) (fun hc => ?_) (fun hc => ?_)
  · replace hS := cond_t hc hS
    refine zlEnd (by kernel_rfl) ?_
    refine zkSeq ?_
    refine zrCondT (by kernel_rfl) ?_
    refine zrSeq ?_
    refine zrReg ?_
    refine zlRun (n := 1) (j := 1) rfl (by kernel_rfl) ?_
    refine zlEnd (by kernel_rfl) ?_
    refine zkSeq ?_
    refine zrRet ?_
    refine zkSeqR ?_
    refine zkNil ?_
    exact endQ hS hQ (fRet (by kernel_rfl) ((congrArg (fun s => outR s 0 c26.res) (by kernel_rfl : finSt c26.fin _ = f26_fin 4)).trans (f26_out 4)))
  · replace hS := cond_f hc hS
    refine zlEnd (by kernel_rfl) ?_
    refine zkSeq ?_
    refine zrCondF (by kernel_rfl) ?_
    refine zrSkip ?_
    refine zkSeq ?_
    exact f26_j1_ok hd a1 hQ  hS (by kernel_rfl)
noncomputable def f26 (a1 : GGrid) : Option (Int) := ((f34 a1.Wide a1.High).bind fun z78 => (bif (!decide (z78 = 0)) then (some z78) else (f26_j0 a1 )))
theorem f26_ok (d : Nat) (hd : 4 ≤ d) (a1 : GGrid) (r : Int) (hS : f26 a1 = some r) : lev codes baseL d 26 [(.agg ((.d (.int .i64 a1.Wide)) :: ((.d (.int .i64 a1.High)) :: ((.d (.sl a1.Cells.length (e_GCell.cells a1.Cells))) :: []))))] [] = some ((.d (.int .i64 r)), []) := by
  refine lev_go codes26 rfl rfl (Nat.le_trans (Nat.le_of_ble_eq_true rfl) hd) fun Q hQ => ?_
  unfold f26 at hS
  show ZR _ Q c26_b [] _
  replace hQ : ∀ e st', f26_Q r e st' → Q e st' := hQ
  refine zrSeq ?_
  refine zrReg ?_
  refine zlRun (n := 2) (j := 2) rfl (by kernel_rfl) ?_
  refine zlEnd (by kernel_rfl) ?_
  refine zkSeq ?_
  refine zrSeq ?_
  refine zrSeq ?_
  refine zrReg ?_
  refine zlRun (n := 4) (j := 4) rfl (by kernel_rfl) ?_
  refine bindE hS (fun z78 hz78 hS => ?_)
  refine zlOp (d := some 12) (op := (.call 34 [(.tmp 9), (.tmp 11)])) (g := none) (j := 5) rfl (by kernel_rfl) (by kernel_rfl) (ev_callA (by kernel_rfl) (f34_ok (d - 1) (dpt hd rfl) a1.Wide a1.High z78 hz78) (by kernel_rfl) (by kernel_rfl)) ?_
  refine zlRun (n := 1) (j := 6) rfl (by kernel_rfl) ?_
  refine zlEnd (by kernel_rfl) ?_
  refine zkSeq ?_
  refine zrSeq ?_
  refine zrReg ?_
  refine zlRun (n := 1) (j := 1) rfl (by kernel_rfl) ?_
  refine zlBool (d := 14) (op := (.cmpI .neq (.tmp 13) (.const (.int .i64 0)))) (g := none) (j := 2) (!decide (z78 = 0)) rfl (by kernel_rfl) (by kernel_rfl) (by kernel_rfl) (fun hc => ?_) (fun hc => ?_)
  · replace hS := cond_t hc hS
    refine zlEnd (by kernel_rfl) ?_
    refine zkSeq ?_
    refine zrCondT (by kernel_rfl) ?_
    refine zrSeq ?_
    refine zrReg ?_
    refine zlRun (n := 2) (j := 2) rfl (by kernel_rfl) ?_
    refine zlEnd (by kernel_rfl) ?_
    refine zkSeq ?_
    refine zrRet ?_
    refine zkSeqR ?_
    refine zkNil ?_
    exact endQ hS hQ (fRet (by kernel_rfl) ((congrArg (fun s => outR s 0 c26.res) (by kernel_rfl : finSt c26.fin _ = f26_fin z78)).trans (f26_out z78)))
  · replace hS := cond_f hc hS
    refine zlEnd (by kernel_rfl) ?_
    refine zkSeq ?_
    refine zrCondF (by kernel_rfl) ?_
    refine zrSkip ?_
    refine zkSeq ?_
    exact f26_j0_ok hd a1 hQ  hS (by kernel_rfl)
/- farwriter/screen.within -/
def f27_fin (p3 : Bool) : St := ⟨(up (fun _ => .un) 6 (.d (.bool p3))), (hB fun _ => 0)⟩
theorem f27_out (p3 : Bool) : outR (f27_fin p3) 0 c27.res = some ((.d (.bool p3)), []) := by
  kernel_rfl
def f27_Q (r : Bool) (e : PX) (st : St) : Prop := DoneF c27 0 ((.d (.bool r)), []) e st
noncomputable def f27 (a1 : Int) (a2 : Int) (a3 : Int) : Option (Bool) := (bif (decide (a2 ≤ a1)) then (bif (decide (a1 ≤ a3)) then (some true) else (some false)) else (some false))
theorem f27_ok (d : Nat) (hd : 1 ≤ d) (a1 : Int) (a2 : Int) (a3 : Int) (r : Bool) (hS : f27 a1 a2 a3 = some r) : lev codes baseL d 27 [(.d (.int .i64 a1)), (.d (.int .i64 a2)), (.d (.int .i64 a3))] [] = some ((.d (.bool r)), []) := by
  refine lev_go codes27 rfl rfl (Nat.le_trans (Nat.le_of_ble_eq_true rfl) hd) fun Q hQ => ?_
  unfold f27 at hS
  show ZR _ Q c27_b [] _
  replace hQ : ∀ e st', f27_Q r e st' → Q e st' := hQ
  refine zrSeq ?_
  refine zrReg ?_
  refine zlRun (n := 1) (j := 1) rfl (by kernel_rfl) ?_
  refine zlEnd (by kernel_rfl) ?_
  refine zkSeq ?_
  refine zrSeq ?_
  refine zrReg ?_
  refine zlRun (n := 2) (j := 2) rfl (by kernel_rfl) ?_
  refine zlBool (d := 9) (op := (.cmpI .geq (.tmp 7) (.tmp 8))) (g := none) (j := 3) (decide (a2 ≤ a1)) rfl (by kernel_rfl) (by kernel_rfl) (by kernel_rfl) (fun hc => ?_) (fun hc => ?_)
  · replace hS := cond_t hc hS
    refine zlRun (n := 3) (j := 6) rfl (by kernel_rfl) ?_
    refine zlBool (d := 13) (op := (.cmpI .leq (.tmp 11) (.tmp 12))) (g := (some (10, true))) (j := 7) (decide (a1 ≤ a3)) rfl (by kernel_rfl) (by kernel_rfl) (by kernel_rfl) (fun hc => ?_) (fun hc => ?_)
    · replace hS := cond_t hc hS
      refine zlRun (n := 2) (j := 9) rfl (by kernel_rfl) ?_
      refine zlEnd (by kernel_rfl) ?_
      refine zkSeq ?_
      refine zrRet ?_
      refine zkNil ?_
      exact endQ hS hQ (fRet (by kernel_rfl) ((congrArg (fun s => outR s 0 c27.res) (by kernel_rfl : finSt c27.fin _ = f27_fin true)).trans (f27_out true)))
    · replace hS := cond_f hc hS
      refine zlRun (n := 2) (j := 9) rfl (by kernel_rfl) ?_
      refine zlEnd (by kernel_rfl) ?_
      refine zkSeq ?_
      refine zrRet ?_
      refine zkNil ?_
      exact endQ hS hQ (fRet (by kernel_rfl) ((congrArg (fun s => outR s 0 c27.res) (by kernel_rfl : finSt c27.fin _ = f27_fin false)).trans (f27_out false)))
  · replace hS := cond_f hc hS
    refine zlRun (n := 6) (j := 9) rfl (by kernel_rfl) ?_
    refine zlEnd (by kernel_rfl) ?_
    refine zkSeq ?_
    refine zrRet ?_
    refine zkNil ?_
    exact endQ hS hQ (fRet (by kernel_rfl) ((congrArg (fun s => outR s 0 c27.res) (by kernel_rfl : finSt c27.fin _ = f27_fin false)).trans (f27_out false)))
/- farwriter/page.Known -/
def f29_fin (p3 : Bool) : St := ⟨(up (fun _ => .un) 2 (.d (.bool p3))), (hB fun _ => 0)⟩
theorem f29_out (p3 : Bool) : outR (f29_fin p3) 0 c29.res = some ((.d (.bool p3)), []) := by
  kernel_rfl
def f29_Q (r : Bool) (e : PX) (st : St) : Prop := DoneF c29 0 ((.d (.bool r)), []) e st
noncomputable def f29 (a1 : Int) : Option (Bool) := (bif (decide (1 ≤ a1)) then (bif (decide (a1 ≤ 4)) then (some true) else (some false)) else (some false))
theorem f29_ok (d : Nat) (hd : 1 ≤ d) (a1 : Int) (r : Bool) (hS : f29 a1 = some r) : lev codes baseL d 29 [(.d (.int .i64 a1))] [] = some ((.d (.bool r)), []) := by
  refine lev_go codes29 rfl rfl (Nat.le_trans (Nat.le_of_ble_eq_true rfl) hd) fun Q hQ => ?_
  unfold f29 at hS
  show ZR _ Q c29_b [] _
  replace hQ : ∀ e st', f29_Q r e st' → Q e st' := hQ
  refine zrSeq ?_
  refine zrReg ?_
  refine zlRun (n := 1) (j := 1) rfl (by kernel_rfl) ?_
  refine zlEnd (by kernel_rfl) ?_
  refine zkSeq ?_
  refine zrSeq ?_
  refine zrReg ?_
  refine zlRun (n := 1) (j := 1) rfl (by kernel_rfl) ?_
  refine zlBool (d := 4) (op := (.cmpI .geq (.tmp 3) (.const (.int .i64 1)))) (g := none) (j := 2) (decide (1 ≤ a1)) rfl (by kernel_rfl) (by kernel_rfl) (by kernel_rfl) (fun hc => ?_) (fun hc => ?_)
  · replace hS := cond_t hc hS
    refine zlRun (n := 2) (j := 4) rfl (by kernel_rfl) ?_
    refine zlBool (d := 7) (op := (.cmpI .leq (.tmp 6) (.const (.int .i64 4)))) (g := (some (5, true))) (j := 5) (decide (a1 ≤ 4)) rfl (by kernel_rfl) (by kernel_rfl) (by kernel_rfl) (fun hc => ?_) (fun hc => ?_)
    · replace hS := cond_t hc hS
      refine zlRun (n := 2) (j := 7) rfl (by kernel_rfl) ?_
      refine zlEnd (by kernel_rfl) ?_
      refine zkSeq ?_
      refine zrRet ?_
      refine zkNil ?_
      exact endQ hS hQ (fRet (by kernel_rfl) ((congrArg (fun s => outR s 0 c29.res) (by kernel_rfl : finSt c29.fin _ = f29_fin true)).trans (f29_out true)))
    · replace hS := cond_f hc hS
      refine zlRun (n := 2) (j := 7) rfl (by kernel_rfl) ?_
      refine zlEnd (by kernel_rfl) ?_
      refine zkSeq ?_
      refine zrRet ?_
      refine zkNil ?_
      exact endQ hS hQ (fRet (by kernel_rfl) ((congrArg (fun s => outR s 0 c29.res) (by kernel_rfl : finSt c29.fin _ = f29_fin false)).trans (f29_out false)))
  · replace hS := cond_f hc hS
    refine zlRun (n := 5) (j := 7) rfl (by kernel_rfl) ?_
    refine zlEnd (by kernel_rfl) ?_
    refine zkSeq ?_
    refine zrRet ?_
    refine zkNil ?_
    exact endQ hS hQ (fRet (by kernel_rfl) ((congrArg (fun s => outR s 0 c29.res) (by kernel_rfl : finSt c29.fin _ = f29_fin false)).trans (f29_out false)))
/- farwriter/screen.past -/
def f30_fin (p14 : Bool) : St := ⟨(up (fun _ => .un) 2 (.d (.bool p14))), (hB fun _ => 0)⟩
theorem f30_out (p14 : Bool) : outR (f30_fin p14) 0 c30.res = some ((.d (.bool p14)), []) := by
  kernel_rfl
def f30_Q (r : Bool) (e : PX) (st : St) : Prop := DoneF c30 0 ((.d (.bool r)), []) e st
def f30_l0_J (a1 : List GLine) (x : Int) : St := ⟨(up (up (up (up (fun _ => .un) 7 (.d (.int .i64 x))) 6 (.d (.int .i64 (a1.length : Int)))) 5 (.d (.sl a1.length (e_GLine.cells a1)))) 0 (.d (.sl a1.length (e_GLine.cells a1)))), (hB fun _ => 0)⟩
def f30_l0_H (a1 : List GLine) (x : Int) (st : St) : Prop := keepSt [0, 5, 6, 7] [] [] st = f30_l0_J a1 x
def f30_l0_e0_J (a1 : List GLine) : St := ⟨(up (fun _ => .un) 0 (.d (.sl a1.length (e_GLine.cells a1)))), (hB fun _ => 0)⟩
def f30_l0_X (a1 : List GLine) (z : Unit ⊕ Bool) (e : PX) (st : St) : Prop := (match z with | .inl z => e = .exit 0 ∧ st = f30_l0_e0_J a1 | .inr z => e = .ret ∧ finSt c30.fin st = f30_fin z)
def f30_l0_j2_J (a1 : List GLine) (p19 : Int) : St := ⟨(up (up (up (up (fun _ => .un) 7 (.d (.int .i64 p19))) 6 (.d (.int .i64 (a1.length : Int)))) 5 (.d (.sl a1.length (e_GLine.cells a1)))) 0 (.d (.sl a1.length (e_GLine.cells a1)))), (hB fun _ => 0)⟩
noncomputable def f30_l0_j2 (a1 : List GLine) (p19 : Int) : Option (Int ⊕ (Unit ⊕ Bool)) := ((idx a1 p19).bind fun z7 => ((f26 (GGrid.mk (z7.Cells.length : Int) 1 z7.Cells)).bind fun z8 => (bif (!decide (z8 = 0)) then (some (.inr (.inr false))) else (some (.inl (IntKind.i64.wrap (p19 + 1)))))))
theorem f30_l0_j2_ok {d : Nat} (hd : 5 ≤ d) (a1 : List GLine) {r : Int ⊕ (Unit ⊕ Bool)} {Q : PX → St → Prop} (hQ : ∀ e st', finL (f30_l0_H a1) (f30_l0_X a1) r e st' → Q e st') (p19 : Int) (hS : f30_l0_j2 a1 p19 = some r) {st : St} (he : keepSt [0, 5, 6, 7] [] [] st = f30_l0_j2_J a1 p19) : ZR (lev codes baseL (d - 1)) Q c30_1 [] st := by
  refine zrKeep he ?_
  unfold f30_l0_j2 at hS
  refine zrSeq ?_
  refine zrBlk ?_
  refine zrSeq ?_
  refine zrReg ?_
  refine bindE hS (fun z7 hz7 hS => ?_)
  refine zlOp (d := some 9) (op := (.ixS 56 1 (.tmp 5) (.tmp 7))) (g := none) (v := (.rptr (e_GLine.enc z7 ++ (e_GLine.cells (a1.drop ((p19 : Int).toNat + 1)))))) (ups := []) (j := 1) rfl (by kernel_rfl) (by kernel_rfl) (ev_ixS e_GLine (kk := .i64) (xs := a1) (j := p19) (by kernel_rfl) (by kernel_rfl) hz7 rfl (by intro h; cases h)) ?_
  refine zlRun (n := 3) (j := 4) rfl (by kernel_rfl) ?_
  refine zlEnd (by kernel_rfl) ?_
  refine zkSeq ?_
  refine zrSeq ?_
  refine zrReg ?_
  refine zlRun (n := 6) (j := 6) rfl (by kernel_rfl) ?_
  refine bindE hS (fun z8 hz8 hS => ?_)
  refine zlOp (d := some 17) (op := (.call 26 [(.tmp 16)])) (g := none) (j := 7) rfl (by kernel_rfl) (by kernel_rfl) (ev_callA (by kernel_rfl) (f26_ok (d - 1) (dpt hd rfl) (GGrid.mk (z7.Cells.length : Int) 1 z7.Cells) z8 hz8) (by kernel_rfl) (by kernel_rfl)) ?_
  refine zlBool (d := 18) (op := (.cmpI .neq (.tmp 17) (.const (.int .i64 0)))) (g := none) (j := 8) (!decide (z8 = 0)) rfl (by kernel_rfl) (by kernel_rfl) (by kernel_rfl) (fun hc => ?_) (fun hc => ?_)
  · replace hS := cond_t hc hS
    refine zlEnd (by kernel_rfl) ?_
    refine zkSeq ?_
    refine zrCondT (by kernel_rfl) ?_
    refine zrSeq ?_
    refine zrReg ?_
    refine zlRun (n := 1) (j := 1) rfl (by kernel_rfl) ?_
    refine zlEnd (by kernel_rfl) ?_
    refine zkSeq ?_
    refine zrRet ?_
    refine zkBlkR ?_
    refine zkSeqR ?_
    refine zkNil ?_
    exact endQ hS hQ (finL_x (by intro h; cases h) (by show _ = _ ∧ _ = _; exact ⟨rfl, by kernel_rfl⟩))
  · replace hS := cond_f hc hS
    refine zlEnd (by kernel_rfl) ?_
    refine zkSeq ?_
    refine zrCondF (by kernel_rfl) ?_
    refine zrSkip ?_
    refine zkBlk ?_
    refine zkSeq ?_
    refine zrReg ?_
    refine zlRun (n := 2) (j := 2) rfl (by kernel_rfl) ?_
    refine zlEnd (by kernel_rfl) ?_
    refine zkNil ?_
    exact endQ hS hQ (finL_n (by show keepSt _ _ _ _ = _; kernel_rfl))
def f30_l0_j1_J (a1 : List GLine) (p17 : Int) (p18 : Bool) : St := ⟨(up (up (up (up (up (fun _ => .un) 8 (.d (.bool p18))) 7 (.d (.int .i64 p17))) 6 (.d (.int .i64 (a1.length : Int)))) 5 (.d (.sl a1.length (e_GLine.cells a1)))) 0 (.d (.sl a1.length (e_GLine.cells a1)))), (hB fun _ => 0)⟩
noncomputable def f30_l0_j1 (a1 : List GLine) (p17 : Int) (p18 : Bool) : Option (Int ⊕ (Unit ⊕ Bool)) := (bif p18 then (f30_l0_j2 a1 p17) else (some (.inr (.inl ()))))
theorem f30_l0_j1_ok {d : Nat} (hd : 5 ≤ d) (a1 : List GLine) {r : Int ⊕ (Unit ⊕ Bool)} {Q : PX → St → Prop} (hQ : ∀ e st', finL (f30_l0_H a1) (f30_l0_X a1) r e st' → Q e st') (p17 : Int) (p18 : Bool) (hS : f30_l0_j1 a1 p17 p18 = some r) {st : St} (he : keepSt [0, 5, 6, 7, 8] [] [] st = f30_l0_j1_J a1 p17 p18) : ZR (lev codes baseL (d - 1)) Q c30_2 [] st := by
  refine zrKeep he ?_
  unfold f30_l0_j1 at hS
  refine zrSeq ?_
  refine zrSplit 8 p18 (by kernel_rfl) (fun hc => ?_) (fun hc => ?_)
  · replace hS := cond_t hc hS
    refine zrCondT (by kernel_rfl) ?_
    refine zrSkip ?_
    refine zkSeq ?_
    exact f30_l0_j2_ok hd a1 hQ p17 hS (by kernel_rfl)
  · replace hS := cond_f hc hS
    refine zrCondF (by kernel_rfl) ?_
    refine zrKeep (J := f30_l0_e0_J a1) (by kernel_rfl) ?_
    refine zrExit ?_
    refine zkSeqX ?_
    refine zkNil ?_
    exact endQ hS hQ (finL_x (by intro h; cases h) (by show _ = _ ∧ _ = _; exact ⟨rfl, rfl⟩))
noncomputable def f30_l0 (a1 : List GLine) (x : Int) : Option (Int ⊕ (Unit ⊕ Bool)) := (bif (decide (x < (a1.length : Int))) then (f30_l0_j1 a1 x true) else (f30_l0_j1 a1 x false))
theorem f30_l0_ok {d : Nat} (hd : 5 ≤ d) (a1 : List GLine) {r : Int ⊕ (Unit ⊕ Bool)} {Q : PX → St → Prop} (hQ : ∀ e st', finL (f30_l0_H a1) (f30_l0_X a1) r e st' → Q e st') {x : Int} (hS : f30_l0 a1 x = some r) {st : St} (he : f30_l0_H a1 x st) : ZR (lev codes baseL (d - 1)) Q c30_3 [] st := by
  refine zrKeep he ?_
  unfold f30_l0 at hS
  refine zrSeq ?_
  refine zrReg ?_
  refine zlBool (d := 8) (op := (.cmpI .lss (.tmp 7) (.tmp 6))) (g := none) (j := 1) (decide (x < (a1.length : Int))) rfl (by kernel_rfl) (by kernel_rfl) (by kernel_rfl) (fun hc => ?_) (fun hc => ?_)
  · replace hS := cond_t hc hS
    refine zlEnd (by kernel_rfl) ?_
    refine zkSeq ?_
    exact f30_l0_j1_ok hd a1 hQ x true hS (by kernel_rfl)
  · replace hS := cond_f hc hS
    refine zlEnd (by kernel_rfl) ?_
    refine zkSeq ?_
    exact f30_l0_j1_ok hd a1 hQ x false hS (by kernel_rfl)
noncomputable def f30 (a1 : List GLine) : Option (Bool) := ((loopO (f30_l0 a1) 0).bind fun z9 => (Sum.elim (fun z10 => (bif (decide ((a1.length : Int) ≤ 40)) then (some true) else (some false))) (fun z11 => (some z11)) z9))
theorem f30_ok (d : Nat) (hd : 5 ≤ d) (a1 : List GLine) (r : Bool) (hS : f30 a1 = some r) : lev codes baseL d 30 [(.d (.sl a1.length (e_GLine.cells a1)))] [] = some ((.d (.bool r)), []) := by
  refine lev_go codes30 rfl rfl (Nat.le_trans (Nat.le_of_ble_eq_true rfl) hd) fun Q hQ => ?_
  unfold f30 at hS
  show ZR _ Q c30_b [] _
  replace hQ : ∀ e st', f30_Q r e st' → Q e st' := hQ
  refine zrSeq ?_
  refine zrReg ?_
  refine zlRun (n := 1) (j := 1) rfl (by kernel_rfl) ?_
  refine zlEnd (by kernel_rfl) ?_
  refine zkSeq ?_
  refine zrSeq ?_
  refine zrSeq ?_
  refine zrReg ?_
  refine zlRun (n := 3) (j := 3) rfl (by kernel_rfl) ?_
  refine zlEnd (by kernel_rfl) ?_
  refine zkSeq ?_
  refine zrBlk ?_
  refine bindE hS (fun z9 hz9 hS => ?_)
  refine zrLoop (f30_l0_H a1) (f30_l0_X a1) (fun x st r Q h0 hS hQ => f30_l0_ok hd a1 hQ hS h0) (x := 0) (z := z9) (by show keepSt _ _ _ _ = _; kernel_rfl) hz9 ?_
  rcases z9 with z10 | z11
  · replace hS := (show _ = _ from hS)
    simp only [Sum.elim_inl] at hS
    intro e st' _ hX
    obtain ⟨rfl, rfl⟩ : _ ∧ _ := hX
    refine zkBlkX ?_
    refine zkSeq ?_
    refine zrSeq ?_
    refine zrReg ?_
    refine zlRun (n := 2) (j := 2) rfl (by kernel_rfl) ?_
    refine zlBool (d := 22) (op := (.cmpI .leq (.tmp 21) (.const (.int .i64 40)))) (g := none) (j := 3) (decide ((a1.length : Int) ≤ 40)) rfl (by kernel_rfl) (by kernel_rfl) (by kernel_rfl) (fun hc => ?_) (fun hc => ?_)
    · replace hS := cond_t hc hS
      refine zlRun (n := 1) (j := 4) rfl (by kernel_rfl) ?_
      refine zlEnd (by kernel_rfl) ?_
      refine zkSeq ?_
      refine zrRet ?_
      refine zkNil ?_
      exact endQ hS hQ (fRet (by kernel_rfl) ((congrArg (fun s => outR s 0 c30.res) (by kernel_rfl : finSt c30.fin _ = f30_fin true)).trans (f30_out true)))
    · replace hS := cond_f hc hS
      refine zlRun (n := 1) (j := 4) rfl (by kernel_rfl) ?_
      refine zlEnd (by kernel_rfl) ?_
      refine zkSeq ?_
      refine zrRet ?_
      refine zkNil ?_
      exact endQ hS hQ (fRet (by kernel_rfl) ((congrArg (fun s => outR s 0 c30.res) (by kernel_rfl : finSt c30.fin _ = f30_fin false)).trans (f30_out false)))
  · simp only [Sum.elim_inr] at hS
    intro e st' _ hX
    obtain ⟨rfl, hX⟩ : _ ∧ _ := hX
    refine zkBlkR ?_
    refine zkSeqR ?_
    refine zkNil ?_
    exact endQ hS hQ (fRet (by kernel_rfl) ((congrArg (fun s => outR s 0 c30.res) hX).trans (f30_out z11)))
/- farwriter/screen.Check -/
def f17_fin (p33 : Int) : St := ⟨(up (fun _ => .un) 2 (.d (.int .i64 p33))), (hB fun _ => 0)⟩
theorem f17_out (p33 : Int) : outR (f17_fin p33) 0 c17.res = some ((.d (.int .i64 p33)), []) := by
  kernel_rfl
def f17_Q (r : Int) (e : PX) (st : St) : Prop := DoneF c17 0 ((.d (.int .i64 r)), []) e st
def f17_j6_J (a1 : GScreen) (p70 : Bool) : St := ⟨(up (up (fun _ => .un) 5 (.d (.bool p70))) 1 (.r (.ptr 16 0 0))), (up (hB fun _ => 0) 16 ⟨0, some (.box (bx_GScreen a1 (.d (.sl a1.Grid.Cells.length (e_GCell.cells a1.Grid.Cells))) (.d (.sl a1.Other.Cells.length (e_GCell.cells a1.Other.Cells))) (.d (.sl a1.Past.length (e_GLine.cells a1.Past)))))⟩)⟩
noncomputable def f17_j6 (a1 : GScreen) (p70 : Bool) : Option (Int) := (bif p70 then (bif (decide ((a1.Title.length : Int) ≤ 256)) then ((f30 a1.Past).bind fun z42 => (bif (!z42) then (some 4) else (some 0))) else (some 4)) else (some 4))
theorem f17_j6_ok {d : Nat} (hd : 6 ≤ d) (a1 : GScreen) {r : Int} {Q : PX → St → Prop} (hQ : ∀ e st', f17_Q r e st' → Q e st') (p70 : Bool) (hS : f17_j6 a1 p70 = some r) {st : St} (he : keepSt [1, 5] [(16, .id 16)] [] st = f17_j6_J a1 p70) : ZR (lev codes baseL (d - 1)) Q c17_1 [] st := by
  refine zrKeep he ?_
  unfold f17_j6 at hS
  refine zrSeq ?_
  refine zrReg ?_
  refine zlRun (n := 2) (j := 2) rfl (by kernel_rfl) ?_
  refine zlSplit 144 p70 (by kernel_rfl) (fun hc => ?_) (fun hc => ?_)
  · replace hS := cond_t hc hS
    refine zlRun (n := 3) (j := 5) rfl (by kernel_rfl) ?_
    refine zlBool (d := 148) (op := (.cmpI .leq (.tmp 147) (.const (.int .i64 256)))) (g := (some (144, true))) (j := 6) (decide ((a1.Title.length : Int) ≤ 256)) rfl (by kernel_rfl) (by kernel_rfl) (by kernel_rfl) (fun hc => ?_) (fun hc => ?_)
    · replace hS := cond_t hc hS
      refine zlRun (n := 4) (j := 10) rfl (by kernel_rfl) ?_
      refine bindE hS (fun z42 hz42 hS => ?_)
      refine zlOp (d := some 153) (op := (.call 30 [(.tmp 152)])) (g := (some (150, true))) (j := 11) rfl (by kernel_rfl) (by kernel_rfl) (ev_callA (by kernel_rfl) (f30_ok (d - 1) (dpt hd rfl) a1.Past z42 hz42) (by kernel_rfl) (by kernel_rfl)) ?_
      refine zlRun (n := 2) (j := 13) rfl (by kernel_rfl) ?_
      refine zlEnd (by kernel_rfl) ?_
      refine zkSeq ?_
      refine zrSeq ?_
      refine zrSeq ?_
      refine zrReg ?_
      refine zlRun (n := 2) (j := 2) rfl (by kernel_rfl) ?_
      refine zlEnd (by kernel_rfl) ?_
      refine zkSeq ?_
      refine zrSplit 156 (!z42) (by kernel_rfl) (fun hc => ?_) (fun hc => ?_)
      · replace hS := cond_t hc hS
        refine zrCondT (by kernel_rfl) ?_
        refine zrSeq ?_
        refine zrReg ?_
        refine zlRun (n := 1) (j := 1) rfl (by kernel_rfl) ?_
        refine zlEnd (by kernel_rfl) ?_
        refine zkSeq ?_
        refine zrRet ?_
        refine zkSeqR ?_
        refine zkNil ?_
        exact endQ hS hQ (fRet (by kernel_rfl) ((congrArg (fun s => outR s 0 c17.res) (by kernel_rfl : finSt c17.fin _ = f17_fin 4)).trans (f17_out 4)))
      · replace hS := cond_f hc hS
        refine zrCondF (by kernel_rfl) ?_
        refine zrSkip ?_
        refine zkSeq ?_
        refine zrSeq ?_
        refine zrReg ?_
        refine zlRun (n := 1) (j := 1) rfl (by kernel_rfl) ?_
        refine zlEnd (by kernel_rfl) ?_
        refine zkSeq ?_
        refine zrRet ?_
        refine zkNil ?_
        exact endQ hS hQ (fRet (by kernel_rfl) ((congrArg (fun s => outR s 0 c17.res) (by kernel_rfl : finSt c17.fin _ = f17_fin 0)).trans (f17_out 0)))
    · replace hS := cond_f hc hS
      refine zlRun (n := 7) (j := 13) rfl (by kernel_rfl) ?_
      refine zlEnd (by kernel_rfl) ?_
      refine zkSeq ?_
      refine zrSeq ?_
      refine zrSeq ?_
      refine zrReg ?_
      refine zlRun (n := 2) (j := 2) rfl (by kernel_rfl) ?_
      refine zlEnd (by kernel_rfl) ?_
      refine zkSeq ?_
      refine zrCondT (by kernel_rfl) ?_
      refine zrSeq ?_
      refine zrReg ?_
      refine zlRun (n := 1) (j := 1) rfl (by kernel_rfl) ?_
      refine zlEnd (by kernel_rfl) ?_
      refine zkSeq ?_
      refine zrRet ?_
      refine zkSeqR ?_
      refine zkNil ?_
      exact endQ hS hQ (fRet (by kernel_rfl) ((congrArg (fun s => outR s 0 c17.res) (by kernel_rfl : finSt c17.fin _ = f17_fin 4)).trans (f17_out 4)))
  · replace hS := cond_f hc hS
    refine zlRun (n := 11) (j := 13) rfl (by kernel_rfl) ?_
    refine zlEnd (by kernel_rfl) ?_
    refine zkSeq ?_
    refine zrSeq ?_
    refine zrSeq ?_
    refine zrReg ?_
    refine zlRun (n := 2) (j := 2) rfl (by kernel_rfl) ?_
    refine zlEnd (by kernel_rfl) ?_
    refine zkSeq ?_
    refine zrCondT (by kernel_rfl) ?_
    refine zrSeq ?_
    refine zrReg ?_
    refine zlRun (n := 1) (j := 1) rfl (by kernel_rfl) ?_
    refine zlEnd (by kernel_rfl) ?_
    refine zkSeq ?_
    refine zrRet ?_
    refine zkSeqR ?_
    refine zkNil ?_
    exact endQ hS hQ (fRet (by kernel_rfl) ((congrArg (fun s => outR s 0 c17.res) (by kernel_rfl : finSt c17.fin _ = f17_fin 4)).trans (f17_out 4)))
def f17_j5_J (a1 : GScreen) (p67 : Bool) : St := ⟨(up (up (fun _ => .un) 5 (.d (.bool p67))) 1 (.r (.ptr 16 0 0))), (up (hB fun _ => 0) 16 ⟨0, some (.box (bx_GScreen a1 (.d (.sl a1.Grid.Cells.length (e_GCell.cells a1.Grid.Cells))) (.d (.sl a1.Other.Cells.length (e_GCell.cells a1.Other.Cells))) (.d (.sl a1.Past.length (e_GLine.cells a1.Past)))))⟩)⟩
noncomputable def f17_j5 (a1 : GScreen) (p67 : Bool) : Option (Int) := (bif p67 then ((f27 a1.Saved.Row 0 59).bind fun z43 => (bif z43 then ((f27 a1.Saved.Col 0 159).bind fun z44 => (f17_j6 a1 z44)) else (f17_j6 a1 false))) else (f17_j6 a1 false))
theorem f17_j5_ok {d : Nat} (hd : 6 ≤ d) (a1 : GScreen) {r : Int} {Q : PX → St → Prop} (hQ : ∀ e st', f17_Q r e st' → Q e st') (p67 : Bool) (hS : f17_j5 a1 p67 = some r) {st : St} (he : keepSt [1, 5] [(16, .id 16)] [] st = f17_j5_J a1 p67) : ZR (lev codes baseL (d - 1)) Q c17_2 [] st := by
  refine zrKeep he ?_
  unfold f17_j5 at hS
  refine zrSeq ?_
  refine zrReg ?_
  refine zlRun (n := 2) (j := 2) rfl (by kernel_rfl) ?_
  refine zlSplit 131 p67 (by kernel_rfl) (fun hc => ?_) (fun hc => ?_)
  · replace hS := cond_t hc hS
    refine zlRun (n := 3) (j := 5) rfl (by kernel_rfl) ?_
    refine bindE hS (fun z43 hz43 hS => ?_)
    refine zlOp (d := some 135) (op := (.call 27 [(.tmp 134), (.const (.int .i64 0)), (.const (.int .i64 59))])) (g := (some (131, true))) (j := 6) rfl (by kernel_rfl) (by kernel_rfl) (ev_callA (by kernel_rfl) (f27_ok (d - 1) (dpt hd rfl) a1.Saved.Row 0 59 z43 hz43) (by kernel_rfl) (by kernel_rfl)) ?_
    refine zlRun (n := 2) (j := 8) rfl (by kernel_rfl) ?_
    refine zlSplit 137 z43 (by kernel_rfl) (fun hc => ?_) (fun hc => ?_)
    · replace hS := cond_t hc hS
      refine zlRun (n := 3) (j := 11) rfl (by kernel_rfl) ?_
      refine bindE hS (fun z44 hz44 hS => ?_)
      refine zlOp (d := some 141) (op := (.call 27 [(.tmp 140), (.const (.int .i64 0)), (.const (.int .i64 159))])) (g := (some (137, true))) (j := 12) rfl (by kernel_rfl) (by kernel_rfl) (ev_callA (by kernel_rfl) (f27_ok (d - 1) (dpt hd rfl) a1.Saved.Col 0 159 z44 hz44) (by kernel_rfl) (by kernel_rfl)) ?_
      refine zlRun (n := 2) (j := 14) rfl (by kernel_rfl) ?_
      refine zlEnd (by kernel_rfl) ?_
      refine zkSeq ?_
      exact f17_j6_ok hd a1 hQ z44 hS (by kernel_rfl)
    · replace hS := cond_f hc hS
      refine zlRun (n := 6) (j := 14) rfl (by kernel_rfl) ?_
      refine zlEnd (by kernel_rfl) ?_
      refine zkSeq ?_
      exact f17_j6_ok hd a1 hQ false hS (by kernel_rfl)
  · replace hS := cond_f hc hS
    refine zlRun (n := 12) (j := 14) rfl (by kernel_rfl) ?_
    refine zlEnd (by kernel_rfl) ?_
    refine zkSeq ?_
    exact f17_j6_ok hd a1 hQ false hS (by kernel_rfl)
def f17_j4_J (a1 : GScreen) (p64 : Bool) : St := ⟨(up (up (fun _ => .un) 5 (.d (.bool p64))) 1 (.r (.ptr 16 0 0))), (up (hB fun _ => 0) 16 ⟨0, some (.box (bx_GScreen a1 (.d (.sl a1.Grid.Cells.length (e_GCell.cells a1.Grid.Cells))) (.d (.sl a1.Other.Cells.length (e_GCell.cells a1.Other.Cells))) (.d (.sl a1.Past.length (e_GLine.cells a1.Past)))))⟩)⟩
noncomputable def f17_j4 (a1 : GScreen) (p64 : Bool) : Option (Int) := (bif p64 then ((f27 a1.Shift 0 1).bind fun z45 => (bif z45 then ((f27 a1.Saved.Shift 0 1).bind fun z46 => (f17_j5 a1 z46)) else (f17_j5 a1 false))) else (f17_j5 a1 false))
theorem f17_j4_ok {d : Nat} (hd : 6 ≤ d) (a1 : GScreen) {r : Int} {Q : PX → St → Prop} (hQ : ∀ e st', f17_Q r e st' → Q e st') (p64 : Bool) (hS : f17_j4 a1 p64 = some r) {st : St} (he : keepSt [1, 5] [(16, .id 16)] [] st = f17_j4_J a1 p64) : ZR (lev codes baseL (d - 1)) Q c17_3 [] st := by
  refine zrKeep he ?_
  unfold f17_j4 at hS
  refine zrSeq ?_
  refine zrReg ?_
  refine zlRun (n := 2) (j := 2) rfl (by kernel_rfl) ?_
  refine zlSplit 119 p64 (by kernel_rfl) (fun hc => ?_) (fun hc => ?_)
  · replace hS := cond_t hc hS
    refine zlRun (n := 2) (j := 4) rfl (by kernel_rfl) ?_
    refine bindE hS (fun z45 hz45 hS => ?_)
    refine zlOp (d := some 122) (op := (.call 27 [(.tmp 121), (.const (.int .i64 0)), (.const (.int .i64 1))])) (g := (some (119, true))) (j := 5) rfl (by kernel_rfl) (by kernel_rfl) (ev_callA (by kernel_rfl) (f27_ok (d - 1) (dpt hd rfl) a1.Shift 0 1 z45 hz45) (by kernel_rfl) (by kernel_rfl)) ?_
    refine zlRun (n := 2) (j := 7) rfl (by kernel_rfl) ?_
    refine zlSplit 124 z45 (by kernel_rfl) (fun hc => ?_) (fun hc => ?_)
    · replace hS := cond_t hc hS
      refine zlRun (n := 3) (j := 10) rfl (by kernel_rfl) ?_
      refine bindE hS (fun z46 hz46 hS => ?_)
      refine zlOp (d := some 128) (op := (.call 27 [(.tmp 127), (.const (.int .i64 0)), (.const (.int .i64 1))])) (g := (some (124, true))) (j := 11) rfl (by kernel_rfl) (by kernel_rfl) (ev_callA (by kernel_rfl) (f27_ok (d - 1) (dpt hd rfl) a1.Saved.Shift 0 1 z46 hz46) (by kernel_rfl) (by kernel_rfl)) ?_
      refine zlRun (n := 2) (j := 13) rfl (by kernel_rfl) ?_
      refine zlEnd (by kernel_rfl) ?_
      refine zkSeq ?_
      exact f17_j5_ok hd a1 hQ z46 hS (by kernel_rfl)
    · replace hS := cond_f hc hS
      refine zlRun (n := 6) (j := 13) rfl (by kernel_rfl) ?_
      refine zlEnd (by kernel_rfl) ?_
      refine zkSeq ?_
      exact f17_j5_ok hd a1 hQ false hS (by kernel_rfl)
  · replace hS := cond_f hc hS
    refine zlRun (n := 11) (j := 13) rfl (by kernel_rfl) ?_
    refine zlEnd (by kernel_rfl) ?_
    refine zkSeq ?_
    exact f17_j5_ok hd a1 hQ false hS (by kernel_rfl)
def f17_j8_J (a1 : GScreen) (p78 : Bool) : St := ⟨(up (up (up (fun _ => .un) 98 (.d (.int .i64 1))) 5 (.d (.bool p78))) 1 (.r (.ptr 16 0 0))), (up (hB fun _ => 0) 16 ⟨0, some (.box (bx_GScreen a1 (.d (.sl a1.Grid.Cells.length (e_GCell.cells a1.Grid.Cells))) (.d (.sl a1.Other.Cells.length (e_GCell.cells a1.Other.Cells))) (.d (.sl a1.Past.length (e_GLine.cells a1.Past)))))⟩)⟩
noncomputable def f17_j8 (a1 : GScreen) (p78 : Bool) : Option (Int) := (bif p78 then ((f29 a1.Pages.2).bind fun z51 => (bif z51 then ((f29 a1.Saved.Pages.2).bind fun z52 => (f17_j4 a1 z52)) else (f17_j4 a1 false))) else (f17_j4 a1 false))
theorem f17_j8_ok {d : Nat} (hd : 6 ≤ d) (a1 : GScreen) {r : Int} {Q : PX → St → Prop} (hQ : ∀ e st', f17_Q r e st' → Q e st') (p78 : Bool) (hS : f17_j8 a1 p78 = some r) {st : St} (he : keepSt [1, 5, 98] [(16, .id 16)] [] st = f17_j8_J a1 p78) : ZR (lev codes baseL (d - 1)) Q c17_4 [.seq c17_5, .blk 0, .seq c17_3] st := by
  refine zrKeep he ?_
  unfold f17_j8 at hS
  refine zrSeq ?_
  refine zrBlk ?_
  refine zrSeq ?_
  refine zrReg ?_
  refine zlRun (n := 2) (j := 2) rfl (by kernel_rfl) ?_
  refine zlEnd (by kernel_rfl) ?_
  refine zkSeq ?_
  refine zrReg ?_
  refine zlRun (n := 2) (j := 2) rfl (by kernel_rfl) ?_
  refine zlSplit 102 p78 (by kernel_rfl) (fun hc => ?_) (fun hc => ?_)
  · replace hS := cond_t hc hS
    refine zlRun (n := 4) (j := 6) rfl (by kernel_rfl) ?_
    refine bindE hS (fun z51 hz51 hS => ?_)
    refine zlOp (d := some 107) (op := (.call 29 [(.tmp 106)])) (g := (some (102, true))) (j := 7) rfl (by kernel_rfl) (by kernel_rfl) (ev_callA (by kernel_rfl) (f29_ok (d - 1) (dpt hd rfl) a1.Pages.2 z51 hz51) (by kernel_rfl) (by kernel_rfl)) ?_
    refine zlRun (n := 2) (j := 9) rfl (by kernel_rfl) ?_
    refine zlSplit 109 z51 (by kernel_rfl) (fun hc => ?_) (fun hc => ?_)
    · replace hS := cond_t hc hS
      refine zlRun (n := 5) (j := 14) rfl (by kernel_rfl) ?_
      refine bindE hS (fun z52 hz52 hS => ?_)
      refine zlOp (d := some 115) (op := (.call 29 [(.tmp 114)])) (g := (some (109, true))) (j := 15) rfl (by kernel_rfl) (by kernel_rfl) (ev_callA (by kernel_rfl) (f29_ok (d - 1) (dpt hd rfl) a1.Saved.Pages.2 z52 hz52) (by kernel_rfl) (by kernel_rfl)) ?_
      refine zlRun (n := 2) (j := 17) rfl (by kernel_rfl) ?_
      refine zlEnd (by kernel_rfl) ?_
      refine zkBlk ?_
      refine zkSeq ?_
      refine zrReg ?_
      refine zlRun (n := 2) (j := 2) rfl (by kernel_rfl) ?_
      refine zlEnd (by kernel_rfl) ?_
      refine zkSeq ?_
      refine zrLoop1 ?_
      refine zrSeq ?_
      refine zrReg ?_
      refine zlRun (n := 1) (j := 1) rfl (by kernel_rfl) ?_
      refine zlEnd (by kernel_rfl) ?_
      refine zkSeq ?_
      refine zrSeq ?_
      refine zrCondF (by kernel_rfl) ?_
      refine zrExit ?_
      refine zkSeqX ?_
      refine zkSeqX ?_
      refine zkBlkX ?_
      refine zkSeq ?_
      exact f17_j4_ok hd a1 hQ z52 hS (by kernel_rfl)
    · replace hS := cond_f hc hS
      refine zlRun (n := 8) (j := 17) rfl (by kernel_rfl) ?_
      refine zlEnd (by kernel_rfl) ?_
      refine zkBlk ?_
      refine zkSeq ?_
      refine zrReg ?_
      refine zlRun (n := 2) (j := 2) rfl (by kernel_rfl) ?_
      refine zlEnd (by kernel_rfl) ?_
      refine zkSeq ?_
      refine zrLoop1 ?_
      refine zrSeq ?_
      refine zrReg ?_
      refine zlRun (n := 1) (j := 1) rfl (by kernel_rfl) ?_
      refine zlEnd (by kernel_rfl) ?_
      refine zkSeq ?_
      refine zrSeq ?_
      refine zrCondF (by kernel_rfl) ?_
      refine zrExit ?_
      refine zkSeqX ?_
      refine zkSeqX ?_
      refine zkBlkX ?_
      refine zkSeq ?_
      exact f17_j4_ok hd a1 hQ false hS (by kernel_rfl)
  · replace hS := cond_f hc hS
    refine zlRun (n := 15) (j := 17) rfl (by kernel_rfl) ?_
    refine zlEnd (by kernel_rfl) ?_
    refine zkBlk ?_
    refine zkSeq ?_
    refine zrReg ?_
    refine zlRun (n := 2) (j := 2) rfl (by kernel_rfl) ?_
    refine zlEnd (by kernel_rfl) ?_
    refine zkSeq ?_
    refine zrLoop1 ?_
    refine zrSeq ?_
    refine zrReg ?_
    refine zlRun (n := 1) (j := 1) rfl (by kernel_rfl) ?_
    refine zlEnd (by kernel_rfl) ?_
    refine zkSeq ?_
    refine zrSeq ?_
    refine zrCondF (by kernel_rfl) ?_
    refine zrExit ?_
    refine zkSeqX ?_
    refine zkSeqX ?_
    refine zkBlkX ?_
    refine zkSeq ?_
    exact f17_j4_ok hd a1 hQ false hS (by kernel_rfl)
def f17_j9_J (a1 : GScreen) : St := ⟨(up (up (up (fun _ => .un) 98 (.d (.int .i64 1))) 5 (.d (.bool false))) 1 (.r (.ptr 16 0 0))), (up (hB fun _ => 0) 16 ⟨0, some (.box (bx_GScreen a1 (.d (.sl a1.Grid.Cells.length (e_GCell.cells a1.Grid.Cells))) (.d (.sl a1.Other.Cells.length (e_GCell.cells a1.Other.Cells))) (.d (.sl a1.Past.length (e_GLine.cells a1.Past)))))⟩)⟩
noncomputable def f17_j9 (a1 : GScreen) : Option (Int) := (f17_j4 a1 false)
theorem f17_j9_ok {d : Nat} (hd : 6 ≤ d) (a1 : GScreen) {r : Int} {Q : PX → St → Prop} (hQ : ∀ e st', f17_Q r e st' → Q e st')  (hS : f17_j9 a1 = some r) {st : St} (he : keepSt [1, 5, 98] [(16, .id 16)] [] st = f17_j9_J a1) : ZR (lev codes baseL (d - 1)) Q c17_4 [.seq c17_5, .blk 0, .seq c17_3] st := by
  refine zrKeep he ?_
  unfold f17_j9 at hS
  refine zrSeq ?_
  refine zrBlk ?_
  refine zrSeq ?_
  refine zrReg ?_
  refine zlRun (n := 2) (j := 2) rfl (by kernel_rfl) ?_
  refine zlEnd (by kernel_rfl) ?_
  refine zkSeq ?_
  refine zrReg ?_
  refine zlRun (n := 17) (j := 17) rfl (by kernel_rfl) ?_
  refine zlEnd (by kernel_rfl) ?_
  refine zkBlk ?_
  refine zkSeq ?_
  refine zrReg ?_
  refine zlRun (n := 2) (j := 2) rfl (by kernel_rfl) ?_
  refine zlEnd (by kernel_rfl) ?_
  refine zkSeq ?_
  refine zrLoop1 ?_
  refine zrSeq ?_
  refine zrReg ?_
  refine zlRun (n := 1) (j := 1) rfl (by kernel_rfl) ?_
  refine zlEnd (by kernel_rfl) ?_
  refine zkSeq ?_
  refine zrSeq ?_
  refine zrCondF (by kernel_rfl) ?_
  refine zrExit ?_
  refine zkSeqX ?_
  refine zkSeqX ?_
  refine zkBlkX ?_
  refine zkSeq ?_
  exact f17_j4_ok hd a1 hQ false hS (by kernel_rfl)
def f17_j10_J (a1 : GScreen) : St := ⟨(up (up (up (fun _ => .un) 98 (.d (.int .i64 1))) 5 (.d (.bool false))) 1 (.r (.ptr 16 0 0))), (up (hB fun _ => 0) 16 ⟨0, some (.box (bx_GScreen a1 (.d (.sl a1.Grid.Cells.length (e_GCell.cells a1.Grid.Cells))) (.d (.sl a1.Other.Cells.length (e_GCell.cells a1.Other.Cells))) (.d (.sl a1.Past.length (e_GLine.cells a1.Past)))))⟩)⟩
noncomputable def f17_j10 (a1 : GScreen) : Option (Int) := (f17_j4 a1 false)
theorem f17_j10_ok {d : Nat} (hd : 6 ≤ d) (a1 : GScreen) {r : Int} {Q : PX → St → Prop} (hQ : ∀ e st', f17_Q r e st' → Q e st')  (hS : f17_j10 a1 = some r) {st : St} (he : keepSt [1, 5, 98] [(16, .id 16)] [] st = f17_j10_J a1) : ZR (lev codes baseL (d - 1)) Q c17_4 [.seq c17_5, .blk 0, .seq c17_3] st := by
  refine zrKeep he ?_
  unfold f17_j10 at hS
  refine zrSeq ?_
  refine zrBlk ?_
  refine zrSeq ?_
  refine zrReg ?_
  refine zlRun (n := 2) (j := 2) rfl (by kernel_rfl) ?_
  refine zlEnd (by kernel_rfl) ?_
  refine zkSeq ?_
  refine zrReg ?_
  refine zlRun (n := 17) (j := 17) rfl (by kernel_rfl) ?_
  refine zlEnd (by kernel_rfl) ?_
  refine zkBlk ?_
  refine zkSeq ?_
  refine zrReg ?_
  refine zlRun (n := 2) (j := 2) rfl (by kernel_rfl) ?_
  refine zlEnd (by kernel_rfl) ?_
  refine zkSeq ?_
  refine zrLoop1 ?_
  refine zrSeq ?_
  refine zrReg ?_
  refine zlRun (n := 1) (j := 1) rfl (by kernel_rfl) ?_
  refine zlEnd (by kernel_rfl) ?_
  refine zkSeq ?_
  refine zrSeq ?_
  refine zrCondF (by kernel_rfl) ?_
  refine zrExit ?_
  refine zkSeqX ?_
  refine zkSeqX ?_
  refine zkBlkX ?_
  refine zkSeq ?_
  exact f17_j4_ok hd a1 hQ false hS (by kernel_rfl)
def f17_j7_J (a1 : GScreen) (p71 : Bool) : St := ⟨(up (up (up (fun _ => .un) 98 (.d (.int .i64 0))) 5 (.d (.bool p71))) 1 (.r (.ptr 16 0 0))), (up (hB fun _ => 0) 16 ⟨0, some (.box (bx_GScreen a1 (.d (.sl a1.Grid.Cells.length (e_GCell.cells a1.Grid.Cells))) (.d (.sl a1.Other.Cells.length (e_GCell.cells a1.Other.Cells))) (.d (.sl a1.Past.length (e_GLine.cells a1.Past)))))⟩)⟩
noncomputable def f17_j7 (a1 : GScreen) (p71 : Bool) : Option (Int) := (bif p71 then ((f29 a1.Pages.1).bind fun z47 => (bif z47 then ((f29 a1.Saved.Pages.1).bind fun z48 => (f17_j8 a1 z48)) else (f17_j9 a1 ))) else (f17_j10 a1 ))
theorem f17_j7_ok {d : Nat} (hd : 6 ≤ d) (a1 : GScreen) {r : Int} {Q : PX → St → Prop} (hQ : ∀ e st', f17_Q r e st' → Q e st') (p71 : Bool) (hS : f17_j7 a1 p71 = some r) {st : St} (he : keepSt [1, 5, 98] [(16, .id 16)] [] st = f17_j7_J a1 p71) : ZR (lev codes baseL (d - 1)) Q c17_4 [.seq c17_5, .blk 0, .seq c17_3] st := by
  refine zrKeep he ?_
  unfold f17_j7 at hS
  refine zrSeq ?_
  refine zrBlk ?_
  refine zrSeq ?_
  refine zrReg ?_
  refine zlRun (n := 2) (j := 2) rfl (by kernel_rfl) ?_
  refine zlEnd (by kernel_rfl) ?_
  refine zkSeq ?_
  refine zrReg ?_
  refine zlRun (n := 2) (j := 2) rfl (by kernel_rfl) ?_
  refine zlSplit 102 p71 (by kernel_rfl) (fun hc => ?_) (fun hc => ?_)
  · replace hS := cond_t hc hS
    refine zlRun (n := 4) (j := 6) rfl (by kernel_rfl) ?_
    refine bindE hS (fun z47 hz47 hS => ?_)
    refine zlOp (d := some 107) (op := (.call 29 [(.tmp 106)])) (g := (some (102, true))) (j := 7) rfl (by kernel_rfl) (by kernel_rfl) (ev_callA (by kernel_rfl) (f29_ok (d - 1) (dpt hd rfl) a1.Pages.1 z47 hz47) (by kernel_rfl) (by kernel_rfl)) ?_
    refine zlRun (n := 2) (j := 9) rfl (by kernel_rfl) ?_
    refine zlSplit 109 z47 (by kernel_rfl) (fun hc => ?_) (fun hc => ?_)
    · replace hS := cond_t hc hS
      refine zlRun (n := 5) (j := 14) rfl (by kernel_rfl) ?_
      refine bindE hS (fun z48 hz48 hS => ?_)
      refine zlOp (d := some 115) (op := (.call 29 [(.tmp 114)])) (g := (some (109, true))) (j := 15) rfl (by kernel_rfl) (by kernel_rfl) (ev_callA (by kernel_rfl) (f29_ok (d - 1) (dpt hd rfl) a1.Saved.Pages.1 z48 hz48) (by kernel_rfl) (by kernel_rfl)) ?_
      refine zlRun (n := 2) (j := 17) rfl (by kernel_rfl) ?_
      refine zlEnd (by kernel_rfl) ?_
      refine zkBlk ?_
      refine zkSeq ?_
      refine zrReg ?_
      refine zlRun (n := 2) (j := 2) rfl (by kernel_rfl) ?_
      refine zlEnd (by kernel_rfl) ?_
      refine zkSeq ?_
      refine zrLoop1 ?_
      refine zrSeq ?_
      refine zrReg ?_
      refine zlRun (n := 1) (j := 1) rfl (by kernel_rfl) ?_
      refine zlEnd (by kernel_rfl) ?_
      refine zkSeq ?_
      refine zrSeq ?_
      refine zrCondT (by kernel_rfl) ?_
      refine zrSkip ?_
      refine zkSeq ?_
      exact f17_j8_ok hd a1 hQ z48 hS (by kernel_rfl)
    · replace hS := cond_f hc hS
      refine zlRun (n := 8) (j := 17) rfl (by kernel_rfl) ?_
      refine zlEnd (by kernel_rfl) ?_
      refine zkBlk ?_
      refine zkSeq ?_
      refine zrReg ?_
      refine zlRun (n := 2) (j := 2) rfl (by kernel_rfl) ?_
      refine zlEnd (by kernel_rfl) ?_
      refine zkSeq ?_
      refine zrLoop1 ?_
      refine zrSeq ?_
      refine zrReg ?_
      refine zlRun (n := 1) (j := 1) rfl (by kernel_rfl) ?_
      refine zlEnd (by kernel_rfl) ?_
      refine zkSeq ?_
      refine zrSeq ?_
      refine zrCondT (by kernel_rfl) ?_
      refine zrSkip ?_
      refine zkSeq ?_
      exact f17_j9_ok hd a1 hQ  hS (by kernel_rfl)
  · replace hS := cond_f hc hS
    refine zlRun (n := 15) (j := 17) rfl (by kernel_rfl) ?_
    refine zlEnd (by kernel_rfl) ?_
    refine zkBlk ?_
    refine zkSeq ?_
    refine zrReg ?_
    refine zlRun (n := 2) (j := 2) rfl (by kernel_rfl) ?_
    refine zlEnd (by kernel_rfl) ?_
    refine zkSeq ?_
    refine zrLoop1 ?_
    refine zrSeq ?_
    refine zrReg ?_
    refine zlRun (n := 1) (j := 1) rfl (by kernel_rfl) ?_
    refine zlEnd (by kernel_rfl) ?_
    refine zkSeq ?_
    refine zrSeq ?_
    refine zrCondT (by kernel_rfl) ?_
    refine zrSkip ?_
    refine zkSeq ?_
    exact f17_j10_ok hd a1 hQ  hS (by kernel_rfl)
def f17_j3_J (a1 : GScreen) (p51 : Bool) : St := ⟨(up (up (fun _ => .un) 5 (.d (.bool p51))) 1 (.r (.ptr 16 0 0))), (up (hB fun _ => 0) 16 ⟨0, some (.box (bx_GScreen a1 (.d (.sl a1.Grid.Cells.length (e_GCell.cells a1.Grid.Cells))) (.d (.sl a1.Other.Cells.length (e_GCell.cells a1.Other.Cells))) (.d (.sl a1.Past.length (e_GLine.cells a1.Past)))))⟩)⟩
noncomputable def f17_j3 (a1 : GScreen) (p51 : Bool) : Option (Int) := (f17_j7 a1 p51)
theorem f17_j3_ok {d : Nat} (hd : 6 ≤ d) (a1 : GScreen) {r : Int} {Q : PX → St → Prop} (hQ : ∀ e st', f17_Q r e st' → Q e st') (p51 : Bool) (hS : f17_j3 a1 p51 = some r) {st : St} (he : keepSt [1, 5] [(16, .id 16)] [] st = f17_j3_J a1 p51) : ZR (lev codes baseL (d - 1)) Q c17_6 [] st := by
  refine zrKeep he ?_
  unfold f17_j3 at hS
  refine zrSeq ?_
  refine zrSeq ?_
  refine zrReg ?_
  refine zlRun (n := 1) (j := 1) rfl (by kernel_rfl) ?_
  refine zlEnd (by kernel_rfl) ?_
  refine zkSeq ?_
  refine zrBlk ?_
  refine zrLoop1 ?_
  refine zrSeq ?_
  refine zrReg ?_
  refine zlRun (n := 1) (j := 1) rfl (by kernel_rfl) ?_
  refine zlEnd (by kernel_rfl) ?_
  refine zkSeq ?_
  refine zrSeq ?_
  refine zrCondT (by kernel_rfl) ?_
  refine zrSkip ?_
  refine zkSeq ?_
  exact f17_j7_ok hd a1 hQ p51 hS (by kernel_rfl)
def f17_j2_J (a1 : GScreen) (p47 : Bool) : St := ⟨(up (up (fun _ => .un) 5 (.d (.bool p47))) 1 (.r (.ptr 16 0 0))), (up (hB fun _ => 0) 16 ⟨0, some (.box (bx_GScreen a1 (.d (.sl a1.Grid.Cells.length (e_GCell.cells a1.Grid.Cells))) (.d (.sl a1.Other.Cells.length (e_GCell.cells a1.Other.Cells))) (.d (.sl a1.Past.length (e_GLine.cells a1.Past)))))⟩)⟩
noncomputable def f17_j2 (a1 : GScreen) (p47 : Bool) : Option (Int) := (bif p47 then ((f28 a1.Pen).bind fun z53 => (bif (decide (z53 = 0)) then ((f28 a1.Saved.Pen).bind fun z54 => (bif (decide (z54 = 0)) then ((f27 a1.Modes 0 2047).bind fun z55 => (f17_j3 a1 z55)) else (f17_j3 a1 false))) else (f17_j3 a1 false))) else (f17_j3 a1 false))
theorem f17_j2_ok {d : Nat} (hd : 6 ≤ d) (a1 : GScreen) {r : Int} {Q : PX → St → Prop} (hQ : ∀ e st', f17_Q r e st' → Q e st') (p47 : Bool) (hS : f17_j2 a1 p47 = some r) {st : St} (he : keepSt [1, 5] [(16, .id 16)] [] st = f17_j2_J a1 p47) : ZR (lev codes baseL (d - 1)) Q c17_7 [] st := by
  refine zrKeep he ?_
  unfold f17_j2 at hS
  refine zrSeq ?_
  refine zrReg ?_
  refine zlRun (n := 2) (j := 2) rfl (by kernel_rfl) ?_
  refine zlSplit 80 p47 (by kernel_rfl) (fun hc => ?_) (fun hc => ?_)
  · replace hS := cond_t hc hS
    refine zlRun (n := 2) (j := 4) rfl (by kernel_rfl) ?_
    refine bindE hS (fun z53 hz53 hS => ?_)
    refine zlOp (d := some 83) (op := (.call 28 [(.tmp 82)])) (g := (some (80, true))) (j := 5) rfl (by kernel_rfl) (by kernel_rfl) (ev_callA (by kernel_rfl) (f28_ok (d - 1) (dpt hd rfl) a1.Pen z53 hz53) (by kernel_rfl) (by kernel_rfl)) ?_
    refine zlBool (d := 84) (op := (.cmpI .eql (.tmp 83) (.const (.int .i64 0)))) (g := (some (80, true))) (j := 6) (decide (z53 = 0)) rfl (by kernel_rfl) (by kernel_rfl) (by kernel_rfl) (fun hc => ?_) (fun hc => ?_)
    · replace hS := cond_t hc hS
      refine zlRun (n := 5) (j := 11) rfl (by kernel_rfl) ?_
      refine bindE hS (fun z54 hz54 hS => ?_)
      refine zlOp (d := some 90) (op := (.call 28 [(.tmp 89)])) (g := (some (86, true))) (j := 12) rfl (by kernel_rfl) (by kernel_rfl) (ev_callA (by kernel_rfl) (f28_ok (d - 1) (dpt hd rfl) a1.Saved.Pen z54 hz54) (by kernel_rfl) (by kernel_rfl)) ?_
      refine zlBool (d := 91) (op := (.cmpI .eql (.tmp 90) (.const (.int .i64 0)))) (g := (some (86, true))) (j := 13) (decide (z54 = 0)) rfl (by kernel_rfl) (by kernel_rfl) (by kernel_rfl) (fun hc => ?_) (fun hc => ?_)
      · replace hS := cond_t hc hS
        refine zlRun (n := 4) (j := 17) rfl (by kernel_rfl) ?_
        refine bindE hS (fun z55 hz55 hS => ?_)
        refine zlOp (d := some 96) (op := (.call 27 [(.tmp 95), (.const (.int .i64 0)), (.const (.int .i64 2047))])) (g := (some (93, true))) (j := 18) rfl (by kernel_rfl) (by kernel_rfl) (ev_callA (by kernel_rfl) (f27_ok (d - 1) (dpt hd rfl) a1.Modes 0 2047 z55 hz55) (by kernel_rfl) (by kernel_rfl)) ?_
        refine zlRun (n := 2) (j := 20) rfl (by kernel_rfl) ?_
        refine zlEnd (by kernel_rfl) ?_
        refine zkSeq ?_
        exact f17_j3_ok hd a1 hQ z55 hS (by kernel_rfl)
      · replace hS := cond_f hc hS
        refine zlRun (n := 7) (j := 20) rfl (by kernel_rfl) ?_
        refine zlEnd (by kernel_rfl) ?_
        refine zkSeq ?_
        exact f17_j3_ok hd a1 hQ false hS (by kernel_rfl)
    · replace hS := cond_f hc hS
      refine zlRun (n := 14) (j := 20) rfl (by kernel_rfl) ?_
      refine zlEnd (by kernel_rfl) ?_
      refine zkSeq ?_
      exact f17_j3_ok hd a1 hQ false hS (by kernel_rfl)
  · replace hS := cond_f hc hS
    refine zlRun (n := 18) (j := 20) rfl (by kernel_rfl) ?_
    refine zlEnd (by kernel_rfl) ?_
    refine zkSeq ?_
    exact f17_j3_ok hd a1 hQ false hS (by kernel_rfl)
def f17_j1_J (a1 : GScreen) (p43 : Bool) : St := ⟨(up (up (up (fun _ => .un) 5 (.d (.bool p43))) 3 (.r (.ptr 32 0 0))) 1 (.r (.ptr 16 0 0))), (up (up (hB fun _ => 0) 32 ⟨0, some (.box ((.d (.int .i64 a1.Grid.Wide)) :: ((.d (.int .i64 a1.Grid.High)) :: ((.d (.sl a1.Grid.Cells.length (e_GCell.cells a1.Grid.Cells))) :: []))))⟩) 16 ⟨0, some (.box (bx_GScreen a1 (.d (.sl a1.Grid.Cells.length (e_GCell.cells a1.Grid.Cells))) (.d (.sl a1.Other.Cells.length (e_GCell.cells a1.Other.Cells))) (.d (.sl a1.Past.length (e_GLine.cells a1.Past)))))⟩)⟩
noncomputable def f17_j1 (a1 : GScreen) (p43 : Bool) : Option (Int) := (bif p43 then ((f27 a1.Top 0 (IntKind.i64.wrap (a1.Bottom - 1))).bind fun z56 => (bif z56 then (bif (decide (a1.Bottom ≤ a1.Grid.High)) then (f17_j2 a1 true) else (f17_j2 a1 false)) else (f17_j2 a1 false))) else (f17_j2 a1 false))
theorem f17_j1_ok {d : Nat} (hd : 6 ≤ d) (a1 : GScreen) {r : Int} {Q : PX → St → Prop} (hQ : ∀ e st', f17_Q r e st' → Q e st') (p43 : Bool) (hS : f17_j1 a1 p43 = some r) {st : St} (he : keepSt [1, 3, 5] [(16, .id 16), (32, .id 32)] [] st = f17_j1_J a1 p43) : ZR (lev codes baseL (d - 1)) Q c17_8 [] st := by
  refine zrKeep he ?_
  unfold f17_j1 at hS
  refine zrSeq ?_
  refine zrReg ?_
  refine zlRun (n := 2) (j := 2) rfl (by kernel_rfl) ?_
  refine zlSplit 64 p43 (by kernel_rfl) (fun hc => ?_) (fun hc => ?_)
  · replace hS := cond_t hc hS
    refine zlRun (n := 5) (j := 7) rfl (by kernel_rfl) ?_
    refine bindE hS (fun z56 hz56 hS => ?_)
    refine zlOp (d := some 70) (op := (.call 27 [(.tmp 66), (.const (.int .i64 0)), (.tmp 69)])) (g := (some (64, true))) (j := 8) rfl (by kernel_rfl) (by kernel_rfl) (ev_callA (by kernel_rfl) (f27_ok (d - 1) (dpt hd rfl) a1.Top 0 (IntKind.i64.wrap (a1.Bottom - 1)) z56 hz56) (by kernel_rfl) (by kernel_rfl)) ?_
    refine zlRun (n := 2) (j := 10) rfl (by kernel_rfl) ?_
    refine zlSplit 72 z56 (by kernel_rfl) (fun hc => ?_) (fun hc => ?_)
    · replace hS := cond_t hc hS
      refine zlRun (n := 4) (j := 14) rfl (by kernel_rfl) ?_
      refine zlBool (d := 77) (op := (.cmpI .leq (.tmp 74) (.tmp 76))) (g := (some (72, true))) (j := 15) (decide (a1.Bottom ≤ a1.Grid.High)) rfl (by kernel_rfl) (by kernel_rfl) (by kernel_rfl) (fun hc => ?_) (fun hc => ?_)
      · replace hS := cond_t hc hS
        refine zlRun (n := 2) (j := 17) rfl (by kernel_rfl) ?_
        refine zlEnd (by kernel_rfl) ?_
        refine zkSeq ?_
        exact f17_j2_ok hd a1 hQ true hS (by kernel_rfl)
      · replace hS := cond_f hc hS
        refine zlRun (n := 2) (j := 17) rfl (by kernel_rfl) ?_
        refine zlEnd (by kernel_rfl) ?_
        refine zkSeq ?_
        exact f17_j2_ok hd a1 hQ false hS (by kernel_rfl)
    · replace hS := cond_f hc hS
      refine zlRun (n := 7) (j := 17) rfl (by kernel_rfl) ?_
      refine zlEnd (by kernel_rfl) ?_
      refine zkSeq ?_
      exact f17_j2_ok hd a1 hQ false hS (by kernel_rfl)
  · replace hS := cond_f hc hS
    refine zlRun (n := 15) (j := 17) rfl (by kernel_rfl) ?_
    refine zlEnd (by kernel_rfl) ?_
    refine zkSeq ?_
    exact f17_j2_ok hd a1 hQ false hS (by kernel_rfl)
def f17_j0_J (a1 : GScreen) (p38 : Bool) : St := ⟨(up (up (up (fun _ => .un) 5 (.d (.bool p38))) 3 (.r (.ptr 32 0 0))) 1 (.r (.ptr 16 0 0))), (up (up (hB fun _ => 0) 32 ⟨0, some (.box ((.d (.int .i64 a1.Grid.Wide)) :: ((.d (.int .i64 a1.Grid.High)) :: ((.d (.sl a1.Grid.Cells.length (e_GCell.cells a1.Grid.Cells))) :: []))))⟩) 16 ⟨0, some (.box (bx_GScreen a1 (.d (.sl a1.Grid.Cells.length (e_GCell.cells a1.Grid.Cells))) (.d (.sl a1.Other.Cells.length (e_GCell.cells a1.Other.Cells))) (.d (.sl a1.Past.length (e_GLine.cells a1.Past)))))⟩)⟩
noncomputable def f17_j0 (a1 : GScreen) (p38 : Bool) : Option (Int) := (bif p38 then ((f27 a1.Row 0 (IntKind.i64.wrap (a1.Grid.High - 1))).bind fun z57 => (bif z57 then ((f27 a1.Col 0 (IntKind.i64.wrap (a1.Grid.Wide - 1))).bind fun z58 => (bif z58 then (bif (!a1.Late) then (f17_j1 a1 true) else (bif (decide (a1.Col = (IntKind.i64.wrap (a1.Grid.Wide - 1)))) then (f17_j1 a1 true) else (f17_j1 a1 false))) else (f17_j1 a1 false))) else (f17_j1 a1 false))) else (f17_j1 a1 false))
theorem f17_j0_ok {d : Nat} (hd : 6 ≤ d) (a1 : GScreen) {r : Int} {Q : PX → St → Prop} (hQ : ∀ e st', f17_Q r e st' → Q e st') (p38 : Bool) (hS : f17_j0 a1 p38 = some r) {st : St} (he : keepSt [1, 3, 5] [(16, .id 16), (32, .id 32)] [] st = f17_j0_J a1 p38) : ZR (lev codes baseL (d - 1)) Q c17_9 [] st := by
  refine zrKeep he ?_
  unfold f17_j0 at hS
  refine zrSeq ?_
  refine zrReg ?_
  refine zlRun (n := 2) (j := 2) rfl (by kernel_rfl) ?_
  refine zlSplit 34 p38 (by kernel_rfl) (fun hc => ?_) (fun hc => ?_)
  · replace hS := cond_t hc hS
    refine zlRun (n := 5) (j := 7) rfl (by kernel_rfl) ?_
    refine bindE hS (fun z57 hz57 hS => ?_)
    refine zlOp (d := some 40) (op := (.call 27 [(.tmp 36), (.const (.int .i64 0)), (.tmp 39)])) (g := (some (34, true))) (j := 8) rfl (by kernel_rfl) (by kernel_rfl) (ev_callA (by kernel_rfl) (f27_ok (d - 1) (dpt hd rfl) a1.Row 0 (IntKind.i64.wrap (a1.Grid.High - 1)) z57 hz57) (by kernel_rfl) (by kernel_rfl)) ?_
    refine zlRun (n := 2) (j := 10) rfl (by kernel_rfl) ?_
    refine zlSplit 42 z57 (by kernel_rfl) (fun hc => ?_) (fun hc => ?_)
    · replace hS := cond_t hc hS
      refine zlRun (n := 5) (j := 15) rfl (by kernel_rfl) ?_
      refine bindE hS (fun z58 hz58 hS => ?_)
      refine zlOp (d := some 48) (op := (.call 27 [(.tmp 44), (.const (.int .i64 0)), (.tmp 47)])) (g := (some (42, true))) (j := 16) rfl (by kernel_rfl) (by kernel_rfl) (ev_callA (by kernel_rfl) (f27_ok (d - 1) (dpt hd rfl) a1.Col 0 (IntKind.i64.wrap (a1.Grid.Wide - 1)) z58 hz58) (by kernel_rfl) (by kernel_rfl)) ?_
      refine zlRun (n := 2) (j := 18) rfl (by kernel_rfl) ?_
      refine zlSplit 50 z58 (by kernel_rfl) (fun hc => ?_) (fun hc => ?_)
      · replace hS := cond_t hc hS
        refine zlRun (n := 4) (j := 22) rfl (by kernel_rfl) ?_
        refine zlSplit 54 (!a1.Late) (by kernel_rfl) (fun hc => ?_) (fun hc => ?_)
        · replace hS := cond_t hc hS
          refine zlRun (n := 9) (j := 31) rfl (by kernel_rfl) ?_
          refine zlEnd (by kernel_rfl) ?_
          refine zkSeq ?_
          exact f17_j1_ok hd a1 hQ true hS (by kernel_rfl)
        · replace hS := cond_f hc hS
          refine zlRun (n := 5) (j := 27) rfl (by kernel_rfl) ?_
          refine zlBool (d := 60) (op := (.cmpI .eql (.tmp 56) (.tmp 59))) (g := (some (54, false))) (j := 28) (decide (a1.Col = (IntKind.i64.wrap (a1.Grid.Wide - 1)))) rfl (by kernel_rfl) (by kernel_rfl) (by kernel_rfl) (fun hc => ?_) (fun hc => ?_)
          · replace hS := cond_t hc hS
            refine zlRun (n := 3) (j := 31) rfl (by kernel_rfl) ?_
            refine zlEnd (by kernel_rfl) ?_
            refine zkSeq ?_
            exact f17_j1_ok hd a1 hQ true hS (by kernel_rfl)
          · replace hS := cond_f hc hS
            refine zlRun (n := 3) (j := 31) rfl (by kernel_rfl) ?_
            refine zlEnd (by kernel_rfl) ?_
            refine zkSeq ?_
            exact f17_j1_ok hd a1 hQ false hS (by kernel_rfl)
      · replace hS := cond_f hc hS
        refine zlRun (n := 13) (j := 31) rfl (by kernel_rfl) ?_
        refine zlEnd (by kernel_rfl) ?_
        refine zkSeq ?_
        exact f17_j1_ok hd a1 hQ false hS (by kernel_rfl)
    · replace hS := cond_f hc hS
      refine zlRun (n := 21) (j := 31) rfl (by kernel_rfl) ?_
      refine zlEnd (by kernel_rfl) ?_
      refine zkSeq ?_
      exact f17_j1_ok hd a1 hQ false hS (by kernel_rfl)
  · replace hS := cond_f hc hS
    refine zlRun (n := 29) (j := 31) rfl (by kernel_rfl) ?_
    refine zlEnd (by kernel_rfl) ?_
    refine zkSeq ?_
    exact f17_j1_ok hd a1 hQ false hS (by kernel_rfl)
noncomputable def f17 (a1 : GScreen) : Option (Int) := ((f26 a1.Grid).bind fun z59 => (bif (decide (z59 = 0)) then ((f26 a1.Other).bind fun z60 => (bif (decide (z60 = 0)) then (bif (decide (a1.Grid.Wide = a1.Other.Wide)) then (bif (decide (a1.Grid.High = a1.Other.High)) then (f17_j0 a1 true) else (f17_j0 a1 false)) else (f17_j0 a1 false)) else (f17_j0 a1 false))) else (f17_j0 a1 false)))
theorem f17_ok (d : Nat) (hd : 6 ≤ d) (a1 : GScreen) (r : Int) (hS : f17 a1 = some r) : lev codes baseL d 17 [(.agg ((.d (.int .i64 a1.Grid.Wide)) :: ((.d (.int .i64 a1.Grid.High)) :: ((.d (.sl a1.Grid.Cells.length (e_GCell.cells a1.Grid.Cells))) :: ((.d (.int .i64 a1.Row)) :: ((.d (.int .i64 a1.Col)) :: ((.d (.bool a1.Late)) :: ((.d (.int .i64 a1.Top)) :: ((.d (.int .i64 a1.Bottom)) :: ((.d (.int .i64 a1.Pen.Flags)) :: ((.d (.int .i64 a1.Pen.Fore)) :: ((.d (.int .i64 a1.Pen.Back)) :: ((.d (.int .i64 a1.Modes)) :: (((eInt .u64).row 4 a1.Stops.Bits) ++ ((.d (.int .i64 a1.Pages.1)) :: ((.d (.int .i64 a1.Pages.2)) :: ((.d (.int .i64 a1.Shift)) :: ((.d (.int .i64 a1.Saved.Row)) :: ((.d (.int .i64 a1.Saved.Col)) :: ((.d (.int .i64 a1.Saved.Pen.Flags)) :: ((.d (.int .i64 a1.Saved.Pen.Fore)) :: ((.d (.int .i64 a1.Saved.Pen.Back)) :: ((.d (.bool a1.Saved.Origin)) :: ((.d (.int .i64 a1.Saved.Pages.1)) :: ((.d (.int .i64 a1.Saved.Pages.2)) :: ((.d (.int .i64 a1.Saved.Shift)) :: ((.d (.int .i64 a1.Other.Wide)) :: ((.d (.int .i64 a1.Other.High)) :: ((.d (.sl a1.Other.Cells.length (e_GCell.cells a1.Other.Cells))) :: ((.d (.str a1.Title)) :: ((.d (.sl a1.Past.length (e_GLine.cells a1.Past))) :: [])))))))))))))))))))))))))))))))] [] = some ((.d (.int .i64 r)), []) := by
  refine lev_go codes17 rfl rfl (Nat.le_trans (Nat.le_of_ble_eq_true rfl) hd) fun Q hQ => ?_
  unfold f17 at hS
  show ZR _ Q c17_b [] _
  replace hQ : ∀ e st', f17_Q r e st' → Q e st' := hQ
  refine zrSeq ?_
  refine zrReg ?_
  refine zlRun (n := 2) (j := 2) rfl (by kernel_rfl) ?_
  refine zlEnd (by kernel_rfl) ?_
  refine zkSeq ?_
  refine zrSeq ?_
  refine zrRegD ?_
  refine zdRun (n := 8) (j := 8) (ts := [[], [(16, false)], [], [(16, false)], [(32, true)], [(40, true)], [(32, true)], [(40, true)]]) (acc' := [[], [(16, false)], [], [(16, false)], [(32, true)], [(40, true)], [(32, true)], [(40, true)]]) rfl (by kernel_rfl) (by kernel_rfl) (by kernel_rfl) ?_
  refine zdEnd (by kernel_rfl) (by kernel_rfl) ?_
  refine zkSeq ?_
  refine zrSeq ?_
  refine zrReg ?_
  refine zlRun (n := 1) (j := 1) rfl (by kernel_rfl) ?_
  refine bindE hS (fun z59 hz59 hS => ?_)
  refine zlOp (d := some 12) (op := (.call 26 [(.tmp 11)])) (g := none) (j := 2) rfl (by kernel_rfl) (by kernel_rfl) (ev_callA (by kernel_rfl) (f26_ok (d - 1) (dpt hd rfl) a1.Grid z59 hz59) (by kernel_rfl) (by kernel_rfl)) ?_
  refine zlBool (d := 13) (op := (.cmpI .eql (.tmp 12) (.const (.int .i64 0)))) (g := none) (j := 3) (decide (z59 = 0)) rfl (by kernel_rfl) (by kernel_rfl) (by kernel_rfl) (fun hc => ?_) (fun hc => ?_)
  · replace hS := cond_t hc hS
    refine zlRun (n := 2) (j := 5) rfl (by kernel_rfl) ?_
    refine bindE hS (fun z60 hz60 hS => ?_)
    refine zlOp (d := some 16) (op := (.call 26 [(.tmp 15)])) (g := (some (14, true))) (j := 6) rfl (by kernel_rfl) (by kernel_rfl) (ev_callA (by kernel_rfl) (f26_ok (d - 1) (dpt hd rfl) a1.Other z60 hz60) (by kernel_rfl) (by kernel_rfl)) ?_
    refine zlBool (d := 17) (op := (.cmpI .eql (.tmp 16) (.const (.int .i64 0)))) (g := (some (14, true))) (j := 7) (decide (z60 = 0)) rfl (by kernel_rfl) (by kernel_rfl) (by kernel_rfl) (fun hc => ?_) (fun hc => ?_)
    · replace hS := cond_t hc hS
      refine zlRun (n := 6) (j := 13) rfl (by kernel_rfl) ?_
      refine zlBool (d := 24) (op := (.cmpI .eql (.tmp 21) (.tmp 23))) (g := (some (19, true))) (j := 14) (decide (a1.Grid.Wide = a1.Other.Wide)) rfl (by kernel_rfl) (by kernel_rfl) (by kernel_rfl) (fun hc => ?_) (fun hc => ?_)
      · replace hS := cond_t hc hS
        refine zlRun (n := 6) (j := 20) rfl (by kernel_rfl) ?_
        refine zlBool (d := 31) (op := (.cmpI .eql (.tmp 28) (.tmp 30))) (g := (some (26, true))) (j := 21) (decide (a1.Grid.High = a1.Other.High)) rfl (by kernel_rfl) (by kernel_rfl) (by kernel_rfl) (fun hc => ?_) (fun hc => ?_)
        · replace hS := cond_t hc hS
          refine zlRun (n := 2) (j := 23) rfl (by kernel_rfl) ?_
          refine zlEnd (by kernel_rfl) ?_
          refine zkSeq ?_
          exact f17_j0_ok hd a1 hQ true hS (by kernel_rfl)
        · replace hS := cond_f hc hS
          refine zlRun (n := 2) (j := 23) rfl (by kernel_rfl) ?_
          refine zlEnd (by kernel_rfl) ?_
          refine zkSeq ?_
          exact f17_j0_ok hd a1 hQ false hS (by kernel_rfl)
      · replace hS := cond_f hc hS
        refine zlRun (n := 9) (j := 23) rfl (by kernel_rfl) ?_
        refine zlEnd (by kernel_rfl) ?_
        refine zkSeq ?_
        exact f17_j0_ok hd a1 hQ false hS (by kernel_rfl)
    · replace hS := cond_f hc hS
      refine zlRun (n := 16) (j := 23) rfl (by kernel_rfl) ?_
      refine zlEnd (by kernel_rfl) ?_
      refine zkSeq ?_
      exact f17_j0_ok hd a1 hQ false hS (by kernel_rfl)
  · replace hS := cond_f hc hS
    refine zlRun (n := 20) (j := 23) rfl (by kernel_rfl) ?_
    refine zlEnd (by kernel_rfl) ?_
    refine zkSeq ?_
    exact f17_j0_ok hd a1 hQ false hS (by kernel_rfl)
/- slices.Collect[[]farwriter/api.Cell] -/
def libCollect (a1 : GScreen) : Option (List (List GCell)) := clT a1.Grid.Wide a1.Grid.High a1.Grid.Cells a1.Past (fun x : GLine => x.Cells)
theorem libCR_ok (d : Nat) (hd : 0 ≤ d) (a1 : GScreen) : lev codes baseL d 19 [(.agg ((.d (.int .i64 a1.Grid.Wide)) :: ((.d (.int .i64 a1.Grid.High)) :: ((.d (.sl a1.Grid.Cells.length (e_GCell.cells a1.Grid.Cells))) :: ((.d (.int .i64 a1.Row)) :: ((.d (.int .i64 a1.Col)) :: ((.d (.bool a1.Late)) :: ((.d (.int .i64 a1.Top)) :: ((.d (.int .i64 a1.Bottom)) :: ((.d (.int .i64 a1.Pen.Flags)) :: ((.d (.int .i64 a1.Pen.Fore)) :: ((.d (.int .i64 a1.Pen.Back)) :: ((.d (.int .i64 a1.Modes)) :: (((eInt .u64).row 4 a1.Stops.Bits) ++ ((.d (.int .i64 a1.Pages.1)) :: ((.d (.int .i64 a1.Pages.2)) :: ((.d (.int .i64 a1.Shift)) :: ((.d (.int .i64 a1.Saved.Row)) :: ((.d (.int .i64 a1.Saved.Col)) :: ((.d (.int .i64 a1.Saved.Pen.Flags)) :: ((.d (.int .i64 a1.Saved.Pen.Fore)) :: ((.d (.int .i64 a1.Saved.Pen.Back)) :: ((.d (.bool a1.Saved.Origin)) :: ((.d (.int .i64 a1.Saved.Pages.1)) :: ((.d (.int .i64 a1.Saved.Pages.2)) :: ((.d (.int .i64 a1.Saved.Shift)) :: ((.d (.int .i64 a1.Other.Wide)) :: ((.d (.int .i64 a1.Other.High)) :: ((.d (.sl a1.Other.Cells.length (e_GCell.cells a1.Other.Cells))) :: ((.d (.str a1.Title)) :: ((.d (.sl a1.Past.length (e_GLine.cells a1.Past))) :: [])))))))))))))))))))))))))))))))] [] = some (.fn 32 [.rptr (e_RGScreen.enc a1 ++ [])], []) := clR_call rfl (by kernel_rfl) (by kernel_rfl) d
theorem libCC_ok (d : Nat) (hd : 0 ≤ d) (a1 : GScreen) (r : List (List GCell)) (hS : libCollect a1 = some r) : lev codes baseL d 18 [(.fn 32 [.rptr (e_RGScreen.enc a1 ++ [])])] [] = some ((.d (.sl r.length ((eSl e_GCell).cells r))), []) := clT_call (E := e_GCell) (L := e_GLine) rfl rfl rfl (fun _ => rfl) (fun _ => rfl) (by kernel_rfl) (by kernel_rfl) (by kernel_rfl) (by kernel_rfl) hS d
/- farwriter/clip.Rows -/
def f10_fin (p3 : List (List GCell)) (p4 : Int) : St := ⟨(up (up (fun _ => .un) 3 (.d (.int .i64 p4))) 2 (.d (.sl p3.length ((eSl e_GCell).cells p3)))), (hB fun _ => 0)⟩
theorem f10_out (p3 : List (List GCell)) (p4 : Int) : outR (f10_fin p3 p4) 0 c10.res = some ((.tup [(.d (.sl p3.length ((eSl e_GCell).cells p3))), (.d (.int .i64 p4))]), []) := by
  kernel_rfl
def f10_Q (r : (List (List GCell)) × Int) (e : PX) (st : St) : Prop := DoneF c10 0 ((.tup [(.d (.sl r.1.length ((eSl e_GCell).cells r.1))), (.d (.int .i64 r.2))]), []) e st
noncomputable def f10 (a1 : GScreen) : Option ((List (List GCell)) × Int) := ((f17 a1).bind fun z3 => (bif (!decide (z3 = 0)) then (some ([], z3)) else ((libCollect a1).bind fun z4 => (some (z4, 0)))))
theorem f10_ok (d : Nat) (hd : 7 ≤ d) (a1 : GScreen) (r : (List (List GCell)) × Int) (hS : f10 a1 = some r) : lev codes baseL d 10 [(.agg ((.d (.int .i64 a1.Grid.Wide)) :: ((.d (.int .i64 a1.Grid.High)) :: ((.d (.sl a1.Grid.Cells.length (e_GCell.cells a1.Grid.Cells))) :: ((.d (.int .i64 a1.Row)) :: ((.d (.int .i64 a1.Col)) :: ((.d (.bool a1.Late)) :: ((.d (.int .i64 a1.Top)) :: ((.d (.int .i64 a1.Bottom)) :: ((.d (.int .i64 a1.Pen.Flags)) :: ((.d (.int .i64 a1.Pen.Fore)) :: ((.d (.int .i64 a1.Pen.Back)) :: ((.d (.int .i64 a1.Modes)) :: (((eInt .u64).row 4 a1.Stops.Bits) ++ ((.d (.int .i64 a1.Pages.1)) :: ((.d (.int .i64 a1.Pages.2)) :: ((.d (.int .i64 a1.Shift)) :: ((.d (.int .i64 a1.Saved.Row)) :: ((.d (.int .i64 a1.Saved.Col)) :: ((.d (.int .i64 a1.Saved.Pen.Flags)) :: ((.d (.int .i64 a1.Saved.Pen.Fore)) :: ((.d (.int .i64 a1.Saved.Pen.Back)) :: ((.d (.bool a1.Saved.Origin)) :: ((.d (.int .i64 a1.Saved.Pages.1)) :: ((.d (.int .i64 a1.Saved.Pages.2)) :: ((.d (.int .i64 a1.Saved.Shift)) :: ((.d (.int .i64 a1.Other.Wide)) :: ((.d (.int .i64 a1.Other.High)) :: ((.d (.sl a1.Other.Cells.length (e_GCell.cells a1.Other.Cells))) :: ((.d (.str a1.Title)) :: ((.d (.sl a1.Past.length (e_GLine.cells a1.Past))) :: [])))))))))))))))))))))))))))))))] [] = some ((.tup [(.d (.sl r.1.length ((eSl e_GCell).cells r.1))), (.d (.int .i64 r.2))]), []) := by
  refine lev_go codes10 rfl rfl (Nat.le_trans (Nat.le_of_ble_eq_true rfl) hd) fun Q hQ => ?_
  unfold f10 at hS
  show ZR _ Q c10_b [] _
  replace hQ : ∀ e st', f10_Q r e st' → Q e st' := hQ
  refine zrSeq ?_
  refine zrReg ?_
  refine zlRun (n := 3) (j := 3) rfl (by kernel_rfl) ?_
  refine zlEnd (by kernel_rfl) ?_
  refine zkSeq ?_
  refine zrSeq ?_
  refine zrSeq ?_
  refine zrReg ?_
  refine zlRun (n := 1) (j := 1) rfl (by kernel_rfl) ?_
  refine bindE hS (fun z3 hz3 hS => ?_)
  refine zlOp (d := some 6) (op := (.call 17 [(.tmp 5)])) (g := none) (j := 2) rfl (by kernel_rfl) (by kernel_rfl) (ev_callA (by kernel_rfl) (f17_ok (d - 1) (dpt hd rfl) a1 z3 hz3) (by kernel_rfl) (by kernel_rfl)) ?_
  refine zlRun (n := 1) (j := 3) rfl (by kernel_rfl) ?_
  refine zlEnd (by kernel_rfl) ?_
  refine zkSeq ?_
  refine zrSeq ?_
  refine zrReg ?_
  refine zlRun (n := 1) (j := 1) rfl (by kernel_rfl) ?_
  refine zlBool (d := 8) (op := (.cmpI .neq (.tmp 7) (.const (.int .i64 0)))) (g := none) (j := 2) (!decide (z3 = 0)) rfl (by kernel_rfl) (by kernel_rfl) (by kernel_rfl) (fun hc => ?_) (fun hc => ?_)
  · replace hS := cond_t hc hS
    refine zlEnd (by kernel_rfl) ?_
    refine zkSeq ?_
    refine zrCondT (by kernel_rfl) ?_
    refine zrSeq ?_
    refine zrReg ?_
    refine zlRun (n := 3) (j := 3) rfl (by kernel_rfl) ?_
    refine zlEnd (by kernel_rfl) ?_
    refine zkSeq ?_
    refine zrRet ?_
    refine zkSeqR ?_
    refine zkNil ?_
    exact endQ hS hQ (fRet (by kernel_rfl) ((congrArg (fun s => outR s 0 c10.res) (by kernel_rfl : finSt c10.fin _ = f10_fin [] z3)).trans (f10_out [] z3)))
  · replace hS := cond_f hc hS
    refine zlEnd (by kernel_rfl) ?_
    refine zkSeq ?_
    refine zrCondF (by kernel_rfl) ?_
    refine zrSkip ?_
    refine zkSeq ?_
    refine zrSeq ?_
    refine zrReg ?_
    refine zlRun (n := 1) (j := 1) rfl (by kernel_rfl) ?_
    refine zlOp (d := some 11) (op := (.call 19 [(.tmp 10)])) (g := none) (j := 2) rfl (by kernel_rfl) (by kernel_rfl) (ev_callA (by kernel_rfl) (libCR_ok (d - 1) (dpt hd rfl) a1) (by kernel_rfl) (by kernel_rfl)) ?_
    refine bindE hS (fun z4 hz4 hS => ?_)
    refine zlOp (d := some 12) (op := (.call 18 [(.tmp 11)])) (g := none) (j := 3) rfl (by kernel_rfl) (by kernel_rfl) (ev_callA (by kernel_rfl) (libCC_ok (d - 1) (dpt hd rfl) a1 z4 hz4) (by kernel_rfl) (by kernel_rfl)) ?_
    refine zlRun (n := 2) (j := 5) rfl (by kernel_rfl) ?_
    refine zlEnd (by kernel_rfl) ?_
    refine zkSeq ?_
    refine zrRet ?_
    refine zkNil ?_
    exact endQ hS hQ (fRet (by kernel_rfl) ((congrArg (fun s => outR s 0 c10.res) (by kernel_rfl : finSt c10.fin _ = f10_fin z4 0)).trans (f10_out z4 0)))
/- farwriter/clip.text -/
def f13_fin (p74 : List Int) : St := ⟨(up (fun _ => .un) 6 (.r (.msl 665 0 0 p74.length))), (up (hB fun _ => 0) 665 ⟨0, some (.own 3 1 ((eInt .i64).cells p74))⟩)⟩
theorem f13_out (p74 : List Int) : outR (f13_fin p74) 0 c13.res = some ((.r (.own 0 3 1 p74.length ((eInt .i64).cells p74))), []) := by
  exact out_of (ids := []) (ids' := [665]) (l := [(.r (.msl 665 0 0 p74.length))]) (by kernel_rfl) (by kernel_rfl) (o_own (eInt .i64) (e := 3) (k := 1) (xs := p74) (by kernel_rfl) rfl rfl rfl rfl)
def f13_Q (r : (List Int)) (e : PX) (st : St) : Prop := DoneF c13 0 ((.r (.own 0 3 1 r.length ((eInt .i64).cells r))), []) e st
def f13_l4_J (a1 : List GCell) (a2 : Int) (a3 : Int) (x : (List Int)) : St := ⟨(up (fun _ => .un) 7 (.r (.msl 64 0 0 x.length))), (up (hB fun _ => 0) 64 ⟨0, some (.own 3 1 ((eInt .i64).cells x))⟩)⟩
def f13_l4_H (a1 : List GCell) (a2 : Int) (a3 : Int) (x : (List Int)) (st : St) : Prop := keepSt [7] [(64, .id 64)] [] st = f13_l4_J a1 a2 a3 x
def f13_l4_e2_J (a1 : List GCell) (a2 : Int) (a3 : Int) (p151 : List Int) : St := ⟨(up (fun _ => .un) 7 (.r (.msl 64 0 0 p151.length))), (up (hB fun _ => 0) 64 ⟨0, some (.own 3 1 ((eInt .i64).cells p151))⟩)⟩
def f13_l4_X (a1 : List GCell) (a2 : Int) (a3 : Int) (z : ((List Int))) (e : PX) (st : St) : Prop := e = .exit 2 ∧ st = f13_l4_e2_J a1 a2 a3 z
noncomputable def f13_l4 (a1 : List GCell) (a2 : Int) (a3 : Int) (x : (List Int)) : Option (((List Int)) ⊕ (((List Int)))) := (bif (decide (0 < (x.length : Int))) then ((inR (IntKind.i64.wrap ((x.length : Int) - 1)) x.length).bind fun m35 => ((x[m35]?).bind fun z36 => (bif (decide (z36 = 32)) then ((sub? x 0 (IntKind.i64.wrap ((x.length : Int) - 1))).bind fun z37 => (some (.inl z37))) else (some (.inr x))))) else (some (.inr x)))
theorem f13_l4_ok {d : Nat} (hd : 1 ≤ d) (a1 : List GCell) (a2 : Int) (a3 : Int) {r : ((List Int)) ⊕ (((List Int)))} {Q : PX → St → Prop} (hQ : ∀ e st', finL (f13_l4_H a1 a2 a3) (f13_l4_X a1 a2 a3) r e st' → Q e st') {x : (List Int)} (hS : f13_l4 a1 a2 a3 x = some r) {st : St} (he : f13_l4_H a1 a2 a3 x st) : ZR (lev codes baseL (d - 1)) Q c13_1 [] st := by
  refine zrKeep he ?_
  unfold f13_l4 at hS
  refine zrSeq ?_
  refine zrSeq ?_
  refine zrReg ?_
  refine zlRun (n := 2) (j := 2) rfl (by kernel_rfl) ?_
  refine zlBool (d := 63) (op := (.cmpI .gtr (.tmp 62) (.const (.int .i64 0)))) (g := none) (j := 3) (decide (0 < (x.length : Int))) rfl (by kernel_rfl) (by kernel_rfl) (by kernel_rfl) (fun hc => ?_) (fun hc => ?_)
  · replace hS := cond_t hc hS
    refine zlRun (n := 5) (j := 8) rfl (by kernel_rfl) ?_
    refine bindE hS (fun m35 hm35 hS => ?_)
    refine zlOp (d := some 69) (op := (.ixS 3 1 (.tmp 65) (.tmp 68))) (g := (some (64, true))) (v := (.r (.ptr 64 0 ((0 + m35) * 1)))) (ups := []) (j := 9) rfl (by kernel_rfl) (by kernel_rfl) (ev_ixM (kk := .i64) (b := 64) (g := 0) (l := 0) (n := x.length) (j := (IntKind.i64.wrap ((x.length : Int) - 1))) (cs := (eInt .i64).cells x) (by kernel_rfl) (by kernel_rfl) (by kernel_rfl) hm35) ?_
    refine bindE hS (fun z36 hz36 hS => ?_)
    refine zlOp (d := some 70) (op := (.load .false 1 (.tmp 69))) (g := (some (64, true))) (v := (.d (.int .i64 z36))) (ups := []) (j := 10) rfl (by kernel_rfl) (by kernel_rfl) (ev_loadM (eInt .i64) (b := 64) (g := 0) (o := (0 + m35) * 1) (e := 3) (k := 1) (m := m35) (fo := 0) (xs := x) (by kernel_rfl) (by kernel_rfl) (by rw [Nat.zero_add]; rfl) hz36 (by kernel_rfl) (by kernel_rfl) (by kernel_rfl)) ?_
    refine zlBool (d := 71) (op := (.cmpI .eql (.tmp 70) (.const (.int .i64 32)))) (g := (some (64, true))) (j := 11) (decide (z36 = 32)) rfl (by kernel_rfl) (by kernel_rfl) (by kernel_rfl) (fun hc => ?_) (fun hc => ?_)
    · replace hS := cond_t hc hS
      refine zlRun (n := 1) (j := 12) rfl (by kernel_rfl) ?_
      refine zlEnd (by kernel_rfl) ?_
      refine zkSeq ?_
      refine zrCondT (by kernel_rfl) ?_
      refine zrSkip ?_
      refine zkSeq ?_
      refine zrBlk ?_
      refine zrReg ?_
      refine zlRun (n := 4) (j := 4) rfl (by kernel_rfl) ?_
      refine bindE hS (fun z37 hz37 hS => ?_)
      refine zlOp (d := some 77) (op := (.slC 3 1 (.tmp 73) .none (.some (.tmp 76)))) (g := none) (v := (.r (.msl 64 1 0 z37.length))) (ups := [(64, ⟨1, some (.own 3 1 ((eInt .i64).cells z37))⟩)]) (j := 5) rfl (by kernel_rfl) (by kernel_rfl) (ev_slC (eInt .i64) (b := 64) (g := 0) (n := x.length) (c := (IntKind.i64.wrap ((x.length : Int) - 1))) (xs := x) (by kernel_rfl) rfl (by kernel_rfl) rfl (bnd_n 0) (bnd_s _ (kk := .i64) (j := (IntKind.i64.wrap ((x.length : Int) - 1))) (by kernel_rfl)) hz37) ?_
      refine zlRun (n := 1) (j := 6) rfl (by kernel_rfl) ?_
      refine zlEnd (by kernel_rfl) ?_
      refine zkBlk ?_
      refine zkNil ?_
      exact endQ hS hQ (finL_n (by show keepSt _ _ _ _ = _; kernel_rfl))
    · replace hS := cond_f hc hS
      refine zlRun (n := 1) (j := 12) rfl (by kernel_rfl) ?_
      refine zlEnd (by kernel_rfl) ?_
      refine zkSeq ?_
      refine zrCondF (by kernel_rfl) ?_
      refine zrKeep (J := f13_l4_e2_J a1 a2 a3 x) (by kernel_rfl) ?_
      refine zrExit ?_
      refine zkSeqX ?_
      refine zkNil ?_
      exact endQ hS hQ (finL_x (by intro h; cases h) (by show _ = _ ∧ _ = _; exact ⟨rfl, rfl⟩))
  · replace hS := cond_f hc hS
    refine zlRun (n := 9) (j := 12) rfl (by kernel_rfl) ?_
    refine zlEnd (by kernel_rfl) ?_
    refine zkSeq ?_
    refine zrCondF (by kernel_rfl) ?_
    refine zrKeep (J := f13_l4_e2_J a1 a2 a3 x) (by kernel_rfl) ?_
    refine zrExit ?_
    refine zkSeqX ?_
    refine zkNil ?_
    exact endQ hS hQ (finL_x (by intro h; cases h) (by show _ = _ ∧ _ = _; exact ⟨rfl, rfl⟩))
def f13_j3_J (a1 : List GCell) (a2 : Int) (a3 : Int) (p138 : List Int) : St := ⟨(up (fun _ => .un) 7 (.r (.msl 64 0 0 p138.length))), (up (hB fun _ => 0) 64 ⟨0, some (.own 3 1 ((eInt .i64).cells p138))⟩)⟩
noncomputable def f13_j3 (a1 : List GCell) (a2 : Int) (a3 : Int) (p138 : List Int) : Option ((List Int)) := ((loopO (f13_l4 a1 a2 a3) p138).bind fun z38 => (some z38))
theorem f13_j3_ok {d : Nat} (hd : 1 ≤ d) (a1 : List GCell) (a2 : Int) (a3 : Int) {r : (List Int)} {Q : PX → St → Prop} (hQ : ∀ e st', f13_Q r e st' → Q e st') (p138 : List Int) (hS : f13_j3 a1 a2 a3 p138 = some r) {st : St} (he : keepSt [7] [(64, .id 64)] [] st = f13_j3_J a1 a2 a3 p138) : ZR (lev codes baseL (d - 1)) Q c13_2 [] st := by
  refine zrKeep he ?_
  unfold f13_j3 at hS
  refine zrSeq ?_
  refine zrBlk ?_
  refine bindE hS (fun z38 hz38 hS => ?_)
  refine zrLoop (f13_l4_H a1 a2 a3) (f13_l4_X a1 a2 a3) (fun x st r Q h0 hS hQ => f13_l4_ok hd a1 a2 a3 hQ hS h0) (x := p138) (z := z38) (by show keepSt _ _ _ _ = _; kernel_rfl) hz38 ?_
  intro e st' _ hX
  obtain ⟨rfl, rfl⟩ : _ ∧ _ := hX
  refine zkBlkX ?_
  refine zkSeq ?_
  refine zrSeq ?_
  refine zrReg ?_
  refine zlRun (n := 2) (j := 2) rfl (by kernel_rfl) ?_
  refine zlEnd (by kernel_rfl) ?_
  refine zkSeq ?_
  refine zrRet ?_
  refine zkNil ?_
  exact endQ hS hQ (fRet (by kernel_rfl) ((congrArg (fun s => outR s 0 c13.res) (by kernel_rfl : finSt c13.fin _ = f13_fin z38)).trans (f13_out z38)))
def f13_l5_J (a1 : List GCell) (a2 : Int) (a3 : Int) (x : (List Int) × (List GCell) × Int × Int) : St := ⟨(up (up (up (up (fun _ => .un) 48 (.d (.int .i64 x.2.2.2))) 47 (.d (.int .i64 x.2.2.1))) 46 (.d (.sl x.2.1.length (e_GCell.cells x.2.1)))) 7 (.r (.msl 64 0 0 x.1.length))), (up (hB fun _ => 0) 64 ⟨0, some (.own 3 1 ((eInt .i64).cells x.1))⟩)⟩
def f13_l5_H (a1 : List GCell) (a2 : Int) (a3 : Int) (x : (List Int) × (List GCell) × Int × Int) (st : St) : Prop := keepSt [7, 46, 47, 48] [(64, .id 64)] [] st = f13_l5_J a1 a2 a3 x
def f13_l5_e0_J (a1 : List GCell) (a2 : Int) (a3 : Int) (p202 : List Int) : St := ⟨(up (fun _ => .un) 7 (.r (.msl 64 0 0 p202.length))), (up (hB fun _ => 0) 64 ⟨0, some (.own 3 1 ((eInt .i64).cells p202))⟩)⟩
def f13_l5_X (a1 : List GCell) (a2 : Int) (a3 : Int) (z : ((List Int))) (e : PX) (st : St) : Prop := e = .exit 0 ∧ st = f13_l5_e0_J a1 a2 a3 z
def f13_l5_j7_J (a1 : List GCell) (a2 : Int) (a3 : Int) (p213 : List Int) (p214 : List GCell) (p215 : Int) (p216 : Int) : St := ⟨(up (up (up (up (fun _ => .un) 48 (.d (.int .i64 p216))) 47 (.d (.int .i64 p215))) 46 (.d (.sl p214.length (e_GCell.cells p214)))) 7 (.r (.msl 64 0 0 p213.length))), (up (hB fun _ => 0) 64 ⟨0, some (.own 3 1 ((eInt .i64).cells p213))⟩)⟩
noncomputable def f13_l5_j7 (a1 : List GCell) (a2 : Int) (a3 : Int) (p213 : List Int) (p214 : List GCell) (p215 : Int) (p216 : Int) : Option (((List Int) × (List GCell) × Int × Int) ⊕ (((List Int)))) := ((idx p214 p216).bind fun z46 => (bif (!decide (z46.Rune = 0)) then ((app? 8 p213 ([z46.Rune] : List Int)).bind fun z47 => (some (.inl (z47, p214, p215, (IntKind.i64.wrap (p216 + 1)))))) else (some (.inl (p213, p214, p215, (IntKind.i64.wrap (p216 + 1)))))))
theorem f13_l5_j7_ok {d : Nat} (hd : 1 ≤ d) (a1 : List GCell) (a2 : Int) (a3 : Int) {r : ((List Int) × (List GCell) × Int × Int) ⊕ (((List Int)))} {Q : PX → St → Prop} (hQ : ∀ e st', finL (f13_l5_H a1 a2 a3) (f13_l5_X a1 a2 a3) r e st' → Q e st') (p213 : List Int) (p214 : List GCell) (p215 : Int) (p216 : Int) (hS : f13_l5_j7 a1 a2 a3 p213 p214 p215 p216 = some r) {st : St} (he : keepSt [7, 46, 47, 48] [(64, .id 64)] [] st = f13_l5_j7_J a1 a2 a3 p213 p214 p215 p216) : ZR (lev codes baseL (d - 1)) Q c13_3 [] st := by
  refine zrKeep he ?_
  unfold f13_l5_j7 at hS
  refine zrSeq ?_
  refine zrBlk ?_
  refine zrSeq ?_
  refine zrReg ?_
  refine bindE hS (fun z46 hz46 hS => ?_)
  refine zlOp (d := some 50) (op := (.ixS 51 4 (.tmp 46) (.tmp 48))) (g := none) (v := (.rptr (e_GCell.enc z46 ++ (e_GCell.cells (p214.drop ((p216 : Int).toNat + 1)))))) (ups := []) (j := 1) rfl (by kernel_rfl) (by kernel_rfl) (ev_ixS e_GCell (kk := .i64) (xs := p214) (j := p216) (by kernel_rfl) (by kernel_rfl) hz46 rfl (by intro h; cases h)) ?_
  refine zlRun (n := 3) (j := 4) rfl (by kernel_rfl) ?_
  refine zlEnd (by kernel_rfl) ?_
  refine zkSeq ?_
  refine zrSeq ?_
  refine zrReg ?_
  refine zlRun (n := 2) (j := 2) rfl (by kernel_rfl) ?_
  refine zlBool (d := 54) (op := (.cmpI .neq (.tmp 53) (.const (.int .i64 0)))) (g := none) (j := 3) (!decide (z46.Rune = 0)) rfl (by kernel_rfl) (by kernel_rfl) (by kernel_rfl) (fun hc => ?_) (fun hc => ?_)
  · replace hS := cond_t hc hS
    refine zlEnd (by kernel_rfl) ?_
    refine zkSeq ?_
    refine zrCondT (by kernel_rfl) ?_
    refine zrReg ?_
    refine zlRun (n := 4) (j := 4) rfl (by kernel_rfl) ?_
    refine bindE hS (fun z47 hz47 hS => ?_)
    refine zlOp (d := some 59) (op := (.app 3 1 8 (.tmp 55) (.tmp 58))) (g := none) (v := (.r (.msl 64 1 0 z47.length))) (ups := [(64, ⟨1, some (.own 3 1 ((eInt .i64).cells z47))⟩)]) (j := 5) rfl (by kernel_rfl) (by kernel_rfl) (ev_app (eInt .i64) (b := 64) (g := 0) (n := p213.length) (xs := p213) (ys := [z46.Rune]) ((congrArg (asL _) (by kernel_rfl : ρof _ (.tmp 58) = (.r (.msl 472 1 0 (([z46.Rune] : List Int).length))))).trans (as_whole (eInt .i64) (e := 3) (k := 1) (xs := [z46.Rune]) (by kernel_rfl) rfl rfl)) rfl (by kernel_rfl) rfl (by kernel_rfl) rfl hz47) ?_
    refine zlRun (n := 1) (j := 6) rfl (by kernel_rfl) ?_
    refine zlEnd (by kernel_rfl) ?_
    refine zkBlk ?_
    refine zkSeq ?_
    refine zrReg ?_
    refine zlRun (n := 2) (j := 2) rfl (by kernel_rfl) ?_
    refine zlEnd (by kernel_rfl) ?_
    refine zkNil ?_
    exact endQ hS hQ (finL_n (by show keepSt _ _ _ _ = _; kernel_rfl))
  · replace hS := cond_f hc hS
    refine zlEnd (by kernel_rfl) ?_
    refine zkSeq ?_
    refine zrCondF (by kernel_rfl) ?_
    refine zrSkip ?_
    refine zkBlk ?_
    refine zkSeq ?_
    refine zrReg ?_
    refine zlRun (n := 2) (j := 2) rfl (by kernel_rfl) ?_
    refine zlEnd (by kernel_rfl) ?_
    refine zkNil ?_
    exact endQ hS hQ (finL_n (by show keepSt _ _ _ _ = _; kernel_rfl))
def f13_l5_j6_J (a1 : List GCell) (a2 : Int) (a3 : Int) (p208 : List Int) (p209 : List GCell) (p210 : Int) (p211 : Int) (p212 : Bool) : St := ⟨(up (up (up (up (up (fun _ => .un) 49 (.d (.bool p212))) 48 (.d (.int .i64 p211))) 47 (.d (.int .i64 p210))) 46 (.d (.sl p209.length (e_GCell.cells p209)))) 7 (.r (.msl 64 0 0 p208.length))), (up (hB fun _ => 0) 64 ⟨0, some (.own 3 1 ((eInt .i64).cells p208))⟩)⟩
noncomputable def f13_l5_j6 (a1 : List GCell) (a2 : Int) (a3 : Int) (p208 : List Int) (p209 : List GCell) (p210 : Int) (p211 : Int) (p212 : Bool) : Option (((List Int) × (List GCell) × Int × Int) ⊕ (((List Int)))) := (bif p212 then (f13_l5_j7 a1 a2 a3 p208 p209 p210 p211) else (some (.inr p208)))
theorem f13_l5_j6_ok {d : Nat} (hd : 1 ≤ d) (a1 : List GCell) (a2 : Int) (a3 : Int) {r : ((List Int) × (List GCell) × Int × Int) ⊕ (((List Int)))} {Q : PX → St → Prop} (hQ : ∀ e st', finL (f13_l5_H a1 a2 a3) (f13_l5_X a1 a2 a3) r e st' → Q e st') (p208 : List Int) (p209 : List GCell) (p210 : Int) (p211 : Int) (p212 : Bool) (hS : f13_l5_j6 a1 a2 a3 p208 p209 p210 p211 p212 = some r) {st : St} (he : keepSt [7, 46, 47, 48, 49] [(64, .id 64)] [] st = f13_l5_j6_J a1 a2 a3 p208 p209 p210 p211 p212) : ZR (lev codes baseL (d - 1)) Q c13_4 [] st := by
  refine zrKeep he ?_
  unfold f13_l5_j6 at hS
  refine zrSeq ?_
  refine zrSplit 49 p212 (by kernel_rfl) (fun hc => ?_) (fun hc => ?_)
  · replace hS := cond_t hc hS
    refine zrCondT (by kernel_rfl) ?_
    refine zrSkip ?_
    refine zkSeq ?_
    exact f13_l5_j7_ok hd a1 a2 a3 hQ p208 p209 p210 p211 hS (by kernel_rfl)
  · replace hS := cond_f hc hS
    refine zrCondF (by kernel_rfl) ?_
    refine zrKeep (J := f13_l5_e0_J a1 a2 a3 p208) (by kernel_rfl) ?_
    refine zrExit ?_
    refine zkSeqX ?_
    refine zkNil ?_
    exact endQ hS hQ (finL_x (by intro h; cases h) (by show _ = _ ∧ _ = _; exact ⟨rfl, rfl⟩))
noncomputable def f13_l5 (a1 : List GCell) (a2 : Int) (a3 : Int) (x : (List Int) × (List GCell) × Int × Int) : Option (((List Int) × (List GCell) × Int × Int) ⊕ (((List Int)))) := (bif (decide (x.2.2.2 < x.2.2.1)) then (f13_l5_j6 a1 a2 a3 x.1 x.2.1 x.2.2.1 x.2.2.2 true) else (f13_l5_j6 a1 a2 a3 x.1 x.2.1 x.2.2.1 x.2.2.2 false))
theorem f13_l5_ok {d : Nat} (hd : 1 ≤ d) (a1 : List GCell) (a2 : Int) (a3 : Int) {r : ((List Int) × (List GCell) × Int × Int) ⊕ (((List Int)))} {Q : PX → St → Prop} (hQ : ∀ e st', finL (f13_l5_H a1 a2 a3) (f13_l5_X a1 a2 a3) r e st' → Q e st') {x : (List Int) × (List GCell) × Int × Int} (hS : f13_l5 a1 a2 a3 x = some r) {st : St} (he : f13_l5_H a1 a2 a3 x st) : ZR (lev codes baseL (d - 1)) Q c13_5 [] st := by
  refine zrKeep he ?_
  unfold f13_l5 at hS
  refine zrSeq ?_
  refine zrReg ?_
  refine zlBool (d := 49) (op := (.cmpI .lss (.tmp 48) (.tmp 47))) (g := none) (j := 1) (decide (x.2.2.2 < x.2.2.1)) rfl (by kernel_rfl) (by kernel_rfl) (by kernel_rfl) (fun hc => ?_) (fun hc => ?_)
  · replace hS := cond_t hc hS
    refine zlEnd (by kernel_rfl) ?_
    refine zkSeq ?_
    exact f13_l5_j6_ok hd a1 a2 a3 hQ x.1 x.2.1 x.2.2.1 x.2.2.2 true hS (by kernel_rfl)
  · replace hS := cond_f hc hS
    refine zlEnd (by kernel_rfl) ?_
    refine zkSeq ?_
    exact f13_l5_j6_ok hd a1 a2 a3 hQ x.1 x.2.1 x.2.2.1 x.2.2.2 false hS (by kernel_rfl)
def f13_j2_J (a1 : List GCell) (a2 : Int) (a3 : Int) (p85 : Int) (p86 : Int) : St := ⟨(up (up (up (fun _ => .un) 2 (.d (.int .i64 p86))) 1 (.d (.int .i64 p85))) 0 (.d (.sl a1.length (e_GCell.cells a1)))), (hB fun _ => 0)⟩
noncomputable def f13_j2 (a1 : List GCell) (a2 : Int) (a3 : Int) (p85 : Int) (p86 : Int) : Option ((List Int)) := ((sub? a1 p85 p86).bind fun z39 => ((loopO (f13_l5 a1 a2 a3) ([], z39, (z39.length : Int), 0)).bind fun z48 => (f13_j3 a1 a2 a3 z48)))
theorem f13_j2_ok {d : Nat} (hd : 1 ≤ d) (a1 : List GCell) (a2 : Int) (a3 : Int) {r : (List Int)} {Q : PX → St → Prop} (hQ : ∀ e st', f13_Q r e st' → Q e st') (p85 : Int) (p86 : Int) (hS : f13_j2 a1 a2 a3 p85 p86 = some r) {st : St} (he : keepSt [0, 1, 2] [] [] st = f13_j2_J a1 a2 a3 p85 p86) : ZR (lev codes baseL (d - 1)) Q c13_6 [] st := by
  refine zrKeep he ?_
  unfold f13_j2 at hS
  refine zrSeq ?_
  refine zrReg ?_
  refine zlRun (n := 1) (j := 1) rfl (by kernel_rfl) ?_
  refine zlEnd (by kernel_rfl) ?_
  refine zkSeq ?_
  refine zrSeq ?_
  refine zrSeq ?_
  refine zrReg ?_
  refine zlRun (n := 3) (j := 3) rfl (by kernel_rfl) ?_
  refine bindE hS (fun z39 hz39 hS => ?_)
  refine zlOp (d := some 46) (op := (.slS 51 4 (.tmp 43) (.some (.tmp 44)) (.some (.tmp 45)))) (g := none) (v := (.d (.sl z39.length (e_GCell.cells z39)))) (ups := []) (j := 4) rfl (by kernel_rfl) (by kernel_rfl) (ev_slS e_GCell (xs := a1) (a := p85) (c := p86) (by kernel_rfl) rfl (bnd_s _ (kk := .i64) (j := p85) (by kernel_rfl)) (bnd_s _ (kk := .i64) (j := p86) (by kernel_rfl)) hz39) ?_
  refine zlRun (n := 2) (j := 6) rfl (by kernel_rfl) ?_
  refine zlEnd (by kernel_rfl) ?_
  refine zkSeq ?_
  refine zrBlk ?_
  refine bindE hS (fun z48 hz48 hS => ?_)
  refine zrLoop (f13_l5_H a1 a2 a3) (f13_l5_X a1 a2 a3) (fun x st r Q h0 hS hQ => f13_l5_ok hd a1 a2 a3 hQ hS h0) (x := ([], z39, (z39.length : Int), 0)) (z := z48) (by show keepSt _ _ _ _ = _; kernel_rfl) hz48 ?_
  intro e st' _ hX
  obtain ⟨rfl, rfl⟩ : _ ∧ _ := hX
  refine zkBlkX ?_
  refine zkSeq ?_
  exact f13_j3_ok hd a1 a2 a3 hQ z48 hS (by kernel_rfl)
def f13_j1_J (a1 : List GCell) (a2 : Int) (a3 : Int) (p78 : Int) : St := ⟨(up (up (up (fun _ => .un) 2 (.d (.int .i64 (if (a1.length : Int) < a3 then (a1.length : Int) else a3)))) 1 (.d (.int .i64 p78))) 0 (.d (.sl a1.length (e_GCell.cells a1)))), (hB fun _ => 0)⟩
noncomputable def f13_j1 (a1 : List GCell) (a2 : Int) (a3 : Int) (p78 : Int) : Option ((List Int)) := (bif (decide ((if (a1.length : Int) < a3 then (a1.length : Int) else a3) < (a1.length : Int))) then ((idx a1 (if (a1.length : Int) < a3 then (a1.length : Int) else a3)).bind fun z49 => (bif (decide (z49.Rune = 0)) then (f13_j2 a1 a2 a3 p78 (IntKind.i64.wrap ((if (a1.length : Int) < a3 then (a1.length : Int) else a3) + 1))) else (f13_j2 a1 a2 a3 p78 (if (a1.length : Int) < a3 then (a1.length : Int) else a3)))) else (f13_j2 a1 a2 a3 p78 (if (a1.length : Int) < a3 then (a1.length : Int) else a3)))
theorem f13_j1_ok {d : Nat} (hd : 1 ≤ d) (a1 : List GCell) (a2 : Int) (a3 : Int) {r : (List Int)} {Q : PX → St → Prop} (hQ : ∀ e st', f13_Q r e st' → Q e st') (p78 : Int) (hS : f13_j1 a1 a2 a3 p78 = some r) {st : St} (he : keepSt [0, 1, 2] [] [] st = f13_j1_J a1 a2 a3 p78) : ZR (lev codes baseL (d - 1)) Q c13_7 [] st := by
  refine zrKeep he ?_
  unfold f13_j1 at hS
  refine zrSeq ?_
  refine zrSeq ?_
  refine zrReg ?_
  refine zlRun (n := 3) (j := 3) rfl (by kernel_rfl) ?_
  refine zlBool (d := 32) (op := (.cmpI .lss (.tmp 29) (.tmp 31))) (g := none) (j := 4) (decide ((if (a1.length : Int) < a3 then (a1.length : Int) else a3) < (a1.length : Int))) rfl (by kernel_rfl) (by kernel_rfl) (by kernel_rfl) (fun hc => ?_) (fun hc => ?_)
  · replace hS := cond_t hc hS
    refine zlRun (n := 3) (j := 7) rfl (by kernel_rfl) ?_
    refine bindE hS (fun z49 hz49 hS => ?_)
    refine zlOp (d := some 36) (op := (.ixS 51 4 (.tmp 34) (.tmp 35))) (g := (some (33, true))) (v := (.rptr (e_GCell.enc z49 ++ (e_GCell.cells (a1.drop (((if (a1.length : Int) < a3 then (a1.length : Int) else a3) : Int).toNat + 1)))))) (ups := []) (j := 8) rfl (by kernel_rfl) (by kernel_rfl) (ev_ixS e_GCell (kk := .i64) (xs := a1) (j := (if (a1.length : Int) < a3 then (a1.length : Int) else a3)) (by kernel_rfl) (by kernel_rfl) hz49 rfl (by intro h; cases h)) ?_
    refine zlRun (n := 2) (j := 10) rfl (by kernel_rfl) ?_
    refine zlBool (d := 39) (op := (.cmpI .eql (.tmp 38) (.const (.int .i64 0)))) (g := (some (33, true))) (j := 11) (decide (z49.Rune = 0)) rfl (by kernel_rfl) (by kernel_rfl) (by kernel_rfl) (fun hc => ?_) (fun hc => ?_)
    · replace hS := cond_t hc hS
      refine zlRun (n := 1) (j := 12) rfl (by kernel_rfl) ?_
      refine zlEnd (by kernel_rfl) ?_
      refine zkSeq ?_
      refine zrCondT (by kernel_rfl) ?_
      refine zrReg ?_
      refine zlRun (n := 3) (j := 3) rfl (by kernel_rfl) ?_
      refine zlEnd (by kernel_rfl) ?_
      refine zkSeq ?_
      exact f13_j2_ok hd a1 a2 a3 hQ p78 (IntKind.i64.wrap ((if (a1.length : Int) < a3 then (a1.length : Int) else a3) + 1)) hS (by kernel_rfl)
    · replace hS := cond_f hc hS
      refine zlRun (n := 1) (j := 12) rfl (by kernel_rfl) ?_
      refine zlEnd (by kernel_rfl) ?_
      refine zkSeq ?_
      refine zrCondF (by kernel_rfl) ?_
      refine zrSkip ?_
      refine zkSeq ?_
      exact f13_j2_ok hd a1 a2 a3 hQ p78 (if (a1.length : Int) < a3 then (a1.length : Int) else a3) hS (by kernel_rfl)
  · replace hS := cond_f hc hS
    refine zlRun (n := 8) (j := 12) rfl (by kernel_rfl) ?_
    refine zlEnd (by kernel_rfl) ?_
    refine zkSeq ?_
    refine zrCondF (by kernel_rfl) ?_
    refine zrSkip ?_
    refine zkSeq ?_
    exact f13_j2_ok hd a1 a2 a3 hQ p78 (if (a1.length : Int) < a3 then (a1.length : Int) else a3) hS (by kernel_rfl)
def f13_j0_J (a1 : List GCell) (a2 : Int) (a3 : Int) : St := ⟨(up (up (up (fun _ => .un) 2 (.d (.int .i64 (if (a1.length : Int) < a3 then (a1.length : Int) else a3)))) 1 (.d (.int .i64 (if (a1.length : Int) < a2 then (a1.length : Int) else a2)))) 0 (.d (.sl a1.length (e_GCell.cells a1)))), (hB fun _ => 0)⟩
noncomputable def f13_j0 (a1 : List GCell) (a2 : Int) (a3 : Int) : Option ((List Int)) := ((idx a1 (if (a1.length : Int) < a2 then (a1.length : Int) else a2)).bind fun z50 => (bif (decide (z50.Rune = 0)) then (f13_j1 a1 a2 a3 (IntKind.i64.wrap ((if (a1.length : Int) < a2 then (a1.length : Int) else a2) - 1))) else (f13_j1 a1 a2 a3 (if (a1.length : Int) < a2 then (a1.length : Int) else a2))))
theorem f13_j0_ok {d : Nat} (hd : 1 ≤ d) (a1 : List GCell) (a2 : Int) (a3 : Int) {r : (List Int)} {Q : PX → St → Prop} (hQ : ∀ e st', f13_Q r e st' → Q e st')  (hS : f13_j0 a1 a2 a3 = some r) {st : St} (he : keepSt [0, 1, 2] [] [] st = f13_j0_J a1 a2 a3) : ZR (lev codes baseL (d - 1)) Q c13_8 [] st := by
  refine zrKeep he ?_
  unfold f13_j0 at hS
  refine zrSeq ?_
  refine zrSeq ?_
  refine zrReg ?_
  refine zlRun (n := 2) (j := 2) rfl (by kernel_rfl) ?_
  refine bindE hS (fun z50 hz50 hS => ?_)
  refine zlOp (d := some 23) (op := (.ixS 51 4 (.tmp 21) (.tmp 22))) (g := none) (v := (.rptr (e_GCell.enc z50 ++ (e_GCell.cells (a1.drop (((if (a1.length : Int) < a2 then (a1.length : Int) else a2) : Int).toNat + 1)))))) (ups := []) (j := 3) rfl (by kernel_rfl) (by kernel_rfl) (ev_ixS e_GCell (kk := .i64) (xs := a1) (j := (if (a1.length : Int) < a2 then (a1.length : Int) else a2)) (by kernel_rfl) (by kernel_rfl) hz50 rfl (by intro h; cases h)) ?_
  refine zlRun (n := 2) (j := 5) rfl (by kernel_rfl) ?_
  refine zlBool (d := 26) (op := (.cmpI .eql (.tmp 25) (.const (.int .i64 0)))) (g := none) (j := 6) (decide (z50.Rune = 0)) rfl (by kernel_rfl) (by kernel_rfl) (by kernel_rfl) (fun hc => ?_) (fun hc => ?_)
  · replace hS := cond_t hc hS
    refine zlEnd (by kernel_rfl) ?_
    refine zkSeq ?_
    refine zrCondT (by kernel_rfl) ?_
    refine zrReg ?_
    refine zlRun (n := 3) (j := 3) rfl (by kernel_rfl) ?_
    refine zlEnd (by kernel_rfl) ?_
    refine zkSeq ?_
    exact f13_j1_ok hd a1 a2 a3 hQ (IntKind.i64.wrap ((if (a1.length : Int) < a2 then (a1.length : Int) else a2) - 1)) hS (by kernel_rfl)
  · replace hS := cond_f hc hS
    refine zlEnd (by kernel_rfl) ?_
    refine zkSeq ?_
    refine zrCondF (by kernel_rfl) ?_
    refine zrSkip ?_
    refine zkSeq ?_
    exact f13_j1_ok hd a1 a2 a3 hQ (if (a1.length : Int) < a2 then (a1.length : Int) else a2) hS (by kernel_rfl)
noncomputable def f13 (a1 : List GCell) (a2 : Int) (a3 : Int) : Option ((List Int)) := (bif (decide ((if (a1.length : Int) < a3 then (a1.length : Int) else a3) ≤ (if (a1.length : Int) < a2 then (a1.length : Int) else a2))) then (some []) else (f13_j0 a1 a2 a3 ))
theorem f13_ok (d : Nat) (hd : 1 ≤ d) (a1 : List GCell) (a2 : Int) (a3 : Int) (r : (List Int)) (hS : f13 a1 a2 a3 = some r) : lev codes baseL d 13 [(.d (.sl a1.length (e_GCell.cells a1))), (.d (.int .i64 a2)), (.d (.int .i64 a3))] [] = some ((.r (.own 0 3 1 r.length ((eInt .i64).cells r))), []) := by
  refine lev_go codes13 rfl rfl (Nat.le_trans (Nat.le_of_ble_eq_true rfl) hd) fun Q hQ => ?_
  unfold f13 at hS
  show ZR _ Q c13_b [] _
  replace hQ : ∀ e st', f13_Q r e st' → Q e st' := hQ
  refine zrSeq ?_
  refine zrReg ?_
  refine zlRun (n := 1) (j := 1) rfl (by kernel_rfl) ?_
  refine zlEnd (by kernel_rfl) ?_
  refine zkSeq ?_
  refine zrSeq ?_
  refine zrReg ?_
  refine zlRun (n := 10) (j := 10) rfl (by kernel_rfl) ?_
  refine zlEnd (by kernel_rfl) ?_
  refine zkSeq ?_
  refine zrSeq ?_
  refine zrSeq ?_
  refine zrReg ?_
  refine zlRun (n := 2) (j := 2) rfl (by kernel_rfl) ?_
  refine zlBool (d := 20) (op := (.cmpI .geq (.tmp 18) (.tmp 19))) (g := none) (j := 3) (decide ((if (a1.length : Int) < a3 then (a1.length : Int) else a3) ≤ (if (a1.length : Int) < a2 then (a1.length : Int) else a2))) rfl (by kernel_rfl) (by kernel_rfl) (by kernel_rfl) (fun hc => ?_) (fun hc => ?_)
  · replace hS := cond_t hc hS
    refine zlEnd (by kernel_rfl) ?_
    refine zkSeq ?_
    refine zrCondT (by kernel_rfl) ?_
    refine zrSeq ?_
    refine zrReg ?_
    refine zlRun (n := 1) (j := 1) rfl (by kernel_rfl) ?_
    refine zlEnd (by kernel_rfl) ?_
    refine zkSeq ?_
    refine zrRet ?_
    refine zkSeqR ?_
    refine zkNil ?_
    exact endQ hS hQ (fRet (by kernel_rfl) ((congrArg (fun s => outR s 0 c13.res) (by kernel_rfl : finSt c13.fin _ = f13_fin [])).trans (f13_out [])))
  · replace hS := cond_f hc hS
    refine zlEnd (by kernel_rfl) ?_
    refine zkSeq ?_
    refine zrCondF (by kernel_rfl) ?_
    refine zrSkip ?_
    refine zkSeq ?_
    exact f13_j0_ok hd a1 a2 a3 hQ  hS (by kernel_rfl)
end Go.Proofs.YtioikkmmjljedaaGreatDoor.Pm
