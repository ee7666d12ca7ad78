/- Typed functions, and that the codes are these. Printed by dec.py. -/
import Derived.Test.YtjapcjeijpcpiaaDGoC
namespace Go.Proofs.Ytjapcjeijpcpiaa.Pm
set_option maxRecDepth 1000000
set_option maxHeartbeats 20000000
set_option linter.unusedVariables false
/- farwriter/grid.size -/
def f17_fin (p2 : Int) : St := ⟨(up (fun _ => .un) 4 (.d (.int .i64 p2))), (hB fun _ => 0)⟩
theorem f17_out (p2 : Int) : outR (f17_fin p2) 0 c17.res = some ((.d (.int .i64 p2)), []) := by
  kernel_rfl
def f17_Q (r : Int) (e : PX) (st : St) : Prop := DoneF c17 0 ((.d (.int .i64 r)), []) e st
noncomputable def f17 (a1 : Int) (a2 : Int) : Option (Int) := (bif (decide (a1 < 1)) then (some 1) else (bif (decide (160 < a1)) then (some 1) else (bif (decide (a2 < 1)) then (some 1) else (bif (decide (60 < a2)) then (some 1) else (some 0)))))
theorem f17_ok (base : Orc) (d : Nat) (hd : 1 ≤ d) (a1 : Int) (a2 : Int) (r : Int) (hS : f17 a1 a2 = some r) : lev codes base d 17 [(.d (.int .i64 a1)), (.d (.int .i64 a2))] [] = some ((.d (.int .i64 r)), []) := by
  refine lev_go codes17 rfl rfl (Nat.le_trans (Nat.le_of_ble_eq_true rfl) hd) fun Q hQ => ?_
  unfold f17 at hS
  show ZR _ Q c17_b [] _
  replace hQ : ∀ e st', f17_Q r e st' → Q e st' := hQ
  refine zrSeq ?_
  refine zrReg ?_
  refine zlRun (n := 1) (j := 1) rfl (by kernel_rfl) ?_
  refine zlEnd (by kernel_rfl) ?_
  refine zkSeq ?_
  refine zrSeq ?_
  refine zrSeq ?_
  refine zrReg ?_
  refine zlRun (n := 1) (j := 1) rfl (by kernel_rfl) ?_
  refine zlBool (d := 6) (op := (.cmpI .lss (.tmp 5) (.const (.int .i64 1)))) (g := none) (j := 2) (decide (a1 < 1)) rfl (by kernel_rfl) (by kernel_rfl) (by kernel_rfl) (fun hc => ?_) (fun hc => ?_)
  · replace hS := cond_t hc hS
    refine zlRun (n := 12) (j := 14) rfl (by kernel_rfl) ?_
    refine zlEnd (by kernel_rfl) ?_
    refine zkSeq ?_
    refine zrCondT (by kernel_rfl) ?_
    refine zrSeq ?_
    refine zrReg ?_
    refine zlRun (n := 1) (j := 1) rfl (by kernel_rfl) ?_
    refine zlEnd (by kernel_rfl) ?_
    refine zkSeq ?_
    refine zrRet ?_
    refine zkSeqR ?_
    refine zkNil ?_
    exact endQ hS hQ (fRet (by kernel_rfl) ((congrArg (fun s => outR s 0 c17.res) (by kernel_rfl : finSt c17.fin _ = f17_fin 1)).trans (f17_out 1)))
  · replace hS := cond_f hc hS
    refine zlRun (n := 2) (j := 4) rfl (by kernel_rfl) ?_
    refine zlBool (d := 9) (op := (.cmpI .gtr (.tmp 8) (.const (.int .i64 160)))) (g := (some (7, false))) (j := 5) (decide (160 < a1)) rfl (by kernel_rfl) (by kernel_rfl) (by kernel_rfl) (fun hc => ?_) (fun hc => ?_)
    · replace hS := cond_t hc hS
      refine zlRun (n := 9) (j := 14) rfl (by kernel_rfl) ?_
      refine zlEnd (by kernel_rfl) ?_
      refine zkSeq ?_
      refine zrCondT (by kernel_rfl) ?_
      refine zrSeq ?_
      refine zrReg ?_
      refine zlRun (n := 1) (j := 1) rfl (by kernel_rfl) ?_
      refine zlEnd (by kernel_rfl) ?_
      refine zkSeq ?_
      refine zrRet ?_
      refine zkSeqR ?_
      refine zkNil ?_
      exact endQ hS hQ (fRet (by kernel_rfl) ((congrArg (fun s => outR s 0 c17.res) (by kernel_rfl : finSt c17.fin _ = f17_fin 1)).trans (f17_out 1)))
    · replace hS := cond_f hc hS
      refine zlRun (n := 3) (j := 8) rfl (by kernel_rfl) ?_
      refine zlBool (d := 13) (op := (.cmpI .lss (.tmp 12) (.const (.int .i64 1)))) (g := (some (11, false))) (j := 9) (decide (a2 < 1)) rfl (by kernel_rfl) (by kernel_rfl) (by kernel_rfl) (fun hc => ?_) (fun hc => ?_)
      · replace hS := cond_t hc hS
        refine zlRun (n := 5) (j := 14) rfl (by kernel_rfl) ?_
        refine zlEnd (by kernel_rfl) ?_
        refine zkSeq ?_
        refine zrCondT (by kernel_rfl) ?_
        refine zrSeq ?_
        refine zrReg ?_
        refine zlRun (n := 1) (j := 1) rfl (by kernel_rfl) ?_
        refine zlEnd (by kernel_rfl) ?_
        refine zkSeq ?_
        refine zrRet ?_
        refine zkSeqR ?_
        refine zkNil ?_
        exact endQ hS hQ (fRet (by kernel_rfl) ((congrArg (fun s => outR s 0 c17.res) (by kernel_rfl : finSt c17.fin _ = f17_fin 1)).trans (f17_out 1)))
      · replace hS := cond_f hc hS
        refine zlRun (n := 3) (j := 12) rfl (by kernel_rfl) ?_
        refine zlBool (d := 17) (op := (.cmpI .gtr (.tmp 16) (.const (.int .i64 60)))) (g := (some (15, false))) (j := 13) (decide (60 < a2)) rfl (by kernel_rfl) (by kernel_rfl) (by kernel_rfl) (fun hc => ?_) (fun hc => ?_)
        · replace hS := cond_t hc hS
          refine zlRun (n := 1) (j := 14) rfl (by kernel_rfl) ?_
          refine zlEnd (by kernel_rfl) ?_
          refine zkSeq ?_
          refine zrCondT (by kernel_rfl) ?_
          refine zrSeq ?_
          refine zrReg ?_
          refine zlRun (n := 1) (j := 1) rfl (by kernel_rfl) ?_
          refine zlEnd (by kernel_rfl) ?_
          refine zkSeq ?_
          refine zrRet ?_
          refine zkSeqR ?_
          refine zkNil ?_
          exact endQ hS hQ (fRet (by kernel_rfl) ((congrArg (fun s => outR s 0 c17.res) (by kernel_rfl : finSt c17.fin _ = f17_fin 1)).trans (f17_out 1)))
        · replace hS := cond_f hc hS
          refine zlRun (n := 1) (j := 14) rfl (by kernel_rfl) ?_
          refine zlEnd (by kernel_rfl) ?_
          refine zkSeq ?_
          refine zrCondF (by kernel_rfl) ?_
          refine zrSkip ?_
          refine zkSeq ?_
          refine zrSeq ?_
          refine zrReg ?_
          refine zlRun (n := 1) (j := 1) rfl (by kernel_rfl) ?_
          refine zlEnd (by kernel_rfl) ?_
          refine zkSeq ?_
          refine zrRet ?_
          refine zkNil ?_
          exact endQ hS hQ (fRet (by kernel_rfl) ((congrArg (fun s => outR s 0 c17.res) (by kernel_rfl : finSt c17.fin _ = f17_fin 0)).trans (f17_out 0)))
/- farwriter/pen.color -/
def f32_fin (p6 : Bool) : St := ⟨(up (fun _ => .un) 2 (.d (.bool p6))), (hB fun _ => 0)⟩
theorem f32_out (p6 : Bool) : outR (f32_fin p6) 0 c32.res = some ((.d (.bool p6)), []) := by
  kernel_rfl
def f32_Q (r : Bool) (e : PX) (st : St) : Prop := DoneF c32 0 ((.d (.bool r)), []) e st
noncomputable def f32 (a1 : Int) : Option (Bool) := (bif (decide (0 ≤ a1)) then (bif (decide (a1 ≤ 256)) then (some true) else (bif (decide (16777216 ≤ a1)) then (bif (decide (a1 < 33554432)) then (some true) else (some false)) else (some false))) else (bif (decide (16777216 ≤ a1)) then (bif (decide (a1 < 33554432)) then (some true) else (some false)) else (some false)))
theorem f32_ok (base : Orc) (d : Nat) (hd : 1 ≤ d) (a1 : Int) (r : Bool) (hS : f32 a1 = some r) : lev codes base d 32 [(.d (.int .i64 a1))] [] = some ((.d (.bool r)), []) := by
  refine lev_go codes32 rfl rfl (Nat.le_trans (Nat.le_of_ble_eq_true rfl) hd) fun Q hQ => ?_
  unfold f32 at hS
  show ZR _ Q c32_b [] _
  replace hQ : ∀ e st', f32_Q r e st' → Q e st' := hQ
  refine zrSeq ?_
  refine zrReg ?_
  refine zlRun (n := 1) (j := 1) rfl (by kernel_rfl) ?_
  refine zlEnd (by kernel_rfl) ?_
  refine zkSeq ?_
  refine zrSeq ?_
  refine zrReg ?_
  refine zlRun (n := 1) (j := 1) rfl (by kernel_rfl) ?_
  refine zlBool (d := 4) (op := (.cmpI .geq (.tmp 3) (.const (.int .i64 0)))) (g := none) (j := 2) (decide (0 ≤ a1)) rfl (by kernel_rfl) (by kernel_rfl) (by kernel_rfl) (fun hc => ?_) (fun hc => ?_)
  · replace hS := cond_t hc hS
    refine zlRun (n := 2) (j := 4) rfl (by kernel_rfl) ?_
    refine zlBool (d := 7) (op := (.cmpI .leq (.tmp 6) (.const (.int .i64 256)))) (g := (some (5, true))) (j := 5) (decide (a1 ≤ 256)) rfl (by kernel_rfl) (by kernel_rfl) (by kernel_rfl) (fun hc => ?_) (fun hc => ?_)
    · replace hS := cond_t hc hS
      refine zlRun (n := 10) (j := 15) rfl (by kernel_rfl) ?_
      refine zlEnd (by kernel_rfl) ?_
      refine zkSeq ?_
      refine zrRet ?_
      refine zkNil ?_
      exact endQ hS hQ (fRet (by kernel_rfl) ((congrArg (fun s => outR s 0 c32.res) (by kernel_rfl : finSt c32.fin _ = f32_fin true)).trans (f32_out true)))
    · replace hS := cond_f hc hS
      refine zlRun (n := 3) (j := 8) rfl (by kernel_rfl) ?_
      refine zlBool (d := 11) (op := (.cmpI .geq (.tmp 10) (.const (.int .i64 16777216)))) (g := (some (9, false))) (j := 9) (decide (16777216 ≤ a1)) rfl (by kernel_rfl) (by kernel_rfl) (by kernel_rfl) (fun hc => ?_) (fun hc => ?_)
      · replace hS := cond_t hc hS
        refine zlRun (n := 2) (j := 11) rfl (by kernel_rfl) ?_
        refine zlBool (d := 14) (op := (.cmpI .lss (.tmp 13) (.const (.int .i64 33554432)))) (g := (some (12, true))) (j := 12) (decide (a1 < 33554432)) rfl (by kernel_rfl) (by kernel_rfl) (by kernel_rfl) (fun hc => ?_) (fun hc => ?_)
        · replace hS := cond_t hc hS
          refine zlRun (n := 3) (j := 15) rfl (by kernel_rfl) ?_
          refine zlEnd (by kernel_rfl) ?_
          refine zkSeq ?_
          refine zrRet ?_
          refine zkNil ?_
          exact endQ hS hQ (fRet (by kernel_rfl) ((congrArg (fun s => outR s 0 c32.res) (by kernel_rfl : finSt c32.fin _ = f32_fin true)).trans (f32_out true)))
        · replace hS := cond_f hc hS
          refine zlRun (n := 3) (j := 15) rfl (by kernel_rfl) ?_
          refine zlEnd (by kernel_rfl) ?_
          refine zkSeq ?_
          refine zrRet ?_
          refine zkNil ?_
          exact endQ hS hQ (fRet (by kernel_rfl) ((congrArg (fun s => outR s 0 c32.res) (by kernel_rfl : finSt c32.fin _ = f32_fin false)).trans (f32_out false)))
      · replace hS := cond_f hc hS
        refine zlRun (n := 6) (j := 15) rfl (by kernel_rfl) ?_
        refine zlEnd (by kernel_rfl) ?_
        refine zkSeq ?_
        refine zrRet ?_
        refine zkNil ?_
        exact endQ hS hQ (fRet (by kernel_rfl) ((congrArg (fun s => outR s 0 c32.res) (by kernel_rfl : finSt c32.fin _ = f32_fin false)).trans (f32_out false)))
  · replace hS := cond_f hc hS
    refine zlRun (n := 6) (j := 8) rfl (by kernel_rfl) ?_
    refine zlBool (d := 11) (op := (.cmpI .geq (.tmp 10) (.const (.int .i64 16777216)))) (g := (some (9, false))) (j := 9) (decide (16777216 ≤ a1)) rfl (by kernel_rfl) (by kernel_rfl) (by kernel_rfl) (fun hc => ?_) (fun hc => ?_)
    · replace hS := cond_t hc hS
      refine zlRun (n := 2) (j := 11) rfl (by kernel_rfl) ?_
      refine zlBool (d := 14) (op := (.cmpI .lss (.tmp 13) (.const (.int .i64 33554432)))) (g := (some (12, true))) (j := 12) (decide (a1 < 33554432)) rfl (by kernel_rfl) (by kernel_rfl) (by kernel_rfl) (fun hc => ?_) (fun hc => ?_)
      · replace hS := cond_t hc hS
        refine zlRun (n := 3) (j := 15) rfl (by kernel_rfl) ?_
        refine zlEnd (by kernel_rfl) ?_
        refine zkSeq ?_
        refine zrRet ?_
        refine zkNil ?_
        exact endQ hS hQ (fRet (by kernel_rfl) ((congrArg (fun s => outR s 0 c32.res) (by kernel_rfl : finSt c32.fin _ = f32_fin true)).trans (f32_out true)))
      · replace hS := cond_f hc hS
        refine zlRun (n := 3) (j := 15) rfl (by kernel_rfl) ?_
        refine zlEnd (by kernel_rfl) ?_
        refine zkSeq ?_
        refine zrRet ?_
        refine zkNil ?_
        exact endQ hS hQ (fRet (by kernel_rfl) ((congrArg (fun s => outR s 0 c32.res) (by kernel_rfl : finSt c32.fin _ = f32_fin false)).trans (f32_out false)))
    · replace hS := cond_f hc hS
      refine zlRun (n := 6) (j := 15) rfl (by kernel_rfl) ?_
      refine zlEnd (by kernel_rfl) ?_
      refine zkSeq ?_
      refine zrRet ?_
      refine zkNil ?_
      exact endQ hS hQ (fRet (by kernel_rfl) ((congrArg (fun s => outR s 0 c32.res) (by kernel_rfl : finSt c32.fin _ = f32_fin false)).trans (f32_out false)))
/- farwriter/pen.Check -/
def f19_fin (p2 : Int) : St := ⟨(up (fun _ => .un) 2 (.d (.int .i64 p2))), (hB fun _ => 0)⟩
theorem f19_out (p2 : Int) : outR (f19_fin p2) 0 c19.res = some ((.d (.int .i64 p2)), []) := by
  kernel_rfl
def f19_Q (r : Int) (e : PX) (st : St) : Prop := DoneF c19 0 ((.d (.int .i64 r)), []) e st
noncomputable def f19 (a1 : GPen) : Option (Int) := (bif (decide (a1.Flags < 0)) then (some 4) else (bif (decide (255 < a1.Flags)) then (some 4) else ((f32 a1.Fore).bind fun z3 => (bif (!z3) then (some 4) else ((f32 a1.Back).bind fun z4 => (bif (!z4) then (some 4) else (some 0)))))))
theorem f19_ok (base : Orc) (d : Nat) (hd : 2 ≤ d) (a1 : GPen) (r : Int) (hS : f19 a1 = some r) : lev codes base d 19 [(.agg ((.d (.int .i64 a1.Flags)) :: ((.d (.int .i64 a1.Fore)) :: ((.d (.int .i64 a1.Back)) :: []))))] [] = some ((.d (.int .i64 r)), []) := by
  refine lev_go codes19 rfl rfl (Nat.le_trans (Nat.le_of_ble_eq_true rfl) hd) fun Q hQ => ?_
  unfold f19 at hS
  show ZR _ Q c19_b [] _
  replace hQ : ∀ e st', f19_Q r e st' → Q e st' := hQ
  refine zrSeq ?_
  refine zrReg ?_
  refine zlRun (n := 2) (j := 2) rfl (by kernel_rfl) ?_
  refine zlEnd (by kernel_rfl) ?_
  refine zkSeq ?_
  refine zrSeq ?_
  refine zrSeq ?_
  refine zrReg ?_
  refine zlRun (n := 2) (j := 2) rfl (by kernel_rfl) ?_
  refine zlBool (d := 5) (op := (.cmpI .lss (.tmp 4) (.const (.int .i64 0)))) (g := none) (j := 3) (decide (a1.Flags < 0)) rfl (by kernel_rfl) (by kernel_rfl) (by kernel_rfl) (fun hc => ?_) (fun hc => ?_)
  · replace hS := cond_t hc hS
    refine zlRun (n := 17) (j := 20) rfl (by kernel_rfl) ?_
    refine zlEnd (by kernel_rfl) ?_
    refine zkSeq ?_
    refine zrCondT (by kernel_rfl) ?_
    refine zrSeq ?_
    refine zrReg ?_
    refine zlRun (n := 1) (j := 1) rfl (by kernel_rfl) ?_
    refine zlEnd (by kernel_rfl) ?_
    refine zkSeq ?_
    refine zrRet ?_
    refine zkSeqR ?_
    refine zkNil ?_
    exact endQ hS hQ (fRet (by kernel_rfl) ((congrArg (fun s => outR s 0 c19.res) (by kernel_rfl : finSt c19.fin _ = f19_fin 4)).trans (f19_out 4)))
  · replace hS := cond_f hc hS
    refine zlRun (n := 3) (j := 6) rfl (by kernel_rfl) ?_
    refine zlBool (d := 9) (op := (.cmpI .gtr (.tmp 8) (.const (.int .i64 255)))) (g := (some (6, false))) (j := 7) (decide (255 < a1.Flags)) rfl (by kernel_rfl) (by kernel_rfl) (by kernel_rfl) (fun hc => ?_) (fun hc => ?_)
    · replace hS := cond_t hc hS
      refine zlRun (n := 13) (j := 20) rfl (by kernel_rfl) ?_
      refine zlEnd (by kernel_rfl) ?_
      refine zkSeq ?_
      refine zrCondT (by kernel_rfl) ?_
      refine zrSeq ?_
      refine zrReg ?_
      refine zlRun (n := 1) (j := 1) rfl (by kernel_rfl) ?_
      refine zlEnd (by kernel_rfl) ?_
      refine zkSeq ?_
      refine zrRet ?_
      refine zkSeqR ?_
      refine zkNil ?_
      exact endQ hS hQ (fRet (by kernel_rfl) ((congrArg (fun s => outR s 0 c19.res) (by kernel_rfl : finSt c19.fin _ = f19_fin 4)).trans (f19_out 4)))
    · replace hS := cond_f hc hS
      refine zlRun (n := 4) (j := 11) rfl (by kernel_rfl) ?_
      refine bindE hS (fun z3 hz3 hS => ?_)
      refine zlOp (d := some 14) (op := (.call 32 [(.tmp 13)])) (g := (some (11, false))) (j := 12) rfl (by kernel_rfl) (by kernel_rfl) (ev_callA (by kernel_rfl) (f32_ok base (d - 1) (dpt hd rfl) a1.Fore z3 hz3) (by kernel_rfl) (by kernel_rfl)) ?_
      refine zlRun (n := 3) (j := 15) rfl (by kernel_rfl) ?_
      refine zlSplit 17 (!z3) (by kernel_rfl) (fun hc => ?_) (fun hc => ?_)
      · replace hS := cond_t hc hS
        refine zlRun (n := 5) (j := 20) rfl (by kernel_rfl) ?_
        refine zlEnd (by kernel_rfl) ?_
        refine zkSeq ?_
        refine zrCondT (by kernel_rfl) ?_
        refine zrSeq ?_
        refine zrReg ?_
        refine zlRun (n := 1) (j := 1) rfl (by kernel_rfl) ?_
        refine zlEnd (by kernel_rfl) ?_
        refine zkSeq ?_
        refine zrRet ?_
        refine zkSeqR ?_
        refine zkNil ?_
        exact endQ hS hQ (fRet (by kernel_rfl) ((congrArg (fun s => outR s 0 c19.res) (by kernel_rfl : finSt c19.fin _ = f19_fin 4)).trans (f19_out 4)))
      · replace hS := cond_f hc hS
        refine zlRun (n := 2) (j := 17) rfl (by kernel_rfl) ?_
        refine bindE hS (fun z4 hz4 hS => ?_)
        refine zlOp (d := some 20) (op := (.call 32 [(.tmp 19)])) (g := (some (17, false))) (j := 18) rfl (by kernel_rfl) (by kernel_rfl) (ev_callA (by kernel_rfl) (f32_ok base (d - 1) (dpt hd rfl) a1.Back z4 hz4) (by kernel_rfl) (by kernel_rfl)) ?_
        refine zlRun (n := 2) (j := 20) rfl (by kernel_rfl) ?_
        refine zlEnd (by kernel_rfl) ?_
        refine zkSeq ?_
        refine zrSplit 22 (!z4) (by kernel_rfl) (fun hc => ?_) (fun hc => ?_)
        · replace hS := cond_t hc hS
          refine zrCondT (by kernel_rfl) ?_
          refine zrSeq ?_
          refine zrReg ?_
          refine zlRun (n := 1) (j := 1) rfl (by kernel_rfl) ?_
          refine zlEnd (by kernel_rfl) ?_
          refine zkSeq ?_
          refine zrRet ?_
          refine zkSeqR ?_
          refine zkNil ?_
          exact endQ hS hQ (fRet (by kernel_rfl) ((congrArg (fun s => outR s 0 c19.res) (by kernel_rfl : finSt c19.fin _ = f19_fin 4)).trans (f19_out 4)))
        · replace hS := cond_f hc hS
          refine zrCondF (by kernel_rfl) ?_
          refine zrSkip ?_
          refine zkSeq ?_
          refine zrSeq ?_
          refine zrReg ?_
          refine zlRun (n := 1) (j := 1) rfl (by kernel_rfl) ?_
          refine zlEnd (by kernel_rfl) ?_
          refine zkSeq ?_
          refine zrRet ?_
          refine zkNil ?_
          exact endQ hS hQ (fRet (by kernel_rfl) ((congrArg (fun s => outR s 0 c19.res) (by kernel_rfl : finSt c19.fin _ = f19_fin 0)).trans (f19_out 0)))
/- farwriter/grid.Blank -/
def f36_fin (p1 : GCell) : St := ⟨(up (fun _ => .un) 2 (.r (.ptr 24 0 0))), (up (hB fun _ => 0) 24 ⟨0, some (.box ((.d (.int .i64 p1.Rune)) :: ((.d (.int .i64 p1.Pen.Flags)) :: ((.d (.int .i64 p1.Pen.Fore)) :: ((.d (.int .i64 p1.Pen.Back)) :: [])))))⟩)⟩
theorem f36_out (p1 : GCell) : outR (f36_fin p1) 0 c36.res = some ((.agg ((.d (.int .i64 p1.Rune)) :: ((.d (.int .i64 p1.Pen.Flags)) :: ((.d (.int .i64 p1.Pen.Fore)) :: ((.d (.int .i64 p1.Pen.Back)) :: []))))), []) := by
  kernel_rfl
def f36_Q (r : GCell) (e : PX) (st : St) : Prop := DoneF c36 0 ((.agg ((.d (.int .i64 r.Rune)) :: ((.d (.int .i64 r.Pen.Flags)) :: ((.d (.int .i64 r.Pen.Fore)) :: ((.d (.int .i64 r.Pen.Back)) :: []))))), []) e st
noncomputable def f36 (a1 : GPen) : Option (GCell) := (some (GCell.mk 32 a1))
theorem f36_ok (base : Orc) (d : Nat) (hd : 1 ≤ d) (a1 : GPen) (r : GCell) (hS : f36 a1 = some r) : lev codes base d 36 [(.agg ((.d (.int .i64 a1.Flags)) :: ((.d (.int .i64 a1.Fore)) :: ((.d (.int .i64 a1.Back)) :: []))))] [] = some ((.agg ((.d (.int .i64 r.Rune)) :: ((.d (.int .i64 r.Pen.Flags)) :: ((.d (.int .i64 r.Pen.Fore)) :: ((.d (.int .i64 r.Pen.Back)) :: []))))), []) := by
  refine lev_go codes36 rfl rfl (Nat.le_trans (Nat.le_of_ble_eq_true rfl) hd) fun Q hQ => ?_
  unfold f36 at hS
  show ZR _ Q c36_b [] _
  replace hQ : ∀ e st', f36_Q r e st' → Q e st' := hQ
  refine zrSeq ?_
  refine zrReg ?_
  refine zlRun (n := 2) (j := 2) rfl (by kernel_rfl) ?_
  refine zlEnd (by kernel_rfl) ?_
  refine zkSeq ?_
  refine zrSeq ?_
  refine zrReg ?_
  refine zlRun (n := 3) (j := 3) rfl (by kernel_rfl) ?_
  refine zlEnd (by kernel_rfl) ?_
  refine zkSeq ?_
  refine zrRet ?_
  refine zkNil ?_
  exact endQ hS hQ (fRet (by kernel_rfl) ((congrArg (fun s => outR s 0 c36.res) (by kernel_rfl : finSt c36.fin _ = f36_fin (GCell.mk 32 a1))).trans (f36_out (GCell.mk 32 a1))))
/- math/bits.Mul64 -/
def f44_fin (p1 : Int) (p2 : Int) : St := ⟨(up (up (fun _ => .un) 5 (.d (.int .u64 p2))) 4 (.d (.int .u64 p1))), (hB fun _ => 0)⟩
theorem f44_out (p1 : Int) (p2 : Int) : outR (f44_fin p1 p2) 0 c44.res = some ((.tup [(.d (.int .u64 p1)), (.d (.int .u64 p2))]), []) := by
  kernel_rfl
def f44_Q (r : Int × Int) (e : PX) (st : St) : Prop := DoneF c44 0 ((.tup [(.d (.int .u64 r.1)), (.d (.int .u64 r.2))]), []) e st
noncomputable def f44 (a1 : Int) (a2 : Int) : Option (Int × Int) := (some ((IntKind.u64.wrap ((IntKind.u64.wrap ((IntKind.u64.wrap ((Int.fdiv a1 (2 ^ 32)) * (Int.fdiv a2 (2 ^ 32)))) + (Int.fdiv (IntKind.u64.wrap ((IntKind.u64.wrap ((Int.fdiv a1 (2 ^ 32)) * (bitI .and .u64 a2 4294967295))) + (Int.fdiv (IntKind.u64.wrap ((bitI .and .u64 a1 4294967295) * (bitI .and .u64 a2 4294967295))) (2 ^ 32)))) (2 ^ 32)))) + (Int.fdiv (IntKind.u64.wrap ((bitI .and .u64 (IntKind.u64.wrap ((IntKind.u64.wrap ((Int.fdiv a1 (2 ^ 32)) * (bitI .and .u64 a2 4294967295))) + (Int.fdiv (IntKind.u64.wrap ((bitI .and .u64 a1 4294967295) * (bitI .and .u64 a2 4294967295))) (2 ^ 32)))) 4294967295) + (IntKind.u64.wrap ((bitI .and .u64 a1 4294967295) * (Int.fdiv a2 (2 ^ 32)))))) (2 ^ 32)))), (IntKind.u64.wrap (a1 * a2))))
theorem f44_ok (base : Orc) (d : Nat) (hd : 1 ≤ d) (a1 : Int) (a2 : Int) (r : Int × Int) (hS : f44 a1 a2 = some r) : lev codes base d 44 [(.d (.int .u64 a1)), (.d (.int .u64 a2))] [] = some ((.tup [(.d (.int .u64 r.1)), (.d (.int .u64 r.2))]), []) := by
  refine lev_go codes44 rfl rfl (Nat.le_trans (Nat.le_of_ble_eq_true rfl) hd) fun Q hQ => ?_
  unfold f44 at hS
  show ZR _ Q c44_b [] _
  replace hQ : ∀ e st', f44_Q r e st' → Q e st' := hQ
  refine zrSeq ?_
  refine zrReg ?_
  refine zlRun (n := 2) (j := 2) rfl (by kernel_rfl) ?_
  refine zlEnd (by kernel_rfl) ?_
  refine zkSeq ?_
  refine zrSeq ?_
  refine zrReg ?_
  refine zlRun (n := 3) (j := 3) rfl (by kernel_rfl) ?_
  refine zlEnd (by kernel_rfl) ?_
  refine zkSeq ?_
  refine zrSeq ?_
  refine zrReg ?_
  refine zlRun (n := 3) (j := 3) rfl (by kernel_rfl) ?_
  refine zlEnd (by kernel_rfl) ?_
  refine zkSeq ?_
  refine zrSeq ?_
  refine zrReg ?_
  refine zlRun (n := 3) (j := 3) rfl (by kernel_rfl) ?_
  refine zlEnd (by kernel_rfl) ?_
  refine zkSeq ?_
  refine zrSeq ?_
  refine zrReg ?_
  refine zlRun (n := 3) (j := 3) rfl (by kernel_rfl) ?_
  refine zlEnd (by kernel_rfl) ?_
  refine zkSeq ?_
  refine zrSeq ?_
  refine zrReg ?_
  refine zlRun (n := 4) (j := 4) rfl (by kernel_rfl) ?_
  refine zlEnd (by kernel_rfl) ?_
  refine zkSeq ?_
  refine zrSeq ?_
  refine zrReg ?_
  refine zlRun (n := 7) (j := 7) rfl (by kernel_rfl) ?_
  refine zlEnd (by kernel_rfl) ?_
  refine zkSeq ?_
  refine zrSeq ?_
  refine zrReg ?_
  refine zlRun (n := 3) (j := 3) rfl (by kernel_rfl) ?_
  refine zlEnd (by kernel_rfl) ?_
  refine zkSeq ?_
  refine zrSeq ?_
  refine zrReg ?_
  refine zlRun (n := 3) (j := 3) rfl (by kernel_rfl) ?_
  refine zlEnd (by kernel_rfl) ?_
  refine zkSeq ?_
  refine zrSeq ?_
  refine zrReg ?_
  refine zlRun (n := 6) (j := 6) rfl (by kernel_rfl) ?_
  refine zlEnd (by kernel_rfl) ?_
  refine zkSeq ?_
  refine zrSeq ?_
  refine zrReg ?_
  refine zlRun (n := 9) (j := 9) rfl (by kernel_rfl) ?_
  refine zlEnd (by kernel_rfl) ?_
  refine zkSeq ?_
  refine zrSeq ?_
  refine zrReg ?_
  refine zlRun (n := 4) (j := 4) rfl (by kernel_rfl) ?_
  refine zlEnd (by kernel_rfl) ?_
  refine zkSeq ?_
  refine zrRet ?_
  refine zkNil ?_
  exact endQ hS hQ (fRet (by kernel_rfl) ((congrArg (fun s => outR s 0 c44.res) (by kernel_rfl : finSt c44.fin _ = f44_fin (IntKind.u64.wrap ((IntKind.u64.wrap ((IntKind.u64.wrap ((Int.fdiv a1 (2 ^ 32)) * (Int.fdiv a2 (2 ^ 32)))) + (Int.fdiv (IntKind.u64.wrap ((IntKind.u64.wrap ((Int.fdiv a1 (2 ^ 32)) * (bitI .and .u64 a2 4294967295))) + (Int.fdiv (IntKind.u64.wrap ((bitI .and .u64 a1 4294967295) * (bitI .and .u64 a2 4294967295))) (2 ^ 32)))) (2 ^ 32)))) + (Int.fdiv (IntKind.u64.wrap ((bitI .and .u64 (IntKind.u64.wrap ((IntKind.u64.wrap ((Int.fdiv a1 (2 ^ 32)) * (bitI .and .u64 a2 4294967295))) + (Int.fdiv (IntKind.u64.wrap ((bitI .and .u64 a1 4294967295) * (bitI .and .u64 a2 4294967295))) (2 ^ 32)))) 4294967295) + (IntKind.u64.wrap ((bitI .and .u64 a1 4294967295) * (Int.fdiv a2 (2 ^ 32)))))) (2 ^ 32)))) (IntKind.u64.wrap (a1 * a2)))).trans (f44_out (IntKind.u64.wrap ((IntKind.u64.wrap ((IntKind.u64.wrap ((Int.fdiv a1 (2 ^ 32)) * (Int.fdiv a2 (2 ^ 32)))) + (Int.fdiv (IntKind.u64.wrap ((IntKind.u64.wrap ((Int.fdiv a1 (2 ^ 32)) * (bitI .and .u64 a2 4294967295))) + (Int.fdiv (IntKind.u64.wrap ((bitI .and .u64 a1 4294967295) * (bitI .and .u64 a2 4294967295))) (2 ^ 32)))) (2 ^ 32)))) + (Int.fdiv (IntKind.u64.wrap ((bitI .and .u64 (IntKind.u64.wrap ((IntKind.u64.wrap ((Int.fdiv a1 (2 ^ 32)) * (bitI .and .u64 a2 4294967295))) + (Int.fdiv (IntKind.u64.wrap ((bitI .and .u64 a1 4294967295) * (bitI .and .u64 a2 4294967295))) (2 ^ 32)))) 4294967295) + (IntKind.u64.wrap ((bitI .and .u64 a1 4294967295) * (Int.fdiv a2 (2 ^ 32)))))) (2 ^ 32)))) (IntKind.u64.wrap (a1 * a2)))))
/- math/bits.Mul -/
def f42_fin (p1 : Int) (p2 : Int) : St := ⟨(up (up (fun _ => .un) 5 (.d (.int .u64 p2))) 4 (.d (.int .u64 p1))), (hB fun _ => 0)⟩
theorem f42_out (p1 : Int) (p2 : Int) : outR (f42_fin p1 p2) 0 c42.res = some ((.tup [(.d (.int .u64 p1)), (.d (.int .u64 p2))]), []) := by
  kernel_rfl
def f42_Q (r : Int × Int) (e : PX) (st : St) : Prop := DoneF c42 0 ((.tup [(.d (.int .u64 r.1)), (.d (.int .u64 r.2))]), []) e st
def f42_j0_J (a1 : Int) (a2 : Int) : St := ⟨(up (up (fun _ => .un) 1 (.d (.int .u64 a2))) 0 (.d (.int .u64 a1))), (hB fun _ => 0)⟩
noncomputable def f42_j0 (a1 : Int) (a2 : Int) : Option (Int × Int) := ((f44 a1 a2).bind fun z2 => (some (z2.1, z2.2)))
theorem f42_j0_ok {base : Orc} {d : Nat} (hd : 2 ≤ d) (a1 : Int) (a2 : Int) {r : Int × Int} {Q : PX → St → Prop} (hQ : ∀ e st', f42_Q r e st' → Q e st')  (hS : f42_j0 a1 a2 = some r) {st : St} (he : keepSt [0, 1] [] [] st = f42_j0_J a1 a2) : ZR (lev codes base (d - 1)) Q c42_1 [] st := by
  refine zrKeep he ?_
  unfold f42_j0 at hS
  refine zrSeq ?_
  refine zrReg ?_
  refine zlRun (n := 2) (j := 2) rfl (by kernel_rfl) ?_
  refine bindE hS (fun z2 hz2 hS => ?_)
  refine zlOp (d := some 25) (op := (.call 44 [(.tmp 23), (.tmp 24)])) (g := none) (j := 3) rfl (by kernel_rfl) (by kernel_rfl) (ev_callA (by kernel_rfl) (f44_ok base (d - 1) (dpt hd rfl) a1 a2 z2 hz2) (by kernel_rfl) (by kernel_rfl)) ?_
  refine zlRun (n := 5) (j := 8) rfl (by kernel_rfl) ?_
  refine zlEnd (by kernel_rfl) ?_
  refine zkSeq ?_
  refine zrSeq ?_
  refine zrReg ?_
  refine zlRun (n := 4) (j := 4) rfl (by kernel_rfl) ?_
  refine zlEnd (by kernel_rfl) ?_
  refine zkSeq ?_
  refine zrRet ?_
  refine zkNil ?_
  exact endQ hS hQ (fRet (by kernel_rfl) ((congrArg (fun s => outR s 0 c42.res) (by kernel_rfl : finSt c42.fin _ = f42_fin z2.1 z2.2)).trans (f42_out z2.1 z2.2)))
noncomputable def f42 (a1 : Int) (a2 : Int) : Option (Int × Int) := (f42_j0 a1 a2 )
theorem f42_ok (base : Orc) (d : Nat) (hd : 2 ≤ d) (a1 : Int) (a2 : Int) (r : Int × Int) (hS : f42 a1 a2 = some r) : lev codes base d 42 [(.d (.int .u64 a1)), (.d (.int .u64 a2))] [] = some ((.tup [(.d (.int .u64 r.1)), (.d (.int .u64 r.2))]), []) := by
  refine lev_go codes42 rfl rfl (Nat.le_trans (Nat.le_of_ble_eq_true rfl) hd) fun Q hQ => ?_
  unfold f42 at hS
  show ZR _ Q c42_b [] _
  replace hQ : ∀ e st', f42_Q r e st' → Q e st' := hQ
  refine zrSeq ?_
  refine zrReg ?_
  refine zlRun (n := 2) (j := 2) rfl (by kernel_rfl) ?_
  refine zlEnd (by kernel_rfl) ?_
  refine zkSeq ?_
  refine zrSeq ?_
  refine zrCondF (by kernel_rfl) ?_
  refine zrSkip ?_
  refine zkSeq ?_
  exact f42_j0_ok hd a1 a2 hQ  hS (by kernel_rfl)
/- slices.Repeat[[]farwriter/api.Cell,farwriter/api.Cell] -/
def f41_fin (p17 : List GCell) : St := ⟨(up (fun _ => .un) 4 (.r (.msl 248 0 0 p17.length))), (up (hB fun _ => 0) 248 ⟨0, some (.own 36 4 (e_GCell.cells p17))⟩)⟩
theorem f41_out (p17 : List GCell) : outR (f41_fin p17) 0 c41.res = some ((.r (.own 0 36 4 p17.length (e_GCell.cells p17))), []) := by
  exact out_of (ids := []) (ids' := [248]) (l := [(.r (.msl 248 0 0 p17.length))]) (by kernel_rfl) (by kernel_rfl) (o_own e_GCell (e := 36) (k := 4) (xs := p17) (by kernel_rfl) rfl rfl rfl rfl)
def f41_Q (r : (List GCell)) (e : PX) (st : St) : Prop := DoneF c41 0 ((.r (.own 0 36 4 r.length (e_GCell.cells r))), []) e st
def f41_l2_J (a1 : List GCell) (a2 : Int) (x : (List GCell) × Int) : St := ⟨(up (up (fun _ => .un) 8 (.d (.int .i64 x.2))) 7 (.r (.msl 248 0 0 x.1.length))), (up (hB fun _ => 0) 248 ⟨0, some (.own 36 4 (e_GCell.cells x.1))⟩)⟩
def f41_l2_H (a1 : List GCell) (a2 : Int) (x : (List GCell) × Int) (st : St) : Prop := keepSt [7, 8] [(248, .id 248)] [] st = f41_l2_J a1 a2 x
def f41_l2_e0_J (a1 : List GCell) (a2 : Int) (p34 : List GCell) : St := ⟨(up (fun _ => .un) 7 (.r (.msl 248 0 0 p34.length))), (up (hB fun _ => 0) 248 ⟨0, some (.own 36 4 (e_GCell.cells p34))⟩)⟩
def f41_l2_X (a1 : List GCell) (a2 : Int) (z : ((List GCell))) (e : PX) (st : St) : Prop := e = .exit 0 ∧ st = f41_l2_e0_J a1 a2 z
def f41_l2_j3_J (a1 : List GCell) (a2 : Int) (p38 : List GCell) (p39 : Int) : St := ⟨(up (up (fun _ => .un) 8 (.d (.int .i64 p39))) 7 (.r (.msl 248 0 0 p38.length))), (up (hB fun _ => 0) 248 ⟨0, some (.own 36 4 (e_GCell.cells p38))⟩)⟩
noncomputable def f41_l2_j3 (a1 : List GCell) (a2 : Int) (p38 : List GCell) (p39 : Int) : Option (((List GCell) × Int) ⊕ (((List GCell)))) := ((chk (decide (0 ≤ p39) && decide (p39 ≤ (p38.length : Int)) && decide ((p38.length : Int) ≤ (p38.length : Int)))).bind fun z37 => ((chk (decide (0 ≤ 0) && decide (0 ≤ p39) && decide (p39 ≤ (p38.length : Int)))).bind fun z38 => ((part? p38 0 ((p39 : Int).toNat - (0 : Int).toNat)).bind fun z39 => ((chk (decide (((p39 : Int).toNat) + (((p38.length : Int) : Int).toNat - (p39 : Int).toNat) ≤ p38.length))).bind fun z40 => ((some (cpyL p38 ((p39 : Int).toNat) (((p38.length : Int) : Int).toNat - (p39 : Int).toNat) z39)).bind fun z41 => (some (.inl (z41, (IntKind.i64.wrap (p39 + ((min z39.length (((z41.length : Int) : Int).toNat - (p39 : Int).toNat) : Nat) : Int)))))))))))
theorem f41_l2_j3_ok {base : Orc} {d : Nat} (hd : 3 ≤ d) (a1 : List GCell) (a2 : Int) {r : ((List GCell) × Int) ⊕ (((List GCell)))} {Q : PX → St → Prop} (hQ : ∀ e st', finL (f41_l2_H a1 a2) (f41_l2_X a1 a2) r e st' → Q e st') (p38 : List GCell) (p39 : Int) (hS : f41_l2_j3 a1 a2 p38 p39 = some r) {st : St} (he : keepSt [7, 8] [(248, .id 248)] [] st = f41_l2_j3_J a1 a2 p38 p39) : ZR (lev codes base (d - 1)) Q c41_1 [] st := by
  refine zrKeep he ?_
  unfold f41_l2_j3 at hS
  refine zrBlk ?_
  refine zrRegD ?_
  refine zdRun (n := 3) (j := 3) (ts := [[], [], []]) (acc' := [[], [], []]) rfl (by kernel_rfl) (by kernel_rfl) (by kernel_rfl) ?_
  refine bindE hS (fun z37 hz37 hS => ?_)
  refine zdOp (d := some 41) (op := (.slS 36 4 (.tmp 39) (.some (.tmp 40)) .none)) (g := none) (v := (.r (.msl 248 0 ((p39 : Int).toNat) (((p38.length : Int) : Int).toNat - (p39 : Int).toNat)))) (ups := []) (j := 4) (t1 := [(248, false)]) (acc' := [[], [], [], [(248, false)]]) (by kernel_rfl) (by kernel_rfl) rfl (by kernel_rfl) (by kernel_rfl) (ev_slM (b := 248) (g := 0) (e := 36) (a := p39) (c := (p38.length : Int)) (l := 0) (n := p38.length) (l' := ((p39 : Int).toNat)) (n' := (((p38.length : Int) : Int).toNat - (p39 : Int).toNat)) (cs := e_GCell.cells p38) (by kernel_rfl) (by kernel_rfl) (bnd_s _ (kk := .i64) (j := p39) (by kernel_rfl)) (bnd_n _) hz37 (by simp) rfl) ?_
  refine zdRun (n := 2) (j := 6) (ts := [[], []]) (acc' := [[], [], [], [(248, false)], [], []]) rfl (by kernel_rfl) (by kernel_rfl) (by kernel_rfl) ?_
  refine bindE hS (fun z38 hz38 hS => ?_)
  refine zdOp (d := some 44) (op := (.slS 36 4 (.tmp 42) .none (.some (.tmp 43)))) (g := none) (v := (.r (.msl 248 0 0 ((p39 : Int).toNat - (0 : Int).toNat)))) (ups := []) (j := 7) (t1 := [(248, false)]) (acc' := [[], [], [], [(248, false)], [], [], [(248, false)]]) (by kernel_rfl) (by kernel_rfl) rfl (by kernel_rfl) (by kernel_rfl) (ev_slM (b := 248) (g := 0) (e := 36) (a := 0) (c := p39) (l := 0) (n := p38.length) (l' := 0) (n' := ((p39 : Int).toNat - (0 : Int).toNat)) (cs := e_GCell.cells p38) (by kernel_rfl) (by kernel_rfl) (bnd_n 0) (bnd_s _ (kk := .i64) (j := p39) (by kernel_rfl)) hz38 (by simp) rfl) ?_
  refine bindE hS (fun z39 hz39 hS => ?_)
  refine bindE hS (fun z40 hz40 hS => ?_)
  refine bindE hS (fun z41 hz41 hS => ?_)
  refine zdOp (d := some 45) (op := (.cpy 4 (.tmp 41) (.tmp 44))) (g := none) (v := (.d (.int .i64 ((min z39.length (((p38.length : Int) : Int).toNat - (p39 : Int).toNat) : Nat) : Int)))) (ups := [(248, ⟨0, some (.own 36 4 (e_GCell.cells (cpyL p38 ((p39 : Int).toNat) (((p38.length : Int) : Int).toNat - (p39 : Int).toNat) z39)))⟩)]) (j := 8) (t1 := [(248, true), (248, false)]) (acc' := [[], [], [], [(248, false)], [], [], [(248, false)], [(248, true), (248, false)]]) (by kernel_rfl) (by kernel_rfl) rfl (by kernel_rfl) (by kernel_rfl) (ev_cpy e_GCell (b := 248) (g := 0) (l := ((p39 : Int).toNat)) (n := (((p38.length : Int) : Int).toNat - (p39 : Int).toNat)) (e := 36) (xs := p38) (ys := z39) (by kernel_rfl) (by kernel_rfl) rfl ((congrArg (asL _) (by kernel_rfl : ρof _ (.tmp 44) = (.r (.msl 248 0 0 ((p39 : Int).toNat - (0 : Int).toNat))))).trans (as_part e_GCell (e := 36) (k := 4) (xs := p38) (by kernel_rfl) rfl hz39)) hz40) ?_
  have ez41 := Option.some.inj hz41
  have lz41 : p38.length = z41.length := by rw [← ez41]; exact (cpyL_len (of_decide_eq_true (chk_t hz40))).symm
  rw [ez41]
  try delta f41_l2_j3_J
  try rw [lz41]
  refine zdRun (n := 2) (j := 10) (ts := [[], []]) (acc' := [[], [], [], [(248, false)], [], [], [(248, false)], [(248, true), (248, false)], [], []]) rfl (by kernel_rfl) (by kernel_rfl) (by kernel_rfl) ?_
  refine zdEnd (by kernel_rfl) (by kernel_rfl) ?_
  refine zkBlk ?_
  refine zkNil ?_
  exact endQ hS hQ (finL_n (by show keepSt _ _ _ _ = _; kernel_rfl))
noncomputable def f41_l2 (a1 : List GCell) (a2 : Int) (x : (List GCell) × Int) : Option (((List GCell) × Int) ⊕ (((List GCell)))) := (bif (decide (x.2 < (x.1.length : Int))) then (f41_l2_j3 a1 a2 x.1 x.2) else (some (.inr x.1)))
theorem f41_l2_ok {base : Orc} {d : Nat} (hd : 3 ≤ d) (a1 : List GCell) (a2 : Int) {r : ((List GCell) × Int) ⊕ (((List GCell)))} {Q : PX → St → Prop} (hQ : ∀ e st', finL (f41_l2_H a1 a2) (f41_l2_X a1 a2) r e st' → Q e st') {x : (List GCell) × Int} (hS : f41_l2 a1 a2 x = some r) {st : St} (he : f41_l2_H a1 a2 x st) : ZR (lev codes base (d - 1)) Q c41_2 [] st := by
  refine zrKeep he ?_
  unfold f41_l2 at hS
  refine zrSeq ?_
  refine zrSeq ?_
  refine zrReg ?_
  refine zlRun (n := 3) (j := 3) rfl (by kernel_rfl) ?_
  refine zlBool (d := 37) (op := (.cmpI .lss (.tmp 34) (.tmp 36))) (g := none) (j := 4) (decide (x.2 < (x.1.length : Int))) rfl (by kernel_rfl) (by kernel_rfl) (by kernel_rfl) (fun hc => ?_) (fun hc => ?_)
  · replace hS := cond_t hc hS
    refine zlEnd (by kernel_rfl) ?_
    refine zkSeq ?_
    refine zrCondT (by kernel_rfl) ?_
    refine zrSkip ?_
    refine zkSeq ?_
    exact f41_l2_j3_ok hd a1 a2 hQ x.1 x.2 hS (by kernel_rfl)
  · replace hS := cond_f hc hS
    refine zlEnd (by kernel_rfl) ?_
    refine zkSeq ?_
    refine zrCondF (by kernel_rfl) ?_
    refine zrKeep (J := f41_l2_e0_J a1 a2 x.1) (by kernel_rfl) ?_
    refine zrExit ?_
    refine zkSeqX ?_
    refine zkNil ?_
    exact endQ hS hQ (finL_x (by intro h; cases h) (by show _ = _ ∧ _ = _; exact ⟨rfl, rfl⟩))
def f41_j1_J (a1 : List GCell) (a2 : Int) (p23 : Int) : St := ⟨(up (up (fun _ => .un) 6 (.d (.int .u64 p23))) 0 (.d (.sl a1.length (e_GCell.cells a1)))), (hB fun _ => 0)⟩
noncomputable def f41_j1 (a1 : List GCell) (a2 : Int) (p23 : Int) : Option ((List GCell)) := ((mk? 32 (IntKind.i64.wrap (p23)) (IntKind.i64.wrap (p23)) (GCell.mk 0 (GPen.mk 0 0 0))).bind fun z24 => ((chk (decide (0 + z24.length ≤ z24.length))).bind fun z25 => ((some (cpyL z24 0 z24.length a1)).bind fun z26 => ((loopO (f41_l2 a1 a2) (z26, ((min a1.length z26.length : Nat) : Int))).bind fun z42 => (some z42)))))
theorem f41_j1_ok {base : Orc} {d : Nat} (hd : 3 ≤ d) (a1 : List GCell) (a2 : Int) {r : (List GCell)} {Q : PX → St → Prop} (hQ : ∀ e st', f41_Q r e st' → Q e st') (p23 : Int) (hS : f41_j1 a1 a2 p23 = some r) {st : St} (he : keepSt [0, 6] [] [] st = f41_j1_J a1 a2 p23) : ZR (lev codes base (d - 1)) Q c41_3 [] st := by
  refine zrKeep he ?_
  unfold f41_j1 at hS
  refine zrSeq ?_
  refine zrReg ?_
  refine zlRun (n := 2) (j := 2) rfl (by kernel_rfl) ?_
  refine bindE hS (fun z24 hz24 hS => ?_)
  refine zlOp (d := some 30) (op := (.mks 36 4 32 [(4, (.int .i64 0))] (.tmp 29) (.tmp 29))) (g := none) (v := (.r (.msl 248 1 0 z24.length))) (ups := [(248, ⟨1, some (.own 36 4 (e_GCell.cells z24))⟩)]) (j := 3) rfl (by kernel_rfl) (by kernel_rfl) (ev_mks e_GCell (kl := .i64) (kc := .i64) (z0 := (GCell.mk 0 (GPen.mk 0 0 0))) (a := (IntKind.i64.wrap (p23))) (c := (IntKind.i64.wrap (p23))) (by kernel_rfl) (by kernel_rfl) (by kernel_rfl) rfl hz24) ?_
  refine zlRun (n := 1) (j := 4) rfl (by kernel_rfl) ?_
  refine zlEnd (by kernel_rfl) ?_
  refine zkSeq ?_
  refine zrSeq ?_
  refine zrReg ?_
  refine zlRun (n := 2) (j := 2) rfl (by kernel_rfl) ?_
  refine bindE hS (fun z25 hz25 hS => ?_)
  refine bindE hS (fun z26 hz26 hS => ?_)
  refine zlOp (d := some 33) (op := (.cpy 4 (.tmp 31) (.tmp 32))) (g := none) (v := (.d (.int .i64 ((min a1.length z24.length : Nat) : Int)))) (ups := [(248, ⟨1, some (.own 36 4 (e_GCell.cells (cpyL z24 0 z24.length a1)))⟩)]) (j := 3) rfl (by kernel_rfl) (by kernel_rfl) (ev_cpy e_GCell (b := 248) (g := 1) (l := 0) (n := z24.length) (e := 36) (xs := z24) (ys := a1) (by kernel_rfl) (by kernel_rfl) rfl ((congrArg (asL _) (by kernel_rfl : ρof _ (.tmp 32) = (.d (.sl a1.length (e_GCell.cells a1))))).trans (as_d _ _)) hz25) ?_
  have ez26 := Option.some.inj hz26
  have lz26 : z24.length = z26.length := by rw [← ez26]; exact (cpyL_len (of_decide_eq_true (chk_t hz25))).symm
  rw [ez26]
  try delta f41_j1_J
  try rw [lz26]
  refine zlRun (n := 1) (j := 4) rfl (by kernel_rfl) ?_
  refine zlEnd (by kernel_rfl) ?_
  refine zkSeq ?_
  refine zrSeq ?_
  refine zrBlk ?_
  refine bindE hS (fun z42 hz42 hS => ?_)
  refine zrLoop (f41_l2_H a1 a2) (f41_l2_X a1 a2) (fun x st r Q h0 hS hQ => f41_l2_ok hd a1 a2 hQ hS h0) (x := (z26, ((min a1.length z26.length : Nat) : Int))) (z := z42) (by show keepSt _ _ _ _ = _; kernel_rfl) hz42 ?_
  intro e st' _ hX
  obtain ⟨rfl, rfl⟩ : _ ∧ _ := hX
  refine zkBlkX ?_
  refine zkSeq ?_
  refine zrSeq ?_
  refine zrReg ?_
  refine zlRun (n := 2) (j := 2) rfl (by kernel_rfl) ?_
  refine zlEnd (by kernel_rfl) ?_
  refine zkSeq ?_
  refine zrRet ?_
  refine zkNil ?_
  exact endQ hS hQ (fRet (by kernel_rfl) ((congrArg (fun s => outR s 0 c41.res) (by kernel_rfl : finSt c41.fin _ = f41_fin z42)).trans (f41_out z42)))
def f41_j0_J (a1 : List GCell) (a2 : Int) : St := ⟨(up (up (fun _ => .un) 1 (.d (.int .i64 a2))) 0 (.d (.sl a1.length (e_GCell.cells a1)))), (hB fun _ => 0)⟩
noncomputable def f41_j0 (a1 : List GCell) (a2 : Int) : Option ((List GCell)) := ((f42 (IntKind.u64.wrap ((a1.length : Int))) (IntKind.u64.wrap (a2))).bind fun z21 => (bif (decide (0 < z21.1)) then ((chk false).bind fun z43 => ((chk false).bind fun z44 => (f41_j1 a1 a2 z21.2))) else (bif (decide (9223372036854775807 < z21.2)) then ((chk false).bind fun z45 => ((chk false).bind fun z46 => (f41_j1 a1 a2 z21.2))) else (f41_j1 a1 a2 z21.2))))
theorem f41_j0_ok {base : Orc} {d : Nat} (hd : 3 ≤ d) (a1 : List GCell) (a2 : Int) {r : (List GCell)} {Q : PX → St → Prop} (hQ : ∀ e st', f41_Q r e st' → Q e st')  (hS : f41_j0 a1 a2 = some r) {st : St} (he : keepSt [0, 1] [] [] st = f41_j0_J a1 a2) : ZR (lev codes base (d - 1)) Q c41_4 [] st := by
  refine zrKeep he ?_
  unfold f41_j0 at hS
  refine zrSeq ?_
  refine zrReg ?_
  refine zlRun (n := 5) (j := 5) rfl (by kernel_rfl) ?_
  refine bindE hS (fun z21 hz21 hS => ?_)
  refine zlOp (d := some 18) (op := (.call 42 [(.tmp 15), (.tmp 17)])) (g := none) (j := 6) rfl (by kernel_rfl) (by kernel_rfl) (ev_callA (by kernel_rfl) (f42_ok base (d - 1) (dpt hd rfl) (IntKind.u64.wrap ((a1.length : Int))) (IntKind.u64.wrap (a2)) z21 hz21) (by kernel_rfl) (by kernel_rfl)) ?_
  refine zlRun (n := 5) (j := 11) rfl (by kernel_rfl) ?_
  refine zlEnd (by kernel_rfl) ?_
  refine zkSeq ?_
  refine zrSeq ?_
  refine zrSeq ?_
  refine zrReg ?_
  refine zlRun (n := 1) (j := 1) rfl (by kernel_rfl) ?_
  refine zlBool (d := 22) (op := (.cmpI .gtr (.tmp 21) (.const (.int .u64 0)))) (g := none) (j := 2) (decide (0 < z21.1)) rfl (by kernel_rfl) (by kernel_rfl) (by kernel_rfl) (fun hc => ?_) (fun hc => ?_)
  · replace hS := cond_t hc hS
    refine zlRun (n := 4) (j := 6) rfl (by kernel_rfl) ?_
    refine zlEnd (by kernel_rfl) ?_
    refine zkSeq ?_
    refine zrCondT (by kernel_rfl) ?_
    refine zrReg ?_
    refine bindE hS (fun z43 hz43 hS => ?_)
    refine zlOp (d := some 27) (op := (.mx [])) (g := none) (v := .un) (ups := []) (j := 1) rfl (by kernel_rfl) (by kernel_rfl) (by exact absurd hz43 (by simp [chk])) ?_
    refine bindE hS (fun z44 hz44 hS => ?_)
    refine zlOp (d := none) (op := (.mx [])) (g := none) (v := .un) (ups := []) (j := 2) rfl (by kernel_rfl) (by kernel_rfl) (by exact absurd hz44 (by simp [chk])) ?_
    refine zlEnd (by kernel_rfl) ?_
    refine zkSeq ?_
    exact f41_j1_ok hd a1 a2 hQ z21.2 hS (by kernel_rfl)
  · replace hS := cond_f hc hS
    refine zlRun (n := 2) (j := 4) rfl (by kernel_rfl) ?_
    refine zlBool (d := 25) (op := (.cmpI .gtr (.tmp 24) (.const (.int .u64 9223372036854775807)))) (g := (some (23, false))) (j := 5) (decide (9223372036854775807 < z21.2)) rfl (by kernel_rfl) (by kernel_rfl) (by kernel_rfl) (fun hc => ?_) (fun hc => ?_)
    · replace hS := cond_t hc hS
      refine zlRun (n := 1) (j := 6) rfl (by kernel_rfl) ?_
      refine zlEnd (by kernel_rfl) ?_
      refine zkSeq ?_
      refine zrCondT (by kernel_rfl) ?_
      refine zrReg ?_
      refine bindE hS (fun z45 hz45 hS => ?_)
      refine zlOp (d := some 27) (op := (.mx [])) (g := none) (v := .un) (ups := []) (j := 1) rfl (by kernel_rfl) (by kernel_rfl) (by exact absurd hz45 (by simp [chk])) ?_
      refine bindE hS (fun z46 hz46 hS => ?_)
      refine zlOp (d := none) (op := (.mx [])) (g := none) (v := .un) (ups := []) (j := 2) rfl (by kernel_rfl) (by kernel_rfl) (by exact absurd hz46 (by simp [chk])) ?_
      refine zlEnd (by kernel_rfl) ?_
      refine zkSeq ?_
      exact f41_j1_ok hd a1 a2 hQ z21.2 hS (by kernel_rfl)
    · replace hS := cond_f hc hS
      refine zlRun (n := 1) (j := 6) rfl (by kernel_rfl) ?_
      refine zlEnd (by kernel_rfl) ?_
      refine zkSeq ?_
      refine zrCondF (by kernel_rfl) ?_
      refine zrSkip ?_
      refine zkSeq ?_
      exact f41_j1_ok hd a1 a2 hQ z21.2 hS (by kernel_rfl)
noncomputable def f41 (a1 : List GCell) (a2 : Int) : Option ((List GCell)) := (bif (decide (a2 < 0)) then ((chk false).bind fun z47 => ((chk false).bind fun z48 => (f41_j0 a1 a2 ))) else (f41_j0 a1 a2 ))
theorem f41_ok (base : Orc) (d : Nat) (hd : 3 ≤ d) (a1 : List GCell) (a2 : Int) (r : (List GCell)) (hS : f41 a1 a2 = some r) : lev codes base d 41 [(.d (.sl a1.length (e_GCell.cells a1))), (.d (.int .i64 a2))] [] = some ((.r (.own 0 36 4 r.length (e_GCell.cells r))), []) := by
  refine lev_go codes41 rfl rfl (Nat.le_trans (Nat.le_of_ble_eq_true rfl) hd) fun Q hQ => ?_
  unfold f41 at hS
  show ZR _ Q c41_b [] _
  replace hQ : ∀ e st', f41_Q r e st' → Q e st' := hQ
  refine zrSeq ?_
  refine zrReg ?_
  refine zlRun (n := 1) (j := 1) rfl (by kernel_rfl) ?_
  refine zlEnd (by kernel_rfl) ?_
  refine zkSeq ?_
  refine zrSeq ?_
  refine zrSeq ?_
  refine zrReg ?_
  refine zlRun (n := 1) (j := 1) rfl (by kernel_rfl) ?_
  refine zlBool (d := 10) (op := (.cmpI .lss (.tmp 9) (.const (.int .i64 0)))) (g := none) (j := 2) (decide (a2 < 0)) rfl (by kernel_rfl) (by kernel_rfl) (by kernel_rfl) (fun hc => ?_) (fun hc => ?_)
  · replace hS := cond_t hc hS
    refine zlEnd (by kernel_rfl) ?_
    refine zkSeq ?_
    refine zrCondT (by kernel_rfl) ?_
    refine zrReg ?_
    refine bindE hS (fun z47 hz47 hS => ?_)
    refine zlOp (d := some 11) (op := (.mx [])) (g := none) (v := .un) (ups := []) (j := 1) rfl (by kernel_rfl) (by kernel_rfl) (by exact absurd hz47 (by simp [chk])) ?_
    refine bindE hS (fun z48 hz48 hS => ?_)
    refine zlOp (d := none) (op := (.mx [])) (g := none) (v := .un) (ups := []) (j := 2) rfl (by kernel_rfl) (by kernel_rfl) (by exact absurd hz48 (by simp [chk])) ?_
    refine zlEnd (by kernel_rfl) ?_
    refine zkSeq ?_
    exact f41_j0_ok hd a1 a2 hQ  hS (by kernel_rfl)
  · replace hS := cond_f hc hS
    refine zlEnd (by kernel_rfl) ?_
    refine zkSeq ?_
    refine zrCondF (by kernel_rfl) ?_
    refine zrSkip ?_
    refine zkSeq ?_
    exact f41_j0_ok hd a1 a2 hQ  hS (by kernel_rfl)
/- farwriter/grid.blanks -/
def f31_fin (p1 : Int) (p2 : Int) (p3 : List GCell) : St := ⟨(up (fun _ => .un) 6 (.r (.ptr 56 0 0))), (up (up (hB fun _ => 0) 128 ⟨0, some (.own 36 4 (e_GCell.cells p3))⟩) 56 ⟨0, some (.box ((.d (.int .i64 p1)) :: ((.d (.int .i64 p2)) :: ((.r (.msl 128 0 0 p3.length)) :: []))))⟩)⟩
theorem f31_out (p1 : Int) (p2 : Int) (p3 : List GCell) : outR (f31_fin p1 p2 p3) 0 c31.res = some ((.agg ((.d (.int .i64 p1)) :: ((.d (.int .i64 p2)) :: ((.r (.own 0 36 4 p3.length (e_GCell.cells p3))) :: [])))), []) := by
  exact out_of (ids := []) (ids' := [128]) (l := [(.agg ((.d (.int .i64 p1)) :: ((.d (.int .i64 p2)) :: ((.r (.msl 128 0 0 p3.length)) :: []))))]) (by kernel_rfl) (by kernel_rfl) (o_agg (o_cons rfl (o_cons rfl (o_cons (o_own e_GCell (e := 36) (k := 4) (xs := p3) (by kernel_rfl) rfl rfl rfl rfl) o_nil))))
def f31_Q (r : Int × Int × (List GCell)) (e : PX) (st : St) : Prop := DoneF c31 0 ((.agg ((.d (.int .i64 r.1)) :: ((.d (.int .i64 r.2.1)) :: ((.r (.own 0 36 4 r.2.2.length (e_GCell.cells r.2.2))) :: [])))), []) e st
noncomputable def f31 (a1 : Int) (a2 : Int) (a3 : GPen) : Option (Int × Int × (List GCell)) := ((f36 a3).bind fun z3 => ((f41 [z3] (IntKind.i64.wrap (a1 * a2))).bind fun z4 => (some (a1, a2, z4))))
theorem f31_ok (base : Orc) (d : Nat) (hd : 4 ≤ d) (a1 : Int) (a2 : Int) (a3 : GPen) (r : Int × Int × (List GCell)) (hS : f31 a1 a2 a3 = some r) : lev codes base d 31 [(.d (.int .i64 a1)), (.d (.int .i64 a2)), (.agg ((.d (.int .i64 a3.Flags)) :: ((.d (.int .i64 a3.Fore)) :: ((.d (.int .i64 a3.Back)) :: []))))] [] = some ((.agg ((.d (.int .i64 r.1)) :: ((.d (.int .i64 r.2.1)) :: ((.r (.own 0 36 4 r.2.2.length (e_GCell.cells r.2.2))) :: [])))), []) := by
  refine lev_go codes31 rfl rfl (Nat.le_trans (Nat.le_of_ble_eq_true rfl) hd) fun Q hQ => ?_
  unfold f31 at hS
  show ZR _ Q c31_b [] _
  replace hQ : ∀ e st', f31_Q r e st' → Q e st' := hQ
  refine zrSeq ?_
  refine zrReg ?_
  refine zlRun (n := 2) (j := 2) rfl (by kernel_rfl) ?_
  refine zlEnd (by kernel_rfl) ?_
  refine zkSeq ?_
  refine zrSeq ?_
  refine zrReg ?_
  refine zlRun (n := 3) (j := 3) rfl (by kernel_rfl) ?_
  refine bindE hS (fun z3 hz3 hS => ?_)
  refine zlOp (d := some 10) (op := (.call 36 [(.tmp 9)])) (g := none) (j := 4) rfl (by kernel_rfl) (by kernel_rfl) (ev_callA (by kernel_rfl) (f36_ok base (d - 1) (dpt hd rfl) a3 z3 hz3) (by kernel_rfl) (by kernel_rfl)) ?_
  refine zlRun (n := 4) (j := 8) rfl (by kernel_rfl) ?_
  refine bindE hS (fun z4 hz4 hS => ?_)
  refine zlOp (d := some 15) (op := (.call 41 [(.tmp 11), (.tmp 14)])) (g := none) (j := 9) rfl (by kernel_rfl) (by kernel_rfl) (ev_callB (args := [(.r (.msl 96 1 0 (([z3] : List GCell).length))), (.d (.int .i64 (IntKind.i64.wrap (a1 * a2))))]) (by kernel_rfl) (l_cons (l_own e_GCell (e := 36) (k := 4) (xs := [z3]) (by kernel_rfl) rfl rfl) (l_cons (by kernel_rfl) l_nil)) (f41_ok base (d - 1) (dpt hd rfl) [z3] (IntKind.i64.wrap (a1 * a2)) z4 hz4) (by simp only [free_own e_GCell (fun _ => rfl), free_tup, free_agg, free_nl, free_cs, free_int, free_bool, free_str, free_un, free_ni, free_s0, Bool.and_true, Bool.or_true, Bool.and_self]) (by kernel_rfl)) ?_
  refine zlRun (n := 2) (j := 11) rfl (by kernel_rfl) ?_
  refine zlEnd (by kernel_rfl) ?_
  refine zkSeq ?_
  refine zrRet ?_
  refine zkNil ?_
  exact endQ hS hQ (fRet (by kernel_rfl) ((congrArg (fun s => outR s 0 c31.res) (by kernel_rfl : finSt c31.fin _ = f31_fin a1 a2 z4)).trans (f31_out a1 a2 z4)))
/- farwriter/grid.New -/
def f14_fin (p5 : Int) (p6 : Int) (p7 : List GCell) (p8 : Int) : St := ⟨(up (up (fun _ => .un) 7 (.d (.int .i64 p8))) 6 (.r (.ptr 56 0 0))), (up (up (hB fun _ => 0) 216 ⟨0, some (.own 36 4 (e_GCell.cells p7))⟩) 56 ⟨0, some (.box ((.d (.int .i64 p5)) :: ((.d (.int .i64 p6)) :: ((.r (.msl 216 0 0 p7.length)) :: []))))⟩)⟩
theorem f14_out (p5 : Int) (p6 : Int) (p7 : List GCell) (p8 : Int) : outR (f14_fin p5 p6 p7 p8) 0 c14.res = some ((.tup [(.agg ((.d (.int .i64 p5)) :: ((.d (.int .i64 p6)) :: ((.r (.own 0 36 4 p7.length (e_GCell.cells p7))) :: [])))), (.d (.int .i64 p8))]), []) := by
  exact out_of (ids := []) (ids' := [216]) (l := [(.agg ((.d (.int .i64 p5)) :: ((.d (.int .i64 p6)) :: ((.r (.msl 216 0 0 p7.length)) :: [])))), (.d (.int .i64 p8))]) (by kernel_rfl) (by kernel_rfl) (o_tup (o_cons (o_agg (o_cons rfl (o_cons rfl (o_cons (o_own e_GCell (e := 36) (k := 4) (xs := p7) (by kernel_rfl) rfl rfl rfl rfl) o_nil)))) (o_cons rfl o_nil)))
def f14_Q (r : Int × Int × (List GCell) × Int) (e : PX) (st : St) : Prop := DoneF c14 0 ((.tup [(.agg ((.d (.int .i64 r.1)) :: ((.d (.int .i64 r.2.1)) :: ((.r (.own 0 36 4 r.2.2.1.length (e_GCell.cells r.2.2.1))) :: [])))), (.d (.int .i64 r.2.2.2))]), []) e st
def f14_j0_J (a1 : Int) (a2 : Int) (a3 : GPen) : St := ⟨(up (up (up (up (fun _ => .un) 6 (.r (.ptr 56 0 0))) 5 (.r (.ptr 48 0 0))) 1 (.d (.int .i64 a2))) 0 (.d (.int .i64 a1))), (up (up (hB fun _ => 0) 56 ⟨0, some (.box ((.d (.int .i64 0)) :: ((.d (.int .i64 0)) :: ((.d (.sl ([] : List GCell).length (e_GCell.cells ([])))) :: []))))⟩) 48 ⟨0, some (.box ((.d (.int .i64 a3.Flags)) :: ((.d (.int .i64 a3.Fore)) :: ((.d (.int .i64 a3.Back)) :: []))))⟩)⟩
noncomputable def f14_j0 (a1 : Int) (a2 : Int) (a3 : GPen) : Option (Int × Int × (List GCell) × Int) := ((f19 a3).bind fun z5 => (bif (!decide (z5 = 0)) then (some (0, 0, [], z5)) else ((f31 a1 a2 a3).bind fun z6 => (some (z6.1, z6.2.1, z6.2.2, 0)))))
theorem f14_j0_ok {base : Orc} {d : Nat} (hd : 5 ≤ d) (a1 : Int) (a2 : Int) (a3 : GPen) {r : Int × Int × (List GCell) × Int} {Q : PX → St → Prop} (hQ : ∀ e st', f14_Q r e st' → Q e st')  (hS : f14_j0 a1 a2 a3 = some r) {st : St} (he : keepSt [0, 1, 5, 6] [(48, .id 48), (56, .id 56)] [.cell 56 2 0 0 1] st = f14_j0_J a1 a2 a3) : ZR (lev codes base (d - 1)) Q c14_1 [] st := by
  refine zrKeep he ?_
  unfold f14_j0 at hS
  refine zrSeq ?_
  refine zrSeq ?_
  refine zrReg ?_
  refine zlRun (n := 1) (j := 1) rfl (by kernel_rfl) ?_
  refine bindE hS (fun z5 hz5 hS => ?_)
  refine zlOp (d := some 18) (op := (.call 19 [(.tmp 17)])) (g := none) (j := 2) rfl (by kernel_rfl) (by kernel_rfl) (ev_callA (by kernel_rfl) (f19_ok base (d - 1) (dpt hd rfl) a3 z5 hz5) (by kernel_rfl) (by kernel_rfl)) ?_
  refine zlRun (n := 1) (j := 3) rfl (by kernel_rfl) ?_
  refine zlEnd (by kernel_rfl) ?_
  refine zkSeq ?_
  refine zrSeq ?_
  refine zrReg ?_
  refine zlRun (n := 1) (j := 1) rfl (by kernel_rfl) ?_
  refine zlBool (d := 20) (op := (.cmpI .neq (.tmp 19) (.const (.int .i64 0)))) (g := none) (j := 2) (!decide (z5 = 0)) rfl (by kernel_rfl) (by kernel_rfl) (by kernel_rfl) (fun hc => ?_) (fun hc => ?_)
  · replace hS := cond_t hc hS
    refine zlEnd (by kernel_rfl) ?_
    refine zkSeq ?_
    refine zrCondT (by kernel_rfl) ?_
    refine zrSeq ?_
    refine zrReg ?_
    refine zlRun (n := 4) (j := 4) rfl (by kernel_rfl) ?_
    refine zlEnd (by kernel_rfl) ?_
    refine zkSeq ?_
    refine zrRet ?_
    refine zkSeqR ?_
    refine zkNil ?_
    exact endQ hS hQ (fRet (by kernel_rfl) ((congrArg (fun s => outR s 0 c14.res) (by kernel_rfl : finSt c14.fin _ = f14_fin 0 0 [] z5)).trans (f14_out 0 0 [] z5)))
  · replace hS := cond_f hc hS
    refine zlEnd (by kernel_rfl) ?_
    refine zkSeq ?_
    refine zrCondF (by kernel_rfl) ?_
    refine zrSkip ?_
    refine zkSeq ?_
    refine zrSeq ?_
    refine zrReg ?_
    refine zlRun (n := 3) (j := 3) rfl (by kernel_rfl) ?_
    refine bindE hS (fun z6 hz6 hS => ?_)
    refine zlOp (d := some 26) (op := (.call 31 [(.tmp 23), (.tmp 24), (.tmp 25)])) (g := none) (j := 4) rfl (by kernel_rfl) (by kernel_rfl) (ev_callA (by kernel_rfl) (f31_ok base (d - 1) (dpt hd rfl) a1 a2 a3 z6 hz6) (by kernel_rfl) (by kernel_rfl)) ?_
    refine zlRun (n := 2) (j := 6) rfl (by kernel_rfl) ?_
    refine zlEnd (by kernel_rfl) ?_
    refine zkSeq ?_
    refine zrRet ?_
    refine zkNil ?_
    exact endQ hS hQ (fRet (by kernel_rfl) ((congrArg (fun s => outR s 0 c14.res) (by kernel_rfl : finSt c14.fin _ = f14_fin z6.1 z6.2.1 z6.2.2 0)).trans (f14_out z6.1 z6.2.1 z6.2.2 0)))
noncomputable def f14 (a1 : Int) (a2 : Int) (a3 : GPen) : Option (Int × Int × (List GCell) × Int) := ((f17 a1 a2).bind fun z7 => (bif (!decide (z7 = 0)) then (some (0, 0, [], z7)) else (f14_j0 a1 a2 a3 )))
theorem f14_ok (base : Orc) (d : Nat) (hd : 5 ≤ d) (a1 : Int) (a2 : Int) (a3 : GPen) (r : Int × Int × (List GCell) × Int) (hS : f14 a1 a2 a3 = some r) : lev codes base d 14 [(.d (.int .i64 a1)), (.d (.int .i64 a2)), (.agg ((.d (.int .i64 a3.Flags)) :: ((.d (.int .i64 a3.Fore)) :: ((.d (.int .i64 a3.Back)) :: []))))] [] = some ((.tup [(.agg ((.d (.int .i64 r.1)) :: ((.d (.int .i64 r.2.1)) :: ((.r (.own 0 36 4 r.2.2.1.length (e_GCell.cells r.2.2.1))) :: [])))), (.d (.int .i64 r.2.2.2))]), []) := by
  refine lev_go codes14 rfl rfl (Nat.le_trans (Nat.le_of_ble_eq_true rfl) hd) fun Q hQ => ?_
  unfold f14 at hS
  show ZR _ Q c14_b [] _
  replace hQ : ∀ e st', f14_Q r e st' → Q e st' := hQ
  refine zrSeq ?_
  refine zrReg ?_
  refine zlRun (n := 3) (j := 3) rfl (by kernel_rfl) ?_
  refine zlEnd (by kernel_rfl) ?_
  refine zkSeq ?_
  refine zrSeq ?_
  refine zrSeq ?_
  refine zrReg ?_
  refine zlRun (n := 2) (j := 2) rfl (by kernel_rfl) ?_
  refine bindE hS (fun z7 hz7 hS => ?_)
  refine zlOp (d := some 12) (op := (.call 17 [(.tmp 10), (.tmp 11)])) (g := none) (j := 3) rfl (by kernel_rfl) (by kernel_rfl) (ev_callA (by kernel_rfl) (f17_ok base (d - 1) (dpt hd rfl) a1 a2 z7 hz7) (by kernel_rfl) (by kernel_rfl)) ?_
  refine zlRun (n := 1) (j := 4) rfl (by kernel_rfl) ?_
  refine zlEnd (by kernel_rfl) ?_
  refine zkSeq ?_
  refine zrSeq ?_
  refine zrReg ?_
  refine zlRun (n := 1) (j := 1) rfl (by kernel_rfl) ?_
  refine zlBool (d := 14) (op := (.cmpI .neq (.tmp 13) (.const (.int .i64 0)))) (g := none) (j := 2) (!decide (z7 = 0)) rfl (by kernel_rfl) (by kernel_rfl) (by kernel_rfl) (fun hc => ?_) (fun hc => ?_)
  · replace hS := cond_t hc hS
    refine zlEnd (by kernel_rfl) ?_
    refine zkSeq ?_
    refine zrCondT (by kernel_rfl) ?_
    refine zrSeq ?_
    refine zrReg ?_
    refine zlRun (n := 4) (j := 4) rfl (by kernel_rfl) ?_
    refine zlEnd (by kernel_rfl) ?_
    refine zkSeq ?_
    refine zrRet ?_
    refine zkSeqR ?_
    refine zkNil ?_
    exact endQ hS hQ (fRet (by kernel_rfl) ((congrArg (fun s => outR s 0 c14.res) (by kernel_rfl : finSt c14.fin _ = f14_fin 0 0 [] z7)).trans (f14_out 0 0 [] z7)))
  · replace hS := cond_f hc hS
    refine zlEnd (by kernel_rfl) ?_
    refine zkSeq ?_
    refine zrCondF (by kernel_rfl) ?_
    refine zrSkip ?_
    refine zkSeq ?_
    exact f14_j0_ok hd a1 a2 a3 hQ  hS (by kernel_rfl)
/- farwriter/width.in -/
def f33_fin (p27 : Bool) : St := ⟨(up (fun _ => .un) 4 (.d (.bool p27))), (hB fun _ => 0)⟩
theorem f33_out (p27 : Bool) : outR (f33_fin p27) 0 c33.res = some ((.d (.bool p27)), []) := by
  kernel_rfl
def f33_Q (r : Bool) (e : PX) (st : St) : Prop := DoneF c33 0 ((.d (.bool r)), []) e st
def f33_l0_J (a1 : Int) (a2 : List (Int × Int)) (x : Int) : St := ⟨(up (up (up (up (fun _ => .un) 9 (.d (.int .i64 x))) 8 (.d (.int .i64 (a2.length : Int)))) 7 (.d (.sl a2.length (e_A60.cells a2)))) 0 (.d (.int .i64 a1))), (hB fun _ => 0)⟩
def f33_l0_H (a1 : Int) (a2 : List (Int × Int)) (x : Int) (st : St) : Prop := keepSt [0, 7, 8, 9] [] [] st = f33_l0_J a1 a2 x
def f33_l0_e0_J (a1 : Int) (a2 : List (Int × Int)) : St := ⟨(fun _ => .un), (hB fun _ => 0)⟩
def f33_l0_X (a1 : Int) (a2 : List (Int × Int)) (z : Unit ⊕ Bool) (e : PX) (st : St) : Prop := (match z with | .inl z => e = .exit 0 ∧ st = f33_l0_e0_J a1 a2 | .inr z => e = .ret ∧ finSt c33.fin st = f33_fin z)
def f33_l0_j2_J (a1 : Int) (a2 : List (Int × Int)) (p32 : Int) : St := ⟨(up (up (up (up (fun _ => .un) 9 (.d (.int .i64 p32))) 8 (.d (.int .i64 (a2.length : Int)))) 7 (.d (.sl a2.length (e_A60.cells a2)))) 0 (.d (.int .i64 a1))), (hB fun _ => 0)⟩
noncomputable def f33_l0_j2 (a1 : Int) (a2 : List (Int × Int)) (p32 : Int) : Option (Int ⊕ (Unit ⊕ Bool)) := ((idx a2 p32).bind fun z4 => (bif (decide (z4.1 ≤ a1)) then (bif (decide (a1 ≤ z4.2)) then (some (.inr (.inr true))) else (some (.inl (IntKind.i64.wrap (p32 + 1))))) else (some (.inl (IntKind.i64.wrap (p32 + 1))))))
theorem f33_l0_j2_ok {base : Orc} {d : Nat} (hd : 1 ≤ d) (a1 : Int) (a2 : List (Int × Int)) {r : Int ⊕ (Unit ⊕ Bool)} {Q : PX → St → Prop} (hQ : ∀ e st', finL (f33_l0_H a1 a2) (f33_l0_X a1 a2) r e st' → Q e st') (p32 : Int) (hS : f33_l0_j2 a1 a2 p32 = some r) {st : St} (he : keepSt [0, 7, 8, 9] [] [] st = f33_l0_j2_J a1 a2 p32) : ZR (lev codes base (d - 1)) Q c33_1 [] st := by
  refine zrKeep he ?_
  unfold f33_l0_j2 at hS
  refine zrSeq ?_
  refine zrBlk ?_
  refine zrSeq ?_
  refine zrReg ?_
  refine bindE hS (fun z4 hz4 hS => ?_)
  refine zlOp (d := some 11) (op := (.ixS 60 2 (.tmp 7) (.tmp 9))) (g := none) (v := (.rptr (e_A60.enc z4 ++ (e_A60.cells (a2.drop ((p32 : Int).toNat + 1)))))) (ups := []) (j := 1) rfl (by kernel_rfl) (by kernel_rfl) (ev_ixS e_A60 (kk := .i64) (xs := a2) (j := p32) (by kernel_rfl) (by kernel_rfl) hz4 rfl (by intro h; cases h)) ?_
  refine zlRun (n := 3) (j := 4) rfl (by kernel_rfl) ?_
  refine zlEnd (by kernel_rfl) ?_
  refine zkSeq ?_
  refine zrSeq ?_
  refine zrReg ?_
  refine zlRun (n := 3) (j := 3) rfl (by kernel_rfl) ?_
  refine zlBool (d := 16) (op := (.cmpI .geq (.tmp 13) (.tmp 15))) (g := none) (j := 4) (decide (z4.1 ≤ a1)) rfl (by kernel_rfl) (by kernel_rfl) (by kernel_rfl) (fun hc => ?_) (fun hc => ?_)
  · replace hS := cond_t hc hS
    refine zlRun (n := 4) (j := 8) rfl (by kernel_rfl) ?_
    refine zlBool (d := 21) (op := (.cmpI .leq (.tmp 18) (.tmp 20))) (g := (some (17, true))) (j := 9) (decide (a1 ≤ z4.2)) rfl (by kernel_rfl) (by kernel_rfl) (by kernel_rfl) (fun hc => ?_) (fun hc => ?_)
    · replace hS := cond_t hc hS
      refine zlRun (n := 1) (j := 10) rfl (by kernel_rfl) ?_
      refine zlEnd (by kernel_rfl) ?_
      refine zkSeq ?_
      refine zrCondT (by kernel_rfl) ?_
      refine zrSeq ?_
      refine zrReg ?_
      refine zlRun (n := 1) (j := 1) rfl (by kernel_rfl) ?_
      refine zlEnd (by kernel_rfl) ?_
      refine zkSeq ?_
      refine zrRet ?_
      refine zkBlkR ?_
      refine zkSeqR ?_
      refine zkNil ?_
      exact endQ hS hQ (finL_x (by intro h; cases h) (by show _ = _ ∧ _ = _; exact ⟨rfl, by kernel_rfl⟩))
    · replace hS := cond_f hc hS
      refine zlRun (n := 1) (j := 10) rfl (by kernel_rfl) ?_
      refine zlEnd (by kernel_rfl) ?_
      refine zkSeq ?_
      refine zrCondF (by kernel_rfl) ?_
      refine zrSkip ?_
      refine zkBlk ?_
      refine zkSeq ?_
      refine zrReg ?_
      refine zlRun (n := 2) (j := 2) rfl (by kernel_rfl) ?_
      refine zlEnd (by kernel_rfl) ?_
      refine zkNil ?_
      exact endQ hS hQ (finL_n (by show keepSt _ _ _ _ = _; kernel_rfl))
  · replace hS := cond_f hc hS
    refine zlRun (n := 6) (j := 10) rfl (by kernel_rfl) ?_
    refine zlEnd (by kernel_rfl) ?_
    refine zkSeq ?_
    refine zrCondF (by kernel_rfl) ?_
    refine zrSkip ?_
    refine zkBlk ?_
    refine zkSeq ?_
    refine zrReg ?_
    refine zlRun (n := 2) (j := 2) rfl (by kernel_rfl) ?_
    refine zlEnd (by kernel_rfl) ?_
    refine zkNil ?_
    exact endQ hS hQ (finL_n (by show keepSt _ _ _ _ = _; kernel_rfl))
def f33_l0_j1_J (a1 : Int) (a2 : List (Int × Int)) (p30 : Int) (p31 : Bool) : St := ⟨(up (up (up (up (up (fun _ => .un) 10 (.d (.bool p31))) 9 (.d (.int .i64 p30))) 8 (.d (.int .i64 (a2.length : Int)))) 7 (.d (.sl a2.length (e_A60.cells a2)))) 0 (.d (.int .i64 a1))), (hB fun _ => 0)⟩
noncomputable def f33_l0_j1 (a1 : Int) (a2 : List (Int × Int)) (p30 : Int) (p31 : Bool) : Option (Int ⊕ (Unit ⊕ Bool)) := (bif p31 then (f33_l0_j2 a1 a2 p30) else (some (.inr (.inl ()))))
theorem f33_l0_j1_ok {base : Orc} {d : Nat} (hd : 1 ≤ d) (a1 : Int) (a2 : List (Int × Int)) {r : Int ⊕ (Unit ⊕ Bool)} {Q : PX → St → Prop} (hQ : ∀ e st', finL (f33_l0_H a1 a2) (f33_l0_X a1 a2) r e st' → Q e st') (p30 : Int) (p31 : Bool) (hS : f33_l0_j1 a1 a2 p30 p31 = some r) {st : St} (he : keepSt [0, 7, 8, 9, 10] [] [] st = f33_l0_j1_J a1 a2 p30 p31) : ZR (lev codes base (d - 1)) Q c33_2 [] st := by
  refine zrKeep he ?_
  unfold f33_l0_j1 at hS
  refine zrSeq ?_
  refine zrSplit 10 p31 (by kernel_rfl) (fun hc => ?_) (fun hc => ?_)
  · replace hS := cond_t hc hS
    refine zrCondT (by kernel_rfl) ?_
    refine zrSkip ?_
    refine zkSeq ?_
    exact f33_l0_j2_ok hd a1 a2 hQ p30 hS (by kernel_rfl)
  · replace hS := cond_f hc hS
    refine zrCondF (by kernel_rfl) ?_
    refine zrKeep (J := f33_l0_e0_J a1 a2) (by kernel_rfl) ?_
    refine zrExit ?_
    refine zkSeqX ?_
    refine zkNil ?_
    exact endQ hS hQ (finL_x (by intro h; cases h) (by show _ = _ ∧ _ = _; exact ⟨rfl, rfl⟩))
noncomputable def f33_l0 (a1 : Int) (a2 : List (Int × Int)) (x : Int) : Option (Int ⊕ (Unit ⊕ Bool)) := (bif (decide (x < (a2.length : Int))) then (f33_l0_j1 a1 a2 x true) else (f33_l0_j1 a1 a2 x false))
theorem f33_l0_ok {base : Orc} {d : Nat} (hd : 1 ≤ d) (a1 : Int) (a2 : List (Int × Int)) {r : Int ⊕ (Unit ⊕ Bool)} {Q : PX → St → Prop} (hQ : ∀ e st', finL (f33_l0_H a1 a2) (f33_l0_X a1 a2) r e st' → Q e st') {x : Int} (hS : f33_l0 a1 a2 x = some r) {st : St} (he : f33_l0_H a1 a2 x st) : ZR (lev codes base (d - 1)) Q c33_3 [] st := by
  refine zrKeep he ?_
  unfold f33_l0 at hS
  refine zrSeq ?_
  refine zrReg ?_
  refine zlBool (d := 10) (op := (.cmpI .lss (.tmp 9) (.tmp 8))) (g := none) (j := 1) (decide (x < (a2.length : Int))) rfl (by kernel_rfl) (by kernel_rfl) (by kernel_rfl) (fun hc => ?_) (fun hc => ?_)
  · replace hS := cond_t hc hS
    refine zlEnd (by kernel_rfl) ?_
    refine zkSeq ?_
    exact f33_l0_j1_ok hd a1 a2 hQ x true hS (by kernel_rfl)
  · replace hS := cond_f hc hS
    refine zlEnd (by kernel_rfl) ?_
    refine zkSeq ?_
    exact f33_l0_j1_ok hd a1 a2 hQ x false hS (by kernel_rfl)
noncomputable def f33 (a1 : Int) (a2 : List (Int × Int)) : Option (Bool) := ((loopO (f33_l0 a1 a2) 0).bind fun z5 => (Sum.elim (fun z6 => (some false)) (fun z7 => (some z7)) z5))
theorem f33_ok (base : Orc) (d : Nat) (hd : 1 ≤ d) (a1 : Int) (a2 : List (Int × Int)) (r : Bool) (hS : f33 a1 a2 = some r) : lev codes base d 33 [(.d (.int .i64 a1)), (.d (.sl a2.length (e_A60.cells a2)))] [] = some ((.d (.bool r)), []) := by
  refine lev_go codes33 rfl rfl (Nat.le_trans (Nat.le_of_ble_eq_true rfl) hd) fun Q hQ => ?_
  unfold f33 at hS
  show ZR _ Q c33_b [] _
  replace hQ : ∀ e st', f33_Q r e st' → Q e st' := hQ
  refine zrSeq ?_
  refine zrReg ?_
  refine zlRun (n := 1) (j := 1) rfl (by kernel_rfl) ?_
  refine zlEnd (by kernel_rfl) ?_
  refine zkSeq ?_
  refine zrSeq ?_
  refine zrSeq ?_
  refine zrReg ?_
  refine zlRun (n := 3) (j := 3) rfl (by kernel_rfl) ?_
  refine zlEnd (by kernel_rfl) ?_
  refine zkSeq ?_
  refine zrBlk ?_
  refine bindE hS (fun z5 hz5 hS => ?_)
  refine zrLoop (f33_l0_H a1 a2) (f33_l0_X a1 a2) (fun x st r Q h0 hS hQ => f33_l0_ok hd a1 a2 hQ hS h0) (x := 0) (z := z5) (by show keepSt _ _ _ _ = _; kernel_rfl) hz5 ?_
  rcases z5 with z6 | z7
  · replace hS := (show _ = _ from hS)
    simp only [Sum.elim_inl] at hS
    intro e st' _ hX
    obtain ⟨rfl, rfl⟩ : _ ∧ _ := hX
    refine zkBlkX ?_
    refine zkSeq ?_
    refine zrSeq ?_
    refine zrReg ?_
    refine zlRun (n := 1) (j := 1) rfl (by kernel_rfl) ?_
    refine zlEnd (by kernel_rfl) ?_
    refine zkSeq ?_
    refine zrRet ?_
    refine zkNil ?_
    exact endQ hS hQ (fRet (by kernel_rfl) ((congrArg (fun s => outR s 0 c33.res) (by kernel_rfl : finSt c33.fin _ = f33_fin false)).trans (f33_out false)))
  · simp only [Sum.elim_inr] at hS
    intro e st' _ hX
    obtain ⟨rfl, hX⟩ : _ ∧ _ := hX
    refine zkBlkR ?_
    refine zkSeqR ?_
    refine zkNil ?_
    exact endQ hS hQ (fRet (by kernel_rfl) ((congrArg (fun s => outR s 0 c33.res) hX).trans (f33_out z7)))
/- farwriter/width.Of -/
def f20_fin (p2 : Int) : St := ⟨(up (fun _ => .un) 2 (.d (.int .i64 p2))), (hB fun _ => 0)⟩
theorem f20_out (p2 : Int) : outR (f20_fin p2) 0 c20.res = some ((.d (.int .i64 p2)), []) := by
  kernel_rfl
def f20_Q (r : Int) (e : PX) (st : St) : Prop := DoneF c20 0 ((.d (.int .i64 r)), []) e st
def f20_j0_J (a1 : Int) (p4 : Bool) : St := ⟨(up (up (up (fun _ => .un) 25 (.d (.bool p4))) 4 (.r (.ptr 40 0 0))) 0 (.d (.int .i64 a1))), (up (hB fun _ => 0) 40 ⟨0, some (.box ((e_A60.row 12 (fun i => ([(4352, 4447), (11904, 12350), (12353, 19903), (19968, 42191), (44032, 55203), (63744, 64255), (65072, 65135), (65280, 65376), (65504, 65510), (127744, 128591), (129280, 129535), (131072, 262141)] : List (Int × Int)).getD i (0, 0))) ++ []))⟩)⟩
noncomputable def f20_j0 (a1 : Int) (p4 : Bool) : Option (Int) := (bif p4 then (some 0) else ((f33 a1 [(4352, 4447), (11904, 12350), (12353, 19903), (19968, 42191), (44032, 55203), (63744, 64255), (65072, 65135), (65280, 65376), (65504, 65510), (127744, 128591), (129280, 129535), (131072, 262141)]).bind fun z4 => (bif z4 then (some 2) else (some 1))))
theorem f20_j0_ok {base : Orc} {d : Nat} (hd : 2 ≤ d) (a1 : Int) {r : Int} {Q : PX → St → Prop} (hQ : ∀ e st', f20_Q r e st' → Q e st') (p4 : Bool) (hS : f20_j0 a1 p4 = some r) {st : St} (he : keepSt [0, 4, 25] [(40, .id 40)] [] st = f20_j0_J a1 p4) : ZR (lev codes base (d - 1)) Q c20_1 [.blk 0, .seq c20_2] st := by
  refine zrKeep he ?_
  unfold f20_j0 at hS
  refine zrSplit 25 p4 (by kernel_rfl) (fun hc => ?_) (fun hc => ?_)
  · replace hS := cond_t hc hS
    refine zrCondT (by kernel_rfl) ?_
    refine zrSeq ?_
    refine zrReg ?_
    refine zlRun (n := 1) (j := 1) rfl (by kernel_rfl) ?_
    refine zlEnd (by kernel_rfl) ?_
    refine zkSeq ?_
    refine zrRet ?_
    refine zkBlkR ?_
    refine zkSeqR ?_
    refine zkNil ?_
    exact endQ hS hQ (fRet (by kernel_rfl) ((congrArg (fun s => outR s 0 c20.res) (by kernel_rfl : finSt c20.fin _ = f20_fin 0)).trans (f20_out 0)))
  · replace hS := cond_f hc hS
    refine zrCondF (by kernel_rfl) ?_
    refine zrSeq ?_
    refine zrReg ?_
    refine zlRun (n := 2) (j := 2) rfl (by kernel_rfl) ?_
    refine bindE hS (fun z4 hz4 hS => ?_)
    refine zlOp (d := some 40) (op := (.call 33 [(.tmp 38), (.tmp 39)])) (g := none) (j := 3) rfl (by kernel_rfl) (by kernel_rfl) (ev_callA (by kernel_rfl) (f33_ok base (d - 1) (dpt hd rfl) a1 [(4352, 4447), (11904, 12350), (12353, 19903), (19968, 42191), (44032, 55203), (63744, 64255), (65072, 65135), (65280, 65376), (65504, 65510), (127744, 128591), (129280, 129535), (131072, 262141)] z4 hz4) (by kernel_rfl) (by kernel_rfl)) ?_
    refine zlRun (n := 1) (j := 4) rfl (by kernel_rfl) ?_
    refine zlEnd (by kernel_rfl) ?_
    refine zkSeq ?_
    refine zrSplit 37 z4 (by kernel_rfl) (fun hc => ?_) (fun hc => ?_)
    · replace hS := cond_t hc hS
      refine zrCondT (by kernel_rfl) ?_
      refine zrSeq ?_
      refine zrReg ?_
      refine zlRun (n := 1) (j := 1) rfl (by kernel_rfl) ?_
      refine zlEnd (by kernel_rfl) ?_
      refine zkSeq ?_
      refine zrRet ?_
      refine zkBlkR ?_
      refine zkSeqR ?_
      refine zkNil ?_
      exact endQ hS hQ (fRet (by kernel_rfl) ((congrArg (fun s => outR s 0 c20.res) (by kernel_rfl : finSt c20.fin _ = f20_fin 2)).trans (f20_out 2)))
    · replace hS := cond_f hc hS
      refine zrCondF (by kernel_rfl) ?_
      refine zrSkip ?_
      refine zkBlk ?_
      refine zkSeq ?_
      refine zrSeq ?_
      refine zrReg ?_
      refine zlRun (n := 1) (j := 1) rfl (by kernel_rfl) ?_
      refine zlEnd (by kernel_rfl) ?_
      refine zkSeq ?_
      refine zrRet ?_
      refine zkNil ?_
      exact endQ hS hQ (fRet (by kernel_rfl) ((congrArg (fun s => outR s 0 c20.res) (by kernel_rfl : finSt c20.fin _ = f20_fin 1)).trans (f20_out 1)))
noncomputable def f20 (a1 : Int) : Option (Int) := (bif (decide (a1 < 0)) then (f20_j0 a1 true) else (bif (decide (1114111 < a1)) then (f20_j0 a1 true) else ((f33 a1 [(0, 31), (127, 159), (768, 879), (8203, 8207), (55296, 57343), (65024, 65039)]).bind fun z5 => (f20_j0 a1 z5))))
theorem f20_ok (base : Orc) (d : Nat) (hd : 2 ≤ d) (a1 : Int) (r : Int) (hS : f20 a1 = some r) : lev codes base d 20 [(.d (.int .i64 a1))] [] = some ((.d (.int .i64 r)), []) := by
  refine lev_go codes20 rfl rfl (Nat.le_trans (Nat.le_of_ble_eq_true rfl) hd) fun Q hQ => ?_
  unfold f20 at hS
  show ZR _ Q c20_b [] _
  replace hQ : ∀ e st', f20_Q r e st' → Q e st' := hQ
  refine zrSeq ?_
  refine zrReg ?_
  refine zlRun (n := 1) (j := 1) rfl (by kernel_rfl) ?_
  refine zlEnd (by kernel_rfl) ?_
  refine zkSeq ?_
  refine zrSeq ?_
  refine zrReg ?_
  refine zlRun (n := 9) (j := 9) rfl (by kernel_rfl) ?_
  refine zlEnd (by kernel_rfl) ?_
  refine zkSeq ?_
  refine zrSeq ?_
  refine zrReg ?_
  refine zlRun (n := 15) (j := 15) rfl (by kernel_rfl) ?_
  refine zlEnd (by kernel_rfl) ?_
  refine zkSeq ?_
  refine zrSeq ?_
  refine zrBlk ?_
  refine zrSeq ?_
  refine zrReg ?_
  refine zlRun (n := 1) (j := 1) rfl (by kernel_rfl) ?_
  refine zlBool (d := 27) (op := (.cmpI .lss (.tmp 26) (.const (.int .i64 0)))) (g := none) (j := 2) (decide (a1 < 0)) rfl (by kernel_rfl) (by kernel_rfl) (by kernel_rfl) (fun hc => ?_) (fun hc => ?_)
  · replace hS := cond_t hc hS
    refine zlRun (n := 10) (j := 12) rfl (by kernel_rfl) ?_
    refine zlEnd (by kernel_rfl) ?_
    refine zkSeq ?_
    exact f20_j0_ok hd a1 hQ true hS (by kernel_rfl)
  · replace hS := cond_f hc hS
    refine zlRun (n := 2) (j := 4) rfl (by kernel_rfl) ?_
    refine zlBool (d := 30) (op := (.cmpI .gtr (.tmp 29) (.const (.int .i64 1114111)))) (g := (some (28, false))) (j := 5) (decide (1114111 < a1)) rfl (by kernel_rfl) (by kernel_rfl) (by kernel_rfl) (fun hc => ?_) (fun hc => ?_)
    · replace hS := cond_t hc hS
      refine zlRun (n := 7) (j := 12) rfl (by kernel_rfl) ?_
      refine zlEnd (by kernel_rfl) ?_
      refine zkSeq ?_
      exact f20_j0_ok hd a1 hQ true hS (by kernel_rfl)
    · replace hS := cond_f hc hS
      refine zlRun (n := 4) (j := 9) rfl (by kernel_rfl) ?_
      refine bindE hS (fun z5 hz5 hS => ?_)
      refine zlOp (d := some 35) (op := (.call 33 [(.tmp 33), (.tmp 34)])) (g := (some (32, false))) (j := 10) rfl (by kernel_rfl) (by kernel_rfl) (ev_callA (by kernel_rfl) (f33_ok base (d - 1) (dpt hd rfl) a1 [(0, 31), (127, 159), (768, 879), (8203, 8207), (55296, 57343), (65024, 65039)] z5 hz5) (by kernel_rfl) (by kernel_rfl)) ?_
      refine zlRun (n := 2) (j := 12) rfl (by kernel_rfl) ?_
      refine zlEnd (by kernel_rfl) ?_
      refine zkSeq ?_
      exact f20_j0_ok hd a1 hQ z5 hS (by kernel_rfl)
/- farwriter/grid.row -/
def f18_fin (p1 : List GCell) : St := ⟨(up (up (fun _ => .un) 2000000 .un) 4 (.d (.sl p1.length (e_GCell.cells p1)))), (up (hB fun _ => 0) 0 ⟨0, none⟩)⟩
theorem f18_out (p1 : List GCell) : outR (f18_fin p1) 0 c18.res = some ((.d (.sl p1.length (e_GCell.cells p1))), []) := by
  kernel_rfl
def f18_Q (r : (List GCell)) (e : PX) (st : St) : Prop := DoneF c18 0 ((.d (.sl r.length (e_GCell.cells r))), [.box []]) e st
noncomputable def f18 (a1 : GGrid) (a2 : Int) : Option ((List GCell)) := ((sub? a1.Cells (IntKind.i64.wrap (a2 * a1.Wide)) (IntKind.i64.wrap ((IntKind.i64.wrap (a2 + 1)) * a1.Wide))).bind fun z2 => (some z2))
theorem f18_ok (base : Orc) (d : Nat) (hd : 1 ≤ d) (a1 : GGrid) (a2 : Int) (r : (List GCell)) (hS : f18 a1 a2 = some r) : lev codes base d 18 [(.agg ((.d (.int .i64 a1.Wide)) :: ((.d (.int .i64 a1.High)) :: ((.d (.sl a1.Cells.length (e_GCell.cells a1.Cells))) :: [])))), (.d (.int .i64 a2))] [] = some ((.d (.sl r.length (e_GCell.cells r))), [.box []]) := by
  refine lev_go codes18 rfl rfl (Nat.le_trans (Nat.le_of_ble_eq_true rfl) hd) fun Q hQ => ?_
  unfold f18 at hS
  show ZR _ Q c18_b [] _
  replace hQ : ∀ e st', f18_Q r e st' → Q e st' := hQ
  refine zrSeq ?_
  refine zrReg ?_
  refine zlRun (n := 2) (j := 2) rfl (by kernel_rfl) ?_
  refine zlEnd (by kernel_rfl) ?_
  refine zkSeq ?_
  refine zrSeq ?_
  refine zrReg ?_
  refine zlRun (n := 11) (j := 11) rfl (by kernel_rfl) ?_
  refine bindE hS (fun z2 hz2 hS => ?_)
  refine zlOp (d := some 16) (op := (.slS 36 4 (.tmp 6) (.some (.tmp 10)) (.some (.tmp 15)))) (g := none) (v := (.d (.sl z2.length (e_GCell.cells z2)))) (ups := []) (j := 12) rfl (by kernel_rfl) (by kernel_rfl) (ev_slS e_GCell (xs := a1.Cells) (a := (IntKind.i64.wrap (a2 * a1.Wide))) (c := (IntKind.i64.wrap ((IntKind.i64.wrap (a2 + 1)) * a1.Wide))) (by kernel_rfl) rfl (bnd_s _ (kk := .i64) (j := (IntKind.i64.wrap (a2 * a1.Wide))) (by kernel_rfl)) (bnd_s _ (kk := .i64) (j := (IntKind.i64.wrap ((IntKind.i64.wrap (a2 + 1)) * a1.Wide))) (by kernel_rfl)) hz2) ?_
  refine zlRun (n := 1) (j := 13) rfl (by kernel_rfl) ?_
  refine zlEnd (by kernel_rfl) ?_
  refine zkSeq ?_
  refine zrRet ?_
  refine zkNil ?_
  exact endQ hS hQ (fRetX (by kernel_rfl) (by kernel_rfl : finSt c18.fin _ = f18_fin z2) (by kernel_rfl) (f18_out z2))
/- farwriter/grid.lone$1 -/
def f34_fin (p4 : Bool) : St := ⟨(up (fun _ => .un) 3 (.d (.bool p4))), (hB fun _ => 0)⟩
theorem f34_out (p4 : Bool) : outR (f34_fin p4) 0 c34.res = some ((.d (.bool p4)), []) := by
  kernel_rfl
def f34_Q (r : Bool) (e : PX) (st : St) : Prop := DoneF c34 0 ((.d (.bool r)), []) e st
noncomputable def f34 (a1 : Int) (a2 : List GCell) (a3 : List PD) : Option (Bool) := (bif (decide (a1 < (a2.length : Int))) then ((idx a2 a1).bind fun z4 => (bif (decide (z4.Rune = 0)) then ((idx a2 a1).bind fun z5 => ((idx a2 (IntKind.i64.wrap (a1 - 1))).bind fun z6 => (bif (decide (z5.Pen.Flags = z6.Pen.Flags) && (decide (z5.Pen.Fore = z6.Pen.Fore) && (decide (z5.Pen.Back = z6.Pen.Back) && true))) then (some true) else (some false)))) else (some false))) else (some false))
theorem f34_ok (base : Orc) (d : Nat) (hd : 1 ≤ d) (a1 : Int) (a2 : List GCell) (a3 : List PD) (r : Bool) (hS : f34 a1 a2 a3 = some r) : lev codes base d 34 [(.d (.int .i64 a1)), (.rptr ((eSl e_GCell).enc a2 ++ a3))] [] = some ((.d (.bool r)), []) := by
  refine lev_go codes34 rfl rfl (Nat.le_trans (Nat.le_of_ble_eq_true rfl) hd) fun Q hQ => ?_
  unfold f34 at hS
  show ZR _ Q c34_b [] _
  replace hQ : ∀ e st', f34_Q r e st' → Q e st' := hQ
  refine zrSeq ?_
  refine zrReg ?_
  refine zlRun (n := 1) (j := 1) rfl (by kernel_rfl) ?_
  refine zlEnd (by kernel_rfl) ?_
  refine zkSeq ?_
  refine zrSeq ?_
  refine zrRegD ?_
  refine zdRun (n := 3) (j := 3) (ts := [[], [], []]) (acc' := [[], [], []]) rfl (by kernel_rfl) (by kernel_rfl) (by kernel_rfl) ?_
  refine zdBool (d := 7) (op := (.cmpI .lss (.tmp 4) (.tmp 6))) (g := none) (j := 4) (t1 := []) (acc' := [[], [], [], []]) (decide (a1 < (a2.length : Int))) (by kernel_rfl) (by kernel_rfl) rfl (by kernel_rfl) (by kernel_rfl) (by kernel_rfl) (fun hc => ?_) (fun hc => ?_)
  · replace hS := cond_t hc hS
    refine zdRun (n := 3) (j := 7) (ts := [[], [], []]) (acc' := [[], [], [], [], [], [], []]) rfl (by kernel_rfl) (by kernel_rfl) (by kernel_rfl) ?_
    refine bindE hS (fun z4 hz4 hS => ?_)
    refine zdOp (d := some 11) (op := (.ixS 36 4 (.tmp 9) (.tmp 10))) (g := (some (8, true))) (v := (.rptr (e_GCell.enc z4 ++ (e_GCell.cells (a2.drop ((a1 : Int).toNat + 1)))))) (ups := []) (j := 8) (t1 := []) (acc' := [[], [], [], [], [], [], [], []]) (by kernel_rfl) (by kernel_rfl) rfl (by kernel_rfl) (by kernel_rfl) (ev_ixS e_GCell (kk := .i64) (xs := a2) (j := a1) (by kernel_rfl) (by kernel_rfl) hz4 rfl (by intro h; cases h)) ?_
    refine zdRun (n := 2) (j := 10) (ts := [[], []]) (acc' := [[], [], [], [], [], [], [], [], [], []]) rfl (by kernel_rfl) (by kernel_rfl) (by kernel_rfl) ?_
    refine zdBool (d := 14) (op := (.cmpI .eql (.tmp 13) (.const (.int .i64 0)))) (g := (some (8, true))) (j := 11) (t1 := []) (acc' := [[], [], [], [], [], [], [], [], [], [], []]) (decide (z4.Rune = 0)) (by kernel_rfl) (by kernel_rfl) rfl (by kernel_rfl) (by kernel_rfl) (by kernel_rfl) (fun hc => ?_) (fun hc => ?_)
    · replace hS := cond_t hc hS
      refine zdRun (n := 4) (j := 15) (ts := [[], [], [], []]) (acc' := [[], [], [], [], [], [], [], [], [], [], [], [], [], [], []]) rfl (by kernel_rfl) (by kernel_rfl) (by kernel_rfl) ?_
      refine bindE hS (fun z5 hz5 hS => ?_)
      refine zdOp (d := some 19) (op := (.ixS 36 4 (.tmp 17) (.tmp 18))) (g := (some (16, true))) (v := (.rptr (e_GCell.enc z5 ++ (e_GCell.cells (a2.drop ((a1 : Int).toNat + 1)))))) (ups := []) (j := 16) (t1 := []) (acc' := [[], [], [], [], [], [], [], [], [], [], [], [], [], [], [], []]) (by kernel_rfl) (by kernel_rfl) rfl (by kernel_rfl) (by kernel_rfl) (ev_ixS e_GCell (kk := .i64) (xs := a2) (j := a1) (by kernel_rfl) (by kernel_rfl) hz5 rfl (by intro h; cases h)) ?_
      refine zdRun (n := 5) (j := 21) (ts := [[], [], [], [], []]) (acc' := [[], [], [], [], [], [], [], [], [], [], [], [], [], [], [], [], [], [], [], [], []]) rfl (by kernel_rfl) (by kernel_rfl) (by kernel_rfl) ?_
      refine bindE hS (fun z6 hz6 hS => ?_)
      refine zdOp (d := some 25) (op := (.ixS 36 4 (.tmp 22) (.tmp 24))) (g := (some (16, true))) (v := (.rptr (e_GCell.enc z6 ++ (e_GCell.cells (a2.drop (((IntKind.i64.wrap (a1 - 1)) : Int).toNat + 1)))))) (ups := []) (j := 22) (t1 := []) (acc' := [[], [], [], [], [], [], [], [], [], [], [], [], [], [], [], [], [], [], [], [], [], []]) (by kernel_rfl) (by kernel_rfl) rfl (by kernel_rfl) (by kernel_rfl) (ev_ixS e_GCell (kk := .i64) (xs := a2) (j := (IntKind.i64.wrap (a1 - 1))) (by kernel_rfl) (by kernel_rfl) hz6 rfl (by intro h; cases h)) ?_
      refine zdRun (n := 2) (j := 24) (ts := [[], []]) (acc' := [[], [], [], [], [], [], [], [], [], [], [], [], [], [], [], [], [], [], [], [], [], [], [], []]) rfl (by kernel_rfl) (by kernel_rfl) (by kernel_rfl) ?_
      refine zdBool (d := 28) (op := (.eqA .false [(3, .int)] (.tmp 21) (.tmp 27))) (g := (some (16, true))) (j := 25) (t1 := []) (acc' := [[], [], [], [], [], [], [], [], [], [], [], [], [], [], [], [], [], [], [], [], [], [], [], [], []]) (decide (z5.Pen.Flags = z6.Pen.Flags) && (decide (z5.Pen.Fore = z6.Pen.Fore) && (decide (z5.Pen.Back = z6.Pen.Back) && true))) (by kernel_rfl) (by kernel_rfl) rfl (by kernel_rfl) (by kernel_rfl) (by kernel_rfl) (fun hc => ?_) (fun hc => ?_)
      · replace hS := cond_t hc hS
        refine zdRun (n := 2) (j := 27) (ts := [[], []]) (acc' := [[], [], [], [], [], [], [], [], [], [], [], [], [], [], [], [], [], [], [], [], [], [], [], [], [], [], []]) rfl (by kernel_rfl) (by kernel_rfl) (by kernel_rfl) ?_
        refine zdEnd (by kernel_rfl) (by kernel_rfl) ?_
        refine zkSeq ?_
        refine zrRet ?_
        refine zkNil ?_
        exact endQ hS hQ (fRet (by kernel_rfl) ((congrArg (fun s => outR s 0 c34.res) (by kernel_rfl : finSt c34.fin _ = f34_fin true)).trans (f34_out true)))
      · replace hS := cond_f hc hS
        refine zdRun (n := 2) (j := 27) (ts := [[], []]) (acc' := [[], [], [], [], [], [], [], [], [], [], [], [], [], [], [], [], [], [], [], [], [], [], [], [], [], [], []]) rfl (by kernel_rfl) (by kernel_rfl) (by kernel_rfl) ?_
        refine zdEnd (by kernel_rfl) (by kernel_rfl) ?_
        refine zkSeq ?_
        refine zrRet ?_
        refine zkNil ?_
        exact endQ hS hQ (fRet (by kernel_rfl) ((congrArg (fun s => outR s 0 c34.res) (by kernel_rfl : finSt c34.fin _ = f34_fin false)).trans (f34_out false)))
    · replace hS := cond_f hc hS
      refine zdRun (n := 16) (j := 27) (ts := [[], [], [], [], [], [], [], [], [], [], [], [], [], [], [], []]) (acc' := [[], [], [], [], [], [], [], [], [], [], [], [], [], [], [], [], [], [], [], [], [], [], [], [], [], [], []]) rfl (by kernel_rfl) (by kernel_rfl) (by kernel_rfl) ?_
      refine zdEnd (by kernel_rfl) (by kernel_rfl) ?_
      refine zkSeq ?_
      refine zrRet ?_
      refine zkNil ?_
      exact endQ hS hQ (fRet (by kernel_rfl) ((congrArg (fun s => outR s 0 c34.res) (by kernel_rfl : finSt c34.fin _ = f34_fin false)).trans (f34_out false)))
  · replace hS := cond_f hc hS
    refine zdRun (n := 23) (j := 27) (ts := [[], [], [], [], [], [], [], [], [], [], [], [], [], [], [], [], [], [], [], [], [], [], []]) (acc' := [[], [], [], [], [], [], [], [], [], [], [], [], [], [], [], [], [], [], [], [], [], [], [], [], [], [], []]) rfl (by kernel_rfl) (by kernel_rfl) (by kernel_rfl) ?_
    refine zdEnd (by kernel_rfl) (by kernel_rfl) ?_
    refine zkSeq ?_
    refine zrRet ?_
    refine zkNil ?_
    exact endQ hS hQ (fRet (by kernel_rfl) ((congrArg (fun s => outR s 0 c34.res) (by kernel_rfl : finSt c34.fin _ = f34_fin false)).trans (f34_out false)))
/- farwriter/grid.lone -/
def f21_fin (p4 : Bool) : St := ⟨(up (fun _ => .un) 4 (.d (.bool p4))), (hB fun _ => 0)⟩
theorem f21_out (p4 : Bool) : outR (f21_fin p4) 0 c21.res = some ((.d (.bool p4)), []) := by
  kernel_rfl
def f21_Q (r : Bool) (e : PX) (st : St) : Prop := DoneF c21 0 ((.d (.bool r)), []) e st
def f21_j0_J (a1 : List GCell) (a2 : Int) : St := ⟨(up (up (up (fun _ => .un) 5 (.fn 34 [(.r (.ptr 24 0 0))])) 2 (.r (.ptr 24 0 0))) 1 (.d (.int .i64 a2))), (up (hB fun _ => 0) 24 ⟨0, some (.box ((.d (.sl a1.length (e_GCell.cells a1))) :: []))⟩)⟩
noncomputable def f21_j0 (a1 : List GCell) (a2 : Int) : Option (Bool) := ((idx a1 a2).bind fun z12 => ((f20 z12.Rune).bind fun z13 => (bif (decide (z13 = 2)) then ((f34 (IntKind.i64.wrap (a2 + 1)) a1 []).bind fun z14 => (some (!z14))) else (some false))))
theorem f21_j0_ok {base : Orc} {d : Nat} (hd : 3 ≤ d) (a1 : List GCell) (a2 : Int) {r : Bool} {Q : PX → St → Prop} (hQ : ∀ e st', f21_Q r e st' → Q e st')  (hS : f21_j0 a1 a2 = some r) {st : St} (he : keepSt [1, 2, 5] [(24, .id 24)] [] st = f21_j0_J a1 a2) : ZR (lev codes base (d - 1)) Q c21_1 [] st := by
  refine zrKeep he ?_
  unfold f21_j0 at hS
  refine zrSeq ?_
  refine zrReg ?_
  refine zlRun (n := 2) (j := 2) rfl (by kernel_rfl) ?_
  refine bindE hS (fun z12 hz12 hS => ?_)
  refine zlOp (d := some 33) (op := (.ixS 36 4 (.tmp 31) (.tmp 32))) (g := none) (v := (.rptr (e_GCell.enc z12 ++ (e_GCell.cells (a1.drop ((a2 : Int).toNat + 1)))))) (ups := []) (j := 3) rfl (by kernel_rfl) (by kernel_rfl) (ev_ixS e_GCell (kk := .i64) (xs := a1) (j := a2) (by kernel_rfl) (by kernel_rfl) hz12 rfl (by intro h; cases h)) ?_
  refine zlRun (n := 2) (j := 5) rfl (by kernel_rfl) ?_
  refine bindE hS (fun z13 hz13 hS => ?_)
  refine zlOp (d := some 36) (op := (.call 20 [(.tmp 35)])) (g := none) (j := 6) rfl (by kernel_rfl) (by kernel_rfl) (ev_callA (by kernel_rfl) (f20_ok base (d - 1) (dpt hd rfl) z12.Rune z13 hz13) (by kernel_rfl) (by kernel_rfl)) ?_
  refine zlBool (d := 37) (op := (.cmpI .eql (.tmp 36) (.const (.int .i64 2)))) (g := none) (j := 7) (decide (z13 = 2)) rfl (by kernel_rfl) (by kernel_rfl) (by kernel_rfl) (fun hc => ?_) (fun hc => ?_)
  · replace hS := cond_t hc hS
    refine zlRun (n := 4) (j := 11) rfl (by kernel_rfl) ?_
    refine bindE hS (fun z14 hz14 hS => ?_)
    refine zlOp (d := some 42) (op := (.callv (.tmp 39) [(.tmp 41)])) (g := (some (38, true))) (v := (.d (.bool z14))) (ups := []) (j := 12) rfl (by kernel_rfl) (by kernel_rfl) (ev_callv (f := 34) (cs := [(.r (.ptr 24 0 0))]) (by kernel_rfl) (args := [(.d (.int .i64 (IntKind.i64.wrap (a2 + 1)))), (.r (.ptr 24 0 0))]) (l := [(.d (.int .i64 (IntKind.i64.wrap (a2 + 1)))), (.rptr ((eSl e_GCell).enc a1 ++ []))]) (r := (.d (.bool z14))) (by kernel_rfl) (by kernel_rfl) (f34_ok base (d - 1) (dpt hd rfl) (IntKind.i64.wrap (a2 + 1)) a1 [] z14 hz14) (by kernel_rfl) (by kernel_rfl) (by kernel_rfl)) ?_
    refine zlRun (n := 3) (j := 15) rfl (by kernel_rfl) ?_
    refine zlEnd (by kernel_rfl) ?_
    refine zkSeq ?_
    refine zrRet ?_
    refine zkNil ?_
    exact endQ hS hQ (fRet (by kernel_rfl) ((congrArg (fun s => outR s 0 c21.res) (by kernel_rfl : finSt c21.fin _ = f21_fin (!z14))).trans (f21_out (!z14))))
  · replace hS := cond_f hc hS
    refine zlRun (n := 8) (j := 15) rfl (by kernel_rfl) ?_
    refine zlEnd (by kernel_rfl) ?_
    refine zkSeq ?_
    refine zrRet ?_
    refine zkNil ?_
    exact endQ hS hQ (fRet (by kernel_rfl) ((congrArg (fun s => outR s 0 c21.res) (by kernel_rfl : finSt c21.fin _ = f21_fin false)).trans (f21_out false)))
noncomputable def f21 (a1 : List GCell) (a2 : Int) : Option (Bool) := ((idx a1 a2).bind fun z16 => (bif (decide (z16.Rune = 0)) then (bif (decide (a2 = 0)) then (some true) else ((idx a1 (IntKind.i64.wrap (a2 - 1))).bind fun z17 => ((f20 z17.Rune).bind fun z18 => (bif (!decide (z18 = 2)) then (some true) else ((f34 a2 a1 []).bind fun z19 => (some (!z19))))))) else (f21_j0 a1 a2 )))
theorem f21_ok (base : Orc) (d : Nat) (hd : 3 ≤ d) (a1 : List GCell) (a2 : Int) (r : Bool) (hS : f21 a1 a2 = some r) : lev codes base d 21 [(.d (.sl a1.length (e_GCell.cells a1))), (.d (.int .i64 a2))] [] = some ((.d (.bool r)), []) := by
  refine lev_go codes21 rfl rfl (Nat.le_trans (Nat.le_of_ble_eq_true rfl) hd) fun Q hQ => ?_
  unfold f21 at hS
  show ZR _ Q c21_b [] _
  replace hQ : ∀ e st', f21_Q r e st' → Q e st' := hQ
  refine zrSeq ?_
  refine zrReg ?_
  refine zlRun (n := 2) (j := 2) rfl (by kernel_rfl) ?_
  refine zlEnd (by kernel_rfl) ?_
  refine zkSeq ?_
  refine zrSeq ?_
  refine zrReg ?_
  refine zlRun (n := 2) (j := 2) rfl (by kernel_rfl) ?_
  refine zlEnd (by kernel_rfl) ?_
  refine zkSeq ?_
  refine zrSeq ?_
  refine zrSeq ?_
  refine zrReg ?_
  refine zlRun (n := 2) (j := 2) rfl (by kernel_rfl) ?_
  refine bindE hS (fun z16 hz16 hS => ?_)
  refine zlOp (d := some 9) (op := (.ixS 36 4 (.tmp 7) (.tmp 8))) (g := none) (v := (.rptr (e_GCell.enc z16 ++ (e_GCell.cells (a1.drop ((a2 : Int).toNat + 1)))))) (ups := []) (j := 3) rfl (by kernel_rfl) (by kernel_rfl) (ev_ixS e_GCell (kk := .i64) (xs := a1) (j := a2) (by kernel_rfl) (by kernel_rfl) hz16 rfl (by intro h; cases h)) ?_
  refine zlRun (n := 2) (j := 5) rfl (by kernel_rfl) ?_
  refine zlBool (d := 12) (op := (.cmpI .eql (.tmp 11) (.const (.int .i64 0)))) (g := none) (j := 6) (decide (z16.Rune = 0)) rfl (by kernel_rfl) (by kernel_rfl) (by kernel_rfl) (fun hc => ?_) (fun hc => ?_)
  · replace hS := cond_t hc hS
    refine zlEnd (by kernel_rfl) ?_
    refine zkSeq ?_
    refine zrCondT (by kernel_rfl) ?_
    refine zrSeq ?_
    refine zrReg ?_
    refine zlRun (n := 1) (j := 1) rfl (by kernel_rfl) ?_
    refine zlBool (d := 14) (op := (.cmpI .eql (.tmp 13) (.const (.int .i64 0)))) (g := none) (j := 2) (decide (a2 = 0)) rfl (by kernel_rfl) (by kernel_rfl) (by kernel_rfl) (fun hc => ?_) (fun hc => ?_)
    · replace hS := cond_t hc hS
      refine zlRun (n := 17) (j := 19) rfl (by kernel_rfl) ?_
      refine zlEnd (by kernel_rfl) ?_
      refine zkSeq ?_
      refine zrRet ?_
      refine zkSeqR ?_
      refine zkNil ?_
      exact endQ hS hQ (fRet (by kernel_rfl) ((congrArg (fun s => outR s 0 c21.res) (by kernel_rfl : finSt c21.fin _ = f21_fin true)).trans (f21_out true)))
    · replace hS := cond_f hc hS
      refine zlRun (n := 4) (j := 6) rfl (by kernel_rfl) ?_
      refine bindE hS (fun z17 hz17 hS => ?_)
      refine zlOp (d := some 19) (op := (.ixS 36 4 (.tmp 16) (.tmp 18))) (g := (some (15, false))) (v := (.rptr (e_GCell.enc z17 ++ (e_GCell.cells (a1.drop (((IntKind.i64.wrap (a2 - 1)) : Int).toNat + 1)))))) (ups := []) (j := 7) rfl (by kernel_rfl) (by kernel_rfl) (ev_ixS e_GCell (kk := .i64) (xs := a1) (j := (IntKind.i64.wrap (a2 - 1))) (by kernel_rfl) (by kernel_rfl) hz17 rfl (by intro h; cases h)) ?_
      refine zlRun (n := 2) (j := 9) rfl (by kernel_rfl) ?_
      refine bindE hS (fun z18 hz18 hS => ?_)
      refine zlOp (d := some 22) (op := (.call 20 [(.tmp 21)])) (g := (some (15, false))) (j := 10) rfl (by kernel_rfl) (by kernel_rfl) (ev_callA (by kernel_rfl) (f20_ok base (d - 1) (dpt hd rfl) z17.Rune z18 hz18) (by kernel_rfl) (by kernel_rfl)) ?_
      refine zlBool (d := 23) (op := (.cmpI .neq (.tmp 22) (.const (.int .i64 2)))) (g := (some (15, false))) (j := 11) (!decide (z18 = 2)) rfl (by kernel_rfl) (by kernel_rfl) (by kernel_rfl) (fun hc => ?_) (fun hc => ?_)
      · replace hS := cond_t hc hS
        refine zlRun (n := 8) (j := 19) rfl (by kernel_rfl) ?_
        refine zlEnd (by kernel_rfl) ?_
        refine zkSeq ?_
        refine zrRet ?_
        refine zkSeqR ?_
        refine zkNil ?_
        exact endQ hS hQ (fRet (by kernel_rfl) ((congrArg (fun s => outR s 0 c21.res) (by kernel_rfl : finSt c21.fin _ = f21_fin true)).trans (f21_out true)))
      · replace hS := cond_f hc hS
        refine zlRun (n := 4) (j := 15) rfl (by kernel_rfl) ?_
        refine bindE hS (fun z19 hz19 hS => ?_)
        refine zlOp (d := some 28) (op := (.callv (.tmp 26) [(.tmp 27)])) (g := (some (25, false))) (v := (.d (.bool z19))) (ups := []) (j := 16) rfl (by kernel_rfl) (by kernel_rfl) (ev_callv (f := 34) (cs := [(.r (.ptr 24 1 0))]) (by kernel_rfl) (args := [(.d (.int .i64 a2)), (.r (.ptr 24 1 0))]) (l := [(.d (.int .i64 a2)), (.rptr ((eSl e_GCell).enc a1 ++ []))]) (r := (.d (.bool z19))) (by kernel_rfl) (by kernel_rfl) (f34_ok base (d - 1) (dpt hd rfl) a2 a1 [] z19 hz19) (by kernel_rfl) (by kernel_rfl) (by kernel_rfl)) ?_
        refine zlRun (n := 3) (j := 19) rfl (by kernel_rfl) ?_
        refine zlEnd (by kernel_rfl) ?_
        refine zkSeq ?_
        refine zrRet ?_
        refine zkSeqR ?_
        refine zkNil ?_
        exact endQ hS hQ (fRet (by kernel_rfl) ((congrArg (fun s => outR s 0 c21.res) (by kernel_rfl : finSt c21.fin _ = f21_fin (!z19))).trans (f21_out (!z19))))
  · replace hS := cond_f hc hS
    refine zlEnd (by kernel_rfl) ?_
    refine zkSeq ?_
    refine zrCondF (by kernel_rfl) ?_
    refine zrSkip ?_
    refine zkSeq ?_
    exact f21_j0_ok hd a1 a2 hQ  hS (by kernel_rfl)
/- farwriter/grid.Check -/
def f6_fin (p235 : Int) : St := ⟨(up (fun _ => .un) 2 (.d (.int .i64 p235))), (hB fun _ => 0)⟩
theorem f6_out (p235 : Int) : outR (f6_fin p235) 0 c6.res = some ((.d (.int .i64 p235)), []) := by
  kernel_rfl
def f6_Q (r : Int) (e : PX) (st : St) : Prop := DoneF c6 0 ((.d (.int .i64 r)), []) e st
def f6_l2_J (a1 : GGrid) (x : Int) : St := ⟨(up (up (up (fun _ => .un) 27 (.d (.int .i64 x))) 26 (.d (.int .i64 a1.High))) 1 (.r (.ptr 16 0 0))), (up (hB fun _ => 0) 16 ⟨0, some (.box ((.d (.int .i64 a1.Wide)) :: ((.d (.int .i64 a1.High)) :: ((.d (.sl a1.Cells.length (e_GCell.cells a1.Cells))) :: []))))⟩)⟩
def f6_l2_H (a1 : GGrid) (x : Int) (st : St) : Prop := keepSt [1, 26, 27] [(16, .id 16)] [] st = f6_l2_J a1 x
def f6_l2_e0_J (a1 : GGrid) : St := ⟨(fun _ => .un), (hB fun _ => 0)⟩
def f6_l2_X (a1 : GGrid) (z : Unit ⊕ Int) (e : PX) (st : St) : Prop := (match z with | .inl z => e = .exit 0 ∧ st = f6_l2_e0_J a1 | .inr z => e = .ret ∧ finSt c6.fin st = f6_fin z)
def f6_l2_l5_J (a1 : GGrid) (x : (List GCell) × Int × (List GCell) × Int × Int) : St := ⟨(up (up (up (up (up (up (up (fun _ => .un) 35 (.d (.int .i64 x.2.2.2.2))) 34 (.d (.int .i64 x.2.2.2.1))) 33 (.d (.sl x.2.2.1.length (e_GCell.cells x.2.2.1)))) 27 (.d (.int .i64 x.2.1))) 26 (.d (.int .i64 a1.High))) 5 (.d (.sl x.1.length (e_GCell.cells x.1)))) 1 (.r (.ptr 16 0 0))), (up (hB fun _ => 0) 16 ⟨0, some (.box ((.d (.int .i64 a1.Wide)) :: ((.d (.int .i64 a1.High)) :: ((.d (.sl a1.Cells.length (e_GCell.cells a1.Cells))) :: []))))⟩)⟩
def f6_l2_l5_H (a1 : GGrid) (x : (List GCell) × Int × (List GCell) × Int × Int) (st : St) : Prop := keepSt [1, 5, 26, 27, 33, 34, 35] [(16, .id 16)] [] st = f6_l2_l5_J a1 x
def f6_l2_l5_e2_J (a1 : GGrid) (p323 : Int) : St := ⟨(up (up (up (fun _ => .un) 27 (.d (.int .i64 p323))) 26 (.d (.int .i64 a1.High))) 1 (.r (.ptr 16 0 0))), (up (hB fun _ => 0) 16 ⟨0, some (.box ((.d (.int .i64 a1.Wide)) :: ((.d (.int .i64 a1.High)) :: ((.d (.sl a1.Cells.length (e_GCell.cells a1.Cells))) :: []))))⟩)⟩
def f6_l2_l5_X (a1 : GGrid) (z : Int ⊕ Int) (e : PX) (st : St) : Prop := (match z with | .inl z => e = .exit 2 ∧ st = f6_l2_l5_e2_J a1 z | .inr z => e = .ret ∧ finSt c6.fin st = f6_fin z)
def f6_l2_l5_j7_J (a1 : GGrid) (p336 : List GCell) (p337 : Int) (p338 : List GCell) (p339 : Int) (p340 : Int) : St := ⟨(up (up (up (up (up (up (up (fun _ => .un) 35 (.d (.int .i64 p340))) 34 (.d (.int .i64 p339))) 33 (.d (.sl p338.length (e_GCell.cells p338)))) 27 (.d (.int .i64 p337))) 26 (.d (.int .i64 a1.High))) 5 (.d (.sl p336.length (e_GCell.cells p336)))) 1 (.r (.ptr 16 0 0))), (up (hB fun _ => 0) 16 ⟨0, some (.box ((.d (.int .i64 a1.Wide)) :: ((.d (.int .i64 a1.High)) :: ((.d (.sl a1.Cells.length (e_GCell.cells a1.Cells))) :: []))))⟩)⟩
noncomputable def f6_l2_l5_j7 (a1 : GGrid) (p336 : List GCell) (p337 : Int) (p338 : List GCell) (p339 : Int) (p340 : Int) : Option (((List GCell) × Int × (List GCell) × Int × Int) ⊕ (Int ⊕ Int)) := ((idx p338 p340).bind fun z67 => ((f19 z67.Pen).bind fun z68 => (bif (!decide (z68 = 0)) then (some (.inr (.inr 4))) else (bif (!decide (z67.Rune = 0)) then ((f20 z67.Rune).bind fun z69 => (bif (decide (z69 = 0)) then (some (.inr (.inr 4))) else ((f21 p336 p340).bind fun z70 => (bif z70 then (some (.inr (.inr 4))) else (some (.inl (p336, p337, p338, p339, (IntKind.i64.wrap (p340 + 1))))))))) else ((f21 p336 p340).bind fun z71 => (bif z71 then (some (.inr (.inr 4))) else (some (.inl (p336, p337, p338, p339, (IntKind.i64.wrap (p340 + 1)))))))))))
theorem f6_l2_l5_j7_ok {base : Orc} {d : Nat} (hd : 4 ≤ d) (a1 : GGrid) {r : ((List GCell) × Int × (List GCell) × Int × Int) ⊕ (Int ⊕ Int)} {Q : PX → St → Prop} (hQ : ∀ e st', finL (f6_l2_l5_H a1) (f6_l2_l5_X a1) r e st' → Q e st') (p336 : List GCell) (p337 : Int) (p338 : List GCell) (p339 : Int) (p340 : Int) (hS : f6_l2_l5_j7 a1 p336 p337 p338 p339 p340 = some r) {st : St} (he : keepSt [1, 5, 26, 27, 33, 34, 35] [(16, .id 16)] [] st = f6_l2_l5_j7_J a1 p336 p337 p338 p339 p340) : ZR (lev codes base (d - 1)) Q c6_1 [] st := by
  refine zrKeep he ?_
  unfold f6_l2_l5_j7 at hS
  refine zrSeq ?_
  refine zrBlk ?_
  refine zrSeq ?_
  refine zrReg ?_
  refine zlRun (n := 1) (j := 1) rfl (by kernel_rfl) ?_
  refine bindE hS (fun z67 hz67 hS => ?_)
  refine zlOp (d := some 38) (op := (.ixS 36 4 (.tmp 33) (.tmp 35))) (g := none) (v := (.rptr (e_GCell.enc z67 ++ (e_GCell.cells (p338.drop ((p340 : Int).toNat + 1)))))) (ups := []) (j := 2) rfl (by kernel_rfl) (by kernel_rfl) (ev_ixS e_GCell (kk := .i64) (xs := p338) (j := p340) (by kernel_rfl) (by kernel_rfl) hz67 rfl (by intro h; cases h)) ?_
  refine zlRun (n := 4) (j := 6) rfl (by kernel_rfl) ?_
  refine zlEnd (by kernel_rfl) ?_
  refine zkSeq ?_
  refine zrSeq ?_
  refine zrReg ?_
  refine zlRun (n := 2) (j := 2) rfl (by kernel_rfl) ?_
  refine bindE hS (fun z68 hz68 hS => ?_)
  refine zlOp (d := some 42) (op := (.call 19 [(.tmp 41)])) (g := none) (j := 3) rfl (by kernel_rfl) (by kernel_rfl) (ev_callA (by kernel_rfl) (f19_ok base (d - 1) (dpt hd rfl) z67.Pen z68 hz68) (by kernel_rfl) (by kernel_rfl)) ?_
  refine zlBool (d := 43) (op := (.cmpI .neq (.tmp 42) (.const (.int .i64 0)))) (g := none) (j := 4) (!decide (z68 = 0)) rfl (by kernel_rfl) (by kernel_rfl) (by kernel_rfl) (fun hc => ?_) (fun hc => ?_)
  · replace hS := cond_t hc hS
    refine zlRun (n := 16) (j := 20) rfl (by kernel_rfl) ?_
    refine zlEnd (by kernel_rfl) ?_
    refine zkSeq ?_
    refine zrCondT (by kernel_rfl) ?_
    refine zrSeq ?_
    refine zrReg ?_
    refine zlRun (n := 1) (j := 1) rfl (by kernel_rfl) ?_
    refine zlEnd (by kernel_rfl) ?_
    refine zkSeq ?_
    refine zrRet ?_
    refine zkBlkR ?_
    refine zkSeqR ?_
    refine zkNil ?_
    exact endQ hS hQ (finL_x (by intro h; cases h) (by show _ = _ ∧ _ = _; exact ⟨rfl, by kernel_rfl⟩))
  · replace hS := cond_f hc hS
    refine zlRun (n := 3) (j := 7) rfl (by kernel_rfl) ?_
    refine zlBool (d := 47) (op := (.cmpI .neq (.tmp 46) (.const (.int .i64 0)))) (g := (some (44, false))) (j := 8) (!decide (z67.Rune = 0)) rfl (by kernel_rfl) (by kernel_rfl) (by kernel_rfl) (fun hc => ?_) (fun hc => ?_)
    · replace hS := cond_t hc hS
      refine zlRun (n := 3) (j := 11) rfl (by kernel_rfl) ?_
      refine bindE hS (fun z69 hz69 hS => ?_)
      refine zlOp (d := some 51) (op := (.call 20 [(.tmp 50)])) (g := (some (48, true))) (j := 12) rfl (by kernel_rfl) (by kernel_rfl) (ev_callA (by kernel_rfl) (f20_ok base (d - 1) (dpt hd rfl) z67.Rune z69 hz69) (by kernel_rfl) (by kernel_rfl)) ?_
      refine zlBool (d := 52) (op := (.cmpI .eql (.tmp 51) (.const (.int .i64 0)))) (g := (some (48, true))) (j := 13) (decide (z69 = 0)) rfl (by kernel_rfl) (by kernel_rfl) (by kernel_rfl) (fun hc => ?_) (fun hc => ?_)
      · replace hS := cond_t hc hS
        refine zlRun (n := 7) (j := 20) rfl (by kernel_rfl) ?_
        refine zlEnd (by kernel_rfl) ?_
        refine zkSeq ?_
        refine zrCondT (by kernel_rfl) ?_
        refine zrSeq ?_
        refine zrReg ?_
        refine zlRun (n := 1) (j := 1) rfl (by kernel_rfl) ?_
        refine zlEnd (by kernel_rfl) ?_
        refine zkSeq ?_
        refine zrRet ?_
        refine zkBlkR ?_
        refine zkSeqR ?_
        refine zkNil ?_
        exact endQ hS hQ (finL_x (by intro h; cases h) (by show _ = _ ∧ _ = _; exact ⟨rfl, by kernel_rfl⟩))
      · replace hS := cond_f hc hS
        refine zlRun (n := 5) (j := 18) rfl (by kernel_rfl) ?_
        refine bindE hS (fun z70 hz70 hS => ?_)
        refine zlOp (d := some 58) (op := (.call 21 [(.tmp 56), (.tmp 57)])) (g := (some (55, false))) (j := 19) rfl (by kernel_rfl) (by kernel_rfl) (ev_callA (by kernel_rfl) (f21_ok base (d - 1) (dpt hd rfl) p336 p340 z70 hz70) (by kernel_rfl) (by kernel_rfl)) ?_
        refine zlRun (n := 1) (j := 20) rfl (by kernel_rfl) ?_
        refine zlEnd (by kernel_rfl) ?_
        refine zkSeq ?_
        refine zrSplit 59 z70 (by kernel_rfl) (fun hc => ?_) (fun hc => ?_)
        · replace hS := cond_t hc hS
          refine zrCondT (by kernel_rfl) ?_
          refine zrSeq ?_
          refine zrReg ?_
          refine zlRun (n := 1) (j := 1) rfl (by kernel_rfl) ?_
          refine zlEnd (by kernel_rfl) ?_
          refine zkSeq ?_
          refine zrRet ?_
          refine zkBlkR ?_
          refine zkSeqR ?_
          refine zkNil ?_
          exact endQ hS hQ (finL_x (by intro h; cases h) (by show _ = _ ∧ _ = _; exact ⟨rfl, by kernel_rfl⟩))
        · replace hS := cond_f hc hS
          refine zrCondF (by kernel_rfl) ?_
          refine zrSkip ?_
          refine zkBlk ?_
          refine zkSeq ?_
          refine zrReg ?_
          refine zlRun (n := 2) (j := 2) rfl (by kernel_rfl) ?_
          refine zlEnd (by kernel_rfl) ?_
          refine zkNil ?_
          exact endQ hS hQ (finL_n (by show keepSt _ _ _ _ = _; kernel_rfl))
    · replace hS := cond_f hc hS
      refine zlRun (n := 10) (j := 18) rfl (by kernel_rfl) ?_
      refine bindE hS (fun z71 hz71 hS => ?_)
      refine zlOp (d := some 58) (op := (.call 21 [(.tmp 56), (.tmp 57)])) (g := (some (55, false))) (j := 19) rfl (by kernel_rfl) (by kernel_rfl) (ev_callA (by kernel_rfl) (f21_ok base (d - 1) (dpt hd rfl) p336 p340 z71 hz71) (by kernel_rfl) (by kernel_rfl)) ?_
      refine zlRun (n := 1) (j := 20) rfl (by kernel_rfl) ?_
      refine zlEnd (by kernel_rfl) ?_
      refine zkSeq ?_
      refine zrSplit 59 z71 (by kernel_rfl) (fun hc => ?_) (fun hc => ?_)
      · replace hS := cond_t hc hS
        refine zrCondT (by kernel_rfl) ?_
        refine zrSeq ?_
        refine zrReg ?_
        refine zlRun (n := 1) (j := 1) rfl (by kernel_rfl) ?_
        refine zlEnd (by kernel_rfl) ?_
        refine zkSeq ?_
        refine zrRet ?_
        refine zkBlkR ?_
        refine zkSeqR ?_
        refine zkNil ?_
        exact endQ hS hQ (finL_x (by intro h; cases h) (by show _ = _ ∧ _ = _; exact ⟨rfl, by kernel_rfl⟩))
      · replace hS := cond_f hc hS
        refine zrCondF (by kernel_rfl) ?_
        refine zrSkip ?_
        refine zkBlk ?_
        refine zkSeq ?_
        refine zrReg ?_
        refine zlRun (n := 2) (j := 2) rfl (by kernel_rfl) ?_
        refine zlEnd (by kernel_rfl) ?_
        refine zkNil ?_
        exact endQ hS hQ (finL_n (by show keepSt _ _ _ _ = _; kernel_rfl))
def f6_l2_l5_j6_J (a1 : GGrid) (p330 : List GCell) (p331 : Int) (p332 : List GCell) (p333 : Int) (p334 : Int) (p335 : Bool) : St := ⟨(up (up (up (up (up (up (up (up (fun _ => .un) 36 (.d (.bool p335))) 35 (.d (.int .i64 p334))) 34 (.d (.int .i64 p333))) 33 (.d (.sl p332.length (e_GCell.cells p332)))) 27 (.d (.int .i64 p331))) 26 (.d (.int .i64 a1.High))) 5 (.d (.sl p330.length (e_GCell.cells p330)))) 1 (.r (.ptr 16 0 0))), (up (hB fun _ => 0) 16 ⟨0, some (.box ((.d (.int .i64 a1.Wide)) :: ((.d (.int .i64 a1.High)) :: ((.d (.sl a1.Cells.length (e_GCell.cells a1.Cells))) :: []))))⟩)⟩
noncomputable def f6_l2_l5_j6 (a1 : GGrid) (p330 : List GCell) (p331 : Int) (p332 : List GCell) (p333 : Int) (p334 : Int) (p335 : Bool) : Option (((List GCell) × Int × (List GCell) × Int × Int) ⊕ (Int ⊕ Int)) := (bif p335 then (f6_l2_l5_j7 a1 p330 p331 p332 p333 p334) else (some (.inr (.inl p331))))
theorem f6_l2_l5_j6_ok {base : Orc} {d : Nat} (hd : 4 ≤ d) (a1 : GGrid) {r : ((List GCell) × Int × (List GCell) × Int × Int) ⊕ (Int ⊕ Int)} {Q : PX → St → Prop} (hQ : ∀ e st', finL (f6_l2_l5_H a1) (f6_l2_l5_X a1) r e st' → Q e st') (p330 : List GCell) (p331 : Int) (p332 : List GCell) (p333 : Int) (p334 : Int) (p335 : Bool) (hS : f6_l2_l5_j6 a1 p330 p331 p332 p333 p334 p335 = some r) {st : St} (he : keepSt [1, 5, 26, 27, 33, 34, 35, 36] [(16, .id 16)] [] st = f6_l2_l5_j6_J a1 p330 p331 p332 p333 p334 p335) : ZR (lev codes base (d - 1)) Q c6_2 [] st := by
  refine zrKeep he ?_
  unfold f6_l2_l5_j6 at hS
  refine zrSeq ?_
  refine zrSplit 36 p335 (by kernel_rfl) (fun hc => ?_) (fun hc => ?_)
  · replace hS := cond_t hc hS
    refine zrCondT (by kernel_rfl) ?_
    refine zrSkip ?_
    refine zkSeq ?_
    exact f6_l2_l5_j7_ok hd a1 hQ p330 p331 p332 p333 p334 hS (by kernel_rfl)
  · replace hS := cond_f hc hS
    refine zrCondF (by kernel_rfl) ?_
    refine zrKeep (J := f6_l2_l5_e2_J a1 p331) (by kernel_rfl) ?_
    refine zrExit ?_
    refine zkSeqX ?_
    refine zkNil ?_
    exact endQ hS hQ (finL_x (by intro h; cases h) (by show _ = _ ∧ _ = _; exact ⟨rfl, rfl⟩))
noncomputable def f6_l2_l5 (a1 : GGrid) (x : (List GCell) × Int × (List GCell) × Int × Int) : Option (((List GCell) × Int × (List GCell) × Int × Int) ⊕ (Int ⊕ Int)) := (bif (decide (x.2.2.2.2 < x.2.2.2.1)) then (f6_l2_l5_j6 a1 x.1 x.2.1 x.2.2.1 x.2.2.2.1 x.2.2.2.2 true) else (f6_l2_l5_j6 a1 x.1 x.2.1 x.2.2.1 x.2.2.2.1 x.2.2.2.2 false))
theorem f6_l2_l5_ok {base : Orc} {d : Nat} (hd : 4 ≤ d) (a1 : GGrid) {r : ((List GCell) × Int × (List GCell) × Int × Int) ⊕ (Int ⊕ Int)} {Q : PX → St → Prop} (hQ : ∀ e st', finL (f6_l2_l5_H a1) (f6_l2_l5_X a1) r e st' → Q e st') {x : (List GCell) × Int × (List GCell) × Int × Int} (hS : f6_l2_l5 a1 x = some r) {st : St} (he : f6_l2_l5_H a1 x st) : ZR (lev codes base (d - 1)) Q c6_3 [] st := by
  refine zrKeep he ?_
  unfold f6_l2_l5 at hS
  refine zrSeq ?_
  refine zrReg ?_
  refine zlBool (d := 36) (op := (.cmpI .lss (.tmp 35) (.tmp 34))) (g := none) (j := 1) (decide (x.2.2.2.2 < x.2.2.2.1)) rfl (by kernel_rfl) (by kernel_rfl) (by kernel_rfl) (fun hc => ?_) (fun hc => ?_)
  · replace hS := cond_t hc hS
    refine zlEnd (by kernel_rfl) ?_
    refine zkSeq ?_
    exact f6_l2_l5_j6_ok hd a1 hQ x.1 x.2.1 x.2.2.1 x.2.2.2.1 x.2.2.2.2 true hS (by kernel_rfl)
  · replace hS := cond_f hc hS
    refine zlEnd (by kernel_rfl) ?_
    refine zkSeq ?_
    exact f6_l2_l5_j6_ok hd a1 hQ x.1 x.2.1 x.2.2.1 x.2.2.2.1 x.2.2.2.2 false hS (by kernel_rfl)
def f6_l2_j4_J (a1 : GGrid) (p243 : Int) : St := ⟨(up (up (up (fun _ => .un) 27 (.d (.int .i64 p243))) 26 (.d (.int .i64 a1.High))) 1 (.r (.ptr 16 0 0))), (up (hB fun _ => 0) 16 ⟨0, some (.box ((.d (.int .i64 a1.Wide)) :: ((.d (.int .i64 a1.High)) :: ((.d (.sl a1.Cells.length (e_GCell.cells a1.Cells))) :: []))))⟩)⟩
noncomputable def f6_l2_j4 (a1 : GGrid) (p243 : Int) : Option (Int ⊕ (Unit ⊕ Int)) := ((f18 a1 p243).bind fun z51 => ((loopO (f6_l2_l5 a1) (z51, p243, z51, (z51.length : Int), 0)).bind fun z72 => (Sum.elim (fun z73 => (some (.inl (IntKind.i64.wrap (z73 + 1))))) (fun z74 => (some (.inr (.inr z74)))) z72)))
theorem f6_l2_j4_ok {base : Orc} {d : Nat} (hd : 4 ≤ d) (a1 : GGrid) {r : Int ⊕ (Unit ⊕ Int)} {Q : PX → St → Prop} (hQ : ∀ e st', finL (f6_l2_H a1) (f6_l2_X a1) r e st' → Q e st') (p243 : Int) (hS : f6_l2_j4 a1 p243 = some r) {st : St} (he : keepSt [1, 26, 27] [(16, .id 16)] [] st = f6_l2_j4_J a1 p243) : ZR (lev codes base (d - 1)) Q c6_4 [] st := by
  refine zrKeep he ?_
  unfold f6_l2_j4 at hS
  refine zrSeq ?_
  refine zrBlk ?_
  refine zrSeq ?_
  refine zrReg ?_
  refine zlRun (n := 2) (j := 2) rfl (by kernel_rfl) ?_
  refine zlEnd (by kernel_rfl) ?_
  refine zkSeq ?_
  refine zrSeq ?_
  refine zrReg ?_
  refine zlRun (n := 2) (j := 2) rfl (by kernel_rfl) ?_
  refine bindE hS (fun z51 hz51 hS => ?_)
  refine zlOp (d := some 32) (op := (.callr 18 [(.tmp 30), (.tmp 31)])) (g := none) (j := 3) rfl (by kernel_rfl) (by kernel_rfl) (ev_callrXA (ids := []) (bs := []) (by kernel_rfl) (by kernel_rfl) (by kernel_rfl) (by kernel_rfl) (f18_ok base (d - 1) (dpt hd rfl) a1 p243 z51 hz51) (by kernel_rfl) sm_nil (by kernel_rfl)) ?_
  refine zlRun (n := 1) (j := 4) rfl (by kernel_rfl) ?_
  refine zlEnd (by kernel_rfl) ?_
  refine zkSeq ?_
  refine zrSeq ?_
  refine zrReg ?_
  refine zlRun (n := 3) (j := 3) rfl (by kernel_rfl) ?_
  refine zlEnd (by kernel_rfl) ?_
  refine zkSeq ?_
  refine zrBlk ?_
  refine bindE hS (fun z72 hz72 hS => ?_)
  refine zrLoop (f6_l2_l5_H a1) (f6_l2_l5_X a1) (fun x st r Q h0 hS hQ => f6_l2_l5_ok hd a1 hQ hS h0) (x := (z51, p243, z51, (z51.length : Int), 0)) (z := z72) (by show keepSt _ _ _ _ = _; kernel_rfl) hz72 ?_
  rcases z72 with z73 | z74
  · replace hS := (show _ = _ from hS)
    simp only [Sum.elim_inl] at hS
    intro e st' _ hX
    obtain ⟨rfl, rfl⟩ : _ ∧ _ := hX
    refine zkBlkX ?_
    refine zkBlk ?_
    refine zkSeq ?_
    refine zrReg ?_
    refine zlRun (n := 2) (j := 2) rfl (by kernel_rfl) ?_
    refine zlEnd (by kernel_rfl) ?_
    refine zkNil ?_
    exact endQ hS hQ (finL_n (by show keepSt _ _ _ _ = _; kernel_rfl))
  · simp only [Sum.elim_inr] at hS
    intro e st' _ hX
    obtain ⟨rfl, hX⟩ : _ ∧ _ := hX
    refine zkBlkR ?_
    refine zkBlkR ?_
    refine zkSeqR ?_
    refine zkNil ?_
    exact endQ hS hQ (finL_x (by intro h; cases h) (by show _ = _ ∧ _ = _; exact ⟨rfl, hX⟩))
def f6_l2_j3_J (a1 : GGrid) (p241 : Int) (p242 : Bool) : St := ⟨(up (up (up (up (fun _ => .un) 28 (.d (.bool p242))) 27 (.d (.int .i64 p241))) 26 (.d (.int .i64 a1.High))) 1 (.r (.ptr 16 0 0))), (up (hB fun _ => 0) 16 ⟨0, some (.box ((.d (.int .i64 a1.Wide)) :: ((.d (.int .i64 a1.High)) :: ((.d (.sl a1.Cells.length (e_GCell.cells a1.Cells))) :: []))))⟩)⟩
noncomputable def f6_l2_j3 (a1 : GGrid) (p241 : Int) (p242 : Bool) : Option (Int ⊕ (Unit ⊕ Int)) := (bif p242 then (f6_l2_j4 a1 p241) else (some (.inr (.inl ()))))
theorem f6_l2_j3_ok {base : Orc} {d : Nat} (hd : 4 ≤ d) (a1 : GGrid) {r : Int ⊕ (Unit ⊕ Int)} {Q : PX → St → Prop} (hQ : ∀ e st', finL (f6_l2_H a1) (f6_l2_X a1) r e st' → Q e st') (p241 : Int) (p242 : Bool) (hS : f6_l2_j3 a1 p241 p242 = some r) {st : St} (he : keepSt [1, 26, 27, 28] [(16, .id 16)] [] st = f6_l2_j3_J a1 p241 p242) : ZR (lev codes base (d - 1)) Q c6_5 [] st := by
  refine zrKeep he ?_
  unfold f6_l2_j3 at hS
  refine zrSeq ?_
  refine zrSplit 28 p242 (by kernel_rfl) (fun hc => ?_) (fun hc => ?_)
  · replace hS := cond_t hc hS
    refine zrCondT (by kernel_rfl) ?_
    refine zrSkip ?_
    refine zkSeq ?_
    exact f6_l2_j4_ok hd a1 hQ p241 hS (by kernel_rfl)
  · replace hS := cond_f hc hS
    refine zrCondF (by kernel_rfl) ?_
    refine zrKeep (J := f6_l2_e0_J a1) (by kernel_rfl) ?_
    refine zrExit ?_
    refine zkSeqX ?_
    refine zkNil ?_
    exact endQ hS hQ (finL_x (by intro h; cases h) (by show _ = _ ∧ _ = _; exact ⟨rfl, rfl⟩))
noncomputable def f6_l2 (a1 : GGrid) (x : Int) : Option (Int ⊕ (Unit ⊕ Int)) := (bif (decide (x < a1.High)) then (f6_l2_j3 a1 x true) else (f6_l2_j3 a1 x false))
theorem f6_l2_ok {base : Orc} {d : Nat} (hd : 4 ≤ d) (a1 : GGrid) {r : Int ⊕ (Unit ⊕ Int)} {Q : PX → St → Prop} (hQ : ∀ e st', finL (f6_l2_H a1) (f6_l2_X a1) r e st' → Q e st') {x : Int} (hS : f6_l2 a1 x = some r) {st : St} (he : f6_l2_H a1 x st) : ZR (lev codes base (d - 1)) Q c6_6 [] st := by
  refine zrKeep he ?_
  unfold f6_l2 at hS
  refine zrSeq ?_
  refine zrReg ?_
  refine zlBool (d := 28) (op := (.cmpI .lss (.tmp 27) (.tmp 26))) (g := none) (j := 1) (decide (x < a1.High)) rfl (by kernel_rfl) (by kernel_rfl) (by kernel_rfl) (fun hc => ?_) (fun hc => ?_)
  · replace hS := cond_t hc hS
    refine zlEnd (by kernel_rfl) ?_
    refine zkSeq ?_
    exact f6_l2_j3_ok hd a1 hQ x true hS (by kernel_rfl)
  · replace hS := cond_f hc hS
    refine zlEnd (by kernel_rfl) ?_
    refine zkSeq ?_
    exact f6_l2_j3_ok hd a1 hQ x false hS (by kernel_rfl)
def f6_j1_J (a1 : GGrid) : St := ⟨(up (fun _ => .un) 1 (.r (.ptr 16 0 0))), (up (hB fun _ => 0) 16 ⟨0, some (.box ((.d (.int .i64 a1.Wide)) :: ((.d (.int .i64 a1.High)) :: ((.d (.sl a1.Cells.length (e_GCell.cells a1.Cells))) :: []))))⟩)⟩
noncomputable def f6_j1 (a1 : GGrid) : Option (Int) := ((loopO (f6_l2 a1) 0).bind fun z75 => (Sum.elim (fun z76 => (some 0)) (fun z77 => (some z77)) z75))
theorem f6_j1_ok {base : Orc} {d : Nat} (hd : 4 ≤ d) (a1 : GGrid) {r : Int} {Q : PX → St → Prop} (hQ : ∀ e st', f6_Q r e st' → Q e st')  (hS : f6_j1 a1 = some r) {st : St} (he : keepSt [1] [(16, .id 16)] [] st = f6_j1_J a1) : ZR (lev codes base (d - 1)) Q c6_7 [] st := by
  refine zrKeep he ?_
  unfold f6_j1 at hS
  refine zrSeq ?_
  refine zrSeq ?_
  refine zrReg ?_
  refine zlRun (n := 3) (j := 3) rfl (by kernel_rfl) ?_
  refine zlEnd (by kernel_rfl) ?_
  refine zkSeq ?_
  refine zrBlk ?_
  refine bindE hS (fun z75 hz75 hS => ?_)
  refine zrLoop (f6_l2_H a1) (f6_l2_X a1) (fun x st r Q h0 hS hQ => f6_l2_ok hd a1 hQ hS h0) (x := 0) (z := z75) (by show keepSt _ _ _ _ = _; kernel_rfl) hz75 ?_
  rcases z75 with z76 | z77
  · replace hS := (show _ = _ from hS)
    simp only [Sum.elim_inl] at hS
    intro e st' _ hX
    obtain ⟨rfl, rfl⟩ : _ ∧ _ := hX
    refine zkBlkX ?_
    refine zkSeq ?_
    refine zrSeq ?_
    refine zrReg ?_
    refine zlRun (n := 1) (j := 1) rfl (by kernel_rfl) ?_
    refine zlEnd (by kernel_rfl) ?_
    refine zkSeq ?_
    refine zrRet ?_
    refine zkNil ?_
    exact endQ hS hQ (fRet (by kernel_rfl) ((congrArg (fun s => outR s 0 c6.res) (by kernel_rfl : finSt c6.fin _ = f6_fin 0)).trans (f6_out 0)))
  · simp only [Sum.elim_inr] at hS
    intro e st' _ hX
    obtain ⟨rfl, hX⟩ : _ ∧ _ := hX
    refine zkBlkR ?_
    refine zkSeqR ?_
    refine zkNil ?_
    exact endQ hS hQ (fRet (by kernel_rfl) ((congrArg (fun s => outR s 0 c6.res) hX).trans (f6_out z77)))
def f6_j0_J (a1 : GGrid) : St := ⟨(up (fun _ => .un) 1 (.r (.ptr 16 0 0))), (up (hB fun _ => 0) 16 ⟨0, some (.box ((.d (.int .i64 a1.Wide)) :: ((.d (.int .i64 a1.High)) :: ((.d (.sl a1.Cells.length (e_GCell.cells a1.Cells))) :: []))))⟩)⟩
noncomputable def f6_j0 (a1 : GGrid) : Option (Int) := (bif (!decide ((a1.Cells.length : Int) = (IntKind.i64.wrap (a1.Wide * a1.High)))) then (some 4) else (f6_j1 a1 ))
theorem f6_j0_ok {base : Orc} {d : Nat} (hd : 4 ≤ d) (a1 : GGrid) {r : Int} {Q : PX → St → Prop} (hQ : ∀ e st', f6_Q r e st' → Q e st')  (hS : f6_j0 a1 = some r) {st : St} (he : keepSt [1] [(16, .id 16)] [] st = f6_j0_J a1) : ZR (lev codes base (d - 1)) Q c6_8 [] st := by
  refine zrKeep he ?_
  unfold f6_j0 at hS
  refine zrSeq ?_
  refine zrSeq ?_
  refine zrReg ?_
  refine zlRun (n := 8) (j := 8) rfl (by kernel_rfl) ?_
  refine zlBool (d := 24) (op := (.cmpI .neq (.tmp 18) (.tmp 23))) (g := none) (j := 9) (!decide ((a1.Cells.length : Int) = (IntKind.i64.wrap (a1.Wide * a1.High)))) rfl (by kernel_rfl) (by kernel_rfl) (by kernel_rfl) (fun hc => ?_) (fun hc => ?_)
  · replace hS := cond_t hc hS
    refine zlEnd (by kernel_rfl) ?_
    refine zkSeq ?_
    refine zrCondT (by kernel_rfl) ?_
    refine zrSeq ?_
    refine zrReg ?_
    refine zlRun (n := 1) (j := 1) rfl (by kernel_rfl) ?_
    refine zlEnd (by kernel_rfl) ?_
    refine zkSeq ?_
    refine zrRet ?_
    refine zkSeqR ?_
    refine zkNil ?_
    exact endQ hS hQ (fRet (by kernel_rfl) ((congrArg (fun s => outR s 0 c6.res) (by kernel_rfl : finSt c6.fin _ = f6_fin 4)).trans (f6_out 4)))
  · replace hS := cond_f hc hS
    refine zlEnd (by kernel_rfl) ?_
    refine zkSeq ?_
    refine zrCondF (by kernel_rfl) ?_
    refine zrSkip ?_
    refine zkSeq ?_
    exact f6_j1_ok hd a1 hQ  hS (by kernel_rfl)
noncomputable def f6 (a1 : GGrid) : Option (Int) := ((f17 a1.Wide a1.High).bind fun z78 => (bif (!decide (z78 = 0)) then (some z78) else (f6_j0 a1 )))
theorem f6_ok (base : Orc) (d : Nat) (hd : 4 ≤ d) (a1 : GGrid) (r : Int) (hS : f6 a1 = some r) : lev codes base d 6 [(.agg ((.d (.int .i64 a1.Wide)) :: ((.d (.int .i64 a1.High)) :: ((.d (.sl a1.Cells.length (e_GCell.cells a1.Cells))) :: []))))] [] = some ((.d (.int .i64 r)), []) := by
  refine lev_go codes6 rfl rfl (Nat.le_trans (Nat.le_of_ble_eq_true rfl) hd) fun Q hQ => ?_
  unfold f6 at hS
  show ZR _ Q c6_b [] _
  replace hQ : ∀ e st', f6_Q r e st' → Q e st' := hQ
  refine zrSeq ?_
  refine zrReg ?_
  refine zlRun (n := 2) (j := 2) rfl (by kernel_rfl) ?_
  refine zlEnd (by kernel_rfl) ?_
  refine zkSeq ?_
  refine zrSeq ?_
  refine zrSeq ?_
  refine zrReg ?_
  refine zlRun (n := 4) (j := 4) rfl (by kernel_rfl) ?_
  refine bindE hS (fun z78 hz78 hS => ?_)
  refine zlOp (d := some 12) (op := (.call 17 [(.tmp 9), (.tmp 11)])) (g := none) (j := 5) rfl (by kernel_rfl) (by kernel_rfl) (ev_callA (by kernel_rfl) (f17_ok base (d - 1) (dpt hd rfl) a1.Wide a1.High z78 hz78) (by kernel_rfl) (by kernel_rfl)) ?_
  refine zlRun (n := 1) (j := 6) rfl (by kernel_rfl) ?_
  refine zlEnd (by kernel_rfl) ?_
  refine zkSeq ?_
  refine zrSeq ?_
  refine zrReg ?_
  refine zlRun (n := 1) (j := 1) rfl (by kernel_rfl) ?_
  refine zlBool (d := 14) (op := (.cmpI .neq (.tmp 13) (.const (.int .i64 0)))) (g := none) (j := 2) (!decide (z78 = 0)) rfl (by kernel_rfl) (by kernel_rfl) (by kernel_rfl) (fun hc => ?_) (fun hc => ?_)
  · replace hS := cond_t hc hS
    refine zlEnd (by kernel_rfl) ?_
    refine zkSeq ?_
    refine zrCondT (by kernel_rfl) ?_
    refine zrSeq ?_
    refine zrReg ?_
    refine zlRun (n := 2) (j := 2) rfl (by kernel_rfl) ?_
    refine zlEnd (by kernel_rfl) ?_
    refine zkSeq ?_
    refine zrRet ?_
    refine zkSeqR ?_
    refine zkNil ?_
    exact endQ hS hQ (fRet (by kernel_rfl) ((congrArg (fun s => outR s 0 c6.res) (by kernel_rfl : finSt c6.fin _ = f6_fin z78)).trans (f6_out z78)))
  · replace hS := cond_f hc hS
    refine zlEnd (by kernel_rfl) ?_
    refine zkSeq ?_
    refine zrCondF (by kernel_rfl) ?_
    refine zrSkip ?_
    refine zkSeq ?_
    exact f6_j0_ok hd a1 hQ  hS (by kernel_rfl)
/- slices.Clone[[]farwriter/api.Cell,farwriter/api.Cell] -/
def f10_fin (p1 : List GCell) : St := ⟨(up (fun _ => .un) 2 (.r (.msl 97 0 0 p1.length))), (up (hB fun _ => 0) 97 ⟨0, some (.own 36 4 (e_GCell.cells p1))⟩)⟩
theorem f10_out (p1 : List GCell) : outR (f10_fin p1) 0 c10.res = some ((.r (.own 0 36 4 p1.length (e_GCell.cells p1))), []) := by
  exact out_of (ids := []) (ids' := [97]) (l := [(.r (.msl 97 0 0 p1.length))]) (by kernel_rfl) (by kernel_rfl) (o_own e_GCell (e := 36) (k := 4) (xs := p1) (by kernel_rfl) rfl rfl rfl rfl)
def f10_Q (r : List GCell) (e : PX) (st : St) : Prop := DoneF c10 0 ((.r (.own 0 36 4 r.length (e_GCell.cells r))), []) e st
noncomputable def f10 (a1 : List GCell) : Option (List GCell) := ((app? 32 ([] : List GCell) a1).bind fun z2 => (some z2))
theorem f10_ok (base : Orc) (d : Nat) (hd : 1 ≤ d) (a1 : List GCell) (r : List GCell) (hS : f10 a1 = some r) : lev codes base d 10 [(.d (.sl a1.length (e_GCell.cells a1)))] [] = some ((.r (.own 0 36 4 r.length (e_GCell.cells r))), []) := by
  refine lev_goZ codes10 rfl rfl (Nat.le_trans (Nat.le_of_ble_eq_true rfl) hd) (fun Q hQ => ?_) (fun h0 Q hQ => ?_)
  · unfold f10 at hS
    show ZR _ Q c10_b [] _
    refine zrSeq ?_
    refine zrReg ?_
    refine zlRun (n := 1) (j := 1) rfl (by kernel_rfl) ?_
    refine zlEnd (by kernel_rfl) ?_
    refine zkSeq ?_
    refine zrSeq ?_
    refine zrSeq ?_
    refine zrReg ?_
    refine zlRun (n := 2) (j := 2) rfl (by kernel_rfl) ?_
    refine zlEnd (by kernel_rfl) ?_
    refine zkSeq ?_
    refine zrCondF (by kernel_rfl) ?_
    refine zrSkip ?_
    refine zkSeq ?_
    refine zrSeq ?_
    refine zrReg ?_
    refine zlRun (n := 2) (j := 2) rfl (by kernel_rfl) ?_
    refine bindE hS (fun z2 hz2 hS => ?_)
    refine zlOp (d := some 7) (op := (.app 36 4 32 (.tmp 5) (.tmp 6))) (g := none) (v := (.r (.msl 48 2 0 z2.length))) (ups := [(48, ⟨2, some (.own 36 4 (e_GCell.cells z2))⟩)]) (j := 3) rfl (by kernel_rfl) (by kernel_rfl) (ev_app e_GCell (b := 48) (g := 1) (n := ([] : List GCell).length) (xs := []) (ys := a1) ((congrArg (asL _) (by kernel_rfl : ρof _ (.tmp 6) = (.slz false a1.length (e_GCell.cells a1)))).trans rfl) rfl (by kernel_rfl) rfl (by kernel_rfl) rfl hz2) ?_
    refine zlRun (n := 1) (j := 4) rfl (by kernel_rfl) ?_
    refine zlEnd (by kernel_rfl) ?_
    refine zkSeq ?_
    refine zrRet ?_
    refine zkNil ?_
    exact endQ (F := f10_Q) hS hQ (fRet (by kernel_rfl) ((congrArg (fun s => outR s 0 c10.res) (by kernel_rfl : finSt c10.fin _ = f10_fin z2)).trans (f10_out z2)))
  · have hS : (some []) = some r := by
      have hl := List.eq_nil_of_length_eq_zero h0
      subst hl
      simpa [f10, app?] using hS
    show ZR _ Q c10_b [] _
    refine zrSeq ?_
    refine zrReg ?_
    refine zlRun (n := 1) (j := 1) rfl (by kernel_rfl) ?_
    refine zlEnd (by kernel_rfl) ?_
    refine zkSeq ?_
    refine zrSeq ?_
    refine zrSeq ?_
    refine zrReg ?_
    refine zlRun (n := 2) (j := 2) rfl (by kernel_rfl) ?_
    refine zlEnd (by kernel_rfl) ?_
    refine zkSeq ?_
    refine zrCondT (by kernel_rfl) ?_
    refine zrSeq ?_
    refine zrReg ?_
    refine zlRun (n := 1) (j := 1) rfl (by kernel_rfl) ?_
    refine zlEnd (by kernel_rfl) ?_
    refine zkSeq ?_
    refine zrRet ?_
    refine zkSeqR ?_
    refine zkNil ?_
    exact endQ (F := f10_Q) hS hQ (fRet (by kernel_rfl) ((congrArg (fun s => outR s 0 c10.res) (by kernel_rfl : finSt c10.fin _ = f10_fin [])).trans (f10_out [])))
/- farwriter/grid.Clone -/
def f35_fin (p1 : Int) (p2 : Int) (p3 : List GCell) : St := ⟨(up (fun _ => .un) 2 (.r (.ptr 24 0 0))), (up (up (hB fun _ => 0) 48 ⟨0, some (.own 36 4 (e_GCell.cells p3))⟩) 24 ⟨0, some (.box ((.d (.int .i64 p1)) :: ((.d (.int .i64 p2)) :: ((.r (.msl 48 0 0 p3.length)) :: []))))⟩)⟩
theorem f35_out (p1 : Int) (p2 : Int) (p3 : List GCell) : outR (f35_fin p1 p2 p3) 0 c35.res = some ((.agg ((.d (.int .i64 p1)) :: ((.d (.int .i64 p2)) :: ((.r (.own 0 36 4 p3.length (e_GCell.cells p3))) :: [])))), []) := by
  exact out_of (ids := []) (ids' := [48]) (l := [(.agg ((.d (.int .i64 p1)) :: ((.d (.int .i64 p2)) :: ((.r (.msl 48 0 0 p3.length)) :: []))))]) (by kernel_rfl) (by kernel_rfl) (o_agg (o_cons rfl (o_cons rfl (o_cons (o_own e_GCell (e := 36) (k := 4) (xs := p3) (by kernel_rfl) rfl rfl rfl rfl) o_nil))))
def f35_Q (r : Int × Int × (List GCell)) (e : PX) (st : St) : Prop := DoneF c35 0 ((.agg ((.d (.int .i64 r.1)) :: ((.d (.int .i64 r.2.1)) :: ((.r (.own 0 36 4 r.2.2.length (e_GCell.cells r.2.2))) :: [])))), []) e st
noncomputable def f35 (a1 : GGrid) : Option (Int × Int × (List GCell)) := ((f10 a1.Cells).bind fun z2 => (some (a1.Wide, a1.High, z2)))
theorem f35_ok (base : Orc) (d : Nat) (hd : 2 ≤ d) (a1 : GGrid) (r : Int × Int × (List GCell)) (hS : f35 a1 = some r) : lev codes base d 35 [(.agg ((.d (.int .i64 a1.Wide)) :: ((.d (.int .i64 a1.High)) :: ((.d (.sl a1.Cells.length (e_GCell.cells a1.Cells))) :: []))))] [] = some ((.agg ((.d (.int .i64 r.1)) :: ((.d (.int .i64 r.2.1)) :: ((.r (.own 0 36 4 r.2.2.length (e_GCell.cells r.2.2))) :: [])))), []) := by
  refine lev_go codes35 rfl rfl (Nat.le_trans (Nat.le_of_ble_eq_true rfl) hd) fun Q hQ => ?_
  unfold f35 at hS
  show ZR _ Q c35_b [] _
  replace hQ : ∀ e st', f35_Q r e st' → Q e st' := hQ
  refine zrSeq ?_
  refine zrReg ?_
  refine zlRun (n := 2) (j := 2) rfl (by kernel_rfl) ?_
  refine zlEnd (by kernel_rfl) ?_
  refine zkSeq ?_
  refine zrSeq ?_
  refine zrReg ?_
  refine zlRun (n := 2) (j := 2) rfl (by kernel_rfl) ?_
  refine bindE hS (fun z2 hz2 hS => ?_)
  refine zlOp (d := some 5) (op := (.call 10 [(.tmp 4)])) (g := none) (j := 3) rfl (by kernel_rfl) (by kernel_rfl) (ev_callA (by kernel_rfl) (f10_ok base (d - 1) (dpt hd rfl) a1.Cells z2 hz2) (by kernel_rfl) (by kernel_rfl)) ?_
  refine zlRun (n := 2) (j := 5) rfl (by kernel_rfl) ?_
  refine zlEnd (by kernel_rfl) ?_
  refine zkSeq ?_
  refine zrSeq ?_
  refine zrReg ?_
  refine zlRun (n := 2) (j := 2) rfl (by kernel_rfl) ?_
  refine zlEnd (by kernel_rfl) ?_
  refine zkSeq ?_
  refine zrRet ?_
  refine zkNil ?_
  exact endQ hS hQ (fRet (by kernel_rfl) ((congrArg (fun s => outR s 0 c35.res) (by kernel_rfl : finSt c35.fin _ = f35_fin a1.Wide a1.High z2)).trans (f35_out a1.Wide a1.High z2)))
/- farwriter/grid.start -/
def f22_fin (p5 : Int) (p6 : Int) (p7 : List GCell) (p8 : Int) : St := ⟨(up (up (fun _ => .un) 7 (.d (.int .i64 p8))) 6 (.r (.ptr 56 0 0))), (up (up (hB fun _ => 0) 216 ⟨0, some (.own 36 4 (e_GCell.cells p7))⟩) 56 ⟨0, some (.box ((.d (.int .i64 p5)) :: ((.d (.int .i64 p6)) :: ((.r (.msl 216 0 0 p7.length)) :: []))))⟩)⟩
theorem f22_out (p5 : Int) (p6 : Int) (p7 : List GCell) (p8 : Int) : outR (f22_fin p5 p6 p7 p8) 0 c22.res = some ((.tup [(.agg ((.d (.int .i64 p5)) :: ((.d (.int .i64 p6)) :: ((.r (.own 0 36 4 p7.length (e_GCell.cells p7))) :: [])))), (.d (.int .i64 p8))]), []) := by
  exact out_of (ids := []) (ids' := [216]) (l := [(.agg ((.d (.int .i64 p5)) :: ((.d (.int .i64 p6)) :: ((.r (.msl 216 0 0 p7.length)) :: [])))), (.d (.int .i64 p8))]) (by kernel_rfl) (by kernel_rfl) (o_tup (o_cons (o_agg (o_cons rfl (o_cons rfl (o_cons (o_own e_GCell (e := 36) (k := 4) (xs := p7) (by kernel_rfl) rfl rfl rfl rfl) o_nil)))) (o_cons rfl o_nil)))
def f22_Q (r : Int × Int × (List GCell) × Int) (e : PX) (st : St) : Prop := DoneF c22 0 ((.tup [(.agg ((.d (.int .i64 r.1)) :: ((.d (.int .i64 r.2.1)) :: ((.r (.own 0 36 4 r.2.2.1.length (e_GCell.cells r.2.2.1))) :: [])))), (.d (.int .i64 r.2.2.2))]), []) e st
def f22_j1_J (a1 : GGrid) (a2 : Bool) (a3 : GPen) : St := ⟨(up (up (up (fun _ => .un) 6 (.r (.ptr 56 0 0))) 5 (.r (.ptr 48 0 0))) 3 (.r (.ptr 32 0 0))), (up (up (up (hB fun _ => 0) 56 ⟨0, some (.box ((.d (.int .i64 0)) :: ((.d (.int .i64 0)) :: ((.d (.sl ([] : List GCell).length (e_GCell.cells ([])))) :: []))))⟩) 48 ⟨0, some (.box ((.d (.int .i64 a3.Flags)) :: ((.d (.int .i64 a3.Fore)) :: ((.d (.int .i64 a3.Back)) :: []))))⟩) 32 ⟨0, some (.box ((.d (.int .i64 a1.Wide)) :: ((.d (.int .i64 a1.High)) :: ((.d (.sl a1.Cells.length (e_GCell.cells a1.Cells))) :: []))))⟩)⟩
noncomputable def f22_j1 (a1 : GGrid) (a2 : Bool) (a3 : GPen) : Option (Int × Int × (List GCell) × Int) := ((f19 a3).bind fun z5 => (bif (!decide (z5 = 0)) then (some (0, 0, [], z5)) else ((f35 a1).bind fun z6 => (some (z6.1, z6.2.1, z6.2.2, 0)))))
theorem f22_j1_ok {base : Orc} {d : Nat} (hd : 5 ≤ d) (a1 : GGrid) (a2 : Bool) (a3 : GPen) {r : Int × Int × (List GCell) × Int} {Q : PX → St → Prop} (hQ : ∀ e st', f22_Q r e st' → Q e st')  (hS : f22_j1 a1 a2 a3 = some r) {st : St} (he : keepSt [3, 5, 6] [(32, .id 32), (48, .id 48), (56, .id 56)] [] st = f22_j1_J a1 a2 a3) : ZR (lev codes base (d - 1)) Q c22_1 [] st := by
  refine zrKeep he ?_
  unfold f22_j1 at hS
  refine zrSeq ?_
  refine zrSeq ?_
  refine zrReg ?_
  refine zlRun (n := 1) (j := 1) rfl (by kernel_rfl) ?_
  refine bindE hS (fun z5 hz5 hS => ?_)
  refine zlOp (d := some 20) (op := (.call 19 [(.tmp 19)])) (g := none) (j := 2) rfl (by kernel_rfl) (by kernel_rfl) (ev_callA (by kernel_rfl) (f19_ok base (d - 1) (dpt hd rfl) a3 z5 hz5) (by kernel_rfl) (by kernel_rfl)) ?_
  refine zlRun (n := 1) (j := 3) rfl (by kernel_rfl) ?_
  refine zlEnd (by kernel_rfl) ?_
  refine zkSeq ?_
  refine zrSeq ?_
  refine zrReg ?_
  refine zlRun (n := 1) (j := 1) rfl (by kernel_rfl) ?_
  refine zlBool (d := 22) (op := (.cmpI .neq (.tmp 21) (.const (.int .i64 0)))) (g := none) (j := 2) (!decide (z5 = 0)) rfl (by kernel_rfl) (by kernel_rfl) (by kernel_rfl) (fun hc => ?_) (fun hc => ?_)
  · replace hS := cond_t hc hS
    refine zlEnd (by kernel_rfl) ?_
    refine zkSeq ?_
    refine zrCondT (by kernel_rfl) ?_
    refine zrSeq ?_
    refine zrReg ?_
    refine zlRun (n := 4) (j := 4) rfl (by kernel_rfl) ?_
    refine zlEnd (by kernel_rfl) ?_
    refine zkSeq ?_
    refine zrRet ?_
    refine zkSeqR ?_
    refine zkNil ?_
    exact endQ hS hQ (fRet (by kernel_rfl) ((congrArg (fun s => outR s 0 c22.res) (by kernel_rfl : finSt c22.fin _ = f22_fin 0 0 [] z5)).trans (f22_out 0 0 [] z5)))
  · replace hS := cond_f hc hS
    refine zlEnd (by kernel_rfl) ?_
    refine zkSeq ?_
    refine zrCondF (by kernel_rfl) ?_
    refine zrSkip ?_
    refine zkSeq ?_
    refine zrSeq ?_
    refine zrReg ?_
    refine zlRun (n := 1) (j := 1) rfl (by kernel_rfl) ?_
    refine bindE hS (fun z6 hz6 hS => ?_)
    refine zlOp (d := some 26) (op := (.call 35 [(.tmp 25)])) (g := none) (j := 2) rfl (by kernel_rfl) (by kernel_rfl) (ev_callA (by kernel_rfl) (f35_ok base (d - 1) (dpt hd rfl) a1 z6 hz6) (by kernel_rfl) (by kernel_rfl)) ?_
    refine zlRun (n := 2) (j := 4) rfl (by kernel_rfl) ?_
    refine zlEnd (by kernel_rfl) ?_
    refine zkSeq ?_
    refine zrRet ?_
    refine zkNil ?_
    exact endQ hS hQ (fRet (by kernel_rfl) ((congrArg (fun s => outR s 0 c22.res) (by kernel_rfl : finSt c22.fin _ = f22_fin z6.1 z6.2.1 z6.2.2 0)).trans (f22_out z6.1 z6.2.1 z6.2.2 0)))
def f22_j0_J (a1 : GGrid) (a2 : Bool) (a3 : GPen) : St := ⟨(up (up (up (up (fun _ => .un) 6 (.r (.ptr 56 0 0))) 5 (.r (.ptr 48 0 0))) 3 (.r (.ptr 32 0 0))) 1 (.d (.bool a2))), (up (up (up (hB fun _ => 0) 56 ⟨0, some (.box ((.d (.int .i64 0)) :: ((.d (.int .i64 0)) :: ((.d (.sl ([] : List GCell).length (e_GCell.cells ([])))) :: []))))⟩) 48 ⟨0, some (.box ((.d (.int .i64 a3.Flags)) :: ((.d (.int .i64 a3.Fore)) :: ((.d (.int .i64 a3.Back)) :: []))))⟩) 32 ⟨0, some (.box ((.d (.int .i64 a1.Wide)) :: ((.d (.int .i64 a1.High)) :: ((.d (.sl a1.Cells.length (e_GCell.cells a1.Cells))) :: []))))⟩)⟩
noncomputable def f22_j0 (a1 : GGrid) (a2 : Bool) (a3 : GPen) : Option (Int × Int × (List GCell) × Int) := (bif (!a2) then (some (0, 0, [], 1)) else (f22_j1 a1 a2 a3 ))
theorem f22_j0_ok {base : Orc} {d : Nat} (hd : 5 ≤ d) (a1 : GGrid) (a2 : Bool) (a3 : GPen) {r : Int × Int × (List GCell) × Int} {Q : PX → St → Prop} (hQ : ∀ e st', f22_Q r e st' → Q e st')  (hS : f22_j0 a1 a2 a3 = some r) {st : St} (he : keepSt [1, 3, 5, 6] [(32, .id 32), (48, .id 48), (56, .id 56)] [.cell 56 2 0 0 1] st = f22_j0_J a1 a2 a3) : ZR (lev codes base (d - 1)) Q c22_2 [] st := by
  refine zrKeep he ?_
  unfold f22_j0 at hS
  refine zrSeq ?_
  refine zrSeq ?_
  refine zrReg ?_
  refine zlRun (n := 2) (j := 2) rfl (by kernel_rfl) ?_
  refine zlEnd (by kernel_rfl) ?_
  refine zkSeq ?_
  refine zrSplit 17 (!a2) (by kernel_rfl) (fun hc => ?_) (fun hc => ?_)
  · replace hS := cond_t hc hS
    refine zrCondT (by kernel_rfl) ?_
    refine zrSeq ?_
    refine zrReg ?_
    refine zlRun (n := 3) (j := 3) rfl (by kernel_rfl) ?_
    refine zlEnd (by kernel_rfl) ?_
    refine zkSeq ?_
    refine zrRet ?_
    refine zkSeqR ?_
    refine zkNil ?_
    exact endQ hS hQ (fRet (by kernel_rfl) ((congrArg (fun s => outR s 0 c22.res) (by kernel_rfl : finSt c22.fin _ = f22_fin 0 0 [] 1)).trans (f22_out 0 0 [] 1)))
  · replace hS := cond_f hc hS
    refine zrCondF (by kernel_rfl) ?_
    refine zrSkip ?_
    refine zkSeq ?_
    exact f22_j1_ok hd a1 a2 a3 hQ  hS (by kernel_rfl)
noncomputable def f22 (a1 : GGrid) (a2 : Bool) (a3 : GPen) : Option (Int × Int × (List GCell) × Int) := ((f6 a1).bind fun z7 => (bif (!decide (z7 = 0)) then (some (0, 0, [], z7)) else (f22_j0 a1 a2 a3 )))
theorem f22_ok (base : Orc) (d : Nat) (hd : 5 ≤ d) (a1 : GGrid) (a2 : Bool) (a3 : GPen) (r : Int × Int × (List GCell) × Int) (hS : f22 a1 a2 a3 = some r) : lev codes base d 22 [(.agg ((.d (.int .i64 a1.Wide)) :: ((.d (.int .i64 a1.High)) :: ((.d (.sl a1.Cells.length (e_GCell.cells a1.Cells))) :: [])))), (.d (.bool a2)), (.agg ((.d (.int .i64 a3.Flags)) :: ((.d (.int .i64 a3.Fore)) :: ((.d (.int .i64 a3.Back)) :: []))))] [] = some ((.tup [(.agg ((.d (.int .i64 r.1)) :: ((.d (.int .i64 r.2.1)) :: ((.r (.own 0 36 4 r.2.2.1.length (e_GCell.cells r.2.2.1))) :: [])))), (.d (.int .i64 r.2.2.2))]), []) := by
  refine lev_go codes22 rfl rfl (Nat.le_trans (Nat.le_of_ble_eq_true rfl) hd) fun Q hQ => ?_
  unfold f22 at hS
  show ZR _ Q c22_b [] _
  replace hQ : ∀ e st', f22_Q r e st' → Q e st' := hQ
  refine zrSeq ?_
  refine zrReg ?_
  refine zlRun (n := 4) (j := 4) rfl (by kernel_rfl) ?_
  refine zlEnd (by kernel_rfl) ?_
  refine zkSeq ?_
  refine zrSeq ?_
  refine zrSeq ?_
  refine zrReg ?_
  refine zlRun (n := 1) (j := 1) rfl (by kernel_rfl) ?_
  refine bindE hS (fun z7 hz7 hS => ?_)
  refine zlOp (d := some 11) (op := (.call 6 [(.tmp 10)])) (g := none) (j := 2) rfl (by kernel_rfl) (by kernel_rfl) (ev_callA (by kernel_rfl) (f6_ok base (d - 1) (dpt hd rfl) a1 z7 hz7) (by kernel_rfl) (by kernel_rfl)) ?_
  refine zlRun (n := 1) (j := 3) rfl (by kernel_rfl) ?_
  refine zlEnd (by kernel_rfl) ?_
  refine zkSeq ?_
  refine zrSeq ?_
  refine zrReg ?_
  refine zlRun (n := 1) (j := 1) rfl (by kernel_rfl) ?_
  refine zlBool (d := 13) (op := (.cmpI .neq (.tmp 12) (.const (.int .i64 0)))) (g := none) (j := 2) (!decide (z7 = 0)) rfl (by kernel_rfl) (by kernel_rfl) (by kernel_rfl) (fun hc => ?_) (fun hc => ?_)
  · replace hS := cond_t hc hS
    refine zlEnd (by kernel_rfl) ?_
    refine zkSeq ?_
    refine zrCondT (by kernel_rfl) ?_
    refine zrSeq ?_
    refine zrReg ?_
    refine zlRun (n := 4) (j := 4) rfl (by kernel_rfl) ?_
    refine zlEnd (by kernel_rfl) ?_
    refine zkSeq ?_
    refine zrRet ?_
    refine zkSeqR ?_
    refine zkNil ?_
    exact endQ hS hQ (fRet (by kernel_rfl) ((congrArg (fun s => outR s 0 c22.res) (by kernel_rfl : finSt c22.fin _ = f22_fin 0 0 [] z7)).trans (f22_out 0 0 [] z7)))
  · replace hS := cond_f hc hS
    refine zlEnd (by kernel_rfl) ?_
    refine zkSeq ?_
    refine zrCondF (by kernel_rfl) ?_
    refine zrSkip ?_
    refine zkSeq ?_
    exact f22_j0_ok hd a1 a2 a3 hQ  hS (by kernel_rfl)
/- farwriter/grid.row -/
def f18v1_fin (p1 : List GCell) (p2 : Nat) (p3 : Nat) : St := ⟨(up (up (fun _ => .un) 2000000 .un) 4 (.r (.msl 0 0 p2 p3))), (up (hB fun _ => 0) 0 ⟨0, some (.own 36 4 (e_GCell.cells p1))⟩)⟩
theorem f18v1_out (p1 : List GCell) (p2 : Nat) (p3 : Nat) : outR (f18v1_fin p1 p2 p3) 1 c18.res = some ((.r (.msl 0 0 p2 p3)), [(.own 36 4 (e_GCell.cells p1))]) := by
  kernel_rfl
def f18v1_Q (r : (List GCell) × Nat × Nat) (e : PX) (st : St) : Prop := DoneF c18 1 ((.r (.msl 0 0 r.2.1 r.2.2)), [(.own 36 4 (e_GCell.cells r.1)), .box []]) e st
noncomputable def f18v1 (a1 : Int) (a2 : Int) (a3 : Int) (a4 : List GCell) : Option ((List GCell) × Nat × Nat) := ((chk (decide (0 ≤ (IntKind.i64.wrap (a3 * a1))) && decide ((IntKind.i64.wrap (a3 * a1)) ≤ (IntKind.i64.wrap ((IntKind.i64.wrap (a3 + 1)) * a1))) && decide ((IntKind.i64.wrap ((IntKind.i64.wrap (a3 + 1)) * a1)) ≤ (a4.length : Int)))).bind fun z2 => (some (a4, (((IntKind.i64.wrap (a3 * a1)) : Int).toNat), (((IntKind.i64.wrap ((IntKind.i64.wrap (a3 + 1)) * a1)) : Int).toNat - ((IntKind.i64.wrap (a3 * a1)) : Int).toNat))))
theorem f18v1_ok (base : Orc) (d : Nat) (hd : 1 ≤ d) (a1 : Int) (a2 : Int) (a3 : Int) (a4 : List GCell) (r : (List GCell) × Nat × Nat) (hS : f18v1 a1 a2 a3 a4 = some r) : lev codes base d 18 [(.agg ((.d (.int .i64 a1)) :: ((.d (.int .i64 a2)) :: ((.r (.msl 0 0 0 a4.length)) :: [])))), (.d (.int .i64 a3))] [(.own 36 4 (e_GCell.cells a4))] = some ((.r (.msl 0 0 r.2.1 r.2.2)), [(.own 36 4 (e_GCell.cells r.1)), .box []]) := by
  refine lev_go codes18 rfl rfl (Nat.le_trans (Nat.le_of_ble_eq_true rfl) hd) fun Q hQ => ?_
  unfold f18v1 at hS
  show ZR _ Q c18_b [] _
  replace hQ : ∀ e st', f18v1_Q r e st' → Q e st' := hQ
  refine zrSeq ?_
  refine zrReg ?_
  refine zlRun (n := 2) (j := 2) rfl (by kernel_rfl) ?_
  refine zlEnd (by kernel_rfl) ?_
  refine zkSeq ?_
  refine zrSeq ?_
  refine zrReg ?_
  refine zlRun (n := 11) (j := 11) rfl (by kernel_rfl) ?_
  refine bindE hS (fun z2 hz2 hS => ?_)
  refine zlOp (d := some 16) (op := (.slS 36 4 (.tmp 6) (.some (.tmp 10)) (.some (.tmp 15)))) (g := none) (v := (.r (.msl 0 0 (((IntKind.i64.wrap (a3 * a1)) : Int).toNat) (((IntKind.i64.wrap ((IntKind.i64.wrap (a3 + 1)) * a1)) : Int).toNat - ((IntKind.i64.wrap (a3 * a1)) : Int).toNat)))) (ups := []) (j := 12) rfl (by kernel_rfl) (by kernel_rfl) (ev_slM (b := 0) (g := 0) (e := 36) (a := (IntKind.i64.wrap (a3 * a1))) (c := (IntKind.i64.wrap ((IntKind.i64.wrap (a3 + 1)) * a1))) (l := 0) (n := a4.length) (l' := (((IntKind.i64.wrap (a3 * a1)) : Int).toNat)) (n' := (((IntKind.i64.wrap ((IntKind.i64.wrap (a3 + 1)) * a1)) : Int).toNat - ((IntKind.i64.wrap (a3 * a1)) : Int).toNat)) (cs := e_GCell.cells a4) (by kernel_rfl) (by kernel_rfl) (bnd_s _ (kk := .i64) (j := (IntKind.i64.wrap (a3 * a1))) (by kernel_rfl)) (bnd_s _ (kk := .i64) (j := (IntKind.i64.wrap ((IntKind.i64.wrap (a3 + 1)) * a1))) (by kernel_rfl)) hz2 (by simp) rfl) ?_
  refine zlRun (n := 1) (j := 13) rfl (by kernel_rfl) ?_
  refine zlEnd (by kernel_rfl) ?_
  refine zkSeq ?_
  refine zrRet ?_
  refine zkNil ?_
  exact endQ hS hQ (fRetX (by kernel_rfl) (by kernel_rfl : finSt c18.fin _ = f18v1_fin a4 (((IntKind.i64.wrap (a3 * a1)) : Int).toNat) (((IntKind.i64.wrap ((IntKind.i64.wrap (a3 + 1)) * a1)) : Int).toNat - ((IntKind.i64.wrap (a3 * a1)) : Int).toNat)) (by kernel_rfl) (f18v1_out a4 (((IntKind.i64.wrap (a3 * a1)) : Int).toNat) (((IntKind.i64.wrap ((IntKind.i64.wrap (a3 + 1)) * a1)) : Int).toNat - ((IntKind.i64.wrap (a3 * a1)) : Int).toNat)))
/- farwriter/grid.repair -/
def f29_fin (p27 : List GCell) : St := ⟨(up (fun _ => .un) 2000000 .un), (up (hB fun _ => 0) 0 ⟨0, some (.own 36 4 (e_GCell.cells p27))⟩)⟩
theorem f29_out (p27 : List GCell) : outR (f29_fin p27) 1 c29.res = some ((.tup []), [(.own 36 4 (e_GCell.cells p27))]) := by
  kernel_rfl
def f29_Q (r : (List GCell)) (e : PX) (st : St) : Prop := DoneF c29 1 ((.tup []), [(.own 36 4 (e_GCell.cells r)), .box []]) e st
def f29_l0_J (a1 : Nat) (a2 : Nat) (a3 : List GCell) (x : (List GCell) × (List GCell) × Int) : St := ⟨(up (up (up (up (fun _ => .un) 8 (.d (.int .i64 x.2.2))) 7 (.d (.int .i64 (a2 : Int)))) 2 (.r (.msl 48 0 0 x.2.1.length))) 0 (.r (.msl 0 0 a1 a2))), (up (up (hB fun _ => 0) 48 ⟨0, some (.own 36 4 (e_GCell.cells x.2.1))⟩) 0 ⟨0, some (.own 36 4 (e_GCell.cells x.1))⟩)⟩
def f29_l0_H (a1 : Nat) (a2 : Nat) (a3 : List GCell) (x : (List GCell) × (List GCell) × Int) (st : St) : Prop := keepSt [0, 2, 7, 8] [(0, .id 0), (48, .id 48)] [] st = f29_l0_J a1 a2 a3 x
def f29_l0_e0_J (a1 : Nat) (a2 : Nat) (a3 : List GCell) (p53 : List GCell) : St := ⟨(fun _ => .un), (up (hB fun _ => 0) 0 ⟨0, some (.own 36 4 (e_GCell.cells p53))⟩)⟩
def f29_l0_X (a1 : Nat) (a2 : Nat) (a3 : List GCell) (z : ((List GCell))) (e : PX) (st : St) : Prop := e = .exit 0 ∧ st = f29_l0_e0_J a1 a2 a3 z
def f29_l0_j2_J (a1 : Nat) (a2 : Nat) (a3 : List GCell) (p62 : List GCell) (p63 : List GCell) (p64 : Int) : St := ⟨(up (up (up (up (fun _ => .un) 8 (.d (.int .i64 p64))) 7 (.d (.int .i64 (a2 : Int)))) 2 (.r (.msl 48 0 0 p63.length))) 0 (.r (.msl 0 0 a1 a2))), (up (up (hB fun _ => 0) 48 ⟨0, some (.own 36 4 (e_GCell.cells p63))⟩) 0 ⟨0, some (.own 36 4 (e_GCell.cells p62))⟩)⟩
noncomputable def f29_l0_j2 (a1 : Nat) (a2 : Nat) (a3 : List GCell) (p62 : List GCell) (p63 : List GCell) (p64 : Int) : Option (((List GCell) × (List GCell) × Int) ⊕ (((List GCell)))) := ((f21 p63 p64).bind fun z47 => (bif z47 then ((inR p64 p63.length).bind fun m48 => ((p63[m48]?).bind fun z49 => ((f36 z49.Pen).bind fun z50 => ((inR p64 a2).bind fun m51 => ((p62[(a1 + m51)]?).bind fun z52 => ((some (p62.set (a1 + m51) z50)).bind fun z53 => (some (.inl (z53, p63, (IntKind.i64.wrap (p64 + 1))))))))))) else (some (.inl (p62, p63, (IntKind.i64.wrap (p64 + 1)))))))
theorem f29_l0_j2_ok {base : Orc} {d : Nat} (hd : 4 ≤ d) (a1 : Nat) (a2 : Nat) (a3 : List GCell) {r : ((List GCell) × (List GCell) × Int) ⊕ (((List GCell)))} {Q : PX → St → Prop} (hQ : ∀ e st', finL (f29_l0_H a1 a2 a3) (f29_l0_X a1 a2 a3) r e st' → Q e st') (p62 : List GCell) (p63 : List GCell) (p64 : Int) (hS : f29_l0_j2 a1 a2 a3 p62 p63 p64 = some r) {st : St} (he : keepSt [0, 2, 7, 8] [(0, .id 0), (48, .id 48)] [] st = f29_l0_j2_J a1 a2 a3 p62 p63 p64) : ZR (lev codes base (d - 1)) Q c29_1 [] st := by
  refine zrKeep he ?_
  unfold f29_l0_j2 at hS
  refine zrSeq ?_
  refine zrBlk ?_
  refine zrSeq ?_
  refine zrReg ?_
  refine zlRun (n := 2) (j := 2) rfl (by kernel_rfl) ?_
  refine zlEnd (by kernel_rfl) ?_
  refine zkSeq ?_
  refine zrSeq ?_
  refine zrReg ?_
  refine zlRun (n := 2) (j := 2) rfl (by kernel_rfl) ?_
  refine bindE hS (fun z47 hz47 hS => ?_)
  refine zlOp (d := some 13) (op := (.call 21 [(.tmp 11), (.tmp 12)])) (g := none) (j := 3) rfl (by kernel_rfl) (by kernel_rfl) (ev_callB (args := [(.r (.msl 48 0 0 p63.length)), (.d (.int .i64 p64))]) (by kernel_rfl) (l_cons (l_own e_GCell (e := 36) (k := 4) (xs := p63) (by kernel_rfl) rfl rfl) (l_cons (by kernel_rfl) l_nil)) (f21_ok base (d - 1) (dpt hd rfl) p63 p64 z47 hz47) (by kernel_rfl) (by kernel_rfl)) ?_
  refine zlEnd (by kernel_rfl) ?_
  refine zkSeq ?_
  refine zrSplit 13 z47 (by kernel_rfl) (fun hc => ?_) (fun hc => ?_)
  · replace hS := cond_t hc hS
    refine zrCondT (by kernel_rfl) ?_
    refine zrReg ?_
    refine zlRun (n := 4) (j := 4) rfl (by kernel_rfl) ?_
    refine bindE hS (fun m48 hm48 hS => ?_)
    refine zlOp (d := some 18) (op := (.ixS 36 4 (.tmp 16) (.tmp 17))) (g := none) (v := (.r (.ptr 48 0 ((0 + m48) * 4)))) (ups := []) (j := 5) rfl (by kernel_rfl) (by kernel_rfl) (ev_ixM (kk := .i64) (b := 48) (g := 0) (l := 0) (n := p63.length) (j := p64) (cs := e_GCell.cells p63) (by kernel_rfl) (by kernel_rfl) (by kernel_rfl) hm48) ?_
    refine zlRun (n := 1) (j := 6) rfl (by kernel_rfl) ?_
    refine bindE hS (fun z49 hz49 hS => ?_)
    refine zlOp (d := some 20) (op := (.load .true 3 (.tmp 19))) (g := none) (v := (.agg ((.d (.int .i64 z49.Pen.Flags)) :: ((.d (.int .i64 z49.Pen.Fore)) :: ((.d (.int .i64 z49.Pen.Back)) :: []))))) (ups := []) (j := 7) rfl (by kernel_rfl) (by kernel_rfl) (ev_loadM e_GCell (b := 48) (g := 0) (o := (0 + m48) * 4 + 1) (e := 36) (k := 4) (m := m48) (fo := 1) (xs := p63) (by kernel_rfl) (by kernel_rfl) (by rw [Nat.zero_add]; rfl) hz49 (by kernel_rfl) (by kernel_rfl) (by kernel_rfl)) ?_
    refine bindE hS (fun z50 hz50 hS => ?_)
    refine zlOp (d := some 21) (op := (.call 36 [(.tmp 20)])) (g := none) (j := 8) rfl (by kernel_rfl) (by kernel_rfl) (ev_callA (by kernel_rfl) (f36_ok base (d - 1) (dpt hd rfl) z49.Pen z50 hz50) (by kernel_rfl) (by kernel_rfl)) ?_
    refine bindE hS (fun m51 hm51 hS => ?_)
    refine zlOp (d := some 22) (op := (.ixS 36 4 (.tmp 14) (.tmp 15))) (g := none) (v := (.r (.ptr 0 0 ((a1 + m51) * 4)))) (ups := []) (j := 9) rfl (by kernel_rfl) (by kernel_rfl) (ev_ixM (kk := .i64) (b := 0) (g := 0) (l := a1) (n := a2) (j := p64) (cs := e_GCell.cells p62) (by kernel_rfl) (by kernel_rfl) (by kernel_rfl) hm51) ?_
    refine bindE hS (fun z52 hz52 hS => ?_)
    refine bindE hS (fun z53 hz53 hS => ?_)
    refine zlOp (d := none) (op := (.store 4 (.tmp 22) (.tmp 21))) (g := none) (v := .un) (ups := [(0, ⟨0, some (.own 36 4 (e_GCell.cells (p62.set (a1 + m51) z50)))⟩)]) (j := 10) rfl (by kernel_rfl) (by kernel_rfl) (ev_storeM e_GCell (b := 0) (g := 0) (o := (a1 + m51) * 4) (e := 36) (k := 4) (m := (a1 + m51)) (fo := 0) (xs := p62) (z := z52) (z' := z50) (by kernel_rfl) (new := ((.d (.int .i64 z50.Rune)) :: ((.d (.int .i64 z50.Pen.Flags)) :: ((.d (.int .i64 z50.Pen.Fore)) :: ((.d (.int .i64 z50.Pen.Back)) :: []))))) (ds := [.int .i64 z50.Rune, .int .i64 z50.Pen.Flags, .int .i64 z50.Pen.Fore, .int .i64 z50.Pen.Back]) (by kernel_rfl) (by kernel_rfl) (by kernel_rfl) rfl hz52 (by kernel_rfl) (by kernel_rfl) (by kernel_rfl)) ?_
    have ez53 := Option.some.inj hz53
    have lz53 : p62.length = z53.length := by rw [← ez53, List.length_set]
    rw [ez53]
    try delta f29_l0_j2_J
    try rw [lz53]
    refine zlEnd (by kernel_rfl) ?_
    refine zkBlk ?_
    refine zkSeq ?_
    refine zrReg ?_
    refine zlRun (n := 2) (j := 2) rfl (by kernel_rfl) ?_
    refine zlEnd (by kernel_rfl) ?_
    refine zkNil ?_
    exact endQ hS hQ (finL_n (by show keepSt _ _ _ _ = _; kernel_rfl))
  · replace hS := cond_f hc hS
    refine zrCondF (by kernel_rfl) ?_
    refine zrSkip ?_
    refine zkBlk ?_
    refine zkSeq ?_
    refine zrReg ?_
    refine zlRun (n := 2) (j := 2) rfl (by kernel_rfl) ?_
    refine zlEnd (by kernel_rfl) ?_
    refine zkNil ?_
    exact endQ hS hQ (finL_n (by show keepSt _ _ _ _ = _; kernel_rfl))
def f29_l0_j1_J (a1 : Nat) (a2 : Nat) (a3 : List GCell) (p58 : List GCell) (p59 : List GCell) (p60 : Int) (p61 : Bool) : St := ⟨(up (up (up (up (up (fun _ => .un) 9 (.d (.bool p61))) 8 (.d (.int .i64 p60))) 7 (.d (.int .i64 (a2 : Int)))) 2 (.r (.msl 48 0 0 p59.length))) 0 (.r (.msl 0 0 a1 a2))), (up (up (hB fun _ => 0) 48 ⟨0, some (.own 36 4 (e_GCell.cells p59))⟩) 0 ⟨0, some (.own 36 4 (e_GCell.cells p58))⟩)⟩
noncomputable def f29_l0_j1 (a1 : Nat) (a2 : Nat) (a3 : List GCell) (p58 : List GCell) (p59 : List GCell) (p60 : Int) (p61 : Bool) : Option (((List GCell) × (List GCell) × Int) ⊕ (((List GCell)))) := (bif p61 then (f29_l0_j2 a1 a2 a3 p58 p59 p60) else (some (.inr p58)))
theorem f29_l0_j1_ok {base : Orc} {d : Nat} (hd : 4 ≤ d) (a1 : Nat) (a2 : Nat) (a3 : List GCell) {r : ((List GCell) × (List GCell) × Int) ⊕ (((List GCell)))} {Q : PX → St → Prop} (hQ : ∀ e st', finL (f29_l0_H a1 a2 a3) (f29_l0_X a1 a2 a3) r e st' → Q e st') (p58 : List GCell) (p59 : List GCell) (p60 : Int) (p61 : Bool) (hS : f29_l0_j1 a1 a2 a3 p58 p59 p60 p61 = some r) {st : St} (he : keepSt [0, 2, 7, 8, 9] [(0, .id 0), (48, .id 48)] [] st = f29_l0_j1_J a1 a2 a3 p58 p59 p60 p61) : ZR (lev codes base (d - 1)) Q c29_2 [] st := by
  refine zrKeep he ?_
  unfold f29_l0_j1 at hS
  refine zrSeq ?_
  refine zrSplit 9 p61 (by kernel_rfl) (fun hc => ?_) (fun hc => ?_)
  · replace hS := cond_t hc hS
    refine zrCondT (by kernel_rfl) ?_
    refine zrSkip ?_
    refine zkSeq ?_
    exact f29_l0_j2_ok hd a1 a2 a3 hQ p58 p59 p60 hS (by kernel_rfl)
  · replace hS := cond_f hc hS
    refine zrCondF (by kernel_rfl) ?_
    refine zrKeep (J := f29_l0_e0_J a1 a2 a3 p58) (by kernel_rfl) ?_
    refine zrExit ?_
    refine zkSeqX ?_
    refine zkNil ?_
    exact endQ hS hQ (finL_x (by intro h; cases h) (by show _ = _ ∧ _ = _; exact ⟨rfl, rfl⟩))
noncomputable def f29_l0 (a1 : Nat) (a2 : Nat) (a3 : List GCell) (x : (List GCell) × (List GCell) × Int) : Option (((List GCell) × (List GCell) × Int) ⊕ (((List GCell)))) := (bif (decide (x.2.2 < (a2 : Int))) then (f29_l0_j1 a1 a2 a3 x.1 x.2.1 x.2.2 true) else (f29_l0_j1 a1 a2 a3 x.1 x.2.1 x.2.2 false))
theorem f29_l0_ok {base : Orc} {d : Nat} (hd : 4 ≤ d) (a1 : Nat) (a2 : Nat) (a3 : List GCell) {r : ((List GCell) × (List GCell) × Int) ⊕ (((List GCell)))} {Q : PX → St → Prop} (hQ : ∀ e st', finL (f29_l0_H a1 a2 a3) (f29_l0_X a1 a2 a3) r e st' → Q e st') {x : (List GCell) × (List GCell) × Int} (hS : f29_l0 a1 a2 a3 x = some r) {st : St} (he : f29_l0_H a1 a2 a3 x st) : ZR (lev codes base (d - 1)) Q c29_3 [] st := by
  refine zrKeep he ?_
  unfold f29_l0 at hS
  refine zrSeq ?_
  refine zrReg ?_
  refine zlBool (d := 9) (op := (.cmpI .lss (.tmp 8) (.tmp 7))) (g := none) (j := 1) (decide (x.2.2 < (a2 : Int))) rfl (by kernel_rfl) (by kernel_rfl) (by kernel_rfl) (fun hc => ?_) (fun hc => ?_)
  · replace hS := cond_t hc hS
    refine zlEnd (by kernel_rfl) ?_
    refine zkSeq ?_
    exact f29_l0_j1_ok hd a1 a2 a3 hQ x.1 x.2.1 x.2.2 true hS (by kernel_rfl)
  · replace hS := cond_f hc hS
    refine zlEnd (by kernel_rfl) ?_
    refine zkSeq ?_
    exact f29_l0_j1_ok hd a1 a2 a3 hQ x.1 x.2.1 x.2.2 false hS (by kernel_rfl)
noncomputable def f29 (a1 : Nat) (a2 : Nat) (a3 : List GCell) : Option ((List GCell)) := ((part? a3 a1 a2).bind fun z24 => ((f10 z24).bind fun z25 => ((loopO (f29_l0 a1 a2 a3) (a3, z25, 0)).bind fun z54 => (some z54))))
theorem f29_ok (base : Orc) (d : Nat) (hd : 4 ≤ d) (a1 : Nat) (a2 : Nat) (a3 : List GCell) (r : (List GCell)) (hS : f29 a1 a2 a3 = some r) : lev codes base d 29 [(.r (.msl 0 0 a1 a2))] [(.own 36 4 (e_GCell.cells a3))] = some ((.tup []), [(.own 36 4 (e_GCell.cells r)), .box []]) := by
  refine lev_go codes29 rfl rfl (Nat.le_trans (Nat.le_of_ble_eq_true rfl) hd) fun Q hQ => ?_
  unfold f29 at hS
  show ZR _ Q c29_b [] _
  replace hQ : ∀ e st', f29_Q r e st' → Q e st' := hQ
  refine zrSeq ?_
  refine zrReg ?_
  refine zlRun (n := 1) (j := 1) rfl (by kernel_rfl) ?_
  refine bindE hS (fun z24 hz24 hS => ?_)
  refine bindE hS (fun z25 hz25 hS => ?_)
  refine zlOp (d := some 5) (op := (.call 10 [(.tmp 4)])) (g := none) (j := 2) rfl (by kernel_rfl) (by kernel_rfl) (ev_callB (args := [(.r (.msl 0 0 a1 a2))]) (by kernel_rfl) (l_cons (l_part e_GCell (e := 36) (k := 4) (xs := a3) (by kernel_rfl) rfl hz24) l_nil) (f10_ok base (d - 1) (dpt hd rfl) z24 z25 hz25) (by simp only [free_own e_GCell (fun _ => rfl), free_tup, free_agg, free_nl, free_cs, free_int, free_bool, free_str, free_un, free_ni, free_s0, Bool.and_true, Bool.or_true, Bool.and_self]) (by kernel_rfl)) ?_
  refine zlRun (n := 1) (j := 3) rfl (by kernel_rfl) ?_
  refine zlEnd (by kernel_rfl) ?_
  refine zkSeq ?_
  refine zrSeq ?_
  refine zrReg ?_
  refine zlRun (n := 3) (j := 3) rfl (by kernel_rfl) ?_
  refine zlEnd (by kernel_rfl) ?_
  refine zkSeq ?_
  refine zrBlk ?_
  refine bindE hS (fun z54 hz54 hS => ?_)
  refine zrLoop (f29_l0_H a1 a2 a3) (f29_l0_X a1 a2 a3) (fun x st r Q h0 hS hQ => f29_l0_ok hd a1 a2 a3 hQ hS h0) (x := (a3, z25, 0)) (z := z54) (by show keepSt _ _ _ _ = _; kernel_rfl) hz54 ?_
  intro e st' _ hX
  obtain ⟨rfl, rfl⟩ : _ ∧ _ := hX
  refine zkBlkX ?_
  refine zkNil ?_
  exact endQ hS hQ (fNormX (by kernel_rfl) (by kernel_rfl : finSt c29.fin _ = f29_fin z54) (by kernel_rfl) (f29_out z54))
/- farwriter/grid.PutIn -/
def f23_fin (p8 : List GCell) : St := ⟨(up (fun _ => .un) 2000000 .un), (up (hB fun _ => 0) 0 ⟨0, some (.own 36 4 (e_GCell.cells p8))⟩)⟩
theorem f23_out (p8 : List GCell) : outR (f23_fin p8) 1 c23.res = some ((.tup []), [(.own 36 4 (e_GCell.cells p8))]) := by
  kernel_rfl
def f23_Q (r : (List GCell)) (e : PX) (st : St) : Prop := DoneF c23 1 ((.tup []), [(.own 36 4 (e_GCell.cells r)), .box []]) e st
noncomputable def f23 (a1 : Int) (a2 : Int) (a3 : Int) (a4 : Int) (a5 : Int) (a6 : GPen) (a7 : List GCell) : Option ((List GCell)) := ((f18v1 a1 a2 a3 a7).bind fun z12 => ((chk (decide (z12.1.length = a7.length))).bind fun z13 => ((inR a4 z12.2.2).bind fun m14 => ((z12.1[(z12.2.1 + m14)]?).bind fun z15 => ((some (z12.1.set (z12.2.1 + m14) (GCell.mk a5 a6))).bind fun z16 => ((f20 a5).bind fun z18 => (bif (decide (z18 = 2)) then ((inR (IntKind.i64.wrap (a4 + 1)) z12.2.2).bind fun m19 => ((z16[(z12.2.1 + m19)]?).bind fun z20 => ((some (z16.set (z12.2.1 + m19) (GCell.mk 0 a6))).bind fun z21 => ((f29 z12.2.1 z12.2.2 z21).bind fun z22 => ((chk (decide (z22.length = z21.length))).bind fun z23 => (some z22)))))) else ((f29 z12.2.1 z12.2.2 z16).bind fun z24 => ((chk (decide (z24.length = z16.length))).bind fun z25 => (some z24))))))))))
theorem f23_ok (base : Orc) (d : Nat) (hd : 5 ≤ d) (a1 : Int) (a2 : Int) (a3 : Int) (a4 : Int) (a5 : Int) (a6 : GPen) (a7 : List GCell) (r : (List GCell)) (hS : f23 a1 a2 a3 a4 a5 a6 a7 = some r) : lev codes base d 23 [(.agg ((.d (.int .i64 a1)) :: ((.d (.int .i64 a2)) :: ((.r (.msl 0 0 0 a7.length)) :: [])))), (.d (.int .i64 a3)), (.d (.int .i64 a4)), (.d (.int .i64 a5)), (.agg ((.d (.int .i64 a6.Flags)) :: ((.d (.int .i64 a6.Fore)) :: ((.d (.int .i64 a6.Back)) :: []))))] [(.own 36 4 (e_GCell.cells a7))] = some ((.tup []), [(.own 36 4 (e_GCell.cells r)), .box []]) := by
  refine lev_go codes23 rfl rfl (Nat.le_trans (Nat.le_of_ble_eq_true rfl) hd) fun Q hQ => ?_
  unfold f23 at hS
  show ZR _ Q c23_b [] _
  replace hQ : ∀ e st', f23_Q r e st' → Q e st' := hQ
  refine zrSeq ?_
  refine zrReg ?_
  refine zlRun (n := 2) (j := 2) rfl (by kernel_rfl) ?_
  refine zlEnd (by kernel_rfl) ?_
  refine zkSeq ?_
  refine zrSeq ?_
  refine zrReg ?_
  refine zlRun (n := 2) (j := 2) rfl (by kernel_rfl) ?_
  refine bindE hS (fun z12 hz12 hS => ?_)
  refine bindE hS (fun z13 hz13 hS => ?_)
  refine zlOp (d := some 13) (op := (.callr 18 [(.tmp 11), (.tmp 12)])) (g := none) (j := 3) rfl (by kernel_rfl) (by kernel_rfl) (ev_callrXA (ids := [0]) (bs := [(.own 36 4 (e_GCell.cells a7))]) (by kernel_rfl) (by kernel_rfl) (by kernel_rfl) (by kernel_rfl) (f18v1_ok base (d - 1) (dpt hd rfl) a1 a2 a3 a7 z12 hz12) (by kernel_rfl) (sm_own e_GCell (e1 := 36) (k1 := 4) (xs := a7) (ys := z12.1) (by kernel_rfl) hz13 sm_nil) (by kernel_rfl)) ?_
  have lz13 : a7.length = z12.1.length := (of_decide_eq_true (chk_t hz13)).symm
  skip
  try rw [lz13]
  refine zlRun (n := 1) (j := 4) rfl (by kernel_rfl) ?_
  refine zlEnd (by kernel_rfl) ?_
  refine zkSeq ?_
  refine zrSeq ?_
  refine zrReg ?_
  refine zlRun (n := 5) (j := 5) rfl (by kernel_rfl) ?_
  refine bindE hS (fun m14 hm14 hS => ?_)
  refine zlOp (d := some 19) (op := (.ixS 36 4 (.tmp 14) (.tmp 15))) (g := none) (v := (.r (.ptr 0 0 ((z12.2.1 + m14) * 4)))) (ups := []) (j := 6) rfl (by kernel_rfl) (by kernel_rfl) (ev_ixM (kk := .i64) (b := 0) (g := 0) (l := z12.2.1) (n := z12.2.2) (j := a4) (cs := e_GCell.cells z12.1) (by kernel_rfl) (by kernel_rfl) (by kernel_rfl) hm14) ?_
  refine bindE hS (fun z15 hz15 hS => ?_)
  refine bindE hS (fun z16 hz16 hS => ?_)
  refine zlOp (d := none) (op := (.store 4 (.tmp 19) (.tmp 18))) (g := none) (v := .un) (ups := [(0, ⟨0, some (.own 36 4 (e_GCell.cells (z12.1.set (z12.2.1 + m14) (GCell.mk a5 a6))))⟩)]) (j := 7) rfl (by kernel_rfl) (by kernel_rfl) (ev_storeM e_GCell (b := 0) (g := 0) (o := (z12.2.1 + m14) * 4) (e := 36) (k := 4) (m := (z12.2.1 + m14)) (fo := 0) (xs := z12.1) (z := z15) (z' := (GCell.mk a5 a6)) (by kernel_rfl) (new := ((.d (.int .i64 a5)) :: ((.d (.int .i64 a6.Flags)) :: ((.d (.int .i64 a6.Fore)) :: ((.d (.int .i64 a6.Back)) :: []))))) (ds := [.int .i64 a5, .int .i64 a6.Flags, .int .i64 a6.Fore, .int .i64 a6.Back]) (by kernel_rfl) (by kernel_rfl) (by kernel_rfl) rfl hz15 (by kernel_rfl) (by kernel_rfl) (by kernel_rfl)) ?_
  have ez16 := Option.some.inj hz16
  have lz16 : z12.1.length = z16.length := by rw [← ez16, List.length_set]
  rw [ez16]
  skip
  try rw [lz16]
  refine zlEnd (by kernel_rfl) ?_
  refine zkSeq ?_
  refine zrSeq ?_
  refine zrSeq ?_
  refine zrReg ?_
  refine zlRun (n := 1) (j := 1) rfl (by kernel_rfl) ?_
  refine bindE hS (fun z18 hz18 hS => ?_)
  refine zlOp (d := some 21) (op := (.call 20 [(.tmp 20)])) (g := none) (j := 2) rfl (by kernel_rfl) (by kernel_rfl) (ev_callA (by kernel_rfl) (f20_ok base (d - 1) (dpt hd rfl) a5 z18 hz18) (by kernel_rfl) (by kernel_rfl)) ?_
  refine zlBool (d := 22) (op := (.cmpI .eql (.tmp 21) (.const (.int .i64 2)))) (g := none) (j := 3) (decide (z18 = 2)) rfl (by kernel_rfl) (by kernel_rfl) (by kernel_rfl) (fun hc => ?_) (fun hc => ?_)
  · replace hS := cond_t hc hS
    refine zlEnd (by kernel_rfl) ?_
    refine zkSeq ?_
    refine zrCondT (by kernel_rfl) ?_
    refine zrReg ?_
    refine zlRun (n := 5) (j := 5) rfl (by kernel_rfl) ?_
    refine bindE hS (fun m19 hm19 hS => ?_)
    refine zlOp (d := some 28) (op := (.ixS 36 4 (.tmp 23) (.tmp 25))) (g := none) (v := (.r (.ptr 0 0 ((z12.2.1 + m19) * 4)))) (ups := []) (j := 6) rfl (by kernel_rfl) (by kernel_rfl) (ev_ixM (kk := .i64) (b := 0) (g := 0) (l := z12.2.1) (n := z12.2.2) (j := (IntKind.i64.wrap (a4 + 1))) (cs := e_GCell.cells z16) (by kernel_rfl) (by kernel_rfl) (by kernel_rfl) hm19) ?_
    refine bindE hS (fun z20 hz20 hS => ?_)
    refine bindE hS (fun z21 hz21 hS => ?_)
    refine zlOp (d := none) (op := (.store 4 (.tmp 28) (.tmp 27))) (g := none) (v := .un) (ups := [(0, ⟨0, some (.own 36 4 (e_GCell.cells (z16.set (z12.2.1 + m19) (GCell.mk 0 a6))))⟩)]) (j := 7) rfl (by kernel_rfl) (by kernel_rfl) (ev_storeM e_GCell (b := 0) (g := 0) (o := (z12.2.1 + m19) * 4) (e := 36) (k := 4) (m := (z12.2.1 + m19)) (fo := 0) (xs := z16) (z := z20) (z' := (GCell.mk 0 a6)) (by kernel_rfl) (new := ((.d (.int .i64 0)) :: ((.d (.int .i64 a6.Flags)) :: ((.d (.int .i64 a6.Fore)) :: ((.d (.int .i64 a6.Back)) :: []))))) (ds := [.int .i64 0, .int .i64 a6.Flags, .int .i64 a6.Fore, .int .i64 a6.Back]) (by kernel_rfl) (by kernel_rfl) (by kernel_rfl) rfl hz20 (by kernel_rfl) (by kernel_rfl) (by kernel_rfl)) ?_
    have ez21 := Option.some.inj hz21
    have lz21 : z16.length = z21.length := by rw [← ez21, List.length_set]
    rw [ez21]
    skip
    try rw [lz21]
    refine zlEnd (by kernel_rfl) ?_
    refine zkSeq ?_
    refine zrReg ?_
    refine zlRun (n := 1) (j := 1) rfl (by kernel_rfl) ?_
    refine bindE hS (fun z22 hz22 hS => ?_)
    refine bindE hS (fun z23 hz23 hS => ?_)
    refine zlOp (d := some 30) (op := (.callr 29 [(.tmp 29)])) (g := none) (j := 2) rfl (by kernel_rfl) (by kernel_rfl) (ev_callrXA (ids := [0]) (bs := [(.own 36 4 (e_GCell.cells z21))]) (by kernel_rfl) (by kernel_rfl) (by kernel_rfl) (by kernel_rfl) (f29_ok base (d - 1) (dpt hd rfl) z12.2.1 z12.2.2 z21 z22 hz22) (by kernel_rfl) (sm_own e_GCell (e1 := 36) (k1 := 4) (xs := z21) (ys := z22) (by kernel_rfl) hz23 sm_nil) (by kernel_rfl)) ?_
    have lz23 : z21.length = z22.length := (of_decide_eq_true (chk_t hz23)).symm
    skip
    try rw [lz23]
    refine zlEnd (by kernel_rfl) ?_
    refine zkNil ?_
    exact endQ hS hQ (fNormX (by kernel_rfl) (by kernel_rfl : finSt c23.fin _ = f23_fin z22) (by kernel_rfl) (f23_out z22))
  · replace hS := cond_f hc hS
    refine zlEnd (by kernel_rfl) ?_
    refine zkSeq ?_
    refine zrCondF (by kernel_rfl) ?_
    refine zrSkip ?_
    refine zkSeq ?_
    refine zrReg ?_
    refine zlRun (n := 1) (j := 1) rfl (by kernel_rfl) ?_
    refine bindE hS (fun z24 hz24 hS => ?_)
    refine bindE hS (fun z25 hz25 hS => ?_)
    refine zlOp (d := some 30) (op := (.callr 29 [(.tmp 29)])) (g := none) (j := 2) rfl (by kernel_rfl) (by kernel_rfl) (ev_callrXA (ids := [0]) (bs := [(.own 36 4 (e_GCell.cells z16))]) (by kernel_rfl) (by kernel_rfl) (by kernel_rfl) (by kernel_rfl) (f29_ok base (d - 1) (dpt hd rfl) z12.2.1 z12.2.2 z16 z24 hz24) (by kernel_rfl) (sm_own e_GCell (e1 := 36) (k1 := 4) (xs := z16) (ys := z24) (by kernel_rfl) hz25 sm_nil) (by kernel_rfl)) ?_
    have lz25 : z16.length = z24.length := (of_decide_eq_true (chk_t hz25)).symm
    skip
    try rw [lz25]
    refine zlEnd (by kernel_rfl) ?_
    refine zkNil ?_
    exact endQ hS hQ (fNormX (by kernel_rfl) (by kernel_rfl : finSt c23.fin _ = f23_fin z24) (by kernel_rfl) (f23_out z24))
/- farwriter/grid.Put -/
def f7_fin (p26 : Int) (p27 : Int) (p28 : List GCell) (p29 : Int) : St := ⟨(up (up (fun _ => .un) 11 (.d (.int .i64 p29))) 10 (.r (.ptr 88 0 0))), (up (up (hB fun _ => 0) 352 ⟨0, some (.own 36 4 (e_GCell.cells p28))⟩) 88 ⟨0, some (.box ((.d (.int .i64 p26)) :: ((.d (.int .i64 p27)) :: ((.r (.msl 352 0 0 p28.length)) :: []))))⟩)⟩
theorem f7_out (p26 : Int) (p27 : Int) (p28 : List GCell) (p29 : Int) : outR (f7_fin p26 p27 p28 p29) 0 c7.res = some ((.tup [(.agg ((.d (.int .i64 p26)) :: ((.d (.int .i64 p27)) :: ((.r (.own 0 36 4 p28.length (e_GCell.cells p28))) :: [])))), (.d (.int .i64 p29))]), []) := by
  exact out_of (ids := []) (ids' := [352]) (l := [(.agg ((.d (.int .i64 p26)) :: ((.d (.int .i64 p27)) :: ((.r (.msl 352 0 0 p28.length)) :: [])))), (.d (.int .i64 p29))]) (by kernel_rfl) (by kernel_rfl) (o_tup (o_cons (o_agg (o_cons rfl (o_cons rfl (o_cons (o_own e_GCell (e := 36) (k := 4) (xs := p28) (by kernel_rfl) rfl rfl rfl rfl) o_nil)))) (o_cons rfl o_nil)))
def f7_Q (r : Int × Int × (List GCell) × Int) (e : PX) (st : St) : Prop := DoneF c7 0 ((.tup [(.agg ((.d (.int .i64 r.1)) :: ((.d (.int .i64 r.2.1)) :: ((.r (.own 0 36 4 r.2.2.1.length (e_GCell.cells r.2.2.1))) :: [])))), (.d (.int .i64 r.2.2.2))]), []) e st
def f7_j1_J (a1 : GGrid) (a2 : Int) (a3 : Int) (a4 : Int) (a5 : GPen) (p59 : Int) (p60 : Int) (p61 : List GCell) : St := ⟨(up (up (up (up (up (up (fun _ => .un) 10 (.r (.ptr 88 0 0))) 9 (.r (.ptr 80 0 0))) 5 (.r (.ptr 48 0 0))) 3 (.d (.int .i64 a4))) 2 (.d (.int .i64 a3))) 1 (.d (.int .i64 a2))), (up (up (up (up (hB fun _ => 0) 88 ⟨0, some (.box ((.d (.int .i64 0)) :: ((.d (.int .i64 0)) :: ((.d (.sl ([] : List GCell).length (e_GCell.cells ([])))) :: []))))⟩) 80 ⟨0, some (.box ((.d (.int .i64 a5.Flags)) :: ((.d (.int .i64 a5.Fore)) :: ((.d (.int .i64 a5.Back)) :: []))))⟩) 352 ⟨0, some (.own 36 4 (e_GCell.cells p61))⟩) 48 ⟨0, some (.box ((.d (.int .i64 p59)) :: ((.d (.int .i64 p60)) :: ((.r (.msl 352 0 0 p61.length)) :: []))))⟩)⟩
noncomputable def f7_j1 (a1 : GGrid) (a2 : Int) (a3 : Int) (a4 : Int) (a5 : GPen) (p59 : Int) (p60 : Int) (p61 : List GCell) : Option (Int × Int × (List GCell) × Int) := ((f23 p59 p60 a2 a3 a4 a5 p61).bind fun z17 => ((chk (decide (z17.length = p61.length))).bind fun z18 => (some (p59, p60, z17, 0))))
theorem f7_j1_ok {base : Orc} {d : Nat} (hd : 6 ≤ d) (a1 : GGrid) (a2 : Int) (a3 : Int) (a4 : Int) (a5 : GPen) {r : Int × Int × (List GCell) × Int} {Q : PX → St → Prop} (hQ : ∀ e st', f7_Q r e st' → Q e st') (p59 : Int) (p60 : Int) (p61 : List GCell) (hS : f7_j1 a1 a2 a3 a4 a5 p59 p60 p61 = some r) {st : St} (he : keepSt [1, 2, 3, 5, 9, 10] [(48, .id 48), (352, .id 352), (80, .id 80), (88, .id 88)] [] st = f7_j1_J a1 a2 a3 a4 a5 p59 p60 p61) : ZR (lev codes base (d - 1)) Q c7_1 [] st := by
  refine zrKeep he ?_
  unfold f7_j1 at hS
  refine zrSeq ?_
  refine zrReg ?_
  refine zlRun (n := 5) (j := 5) rfl (by kernel_rfl) ?_
  refine bindE hS (fun z17 hz17 hS => ?_)
  refine bindE hS (fun z18 hz18 hS => ?_)
  refine zlOp (d := some 55) (op := (.callr 23 [(.tmp 50), (.tmp 51), (.tmp 52), (.tmp 53), (.tmp 54)])) (g := none) (j := 6) rfl (by kernel_rfl) (by kernel_rfl) (ev_callrXA (ids := [352]) (bs := [(.own 36 4 (e_GCell.cells p61))]) (by kernel_rfl) (by kernel_rfl) (by kernel_rfl) (by kernel_rfl) (f23_ok base (d - 1) (dpt hd rfl) p59 p60 a2 a3 a4 a5 p61 z17 hz17) (by kernel_rfl) (sm_own e_GCell (e1 := 36) (k1 := 4) (xs := p61) (ys := z17) (by kernel_rfl) hz18 sm_nil) (by kernel_rfl)) ?_
  have lz18 : p61.length = z17.length := (of_decide_eq_true (chk_t hz18)).symm
  try delta f7_j1_J
  try rw [lz18]
  refine zlEnd (by kernel_rfl) ?_
  refine zkSeq ?_
  refine zrSeq ?_
  refine zrReg ?_
  refine zlRun (n := 3) (j := 3) rfl (by kernel_rfl) ?_
  refine zlEnd (by kernel_rfl) ?_
  refine zkSeq ?_
  refine zrRet ?_
  refine zkNil ?_
  exact endQ hS hQ (fRet (by kernel_rfl) ((congrArg (fun s => outR s 0 c7.res) (by kernel_rfl : finSt c7.fin _ = f7_fin p59 p60 z17 0)).trans (f7_out p59 p60 z17 0)))
def f7_j0_J (a1 : GGrid) (a2 : Int) (a3 : Int) (a4 : Int) (a5 : GPen) (p50 : Int) (p51 : Int) (p52 : List GCell) (p53 : Int) : St := ⟨(up (up (up (up (up (up (up (fun _ => .un) 13 (.d (.int .i64 p53))) 10 (.r (.ptr 88 0 0))) 9 (.r (.ptr 80 0 0))) 5 (.r (.ptr 48 0 0))) 3 (.d (.int .i64 a4))) 2 (.d (.int .i64 a3))) 1 (.d (.int .i64 a2))), (up (up (up (up (hB fun _ => 0) 88 ⟨0, some (.box ((.d (.int .i64 0)) :: ((.d (.int .i64 0)) :: ((.d (.sl ([] : List GCell).length (e_GCell.cells ([])))) :: []))))⟩) 80 ⟨0, some (.box ((.d (.int .i64 a5.Flags)) :: ((.d (.int .i64 a5.Fore)) :: ((.d (.int .i64 a5.Back)) :: []))))⟩) 352 ⟨0, some (.own 36 4 (e_GCell.cells p52))⟩) 48 ⟨0, some (.box ((.d (.int .i64 p50)) :: ((.d (.int .i64 p51)) :: ((.r (.msl 352 0 0 p52.length)) :: []))))⟩)⟩
noncomputable def f7_j0 (a1 : GGrid) (a2 : Int) (a3 : Int) (a4 : Int) (a5 : GPen) (p50 : Int) (p51 : Int) (p52 : List GCell) (p53 : Int) : Option (Int × Int × (List GCell) × Int) := (bif (!decide (p53 = 0)) then (some (p50, p51, p52, p53)) else (f7_j1 a1 a2 a3 a4 a5 p50 p51 p52))
theorem f7_j0_ok {base : Orc} {d : Nat} (hd : 6 ≤ d) (a1 : GGrid) (a2 : Int) (a3 : Int) (a4 : Int) (a5 : GPen) {r : Int × Int × (List GCell) × Int} {Q : PX → St → Prop} (hQ : ∀ e st', f7_Q r e st' → Q e st') (p50 : Int) (p51 : Int) (p52 : List GCell) (p53 : Int) (hS : f7_j0 a1 a2 a3 a4 a5 p50 p51 p52 p53 = some r) {st : St} (he : keepSt [1, 2, 3, 5, 9, 10, 13] [(48, .id 48), (352, .id 352), (80, .id 80), (88, .id 88)] [.cell 88 2 0 0 1] st = f7_j0_J a1 a2 a3 a4 a5 p50 p51 p52 p53) : ZR (lev codes base (d - 1)) Q c7_2 [] st := by
  refine zrKeep he ?_
  unfold f7_j0 at hS
  refine zrSeq ?_
  refine zrSeq ?_
  refine zrReg ?_
  refine zlRun (n := 1) (j := 1) rfl (by kernel_rfl) ?_
  refine zlBool (d := 47) (op := (.cmpI .neq (.tmp 46) (.const (.int .i64 0)))) (g := none) (j := 2) (!decide (p53 = 0)) rfl (by kernel_rfl) (by kernel_rfl) (by kernel_rfl) (fun hc => ?_) (fun hc => ?_)
  · replace hS := cond_t hc hS
    refine zlEnd (by kernel_rfl) ?_
    refine zkSeq ?_
    refine zrCondT (by kernel_rfl) ?_
    refine zrSeq ?_
    refine zrReg ?_
    refine zlRun (n := 4) (j := 4) rfl (by kernel_rfl) ?_
    refine zlEnd (by kernel_rfl) ?_
    refine zkSeq ?_
    refine zrRet ?_
    refine zkSeqR ?_
    refine zkNil ?_
    exact endQ hS hQ (fRet (by kernel_rfl) ((congrArg (fun s => outR s 0 c7.res) (by kernel_rfl : finSt c7.fin _ = f7_fin p50 p51 p52 p53)).trans (f7_out p50 p51 p52 p53)))
  · replace hS := cond_f hc hS
    refine zlEnd (by kernel_rfl) ?_
    refine zkSeq ?_
    refine zrCondF (by kernel_rfl) ?_
    refine zrSkip ?_
    refine zkSeq ?_
    exact f7_j1_ok hd a1 a2 a3 a4 a5 hQ p50 p51 p52 hS (by kernel_rfl)
noncomputable def f7 (a1 : GGrid) (a2 : Int) (a3 : Int) (a4 : Int) (a5 : GPen) : Option (Int × Int × (List GCell) × Int) := ((f20 a4).bind fun z10 => (bif (decide (0 ≤ a2)) then (bif (decide (a2 < a1.High)) then (bif (decide (0 < z10)) then (bif (decide (0 ≤ a3)) then (bif (decide (a3 ≤ (IntKind.i64.wrap (a1.Wide - z10)))) then ((f22 a1 true a5).bind fun z19 => (f7_j0 a1 a2 a3 a4 a5 z19.1 z19.2.1 z19.2.2.1 z19.2.2.2)) else ((f22 a1 false a5).bind fun z20 => (f7_j0 a1 a2 a3 a4 a5 z20.1 z20.2.1 z20.2.2.1 z20.2.2.2))) else ((f22 a1 false a5).bind fun z21 => (f7_j0 a1 a2 a3 a4 a5 z21.1 z21.2.1 z21.2.2.1 z21.2.2.2))) else ((f22 a1 false a5).bind fun z22 => (f7_j0 a1 a2 a3 a4 a5 z22.1 z22.2.1 z22.2.2.1 z22.2.2.2))) else ((f22 a1 false a5).bind fun z23 => (f7_j0 a1 a2 a3 a4 a5 z23.1 z23.2.1 z23.2.2.1 z23.2.2.2))) else ((f22 a1 false a5).bind fun z24 => (f7_j0 a1 a2 a3 a4 a5 z24.1 z24.2.1 z24.2.2.1 z24.2.2.2))))
theorem f7_ok (base : Orc) (d : Nat) (hd : 6 ≤ d) (a1 : GGrid) (a2 : Int) (a3 : Int) (a4 : Int) (a5 : GPen) (r : Int × Int × (List GCell) × Int) (hS : f7 a1 a2 a3 a4 a5 = some r) : lev codes base d 7 [(.agg ((.d (.int .i64 a1.Wide)) :: ((.d (.int .i64 a1.High)) :: ((.d (.sl a1.Cells.length (e_GCell.cells a1.Cells))) :: [])))), (.d (.int .i64 a2)), (.d (.int .i64 a3)), (.d (.int .i64 a4)), (.agg ((.d (.int .i64 a5.Flags)) :: ((.d (.int .i64 a5.Fore)) :: ((.d (.int .i64 a5.Back)) :: []))))] [] = some ((.tup [(.agg ((.d (.int .i64 r.1)) :: ((.d (.int .i64 r.2.1)) :: ((.r (.own 0 36 4 r.2.2.1.length (e_GCell.cells r.2.2.1))) :: [])))), (.d (.int .i64 r.2.2.2))]), []) := by
  refine lev_go codes7 rfl rfl (Nat.le_trans (Nat.le_of_ble_eq_true rfl) hd) fun Q hQ => ?_
  unfold f7 at hS
  show ZR _ Q c7_b [] _
  replace hQ : ∀ e st', f7_Q r e st' → Q e st' := hQ
  refine zrSeq ?_
  refine zrReg ?_
  refine zlRun (n := 4) (j := 4) rfl (by kernel_rfl) ?_
  refine zlEnd (by kernel_rfl) ?_
  refine zkSeq ?_
  refine zrSeq ?_
  refine zrReg ?_
  refine zlRun (n := 1) (j := 1) rfl (by kernel_rfl) ?_
  refine bindE hS (fun z10 hz10 hS => ?_)
  refine zlOp (d := some 15) (op := (.call 20 [(.tmp 14)])) (g := none) (j := 2) rfl (by kernel_rfl) (by kernel_rfl) (ev_callA (by kernel_rfl) (f20_ok base (d - 1) (dpt hd rfl) a4 z10 hz10) (by kernel_rfl) (by kernel_rfl)) ?_
  refine zlRun (n := 1) (j := 3) rfl (by kernel_rfl) ?_
  refine zlEnd (by kernel_rfl) ?_
  refine zkSeq ?_
  refine zrSeq ?_
  refine zrReg ?_
  refine zlRun (n := 2) (j := 2) rfl (by kernel_rfl) ?_
  refine zlBool (d := 19) (op := (.cmpI .geq (.tmp 18) (.const (.int .i64 0)))) (g := none) (j := 3) (decide (0 ≤ a2)) rfl (by kernel_rfl) (by kernel_rfl) (by kernel_rfl) (fun hc => ?_) (fun hc => ?_)
  · replace hS := cond_t hc hS
    refine zlRun (n := 4) (j := 7) rfl (by kernel_rfl) ?_
    refine zlBool (d := 24) (op := (.cmpI .lss (.tmp 21) (.tmp 23))) (g := (some (20, true))) (j := 8) (decide (a2 < a1.High)) rfl (by kernel_rfl) (by kernel_rfl) (by kernel_rfl) (fun hc => ?_) (fun hc => ?_)
    · replace hS := cond_t hc hS
      refine zlRun (n := 3) (j := 11) rfl (by kernel_rfl) ?_
      refine zlBool (d := 28) (op := (.cmpI .gtr (.tmp 27) (.const (.int .i64 0)))) (g := (some (26, true))) (j := 12) (decide (0 < z10)) rfl (by kernel_rfl) (by kernel_rfl) (by kernel_rfl) (fun hc => ?_) (fun hc => ?_)
      · replace hS := cond_t hc hS
        refine zlRun (n := 3) (j := 15) rfl (by kernel_rfl) ?_
        refine zlBool (d := 32) (op := (.cmpI .geq (.tmp 31) (.const (.int .i64 0)))) (g := (some (30, true))) (j := 16) (decide (0 ≤ a3)) rfl (by kernel_rfl) (by kernel_rfl) (by kernel_rfl) (fun hc => ?_) (fun hc => ?_)
        · replace hS := cond_t hc hS
          refine zlRun (n := 7) (j := 23) rfl (by kernel_rfl) ?_
          refine zlBool (d := 40) (op := (.cmpI .leq (.tmp 35) (.tmp 39))) (g := (some (34, true))) (j := 24) (decide (a3 ≤ (IntKind.i64.wrap (a1.Wide - z10)))) rfl (by kernel_rfl) (by kernel_rfl) (by kernel_rfl) (fun hc => ?_) (fun hc => ?_)
          · replace hS := cond_t hc hS
            refine zlRun (n := 2) (j := 26) rfl (by kernel_rfl) ?_
            refine bindE hS (fun z19 hz19 hS => ?_)
            refine zlOp (d := some 43) (op := (.callf 22 [(.tmp 17), (.tmp 41), (.tmp 42)])) (g := none) (v := (.tup [(.agg ((.d (.int .i64 z19.1)) :: ((.d (.int .i64 z19.2.1)) :: ((.r (.msl 352 1 0 z19.2.2.1.length)) :: [])))), (.d (.int .i64 z19.2.2.2))])) (ups := [(352, ⟨1, some (.own 36 4 (e_GCell.cells z19.2.2.1))⟩)]) (j := 27) rfl (by kernel_rfl) (by kernel_rfl) (ev_callF (args := [(.agg ((.d (.int .i64 a1.Wide)) :: ((.d (.int .i64 a1.High)) :: ((.d (.sl a1.Cells.length (e_GCell.cells a1.Cells))) :: [])))), (.d (.bool true)), (.agg ((.d (.int .i64 a5.Flags)) :: ((.d (.int .i64 a5.Fore)) :: ((.d (.int .i64 a5.Back)) :: []))))]) (args' := [(.agg ((.d (.int .i64 a1.Wide)) :: ((.d (.int .i64 a1.High)) :: ((.d (.sl a1.Cells.length (e_GCell.cells a1.Cells))) :: [])))), (.d (.bool true)), (.agg ((.d (.int .i64 a5.Flags)) :: ((.d (.int .i64 a5.Fore)) :: ((.d (.int .i64 a5.Back)) :: []))))]) (l := [(.agg ((.d (.int .i64 a1.Wide)) :: ((.d (.int .i64 a1.High)) :: ((.d (.sl a1.Cells.length (e_GCell.cells a1.Cells))) :: [])))), (.d (.bool true)), (.agg ((.d (.int .i64 a5.Flags)) :: ((.d (.int .i64 a5.Fore)) :: ((.d (.int .i64 a5.Back)) :: []))))]) (refs := []) (r := (.tup [(.agg ((.d (.int .i64 z19.1)) :: ((.d (.int .i64 z19.2.1)) :: ((.r (.own 0 36 4 z19.2.2.1.length (e_GCell.cells z19.2.2.1))) :: [])))), (.d (.int .i64 z19.2.2.2))])) (v := (.tup [(.agg ((.d (.int .i64 z19.1)) :: ((.d (.int .i64 z19.2.1)) :: ((.r (.msl 352 1 0 z19.2.2.1.length)) :: [])))), (.d (.int .i64 z19.2.2.2))])) (ups' := [(352, ⟨1, some (.own 36 4 (e_GCell.cells z19.2.2.1))⟩)]) (by kernel_rfl) (by kernel_rfl) (by kernel_rfl) (fz_cons rfl (fz_cons rfl (fz_cons rfl fz_nil))) (by kernel_rfl) (f22_ok base (d - 1) (dpt hd rfl) a1 true a5 z19 hz19) (by kernel_rfl) (by kernel_rfl) (by kernel_rfl) (by kernel_rfl)) ?_
            refine zlRun (n := 5) (j := 32) rfl (by kernel_rfl) ?_
            refine zlEnd (by kernel_rfl) ?_
            refine zkSeq ?_
            exact f7_j0_ok hd a1 a2 a3 a4 a5 hQ z19.1 z19.2.1 z19.2.2.1 z19.2.2.2 hS (by kernel_rfl)
          · replace hS := cond_f hc hS
            refine zlRun (n := 2) (j := 26) rfl (by kernel_rfl) ?_
            refine bindE hS (fun z20 hz20 hS => ?_)
            refine zlOp (d := some 43) (op := (.callf 22 [(.tmp 17), (.tmp 41), (.tmp 42)])) (g := none) (v := (.tup [(.agg ((.d (.int .i64 z20.1)) :: ((.d (.int .i64 z20.2.1)) :: ((.r (.msl 352 1 0 z20.2.2.1.length)) :: [])))), (.d (.int .i64 z20.2.2.2))])) (ups := [(352, ⟨1, some (.own 36 4 (e_GCell.cells z20.2.2.1))⟩)]) (j := 27) rfl (by kernel_rfl) (by kernel_rfl) (ev_callF (args := [(.agg ((.d (.int .i64 a1.Wide)) :: ((.d (.int .i64 a1.High)) :: ((.d (.sl a1.Cells.length (e_GCell.cells a1.Cells))) :: [])))), (.d (.bool false)), (.agg ((.d (.int .i64 a5.Flags)) :: ((.d (.int .i64 a5.Fore)) :: ((.d (.int .i64 a5.Back)) :: []))))]) (args' := [(.agg ((.d (.int .i64 a1.Wide)) :: ((.d (.int .i64 a1.High)) :: ((.d (.sl a1.Cells.length (e_GCell.cells a1.Cells))) :: [])))), (.d (.bool false)), (.agg ((.d (.int .i64 a5.Flags)) :: ((.d (.int .i64 a5.Fore)) :: ((.d (.int .i64 a5.Back)) :: []))))]) (l := [(.agg ((.d (.int .i64 a1.Wide)) :: ((.d (.int .i64 a1.High)) :: ((.d (.sl a1.Cells.length (e_GCell.cells a1.Cells))) :: [])))), (.d (.bool false)), (.agg ((.d (.int .i64 a5.Flags)) :: ((.d (.int .i64 a5.Fore)) :: ((.d (.int .i64 a5.Back)) :: []))))]) (refs := []) (r := (.tup [(.agg ((.d (.int .i64 z20.1)) :: ((.d (.int .i64 z20.2.1)) :: ((.r (.own 0 36 4 z20.2.2.1.length (e_GCell.cells z20.2.2.1))) :: [])))), (.d (.int .i64 z20.2.2.2))])) (v := (.tup [(.agg ((.d (.int .i64 z20.1)) :: ((.d (.int .i64 z20.2.1)) :: ((.r (.msl 352 1 0 z20.2.2.1.length)) :: [])))), (.d (.int .i64 z20.2.2.2))])) (ups' := [(352, ⟨1, some (.own 36 4 (e_GCell.cells z20.2.2.1))⟩)]) (by kernel_rfl) (by kernel_rfl) (by kernel_rfl) (fz_cons rfl (fz_cons rfl (fz_cons rfl fz_nil))) (by kernel_rfl) (f22_ok base (d - 1) (dpt hd rfl) a1 false a5 z20 hz20) (by kernel_rfl) (by kernel_rfl) (by kernel_rfl) (by kernel_rfl)) ?_
            refine zlRun (n := 5) (j := 32) rfl (by kernel_rfl) ?_
            refine zlEnd (by kernel_rfl) ?_
            refine zkSeq ?_
            exact f7_j0_ok hd a1 a2 a3 a4 a5 hQ z20.1 z20.2.1 z20.2.2.1 z20.2.2.2 hS (by kernel_rfl)
        · replace hS := cond_f hc hS
          refine zlRun (n := 10) (j := 26) rfl (by kernel_rfl) ?_
          refine bindE hS (fun z21 hz21 hS => ?_)
          refine zlOp (d := some 43) (op := (.callf 22 [(.tmp 17), (.tmp 41), (.tmp 42)])) (g := none) (v := (.tup [(.agg ((.d (.int .i64 z21.1)) :: ((.d (.int .i64 z21.2.1)) :: ((.r (.msl 352 1 0 z21.2.2.1.length)) :: [])))), (.d (.int .i64 z21.2.2.2))])) (ups := [(352, ⟨1, some (.own 36 4 (e_GCell.cells z21.2.2.1))⟩)]) (j := 27) rfl (by kernel_rfl) (by kernel_rfl) (ev_callF (args := [(.agg ((.d (.int .i64 a1.Wide)) :: ((.d (.int .i64 a1.High)) :: ((.d (.sl a1.Cells.length (e_GCell.cells a1.Cells))) :: [])))), (.d (.bool false)), (.agg ((.d (.int .i64 a5.Flags)) :: ((.d (.int .i64 a5.Fore)) :: ((.d (.int .i64 a5.Back)) :: []))))]) (args' := [(.agg ((.d (.int .i64 a1.Wide)) :: ((.d (.int .i64 a1.High)) :: ((.d (.sl a1.Cells.length (e_GCell.cells a1.Cells))) :: [])))), (.d (.bool false)), (.agg ((.d (.int .i64 a5.Flags)) :: ((.d (.int .i64 a5.Fore)) :: ((.d (.int .i64 a5.Back)) :: []))))]) (l := [(.agg ((.d (.int .i64 a1.Wide)) :: ((.d (.int .i64 a1.High)) :: ((.d (.sl a1.Cells.length (e_GCell.cells a1.Cells))) :: [])))), (.d (.bool false)), (.agg ((.d (.int .i64 a5.Flags)) :: ((.d (.int .i64 a5.Fore)) :: ((.d (.int .i64 a5.Back)) :: []))))]) (refs := []) (r := (.tup [(.agg ((.d (.int .i64 z21.1)) :: ((.d (.int .i64 z21.2.1)) :: ((.r (.own 0 36 4 z21.2.2.1.length (e_GCell.cells z21.2.2.1))) :: [])))), (.d (.int .i64 z21.2.2.2))])) (v := (.tup [(.agg ((.d (.int .i64 z21.1)) :: ((.d (.int .i64 z21.2.1)) :: ((.r (.msl 352 1 0 z21.2.2.1.length)) :: [])))), (.d (.int .i64 z21.2.2.2))])) (ups' := [(352, ⟨1, some (.own 36 4 (e_GCell.cells z21.2.2.1))⟩)]) (by kernel_rfl) (by kernel_rfl) (by kernel_rfl) (fz_cons rfl (fz_cons rfl (fz_cons rfl fz_nil))) (by kernel_rfl) (f22_ok base (d - 1) (dpt hd rfl) a1 false a5 z21 hz21) (by kernel_rfl) (by kernel_rfl) (by kernel_rfl) (by kernel_rfl)) ?_
          refine zlRun (n := 5) (j := 32) rfl (by kernel_rfl) ?_
          refine zlEnd (by kernel_rfl) ?_
          refine zkSeq ?_
          exact f7_j0_ok hd a1 a2 a3 a4 a5 hQ z21.1 z21.2.1 z21.2.2.1 z21.2.2.2 hS (by kernel_rfl)
      · replace hS := cond_f hc hS
        refine zlRun (n := 14) (j := 26) rfl (by kernel_rfl) ?_
        refine bindE hS (fun z22 hz22 hS => ?_)
        refine zlOp (d := some 43) (op := (.callf 22 [(.tmp 17), (.tmp 41), (.tmp 42)])) (g := none) (v := (.tup [(.agg ((.d (.int .i64 z22.1)) :: ((.d (.int .i64 z22.2.1)) :: ((.r (.msl 352 1 0 z22.2.2.1.length)) :: [])))), (.d (.int .i64 z22.2.2.2))])) (ups := [(352, ⟨1, some (.own 36 4 (e_GCell.cells z22.2.2.1))⟩)]) (j := 27) rfl (by kernel_rfl) (by kernel_rfl) (ev_callF (args := [(.agg ((.d (.int .i64 a1.Wide)) :: ((.d (.int .i64 a1.High)) :: ((.d (.sl a1.Cells.length (e_GCell.cells a1.Cells))) :: [])))), (.d (.bool false)), (.agg ((.d (.int .i64 a5.Flags)) :: ((.d (.int .i64 a5.Fore)) :: ((.d (.int .i64 a5.Back)) :: []))))]) (args' := [(.agg ((.d (.int .i64 a1.Wide)) :: ((.d (.int .i64 a1.High)) :: ((.d (.sl a1.Cells.length (e_GCell.cells a1.Cells))) :: [])))), (.d (.bool false)), (.agg ((.d (.int .i64 a5.Flags)) :: ((.d (.int .i64 a5.Fore)) :: ((.d (.int .i64 a5.Back)) :: []))))]) (l := [(.agg ((.d (.int .i64 a1.Wide)) :: ((.d (.int .i64 a1.High)) :: ((.d (.sl a1.Cells.length (e_GCell.cells a1.Cells))) :: [])))), (.d (.bool false)), (.agg ((.d (.int .i64 a5.Flags)) :: ((.d (.int .i64 a5.Fore)) :: ((.d (.int .i64 a5.Back)) :: []))))]) (refs := []) (r := (.tup [(.agg ((.d (.int .i64 z22.1)) :: ((.d (.int .i64 z22.2.1)) :: ((.r (.own 0 36 4 z22.2.2.1.length (e_GCell.cells z22.2.2.1))) :: [])))), (.d (.int .i64 z22.2.2.2))])) (v := (.tup [(.agg ((.d (.int .i64 z22.1)) :: ((.d (.int .i64 z22.2.1)) :: ((.r (.msl 352 1 0 z22.2.2.1.length)) :: [])))), (.d (.int .i64 z22.2.2.2))])) (ups' := [(352, ⟨1, some (.own 36 4 (e_GCell.cells z22.2.2.1))⟩)]) (by kernel_rfl) (by kernel_rfl) (by kernel_rfl) (fz_cons rfl (fz_cons rfl (fz_cons rfl fz_nil))) (by kernel_rfl) (f22_ok base (d - 1) (dpt hd rfl) a1 false a5 z22 hz22) (by kernel_rfl) (by kernel_rfl) (by kernel_rfl) (by kernel_rfl)) ?_
        refine zlRun (n := 5) (j := 32) rfl (by kernel_rfl) ?_
        refine zlEnd (by kernel_rfl) ?_
        refine zkSeq ?_
        exact f7_j0_ok hd a1 a2 a3 a4 a5 hQ z22.1 z22.2.1 z22.2.2.1 z22.2.2.2 hS (by kernel_rfl)
    · replace hS := cond_f hc hS
      refine zlRun (n := 18) (j := 26) rfl (by kernel_rfl) ?_
      refine bindE hS (fun z23 hz23 hS => ?_)
      refine zlOp (d := some 43) (op := (.callf 22 [(.tmp 17), (.tmp 41), (.tmp 42)])) (g := none) (v := (.tup [(.agg ((.d (.int .i64 z23.1)) :: ((.d (.int .i64 z23.2.1)) :: ((.r (.msl 352 1 0 z23.2.2.1.length)) :: [])))), (.d (.int .i64 z23.2.2.2))])) (ups := [(352, ⟨1, some (.own 36 4 (e_GCell.cells z23.2.2.1))⟩)]) (j := 27) rfl (by kernel_rfl) (by kernel_rfl) (ev_callF (args := [(.agg ((.d (.int .i64 a1.Wide)) :: ((.d (.int .i64 a1.High)) :: ((.d (.sl a1.Cells.length (e_GCell.cells a1.Cells))) :: [])))), (.d (.bool false)), (.agg ((.d (.int .i64 a5.Flags)) :: ((.d (.int .i64 a5.Fore)) :: ((.d (.int .i64 a5.Back)) :: []))))]) (args' := [(.agg ((.d (.int .i64 a1.Wide)) :: ((.d (.int .i64 a1.High)) :: ((.d (.sl a1.Cells.length (e_GCell.cells a1.Cells))) :: [])))), (.d (.bool false)), (.agg ((.d (.int .i64 a5.Flags)) :: ((.d (.int .i64 a5.Fore)) :: ((.d (.int .i64 a5.Back)) :: []))))]) (l := [(.agg ((.d (.int .i64 a1.Wide)) :: ((.d (.int .i64 a1.High)) :: ((.d (.sl a1.Cells.length (e_GCell.cells a1.Cells))) :: [])))), (.d (.bool false)), (.agg ((.d (.int .i64 a5.Flags)) :: ((.d (.int .i64 a5.Fore)) :: ((.d (.int .i64 a5.Back)) :: []))))]) (refs := []) (r := (.tup [(.agg ((.d (.int .i64 z23.1)) :: ((.d (.int .i64 z23.2.1)) :: ((.r (.own 0 36 4 z23.2.2.1.length (e_GCell.cells z23.2.2.1))) :: [])))), (.d (.int .i64 z23.2.2.2))])) (v := (.tup [(.agg ((.d (.int .i64 z23.1)) :: ((.d (.int .i64 z23.2.1)) :: ((.r (.msl 352 1 0 z23.2.2.1.length)) :: [])))), (.d (.int .i64 z23.2.2.2))])) (ups' := [(352, ⟨1, some (.own 36 4 (e_GCell.cells z23.2.2.1))⟩)]) (by kernel_rfl) (by kernel_rfl) (by kernel_rfl) (fz_cons rfl (fz_cons rfl (fz_cons rfl fz_nil))) (by kernel_rfl) (f22_ok base (d - 1) (dpt hd rfl) a1 false a5 z23 hz23) (by kernel_rfl) (by kernel_rfl) (by kernel_rfl) (by kernel_rfl)) ?_
      refine zlRun (n := 5) (j := 32) rfl (by kernel_rfl) ?_
      refine zlEnd (by kernel_rfl) ?_
      refine zkSeq ?_
      exact f7_j0_ok hd a1 a2 a3 a4 a5 hQ z23.1 z23.2.1 z23.2.2.1 z23.2.2.2 hS (by kernel_rfl)
  · replace hS := cond_f hc hS
    refine zlRun (n := 23) (j := 26) rfl (by kernel_rfl) ?_
    refine bindE hS (fun z24 hz24 hS => ?_)
    refine zlOp (d := some 43) (op := (.callf 22 [(.tmp 17), (.tmp 41), (.tmp 42)])) (g := none) (v := (.tup [(.agg ((.d (.int .i64 z24.1)) :: ((.d (.int .i64 z24.2.1)) :: ((.r (.msl 352 1 0 z24.2.2.1.length)) :: [])))), (.d (.int .i64 z24.2.2.2))])) (ups := [(352, ⟨1, some (.own 36 4 (e_GCell.cells z24.2.2.1))⟩)]) (j := 27) rfl (by kernel_rfl) (by kernel_rfl) (ev_callF (args := [(.agg ((.d (.int .i64 a1.Wide)) :: ((.d (.int .i64 a1.High)) :: ((.d (.sl a1.Cells.length (e_GCell.cells a1.Cells))) :: [])))), (.d (.bool false)), (.agg ((.d (.int .i64 a5.Flags)) :: ((.d (.int .i64 a5.Fore)) :: ((.d (.int .i64 a5.Back)) :: []))))]) (args' := [(.agg ((.d (.int .i64 a1.Wide)) :: ((.d (.int .i64 a1.High)) :: ((.d (.sl a1.Cells.length (e_GCell.cells a1.Cells))) :: [])))), (.d (.bool false)), (.agg ((.d (.int .i64 a5.Flags)) :: ((.d (.int .i64 a5.Fore)) :: ((.d (.int .i64 a5.Back)) :: []))))]) (l := [(.agg ((.d (.int .i64 a1.Wide)) :: ((.d (.int .i64 a1.High)) :: ((.d (.sl a1.Cells.length (e_GCell.cells a1.Cells))) :: [])))), (.d (.bool false)), (.agg ((.d (.int .i64 a5.Flags)) :: ((.d (.int .i64 a5.Fore)) :: ((.d (.int .i64 a5.Back)) :: []))))]) (refs := []) (r := (.tup [(.agg ((.d (.int .i64 z24.1)) :: ((.d (.int .i64 z24.2.1)) :: ((.r (.own 0 36 4 z24.2.2.1.length (e_GCell.cells z24.2.2.1))) :: [])))), (.d (.int .i64 z24.2.2.2))])) (v := (.tup [(.agg ((.d (.int .i64 z24.1)) :: ((.d (.int .i64 z24.2.1)) :: ((.r (.msl 352 1 0 z24.2.2.1.length)) :: [])))), (.d (.int .i64 z24.2.2.2))])) (ups' := [(352, ⟨1, some (.own 36 4 (e_GCell.cells z24.2.2.1))⟩)]) (by kernel_rfl) (by kernel_rfl) (by kernel_rfl) (fz_cons rfl (fz_cons rfl (fz_cons rfl fz_nil))) (by kernel_rfl) (f22_ok base (d - 1) (dpt hd rfl) a1 false a5 z24 hz24) (by kernel_rfl) (by kernel_rfl) (by kernel_rfl) (by kernel_rfl)) ?_
    refine zlRun (n := 5) (j := 32) rfl (by kernel_rfl) ?_
    refine zlEnd (by kernel_rfl) ?_
    refine zkSeq ?_
    exact f7_j0_ok hd a1 a2 a3 a4 a5 hQ z24.1 z24.2.1 z24.2.2.1 z24.2.2.2 hS (by kernel_rfl)
end Go.Proofs.Ytjapcjeijpcpiaa.Pm
