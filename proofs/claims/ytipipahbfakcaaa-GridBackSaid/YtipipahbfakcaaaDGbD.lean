/- Typed functions, and that the codes are these. Printed by dec.py. -/
import Derived.Test.YtipipahbfakcaaaDGbC
namespace Go.Proofs.Ytipipahbfakcaaa.Pm
set_option maxRecDepth 1000000
set_option maxHeartbeats 20000000
set_option linter.unusedVariables false
/- farwriter/grid.size -/
def f37_fin (p2 : Int) : St := ⟨(up (fun _ => .un) 4 (.d (.int .i64 p2))), (hB fun _ => 0)⟩
theorem f37_out (p2 : Int) : outR (f37_fin p2) 0 c37.res = some ((.d (.int .i64 p2)), []) := by
  kernel_rfl
def f37_Q (r : Int) (e : PX) (st : St) : Prop := DoneF c37 0 ((.d (.int .i64 r)), []) e st
noncomputable def f37 (a1 : Int) (a2 : Int) : Option (Int) := (bif (decide (a1 < 1)) then (some 1) else (bif (decide (160 < a1)) then (some 1) else (bif (decide (a2 < 1)) then (some 1) else (bif (decide (60 < a2)) then (some 1) else (some 0)))))
theorem f37_ok (base : Orc) (d : Nat) (hd : 1 ≤ d) (a1 : Int) (a2 : Int) (r : Int) (hS : f37 a1 a2 = some r) : lev codes base d 37 [(.d (.int .i64 a1)), (.d (.int .i64 a2))] [] = some ((.d (.int .i64 r)), []) := by
  refine lev_go codes37 rfl rfl (Nat.le_trans (Nat.le_of_ble_eq_true rfl) hd) fun Q hQ => ?_
  unfold f37 at hS
  show ZR _ Q c37_b [] _
  replace hQ : ∀ e st', f37_Q r e st' → Q e st' := hQ
  refine zrSeq ?_
  refine zrReg ?_
  refine zlRun (n := 1) (j := 1) rfl (by kernel_rfl) ?_
  refine zlEnd (by kernel_rfl) ?_
  refine zkSeq ?_
  refine zrSeq ?_
  refine zrSeq ?_
  refine zrReg ?_
  refine zlRun (n := 1) (j := 1) rfl (by kernel_rfl) ?_
  refine zlBool (d := 6) (op := (.cmpI .lss (.tmp 5) (.const (.int .i64 1)))) (g := none) (j := 2) (decide (a1 < 1)) rfl (by kernel_rfl) (by kernel_rfl) (by kernel_rfl) (fun hc => ?_) (fun hc => ?_)
  · replace hS := cond_t hc hS
    refine zlRun (n := 12) (j := 14) rfl (by kernel_rfl) ?_
    refine zlEnd (by kernel_rfl) ?_
    refine zkSeq ?_
    refine zrCondT (by kernel_rfl) ?_
    refine zrSeq ?_
    refine zrReg ?_
    refine zlRun (n := 1) (j := 1) rfl (by kernel_rfl) ?_
    refine zlEnd (by kernel_rfl) ?_
    refine zkSeq ?_
    refine zrRet ?_
    refine zkSeqR ?_
    refine zkNil ?_
    exact endQ hS hQ (fRet (by kernel_rfl) ((congrArg (fun s => outR s 0 c37.res) (by kernel_rfl : finSt c37.fin _ = f37_fin 1)).trans (f37_out 1)))
  · replace hS := cond_f hc hS
    refine zlRun (n := 2) (j := 4) rfl (by kernel_rfl) ?_
    refine zlBool (d := 9) (op := (.cmpI .gtr (.tmp 8) (.const (.int .i64 160)))) (g := (some (7, false))) (j := 5) (decide (160 < a1)) rfl (by kernel_rfl) (by kernel_rfl) (by kernel_rfl) (fun hc => ?_) (fun hc => ?_)
    · replace hS := cond_t hc hS
      refine zlRun (n := 9) (j := 14) rfl (by kernel_rfl) ?_
      refine zlEnd (by kernel_rfl) ?_
      refine zkSeq ?_
      refine zrCondT (by kernel_rfl) ?_
      refine zrSeq ?_
      refine zrReg ?_
      refine zlRun (n := 1) (j := 1) rfl (by kernel_rfl) ?_
      refine zlEnd (by kernel_rfl) ?_
      refine zkSeq ?_
      refine zrRet ?_
      refine zkSeqR ?_
      refine zkNil ?_
      exact endQ hS hQ (fRet (by kernel_rfl) ((congrArg (fun s => outR s 0 c37.res) (by kernel_rfl : finSt c37.fin _ = f37_fin 1)).trans (f37_out 1)))
    · replace hS := cond_f hc hS
      refine zlRun (n := 3) (j := 8) rfl (by kernel_rfl) ?_
      refine zlBool (d := 13) (op := (.cmpI .lss (.tmp 12) (.const (.int .i64 1)))) (g := (some (11, false))) (j := 9) (decide (a2 < 1)) rfl (by kernel_rfl) (by kernel_rfl) (by kernel_rfl) (fun hc => ?_) (fun hc => ?_)
      · replace hS := cond_t hc hS
        refine zlRun (n := 5) (j := 14) rfl (by kernel_rfl) ?_
        refine zlEnd (by kernel_rfl) ?_
        refine zkSeq ?_
        refine zrCondT (by kernel_rfl) ?_
        refine zrSeq ?_
        refine zrReg ?_
        refine zlRun (n := 1) (j := 1) rfl (by kernel_rfl) ?_
        refine zlEnd (by kernel_rfl) ?_
        refine zkSeq ?_
        refine zrRet ?_
        refine zkSeqR ?_
        refine zkNil ?_
        exact endQ hS hQ (fRet (by kernel_rfl) ((congrArg (fun s => outR s 0 c37.res) (by kernel_rfl : finSt c37.fin _ = f37_fin 1)).trans (f37_out 1)))
      · replace hS := cond_f hc hS
        refine zlRun (n := 3) (j := 12) rfl (by kernel_rfl) ?_
        refine zlBool (d := 17) (op := (.cmpI .gtr (.tmp 16) (.const (.int .i64 60)))) (g := (some (15, false))) (j := 13) (decide (60 < a2)) rfl (by kernel_rfl) (by kernel_rfl) (by kernel_rfl) (fun hc => ?_) (fun hc => ?_)
        · replace hS := cond_t hc hS
          refine zlRun (n := 1) (j := 14) rfl (by kernel_rfl) ?_
          refine zlEnd (by kernel_rfl) ?_
          refine zkSeq ?_
          refine zrCondT (by kernel_rfl) ?_
          refine zrSeq ?_
          refine zrReg ?_
          refine zlRun (n := 1) (j := 1) rfl (by kernel_rfl) ?_
          refine zlEnd (by kernel_rfl) ?_
          refine zkSeq ?_
          refine zrRet ?_
          refine zkSeqR ?_
          refine zkNil ?_
          exact endQ hS hQ (fRet (by kernel_rfl) ((congrArg (fun s => outR s 0 c37.res) (by kernel_rfl : finSt c37.fin _ = f37_fin 1)).trans (f37_out 1)))
        · replace hS := cond_f hc hS
          refine zlRun (n := 1) (j := 14) rfl (by kernel_rfl) ?_
          refine zlEnd (by kernel_rfl) ?_
          refine zkSeq ?_
          refine zrCondF (by kernel_rfl) ?_
          refine zrSkip ?_
          refine zkSeq ?_
          refine zrSeq ?_
          refine zrReg ?_
          refine zlRun (n := 1) (j := 1) rfl (by kernel_rfl) ?_
          refine zlEnd (by kernel_rfl) ?_
          refine zkSeq ?_
          refine zrRet ?_
          refine zkNil ?_
          exact endQ hS hQ (fRet (by kernel_rfl) ((congrArg (fun s => outR s 0 c37.res) (by kernel_rfl : finSt c37.fin _ = f37_fin 0)).trans (f37_out 0)))
/- farwriter/pen.color -/
def f57_fin (p6 : Bool) : St := ⟨(up (fun _ => .un) 2 (.d (.bool p6))), (hB fun _ => 0)⟩
theorem f57_out (p6 : Bool) : outR (f57_fin p6) 0 c57.res = some ((.d (.bool p6)), []) := by
  kernel_rfl
def f57_Q (r : Bool) (e : PX) (st : St) : Prop := DoneF c57 0 ((.d (.bool r)), []) e st
noncomputable def f57 (a1 : Int) : Option (Bool) := (bif (decide (0 ≤ a1)) then (bif (decide (a1 ≤ 256)) then (some true) else (bif (decide (16777216 ≤ a1)) then (bif (decide (a1 < 33554432)) then (some true) else (some false)) else (some false))) else (bif (decide (16777216 ≤ a1)) then (bif (decide (a1 < 33554432)) then (some true) else (some false)) else (some false)))
theorem f57_ok (base : Orc) (d : Nat) (hd : 1 ≤ d) (a1 : Int) (r : Bool) (hS : f57 a1 = some r) : lev codes base d 57 [(.d (.int .i64 a1))] [] = some ((.d (.bool r)), []) := by
  refine lev_go codes57 rfl rfl (Nat.le_trans (Nat.le_of_ble_eq_true rfl) hd) fun Q hQ => ?_
  unfold f57 at hS
  show ZR _ Q c57_b [] _
  replace hQ : ∀ e st', f57_Q r e st' → Q e st' := hQ
  refine zrSeq ?_
  refine zrReg ?_
  refine zlRun (n := 1) (j := 1) rfl (by kernel_rfl) ?_
  refine zlEnd (by kernel_rfl) ?_
  refine zkSeq ?_
  refine zrSeq ?_
  refine zrReg ?_
  refine zlRun (n := 1) (j := 1) rfl (by kernel_rfl) ?_
  refine zlBool (d := 4) (op := (.cmpI .geq (.tmp 3) (.const (.int .i64 0)))) (g := none) (j := 2) (decide (0 ≤ a1)) rfl (by kernel_rfl) (by kernel_rfl) (by kernel_rfl) (fun hc => ?_) (fun hc => ?_)
  · replace hS := cond_t hc hS
    refine zlRun (n := 2) (j := 4) rfl (by kernel_rfl) ?_
    refine zlBool (d := 7) (op := (.cmpI .leq (.tmp 6) (.const (.int .i64 256)))) (g := (some (5, true))) (j := 5) (decide (a1 ≤ 256)) rfl (by kernel_rfl) (by kernel_rfl) (by kernel_rfl) (fun hc => ?_) (fun hc => ?_)
    · replace hS := cond_t hc hS
      refine zlRun (n := 10) (j := 15) rfl (by kernel_rfl) ?_
      refine zlEnd (by kernel_rfl) ?_
      refine zkSeq ?_
      refine zrRet ?_
      refine zkNil ?_
      exact endQ hS hQ (fRet (by kernel_rfl) ((congrArg (fun s => outR s 0 c57.res) (by kernel_rfl : finSt c57.fin _ = f57_fin true)).trans (f57_out true)))
    · replace hS := cond_f hc hS
      refine zlRun (n := 3) (j := 8) rfl (by kernel_rfl) ?_
      refine zlBool (d := 11) (op := (.cmpI .geq (.tmp 10) (.const (.int .i64 16777216)))) (g := (some (9, false))) (j := 9) (decide (16777216 ≤ a1)) rfl (by kernel_rfl) (by kernel_rfl) (by kernel_rfl) (fun hc => ?_) (fun hc => ?_)
      · replace hS := cond_t hc hS
        refine zlRun (n := 2) (j := 11) rfl (by kernel_rfl) ?_
        refine zlBool (d := 14) (op := (.cmpI .lss (.tmp 13) (.const (.int .i64 33554432)))) (g := (some (12, true))) (j := 12) (decide (a1 < 33554432)) rfl (by kernel_rfl) (by kernel_rfl) (by kernel_rfl) (fun hc => ?_) (fun hc => ?_)
        · replace hS := cond_t hc hS
          refine zlRun (n := 3) (j := 15) rfl (by kernel_rfl) ?_
          refine zlEnd (by kernel_rfl) ?_
          refine zkSeq ?_
          refine zrRet ?_
          refine zkNil ?_
          exact endQ hS hQ (fRet (by kernel_rfl) ((congrArg (fun s => outR s 0 c57.res) (by kernel_rfl : finSt c57.fin _ = f57_fin true)).trans (f57_out true)))
        · replace hS := cond_f hc hS
          refine zlRun (n := 3) (j := 15) rfl (by kernel_rfl) ?_
          refine zlEnd (by kernel_rfl) ?_
          refine zkSeq ?_
          refine zrRet ?_
          refine zkNil ?_
          exact endQ hS hQ (fRet (by kernel_rfl) ((congrArg (fun s => outR s 0 c57.res) (by kernel_rfl : finSt c57.fin _ = f57_fin false)).trans (f57_out false)))
      · replace hS := cond_f hc hS
        refine zlRun (n := 6) (j := 15) rfl (by kernel_rfl) ?_
        refine zlEnd (by kernel_rfl) ?_
        refine zkSeq ?_
        refine zrRet ?_
        refine zkNil ?_
        exact endQ hS hQ (fRet (by kernel_rfl) ((congrArg (fun s => outR s 0 c57.res) (by kernel_rfl : finSt c57.fin _ = f57_fin false)).trans (f57_out false)))
  · replace hS := cond_f hc hS
    refine zlRun (n := 6) (j := 8) rfl (by kernel_rfl) ?_
    refine zlBool (d := 11) (op := (.cmpI .geq (.tmp 10) (.const (.int .i64 16777216)))) (g := (some (9, false))) (j := 9) (decide (16777216 ≤ a1)) rfl (by kernel_rfl) (by kernel_rfl) (by kernel_rfl) (fun hc => ?_) (fun hc => ?_)
    · replace hS := cond_t hc hS
      refine zlRun (n := 2) (j := 11) rfl (by kernel_rfl) ?_
      refine zlBool (d := 14) (op := (.cmpI .lss (.tmp 13) (.const (.int .i64 33554432)))) (g := (some (12, true))) (j := 12) (decide (a1 < 33554432)) rfl (by kernel_rfl) (by kernel_rfl) (by kernel_rfl) (fun hc => ?_) (fun hc => ?_)
      · replace hS := cond_t hc hS
        refine zlRun (n := 3) (j := 15) rfl (by kernel_rfl) ?_
        refine zlEnd (by kernel_rfl) ?_
        refine zkSeq ?_
        refine zrRet ?_
        refine zkNil ?_
        exact endQ hS hQ (fRet (by kernel_rfl) ((congrArg (fun s => outR s 0 c57.res) (by kernel_rfl : finSt c57.fin _ = f57_fin true)).trans (f57_out true)))
      · replace hS := cond_f hc hS
        refine zlRun (n := 3) (j := 15) rfl (by kernel_rfl) ?_
        refine zlEnd (by kernel_rfl) ?_
        refine zkSeq ?_
        refine zrRet ?_
        refine zkNil ?_
        exact endQ hS hQ (fRet (by kernel_rfl) ((congrArg (fun s => outR s 0 c57.res) (by kernel_rfl : finSt c57.fin _ = f57_fin false)).trans (f57_out false)))
    · replace hS := cond_f hc hS
      refine zlRun (n := 6) (j := 15) rfl (by kernel_rfl) ?_
      refine zlEnd (by kernel_rfl) ?_
      refine zkSeq ?_
      refine zrRet ?_
      refine zkNil ?_
      exact endQ hS hQ (fRet (by kernel_rfl) ((congrArg (fun s => outR s 0 c57.res) (by kernel_rfl : finSt c57.fin _ = f57_fin false)).trans (f57_out false)))
/- farwriter/pen.Check -/
def f38_fin (p2 : Int) : St := ⟨(up (fun _ => .un) 2 (.d (.int .i64 p2))), (hB fun _ => 0)⟩
theorem f38_out (p2 : Int) : outR (f38_fin p2) 0 c38.res = some ((.d (.int .i64 p2)), []) := by
  kernel_rfl
def f38_Q (r : Int) (e : PX) (st : St) : Prop := DoneF c38 0 ((.d (.int .i64 r)), []) e st
noncomputable def f38 (a1 : GPen) : Option (Int) := (bif (decide (a1.Flags < 0)) then (some 4) else (bif (decide (255 < a1.Flags)) then (some 4) else ((f57 a1.Fore).bind fun z3 => (bif (!z3) then (some 4) else ((f57 a1.Back).bind fun z4 => (bif (!z4) then (some 4) else (some 0)))))))
theorem f38_ok (base : Orc) (d : Nat) (hd : 2 ≤ d) (a1 : GPen) (r : Int) (hS : f38 a1 = some r) : lev codes base d 38 [(.agg ((.d (.int .i64 a1.Flags)) :: ((.d (.int .i64 a1.Fore)) :: ((.d (.int .i64 a1.Back)) :: []))))] [] = some ((.d (.int .i64 r)), []) := by
  refine lev_go codes38 rfl rfl (Nat.le_trans (Nat.le_of_ble_eq_true rfl) hd) fun Q hQ => ?_
  unfold f38 at hS
  show ZR _ Q c38_b [] _
  replace hQ : ∀ e st', f38_Q r e st' → Q e st' := hQ
  refine zrSeq ?_
  refine zrReg ?_
  refine zlRun (n := 2) (j := 2) rfl (by kernel_rfl) ?_
  refine zlEnd (by kernel_rfl) ?_
  refine zkSeq ?_
  refine zrSeq ?_
  refine zrSeq ?_
  refine zrReg ?_
  refine zlRun (n := 2) (j := 2) rfl (by kernel_rfl) ?_
  refine zlBool (d := 5) (op := (.cmpI .lss (.tmp 4) (.const (.int .i64 0)))) (g := none) (j := 3) (decide (a1.Flags < 0)) rfl (by kernel_rfl) (by kernel_rfl) (by kernel_rfl) (fun hc => ?_) (fun hc => ?_)
  · replace hS := cond_t hc hS
    refine zlRun (n := 17) (j := 20) rfl (by kernel_rfl) ?_
    refine zlEnd (by kernel_rfl) ?_
    refine zkSeq ?_
    refine zrCondT (by kernel_rfl) ?_
    refine zrSeq ?_
    refine zrReg ?_
    refine zlRun (n := 1) (j := 1) rfl (by kernel_rfl) ?_
    refine zlEnd (by kernel_rfl) ?_
    refine zkSeq ?_
    refine zrRet ?_
    refine zkSeqR ?_
    refine zkNil ?_
    exact endQ hS hQ (fRet (by kernel_rfl) ((congrArg (fun s => outR s 0 c38.res) (by kernel_rfl : finSt c38.fin _ = f38_fin 4)).trans (f38_out 4)))
  · replace hS := cond_f hc hS
    refine zlRun (n := 3) (j := 6) rfl (by kernel_rfl) ?_
    refine zlBool (d := 9) (op := (.cmpI .gtr (.tmp 8) (.const (.int .i64 255)))) (g := (some (6, false))) (j := 7) (decide (255 < a1.Flags)) rfl (by kernel_rfl) (by kernel_rfl) (by kernel_rfl) (fun hc => ?_) (fun hc => ?_)
    · replace hS := cond_t hc hS
      refine zlRun (n := 13) (j := 20) rfl (by kernel_rfl) ?_
      refine zlEnd (by kernel_rfl) ?_
      refine zkSeq ?_
      refine zrCondT (by kernel_rfl) ?_
      refine zrSeq ?_
      refine zrReg ?_
      refine zlRun (n := 1) (j := 1) rfl (by kernel_rfl) ?_
      refine zlEnd (by kernel_rfl) ?_
      refine zkSeq ?_
      refine zrRet ?_
      refine zkSeqR ?_
      refine zkNil ?_
      exact endQ hS hQ (fRet (by kernel_rfl) ((congrArg (fun s => outR s 0 c38.res) (by kernel_rfl : finSt c38.fin _ = f38_fin 4)).trans (f38_out 4)))
    · replace hS := cond_f hc hS
      refine zlRun (n := 4) (j := 11) rfl (by kernel_rfl) ?_
      refine bindE hS (fun z3 hz3 hS => ?_)
      refine zlOp (d := some 14) (op := (.call 57 [(.tmp 13)])) (g := (some (11, false))) (v := (.d (.bool z3))) (ups := []) (j := 12) rfl (by kernel_rfl) (by kernel_rfl) (ev_call (args := [(.d (.int .i64 a1.Fore))]) (l := [(.d (.int .i64 a1.Fore))]) (r := (.d (.bool z3))) (by kernel_rfl) (by kernel_rfl) (f57_ok base (d - 1) (dpt hd rfl) a1.Fore z3 hz3) (by kernel_rfl) (by kernel_rfl) (by kernel_rfl)) ?_
      refine zlRun (n := 3) (j := 15) rfl (by kernel_rfl) ?_
      refine zlSplit 17 (!z3) (by kernel_rfl) (fun hc => ?_) (fun hc => ?_)
      · replace hS := cond_t hc hS
        refine zlRun (n := 5) (j := 20) rfl (by kernel_rfl) ?_
        refine zlEnd (by kernel_rfl) ?_
        refine zkSeq ?_
        refine zrCondT (by kernel_rfl) ?_
        refine zrSeq ?_
        refine zrReg ?_
        refine zlRun (n := 1) (j := 1) rfl (by kernel_rfl) ?_
        refine zlEnd (by kernel_rfl) ?_
        refine zkSeq ?_
        refine zrRet ?_
        refine zkSeqR ?_
        refine zkNil ?_
        exact endQ hS hQ (fRet (by kernel_rfl) ((congrArg (fun s => outR s 0 c38.res) (by kernel_rfl : finSt c38.fin _ = f38_fin 4)).trans (f38_out 4)))
      · replace hS := cond_f hc hS
        refine zlRun (n := 2) (j := 17) rfl (by kernel_rfl) ?_
        refine bindE hS (fun z4 hz4 hS => ?_)
        refine zlOp (d := some 20) (op := (.call 57 [(.tmp 19)])) (g := (some (17, false))) (v := (.d (.bool z4))) (ups := []) (j := 18) rfl (by kernel_rfl) (by kernel_rfl) (ev_call (args := [(.d (.int .i64 a1.Back))]) (l := [(.d (.int .i64 a1.Back))]) (r := (.d (.bool z4))) (by kernel_rfl) (by kernel_rfl) (f57_ok base (d - 1) (dpt hd rfl) a1.Back z4 hz4) (by kernel_rfl) (by kernel_rfl) (by kernel_rfl)) ?_
        refine zlRun (n := 2) (j := 20) rfl (by kernel_rfl) ?_
        refine zlEnd (by kernel_rfl) ?_
        refine zkSeq ?_
        refine zrSplit 22 (!z4) (by kernel_rfl) (fun hc => ?_) (fun hc => ?_)
        · replace hS := cond_t hc hS
          refine zrCondT (by kernel_rfl) ?_
          refine zrSeq ?_
          refine zrReg ?_
          refine zlRun (n := 1) (j := 1) rfl (by kernel_rfl) ?_
          refine zlEnd (by kernel_rfl) ?_
          refine zkSeq ?_
          refine zrRet ?_
          refine zkSeqR ?_
          refine zkNil ?_
          exact endQ hS hQ (fRet (by kernel_rfl) ((congrArg (fun s => outR s 0 c38.res) (by kernel_rfl : finSt c38.fin _ = f38_fin 4)).trans (f38_out 4)))
        · replace hS := cond_f hc hS
          refine zrCondF (by kernel_rfl) ?_
          refine zrSkip ?_
          refine zkSeq ?_
          refine zrSeq ?_
          refine zrReg ?_
          refine zlRun (n := 1) (j := 1) rfl (by kernel_rfl) ?_
          refine zlEnd (by kernel_rfl) ?_
          refine zkSeq ?_
          refine zrRet ?_
          refine zkNil ?_
          exact endQ hS hQ (fRet (by kernel_rfl) ((congrArg (fun s => outR s 0 c38.res) (by kernel_rfl : finSt c38.fin _ = f38_fin 0)).trans (f38_out 0)))
/- farwriter/grid.Blank -/
def f54_fin (p1 : GCell) : St := ⟨(up (fun _ => .un) 2 (.r (.ptr 24 0 0))), (up (hB fun _ => 0) 24 ⟨0, some (.box ((.d (.int .i64 p1.Rune)) :: ((.d (.int .i64 p1.Pen.Flags)) :: ((.d (.int .i64 p1.Pen.Fore)) :: ((.d (.int .i64 p1.Pen.Back)) :: [])))))⟩)⟩
theorem f54_out (p1 : GCell) : outR (f54_fin p1) 0 c54.res = some ((.agg ((.d (.int .i64 p1.Rune)) :: ((.d (.int .i64 p1.Pen.Flags)) :: ((.d (.int .i64 p1.Pen.Fore)) :: ((.d (.int .i64 p1.Pen.Back)) :: []))))), []) := by
  kernel_rfl
def f54_Q (r : GCell) (e : PX) (st : St) : Prop := DoneF c54 0 ((.agg ((.d (.int .i64 r.Rune)) :: ((.d (.int .i64 r.Pen.Flags)) :: ((.d (.int .i64 r.Pen.Fore)) :: ((.d (.int .i64 r.Pen.Back)) :: []))))), []) e st
noncomputable def f54 (a1 : GPen) : Option (GCell) := (some (GCell.mk 32 a1))
theorem f54_ok (base : Orc) (d : Nat) (hd : 1 ≤ d) (a1 : GPen) (r : GCell) (hS : f54 a1 = some r) : lev codes base d 54 [(.agg ((.d (.int .i64 a1.Flags)) :: ((.d (.int .i64 a1.Fore)) :: ((.d (.int .i64 a1.Back)) :: []))))] [] = some ((.agg ((.d (.int .i64 r.Rune)) :: ((.d (.int .i64 r.Pen.Flags)) :: ((.d (.int .i64 r.Pen.Fore)) :: ((.d (.int .i64 r.Pen.Back)) :: []))))), []) := by
  refine lev_go codes54 rfl rfl (Nat.le_trans (Nat.le_of_ble_eq_true rfl) hd) fun Q hQ => ?_
  unfold f54 at hS
  show ZR _ Q c54_b [] _
  replace hQ : ∀ e st', f54_Q r e st' → Q e st' := hQ
  refine zrSeq ?_
  refine zrReg ?_
  refine zlRun (n := 2) (j := 2) rfl (by kernel_rfl) ?_
  refine zlEnd (by kernel_rfl) ?_
  refine zkSeq ?_
  refine zrSeq ?_
  refine zrReg ?_
  refine zlRun (n := 3) (j := 3) rfl (by kernel_rfl) ?_
  refine zlEnd (by kernel_rfl) ?_
  refine zkSeq ?_
  refine zrRet ?_
  refine zkNil ?_
  exact endQ hS hQ (fRet (by kernel_rfl) ((congrArg (fun s => outR s 0 c54.res) (by kernel_rfl : finSt c54.fin _ = f54_fin (GCell.mk 32 a1))).trans (f54_out (GCell.mk 32 a1))))
/- math/bits.Mul64 -/
def f56_fin (p1 : Int) (p2 : Int) : St := ⟨(up (up (fun _ => .un) 5 (.d (.int .u64 p2))) 4 (.d (.int .u64 p1))), (hB fun _ => 0)⟩
theorem f56_out (p1 : Int) (p2 : Int) : outR (f56_fin p1 p2) 0 c56.res = some ((.tup [(.d (.int .u64 p1)), (.d (.int .u64 p2))]), []) := by
  kernel_rfl
def f56_Q (r : Int × Int) (e : PX) (st : St) : Prop := DoneF c56 0 ((.tup [(.d (.int .u64 r.1)), (.d (.int .u64 r.2))]), []) e st
noncomputable def f56 (a1 : Int) (a2 : Int) : Option (Int × Int) := (some ((IntKind.u64.wrap ((IntKind.u64.wrap ((IntKind.u64.wrap ((Int.fdiv a1 (2 ^ 32)) * (Int.fdiv a2 (2 ^ 32)))) + (Int.fdiv (IntKind.u64.wrap ((IntKind.u64.wrap ((Int.fdiv a1 (2 ^ 32)) * (bitI .and .u64 a2 4294967295))) + (Int.fdiv (IntKind.u64.wrap ((bitI .and .u64 a1 4294967295) * (bitI .and .u64 a2 4294967295))) (2 ^ 32)))) (2 ^ 32)))) + (Int.fdiv (IntKind.u64.wrap ((bitI .and .u64 (IntKind.u64.wrap ((IntKind.u64.wrap ((Int.fdiv a1 (2 ^ 32)) * (bitI .and .u64 a2 4294967295))) + (Int.fdiv (IntKind.u64.wrap ((bitI .and .u64 a1 4294967295) * (bitI .and .u64 a2 4294967295))) (2 ^ 32)))) 4294967295) + (IntKind.u64.wrap ((bitI .and .u64 a1 4294967295) * (Int.fdiv a2 (2 ^ 32)))))) (2 ^ 32)))), (IntKind.u64.wrap (a1 * a2))))
theorem f56_ok (base : Orc) (d : Nat) (hd : 1 ≤ d) (a1 : Int) (a2 : Int) (r : Int × Int) (hS : f56 a1 a2 = some r) : lev codes base d 56 [(.d (.int .u64 a1)), (.d (.int .u64 a2))] [] = some ((.tup [(.d (.int .u64 r.1)), (.d (.int .u64 r.2))]), []) := by
  refine lev_go codes56 rfl rfl (Nat.le_trans (Nat.le_of_ble_eq_true rfl) hd) fun Q hQ => ?_
  unfold f56 at hS
  show ZR _ Q c56_b [] _
  replace hQ : ∀ e st', f56_Q r e st' → Q e st' := hQ
  refine zrSeq ?_
  refine zrReg ?_
  refine zlRun (n := 2) (j := 2) rfl (by kernel_rfl) ?_
  refine zlEnd (by kernel_rfl) ?_
  refine zkSeq ?_
  refine zrSeq ?_
  refine zrReg ?_
  refine zlRun (n := 3) (j := 3) rfl (by kernel_rfl) ?_
  refine zlEnd (by kernel_rfl) ?_
  refine zkSeq ?_
  refine zrSeq ?_
  refine zrReg ?_
  refine zlRun (n := 3) (j := 3) rfl (by kernel_rfl) ?_
  refine zlEnd (by kernel_rfl) ?_
  refine zkSeq ?_
  refine zrSeq ?_
  refine zrReg ?_
  refine zlRun (n := 3) (j := 3) rfl (by kernel_rfl) ?_
  refine zlEnd (by kernel_rfl) ?_
  refine zkSeq ?_
  refine zrSeq ?_
  refine zrReg ?_
  refine zlRun (n := 3) (j := 3) rfl (by kernel_rfl) ?_
  refine zlEnd (by kernel_rfl) ?_
  refine zkSeq ?_
  refine zrSeq ?_
  refine zrReg ?_
  refine zlRun (n := 4) (j := 4) rfl (by kernel_rfl) ?_
  refine zlEnd (by kernel_rfl) ?_
  refine zkSeq ?_
  refine zrSeq ?_
  refine zrReg ?_
  refine zlRun (n := 7) (j := 7) rfl (by kernel_rfl) ?_
  refine zlEnd (by kernel_rfl) ?_
  refine zkSeq ?_
  refine zrSeq ?_
  refine zrReg ?_
  refine zlRun (n := 3) (j := 3) rfl (by kernel_rfl) ?_
  refine zlEnd (by kernel_rfl) ?_
  refine zkSeq ?_
  refine zrSeq ?_
  refine zrReg ?_
  refine zlRun (n := 3) (j := 3) rfl (by kernel_rfl) ?_
  refine zlEnd (by kernel_rfl) ?_
  refine zkSeq ?_
  refine zrSeq ?_
  refine zrReg ?_
  refine zlRun (n := 6) (j := 6) rfl (by kernel_rfl) ?_
  refine zlEnd (by kernel_rfl) ?_
  refine zkSeq ?_
  refine zrSeq ?_
  refine zrReg ?_
  refine zlRun (n := 9) (j := 9) rfl (by kernel_rfl) ?_
  refine zlEnd (by kernel_rfl) ?_
  refine zkSeq ?_
  refine zrSeq ?_
  refine zrReg ?_
  refine zlRun (n := 4) (j := 4) rfl (by kernel_rfl) ?_
  refine zlEnd (by kernel_rfl) ?_
  refine zkSeq ?_
  refine zrRet ?_
  refine zkNil ?_
  exact endQ hS hQ (fRet (by kernel_rfl) ((congrArg (fun s => outR s 0 c56.res) (by kernel_rfl : finSt c56.fin _ = f56_fin (IntKind.u64.wrap ((IntKind.u64.wrap ((IntKind.u64.wrap ((Int.fdiv a1 (2 ^ 32)) * (Int.fdiv a2 (2 ^ 32)))) + (Int.fdiv (IntKind.u64.wrap ((IntKind.u64.wrap ((Int.fdiv a1 (2 ^ 32)) * (bitI .and .u64 a2 4294967295))) + (Int.fdiv (IntKind.u64.wrap ((bitI .and .u64 a1 4294967295) * (bitI .and .u64 a2 4294967295))) (2 ^ 32)))) (2 ^ 32)))) + (Int.fdiv (IntKind.u64.wrap ((bitI .and .u64 (IntKind.u64.wrap ((IntKind.u64.wrap ((Int.fdiv a1 (2 ^ 32)) * (bitI .and .u64 a2 4294967295))) + (Int.fdiv (IntKind.u64.wrap ((bitI .and .u64 a1 4294967295) * (bitI .and .u64 a2 4294967295))) (2 ^ 32)))) 4294967295) + (IntKind.u64.wrap ((bitI .and .u64 a1 4294967295) * (Int.fdiv a2 (2 ^ 32)))))) (2 ^ 32)))) (IntKind.u64.wrap (a1 * a2)))).trans (f56_out (IntKind.u64.wrap ((IntKind.u64.wrap ((IntKind.u64.wrap ((Int.fdiv a1 (2 ^ 32)) * (Int.fdiv a2 (2 ^ 32)))) + (Int.fdiv (IntKind.u64.wrap ((IntKind.u64.wrap ((Int.fdiv a1 (2 ^ 32)) * (bitI .and .u64 a2 4294967295))) + (Int.fdiv (IntKind.u64.wrap ((bitI .and .u64 a1 4294967295) * (bitI .and .u64 a2 4294967295))) (2 ^ 32)))) (2 ^ 32)))) + (Int.fdiv (IntKind.u64.wrap ((bitI .and .u64 (IntKind.u64.wrap ((IntKind.u64.wrap ((Int.fdiv a1 (2 ^ 32)) * (bitI .and .u64 a2 4294967295))) + (Int.fdiv (IntKind.u64.wrap ((bitI .and .u64 a1 4294967295) * (bitI .and .u64 a2 4294967295))) (2 ^ 32)))) 4294967295) + (IntKind.u64.wrap ((bitI .and .u64 a1 4294967295) * (Int.fdiv a2 (2 ^ 32)))))) (2 ^ 32)))) (IntKind.u64.wrap (a1 * a2)))))
/- math/bits.Mul -/
def f36_fin (p1 : Int) (p2 : Int) : St := ⟨(up (up (fun _ => .un) 5 (.d (.int .u64 p2))) 4 (.d (.int .u64 p1))), (hB fun _ => 0)⟩
theorem f36_out (p1 : Int) (p2 : Int) : outR (f36_fin p1 p2) 0 c36.res = some ((.tup [(.d (.int .u64 p1)), (.d (.int .u64 p2))]), []) := by
  kernel_rfl
def f36_Q (r : Int × Int) (e : PX) (st : St) : Prop := DoneF c36 0 ((.tup [(.d (.int .u64 r.1)), (.d (.int .u64 r.2))]), []) e st
def f36_j0_J (a1 : Int) (a2 : Int) : St := ⟨(up (up (fun _ => .un) 1 (.d (.int .u64 a2))) 0 (.d (.int .u64 a1))), (hB fun _ => 0)⟩
noncomputable def f36_j0 (a1 : Int) (a2 : Int) : Option (Int × Int) := ((f56 a1 a2).bind fun z2 => (some (z2.1, z2.2)))
theorem f36_j0_ok {base : Orc} {d : Nat} (hd : 2 ≤ d) (a1 : Int) (a2 : Int) {r : Int × Int} {Q : PX → St → Prop} (hQ : ∀ e st', f36_Q r e st' → Q e st')  (hS : f36_j0 a1 a2 = some r) {st : St} (he : keepSt [0, 1] [] [] st = f36_j0_J a1 a2) : ZR (lev codes base (d - 1)) Q c36_1 [] st := by
  refine zrKeep he ?_
  unfold f36_j0 at hS
  refine zrSeq ?_
  refine zrReg ?_
  refine zlRun (n := 2) (j := 2) rfl (by kernel_rfl) ?_
  refine bindE hS (fun z2 hz2 hS => ?_)
  refine zlOp (d := some 25) (op := (.call 56 [(.tmp 23), (.tmp 24)])) (g := none) (v := (.tup [(.d (.int .u64 z2.1)), (.d (.int .u64 z2.2))])) (ups := []) (j := 3) rfl (by kernel_rfl) (by kernel_rfl) (ev_call (args := [(.d (.int .u64 a1)), (.d (.int .u64 a2))]) (l := [(.d (.int .u64 a1)), (.d (.int .u64 a2))]) (r := (.tup [(.d (.int .u64 z2.1)), (.d (.int .u64 z2.2))])) (by kernel_rfl) (by kernel_rfl) (f56_ok base (d - 1) (dpt hd rfl) a1 a2 z2 hz2) (by kernel_rfl) (by kernel_rfl) (by kernel_rfl)) ?_
  refine zlRun (n := 5) (j := 8) rfl (by kernel_rfl) ?_
  refine zlEnd (by kernel_rfl) ?_
  refine zkSeq ?_
  refine zrSeq ?_
  refine zrReg ?_
  refine zlRun (n := 4) (j := 4) rfl (by kernel_rfl) ?_
  refine zlEnd (by kernel_rfl) ?_
  refine zkSeq ?_
  refine zrRet ?_
  refine zkNil ?_
  exact endQ hS hQ (fRet (by kernel_rfl) ((congrArg (fun s => outR s 0 c36.res) (by kernel_rfl : finSt c36.fin _ = f36_fin z2.1 z2.2)).trans (f36_out z2.1 z2.2)))
noncomputable def f36 (a1 : Int) (a2 : Int) : Option (Int × Int) := (f36_j0 a1 a2 )
theorem f36_ok (base : Orc) (d : Nat) (hd : 2 ≤ d) (a1 : Int) (a2 : Int) (r : Int × Int) (hS : f36 a1 a2 = some r) : lev codes base d 36 [(.d (.int .u64 a1)), (.d (.int .u64 a2))] [] = some ((.tup [(.d (.int .u64 r.1)), (.d (.int .u64 r.2))]), []) := by
  refine lev_go codes36 rfl rfl (Nat.le_trans (Nat.le_of_ble_eq_true rfl) hd) fun Q hQ => ?_
  unfold f36 at hS
  show ZR _ Q c36_b [] _
  replace hQ : ∀ e st', f36_Q r e st' → Q e st' := hQ
  refine zrSeq ?_
  refine zrReg ?_
  refine zlRun (n := 2) (j := 2) rfl (by kernel_rfl) ?_
  refine zlEnd (by kernel_rfl) ?_
  refine zkSeq ?_
  refine zrSeq ?_
  refine zrCondF (by kernel_rfl) ?_
  refine zrSkip ?_
  refine zkSeq ?_
  exact f36_j0_ok hd a1 a2 hQ  hS (by kernel_rfl)
/- slices.Repeat[[]farwriter/api.Cell,farwriter/api.Cell] -/
def f63_fin (p17 : List GCell) : St := ⟨(up (fun _ => .un) 4 (.r (.msl 248 0 0 p17.length))), (up (hB fun _ => 0) 248 ⟨0, some (.own 33 4 (e_GCell.cells p17))⟩)⟩
theorem f63_out (p17 : List GCell) : outR (f63_fin p17) 0 c63.res = some ((.r (.own 0 33 4 p17.length (e_GCell.cells p17))), []) := by
  exact out_of (ids := []) (ids' := [248]) (l := [(.r (.msl 248 0 0 p17.length))]) (by kernel_rfl) (by kernel_rfl) (o_own e_GCell (e := 33) (k := 4) (xs := p17) (by kernel_rfl) rfl rfl rfl rfl)
def f63_Q (r : (List GCell)) (e : PX) (st : St) : Prop := DoneF c63 0 ((.r (.own 0 33 4 r.length (e_GCell.cells r))), []) e st
def f63_l2_J (a1 : List GCell) (a2 : Int) (x : (List GCell) × Int) : St := ⟨(up (up (fun _ => .un) 8 (.d (.int .i64 x.2))) 7 (.r (.msl 248 0 0 x.1.length))), (up (hB fun _ => 0) 248 ⟨0, some (.own 33 4 (e_GCell.cells x.1))⟩)⟩
def f63_l2_H (a1 : List GCell) (a2 : Int) (x : (List GCell) × Int) (st : St) : Prop := keepSt [7, 8] [(248, .id 248)] [] st = f63_l2_J a1 a2 x
def f63_l2_e0_J (a1 : List GCell) (a2 : Int) (p34 : List GCell) : St := ⟨(up (fun _ => .un) 7 (.r (.msl 248 0 0 p34.length))), (up (hB fun _ => 0) 248 ⟨0, some (.own 33 4 (e_GCell.cells p34))⟩)⟩
def f63_l2_X (a1 : List GCell) (a2 : Int) (z : ((List GCell))) (e : PX) (st : St) : Prop := e = .exit 0 ∧ st = f63_l2_e0_J a1 a2 z
def f63_l2_j3_J (a1 : List GCell) (a2 : Int) (p38 : List GCell) (p39 : Int) : St := ⟨(up (up (fun _ => .un) 8 (.d (.int .i64 p39))) 7 (.r (.msl 248 0 0 p38.length))), (up (hB fun _ => 0) 248 ⟨0, some (.own 33 4 (e_GCell.cells p38))⟩)⟩
noncomputable def f63_l2_j3 (a1 : List GCell) (a2 : Int) (p38 : List GCell) (p39 : Int) : Option (((List GCell) × Int) ⊕ (((List GCell)))) := ((chk (decide (0 ≤ p39) && decide (p39 ≤ (p38.length : Int)) && decide ((p38.length : Int) ≤ (p38.length : Int)))).bind fun z37 => ((chk (decide (0 ≤ 0) && decide (0 ≤ p39) && decide (p39 ≤ (p38.length : Int)))).bind fun z38 => ((part? p38 0 ((p39 : Int).toNat - (0 : Int).toNat)).bind fun z39 => ((chk (decide (((p39 : Int).toNat) + (((p38.length : Int) : Int).toNat - (p39 : Int).toNat) ≤ p38.length))).bind fun z40 => ((some (cpyL p38 ((p39 : Int).toNat) (((p38.length : Int) : Int).toNat - (p39 : Int).toNat) z39)).bind fun z41 => (some (.inl (z41, (IntKind.i64.wrap (p39 + ((min z39.length (((z41.length : Int) : Int).toNat - (p39 : Int).toNat) : Nat) : Int)))))))))))
theorem f63_l2_j3_ok {base : Orc} {d : Nat} (hd : 3 ≤ d) (a1 : List GCell) (a2 : Int) {r : ((List GCell) × Int) ⊕ (((List GCell)))} {Q : PX → St → Prop} (hQ : ∀ e st', finL (f63_l2_H a1 a2) (f63_l2_X a1 a2) r e st' → Q e st') (p38 : List GCell) (p39 : Int) (hS : f63_l2_j3 a1 a2 p38 p39 = some r) {st : St} (he : keepSt [7, 8] [(248, .id 248)] [] st = f63_l2_j3_J a1 a2 p38 p39) : ZR (lev codes base (d - 1)) Q c63_1 [] st := by
  refine zrKeep he ?_
  unfold f63_l2_j3 at hS
  refine zrBlk ?_
  refine zrRegD ?_
  refine zdRun (n := 3) (j := 3) (ts := [[], [], []]) (acc' := [[], [], []]) rfl (by kernel_rfl) (by kernel_rfl) (by kernel_rfl) ?_
  refine bindE hS (fun z37 hz37 hS => ?_)
  refine zdOp (d := some 41) (op := (.slS 33 4 (.tmp 39) (.some (.tmp 40)) .none)) (g := none) (v := (.r (.msl 248 0 ((p39 : Int).toNat) (((p38.length : Int) : Int).toNat - (p39 : Int).toNat)))) (ups := []) (j := 4) (t1 := [(248, false)]) (acc' := [[], [], [], [(248, false)]]) (by kernel_rfl) (by kernel_rfl) rfl (by kernel_rfl) (by kernel_rfl) (ev_slM (b := 248) (g := 0) (e := 33) (a := p39) (c := (p38.length : Int)) (l := 0) (n := p38.length) (l' := ((p39 : Int).toNat)) (n' := (((p38.length : Int) : Int).toNat - (p39 : Int).toNat)) (cs := e_GCell.cells p38) (by kernel_rfl) (by kernel_rfl) (bnd_s _ (kk := .i64) (j := p39) (by kernel_rfl)) (bnd_n _) hz37 (by simp) rfl) ?_
  refine zdRun (n := 2) (j := 6) (ts := [[], []]) (acc' := [[], [], [], [(248, false)], [], []]) rfl (by kernel_rfl) (by kernel_rfl) (by kernel_rfl) ?_
  refine bindE hS (fun z38 hz38 hS => ?_)
  refine zdOp (d := some 44) (op := (.slS 33 4 (.tmp 42) .none (.some (.tmp 43)))) (g := none) (v := (.r (.msl 248 0 0 ((p39 : Int).toNat - (0 : Int).toNat)))) (ups := []) (j := 7) (t1 := [(248, false)]) (acc' := [[], [], [], [(248, false)], [], [], [(248, false)]]) (by kernel_rfl) (by kernel_rfl) rfl (by kernel_rfl) (by kernel_rfl) (ev_slM (b := 248) (g := 0) (e := 33) (a := 0) (c := p39) (l := 0) (n := p38.length) (l' := 0) (n' := ((p39 : Int).toNat - (0 : Int).toNat)) (cs := e_GCell.cells p38) (by kernel_rfl) (by kernel_rfl) (bnd_n 0) (bnd_s _ (kk := .i64) (j := p39) (by kernel_rfl)) hz38 (by simp) rfl) ?_
  refine bindE hS (fun z39 hz39 hS => ?_)
  refine bindE hS (fun z40 hz40 hS => ?_)
  refine bindE hS (fun z41 hz41 hS => ?_)
  refine zdOp (d := some 45) (op := (.cpy 4 (.tmp 41) (.tmp 44))) (g := none) (v := (.d (.int .i64 ((min z39.length (((p38.length : Int) : Int).toNat - (p39 : Int).toNat) : Nat) : Int)))) (ups := [(248, ⟨0, some (.own 33 4 (e_GCell.cells (cpyL p38 ((p39 : Int).toNat) (((p38.length : Int) : Int).toNat - (p39 : Int).toNat) z39)))⟩)]) (j := 8) (t1 := [(248, true), (248, false)]) (acc' := [[], [], [], [(248, false)], [], [], [(248, false)], [(248, true), (248, false)]]) (by kernel_rfl) (by kernel_rfl) rfl (by kernel_rfl) (by kernel_rfl) (ev_cpy e_GCell (b := 248) (g := 0) (l := ((p39 : Int).toNat)) (n := (((p38.length : Int) : Int).toNat - (p39 : Int).toNat)) (e := 33) (xs := p38) (ys := z39) (by kernel_rfl) (by kernel_rfl) rfl ((congrArg (asL _) (by kernel_rfl : ρof _ (.tmp 44) = (.r (.msl 248 0 0 ((p39 : Int).toNat - (0 : Int).toNat))))).trans (as_part e_GCell (e := 33) (k := 4) (xs := p38) (by kernel_rfl) rfl hz39)) hz40) ?_
  have ez41 := Option.some.inj hz41
  have lz41 : p38.length = z41.length := by rw [← ez41]; exact (cpyL_len (of_decide_eq_true (chk_t hz40))).symm
  rw [ez41]
  try delta f63_l2_j3_J
  try rw [lz41]
  refine zdRun (n := 2) (j := 10) (ts := [[], []]) (acc' := [[], [], [], [(248, false)], [], [], [(248, false)], [(248, true), (248, false)], [], []]) rfl (by kernel_rfl) (by kernel_rfl) (by kernel_rfl) ?_
  refine zdEnd (by kernel_rfl) (by kernel_rfl) ?_
  refine zkBlk ?_
  refine zkNil ?_
  exact endQ hS hQ (finL_n (by show keepSt _ _ _ _ = _; kernel_rfl))
noncomputable def f63_l2 (a1 : List GCell) (a2 : Int) (x : (List GCell) × Int) : Option (((List GCell) × Int) ⊕ (((List GCell)))) := (bif (decide (x.2 < (x.1.length : Int))) then (f63_l2_j3 a1 a2 x.1 x.2) else (some (.inr x.1)))
theorem f63_l2_ok {base : Orc} {d : Nat} (hd : 3 ≤ d) (a1 : List GCell) (a2 : Int) {r : ((List GCell) × Int) ⊕ (((List GCell)))} {Q : PX → St → Prop} (hQ : ∀ e st', finL (f63_l2_H a1 a2) (f63_l2_X a1 a2) r e st' → Q e st') {x : (List GCell) × Int} (hS : f63_l2 a1 a2 x = some r) {st : St} (he : f63_l2_H a1 a2 x st) : ZR (lev codes base (d - 1)) Q c63_2 [] st := by
  refine zrKeep he ?_
  unfold f63_l2 at hS
  refine zrSeq ?_
  refine zrSeq ?_
  refine zrReg ?_
  refine zlRun (n := 3) (j := 3) rfl (by kernel_rfl) ?_
  refine zlBool (d := 37) (op := (.cmpI .lss (.tmp 34) (.tmp 36))) (g := none) (j := 4) (decide (x.2 < (x.1.length : Int))) rfl (by kernel_rfl) (by kernel_rfl) (by kernel_rfl) (fun hc => ?_) (fun hc => ?_)
  · replace hS := cond_t hc hS
    refine zlEnd (by kernel_rfl) ?_
    refine zkSeq ?_
    refine zrCondT (by kernel_rfl) ?_
    refine zrSkip ?_
    refine zkSeq ?_
    exact f63_l2_j3_ok hd a1 a2 hQ x.1 x.2 hS (by kernel_rfl)
  · replace hS := cond_f hc hS
    refine zlEnd (by kernel_rfl) ?_
    refine zkSeq ?_
    refine zrCondF (by kernel_rfl) ?_
    refine zrKeep (J := f63_l2_e0_J a1 a2 x.1) (by kernel_rfl) ?_
    refine zrExit ?_
    refine zkSeqX ?_
    refine zkNil ?_
    exact endQ hS hQ (finL_x (by intro h; cases h) (by show _ = _ ∧ _ = _; exact ⟨rfl, rfl⟩))
def f63_j1_J (a1 : List GCell) (a2 : Int) (p23 : Int) : St := ⟨(up (up (fun _ => .un) 6 (.d (.int .u64 p23))) 0 (.d (.sl a1.length (e_GCell.cells a1)))), (hB fun _ => 0)⟩
noncomputable def f63_j1 (a1 : List GCell) (a2 : Int) (p23 : Int) : Option ((List GCell)) := ((mk? 32 (IntKind.i64.wrap (p23)) (IntKind.i64.wrap (p23)) (GCell.mk 0 (GPen.mk 0 0 0))).bind fun z24 => ((chk (decide (0 + z24.length ≤ z24.length))).bind fun z25 => ((some (cpyL z24 0 z24.length a1)).bind fun z26 => ((loopO (f63_l2 a1 a2) (z26, ((min a1.length z26.length : Nat) : Int))).bind fun z42 => (some z42)))))
theorem f63_j1_ok {base : Orc} {d : Nat} (hd : 3 ≤ d) (a1 : List GCell) (a2 : Int) {r : (List GCell)} {Q : PX → St → Prop} (hQ : ∀ e st', f63_Q r e st' → Q e st') (p23 : Int) (hS : f63_j1 a1 a2 p23 = some r) {st : St} (he : keepSt [0, 6] [] [] st = f63_j1_J a1 a2 p23) : ZR (lev codes base (d - 1)) Q c63_3 [] st := by
  refine zrKeep he ?_
  unfold f63_j1 at hS
  refine zrSeq ?_
  refine zrReg ?_
  refine zlRun (n := 2) (j := 2) rfl (by kernel_rfl) ?_
  refine bindE hS (fun z24 hz24 hS => ?_)
  refine zlOp (d := some 30) (op := (.mks 33 4 32 [(4, (.int .i64 0))] (.tmp 29) (.tmp 29))) (g := none) (v := (.r (.msl 248 1 0 z24.length))) (ups := [(248, ⟨1, some (.own 33 4 (e_GCell.cells z24))⟩)]) (j := 3) rfl (by kernel_rfl) (by kernel_rfl) (ev_mks e_GCell (kl := .i64) (kc := .i64) (z0 := (GCell.mk 0 (GPen.mk 0 0 0))) (a := (IntKind.i64.wrap (p23))) (c := (IntKind.i64.wrap (p23))) (by kernel_rfl) (by kernel_rfl) (by kernel_rfl) rfl hz24) ?_
  refine zlRun (n := 1) (j := 4) rfl (by kernel_rfl) ?_
  refine zlEnd (by kernel_rfl) ?_
  refine zkSeq ?_
  refine zrSeq ?_
  refine zrReg ?_
  refine zlRun (n := 2) (j := 2) rfl (by kernel_rfl) ?_
  refine bindE hS (fun z25 hz25 hS => ?_)
  refine bindE hS (fun z26 hz26 hS => ?_)
  refine zlOp (d := some 33) (op := (.cpy 4 (.tmp 31) (.tmp 32))) (g := none) (v := (.d (.int .i64 ((min a1.length z24.length : Nat) : Int)))) (ups := [(248, ⟨1, some (.own 33 4 (e_GCell.cells (cpyL z24 0 z24.length a1)))⟩)]) (j := 3) rfl (by kernel_rfl) (by kernel_rfl) (ev_cpy e_GCell (b := 248) (g := 1) (l := 0) (n := z24.length) (e := 33) (xs := z24) (ys := a1) (by kernel_rfl) (by kernel_rfl) rfl ((congrArg (asL _) (by kernel_rfl : ρof _ (.tmp 32) = (.d (.sl a1.length (e_GCell.cells a1))))).trans (as_d _ _)) hz25) ?_
  have ez26 := Option.some.inj hz26
  have lz26 : z24.length = z26.length := by rw [← ez26]; exact (cpyL_len (of_decide_eq_true (chk_t hz25))).symm
  rw [ez26]
  try delta f63_j1_J
  try rw [lz26]
  refine zlRun (n := 1) (j := 4) rfl (by kernel_rfl) ?_
  refine zlEnd (by kernel_rfl) ?_
  refine zkSeq ?_
  refine zrSeq ?_
  refine zrBlk ?_
  refine bindE hS (fun z42 hz42 hS => ?_)
  refine zrLoop (f63_l2_H a1 a2) (f63_l2_X a1 a2) (fun x st r Q h0 hS hQ => f63_l2_ok hd a1 a2 hQ hS h0) (x := (z26, ((min a1.length z26.length : Nat) : Int))) (z := z42) (by show keepSt _ _ _ _ = _; kernel_rfl) hz42 ?_
  intro e st' _ hX
  obtain ⟨rfl, rfl⟩ : _ ∧ _ := hX
  refine zkBlkX ?_
  refine zkSeq ?_
  refine zrSeq ?_
  refine zrReg ?_
  refine zlRun (n := 2) (j := 2) rfl (by kernel_rfl) ?_
  refine zlEnd (by kernel_rfl) ?_
  refine zkSeq ?_
  refine zrRet ?_
  refine zkNil ?_
  exact endQ hS hQ (fRet (by kernel_rfl) ((congrArg (fun s => outR s 0 c63.res) (by kernel_rfl : finSt c63.fin _ = f63_fin z42)).trans (f63_out z42)))
def f63_j0_J (a1 : List GCell) (a2 : Int) : St := ⟨(up (up (fun _ => .un) 1 (.d (.int .i64 a2))) 0 (.d (.sl a1.length (e_GCell.cells a1)))), (hB fun _ => 0)⟩
noncomputable def f63_j0 (a1 : List GCell) (a2 : Int) : Option ((List GCell)) := ((f36 (IntKind.u64.wrap ((a1.length : Int))) (IntKind.u64.wrap (a2))).bind fun z21 => (bif (decide (0 < z21.1)) then ((chk false).bind fun z43 => ((chk false).bind fun z44 => (f63_j1 a1 a2 z21.2))) else (bif (decide (9223372036854775807 < z21.2)) then ((chk false).bind fun z45 => ((chk false).bind fun z46 => (f63_j1 a1 a2 z21.2))) else (f63_j1 a1 a2 z21.2))))
theorem f63_j0_ok {base : Orc} {d : Nat} (hd : 3 ≤ d) (a1 : List GCell) (a2 : Int) {r : (List GCell)} {Q : PX → St → Prop} (hQ : ∀ e st', f63_Q r e st' → Q e st')  (hS : f63_j0 a1 a2 = some r) {st : St} (he : keepSt [0, 1] [] [] st = f63_j0_J a1 a2) : ZR (lev codes base (d - 1)) Q c63_4 [] st := by
  refine zrKeep he ?_
  unfold f63_j0 at hS
  refine zrSeq ?_
  refine zrReg ?_
  refine zlRun (n := 5) (j := 5) rfl (by kernel_rfl) ?_
  refine bindE hS (fun z21 hz21 hS => ?_)
  refine zlOp (d := some 18) (op := (.call 36 [(.tmp 15), (.tmp 17)])) (g := none) (v := (.tup [(.d (.int .u64 z21.1)), (.d (.int .u64 z21.2))])) (ups := []) (j := 6) rfl (by kernel_rfl) (by kernel_rfl) (ev_call (args := [(.d (.int .u64 (IntKind.u64.wrap ((a1.length : Int))))), (.d (.int .u64 (IntKind.u64.wrap (a2))))]) (l := [(.d (.int .u64 (IntKind.u64.wrap ((a1.length : Int))))), (.d (.int .u64 (IntKind.u64.wrap (a2))))]) (r := (.tup [(.d (.int .u64 z21.1)), (.d (.int .u64 z21.2))])) (by kernel_rfl) (by kernel_rfl) (f36_ok base (d - 1) (dpt hd rfl) (IntKind.u64.wrap ((a1.length : Int))) (IntKind.u64.wrap (a2)) z21 hz21) (by kernel_rfl) (by kernel_rfl) (by kernel_rfl)) ?_
  refine zlRun (n := 5) (j := 11) rfl (by kernel_rfl) ?_
  refine zlEnd (by kernel_rfl) ?_
  refine zkSeq ?_
  refine zrSeq ?_
  refine zrSeq ?_
  refine zrReg ?_
  refine zlRun (n := 1) (j := 1) rfl (by kernel_rfl) ?_
  refine zlBool (d := 22) (op := (.cmpI .gtr (.tmp 21) (.const (.int .u64 0)))) (g := none) (j := 2) (decide (0 < z21.1)) rfl (by kernel_rfl) (by kernel_rfl) (by kernel_rfl) (fun hc => ?_) (fun hc => ?_)
  · replace hS := cond_t hc hS
    refine zlRun (n := 4) (j := 6) rfl (by kernel_rfl) ?_
    refine zlEnd (by kernel_rfl) ?_
    refine zkSeq ?_
    refine zrCondT (by kernel_rfl) ?_
    refine zrReg ?_
    refine bindE hS (fun z43 hz43 hS => ?_)
    refine zlOp (d := some 27) (op := (.mx [])) (g := none) (v := .un) (ups := []) (j := 1) rfl (by kernel_rfl) (by kernel_rfl) (by exact absurd hz43 (by simp [chk])) ?_
    refine bindE hS (fun z44 hz44 hS => ?_)
    refine zlOp (d := none) (op := (.mx [])) (g := none) (v := .un) (ups := []) (j := 2) rfl (by kernel_rfl) (by kernel_rfl) (by exact absurd hz44 (by simp [chk])) ?_
    refine zlEnd (by kernel_rfl) ?_
    refine zkSeq ?_
    exact f63_j1_ok hd a1 a2 hQ z21.2 hS (by kernel_rfl)
  · replace hS := cond_f hc hS
    refine zlRun (n := 2) (j := 4) rfl (by kernel_rfl) ?_
    refine zlBool (d := 25) (op := (.cmpI .gtr (.tmp 24) (.const (.int .u64 9223372036854775807)))) (g := (some (23, false))) (j := 5) (decide (9223372036854775807 < z21.2)) rfl (by kernel_rfl) (by kernel_rfl) (by kernel_rfl) (fun hc => ?_) (fun hc => ?_)
    · replace hS := cond_t hc hS
      refine zlRun (n := 1) (j := 6) rfl (by kernel_rfl) ?_
      refine zlEnd (by kernel_rfl) ?_
      refine zkSeq ?_
      refine zrCondT (by kernel_rfl) ?_
      refine zrReg ?_
      refine bindE hS (fun z45 hz45 hS => ?_)
      refine zlOp (d := some 27) (op := (.mx [])) (g := none) (v := .un) (ups := []) (j := 1) rfl (by kernel_rfl) (by kernel_rfl) (by exact absurd hz45 (by simp [chk])) ?_
      refine bindE hS (fun z46 hz46 hS => ?_)
      refine zlOp (d := none) (op := (.mx [])) (g := none) (v := .un) (ups := []) (j := 2) rfl (by kernel_rfl) (by kernel_rfl) (by exact absurd hz46 (by simp [chk])) ?_
      refine zlEnd (by kernel_rfl) ?_
      refine zkSeq ?_
      exact f63_j1_ok hd a1 a2 hQ z21.2 hS (by kernel_rfl)
    · replace hS := cond_f hc hS
      refine zlRun (n := 1) (j := 6) rfl (by kernel_rfl) ?_
      refine zlEnd (by kernel_rfl) ?_
      refine zkSeq ?_
      refine zrCondF (by kernel_rfl) ?_
      refine zrSkip ?_
      refine zkSeq ?_
      exact f63_j1_ok hd a1 a2 hQ z21.2 hS (by kernel_rfl)
noncomputable def f63 (a1 : List GCell) (a2 : Int) : Option ((List GCell)) := (bif (decide (a2 < 0)) then ((chk false).bind fun z47 => ((chk false).bind fun z48 => (f63_j0 a1 a2 ))) else (f63_j0 a1 a2 ))
theorem f63_ok (base : Orc) (d : Nat) (hd : 3 ≤ d) (a1 : List GCell) (a2 : Int) (r : (List GCell)) (hS : f63 a1 a2 = some r) : lev codes base d 63 [(.d (.sl a1.length (e_GCell.cells a1))), (.d (.int .i64 a2))] [] = some ((.r (.own 0 33 4 r.length (e_GCell.cells r))), []) := by
  refine lev_go codes63 rfl rfl (Nat.le_trans (Nat.le_of_ble_eq_true rfl) hd) fun Q hQ => ?_
  unfold f63 at hS
  show ZR _ Q c63_b [] _
  replace hQ : ∀ e st', f63_Q r e st' → Q e st' := hQ
  refine zrSeq ?_
  refine zrReg ?_
  refine zlRun (n := 1) (j := 1) rfl (by kernel_rfl) ?_
  refine zlEnd (by kernel_rfl) ?_
  refine zkSeq ?_
  refine zrSeq ?_
  refine zrSeq ?_
  refine zrReg ?_
  refine zlRun (n := 1) (j := 1) rfl (by kernel_rfl) ?_
  refine zlBool (d := 10) (op := (.cmpI .lss (.tmp 9) (.const (.int .i64 0)))) (g := none) (j := 2) (decide (a2 < 0)) rfl (by kernel_rfl) (by kernel_rfl) (by kernel_rfl) (fun hc => ?_) (fun hc => ?_)
  · replace hS := cond_t hc hS
    refine zlEnd (by kernel_rfl) ?_
    refine zkSeq ?_
    refine zrCondT (by kernel_rfl) ?_
    refine zrReg ?_
    refine bindE hS (fun z47 hz47 hS => ?_)
    refine zlOp (d := some 11) (op := (.mx [])) (g := none) (v := .un) (ups := []) (j := 1) rfl (by kernel_rfl) (by kernel_rfl) (by exact absurd hz47 (by simp [chk])) ?_
    refine bindE hS (fun z48 hz48 hS => ?_)
    refine zlOp (d := none) (op := (.mx [])) (g := none) (v := .un) (ups := []) (j := 2) rfl (by kernel_rfl) (by kernel_rfl) (by exact absurd hz48 (by simp [chk])) ?_
    refine zlEnd (by kernel_rfl) ?_
    refine zkSeq ?_
    exact f63_j0_ok hd a1 a2 hQ  hS (by kernel_rfl)
  · replace hS := cond_f hc hS
    refine zlEnd (by kernel_rfl) ?_
    refine zkSeq ?_
    refine zrCondF (by kernel_rfl) ?_
    refine zrSkip ?_
    refine zkSeq ?_
    exact f63_j0_ok hd a1 a2 hQ  hS (by kernel_rfl)
/- farwriter/grid.blanks -/
def f53_fin (p1 : Int) (p2 : Int) (p3 : List GCell) : St := ⟨(up (fun _ => .un) 6 (.r (.ptr 56 0 0))), (up (up (hB fun _ => 0) 128 ⟨0, some (.own 33 4 (e_GCell.cells p3))⟩) 56 ⟨0, some (.box ((.d (.int .i64 p1)) :: ((.d (.int .i64 p2)) :: ((.r (.msl 128 0 0 p3.length)) :: []))))⟩)⟩
theorem f53_out (p1 : Int) (p2 : Int) (p3 : List GCell) : outR (f53_fin p1 p2 p3) 0 c53.res = some ((.agg ((.d (.int .i64 p1)) :: ((.d (.int .i64 p2)) :: ((.r (.own 0 33 4 p3.length (e_GCell.cells p3))) :: [])))), []) := by
  exact out_of (ids := []) (ids' := [128]) (l := [(.agg ((.d (.int .i64 p1)) :: ((.d (.int .i64 p2)) :: ((.r (.msl 128 0 0 p3.length)) :: []))))]) (by kernel_rfl) (by kernel_rfl) (o_agg (o_cons rfl (o_cons rfl (o_cons (o_own e_GCell (e := 33) (k := 4) (xs := p3) (by kernel_rfl) rfl rfl rfl rfl) o_nil))))
def f53_Q (r : Int × Int × (List GCell)) (e : PX) (st : St) : Prop := DoneF c53 0 ((.agg ((.d (.int .i64 r.1)) :: ((.d (.int .i64 r.2.1)) :: ((.r (.own 0 33 4 r.2.2.length (e_GCell.cells r.2.2))) :: [])))), []) e st
noncomputable def f53 (a1 : Int) (a2 : Int) (a3 : GPen) : Option (Int × Int × (List GCell)) := ((f54 a3).bind fun z3 => ((f63 [z3] (IntKind.i64.wrap (a1 * a2))).bind fun z4 => (some (a1, a2, z4))))
theorem f53_ok (base : Orc) (d : Nat) (hd : 4 ≤ d) (a1 : Int) (a2 : Int) (a3 : GPen) (r : Int × Int × (List GCell)) (hS : f53 a1 a2 a3 = some r) : lev codes base d 53 [(.d (.int .i64 a1)), (.d (.int .i64 a2)), (.agg ((.d (.int .i64 a3.Flags)) :: ((.d (.int .i64 a3.Fore)) :: ((.d (.int .i64 a3.Back)) :: []))))] [] = some ((.agg ((.d (.int .i64 r.1)) :: ((.d (.int .i64 r.2.1)) :: ((.r (.own 0 33 4 r.2.2.length (e_GCell.cells r.2.2))) :: [])))), []) := by
  refine lev_go codes53 rfl rfl (Nat.le_trans (Nat.le_of_ble_eq_true rfl) hd) fun Q hQ => ?_
  unfold f53 at hS
  show ZR _ Q c53_b [] _
  replace hQ : ∀ e st', f53_Q r e st' → Q e st' := hQ
  refine zrSeq ?_
  refine zrReg ?_
  refine zlRun (n := 2) (j := 2) rfl (by kernel_rfl) ?_
  refine zlEnd (by kernel_rfl) ?_
  refine zkSeq ?_
  refine zrSeq ?_
  refine zrReg ?_
  refine zlRun (n := 3) (j := 3) rfl (by kernel_rfl) ?_
  refine bindE hS (fun z3 hz3 hS => ?_)
  refine zlOp (d := some 10) (op := (.call 54 [(.tmp 9)])) (g := none) (v := (.agg ((.d (.int .i64 z3.Rune)) :: ((.d (.int .i64 z3.Pen.Flags)) :: ((.d (.int .i64 z3.Pen.Fore)) :: ((.d (.int .i64 z3.Pen.Back)) :: [])))))) (ups := []) (j := 4) rfl (by kernel_rfl) (by kernel_rfl) (ev_call (args := [(.agg ((.d (.int .i64 a3.Flags)) :: ((.d (.int .i64 a3.Fore)) :: ((.d (.int .i64 a3.Back)) :: []))))]) (l := [(.agg ((.d (.int .i64 a3.Flags)) :: ((.d (.int .i64 a3.Fore)) :: ((.d (.int .i64 a3.Back)) :: []))))]) (r := (.agg ((.d (.int .i64 z3.Rune)) :: ((.d (.int .i64 z3.Pen.Flags)) :: ((.d (.int .i64 z3.Pen.Fore)) :: ((.d (.int .i64 z3.Pen.Back)) :: [])))))) (by kernel_rfl) (by kernel_rfl) (f54_ok base (d - 1) (dpt hd rfl) a3 z3 hz3) (by kernel_rfl) (by kernel_rfl) (by kernel_rfl)) ?_
  refine zlRun (n := 4) (j := 8) rfl (by kernel_rfl) ?_
  refine bindE hS (fun z4 hz4 hS => ?_)
  refine zlOp (d := some 15) (op := (.call 63 [(.tmp 11), (.tmp 14)])) (g := none) (v := (.r (.msl 128 1 0 z4.length))) (ups := [(128, ⟨1, some (.own 33 4 (e_GCell.cells z4))⟩)]) (j := 9) rfl (by kernel_rfl) (by kernel_rfl) (ev_call (args := [(.r (.msl 96 1 0 (([z3] : List GCell).length))), (.d (.int .i64 (IntKind.i64.wrap (a1 * a2))))]) (l := [(.d (.sl ([z3] : List GCell).length (e_GCell.cells ([z3])))), (.d (.int .i64 (IntKind.i64.wrap (a1 * a2))))]) (r := (.r (.own 0 33 4 z4.length (e_GCell.cells z4)))) (by kernel_rfl) (l_cons (l_own e_GCell (e := 33) (k := 4) (xs := [z3]) (by kernel_rfl) rfl rfl) (l_cons (by kernel_rfl) l_nil)) (f63_ok base (d - 1) (dpt hd rfl) [z3] (IntKind.i64.wrap (a1 * a2)) z4 hz4) (by simp only [free_own e_GCell (fun _ => rfl), free_tup, free_agg, free_nl, free_cs, free_int, free_bool, free_str, free_un, free_ni, free_s0, Bool.and_true, Bool.or_true, Bool.and_self]) (by kernel_rfl) (by kernel_rfl)) ?_
  refine zlRun (n := 2) (j := 11) rfl (by kernel_rfl) ?_
  refine zlEnd (by kernel_rfl) ?_
  refine zkSeq ?_
  refine zrRet ?_
  refine zkNil ?_
  exact endQ hS hQ (fRet (by kernel_rfl) ((congrArg (fun s => outR s 0 c53.res) (by kernel_rfl : finSt c53.fin _ = f53_fin a1 a2 z4)).trans (f53_out a1 a2 z4)))
/- farwriter/grid.New -/
def f31_fin (p5 : Int) (p6 : Int) (p7 : List GCell) (p8 : Int) : St := ⟨(up (up (fun _ => .un) 7 (.d (.int .i64 p8))) 6 (.r (.ptr 56 0 0))), (up (up (hB fun _ => 0) 216 ⟨0, some (.own 33 4 (e_GCell.cells p7))⟩) 56 ⟨0, some (.box ((.d (.int .i64 p5)) :: ((.d (.int .i64 p6)) :: ((.r (.msl 216 0 0 p7.length)) :: []))))⟩)⟩
theorem f31_out (p5 : Int) (p6 : Int) (p7 : List GCell) (p8 : Int) : outR (f31_fin p5 p6 p7 p8) 0 c31.res = some ((.tup [(.agg ((.d (.int .i64 p5)) :: ((.d (.int .i64 p6)) :: ((.r (.own 0 33 4 p7.length (e_GCell.cells p7))) :: [])))), (.d (.int .i64 p8))]), []) := by
  exact out_of (ids := []) (ids' := [216]) (l := [(.agg ((.d (.int .i64 p5)) :: ((.d (.int .i64 p6)) :: ((.r (.msl 216 0 0 p7.length)) :: [])))), (.d (.int .i64 p8))]) (by kernel_rfl) (by kernel_rfl) (o_tup (o_cons (o_agg (o_cons rfl (o_cons rfl (o_cons (o_own e_GCell (e := 33) (k := 4) (xs := p7) (by kernel_rfl) rfl rfl rfl rfl) o_nil)))) (o_cons rfl o_nil)))
def f31_Q (r : Int × Int × (List GCell) × Int) (e : PX) (st : St) : Prop := DoneF c31 0 ((.tup [(.agg ((.d (.int .i64 r.1)) :: ((.d (.int .i64 r.2.1)) :: ((.r (.own 0 33 4 r.2.2.1.length (e_GCell.cells r.2.2.1))) :: [])))), (.d (.int .i64 r.2.2.2))]), []) e st
def f31_j0_J (a1 : Int) (a2 : Int) (a3 : GPen) : St := ⟨(up (up (up (up (fun _ => .un) 6 (.r (.ptr 56 0 0))) 5 (.r (.ptr 48 0 0))) 1 (.d (.int .i64 a2))) 0 (.d (.int .i64 a1))), (up (up (hB fun _ => 0) 56 ⟨0, some (.box ((.d (.int .i64 0)) :: ((.d (.int .i64 0)) :: ((.d (.sl ([] : List GCell).length (e_GCell.cells ([])))) :: []))))⟩) 48 ⟨0, some (.box ((.d (.int .i64 a3.Flags)) :: ((.d (.int .i64 a3.Fore)) :: ((.d (.int .i64 a3.Back)) :: []))))⟩)⟩
noncomputable def f31_j0 (a1 : Int) (a2 : Int) (a3 : GPen) : Option (Int × Int × (List GCell) × Int) := ((f38 a3).bind fun z5 => (bif (!decide (z5 = 0)) then (some (0, 0, [], z5)) else ((f53 a1 a2 a3).bind fun z6 => (some (z6.1, z6.2.1, z6.2.2, 0)))))
theorem f31_j0_ok {base : Orc} {d : Nat} (hd : 5 ≤ d) (a1 : Int) (a2 : Int) (a3 : GPen) {r : Int × Int × (List GCell) × Int} {Q : PX → St → Prop} (hQ : ∀ e st', f31_Q r e st' → Q e st')  (hS : f31_j0 a1 a2 a3 = some r) {st : St} (he : keepSt [0, 1, 5, 6] [(48, .id 48), (56, .id 56)] [.cell 56 2 0 0 1] st = f31_j0_J a1 a2 a3) : ZR (lev codes base (d - 1)) Q c31_1 [] st := by
  refine zrKeep he ?_
  unfold f31_j0 at hS
  refine zrSeq ?_
  refine zrSeq ?_
  refine zrReg ?_
  refine zlRun (n := 1) (j := 1) rfl (by kernel_rfl) ?_
  refine bindE hS (fun z5 hz5 hS => ?_)
  refine zlOp (d := some 18) (op := (.call 38 [(.tmp 17)])) (g := none) (v := (.d (.int .i64 z5))) (ups := []) (j := 2) rfl (by kernel_rfl) (by kernel_rfl) (ev_call (args := [(.agg ((.d (.int .i64 a3.Flags)) :: ((.d (.int .i64 a3.Fore)) :: ((.d (.int .i64 a3.Back)) :: []))))]) (l := [(.agg ((.d (.int .i64 a3.Flags)) :: ((.d (.int .i64 a3.Fore)) :: ((.d (.int .i64 a3.Back)) :: []))))]) (r := (.d (.int .i64 z5))) (by kernel_rfl) (by kernel_rfl) (f38_ok base (d - 1) (dpt hd rfl) a3 z5 hz5) (by kernel_rfl) (by kernel_rfl) (by kernel_rfl)) ?_
  refine zlRun (n := 1) (j := 3) rfl (by kernel_rfl) ?_
  refine zlEnd (by kernel_rfl) ?_
  refine zkSeq ?_
  refine zrSeq ?_
  refine zrReg ?_
  refine zlRun (n := 1) (j := 1) rfl (by kernel_rfl) ?_
  refine zlBool (d := 20) (op := (.cmpI .neq (.tmp 19) (.const (.int .i64 0)))) (g := none) (j := 2) (!decide (z5 = 0)) rfl (by kernel_rfl) (by kernel_rfl) (by kernel_rfl) (fun hc => ?_) (fun hc => ?_)
  · replace hS := cond_t hc hS
    refine zlEnd (by kernel_rfl) ?_
    refine zkSeq ?_
    refine zrCondT (by kernel_rfl) ?_
    refine zrSeq ?_
    refine zrReg ?_
    refine zlRun (n := 4) (j := 4) rfl (by kernel_rfl) ?_
    refine zlEnd (by kernel_rfl) ?_
    refine zkSeq ?_
    refine zrRet ?_
    refine zkSeqR ?_
    refine zkNil ?_
    exact endQ hS hQ (fRet (by kernel_rfl) ((congrArg (fun s => outR s 0 c31.res) (by kernel_rfl : finSt c31.fin _ = f31_fin 0 0 [] z5)).trans (f31_out 0 0 [] z5)))
  · replace hS := cond_f hc hS
    refine zlEnd (by kernel_rfl) ?_
    refine zkSeq ?_
    refine zrCondF (by kernel_rfl) ?_
    refine zrSkip ?_
    refine zkSeq ?_
    refine zrSeq ?_
    refine zrReg ?_
    refine zlRun (n := 3) (j := 3) rfl (by kernel_rfl) ?_
    refine bindE hS (fun z6 hz6 hS => ?_)
    refine zlOp (d := some 26) (op := (.call 53 [(.tmp 23), (.tmp 24), (.tmp 25)])) (g := none) (v := (.agg ((.d (.int .i64 z6.1)) :: ((.d (.int .i64 z6.2.1)) :: ((.r (.msl 216 1 0 z6.2.2.length)) :: []))))) (ups := [(216, ⟨1, some (.own 33 4 (e_GCell.cells z6.2.2))⟩)]) (j := 4) rfl (by kernel_rfl) (by kernel_rfl) (ev_call (args := [(.d (.int .i64 a1)), (.d (.int .i64 a2)), (.agg ((.d (.int .i64 a3.Flags)) :: ((.d (.int .i64 a3.Fore)) :: ((.d (.int .i64 a3.Back)) :: []))))]) (l := [(.d (.int .i64 a1)), (.d (.int .i64 a2)), (.agg ((.d (.int .i64 a3.Flags)) :: ((.d (.int .i64 a3.Fore)) :: ((.d (.int .i64 a3.Back)) :: []))))]) (r := (.agg ((.d (.int .i64 z6.1)) :: ((.d (.int .i64 z6.2.1)) :: ((.r (.own 0 33 4 z6.2.2.length (e_GCell.cells z6.2.2))) :: []))))) (by kernel_rfl) (by kernel_rfl) (f53_ok base (d - 1) (dpt hd rfl) a1 a2 a3 z6 hz6) (by kernel_rfl) (by kernel_rfl) (by kernel_rfl)) ?_
    refine zlRun (n := 2) (j := 6) rfl (by kernel_rfl) ?_
    refine zlEnd (by kernel_rfl) ?_
    refine zkSeq ?_
    refine zrRet ?_
    refine zkNil ?_
    exact endQ hS hQ (fRet (by kernel_rfl) ((congrArg (fun s => outR s 0 c31.res) (by kernel_rfl : finSt c31.fin _ = f31_fin z6.1 z6.2.1 z6.2.2 0)).trans (f31_out z6.1 z6.2.1 z6.2.2 0)))
noncomputable def f31 (a1 : Int) (a2 : Int) (a3 : GPen) : Option (Int × Int × (List GCell) × Int) := ((f37 a1 a2).bind fun z7 => (bif (!decide (z7 = 0)) then (some (0, 0, [], z7)) else (f31_j0 a1 a2 a3 )))
theorem f31_ok (base : Orc) (d : Nat) (hd : 5 ≤ d) (a1 : Int) (a2 : Int) (a3 : GPen) (r : Int × Int × (List GCell) × Int) (hS : f31 a1 a2 a3 = some r) : lev codes base d 31 [(.d (.int .i64 a1)), (.d (.int .i64 a2)), (.agg ((.d (.int .i64 a3.Flags)) :: ((.d (.int .i64 a3.Fore)) :: ((.d (.int .i64 a3.Back)) :: []))))] [] = some ((.tup [(.agg ((.d (.int .i64 r.1)) :: ((.d (.int .i64 r.2.1)) :: ((.r (.own 0 33 4 r.2.2.1.length (e_GCell.cells r.2.2.1))) :: [])))), (.d (.int .i64 r.2.2.2))]), []) := by
  refine lev_go codes31 rfl rfl (Nat.le_trans (Nat.le_of_ble_eq_true rfl) hd) fun Q hQ => ?_
  unfold f31 at hS
  show ZR _ Q c31_b [] _
  replace hQ : ∀ e st', f31_Q r e st' → Q e st' := hQ
  refine zrSeq ?_
  refine zrReg ?_
  refine zlRun (n := 3) (j := 3) rfl (by kernel_rfl) ?_
  refine zlEnd (by kernel_rfl) ?_
  refine zkSeq ?_
  refine zrSeq ?_
  refine zrSeq ?_
  refine zrReg ?_
  refine zlRun (n := 2) (j := 2) rfl (by kernel_rfl) ?_
  refine bindE hS (fun z7 hz7 hS => ?_)
  refine zlOp (d := some 12) (op := (.call 37 [(.tmp 10), (.tmp 11)])) (g := none) (v := (.d (.int .i64 z7))) (ups := []) (j := 3) rfl (by kernel_rfl) (by kernel_rfl) (ev_call (args := [(.d (.int .i64 a1)), (.d (.int .i64 a2))]) (l := [(.d (.int .i64 a1)), (.d (.int .i64 a2))]) (r := (.d (.int .i64 z7))) (by kernel_rfl) (by kernel_rfl) (f37_ok base (d - 1) (dpt hd rfl) a1 a2 z7 hz7) (by kernel_rfl) (by kernel_rfl) (by kernel_rfl)) ?_
  refine zlRun (n := 1) (j := 4) rfl (by kernel_rfl) ?_
  refine zlEnd (by kernel_rfl) ?_
  refine zkSeq ?_
  refine zrSeq ?_
  refine zrReg ?_
  refine zlRun (n := 1) (j := 1) rfl (by kernel_rfl) ?_
  refine zlBool (d := 14) (op := (.cmpI .neq (.tmp 13) (.const (.int .i64 0)))) (g := none) (j := 2) (!decide (z7 = 0)) rfl (by kernel_rfl) (by kernel_rfl) (by kernel_rfl) (fun hc => ?_) (fun hc => ?_)
  · replace hS := cond_t hc hS
    refine zlEnd (by kernel_rfl) ?_
    refine zkSeq ?_
    refine zrCondT (by kernel_rfl) ?_
    refine zrSeq ?_
    refine zrReg ?_
    refine zlRun (n := 4) (j := 4) rfl (by kernel_rfl) ?_
    refine zlEnd (by kernel_rfl) ?_
    refine zkSeq ?_
    refine zrRet ?_
    refine zkSeqR ?_
    refine zkNil ?_
    exact endQ hS hQ (fRet (by kernel_rfl) ((congrArg (fun s => outR s 0 c31.res) (by kernel_rfl : finSt c31.fin _ = f31_fin 0 0 [] z7)).trans (f31_out 0 0 [] z7)))
  · replace hS := cond_f hc hS
    refine zlEnd (by kernel_rfl) ?_
    refine zkSeq ?_
    refine zrCondF (by kernel_rfl) ?_
    refine zrSkip ?_
    refine zkSeq ?_
    exact f31_j0_ok hd a1 a2 a3 hQ  hS (by kernel_rfl)
/- farwriter/width.in -/
def f51_fin (p27 : Bool) : St := ⟨(up (fun _ => .un) 4 (.d (.bool p27))), (hB fun _ => 0)⟩
theorem f51_out (p27 : Bool) : outR (f51_fin p27) 0 c51.res = some ((.d (.bool p27)), []) := by
  kernel_rfl
def f51_Q (r : Bool) (e : PX) (st : St) : Prop := DoneF c51 0 ((.d (.bool r)), []) e st
def f51_l0_J (a1 : Int) (a2 : List (Int × Int)) (x : Int) : St := ⟨(up (up (up (up (fun _ => .un) 9 (.d (.int .i64 x))) 8 (.d (.int .i64 (a2.length : Int)))) 7 (.d (.sl a2.length (e_A61.cells a2)))) 0 (.d (.int .i64 a1))), (hB fun _ => 0)⟩
def f51_l0_H (a1 : Int) (a2 : List (Int × Int)) (x : Int) (st : St) : Prop := keepSt [0, 7, 8, 9] [] [] st = f51_l0_J a1 a2 x
def f51_l0_e0_J (a1 : Int) (a2 : List (Int × Int)) : St := ⟨(fun _ => .un), (hB fun _ => 0)⟩
def f51_l0_X (a1 : Int) (a2 : List (Int × Int)) (z : Unit ⊕ Bool) (e : PX) (st : St) : Prop := (match z with | .inl z => e = .exit 0 ∧ st = f51_l0_e0_J a1 a2 | .inr z => e = .ret ∧ finSt c51.fin st = f51_fin z)
def f51_l0_j2_J (a1 : Int) (a2 : List (Int × Int)) (p32 : Int) : St := ⟨(up (up (up (up (fun _ => .un) 9 (.d (.int .i64 p32))) 8 (.d (.int .i64 (a2.length : Int)))) 7 (.d (.sl a2.length (e_A61.cells a2)))) 0 (.d (.int .i64 a1))), (hB fun _ => 0)⟩
noncomputable def f51_l0_j2 (a1 : Int) (a2 : List (Int × Int)) (p32 : Int) : Option (Int ⊕ (Unit ⊕ Bool)) := ((idx a2 p32).bind fun z4 => (bif (decide (z4.1 ≤ a1)) then (bif (decide (a1 ≤ z4.2)) then (some (.inr (.inr true))) else (some (.inl (IntKind.i64.wrap (p32 + 1))))) else (some (.inl (IntKind.i64.wrap (p32 + 1))))))
theorem f51_l0_j2_ok {base : Orc} {d : Nat} (hd : 1 ≤ d) (a1 : Int) (a2 : List (Int × Int)) {r : Int ⊕ (Unit ⊕ Bool)} {Q : PX → St → Prop} (hQ : ∀ e st', finL (f51_l0_H a1 a2) (f51_l0_X a1 a2) r e st' → Q e st') (p32 : Int) (hS : f51_l0_j2 a1 a2 p32 = some r) {st : St} (he : keepSt [0, 7, 8, 9] [] [] st = f51_l0_j2_J a1 a2 p32) : ZR (lev codes base (d - 1)) Q c51_1 [] st := by
  refine zrKeep he ?_
  unfold f51_l0_j2 at hS
  refine zrSeq ?_
  refine zrBlk ?_
  refine zrSeq ?_
  refine zrReg ?_
  refine bindE hS (fun z4 hz4 hS => ?_)
  refine zlOp (d := some 11) (op := (.ixS 61 2 (.tmp 7) (.tmp 9))) (g := none) (v := (.rptr (e_A61.enc z4 ++ (e_A61.cells (a2.drop ((p32 : Int).toNat + 1)))))) (ups := []) (j := 1) rfl (by kernel_rfl) (by kernel_rfl) (ev_ixS e_A61 (kk := .i64) (xs := a2) (j := p32) (by kernel_rfl) (by kernel_rfl) hz4 rfl (by intro h; cases h)) ?_
  refine zlRun (n := 3) (j := 4) rfl (by kernel_rfl) ?_
  refine zlEnd (by kernel_rfl) ?_
  refine zkSeq ?_
  refine zrSeq ?_
  refine zrReg ?_
  refine zlRun (n := 3) (j := 3) rfl (by kernel_rfl) ?_
  refine zlBool (d := 16) (op := (.cmpI .geq (.tmp 13) (.tmp 15))) (g := none) (j := 4) (decide (z4.1 ≤ a1)) rfl (by kernel_rfl) (by kernel_rfl) (by kernel_rfl) (fun hc => ?_) (fun hc => ?_)
  · replace hS := cond_t hc hS
    refine zlRun (n := 4) (j := 8) rfl (by kernel_rfl) ?_
    refine zlBool (d := 21) (op := (.cmpI .leq (.tmp 18) (.tmp 20))) (g := (some (17, true))) (j := 9) (decide (a1 ≤ z4.2)) rfl (by kernel_rfl) (by kernel_rfl) (by kernel_rfl) (fun hc => ?_) (fun hc => ?_)
    · replace hS := cond_t hc hS
      refine zlRun (n := 1) (j := 10) rfl (by kernel_rfl) ?_
      refine zlEnd (by kernel_rfl) ?_
      refine zkSeq ?_
      refine zrCondT (by kernel_rfl) ?_
      refine zrSeq ?_
      refine zrReg ?_
      refine zlRun (n := 1) (j := 1) rfl (by kernel_rfl) ?_
      refine zlEnd (by kernel_rfl) ?_
      refine zkSeq ?_
      refine zrRet ?_
      refine zkBlkR ?_
      refine zkSeqR ?_
      refine zkNil ?_
      exact endQ hS hQ (finL_x (by intro h; cases h) (by show _ = _ ∧ _ = _; exact ⟨rfl, by kernel_rfl⟩))
    · replace hS := cond_f hc hS
      refine zlRun (n := 1) (j := 10) rfl (by kernel_rfl) ?_
      refine zlEnd (by kernel_rfl) ?_
      refine zkSeq ?_
      refine zrCondF (by kernel_rfl) ?_
      refine zrSkip ?_
      refine zkBlk ?_
      refine zkSeq ?_
      refine zrReg ?_
      refine zlRun (n := 2) (j := 2) rfl (by kernel_rfl) ?_
      refine zlEnd (by kernel_rfl) ?_
      refine zkNil ?_
      exact endQ hS hQ (finL_n (by show keepSt _ _ _ _ = _; kernel_rfl))
  · replace hS := cond_f hc hS
    refine zlRun (n := 6) (j := 10) rfl (by kernel_rfl) ?_
    refine zlEnd (by kernel_rfl) ?_
    refine zkSeq ?_
    refine zrCondF (by kernel_rfl) ?_
    refine zrSkip ?_
    refine zkBlk ?_
    refine zkSeq ?_
    refine zrReg ?_
    refine zlRun (n := 2) (j := 2) rfl (by kernel_rfl) ?_
    refine zlEnd (by kernel_rfl) ?_
    refine zkNil ?_
    exact endQ hS hQ (finL_n (by show keepSt _ _ _ _ = _; kernel_rfl))
def f51_l0_j1_J (a1 : Int) (a2 : List (Int × Int)) (p30 : Int) (p31 : Bool) : St := ⟨(up (up (up (up (up (fun _ => .un) 10 (.d (.bool p31))) 9 (.d (.int .i64 p30))) 8 (.d (.int .i64 (a2.length : Int)))) 7 (.d (.sl a2.length (e_A61.cells a2)))) 0 (.d (.int .i64 a1))), (hB fun _ => 0)⟩
noncomputable def f51_l0_j1 (a1 : Int) (a2 : List (Int × Int)) (p30 : Int) (p31 : Bool) : Option (Int ⊕ (Unit ⊕ Bool)) := (bif p31 then (f51_l0_j2 a1 a2 p30) else (some (.inr (.inl ()))))
theorem f51_l0_j1_ok {base : Orc} {d : Nat} (hd : 1 ≤ d) (a1 : Int) (a2 : List (Int × Int)) {r : Int ⊕ (Unit ⊕ Bool)} {Q : PX → St → Prop} (hQ : ∀ e st', finL (f51_l0_H a1 a2) (f51_l0_X a1 a2) r e st' → Q e st') (p30 : Int) (p31 : Bool) (hS : f51_l0_j1 a1 a2 p30 p31 = some r) {st : St} (he : keepSt [0, 7, 8, 9, 10] [] [] st = f51_l0_j1_J a1 a2 p30 p31) : ZR (lev codes base (d - 1)) Q c51_2 [] st := by
  refine zrKeep he ?_
  unfold f51_l0_j1 at hS
  refine zrSeq ?_
  refine zrSplit 10 p31 (by kernel_rfl) (fun hc => ?_) (fun hc => ?_)
  · replace hS := cond_t hc hS
    refine zrCondT (by kernel_rfl) ?_
    refine zrSkip ?_
    refine zkSeq ?_
    exact f51_l0_j2_ok hd a1 a2 hQ p30 hS (by kernel_rfl)
  · replace hS := cond_f hc hS
    refine zrCondF (by kernel_rfl) ?_
    refine zrKeep (J := f51_l0_e0_J a1 a2) (by kernel_rfl) ?_
    refine zrExit ?_
    refine zkSeqX ?_
    refine zkNil ?_
    exact endQ hS hQ (finL_x (by intro h; cases h) (by show _ = _ ∧ _ = _; exact ⟨rfl, rfl⟩))
noncomputable def f51_l0 (a1 : Int) (a2 : List (Int × Int)) (x : Int) : Option (Int ⊕ (Unit ⊕ Bool)) := (bif (decide (x < (a2.length : Int))) then (f51_l0_j1 a1 a2 x true) else (f51_l0_j1 a1 a2 x false))
theorem f51_l0_ok {base : Orc} {d : Nat} (hd : 1 ≤ d) (a1 : Int) (a2 : List (Int × Int)) {r : Int ⊕ (Unit ⊕ Bool)} {Q : PX → St → Prop} (hQ : ∀ e st', finL (f51_l0_H a1 a2) (f51_l0_X a1 a2) r e st' → Q e st') {x : Int} (hS : f51_l0 a1 a2 x = some r) {st : St} (he : f51_l0_H a1 a2 x st) : ZR (lev codes base (d - 1)) Q c51_3 [] st := by
  refine zrKeep he ?_
  unfold f51_l0 at hS
  refine zrSeq ?_
  refine zrReg ?_
  refine zlBool (d := 10) (op := (.cmpI .lss (.tmp 9) (.tmp 8))) (g := none) (j := 1) (decide (x < (a2.length : Int))) rfl (by kernel_rfl) (by kernel_rfl) (by kernel_rfl) (fun hc => ?_) (fun hc => ?_)
  · replace hS := cond_t hc hS
    refine zlEnd (by kernel_rfl) ?_
    refine zkSeq ?_
    exact f51_l0_j1_ok hd a1 a2 hQ x true hS (by kernel_rfl)
  · replace hS := cond_f hc hS
    refine zlEnd (by kernel_rfl) ?_
    refine zkSeq ?_
    exact f51_l0_j1_ok hd a1 a2 hQ x false hS (by kernel_rfl)
noncomputable def f51 (a1 : Int) (a2 : List (Int × Int)) : Option (Bool) := ((loopO (f51_l0 a1 a2) 0).bind fun z5 => (Sum.elim (fun z6 => (some false)) (fun z7 => (some z7)) z5))
theorem f51_ok (base : Orc) (d : Nat) (hd : 1 ≤ d) (a1 : Int) (a2 : List (Int × Int)) (r : Bool) (hS : f51 a1 a2 = some r) : lev codes base d 51 [(.d (.int .i64 a1)), (.d (.sl a2.length (e_A61.cells a2)))] [] = some ((.d (.bool r)), []) := by
  refine lev_go codes51 rfl rfl (Nat.le_trans (Nat.le_of_ble_eq_true rfl) hd) fun Q hQ => ?_
  unfold f51 at hS
  show ZR _ Q c51_b [] _
  replace hQ : ∀ e st', f51_Q r e st' → Q e st' := hQ
  refine zrSeq ?_
  refine zrReg ?_
  refine zlRun (n := 1) (j := 1) rfl (by kernel_rfl) ?_
  refine zlEnd (by kernel_rfl) ?_
  refine zkSeq ?_
  refine zrSeq ?_
  refine zrSeq ?_
  refine zrReg ?_
  refine zlRun (n := 3) (j := 3) rfl (by kernel_rfl) ?_
  refine zlEnd (by kernel_rfl) ?_
  refine zkSeq ?_
  refine zrBlk ?_
  refine bindE hS (fun z5 hz5 hS => ?_)
  refine zrLoop (f51_l0_H a1 a2) (f51_l0_X a1 a2) (fun x st r Q h0 hS hQ => f51_l0_ok hd a1 a2 hQ hS h0) (x := 0) (z := z5) (by show keepSt _ _ _ _ = _; kernel_rfl) hz5 ?_
  rcases z5 with z6 | z7
  · replace hS := (show _ = _ from hS)
    simp only [Sum.elim_inl] at hS
    intro e st' _ hX
    obtain ⟨rfl, rfl⟩ : _ ∧ _ := hX
    refine zkBlkX ?_
    refine zkSeq ?_
    refine zrSeq ?_
    refine zrReg ?_
    refine zlRun (n := 1) (j := 1) rfl (by kernel_rfl) ?_
    refine zlEnd (by kernel_rfl) ?_
    refine zkSeq ?_
    refine zrRet ?_
    refine zkNil ?_
    exact endQ hS hQ (fRet (by kernel_rfl) ((congrArg (fun s => outR s 0 c51.res) (by kernel_rfl : finSt c51.fin _ = f51_fin false)).trans (f51_out false)))
  · simp only [Sum.elim_inr] at hS
    intro e st' _ hX
    obtain ⟨rfl, hX⟩ : _ ∧ _ := hX
    refine zkBlkR ?_
    refine zkSeqR ?_
    refine zkNil ?_
    exact endQ hS hQ (fRet (by kernel_rfl) ((congrArg (fun s => outR s 0 c51.res) hX).trans (f51_out z7)))
/- farwriter/width.Of -/
def f28_fin (p2 : Int) : St := ⟨(up (fun _ => .un) 2 (.d (.int .i64 p2))), (hB fun _ => 0)⟩
theorem f28_out (p2 : Int) : outR (f28_fin p2) 0 c28.res = some ((.d (.int .i64 p2)), []) := by
  kernel_rfl
def f28_Q (r : Int) (e : PX) (st : St) : Prop := DoneF c28 0 ((.d (.int .i64 r)), []) e st
def f28_j0_J (a1 : Int) (p4 : Bool) : St := ⟨(up (up (up (fun _ => .un) 25 (.d (.bool p4))) 4 (.r (.ptr 40 0 0))) 0 (.d (.int .i64 a1))), (up (hB fun _ => 0) 40 ⟨0, some (.box ((e_A61.row 12 (fun i => ([(4352, 4447), (11904, 12350), (12353, 19903), (19968, 42191), (44032, 55203), (63744, 64255), (65072, 65135), (65280, 65376), (65504, 65510), (127744, 128591), (129280, 129535), (131072, 262141)] : List (Int × Int)).getD i (0, 0))) ++ []))⟩)⟩
noncomputable def f28_j0 (a1 : Int) (p4 : Bool) : Option (Int) := (bif p4 then (some 0) else ((f51 a1 [(4352, 4447), (11904, 12350), (12353, 19903), (19968, 42191), (44032, 55203), (63744, 64255), (65072, 65135), (65280, 65376), (65504, 65510), (127744, 128591), (129280, 129535), (131072, 262141)]).bind fun z4 => (bif z4 then (some 2) else (some 1))))
theorem f28_j0_ok {base : Orc} {d : Nat} (hd : 2 ≤ d) (a1 : Int) {r : Int} {Q : PX → St → Prop} (hQ : ∀ e st', f28_Q r e st' → Q e st') (p4 : Bool) (hS : f28_j0 a1 p4 = some r) {st : St} (he : keepSt [0, 4, 25] [(40, .id 40)] [] st = f28_j0_J a1 p4) : ZR (lev codes base (d - 1)) Q c28_1 [.blk 0, .seq c28_2] st := by
  refine zrKeep he ?_
  unfold f28_j0 at hS
  refine zrSplit 25 p4 (by kernel_rfl) (fun hc => ?_) (fun hc => ?_)
  · replace hS := cond_t hc hS
    refine zrCondT (by kernel_rfl) ?_
    refine zrSeq ?_
    refine zrReg ?_
    refine zlRun (n := 1) (j := 1) rfl (by kernel_rfl) ?_
    refine zlEnd (by kernel_rfl) ?_
    refine zkSeq ?_
    refine zrRet ?_
    refine zkBlkR ?_
    refine zkSeqR ?_
    refine zkNil ?_
    exact endQ hS hQ (fRet (by kernel_rfl) ((congrArg (fun s => outR s 0 c28.res) (by kernel_rfl : finSt c28.fin _ = f28_fin 0)).trans (f28_out 0)))
  · replace hS := cond_f hc hS
    refine zrCondF (by kernel_rfl) ?_
    refine zrSeq ?_
    refine zrReg ?_
    refine zlRun (n := 2) (j := 2) rfl (by kernel_rfl) ?_
    refine bindE hS (fun z4 hz4 hS => ?_)
    refine zlOp (d := some 40) (op := (.call 51 [(.tmp 38), (.tmp 39)])) (g := none) (v := (.d (.bool z4))) (ups := []) (j := 3) rfl (by kernel_rfl) (by kernel_rfl) (ev_call (args := [(.d (.int .i64 a1)), (.d (.sl ([(4352, 4447), (11904, 12350), (12353, 19903), (19968, 42191), (44032, 55203), (63744, 64255), (65072, 65135), (65280, 65376), (65504, 65510), (127744, 128591), (129280, 129535), (131072, 262141)] : List (Int × Int)).length (e_A61.cells ([(4352, 4447), (11904, 12350), (12353, 19903), (19968, 42191), (44032, 55203), (63744, 64255), (65072, 65135), (65280, 65376), (65504, 65510), (127744, 128591), (129280, 129535), (131072, 262141)]))))]) (l := [(.d (.int .i64 a1)), (.d (.sl ([(4352, 4447), (11904, 12350), (12353, 19903), (19968, 42191), (44032, 55203), (63744, 64255), (65072, 65135), (65280, 65376), (65504, 65510), (127744, 128591), (129280, 129535), (131072, 262141)] : List (Int × Int)).length (e_A61.cells ([(4352, 4447), (11904, 12350), (12353, 19903), (19968, 42191), (44032, 55203), (63744, 64255), (65072, 65135), (65280, 65376), (65504, 65510), (127744, 128591), (129280, 129535), (131072, 262141)]))))]) (r := (.d (.bool z4))) (by kernel_rfl) (by kernel_rfl) (f51_ok base (d - 1) (dpt hd rfl) a1 [(4352, 4447), (11904, 12350), (12353, 19903), (19968, 42191), (44032, 55203), (63744, 64255), (65072, 65135), (65280, 65376), (65504, 65510), (127744, 128591), (129280, 129535), (131072, 262141)] z4 hz4) (by kernel_rfl) (by kernel_rfl) (by kernel_rfl)) ?_
    refine zlRun (n := 1) (j := 4) rfl (by kernel_rfl) ?_
    refine zlEnd (by kernel_rfl) ?_
    refine zkSeq ?_
    refine zrSplit 37 z4 (by kernel_rfl) (fun hc => ?_) (fun hc => ?_)
    · replace hS := cond_t hc hS
      refine zrCondT (by kernel_rfl) ?_
      refine zrSeq ?_
      refine zrReg ?_
      refine zlRun (n := 1) (j := 1) rfl (by kernel_rfl) ?_
      refine zlEnd (by kernel_rfl) ?_
      refine zkSeq ?_
      refine zrRet ?_
      refine zkBlkR ?_
      refine zkSeqR ?_
      refine zkNil ?_
      exact endQ hS hQ (fRet (by kernel_rfl) ((congrArg (fun s => outR s 0 c28.res) (by kernel_rfl : finSt c28.fin _ = f28_fin 2)).trans (f28_out 2)))
    · replace hS := cond_f hc hS
      refine zrCondF (by kernel_rfl) ?_
      refine zrSkip ?_
      refine zkBlk ?_
      refine zkSeq ?_
      refine zrSeq ?_
      refine zrReg ?_
      refine zlRun (n := 1) (j := 1) rfl (by kernel_rfl) ?_
      refine zlEnd (by kernel_rfl) ?_
      refine zkSeq ?_
      refine zrRet ?_
      refine zkNil ?_
      exact endQ hS hQ (fRet (by kernel_rfl) ((congrArg (fun s => outR s 0 c28.res) (by kernel_rfl : finSt c28.fin _ = f28_fin 1)).trans (f28_out 1)))
noncomputable def f28 (a1 : Int) : Option (Int) := (bif (decide (a1 < 0)) then (f28_j0 a1 true) else (bif (decide (1114111 < a1)) then (f28_j0 a1 true) else ((f51 a1 [(0, 31), (127, 159), (768, 879), (8203, 8207), (55296, 57343), (65024, 65039)]).bind fun z5 => (f28_j0 a1 z5))))
theorem f28_ok (base : Orc) (d : Nat) (hd : 2 ≤ d) (a1 : Int) (r : Int) (hS : f28 a1 = some r) : lev codes base d 28 [(.d (.int .i64 a1))] [] = some ((.d (.int .i64 r)), []) := by
  refine lev_go codes28 rfl rfl (Nat.le_trans (Nat.le_of_ble_eq_true rfl) hd) fun Q hQ => ?_
  unfold f28 at hS
  show ZR _ Q c28_b [] _
  replace hQ : ∀ e st', f28_Q r e st' → Q e st' := hQ
  refine zrSeq ?_
  refine zrReg ?_
  refine zlRun (n := 1) (j := 1) rfl (by kernel_rfl) ?_
  refine zlEnd (by kernel_rfl) ?_
  refine zkSeq ?_
  refine zrSeq ?_
  refine zrReg ?_
  refine zlRun (n := 9) (j := 9) rfl (by kernel_rfl) ?_
  refine zlEnd (by kernel_rfl) ?_
  refine zkSeq ?_
  refine zrSeq ?_
  refine zrReg ?_
  refine zlRun (n := 15) (j := 15) rfl (by kernel_rfl) ?_
  refine zlEnd (by kernel_rfl) ?_
  refine zkSeq ?_
  refine zrSeq ?_
  refine zrBlk ?_
  refine zrSeq ?_
  refine zrReg ?_
  refine zlRun (n := 1) (j := 1) rfl (by kernel_rfl) ?_
  refine zlBool (d := 27) (op := (.cmpI .lss (.tmp 26) (.const (.int .i64 0)))) (g := none) (j := 2) (decide (a1 < 0)) rfl (by kernel_rfl) (by kernel_rfl) (by kernel_rfl) (fun hc => ?_) (fun hc => ?_)
  · replace hS := cond_t hc hS
    refine zlRun (n := 10) (j := 12) rfl (by kernel_rfl) ?_
    refine zlEnd (by kernel_rfl) ?_
    refine zkSeq ?_
    exact f28_j0_ok hd a1 hQ true hS (by kernel_rfl)
  · replace hS := cond_f hc hS
    refine zlRun (n := 2) (j := 4) rfl (by kernel_rfl) ?_
    refine zlBool (d := 30) (op := (.cmpI .gtr (.tmp 29) (.const (.int .i64 1114111)))) (g := (some (28, false))) (j := 5) (decide (1114111 < a1)) rfl (by kernel_rfl) (by kernel_rfl) (by kernel_rfl) (fun hc => ?_) (fun hc => ?_)
    · replace hS := cond_t hc hS
      refine zlRun (n := 7) (j := 12) rfl (by kernel_rfl) ?_
      refine zlEnd (by kernel_rfl) ?_
      refine zkSeq ?_
      exact f28_j0_ok hd a1 hQ true hS (by kernel_rfl)
    · replace hS := cond_f hc hS
      refine zlRun (n := 4) (j := 9) rfl (by kernel_rfl) ?_
      refine bindE hS (fun z5 hz5 hS => ?_)
      refine zlOp (d := some 35) (op := (.call 51 [(.tmp 33), (.tmp 34)])) (g := (some (32, false))) (v := (.d (.bool z5))) (ups := []) (j := 10) rfl (by kernel_rfl) (by kernel_rfl) (ev_call (args := [(.d (.int .i64 a1)), (.d (.sl ([(0, 31), (127, 159), (768, 879), (8203, 8207), (55296, 57343), (65024, 65039)] : List (Int × Int)).length (e_A61.cells ([(0, 31), (127, 159), (768, 879), (8203, 8207), (55296, 57343), (65024, 65039)]))))]) (l := [(.d (.int .i64 a1)), (.d (.sl ([(0, 31), (127, 159), (768, 879), (8203, 8207), (55296, 57343), (65024, 65039)] : List (Int × Int)).length (e_A61.cells ([(0, 31), (127, 159), (768, 879), (8203, 8207), (55296, 57343), (65024, 65039)]))))]) (r := (.d (.bool z5))) (by kernel_rfl) (by kernel_rfl) (f51_ok base (d - 1) (dpt hd rfl) a1 [(0, 31), (127, 159), (768, 879), (8203, 8207), (55296, 57343), (65024, 65039)] z5 hz5) (by kernel_rfl) (by kernel_rfl) (by kernel_rfl)) ?_
      refine zlRun (n := 2) (j := 12) rfl (by kernel_rfl) ?_
      refine zlEnd (by kernel_rfl) ?_
      refine zkSeq ?_
      exact f28_j0_ok hd a1 hQ z5 hS (by kernel_rfl)
/- farwriter/grid.row -/
def f33_fin (p1 : List GCell) : St := ⟨(up (up (fun _ => .un) 2000000 .un) 4 (.d (.sl p1.length (e_GCell.cells p1)))), (up (hB fun _ => 0) 0 ⟨0, none⟩)⟩
theorem f33_out (p1 : List GCell) : outR (f33_fin p1) 0 c33.res = some ((.d (.sl p1.length (e_GCell.cells p1))), []) := by
  kernel_rfl
def f33_Q (r : (List GCell)) (e : PX) (st : St) : Prop := DoneF c33 0 ((.d (.sl r.length (e_GCell.cells r))), [.box []]) e st
noncomputable def f33 (a1 : GGrid) (a2 : Int) : Option ((List GCell)) := ((sub? a1.Cells (IntKind.i64.wrap (a2 * a1.Wide)) (IntKind.i64.wrap ((IntKind.i64.wrap (a2 + 1)) * a1.Wide))).bind fun z2 => (some z2))
theorem f33_ok (base : Orc) (d : Nat) (hd : 1 ≤ d) (a1 : GGrid) (a2 : Int) (r : (List GCell)) (hS : f33 a1 a2 = some r) : lev codes base d 33 [(.agg ((.d (.int .i64 a1.Wide)) :: ((.d (.int .i64 a1.High)) :: ((.d (.sl a1.Cells.length (e_GCell.cells a1.Cells))) :: [])))), (.d (.int .i64 a2))] [] = some ((.d (.sl r.length (e_GCell.cells r))), [.box []]) := by
  refine lev_go codes33 rfl rfl (Nat.le_trans (Nat.le_of_ble_eq_true rfl) hd) fun Q hQ => ?_
  unfold f33 at hS
  show ZR _ Q c33_b [] _
  replace hQ : ∀ e st', f33_Q r e st' → Q e st' := hQ
  refine zrSeq ?_
  refine zrReg ?_
  refine zlRun (n := 2) (j := 2) rfl (by kernel_rfl) ?_
  refine zlEnd (by kernel_rfl) ?_
  refine zkSeq ?_
  refine zrSeq ?_
  refine zrReg ?_
  refine zlRun (n := 11) (j := 11) rfl (by kernel_rfl) ?_
  refine bindE hS (fun z2 hz2 hS => ?_)
  refine zlOp (d := some 16) (op := (.slS 33 4 (.tmp 6) (.some (.tmp 10)) (.some (.tmp 15)))) (g := none) (v := (.d (.sl z2.length (e_GCell.cells z2)))) (ups := []) (j := 12) rfl (by kernel_rfl) (by kernel_rfl) (ev_slS e_GCell (xs := a1.Cells) (a := (IntKind.i64.wrap (a2 * a1.Wide))) (c := (IntKind.i64.wrap ((IntKind.i64.wrap (a2 + 1)) * a1.Wide))) (by kernel_rfl) rfl (bnd_s _ (kk := .i64) (j := (IntKind.i64.wrap (a2 * a1.Wide))) (by kernel_rfl)) (bnd_s _ (kk := .i64) (j := (IntKind.i64.wrap ((IntKind.i64.wrap (a2 + 1)) * a1.Wide))) (by kernel_rfl)) hz2) ?_
  refine zlRun (n := 1) (j := 13) rfl (by kernel_rfl) ?_
  refine zlEnd (by kernel_rfl) ?_
  refine zkSeq ?_
  refine zrRet ?_
  refine zkNil ?_
  exact endQ hS hQ (fRetX (by kernel_rfl) (by kernel_rfl : finSt c33.fin _ = f33_fin z2) (by kernel_rfl) (f33_out z2))
/- farwriter/grid.lone$1 -/
def f58_fin (p4 : Bool) : St := ⟨(up (fun _ => .un) 3 (.d (.bool p4))), (hB fun _ => 0)⟩
theorem f58_out (p4 : Bool) : outR (f58_fin p4) 0 c58.res = some ((.d (.bool p4)), []) := by
  kernel_rfl
def f58_Q (r : Bool) (e : PX) (st : St) : Prop := DoneF c58 0 ((.d (.bool r)), []) e st
noncomputable def f58 (a1 : Int) (a2 : List GCell) (a3 : List PD) : Option (Bool) := (bif (decide (a1 < (a2.length : Int))) then ((idx a2 a1).bind fun z4 => (bif (decide (z4.Rune = 0)) then ((idx a2 a1).bind fun z5 => ((idx a2 (IntKind.i64.wrap (a1 - 1))).bind fun z6 => (bif (decide (z5.Pen.Flags = z6.Pen.Flags) && (decide (z5.Pen.Fore = z6.Pen.Fore) && (decide (z5.Pen.Back = z6.Pen.Back) && true))) then (some true) else (some false)))) else (some false))) else (some false))
theorem f58_ok (base : Orc) (d : Nat) (hd : 1 ≤ d) (a1 : Int) (a2 : List GCell) (a3 : List PD) (r : Bool) (hS : f58 a1 a2 a3 = some r) : lev codes base d 58 [(.d (.int .i64 a1)), (.rptr ((eSl e_GCell).enc a2 ++ a3))] [] = some ((.d (.bool r)), []) := by
  refine lev_go codes58 rfl rfl (Nat.le_trans (Nat.le_of_ble_eq_true rfl) hd) fun Q hQ => ?_
  unfold f58 at hS
  show ZR _ Q c58_b [] _
  replace hQ : ∀ e st', f58_Q r e st' → Q e st' := hQ
  refine zrSeq ?_
  refine zrReg ?_
  refine zlRun (n := 1) (j := 1) rfl (by kernel_rfl) ?_
  refine zlEnd (by kernel_rfl) ?_
  refine zkSeq ?_
  refine zrSeq ?_
  refine zrRegD ?_
  refine zdRun (n := 3) (j := 3) (ts := [[], [], []]) (acc' := [[], [], []]) rfl (by kernel_rfl) (by kernel_rfl) (by kernel_rfl) ?_
  refine zdBool (d := 7) (op := (.cmpI .lss (.tmp 4) (.tmp 6))) (g := none) (j := 4) (t1 := []) (acc' := [[], [], [], []]) (decide (a1 < (a2.length : Int))) (by kernel_rfl) (by kernel_rfl) rfl (by kernel_rfl) (by kernel_rfl) (by kernel_rfl) (fun hc => ?_) (fun hc => ?_)
  · replace hS := cond_t hc hS
    refine zdRun (n := 3) (j := 7) (ts := [[], [], []]) (acc' := [[], [], [], [], [], [], []]) rfl (by kernel_rfl) (by kernel_rfl) (by kernel_rfl) ?_
    refine bindE hS (fun z4 hz4 hS => ?_)
    refine zdOp (d := some 11) (op := (.ixS 33 4 (.tmp 9) (.tmp 10))) (g := (some (8, true))) (v := (.rptr (e_GCell.enc z4 ++ (e_GCell.cells (a2.drop ((a1 : Int).toNat + 1)))))) (ups := []) (j := 8) (t1 := []) (acc' := [[], [], [], [], [], [], [], []]) (by kernel_rfl) (by kernel_rfl) rfl (by kernel_rfl) (by kernel_rfl) (ev_ixS e_GCell (kk := .i64) (xs := a2) (j := a1) (by kernel_rfl) (by kernel_rfl) hz4 rfl (by intro h; cases h)) ?_
    refine zdRun (n := 2) (j := 10) (ts := [[], []]) (acc' := [[], [], [], [], [], [], [], [], [], []]) rfl (by kernel_rfl) (by kernel_rfl) (by kernel_rfl) ?_
    refine zdBool (d := 14) (op := (.cmpI .eql (.tmp 13) (.const (.int .i64 0)))) (g := (some (8, true))) (j := 11) (t1 := []) (acc' := [[], [], [], [], [], [], [], [], [], [], []]) (decide (z4.Rune = 0)) (by kernel_rfl) (by kernel_rfl) rfl (by kernel_rfl) (by kernel_rfl) (by kernel_rfl) (fun hc => ?_) (fun hc => ?_)
    · replace hS := cond_t hc hS
      refine zdRun (n := 4) (j := 15) (ts := [[], [], [], []]) (acc' := [[], [], [], [], [], [], [], [], [], [], [], [], [], [], []]) rfl (by kernel_rfl) (by kernel_rfl) (by kernel_rfl) ?_
      refine bindE hS (fun z5 hz5 hS => ?_)
      refine zdOp (d := some 19) (op := (.ixS 33 4 (.tmp 17) (.tmp 18))) (g := (some (16, true))) (v := (.rptr (e_GCell.enc z5 ++ (e_GCell.cells (a2.drop ((a1 : Int).toNat + 1)))))) (ups := []) (j := 16) (t1 := []) (acc' := [[], [], [], [], [], [], [], [], [], [], [], [], [], [], [], []]) (by kernel_rfl) (by kernel_rfl) rfl (by kernel_rfl) (by kernel_rfl) (ev_ixS e_GCell (kk := .i64) (xs := a2) (j := a1) (by kernel_rfl) (by kernel_rfl) hz5 rfl (by intro h; cases h)) ?_
      refine zdRun (n := 5) (j := 21) (ts := [[], [], [], [], []]) (acc' := [[], [], [], [], [], [], [], [], [], [], [], [], [], [], [], [], [], [], [], [], []]) rfl (by kernel_rfl) (by kernel_rfl) (by kernel_rfl) ?_
      refine bindE hS (fun z6 hz6 hS => ?_)
      refine zdOp (d := some 25) (op := (.ixS 33 4 (.tmp 22) (.tmp 24))) (g := (some (16, true))) (v := (.rptr (e_GCell.enc z6 ++ (e_GCell.cells (a2.drop (((IntKind.i64.wrap (a1 - 1)) : Int).toNat + 1)))))) (ups := []) (j := 22) (t1 := []) (acc' := [[], [], [], [], [], [], [], [], [], [], [], [], [], [], [], [], [], [], [], [], [], []]) (by kernel_rfl) (by kernel_rfl) rfl (by kernel_rfl) (by kernel_rfl) (ev_ixS e_GCell (kk := .i64) (xs := a2) (j := (IntKind.i64.wrap (a1 - 1))) (by kernel_rfl) (by kernel_rfl) hz6 rfl (by intro h; cases h)) ?_
      refine zdRun (n := 2) (j := 24) (ts := [[], []]) (acc' := [[], [], [], [], [], [], [], [], [], [], [], [], [], [], [], [], [], [], [], [], [], [], [], []]) rfl (by kernel_rfl) (by kernel_rfl) (by kernel_rfl) ?_
      refine zdBool (d := 28) (op := (.eqA .false [(3, .int)] (.tmp 21) (.tmp 27))) (g := (some (16, true))) (j := 25) (t1 := []) (acc' := [[], [], [], [], [], [], [], [], [], [], [], [], [], [], [], [], [], [], [], [], [], [], [], [], []]) (decide (z5.Pen.Flags = z6.Pen.Flags) && (decide (z5.Pen.Fore = z6.Pen.Fore) && (decide (z5.Pen.Back = z6.Pen.Back) && true))) (by kernel_rfl) (by kernel_rfl) rfl (by kernel_rfl) (by kernel_rfl) (by kernel_rfl) (fun hc => ?_) (fun hc => ?_)
      · replace hS := cond_t hc hS
        refine zdRun (n := 2) (j := 27) (ts := [[], []]) (acc' := [[], [], [], [], [], [], [], [], [], [], [], [], [], [], [], [], [], [], [], [], [], [], [], [], [], [], []]) rfl (by kernel_rfl) (by kernel_rfl) (by kernel_rfl) ?_
        refine zdEnd (by kernel_rfl) (by kernel_rfl) ?_
        refine zkSeq ?_
        refine zrRet ?_
        refine zkNil ?_
        exact endQ hS hQ (fRet (by kernel_rfl) ((congrArg (fun s => outR s 0 c58.res) (by kernel_rfl : finSt c58.fin _ = f58_fin true)).trans (f58_out true)))
      · replace hS := cond_f hc hS
        refine zdRun (n := 2) (j := 27) (ts := [[], []]) (acc' := [[], [], [], [], [], [], [], [], [], [], [], [], [], [], [], [], [], [], [], [], [], [], [], [], [], [], []]) rfl (by kernel_rfl) (by kernel_rfl) (by kernel_rfl) ?_
        refine zdEnd (by kernel_rfl) (by kernel_rfl) ?_
        refine zkSeq ?_
        refine zrRet ?_
        refine zkNil ?_
        exact endQ hS hQ (fRet (by kernel_rfl) ((congrArg (fun s => outR s 0 c58.res) (by kernel_rfl : finSt c58.fin _ = f58_fin false)).trans (f58_out false)))
    · replace hS := cond_f hc hS
      refine zdRun (n := 16) (j := 27) (ts := [[], [], [], [], [], [], [], [], [], [], [], [], [], [], [], []]) (acc' := [[], [], [], [], [], [], [], [], [], [], [], [], [], [], [], [], [], [], [], [], [], [], [], [], [], [], []]) rfl (by kernel_rfl) (by kernel_rfl) (by kernel_rfl) ?_
      refine zdEnd (by kernel_rfl) (by kernel_rfl) ?_
      refine zkSeq ?_
      refine zrRet ?_
      refine zkNil ?_
      exact endQ hS hQ (fRet (by kernel_rfl) ((congrArg (fun s => outR s 0 c58.res) (by kernel_rfl : finSt c58.fin _ = f58_fin false)).trans (f58_out false)))
  · replace hS := cond_f hc hS
    refine zdRun (n := 23) (j := 27) (ts := [[], [], [], [], [], [], [], [], [], [], [], [], [], [], [], [], [], [], [], [], [], [], []]) (acc' := [[], [], [], [], [], [], [], [], [], [], [], [], [], [], [], [], [], [], [], [], [], [], [], [], [], [], []]) rfl (by kernel_rfl) (by kernel_rfl) (by kernel_rfl) ?_
    refine zdEnd (by kernel_rfl) (by kernel_rfl) ?_
    refine zkSeq ?_
    refine zrRet ?_
    refine zkNil ?_
    exact endQ hS hQ (fRet (by kernel_rfl) ((congrArg (fun s => outR s 0 c58.res) (by kernel_rfl : finSt c58.fin _ = f58_fin false)).trans (f58_out false)))
/- farwriter/grid.lone -/
def f39_fin (p4 : Bool) : St := ⟨(up (fun _ => .un) 4 (.d (.bool p4))), (hB fun _ => 0)⟩
theorem f39_out (p4 : Bool) : outR (f39_fin p4) 0 c39.res = some ((.d (.bool p4)), []) := by
  kernel_rfl
def f39_Q (r : Bool) (e : PX) (st : St) : Prop := DoneF c39 0 ((.d (.bool r)), []) e st
def f39_j0_J (a1 : List GCell) (a2 : Int) : St := ⟨(up (up (up (fun _ => .un) 5 (.fn 58 [(.r (.ptr 24 0 0))])) 2 (.r (.ptr 24 0 0))) 1 (.d (.int .i64 a2))), (up (hB fun _ => 0) 24 ⟨0, some (.box ((.d (.sl a1.length (e_GCell.cells a1))) :: []))⟩)⟩
noncomputable def f39_j0 (a1 : List GCell) (a2 : Int) : Option (Bool) := ((idx a1 a2).bind fun z12 => ((f28 z12.Rune).bind fun z13 => (bif (decide (z13 = 2)) then ((f58 (IntKind.i64.wrap (a2 + 1)) a1 []).bind fun z14 => (some (!z14))) else (some false))))
theorem f39_j0_ok {base : Orc} {d : Nat} (hd : 3 ≤ d) (a1 : List GCell) (a2 : Int) {r : Bool} {Q : PX → St → Prop} (hQ : ∀ e st', f39_Q r e st' → Q e st')  (hS : f39_j0 a1 a2 = some r) {st : St} (he : keepSt [1, 2, 5] [(24, .id 24)] [] st = f39_j0_J a1 a2) : ZR (lev codes base (d - 1)) Q c39_1 [] st := by
  refine zrKeep he ?_
  unfold f39_j0 at hS
  refine zrSeq ?_
  refine zrReg ?_
  refine zlRun (n := 2) (j := 2) rfl (by kernel_rfl) ?_
  refine bindE hS (fun z12 hz12 hS => ?_)
  refine zlOp (d := some 33) (op := (.ixS 33 4 (.tmp 31) (.tmp 32))) (g := none) (v := (.rptr (e_GCell.enc z12 ++ (e_GCell.cells (a1.drop ((a2 : Int).toNat + 1)))))) (ups := []) (j := 3) rfl (by kernel_rfl) (by kernel_rfl) (ev_ixS e_GCell (kk := .i64) (xs := a1) (j := a2) (by kernel_rfl) (by kernel_rfl) hz12 rfl (by intro h; cases h)) ?_
  refine zlRun (n := 2) (j := 5) rfl (by kernel_rfl) ?_
  refine bindE hS (fun z13 hz13 hS => ?_)
  refine zlOp (d := some 36) (op := (.call 28 [(.tmp 35)])) (g := none) (v := (.d (.int .i64 z13))) (ups := []) (j := 6) rfl (by kernel_rfl) (by kernel_rfl) (ev_call (args := [(.d (.int .i64 z12.Rune))]) (l := [(.d (.int .i64 z12.Rune))]) (r := (.d (.int .i64 z13))) (by kernel_rfl) (by kernel_rfl) (f28_ok base (d - 1) (dpt hd rfl) z12.Rune z13 hz13) (by kernel_rfl) (by kernel_rfl) (by kernel_rfl)) ?_
  refine zlBool (d := 37) (op := (.cmpI .eql (.tmp 36) (.const (.int .i64 2)))) (g := none) (j := 7) (decide (z13 = 2)) rfl (by kernel_rfl) (by kernel_rfl) (by kernel_rfl) (fun hc => ?_) (fun hc => ?_)
  · replace hS := cond_t hc hS
    refine zlRun (n := 4) (j := 11) rfl (by kernel_rfl) ?_
    refine bindE hS (fun z14 hz14 hS => ?_)
    refine zlOp (d := some 42) (op := (.callv (.tmp 39) [(.tmp 41)])) (g := (some (38, true))) (v := (.d (.bool z14))) (ups := []) (j := 12) rfl (by kernel_rfl) (by kernel_rfl) (ev_callv (f := 58) (cs := [(.r (.ptr 24 0 0))]) (by kernel_rfl) (args := [(.d (.int .i64 (IntKind.i64.wrap (a2 + 1)))), (.r (.ptr 24 0 0))]) (l := [(.d (.int .i64 (IntKind.i64.wrap (a2 + 1)))), (.rptr ((eSl e_GCell).enc a1 ++ []))]) (r := (.d (.bool z14))) (by kernel_rfl) (by kernel_rfl) (f58_ok base (d - 1) (dpt hd rfl) (IntKind.i64.wrap (a2 + 1)) a1 [] z14 hz14) (by kernel_rfl) (by kernel_rfl) (by kernel_rfl)) ?_
    refine zlRun (n := 3) (j := 15) rfl (by kernel_rfl) ?_
    refine zlEnd (by kernel_rfl) ?_
    refine zkSeq ?_
    refine zrRet ?_
    refine zkNil ?_
    exact endQ hS hQ (fRet (by kernel_rfl) ((congrArg (fun s => outR s 0 c39.res) (by kernel_rfl : finSt c39.fin _ = f39_fin (!z14))).trans (f39_out (!z14))))
  · replace hS := cond_f hc hS
    refine zlRun (n := 8) (j := 15) rfl (by kernel_rfl) ?_
    refine zlEnd (by kernel_rfl) ?_
    refine zkSeq ?_
    refine zrRet ?_
    refine zkNil ?_
    exact endQ hS hQ (fRet (by kernel_rfl) ((congrArg (fun s => outR s 0 c39.res) (by kernel_rfl : finSt c39.fin _ = f39_fin false)).trans (f39_out false)))
noncomputable def f39 (a1 : List GCell) (a2 : Int) : Option (Bool) := ((idx a1 a2).bind fun z16 => (bif (decide (z16.Rune = 0)) then (bif (decide (a2 = 0)) then (some true) else ((idx a1 (IntKind.i64.wrap (a2 - 1))).bind fun z17 => ((f28 z17.Rune).bind fun z18 => (bif (!decide (z18 = 2)) then (some true) else ((f58 a2 a1 []).bind fun z19 => (some (!z19))))))) else (f39_j0 a1 a2 )))
theorem f39_ok (base : Orc) (d : Nat) (hd : 3 ≤ d) (a1 : List GCell) (a2 : Int) (r : Bool) (hS : f39 a1 a2 = some r) : lev codes base d 39 [(.d (.sl a1.length (e_GCell.cells a1))), (.d (.int .i64 a2))] [] = some ((.d (.bool r)), []) := by
  refine lev_go codes39 rfl rfl (Nat.le_trans (Nat.le_of_ble_eq_true rfl) hd) fun Q hQ => ?_
  unfold f39 at hS
  show ZR _ Q c39_b [] _
  replace hQ : ∀ e st', f39_Q r e st' → Q e st' := hQ
  refine zrSeq ?_
  refine zrReg ?_
  refine zlRun (n := 2) (j := 2) rfl (by kernel_rfl) ?_
  refine zlEnd (by kernel_rfl) ?_
  refine zkSeq ?_
  refine zrSeq ?_
  refine zrReg ?_
  refine zlRun (n := 2) (j := 2) rfl (by kernel_rfl) ?_
  refine zlEnd (by kernel_rfl) ?_
  refine zkSeq ?_
  refine zrSeq ?_
  refine zrSeq ?_
  refine zrReg ?_
  refine zlRun (n := 2) (j := 2) rfl (by kernel_rfl) ?_
  refine bindE hS (fun z16 hz16 hS => ?_)
  refine zlOp (d := some 9) (op := (.ixS 33 4 (.tmp 7) (.tmp 8))) (g := none) (v := (.rptr (e_GCell.enc z16 ++ (e_GCell.cells (a1.drop ((a2 : Int).toNat + 1)))))) (ups := []) (j := 3) rfl (by kernel_rfl) (by kernel_rfl) (ev_ixS e_GCell (kk := .i64) (xs := a1) (j := a2) (by kernel_rfl) (by kernel_rfl) hz16 rfl (by intro h; cases h)) ?_
  refine zlRun (n := 2) (j := 5) rfl (by kernel_rfl) ?_
  refine zlBool (d := 12) (op := (.cmpI .eql (.tmp 11) (.const (.int .i64 0)))) (g := none) (j := 6) (decide (z16.Rune = 0)) rfl (by kernel_rfl) (by kernel_rfl) (by kernel_rfl) (fun hc => ?_) (fun hc => ?_)
  · replace hS := cond_t hc hS
    refine zlEnd (by kernel_rfl) ?_
    refine zkSeq ?_
    refine zrCondT (by kernel_rfl) ?_
    refine zrSeq ?_
    refine zrReg ?_
    refine zlRun (n := 1) (j := 1) rfl (by kernel_rfl) ?_
    refine zlBool (d := 14) (op := (.cmpI .eql (.tmp 13) (.const (.int .i64 0)))) (g := none) (j := 2) (decide (a2 = 0)) rfl (by kernel_rfl) (by kernel_rfl) (by kernel_rfl) (fun hc => ?_) (fun hc => ?_)
    · replace hS := cond_t hc hS
      refine zlRun (n := 17) (j := 19) rfl (by kernel_rfl) ?_
      refine zlEnd (by kernel_rfl) ?_
      refine zkSeq ?_
      refine zrRet ?_
      refine zkSeqR ?_
      refine zkNil ?_
      exact endQ hS hQ (fRet (by kernel_rfl) ((congrArg (fun s => outR s 0 c39.res) (by kernel_rfl : finSt c39.fin _ = f39_fin true)).trans (f39_out true)))
    · replace hS := cond_f hc hS
      refine zlRun (n := 4) (j := 6) rfl (by kernel_rfl) ?_
      refine bindE hS (fun z17 hz17 hS => ?_)
      refine zlOp (d := some 19) (op := (.ixS 33 4 (.tmp 16) (.tmp 18))) (g := (some (15, false))) (v := (.rptr (e_GCell.enc z17 ++ (e_GCell.cells (a1.drop (((IntKind.i64.wrap (a2 - 1)) : Int).toNat + 1)))))) (ups := []) (j := 7) rfl (by kernel_rfl) (by kernel_rfl) (ev_ixS e_GCell (kk := .i64) (xs := a1) (j := (IntKind.i64.wrap (a2 - 1))) (by kernel_rfl) (by kernel_rfl) hz17 rfl (by intro h; cases h)) ?_
      refine zlRun (n := 2) (j := 9) rfl (by kernel_rfl) ?_
      refine bindE hS (fun z18 hz18 hS => ?_)
      refine zlOp (d := some 22) (op := (.call 28 [(.tmp 21)])) (g := (some (15, false))) (v := (.d (.int .i64 z18))) (ups := []) (j := 10) rfl (by kernel_rfl) (by kernel_rfl) (ev_call (args := [(.d (.int .i64 z17.Rune))]) (l := [(.d (.int .i64 z17.Rune))]) (r := (.d (.int .i64 z18))) (by kernel_rfl) (by kernel_rfl) (f28_ok base (d - 1) (dpt hd rfl) z17.Rune z18 hz18) (by kernel_rfl) (by kernel_rfl) (by kernel_rfl)) ?_
      refine zlBool (d := 23) (op := (.cmpI .neq (.tmp 22) (.const (.int .i64 2)))) (g := (some (15, false))) (j := 11) (!decide (z18 = 2)) rfl (by kernel_rfl) (by kernel_rfl) (by kernel_rfl) (fun hc => ?_) (fun hc => ?_)
      · replace hS := cond_t hc hS
        refine zlRun (n := 8) (j := 19) rfl (by kernel_rfl) ?_
        refine zlEnd (by kernel_rfl) ?_
        refine zkSeq ?_
        refine zrRet ?_
        refine zkSeqR ?_
        refine zkNil ?_
        exact endQ hS hQ (fRet (by kernel_rfl) ((congrArg (fun s => outR s 0 c39.res) (by kernel_rfl : finSt c39.fin _ = f39_fin true)).trans (f39_out true)))
      · replace hS := cond_f hc hS
        refine zlRun (n := 4) (j := 15) rfl (by kernel_rfl) ?_
        refine bindE hS (fun z19 hz19 hS => ?_)
        refine zlOp (d := some 28) (op := (.callv (.tmp 26) [(.tmp 27)])) (g := (some (25, false))) (v := (.d (.bool z19))) (ups := []) (j := 16) rfl (by kernel_rfl) (by kernel_rfl) (ev_callv (f := 58) (cs := [(.r (.ptr 24 1 0))]) (by kernel_rfl) (args := [(.d (.int .i64 a2)), (.r (.ptr 24 1 0))]) (l := [(.d (.int .i64 a2)), (.rptr ((eSl e_GCell).enc a1 ++ []))]) (r := (.d (.bool z19))) (by kernel_rfl) (by kernel_rfl) (f58_ok base (d - 1) (dpt hd rfl) a2 a1 [] z19 hz19) (by kernel_rfl) (by kernel_rfl) (by kernel_rfl)) ?_
        refine zlRun (n := 3) (j := 19) rfl (by kernel_rfl) ?_
        refine zlEnd (by kernel_rfl) ?_
        refine zkSeq ?_
        refine zrRet ?_
        refine zkSeqR ?_
        refine zkNil ?_
        exact endQ hS hQ (fRet (by kernel_rfl) ((congrArg (fun s => outR s 0 c39.res) (by kernel_rfl : finSt c39.fin _ = f39_fin (!z19))).trans (f39_out (!z19))))
  · replace hS := cond_f hc hS
    refine zlEnd (by kernel_rfl) ?_
    refine zkSeq ?_
    refine zrCondF (by kernel_rfl) ?_
    refine zrSkip ?_
    refine zkSeq ?_
    exact f39_j0_ok hd a1 a2 hQ  hS (by kernel_rfl)
/- farwriter/grid.Check -/
def f18_fin (p235 : Int) : St := ⟨(up (fun _ => .un) 2 (.d (.int .i64 p235))), (hB fun _ => 0)⟩
theorem f18_out (p235 : Int) : outR (f18_fin p235) 0 c18.res = some ((.d (.int .i64 p235)), []) := by
  kernel_rfl
def f18_Q (r : Int) (e : PX) (st : St) : Prop := DoneF c18 0 ((.d (.int .i64 r)), []) e st
def f18_l2_J (a1 : GGrid) (x : Int) : St := ⟨(up (up (up (fun _ => .un) 27 (.d (.int .i64 x))) 26 (.d (.int .i64 a1.High))) 1 (.r (.ptr 16 0 0))), (up (hB fun _ => 0) 16 ⟨0, some (.box ((.d (.int .i64 a1.Wide)) :: ((.d (.int .i64 a1.High)) :: ((.d (.sl a1.Cells.length (e_GCell.cells a1.Cells))) :: []))))⟩)⟩
def f18_l2_H (a1 : GGrid) (x : Int) (st : St) : Prop := keepSt [1, 26, 27] [(16, .id 16)] [] st = f18_l2_J a1 x
def f18_l2_e0_J (a1 : GGrid) : St := ⟨(fun _ => .un), (hB fun _ => 0)⟩
def f18_l2_X (a1 : GGrid) (z : Unit ⊕ Int) (e : PX) (st : St) : Prop := (match z with | .inl z => e = .exit 0 ∧ st = f18_l2_e0_J a1 | .inr z => e = .ret ∧ finSt c18.fin st = f18_fin z)
def f18_l2_l5_J (a1 : GGrid) (x : (List GCell) × Int × (List GCell) × Int × Int) : St := ⟨(up (up (up (up (up (up (up (fun _ => .un) 35 (.d (.int .i64 x.2.2.2.2))) 34 (.d (.int .i64 x.2.2.2.1))) 33 (.d (.sl x.2.2.1.length (e_GCell.cells x.2.2.1)))) 27 (.d (.int .i64 x.2.1))) 26 (.d (.int .i64 a1.High))) 5 (.d (.sl x.1.length (e_GCell.cells x.1)))) 1 (.r (.ptr 16 0 0))), (up (hB fun _ => 0) 16 ⟨0, some (.box ((.d (.int .i64 a1.Wide)) :: ((.d (.int .i64 a1.High)) :: ((.d (.sl a1.Cells.length (e_GCell.cells a1.Cells))) :: []))))⟩)⟩
def f18_l2_l5_H (a1 : GGrid) (x : (List GCell) × Int × (List GCell) × Int × Int) (st : St) : Prop := keepSt [1, 5, 26, 27, 33, 34, 35] [(16, .id 16)] [] st = f18_l2_l5_J a1 x
def f18_l2_l5_e2_J (a1 : GGrid) (p323 : Int) : St := ⟨(up (up (up (fun _ => .un) 27 (.d (.int .i64 p323))) 26 (.d (.int .i64 a1.High))) 1 (.r (.ptr 16 0 0))), (up (hB fun _ => 0) 16 ⟨0, some (.box ((.d (.int .i64 a1.Wide)) :: ((.d (.int .i64 a1.High)) :: ((.d (.sl a1.Cells.length (e_GCell.cells a1.Cells))) :: []))))⟩)⟩
def f18_l2_l5_X (a1 : GGrid) (z : Int ⊕ Int) (e : PX) (st : St) : Prop := (match z with | .inl z => e = .exit 2 ∧ st = f18_l2_l5_e2_J a1 z | .inr z => e = .ret ∧ finSt c18.fin st = f18_fin z)
def f18_l2_l5_j7_J (a1 : GGrid) (p336 : List GCell) (p337 : Int) (p338 : List GCell) (p339 : Int) (p340 : Int) : St := ⟨(up (up (up (up (up (up (up (fun _ => .un) 35 (.d (.int .i64 p340))) 34 (.d (.int .i64 p339))) 33 (.d (.sl p338.length (e_GCell.cells p338)))) 27 (.d (.int .i64 p337))) 26 (.d (.int .i64 a1.High))) 5 (.d (.sl p336.length (e_GCell.cells p336)))) 1 (.r (.ptr 16 0 0))), (up (hB fun _ => 0) 16 ⟨0, some (.box ((.d (.int .i64 a1.Wide)) :: ((.d (.int .i64 a1.High)) :: ((.d (.sl a1.Cells.length (e_GCell.cells a1.Cells))) :: []))))⟩)⟩
noncomputable def f18_l2_l5_j7 (a1 : GGrid) (p336 : List GCell) (p337 : Int) (p338 : List GCell) (p339 : Int) (p340 : Int) : Option (((List GCell) × Int × (List GCell) × Int × Int) ⊕ (Int ⊕ Int)) := ((idx p338 p340).bind fun z67 => ((f38 z67.Pen).bind fun z68 => (bif (!decide (z68 = 0)) then (some (.inr (.inr 4))) else (bif (!decide (z67.Rune = 0)) then ((f28 z67.Rune).bind fun z69 => (bif (decide (z69 = 0)) then (some (.inr (.inr 4))) else ((f39 p336 p340).bind fun z70 => (bif z70 then (some (.inr (.inr 4))) else (some (.inl (p336, p337, p338, p339, (IntKind.i64.wrap (p340 + 1))))))))) else ((f39 p336 p340).bind fun z71 => (bif z71 then (some (.inr (.inr 4))) else (some (.inl (p336, p337, p338, p339, (IntKind.i64.wrap (p340 + 1)))))))))))
theorem f18_l2_l5_j7_ok {base : Orc} {d : Nat} (hd : 4 ≤ d) (a1 : GGrid) {r : ((List GCell) × Int × (List GCell) × Int × Int) ⊕ (Int ⊕ Int)} {Q : PX → St → Prop} (hQ : ∀ e st', finL (f18_l2_l5_H a1) (f18_l2_l5_X a1) r e st' → Q e st') (p336 : List GCell) (p337 : Int) (p338 : List GCell) (p339 : Int) (p340 : Int) (hS : f18_l2_l5_j7 a1 p336 p337 p338 p339 p340 = some r) {st : St} (he : keepSt [1, 5, 26, 27, 33, 34, 35] [(16, .id 16)] [] st = f18_l2_l5_j7_J a1 p336 p337 p338 p339 p340) : ZR (lev codes base (d - 1)) Q c18_1 [] st := by
  refine zrKeep he ?_
  unfold f18_l2_l5_j7 at hS
  refine zrSeq ?_
  refine zrBlk ?_
  refine zrSeq ?_
  refine zrReg ?_
  refine zlRun (n := 1) (j := 1) rfl (by kernel_rfl) ?_
  refine bindE hS (fun z67 hz67 hS => ?_)
  refine zlOp (d := some 38) (op := (.ixS 33 4 (.tmp 33) (.tmp 35))) (g := none) (v := (.rptr (e_GCell.enc z67 ++ (e_GCell.cells (p338.drop ((p340 : Int).toNat + 1)))))) (ups := []) (j := 2) rfl (by kernel_rfl) (by kernel_rfl) (ev_ixS e_GCell (kk := .i64) (xs := p338) (j := p340) (by kernel_rfl) (by kernel_rfl) hz67 rfl (by intro h; cases h)) ?_
  refine zlRun (n := 4) (j := 6) rfl (by kernel_rfl) ?_
  refine zlEnd (by kernel_rfl) ?_
  refine zkSeq ?_
  refine zrSeq ?_
  refine zrReg ?_
  refine zlRun (n := 2) (j := 2) rfl (by kernel_rfl) ?_
  refine bindE hS (fun z68 hz68 hS => ?_)
  refine zlOp (d := some 42) (op := (.call 38 [(.tmp 41)])) (g := none) (v := (.d (.int .i64 z68))) (ups := []) (j := 3) rfl (by kernel_rfl) (by kernel_rfl) (ev_call (args := [(.agg ((.d (.int .i64 z67.Pen.Flags)) :: ((.d (.int .i64 z67.Pen.Fore)) :: ((.d (.int .i64 z67.Pen.Back)) :: []))))]) (l := [(.agg ((.d (.int .i64 z67.Pen.Flags)) :: ((.d (.int .i64 z67.Pen.Fore)) :: ((.d (.int .i64 z67.Pen.Back)) :: []))))]) (r := (.d (.int .i64 z68))) (by kernel_rfl) (by kernel_rfl) (f38_ok base (d - 1) (dpt hd rfl) z67.Pen z68 hz68) (by kernel_rfl) (by kernel_rfl) (by kernel_rfl)) ?_
  refine zlBool (d := 43) (op := (.cmpI .neq (.tmp 42) (.const (.int .i64 0)))) (g := none) (j := 4) (!decide (z68 = 0)) rfl (by kernel_rfl) (by kernel_rfl) (by kernel_rfl) (fun hc => ?_) (fun hc => ?_)
  · replace hS := cond_t hc hS
    refine zlRun (n := 16) (j := 20) rfl (by kernel_rfl) ?_
    refine zlEnd (by kernel_rfl) ?_
    refine zkSeq ?_
    refine zrCondT (by kernel_rfl) ?_
    refine zrSeq ?_
    refine zrReg ?_
    refine zlRun (n := 1) (j := 1) rfl (by kernel_rfl) ?_
    refine zlEnd (by kernel_rfl) ?_
    refine zkSeq ?_
    refine zrRet ?_
    refine zkBlkR ?_
    refine zkSeqR ?_
    refine zkNil ?_
    exact endQ hS hQ (finL_x (by intro h; cases h) (by show _ = _ ∧ _ = _; exact ⟨rfl, by kernel_rfl⟩))
  · replace hS := cond_f hc hS
    refine zlRun (n := 3) (j := 7) rfl (by kernel_rfl) ?_
    refine zlBool (d := 47) (op := (.cmpI .neq (.tmp 46) (.const (.int .i64 0)))) (g := (some (44, false))) (j := 8) (!decide (z67.Rune = 0)) rfl (by kernel_rfl) (by kernel_rfl) (by kernel_rfl) (fun hc => ?_) (fun hc => ?_)
    · replace hS := cond_t hc hS
      refine zlRun (n := 3) (j := 11) rfl (by kernel_rfl) ?_
      refine bindE hS (fun z69 hz69 hS => ?_)
      refine zlOp (d := some 51) (op := (.call 28 [(.tmp 50)])) (g := (some (48, true))) (v := (.d (.int .i64 z69))) (ups := []) (j := 12) rfl (by kernel_rfl) (by kernel_rfl) (ev_call (args := [(.d (.int .i64 z67.Rune))]) (l := [(.d (.int .i64 z67.Rune))]) (r := (.d (.int .i64 z69))) (by kernel_rfl) (by kernel_rfl) (f28_ok base (d - 1) (dpt hd rfl) z67.Rune z69 hz69) (by kernel_rfl) (by kernel_rfl) (by kernel_rfl)) ?_
      refine zlBool (d := 52) (op := (.cmpI .eql (.tmp 51) (.const (.int .i64 0)))) (g := (some (48, true))) (j := 13) (decide (z69 = 0)) rfl (by kernel_rfl) (by kernel_rfl) (by kernel_rfl) (fun hc => ?_) (fun hc => ?_)
      · replace hS := cond_t hc hS
        refine zlRun (n := 7) (j := 20) rfl (by kernel_rfl) ?_
        refine zlEnd (by kernel_rfl) ?_
        refine zkSeq ?_
        refine zrCondT (by kernel_rfl) ?_
        refine zrSeq ?_
        refine zrReg ?_
        refine zlRun (n := 1) (j := 1) rfl (by kernel_rfl) ?_
        refine zlEnd (by kernel_rfl) ?_
        refine zkSeq ?_
        refine zrRet ?_
        refine zkBlkR ?_
        refine zkSeqR ?_
        refine zkNil ?_
        exact endQ hS hQ (finL_x (by intro h; cases h) (by show _ = _ ∧ _ = _; exact ⟨rfl, by kernel_rfl⟩))
      · replace hS := cond_f hc hS
        refine zlRun (n := 5) (j := 18) rfl (by kernel_rfl) ?_
        refine bindE hS (fun z70 hz70 hS => ?_)
        refine zlOp (d := some 58) (op := (.call 39 [(.tmp 56), (.tmp 57)])) (g := (some (55, false))) (v := (.d (.bool z70))) (ups := []) (j := 19) rfl (by kernel_rfl) (by kernel_rfl) (ev_call (args := [(.d (.sl p336.length (e_GCell.cells p336))), (.d (.int .i64 p340))]) (l := [(.d (.sl p336.length (e_GCell.cells p336))), (.d (.int .i64 p340))]) (r := (.d (.bool z70))) (by kernel_rfl) (by kernel_rfl) (f39_ok base (d - 1) (dpt hd rfl) p336 p340 z70 hz70) (by kernel_rfl) (by kernel_rfl) (by kernel_rfl)) ?_
        refine zlRun (n := 1) (j := 20) rfl (by kernel_rfl) ?_
        refine zlEnd (by kernel_rfl) ?_
        refine zkSeq ?_
        refine zrSplit 59 z70 (by kernel_rfl) (fun hc => ?_) (fun hc => ?_)
        · replace hS := cond_t hc hS
          refine zrCondT (by kernel_rfl) ?_
          refine zrSeq ?_
          refine zrReg ?_
          refine zlRun (n := 1) (j := 1) rfl (by kernel_rfl) ?_
          refine zlEnd (by kernel_rfl) ?_
          refine zkSeq ?_
          refine zrRet ?_
          refine zkBlkR ?_
          refine zkSeqR ?_
          refine zkNil ?_
          exact endQ hS hQ (finL_x (by intro h; cases h) (by show _ = _ ∧ _ = _; exact ⟨rfl, by kernel_rfl⟩))
        · replace hS := cond_f hc hS
          refine zrCondF (by kernel_rfl) ?_
          refine zrSkip ?_
          refine zkBlk ?_
          refine zkSeq ?_
          refine zrReg ?_
          refine zlRun (n := 2) (j := 2) rfl (by kernel_rfl) ?_
          refine zlEnd (by kernel_rfl) ?_
          refine zkNil ?_
          exact endQ hS hQ (finL_n (by show keepSt _ _ _ _ = _; kernel_rfl))
    · replace hS := cond_f hc hS
      refine zlRun (n := 10) (j := 18) rfl (by kernel_rfl) ?_
      refine bindE hS (fun z71 hz71 hS => ?_)
      refine zlOp (d := some 58) (op := (.call 39 [(.tmp 56), (.tmp 57)])) (g := (some (55, false))) (v := (.d (.bool z71))) (ups := []) (j := 19) rfl (by kernel_rfl) (by kernel_rfl) (ev_call (args := [(.d (.sl p336.length (e_GCell.cells p336))), (.d (.int .i64 p340))]) (l := [(.d (.sl p336.length (e_GCell.cells p336))), (.d (.int .i64 p340))]) (r := (.d (.bool z71))) (by kernel_rfl) (by kernel_rfl) (f39_ok base (d - 1) (dpt hd rfl) p336 p340 z71 hz71) (by kernel_rfl) (by kernel_rfl) (by kernel_rfl)) ?_
      refine zlRun (n := 1) (j := 20) rfl (by kernel_rfl) ?_
      refine zlEnd (by kernel_rfl) ?_
      refine zkSeq ?_
      refine zrSplit 59 z71 (by kernel_rfl) (fun hc => ?_) (fun hc => ?_)
      · replace hS := cond_t hc hS
        refine zrCondT (by kernel_rfl) ?_
        refine zrSeq ?_
        refine zrReg ?_
        refine zlRun (n := 1) (j := 1) rfl (by kernel_rfl) ?_
        refine zlEnd (by kernel_rfl) ?_
        refine zkSeq ?_
        refine zrRet ?_
        refine zkBlkR ?_
        refine zkSeqR ?_
        refine zkNil ?_
        exact endQ hS hQ (finL_x (by intro h; cases h) (by show _ = _ ∧ _ = _; exact ⟨rfl, by kernel_rfl⟩))
      · replace hS := cond_f hc hS
        refine zrCondF (by kernel_rfl) ?_
        refine zrSkip ?_
        refine zkBlk ?_
        refine zkSeq ?_
        refine zrReg ?_
        refine zlRun (n := 2) (j := 2) rfl (by kernel_rfl) ?_
        refine zlEnd (by kernel_rfl) ?_
        refine zkNil ?_
        exact endQ hS hQ (finL_n (by show keepSt _ _ _ _ = _; kernel_rfl))
def f18_l2_l5_j6_J (a1 : GGrid) (p330 : List GCell) (p331 : Int) (p332 : List GCell) (p333 : Int) (p334 : Int) (p335 : Bool) : St := ⟨(up (up (up (up (up (up (up (up (fun _ => .un) 36 (.d (.bool p335))) 35 (.d (.int .i64 p334))) 34 (.d (.int .i64 p333))) 33 (.d (.sl p332.length (e_GCell.cells p332)))) 27 (.d (.int .i64 p331))) 26 (.d (.int .i64 a1.High))) 5 (.d (.sl p330.length (e_GCell.cells p330)))) 1 (.r (.ptr 16 0 0))), (up (hB fun _ => 0) 16 ⟨0, some (.box ((.d (.int .i64 a1.Wide)) :: ((.d (.int .i64 a1.High)) :: ((.d (.sl a1.Cells.length (e_GCell.cells a1.Cells))) :: []))))⟩)⟩
noncomputable def f18_l2_l5_j6 (a1 : GGrid) (p330 : List GCell) (p331 : Int) (p332 : List GCell) (p333 : Int) (p334 : Int) (p335 : Bool) : Option (((List GCell) × Int × (List GCell) × Int × Int) ⊕ (Int ⊕ Int)) := (bif p335 then (f18_l2_l5_j7 a1 p330 p331 p332 p333 p334) else (some (.inr (.inl p331))))
theorem f18_l2_l5_j6_ok {base : Orc} {d : Nat} (hd : 4 ≤ d) (a1 : GGrid) {r : ((List GCell) × Int × (List GCell) × Int × Int) ⊕ (Int ⊕ Int)} {Q : PX → St → Prop} (hQ : ∀ e st', finL (f18_l2_l5_H a1) (f18_l2_l5_X a1) r e st' → Q e st') (p330 : List GCell) (p331 : Int) (p332 : List GCell) (p333 : Int) (p334 : Int) (p335 : Bool) (hS : f18_l2_l5_j6 a1 p330 p331 p332 p333 p334 p335 = some r) {st : St} (he : keepSt [1, 5, 26, 27, 33, 34, 35, 36] [(16, .id 16)] [] st = f18_l2_l5_j6_J a1 p330 p331 p332 p333 p334 p335) : ZR (lev codes base (d - 1)) Q c18_2 [] st := by
  refine zrKeep he ?_
  unfold f18_l2_l5_j6 at hS
  refine zrSeq ?_
  refine zrSplit 36 p335 (by kernel_rfl) (fun hc => ?_) (fun hc => ?_)
  · replace hS := cond_t hc hS
    refine zrCondT (by kernel_rfl) ?_
    refine zrSkip ?_
    refine zkSeq ?_
    exact f18_l2_l5_j7_ok hd a1 hQ p330 p331 p332 p333 p334 hS (by kernel_rfl)
  · replace hS := cond_f hc hS
    refine zrCondF (by kernel_rfl) ?_
    refine zrKeep (J := f18_l2_l5_e2_J a1 p331) (by kernel_rfl) ?_
    refine zrExit ?_
    refine zkSeqX ?_
    refine zkNil ?_
    exact endQ hS hQ (finL_x (by intro h; cases h) (by show _ = _ ∧ _ = _; exact ⟨rfl, rfl⟩))
noncomputable def f18_l2_l5 (a1 : GGrid) (x : (List GCell) × Int × (List GCell) × Int × Int) : Option (((List GCell) × Int × (List GCell) × Int × Int) ⊕ (Int ⊕ Int)) := (bif (decide (x.2.2.2.2 < x.2.2.2.1)) then (f18_l2_l5_j6 a1 x.1 x.2.1 x.2.2.1 x.2.2.2.1 x.2.2.2.2 true) else (f18_l2_l5_j6 a1 x.1 x.2.1 x.2.2.1 x.2.2.2.1 x.2.2.2.2 false))
theorem f18_l2_l5_ok {base : Orc} {d : Nat} (hd : 4 ≤ d) (a1 : GGrid) {r : ((List GCell) × Int × (List GCell) × Int × Int) ⊕ (Int ⊕ Int)} {Q : PX → St → Prop} (hQ : ∀ e st', finL (f18_l2_l5_H a1) (f18_l2_l5_X a1) r e st' → Q e st') {x : (List GCell) × Int × (List GCell) × Int × Int} (hS : f18_l2_l5 a1 x = some r) {st : St} (he : f18_l2_l5_H a1 x st) : ZR (lev codes base (d - 1)) Q c18_3 [] st := by
  refine zrKeep he ?_
  unfold f18_l2_l5 at hS
  refine zrSeq ?_
  refine zrReg ?_
  refine zlBool (d := 36) (op := (.cmpI .lss (.tmp 35) (.tmp 34))) (g := none) (j := 1) (decide (x.2.2.2.2 < x.2.2.2.1)) rfl (by kernel_rfl) (by kernel_rfl) (by kernel_rfl) (fun hc => ?_) (fun hc => ?_)
  · replace hS := cond_t hc hS
    refine zlEnd (by kernel_rfl) ?_
    refine zkSeq ?_
    exact f18_l2_l5_j6_ok hd a1 hQ x.1 x.2.1 x.2.2.1 x.2.2.2.1 x.2.2.2.2 true hS (by kernel_rfl)
  · replace hS := cond_f hc hS
    refine zlEnd (by kernel_rfl) ?_
    refine zkSeq ?_
    exact f18_l2_l5_j6_ok hd a1 hQ x.1 x.2.1 x.2.2.1 x.2.2.2.1 x.2.2.2.2 false hS (by kernel_rfl)
def f18_l2_j4_J (a1 : GGrid) (p243 : Int) : St := ⟨(up (up (up (fun _ => .un) 27 (.d (.int .i64 p243))) 26 (.d (.int .i64 a1.High))) 1 (.r (.ptr 16 0 0))), (up (hB fun _ => 0) 16 ⟨0, some (.box ((.d (.int .i64 a1.Wide)) :: ((.d (.int .i64 a1.High)) :: ((.d (.sl a1.Cells.length (e_GCell.cells a1.Cells))) :: []))))⟩)⟩
noncomputable def f18_l2_j4 (a1 : GGrid) (p243 : Int) : Option (Int ⊕ (Unit ⊕ Int)) := ((f33 a1 p243).bind fun z51 => ((loopO (f18_l2_l5 a1) (z51, p243, z51, (z51.length : Int), 0)).bind fun z72 => (Sum.elim (fun z73 => (some (.inl (IntKind.i64.wrap (z73 + 1))))) (fun z74 => (some (.inr (.inr z74)))) z72)))
theorem f18_l2_j4_ok {base : Orc} {d : Nat} (hd : 4 ≤ d) (a1 : GGrid) {r : Int ⊕ (Unit ⊕ Int)} {Q : PX → St → Prop} (hQ : ∀ e st', finL (f18_l2_H a1) (f18_l2_X a1) r e st' → Q e st') (p243 : Int) (hS : f18_l2_j4 a1 p243 = some r) {st : St} (he : keepSt [1, 26, 27] [(16, .id 16)] [] st = f18_l2_j4_J a1 p243) : ZR (lev codes base (d - 1)) Q c18_4 [] st := by
  refine zrKeep he ?_
  unfold f18_l2_j4 at hS
  refine zrSeq ?_
  refine zrBlk ?_
  refine zrSeq ?_
  refine zrReg ?_
  refine zlRun (n := 2) (j := 2) rfl (by kernel_rfl) ?_
  refine zlEnd (by kernel_rfl) ?_
  refine zkSeq ?_
  refine zrSeq ?_
  refine zrReg ?_
  refine zlRun (n := 2) (j := 2) rfl (by kernel_rfl) ?_
  refine bindE hS (fun z51 hz51 hS => ?_)
  refine zlOp (d := some 32) (op := (.callr 33 [(.tmp 30), (.tmp 31)])) (g := none) (v := (.d (.sl z51.length (e_GCell.cells z51)))) (ups := []) (j := 3) rfl (by kernel_rfl) (by kernel_rfl) (ev_callrX (args := [(.agg ((.d (.int .i64 a1.Wide)) :: ((.d (.int .i64 a1.High)) :: ((.d (.sl a1.Cells.length (e_GCell.cells a1.Cells))) :: [])))), (.d (.int .i64 p243))]) (ids := []) (bs := []) (l := [(.agg ((.d (.int .i64 a1.Wide)) :: ((.d (.int .i64 a1.High)) :: ((.d (.sl a1.Cells.length (e_GCell.cells a1.Cells))) :: [])))), (.d (.int .i64 p243))]) (bt := []) (r := (.d (.sl z51.length (e_GCell.cells z51)))) (bs' := [.box []]) (by kernel_rfl) (by kernel_rfl) (by kernel_rfl) (by kernel_rfl) (by kernel_rfl) (f33_ok base (d - 1) (dpt hd rfl) a1 p243 z51 hz51) (by kernel_rfl) sm_nil (by kernel_rfl) (by kernel_rfl)) ?_
  refine zlRun (n := 1) (j := 4) rfl (by kernel_rfl) ?_
  refine zlEnd (by kernel_rfl) ?_
  refine zkSeq ?_
  refine zrSeq ?_
  refine zrReg ?_
  refine zlRun (n := 3) (j := 3) rfl (by kernel_rfl) ?_
  refine zlEnd (by kernel_rfl) ?_
  refine zkSeq ?_
  refine zrBlk ?_
  refine bindE hS (fun z72 hz72 hS => ?_)
  refine zrLoop (f18_l2_l5_H a1) (f18_l2_l5_X a1) (fun x st r Q h0 hS hQ => f18_l2_l5_ok hd a1 hQ hS h0) (x := (z51, p243, z51, (z51.length : Int), 0)) (z := z72) (by show keepSt _ _ _ _ = _; kernel_rfl) hz72 ?_
  rcases z72 with z73 | z74
  · replace hS := (show _ = _ from hS)
    simp only [Sum.elim_inl] at hS
    intro e st' _ hX
    obtain ⟨rfl, rfl⟩ : _ ∧ _ := hX
    refine zkBlkX ?_
    refine zkBlk ?_
    refine zkSeq ?_
    refine zrReg ?_
    refine zlRun (n := 2) (j := 2) rfl (by kernel_rfl) ?_
    refine zlEnd (by kernel_rfl) ?_
    refine zkNil ?_
    exact endQ hS hQ (finL_n (by show keepSt _ _ _ _ = _; kernel_rfl))
  · simp only [Sum.elim_inr] at hS
    intro e st' _ hX
    obtain ⟨rfl, hX⟩ : _ ∧ _ := hX
    refine zkBlkR ?_
    refine zkBlkR ?_
    refine zkSeqR ?_
    refine zkNil ?_
    exact endQ hS hQ (finL_x (by intro h; cases h) (by show _ = _ ∧ _ = _; exact ⟨rfl, hX⟩))
def f18_l2_j3_J (a1 : GGrid) (p241 : Int) (p242 : Bool) : St := ⟨(up (up (up (up (fun _ => .un) 28 (.d (.bool p242))) 27 (.d (.int .i64 p241))) 26 (.d (.int .i64 a1.High))) 1 (.r (.ptr 16 0 0))), (up (hB fun _ => 0) 16 ⟨0, some (.box ((.d (.int .i64 a1.Wide)) :: ((.d (.int .i64 a1.High)) :: ((.d (.sl a1.Cells.length (e_GCell.cells a1.Cells))) :: []))))⟩)⟩
noncomputable def f18_l2_j3 (a1 : GGrid) (p241 : Int) (p242 : Bool) : Option (Int ⊕ (Unit ⊕ Int)) := (bif p242 then (f18_l2_j4 a1 p241) else (some (.inr (.inl ()))))
theorem f18_l2_j3_ok {base : Orc} {d : Nat} (hd : 4 ≤ d) (a1 : GGrid) {r : Int ⊕ (Unit ⊕ Int)} {Q : PX → St → Prop} (hQ : ∀ e st', finL (f18_l2_H a1) (f18_l2_X a1) r e st' → Q e st') (p241 : Int) (p242 : Bool) (hS : f18_l2_j3 a1 p241 p242 = some r) {st : St} (he : keepSt [1, 26, 27, 28] [(16, .id 16)] [] st = f18_l2_j3_J a1 p241 p242) : ZR (lev codes base (d - 1)) Q c18_5 [] st := by
  refine zrKeep he ?_
  unfold f18_l2_j3 at hS
  refine zrSeq ?_
  refine zrSplit 28 p242 (by kernel_rfl) (fun hc => ?_) (fun hc => ?_)
  · replace hS := cond_t hc hS
    refine zrCondT (by kernel_rfl) ?_
    refine zrSkip ?_
    refine zkSeq ?_
    exact f18_l2_j4_ok hd a1 hQ p241 hS (by kernel_rfl)
  · replace hS := cond_f hc hS
    refine zrCondF (by kernel_rfl) ?_
    refine zrKeep (J := f18_l2_e0_J a1) (by kernel_rfl) ?_
    refine zrExit ?_
    refine zkSeqX ?_
    refine zkNil ?_
    exact endQ hS hQ (finL_x (by intro h; cases h) (by show _ = _ ∧ _ = _; exact ⟨rfl, rfl⟩))
noncomputable def f18_l2 (a1 : GGrid) (x : Int) : Option (Int ⊕ (Unit ⊕ Int)) := (bif (decide (x < a1.High)) then (f18_l2_j3 a1 x true) else (f18_l2_j3 a1 x false))
theorem f18_l2_ok {base : Orc} {d : Nat} (hd : 4 ≤ d) (a1 : GGrid) {r : Int ⊕ (Unit ⊕ Int)} {Q : PX → St → Prop} (hQ : ∀ e st', finL (f18_l2_H a1) (f18_l2_X a1) r e st' → Q e st') {x : Int} (hS : f18_l2 a1 x = some r) {st : St} (he : f18_l2_H a1 x st) : ZR (lev codes base (d - 1)) Q c18_6 [] st := by
  refine zrKeep he ?_
  unfold f18_l2 at hS
  refine zrSeq ?_
  refine zrReg ?_
  refine zlBool (d := 28) (op := (.cmpI .lss (.tmp 27) (.tmp 26))) (g := none) (j := 1) (decide (x < a1.High)) rfl (by kernel_rfl) (by kernel_rfl) (by kernel_rfl) (fun hc => ?_) (fun hc => ?_)
  · replace hS := cond_t hc hS
    refine zlEnd (by kernel_rfl) ?_
    refine zkSeq ?_
    exact f18_l2_j3_ok hd a1 hQ x true hS (by kernel_rfl)
  · replace hS := cond_f hc hS
    refine zlEnd (by kernel_rfl) ?_
    refine zkSeq ?_
    exact f18_l2_j3_ok hd a1 hQ x false hS (by kernel_rfl)
def f18_j1_J (a1 : GGrid) : St := ⟨(up (fun _ => .un) 1 (.r (.ptr 16 0 0))), (up (hB fun _ => 0) 16 ⟨0, some (.box ((.d (.int .i64 a1.Wide)) :: ((.d (.int .i64 a1.High)) :: ((.d (.sl a1.Cells.length (e_GCell.cells a1.Cells))) :: []))))⟩)⟩
noncomputable def f18_j1 (a1 : GGrid) : Option (Int) := ((loopO (f18_l2 a1) 0).bind fun z75 => (Sum.elim (fun z76 => (some 0)) (fun z77 => (some z77)) z75))
theorem f18_j1_ok {base : Orc} {d : Nat} (hd : 4 ≤ d) (a1 : GGrid) {r : Int} {Q : PX → St → Prop} (hQ : ∀ e st', f18_Q r e st' → Q e st')  (hS : f18_j1 a1 = some r) {st : St} (he : keepSt [1] [(16, .id 16)] [] st = f18_j1_J a1) : ZR (lev codes base (d - 1)) Q c18_7 [] st := by
  refine zrKeep he ?_
  unfold f18_j1 at hS
  refine zrSeq ?_
  refine zrSeq ?_
  refine zrReg ?_
  refine zlRun (n := 3) (j := 3) rfl (by kernel_rfl) ?_
  refine zlEnd (by kernel_rfl) ?_
  refine zkSeq ?_
  refine zrBlk ?_
  refine bindE hS (fun z75 hz75 hS => ?_)
  refine zrLoop (f18_l2_H a1) (f18_l2_X a1) (fun x st r Q h0 hS hQ => f18_l2_ok hd a1 hQ hS h0) (x := 0) (z := z75) (by show keepSt _ _ _ _ = _; kernel_rfl) hz75 ?_
  rcases z75 with z76 | z77
  · replace hS := (show _ = _ from hS)
    simp only [Sum.elim_inl] at hS
    intro e st' _ hX
    obtain ⟨rfl, rfl⟩ : _ ∧ _ := hX
    refine zkBlkX ?_
    refine zkSeq ?_
    refine zrSeq ?_
    refine zrReg ?_
    refine zlRun (n := 1) (j := 1) rfl (by kernel_rfl) ?_
    refine zlEnd (by kernel_rfl) ?_
    refine zkSeq ?_
    refine zrRet ?_
    refine zkNil ?_
    exact endQ hS hQ (fRet (by kernel_rfl) ((congrArg (fun s => outR s 0 c18.res) (by kernel_rfl : finSt c18.fin _ = f18_fin 0)).trans (f18_out 0)))
  · simp only [Sum.elim_inr] at hS
    intro e st' _ hX
    obtain ⟨rfl, hX⟩ : _ ∧ _ := hX
    refine zkBlkR ?_
    refine zkSeqR ?_
    refine zkNil ?_
    exact endQ hS hQ (fRet (by kernel_rfl) ((congrArg (fun s => outR s 0 c18.res) hX).trans (f18_out z77)))
def f18_j0_J (a1 : GGrid) : St := ⟨(up (fun _ => .un) 1 (.r (.ptr 16 0 0))), (up (hB fun _ => 0) 16 ⟨0, some (.box ((.d (.int .i64 a1.Wide)) :: ((.d (.int .i64 a1.High)) :: ((.d (.sl a1.Cells.length (e_GCell.cells a1.Cells))) :: []))))⟩)⟩
noncomputable def f18_j0 (a1 : GGrid) : Option (Int) := (bif (!decide ((a1.Cells.length : Int) = (IntKind.i64.wrap (a1.Wide * a1.High)))) then (some 4) else (f18_j1 a1 ))
theorem f18_j0_ok {base : Orc} {d : Nat} (hd : 4 ≤ d) (a1 : GGrid) {r : Int} {Q : PX → St → Prop} (hQ : ∀ e st', f18_Q r e st' → Q e st')  (hS : f18_j0 a1 = some r) {st : St} (he : keepSt [1] [(16, .id 16)] [] st = f18_j0_J a1) : ZR (lev codes base (d - 1)) Q c18_8 [] st := by
  refine zrKeep he ?_
  unfold f18_j0 at hS
  refine zrSeq ?_
  refine zrSeq ?_
  refine zrReg ?_
  refine zlRun (n := 8) (j := 8) rfl (by kernel_rfl) ?_
  refine zlBool (d := 24) (op := (.cmpI .neq (.tmp 18) (.tmp 23))) (g := none) (j := 9) (!decide ((a1.Cells.length : Int) = (IntKind.i64.wrap (a1.Wide * a1.High)))) rfl (by kernel_rfl) (by kernel_rfl) (by kernel_rfl) (fun hc => ?_) (fun hc => ?_)
  · replace hS := cond_t hc hS
    refine zlEnd (by kernel_rfl) ?_
    refine zkSeq ?_
    refine zrCondT (by kernel_rfl) ?_
    refine zrSeq ?_
    refine zrReg ?_
    refine zlRun (n := 1) (j := 1) rfl (by kernel_rfl) ?_
    refine zlEnd (by kernel_rfl) ?_
    refine zkSeq ?_
    refine zrRet ?_
    refine zkSeqR ?_
    refine zkNil ?_
    exact endQ hS hQ (fRet (by kernel_rfl) ((congrArg (fun s => outR s 0 c18.res) (by kernel_rfl : finSt c18.fin _ = f18_fin 4)).trans (f18_out 4)))
  · replace hS := cond_f hc hS
    refine zlEnd (by kernel_rfl) ?_
    refine zkSeq ?_
    refine zrCondF (by kernel_rfl) ?_
    refine zrSkip ?_
    refine zkSeq ?_
    exact f18_j1_ok hd a1 hQ  hS (by kernel_rfl)
noncomputable def f18 (a1 : GGrid) : Option (Int) := ((f37 a1.Wide a1.High).bind fun z78 => (bif (!decide (z78 = 0)) then (some z78) else (f18_j0 a1 )))
theorem f18_ok (base : Orc) (d : Nat) (hd : 4 ≤ d) (a1 : GGrid) (r : Int) (hS : f18 a1 = some r) : lev codes base d 18 [(.agg ((.d (.int .i64 a1.Wide)) :: ((.d (.int .i64 a1.High)) :: ((.d (.sl a1.Cells.length (e_GCell.cells a1.Cells))) :: []))))] [] = some ((.d (.int .i64 r)), []) := by
  refine lev_go codes18 rfl rfl (Nat.le_trans (Nat.le_of_ble_eq_true rfl) hd) fun Q hQ => ?_
  unfold f18 at hS
  show ZR _ Q c18_b [] _
  replace hQ : ∀ e st', f18_Q r e st' → Q e st' := hQ
  refine zrSeq ?_
  refine zrReg ?_
  refine zlRun (n := 2) (j := 2) rfl (by kernel_rfl) ?_
  refine zlEnd (by kernel_rfl) ?_
  refine zkSeq ?_
  refine zrSeq ?_
  refine zrSeq ?_
  refine zrReg ?_
  refine zlRun (n := 4) (j := 4) rfl (by kernel_rfl) ?_
  refine bindE hS (fun z78 hz78 hS => ?_)
  refine zlOp (d := some 12) (op := (.call 37 [(.tmp 9), (.tmp 11)])) (g := none) (v := (.d (.int .i64 z78))) (ups := []) (j := 5) rfl (by kernel_rfl) (by kernel_rfl) (ev_call (args := [(.d (.int .i64 a1.Wide)), (.d (.int .i64 a1.High))]) (l := [(.d (.int .i64 a1.Wide)), (.d (.int .i64 a1.High))]) (r := (.d (.int .i64 z78))) (by kernel_rfl) (by kernel_rfl) (f37_ok base (d - 1) (dpt hd rfl) a1.Wide a1.High z78 hz78) (by kernel_rfl) (by kernel_rfl) (by kernel_rfl)) ?_
  refine zlRun (n := 1) (j := 6) rfl (by kernel_rfl) ?_
  refine zlEnd (by kernel_rfl) ?_
  refine zkSeq ?_
  refine zrSeq ?_
  refine zrReg ?_
  refine zlRun (n := 1) (j := 1) rfl (by kernel_rfl) ?_
  refine zlBool (d := 14) (op := (.cmpI .neq (.tmp 13) (.const (.int .i64 0)))) (g := none) (j := 2) (!decide (z78 = 0)) rfl (by kernel_rfl) (by kernel_rfl) (by kernel_rfl) (fun hc => ?_) (fun hc => ?_)
  · replace hS := cond_t hc hS
    refine zlEnd (by kernel_rfl) ?_
    refine zkSeq ?_
    refine zrCondT (by kernel_rfl) ?_
    refine zrSeq ?_
    refine zrReg ?_
    refine zlRun (n := 2) (j := 2) rfl (by kernel_rfl) ?_
    refine zlEnd (by kernel_rfl) ?_
    refine zkSeq ?_
    refine zrRet ?_
    refine zkSeqR ?_
    refine zkNil ?_
    exact endQ hS hQ (fRet (by kernel_rfl) ((congrArg (fun s => outR s 0 c18.res) (by kernel_rfl : finSt c18.fin _ = f18_fin z78)).trans (f18_out z78)))
  · replace hS := cond_f hc hS
    refine zlEnd (by kernel_rfl) ?_
    refine zkSeq ?_
    refine zrCondF (by kernel_rfl) ?_
    refine zrSkip ?_
    refine zkSeq ?_
    exact f18_j0_ok hd a1 hQ  hS (by kernel_rfl)
/- slices.Clone[[]farwriter/api.Cell,farwriter/api.Cell] -/
def f26_fin (p1 : List GCell) : St := ⟨(up (fun _ => .un) 2 (.r (.msl 97 0 0 p1.length))), (up (hB fun _ => 0) 97 ⟨0, some (.own 33 4 (e_GCell.cells p1))⟩)⟩
theorem f26_out (p1 : List GCell) : outR (f26_fin p1) 0 c26.res = some ((.r (.own 0 33 4 p1.length (e_GCell.cells p1))), []) := by
  exact out_of (ids := []) (ids' := [97]) (l := [(.r (.msl 97 0 0 p1.length))]) (by kernel_rfl) (by kernel_rfl) (o_own e_GCell (e := 33) (k := 4) (xs := p1) (by kernel_rfl) rfl rfl rfl rfl)
def f26_Q (r : List GCell) (e : PX) (st : St) : Prop := DoneF c26 0 ((.r (.own 0 33 4 r.length (e_GCell.cells r))), []) e st
noncomputable def f26 (a1 : List GCell) : Option (List GCell) := ((app? 32 ([] : List GCell) a1).bind fun z2 => (some z2))
theorem f26_ok (base : Orc) (d : Nat) (hd : 1 ≤ d) (a1 : List GCell) (r : List GCell) (hS : f26 a1 = some r) : lev codes base d 26 [(.d (.sl a1.length (e_GCell.cells a1)))] [] = some ((.r (.own 0 33 4 r.length (e_GCell.cells r))), []) := by
  refine lev_goZ codes26 rfl rfl (Nat.le_trans (Nat.le_of_ble_eq_true rfl) hd) (fun Q hQ => ?_) (fun h0 Q hQ => ?_)
  · unfold f26 at hS
    show ZR _ Q c26_b [] _
    refine zrSeq ?_
    refine zrReg ?_
    refine zlRun (n := 1) (j := 1) rfl (by kernel_rfl) ?_
    refine zlEnd (by kernel_rfl) ?_
    refine zkSeq ?_
    refine zrSeq ?_
    refine zrSeq ?_
    refine zrReg ?_
    refine zlRun (n := 2) (j := 2) rfl (by kernel_rfl) ?_
    refine zlEnd (by kernel_rfl) ?_
    refine zkSeq ?_
    refine zrCondF (by kernel_rfl) ?_
    refine zrSkip ?_
    refine zkSeq ?_
    refine zrSeq ?_
    refine zrReg ?_
    refine zlRun (n := 2) (j := 2) rfl (by kernel_rfl) ?_
    refine bindE hS (fun z2 hz2 hS => ?_)
    refine zlOp (d := some 7) (op := (.app 33 4 32 (.tmp 5) (.tmp 6))) (g := none) (v := (.r (.msl 48 2 0 z2.length))) (ups := [(48, ⟨2, some (.own 33 4 (e_GCell.cells z2))⟩)]) (j := 3) rfl (by kernel_rfl) (by kernel_rfl) (ev_app e_GCell (b := 48) (g := 1) (n := ([] : List GCell).length) (xs := []) (ys := a1) ((congrArg (asL _) (by kernel_rfl : ρof _ (.tmp 6) = (.slz false a1.length (e_GCell.cells a1)))).trans rfl) rfl (by kernel_rfl) rfl (by kernel_rfl) rfl hz2) ?_
    refine zlRun (n := 1) (j := 4) rfl (by kernel_rfl) ?_
    refine zlEnd (by kernel_rfl) ?_
    refine zkSeq ?_
    refine zrRet ?_
    refine zkNil ?_
    exact endQ (F := f26_Q) hS hQ (fRet (by kernel_rfl) ((congrArg (fun s => outR s 0 c26.res) (by kernel_rfl : finSt c26.fin _ = f26_fin z2)).trans (f26_out z2)))
  · have hS : (some []) = some r := by
      have hl := List.eq_nil_of_length_eq_zero h0
      subst hl
      simpa [f26, app?] using hS
    show ZR _ Q c26_b [] _
    refine zrSeq ?_
    refine zrReg ?_
    refine zlRun (n := 1) (j := 1) rfl (by kernel_rfl) ?_
    refine zlEnd (by kernel_rfl) ?_
    refine zkSeq ?_
    refine zrSeq ?_
    refine zrSeq ?_
    refine zrReg ?_
    refine zlRun (n := 2) (j := 2) rfl (by kernel_rfl) ?_
    refine zlEnd (by kernel_rfl) ?_
    refine zkSeq ?_
    refine zrCondT (by kernel_rfl) ?_
    refine zrSeq ?_
    refine zrReg ?_
    refine zlRun (n := 1) (j := 1) rfl (by kernel_rfl) ?_
    refine zlEnd (by kernel_rfl) ?_
    refine zkSeq ?_
    refine zrRet ?_
    refine zkSeqR ?_
    refine zkNil ?_
    exact endQ (F := f26_Q) hS hQ (fRet (by kernel_rfl) ((congrArg (fun s => outR s 0 c26.res) (by kernel_rfl : finSt c26.fin _ = f26_fin [])).trans (f26_out [])))
/- farwriter/grid.Clone -/
def f52_fin (p1 : Int) (p2 : Int) (p3 : List GCell) : St := ⟨(up (fun _ => .un) 2 (.r (.ptr 24 0 0))), (up (up (hB fun _ => 0) 48 ⟨0, some (.own 33 4 (e_GCell.cells p3))⟩) 24 ⟨0, some (.box ((.d (.int .i64 p1)) :: ((.d (.int .i64 p2)) :: ((.r (.msl 48 0 0 p3.length)) :: []))))⟩)⟩
theorem f52_out (p1 : Int) (p2 : Int) (p3 : List GCell) : outR (f52_fin p1 p2 p3) 0 c52.res = some ((.agg ((.d (.int .i64 p1)) :: ((.d (.int .i64 p2)) :: ((.r (.own 0 33 4 p3.length (e_GCell.cells p3))) :: [])))), []) := by
  exact out_of (ids := []) (ids' := [48]) (l := [(.agg ((.d (.int .i64 p1)) :: ((.d (.int .i64 p2)) :: ((.r (.msl 48 0 0 p3.length)) :: []))))]) (by kernel_rfl) (by kernel_rfl) (o_agg (o_cons rfl (o_cons rfl (o_cons (o_own e_GCell (e := 33) (k := 4) (xs := p3) (by kernel_rfl) rfl rfl rfl rfl) o_nil))))
def f52_Q (r : Int × Int × (List GCell)) (e : PX) (st : St) : Prop := DoneF c52 0 ((.agg ((.d (.int .i64 r.1)) :: ((.d (.int .i64 r.2.1)) :: ((.r (.own 0 33 4 r.2.2.length (e_GCell.cells r.2.2))) :: [])))), []) e st
noncomputable def f52 (a1 : GGrid) : Option (Int × Int × (List GCell)) := ((f26 a1.Cells).bind fun z2 => (some (a1.Wide, a1.High, z2)))
theorem f52_ok (base : Orc) (d : Nat) (hd : 2 ≤ d) (a1 : GGrid) (r : Int × Int × (List GCell)) (hS : f52 a1 = some r) : lev codes base d 52 [(.agg ((.d (.int .i64 a1.Wide)) :: ((.d (.int .i64 a1.High)) :: ((.d (.sl a1.Cells.length (e_GCell.cells a1.Cells))) :: []))))] [] = some ((.agg ((.d (.int .i64 r.1)) :: ((.d (.int .i64 r.2.1)) :: ((.r (.own 0 33 4 r.2.2.length (e_GCell.cells r.2.2))) :: [])))), []) := by
  refine lev_go codes52 rfl rfl (Nat.le_trans (Nat.le_of_ble_eq_true rfl) hd) fun Q hQ => ?_
  unfold f52 at hS
  show ZR _ Q c52_b [] _
  replace hQ : ∀ e st', f52_Q r e st' → Q e st' := hQ
  refine zrSeq ?_
  refine zrReg ?_
  refine zlRun (n := 2) (j := 2) rfl (by kernel_rfl) ?_
  refine zlEnd (by kernel_rfl) ?_
  refine zkSeq ?_
  refine zrSeq ?_
  refine zrReg ?_
  refine zlRun (n := 2) (j := 2) rfl (by kernel_rfl) ?_
  refine bindE hS (fun z2 hz2 hS => ?_)
  refine zlOp (d := some 5) (op := (.call 26 [(.tmp 4)])) (g := none) (v := (.r (.msl 48 1 0 z2.length))) (ups := [(48, ⟨1, some (.own 33 4 (e_GCell.cells z2))⟩)]) (j := 3) rfl (by kernel_rfl) (by kernel_rfl) (ev_call (args := [(.d (.sl a1.Cells.length (e_GCell.cells a1.Cells)))]) (l := [(.d (.sl a1.Cells.length (e_GCell.cells a1.Cells)))]) (r := (.r (.own 0 33 4 z2.length (e_GCell.cells z2)))) (by kernel_rfl) (by kernel_rfl) (f26_ok base (d - 1) (dpt hd rfl) a1.Cells z2 hz2) (by kernel_rfl) (by kernel_rfl) (by kernel_rfl)) ?_
  refine zlRun (n := 2) (j := 5) rfl (by kernel_rfl) ?_
  refine zlEnd (by kernel_rfl) ?_
  refine zkSeq ?_
  refine zrSeq ?_
  refine zrReg ?_
  refine zlRun (n := 2) (j := 2) rfl (by kernel_rfl) ?_
  refine zlEnd (by kernel_rfl) ?_
  refine zkSeq ?_
  refine zrRet ?_
  refine zkNil ?_
  exact endQ hS hQ (fRet (by kernel_rfl) ((congrArg (fun s => outR s 0 c52.res) (by kernel_rfl : finSt c52.fin _ = f52_fin a1.Wide a1.High z2)).trans (f52_out a1.Wide a1.High z2)))
/- farwriter/grid.start -/
def f29_fin (p5 : Int) (p6 : Int) (p7 : List GCell) (p8 : Int) : St := ⟨(up (up (fun _ => .un) 7 (.d (.int .i64 p8))) 6 (.r (.ptr 56 0 0))), (up (up (hB fun _ => 0) 216 ⟨0, some (.own 33 4 (e_GCell.cells p7))⟩) 56 ⟨0, some (.box ((.d (.int .i64 p5)) :: ((.d (.int .i64 p6)) :: ((.r (.msl 216 0 0 p7.length)) :: []))))⟩)⟩
theorem f29_out (p5 : Int) (p6 : Int) (p7 : List GCell) (p8 : Int) : outR (f29_fin p5 p6 p7 p8) 0 c29.res = some ((.tup [(.agg ((.d (.int .i64 p5)) :: ((.d (.int .i64 p6)) :: ((.r (.own 0 33 4 p7.length (e_GCell.cells p7))) :: [])))), (.d (.int .i64 p8))]), []) := by
  exact out_of (ids := []) (ids' := [216]) (l := [(.agg ((.d (.int .i64 p5)) :: ((.d (.int .i64 p6)) :: ((.r (.msl 216 0 0 p7.length)) :: [])))), (.d (.int .i64 p8))]) (by kernel_rfl) (by kernel_rfl) (o_tup (o_cons (o_agg (o_cons rfl (o_cons rfl (o_cons (o_own e_GCell (e := 33) (k := 4) (xs := p7) (by kernel_rfl) rfl rfl rfl rfl) o_nil)))) (o_cons rfl o_nil)))
def f29_Q (r : Int × Int × (List GCell) × Int) (e : PX) (st : St) : Prop := DoneF c29 0 ((.tup [(.agg ((.d (.int .i64 r.1)) :: ((.d (.int .i64 r.2.1)) :: ((.r (.own 0 33 4 r.2.2.1.length (e_GCell.cells r.2.2.1))) :: [])))), (.d (.int .i64 r.2.2.2))]), []) e st
def f29_j1_J (a1 : GGrid) (a2 : Bool) (a3 : GPen) : St := ⟨(up (up (up (fun _ => .un) 6 (.r (.ptr 56 0 0))) 5 (.r (.ptr 48 0 0))) 3 (.r (.ptr 32 0 0))), (up (up (up (hB fun _ => 0) 56 ⟨0, some (.box ((.d (.int .i64 0)) :: ((.d (.int .i64 0)) :: ((.d (.sl ([] : List GCell).length (e_GCell.cells ([])))) :: []))))⟩) 48 ⟨0, some (.box ((.d (.int .i64 a3.Flags)) :: ((.d (.int .i64 a3.Fore)) :: ((.d (.int .i64 a3.Back)) :: []))))⟩) 32 ⟨0, some (.box ((.d (.int .i64 a1.Wide)) :: ((.d (.int .i64 a1.High)) :: ((.d (.sl a1.Cells.length (e_GCell.cells a1.Cells))) :: []))))⟩)⟩
noncomputable def f29_j1 (a1 : GGrid) (a2 : Bool) (a3 : GPen) : Option (Int × Int × (List GCell) × Int) := ((f38 a3).bind fun z5 => (bif (!decide (z5 = 0)) then (some (0, 0, [], z5)) else ((f52 a1).bind fun z6 => (some (z6.1, z6.2.1, z6.2.2, 0)))))
theorem f29_j1_ok {base : Orc} {d : Nat} (hd : 5 ≤ d) (a1 : GGrid) (a2 : Bool) (a3 : GPen) {r : Int × Int × (List GCell) × Int} {Q : PX → St → Prop} (hQ : ∀ e st', f29_Q r e st' → Q e st')  (hS : f29_j1 a1 a2 a3 = some r) {st : St} (he : keepSt [3, 5, 6] [(32, .id 32), (48, .id 48), (56, .id 56)] [] st = f29_j1_J a1 a2 a3) : ZR (lev codes base (d - 1)) Q c29_1 [] st := by
  refine zrKeep he ?_
  unfold f29_j1 at hS
  refine zrSeq ?_
  refine zrSeq ?_
  refine zrReg ?_
  refine zlRun (n := 1) (j := 1) rfl (by kernel_rfl) ?_
  refine bindE hS (fun z5 hz5 hS => ?_)
  refine zlOp (d := some 20) (op := (.call 38 [(.tmp 19)])) (g := none) (v := (.d (.int .i64 z5))) (ups := []) (j := 2) rfl (by kernel_rfl) (by kernel_rfl) (ev_call (args := [(.agg ((.d (.int .i64 a3.Flags)) :: ((.d (.int .i64 a3.Fore)) :: ((.d (.int .i64 a3.Back)) :: []))))]) (l := [(.agg ((.d (.int .i64 a3.Flags)) :: ((.d (.int .i64 a3.Fore)) :: ((.d (.int .i64 a3.Back)) :: []))))]) (r := (.d (.int .i64 z5))) (by kernel_rfl) (by kernel_rfl) (f38_ok base (d - 1) (dpt hd rfl) a3 z5 hz5) (by kernel_rfl) (by kernel_rfl) (by kernel_rfl)) ?_
  refine zlRun (n := 1) (j := 3) rfl (by kernel_rfl) ?_
  refine zlEnd (by kernel_rfl) ?_
  refine zkSeq ?_
  refine zrSeq ?_
  refine zrReg ?_
  refine zlRun (n := 1) (j := 1) rfl (by kernel_rfl) ?_
  refine zlBool (d := 22) (op := (.cmpI .neq (.tmp 21) (.const (.int .i64 0)))) (g := none) (j := 2) (!decide (z5 = 0)) rfl (by kernel_rfl) (by kernel_rfl) (by kernel_rfl) (fun hc => ?_) (fun hc => ?_)
  · replace hS := cond_t hc hS
    refine zlEnd (by kernel_rfl) ?_
    refine zkSeq ?_
    refine zrCondT (by kernel_rfl) ?_
    refine zrSeq ?_
    refine zrReg ?_
    refine zlRun (n := 4) (j := 4) rfl (by kernel_rfl) ?_
    refine zlEnd (by kernel_rfl) ?_
    refine zkSeq ?_
    refine zrRet ?_
    refine zkSeqR ?_
    refine zkNil ?_
    exact endQ hS hQ (fRet (by kernel_rfl) ((congrArg (fun s => outR s 0 c29.res) (by kernel_rfl : finSt c29.fin _ = f29_fin 0 0 [] z5)).trans (f29_out 0 0 [] z5)))
  · replace hS := cond_f hc hS
    refine zlEnd (by kernel_rfl) ?_
    refine zkSeq ?_
    refine zrCondF (by kernel_rfl) ?_
    refine zrSkip ?_
    refine zkSeq ?_
    refine zrSeq ?_
    refine zrReg ?_
    refine zlRun (n := 1) (j := 1) rfl (by kernel_rfl) ?_
    refine bindE hS (fun z6 hz6 hS => ?_)
    refine zlOp (d := some 26) (op := (.callf 52 [(.tmp 25)])) (g := none) (v := (.agg ((.d (.int .i64 z6.1)) :: ((.d (.int .i64 z6.2.1)) :: ((.r (.msl 216 1 0 z6.2.2.length)) :: []))))) (ups := [(216, ⟨1, some (.own 33 4 (e_GCell.cells z6.2.2))⟩)]) (j := 2) rfl (by kernel_rfl) (by kernel_rfl) (ev_callF (args := [(.agg ((.d (.int .i64 a1.Wide)) :: ((.d (.int .i64 a1.High)) :: ((.d (.sl a1.Cells.length (e_GCell.cells a1.Cells))) :: []))))]) (args' := [(.agg ((.d (.int .i64 a1.Wide)) :: ((.d (.int .i64 a1.High)) :: ((.d (.sl a1.Cells.length (e_GCell.cells a1.Cells))) :: []))))]) (l := [(.agg ((.d (.int .i64 a1.Wide)) :: ((.d (.int .i64 a1.High)) :: ((.d (.sl a1.Cells.length (e_GCell.cells a1.Cells))) :: []))))]) (refs := []) (r := (.agg ((.d (.int .i64 z6.1)) :: ((.d (.int .i64 z6.2.1)) :: ((.r (.own 0 33 4 z6.2.2.length (e_GCell.cells z6.2.2))) :: []))))) (v := (.agg ((.d (.int .i64 z6.1)) :: ((.d (.int .i64 z6.2.1)) :: ((.r (.msl 216 1 0 z6.2.2.length)) :: []))))) (ups' := [(216, ⟨1, some (.own 33 4 (e_GCell.cells z6.2.2))⟩)]) (by kernel_rfl) (by kernel_rfl) (by kernel_rfl) (fz_cons rfl fz_nil) (by kernel_rfl) (f52_ok base (d - 1) (dpt hd rfl) a1 z6 hz6) (by kernel_rfl) (by kernel_rfl) (by kernel_rfl) (by kernel_rfl)) ?_
    refine zlRun (n := 2) (j := 4) rfl (by kernel_rfl) ?_
    refine zlEnd (by kernel_rfl) ?_
    refine zkSeq ?_
    refine zrRet ?_
    refine zkNil ?_
    exact endQ hS hQ (fRet (by kernel_rfl) ((congrArg (fun s => outR s 0 c29.res) (by kernel_rfl : finSt c29.fin _ = f29_fin z6.1 z6.2.1 z6.2.2 0)).trans (f29_out z6.1 z6.2.1 z6.2.2 0)))
def f29_j0_J (a1 : GGrid) (a2 : Bool) (a3 : GPen) : St := ⟨(up (up (up (up (fun _ => .un) 6 (.r (.ptr 56 0 0))) 5 (.r (.ptr 48 0 0))) 3 (.r (.ptr 32 0 0))) 1 (.d (.bool a2))), (up (up (up (hB fun _ => 0) 56 ⟨0, some (.box ((.d (.int .i64 0)) :: ((.d (.int .i64 0)) :: ((.d (.sl ([] : List GCell).length (e_GCell.cells ([])))) :: []))))⟩) 48 ⟨0, some (.box ((.d (.int .i64 a3.Flags)) :: ((.d (.int .i64 a3.Fore)) :: ((.d (.int .i64 a3.Back)) :: []))))⟩) 32 ⟨0, some (.box ((.d (.int .i64 a1.Wide)) :: ((.d (.int .i64 a1.High)) :: ((.d (.sl a1.Cells.length (e_GCell.cells a1.Cells))) :: []))))⟩)⟩
noncomputable def f29_j0 (a1 : GGrid) (a2 : Bool) (a3 : GPen) : Option (Int × Int × (List GCell) × Int) := (bif (!a2) then (some (0, 0, [], 1)) else (f29_j1 a1 a2 a3 ))
theorem f29_j0_ok {base : Orc} {d : Nat} (hd : 5 ≤ d) (a1 : GGrid) (a2 : Bool) (a3 : GPen) {r : Int × Int × (List GCell) × Int} {Q : PX → St → Prop} (hQ : ∀ e st', f29_Q r e st' → Q e st')  (hS : f29_j0 a1 a2 a3 = some r) {st : St} (he : keepSt [1, 3, 5, 6] [(32, .id 32), (48, .id 48), (56, .id 56)] [.cell 56 2 0 0 1] st = f29_j0_J a1 a2 a3) : ZR (lev codes base (d - 1)) Q c29_2 [] st := by
  refine zrKeep he ?_
  unfold f29_j0 at hS
  refine zrSeq ?_
  refine zrSeq ?_
  refine zrReg ?_
  refine zlRun (n := 2) (j := 2) rfl (by kernel_rfl) ?_
  refine zlEnd (by kernel_rfl) ?_
  refine zkSeq ?_
  refine zrSplit 17 (!a2) (by kernel_rfl) (fun hc => ?_) (fun hc => ?_)
  · replace hS := cond_t hc hS
    refine zrCondT (by kernel_rfl) ?_
    refine zrSeq ?_
    refine zrReg ?_
    refine zlRun (n := 3) (j := 3) rfl (by kernel_rfl) ?_
    refine zlEnd (by kernel_rfl) ?_
    refine zkSeq ?_
    refine zrRet ?_
    refine zkSeqR ?_
    refine zkNil ?_
    exact endQ hS hQ (fRet (by kernel_rfl) ((congrArg (fun s => outR s 0 c29.res) (by kernel_rfl : finSt c29.fin _ = f29_fin 0 0 [] 1)).trans (f29_out 0 0 [] 1)))
  · replace hS := cond_f hc hS
    refine zrCondF (by kernel_rfl) ?_
    refine zrSkip ?_
    refine zkSeq ?_
    exact f29_j1_ok hd a1 a2 a3 hQ  hS (by kernel_rfl)
noncomputable def f29 (a1 : GGrid) (a2 : Bool) (a3 : GPen) : Option (Int × Int × (List GCell) × Int) := ((f18 a1).bind fun z7 => (bif (!decide (z7 = 0)) then (some (0, 0, [], z7)) else (f29_j0 a1 a2 a3 )))
theorem f29_ok (base : Orc) (d : Nat) (hd : 5 ≤ d) (a1 : GGrid) (a2 : Bool) (a3 : GPen) (r : Int × Int × (List GCell) × Int) (hS : f29 a1 a2 a3 = some r) : lev codes base d 29 [(.agg ((.d (.int .i64 a1.Wide)) :: ((.d (.int .i64 a1.High)) :: ((.d (.sl a1.Cells.length (e_GCell.cells a1.Cells))) :: [])))), (.d (.bool a2)), (.agg ((.d (.int .i64 a3.Flags)) :: ((.d (.int .i64 a3.Fore)) :: ((.d (.int .i64 a3.Back)) :: []))))] [] = some ((.tup [(.agg ((.d (.int .i64 r.1)) :: ((.d (.int .i64 r.2.1)) :: ((.r (.own 0 33 4 r.2.2.1.length (e_GCell.cells r.2.2.1))) :: [])))), (.d (.int .i64 r.2.2.2))]), []) := by
  refine lev_go codes29 rfl rfl (Nat.le_trans (Nat.le_of_ble_eq_true rfl) hd) fun Q hQ => ?_
  unfold f29 at hS
  show ZR _ Q c29_b [] _
  replace hQ : ∀ e st', f29_Q r e st' → Q e st' := hQ
  refine zrSeq ?_
  refine zrReg ?_
  refine zlRun (n := 4) (j := 4) rfl (by kernel_rfl) ?_
  refine zlEnd (by kernel_rfl) ?_
  refine zkSeq ?_
  refine zrSeq ?_
  refine zrSeq ?_
  refine zrReg ?_
  refine zlRun (n := 1) (j := 1) rfl (by kernel_rfl) ?_
  refine bindE hS (fun z7 hz7 hS => ?_)
  refine zlOp (d := some 11) (op := (.call 18 [(.tmp 10)])) (g := none) (v := (.d (.int .i64 z7))) (ups := []) (j := 2) rfl (by kernel_rfl) (by kernel_rfl) (ev_call (args := [(.agg ((.d (.int .i64 a1.Wide)) :: ((.d (.int .i64 a1.High)) :: ((.d (.sl a1.Cells.length (e_GCell.cells a1.Cells))) :: []))))]) (l := [(.agg ((.d (.int .i64 a1.Wide)) :: ((.d (.int .i64 a1.High)) :: ((.d (.sl a1.Cells.length (e_GCell.cells a1.Cells))) :: []))))]) (r := (.d (.int .i64 z7))) (by kernel_rfl) (by kernel_rfl) (f18_ok base (d - 1) (dpt hd rfl) a1 z7 hz7) (by kernel_rfl) (by kernel_rfl) (by kernel_rfl)) ?_
  refine zlRun (n := 1) (j := 3) rfl (by kernel_rfl) ?_
  refine zlEnd (by kernel_rfl) ?_
  refine zkSeq ?_
  refine zrSeq ?_
  refine zrReg ?_
  refine zlRun (n := 1) (j := 1) rfl (by kernel_rfl) ?_
  refine zlBool (d := 13) (op := (.cmpI .neq (.tmp 12) (.const (.int .i64 0)))) (g := none) (j := 2) (!decide (z7 = 0)) rfl (by kernel_rfl) (by kernel_rfl) (by kernel_rfl) (fun hc => ?_) (fun hc => ?_)
  · replace hS := cond_t hc hS
    refine zlEnd (by kernel_rfl) ?_
    refine zkSeq ?_
    refine zrCondT (by kernel_rfl) ?_
    refine zrSeq ?_
    refine zrReg ?_
    refine zlRun (n := 4) (j := 4) rfl (by kernel_rfl) ?_
    refine zlEnd (by kernel_rfl) ?_
    refine zkSeq ?_
    refine zrRet ?_
    refine zkSeqR ?_
    refine zkNil ?_
    exact endQ hS hQ (fRet (by kernel_rfl) ((congrArg (fun s => outR s 0 c29.res) (by kernel_rfl : finSt c29.fin _ = f29_fin 0 0 [] z7)).trans (f29_out 0 0 [] z7)))
  · replace hS := cond_f hc hS
    refine zlEnd (by kernel_rfl) ?_
    refine zkSeq ?_
    refine zrCondF (by kernel_rfl) ?_
    refine zrSkip ?_
    refine zkSeq ?_
    exact f29_j0_ok hd a1 a2 a3 hQ  hS (by kernel_rfl)
/- farwriter/grid.row -/
def f33v1_fin (p1 : List GCell) (p2 : Nat) (p3 : Nat) : St := ⟨(up (up (fun _ => .un) 2000000 .un) 4 (.r (.msl 0 0 p2 p3))), (up (hB fun _ => 0) 0 ⟨0, some (.own 33 4 (e_GCell.cells p1))⟩)⟩
theorem f33v1_out (p1 : List GCell) (p2 : Nat) (p3 : Nat) : outR (f33v1_fin p1 p2 p3) 1 c33.res = some ((.r (.msl 0 0 p2 p3)), [(.own 33 4 (e_GCell.cells p1))]) := by
  kernel_rfl
def f33v1_Q (r : (List GCell) × Nat × Nat) (e : PX) (st : St) : Prop := DoneF c33 1 ((.r (.msl 0 0 r.2.1 r.2.2)), [(.own 33 4 (e_GCell.cells r.1)), .box []]) e st
noncomputable def f33v1 (a1 : Int) (a2 : Int) (a3 : Int) (a4 : List GCell) : Option ((List GCell) × Nat × Nat) := ((chk (decide (0 ≤ (IntKind.i64.wrap (a3 * a1))) && decide ((IntKind.i64.wrap (a3 * a1)) ≤ (IntKind.i64.wrap ((IntKind.i64.wrap (a3 + 1)) * a1))) && decide ((IntKind.i64.wrap ((IntKind.i64.wrap (a3 + 1)) * a1)) ≤ (a4.length : Int)))).bind fun z2 => (some (a4, (((IntKind.i64.wrap (a3 * a1)) : Int).toNat), (((IntKind.i64.wrap ((IntKind.i64.wrap (a3 + 1)) * a1)) : Int).toNat - ((IntKind.i64.wrap (a3 * a1)) : Int).toNat))))
theorem f33v1_ok (base : Orc) (d : Nat) (hd : 1 ≤ d) (a1 : Int) (a2 : Int) (a3 : Int) (a4 : List GCell) (r : (List GCell) × Nat × Nat) (hS : f33v1 a1 a2 a3 a4 = some r) : lev codes base d 33 [(.agg ((.d (.int .i64 a1)) :: ((.d (.int .i64 a2)) :: ((.r (.msl 0 0 0 a4.length)) :: [])))), (.d (.int .i64 a3))] [(.own 33 4 (e_GCell.cells a4))] = some ((.r (.msl 0 0 r.2.1 r.2.2)), [(.own 33 4 (e_GCell.cells r.1)), .box []]) := by
  refine lev_go codes33 rfl rfl (Nat.le_trans (Nat.le_of_ble_eq_true rfl) hd) fun Q hQ => ?_
  unfold f33v1 at hS
  show ZR _ Q c33_b [] _
  replace hQ : ∀ e st', f33v1_Q r e st' → Q e st' := hQ
  refine zrSeq ?_
  refine zrReg ?_
  refine zlRun (n := 2) (j := 2) rfl (by kernel_rfl) ?_
  refine zlEnd (by kernel_rfl) ?_
  refine zkSeq ?_
  refine zrSeq ?_
  refine zrReg ?_
  refine zlRun (n := 11) (j := 11) rfl (by kernel_rfl) ?_
  refine bindE hS (fun z2 hz2 hS => ?_)
  refine zlOp (d := some 16) (op := (.slS 33 4 (.tmp 6) (.some (.tmp 10)) (.some (.tmp 15)))) (g := none) (v := (.r (.msl 0 0 (((IntKind.i64.wrap (a3 * a1)) : Int).toNat) (((IntKind.i64.wrap ((IntKind.i64.wrap (a3 + 1)) * a1)) : Int).toNat - ((IntKind.i64.wrap (a3 * a1)) : Int).toNat)))) (ups := []) (j := 12) rfl (by kernel_rfl) (by kernel_rfl) (ev_slM (b := 0) (g := 0) (e := 33) (a := (IntKind.i64.wrap (a3 * a1))) (c := (IntKind.i64.wrap ((IntKind.i64.wrap (a3 + 1)) * a1))) (l := 0) (n := a4.length) (l' := (((IntKind.i64.wrap (a3 * a1)) : Int).toNat)) (n' := (((IntKind.i64.wrap ((IntKind.i64.wrap (a3 + 1)) * a1)) : Int).toNat - ((IntKind.i64.wrap (a3 * a1)) : Int).toNat)) (cs := e_GCell.cells a4) (by kernel_rfl) (by kernel_rfl) (bnd_s _ (kk := .i64) (j := (IntKind.i64.wrap (a3 * a1))) (by kernel_rfl)) (bnd_s _ (kk := .i64) (j := (IntKind.i64.wrap ((IntKind.i64.wrap (a3 + 1)) * a1))) (by kernel_rfl)) hz2 (by simp) rfl) ?_
  refine zlRun (n := 1) (j := 13) rfl (by kernel_rfl) ?_
  refine zlEnd (by kernel_rfl) ?_
  refine zkSeq ?_
  refine zrRet ?_
  refine zkNil ?_
  exact endQ hS hQ (fRetX (by kernel_rfl) (by kernel_rfl : finSt c33.fin _ = f33v1_fin a4 (((IntKind.i64.wrap (a3 * a1)) : Int).toNat) (((IntKind.i64.wrap ((IntKind.i64.wrap (a3 + 1)) * a1)) : Int).toNat - ((IntKind.i64.wrap (a3 * a1)) : Int).toNat)) (by kernel_rfl) (f33v1_out a4 (((IntKind.i64.wrap (a3 * a1)) : Int).toNat) (((IntKind.i64.wrap ((IntKind.i64.wrap (a3 + 1)) * a1)) : Int).toNat - ((IntKind.i64.wrap (a3 * a1)) : Int).toNat)))
/- farwriter/grid.repair -/
def f46_fin (p27 : List GCell) : St := ⟨(up (fun _ => .un) 2000000 .un), (up (hB fun _ => 0) 0 ⟨0, some (.own 33 4 (e_GCell.cells p27))⟩)⟩
theorem f46_out (p27 : List GCell) : outR (f46_fin p27) 1 c46.res = some ((.tup []), [(.own 33 4 (e_GCell.cells p27))]) := by
  kernel_rfl
def f46_Q (r : (List GCell)) (e : PX) (st : St) : Prop := DoneF c46 1 ((.tup []), [(.own 33 4 (e_GCell.cells r)), .box []]) e st
def f46_l0_J (a1 : Nat) (a2 : Nat) (a3 : List GCell) (x : (List GCell) × (List GCell) × Int) : St := ⟨(up (up (up (up (fun _ => .un) 8 (.d (.int .i64 x.2.2))) 7 (.d (.int .i64 (a2 : Int)))) 2 (.r (.msl 48 0 0 x.2.1.length))) 0 (.r (.msl 0 0 a1 a2))), (up (up (hB fun _ => 0) 48 ⟨0, some (.own 33 4 (e_GCell.cells x.2.1))⟩) 0 ⟨0, some (.own 33 4 (e_GCell.cells x.1))⟩)⟩
def f46_l0_H (a1 : Nat) (a2 : Nat) (a3 : List GCell) (x : (List GCell) × (List GCell) × Int) (st : St) : Prop := keepSt [0, 2, 7, 8] [(0, .id 0), (48, .id 48)] [] st = f46_l0_J a1 a2 a3 x
def f46_l0_e0_J (a1 : Nat) (a2 : Nat) (a3 : List GCell) (p53 : List GCell) : St := ⟨(fun _ => .un), (up (hB fun _ => 0) 0 ⟨0, some (.own 33 4 (e_GCell.cells p53))⟩)⟩
def f46_l0_X (a1 : Nat) (a2 : Nat) (a3 : List GCell) (z : ((List GCell))) (e : PX) (st : St) : Prop := e = .exit 0 ∧ st = f46_l0_e0_J a1 a2 a3 z
def f46_l0_j2_J (a1 : Nat) (a2 : Nat) (a3 : List GCell) (p62 : List GCell) (p63 : List GCell) (p64 : Int) : St := ⟨(up (up (up (up (fun _ => .un) 8 (.d (.int .i64 p64))) 7 (.d (.int .i64 (a2 : Int)))) 2 (.r (.msl 48 0 0 p63.length))) 0 (.r (.msl 0 0 a1 a2))), (up (up (hB fun _ => 0) 48 ⟨0, some (.own 33 4 (e_GCell.cells p63))⟩) 0 ⟨0, some (.own 33 4 (e_GCell.cells p62))⟩)⟩
noncomputable def f46_l0_j2 (a1 : Nat) (a2 : Nat) (a3 : List GCell) (p62 : List GCell) (p63 : List GCell) (p64 : Int) : Option (((List GCell) × (List GCell) × Int) ⊕ (((List GCell)))) := ((f39 p63 p64).bind fun z47 => (bif z47 then ((inR p64 p63.length).bind fun m48 => ((p63[m48]?).bind fun z49 => ((f54 z49.Pen).bind fun z50 => ((inR p64 a2).bind fun m51 => ((p62[(a1 + m51)]?).bind fun z52 => ((some (p62.set (a1 + m51) z50)).bind fun z53 => (some (.inl (z53, p63, (IntKind.i64.wrap (p64 + 1))))))))))) else (some (.inl (p62, p63, (IntKind.i64.wrap (p64 + 1)))))))
theorem f46_l0_j2_ok {base : Orc} {d : Nat} (hd : 4 ≤ d) (a1 : Nat) (a2 : Nat) (a3 : List GCell) {r : ((List GCell) × (List GCell) × Int) ⊕ (((List GCell)))} {Q : PX → St → Prop} (hQ : ∀ e st', finL (f46_l0_H a1 a2 a3) (f46_l0_X a1 a2 a3) r e st' → Q e st') (p62 : List GCell) (p63 : List GCell) (p64 : Int) (hS : f46_l0_j2 a1 a2 a3 p62 p63 p64 = some r) {st : St} (he : keepSt [0, 2, 7, 8] [(0, .id 0), (48, .id 48)] [] st = f46_l0_j2_J a1 a2 a3 p62 p63 p64) : ZR (lev codes base (d - 1)) Q c46_1 [] st := by
  refine zrKeep he ?_
  unfold f46_l0_j2 at hS
  refine zrSeq ?_
  refine zrBlk ?_
  refine zrSeq ?_
  refine zrReg ?_
  refine zlRun (n := 2) (j := 2) rfl (by kernel_rfl) ?_
  refine zlEnd (by kernel_rfl) ?_
  refine zkSeq ?_
  refine zrSeq ?_
  refine zrReg ?_
  refine zlRun (n := 2) (j := 2) rfl (by kernel_rfl) ?_
  refine bindE hS (fun z47 hz47 hS => ?_)
  refine zlOp (d := some 13) (op := (.call 39 [(.tmp 11), (.tmp 12)])) (g := none) (v := (.d (.bool z47))) (ups := []) (j := 3) rfl (by kernel_rfl) (by kernel_rfl) (ev_call (args := [(.r (.msl 48 0 0 p63.length)), (.d (.int .i64 p64))]) (l := [(.d (.sl p63.length (e_GCell.cells p63))), (.d (.int .i64 p64))]) (r := (.d (.bool z47))) (by kernel_rfl) (l_cons (l_own e_GCell (e := 33) (k := 4) (xs := p63) (by kernel_rfl) rfl rfl) (l_cons (by kernel_rfl) l_nil)) (f39_ok base (d - 1) (dpt hd rfl) p63 p64 z47 hz47) (by kernel_rfl) (by kernel_rfl) (by kernel_rfl)) ?_
  refine zlEnd (by kernel_rfl) ?_
  refine zkSeq ?_
  refine zrSplit 13 z47 (by kernel_rfl) (fun hc => ?_) (fun hc => ?_)
  · replace hS := cond_t hc hS
    refine zrCondT (by kernel_rfl) ?_
    refine zrReg ?_
    refine zlRun (n := 4) (j := 4) rfl (by kernel_rfl) ?_
    refine bindE hS (fun m48 hm48 hS => ?_)
    refine zlOp (d := some 18) (op := (.ixS 33 4 (.tmp 16) (.tmp 17))) (g := none) (v := (.r (.ptr 48 0 ((0 + m48) * 4)))) (ups := []) (j := 5) rfl (by kernel_rfl) (by kernel_rfl) (ev_ixM (kk := .i64) (b := 48) (g := 0) (l := 0) (n := p63.length) (j := p64) (cs := e_GCell.cells p63) (by kernel_rfl) (by kernel_rfl) (by kernel_rfl) hm48) ?_
    refine zlRun (n := 1) (j := 6) rfl (by kernel_rfl) ?_
    refine bindE hS (fun z49 hz49 hS => ?_)
    refine zlOp (d := some 20) (op := (.load .true 3 (.tmp 19))) (g := none) (v := (.agg ((.d (.int .i64 z49.Pen.Flags)) :: ((.d (.int .i64 z49.Pen.Fore)) :: ((.d (.int .i64 z49.Pen.Back)) :: []))))) (ups := []) (j := 7) rfl (by kernel_rfl) (by kernel_rfl) (ev_loadM e_GCell (b := 48) (g := 0) (o := (0 + m48) * 4 + 1) (e := 33) (k := 4) (m := m48) (fo := 1) (xs := p63) (by kernel_rfl) (by kernel_rfl) (by rw [Nat.zero_add]; rfl) hz49 (by kernel_rfl) (by kernel_rfl) (by kernel_rfl)) ?_
    refine bindE hS (fun z50 hz50 hS => ?_)
    refine zlOp (d := some 21) (op := (.call 54 [(.tmp 20)])) (g := none) (v := (.agg ((.d (.int .i64 z50.Rune)) :: ((.d (.int .i64 z50.Pen.Flags)) :: ((.d (.int .i64 z50.Pen.Fore)) :: ((.d (.int .i64 z50.Pen.Back)) :: [])))))) (ups := []) (j := 8) rfl (by kernel_rfl) (by kernel_rfl) (ev_call (args := [(.agg ((.d (.int .i64 z49.Pen.Flags)) :: ((.d (.int .i64 z49.Pen.Fore)) :: ((.d (.int .i64 z49.Pen.Back)) :: []))))]) (l := [(.agg ((.d (.int .i64 z49.Pen.Flags)) :: ((.d (.int .i64 z49.Pen.Fore)) :: ((.d (.int .i64 z49.Pen.Back)) :: []))))]) (r := (.agg ((.d (.int .i64 z50.Rune)) :: ((.d (.int .i64 z50.Pen.Flags)) :: ((.d (.int .i64 z50.Pen.Fore)) :: ((.d (.int .i64 z50.Pen.Back)) :: [])))))) (by kernel_rfl) (by kernel_rfl) (f54_ok base (d - 1) (dpt hd rfl) z49.Pen z50 hz50) (by kernel_rfl) (by kernel_rfl) (by kernel_rfl)) ?_
    refine bindE hS (fun m51 hm51 hS => ?_)
    refine zlOp (d := some 22) (op := (.ixS 33 4 (.tmp 14) (.tmp 15))) (g := none) (v := (.r (.ptr 0 0 ((a1 + m51) * 4)))) (ups := []) (j := 9) rfl (by kernel_rfl) (by kernel_rfl) (ev_ixM (kk := .i64) (b := 0) (g := 0) (l := a1) (n := a2) (j := p64) (cs := e_GCell.cells p62) (by kernel_rfl) (by kernel_rfl) (by kernel_rfl) hm51) ?_
    refine bindE hS (fun z52 hz52 hS => ?_)
    refine bindE hS (fun z53 hz53 hS => ?_)
    refine zlOp (d := none) (op := (.store 4 (.tmp 22) (.tmp 21))) (g := none) (v := .un) (ups := [(0, ⟨0, some (.own 33 4 (e_GCell.cells (p62.set (a1 + m51) z50)))⟩)]) (j := 10) rfl (by kernel_rfl) (by kernel_rfl) (ev_storeM e_GCell (b := 0) (g := 0) (o := (a1 + m51) * 4) (e := 33) (k := 4) (m := (a1 + m51)) (fo := 0) (xs := p62) (z := z52) (z' := z50) (by kernel_rfl) (new := ((.d (.int .i64 z50.Rune)) :: ((.d (.int .i64 z50.Pen.Flags)) :: ((.d (.int .i64 z50.Pen.Fore)) :: ((.d (.int .i64 z50.Pen.Back)) :: []))))) (ds := [.int .i64 z50.Rune, .int .i64 z50.Pen.Flags, .int .i64 z50.Pen.Fore, .int .i64 z50.Pen.Back]) (by kernel_rfl) (by kernel_rfl) (by kernel_rfl) rfl hz52 (by kernel_rfl) (by kernel_rfl) (by kernel_rfl)) ?_
    have ez53 := Option.some.inj hz53
    have lz53 : p62.length = z53.length := by rw [← ez53, List.length_set]
    rw [ez53]
    try delta f46_l0_j2_J
    try rw [lz53]
    refine zlEnd (by kernel_rfl) ?_
    refine zkBlk ?_
    refine zkSeq ?_
    refine zrReg ?_
    refine zlRun (n := 2) (j := 2) rfl (by kernel_rfl) ?_
    refine zlEnd (by kernel_rfl) ?_
    refine zkNil ?_
    exact endQ hS hQ (finL_n (by show keepSt _ _ _ _ = _; kernel_rfl))
  · replace hS := cond_f hc hS
    refine zrCondF (by kernel_rfl) ?_
    refine zrSkip ?_
    refine zkBlk ?_
    refine zkSeq ?_
    refine zrReg ?_
    refine zlRun (n := 2) (j := 2) rfl (by kernel_rfl) ?_
    refine zlEnd (by kernel_rfl) ?_
    refine zkNil ?_
    exact endQ hS hQ (finL_n (by show keepSt _ _ _ _ = _; kernel_rfl))
def f46_l0_j1_J (a1 : Nat) (a2 : Nat) (a3 : List GCell) (p58 : List GCell) (p59 : List GCell) (p60 : Int) (p61 : Bool) : St := ⟨(up (up (up (up (up (fun _ => .un) 9 (.d (.bool p61))) 8 (.d (.int .i64 p60))) 7 (.d (.int .i64 (a2 : Int)))) 2 (.r (.msl 48 0 0 p59.length))) 0 (.r (.msl 0 0 a1 a2))), (up (up (hB fun _ => 0) 48 ⟨0, some (.own 33 4 (e_GCell.cells p59))⟩) 0 ⟨0, some (.own 33 4 (e_GCell.cells p58))⟩)⟩
noncomputable def f46_l0_j1 (a1 : Nat) (a2 : Nat) (a3 : List GCell) (p58 : List GCell) (p59 : List GCell) (p60 : Int) (p61 : Bool) : Option (((List GCell) × (List GCell) × Int) ⊕ (((List GCell)))) := (bif p61 then (f46_l0_j2 a1 a2 a3 p58 p59 p60) else (some (.inr p58)))
theorem f46_l0_j1_ok {base : Orc} {d : Nat} (hd : 4 ≤ d) (a1 : Nat) (a2 : Nat) (a3 : List GCell) {r : ((List GCell) × (List GCell) × Int) ⊕ (((List GCell)))} {Q : PX → St → Prop} (hQ : ∀ e st', finL (f46_l0_H a1 a2 a3) (f46_l0_X a1 a2 a3) r e st' → Q e st') (p58 : List GCell) (p59 : List GCell) (p60 : Int) (p61 : Bool) (hS : f46_l0_j1 a1 a2 a3 p58 p59 p60 p61 = some r) {st : St} (he : keepSt [0, 2, 7, 8, 9] [(0, .id 0), (48, .id 48)] [] st = f46_l0_j1_J a1 a2 a3 p58 p59 p60 p61) : ZR (lev codes base (d - 1)) Q c46_2 [] st := by
  refine zrKeep he ?_
  unfold f46_l0_j1 at hS
  refine zrSeq ?_
  refine zrSplit 9 p61 (by kernel_rfl) (fun hc => ?_) (fun hc => ?_)
  · replace hS := cond_t hc hS
    refine zrCondT (by kernel_rfl) ?_
    refine zrSkip ?_
    refine zkSeq ?_
    exact f46_l0_j2_ok hd a1 a2 a3 hQ p58 p59 p60 hS (by kernel_rfl)
  · replace hS := cond_f hc hS
    refine zrCondF (by kernel_rfl) ?_
    refine zrKeep (J := f46_l0_e0_J a1 a2 a3 p58) (by kernel_rfl) ?_
    refine zrExit ?_
    refine zkSeqX ?_
    refine zkNil ?_
    exact endQ hS hQ (finL_x (by intro h; cases h) (by show _ = _ ∧ _ = _; exact ⟨rfl, rfl⟩))
noncomputable def f46_l0 (a1 : Nat) (a2 : Nat) (a3 : List GCell) (x : (List GCell) × (List GCell) × Int) : Option (((List GCell) × (List GCell) × Int) ⊕ (((List GCell)))) := (bif (decide (x.2.2 < (a2 : Int))) then (f46_l0_j1 a1 a2 a3 x.1 x.2.1 x.2.2 true) else (f46_l0_j1 a1 a2 a3 x.1 x.2.1 x.2.2 false))
theorem f46_l0_ok {base : Orc} {d : Nat} (hd : 4 ≤ d) (a1 : Nat) (a2 : Nat) (a3 : List GCell) {r : ((List GCell) × (List GCell) × Int) ⊕ (((List GCell)))} {Q : PX → St → Prop} (hQ : ∀ e st', finL (f46_l0_H a1 a2 a3) (f46_l0_X a1 a2 a3) r e st' → Q e st') {x : (List GCell) × (List GCell) × Int} (hS : f46_l0 a1 a2 a3 x = some r) {st : St} (he : f46_l0_H a1 a2 a3 x st) : ZR (lev codes base (d - 1)) Q c46_3 [] st := by
  refine zrKeep he ?_
  unfold f46_l0 at hS
  refine zrSeq ?_
  refine zrReg ?_
  refine zlBool (d := 9) (op := (.cmpI .lss (.tmp 8) (.tmp 7))) (g := none) (j := 1) (decide (x.2.2 < (a2 : Int))) rfl (by kernel_rfl) (by kernel_rfl) (by kernel_rfl) (fun hc => ?_) (fun hc => ?_)
  · replace hS := cond_t hc hS
    refine zlEnd (by kernel_rfl) ?_
    refine zkSeq ?_
    exact f46_l0_j1_ok hd a1 a2 a3 hQ x.1 x.2.1 x.2.2 true hS (by kernel_rfl)
  · replace hS := cond_f hc hS
    refine zlEnd (by kernel_rfl) ?_
    refine zkSeq ?_
    exact f46_l0_j1_ok hd a1 a2 a3 hQ x.1 x.2.1 x.2.2 false hS (by kernel_rfl)
noncomputable def f46 (a1 : Nat) (a2 : Nat) (a3 : List GCell) : Option ((List GCell)) := ((part? a3 a1 a2).bind fun z24 => ((f26 z24).bind fun z25 => ((loopO (f46_l0 a1 a2 a3) (a3, z25, 0)).bind fun z54 => (some z54))))
theorem f46_ok (base : Orc) (d : Nat) (hd : 4 ≤ d) (a1 : Nat) (a2 : Nat) (a3 : List GCell) (r : (List GCell)) (hS : f46 a1 a2 a3 = some r) : lev codes base d 46 [(.r (.msl 0 0 a1 a2))] [(.own 33 4 (e_GCell.cells a3))] = some ((.tup []), [(.own 33 4 (e_GCell.cells r)), .box []]) := by
  refine lev_go codes46 rfl rfl (Nat.le_trans (Nat.le_of_ble_eq_true rfl) hd) fun Q hQ => ?_
  unfold f46 at hS
  show ZR _ Q c46_b [] _
  replace hQ : ∀ e st', f46_Q r e st' → Q e st' := hQ
  refine zrSeq ?_
  refine zrReg ?_
  refine zlRun (n := 1) (j := 1) rfl (by kernel_rfl) ?_
  refine bindE hS (fun z24 hz24 hS => ?_)
  refine bindE hS (fun z25 hz25 hS => ?_)
  refine zlOp (d := some 5) (op := (.call 26 [(.tmp 4)])) (g := none) (v := (.r (.msl 48 1 0 z25.length))) (ups := [(48, ⟨1, some (.own 33 4 (e_GCell.cells z25))⟩)]) (j := 2) rfl (by kernel_rfl) (by kernel_rfl) (ev_call (args := [(.r (.msl 0 0 a1 a2))]) (l := [(.d (.sl z24.length (e_GCell.cells z24)))]) (r := (.r (.own 0 33 4 z25.length (e_GCell.cells z25)))) (by kernel_rfl) (l_cons (l_part e_GCell (e := 33) (k := 4) (xs := a3) (by kernel_rfl) rfl hz24) l_nil) (f26_ok base (d - 1) (dpt hd rfl) z24 z25 hz25) (by simp only [free_own e_GCell (fun _ => rfl), free_tup, free_agg, free_nl, free_cs, free_int, free_bool, free_str, free_un, free_ni, free_s0, Bool.and_true, Bool.or_true, Bool.and_self]) (by kernel_rfl) (by kernel_rfl)) ?_
  refine zlRun (n := 1) (j := 3) rfl (by kernel_rfl) ?_
  refine zlEnd (by kernel_rfl) ?_
  refine zkSeq ?_
  refine zrSeq ?_
  refine zrReg ?_
  refine zlRun (n := 3) (j := 3) rfl (by kernel_rfl) ?_
  refine zlEnd (by kernel_rfl) ?_
  refine zkSeq ?_
  refine zrBlk ?_
  refine bindE hS (fun z54 hz54 hS => ?_)
  refine zrLoop (f46_l0_H a1 a2 a3) (f46_l0_X a1 a2 a3) (fun x st r Q h0 hS hQ => f46_l0_ok hd a1 a2 a3 hQ hS h0) (x := (a3, z25, 0)) (z := z54) (by show keepSt _ _ _ _ = _; kernel_rfl) hz54 ?_
  intro e st' _ hX
  obtain ⟨rfl, rfl⟩ : _ ∧ _ := hX
  refine zkBlkX ?_
  refine zkNil ?_
  exact endQ hS hQ (fNormX (by kernel_rfl) (by kernel_rfl : finSt c46.fin _ = f46_fin z54) (by kernel_rfl) (f46_out z54))
/- farwriter/grid.PutIn -/
def f30_fin (p8 : List GCell) : St := ⟨(up (fun _ => .un) 2000000 .un), (up (hB fun _ => 0) 0 ⟨0, some (.own 33 4 (e_GCell.cells p8))⟩)⟩
theorem f30_out (p8 : List GCell) : outR (f30_fin p8) 1 c30.res = some ((.tup []), [(.own 33 4 (e_GCell.cells p8))]) := by
  kernel_rfl
def f30_Q (r : (List GCell)) (e : PX) (st : St) : Prop := DoneF c30 1 ((.tup []), [(.own 33 4 (e_GCell.cells r)), .box []]) e st
noncomputable def f30 (a1 : Int) (a2 : Int) (a3 : Int) (a4 : Int) (a5 : Int) (a6 : GPen) (a7 : List GCell) : Option ((List GCell)) := ((f33v1 a1 a2 a3 a7).bind fun z12 => ((chk (decide (z12.1.length = a7.length))).bind fun z13 => ((inR a4 z12.2.2).bind fun m14 => ((z12.1[(z12.2.1 + m14)]?).bind fun z15 => ((some (z12.1.set (z12.2.1 + m14) (GCell.mk a5 a6))).bind fun z16 => ((f28 a5).bind fun z18 => (bif (decide (z18 = 2)) then ((inR (IntKind.i64.wrap (a4 + 1)) z12.2.2).bind fun m19 => ((z16[(z12.2.1 + m19)]?).bind fun z20 => ((some (z16.set (z12.2.1 + m19) (GCell.mk 0 a6))).bind fun z21 => ((f46 z12.2.1 z12.2.2 z21).bind fun z22 => ((chk (decide (z22.length = z21.length))).bind fun z23 => (some z22)))))) else ((f46 z12.2.1 z12.2.2 z16).bind fun z24 => ((chk (decide (z24.length = z16.length))).bind fun z25 => (some z24))))))))))
theorem f30_ok (base : Orc) (d : Nat) (hd : 5 ≤ d) (a1 : Int) (a2 : Int) (a3 : Int) (a4 : Int) (a5 : Int) (a6 : GPen) (a7 : List GCell) (r : (List GCell)) (hS : f30 a1 a2 a3 a4 a5 a6 a7 = some r) : lev codes base d 30 [(.agg ((.d (.int .i64 a1)) :: ((.d (.int .i64 a2)) :: ((.r (.msl 0 0 0 a7.length)) :: [])))), (.d (.int .i64 a3)), (.d (.int .i64 a4)), (.d (.int .i64 a5)), (.agg ((.d (.int .i64 a6.Flags)) :: ((.d (.int .i64 a6.Fore)) :: ((.d (.int .i64 a6.Back)) :: []))))] [(.own 33 4 (e_GCell.cells a7))] = some ((.tup []), [(.own 33 4 (e_GCell.cells r)), .box []]) := by
  refine lev_go codes30 rfl rfl (Nat.le_trans (Nat.le_of_ble_eq_true rfl) hd) fun Q hQ => ?_
  unfold f30 at hS
  show ZR _ Q c30_b [] _
  replace hQ : ∀ e st', f30_Q r e st' → Q e st' := hQ
  refine zrSeq ?_
  refine zrReg ?_
  refine zlRun (n := 2) (j := 2) rfl (by kernel_rfl) ?_
  refine zlEnd (by kernel_rfl) ?_
  refine zkSeq ?_
  refine zrSeq ?_
  refine zrReg ?_
  refine zlRun (n := 2) (j := 2) rfl (by kernel_rfl) ?_
  refine bindE hS (fun z12 hz12 hS => ?_)
  refine bindE hS (fun z13 hz13 hS => ?_)
  refine zlOp (d := some 13) (op := (.callr 33 [(.tmp 11), (.tmp 12)])) (g := none) (v := (.r (.msl 0 0 z12.2.1 z12.2.2))) (ups := [(0, ⟨0, some (.own 33 4 (e_GCell.cells z12.1))⟩)]) (j := 3) rfl (by kernel_rfl) (by kernel_rfl) (ev_callrX (args := [(.agg ((.d (.int .i64 a1)) :: ((.d (.int .i64 a2)) :: ((.r (.msl 0 0 0 a7.length)) :: [])))), (.d (.int .i64 a3))]) (ids := [0]) (bs := [(.own 33 4 (e_GCell.cells a7))]) (l := [(.agg ((.d (.int .i64 a1)) :: ((.d (.int .i64 a2)) :: ((.r (.msl 0 0 0 a7.length)) :: [])))), (.d (.int .i64 a3))]) (bt := [(.own 33 4 (e_GCell.cells a7))]) (r := (.r (.msl 0 0 z12.2.1 z12.2.2))) (bs' := [(.own 33 4 (e_GCell.cells z12.1)), .box []]) (by kernel_rfl) (by kernel_rfl) (by kernel_rfl) (by kernel_rfl) (by kernel_rfl) (f33v1_ok base (d - 1) (dpt hd rfl) a1 a2 a3 a7 z12 hz12) (by kernel_rfl) (sm_own e_GCell (e1 := 33) (k1 := 4) (xs := a7) (ys := z12.1) (by kernel_rfl) hz13 sm_nil) (by kernel_rfl) (by kernel_rfl)) ?_
  have lz13 : a7.length = z12.1.length := (of_decide_eq_true (chk_t hz13)).symm
  skip
  try rw [lz13]
  refine zlRun (n := 1) (j := 4) rfl (by kernel_rfl) ?_
  refine zlEnd (by kernel_rfl) ?_
  refine zkSeq ?_
  refine zrSeq ?_
  refine zrReg ?_
  refine zlRun (n := 5) (j := 5) rfl (by kernel_rfl) ?_
  refine bindE hS (fun m14 hm14 hS => ?_)
  refine zlOp (d := some 19) (op := (.ixS 33 4 (.tmp 14) (.tmp 15))) (g := none) (v := (.r (.ptr 0 0 ((z12.2.1 + m14) * 4)))) (ups := []) (j := 6) rfl (by kernel_rfl) (by kernel_rfl) (ev_ixM (kk := .i64) (b := 0) (g := 0) (l := z12.2.1) (n := z12.2.2) (j := a4) (cs := e_GCell.cells z12.1) (by kernel_rfl) (by kernel_rfl) (by kernel_rfl) hm14) ?_
  refine bindE hS (fun z15 hz15 hS => ?_)
  refine bindE hS (fun z16 hz16 hS => ?_)
  refine zlOp (d := none) (op := (.store 4 (.tmp 19) (.tmp 18))) (g := none) (v := .un) (ups := [(0, ⟨0, some (.own 33 4 (e_GCell.cells (z12.1.set (z12.2.1 + m14) (GCell.mk a5 a6))))⟩)]) (j := 7) rfl (by kernel_rfl) (by kernel_rfl) (ev_storeM e_GCell (b := 0) (g := 0) (o := (z12.2.1 + m14) * 4) (e := 33) (k := 4) (m := (z12.2.1 + m14)) (fo := 0) (xs := z12.1) (z := z15) (z' := (GCell.mk a5 a6)) (by kernel_rfl) (new := ((.d (.int .i64 a5)) :: ((.d (.int .i64 a6.Flags)) :: ((.d (.int .i64 a6.Fore)) :: ((.d (.int .i64 a6.Back)) :: []))))) (ds := [.int .i64 a5, .int .i64 a6.Flags, .int .i64 a6.Fore, .int .i64 a6.Back]) (by kernel_rfl) (by kernel_rfl) (by kernel_rfl) rfl hz15 (by kernel_rfl) (by kernel_rfl) (by kernel_rfl)) ?_
  have ez16 := Option.some.inj hz16
  have lz16 : z12.1.length = z16.length := by rw [← ez16, List.length_set]
  rw [ez16]
  skip
  try rw [lz16]
  refine zlEnd (by kernel_rfl) ?_
  refine zkSeq ?_
  refine zrSeq ?_
  refine zrSeq ?_
  refine zrReg ?_
  refine zlRun (n := 1) (j := 1) rfl (by kernel_rfl) ?_
  refine bindE hS (fun z18 hz18 hS => ?_)
  refine zlOp (d := some 21) (op := (.call 28 [(.tmp 20)])) (g := none) (v := (.d (.int .i64 z18))) (ups := []) (j := 2) rfl (by kernel_rfl) (by kernel_rfl) (ev_call (args := [(.d (.int .i64 a5))]) (l := [(.d (.int .i64 a5))]) (r := (.d (.int .i64 z18))) (by kernel_rfl) (by kernel_rfl) (f28_ok base (d - 1) (dpt hd rfl) a5 z18 hz18) (by kernel_rfl) (by kernel_rfl) (by kernel_rfl)) ?_
  refine zlBool (d := 22) (op := (.cmpI .eql (.tmp 21) (.const (.int .i64 2)))) (g := none) (j := 3) (decide (z18 = 2)) rfl (by kernel_rfl) (by kernel_rfl) (by kernel_rfl) (fun hc => ?_) (fun hc => ?_)
  · replace hS := cond_t hc hS
    refine zlEnd (by kernel_rfl) ?_
    refine zkSeq ?_
    refine zrCondT (by kernel_rfl) ?_
    refine zrReg ?_
    refine zlRun (n := 5) (j := 5) rfl (by kernel_rfl) ?_
    refine bindE hS (fun m19 hm19 hS => ?_)
    refine zlOp (d := some 28) (op := (.ixS 33 4 (.tmp 23) (.tmp 25))) (g := none) (v := (.r (.ptr 0 0 ((z12.2.1 + m19) * 4)))) (ups := []) (j := 6) rfl (by kernel_rfl) (by kernel_rfl) (ev_ixM (kk := .i64) (b := 0) (g := 0) (l := z12.2.1) (n := z12.2.2) (j := (IntKind.i64.wrap (a4 + 1))) (cs := e_GCell.cells z16) (by kernel_rfl) (by kernel_rfl) (by kernel_rfl) hm19) ?_
    refine bindE hS (fun z20 hz20 hS => ?_)
    refine bindE hS (fun z21 hz21 hS => ?_)
    refine zlOp (d := none) (op := (.store 4 (.tmp 28) (.tmp 27))) (g := none) (v := .un) (ups := [(0, ⟨0, some (.own 33 4 (e_GCell.cells (z16.set (z12.2.1 + m19) (GCell.mk 0 a6))))⟩)]) (j := 7) rfl (by kernel_rfl) (by kernel_rfl) (ev_storeM e_GCell (b := 0) (g := 0) (o := (z12.2.1 + m19) * 4) (e := 33) (k := 4) (m := (z12.2.1 + m19)) (fo := 0) (xs := z16) (z := z20) (z' := (GCell.mk 0 a6)) (by kernel_rfl) (new := ((.d (.int .i64 0)) :: ((.d (.int .i64 a6.Flags)) :: ((.d (.int .i64 a6.Fore)) :: ((.d (.int .i64 a6.Back)) :: []))))) (ds := [.int .i64 0, .int .i64 a6.Flags, .int .i64 a6.Fore, .int .i64 a6.Back]) (by kernel_rfl) (by kernel_rfl) (by kernel_rfl) rfl hz20 (by kernel_rfl) (by kernel_rfl) (by kernel_rfl)) ?_
    have ez21 := Option.some.inj hz21
    have lz21 : z16.length = z21.length := by rw [← ez21, List.length_set]
    rw [ez21]
    skip
    try rw [lz21]
    refine zlEnd (by kernel_rfl) ?_
    refine zkSeq ?_
    refine zrReg ?_
    refine zlRun (n := 1) (j := 1) rfl (by kernel_rfl) ?_
    refine bindE hS (fun z22 hz22 hS => ?_)
    refine bindE hS (fun z23 hz23 hS => ?_)
    refine zlOp (d := some 30) (op := (.callr 46 [(.tmp 29)])) (g := none) (v := (.tup [])) (ups := [(0, ⟨0, some (.own 33 4 (e_GCell.cells z22))⟩)]) (j := 2) rfl (by kernel_rfl) (by kernel_rfl) (ev_callrX (args := [(.r (.msl 0 0 z12.2.1 z12.2.2))]) (ids := [0]) (bs := [(.own 33 4 (e_GCell.cells z21))]) (l := [(.r (.msl 0 0 z12.2.1 z12.2.2))]) (bt := [(.own 33 4 (e_GCell.cells z21))]) (r := (.tup [])) (bs' := [(.own 33 4 (e_GCell.cells z22)), .box []]) (by kernel_rfl) (by kernel_rfl) (by kernel_rfl) (by kernel_rfl) (by kernel_rfl) (f46_ok base (d - 1) (dpt hd rfl) z12.2.1 z12.2.2 z21 z22 hz22) (by kernel_rfl) (sm_own e_GCell (e1 := 33) (k1 := 4) (xs := z21) (ys := z22) (by kernel_rfl) hz23 sm_nil) (by kernel_rfl) (by kernel_rfl)) ?_
    have lz23 : z21.length = z22.length := (of_decide_eq_true (chk_t hz23)).symm
    skip
    try rw [lz23]
    refine zlEnd (by kernel_rfl) ?_
    refine zkNil ?_
    exact endQ hS hQ (fNormX (by kernel_rfl) (by kernel_rfl : finSt c30.fin _ = f30_fin z22) (by kernel_rfl) (f30_out z22))
  · replace hS := cond_f hc hS
    refine zlEnd (by kernel_rfl) ?_
    refine zkSeq ?_
    refine zrCondF (by kernel_rfl) ?_
    refine zrSkip ?_
    refine zkSeq ?_
    refine zrReg ?_
    refine zlRun (n := 1) (j := 1) rfl (by kernel_rfl) ?_
    refine bindE hS (fun z24 hz24 hS => ?_)
    refine bindE hS (fun z25 hz25 hS => ?_)
    refine zlOp (d := some 30) (op := (.callr 46 [(.tmp 29)])) (g := none) (v := (.tup [])) (ups := [(0, ⟨0, some (.own 33 4 (e_GCell.cells z24))⟩)]) (j := 2) rfl (by kernel_rfl) (by kernel_rfl) (ev_callrX (args := [(.r (.msl 0 0 z12.2.1 z12.2.2))]) (ids := [0]) (bs := [(.own 33 4 (e_GCell.cells z16))]) (l := [(.r (.msl 0 0 z12.2.1 z12.2.2))]) (bt := [(.own 33 4 (e_GCell.cells z16))]) (r := (.tup [])) (bs' := [(.own 33 4 (e_GCell.cells z24)), .box []]) (by kernel_rfl) (by kernel_rfl) (by kernel_rfl) (by kernel_rfl) (by kernel_rfl) (f46_ok base (d - 1) (dpt hd rfl) z12.2.1 z12.2.2 z16 z24 hz24) (by kernel_rfl) (sm_own e_GCell (e1 := 33) (k1 := 4) (xs := z16) (ys := z24) (by kernel_rfl) hz25 sm_nil) (by kernel_rfl) (by kernel_rfl)) ?_
    have lz25 : z16.length = z24.length := (of_decide_eq_true (chk_t hz25)).symm
    skip
    try rw [lz25]
    refine zlEnd (by kernel_rfl) ?_
    refine zkNil ?_
    exact endQ hS hQ (fNormX (by kernel_rfl) (by kernel_rfl : finSt c30.fin _ = f30_fin z24) (by kernel_rfl) (f30_out z24))
end Go.Proofs.Ytipipahbfakcaaa.Pm
