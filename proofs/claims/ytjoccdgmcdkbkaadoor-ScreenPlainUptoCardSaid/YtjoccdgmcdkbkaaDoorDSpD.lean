/- Typed functions, and that the codes are these. Printed by dec.py. -/
import Derived.Test.YtjoccdgmcdkbkaaDoorDSpC
namespace Go.Proofs.YtjoccdgmcdkbkaaDoor.Pm
set_option maxRecDepth 1000000
set_option maxHeartbeats 20000000
set_option linter.unusedVariables false
/- farwriter/grid.size -/
def f17_fin (p2 : Int) : St := ⟨(up (fun _ => .un) 4 (.d (.int .i64 p2))), (hB fun _ => 0)⟩
theorem f17_out (p2 : Int) : outR (f17_fin p2) 0 c17.res = some ((.d (.int .i64 p2)), []) := by
  kernel_rfl
def f17_Q (r : Int) (e : PX) (st : St) : Prop := DoneF c17 0 ((.d (.int .i64 r)), []) e st
noncomputable def f17 (a1 : Int) (a2 : Int) : Option (Int) := (bif (decide (a1 < 1)) then (some 1) else (bif (decide (160 < a1)) then (some 1) else (bif (decide (a2 < 1)) then (some 1) else (bif (decide (60 < a2)) then (some 1) else (some 0)))))
theorem f17_ok (d : Nat) (hd : 1 ≤ d) (a1 : Int) (a2 : Int) (r : Int) (hS : f17 a1 a2 = some r) : lev codes baseL d 17 [(.d (.int .i64 a1)), (.d (.int .i64 a2))] [] = some ((.d (.int .i64 r)), []) := by
  refine lev_go codes17 rfl rfl (Nat.le_trans (Nat.le_of_ble_eq_true rfl) hd) fun Q hQ => ?_
  unfold f17 at hS
  show ZR _ Q c17_b [] _
  replace hQ : ∀ e st', f17_Q r e st' → Q e st' := hQ
  refine zrSeq ?_
  refine zrReg ?_
  refine zlRun (n := 1) (j := 1) rfl (by kernel_rfl) ?_
  refine zlEnd (by kernel_rfl) ?_
  refine zkSeq ?_
  refine zrSeq ?_
  refine zrSeq ?_
  refine zrReg ?_
  refine zlRun (n := 1) (j := 1) rfl (by kernel_rfl) ?_
  refine zlBool (d := 6) (op := (.cmpI .lss (.tmp 5) (.const (.int .i64 1)))) (g := none) (j := 2) (decide (a1 < 1)) rfl (by kernel_rfl) (by kernel_rfl) (by kernel_rfl) (fun hc => ?_) (fun hc => ?_)
  · replace hS := cond_t hc hS
    refine zlRun (n := 12) (j := 14) rfl (by kernel_rfl) ?_
    refine zlEnd (by kernel_rfl) ?_
    refine zkSeq ?_
    refine zrCondT (by kernel_rfl) ?_
    refine zrSeq ?_
    refine zrReg ?_
    refine zlRun (n := 1) (j := 1) rfl (by kernel_rfl) ?_
    refine zlEnd (by kernel_rfl) ?_
    refine zkSeq ?_
    refine zrRet ?_
    refine zkSeqR ?_
    refine zkNil ?_
    exact endQ hS hQ (fRet (by kernel_rfl) ((congrArg (fun s => outR s 0 c17.res) (by kernel_rfl : finSt c17.fin _ = f17_fin 1)).trans (f17_out 1)))
  · replace hS := cond_f hc hS
    refine zlRun (n := 2) (j := 4) rfl (by kernel_rfl) ?_
    refine zlBool (d := 9) (op := (.cmpI .gtr (.tmp 8) (.const (.int .i64 160)))) (g := (some (7, false))) (j := 5) (decide (160 < a1)) rfl (by kernel_rfl) (by kernel_rfl) (by kernel_rfl) (fun hc => ?_) (fun hc => ?_)
    · replace hS := cond_t hc hS
      refine zlRun (n := 9) (j := 14) rfl (by kernel_rfl) ?_
      refine zlEnd (by kernel_rfl) ?_
      refine zkSeq ?_
      refine zrCondT (by kernel_rfl) ?_
      refine zrSeq ?_
      refine zrReg ?_
      refine zlRun (n := 1) (j := 1) rfl (by kernel_rfl) ?_
      refine zlEnd (by kernel_rfl) ?_
      refine zkSeq ?_
      refine zrRet ?_
      refine zkSeqR ?_
      refine zkNil ?_
      exact endQ hS hQ (fRet (by kernel_rfl) ((congrArg (fun s => outR s 0 c17.res) (by kernel_rfl : finSt c17.fin _ = f17_fin 1)).trans (f17_out 1)))
    · replace hS := cond_f hc hS
      refine zlRun (n := 3) (j := 8) rfl (by kernel_rfl) ?_
      refine zlBool (d := 13) (op := (.cmpI .lss (.tmp 12) (.const (.int .i64 1)))) (g := (some (11, false))) (j := 9) (decide (a2 < 1)) rfl (by kernel_rfl) (by kernel_rfl) (by kernel_rfl) (fun hc => ?_) (fun hc => ?_)
      · replace hS := cond_t hc hS
        refine zlRun (n := 5) (j := 14) rfl (by kernel_rfl) ?_
        refine zlEnd (by kernel_rfl) ?_
        refine zkSeq ?_
        refine zrCondT (by kernel_rfl) ?_
        refine zrSeq ?_
        refine zrReg ?_
        refine zlRun (n := 1) (j := 1) rfl (by kernel_rfl) ?_
        refine zlEnd (by kernel_rfl) ?_
        refine zkSeq ?_
        refine zrRet ?_
        refine zkSeqR ?_
        refine zkNil ?_
        exact endQ hS hQ (fRet (by kernel_rfl) ((congrArg (fun s => outR s 0 c17.res) (by kernel_rfl : finSt c17.fin _ = f17_fin 1)).trans (f17_out 1)))
      · replace hS := cond_f hc hS
        refine zlRun (n := 3) (j := 12) rfl (by kernel_rfl) ?_
        refine zlBool (d := 17) (op := (.cmpI .gtr (.tmp 16) (.const (.int .i64 60)))) (g := (some (15, false))) (j := 13) (decide (60 < a2)) rfl (by kernel_rfl) (by kernel_rfl) (by kernel_rfl) (fun hc => ?_) (fun hc => ?_)
        · replace hS := cond_t hc hS
          refine zlRun (n := 1) (j := 14) rfl (by kernel_rfl) ?_
          refine zlEnd (by kernel_rfl) ?_
          refine zkSeq ?_
          refine zrCondT (by kernel_rfl) ?_
          refine zrSeq ?_
          refine zrReg ?_
          refine zlRun (n := 1) (j := 1) rfl (by kernel_rfl) ?_
          refine zlEnd (by kernel_rfl) ?_
          refine zkSeq ?_
          refine zrRet ?_
          refine zkSeqR ?_
          refine zkNil ?_
          exact endQ hS hQ (fRet (by kernel_rfl) ((congrArg (fun s => outR s 0 c17.res) (by kernel_rfl : finSt c17.fin _ = f17_fin 1)).trans (f17_out 1)))
        · replace hS := cond_f hc hS
          refine zlRun (n := 1) (j := 14) rfl (by kernel_rfl) ?_
          refine zlEnd (by kernel_rfl) ?_
          refine zkSeq ?_
          refine zrCondF (by kernel_rfl) ?_
          refine zrSkip ?_
          refine zkSeq ?_
          refine zrSeq ?_
          refine zrReg ?_
          refine zlRun (n := 1) (j := 1) rfl (by kernel_rfl) ?_
          refine zlEnd (by kernel_rfl) ?_
          refine zkSeq ?_
          refine zrRet ?_
          refine zkNil ?_
          exact endQ hS hQ (fRet (by kernel_rfl) ((congrArg (fun s => outR s 0 c17.res) (by kernel_rfl : finSt c17.fin _ = f17_fin 0)).trans (f17_out 0)))
/- farwriter/pen.color -/
def f33_fin (p6 : Bool) : St := ⟨(up (fun _ => .un) 2 (.d (.bool p6))), (hB fun _ => 0)⟩
theorem f33_out (p6 : Bool) : outR (f33_fin p6) 0 c33.res = some ((.d (.bool p6)), []) := by
  kernel_rfl
def f33_Q (r : Bool) (e : PX) (st : St) : Prop := DoneF c33 0 ((.d (.bool r)), []) e st
noncomputable def f33 (a1 : Int) : Option (Bool) := (bif (decide (0 ≤ a1)) then (bif (decide (a1 ≤ 256)) then (some true) else (bif (decide (16777216 ≤ a1)) then (bif (decide (a1 < 33554432)) then (some true) else (some false)) else (some false))) else (bif (decide (16777216 ≤ a1)) then (bif (decide (a1 < 33554432)) then (some true) else (some false)) else (some false)))
theorem f33_ok (d : Nat) (hd : 1 ≤ d) (a1 : Int) (r : Bool) (hS : f33 a1 = some r) : lev codes baseL d 33 [(.d (.int .i64 a1))] [] = some ((.d (.bool r)), []) := by
  refine lev_go codes33 rfl rfl (Nat.le_trans (Nat.le_of_ble_eq_true rfl) hd) fun Q hQ => ?_
  unfold f33 at hS
  show ZR _ Q c33_b [] _
  replace hQ : ∀ e st', f33_Q r e st' → Q e st' := hQ
  refine zrSeq ?_
  refine zrReg ?_
  refine zlRun (n := 1) (j := 1) rfl (by kernel_rfl) ?_
  refine zlEnd (by kernel_rfl) ?_
  refine zkSeq ?_
  refine zrSeq ?_
  refine zrReg ?_
  refine zlRun (n := 1) (j := 1) rfl (by kernel_rfl) ?_
  refine zlBool (d := 4) (op := (.cmpI .geq (.tmp 3) (.const (.int .i64 0)))) (g := none) (j := 2) (decide (0 ≤ a1)) rfl (by kernel_rfl) (by kernel_rfl) (by kernel_rfl) (fun hc => ?_) (fun hc => ?_)
  · replace hS := cond_t hc hS
    refine zlRun (n := 2) (j := 4) rfl (by kernel_rfl) ?_
    refine zlBool (d := 7) (op := (.cmpI .leq (.tmp 6) (.const (.int .i64 256)))) (g := (some (5, true))) (j := 5) (decide (a1 ≤ 256)) rfl (by kernel_rfl) (by kernel_rfl) (by kernel_rfl) (fun hc => ?_) (fun hc => ?_)
    · replace hS := cond_t hc hS
      refine zlRun (n := 10) (j := 15) rfl (by kernel_rfl) ?_
      refine zlEnd (by kernel_rfl) ?_
      refine zkSeq ?_
      refine zrRet ?_
      refine zkNil ?_
      exact endQ hS hQ (fRet (by kernel_rfl) ((congrArg (fun s => outR s 0 c33.res) (by kernel_rfl : finSt c33.fin _ = f33_fin true)).trans (f33_out true)))
    · replace hS := cond_f hc hS
      refine zlRun (n := 3) (j := 8) rfl (by kernel_rfl) ?_
      refine zlBool (d := 11) (op := (.cmpI .geq (.tmp 10) (.const (.int .i64 16777216)))) (g := (some (9, false))) (j := 9) (decide (16777216 ≤ a1)) rfl (by kernel_rfl) (by kernel_rfl) (by kernel_rfl) (fun hc => ?_) (fun hc => ?_)
      · replace hS := cond_t hc hS
        refine zlRun (n := 2) (j := 11) rfl (by kernel_rfl) ?_
        refine zlBool (d := 14) (op := (.cmpI .lss (.tmp 13) (.const (.int .i64 33554432)))) (g := (some (12, true))) (j := 12) (decide (a1 < 33554432)) rfl (by kernel_rfl) (by kernel_rfl) (by kernel_rfl) (fun hc => ?_) (fun hc => ?_)
        · replace hS := cond_t hc hS
          refine zlRun (n := 3) (j := 15) rfl (by kernel_rfl) ?_
          refine zlEnd (by kernel_rfl) ?_
          refine zkSeq ?_
          refine zrRet ?_
          refine zkNil ?_
          exact endQ hS hQ (fRet (by kernel_rfl) ((congrArg (fun s => outR s 0 c33.res) (by kernel_rfl : finSt c33.fin _ = f33_fin true)).trans (f33_out true)))
        · replace hS := cond_f hc hS
          refine zlRun (n := 3) (j := 15) rfl (by kernel_rfl) ?_
          refine zlEnd (by kernel_rfl) ?_
          refine zkSeq ?_
          refine zrRet ?_
          refine zkNil ?_
          exact endQ hS hQ (fRet (by kernel_rfl) ((congrArg (fun s => outR s 0 c33.res) (by kernel_rfl : finSt c33.fin _ = f33_fin false)).trans (f33_out false)))
      · replace hS := cond_f hc hS
        refine zlRun (n := 6) (j := 15) rfl (by kernel_rfl) ?_
        refine zlEnd (by kernel_rfl) ?_
        refine zkSeq ?_
        refine zrRet ?_
        refine zkNil ?_
        exact endQ hS hQ (fRet (by kernel_rfl) ((congrArg (fun s => outR s 0 c33.res) (by kernel_rfl : finSt c33.fin _ = f33_fin false)).trans (f33_out false)))
  · replace hS := cond_f hc hS
    refine zlRun (n := 6) (j := 8) rfl (by kernel_rfl) ?_
    refine zlBool (d := 11) (op := (.cmpI .geq (.tmp 10) (.const (.int .i64 16777216)))) (g := (some (9, false))) (j := 9) (decide (16777216 ≤ a1)) rfl (by kernel_rfl) (by kernel_rfl) (by kernel_rfl) (fun hc => ?_) (fun hc => ?_)
    · replace hS := cond_t hc hS
      refine zlRun (n := 2) (j := 11) rfl (by kernel_rfl) ?_
      refine zlBool (d := 14) (op := (.cmpI .lss (.tmp 13) (.const (.int .i64 33554432)))) (g := (some (12, true))) (j := 12) (decide (a1 < 33554432)) rfl (by kernel_rfl) (by kernel_rfl) (by kernel_rfl) (fun hc => ?_) (fun hc => ?_)
      · replace hS := cond_t hc hS
        refine zlRun (n := 3) (j := 15) rfl (by kernel_rfl) ?_
        refine zlEnd (by kernel_rfl) ?_
        refine zkSeq ?_
        refine zrRet ?_
        refine zkNil ?_
        exact endQ hS hQ (fRet (by kernel_rfl) ((congrArg (fun s => outR s 0 c33.res) (by kernel_rfl : finSt c33.fin _ = f33_fin true)).trans (f33_out true)))
      · replace hS := cond_f hc hS
        refine zlRun (n := 3) (j := 15) rfl (by kernel_rfl) ?_
        refine zlEnd (by kernel_rfl) ?_
        refine zkSeq ?_
        refine zrRet ?_
        refine zkNil ?_
        exact endQ hS hQ (fRet (by kernel_rfl) ((congrArg (fun s => outR s 0 c33.res) (by kernel_rfl : finSt c33.fin _ = f33_fin false)).trans (f33_out false)))
    · replace hS := cond_f hc hS
      refine zlRun (n := 6) (j := 15) rfl (by kernel_rfl) ?_
      refine zlEnd (by kernel_rfl) ?_
      refine zkSeq ?_
      refine zrRet ?_
      refine zkNil ?_
      exact endQ hS hQ (fRet (by kernel_rfl) ((congrArg (fun s => outR s 0 c33.res) (by kernel_rfl : finSt c33.fin _ = f33_fin false)).trans (f33_out false)))
/- farwriter/pen.Check -/
def f18_fin (p2 : Int) : St := ⟨(up (fun _ => .un) 2 (.d (.int .i64 p2))), (hB fun _ => 0)⟩
theorem f18_out (p2 : Int) : outR (f18_fin p2) 0 c18.res = some ((.d (.int .i64 p2)), []) := by
  kernel_rfl
def f18_Q (r : Int) (e : PX) (st : St) : Prop := DoneF c18 0 ((.d (.int .i64 r)), []) e st
noncomputable def f18 (a1 : GPen) : Option (Int) := (bif (decide (a1.Flags < 0)) then (some 4) else (bif (decide (255 < a1.Flags)) then (some 4) else ((f33 a1.Fore).bind fun z3 => (bif (!z3) then (some 4) else ((f33 a1.Back).bind fun z4 => (bif (!z4) then (some 4) else (some 0)))))))
theorem f18_ok (d : Nat) (hd : 2 ≤ d) (a1 : GPen) (r : Int) (hS : f18 a1 = some r) : lev codes baseL d 18 [(.agg ((.d (.int .i64 a1.Flags)) :: ((.d (.int .i64 a1.Fore)) :: ((.d (.int .i64 a1.Back)) :: []))))] [] = some ((.d (.int .i64 r)), []) := by
  refine lev_go codes18 rfl rfl (Nat.le_trans (Nat.le_of_ble_eq_true rfl) hd) fun Q hQ => ?_
  unfold f18 at hS
  show ZR _ Q c18_b [] _
  replace hQ : ∀ e st', f18_Q r e st' → Q e st' := hQ
  refine zrSeq ?_
  refine zrReg ?_
  refine zlRun (n := 2) (j := 2) rfl (by kernel_rfl) ?_
  refine zlEnd (by kernel_rfl) ?_
  refine zkSeq ?_
  refine zrSeq ?_
  refine zrSeq ?_
  refine zrReg ?_
  refine zlRun (n := 2) (j := 2) rfl (by kernel_rfl) ?_
  refine zlBool (d := 5) (op := (.cmpI .lss (.tmp 4) (.const (.int .i64 0)))) (g := none) (j := 3) (decide (a1.Flags < 0)) rfl (by kernel_rfl) (by kernel_rfl) (by kernel_rfl) (fun hc => ?_) (fun hc => ?_)
  · replace hS := cond_t hc hS
    refine zlRun (n := 17) (j := 20) rfl (by kernel_rfl) ?_
    refine zlEnd (by kernel_rfl) ?_
    refine zkSeq ?_
    refine zrCondT (by kernel_rfl) ?_
    refine zrSeq ?_
    refine zrReg ?_
    refine zlRun (n := 1) (j := 1) rfl (by kernel_rfl) ?_
    refine zlEnd (by kernel_rfl) ?_
    refine zkSeq ?_
    refine zrRet ?_
    refine zkSeqR ?_
    refine zkNil ?_
    exact endQ hS hQ (fRet (by kernel_rfl) ((congrArg (fun s => outR s 0 c18.res) (by kernel_rfl : finSt c18.fin _ = f18_fin 4)).trans (f18_out 4)))
  · replace hS := cond_f hc hS
    refine zlRun (n := 3) (j := 6) rfl (by kernel_rfl) ?_
    refine zlBool (d := 9) (op := (.cmpI .gtr (.tmp 8) (.const (.int .i64 255)))) (g := (some (6, false))) (j := 7) (decide (255 < a1.Flags)) rfl (by kernel_rfl) (by kernel_rfl) (by kernel_rfl) (fun hc => ?_) (fun hc => ?_)
    · replace hS := cond_t hc hS
      refine zlRun (n := 13) (j := 20) rfl (by kernel_rfl) ?_
      refine zlEnd (by kernel_rfl) ?_
      refine zkSeq ?_
      refine zrCondT (by kernel_rfl) ?_
      refine zrSeq ?_
      refine zrReg ?_
      refine zlRun (n := 1) (j := 1) rfl (by kernel_rfl) ?_
      refine zlEnd (by kernel_rfl) ?_
      refine zkSeq ?_
      refine zrRet ?_
      refine zkSeqR ?_
      refine zkNil ?_
      exact endQ hS hQ (fRet (by kernel_rfl) ((congrArg (fun s => outR s 0 c18.res) (by kernel_rfl : finSt c18.fin _ = f18_fin 4)).trans (f18_out 4)))
    · replace hS := cond_f hc hS
      refine zlRun (n := 4) (j := 11) rfl (by kernel_rfl) ?_
      refine bindE hS (fun z3 hz3 hS => ?_)
      refine zlOp (d := some 14) (op := (.call 33 [(.tmp 13)])) (g := (some (11, false))) (j := 12) rfl (by kernel_rfl) (by kernel_rfl) (ev_callA (by kernel_rfl) (f33_ok (d - 1) (dpt hd rfl) a1.Fore z3 hz3) (by kernel_rfl) (by kernel_rfl)) ?_
      refine zlRun (n := 3) (j := 15) rfl (by kernel_rfl) ?_
      refine zlSplit 17 (!z3) (by kernel_rfl) (fun hc => ?_) (fun hc => ?_)
      · replace hS := cond_t hc hS
        refine zlRun (n := 5) (j := 20) rfl (by kernel_rfl) ?_
        refine zlEnd (by kernel_rfl) ?_
        refine zkSeq ?_
        refine zrCondT (by kernel_rfl) ?_
        refine zrSeq ?_
        refine zrReg ?_
        refine zlRun (n := 1) (j := 1) rfl (by kernel_rfl) ?_
        refine zlEnd (by kernel_rfl) ?_
        refine zkSeq ?_
        refine zrRet ?_
        refine zkSeqR ?_
        refine zkNil ?_
        exact endQ hS hQ (fRet (by kernel_rfl) ((congrArg (fun s => outR s 0 c18.res) (by kernel_rfl : finSt c18.fin _ = f18_fin 4)).trans (f18_out 4)))
      · replace hS := cond_f hc hS
        refine zlRun (n := 2) (j := 17) rfl (by kernel_rfl) ?_
        refine bindE hS (fun z4 hz4 hS => ?_)
        refine zlOp (d := some 20) (op := (.call 33 [(.tmp 19)])) (g := (some (17, false))) (j := 18) rfl (by kernel_rfl) (by kernel_rfl) (ev_callA (by kernel_rfl) (f33_ok (d - 1) (dpt hd rfl) a1.Back z4 hz4) (by kernel_rfl) (by kernel_rfl)) ?_
        refine zlRun (n := 2) (j := 20) rfl (by kernel_rfl) ?_
        refine zlEnd (by kernel_rfl) ?_
        refine zkSeq ?_
        refine zrSplit 22 (!z4) (by kernel_rfl) (fun hc => ?_) (fun hc => ?_)
        · replace hS := cond_t hc hS
          refine zrCondT (by kernel_rfl) ?_
          refine zrSeq ?_
          refine zrReg ?_
          refine zlRun (n := 1) (j := 1) rfl (by kernel_rfl) ?_
          refine zlEnd (by kernel_rfl) ?_
          refine zkSeq ?_
          refine zrRet ?_
          refine zkSeqR ?_
          refine zkNil ?_
          exact endQ hS hQ (fRet (by kernel_rfl) ((congrArg (fun s => outR s 0 c18.res) (by kernel_rfl : finSt c18.fin _ = f18_fin 4)).trans (f18_out 4)))
        · replace hS := cond_f hc hS
          refine zrCondF (by kernel_rfl) ?_
          refine zrSkip ?_
          refine zkSeq ?_
          refine zrSeq ?_
          refine zrReg ?_
          refine zlRun (n := 1) (j := 1) rfl (by kernel_rfl) ?_
          refine zlEnd (by kernel_rfl) ?_
          refine zkSeq ?_
          refine zrRet ?_
          refine zkNil ?_
          exact endQ hS hQ (fRet (by kernel_rfl) ((congrArg (fun s => outR s 0 c18.res) (by kernel_rfl : finSt c18.fin _ = f18_fin 0)).trans (f18_out 0)))
/- farwriter/grid.Blank -/
def f35_fin (p1 : GCell) : St := ⟨(up (fun _ => .un) 2 (.r (.ptr 24 0 0))), (up (hB fun _ => 0) 24 ⟨0, some (.box ((.d (.int .i64 p1.Rune)) :: ((.d (.int .i64 p1.Pen.Flags)) :: ((.d (.int .i64 p1.Pen.Fore)) :: ((.d (.int .i64 p1.Pen.Back)) :: [])))))⟩)⟩
theorem f35_out (p1 : GCell) : outR (f35_fin p1) 0 c35.res = some ((.agg ((.d (.int .i64 p1.Rune)) :: ((.d (.int .i64 p1.Pen.Flags)) :: ((.d (.int .i64 p1.Pen.Fore)) :: ((.d (.int .i64 p1.Pen.Back)) :: []))))), []) := by
  kernel_rfl
def f35_Q (r : GCell) (e : PX) (st : St) : Prop := DoneF c35 0 ((.agg ((.d (.int .i64 r.Rune)) :: ((.d (.int .i64 r.Pen.Flags)) :: ((.d (.int .i64 r.Pen.Fore)) :: ((.d (.int .i64 r.Pen.Back)) :: []))))), []) e st
noncomputable def f35 (a1 : GPen) : Option (GCell) := (some (GCell.mk 32 a1))
theorem f35_ok (d : Nat) (hd : 1 ≤ d) (a1 : GPen) (r : GCell) (hS : f35 a1 = some r) : lev codes baseL d 35 [(.agg ((.d (.int .i64 a1.Flags)) :: ((.d (.int .i64 a1.Fore)) :: ((.d (.int .i64 a1.Back)) :: []))))] [] = some ((.agg ((.d (.int .i64 r.Rune)) :: ((.d (.int .i64 r.Pen.Flags)) :: ((.d (.int .i64 r.Pen.Fore)) :: ((.d (.int .i64 r.Pen.Back)) :: []))))), []) := by
  refine lev_go codes35 rfl rfl (Nat.le_trans (Nat.le_of_ble_eq_true rfl) hd) fun Q hQ => ?_
  unfold f35 at hS
  show ZR _ Q c35_b [] _
  replace hQ : ∀ e st', f35_Q r e st' → Q e st' := hQ
  refine zrSeq ?_
  refine zrReg ?_
  refine zlRun (n := 2) (j := 2) rfl (by kernel_rfl) ?_
  refine zlEnd (by kernel_rfl) ?_
  refine zkSeq ?_
  refine zrSeq ?_
  refine zrReg ?_
  refine zlRun (n := 3) (j := 3) rfl (by kernel_rfl) ?_
  refine zlEnd (by kernel_rfl) ?_
  refine zkSeq ?_
  refine zrRet ?_
  refine zkNil ?_
  exact endQ hS hQ (fRet (by kernel_rfl) ((congrArg (fun s => outR s 0 c35.res) (by kernel_rfl : finSt c35.fin _ = f35_fin (GCell.mk 32 a1))).trans (f35_out (GCell.mk 32 a1))))
/- math/bits.Mul64 -/
def f80_fin (p1 : Int) (p2 : Int) : St := ⟨(up (up (fun _ => .un) 5 (.d (.int .u64 p2))) 4 (.d (.int .u64 p1))), (hB fun _ => 0)⟩
theorem f80_out (p1 : Int) (p2 : Int) : outR (f80_fin p1 p2) 0 c80.res = some ((.tup [(.d (.int .u64 p1)), (.d (.int .u64 p2))]), []) := by
  kernel_rfl
def f80_Q (r : Int × Int) (e : PX) (st : St) : Prop := DoneF c80 0 ((.tup [(.d (.int .u64 r.1)), (.d (.int .u64 r.2))]), []) e st
noncomputable def f80 (a1 : Int) (a2 : Int) : Option (Int × Int) := (some ((IntKind.u64.wrap ((IntKind.u64.wrap ((IntKind.u64.wrap ((Int.fdiv a1 (2 ^ 32)) * (Int.fdiv a2 (2 ^ 32)))) + (Int.fdiv (IntKind.u64.wrap ((IntKind.u64.wrap ((Int.fdiv a1 (2 ^ 32)) * (bitI .and .u64 a2 4294967295))) + (Int.fdiv (IntKind.u64.wrap ((bitI .and .u64 a1 4294967295) * (bitI .and .u64 a2 4294967295))) (2 ^ 32)))) (2 ^ 32)))) + (Int.fdiv (IntKind.u64.wrap ((bitI .and .u64 (IntKind.u64.wrap ((IntKind.u64.wrap ((Int.fdiv a1 (2 ^ 32)) * (bitI .and .u64 a2 4294967295))) + (Int.fdiv (IntKind.u64.wrap ((bitI .and .u64 a1 4294967295) * (bitI .and .u64 a2 4294967295))) (2 ^ 32)))) 4294967295) + (IntKind.u64.wrap ((bitI .and .u64 a1 4294967295) * (Int.fdiv a2 (2 ^ 32)))))) (2 ^ 32)))), (IntKind.u64.wrap (a1 * a2))))
theorem f80_ok (d : Nat) (hd : 1 ≤ d) (a1 : Int) (a2 : Int) (r : Int × Int) (hS : f80 a1 a2 = some r) : lev codes baseL d 80 [(.d (.int .u64 a1)), (.d (.int .u64 a2))] [] = some ((.tup [(.d (.int .u64 r.1)), (.d (.int .u64 r.2))]), []) := by
  refine lev_go codes80 rfl rfl (Nat.le_trans (Nat.le_of_ble_eq_true rfl) hd) fun Q hQ => ?_
  unfold f80 at hS
  show ZR _ Q c80_b [] _
  replace hQ : ∀ e st', f80_Q r e st' → Q e st' := hQ
  refine zrSeq ?_
  refine zrReg ?_
  refine zlRun (n := 2) (j := 2) rfl (by kernel_rfl) ?_
  refine zlEnd (by kernel_rfl) ?_
  refine zkSeq ?_
  refine zrSeq ?_
  refine zrReg ?_
  refine zlRun (n := 3) (j := 3) rfl (by kernel_rfl) ?_
  refine zlEnd (by kernel_rfl) ?_
  refine zkSeq ?_
  refine zrSeq ?_
  refine zrReg ?_
  refine zlRun (n := 3) (j := 3) rfl (by kernel_rfl) ?_
  refine zlEnd (by kernel_rfl) ?_
  refine zkSeq ?_
  refine zrSeq ?_
  refine zrReg ?_
  refine zlRun (n := 3) (j := 3) rfl (by kernel_rfl) ?_
  refine zlEnd (by kernel_rfl) ?_
  refine zkSeq ?_
  refine zrSeq ?_
  refine zrReg ?_
  refine zlRun (n := 3) (j := 3) rfl (by kernel_rfl) ?_
  refine zlEnd (by kernel_rfl) ?_
  refine zkSeq ?_
  refine zrSeq ?_
  refine zrReg ?_
  refine zlRun (n := 4) (j := 4) rfl (by kernel_rfl) ?_
  refine zlEnd (by kernel_rfl) ?_
  refine zkSeq ?_
  refine zrSeq ?_
  refine zrReg ?_
  refine zlRun (n := 7) (j := 7) rfl (by kernel_rfl) ?_
  refine zlEnd (by kernel_rfl) ?_
  refine zkSeq ?_
  refine zrSeq ?_
  refine zrReg ?_
  refine zlRun (n := 3) (j := 3) rfl (by kernel_rfl) ?_
  refine zlEnd (by kernel_rfl) ?_
  refine zkSeq ?_
  refine zrSeq ?_
  refine zrReg ?_
  refine zlRun (n := 3) (j := 3) rfl (by kernel_rfl) ?_
  refine zlEnd (by kernel_rfl) ?_
  refine zkSeq ?_
  refine zrSeq ?_
  refine zrReg ?_
  refine zlRun (n := 6) (j := 6) rfl (by kernel_rfl) ?_
  refine zlEnd (by kernel_rfl) ?_
  refine zkSeq ?_
  refine zrSeq ?_
  refine zrReg ?_
  refine zlRun (n := 9) (j := 9) rfl (by kernel_rfl) ?_
  refine zlEnd (by kernel_rfl) ?_
  refine zkSeq ?_
  refine zrSeq ?_
  refine zrReg ?_
  refine zlRun (n := 4) (j := 4) rfl (by kernel_rfl) ?_
  refine zlEnd (by kernel_rfl) ?_
  refine zkSeq ?_
  refine zrRet ?_
  refine zkNil ?_
  exact endQ hS hQ (fRet (by kernel_rfl) ((congrArg (fun s => outR s 0 c80.res) (by kernel_rfl : finSt c80.fin _ = f80_fin (IntKind.u64.wrap ((IntKind.u64.wrap ((IntKind.u64.wrap ((Int.fdiv a1 (2 ^ 32)) * (Int.fdiv a2 (2 ^ 32)))) + (Int.fdiv (IntKind.u64.wrap ((IntKind.u64.wrap ((Int.fdiv a1 (2 ^ 32)) * (bitI .and .u64 a2 4294967295))) + (Int.fdiv (IntKind.u64.wrap ((bitI .and .u64 a1 4294967295) * (bitI .and .u64 a2 4294967295))) (2 ^ 32)))) (2 ^ 32)))) + (Int.fdiv (IntKind.u64.wrap ((bitI .and .u64 (IntKind.u64.wrap ((IntKind.u64.wrap ((Int.fdiv a1 (2 ^ 32)) * (bitI .and .u64 a2 4294967295))) + (Int.fdiv (IntKind.u64.wrap ((bitI .and .u64 a1 4294967295) * (bitI .and .u64 a2 4294967295))) (2 ^ 32)))) 4294967295) + (IntKind.u64.wrap ((bitI .and .u64 a1 4294967295) * (Int.fdiv a2 (2 ^ 32)))))) (2 ^ 32)))) (IntKind.u64.wrap (a1 * a2)))).trans (f80_out (IntKind.u64.wrap ((IntKind.u64.wrap ((IntKind.u64.wrap ((Int.fdiv a1 (2 ^ 32)) * (Int.fdiv a2 (2 ^ 32)))) + (Int.fdiv (IntKind.u64.wrap ((IntKind.u64.wrap ((Int.fdiv a1 (2 ^ 32)) * (bitI .and .u64 a2 4294967295))) + (Int.fdiv (IntKind.u64.wrap ((bitI .and .u64 a1 4294967295) * (bitI .and .u64 a2 4294967295))) (2 ^ 32)))) (2 ^ 32)))) + (Int.fdiv (IntKind.u64.wrap ((bitI .and .u64 (IntKind.u64.wrap ((IntKind.u64.wrap ((Int.fdiv a1 (2 ^ 32)) * (bitI .and .u64 a2 4294967295))) + (Int.fdiv (IntKind.u64.wrap ((bitI .and .u64 a1 4294967295) * (bitI .and .u64 a2 4294967295))) (2 ^ 32)))) 4294967295) + (IntKind.u64.wrap ((bitI .and .u64 a1 4294967295) * (Int.fdiv a2 (2 ^ 32)))))) (2 ^ 32)))) (IntKind.u64.wrap (a1 * a2)))))
/- math/bits.Mul -/
def f61_fin (p1 : Int) (p2 : Int) : St := ⟨(up (up (fun _ => .un) 5 (.d (.int .u64 p2))) 4 (.d (.int .u64 p1))), (hB fun _ => 0)⟩
theorem f61_out (p1 : Int) (p2 : Int) : outR (f61_fin p1 p2) 0 c61.res = some ((.tup [(.d (.int .u64 p1)), (.d (.int .u64 p2))]), []) := by
  kernel_rfl
def f61_Q (r : Int × Int) (e : PX) (st : St) : Prop := DoneF c61 0 ((.tup [(.d (.int .u64 r.1)), (.d (.int .u64 r.2))]), []) e st
def f61_j0_J (a1 : Int) (a2 : Int) : St := ⟨(up (up (fun _ => .un) 1 (.d (.int .u64 a2))) 0 (.d (.int .u64 a1))), (hB fun _ => 0)⟩
noncomputable def f61_j0 (a1 : Int) (a2 : Int) : Option (Int × Int) := ((f80 a1 a2).bind fun z2 => (some (z2.1, z2.2)))
theorem f61_j0_ok {d : Nat} (hd : 2 ≤ d) (a1 : Int) (a2 : Int) {r : Int × Int} {Q : PX → St → Prop} (hQ : ∀ e st', f61_Q r e st' → Q e st')  (hS : f61_j0 a1 a2 = some r) {st : St} (he : keepSt [0, 1] [] [] st = f61_j0_J a1 a2) : ZR (lev codes baseL (d - 1)) Q c61_1 [] st := by
  refine zrKeep he ?_
  unfold f61_j0 at hS
  refine zrSeq ?_
  refine zrReg ?_
  refine zlRun (n := 2) (j := 2) rfl (by kernel_rfl) ?_
  refine bindE hS (fun z2 hz2 hS => ?_)
  refine zlOp (d := some 25) (op := (.call 80 [(.tmp 23), (.tmp 24)])) (g := none) (j := 3) rfl (by kernel_rfl) (by kernel_rfl) (ev_callA (by kernel_rfl) (f80_ok (d - 1) (dpt hd rfl) a1 a2 z2 hz2) (by kernel_rfl) (by kernel_rfl)) ?_
  refine zlRun (n := 5) (j := 8) rfl (by kernel_rfl) ?_
  refine zlEnd (by kernel_rfl) ?_
  refine zkSeq ?_
  refine zrSeq ?_
  refine zrReg ?_
  refine zlRun (n := 4) (j := 4) rfl (by kernel_rfl) ?_
  refine zlEnd (by kernel_rfl) ?_
  refine zkSeq ?_
  refine zrRet ?_
  refine zkNil ?_
  exact endQ hS hQ (fRet (by kernel_rfl) ((congrArg (fun s => outR s 0 c61.res) (by kernel_rfl : finSt c61.fin _ = f61_fin z2.1 z2.2)).trans (f61_out z2.1 z2.2)))
noncomputable def f61 (a1 : Int) (a2 : Int) : Option (Int × Int) := (f61_j0 a1 a2 )
theorem f61_ok (d : Nat) (hd : 2 ≤ d) (a1 : Int) (a2 : Int) (r : Int × Int) (hS : f61 a1 a2 = some r) : lev codes baseL d 61 [(.d (.int .u64 a1)), (.d (.int .u64 a2))] [] = some ((.tup [(.d (.int .u64 r.1)), (.d (.int .u64 r.2))]), []) := by
  refine lev_go codes61 rfl rfl (Nat.le_trans (Nat.le_of_ble_eq_true rfl) hd) fun Q hQ => ?_
  unfold f61 at hS
  show ZR _ Q c61_b [] _
  replace hQ : ∀ e st', f61_Q r e st' → Q e st' := hQ
  refine zrSeq ?_
  refine zrReg ?_
  refine zlRun (n := 2) (j := 2) rfl (by kernel_rfl) ?_
  refine zlEnd (by kernel_rfl) ?_
  refine zkSeq ?_
  refine zrSeq ?_
  refine zrCondF (by kernel_rfl) ?_
  refine zrSkip ?_
  refine zkSeq ?_
  exact f61_j0_ok hd a1 a2 hQ  hS (by kernel_rfl)
/- slices.Repeat[[]farwriter/api.Cell,farwriter/api.Cell] -/
def f34_fin (p17 : List GCell) : St := ⟨(up (fun _ => .un) 4 (.r (.msl 248 0 0 p17.length))), (up (hB fun _ => 0) 248 ⟨0, some (.own 46 4 (e_GCell.cells p17))⟩)⟩
theorem f34_out (p17 : List GCell) : outR (f34_fin p17) 0 c34.res = some ((.r (.own 0 46 4 p17.length (e_GCell.cells p17))), []) := by
  exact out_of (ids := []) (ids' := [248]) (l := [(.r (.msl 248 0 0 p17.length))]) (by kernel_rfl) (by kernel_rfl) (o_own e_GCell (e := 46) (k := 4) (xs := p17) (by kernel_rfl) rfl rfl rfl rfl)
def f34_Q (r : (List GCell)) (e : PX) (st : St) : Prop := DoneF c34 0 ((.r (.own 0 46 4 r.length (e_GCell.cells r))), []) e st
def f34_l2_J (a1 : List GCell) (a2 : Int) (x : (List GCell) × Int) : St := ⟨(up (up (fun _ => .un) 8 (.d (.int .i64 x.2))) 7 (.r (.msl 248 0 0 x.1.length))), (up (hB fun _ => 0) 248 ⟨0, some (.own 46 4 (e_GCell.cells x.1))⟩)⟩
def f34_l2_H (a1 : List GCell) (a2 : Int) (x : (List GCell) × Int) (st : St) : Prop := keepSt [7, 8] [(248, .id 248)] [] st = f34_l2_J a1 a2 x
def f34_l2_e0_J (a1 : List GCell) (a2 : Int) (p34 : List GCell) : St := ⟨(up (fun _ => .un) 7 (.r (.msl 248 0 0 p34.length))), (up (hB fun _ => 0) 248 ⟨0, some (.own 46 4 (e_GCell.cells p34))⟩)⟩
def f34_l2_X (a1 : List GCell) (a2 : Int) (z : ((List GCell))) (e : PX) (st : St) : Prop := e = .exit 0 ∧ st = f34_l2_e0_J a1 a2 z
def f34_l2_j3_J (a1 : List GCell) (a2 : Int) (p38 : List GCell) (p39 : Int) : St := ⟨(up (up (fun _ => .un) 8 (.d (.int .i64 p39))) 7 (.r (.msl 248 0 0 p38.length))), (up (hB fun _ => 0) 248 ⟨0, some (.own 46 4 (e_GCell.cells p38))⟩)⟩
noncomputable def f34_l2_j3 (a1 : List GCell) (a2 : Int) (p38 : List GCell) (p39 : Int) : Option (((List GCell) × Int) ⊕ (((List GCell)))) := ((chk (decide (0 ≤ p39) && decide (p39 ≤ (p38.length : Int)) && decide ((p38.length : Int) ≤ (p38.length : Int)))).bind fun z37 => ((chk (decide (0 ≤ 0) && decide (0 ≤ p39) && decide (p39 ≤ (p38.length : Int)))).bind fun z38 => ((part? p38 0 ((p39 : Int).toNat - (0 : Int).toNat)).bind fun z39 => ((chk (decide (((p39 : Int).toNat) + (((p38.length : Int) : Int).toNat - (p39 : Int).toNat) ≤ p38.length))).bind fun z40 => ((some (cpyL p38 ((p39 : Int).toNat) (((p38.length : Int) : Int).toNat - (p39 : Int).toNat) z39)).bind fun z41 => (some (.inl (z41, (IntKind.i64.wrap (p39 + ((min z39.length (((z41.length : Int) : Int).toNat - (p39 : Int).toNat) : Nat) : Int)))))))))))
theorem f34_l2_j3_ok {d : Nat} (hd : 3 ≤ d) (a1 : List GCell) (a2 : Int) {r : ((List GCell) × Int) ⊕ (((List GCell)))} {Q : PX → St → Prop} (hQ : ∀ e st', finL (f34_l2_H a1 a2) (f34_l2_X a1 a2) r e st' → Q e st') (p38 : List GCell) (p39 : Int) (hS : f34_l2_j3 a1 a2 p38 p39 = some r) {st : St} (he : keepSt [7, 8] [(248, .id 248)] [] st = f34_l2_j3_J a1 a2 p38 p39) : ZR (lev codes baseL (d - 1)) Q c34_1 [] st := by
  refine zrKeep he ?_
  unfold f34_l2_j3 at hS
  refine zrBlk ?_
  refine zrRegD ?_
  refine zdRun (n := 3) (j := 3) (ts := [[], [], []]) (acc' := [[], [], []]) rfl (by kernel_rfl) (by kernel_rfl) (by kernel_rfl) ?_
  refine bindE hS (fun z37 hz37 hS => ?_)
  refine zdOp (d := some 41) (op := (.slS 46 4 (.tmp 39) (.some (.tmp 40)) .none)) (g := none) (v := (.r (.msl 248 0 ((p39 : Int).toNat) (((p38.length : Int) : Int).toNat - (p39 : Int).toNat)))) (ups := []) (j := 4) (t1 := [(248, false)]) (acc' := [[], [], [], [(248, false)]]) (by kernel_rfl) (by kernel_rfl) rfl (by kernel_rfl) (by kernel_rfl) (ev_slM (b := 248) (g := 0) (e := 46) (a := p39) (c := (p38.length : Int)) (l := 0) (n := p38.length) (l' := ((p39 : Int).toNat)) (n' := (((p38.length : Int) : Int).toNat - (p39 : Int).toNat)) (cs := e_GCell.cells p38) (by kernel_rfl) (by kernel_rfl) (bnd_s _ (kk := .i64) (j := p39) (by kernel_rfl)) (bnd_n _) hz37 (by simp) rfl) ?_
  refine zdRun (n := 2) (j := 6) (ts := [[], []]) (acc' := [[], [], [], [(248, false)], [], []]) rfl (by kernel_rfl) (by kernel_rfl) (by kernel_rfl) ?_
  refine bindE hS (fun z38 hz38 hS => ?_)
  refine zdOp (d := some 44) (op := (.slS 46 4 (.tmp 42) .none (.some (.tmp 43)))) (g := none) (v := (.r (.msl 248 0 0 ((p39 : Int).toNat - (0 : Int).toNat)))) (ups := []) (j := 7) (t1 := [(248, false)]) (acc' := [[], [], [], [(248, false)], [], [], [(248, false)]]) (by kernel_rfl) (by kernel_rfl) rfl (by kernel_rfl) (by kernel_rfl) (ev_slM (b := 248) (g := 0) (e := 46) (a := 0) (c := p39) (l := 0) (n := p38.length) (l' := 0) (n' := ((p39 : Int).toNat - (0 : Int).toNat)) (cs := e_GCell.cells p38) (by kernel_rfl) (by kernel_rfl) (bnd_n 0) (bnd_s _ (kk := .i64) (j := p39) (by kernel_rfl)) hz38 (by simp) rfl) ?_
  refine bindE hS (fun z39 hz39 hS => ?_)
  refine bindE hS (fun z40 hz40 hS => ?_)
  refine bindE hS (fun z41 hz41 hS => ?_)
  refine zdOp (d := some 45) (op := (.cpy 4 (.tmp 41) (.tmp 44))) (g := none) (v := (.d (.int .i64 ((min z39.length (((p38.length : Int) : Int).toNat - (p39 : Int).toNat) : Nat) : Int)))) (ups := [(248, ⟨0, some (.own 46 4 (e_GCell.cells (cpyL p38 ((p39 : Int).toNat) (((p38.length : Int) : Int).toNat - (p39 : Int).toNat) z39)))⟩)]) (j := 8) (t1 := [(248, true), (248, false)]) (acc' := [[], [], [], [(248, false)], [], [], [(248, false)], [(248, true), (248, false)]]) (by kernel_rfl) (by kernel_rfl) rfl (by kernel_rfl) (by kernel_rfl) (ev_cpy e_GCell (b := 248) (g := 0) (l := ((p39 : Int).toNat)) (n := (((p38.length : Int) : Int).toNat - (p39 : Int).toNat)) (e := 46) (xs := p38) (ys := z39) (by kernel_rfl) (by kernel_rfl) rfl ((congrArg (asL _) (by kernel_rfl : ρof _ (.tmp 44) = (.r (.msl 248 0 0 ((p39 : Int).toNat - (0 : Int).toNat))))).trans (as_part e_GCell (e := 46) (k := 4) (xs := p38) (by kernel_rfl) rfl hz39)) hz40) ?_
  have ez41 := Option.some.inj hz41
  have lz41 : p38.length = z41.length := by rw [← ez41]; exact (cpyL_len (of_decide_eq_true (chk_t hz40))).symm
  rw [ez41]
  try delta f34_l2_j3_J
  try rw [lz41]
  refine zdRun (n := 2) (j := 10) (ts := [[], []]) (acc' := [[], [], [], [(248, false)], [], [], [(248, false)], [(248, true), (248, false)], [], []]) rfl (by kernel_rfl) (by kernel_rfl) (by kernel_rfl) ?_
  refine zdEnd (by kernel_rfl) (by kernel_rfl) ?_
  refine zkBlk ?_
  refine zkNil ?_
  exact endQ hS hQ (finL_n (by show keepSt _ _ _ _ = _; kernel_rfl))
noncomputable def f34_l2 (a1 : List GCell) (a2 : Int) (x : (List GCell) × Int) : Option (((List GCell) × Int) ⊕ (((List GCell)))) := (bif (decide (x.2 < (x.1.length : Int))) then (f34_l2_j3 a1 a2 x.1 x.2) else (some (.inr x.1)))
theorem f34_l2_ok {d : Nat} (hd : 3 ≤ d) (a1 : List GCell) (a2 : Int) {r : ((List GCell) × Int) ⊕ (((List GCell)))} {Q : PX → St → Prop} (hQ : ∀ e st', finL (f34_l2_H a1 a2) (f34_l2_X a1 a2) r e st' → Q e st') {x : (List GCell) × Int} (hS : f34_l2 a1 a2 x = some r) {st : St} (he : f34_l2_H a1 a2 x st) : ZR (lev codes baseL (d - 1)) Q c34_2 [] st := by
  refine zrKeep he ?_
  unfold f34_l2 at hS
  refine zrSeq ?_
  refine zrSeq ?_
  refine zrReg ?_
  refine zlRun (n := 3) (j := 3) rfl (by kernel_rfl) ?_
  refine zlBool (d := 37) (op := (.cmpI .lss (.tmp 34) (.tmp 36))) (g := none) (j := 4) (decide (x.2 < (x.1.length : Int))) rfl (by kernel_rfl) (by kernel_rfl) (by kernel_rfl) (fun hc => ?_) (fun hc => ?_)
  · replace hS := cond_t hc hS
    refine zlEnd (by kernel_rfl) ?_
    refine zkSeq ?_
    refine zrCondT (by kernel_rfl) ?_
    refine zrSkip ?_
    refine zkSeq ?_
    exact f34_l2_j3_ok hd a1 a2 hQ x.1 x.2 hS (by kernel_rfl)
  · replace hS := cond_f hc hS
    refine zlEnd (by kernel_rfl) ?_
    refine zkSeq ?_
    refine zrCondF (by kernel_rfl) ?_
    refine zrKeep (J := f34_l2_e0_J a1 a2 x.1) (by kernel_rfl) ?_
    refine zrExit ?_
    refine zkSeqX ?_
    refine zkNil ?_
    exact endQ hS hQ (finL_x (by intro h; cases h) (by show _ = _ ∧ _ = _; exact ⟨rfl, rfl⟩))
def f34_j1_J (a1 : List GCell) (a2 : Int) (p23 : Int) : St := ⟨(up (up (fun _ => .un) 6 (.d (.int .u64 p23))) 0 (.d (.sl a1.length (e_GCell.cells a1)))), (hB fun _ => 0)⟩
noncomputable def f34_j1 (a1 : List GCell) (a2 : Int) (p23 : Int) : Option ((List GCell)) := ((mk? 32 (IntKind.i64.wrap (p23)) (IntKind.i64.wrap (p23)) (GCell.mk 0 (GPen.mk 0 0 0))).bind fun z24 => ((chk (decide (0 + z24.length ≤ z24.length))).bind fun z25 => ((some (cpyL z24 0 z24.length a1)).bind fun z26 => ((loopO (f34_l2 a1 a2) (z26, ((min a1.length z26.length : Nat) : Int))).bind fun z42 => (some z42)))))
theorem f34_j1_ok {d : Nat} (hd : 3 ≤ d) (a1 : List GCell) (a2 : Int) {r : (List GCell)} {Q : PX → St → Prop} (hQ : ∀ e st', f34_Q r e st' → Q e st') (p23 : Int) (hS : f34_j1 a1 a2 p23 = some r) {st : St} (he : keepSt [0, 6] [] [] st = f34_j1_J a1 a2 p23) : ZR (lev codes baseL (d - 1)) Q c34_3 [] st := by
  refine zrKeep he ?_
  unfold f34_j1 at hS
  refine zrSeq ?_
  refine zrReg ?_
  refine zlRun (n := 2) (j := 2) rfl (by kernel_rfl) ?_
  refine bindE hS (fun z24 hz24 hS => ?_)
  refine zlOp (d := some 30) (op := (.mks 46 4 32 [(4, (.int .i64 0))] (.tmp 29) (.tmp 29))) (g := none) (v := (.r (.msl 248 1 0 z24.length))) (ups := [(248, ⟨1, some (.own 46 4 (e_GCell.cells z24))⟩)]) (j := 3) rfl (by kernel_rfl) (by kernel_rfl) (ev_mks e_GCell (kl := .i64) (kc := .i64) (z0 := (GCell.mk 0 (GPen.mk 0 0 0))) (a := (IntKind.i64.wrap (p23))) (c := (IntKind.i64.wrap (p23))) (by kernel_rfl) (by kernel_rfl) (by kernel_rfl) rfl hz24) ?_
  refine zlRun (n := 1) (j := 4) rfl (by kernel_rfl) ?_
  refine zlEnd (by kernel_rfl) ?_
  refine zkSeq ?_
  refine zrSeq ?_
  refine zrReg ?_
  refine zlRun (n := 2) (j := 2) rfl (by kernel_rfl) ?_
  refine bindE hS (fun z25 hz25 hS => ?_)
  refine bindE hS (fun z26 hz26 hS => ?_)
  refine zlOp (d := some 33) (op := (.cpy 4 (.tmp 31) (.tmp 32))) (g := none) (v := (.d (.int .i64 ((min a1.length z24.length : Nat) : Int)))) (ups := [(248, ⟨1, some (.own 46 4 (e_GCell.cells (cpyL z24 0 z24.length a1)))⟩)]) (j := 3) rfl (by kernel_rfl) (by kernel_rfl) (ev_cpy e_GCell (b := 248) (g := 1) (l := 0) (n := z24.length) (e := 46) (xs := z24) (ys := a1) (by kernel_rfl) (by kernel_rfl) rfl ((congrArg (asL _) (by kernel_rfl : ρof _ (.tmp 32) = (.d (.sl a1.length (e_GCell.cells a1))))).trans (as_d _ _)) hz25) ?_
  have ez26 := Option.some.inj hz26
  have lz26 : z24.length = z26.length := by rw [← ez26]; exact (cpyL_len (of_decide_eq_true (chk_t hz25))).symm
  rw [ez26]
  try delta f34_j1_J
  try rw [lz26]
  refine zlRun (n := 1) (j := 4) rfl (by kernel_rfl) ?_
  refine zlEnd (by kernel_rfl) ?_
  refine zkSeq ?_
  refine zrSeq ?_
  refine zrBlk ?_
  refine bindE hS (fun z42 hz42 hS => ?_)
  refine zrLoop (f34_l2_H a1 a2) (f34_l2_X a1 a2) (fun x st r Q h0 hS hQ => f34_l2_ok hd a1 a2 hQ hS h0) (x := (z26, ((min a1.length z26.length : Nat) : Int))) (z := z42) (by show keepSt _ _ _ _ = _; kernel_rfl) hz42 ?_
  intro e st' _ hX
  obtain ⟨rfl, rfl⟩ : _ ∧ _ := hX
  refine zkBlkX ?_
  refine zkSeq ?_
  refine zrSeq ?_
  refine zrReg ?_
  refine zlRun (n := 2) (j := 2) rfl (by kernel_rfl) ?_
  refine zlEnd (by kernel_rfl) ?_
  refine zkSeq ?_
  refine zrRet ?_
  refine zkNil ?_
  exact endQ hS hQ (fRet (by kernel_rfl) ((congrArg (fun s => outR s 0 c34.res) (by kernel_rfl : finSt c34.fin _ = f34_fin z42)).trans (f34_out z42)))
def f34_j0_J (a1 : List GCell) (a2 : Int) : St := ⟨(up (up (fun _ => .un) 1 (.d (.int .i64 a2))) 0 (.d (.sl a1.length (e_GCell.cells a1)))), (hB fun _ => 0)⟩
noncomputable def f34_j0 (a1 : List GCell) (a2 : Int) : Option ((List GCell)) := ((f61 (IntKind.u64.wrap ((a1.length : Int))) (IntKind.u64.wrap (a2))).bind fun z21 => (bif (decide (0 < z21.1)) then ((chk false).bind fun z43 => ((chk false).bind fun z44 => (f34_j1 a1 a2 z21.2))) else (bif (decide (9223372036854775807 < z21.2)) then ((chk false).bind fun z45 => ((chk false).bind fun z46 => (f34_j1 a1 a2 z21.2))) else (f34_j1 a1 a2 z21.2))))
theorem f34_j0_ok {d : Nat} (hd : 3 ≤ d) (a1 : List GCell) (a2 : Int) {r : (List GCell)} {Q : PX → St → Prop} (hQ : ∀ e st', f34_Q r e st' → Q e st')  (hS : f34_j0 a1 a2 = some r) {st : St} (he : keepSt [0, 1] [] [] st = f34_j0_J a1 a2) : ZR (lev codes baseL (d - 1)) Q c34_4 [] st := by
  refine zrKeep he ?_
  unfold f34_j0 at hS
  refine zrSeq ?_
  refine zrReg ?_
  refine zlRun (n := 5) (j := 5) rfl (by kernel_rfl) ?_
  refine bindE hS (fun z21 hz21 hS => ?_)
  refine zlOp (d := some 18) (op := (.call 61 [(.tmp 15), (.tmp 17)])) (g := none) (j := 6) rfl (by kernel_rfl) (by kernel_rfl) (ev_callA (by kernel_rfl) (f61_ok (d - 1) (dpt hd rfl) (IntKind.u64.wrap ((a1.length : Int))) (IntKind.u64.wrap (a2)) z21 hz21) (by kernel_rfl) (by kernel_rfl)) ?_
  refine zlRun (n := 5) (j := 11) rfl (by kernel_rfl) ?_
  refine zlEnd (by kernel_rfl) ?_
  refine zkSeq ?_
  refine zrSeq ?_
  refine zrSeq ?_
  refine zrReg ?_
  refine zlRun (n := 1) (j := 1) rfl (by kernel_rfl) ?_
  refine zlBool (d := 22) (op := (.cmpI .gtr (.tmp 21) (.const (.int .u64 0)))) (g := none) (j := 2) (decide (0 < z21.1)) rfl (by kernel_rfl) (by kernel_rfl) (by kernel_rfl) (fun hc => ?_) (fun hc => ?_)
  · replace hS := cond_t hc hS
    refine zlRun (n := 4) (j := 6) rfl (by kernel_rfl) ?_
    refine zlEnd (by kernel_rfl) ?_
    refine zkSeq ?_
    refine zrCondT (by kernel_rfl) ?_
    refine zrReg ?_
    refine bindE hS (fun z43 hz43 hS => ?_)
    refine zlOp (d := some 27) (op := (.mx [])) (g := none) (v := .un) (ups := []) (j := 1) rfl (by kernel_rfl) (by kernel_rfl) (by exact absurd hz43 (by simp [chk])) ?_
    refine bindE hS (fun z44 hz44 hS => ?_)
    refine zlOp (d := none) (op := (.mx [])) (g := none) (v := .un) (ups := []) (j := 2) rfl (by kernel_rfl) (by kernel_rfl) (by exact absurd hz44 (by simp [chk])) ?_
    refine zlEnd (by kernel_rfl) ?_
    refine zkSeq ?_
    exact f34_j1_ok hd a1 a2 hQ z21.2 hS (by kernel_rfl)
  · replace hS := cond_f hc hS
    refine zlRun (n := 2) (j := 4) rfl (by kernel_rfl) ?_
    refine zlBool (d := 25) (op := (.cmpI .gtr (.tmp 24) (.const (.int .u64 9223372036854775807)))) (g := (some (23, false))) (j := 5) (decide (9223372036854775807 < z21.2)) rfl (by kernel_rfl) (by kernel_rfl) (by kernel_rfl) (fun hc => ?_) (fun hc => ?_)
    · replace hS := cond_t hc hS
      refine zlRun (n := 1) (j := 6) rfl (by kernel_rfl) ?_
      refine zlEnd (by kernel_rfl) ?_
      refine zkSeq ?_
      refine zrCondT (by kernel_rfl) ?_
      refine zrReg ?_
      refine bindE hS (fun z45 hz45 hS => ?_)
      refine zlOp (d := some 27) (op := (.mx [])) (g := none) (v := .un) (ups := []) (j := 1) rfl (by kernel_rfl) (by kernel_rfl) (by exact absurd hz45 (by simp [chk])) ?_
      refine bindE hS (fun z46 hz46 hS => ?_)
      refine zlOp (d := none) (op := (.mx [])) (g := none) (v := .un) (ups := []) (j := 2) rfl (by kernel_rfl) (by kernel_rfl) (by exact absurd hz46 (by simp [chk])) ?_
      refine zlEnd (by kernel_rfl) ?_
      refine zkSeq ?_
      exact f34_j1_ok hd a1 a2 hQ z21.2 hS (by kernel_rfl)
    · replace hS := cond_f hc hS
      refine zlRun (n := 1) (j := 6) rfl (by kernel_rfl) ?_
      refine zlEnd (by kernel_rfl) ?_
      refine zkSeq ?_
      refine zrCondF (by kernel_rfl) ?_
      refine zrSkip ?_
      refine zkSeq ?_
      exact f34_j1_ok hd a1 a2 hQ z21.2 hS (by kernel_rfl)
noncomputable def f34 (a1 : List GCell) (a2 : Int) : Option ((List GCell)) := (bif (decide (a2 < 0)) then ((chk false).bind fun z47 => ((chk false).bind fun z48 => (f34_j0 a1 a2 ))) else (f34_j0 a1 a2 ))
theorem f34_ok (d : Nat) (hd : 3 ≤ d) (a1 : List GCell) (a2 : Int) (r : (List GCell)) (hS : f34 a1 a2 = some r) : lev codes baseL d 34 [(.d (.sl a1.length (e_GCell.cells a1))), (.d (.int .i64 a2))] [] = some ((.r (.own 0 46 4 r.length (e_GCell.cells r))), []) := by
  refine lev_go codes34 rfl rfl (Nat.le_trans (Nat.le_of_ble_eq_true rfl) hd) fun Q hQ => ?_
  unfold f34 at hS
  show ZR _ Q c34_b [] _
  replace hQ : ∀ e st', f34_Q r e st' → Q e st' := hQ
  refine zrSeq ?_
  refine zrReg ?_
  refine zlRun (n := 1) (j := 1) rfl (by kernel_rfl) ?_
  refine zlEnd (by kernel_rfl) ?_
  refine zkSeq ?_
  refine zrSeq ?_
  refine zrSeq ?_
  refine zrReg ?_
  refine zlRun (n := 1) (j := 1) rfl (by kernel_rfl) ?_
  refine zlBool (d := 10) (op := (.cmpI .lss (.tmp 9) (.const (.int .i64 0)))) (g := none) (j := 2) (decide (a2 < 0)) rfl (by kernel_rfl) (by kernel_rfl) (by kernel_rfl) (fun hc => ?_) (fun hc => ?_)
  · replace hS := cond_t hc hS
    refine zlEnd (by kernel_rfl) ?_
    refine zkSeq ?_
    refine zrCondT (by kernel_rfl) ?_
    refine zrReg ?_
    refine bindE hS (fun z47 hz47 hS => ?_)
    refine zlOp (d := some 11) (op := (.mx [])) (g := none) (v := .un) (ups := []) (j := 1) rfl (by kernel_rfl) (by kernel_rfl) (by exact absurd hz47 (by simp [chk])) ?_
    refine bindE hS (fun z48 hz48 hS => ?_)
    refine zlOp (d := none) (op := (.mx [])) (g := none) (v := .un) (ups := []) (j := 2) rfl (by kernel_rfl) (by kernel_rfl) (by exact absurd hz48 (by simp [chk])) ?_
    refine zlEnd (by kernel_rfl) ?_
    refine zkSeq ?_
    exact f34_j0_ok hd a1 a2 hQ  hS (by kernel_rfl)
  · replace hS := cond_f hc hS
    refine zlEnd (by kernel_rfl) ?_
    refine zkSeq ?_
    refine zrCondF (by kernel_rfl) ?_
    refine zrSkip ?_
    refine zkSeq ?_
    exact f34_j0_ok hd a1 a2 hQ  hS (by kernel_rfl)
/- farwriter/grid.blanks -/
def f19_fin (p1 : GGrid) : St := ⟨(up (fun _ => .un) 6 (.r (.ptr 56 0 0))), (up (up (hB fun _ => 0) 128 ⟨0, some (.own 46 4 (e_GCell.cells p1.Cells))⟩) 56 ⟨0, some (.box ((.d (.int .i64 p1.Wide)) :: ((.d (.int .i64 p1.High)) :: ((.r (.msl 128 0 0 p1.Cells.length)) :: []))))⟩)⟩
theorem f19_out (p1 : GGrid) : outR (f19_fin p1) 0 c19.res = some ((.agg ((.d (.int .i64 p1.Wide)) :: ((.d (.int .i64 p1.High)) :: ((.r (.own 0 46 4 p1.Cells.length (e_GCell.cells p1.Cells))) :: [])))), []) := by
  exact out_of (ids := []) (ids' := [128]) (l := [(.agg ((.d (.int .i64 p1.Wide)) :: ((.d (.int .i64 p1.High)) :: ((.r (.msl 128 0 0 p1.Cells.length)) :: []))))]) (by kernel_rfl) (by kernel_rfl) (o_agg (o_cons rfl (o_cons rfl (o_cons (o_own e_GCell (e := 46) (k := 4) (xs := p1.Cells) (by kernel_rfl) rfl rfl rfl rfl) o_nil))))
def f19_Q (r : GGrid) (e : PX) (st : St) : Prop := DoneF c19 0 ((.agg ((.d (.int .i64 r.Wide)) :: ((.d (.int .i64 r.High)) :: ((.r (.own 0 46 4 r.Cells.length (e_GCell.cells r.Cells))) :: [])))), []) e st
noncomputable def f19 (a1 : Int) (a2 : Int) (a3 : GPen) : Option (GGrid) := ((f35 a3).bind fun z3 => ((f34 [z3] (IntKind.i64.wrap (a1 * a2))).bind fun z4 => (some (GGrid.mk a1 a2 z4))))
theorem f19_ok (d : Nat) (hd : 4 ≤ d) (a1 : Int) (a2 : Int) (a3 : GPen) (r : GGrid) (hS : f19 a1 a2 a3 = some r) : lev codes baseL d 19 [(.d (.int .i64 a1)), (.d (.int .i64 a2)), (.agg ((.d (.int .i64 a3.Flags)) :: ((.d (.int .i64 a3.Fore)) :: ((.d (.int .i64 a3.Back)) :: []))))] [] = some ((.agg ((.d (.int .i64 r.Wide)) :: ((.d (.int .i64 r.High)) :: ((.r (.own 0 46 4 r.Cells.length (e_GCell.cells r.Cells))) :: [])))), []) := by
  refine lev_go codes19 rfl rfl (Nat.le_trans (Nat.le_of_ble_eq_true rfl) hd) fun Q hQ => ?_
  unfold f19 at hS
  show ZR _ Q c19_b [] _
  replace hQ : ∀ e st', f19_Q r e st' → Q e st' := hQ
  refine zrSeq ?_
  refine zrReg ?_
  refine zlRun (n := 2) (j := 2) rfl (by kernel_rfl) ?_
  refine zlEnd (by kernel_rfl) ?_
  refine zkSeq ?_
  refine zrSeq ?_
  refine zrReg ?_
  refine zlRun (n := 3) (j := 3) rfl (by kernel_rfl) ?_
  refine bindE hS (fun z3 hz3 hS => ?_)
  refine zlOp (d := some 10) (op := (.call 35 [(.tmp 9)])) (g := none) (j := 4) rfl (by kernel_rfl) (by kernel_rfl) (ev_callA (by kernel_rfl) (f35_ok (d - 1) (dpt hd rfl) a3 z3 hz3) (by kernel_rfl) (by kernel_rfl)) ?_
  refine zlRun (n := 4) (j := 8) rfl (by kernel_rfl) ?_
  refine bindE hS (fun z4 hz4 hS => ?_)
  refine zlOp (d := some 15) (op := (.call 34 [(.tmp 11), (.tmp 14)])) (g := none) (j := 9) rfl (by kernel_rfl) (by kernel_rfl) (ev_callB (args := [(.r (.msl 96 1 0 (([z3] : List GCell).length))), (.d (.int .i64 (IntKind.i64.wrap (a1 * a2))))]) (by kernel_rfl) (l_cons (l_own e_GCell (e := 46) (k := 4) (xs := [z3]) (by kernel_rfl) rfl rfl) (l_cons (by kernel_rfl) l_nil)) (f34_ok (d - 1) (dpt hd rfl) [z3] (IntKind.i64.wrap (a1 * a2)) z4 hz4) (by simp only [free_own e_GCell (fun _ => rfl), free_tup, free_agg, free_nl, free_cs, free_int, free_bool, free_str, free_un, free_ni, free_s0, Bool.and_true, Bool.or_true, Bool.and_self]) (by kernel_rfl)) ?_
  refine zlRun (n := 2) (j := 11) rfl (by kernel_rfl) ?_
  refine zlEnd (by kernel_rfl) ?_
  refine zkSeq ?_
  refine zrRet ?_
  refine zkNil ?_
  exact endQ hS hQ (fRet (by kernel_rfl) ((congrArg (fun s => outR s 0 c19.res) (by kernel_rfl : finSt c19.fin _ = f19_fin (GGrid.mk a1 a2 z4))).trans (f19_out (GGrid.mk a1 a2 z4))))
/- farwriter/grid.New -/
def f9_fin (p5 : GGrid) (p6 : Int) : St := ⟨(up (up (fun _ => .un) 7 (.d (.int .i64 p6))) 6 (.r (.ptr 56 0 0))), (up (up (hB fun _ => 0) 216 ⟨0, some (.own 46 4 (e_GCell.cells p5.Cells))⟩) 56 ⟨0, some (.box ((.d (.int .i64 p5.Wide)) :: ((.d (.int .i64 p5.High)) :: ((.r (.msl 216 0 0 p5.Cells.length)) :: []))))⟩)⟩
theorem f9_out (p5 : GGrid) (p6 : Int) : outR (f9_fin p5 p6) 0 c9.res = some ((.tup [(.agg ((.d (.int .i64 p5.Wide)) :: ((.d (.int .i64 p5.High)) :: ((.r (.own 0 46 4 p5.Cells.length (e_GCell.cells p5.Cells))) :: [])))), (.d (.int .i64 p6))]), []) := by
  exact out_of (ids := []) (ids' := [216]) (l := [(.agg ((.d (.int .i64 p5.Wide)) :: ((.d (.int .i64 p5.High)) :: ((.r (.msl 216 0 0 p5.Cells.length)) :: [])))), (.d (.int .i64 p6))]) (by kernel_rfl) (by kernel_rfl) (o_tup (o_cons (o_agg (o_cons rfl (o_cons rfl (o_cons (o_own e_GCell (e := 46) (k := 4) (xs := p5.Cells) (by kernel_rfl) rfl rfl rfl rfl) o_nil)))) (o_cons rfl o_nil)))
def f9_Q (r : GGrid × Int) (e : PX) (st : St) : Prop := DoneF c9 0 ((.tup [(.agg ((.d (.int .i64 r.1.Wide)) :: ((.d (.int .i64 r.1.High)) :: ((.r (.own 0 46 4 r.1.Cells.length (e_GCell.cells r.1.Cells))) :: [])))), (.d (.int .i64 r.2))]), []) e st
def f9_j0_J (a1 : Int) (a2 : Int) (a3 : GPen) : St := ⟨(up (up (up (up (fun _ => .un) 6 (.r (.ptr 56 0 0))) 5 (.r (.ptr 48 0 0))) 1 (.d (.int .i64 a2))) 0 (.d (.int .i64 a1))), (up (up (hB fun _ => 0) 56 ⟨0, some (.box ((.d (.int .i64 0)) :: ((.d (.int .i64 0)) :: ((.d (.sl ([] : List GCell).length (e_GCell.cells ([])))) :: []))))⟩) 48 ⟨0, some (.box ((.d (.int .i64 a3.Flags)) :: ((.d (.int .i64 a3.Fore)) :: ((.d (.int .i64 a3.Back)) :: []))))⟩)⟩
noncomputable def f9_j0 (a1 : Int) (a2 : Int) (a3 : GPen) : Option (GGrid × Int) := ((f18 a3).bind fun z5 => (bif (!decide (z5 = 0)) then (some ((GGrid.mk 0 0 ([])), z5)) else ((f19 a1 a2 a3).bind fun z6 => (some (z6, 0)))))
theorem f9_j0_ok {d : Nat} (hd : 5 ≤ d) (a1 : Int) (a2 : Int) (a3 : GPen) {r : GGrid × Int} {Q : PX → St → Prop} (hQ : ∀ e st', f9_Q r e st' → Q e st')  (hS : f9_j0 a1 a2 a3 = some r) {st : St} (he : keepSt [0, 1, 5, 6] [(48, .id 48), (56, .id 56)] [.cell 56 2 0 0 1] st = f9_j0_J a1 a2 a3) : ZR (lev codes baseL (d - 1)) Q c9_1 [] st := by
  refine zrKeep he ?_
  unfold f9_j0 at hS
  refine zrSeq ?_
  refine zrSeq ?_
  refine zrReg ?_
  refine zlRun (n := 1) (j := 1) rfl (by kernel_rfl) ?_
  refine bindE hS (fun z5 hz5 hS => ?_)
  refine zlOp (d := some 18) (op := (.call 18 [(.tmp 17)])) (g := none) (j := 2) rfl (by kernel_rfl) (by kernel_rfl) (ev_callA (by kernel_rfl) (f18_ok (d - 1) (dpt hd rfl) a3 z5 hz5) (by kernel_rfl) (by kernel_rfl)) ?_
  refine zlRun (n := 1) (j := 3) rfl (by kernel_rfl) ?_
  refine zlEnd (by kernel_rfl) ?_
  refine zkSeq ?_
  refine zrSeq ?_
  refine zrReg ?_
  refine zlRun (n := 1) (j := 1) rfl (by kernel_rfl) ?_
  refine zlBool (d := 20) (op := (.cmpI .neq (.tmp 19) (.const (.int .i64 0)))) (g := none) (j := 2) (!decide (z5 = 0)) rfl (by kernel_rfl) (by kernel_rfl) (by kernel_rfl) (fun hc => ?_) (fun hc => ?_)
  · replace hS := cond_t hc hS
    refine zlEnd (by kernel_rfl) ?_
    refine zkSeq ?_
    refine zrCondT (by kernel_rfl) ?_
    refine zrSeq ?_
    refine zrReg ?_
    refine zlRun (n := 4) (j := 4) rfl (by kernel_rfl) ?_
    refine zlEnd (by kernel_rfl) ?_
    refine zkSeq ?_
    refine zrRet ?_
    refine zkSeqR ?_
    refine zkNil ?_
    exact endQ hS hQ (fRet (by kernel_rfl) ((congrArg (fun s => outR s 0 c9.res) (by kernel_rfl : finSt c9.fin _ = f9_fin (GGrid.mk 0 0 ([])) z5)).trans (f9_out (GGrid.mk 0 0 ([])) z5)))
  · replace hS := cond_f hc hS
    refine zlEnd (by kernel_rfl) ?_
    refine zkSeq ?_
    refine zrCondF (by kernel_rfl) ?_
    refine zrSkip ?_
    refine zkSeq ?_
    refine zrSeq ?_
    refine zrReg ?_
    refine zlRun (n := 3) (j := 3) rfl (by kernel_rfl) ?_
    refine bindE hS (fun z6 hz6 hS => ?_)
    refine zlOp (d := some 26) (op := (.call 19 [(.tmp 23), (.tmp 24), (.tmp 25)])) (g := none) (j := 4) rfl (by kernel_rfl) (by kernel_rfl) (ev_callA (by kernel_rfl) (f19_ok (d - 1) (dpt hd rfl) a1 a2 a3 z6 hz6) (by kernel_rfl) (by kernel_rfl)) ?_
    refine zlRun (n := 2) (j := 6) rfl (by kernel_rfl) ?_
    refine zlEnd (by kernel_rfl) ?_
    refine zkSeq ?_
    refine zrRet ?_
    refine zkNil ?_
    exact endQ hS hQ (fRet (by kernel_rfl) ((congrArg (fun s => outR s 0 c9.res) (by kernel_rfl : finSt c9.fin _ = f9_fin z6 0)).trans (f9_out z6 0)))
noncomputable def f9 (a1 : Int) (a2 : Int) (a3 : GPen) : Option (GGrid × Int) := ((f17 a1 a2).bind fun z7 => (bif (!decide (z7 = 0)) then (some ((GGrid.mk 0 0 ([])), z7)) else (f9_j0 a1 a2 a3 )))
theorem f9_ok (d : Nat) (hd : 5 ≤ d) (a1 : Int) (a2 : Int) (a3 : GPen) (r : GGrid × Int) (hS : f9 a1 a2 a3 = some r) : lev codes baseL d 9 [(.d (.int .i64 a1)), (.d (.int .i64 a2)), (.agg ((.d (.int .i64 a3.Flags)) :: ((.d (.int .i64 a3.Fore)) :: ((.d (.int .i64 a3.Back)) :: []))))] [] = some ((.tup [(.agg ((.d (.int .i64 r.1.Wide)) :: ((.d (.int .i64 r.1.High)) :: ((.r (.own 0 46 4 r.1.Cells.length (e_GCell.cells r.1.Cells))) :: [])))), (.d (.int .i64 r.2))]), []) := by
  refine lev_go codes9 rfl rfl (Nat.le_trans (Nat.le_of_ble_eq_true rfl) hd) fun Q hQ => ?_
  unfold f9 at hS
  show ZR _ Q c9_b [] _
  replace hQ : ∀ e st', f9_Q r e st' → Q e st' := hQ
  refine zrSeq ?_
  refine zrReg ?_
  refine zlRun (n := 3) (j := 3) rfl (by kernel_rfl) ?_
  refine zlEnd (by kernel_rfl) ?_
  refine zkSeq ?_
  refine zrSeq ?_
  refine zrSeq ?_
  refine zrReg ?_
  refine zlRun (n := 2) (j := 2) rfl (by kernel_rfl) ?_
  refine bindE hS (fun z7 hz7 hS => ?_)
  refine zlOp (d := some 12) (op := (.call 17 [(.tmp 10), (.tmp 11)])) (g := none) (j := 3) rfl (by kernel_rfl) (by kernel_rfl) (ev_callA (by kernel_rfl) (f17_ok (d - 1) (dpt hd rfl) a1 a2 z7 hz7) (by kernel_rfl) (by kernel_rfl)) ?_
  refine zlRun (n := 1) (j := 4) rfl (by kernel_rfl) ?_
  refine zlEnd (by kernel_rfl) ?_
  refine zkSeq ?_
  refine zrSeq ?_
  refine zrReg ?_
  refine zlRun (n := 1) (j := 1) rfl (by kernel_rfl) ?_
  refine zlBool (d := 14) (op := (.cmpI .neq (.tmp 13) (.const (.int .i64 0)))) (g := none) (j := 2) (!decide (z7 = 0)) rfl (by kernel_rfl) (by kernel_rfl) (by kernel_rfl) (fun hc => ?_) (fun hc => ?_)
  · replace hS := cond_t hc hS
    refine zlEnd (by kernel_rfl) ?_
    refine zkSeq ?_
    refine zrCondT (by kernel_rfl) ?_
    refine zrSeq ?_
    refine zrReg ?_
    refine zlRun (n := 4) (j := 4) rfl (by kernel_rfl) ?_
    refine zlEnd (by kernel_rfl) ?_
    refine zkSeq ?_
    refine zrRet ?_
    refine zkSeqR ?_
    refine zkNil ?_
    exact endQ hS hQ (fRet (by kernel_rfl) ((congrArg (fun s => outR s 0 c9.res) (by kernel_rfl : finSt c9.fin _ = f9_fin (GGrid.mk 0 0 ([])) z7)).trans (f9_out (GGrid.mk 0 0 ([])) z7)))
  · replace hS := cond_f hc hS
    refine zlEnd (by kernel_rfl) ?_
    refine zkSeq ?_
    refine zrCondF (by kernel_rfl) ?_
    refine zrSkip ?_
    refine zkSeq ?_
    exact f9_j0_ok hd a1 a2 a3 hQ  hS (by kernel_rfl)
/- slices.Clone[[]farwriter/api.Cell,farwriter/api.Cell] -/
def f20_fin (p1 : List GCell) : St := ⟨(up (fun _ => .un) 2 (.r (.msl 97 0 0 p1.length))), (up (hB fun _ => 0) 97 ⟨0, some (.own 46 4 (e_GCell.cells p1))⟩)⟩
theorem f20_out (p1 : List GCell) : outR (f20_fin p1) 0 c20.res = some ((.r (.own 0 46 4 p1.length (e_GCell.cells p1))), []) := by
  exact out_of (ids := []) (ids' := [97]) (l := [(.r (.msl 97 0 0 p1.length))]) (by kernel_rfl) (by kernel_rfl) (o_own e_GCell (e := 46) (k := 4) (xs := p1) (by kernel_rfl) rfl rfl rfl rfl)
def f20_Q (r : List GCell) (e : PX) (st : St) : Prop := DoneF c20 0 ((.r (.own 0 46 4 r.length (e_GCell.cells r))), []) e st
noncomputable def f20 (a1 : List GCell) : Option (List GCell) := ((app? 32 ([] : List GCell) a1).bind fun z2 => (some z2))
theorem f20_ok (d : Nat) (hd : 1 ≤ d) (a1 : List GCell) (r : List GCell) (hS : f20 a1 = some r) : lev codes baseL d 20 [(.d (.sl a1.length (e_GCell.cells a1)))] [] = some ((.r (.own 0 46 4 r.length (e_GCell.cells r))), []) := by
  refine lev_goZ codes20 rfl rfl (Nat.le_trans (Nat.le_of_ble_eq_true rfl) hd) (fun Q hQ => ?_) (fun h0 Q hQ => ?_)
  · unfold f20 at hS
    show ZR _ Q c20_b [] _
    refine zrSeq ?_
    refine zrReg ?_
    refine zlRun (n := 1) (j := 1) rfl (by kernel_rfl) ?_
    refine zlEnd (by kernel_rfl) ?_
    refine zkSeq ?_
    refine zrSeq ?_
    refine zrSeq ?_
    refine zrReg ?_
    refine zlRun (n := 2) (j := 2) rfl (by kernel_rfl) ?_
    refine zlEnd (by kernel_rfl) ?_
    refine zkSeq ?_
    refine zrCondF (by kernel_rfl) ?_
    refine zrSkip ?_
    refine zkSeq ?_
    refine zrSeq ?_
    refine zrReg ?_
    refine zlRun (n := 2) (j := 2) rfl (by kernel_rfl) ?_
    refine bindE hS (fun z2 hz2 hS => ?_)
    refine zlOp (d := some 7) (op := (.app 46 4 32 (.tmp 5) (.tmp 6))) (g := none) (v := (.r (.msl 48 2 0 z2.length))) (ups := [(48, ⟨2, some (.own 46 4 (e_GCell.cells z2))⟩)]) (j := 3) rfl (by kernel_rfl) (by kernel_rfl) (ev_app e_GCell (b := 48) (g := 1) (n := ([] : List GCell).length) (xs := []) (ys := a1) ((congrArg (asL _) (by kernel_rfl : ρof _ (.tmp 6) = (.slz false a1.length (e_GCell.cells a1)))).trans rfl) rfl (by kernel_rfl) rfl (by kernel_rfl) rfl hz2) ?_
    refine zlRun (n := 1) (j := 4) rfl (by kernel_rfl) ?_
    refine zlEnd (by kernel_rfl) ?_
    refine zkSeq ?_
    refine zrRet ?_
    refine zkNil ?_
    exact endQ (F := f20_Q) hS hQ (fRet (by kernel_rfl) ((congrArg (fun s => outR s 0 c20.res) (by kernel_rfl : finSt c20.fin _ = f20_fin z2)).trans (f20_out z2)))
  · have hS : (some []) = some r := by
      have hl := List.eq_nil_of_length_eq_zero h0
      subst hl
      simpa [f20, app?] using hS
    show ZR _ Q c20_b [] _
    refine zrSeq ?_
    refine zrReg ?_
    refine zlRun (n := 1) (j := 1) rfl (by kernel_rfl) ?_
    refine zlEnd (by kernel_rfl) ?_
    refine zkSeq ?_
    refine zrSeq ?_
    refine zrSeq ?_
    refine zrReg ?_
    refine zlRun (n := 2) (j := 2) rfl (by kernel_rfl) ?_
    refine zlEnd (by kernel_rfl) ?_
    refine zkSeq ?_
    refine zrCondT (by kernel_rfl) ?_
    refine zrSeq ?_
    refine zrReg ?_
    refine zlRun (n := 1) (j := 1) rfl (by kernel_rfl) ?_
    refine zlEnd (by kernel_rfl) ?_
    refine zkSeq ?_
    refine zrRet ?_
    refine zkSeqR ?_
    refine zkNil ?_
    exact endQ (F := f20_Q) hS hQ (fRet (by kernel_rfl) ((congrArg (fun s => outR s 0 c20.res) (by kernel_rfl : finSt c20.fin _ = f20_fin [])).trans (f20_out [])))
/- farwriter/grid.Clone -/
def f10_fin (p1 : GGrid) : St := ⟨(up (fun _ => .un) 2 (.r (.ptr 24 0 0))), (up (up (hB fun _ => 0) 48 ⟨0, some (.own 46 4 (e_GCell.cells p1.Cells))⟩) 24 ⟨0, some (.box ((.d (.int .i64 p1.Wide)) :: ((.d (.int .i64 p1.High)) :: ((.r (.msl 48 0 0 p1.Cells.length)) :: []))))⟩)⟩
theorem f10_out (p1 : GGrid) : outR (f10_fin p1) 0 c10.res = some ((.agg ((.d (.int .i64 p1.Wide)) :: ((.d (.int .i64 p1.High)) :: ((.r (.own 0 46 4 p1.Cells.length (e_GCell.cells p1.Cells))) :: [])))), []) := by
  exact out_of (ids := []) (ids' := [48]) (l := [(.agg ((.d (.int .i64 p1.Wide)) :: ((.d (.int .i64 p1.High)) :: ((.r (.msl 48 0 0 p1.Cells.length)) :: []))))]) (by kernel_rfl) (by kernel_rfl) (o_agg (o_cons rfl (o_cons rfl (o_cons (o_own e_GCell (e := 46) (k := 4) (xs := p1.Cells) (by kernel_rfl) rfl rfl rfl rfl) o_nil))))
def f10_Q (r : GGrid) (e : PX) (st : St) : Prop := DoneF c10 0 ((.agg ((.d (.int .i64 r.Wide)) :: ((.d (.int .i64 r.High)) :: ((.r (.own 0 46 4 r.Cells.length (e_GCell.cells r.Cells))) :: [])))), []) e st
noncomputable def f10 (a1 : GGrid) : Option (GGrid) := ((f20 a1.Cells).bind fun z2 => (some (GGrid.mk a1.Wide a1.High z2)))
theorem f10_ok (d : Nat) (hd : 2 ≤ d) (a1 : GGrid) (r : GGrid) (hS : f10 a1 = some r) : lev codes baseL d 10 [(.agg ((.d (.int .i64 a1.Wide)) :: ((.d (.int .i64 a1.High)) :: ((.d (.sl a1.Cells.length (e_GCell.cells a1.Cells))) :: []))))] [] = some ((.agg ((.d (.int .i64 r.Wide)) :: ((.d (.int .i64 r.High)) :: ((.r (.own 0 46 4 r.Cells.length (e_GCell.cells r.Cells))) :: [])))), []) := by
  refine lev_go codes10 rfl rfl (Nat.le_trans (Nat.le_of_ble_eq_true rfl) hd) fun Q hQ => ?_
  unfold f10 at hS
  show ZR _ Q c10_b [] _
  replace hQ : ∀ e st', f10_Q r e st' → Q e st' := hQ
  refine zrSeq ?_
  refine zrReg ?_
  refine zlRun (n := 2) (j := 2) rfl (by kernel_rfl) ?_
  refine zlEnd (by kernel_rfl) ?_
  refine zkSeq ?_
  refine zrSeq ?_
  refine zrReg ?_
  refine zlRun (n := 2) (j := 2) rfl (by kernel_rfl) ?_
  refine bindE hS (fun z2 hz2 hS => ?_)
  refine zlOp (d := some 5) (op := (.call 20 [(.tmp 4)])) (g := none) (j := 3) rfl (by kernel_rfl) (by kernel_rfl) (ev_callA (by kernel_rfl) (f20_ok (d - 1) (dpt hd rfl) a1.Cells z2 hz2) (by kernel_rfl) (by kernel_rfl)) ?_
  refine zlRun (n := 2) (j := 5) rfl (by kernel_rfl) ?_
  refine zlEnd (by kernel_rfl) ?_
  refine zkSeq ?_
  refine zrSeq ?_
  refine zrReg ?_
  refine zlRun (n := 2) (j := 2) rfl (by kernel_rfl) ?_
  refine zlEnd (by kernel_rfl) ?_
  refine zkSeq ?_
  refine zrRet ?_
  refine zkNil ?_
  exact endQ hS hQ (fRet (by kernel_rfl) ((congrArg (fun s => outR s 0 c10.res) (by kernel_rfl : finSt c10.fin _ = f10_fin (GGrid.mk a1.Wide a1.High z2))).trans (f10_out (GGrid.mk a1.Wide a1.High z2))))
/- farwriter/tabs.Usual -/
def f11_fin (p12 : GStops) : St := ⟨(up (fun _ => .un) 0 (.r (.ptr 8 0 0))), (up (hB fun _ => 0) 8 ⟨0, some (.box (((eInt .u64).row 4 p12.Bits) ++ []))⟩)⟩
theorem f11_out (p12 : GStops) : outR (f11_fin p12) 0 c11.res = some ((.agg (((eInt .u64).row 4 p12.Bits) ++ [])), []) := by
  kernel_rfl
def f11_Q (r : GStops) (e : PX) (st : St) : Prop := DoneF c11 0 ((.agg (((eInt .u64).row 4 r.Bits) ++ [])), []) e st
def f11_l0_J  (x : GStops × Int) : St := ⟨(up (up (up (fun _ => .un) 2 (.d (.int .i64 x.2))) 1 (.r (.ptr 16 0 0))) 0 (.r (.ptr 8 0 0))), (up (up (hB fun _ => 0) 16 ⟨0, some (.box (((eInt .u64).row 4 x.1.Bits) ++ []))⟩) 8 ⟨0, some (.box (((eInt .u64).row 4 (fun _ => 0)) ++ []))⟩)⟩
def f11_l0_H  (x : GStops × Int) (st : St) : Prop := keepSt [0, 1, 2] [(8, .id 8), (16, .id 16)] [] st = f11_l0_J x
def f11_l0_e0_J (p11 : GStops) : St := ⟨(up (up (fun _ => .un) 1 (.r (.ptr 16 0 0))) 0 (.r (.ptr 8 0 0))), (up (up (hB fun _ => 0) 16 ⟨0, some (.box (((eInt .u64).row 4 p11.Bits) ++ []))⟩) 8 ⟨0, some (.box (((eInt .u64).row 4 (fun _ => 0)) ++ []))⟩)⟩
def f11_l0_X  (z : GStops) (e : PX) (st : St) : Prop := e = .exit 0 ∧ st = f11_l0_e0_J z
def f11_l0_j1_J (p16 : GStops) (p17 : Int) : St := ⟨(up (up (up (fun _ => .un) 2 (.d (.int .i64 p17))) 1 (.r (.ptr 16 0 0))) 0 (.r (.ptr 8 0 0))), (up (up (hB fun _ => 0) 16 ⟨0, some (.box (((eInt .u64).row 4 p16.Bits) ++ []))⟩) 8 ⟨0, some (.box (((eInt .u64).row 4 (fun _ => 0)) ++ []))⟩)⟩
noncomputable def f11_l0_j1 (p16 : GStops) (p17 : Int) : Option ((GStops × Int) ⊕ GStops) := ((inR (IntKind.i64.wrap (Int.tdiv p17 64)) 4).bind fun m7 => ((chk (decide (0 ≤ (Int.tmod p17 64)))).bind fun z8 => ((inR (IntKind.i64.wrap (Int.tdiv p17 64)) 4).bind fun m9 => (some (.inl ((GStops.mk (upd p16.Bits m9 (bitI .or .u64 (p16.Bits m7) (IntKind.u64.wrap (1 * 2 ^ (min ((Int.tmod p17 64) : Int).toNat 64)))))), (IntKind.i64.wrap (p17 + 8))))))))
theorem f11_l0_j1_ok {d : Nat} (hd : 1 ≤ d)  {r : (GStops × Int) ⊕ GStops} {Q : PX → St → Prop} (hQ : ∀ e st', finL (f11_l0_H ) (f11_l0_X ) r e st' → Q e st') (p16 : GStops) (p17 : Int) (hS : f11_l0_j1 p16 p17 = some r) {st : St} (he : keepSt [0, 1, 2] [(8, .id 8), (16, .id 16)] [] st = f11_l0_j1_J p16 p17) : ZR (lev codes baseL (d - 1)) Q c11_1 [] st := by
  refine zrKeep he ?_
  unfold f11_l0_j1 at hS
  refine zrSeq ?_
  refine zrBlk ?_
  refine zrRegD ?_
  refine zdRun (n := 3) (j := 3) (ts := [[], [], []]) (acc' := [[], [], []]) rfl (by kernel_rfl) (by kernel_rfl) (by kernel_rfl) ?_
  refine bindE hS (fun m7 hm7 hS => ?_)
  refine zdOp (d := some 10) (op := (.ixA 4 1 (.tmp 9) (.tmp 8))) (g := none) (v := (.r (.ptr 16 0 (0 + m7 * 1)))) (ups := []) (j := 4) (t1 := []) (acc' := [[], [], [], []]) (by kernel_rfl) (by kernel_rfl) rfl (by kernel_rfl) (by kernel_rfl) (ev_ixA (kk := .i64) (b := 16) (g := 0) (o := 0) (j := (IntKind.i64.wrap (Int.tdiv p17 64))) (by kernel_rfl) (by kernel_rfl) hm7) ?_
  refine zdOp (d := some 11) (op := (.load .false 1 (.tmp 10))) (g := none) (v := (.d (.int .u64 (p16.Bits m7)))) (ups := []) (j := 5) (t1 := [(16, false)]) (acc' := [[], [], [], [], [(16, false)]]) (by kernel_rfl) (by kernel_rfl) rfl (by kernel_rfl) (by kernel_rfl) (ev_loadA (eInt .u64) (b := 16) (g := 0) (o := 0 + m7 * 1) (f := p16.Bits) (nn := 4) (m := m7) (fo := 0) (pre := []) (post := []) (by kernel_rfl) (by kernel_rfl) (by kernel_rfl) (inR_lt hm7) (by kernel_rfl) (by kernel_rfl) (by kernel_rfl)) ?_
  refine zdRun (n := 2) (j := 7) (ts := [[], []]) (acc' := [[], [], [], [], [(16, false)], [], []]) rfl (by kernel_rfl) (by kernel_rfl) (by kernel_rfl) ?_
  refine bindE hS (fun z8 hz8 hS => ?_)
  refine zdOp (d := some 14) (op := (.sh .shl (.const (.int .u64 1)) (.tmp 13))) (g := none) (v := (.d (.int .u64 (IntKind.u64.wrap (1 * 2 ^ (min ((Int.tmod p17 64) : Int).toNat 64)))))) (ups := []) (j := 8) (t1 := []) (acc' := [[], [], [], [], [(16, false)], [], [], []]) (by kernel_rfl) (by kernel_rfl) rfl (by kernel_rfl) (by kernel_rfl) (ev_sh (kk := .u64) (k2 := .i64) (a := 1) (c := (Int.tmod p17 64)) (by kernel_rfl) (by kernel_rfl) (sh_l hz8)) ?_
  refine zdRun (n := 2) (j := 10) (ts := [[], []]) (acc' := [[], [], [], [], [(16, false)], [], [], [], [], []]) rfl (by kernel_rfl) (by kernel_rfl) (by kernel_rfl) ?_
  refine bindE hS (fun m9 hm9 hS => ?_)
  refine zdOp (d := some 17) (op := (.ixA 4 1 (.tmp 16) (.tmp 8))) (g := none) (v := (.r (.ptr 16 0 (0 + m9 * 1)))) (ups := []) (j := 11) (t1 := []) (acc' := [[], [], [], [], [(16, false)], [], [], [], [], [], []]) (by kernel_rfl) (by kernel_rfl) rfl (by kernel_rfl) (by kernel_rfl) (ev_ixA (kk := .i64) (b := 16) (g := 0) (o := 0) (j := (IntKind.i64.wrap (Int.tdiv p17 64))) (by kernel_rfl) (by kernel_rfl) hm9) ?_
  refine zdOp (d := none) (op := (.store 1 (.tmp 17) (.tmp 15))) (g := none) (v := .un) (ups := [(16, ⟨0, some (.box (((eInt .u64).row 4 (upd p16.Bits m9 (bitI .or .u64 (p16.Bits m7) (IntKind.u64.wrap (1 * 2 ^ (min ((Int.tmod p17 64) : Int).toNat 64)))))) ++ []))⟩)]) (j := 12) (t1 := [(16, true)]) (acc' := [[], [], [], [], [(16, false)], [], [], [], [], [], [], [(16, true)]]) (by kernel_rfl) (by kernel_rfl) rfl (by kernel_rfl) (by kernel_rfl) (ev_storeA (eInt .u64) (b := 16) (g := 0) (o := 0 + m9 * 1) (f := p16.Bits) (nn := 4) (m := m9) (fo := 0) (pre := []) (post := []) (by kernel_rfl) (by kernel_rfl) (by kernel_rfl) (inR_lt hm9) (new := ((.d (.int .u64 (bitI .or .u64 (p16.Bits m7) (IntKind.u64.wrap (1 * 2 ^ (min ((Int.tmod p17 64) : Int).toNat 64)))))) :: [])) (ds := [.int .u64 (bitI .or .u64 (p16.Bits m7) (IntKind.u64.wrap (1 * 2 ^ (min ((Int.tmod p17 64) : Int).toNat 64))))]) (z' := (bitI .or .u64 (p16.Bits m7) (IntKind.u64.wrap (1 * 2 ^ (min ((Int.tmod p17 64) : Int).toNat 64))))) (by kernel_rfl) (by kernel_rfl) (by kernel_rfl) (by kernel_rfl) (by kernel_rfl) (by kernel_rfl)) ?_
  refine zdEnd (by kernel_rfl) (by kernel_rfl) ?_
  refine zkBlk ?_
  refine zkSeq ?_
  refine zrReg ?_
  refine zlRun (n := 3) (j := 3) rfl (by kernel_rfl) ?_
  refine zlEnd (by kernel_rfl) ?_
  refine zkNil ?_
  exact endQ hS hQ (finL_n (by show keepSt _ _ _ _ = _; kernel_rfl))
noncomputable def f11_l0  (x : GStops × Int) : Option ((GStops × Int) ⊕ GStops) := (bif (decide (x.2 ≤ 248)) then (f11_l0_j1  x.1 x.2) else (some (.inr x.1)))
theorem f11_l0_ok {d : Nat} (hd : 1 ≤ d)  {r : (GStops × Int) ⊕ GStops} {Q : PX → St → Prop} (hQ : ∀ e st', finL (f11_l0_H ) (f11_l0_X ) r e st' → Q e st') {x : GStops × Int} (hS : f11_l0 x = some r) {st : St} (he : f11_l0_H x st) : ZR (lev codes baseL (d - 1)) Q c11_2 [] st := by
  refine zrKeep he ?_
  unfold f11_l0 at hS
  refine zrSeq ?_
  refine zrSeq ?_
  refine zrReg ?_
  refine zlRun (n := 1) (j := 1) rfl (by kernel_rfl) ?_
  refine zlBool (d := 4) (op := (.cmpI .leq (.tmp 3) (.const (.int .i64 248)))) (g := none) (j := 2) (decide (x.2 ≤ 248)) rfl (by kernel_rfl) (by kernel_rfl) (by kernel_rfl) (fun hc => ?_) (fun hc => ?_)
  · replace hS := cond_t hc hS
    refine zlEnd (by kernel_rfl) ?_
    refine zkSeq ?_
    refine zrCondT (by kernel_rfl) ?_
    refine zrSkip ?_
    refine zkSeq ?_
    exact f11_l0_j1_ok hd  hQ x.1 x.2 hS (by kernel_rfl)
  · replace hS := cond_f hc hS
    refine zlEnd (by kernel_rfl) ?_
    refine zkSeq ?_
    refine zrCondF (by kernel_rfl) ?_
    refine zrKeep (J := f11_l0_e0_J x.1) (by kernel_rfl) ?_
    refine zrExit ?_
    refine zkSeqX ?_
    refine zkNil ?_
    exact endQ hS hQ (finL_x (by intro h; cases h) (by show _ = _ ∧ _ = _; exact ⟨rfl, rfl⟩))
noncomputable def f11  : Option (GStops) := ((loopO (f11_l0 ) ((GStops.mk (fun _ => 0)), 8)).bind fun z10 => (some z10))
theorem f11_ok (d : Nat) (hd : 1 ≤ d)  (r : GStops) (hS : f11 = some r) : lev codes baseL d 11 [] [] = some ((.agg (((eInt .u64).row 4 r.Bits) ++ [])), []) := by
  refine lev_go codes11 rfl rfl (Nat.le_trans (Nat.le_of_ble_eq_true rfl) hd) fun Q hQ => ?_
  unfold f11 at hS
  show ZR _ Q c11_b [] _
  replace hQ : ∀ e st', f11_Q r e st' → Q e st' := hQ
  refine zrSeq ?_
  refine zrReg ?_
  refine zlRun (n := 1) (j := 1) rfl (by kernel_rfl) ?_
  refine zlEnd (by kernel_rfl) ?_
  refine zkSeq ?_
  refine zrSeq ?_
  refine zrReg ?_
  refine zlRun (n := 1) (j := 1) rfl (by kernel_rfl) ?_
  refine zlEnd (by kernel_rfl) ?_
  refine zkSeq ?_
  refine zrSeq ?_
  refine zrSeq ?_
  refine zrReg ?_
  refine zlRun (n := 1) (j := 1) rfl (by kernel_rfl) ?_
  refine zlEnd (by kernel_rfl) ?_
  refine zkSeq ?_
  refine zrBlk ?_
  refine bindE hS (fun z10 hz10 hS => ?_)
  refine zrLoop (f11_l0_H ) (f11_l0_X ) (fun x st r Q h0 hS hQ => f11_l0_ok hd  hQ hS h0) (x := ((GStops.mk (fun _ => 0)), 8)) (z := z10) (by show keepSt _ _ _ _ = _; kernel_rfl) hz10 ?_
  intro e st' _ hX
  obtain ⟨rfl, rfl⟩ : _ ∧ _ := hX
  refine zkBlkX ?_
  refine zkSeq ?_
  refine zrSeq ?_
  refine zrReg ?_
  refine zlRun (n := 2) (j := 2) rfl (by kernel_rfl) ?_
  refine zlEnd (by kernel_rfl) ?_
  refine zkSeq ?_
  refine zrRet ?_
  refine zkNil ?_
  exact endQ hS hQ (fRet (by kernel_rfl) ((congrArg (fun s => outR s 0 c11.res) (by kernel_rfl : finSt c11.fin _ = f11_fin z10)).trans (f11_out z10)))
/- farwriter/screen.New -/
def f4_fin (p4 : GScreen) (p5 : Int) : St := ⟨(up (up (fun _ => .un) 5 (.d (.int .i64 p5))) 4 (.r (.ptr 40 0 0))), (up (up (up (hB fun _ => 0) 192 ⟨0, some (.own 46 4 (e_GCell.cells p4.Other.Cells))⟩) 273 ⟨0, some (.own 46 4 (e_GCell.cells p4.Grid.Cells))⟩) 40 ⟨0, some (.box (bx_GScreen p4 (.r (.msl 273 0 0 p4.Grid.Cells.length)) (.r (.msl 192 0 0 p4.Other.Cells.length)) .nil))⟩)⟩
theorem f4_out (p4 : GScreen) (p5 : Int) : outR (f4_fin p4 p5) 0 c4.res = some ((.tup [(.agg ((.d (.int .i64 p4.Grid.Wide)) :: ((.d (.int .i64 p4.Grid.High)) :: ((.r (.own 0 46 4 p4.Grid.Cells.length (e_GCell.cells p4.Grid.Cells))) :: ((.d (.int .i64 p4.Row)) :: ((.d (.int .i64 p4.Col)) :: ((.d (.bool p4.Late)) :: ((.d (.int .i64 p4.Top)) :: ((.d (.int .i64 p4.Bottom)) :: ((.d (.int .i64 p4.Pen.Flags)) :: ((.d (.int .i64 p4.Pen.Fore)) :: ((.d (.int .i64 p4.Pen.Back)) :: ((.d (.int .i64 p4.Modes)) :: (((eInt .u64).row 4 p4.Stops.Bits) ++ ((.d (.int .i64 p4.Pages.1)) :: ((.d (.int .i64 p4.Pages.2)) :: ((.d (.int .i64 p4.Shift)) :: ((.d (.int .i64 p4.Saved.Row)) :: ((.d (.int .i64 p4.Saved.Col)) :: ((.d (.int .i64 p4.Saved.Pen.Flags)) :: ((.d (.int .i64 p4.Saved.Pen.Fore)) :: ((.d (.int .i64 p4.Saved.Pen.Back)) :: ((.d (.bool p4.Saved.Origin)) :: ((.d (.int .i64 p4.Saved.Pages.1)) :: ((.d (.int .i64 p4.Saved.Pages.2)) :: ((.d (.int .i64 p4.Saved.Shift)) :: ((.d (.int .i64 p4.Other.Wide)) :: ((.d (.int .i64 p4.Other.High)) :: ((.r (.own 1 46 4 p4.Other.Cells.length (e_GCell.cells p4.Other.Cells))) :: ((.d (.str p4.Title)) :: (.nil :: []))))))))))))))))))))))))))))))), (.d (.int .i64 p5))]), []) := by
  exact out_of (ids := []) (ids' := [273, 192]) (l := [(.agg ((.d (.int .i64 p4.Grid.Wide)) :: ((.d (.int .i64 p4.Grid.High)) :: ((.r (.msl 273 0 0 p4.Grid.Cells.length)) :: ((.d (.int .i64 p4.Row)) :: ((.d (.int .i64 p4.Col)) :: ((.d (.bool p4.Late)) :: ((.d (.int .i64 p4.Top)) :: ((.d (.int .i64 p4.Bottom)) :: ((.d (.int .i64 p4.Pen.Flags)) :: ((.d (.int .i64 p4.Pen.Fore)) :: ((.d (.int .i64 p4.Pen.Back)) :: ((.d (.int .i64 p4.Modes)) :: (((eInt .u64).row 4 p4.Stops.Bits) ++ ((.d (.int .i64 p4.Pages.1)) :: ((.d (.int .i64 p4.Pages.2)) :: ((.d (.int .i64 p4.Shift)) :: ((.d (.int .i64 p4.Saved.Row)) :: ((.d (.int .i64 p4.Saved.Col)) :: ((.d (.int .i64 p4.Saved.Pen.Flags)) :: ((.d (.int .i64 p4.Saved.Pen.Fore)) :: ((.d (.int .i64 p4.Saved.Pen.Back)) :: ((.d (.bool p4.Saved.Origin)) :: ((.d (.int .i64 p4.Saved.Pages.1)) :: ((.d (.int .i64 p4.Saved.Pages.2)) :: ((.d (.int .i64 p4.Saved.Shift)) :: ((.d (.int .i64 p4.Other.Wide)) :: ((.d (.int .i64 p4.Other.High)) :: ((.r (.msl 192 0 0 p4.Other.Cells.length)) :: ((.d (.str p4.Title)) :: (.nil :: []))))))))))))))))))))))))))))))), (.d (.int .i64 p5))]) (by kernel_rfl) (by kernel_rfl) (o_tup (o_cons (o_agg (o_cons rfl (o_cons rfl (o_cons (o_own e_GCell (e := 46) (k := 4) (xs := p4.Grid.Cells) (by kernel_rfl) rfl rfl rfl rfl) (o_cons rfl (o_cons rfl (o_cons rfl (o_cons rfl (o_cons rfl (o_cons rfl (o_cons rfl (o_cons rfl (o_cons rfl (o_app (o_row (eInt .u64)) (o_cons rfl (o_cons rfl (o_cons rfl (o_cons rfl (o_cons rfl (o_cons rfl (o_cons rfl (o_cons rfl (o_cons rfl (o_cons rfl (o_cons rfl (o_cons rfl (o_cons rfl (o_cons rfl (o_cons (o_own e_GCell (e := 46) (k := 4) (xs := p4.Other.Cells) (by kernel_rfl) rfl rfl rfl rfl) (o_cons rfl (o_cons rfl o_nil))))))))))))))))))))))))))))))) (o_cons rfl o_nil)))
def f4_Q (r : GScreen × Int) (e : PX) (st : St) : Prop := DoneF c4 0 ((.tup [(.agg ((.d (.int .i64 r.1.Grid.Wide)) :: ((.d (.int .i64 r.1.Grid.High)) :: ((.r (.own 0 46 4 r.1.Grid.Cells.length (e_GCell.cells r.1.Grid.Cells))) :: ((.d (.int .i64 r.1.Row)) :: ((.d (.int .i64 r.1.Col)) :: ((.d (.bool r.1.Late)) :: ((.d (.int .i64 r.1.Top)) :: ((.d (.int .i64 r.1.Bottom)) :: ((.d (.int .i64 r.1.Pen.Flags)) :: ((.d (.int .i64 r.1.Pen.Fore)) :: ((.d (.int .i64 r.1.Pen.Back)) :: ((.d (.int .i64 r.1.Modes)) :: (((eInt .u64).row 4 r.1.Stops.Bits) ++ ((.d (.int .i64 r.1.Pages.1)) :: ((.d (.int .i64 r.1.Pages.2)) :: ((.d (.int .i64 r.1.Shift)) :: ((.d (.int .i64 r.1.Saved.Row)) :: ((.d (.int .i64 r.1.Saved.Col)) :: ((.d (.int .i64 r.1.Saved.Pen.Flags)) :: ((.d (.int .i64 r.1.Saved.Pen.Fore)) :: ((.d (.int .i64 r.1.Saved.Pen.Back)) :: ((.d (.bool r.1.Saved.Origin)) :: ((.d (.int .i64 r.1.Saved.Pages.1)) :: ((.d (.int .i64 r.1.Saved.Pages.2)) :: ((.d (.int .i64 r.1.Saved.Shift)) :: ((.d (.int .i64 r.1.Other.Wide)) :: ((.d (.int .i64 r.1.Other.High)) :: ((.r (.own 1 46 4 r.1.Other.Cells.length (e_GCell.cells r.1.Other.Cells))) :: ((.d (.str r.1.Title)) :: (.nil :: []))))))))))))))))))))))))))))))), (.d (.int .i64 r.2))]), []) e st
def f4_j0_J (a1 : Int) (a2 : Int) (p9 : GGrid) : St := ⟨(up (up (up (fun _ => .un) 6 (.r (.ptr 56 0 0))) 4 (.r (.ptr 40 0 0))) 1 (.d (.int .i64 a2))), (up (up (up (hB fun _ => 0) 112 ⟨0, some (.own 46 4 (e_GCell.cells p9.Cells))⟩) 56 ⟨0, some (.box ((.d (.int .i64 p9.Wide)) :: ((.d (.int .i64 p9.High)) :: ((.r (.msl 112 0 0 p9.Cells.length)) :: []))))⟩) 40 ⟨0, some (.box (bx_GScreen (GScreen.mk (GGrid.mk 0 0 ([])) 0 0 false 0 0 (GPen.mk 0 0 0) 0 (GStops.mk (fun _ => 0)) (0, 0) 0 (GSaved.mk 0 0 (GPen.mk 0 0 0) false (0, 0) 0) (GGrid.mk 0 0 ([])) ([]) ([])) (.d (.sl ([] : List GCell).length (e_GCell.cells ([])))) (.d (.sl ([] : List GCell).length (e_GCell.cells ([])))) (.d (.sl ([] : List GLine).length (e_GLine.cells ([]))))))⟩)⟩
noncomputable def f4_j0 (a1 : Int) (a2 : Int) (p9 : GGrid) : Option (GScreen × Int) := ((f10 p9).bind fun z5 => (f11.bind fun z6 => (some ((GScreen.mk p9 0 0 false 0 a2 (GPen.mk 0 0 0) 12 z6 (1, 1) 0 (GSaved.mk 0 0 (GPen.mk 0 0 0) false (1, 1) 0) z5 ([]) ([])), 0))))
theorem f4_j0_ok {d : Nat} (hd : 6 ≤ d) (a1 : Int) (a2 : Int) {r : GScreen × Int} {Q : PX → St → Prop} (hQ : ∀ e st', f4_Q r e st' → Q e st') (p9 : GGrid) (hS : f4_j0 a1 a2 p9 = some r) {st : St} (he : keepSt [1, 4, 6] [(40, .id 40), (56, .id 56), (112, .id 112)] [.cell 40 2 0 0 1, .cell 40 30 0 0 1, .cell 40 32 0 0 1] st = f4_j0_J a1 a2 p9) : ZR (lev codes baseL (d - 1)) Q c4_1 [] st := by
  refine zrKeep he ?_
  unfold f4_j0 at hS
  refine zrSeq ?_
  refine zrReg ?_
  refine zlRun (n := 3) (j := 3) rfl (by kernel_rfl) ?_
  refine zlEnd (by kernel_rfl) ?_
  refine zkSeq ?_
  refine zrSeq ?_
  refine zrRegD ?_
  refine zdRun (n := 2) (j := 2) (ts := [[(56, false)], [(56, false)]]) (acc' := [[(56, false)], [(56, false)]]) rfl (by kernel_rfl) (by kernel_rfl) (by kernel_rfl) ?_
  refine bindE hS (fun z5 hz5 hS => ?_)
  refine zdOp (d := some 23) (op := (.call 10 [(.tmp 22)])) (g := none) (j := 3) (t1 := [(112, false), (192, true), (193, true), (194, true), (195, true), (196, true), (197, true), (198, true), (199, true)]) (acc' := [[(56, false)], [(56, false)], [(112, false), (192, true), (193, true), (194, true), (195, true), (196, true), (197, true), (198, true), (199, true)]]) (by kernel_rfl) (by kernel_rfl) rfl (by kernel_rfl) (by kernel_rfl) (ev_callB (args := [(.agg ((.d (.int .i64 p9.Wide)) :: ((.d (.int .i64 p9.High)) :: ((.r (.msl 112 0 0 p9.Cells.length)) :: []))))]) (by kernel_rfl) (l_cons (l_agg (l_cons (by kernel_rfl) (l_cons (by kernel_rfl) (l_cons (l_own e_GCell (e := 46) (k := 4) (xs := p9.Cells) (by kernel_rfl) rfl rfl) l_nil)))) l_nil) (f10_ok (d - 1) (dpt hd rfl) p9 z5 hz5) (by simp only [free_own e_GCell (fun _ => rfl), free_tup, free_agg, free_nl, free_cs, free_int, free_bool, free_str, free_un, free_ni, free_s0, Bool.and_true, Bool.or_true, Bool.and_self]) (by kernel_rfl)) ?_
  refine zdRun (n := 1) (j := 4) (ts := [[]]) (acc' := [[(56, false)], [(56, false)], [(112, false), (192, true), (193, true), (194, true), (195, true), (196, true), (197, true), (198, true), (199, true)], []]) rfl (by kernel_rfl) (by kernel_rfl) (by kernel_rfl) ?_
  refine bindE hS (fun z6 hz6 hS => ?_)
  refine zdOp (d := some 25) (op := (.call 11 [])) (g := none) (j := 5) (t1 := [(208, true), (209, true), (210, true), (211, true), (212, true), (213, true), (214, true), (215, true)]) (acc' := [[(56, false)], [(56, false)], [(112, false), (192, true), (193, true), (194, true), (195, true), (196, true), (197, true), (198, true), (199, true)], [], [(208, true), (209, true), (210, true), (211, true), (212, true), (213, true), (214, true), (215, true)]]) (by kernel_rfl) (by kernel_rfl) rfl (by kernel_rfl) (by kernel_rfl) (ev_callA (by kernel_rfl) (f11_ok (d - 1) (dpt hd rfl)  z6 hz6) (by kernel_rfl) (by kernel_rfl)) ?_
  refine zdRun (n := 6) (j := 11) (ts := [[(72, false)], [(72, false)], [], [], [(40, true)], []]) (acc' := [[(56, false)], [(56, false)], [(112, false), (192, true), (193, true), (194, true), (195, true), (196, true), (197, true), (198, true), (199, true)], [], [(208, true), (209, true), (210, true), (211, true), (212, true), (213, true), (214, true), (215, true)], [(72, false)], [(72, false)], [], [], [(40, true)], []]) rfl (by kernel_rfl) (by kernel_rfl) (by kernel_rfl) ?_
  refine zdEnd (by kernel_rfl) (by kernel_rfl) ?_
  refine zkSeq ?_
  refine zrRet ?_
  refine zkNil ?_
  exact endQ hS hQ (fRet (by kernel_rfl) ((congrArg (fun s => outR s 0 c4.res) (by kernel_rfl : finSt c4.fin _ = f4_fin (GScreen.mk p9 0 0 false 0 a2 (GPen.mk 0 0 0) 12 z6 (1, 1) 0 (GSaved.mk 0 0 (GPen.mk 0 0 0) false (1, 1) 0) z5 ([]) ([])) 0)).trans (f4_out (GScreen.mk p9 0 0 false 0 a2 (GPen.mk 0 0 0) 12 z6 (1, 1) 0 (GSaved.mk 0 0 (GPen.mk 0 0 0) false (1, 1) 0) z5 ([]) ([])) 0)))
noncomputable def f4 (a1 : Int) (a2 : Int) : Option (GScreen × Int) := ((f9 a1 a2 (GPen.mk 0 0 0)).bind fun z4 => (bif (!decide (z4.2 = 0)) then (some ((GScreen.mk (GGrid.mk 0 0 ([])) 0 0 false 0 0 (GPen.mk 0 0 0) 0 (GStops.mk (fun _ => 0)) (0, 0) 0 (GSaved.mk 0 0 (GPen.mk 0 0 0) false (0, 0) 0) (GGrid.mk 0 0 ([])) ([]) ([])), z4.2)) else (f4_j0 a1 a2 z4.1)))
theorem f4_ok (d : Nat) (hd : 6 ≤ d) (a1 : Int) (a2 : Int) (r : GScreen × Int) (hS : f4 a1 a2 = some r) : lev codes baseL d 4 [(.d (.int .i64 a1)), (.d (.int .i64 a2))] [] = some ((.tup [(.agg ((.d (.int .i64 r.1.Grid.Wide)) :: ((.d (.int .i64 r.1.Grid.High)) :: ((.r (.own 0 46 4 r.1.Grid.Cells.length (e_GCell.cells r.1.Grid.Cells))) :: ((.d (.int .i64 r.1.Row)) :: ((.d (.int .i64 r.1.Col)) :: ((.d (.bool r.1.Late)) :: ((.d (.int .i64 r.1.Top)) :: ((.d (.int .i64 r.1.Bottom)) :: ((.d (.int .i64 r.1.Pen.Flags)) :: ((.d (.int .i64 r.1.Pen.Fore)) :: ((.d (.int .i64 r.1.Pen.Back)) :: ((.d (.int .i64 r.1.Modes)) :: (((eInt .u64).row 4 r.1.Stops.Bits) ++ ((.d (.int .i64 r.1.Pages.1)) :: ((.d (.int .i64 r.1.Pages.2)) :: ((.d (.int .i64 r.1.Shift)) :: ((.d (.int .i64 r.1.Saved.Row)) :: ((.d (.int .i64 r.1.Saved.Col)) :: ((.d (.int .i64 r.1.Saved.Pen.Flags)) :: ((.d (.int .i64 r.1.Saved.Pen.Fore)) :: ((.d (.int .i64 r.1.Saved.Pen.Back)) :: ((.d (.bool r.1.Saved.Origin)) :: ((.d (.int .i64 r.1.Saved.Pages.1)) :: ((.d (.int .i64 r.1.Saved.Pages.2)) :: ((.d (.int .i64 r.1.Saved.Shift)) :: ((.d (.int .i64 r.1.Other.Wide)) :: ((.d (.int .i64 r.1.Other.High)) :: ((.r (.own 1 46 4 r.1.Other.Cells.length (e_GCell.cells r.1.Other.Cells))) :: ((.d (.str r.1.Title)) :: (.nil :: []))))))))))))))))))))))))))))))), (.d (.int .i64 r.2))]), []) := by
  refine lev_go codes4 rfl rfl (Nat.le_trans (Nat.le_of_ble_eq_true rfl) hd) fun Q hQ => ?_
  unfold f4 at hS
  show ZR _ Q c4_b [] _
  replace hQ : ∀ e st', f4_Q r e st' → Q e st' := hQ
  refine zrSeq ?_
  refine zrReg ?_
  refine zlRun (n := 2) (j := 2) rfl (by kernel_rfl) ?_
  refine zlEnd (by kernel_rfl) ?_
  refine zkSeq ?_
  refine zrSeq ?_
  refine zrReg ?_
  refine zlRun (n := 3) (j := 3) rfl (by kernel_rfl) ?_
  refine bindE hS (fun z4 hz4 hS => ?_)
  refine zlOp (d := some 13) (op := (.call 9 [(.tmp 10), (.tmp 11), (.tmp 12)])) (g := none) (j := 4) rfl (by kernel_rfl) (by kernel_rfl) (ev_callA (by kernel_rfl) (f9_ok (d - 1) (dpt hd rfl) a1 a2 (GPen.mk 0 0 0) z4 hz4) (by kernel_rfl) (by kernel_rfl)) ?_
  refine zlRun (n := 6) (j := 10) rfl (by kernel_rfl) ?_
  refine zlEnd (by kernel_rfl) ?_
  refine zkSeq ?_
  refine zrSeq ?_
  refine zrSeq ?_
  refine zrReg ?_
  refine zlRun (n := 1) (j := 1) rfl (by kernel_rfl) ?_
  refine zlBool (d := 17) (op := (.cmpI .neq (.tmp 16) (.const (.int .i64 0)))) (g := none) (j := 2) (!decide (z4.2 = 0)) rfl (by kernel_rfl) (by kernel_rfl) (by kernel_rfl) (fun hc => ?_) (fun hc => ?_)
  · replace hS := cond_t hc hS
    refine zlEnd (by kernel_rfl) ?_
    refine zkSeq ?_
    refine zrCondT (by kernel_rfl) ?_
    refine zrSeq ?_
    refine zrReg ?_
    refine zlRun (n := 4) (j := 4) rfl (by kernel_rfl) ?_
    refine zlEnd (by kernel_rfl) ?_
    refine zkSeq ?_
    refine zrRet ?_
    refine zkSeqR ?_
    refine zkNil ?_
    exact endQ hS hQ (fRet (by kernel_rfl) ((congrArg (fun s => outR s 0 c4.res) (by kernel_rfl : finSt c4.fin _ = f4_fin (GScreen.mk (GGrid.mk 0 0 ([])) 0 0 false 0 0 (GPen.mk 0 0 0) 0 (GStops.mk (fun _ => 0)) (0, 0) 0 (GSaved.mk 0 0 (GPen.mk 0 0 0) false (0, 0) 0) (GGrid.mk 0 0 ([])) ([]) ([])) z4.2)).trans (f4_out (GScreen.mk (GGrid.mk 0 0 ([])) 0 0 false 0 0 (GPen.mk 0 0 0) 0 (GStops.mk (fun _ => 0)) (0, 0) 0 (GSaved.mk 0 0 (GPen.mk 0 0 0) false (0, 0) 0) (GGrid.mk 0 0 ([])) ([]) ([])) z4.2)))
  · replace hS := cond_f hc hS
    refine zlEnd (by kernel_rfl) ?_
    refine zkSeq ?_
    refine zrCondF (by kernel_rfl) ?_
    refine zrSkip ?_
    refine zkSeq ?_
    exact f4_j0_ok hd a1 a2 hQ z4.1 hS (by kernel_rfl)
/- farwriter/farkeep.screenLives -/
theorem libLives_ok (d : Nat) (hd : 0 ≤ d)  (r : Bool) (hS : libLives  = some r) : lev codes baseL d 5 [] [] = some ((.d (.bool r)), []) := lib_call (l := libs) rfl rfl rfl (livesO_ hS) d
/- farwriter/farkeep.printed -/
def f7_fin (p11 : List GAct) : St := ⟨(up (fun _ => .un) 2 (.r (.msl 32 0 0 p11.length))), (up (hB fun _ => 0) 32 ⟨0, some (.own 55 6 (e_GAct.cells p11))⟩)⟩
theorem f7_out (p11 : List GAct) : outR (f7_fin p11) 0 c7.res = some ((.r (.own 0 55 6 p11.length (e_GAct.cells p11))), []) := by
  exact out_of (ids := []) (ids' := [32]) (l := [(.r (.msl 32 0 0 p11.length))]) (by kernel_rfl) (by kernel_rfl) (o_own e_GAct (e := 55) (k := 6) (xs := p11) (by kernel_rfl) rfl rfl rfl rfl)
def f7_Q (r : (List GAct)) (e : PX) (st : St) : Prop := DoneF c7 0 ((.r (.own 0 55 6 r.length (e_GAct.cells r))), []) e st
def f7_l0_J (a1 : List UInt8) (x : (List GAct) × Int) : St := ⟨(up (up (fun _ => .un) 7 (.r (.ptr 64 0 0))) 3 (.r (.msl 32 0 0 x.1.length))), (up (up (hB fun _ => 0) 64 ⟨0, some (.box ((.tup [(.d (.str a1)), (.d (.int .i64 x.2))]) :: []))⟩) 32 ⟨0, some (.own 55 6 (e_GAct.cells x.1))⟩)⟩
def f7_l0_H (a1 : List UInt8) (x : (List GAct) × Int) (st : St) : Prop := keepSt [3, 7] [(32, .id 32), (64, .id 64)] [] st = f7_l0_J a1 x
def f7_l0_e0_J (a1 : List UInt8) (p10 : List GAct) : St := ⟨(up (fun _ => .un) 3 (.r (.msl 32 0 0 p10.length))), (up (hB fun _ => 0) 32 ⟨0, some (.own 55 6 (e_GAct.cells p10))⟩)⟩
def f7_l0_X (a1 : List UInt8) (z : ((List GAct))) (e : PX) (st : St) : Prop := e = .exit 0 ∧ st = f7_l0_e0_J a1 z
def f7_l0_j1_J (a1 : List UInt8) (p12 : List GAct) (p13 : Int) (p14 : Int) (p15 : Int) : St := ⟨(up (up (up (fun _ => .un) 8 (.tup [(.d (.bool true)), (.d (.int .i64 p14)), (.d (.int .i32 p15))])) 7 (.r (.ptr 64 0 0))) 3 (.r (.msl 32 0 0 p12.length))), (up (up (hB fun _ => 0) 64 ⟨0, some (.box ((.tup [(.d (.str a1)), (.d (.int .i64 p13))]) :: []))⟩) 32 ⟨0, some (.own 55 6 (e_GAct.cells p12))⟩)⟩
noncomputable def f7_l0_j1 (a1 : List UInt8) (p12 : List GAct) (p13 : Int) (p14 : Int) (p15 : Int) : Option (((List GAct) × Int) ⊕ (((List GAct)))) := ((app? 80 p12 ([(GAct.mk 1 (IntKind.i64.wrap (p15)) 0 ([]) ([]) ([]))] : List GAct)).bind fun z9 => (some (.inl (z9, p13))))
theorem f7_l0_j1_ok {d : Nat} (hd : 1 ≤ d) (a1 : List UInt8) {r : ((List GAct) × Int) ⊕ (((List GAct)))} {Q : PX → St → Prop} (hQ : ∀ e st', finL (f7_l0_H a1) (f7_l0_X a1) r e st' → Q e st') (p12 : List GAct) (p13 : Int) (p14 : Int) (p15 : Int) (hS : f7_l0_j1 a1 p12 p13 p14 p15 = some r) {st : St} (he : keepSt [3, 7, 8] [(32, .id 32), (64, .id 64)] [] st = f7_l0_j1_J a1 p12 p13 p14 p15) : ZR (lev codes baseL (d - 1)) Q c7_1 [] st := by
  refine zrKeep he ?_
  unfold f7_l0_j1 at hS
  refine zrBlk ?_
  refine zrSeq ?_
  refine zrReg ?_
  refine zlRun (n := 2) (j := 2) rfl (by kernel_rfl) ?_
  refine zlEnd (by kernel_rfl) ?_
  refine zkSeq ?_
  refine zrReg ?_
  refine zlRun (n := 5) (j := 5) rfl (by kernel_rfl) ?_
  refine bindE hS (fun z9 hz9 hS => ?_)
  refine zlOp (d := some 16) (op := (.app 55 6 80 (.tmp 11) (.tmp 15))) (g := none) (v := (.r (.msl 32 1 0 z9.length))) (ups := [(32, ⟨1, some (.own 55 6 (e_GAct.cells z9))⟩)]) (j := 6) rfl (by kernel_rfl) (by kernel_rfl) (ev_app e_GAct (b := 32) (g := 0) (n := p12.length) (xs := p12) (ys := [(GAct.mk 1 (IntKind.i64.wrap (p15)) 0 ([]) ([]) ([]))]) ((congrArg (asL _) (by kernel_rfl : ρof _ (.tmp 15) = (.r (.msl 128 1 0 (([(GAct.mk 1 (IntKind.i64.wrap (p15)) 0 ([]) ([]) ([]))] : List GAct).length))))).trans (as_whole e_GAct (e := 55) (k := 6) (xs := [(GAct.mk 1 (IntKind.i64.wrap (p15)) 0 ([]) ([]) ([]))]) (by kernel_rfl) rfl rfl)) rfl (by kernel_rfl) rfl (by kernel_rfl) rfl hz9) ?_
  refine zlRun (n := 1) (j := 7) rfl (by kernel_rfl) ?_
  refine zlEnd (by kernel_rfl) ?_
  refine zkBlk ?_
  refine zkNil ?_
  exact endQ hS hQ (finL_n (by show keepSt _ _ _ _ = _; kernel_rfl))
noncomputable def f7_l0 (a1 : List UInt8) (x : (List GAct) × Int) : Option (((List GAct) × Int) ⊕ (((List GAct)))) := ((chk (decide (0 ≤ x.2))).bind fun z8 => (bif (decide (x.2 < (a1.length : Int))) then (f7_l0_j1 a1 x.1 (((x.2 : Int).toNat + (Utf8.decode ⟨a1.toArray⟩ (x.2 : Int).toNat).2 : Nat) : Int) x.2 ((Utf8.decode ⟨a1.toArray⟩ (x.2 : Int).toNat).1 : Int)) else (some (.inr x.1))))
theorem f7_l0_ok {d : Nat} (hd : 1 ≤ d) (a1 : List UInt8) {r : ((List GAct) × Int) ⊕ (((List GAct)))} {Q : PX → St → Prop} (hQ : ∀ e st', finL (f7_l0_H a1) (f7_l0_X a1) r e st' → Q e st') {x : (List GAct) × Int} (hS : f7_l0 a1 x = some r) {st : St} (he : f7_l0_H a1 x st) : ZR (lev codes baseL (d - 1)) Q c7_2 [] st := by
  refine zrKeep he ?_
  unfold f7_l0 at hS
  refine zrSeq ?_
  refine zrReg ?_
  refine bindE hS (fun z8 hz8 hS => ?_)
  refine boolC (decide (x.2 < (a1.length : Int))) (fun hc => ?_) (fun hc => ?_)
  · replace hS := cond_t hc hS
    refine zlOp (d := some 8) (op := (.nxt (.tmp 7))) (g := none) (v := (.tup [(.d (.bool true)), (.d (.int .i64 x.2)), (.d (.int .i32 ((Utf8.decode ⟨a1.toArray⟩ (x.2 : Int).toNat).1 : Int)))])) (ups := [(64, ⟨0, some (.box ((.tup [(.d (.str a1)), (.d (.int .i64 (((x.2 : Int).toNat + (Utf8.decode ⟨a1.toArray⟩ (x.2 : Int).toNat).2 : Nat) : Int)))]) :: []))⟩)]) (j := 1) rfl (by kernel_rfl) (by kernel_rfl) (ev_nxtT (s := a1) (p := x.2) (b := 64) (g := 0) (by kernel_rfl) (by kernel_rfl) hz8 hc) ?_
    refine zlRun (n := 1) (j := 2) rfl (by kernel_rfl) ?_
    refine zlEnd (by kernel_rfl) ?_
    refine zkSeq ?_
    refine zrSeq ?_
    refine zrCondT (by kernel_rfl) ?_
    refine zrSkip ?_
    refine zkSeq ?_
    exact f7_l0_j1_ok hd a1 hQ x.1 (((x.2 : Int).toNat + (Utf8.decode ⟨a1.toArray⟩ (x.2 : Int).toNat).2 : Nat) : Int) x.2 ((Utf8.decode ⟨a1.toArray⟩ (x.2 : Int).toNat).1 : Int) hS (by kernel_rfl)
  · replace hS := cond_f hc hS
    refine zlOp (d := some 8) (op := (.nxt (.tmp 7))) (g := none) (v := (.tup [(.d (.bool false))])) (ups := []) (j := 1) rfl (by kernel_rfl) (by kernel_rfl) (ev_nxtF (s := a1) (p := x.2) (b := 64) (g := 0) (by kernel_rfl) (by kernel_rfl) hz8 hc) ?_
    refine zlRun (n := 1) (j := 2) rfl (by kernel_rfl) ?_
    refine zlEnd (by kernel_rfl) ?_
    refine zkSeq ?_
    refine zrSeq ?_
    refine zrCondF (by kernel_rfl) ?_
    refine zrKeep (J := f7_l0_e0_J a1 x.1) (by kernel_rfl) ?_
    refine zrExit ?_
    refine zkSeqX ?_
    refine zkNil ?_
    exact endQ hS hQ (finL_x (by intro h; cases h) (by show _ = _ ∧ _ = _; exact ⟨rfl, rfl⟩))
noncomputable def f7 (a1 : List UInt8) : Option ((List GAct)) := ((loopO (f7_l0 a1) ([], 0)).bind fun z10 => (some z10))
theorem f7_ok (d : Nat) (hd : 1 ≤ d) (a1 : List UInt8) (r : (List GAct)) (hS : f7 a1 = some r) : lev codes baseL d 7 [(.d (.str a1))] [] = some ((.r (.own 0 55 6 r.length (e_GAct.cells r))), []) := by
  refine lev_go codes7 rfl rfl (Nat.le_trans (Nat.le_of_ble_eq_true rfl) hd) fun Q hQ => ?_
  unfold f7 at hS
  show ZR _ Q c7_b [] _
  replace hQ : ∀ e st', f7_Q r e st' → Q e st' := hQ
  refine zrSeq ?_
  refine zrReg ?_
  refine zlRun (n := 1) (j := 1) rfl (by kernel_rfl) ?_
  refine zlEnd (by kernel_rfl) ?_
  refine zkSeq ?_
  refine zrSeq ?_
  refine zrReg ?_
  refine zlRun (n := 1) (j := 1) rfl (by kernel_rfl) ?_
  refine zlEnd (by kernel_rfl) ?_
  refine zkSeq ?_
  refine zrSeq ?_
  refine zrSeq ?_
  refine zrReg ?_
  refine zlRun (n := 2) (j := 2) rfl (by kernel_rfl) ?_
  refine zlEnd (by kernel_rfl) ?_
  refine zkSeq ?_
  refine zrBlk ?_
  refine bindE hS (fun z10 hz10 hS => ?_)
  refine zrLoop (f7_l0_H a1) (f7_l0_X a1) (fun x st r Q h0 hS hQ => f7_l0_ok hd a1 hQ hS h0) (x := ([], 0)) (z := z10) (by show keepSt _ _ _ _ = _; kernel_rfl) hz10 ?_
  intro e st' _ hX
  obtain ⟨rfl, rfl⟩ : _ ∧ _ := hX
  refine zkBlkX ?_
  refine zkSeq ?_
  refine zrSeq ?_
  refine zrReg ?_
  refine zlRun (n := 2) (j := 2) rfl (by kernel_rfl) ?_
  refine zlEnd (by kernel_rfl) ?_
  refine zkSeq ?_
  refine zrRet ?_
  refine zkNil ?_
  exact endQ hS hQ (fRet (by kernel_rfl) ((congrArg (fun s => outR s 0 c7.res) (by kernel_rfl : finSt c7.fin _ = f7_fin z10)).trans (f7_out z10)))
/- farwriter/grid.row -/
def f36_fin (p1 : List GCell) : St := ⟨(up (up (fun _ => .un) 2000000 .un) 4 (.d (.sl p1.length (e_GCell.cells p1)))), (up (hB fun _ => 0) 0 ⟨0, none⟩)⟩
theorem f36_out (p1 : List GCell) : outR (f36_fin p1) 0 c36.res = some ((.d (.sl p1.length (e_GCell.cells p1))), []) := by
  kernel_rfl
def f36_Q (r : (List GCell)) (e : PX) (st : St) : Prop := DoneF c36 0 ((.d (.sl r.length (e_GCell.cells r))), [.box []]) e st
noncomputable def f36 (a1 : GGrid) (a2 : Int) : Option ((List GCell)) := ((sub? a1.Cells (IntKind.i64.wrap (a2 * a1.Wide)) (IntKind.i64.wrap ((IntKind.i64.wrap (a2 + 1)) * a1.Wide))).bind fun z2 => (some z2))
theorem f36_ok (d : Nat) (hd : 1 ≤ d) (a1 : GGrid) (a2 : Int) (r : (List GCell)) (hS : f36 a1 a2 = some r) : lev codes baseL d 36 [(.agg ((.d (.int .i64 a1.Wide)) :: ((.d (.int .i64 a1.High)) :: ((.d (.sl a1.Cells.length (e_GCell.cells a1.Cells))) :: [])))), (.d (.int .i64 a2))] [] = some ((.d (.sl r.length (e_GCell.cells r))), [.box []]) := by
  refine lev_go codes36 rfl rfl (Nat.le_trans (Nat.le_of_ble_eq_true rfl) hd) fun Q hQ => ?_
  unfold f36 at hS
  show ZR _ Q c36_b [] _
  replace hQ : ∀ e st', f36_Q r e st' → Q e st' := hQ
  refine zrSeq ?_
  refine zrReg ?_
  refine zlRun (n := 2) (j := 2) rfl (by kernel_rfl) ?_
  refine zlEnd (by kernel_rfl) ?_
  refine zkSeq ?_
  refine zrSeq ?_
  refine zrReg ?_
  refine zlRun (n := 11) (j := 11) rfl (by kernel_rfl) ?_
  refine bindE hS (fun z2 hz2 hS => ?_)
  refine zlOp (d := some 16) (op := (.slS 46 4 (.tmp 6) (.some (.tmp 10)) (.some (.tmp 15)))) (g := none) (v := (.d (.sl z2.length (e_GCell.cells z2)))) (ups := []) (j := 12) rfl (by kernel_rfl) (by kernel_rfl) (ev_slS e_GCell (xs := a1.Cells) (a := (IntKind.i64.wrap (a2 * a1.Wide))) (c := (IntKind.i64.wrap ((IntKind.i64.wrap (a2 + 1)) * a1.Wide))) (by kernel_rfl) rfl (bnd_s _ (kk := .i64) (j := (IntKind.i64.wrap (a2 * a1.Wide))) (by kernel_rfl)) (bnd_s _ (kk := .i64) (j := (IntKind.i64.wrap ((IntKind.i64.wrap (a2 + 1)) * a1.Wide))) (by kernel_rfl)) hz2) ?_
  refine zlRun (n := 1) (j := 13) rfl (by kernel_rfl) ?_
  refine zlEnd (by kernel_rfl) ?_
  refine zkSeq ?_
  refine zrRet ?_
  refine zkNil ?_
  exact endQ hS hQ (fRetX (by kernel_rfl) (by kernel_rfl : finSt c36.fin _ = f36_fin z2) (by kernel_rfl) (f36_out z2))
/- farwriter/width.in -/
def f62_fin (p27 : Bool) : St := ⟨(up (fun _ => .un) 4 (.d (.bool p27))), (hB fun _ => 0)⟩
theorem f62_out (p27 : Bool) : outR (f62_fin p27) 0 c62.res = some ((.d (.bool p27)), []) := by
  kernel_rfl
def f62_Q (r : Bool) (e : PX) (st : St) : Prop := DoneF c62 0 ((.d (.bool r)), []) e st
def f62_l0_J (a1 : Int) (a2 : List (Int × Int)) (x : Int) : St := ⟨(up (up (up (up (fun _ => .un) 9 (.d (.int .i64 x))) 8 (.d (.int .i64 (a2.length : Int)))) 7 (.d (.sl a2.length (e_A31.cells a2)))) 0 (.d (.int .i64 a1))), (hB fun _ => 0)⟩
def f62_l0_H (a1 : Int) (a2 : List (Int × Int)) (x : Int) (st : St) : Prop := keepSt [0, 7, 8, 9] [] [] st = f62_l0_J a1 a2 x
def f62_l0_e0_J (a1 : Int) (a2 : List (Int × Int)) : St := ⟨(fun _ => .un), (hB fun _ => 0)⟩
def f62_l0_X (a1 : Int) (a2 : List (Int × Int)) (z : Unit ⊕ Bool) (e : PX) (st : St) : Prop := (match z with | .inl z => e = .exit 0 ∧ st = f62_l0_e0_J a1 a2 | .inr z => e = .ret ∧ finSt c62.fin st = f62_fin z)
def f62_l0_j2_J (a1 : Int) (a2 : List (Int × Int)) (p32 : Int) : St := ⟨(up (up (up (up (fun _ => .un) 9 (.d (.int .i64 p32))) 8 (.d (.int .i64 (a2.length : Int)))) 7 (.d (.sl a2.length (e_A31.cells a2)))) 0 (.d (.int .i64 a1))), (hB fun _ => 0)⟩
noncomputable def f62_l0_j2 (a1 : Int) (a2 : List (Int × Int)) (p32 : Int) : Option (Int ⊕ (Unit ⊕ Bool)) := ((idx a2 p32).bind fun z4 => (bif (decide (z4.1 ≤ a1)) then (bif (decide (a1 ≤ z4.2)) then (some (.inr (.inr true))) else (some (.inl (IntKind.i64.wrap (p32 + 1))))) else (some (.inl (IntKind.i64.wrap (p32 + 1))))))
theorem f62_l0_j2_ok {d : Nat} (hd : 1 ≤ d) (a1 : Int) (a2 : List (Int × Int)) {r : Int ⊕ (Unit ⊕ Bool)} {Q : PX → St → Prop} (hQ : ∀ e st', finL (f62_l0_H a1 a2) (f62_l0_X a1 a2) r e st' → Q e st') (p32 : Int) (hS : f62_l0_j2 a1 a2 p32 = some r) {st : St} (he : keepSt [0, 7, 8, 9] [] [] st = f62_l0_j2_J a1 a2 p32) : ZR (lev codes baseL (d - 1)) Q c62_1 [] st := by
  refine zrKeep he ?_
  unfold f62_l0_j2 at hS
  refine zrSeq ?_
  refine zrBlk ?_
  refine zrSeq ?_
  refine zrReg ?_
  refine bindE hS (fun z4 hz4 hS => ?_)
  refine zlOp (d := some 11) (op := (.ixS 31 2 (.tmp 7) (.tmp 9))) (g := none) (v := (.rptr (e_A31.enc z4 ++ (e_A31.cells (a2.drop ((p32 : Int).toNat + 1)))))) (ups := []) (j := 1) rfl (by kernel_rfl) (by kernel_rfl) (ev_ixS e_A31 (kk := .i64) (xs := a2) (j := p32) (by kernel_rfl) (by kernel_rfl) hz4 rfl (by intro h; cases h)) ?_
  refine zlRun (n := 3) (j := 4) rfl (by kernel_rfl) ?_
  refine zlEnd (by kernel_rfl) ?_
  refine zkSeq ?_
  refine zrSeq ?_
  refine zrReg ?_
  refine zlRun (n := 3) (j := 3) rfl (by kernel_rfl) ?_
  refine zlBool (d := 16) (op := (.cmpI .geq (.tmp 13) (.tmp 15))) (g := none) (j := 4) (decide (z4.1 ≤ a1)) rfl (by kernel_rfl) (by kernel_rfl) (by kernel_rfl) (fun hc => ?_) (fun hc => ?_)
  · replace hS := cond_t hc hS
    refine zlRun (n := 4) (j := 8) rfl (by kernel_rfl) ?_
    refine zlBool (d := 21) (op := (.cmpI .leq (.tmp 18) (.tmp 20))) (g := (some (17, true))) (j := 9) (decide (a1 ≤ z4.2)) rfl (by kernel_rfl) (by kernel_rfl) (by kernel_rfl) (fun hc => ?_) (fun hc => ?_)
    · replace hS := cond_t hc hS
      refine zlRun (n := 1) (j := 10) rfl (by kernel_rfl) ?_
      refine zlEnd (by kernel_rfl) ?_
      refine zkSeq ?_
      refine zrCondT (by kernel_rfl) ?_
      refine zrSeq ?_
      refine zrReg ?_
      refine zlRun (n := 1) (j := 1) rfl (by kernel_rfl) ?_
      refine zlEnd (by kernel_rfl) ?_
      refine zkSeq ?_
      refine zrRet ?_
      refine zkBlkR ?_
      refine zkSeqR ?_
      refine zkNil ?_
      exact endQ hS hQ (finL_x (by intro h; cases h) (by show _ = _ ∧ _ = _; exact ⟨rfl, by kernel_rfl⟩))
    · replace hS := cond_f hc hS
      refine zlRun (n := 1) (j := 10) rfl (by kernel_rfl) ?_
      refine zlEnd (by kernel_rfl) ?_
      refine zkSeq ?_
      refine zrCondF (by kernel_rfl) ?_
      refine zrSkip ?_
      refine zkBlk ?_
      refine zkSeq ?_
      refine zrReg ?_
      refine zlRun (n := 2) (j := 2) rfl (by kernel_rfl) ?_
      refine zlEnd (by kernel_rfl) ?_
      refine zkNil ?_
      exact endQ hS hQ (finL_n (by show keepSt _ _ _ _ = _; kernel_rfl))
  · replace hS := cond_f hc hS
    refine zlRun (n := 6) (j := 10) rfl (by kernel_rfl) ?_
    refine zlEnd (by kernel_rfl) ?_
    refine zkSeq ?_
    refine zrCondF (by kernel_rfl) ?_
    refine zrSkip ?_
    refine zkBlk ?_
    refine zkSeq ?_
    refine zrReg ?_
    refine zlRun (n := 2) (j := 2) rfl (by kernel_rfl) ?_
    refine zlEnd (by kernel_rfl) ?_
    refine zkNil ?_
    exact endQ hS hQ (finL_n (by show keepSt _ _ _ _ = _; kernel_rfl))
def f62_l0_j1_J (a1 : Int) (a2 : List (Int × Int)) (p30 : Int) (p31 : Bool) : St := ⟨(up (up (up (up (up (fun _ => .un) 10 (.d (.bool p31))) 9 (.d (.int .i64 p30))) 8 (.d (.int .i64 (a2.length : Int)))) 7 (.d (.sl a2.length (e_A31.cells a2)))) 0 (.d (.int .i64 a1))), (hB fun _ => 0)⟩
noncomputable def f62_l0_j1 (a1 : Int) (a2 : List (Int × Int)) (p30 : Int) (p31 : Bool) : Option (Int ⊕ (Unit ⊕ Bool)) := (bif p31 then (f62_l0_j2 a1 a2 p30) else (some (.inr (.inl ()))))
theorem f62_l0_j1_ok {d : Nat} (hd : 1 ≤ d) (a1 : Int) (a2 : List (Int × Int)) {r : Int ⊕ (Unit ⊕ Bool)} {Q : PX → St → Prop} (hQ : ∀ e st', finL (f62_l0_H a1 a2) (f62_l0_X a1 a2) r e st' → Q e st') (p30 : Int) (p31 : Bool) (hS : f62_l0_j1 a1 a2 p30 p31 = some r) {st : St} (he : keepSt [0, 7, 8, 9, 10] [] [] st = f62_l0_j1_J a1 a2 p30 p31) : ZR (lev codes baseL (d - 1)) Q c62_2 [] st := by
  refine zrKeep he ?_
  unfold f62_l0_j1 at hS
  refine zrSeq ?_
  refine zrSplit 10 p31 (by kernel_rfl) (fun hc => ?_) (fun hc => ?_)
  · replace hS := cond_t hc hS
    refine zrCondT (by kernel_rfl) ?_
    refine zrSkip ?_
    refine zkSeq ?_
    exact f62_l0_j2_ok hd a1 a2 hQ p30 hS (by kernel_rfl)
  · replace hS := cond_f hc hS
    refine zrCondF (by kernel_rfl) ?_
    refine zrKeep (J := f62_l0_e0_J a1 a2) (by kernel_rfl) ?_
    refine zrExit ?_
    refine zkSeqX ?_
    refine zkNil ?_
    exact endQ hS hQ (finL_x (by intro h; cases h) (by show _ = _ ∧ _ = _; exact ⟨rfl, rfl⟩))
noncomputable def f62_l0 (a1 : Int) (a2 : List (Int × Int)) (x : Int) : Option (Int ⊕ (Unit ⊕ Bool)) := (bif (decide (x < (a2.length : Int))) then (f62_l0_j1 a1 a2 x true) else (f62_l0_j1 a1 a2 x false))
theorem f62_l0_ok {d : Nat} (hd : 1 ≤ d) (a1 : Int) (a2 : List (Int × Int)) {r : Int ⊕ (Unit ⊕ Bool)} {Q : PX → St → Prop} (hQ : ∀ e st', finL (f62_l0_H a1 a2) (f62_l0_X a1 a2) r e st' → Q e st') {x : Int} (hS : f62_l0 a1 a2 x = some r) {st : St} (he : f62_l0_H a1 a2 x st) : ZR (lev codes baseL (d - 1)) Q c62_3 [] st := by
  refine zrKeep he ?_
  unfold f62_l0 at hS
  refine zrSeq ?_
  refine zrReg ?_
  refine zlBool (d := 10) (op := (.cmpI .lss (.tmp 9) (.tmp 8))) (g := none) (j := 1) (decide (x < (a2.length : Int))) rfl (by kernel_rfl) (by kernel_rfl) (by kernel_rfl) (fun hc => ?_) (fun hc => ?_)
  · replace hS := cond_t hc hS
    refine zlEnd (by kernel_rfl) ?_
    refine zkSeq ?_
    exact f62_l0_j1_ok hd a1 a2 hQ x true hS (by kernel_rfl)
  · replace hS := cond_f hc hS
    refine zlEnd (by kernel_rfl) ?_
    refine zkSeq ?_
    exact f62_l0_j1_ok hd a1 a2 hQ x false hS (by kernel_rfl)
noncomputable def f62 (a1 : Int) (a2 : List (Int × Int)) : Option (Bool) := ((loopO (f62_l0 a1 a2) 0).bind fun z5 => (Sum.elim (fun z6 => (some false)) (fun z7 => (some z7)) z5))
theorem f62_ok (d : Nat) (hd : 1 ≤ d) (a1 : Int) (a2 : List (Int × Int)) (r : Bool) (hS : f62 a1 a2 = some r) : lev codes baseL d 62 [(.d (.int .i64 a1)), (.d (.sl a2.length (e_A31.cells a2)))] [] = some ((.d (.bool r)), []) := by
  refine lev_go codes62 rfl rfl (Nat.le_trans (Nat.le_of_ble_eq_true rfl) hd) fun Q hQ => ?_
  unfold f62 at hS
  show ZR _ Q c62_b [] _
  replace hQ : ∀ e st', f62_Q r e st' → Q e st' := hQ
  refine zrSeq ?_
  refine zrReg ?_
  refine zlRun (n := 1) (j := 1) rfl (by kernel_rfl) ?_
  refine zlEnd (by kernel_rfl) ?_
  refine zkSeq ?_
  refine zrSeq ?_
  refine zrSeq ?_
  refine zrReg ?_
  refine zlRun (n := 3) (j := 3) rfl (by kernel_rfl) ?_
  refine zlEnd (by kernel_rfl) ?_
  refine zkSeq ?_
  refine zrBlk ?_
  refine bindE hS (fun z5 hz5 hS => ?_)
  refine zrLoop (f62_l0_H a1 a2) (f62_l0_X a1 a2) (fun x st r Q h0 hS hQ => f62_l0_ok hd a1 a2 hQ hS h0) (x := 0) (z := z5) (by show keepSt _ _ _ _ = _; kernel_rfl) hz5 ?_
  rcases z5 with z6 | z7
  · replace hS := (show _ = _ from hS)
    simp only [Sum.elim_inl] at hS
    intro e st' _ hX
    obtain ⟨rfl, rfl⟩ : _ ∧ _ := hX
    refine zkBlkX ?_
    refine zkSeq ?_
    refine zrSeq ?_
    refine zrReg ?_
    refine zlRun (n := 1) (j := 1) rfl (by kernel_rfl) ?_
    refine zlEnd (by kernel_rfl) ?_
    refine zkSeq ?_
    refine zrRet ?_
    refine zkNil ?_
    exact endQ hS hQ (fRet (by kernel_rfl) ((congrArg (fun s => outR s 0 c62.res) (by kernel_rfl : finSt c62.fin _ = f62_fin false)).trans (f62_out false)))
  · simp only [Sum.elim_inr] at hS
    intro e st' _ hX
    obtain ⟨rfl, hX⟩ : _ ∧ _ := hX
    refine zkBlkR ?_
    refine zkSeqR ?_
    refine zkNil ?_
    exact endQ hS hQ (fRet (by kernel_rfl) ((congrArg (fun s => outR s 0 c62.res) hX).trans (f62_out z7)))
/- farwriter/width.Of -/
def f37_fin (p2 : Int) : St := ⟨(up (fun _ => .un) 2 (.d (.int .i64 p2))), (hB fun _ => 0)⟩
theorem f37_out (p2 : Int) : outR (f37_fin p2) 0 c37.res = some ((.d (.int .i64 p2)), []) := by
  kernel_rfl
def f37_Q (r : Int) (e : PX) (st : St) : Prop := DoneF c37 0 ((.d (.int .i64 r)), []) e st
def f37_j0_J (a1 : Int) (p4 : Bool) : St := ⟨(up (up (up (fun _ => .un) 25 (.d (.bool p4))) 4 (.r (.ptr 40 0 0))) 0 (.d (.int .i64 a1))), (up (hB fun _ => 0) 40 ⟨0, some (.box ((e_A31.row 12 (fun i => ([(4352, 4447), (11904, 12350), (12353, 19903), (19968, 42191), (44032, 55203), (63744, 64255), (65072, 65135), (65280, 65376), (65504, 65510), (127744, 128591), (129280, 129535), (131072, 262141)] : List (Int × Int)).getD i (0, 0))) ++ []))⟩)⟩
noncomputable def f37_j0 (a1 : Int) (p4 : Bool) : Option (Int) := (bif p4 then (some 0) else ((f62 a1 [(4352, 4447), (11904, 12350), (12353, 19903), (19968, 42191), (44032, 55203), (63744, 64255), (65072, 65135), (65280, 65376), (65504, 65510), (127744, 128591), (129280, 129535), (131072, 262141)]).bind fun z4 => (bif z4 then (some 2) else (some 1))))
theorem f37_j0_ok {d : Nat} (hd : 2 ≤ d) (a1 : Int) {r : Int} {Q : PX → St → Prop} (hQ : ∀ e st', f37_Q r e st' → Q e st') (p4 : Bool) (hS : f37_j0 a1 p4 = some r) {st : St} (he : keepSt [0, 4, 25] [(40, .id 40)] [] st = f37_j0_J a1 p4) : ZR (lev codes baseL (d - 1)) Q c37_1 [.blk 0, .seq c37_2] st := by
  refine zrKeep he ?_
  unfold f37_j0 at hS
  refine zrSplit 25 p4 (by kernel_rfl) (fun hc => ?_) (fun hc => ?_)
  · replace hS := cond_t hc hS
    refine zrCondT (by kernel_rfl) ?_
    refine zrSeq ?_
    refine zrReg ?_
    refine zlRun (n := 1) (j := 1) rfl (by kernel_rfl) ?_
    refine zlEnd (by kernel_rfl) ?_
    refine zkSeq ?_
    refine zrRet ?_
    refine zkBlkR ?_
    refine zkSeqR ?_
    refine zkNil ?_
    exact endQ hS hQ (fRet (by kernel_rfl) ((congrArg (fun s => outR s 0 c37.res) (by kernel_rfl : finSt c37.fin _ = f37_fin 0)).trans (f37_out 0)))
  · replace hS := cond_f hc hS
    refine zrCondF (by kernel_rfl) ?_
    refine zrSeq ?_
    refine zrReg ?_
    refine zlRun (n := 2) (j := 2) rfl (by kernel_rfl) ?_
    refine bindE hS (fun z4 hz4 hS => ?_)
    refine zlOp (d := some 40) (op := (.call 62 [(.tmp 38), (.tmp 39)])) (g := none) (j := 3) rfl (by kernel_rfl) (by kernel_rfl) (ev_callA (by kernel_rfl) (f62_ok (d - 1) (dpt hd rfl) a1 [(4352, 4447), (11904, 12350), (12353, 19903), (19968, 42191), (44032, 55203), (63744, 64255), (65072, 65135), (65280, 65376), (65504, 65510), (127744, 128591), (129280, 129535), (131072, 262141)] z4 hz4) (by kernel_rfl) (by kernel_rfl)) ?_
    refine zlRun (n := 1) (j := 4) rfl (by kernel_rfl) ?_
    refine zlEnd (by kernel_rfl) ?_
    refine zkSeq ?_
    refine zrSplit 37 z4 (by kernel_rfl) (fun hc => ?_) (fun hc => ?_)
    · replace hS := cond_t hc hS
      refine zrCondT (by kernel_rfl) ?_
      refine zrSeq ?_
      refine zrReg ?_
      refine zlRun (n := 1) (j := 1) rfl (by kernel_rfl) ?_
      refine zlEnd (by kernel_rfl) ?_
      refine zkSeq ?_
      refine zrRet ?_
      refine zkBlkR ?_
      refine zkSeqR ?_
      refine zkNil ?_
      exact endQ hS hQ (fRet (by kernel_rfl) ((congrArg (fun s => outR s 0 c37.res) (by kernel_rfl : finSt c37.fin _ = f37_fin 2)).trans (f37_out 2)))
    · replace hS := cond_f hc hS
      refine zrCondF (by kernel_rfl) ?_
      refine zrSkip ?_
      refine zkBlk ?_
      refine zkSeq ?_
      refine zrSeq ?_
      refine zrReg ?_
      refine zlRun (n := 1) (j := 1) rfl (by kernel_rfl) ?_
      refine zlEnd (by kernel_rfl) ?_
      refine zkSeq ?_
      refine zrRet ?_
      refine zkNil ?_
      exact endQ hS hQ (fRet (by kernel_rfl) ((congrArg (fun s => outR s 0 c37.res) (by kernel_rfl : finSt c37.fin _ = f37_fin 1)).trans (f37_out 1)))
noncomputable def f37 (a1 : Int) : Option (Int) := (bif (decide (a1 < 0)) then (f37_j0 a1 true) else (bif (decide (1114111 < a1)) then (f37_j0 a1 true) else ((f62 a1 [(0, 31), (127, 159), (768, 879), (8203, 8207), (55296, 57343), (65024, 65039)]).bind fun z5 => (f37_j0 a1 z5))))
theorem f37_ok (d : Nat) (hd : 2 ≤ d) (a1 : Int) (r : Int) (hS : f37 a1 = some r) : lev codes baseL d 37 [(.d (.int .i64 a1))] [] = some ((.d (.int .i64 r)), []) := by
  refine lev_go codes37 rfl rfl (Nat.le_trans (Nat.le_of_ble_eq_true rfl) hd) fun Q hQ => ?_
  unfold f37 at hS
  show ZR _ Q c37_b [] _
  replace hQ : ∀ e st', f37_Q r e st' → Q e st' := hQ
  refine zrSeq ?_
  refine zrReg ?_
  refine zlRun (n := 1) (j := 1) rfl (by kernel_rfl) ?_
  refine zlEnd (by kernel_rfl) ?_
  refine zkSeq ?_
  refine zrSeq ?_
  refine zrReg ?_
  refine zlRun (n := 9) (j := 9) rfl (by kernel_rfl) ?_
  refine zlEnd (by kernel_rfl) ?_
  refine zkSeq ?_
  refine zrSeq ?_
  refine zrReg ?_
  refine zlRun (n := 15) (j := 15) rfl (by kernel_rfl) ?_
  refine zlEnd (by kernel_rfl) ?_
  refine zkSeq ?_
  refine zrSeq ?_
  refine zrBlk ?_
  refine zrSeq ?_
  refine zrReg ?_
  refine zlRun (n := 1) (j := 1) rfl (by kernel_rfl) ?_
  refine zlBool (d := 27) (op := (.cmpI .lss (.tmp 26) (.const (.int .i64 0)))) (g := none) (j := 2) (decide (a1 < 0)) rfl (by kernel_rfl) (by kernel_rfl) (by kernel_rfl) (fun hc => ?_) (fun hc => ?_)
  · replace hS := cond_t hc hS
    refine zlRun (n := 10) (j := 12) rfl (by kernel_rfl) ?_
    refine zlEnd (by kernel_rfl) ?_
    refine zkSeq ?_
    exact f37_j0_ok hd a1 hQ true hS (by kernel_rfl)
  · replace hS := cond_f hc hS
    refine zlRun (n := 2) (j := 4) rfl (by kernel_rfl) ?_
    refine zlBool (d := 30) (op := (.cmpI .gtr (.tmp 29) (.const (.int .i64 1114111)))) (g := (some (28, false))) (j := 5) (decide (1114111 < a1)) rfl (by kernel_rfl) (by kernel_rfl) (by kernel_rfl) (fun hc => ?_) (fun hc => ?_)
    · replace hS := cond_t hc hS
      refine zlRun (n := 7) (j := 12) rfl (by kernel_rfl) ?_
      refine zlEnd (by kernel_rfl) ?_
      refine zkSeq ?_
      exact f37_j0_ok hd a1 hQ true hS (by kernel_rfl)
    · replace hS := cond_f hc hS
      refine zlRun (n := 4) (j := 9) rfl (by kernel_rfl) ?_
      refine bindE hS (fun z5 hz5 hS => ?_)
      refine zlOp (d := some 35) (op := (.call 62 [(.tmp 33), (.tmp 34)])) (g := (some (32, false))) (j := 10) rfl (by kernel_rfl) (by kernel_rfl) (ev_callA (by kernel_rfl) (f62_ok (d - 1) (dpt hd rfl) a1 [(0, 31), (127, 159), (768, 879), (8203, 8207), (55296, 57343), (65024, 65039)] z5 hz5) (by kernel_rfl) (by kernel_rfl)) ?_
      refine zlRun (n := 2) (j := 12) rfl (by kernel_rfl) ?_
      refine zlEnd (by kernel_rfl) ?_
      refine zkSeq ?_
      exact f37_j0_ok hd a1 hQ z5 hS (by kernel_rfl)
/- farwriter/grid.lone$1 -/
def f63_fin (p4 : Bool) : St := ⟨(up (fun _ => .un) 3 (.d (.bool p4))), (hB fun _ => 0)⟩
theorem f63_out (p4 : Bool) : outR (f63_fin p4) 0 c63.res = some ((.d (.bool p4)), []) := by
  kernel_rfl
def f63_Q (r : Bool) (e : PX) (st : St) : Prop := DoneF c63 0 ((.d (.bool r)), []) e st
noncomputable def f63 (a1 : Int) (a2 : List GCell) (a3 : List PD) : Option (Bool) := (bif (decide (a1 < (a2.length : Int))) then ((idx a2 a1).bind fun z4 => (bif (decide (z4.Rune = 0)) then ((idx a2 a1).bind fun z5 => ((idx a2 (IntKind.i64.wrap (a1 - 1))).bind fun z6 => (bif (decide (z5.Pen.Flags = z6.Pen.Flags) && (decide (z5.Pen.Fore = z6.Pen.Fore) && (decide (z5.Pen.Back = z6.Pen.Back) && true))) then (some true) else (some false)))) else (some false))) else (some false))
theorem f63_ok (d : Nat) (hd : 1 ≤ d) (a1 : Int) (a2 : List GCell) (a3 : List PD) (r : Bool) (hS : f63 a1 a2 a3 = some r) : lev codes baseL d 63 [(.d (.int .i64 a1)), (.rptr ((eSl e_GCell).enc a2 ++ a3))] [] = some ((.d (.bool r)), []) := by
  refine lev_go codes63 rfl rfl (Nat.le_trans (Nat.le_of_ble_eq_true rfl) hd) fun Q hQ => ?_
  unfold f63 at hS
  show ZR _ Q c63_b [] _
  replace hQ : ∀ e st', f63_Q r e st' → Q e st' := hQ
  refine zrSeq ?_
  refine zrReg ?_
  refine zlRun (n := 1) (j := 1) rfl (by kernel_rfl) ?_
  refine zlEnd (by kernel_rfl) ?_
  refine zkSeq ?_
  refine zrSeq ?_
  refine zrRegD ?_
  refine zdRun (n := 3) (j := 3) (ts := [[], [], []]) (acc' := [[], [], []]) rfl (by kernel_rfl) (by kernel_rfl) (by kernel_rfl) ?_
  refine zdBool (d := 7) (op := (.cmpI .lss (.tmp 4) (.tmp 6))) (g := none) (j := 4) (t1 := []) (acc' := [[], [], [], []]) (decide (a1 < (a2.length : Int))) (by kernel_rfl) (by kernel_rfl) rfl (by kernel_rfl) (by kernel_rfl) (by kernel_rfl) (fun hc => ?_) (fun hc => ?_)
  · replace hS := cond_t hc hS
    refine zdRun (n := 3) (j := 7) (ts := [[], [], []]) (acc' := [[], [], [], [], [], [], []]) rfl (by kernel_rfl) (by kernel_rfl) (by kernel_rfl) ?_
    refine bindE hS (fun z4 hz4 hS => ?_)
    refine zdOp (d := some 11) (op := (.ixS 46 4 (.tmp 9) (.tmp 10))) (g := (some (8, true))) (v := (.rptr (e_GCell.enc z4 ++ (e_GCell.cells (a2.drop ((a1 : Int).toNat + 1)))))) (ups := []) (j := 8) (t1 := []) (acc' := [[], [], [], [], [], [], [], []]) (by kernel_rfl) (by kernel_rfl) rfl (by kernel_rfl) (by kernel_rfl) (ev_ixS e_GCell (kk := .i64) (xs := a2) (j := a1) (by kernel_rfl) (by kernel_rfl) hz4 rfl (by intro h; cases h)) ?_
    refine zdRun (n := 2) (j := 10) (ts := [[], []]) (acc' := [[], [], [], [], [], [], [], [], [], []]) rfl (by kernel_rfl) (by kernel_rfl) (by kernel_rfl) ?_
    refine zdBool (d := 14) (op := (.cmpI .eql (.tmp 13) (.const (.int .i64 0)))) (g := (some (8, true))) (j := 11) (t1 := []) (acc' := [[], [], [], [], [], [], [], [], [], [], []]) (decide (z4.Rune = 0)) (by kernel_rfl) (by kernel_rfl) rfl (by kernel_rfl) (by kernel_rfl) (by kernel_rfl) (fun hc => ?_) (fun hc => ?_)
    · replace hS := cond_t hc hS
      refine zdRun (n := 4) (j := 15) (ts := [[], [], [], []]) (acc' := [[], [], [], [], [], [], [], [], [], [], [], [], [], [], []]) rfl (by kernel_rfl) (by kernel_rfl) (by kernel_rfl) ?_
      refine bindE hS (fun z5 hz5 hS => ?_)
      refine zdOp (d := some 19) (op := (.ixS 46 4 (.tmp 17) (.tmp 18))) (g := (some (16, true))) (v := (.rptr (e_GCell.enc z5 ++ (e_GCell.cells (a2.drop ((a1 : Int).toNat + 1)))))) (ups := []) (j := 16) (t1 := []) (acc' := [[], [], [], [], [], [], [], [], [], [], [], [], [], [], [], []]) (by kernel_rfl) (by kernel_rfl) rfl (by kernel_rfl) (by kernel_rfl) (ev_ixS e_GCell (kk := .i64) (xs := a2) (j := a1) (by kernel_rfl) (by kernel_rfl) hz5 rfl (by intro h; cases h)) ?_
      refine zdRun (n := 5) (j := 21) (ts := [[], [], [], [], []]) (acc' := [[], [], [], [], [], [], [], [], [], [], [], [], [], [], [], [], [], [], [], [], []]) rfl (by kernel_rfl) (by kernel_rfl) (by kernel_rfl) ?_
      refine bindE hS (fun z6 hz6 hS => ?_)
      refine zdOp (d := some 25) (op := (.ixS 46 4 (.tmp 22) (.tmp 24))) (g := (some (16, true))) (v := (.rptr (e_GCell.enc z6 ++ (e_GCell.cells (a2.drop (((IntKind.i64.wrap (a1 - 1)) : Int).toNat + 1)))))) (ups := []) (j := 22) (t1 := []) (acc' := [[], [], [], [], [], [], [], [], [], [], [], [], [], [], [], [], [], [], [], [], [], []]) (by kernel_rfl) (by kernel_rfl) rfl (by kernel_rfl) (by kernel_rfl) (ev_ixS e_GCell (kk := .i64) (xs := a2) (j := (IntKind.i64.wrap (a1 - 1))) (by kernel_rfl) (by kernel_rfl) hz6 rfl (by intro h; cases h)) ?_
      refine zdRun (n := 2) (j := 24) (ts := [[], []]) (acc' := [[], [], [], [], [], [], [], [], [], [], [], [], [], [], [], [], [], [], [], [], [], [], [], []]) rfl (by kernel_rfl) (by kernel_rfl) (by kernel_rfl) ?_
      refine zdBool (d := 28) (op := (.eqA .false [(3, .int)] (.tmp 21) (.tmp 27))) (g := (some (16, true))) (j := 25) (t1 := []) (acc' := [[], [], [], [], [], [], [], [], [], [], [], [], [], [], [], [], [], [], [], [], [], [], [], [], []]) (decide (z5.Pen.Flags = z6.Pen.Flags) && (decide (z5.Pen.Fore = z6.Pen.Fore) && (decide (z5.Pen.Back = z6.Pen.Back) && true))) (by kernel_rfl) (by kernel_rfl) rfl (by kernel_rfl) (by kernel_rfl) (by kernel_rfl) (fun hc => ?_) (fun hc => ?_)
      · replace hS := cond_t hc hS
        refine zdRun (n := 2) (j := 27) (ts := [[], []]) (acc' := [[], [], [], [], [], [], [], [], [], [], [], [], [], [], [], [], [], [], [], [], [], [], [], [], [], [], []]) rfl (by kernel_rfl) (by kernel_rfl) (by kernel_rfl) ?_
        refine zdEnd (by kernel_rfl) (by kernel_rfl) ?_
        refine zkSeq ?_
        refine zrRet ?_
        refine zkNil ?_
        exact endQ hS hQ (fRet (by kernel_rfl) ((congrArg (fun s => outR s 0 c63.res) (by kernel_rfl : finSt c63.fin _ = f63_fin true)).trans (f63_out true)))
      · replace hS := cond_f hc hS
        refine zdRun (n := 2) (j := 27) (ts := [[], []]) (acc' := [[], [], [], [], [], [], [], [], [], [], [], [], [], [], [], [], [], [], [], [], [], [], [], [], [], [], []]) rfl (by kernel_rfl) (by kernel_rfl) (by kernel_rfl) ?_
        refine zdEnd (by kernel_rfl) (by kernel_rfl) ?_
        refine zkSeq ?_
        refine zrRet ?_
        refine zkNil ?_
        exact endQ hS hQ (fRet (by kernel_rfl) ((congrArg (fun s => outR s 0 c63.res) (by kernel_rfl : finSt c63.fin _ = f63_fin false)).trans (f63_out false)))
    · replace hS := cond_f hc hS
      refine zdRun (n := 16) (j := 27) (ts := [[], [], [], [], [], [], [], [], [], [], [], [], [], [], [], []]) (acc' := [[], [], [], [], [], [], [], [], [], [], [], [], [], [], [], [], [], [], [], [], [], [], [], [], [], [], []]) rfl (by kernel_rfl) (by kernel_rfl) (by kernel_rfl) ?_
      refine zdEnd (by kernel_rfl) (by kernel_rfl) ?_
      refine zkSeq ?_
      refine zrRet ?_
      refine zkNil ?_
      exact endQ hS hQ (fRet (by kernel_rfl) ((congrArg (fun s => outR s 0 c63.res) (by kernel_rfl : finSt c63.fin _ = f63_fin false)).trans (f63_out false)))
  · replace hS := cond_f hc hS
    refine zdRun (n := 23) (j := 27) (ts := [[], [], [], [], [], [], [], [], [], [], [], [], [], [], [], [], [], [], [], [], [], [], []]) (acc' := [[], [], [], [], [], [], [], [], [], [], [], [], [], [], [], [], [], [], [], [], [], [], [], [], [], [], []]) rfl (by kernel_rfl) (by kernel_rfl) (by kernel_rfl) ?_
    refine zdEnd (by kernel_rfl) (by kernel_rfl) ?_
    refine zkSeq ?_
    refine zrRet ?_
    refine zkNil ?_
    exact endQ hS hQ (fRet (by kernel_rfl) ((congrArg (fun s => outR s 0 c63.res) (by kernel_rfl : finSt c63.fin _ = f63_fin false)).trans (f63_out false)))
/- farwriter/grid.lone -/
def f38_fin (p4 : Bool) : St := ⟨(up (fun _ => .un) 4 (.d (.bool p4))), (hB fun _ => 0)⟩
theorem f38_out (p4 : Bool) : outR (f38_fin p4) 0 c38.res = some ((.d (.bool p4)), []) := by
  kernel_rfl
def f38_Q (r : Bool) (e : PX) (st : St) : Prop := DoneF c38 0 ((.d (.bool r)), []) e st
def f38_j0_J (a1 : List GCell) (a2 : Int) : St := ⟨(up (up (up (fun _ => .un) 5 (.fn 63 [(.r (.ptr 24 0 0))])) 2 (.r (.ptr 24 0 0))) 1 (.d (.int .i64 a2))), (up (hB fun _ => 0) 24 ⟨0, some (.box ((.d (.sl a1.length (e_GCell.cells a1))) :: []))⟩)⟩
noncomputable def f38_j0 (a1 : List GCell) (a2 : Int) : Option (Bool) := ((idx a1 a2).bind fun z12 => ((f37 z12.Rune).bind fun z13 => (bif (decide (z13 = 2)) then ((f63 (IntKind.i64.wrap (a2 + 1)) a1 []).bind fun z14 => (some (!z14))) else (some false))))
theorem f38_j0_ok {d : Nat} (hd : 3 ≤ d) (a1 : List GCell) (a2 : Int) {r : Bool} {Q : PX → St → Prop} (hQ : ∀ e st', f38_Q r e st' → Q e st')  (hS : f38_j0 a1 a2 = some r) {st : St} (he : keepSt [1, 2, 5] [(24, .id 24)] [] st = f38_j0_J a1 a2) : ZR (lev codes baseL (d - 1)) Q c38_1 [] st := by
  refine zrKeep he ?_
  unfold f38_j0 at hS
  refine zrSeq ?_
  refine zrReg ?_
  refine zlRun (n := 2) (j := 2) rfl (by kernel_rfl) ?_
  refine bindE hS (fun z12 hz12 hS => ?_)
  refine zlOp (d := some 33) (op := (.ixS 46 4 (.tmp 31) (.tmp 32))) (g := none) (v := (.rptr (e_GCell.enc z12 ++ (e_GCell.cells (a1.drop ((a2 : Int).toNat + 1)))))) (ups := []) (j := 3) rfl (by kernel_rfl) (by kernel_rfl) (ev_ixS e_GCell (kk := .i64) (xs := a1) (j := a2) (by kernel_rfl) (by kernel_rfl) hz12 rfl (by intro h; cases h)) ?_
  refine zlRun (n := 2) (j := 5) rfl (by kernel_rfl) ?_
  refine bindE hS (fun z13 hz13 hS => ?_)
  refine zlOp (d := some 36) (op := (.call 37 [(.tmp 35)])) (g := none) (j := 6) rfl (by kernel_rfl) (by kernel_rfl) (ev_callA (by kernel_rfl) (f37_ok (d - 1) (dpt hd rfl) z12.Rune z13 hz13) (by kernel_rfl) (by kernel_rfl)) ?_
  refine zlBool (d := 37) (op := (.cmpI .eql (.tmp 36) (.const (.int .i64 2)))) (g := none) (j := 7) (decide (z13 = 2)) rfl (by kernel_rfl) (by kernel_rfl) (by kernel_rfl) (fun hc => ?_) (fun hc => ?_)
  · replace hS := cond_t hc hS
    refine zlRun (n := 4) (j := 11) rfl (by kernel_rfl) ?_
    refine bindE hS (fun z14 hz14 hS => ?_)
    refine zlOp (d := some 42) (op := (.callv (.tmp 39) [(.tmp 41)])) (g := (some (38, true))) (v := (.d (.bool z14))) (ups := []) (j := 12) rfl (by kernel_rfl) (by kernel_rfl) (ev_callv (f := 63) (cs := [(.r (.ptr 24 0 0))]) (by kernel_rfl) (args := [(.d (.int .i64 (IntKind.i64.wrap (a2 + 1)))), (.r (.ptr 24 0 0))]) (l := [(.d (.int .i64 (IntKind.i64.wrap (a2 + 1)))), (.rptr ((eSl e_GCell).enc a1 ++ []))]) (r := (.d (.bool z14))) (by kernel_rfl) (by kernel_rfl) (f63_ok (d - 1) (dpt hd rfl) (IntKind.i64.wrap (a2 + 1)) a1 [] z14 hz14) (by kernel_rfl) (by kernel_rfl) (by kernel_rfl)) ?_
    refine zlRun (n := 3) (j := 15) rfl (by kernel_rfl) ?_
    refine zlEnd (by kernel_rfl) ?_
    refine zkSeq ?_
    refine zrRet ?_
    refine zkNil ?_
    exact endQ hS hQ (fRet (by kernel_rfl) ((congrArg (fun s => outR s 0 c38.res) (by kernel_rfl : finSt c38.fin _ = f38_fin (!z14))).trans (f38_out (!z14))))
  · replace hS := cond_f hc hS
    refine zlRun (n := 8) (j := 15) rfl (by kernel_rfl) ?_
    refine zlEnd (by kernel_rfl) ?_
    refine zkSeq ?_
    refine zrRet ?_
    refine zkNil ?_
    exact endQ hS hQ (fRet (by kernel_rfl) ((congrArg (fun s => outR s 0 c38.res) (by kernel_rfl : finSt c38.fin _ = f38_fin false)).trans (f38_out false)))
noncomputable def f38 (a1 : List GCell) (a2 : Int) : Option (Bool) := ((idx a1 a2).bind fun z16 => (bif (decide (z16.Rune = 0)) then (bif (decide (a2 = 0)) then (some true) else ((idx a1 (IntKind.i64.wrap (a2 - 1))).bind fun z17 => ((f37 z17.Rune).bind fun z18 => (bif (!decide (z18 = 2)) then (some true) else ((f63 a2 a1 []).bind fun z19 => (some (!z19))))))) else (f38_j0 a1 a2 )))
theorem f38_ok (d : Nat) (hd : 3 ≤ d) (a1 : List GCell) (a2 : Int) (r : Bool) (hS : f38 a1 a2 = some r) : lev codes baseL d 38 [(.d (.sl a1.length (e_GCell.cells a1))), (.d (.int .i64 a2))] [] = some ((.d (.bool r)), []) := by
  refine lev_go codes38 rfl rfl (Nat.le_trans (Nat.le_of_ble_eq_true rfl) hd) fun Q hQ => ?_
  unfold f38 at hS
  show ZR _ Q c38_b [] _
  replace hQ : ∀ e st', f38_Q r e st' → Q e st' := hQ
  refine zrSeq ?_
  refine zrReg ?_
  refine zlRun (n := 2) (j := 2) rfl (by kernel_rfl) ?_
  refine zlEnd (by kernel_rfl) ?_
  refine zkSeq ?_
  refine zrSeq ?_
  refine zrReg ?_
  refine zlRun (n := 2) (j := 2) rfl (by kernel_rfl) ?_
  refine zlEnd (by kernel_rfl) ?_
  refine zkSeq ?_
  refine zrSeq ?_
  refine zrSeq ?_
  refine zrReg ?_
  refine zlRun (n := 2) (j := 2) rfl (by kernel_rfl) ?_
  refine bindE hS (fun z16 hz16 hS => ?_)
  refine zlOp (d := some 9) (op := (.ixS 46 4 (.tmp 7) (.tmp 8))) (g := none) (v := (.rptr (e_GCell.enc z16 ++ (e_GCell.cells (a1.drop ((a2 : Int).toNat + 1)))))) (ups := []) (j := 3) rfl (by kernel_rfl) (by kernel_rfl) (ev_ixS e_GCell (kk := .i64) (xs := a1) (j := a2) (by kernel_rfl) (by kernel_rfl) hz16 rfl (by intro h; cases h)) ?_
  refine zlRun (n := 2) (j := 5) rfl (by kernel_rfl) ?_
  refine zlBool (d := 12) (op := (.cmpI .eql (.tmp 11) (.const (.int .i64 0)))) (g := none) (j := 6) (decide (z16.Rune = 0)) rfl (by kernel_rfl) (by kernel_rfl) (by kernel_rfl) (fun hc => ?_) (fun hc => ?_)
  · replace hS := cond_t hc hS
    refine zlEnd (by kernel_rfl) ?_
    refine zkSeq ?_
    refine zrCondT (by kernel_rfl) ?_
    refine zrSeq ?_
    refine zrReg ?_
    refine zlRun (n := 1) (j := 1) rfl (by kernel_rfl) ?_
    refine zlBool (d := 14) (op := (.cmpI .eql (.tmp 13) (.const (.int .i64 0)))) (g := none) (j := 2) (decide (a2 = 0)) rfl (by kernel_rfl) (by kernel_rfl) (by kernel_rfl) (fun hc => ?_) (fun hc => ?_)
    · replace hS := cond_t hc hS
      refine zlRun (n := 17) (j := 19) rfl (by kernel_rfl) ?_
      refine zlEnd (by kernel_rfl) ?_
      refine zkSeq ?_
      refine zrRet ?_
      refine zkSeqR ?_
      refine zkNil ?_
      exact endQ hS hQ (fRet (by kernel_rfl) ((congrArg (fun s => outR s 0 c38.res) (by kernel_rfl : finSt c38.fin _ = f38_fin true)).trans (f38_out true)))
    · replace hS := cond_f hc hS
      refine zlRun (n := 4) (j := 6) rfl (by kernel_rfl) ?_
      refine bindE hS (fun z17 hz17 hS => ?_)
      refine zlOp (d := some 19) (op := (.ixS 46 4 (.tmp 16) (.tmp 18))) (g := (some (15, false))) (v := (.rptr (e_GCell.enc z17 ++ (e_GCell.cells (a1.drop (((IntKind.i64.wrap (a2 - 1)) : Int).toNat + 1)))))) (ups := []) (j := 7) rfl (by kernel_rfl) (by kernel_rfl) (ev_ixS e_GCell (kk := .i64) (xs := a1) (j := (IntKind.i64.wrap (a2 - 1))) (by kernel_rfl) (by kernel_rfl) hz17 rfl (by intro h; cases h)) ?_
      refine zlRun (n := 2) (j := 9) rfl (by kernel_rfl) ?_
      refine bindE hS (fun z18 hz18 hS => ?_)
      refine zlOp (d := some 22) (op := (.call 37 [(.tmp 21)])) (g := (some (15, false))) (j := 10) rfl (by kernel_rfl) (by kernel_rfl) (ev_callA (by kernel_rfl) (f37_ok (d - 1) (dpt hd rfl) z17.Rune z18 hz18) (by kernel_rfl) (by kernel_rfl)) ?_
      refine zlBool (d := 23) (op := (.cmpI .neq (.tmp 22) (.const (.int .i64 2)))) (g := (some (15, false))) (j := 11) (!decide (z18 = 2)) rfl (by kernel_rfl) (by kernel_rfl) (by kernel_rfl) (fun hc => ?_) (fun hc => ?_)
      · replace hS := cond_t hc hS
        refine zlRun (n := 8) (j := 19) rfl (by kernel_rfl) ?_
        refine zlEnd (by kernel_rfl) ?_
        refine zkSeq ?_
        refine zrRet ?_
        refine zkSeqR ?_
        refine zkNil ?_
        exact endQ hS hQ (fRet (by kernel_rfl) ((congrArg (fun s => outR s 0 c38.res) (by kernel_rfl : finSt c38.fin _ = f38_fin true)).trans (f38_out true)))
      · replace hS := cond_f hc hS
        refine zlRun (n := 4) (j := 15) rfl (by kernel_rfl) ?_
        refine bindE hS (fun z19 hz19 hS => ?_)
        refine zlOp (d := some 28) (op := (.callv (.tmp 26) [(.tmp 27)])) (g := (some (25, false))) (v := (.d (.bool z19))) (ups := []) (j := 16) rfl (by kernel_rfl) (by kernel_rfl) (ev_callv (f := 63) (cs := [(.r (.ptr 24 1 0))]) (by kernel_rfl) (args := [(.d (.int .i64 a2)), (.r (.ptr 24 1 0))]) (l := [(.d (.int .i64 a2)), (.rptr ((eSl e_GCell).enc a1 ++ []))]) (r := (.d (.bool z19))) (by kernel_rfl) (by kernel_rfl) (f63_ok (d - 1) (dpt hd rfl) a2 a1 [] z19 hz19) (by kernel_rfl) (by kernel_rfl) (by kernel_rfl)) ?_
        refine zlRun (n := 3) (j := 19) rfl (by kernel_rfl) ?_
        refine zlEnd (by kernel_rfl) ?_
        refine zkSeq ?_
        refine zrRet ?_
        refine zkSeqR ?_
        refine zkNil ?_
        exact endQ hS hQ (fRet (by kernel_rfl) ((congrArg (fun s => outR s 0 c38.res) (by kernel_rfl : finSt c38.fin _ = f38_fin (!z19))).trans (f38_out (!z19))))
  · replace hS := cond_f hc hS
    refine zlEnd (by kernel_rfl) ?_
    refine zkSeq ?_
    refine zrCondF (by kernel_rfl) ?_
    refine zrSkip ?_
    refine zkSeq ?_
    exact f38_j0_ok hd a1 a2 hQ  hS (by kernel_rfl)
/- farwriter/grid.Check -/
def f21_fin (p235 : Int) : St := ⟨(up (fun _ => .un) 2 (.d (.int .i64 p235))), (hB fun _ => 0)⟩
theorem f21_out (p235 : Int) : outR (f21_fin p235) 0 c21.res = some ((.d (.int .i64 p235)), []) := by
  kernel_rfl
def f21_Q (r : Int) (e : PX) (st : St) : Prop := DoneF c21 0 ((.d (.int .i64 r)), []) e st
def f21_l2_J (a1 : GGrid) (x : Int) : St := ⟨(up (up (up (fun _ => .un) 27 (.d (.int .i64 x))) 26 (.d (.int .i64 a1.High))) 1 (.r (.ptr 16 0 0))), (up (hB fun _ => 0) 16 ⟨0, some (.box ((.d (.int .i64 a1.Wide)) :: ((.d (.int .i64 a1.High)) :: ((.d (.sl a1.Cells.length (e_GCell.cells a1.Cells))) :: []))))⟩)⟩
def f21_l2_H (a1 : GGrid) (x : Int) (st : St) : Prop := keepSt [1, 26, 27] [(16, .id 16)] [] st = f21_l2_J a1 x
def f21_l2_e0_J (a1 : GGrid) : St := ⟨(fun _ => .un), (hB fun _ => 0)⟩
def f21_l2_X (a1 : GGrid) (z : Unit ⊕ Int) (e : PX) (st : St) : Prop := (match z with | .inl z => e = .exit 0 ∧ st = f21_l2_e0_J a1 | .inr z => e = .ret ∧ finSt c21.fin st = f21_fin z)
def f21_l2_l5_J (a1 : GGrid) (x : (List GCell) × Int × (List GCell) × Int × Int) : St := ⟨(up (up (up (up (up (up (up (fun _ => .un) 35 (.d (.int .i64 x.2.2.2.2))) 34 (.d (.int .i64 x.2.2.2.1))) 33 (.d (.sl x.2.2.1.length (e_GCell.cells x.2.2.1)))) 27 (.d (.int .i64 x.2.1))) 26 (.d (.int .i64 a1.High))) 5 (.d (.sl x.1.length (e_GCell.cells x.1)))) 1 (.r (.ptr 16 0 0))), (up (hB fun _ => 0) 16 ⟨0, some (.box ((.d (.int .i64 a1.Wide)) :: ((.d (.int .i64 a1.High)) :: ((.d (.sl a1.Cells.length (e_GCell.cells a1.Cells))) :: []))))⟩)⟩
def f21_l2_l5_H (a1 : GGrid) (x : (List GCell) × Int × (List GCell) × Int × Int) (st : St) : Prop := keepSt [1, 5, 26, 27, 33, 34, 35] [(16, .id 16)] [] st = f21_l2_l5_J a1 x
def f21_l2_l5_e2_J (a1 : GGrid) (p323 : Int) : St := ⟨(up (up (up (fun _ => .un) 27 (.d (.int .i64 p323))) 26 (.d (.int .i64 a1.High))) 1 (.r (.ptr 16 0 0))), (up (hB fun _ => 0) 16 ⟨0, some (.box ((.d (.int .i64 a1.Wide)) :: ((.d (.int .i64 a1.High)) :: ((.d (.sl a1.Cells.length (e_GCell.cells a1.Cells))) :: []))))⟩)⟩
def f21_l2_l5_X (a1 : GGrid) (z : Int ⊕ Int) (e : PX) (st : St) : Prop := (match z with | .inl z => e = .exit 2 ∧ st = f21_l2_l5_e2_J a1 z | .inr z => e = .ret ∧ finSt c21.fin st = f21_fin z)
def f21_l2_l5_j7_J (a1 : GGrid) (p336 : List GCell) (p337 : Int) (p338 : List GCell) (p339 : Int) (p340 : Int) : St := ⟨(up (up (up (up (up (up (up (fun _ => .un) 35 (.d (.int .i64 p340))) 34 (.d (.int .i64 p339))) 33 (.d (.sl p338.length (e_GCell.cells p338)))) 27 (.d (.int .i64 p337))) 26 (.d (.int .i64 a1.High))) 5 (.d (.sl p336.length (e_GCell.cells p336)))) 1 (.r (.ptr 16 0 0))), (up (hB fun _ => 0) 16 ⟨0, some (.box ((.d (.int .i64 a1.Wide)) :: ((.d (.int .i64 a1.High)) :: ((.d (.sl a1.Cells.length (e_GCell.cells a1.Cells))) :: []))))⟩)⟩
noncomputable def f21_l2_l5_j7 (a1 : GGrid) (p336 : List GCell) (p337 : Int) (p338 : List GCell) (p339 : Int) (p340 : Int) : Option (((List GCell) × Int × (List GCell) × Int × Int) ⊕ (Int ⊕ Int)) := ((idx p338 p340).bind fun z67 => ((f18 z67.Pen).bind fun z68 => (bif (!decide (z68 = 0)) then (some (.inr (.inr 4))) else (bif (!decide (z67.Rune = 0)) then ((f37 z67.Rune).bind fun z69 => (bif (decide (z69 = 0)) then (some (.inr (.inr 4))) else ((f38 p336 p340).bind fun z70 => (bif z70 then (some (.inr (.inr 4))) else (some (.inl (p336, p337, p338, p339, (IntKind.i64.wrap (p340 + 1))))))))) else ((f38 p336 p340).bind fun z71 => (bif z71 then (some (.inr (.inr 4))) else (some (.inl (p336, p337, p338, p339, (IntKind.i64.wrap (p340 + 1)))))))))))
theorem f21_l2_l5_j7_ok {d : Nat} (hd : 4 ≤ d) (a1 : GGrid) {r : ((List GCell) × Int × (List GCell) × Int × Int) ⊕ (Int ⊕ Int)} {Q : PX → St → Prop} (hQ : ∀ e st', finL (f21_l2_l5_H a1) (f21_l2_l5_X a1) r e st' → Q e st') (p336 : List GCell) (p337 : Int) (p338 : List GCell) (p339 : Int) (p340 : Int) (hS : f21_l2_l5_j7 a1 p336 p337 p338 p339 p340 = some r) {st : St} (he : keepSt [1, 5, 26, 27, 33, 34, 35] [(16, .id 16)] [] st = f21_l2_l5_j7_J a1 p336 p337 p338 p339 p340) : ZR (lev codes baseL (d - 1)) Q c21_1 [] st := by
  refine zrKeep he ?_
  unfold f21_l2_l5_j7 at hS
  refine zrSeq ?_
  refine zrBlk ?_
  refine zrSeq ?_
  refine zrReg ?_
  refine zlRun (n := 1) (j := 1) rfl (by kernel_rfl) ?_
  refine bindE hS (fun z67 hz67 hS => ?_)
  refine zlOp (d := some 38) (op := (.ixS 46 4 (.tmp 33) (.tmp 35))) (g := none) (v := (.rptr (e_GCell.enc z67 ++ (e_GCell.cells (p338.drop ((p340 : Int).toNat + 1)))))) (ups := []) (j := 2) rfl (by kernel_rfl) (by kernel_rfl) (ev_ixS e_GCell (kk := .i64) (xs := p338) (j := p340) (by kernel_rfl) (by kernel_rfl) hz67 rfl (by intro h; cases h)) ?_
  refine zlRun (n := 4) (j := 6) rfl (by kernel_rfl) ?_
  refine zlEnd (by kernel_rfl) ?_
  refine zkSeq ?_
  refine zrSeq ?_
  refine zrReg ?_
  refine zlRun (n := 2) (j := 2) rfl (by kernel_rfl) ?_
  refine bindE hS (fun z68 hz68 hS => ?_)
  refine zlOp (d := some 42) (op := (.call 18 [(.tmp 41)])) (g := none) (j := 3) rfl (by kernel_rfl) (by kernel_rfl) (ev_callA (by kernel_rfl) (f18_ok (d - 1) (dpt hd rfl) z67.Pen z68 hz68) (by kernel_rfl) (by kernel_rfl)) ?_
  refine zlBool (d := 43) (op := (.cmpI .neq (.tmp 42) (.const (.int .i64 0)))) (g := none) (j := 4) (!decide (z68 = 0)) rfl (by kernel_rfl) (by kernel_rfl) (by kernel_rfl) (fun hc => ?_) (fun hc => ?_)
  · replace hS := cond_t hc hS
    refine zlRun (n := 16) (j := 20) rfl (by kernel_rfl) ?_
    refine zlEnd (by kernel_rfl) ?_
    refine zkSeq ?_
    refine zrCondT (by kernel_rfl) ?_
    refine zrSeq ?_
    refine zrReg ?_
    refine zlRun (n := 1) (j := 1) rfl (by kernel_rfl) ?_
    refine zlEnd (by kernel_rfl) ?_
    refine zkSeq ?_
    refine zrRet ?_
    refine zkBlkR ?_
    refine zkSeqR ?_
    refine zkNil ?_
    exact endQ hS hQ (finL_x (by intro h; cases h) (by show _ = _ ∧ _ = _; exact ⟨rfl, by kernel_rfl⟩))
  · replace hS := cond_f hc hS
    refine zlRun (n := 3) (j := 7) rfl (by kernel_rfl) ?_
    refine zlBool (d := 47) (op := (.cmpI .neq (.tmp 46) (.const (.int .i64 0)))) (g := (some (44, false))) (j := 8) (!decide (z67.Rune = 0)) rfl (by kernel_rfl) (by kernel_rfl) (by kernel_rfl) (fun hc => ?_) (fun hc => ?_)
    · replace hS := cond_t hc hS
      refine zlRun (n := 3) (j := 11) rfl (by kernel_rfl) ?_
      refine bindE hS (fun z69 hz69 hS => ?_)
      refine zlOp (d := some 51) (op := (.call 37 [(.tmp 50)])) (g := (some (48, true))) (j := 12) rfl (by kernel_rfl) (by kernel_rfl) (ev_callA (by kernel_rfl) (f37_ok (d - 1) (dpt hd rfl) z67.Rune z69 hz69) (by kernel_rfl) (by kernel_rfl)) ?_
      refine zlBool (d := 52) (op := (.cmpI .eql (.tmp 51) (.const (.int .i64 0)))) (g := (some (48, true))) (j := 13) (decide (z69 = 0)) rfl (by kernel_rfl) (by kernel_rfl) (by kernel_rfl) (fun hc => ?_) (fun hc => ?_)
      · replace hS := cond_t hc hS
        refine zlRun (n := 7) (j := 20) rfl (by kernel_rfl) ?_
        refine zlEnd (by kernel_rfl) ?_
        refine zkSeq ?_
        refine zrCondT (by kernel_rfl) ?_
        refine zrSeq ?_
        refine zrReg ?_
        refine zlRun (n := 1) (j := 1) rfl (by kernel_rfl) ?_
        refine zlEnd (by kernel_rfl) ?_
        refine zkSeq ?_
        refine zrRet ?_
        refine zkBlkR ?_
        refine zkSeqR ?_
        refine zkNil ?_
        exact endQ hS hQ (finL_x (by intro h; cases h) (by show _ = _ ∧ _ = _; exact ⟨rfl, by kernel_rfl⟩))
      · replace hS := cond_f hc hS
        refine zlRun (n := 5) (j := 18) rfl (by kernel_rfl) ?_
        refine bindE hS (fun z70 hz70 hS => ?_)
        refine zlOp (d := some 58) (op := (.call 38 [(.tmp 56), (.tmp 57)])) (g := (some (55, false))) (j := 19) rfl (by kernel_rfl) (by kernel_rfl) (ev_callA (by kernel_rfl) (f38_ok (d - 1) (dpt hd rfl) p336 p340 z70 hz70) (by kernel_rfl) (by kernel_rfl)) ?_
        refine zlRun (n := 1) (j := 20) rfl (by kernel_rfl) ?_
        refine zlEnd (by kernel_rfl) ?_
        refine zkSeq ?_
        refine zrSplit 59 z70 (by kernel_rfl) (fun hc => ?_) (fun hc => ?_)
        · replace hS := cond_t hc hS
          refine zrCondT (by kernel_rfl) ?_
          refine zrSeq ?_
          refine zrReg ?_
          refine zlRun (n := 1) (j := 1) rfl (by kernel_rfl) ?_
          refine zlEnd (by kernel_rfl) ?_
          refine zkSeq ?_
          refine zrRet ?_
          refine zkBlkR ?_
          refine zkSeqR ?_
          refine zkNil ?_
          exact endQ hS hQ (finL_x (by intro h; cases h) (by show _ = _ ∧ _ = _; exact ⟨rfl, by kernel_rfl⟩))
        · replace hS := cond_f hc hS
          refine zrCondF (by kernel_rfl) ?_
          refine zrSkip ?_
          refine zkBlk ?_
          refine zkSeq ?_
          refine zrReg ?_
          refine zlRun (n := 2) (j := 2) rfl (by kernel_rfl) ?_
          refine zlEnd (by kernel_rfl) ?_
          refine zkNil ?_
          exact endQ hS hQ (finL_n (by show keepSt _ _ _ _ = _; kernel_rfl))
    · replace hS := cond_f hc hS
      refine zlRun (n := 10) (j := 18) rfl (by kernel_rfl) ?_
      refine bindE hS (fun z71 hz71 hS => ?_)
      refine zlOp (d := some 58) (op := (.call 38 [(.tmp 56), (.tmp 57)])) (g := (some (55, false))) (j := 19) rfl (by kernel_rfl) (by kernel_rfl) (ev_callA (by kernel_rfl) (f38_ok (d - 1) (dpt hd rfl) p336 p340 z71 hz71) (by kernel_rfl) (by kernel_rfl)) ?_
      refine zlRun (n := 1) (j := 20) rfl (by kernel_rfl) ?_
      refine zlEnd (by kernel_rfl) ?_
      refine zkSeq ?_
      refine zrSplit 59 z71 (by kernel_rfl) (fun hc => ?_) (fun hc => ?_)
      · replace hS := cond_t hc hS
        refine zrCondT (by kernel_rfl) ?_
        refine zrSeq ?_
        refine zrReg ?_
        refine zlRun (n := 1) (j := 1) rfl (by kernel_rfl) ?_
        refine zlEnd (by kernel_rfl) ?_
        refine zkSeq ?_
        refine zrRet ?_
        refine zkBlkR ?_
        refine zkSeqR ?_
        refine zkNil ?_
        exact endQ hS hQ (finL_x (by intro h; cases h) (by show _ = _ ∧ _ = _; exact ⟨rfl, by kernel_rfl⟩))
      · replace hS := cond_f hc hS
        refine zrCondF (by kernel_rfl) ?_
        refine zrSkip ?_
        refine zkBlk ?_
        refine zkSeq ?_
        refine zrReg ?_
        refine zlRun (n := 2) (j := 2) rfl (by kernel_rfl) ?_
        refine zlEnd (by kernel_rfl) ?_
        refine zkNil ?_
        exact endQ hS hQ (finL_n (by show keepSt _ _ _ _ = _; kernel_rfl))
def f21_l2_l5_j6_J (a1 : GGrid) (p330 : List GCell) (p331 : Int) (p332 : List GCell) (p333 : Int) (p334 : Int) (p335 : Bool) : St := ⟨(up (up (up (up (up (up (up (up (fun _ => .un) 36 (.d (.bool p335))) 35 (.d (.int .i64 p334))) 34 (.d (.int .i64 p333))) 33 (.d (.sl p332.length (e_GCell.cells p332)))) 27 (.d (.int .i64 p331))) 26 (.d (.int .i64 a1.High))) 5 (.d (.sl p330.length (e_GCell.cells p330)))) 1 (.r (.ptr 16 0 0))), (up (hB fun _ => 0) 16 ⟨0, some (.box ((.d (.int .i64 a1.Wide)) :: ((.d (.int .i64 a1.High)) :: ((.d (.sl a1.Cells.length (e_GCell.cells a1.Cells))) :: []))))⟩)⟩
noncomputable def f21_l2_l5_j6 (a1 : GGrid) (p330 : List GCell) (p331 : Int) (p332 : List GCell) (p333 : Int) (p334 : Int) (p335 : Bool) : Option (((List GCell) × Int × (List GCell) × Int × Int) ⊕ (Int ⊕ Int)) := (bif p335 then (f21_l2_l5_j7 a1 p330 p331 p332 p333 p334) else (some (.inr (.inl p331))))
theorem f21_l2_l5_j6_ok {d : Nat} (hd : 4 ≤ d) (a1 : GGrid) {r : ((List GCell) × Int × (List GCell) × Int × Int) ⊕ (Int ⊕ Int)} {Q : PX → St → Prop} (hQ : ∀ e st', finL (f21_l2_l5_H a1) (f21_l2_l5_X a1) r e st' → Q e st') (p330 : List GCell) (p331 : Int) (p332 : List GCell) (p333 : Int) (p334 : Int) (p335 : Bool) (hS : f21_l2_l5_j6 a1 p330 p331 p332 p333 p334 p335 = some r) {st : St} (he : keepSt [1, 5, 26, 27, 33, 34, 35, 36] [(16, .id 16)] [] st = f21_l2_l5_j6_J a1 p330 p331 p332 p333 p334 p335) : ZR (lev codes baseL (d - 1)) Q c21_2 [] st := by
  refine zrKeep he ?_
  unfold f21_l2_l5_j6 at hS
  refine zrSeq ?_
  refine zrSplit 36 p335 (by kernel_rfl) (fun hc => ?_) (fun hc => ?_)
  · replace hS := cond_t hc hS
    refine zrCondT (by kernel_rfl) ?_
    refine zrSkip ?_
    refine zkSeq ?_
    exact f21_l2_l5_j7_ok hd a1 hQ p330 p331 p332 p333 p334 hS (by kernel_rfl)
  · replace hS := cond_f hc hS
    refine zrCondF (by kernel_rfl) ?_
    refine zrKeep (J := f21_l2_l5_e2_J a1 p331) (by kernel_rfl) ?_
    refine zrExit ?_
    refine zkSeqX ?_
    refine zkNil ?_
    exact endQ hS hQ (finL_x (by intro h; cases h) (by show _ = _ ∧ _ = _; exact ⟨rfl, rfl⟩))
noncomputable def f21_l2_l5 (a1 : GGrid) (x : (List GCell) × Int × (List GCell) × Int × Int) : Option (((List GCell) × Int × (List GCell) × Int × Int) ⊕ (Int ⊕ Int)) := (bif (decide (x.2.2.2.2 < x.2.2.2.1)) then (f21_l2_l5_j6 a1 x.1 x.2.1 x.2.2.1 x.2.2.2.1 x.2.2.2.2 true) else (f21_l2_l5_j6 a1 x.1 x.2.1 x.2.2.1 x.2.2.2.1 x.2.2.2.2 false))
theorem f21_l2_l5_ok {d : Nat} (hd : 4 ≤ d) (a1 : GGrid) {r : ((List GCell) × Int × (List GCell) × Int × Int) ⊕ (Int ⊕ Int)} {Q : PX → St → Prop} (hQ : ∀ e st', finL (f21_l2_l5_H a1) (f21_l2_l5_X a1) r e st' → Q e st') {x : (List GCell) × Int × (List GCell) × Int × Int} (hS : f21_l2_l5 a1 x = some r) {st : St} (he : f21_l2_l5_H a1 x st) : ZR (lev codes baseL (d - 1)) Q c21_3 [] st := by
  refine zrKeep he ?_
  unfold f21_l2_l5 at hS
  refine zrSeq ?_
  refine zrReg ?_
  refine zlBool (d := 36) (op := (.cmpI .lss (.tmp 35) (.tmp 34))) (g := none) (j := 1) (decide (x.2.2.2.2 < x.2.2.2.1)) rfl (by kernel_rfl) (by kernel_rfl) (by kernel_rfl) (fun hc => ?_) (fun hc => ?_)
  · replace hS := cond_t hc hS
    refine zlEnd (by kernel_rfl) ?_
    refine zkSeq ?_
    exact f21_l2_l5_j6_ok hd a1 hQ x.1 x.2.1 x.2.2.1 x.2.2.2.1 x.2.2.2.2 true hS (by kernel_rfl)
  · replace hS := cond_f hc hS
    refine zlEnd (by kernel_rfl) ?_
    refine zkSeq ?_
    exact f21_l2_l5_j6_ok hd a1 hQ x.1 x.2.1 x.2.2.1 x.2.2.2.1 x.2.2.2.2 false hS (by kernel_rfl)
def f21_l2_j4_J (a1 : GGrid) (p243 : Int) : St := ⟨(up (up (up (fun _ => .un) 27 (.d (.int .i64 p243))) 26 (.d (.int .i64 a1.High))) 1 (.r (.ptr 16 0 0))), (up (hB fun _ => 0) 16 ⟨0, some (.box ((.d (.int .i64 a1.Wide)) :: ((.d (.int .i64 a1.High)) :: ((.d (.sl a1.Cells.length (e_GCell.cells a1.Cells))) :: []))))⟩)⟩
noncomputable def f21_l2_j4 (a1 : GGrid) (p243 : Int) : Option (Int ⊕ (Unit ⊕ Int)) := ((f36 a1 p243).bind fun z51 => ((loopO (f21_l2_l5 a1) (z51, p243, z51, (z51.length : Int), 0)).bind fun z72 => (Sum.elim (fun z73 => (some (.inl (IntKind.i64.wrap (z73 + 1))))) (fun z74 => (some (.inr (.inr z74)))) z72)))
theorem f21_l2_j4_ok {d : Nat} (hd : 4 ≤ d) (a1 : GGrid) {r : Int ⊕ (Unit ⊕ Int)} {Q : PX → St → Prop} (hQ : ∀ e st', finL (f21_l2_H a1) (f21_l2_X a1) r e st' → Q e st') (p243 : Int) (hS : f21_l2_j4 a1 p243 = some r) {st : St} (he : keepSt [1, 26, 27] [(16, .id 16)] [] st = f21_l2_j4_J a1 p243) : ZR (lev codes baseL (d - 1)) Q c21_4 [] st := by
  refine zrKeep he ?_
  unfold f21_l2_j4 at hS
  refine zrSeq ?_
  refine zrBlk ?_
  refine zrSeq ?_
  refine zrReg ?_
  refine zlRun (n := 2) (j := 2) rfl (by kernel_rfl) ?_
  refine zlEnd (by kernel_rfl) ?_
  refine zkSeq ?_
  refine zrSeq ?_
  refine zrReg ?_
  refine zlRun (n := 2) (j := 2) rfl (by kernel_rfl) ?_
  refine bindE hS (fun z51 hz51 hS => ?_)
  refine zlOp (d := some 32) (op := (.callr 36 [(.tmp 30), (.tmp 31)])) (g := none) (j := 3) rfl (by kernel_rfl) (by kernel_rfl) (ev_callrXA (ids := []) (bs := []) (by kernel_rfl) (by kernel_rfl) (by kernel_rfl) (by kernel_rfl) (f36_ok (d - 1) (dpt hd rfl) a1 p243 z51 hz51) (by kernel_rfl) sm_nil (by kernel_rfl)) ?_
  refine zlRun (n := 1) (j := 4) rfl (by kernel_rfl) ?_
  refine zlEnd (by kernel_rfl) ?_
  refine zkSeq ?_
  refine zrSeq ?_
  refine zrReg ?_
  refine zlRun (n := 3) (j := 3) rfl (by kernel_rfl) ?_
  refine zlEnd (by kernel_rfl) ?_
  refine zkSeq ?_
  refine zrBlk ?_
  refine bindE hS (fun z72 hz72 hS => ?_)
  refine zrLoop (f21_l2_l5_H a1) (f21_l2_l5_X a1) (fun x st r Q h0 hS hQ => f21_l2_l5_ok hd a1 hQ hS h0) (x := (z51, p243, z51, (z51.length : Int), 0)) (z := z72) (by show keepSt _ _ _ _ = _; kernel_rfl) hz72 ?_
  rcases z72 with z73 | z74
  · replace hS := (show _ = _ from hS)
    simp only [Sum.elim_inl] at hS
    intro e st' _ hX
    obtain ⟨rfl, rfl⟩ : _ ∧ _ := hX
    refine zkBlkX ?_
    refine zkBlk ?_
    refine zkSeq ?_
    refine zrReg ?_
    refine zlRun (n := 2) (j := 2) rfl (by kernel_rfl) ?_
    refine zlEnd (by kernel_rfl) ?_
    refine zkNil ?_
    exact endQ hS hQ (finL_n (by show keepSt _ _ _ _ = _; kernel_rfl))
  · simp only [Sum.elim_inr] at hS
    intro e st' _ hX
    obtain ⟨rfl, hX⟩ : _ ∧ _ := hX
    refine zkBlkR ?_
    refine zkBlkR ?_
    refine zkSeqR ?_
    refine zkNil ?_
    exact endQ hS hQ (finL_x (by intro h; cases h) (by show _ = _ ∧ _ = _; exact ⟨rfl, hX⟩))
def f21_l2_j3_J (a1 : GGrid) (p241 : Int) (p242 : Bool) : St := ⟨(up (up (up (up (fun _ => .un) 28 (.d (.bool p242))) 27 (.d (.int .i64 p241))) 26 (.d (.int .i64 a1.High))) 1 (.r (.ptr 16 0 0))), (up (hB fun _ => 0) 16 ⟨0, some (.box ((.d (.int .i64 a1.Wide)) :: ((.d (.int .i64 a1.High)) :: ((.d (.sl a1.Cells.length (e_GCell.cells a1.Cells))) :: []))))⟩)⟩
noncomputable def f21_l2_j3 (a1 : GGrid) (p241 : Int) (p242 : Bool) : Option (Int ⊕ (Unit ⊕ Int)) := (bif p242 then (f21_l2_j4 a1 p241) else (some (.inr (.inl ()))))
theorem f21_l2_j3_ok {d : Nat} (hd : 4 ≤ d) (a1 : GGrid) {r : Int ⊕ (Unit ⊕ Int)} {Q : PX → St → Prop} (hQ : ∀ e st', finL (f21_l2_H a1) (f21_l2_X a1) r e st' → Q e st') (p241 : Int) (p242 : Bool) (hS : f21_l2_j3 a1 p241 p242 = some r) {st : St} (he : keepSt [1, 26, 27, 28] [(16, .id 16)] [] st = f21_l2_j3_J a1 p241 p242) : ZR (lev codes baseL (d - 1)) Q c21_5 [] st := by
  refine zrKeep he ?_
  unfold f21_l2_j3 at hS
  refine zrSeq ?_
  refine zrSplit 28 p242 (by kernel_rfl) (fun hc => ?_) (fun hc => ?_)
  · replace hS := cond_t hc hS
    refine zrCondT (by kernel_rfl) ?_
    refine zrSkip ?_
    refine zkSeq ?_
    exact f21_l2_j4_ok hd a1 hQ p241 hS (by kernel_rfl)
  · replace hS := cond_f hc hS
    refine zrCondF (by kernel_rfl) ?_
    refine zrKeep (J := f21_l2_e0_J a1) (by kernel_rfl) ?_
    refine zrExit ?_
    refine zkSeqX ?_
    refine zkNil ?_
    exact endQ hS hQ (finL_x (by intro h; cases h) (by show _ = _ ∧ _ = _; exact ⟨rfl, rfl⟩))
noncomputable def f21_l2 (a1 : GGrid) (x : Int) : Option (Int ⊕ (Unit ⊕ Int)) := (bif (decide (x < a1.High)) then (f21_l2_j3 a1 x true) else (f21_l2_j3 a1 x false))
theorem f21_l2_ok {d : Nat} (hd : 4 ≤ d) (a1 : GGrid) {r : Int ⊕ (Unit ⊕ Int)} {Q : PX → St → Prop} (hQ : ∀ e st', finL (f21_l2_H a1) (f21_l2_X a1) r e st' → Q e st') {x : Int} (hS : f21_l2 a1 x = some r) {st : St} (he : f21_l2_H a1 x st) : ZR (lev codes baseL (d - 1)) Q c21_6 [] st := by
  refine zrKeep he ?_
  unfold f21_l2 at hS
  refine zrSeq ?_
  refine zrReg ?_
  refine zlBool (d := 28) (op := (.cmpI .lss (.tmp 27) (.tmp 26))) (g := none) (j := 1) (decide (x < a1.High)) rfl (by kernel_rfl) (by kernel_rfl) (by kernel_rfl) (fun hc => ?_) (fun hc => ?_)
  · replace hS := cond_t hc hS
    refine zlEnd (by kernel_rfl) ?_
    refine zkSeq ?_
    exact f21_l2_j3_ok hd a1 hQ x true hS (by kernel_rfl)
  · replace hS := cond_f hc hS
    refine zlEnd (by kernel_rfl) ?_
    refine zkSeq ?_
    exact f21_l2_j3_ok hd a1 hQ x false hS (by kernel_rfl)
def f21_j1_J (a1 : GGrid) : St := ⟨(up (fun _ => .un) 1 (.r (.ptr 16 0 0))), (up (hB fun _ => 0) 16 ⟨0, some (.box ((.d (.int .i64 a1.Wide)) :: ((.d (.int .i64 a1.High)) :: ((.d (.sl a1.Cells.length (e_GCell.cells a1.Cells))) :: []))))⟩)⟩
noncomputable def f21_j1 (a1 : GGrid) : Option (Int) := ((loopO (f21_l2 a1) 0).bind fun z75 => (Sum.elim (fun z76 => (some 0)) (fun z77 => (some z77)) z75))
theorem f21_j1_ok {d : Nat} (hd : 4 ≤ d) (a1 : GGrid) {r : Int} {Q : PX → St → Prop} (hQ : ∀ e st', f21_Q r e st' → Q e st')  (hS : f21_j1 a1 = some r) {st : St} (he : keepSt [1] [(16, .id 16)] [] st = f21_j1_J a1) : ZR (lev codes baseL (d - 1)) Q c21_7 [] st := by
  refine zrKeep he ?_
  unfold f21_j1 at hS
  refine zrSeq ?_
  refine zrSeq ?_
  refine zrReg ?_
  refine zlRun (n := 3) (j := 3) rfl (by kernel_rfl) ?_
  refine zlEnd (by kernel_rfl) ?_
  refine zkSeq ?_
  refine zrBlk ?_
  refine bindE hS (fun z75 hz75 hS => ?_)
  refine zrLoop (f21_l2_H a1) (f21_l2_X a1) (fun x st r Q h0 hS hQ => f21_l2_ok hd a1 hQ hS h0) (x := 0) (z := z75) (by show keepSt _ _ _ _ = _; kernel_rfl) hz75 ?_
  rcases z75 with z76 | z77
  · replace hS := (show _ = _ from hS)
    simp only [Sum.elim_inl] at hS
    intro e st' _ hX
    obtain ⟨rfl, rfl⟩ : _ ∧ _ := hX
    refine zkBlkX ?_
    refine zkSeq ?_
    refine zrSeq ?_
    refine zrReg ?_
    refine zlRun (n := 1) (j := 1) rfl (by kernel_rfl) ?_
    refine zlEnd (by kernel_rfl) ?_
    refine zkSeq ?_
    refine zrRet ?_
    refine zkNil ?_
    exact endQ hS hQ (fRet (by kernel_rfl) ((congrArg (fun s => outR s 0 c21.res) (by kernel_rfl : finSt c21.fin _ = f21_fin 0)).trans (f21_out 0)))
  · simp only [Sum.elim_inr] at hS
    intro e st' _ hX
    obtain ⟨rfl, hX⟩ : _ ∧ _ := hX
    refine zkBlkR ?_
    refine zkSeqR ?_
    refine zkNil ?_
    exact endQ hS hQ (fRet (by kernel_rfl) ((congrArg (fun s => outR s 0 c21.res) hX).trans (f21_out z77)))
def f21_j0_J (a1 : GGrid) : St := ⟨(up (fun _ => .un) 1 (.r (.ptr 16 0 0))), (up (hB fun _ => 0) 16 ⟨0, some (.box ((.d (.int .i64 a1.Wide)) :: ((.d (.int .i64 a1.High)) :: ((.d (.sl a1.Cells.length (e_GCell.cells a1.Cells))) :: []))))⟩)⟩
noncomputable def f21_j0 (a1 : GGrid) : Option (Int) := (bif (!decide ((a1.Cells.length : Int) = (IntKind.i64.wrap (a1.Wide * a1.High)))) then (some 4) else (f21_j1 a1 ))
theorem f21_j0_ok {d : Nat} (hd : 4 ≤ d) (a1 : GGrid) {r : Int} {Q : PX → St → Prop} (hQ : ∀ e st', f21_Q r e st' → Q e st')  (hS : f21_j0 a1 = some r) {st : St} (he : keepSt [1] [(16, .id 16)] [] st = f21_j0_J a1) : ZR (lev codes baseL (d - 1)) Q c21_8 [] st := by
  refine zrKeep he ?_
  unfold f21_j0 at hS
  refine zrSeq ?_
  refine zrSeq ?_
  refine zrReg ?_
  refine zlRun (n := 8) (j := 8) rfl (by kernel_rfl) ?_
  refine zlBool (d := 24) (op := (.cmpI .neq (.tmp 18) (.tmp 23))) (g := none) (j := 9) (!decide ((a1.Cells.length : Int) = (IntKind.i64.wrap (a1.Wide * a1.High)))) rfl (by kernel_rfl) (by kernel_rfl) (by kernel_rfl) (fun hc => ?_) (fun hc => ?_)
  · replace hS := cond_t hc hS
    refine zlEnd (by kernel_rfl) ?_
    refine zkSeq ?_
    refine zrCondT (by kernel_rfl) ?_
    refine zrSeq ?_
    refine zrReg ?_
    refine zlRun (n := 1) (j := 1) rfl (by kernel_rfl) ?_
    refine zlEnd (by kernel_rfl) ?_
    refine zkSeq ?_
    refine zrRet ?_
    refine zkSeqR ?_
    refine zkNil ?_
    exact endQ hS hQ (fRet (by kernel_rfl) ((congrArg (fun s => outR s 0 c21.res) (by kernel_rfl : finSt c21.fin _ = f21_fin 4)).trans (f21_out 4)))
  · replace hS := cond_f hc hS
    refine zlEnd (by kernel_rfl) ?_
    refine zkSeq ?_
    refine zrCondF (by kernel_rfl) ?_
    refine zrSkip ?_
    refine zkSeq ?_
    exact f21_j1_ok hd a1 hQ  hS (by kernel_rfl)
noncomputable def f21 (a1 : GGrid) : Option (Int) := ((f17 a1.Wide a1.High).bind fun z78 => (bif (!decide (z78 = 0)) then (some z78) else (f21_j0 a1 )))
theorem f21_ok (d : Nat) (hd : 4 ≤ d) (a1 : GGrid) (r : Int) (hS : f21 a1 = some r) : lev codes baseL d 21 [(.agg ((.d (.int .i64 a1.Wide)) :: ((.d (.int .i64 a1.High)) :: ((.d (.sl a1.Cells.length (e_GCell.cells a1.Cells))) :: []))))] [] = some ((.d (.int .i64 r)), []) := by
  refine lev_go codes21 rfl rfl (Nat.le_trans (Nat.le_of_ble_eq_true rfl) hd) fun Q hQ => ?_
  unfold f21 at hS
  show ZR _ Q c21_b [] _
  replace hQ : ∀ e st', f21_Q r e st' → Q e st' := hQ
  refine zrSeq ?_
  refine zrReg ?_
  refine zlRun (n := 2) (j := 2) rfl (by kernel_rfl) ?_
  refine zlEnd (by kernel_rfl) ?_
  refine zkSeq ?_
  refine zrSeq ?_
  refine zrSeq ?_
  refine zrReg ?_
  refine zlRun (n := 4) (j := 4) rfl (by kernel_rfl) ?_
  refine bindE hS (fun z78 hz78 hS => ?_)
  refine zlOp (d := some 12) (op := (.call 17 [(.tmp 9), (.tmp 11)])) (g := none) (j := 5) rfl (by kernel_rfl) (by kernel_rfl) (ev_callA (by kernel_rfl) (f17_ok (d - 1) (dpt hd rfl) a1.Wide a1.High z78 hz78) (by kernel_rfl) (by kernel_rfl)) ?_
  refine zlRun (n := 1) (j := 6) rfl (by kernel_rfl) ?_
  refine zlEnd (by kernel_rfl) ?_
  refine zkSeq ?_
  refine zrSeq ?_
  refine zrReg ?_
  refine zlRun (n := 1) (j := 1) rfl (by kernel_rfl) ?_
  refine zlBool (d := 14) (op := (.cmpI .neq (.tmp 13) (.const (.int .i64 0)))) (g := none) (j := 2) (!decide (z78 = 0)) rfl (by kernel_rfl) (by kernel_rfl) (by kernel_rfl) (fun hc => ?_) (fun hc => ?_)
  · replace hS := cond_t hc hS
    refine zlEnd (by kernel_rfl) ?_
    refine zkSeq ?_
    refine zrCondT (by kernel_rfl) ?_
    refine zrSeq ?_
    refine zrReg ?_
    refine zlRun (n := 2) (j := 2) rfl (by kernel_rfl) ?_
    refine zlEnd (by kernel_rfl) ?_
    refine zkSeq ?_
    refine zrRet ?_
    refine zkSeqR ?_
    refine zkNil ?_
    exact endQ hS hQ (fRet (by kernel_rfl) ((congrArg (fun s => outR s 0 c21.res) (by kernel_rfl : finSt c21.fin _ = f21_fin z78)).trans (f21_out z78)))
  · replace hS := cond_f hc hS
    refine zlEnd (by kernel_rfl) ?_
    refine zkSeq ?_
    refine zrCondF (by kernel_rfl) ?_
    refine zrSkip ?_
    refine zkSeq ?_
    exact f21_j0_ok hd a1 hQ  hS (by kernel_rfl)
/- farwriter/screen.within -/
def f22_fin (p3 : Bool) : St := ⟨(up (fun _ => .un) 6 (.d (.bool p3))), (hB fun _ => 0)⟩
theorem f22_out (p3 : Bool) : outR (f22_fin p3) 0 c22.res = some ((.d (.bool p3)), []) := by
  kernel_rfl
def f22_Q (r : Bool) (e : PX) (st : St) : Prop := DoneF c22 0 ((.d (.bool r)), []) e st
noncomputable def f22 (a1 : Int) (a2 : Int) (a3 : Int) : Option (Bool) := (bif (decide (a2 ≤ a1)) then (bif (decide (a1 ≤ a3)) then (some true) else (some false)) else (some false))
theorem f22_ok (d : Nat) (hd : 1 ≤ d) (a1 : Int) (a2 : Int) (a3 : Int) (r : Bool) (hS : f22 a1 a2 a3 = some r) : lev codes baseL d 22 [(.d (.int .i64 a1)), (.d (.int .i64 a2)), (.d (.int .i64 a3))] [] = some ((.d (.bool r)), []) := by
  refine lev_go codes22 rfl rfl (Nat.le_trans (Nat.le_of_ble_eq_true rfl) hd) fun Q hQ => ?_
  unfold f22 at hS
  show ZR _ Q c22_b [] _
  replace hQ : ∀ e st', f22_Q r e st' → Q e st' := hQ
  refine zrSeq ?_
  refine zrReg ?_
  refine zlRun (n := 1) (j := 1) rfl (by kernel_rfl) ?_
  refine zlEnd (by kernel_rfl) ?_
  refine zkSeq ?_
  refine zrSeq ?_
  refine zrReg ?_
  refine zlRun (n := 2) (j := 2) rfl (by kernel_rfl) ?_
  refine zlBool (d := 9) (op := (.cmpI .geq (.tmp 7) (.tmp 8))) (g := none) (j := 3) (decide (a2 ≤ a1)) rfl (by kernel_rfl) (by kernel_rfl) (by kernel_rfl) (fun hc => ?_) (fun hc => ?_)
  · replace hS := cond_t hc hS
    refine zlRun (n := 3) (j := 6) rfl (by kernel_rfl) ?_
    refine zlBool (d := 13) (op := (.cmpI .leq (.tmp 11) (.tmp 12))) (g := (some (10, true))) (j := 7) (decide (a1 ≤ a3)) rfl (by kernel_rfl) (by kernel_rfl) (by kernel_rfl) (fun hc => ?_) (fun hc => ?_)
    · replace hS := cond_t hc hS
      refine zlRun (n := 2) (j := 9) rfl (by kernel_rfl) ?_
      refine zlEnd (by kernel_rfl) ?_
      refine zkSeq ?_
      refine zrRet ?_
      refine zkNil ?_
      exact endQ hS hQ (fRet (by kernel_rfl) ((congrArg (fun s => outR s 0 c22.res) (by kernel_rfl : finSt c22.fin _ = f22_fin true)).trans (f22_out true)))
    · replace hS := cond_f hc hS
      refine zlRun (n := 2) (j := 9) rfl (by kernel_rfl) ?_
      refine zlEnd (by kernel_rfl) ?_
      refine zkSeq ?_
      refine zrRet ?_
      refine zkNil ?_
      exact endQ hS hQ (fRet (by kernel_rfl) ((congrArg (fun s => outR s 0 c22.res) (by kernel_rfl : finSt c22.fin _ = f22_fin false)).trans (f22_out false)))
  · replace hS := cond_f hc hS
    refine zlRun (n := 6) (j := 9) rfl (by kernel_rfl) ?_
    refine zlEnd (by kernel_rfl) ?_
    refine zkSeq ?_
    refine zrRet ?_
    refine zkNil ?_
    exact endQ hS hQ (fRet (by kernel_rfl) ((congrArg (fun s => outR s 0 c22.res) (by kernel_rfl : finSt c22.fin _ = f22_fin false)).trans (f22_out false)))
/- farwriter/page.Known -/
def f23_fin (p3 : Bool) : St := ⟨(up (fun _ => .un) 2 (.d (.bool p3))), (hB fun _ => 0)⟩
theorem f23_out (p3 : Bool) : outR (f23_fin p3) 0 c23.res = some ((.d (.bool p3)), []) := by
  kernel_rfl
def f23_Q (r : Bool) (e : PX) (st : St) : Prop := DoneF c23 0 ((.d (.bool r)), []) e st
noncomputable def f23 (a1 : Int) : Option (Bool) := (bif (decide (1 ≤ a1)) then (bif (decide (a1 ≤ 4)) then (some true) else (some false)) else (some false))
theorem f23_ok (d : Nat) (hd : 1 ≤ d) (a1 : Int) (r : Bool) (hS : f23 a1 = some r) : lev codes baseL d 23 [(.d (.int .i64 a1))] [] = some ((.d (.bool r)), []) := by
  refine lev_go codes23 rfl rfl (Nat.le_trans (Nat.le_of_ble_eq_true rfl) hd) fun Q hQ => ?_
  unfold f23 at hS
  show ZR _ Q c23_b [] _
  replace hQ : ∀ e st', f23_Q r e st' → Q e st' := hQ
  refine zrSeq ?_
  refine zrReg ?_
  refine zlRun (n := 1) (j := 1) rfl (by kernel_rfl) ?_
  refine zlEnd (by kernel_rfl) ?_
  refine zkSeq ?_
  refine zrSeq ?_
  refine zrReg ?_
  refine zlRun (n := 1) (j := 1) rfl (by kernel_rfl) ?_
  refine zlBool (d := 4) (op := (.cmpI .geq (.tmp 3) (.const (.int .i64 1)))) (g := none) (j := 2) (decide (1 ≤ a1)) rfl (by kernel_rfl) (by kernel_rfl) (by kernel_rfl) (fun hc => ?_) (fun hc => ?_)
  · replace hS := cond_t hc hS
    refine zlRun (n := 2) (j := 4) rfl (by kernel_rfl) ?_
    refine zlBool (d := 7) (op := (.cmpI .leq (.tmp 6) (.const (.int .i64 4)))) (g := (some (5, true))) (j := 5) (decide (a1 ≤ 4)) rfl (by kernel_rfl) (by kernel_rfl) (by kernel_rfl) (fun hc => ?_) (fun hc => ?_)
    · replace hS := cond_t hc hS
      refine zlRun (n := 2) (j := 7) rfl (by kernel_rfl) ?_
      refine zlEnd (by kernel_rfl) ?_
      refine zkSeq ?_
      refine zrRet ?_
      refine zkNil ?_
      exact endQ hS hQ (fRet (by kernel_rfl) ((congrArg (fun s => outR s 0 c23.res) (by kernel_rfl : finSt c23.fin _ = f23_fin true)).trans (f23_out true)))
    · replace hS := cond_f hc hS
      refine zlRun (n := 2) (j := 7) rfl (by kernel_rfl) ?_
      refine zlEnd (by kernel_rfl) ?_
      refine zkSeq ?_
      refine zrRet ?_
      refine zkNil ?_
      exact endQ hS hQ (fRet (by kernel_rfl) ((congrArg (fun s => outR s 0 c23.res) (by kernel_rfl : finSt c23.fin _ = f23_fin false)).trans (f23_out false)))
  · replace hS := cond_f hc hS
    refine zlRun (n := 5) (j := 7) rfl (by kernel_rfl) ?_
    refine zlEnd (by kernel_rfl) ?_
    refine zkSeq ?_
    refine zrRet ?_
    refine zkNil ?_
    exact endQ hS hQ (fRet (by kernel_rfl) ((congrArg (fun s => outR s 0 c23.res) (by kernel_rfl : finSt c23.fin _ = f23_fin false)).trans (f23_out false)))
/- farwriter/screen.past -/
def f24_fin (p14 : Bool) : St := ⟨(up (fun _ => .un) 2 (.d (.bool p14))), (hB fun _ => 0)⟩
theorem f24_out (p14 : Bool) : outR (f24_fin p14) 0 c24.res = some ((.d (.bool p14)), []) := by
  kernel_rfl
def f24_Q (r : Bool) (e : PX) (st : St) : Prop := DoneF c24 0 ((.d (.bool r)), []) e st
def f24_l0_J (a1 : List GLine) (x : Int) : St := ⟨(up (up (up (up (fun _ => .un) 7 (.d (.int .i64 x))) 6 (.d (.int .i64 (a1.length : Int)))) 5 (.d (.sl a1.length (e_GLine.cells a1)))) 0 (.d (.sl a1.length (e_GLine.cells a1)))), (hB fun _ => 0)⟩
def f24_l0_H (a1 : List GLine) (x : Int) (st : St) : Prop := keepSt [0, 5, 6, 7] [] [] st = f24_l0_J a1 x
def f24_l0_e0_J (a1 : List GLine) : St := ⟨(up (fun _ => .un) 0 (.d (.sl a1.length (e_GLine.cells a1)))), (hB fun _ => 0)⟩
def f24_l0_X (a1 : List GLine) (z : Unit ⊕ Bool) (e : PX) (st : St) : Prop := (match z with | .inl z => e = .exit 0 ∧ st = f24_l0_e0_J a1 | .inr z => e = .ret ∧ finSt c24.fin st = f24_fin z)
def f24_l0_j2_J (a1 : List GLine) (p19 : Int) : St := ⟨(up (up (up (up (fun _ => .un) 7 (.d (.int .i64 p19))) 6 (.d (.int .i64 (a1.length : Int)))) 5 (.d (.sl a1.length (e_GLine.cells a1)))) 0 (.d (.sl a1.length (e_GLine.cells a1)))), (hB fun _ => 0)⟩
noncomputable def f24_l0_j2 (a1 : List GLine) (p19 : Int) : Option (Int ⊕ (Unit ⊕ Bool)) := ((idx a1 p19).bind fun z7 => ((f21 (GGrid.mk (z7.Cells.length : Int) 1 z7.Cells)).bind fun z8 => (bif (!decide (z8 = 0)) then (some (.inr (.inr false))) else (some (.inl (IntKind.i64.wrap (p19 + 1)))))))
theorem f24_l0_j2_ok {d : Nat} (hd : 5 ≤ d) (a1 : List GLine) {r : Int ⊕ (Unit ⊕ Bool)} {Q : PX → St → Prop} (hQ : ∀ e st', finL (f24_l0_H a1) (f24_l0_X a1) r e st' → Q e st') (p19 : Int) (hS : f24_l0_j2 a1 p19 = some r) {st : St} (he : keepSt [0, 5, 6, 7] [] [] st = f24_l0_j2_J a1 p19) : ZR (lev codes baseL (d - 1)) Q c24_1 [] st := by
  refine zrKeep he ?_
  unfold f24_l0_j2 at hS
  refine zrSeq ?_
  refine zrBlk ?_
  refine zrSeq ?_
  refine zrReg ?_
  refine bindE hS (fun z7 hz7 hS => ?_)
  refine zlOp (d := some 9) (op := (.ixS 73 1 (.tmp 5) (.tmp 7))) (g := none) (v := (.rptr (e_GLine.enc z7 ++ (e_GLine.cells (a1.drop ((p19 : Int).toNat + 1)))))) (ups := []) (j := 1) rfl (by kernel_rfl) (by kernel_rfl) (ev_ixS e_GLine (kk := .i64) (xs := a1) (j := p19) (by kernel_rfl) (by kernel_rfl) hz7 rfl (by intro h; cases h)) ?_
  refine zlRun (n := 3) (j := 4) rfl (by kernel_rfl) ?_
  refine zlEnd (by kernel_rfl) ?_
  refine zkSeq ?_
  refine zrSeq ?_
  refine zrReg ?_
  refine zlRun (n := 6) (j := 6) rfl (by kernel_rfl) ?_
  refine bindE hS (fun z8 hz8 hS => ?_)
  refine zlOp (d := some 17) (op := (.call 21 [(.tmp 16)])) (g := none) (j := 7) rfl (by kernel_rfl) (by kernel_rfl) (ev_callA (by kernel_rfl) (f21_ok (d - 1) (dpt hd rfl) (GGrid.mk (z7.Cells.length : Int) 1 z7.Cells) z8 hz8) (by kernel_rfl) (by kernel_rfl)) ?_
  refine zlBool (d := 18) (op := (.cmpI .neq (.tmp 17) (.const (.int .i64 0)))) (g := none) (j := 8) (!decide (z8 = 0)) rfl (by kernel_rfl) (by kernel_rfl) (by kernel_rfl) (fun hc => ?_) (fun hc => ?_)
  · replace hS := cond_t hc hS
    refine zlEnd (by kernel_rfl) ?_
    refine zkSeq ?_
    refine zrCondT (by kernel_rfl) ?_
    refine zrSeq ?_
    refine zrReg ?_
    refine zlRun (n := 1) (j := 1) rfl (by kernel_rfl) ?_
    refine zlEnd (by kernel_rfl) ?_
    refine zkSeq ?_
    refine zrRet ?_
    refine zkBlkR ?_
    refine zkSeqR ?_
    refine zkNil ?_
    exact endQ hS hQ (finL_x (by intro h; cases h) (by show _ = _ ∧ _ = _; exact ⟨rfl, by kernel_rfl⟩))
  · replace hS := cond_f hc hS
    refine zlEnd (by kernel_rfl) ?_
    refine zkSeq ?_
    refine zrCondF (by kernel_rfl) ?_
    refine zrSkip ?_
    refine zkBlk ?_
    refine zkSeq ?_
    refine zrReg ?_
    refine zlRun (n := 2) (j := 2) rfl (by kernel_rfl) ?_
    refine zlEnd (by kernel_rfl) ?_
    refine zkNil ?_
    exact endQ hS hQ (finL_n (by show keepSt _ _ _ _ = _; kernel_rfl))
def f24_l0_j1_J (a1 : List GLine) (p17 : Int) (p18 : Bool) : St := ⟨(up (up (up (up (up (fun _ => .un) 8 (.d (.bool p18))) 7 (.d (.int .i64 p17))) 6 (.d (.int .i64 (a1.length : Int)))) 5 (.d (.sl a1.length (e_GLine.cells a1)))) 0 (.d (.sl a1.length (e_GLine.cells a1)))), (hB fun _ => 0)⟩
noncomputable def f24_l0_j1 (a1 : List GLine) (p17 : Int) (p18 : Bool) : Option (Int ⊕ (Unit ⊕ Bool)) := (bif p18 then (f24_l0_j2 a1 p17) else (some (.inr (.inl ()))))
theorem f24_l0_j1_ok {d : Nat} (hd : 5 ≤ d) (a1 : List GLine) {r : Int ⊕ (Unit ⊕ Bool)} {Q : PX → St → Prop} (hQ : ∀ e st', finL (f24_l0_H a1) (f24_l0_X a1) r e st' → Q e st') (p17 : Int) (p18 : Bool) (hS : f24_l0_j1 a1 p17 p18 = some r) {st : St} (he : keepSt [0, 5, 6, 7, 8] [] [] st = f24_l0_j1_J a1 p17 p18) : ZR (lev codes baseL (d - 1)) Q c24_2 [] st := by
  refine zrKeep he ?_
  unfold f24_l0_j1 at hS
  refine zrSeq ?_
  refine zrSplit 8 p18 (by kernel_rfl) (fun hc => ?_) (fun hc => ?_)
  · replace hS := cond_t hc hS
    refine zrCondT (by kernel_rfl) ?_
    refine zrSkip ?_
    refine zkSeq ?_
    exact f24_l0_j2_ok hd a1 hQ p17 hS (by kernel_rfl)
  · replace hS := cond_f hc hS
    refine zrCondF (by kernel_rfl) ?_
    refine zrKeep (J := f24_l0_e0_J a1) (by kernel_rfl) ?_
    refine zrExit ?_
    refine zkSeqX ?_
    refine zkNil ?_
    exact endQ hS hQ (finL_x (by intro h; cases h) (by show _ = _ ∧ _ = _; exact ⟨rfl, rfl⟩))
noncomputable def f24_l0 (a1 : List GLine) (x : Int) : Option (Int ⊕ (Unit ⊕ Bool)) := (bif (decide (x < (a1.length : Int))) then (f24_l0_j1 a1 x true) else (f24_l0_j1 a1 x false))
theorem f24_l0_ok {d : Nat} (hd : 5 ≤ d) (a1 : List GLine) {r : Int ⊕ (Unit ⊕ Bool)} {Q : PX → St → Prop} (hQ : ∀ e st', finL (f24_l0_H a1) (f24_l0_X a1) r e st' → Q e st') {x : Int} (hS : f24_l0 a1 x = some r) {st : St} (he : f24_l0_H a1 x st) : ZR (lev codes baseL (d - 1)) Q c24_3 [] st := by
  refine zrKeep he ?_
  unfold f24_l0 at hS
  refine zrSeq ?_
  refine zrReg ?_
  refine zlBool (d := 8) (op := (.cmpI .lss (.tmp 7) (.tmp 6))) (g := none) (j := 1) (decide (x < (a1.length : Int))) rfl (by kernel_rfl) (by kernel_rfl) (by kernel_rfl) (fun hc => ?_) (fun hc => ?_)
  · replace hS := cond_t hc hS
    refine zlEnd (by kernel_rfl) ?_
    refine zkSeq ?_
    exact f24_l0_j1_ok hd a1 hQ x true hS (by kernel_rfl)
  · replace hS := cond_f hc hS
    refine zlEnd (by kernel_rfl) ?_
    refine zkSeq ?_
    exact f24_l0_j1_ok hd a1 hQ x false hS (by kernel_rfl)
noncomputable def f24 (a1 : List GLine) : Option (Bool) := ((loopO (f24_l0 a1) 0).bind fun z9 => (Sum.elim (fun z10 => (bif (decide ((a1.length : Int) ≤ 40)) then (some true) else (some false))) (fun z11 => (some z11)) z9))
theorem f24_ok (d : Nat) (hd : 5 ≤ d) (a1 : List GLine) (r : Bool) (hS : f24 a1 = some r) : lev codes baseL d 24 [(.d (.sl a1.length (e_GLine.cells a1)))] [] = some ((.d (.bool r)), []) := by
  refine lev_go codes24 rfl rfl (Nat.le_trans (Nat.le_of_ble_eq_true rfl) hd) fun Q hQ => ?_
  unfold f24 at hS
  show ZR _ Q c24_b [] _
  replace hQ : ∀ e st', f24_Q r e st' → Q e st' := hQ
  refine zrSeq ?_
  refine zrReg ?_
  refine zlRun (n := 1) (j := 1) rfl (by kernel_rfl) ?_
  refine zlEnd (by kernel_rfl) ?_
  refine zkSeq ?_
  refine zrSeq ?_
  refine zrSeq ?_
  refine zrReg ?_
  refine zlRun (n := 3) (j := 3) rfl (by kernel_rfl) ?_
  refine zlEnd (by kernel_rfl) ?_
  refine zkSeq ?_
  refine zrBlk ?_
  refine bindE hS (fun z9 hz9 hS => ?_)
  refine zrLoop (f24_l0_H a1) (f24_l0_X a1) (fun x st r Q h0 hS hQ => f24_l0_ok hd a1 hQ hS h0) (x := 0) (z := z9) (by show keepSt _ _ _ _ = _; kernel_rfl) hz9 ?_
  rcases z9 with z10 | z11
  · replace hS := (show _ = _ from hS)
    simp only [Sum.elim_inl] at hS
    intro e st' _ hX
    obtain ⟨rfl, rfl⟩ : _ ∧ _ := hX
    refine zkBlkX ?_
    refine zkSeq ?_
    refine zrSeq ?_
    refine zrReg ?_
    refine zlRun (n := 2) (j := 2) rfl (by kernel_rfl) ?_
    refine zlBool (d := 22) (op := (.cmpI .leq (.tmp 21) (.const (.int .i64 40)))) (g := none) (j := 3) (decide ((a1.length : Int) ≤ 40)) rfl (by kernel_rfl) (by kernel_rfl) (by kernel_rfl) (fun hc => ?_) (fun hc => ?_)
    · replace hS := cond_t hc hS
      refine zlRun (n := 1) (j := 4) rfl (by kernel_rfl) ?_
      refine zlEnd (by kernel_rfl) ?_
      refine zkSeq ?_
      refine zrRet ?_
      refine zkNil ?_
      exact endQ hS hQ (fRet (by kernel_rfl) ((congrArg (fun s => outR s 0 c24.res) (by kernel_rfl : finSt c24.fin _ = f24_fin true)).trans (f24_out true)))
    · replace hS := cond_f hc hS
      refine zlRun (n := 1) (j := 4) rfl (by kernel_rfl) ?_
      refine zlEnd (by kernel_rfl) ?_
      refine zkSeq ?_
      refine zrRet ?_
      refine zkNil ?_
      exact endQ hS hQ (fRet (by kernel_rfl) ((congrArg (fun s => outR s 0 c24.res) (by kernel_rfl : finSt c24.fin _ = f24_fin false)).trans (f24_out false)))
  · simp only [Sum.elim_inr] at hS
    intro e st' _ hX
    obtain ⟨rfl, hX⟩ : _ ∧ _ := hX
    refine zkBlkR ?_
    refine zkSeqR ?_
    refine zkNil ?_
    exact endQ hS hQ (fRet (by kernel_rfl) ((congrArg (fun s => outR s 0 c24.res) hX).trans (f24_out z11)))
end Go.Proofs.YtjoccdgmcdkbkaaDoor.Pm
