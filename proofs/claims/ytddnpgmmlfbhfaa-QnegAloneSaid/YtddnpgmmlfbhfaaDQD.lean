/- Typed functions, and that the codes are these. Printed by dec.py. -/
import Derived.Test.YtddnpgmmlfbhfaaDQC
namespace Go.Proofs.Ytddnpgmmlfbhfaa.Pm
set_option maxRecDepth 1000000
set_option maxHeartbeats 20000000
set_option linter.unusedVariables false
/- farwriter/qneg.known -/
def f14_fin (p3 : Bool) : St := ⟨(up (fun _ => .un) 2 (.d (.bool p3))), (hB fun _ => 0)⟩
theorem f14_out (p3 : Bool) : outR (f14_fin p3) 0 c14.res = some ((.d (.bool p3)), []) := by
  kernel_rfl
def f14_Q (r : Bool) (e : PX) (st : St) : Prop := DoneF c14 0 ((.d (.bool r)), []) e st
noncomputable def f14 (a1 : Int) : Option (Bool) := (bif (decide (0 ≤ a1)) then (bif (decide (a1 ≤ 5)) then (some true) else (some false)) else (some false))
theorem f14_ok (base : Orc) (d : Nat) (hd : 1 ≤ d) (a1 : Int) (r : Bool) (hS : f14 a1 = some r) : lev codes base d 14 [(.d (.int .i64 a1))] [] = some ((.d (.bool r)), []) := by
  refine lev_go codes14 rfl rfl (Nat.le_trans (Nat.le_of_ble_eq_true rfl) hd) fun Q hQ => ?_
  unfold f14 at hS
  show ZR _ Q c14_b [] _
  replace hQ : ∀ e st', f14_Q r e st' → Q e st' := hQ
  refine zrSeq ?_
  refine zrReg ?_
  refine zlRun (n := 1) (j := 1) rfl (by kernel_rfl) ?_
  refine zlEnd (by kernel_rfl) ?_
  refine zkSeq ?_
  refine zrSeq ?_
  refine zrReg ?_
  refine zlRun (n := 1) (j := 1) rfl (by kernel_rfl) ?_
  refine zlBool (d := 4) (op := (.cmpI .geq (.tmp 3) (.const (.int .i64 0)))) (g := none) (j := 2) (decide (0 ≤ a1)) rfl (by kernel_rfl) (by kernel_rfl) (by kernel_rfl) (fun hc => ?_) (fun hc => ?_)
  · replace hS := cond_t hc hS
    refine zlRun (n := 2) (j := 4) rfl (by kernel_rfl) ?_
    refine zlBool (d := 7) (op := (.cmpI .leq (.tmp 6) (.const (.int .i64 5)))) (g := (some (5, true))) (j := 5) (decide (a1 ≤ 5)) rfl (by kernel_rfl) (by kernel_rfl) (by kernel_rfl) (fun hc => ?_) (fun hc => ?_)
    · replace hS := cond_t hc hS
      refine zlRun (n := 2) (j := 7) rfl (by kernel_rfl) ?_
      refine zlEnd (by kernel_rfl) ?_
      refine zkSeq ?_
      refine zrRet ?_
      refine zkNil ?_
      exact endQ hS hQ (fRet ((congrArg (fun s => outR s 0 c14.res) (by kernel_rfl : finSt c14.fin _ = f14_fin true)).trans (f14_out true)))
    · replace hS := cond_f hc hS
      refine zlRun (n := 2) (j := 7) rfl (by kernel_rfl) ?_
      refine zlEnd (by kernel_rfl) ?_
      refine zkSeq ?_
      refine zrRet ?_
      refine zkNil ?_
      exact endQ hS hQ (fRet ((congrArg (fun s => outR s 0 c14.res) (by kernel_rfl : finSt c14.fin _ = f14_fin false)).trans (f14_out false)))
  · replace hS := cond_f hc hS
    refine zlRun (n := 5) (j := 7) rfl (by kernel_rfl) ?_
    refine zlEnd (by kernel_rfl) ?_
    refine zkSeq ?_
    refine zrRet ?_
    refine zkNil ?_
    exact endQ hS hQ (fRet ((congrArg (fun s => outR s 0 c14.res) (by kernel_rfl : finSt c14.fin _ = f14_fin false)).trans (f14_out false)))
/- farwriter/qneg.Check -/
def f15_fin (p13 : Int) : St := ⟨(up (fun _ => .un) 2 (.d (.int .i64 p13))), (hB fun _ => 0)⟩
theorem f15_out (p13 : Int) : outR (f15_fin p13) 0 c15.res = some ((.d (.int .i64 p13)), []) := by
  kernel_rfl
def f15_Q (r : Int) (e : PX) (st : St) : Prop := DoneF c15 0 ((.d (.int .i64 r)), []) e st
def f15_l1_J (a1 : GNeg) (x : Int) : St := ⟨(up (up (up (up (fun _ => .un) 16 (.d (.int .i64 x))) 15 (.agg ((eU8.row 256 a1.Us) ++ []))) 12 (.d (.int .i64 0))) 11 (.agg ((eU8.row 256 a1.Us) ++ ((eU8.row 256 a1.Him) ++ [])))), (hB fun _ => 0)⟩
def f15_l1_H (a1 : GNeg) (x : Int) (st : St) : Prop := keepSt [11, 12, 15, 16] [] [] st = f15_l1_J a1 x
def f15_l1_e2_J (a1 : GNeg) : St := ⟨(up (up (fun _ => .un) 12 (.d (.int .i64 0))) 11 (.agg ((eU8.row 256 a1.Us) ++ ((eU8.row 256 a1.Him) ++ [])))), (hB fun _ => 0)⟩
def f15_l1_X (a1 : GNeg) (z : Unit ⊕ Int) (e : PX) (st : St) : Prop := (match z with | .inl z => e = .exit 2 ∧ st = f15_l1_e2_J a1 | .inr z => e = .ret ∧ finSt c15.fin st = f15_fin z)
def f15_l1_j3_J (a1 : GNeg) (p24 : Int) : St := ⟨(up (up (up (up (fun _ => .un) 16 (.d (.int .i64 p24))) 15 (.agg ((eU8.row 256 a1.Us) ++ []))) 12 (.d (.int .i64 0))) 11 (.agg ((eU8.row 256 a1.Us) ++ ((eU8.row 256 a1.Him) ++ [])))), (hB fun _ => 0)⟩
noncomputable def f15_l1_j3 (a1 : GNeg) (p24 : Int) : Option (Int ⊕ (Unit ⊕ Int)) := ((inR p24 256).bind fun m28 => ((f14 ((a1.Us m28).toNat : Int)).bind fun z29 => (bif (!z29) then (some (.inr (.inr 4))) else (some (.inl (IntKind.i64.wrap (p24 + 1)))))))
theorem f15_l1_j3_ok {base : Orc} {d : Nat} (hd : 2 ≤ d) (a1 : GNeg) {r : Int ⊕ (Unit ⊕ Int)} {Q : PX → St → Prop} (hQ : ∀ e st', finL (f15_l1_H a1) (f15_l1_X a1) r e st' → Q e st') (p24 : Int) (hS : f15_l1_j3 a1 p24 = some r) {st : St} (he : keepSt [11, 12, 15, 16] [] [] st = f15_l1_j3_J a1 p24) : ZR (lev codes base (d - 1)) Q c15_1 [] st := by
  refine zrKeep he ?_
  unfold f15_l1_j3 at hS
  refine zrSeq ?_
  refine zrBlk ?_
  refine zrSeq ?_
  refine zrReg ?_
  refine bindE hS (fun m28 hm28 hS => ?_)
  refine zlOp (d := some 18) (op := (.ixV .false 256 1 (.tmp 15) (.tmp 16))) (g := none) (v := (.d (.int .u8 ((a1.Us m28).toNat : Int)))) (ups := []) (j := 1) rfl (by kernel_rfl) (by kernel_rfl) (ev_ixV eU8 a1.Us (kk := .i64) (j := p24) (by kernel_rfl) (by kernel_rfl) hm28 rfl (by kernel_rfl) (by kernel_rfl)) ?_
  refine zlRun (n := 1) (j := 2) rfl (by kernel_rfl) ?_
  refine zlEnd (by kernel_rfl) ?_
  refine zkSeq ?_
  refine zrSeq ?_
  refine zrReg ?_
  refine zlRun (n := 1) (j := 1) rfl (by kernel_rfl) ?_
  refine zlOp (d := some 20) (op := (.cvI .i64 (.tmp 19))) (g := none) (v := (.d (.int .i64 ((a1.Us m28).toNat : Int)))) (ups := []) (j := 2) rfl (by kernel_rfl) (by kernel_rfl) (ev_cv (kk := .u8) (a := ((a1.Us m28).toNat : Int)) (by kernel_rfl) (cv_i64 _)) ?_
  refine bindE hS (fun z29 hz29 hS => ?_)
  refine zlOp (d := some 21) (op := (.call 14 [(.tmp 20)])) (g := none) (v := (.d (.bool z29))) (ups := []) (j := 3) rfl (by kernel_rfl) (by kernel_rfl) (ev_call (args := [(.d (.int .i64 ((a1.Us m28).toNat : Int)))]) (l := [(.d (.int .i64 ((a1.Us m28).toNat : Int)))]) (r := (.d (.bool z29))) (by kernel_rfl) (by kernel_rfl) (f14_ok base (d - 1) (dpt hd rfl) ((a1.Us m28).toNat : Int) z29 hz29) (by kernel_rfl) (by kernel_rfl) (by kernel_rfl)) ?_
  refine zlRun (n := 1) (j := 4) rfl (by kernel_rfl) ?_
  refine zlEnd (by kernel_rfl) ?_
  refine zkSeq ?_
  refine zrSplit 22 (!z29) (by kernel_rfl) (fun hc => ?_) (fun hc => ?_)
  · replace hS := cond_t hc hS
    refine zrCondT (by kernel_rfl) ?_
    refine zrSeq ?_
    refine zrReg ?_
    refine zlRun (n := 1) (j := 1) rfl (by kernel_rfl) ?_
    refine zlEnd (by kernel_rfl) ?_
    refine zkSeq ?_
    refine zrRet ?_
    refine zkBlkR ?_
    refine zkSeqR ?_
    refine zkNil ?_
    exact endQ hS hQ (finL_x (by intro h; cases h) (by show _ = _ ∧ _ = _; exact ⟨rfl, by kernel_rfl⟩))
  · replace hS := cond_f hc hS
    refine zrCondF (by kernel_rfl) ?_
    refine zrSkip ?_
    refine zkBlk ?_
    refine zkSeq ?_
    refine zrReg ?_
    refine zlRun (n := 2) (j := 2) rfl (by kernel_rfl) ?_
    refine zlEnd (by kernel_rfl) ?_
    refine zkNil ?_
    exact endQ hS hQ (finL_n (by show keepSt _ _ _ _ = _; kernel_rfl))
def f15_l1_j2_J (a1 : GNeg) (p22 : Int) (p23 : Bool) : St := ⟨(up (up (up (up (up (fun _ => .un) 17 (.d (.bool p23))) 16 (.d (.int .i64 p22))) 15 (.agg ((eU8.row 256 a1.Us) ++ []))) 12 (.d (.int .i64 0))) 11 (.agg ((eU8.row 256 a1.Us) ++ ((eU8.row 256 a1.Him) ++ [])))), (hB fun _ => 0)⟩
noncomputable def f15_l1_j2 (a1 : GNeg) (p22 : Int) (p23 : Bool) : Option (Int ⊕ (Unit ⊕ Int)) := (bif p23 then (f15_l1_j3 a1 p22) else (some (.inr (.inl ()))))
theorem f15_l1_j2_ok {base : Orc} {d : Nat} (hd : 2 ≤ d) (a1 : GNeg) {r : Int ⊕ (Unit ⊕ Int)} {Q : PX → St → Prop} (hQ : ∀ e st', finL (f15_l1_H a1) (f15_l1_X a1) r e st' → Q e st') (p22 : Int) (p23 : Bool) (hS : f15_l1_j2 a1 p22 p23 = some r) {st : St} (he : keepSt [11, 12, 15, 16, 17] [] [] st = f15_l1_j2_J a1 p22 p23) : ZR (lev codes base (d - 1)) Q c15_2 [] st := by
  refine zrKeep he ?_
  unfold f15_l1_j2 at hS
  refine zrSeq ?_
  refine zrSplit 17 p23 (by kernel_rfl) (fun hc => ?_) (fun hc => ?_)
  · replace hS := cond_t hc hS
    refine zrCondT (by kernel_rfl) ?_
    refine zrSkip ?_
    refine zkSeq ?_
    exact f15_l1_j3_ok hd a1 hQ p22 hS (by kernel_rfl)
  · replace hS := cond_f hc hS
    refine zrCondF (by kernel_rfl) ?_
    refine zrKeep (J := f15_l1_e2_J a1) (by kernel_rfl) ?_
    refine zrExit ?_
    refine zkSeqX ?_
    refine zkNil ?_
    exact endQ hS hQ (finL_x (by intro h; cases h) (by show _ = _ ∧ _ = _; exact ⟨rfl, rfl⟩))
noncomputable def f15_l1 (a1 : GNeg) (x : Int) : Option (Int ⊕ (Unit ⊕ Int)) := (bif (decide (x < 256)) then (f15_l1_j2 a1 x true) else (f15_l1_j2 a1 x false))
theorem f15_l1_ok {base : Orc} {d : Nat} (hd : 2 ≤ d) (a1 : GNeg) {r : Int ⊕ (Unit ⊕ Int)} {Q : PX → St → Prop} (hQ : ∀ e st', finL (f15_l1_H a1) (f15_l1_X a1) r e st' → Q e st') {x : Int} (hS : f15_l1 a1 x = some r) {st : St} (he : f15_l1_H a1 x st) : ZR (lev codes base (d - 1)) Q c15_3 [] st := by
  refine zrKeep he ?_
  unfold f15_l1 at hS
  refine zrSeq ?_
  refine zrReg ?_
  refine zlBool (d := 17) (op := (.cmpI .lss (.tmp 16) (.const (.int .i64 256)))) (g := none) (j := 1) (decide (x < 256)) rfl (by kernel_rfl) (by kernel_rfl) (by kernel_rfl) (fun hc => ?_) (fun hc => ?_)
  · replace hS := cond_t hc hS
    refine zlEnd (by kernel_rfl) ?_
    refine zkSeq ?_
    exact f15_l1_j2_ok hd a1 hQ x true hS (by kernel_rfl)
  · replace hS := cond_f hc hS
    refine zlEnd (by kernel_rfl) ?_
    refine zkSeq ?_
    exact f15_l1_j2_ok hd a1 hQ x false hS (by kernel_rfl)
def f15_l5_J (a1 : GNeg) (x : Int) : St := ⟨(up (up (up (up (fun _ => .un) 16 (.d (.int .i64 x))) 15 (.agg ((eU8.row 256 a1.Him) ++ []))) 12 (.d (.int .i64 1))) 11 (.agg ((eU8.row 256 a1.Us) ++ ((eU8.row 256 a1.Him) ++ [])))), (hB fun _ => 0)⟩
def f15_l5_H (a1 : GNeg) (x : Int) (st : St) : Prop := keepSt [11, 12, 15, 16] [] [] st = f15_l5_J a1 x
def f15_l5_e2_J (a1 : GNeg) : St := ⟨(up (up (fun _ => .un) 12 (.d (.int .i64 1))) 11 (.agg ((eU8.row 256 a1.Us) ++ ((eU8.row 256 a1.Him) ++ [])))), (hB fun _ => 0)⟩
def f15_l5_X (a1 : GNeg) (z : Unit ⊕ Int) (e : PX) (st : St) : Prop := (match z with | .inl z => e = .exit 2 ∧ st = f15_l5_e2_J a1 | .inr z => e = .ret ∧ finSt c15.fin st = f15_fin z)
def f15_l5_j7_J (a1 : GNeg) (p29 : Int) : St := ⟨(up (up (up (up (fun _ => .un) 16 (.d (.int .i64 p29))) 15 (.agg ((eU8.row 256 a1.Him) ++ []))) 12 (.d (.int .i64 1))) 11 (.agg ((eU8.row 256 a1.Us) ++ ((eU8.row 256 a1.Him) ++ [])))), (hB fun _ => 0)⟩
noncomputable def f15_l5_j7 (a1 : GNeg) (p29 : Int) : Option (Int ⊕ (Unit ⊕ Int)) := ((inR p29 256).bind fun m33 => ((f14 ((a1.Him m33).toNat : Int)).bind fun z34 => (bif (!z34) then (some (.inr (.inr 4))) else (some (.inl (IntKind.i64.wrap (p29 + 1)))))))
theorem f15_l5_j7_ok {base : Orc} {d : Nat} (hd : 2 ≤ d) (a1 : GNeg) {r : Int ⊕ (Unit ⊕ Int)} {Q : PX → St → Prop} (hQ : ∀ e st', finL (f15_l5_H a1) (f15_l5_X a1) r e st' → Q e st') (p29 : Int) (hS : f15_l5_j7 a1 p29 = some r) {st : St} (he : keepSt [11, 12, 15, 16] [] [] st = f15_l5_j7_J a1 p29) : ZR (lev codes base (d - 1)) Q c15_1 [] st := by
  refine zrKeep he ?_
  unfold f15_l5_j7 at hS
  refine zrSeq ?_
  refine zrBlk ?_
  refine zrSeq ?_
  refine zrReg ?_
  refine bindE hS (fun m33 hm33 hS => ?_)
  refine zlOp (d := some 18) (op := (.ixV .false 256 1 (.tmp 15) (.tmp 16))) (g := none) (v := (.d (.int .u8 ((a1.Him m33).toNat : Int)))) (ups := []) (j := 1) rfl (by kernel_rfl) (by kernel_rfl) (ev_ixV eU8 a1.Him (kk := .i64) (j := p29) (by kernel_rfl) (by kernel_rfl) hm33 rfl (by kernel_rfl) (by kernel_rfl)) ?_
  refine zlRun (n := 1) (j := 2) rfl (by kernel_rfl) ?_
  refine zlEnd (by kernel_rfl) ?_
  refine zkSeq ?_
  refine zrSeq ?_
  refine zrReg ?_
  refine zlRun (n := 1) (j := 1) rfl (by kernel_rfl) ?_
  refine zlOp (d := some 20) (op := (.cvI .i64 (.tmp 19))) (g := none) (v := (.d (.int .i64 ((a1.Him m33).toNat : Int)))) (ups := []) (j := 2) rfl (by kernel_rfl) (by kernel_rfl) (ev_cv (kk := .u8) (a := ((a1.Him m33).toNat : Int)) (by kernel_rfl) (cv_i64 _)) ?_
  refine bindE hS (fun z34 hz34 hS => ?_)
  refine zlOp (d := some 21) (op := (.call 14 [(.tmp 20)])) (g := none) (v := (.d (.bool z34))) (ups := []) (j := 3) rfl (by kernel_rfl) (by kernel_rfl) (ev_call (args := [(.d (.int .i64 ((a1.Him m33).toNat : Int)))]) (l := [(.d (.int .i64 ((a1.Him m33).toNat : Int)))]) (r := (.d (.bool z34))) (by kernel_rfl) (by kernel_rfl) (f14_ok base (d - 1) (dpt hd rfl) ((a1.Him m33).toNat : Int) z34 hz34) (by kernel_rfl) (by kernel_rfl) (by kernel_rfl)) ?_
  refine zlRun (n := 1) (j := 4) rfl (by kernel_rfl) ?_
  refine zlEnd (by kernel_rfl) ?_
  refine zkSeq ?_
  refine zrSplit 22 (!z34) (by kernel_rfl) (fun hc => ?_) (fun hc => ?_)
  · replace hS := cond_t hc hS
    refine zrCondT (by kernel_rfl) ?_
    refine zrSeq ?_
    refine zrReg ?_
    refine zlRun (n := 1) (j := 1) rfl (by kernel_rfl) ?_
    refine zlEnd (by kernel_rfl) ?_
    refine zkSeq ?_
    refine zrRet ?_
    refine zkBlkR ?_
    refine zkSeqR ?_
    refine zkNil ?_
    exact endQ hS hQ (finL_x (by intro h; cases h) (by show _ = _ ∧ _ = _; exact ⟨rfl, by kernel_rfl⟩))
  · replace hS := cond_f hc hS
    refine zrCondF (by kernel_rfl) ?_
    refine zrSkip ?_
    refine zkBlk ?_
    refine zkSeq ?_
    refine zrReg ?_
    refine zlRun (n := 2) (j := 2) rfl (by kernel_rfl) ?_
    refine zlEnd (by kernel_rfl) ?_
    refine zkNil ?_
    exact endQ hS hQ (finL_n (by show keepSt _ _ _ _ = _; kernel_rfl))
def f15_l5_j6_J (a1 : GNeg) (p27 : Int) (p28 : Bool) : St := ⟨(up (up (up (up (up (fun _ => .un) 17 (.d (.bool p28))) 16 (.d (.int .i64 p27))) 15 (.agg ((eU8.row 256 a1.Him) ++ []))) 12 (.d (.int .i64 1))) 11 (.agg ((eU8.row 256 a1.Us) ++ ((eU8.row 256 a1.Him) ++ [])))), (hB fun _ => 0)⟩
noncomputable def f15_l5_j6 (a1 : GNeg) (p27 : Int) (p28 : Bool) : Option (Int ⊕ (Unit ⊕ Int)) := (bif p28 then (f15_l5_j7 a1 p27) else (some (.inr (.inl ()))))
theorem f15_l5_j6_ok {base : Orc} {d : Nat} (hd : 2 ≤ d) (a1 : GNeg) {r : Int ⊕ (Unit ⊕ Int)} {Q : PX → St → Prop} (hQ : ∀ e st', finL (f15_l5_H a1) (f15_l5_X a1) r e st' → Q e st') (p27 : Int) (p28 : Bool) (hS : f15_l5_j6 a1 p27 p28 = some r) {st : St} (he : keepSt [11, 12, 15, 16, 17] [] [] st = f15_l5_j6_J a1 p27 p28) : ZR (lev codes base (d - 1)) Q c15_2 [] st := by
  refine zrKeep he ?_
  unfold f15_l5_j6 at hS
  refine zrSeq ?_
  refine zrSplit 17 p28 (by kernel_rfl) (fun hc => ?_) (fun hc => ?_)
  · replace hS := cond_t hc hS
    refine zrCondT (by kernel_rfl) ?_
    refine zrSkip ?_
    refine zkSeq ?_
    exact f15_l5_j7_ok hd a1 hQ p27 hS (by kernel_rfl)
  · replace hS := cond_f hc hS
    refine zrCondF (by kernel_rfl) ?_
    refine zrKeep (J := f15_l5_e2_J a1) (by kernel_rfl) ?_
    refine zrExit ?_
    refine zkSeqX ?_
    refine zkNil ?_
    exact endQ hS hQ (finL_x (by intro h; cases h) (by show _ = _ ∧ _ = _; exact ⟨rfl, rfl⟩))
noncomputable def f15_l5 (a1 : GNeg) (x : Int) : Option (Int ⊕ (Unit ⊕ Int)) := (bif (decide (x < 256)) then (f15_l5_j6 a1 x true) else (f15_l5_j6 a1 x false))
theorem f15_l5_ok {base : Orc} {d : Nat} (hd : 2 ≤ d) (a1 : GNeg) {r : Int ⊕ (Unit ⊕ Int)} {Q : PX → St → Prop} (hQ : ∀ e st', finL (f15_l5_H a1) (f15_l5_X a1) r e st' → Q e st') {x : Int} (hS : f15_l5 a1 x = some r) {st : St} (he : f15_l5_H a1 x st) : ZR (lev codes base (d - 1)) Q c15_3 [] st := by
  refine zrKeep he ?_
  unfold f15_l5 at hS
  refine zrSeq ?_
  refine zrReg ?_
  refine zlBool (d := 17) (op := (.cmpI .lss (.tmp 16) (.const (.int .i64 256)))) (g := none) (j := 1) (decide (x < 256)) rfl (by kernel_rfl) (by kernel_rfl) (by kernel_rfl) (fun hc => ?_) (fun hc => ?_)
  · replace hS := cond_t hc hS
    refine zlEnd (by kernel_rfl) ?_
    refine zkSeq ?_
    exact f15_l5_j6_ok hd a1 hQ x true hS (by kernel_rfl)
  · replace hS := cond_f hc hS
    refine zlEnd (by kernel_rfl) ?_
    refine zkSeq ?_
    exact f15_l5_j6_ok hd a1 hQ x false hS (by kernel_rfl)
def f15_j4_J (a1 : GNeg) : St := ⟨(up (up (fun _ => .un) 12 (.d (.int .i64 1))) 11 (.agg ((eU8.row 256 a1.Us) ++ ((eU8.row 256 a1.Him) ++ [])))), (hB fun _ => 0)⟩
noncomputable def f15_j4 (a1 : GNeg) : Option (Int) := ((loopO (f15_l5 a1) 0).bind fun z35 => (Sum.elim (fun z36 => (some 0)) (fun z37 => (some z37)) z35))
theorem f15_j4_ok {base : Orc} {d : Nat} (hd : 2 ≤ d) (a1 : GNeg) {r : Int} {Q : PX → St → Prop} (hQ : ∀ e st', f15_Q r e st' → Q e st')  (hS : f15_j4 a1 = some r) {st : St} (he : keepSt [11, 12] [] [] st = f15_j4_J a1) : ZR (lev codes base (d - 1)) Q c15_4 [.seq c15_5, .blk 0, .seq c15_6] st := by
  refine zrKeep he ?_
  unfold f15_j4 at hS
  refine zrSeq ?_
  refine zrBlk ?_
  refine zrSeq ?_
  refine zrReg ?_
  refine zlRun (n := 3) (j := 3) rfl (by kernel_rfl) ?_
  refine zlEnd (by kernel_rfl) ?_
  refine zkSeq ?_
  refine zrSeq ?_
  refine zrReg ?_
  refine zlRun (n := 2) (j := 2) rfl (by kernel_rfl) ?_
  refine zlEnd (by kernel_rfl) ?_
  refine zkSeq ?_
  refine zrBlk ?_
  refine bindE hS (fun z35 hz35 hS => ?_)
  refine zrLoop (f15_l5_H a1) (f15_l5_X a1) (fun x st r Q h0 hS hQ => f15_l5_ok hd a1 hQ hS h0) (x := 0) (z := z35) (by show keepSt _ _ _ _ = _; kernel_rfl) hz35 ?_
  rcases z35 with z36 | z37
  · replace hS := (show _ = _ from hS)
    simp only [Sum.elim_inl] at hS
    intro e st' _ hX
    obtain ⟨rfl, rfl⟩ : _ ∧ _ := hX
    refine zkBlkX ?_
    refine zkBlk ?_
    refine zkSeq ?_
    refine zrReg ?_
    refine zlRun (n := 2) (j := 2) rfl (by kernel_rfl) ?_
    refine zlEnd (by kernel_rfl) ?_
    refine zkSeq ?_
    refine zrLoop1 ?_
    refine zrSeq ?_
    refine zrReg ?_
    refine zlRun (n := 1) (j := 1) rfl (by kernel_rfl) ?_
    refine zlEnd (by kernel_rfl) ?_
    refine zkSeq ?_
    refine zrSeq ?_
    refine zrCondF (by kernel_rfl) ?_
    refine zrExit ?_
    refine zkSeqX ?_
    refine zkSeqX ?_
    refine zkBlkX ?_
    refine zkSeq ?_
    refine zrSeq ?_
    refine zrReg ?_
    refine zlRun (n := 1) (j := 1) rfl (by kernel_rfl) ?_
    refine zlEnd (by kernel_rfl) ?_
    refine zkSeq ?_
    refine zrRet ?_
    refine zkNil ?_
    exact endQ hS hQ (fRet ((congrArg (fun s => outR s 0 c15.res) (by kernel_rfl : finSt c15.fin _ = f15_fin 0)).trans (f15_out 0)))
  · simp only [Sum.elim_inr] at hS
    intro e st' _ hX
    obtain ⟨rfl, hX⟩ : _ ∧ _ := hX
    refine zkBlkR ?_
    refine zkBlkR ?_
    refine zkSeqR ?_
    refine zkSeqR ?_
    refine zkBlkR ?_
    refine zkSeqR ?_
    refine zkNil ?_
    exact endQ hS hQ (fRet ((congrArg (fun s => outR s 0 c15.res) hX).trans (f15_out z37)))
def f15_j0_J (a1 : GNeg) : St := ⟨(up (up (fun _ => .un) 12 (.d (.int .i64 0))) 11 (.agg ((eU8.row 256 a1.Us) ++ ((eU8.row 256 a1.Him) ++ [])))), (hB fun _ => 0)⟩
noncomputable def f15_j0 (a1 : GNeg) : Option (Int) := ((loopO (f15_l1 a1) 0).bind fun z30 => (Sum.elim (fun z31 => (f15_j4 a1 )) (fun z32 => (some z32)) z30))
theorem f15_j0_ok {base : Orc} {d : Nat} (hd : 2 ≤ d) (a1 : GNeg) {r : Int} {Q : PX → St → Prop} (hQ : ∀ e st', f15_Q r e st' → Q e st')  (hS : f15_j0 a1 = some r) {st : St} (he : keepSt [11, 12] [] [] st = f15_j0_J a1) : ZR (lev codes base (d - 1)) Q c15_4 [.seq c15_5, .blk 0, .seq c15_6] st := by
  refine zrKeep he ?_
  unfold f15_j0 at hS
  refine zrSeq ?_
  refine zrBlk ?_
  refine zrSeq ?_
  refine zrReg ?_
  refine zlRun (n := 3) (j := 3) rfl (by kernel_rfl) ?_
  refine zlEnd (by kernel_rfl) ?_
  refine zkSeq ?_
  refine zrSeq ?_
  refine zrReg ?_
  refine zlRun (n := 2) (j := 2) rfl (by kernel_rfl) ?_
  refine zlEnd (by kernel_rfl) ?_
  refine zkSeq ?_
  refine zrBlk ?_
  refine bindE hS (fun z30 hz30 hS => ?_)
  refine zrLoop (f15_l1_H a1) (f15_l1_X a1) (fun x st r Q h0 hS hQ => f15_l1_ok hd a1 hQ hS h0) (x := 0) (z := z30) (by show keepSt _ _ _ _ = _; kernel_rfl) hz30 ?_
  rcases z30 with z31 | z32
  · replace hS := (show _ = _ from hS)
    simp only [Sum.elim_inl] at hS
    intro e st' _ hX
    obtain ⟨rfl, rfl⟩ : _ ∧ _ := hX
    refine zkBlkX ?_
    refine zkBlk ?_
    refine zkSeq ?_
    refine zrReg ?_
    refine zlRun (n := 2) (j := 2) rfl (by kernel_rfl) ?_
    refine zlEnd (by kernel_rfl) ?_
    refine zkSeq ?_
    refine zrLoop1 ?_
    refine zrSeq ?_
    refine zrReg ?_
    refine zlRun (n := 1) (j := 1) rfl (by kernel_rfl) ?_
    refine zlEnd (by kernel_rfl) ?_
    refine zkSeq ?_
    refine zrSeq ?_
    refine zrCondT (by kernel_rfl) ?_
    refine zrSkip ?_
    refine zkSeq ?_
    exact f15_j4_ok hd a1 hQ  hS (by kernel_rfl)
  · simp only [Sum.elim_inr] at hS
    intro e st' _ hX
    obtain ⟨rfl, hX⟩ : _ ∧ _ := hX
    refine zkBlkR ?_
    refine zkBlkR ?_
    refine zkSeqR ?_
    refine zkSeqR ?_
    refine zkBlkR ?_
    refine zkSeqR ?_
    refine zkNil ?_
    exact endQ hS hQ (fRet ((congrArg (fun s => outR s 0 c15.res) hX).trans (f15_out z32)))
noncomputable def f15 (a1 : GNeg) : Option (Int) := (f15_j0 a1 )
theorem f15_ok (base : Orc) (d : Nat) (hd : 2 ≤ d) (a1 : GNeg) (r : Int) (hS : f15 a1 = some r) : lev codes base d 15 [(.agg ((eU8.row 256 a1.Us) ++ ((eU8.row 256 a1.Him) ++ (((eInt .u64).row 4 a1.UsOk) ++ (((eInt .u64).row 4 a1.HimOk) ++ [])))))] [] = some ((.d (.int .i64 r)), []) := by
  refine lev_go codes15 rfl rfl (Nat.le_trans (Nat.le_of_ble_eq_true rfl) hd) fun Q hQ => ?_
  unfold f15 at hS
  show ZR _ Q c15_b [] _
  replace hQ : ∀ e st', f15_Q r e st' → Q e st' := hQ
  refine zrSeq ?_
  refine zrReg ?_
  refine zlRun (n := 2) (j := 2) rfl (by kernel_rfl) ?_
  refine zlEnd (by kernel_rfl) ?_
  refine zkSeq ?_
  refine zrSeq ?_
  refine zrSeq ?_
  refine zrReg ?_
  refine zlRun (n := 6) (j := 6) rfl (by kernel_rfl) ?_
  refine zlEnd (by kernel_rfl) ?_
  refine zkSeq ?_
  refine zrBlk ?_
  refine zrLoop1 ?_
  refine zrSeq ?_
  refine zrReg ?_
  refine zlRun (n := 1) (j := 1) rfl (by kernel_rfl) ?_
  refine zlEnd (by kernel_rfl) ?_
  refine zkSeq ?_
  refine zrSeq ?_
  refine zrCondT (by kernel_rfl) ?_
  refine zrSkip ?_
  refine zkSeq ?_
  exact f15_j0_ok hd a1 hQ  hS (by kernel_rfl)
/- farwriter/qneg.Valid -/
def f16_fin (p7 : Bool) : St := ⟨(up (fun _ => .un) 2 (.d (.bool p7))), (hB fun _ => 0)⟩
theorem f16_out (p7 : Bool) : outR (f16_fin p7) 0 c16.res = some ((.d (.bool p7)), []) := by
  kernel_rfl
def f16_Q (r : Bool) (e : PX) (st : St) : Prop := DoneF c16 0 ((.d (.bool r)), []) e st
noncomputable def f16 (a1 : GTok) : Option (Bool) := (bif (decide (a1.Kind = 3)) then (bif (decide (251 ≤ a1.Cmd)) then (bif (decide (a1.Cmd ≤ 254)) then (bif (decide (0 ≤ a1.Opt)) then (bif (decide (a1.Opt ≤ 255)) then (bif (decide (a1.Data = ([] : List UInt8))) then (some true) else (some false)) else (some false)) else (some false)) else (some false)) else (some false)) else (some false))
theorem f16_ok (base : Orc) (d : Nat) (hd : 1 ≤ d) (a1 : GTok) (r : Bool) (hS : f16 a1 = some r) : lev codes base d 16 [(.agg ((.d (.int .i64 a1.Kind)) :: ((.d (.int .i64 a1.Cmd)) :: ((.d (.int .i64 a1.Opt)) :: ((.d (.str a1.Data)) :: [])))))] [] = some ((.d (.bool r)), []) := by
  refine lev_go codes16 rfl rfl (Nat.le_trans (Nat.le_of_ble_eq_true rfl) hd) fun Q hQ => ?_
  unfold f16 at hS
  show ZR _ Q c16_b [] _
  replace hQ : ∀ e st', f16_Q r e st' → Q e st' := hQ
  refine zrSeq ?_
  refine zrReg ?_
  refine zlRun (n := 2) (j := 2) rfl (by kernel_rfl) ?_
  refine zlEnd (by kernel_rfl) ?_
  refine zkSeq ?_
  refine zrSeq ?_
  refine zrReg ?_
  refine zlRun (n := 2) (j := 2) rfl (by kernel_rfl) ?_
  refine zlBool (d := 5) (op := (.cmpI .eql (.tmp 4) (.const (.int .i64 3)))) (g := none) (j := 3) (decide (a1.Kind = 3)) rfl (by kernel_rfl) (by kernel_rfl) (by kernel_rfl) (fun hc => ?_) (fun hc => ?_)
  · replace hS := cond_t hc hS
    refine zlRun (n := 3) (j := 6) rfl (by kernel_rfl) ?_
    refine zlBool (d := 9) (op := (.cmpI .geq (.tmp 8) (.const (.int .i64 251)))) (g := (some (6, true))) (j := 7) (decide (251 ≤ a1.Cmd)) rfl (by kernel_rfl) (by kernel_rfl) (by kernel_rfl) (fun hc => ?_) (fun hc => ?_)
    · replace hS := cond_t hc hS
      refine zlRun (n := 4) (j := 11) rfl (by kernel_rfl) ?_
      refine zlBool (d := 14) (op := (.cmpI .leq (.tmp 13) (.const (.int .i64 254)))) (g := (some (11, true))) (j := 12) (decide (a1.Cmd ≤ 254)) rfl (by kernel_rfl) (by kernel_rfl) (by kernel_rfl) (fun hc => ?_) (fun hc => ?_)
      · replace hS := cond_t hc hS
        refine zlRun (n := 4) (j := 16) rfl (by kernel_rfl) ?_
        refine zlBool (d := 19) (op := (.cmpI .geq (.tmp 18) (.const (.int .i64 0)))) (g := (some (16, true))) (j := 17) (decide (0 ≤ a1.Opt)) rfl (by kernel_rfl) (by kernel_rfl) (by kernel_rfl) (fun hc => ?_) (fun hc => ?_)
        · replace hS := cond_t hc hS
          refine zlRun (n := 4) (j := 21) rfl (by kernel_rfl) ?_
          refine zlBool (d := 24) (op := (.cmpI .leq (.tmp 23) (.const (.int .i64 255)))) (g := (some (21, true))) (j := 22) (decide (a1.Opt ≤ 255)) rfl (by kernel_rfl) (by kernel_rfl) (by kernel_rfl) (fun hc => ?_) (fun hc => ?_)
          · replace hS := cond_t hc hS
            refine zlRun (n := 4) (j := 26) rfl (by kernel_rfl) ?_
            refine zlBool (d := 29) (op := (.strO .eql (.tmp 28) (.const (.string ⟨#[]⟩)))) (g := (some (26, true))) (j := 27) (decide (a1.Data = ([] : List UInt8))) rfl (by kernel_rfl) (by kernel_rfl) (by kernel_rfl) (fun hc => ?_) (fun hc => ?_)
            · replace hS := cond_t hc hS
              refine zlRun (n := 2) (j := 29) rfl (by kernel_rfl) ?_
              refine zlEnd (by kernel_rfl) ?_
              refine zkSeq ?_
              refine zrRet ?_
              refine zkNil ?_
              exact endQ hS hQ (fRet ((congrArg (fun s => outR s 0 c16.res) (by kernel_rfl : finSt c16.fin _ = f16_fin true)).trans (f16_out true)))
            · replace hS := cond_f hc hS
              refine zlRun (n := 2) (j := 29) rfl (by kernel_rfl) ?_
              refine zlEnd (by kernel_rfl) ?_
              refine zkSeq ?_
              refine zrRet ?_
              refine zkNil ?_
              exact endQ hS hQ (fRet ((congrArg (fun s => outR s 0 c16.res) (by kernel_rfl : finSt c16.fin _ = f16_fin false)).trans (f16_out false)))
          · replace hS := cond_f hc hS
            refine zlRun (n := 7) (j := 29) rfl (by kernel_rfl) ?_
            refine zlEnd (by kernel_rfl) ?_
            refine zkSeq ?_
            refine zrRet ?_
            refine zkNil ?_
            exact endQ hS hQ (fRet ((congrArg (fun s => outR s 0 c16.res) (by kernel_rfl : finSt c16.fin _ = f16_fin false)).trans (f16_out false)))
        · replace hS := cond_f hc hS
          refine zlRun (n := 12) (j := 29) rfl (by kernel_rfl) ?_
          refine zlEnd (by kernel_rfl) ?_
          refine zkSeq ?_
          refine zrRet ?_
          refine zkNil ?_
          exact endQ hS hQ (fRet ((congrArg (fun s => outR s 0 c16.res) (by kernel_rfl : finSt c16.fin _ = f16_fin false)).trans (f16_out false)))
      · replace hS := cond_f hc hS
        refine zlRun (n := 17) (j := 29) rfl (by kernel_rfl) ?_
        refine zlEnd (by kernel_rfl) ?_
        refine zkSeq ?_
        refine zrRet ?_
        refine zkNil ?_
        exact endQ hS hQ (fRet ((congrArg (fun s => outR s 0 c16.res) (by kernel_rfl : finSt c16.fin _ = f16_fin false)).trans (f16_out false)))
    · replace hS := cond_f hc hS
      refine zlRun (n := 22) (j := 29) rfl (by kernel_rfl) ?_
      refine zlEnd (by kernel_rfl) ?_
      refine zkSeq ?_
      refine zrRet ?_
      refine zkNil ?_
      exact endQ hS hQ (fRet ((congrArg (fun s => outR s 0 c16.res) (by kernel_rfl : finSt c16.fin _ = f16_fin false)).trans (f16_out false)))
  · replace hS := cond_f hc hS
    refine zlRun (n := 26) (j := 29) rfl (by kernel_rfl) ?_
    refine zlEnd (by kernel_rfl) ?_
    refine zkSeq ?_
    refine zrRet ?_
    refine zkNil ?_
    exact endQ hS hQ (fRet ((congrArg (fun s => outR s 0 c16.res) (by kernel_rfl : finSt c16.fin _ = f16_fin false)).trans (f16_out false)))
/- farwriter/qneg.Hear -/
def f8_fin (p13 : Int) (p14 : Int) (p15 : Bool) : St := ⟨(up (up (up (fun _ => .un) 8 (.d (.bool p15))) 7 (.d (.int .i64 p14))) 6 (.d (.int .i64 p13))), (hB fun _ => 0)⟩
theorem f8_out (p13 : Int) (p14 : Int) (p15 : Bool) : outR (f8_fin p13 p14 p15) 0 c8.res = some ((.tup [(.d (.int .i64 p13)), (.d (.int .i64 p14)), (.d (.bool p15))]), []) := by
  kernel_rfl
def f8_Q (r : Int × Int × Bool) (e : PX) (st : St) : Prop := DoneF c8 0 ((.tup [(.d (.int .i64 r.1)), (.d (.int .i64 r.2.1)), (.d (.bool r.2.2))]), []) e st
def f8_j0_J (a1 : Int) (a2 : Bool) (a3 : Bool) : St := ⟨(up (fun _ => .un) 0 (.d (.int .i64 a1))), (hB fun _ => 0)⟩
noncomputable def f8_j0 (a1 : Int) (a2 : Bool) (a3 : Bool) : Option (Int × Int × Bool) := (bif (decide (a1 = 1)) then (some (0, 2, false)) else (bif (decide (a1 = 3)) then (some (4, 1, false)) else (bif (decide (a1 = 0)) then (some (0, 0, false)) else (bif (decide (a1 = 2)) then (some (0, 0, false)) else (bif (decide (a1 = 4)) then (some (0, 0, false)) else (bif (decide (a1 = 5)) then (some (0, 0, false)) else (some (a1, 0, false))))))))
theorem f8_j0_ok {base : Orc} {d : Nat} (hd : 1 ≤ d) (a1 : Int) (a2 : Bool) (a3 : Bool) {r : Int × Int × Bool} {Q : PX → St → Prop} (hQ : ∀ e st', f8_Q r e st' → Q e st')  (hS : f8_j0 a1 a2 a3 = some r) {st : St} (he : keepSt [0] [] [] st = f8_j0_J a1 a2 a3) : ZR (lev codes base (d - 1)) Q c8_1 [] st := by
  refine zrKeep he ?_
  unfold f8_j0 at hS
  refine zrSeq ?_
  refine zrSeq ?_
  refine zrReg ?_
  refine zlRun (n := 1) (j := 1) rfl (by kernel_rfl) ?_
  refine zlEnd (by kernel_rfl) ?_
  refine zkSeq ?_
  refine zrBlk ?_
  refine zrSeq ?_
  refine zrReg ?_
  refine zlBool (d := 26) (op := (.cmpI .eql (.tmp 24) (.const (.int .i64 1)))) (g := none) (j := 1) (decide (a1 = 1)) rfl (by kernel_rfl) (by kernel_rfl) (by kernel_rfl) (fun hc => ?_) (fun hc => ?_)
  · replace hS := cond_t hc hS
    refine zlRun (n := 1) (j := 2) rfl (by kernel_rfl) ?_
    refine zlEnd (by kernel_rfl) ?_
    refine zkSeq ?_
    refine zrCondT (by kernel_rfl) ?_
    refine zrSeq ?_
    refine zrReg ?_
    refine zlRun (n := 3) (j := 3) rfl (by kernel_rfl) ?_
    refine zlEnd (by kernel_rfl) ?_
    refine zkSeq ?_
    refine zrRet ?_
    refine zkBlkR ?_
    refine zkSeqR ?_
    refine zkNil ?_
    exact endQ hS hQ (fRet ((congrArg (fun s => outR s 0 c8.res) (by kernel_rfl : finSt c8.fin _ = f8_fin 0 2 false)).trans (f8_out 0 2 false)))
  · replace hS := cond_f hc hS
    refine zlRun (n := 1) (j := 2) rfl (by kernel_rfl) ?_
    refine zlEnd (by kernel_rfl) ?_
    refine zkSeq ?_
    refine zrCondF (by kernel_rfl) ?_
    refine zrSeq ?_
    refine zrReg ?_
    refine zlBool (d := 28) (op := (.cmpI .eql (.tmp 24) (.const (.int .i64 3)))) (g := none) (j := 1) (decide (a1 = 3)) rfl (by kernel_rfl) (by kernel_rfl) (by kernel_rfl) (fun hc => ?_) (fun hc => ?_)
    · replace hS := cond_t hc hS
      refine zlRun (n := 1) (j := 2) rfl (by kernel_rfl) ?_
      refine zlEnd (by kernel_rfl) ?_
      refine zkSeq ?_
      refine zrCondT (by kernel_rfl) ?_
      refine zrSeq ?_
      refine zrReg ?_
      refine zlRun (n := 3) (j := 3) rfl (by kernel_rfl) ?_
      refine zlEnd (by kernel_rfl) ?_
      refine zkSeq ?_
      refine zrRet ?_
      refine zkBlkR ?_
      refine zkSeqR ?_
      refine zkNil ?_
      exact endQ hS hQ (fRet ((congrArg (fun s => outR s 0 c8.res) (by kernel_rfl : finSt c8.fin _ = f8_fin 4 1 false)).trans (f8_out 4 1 false)))
    · replace hS := cond_f hc hS
      refine zlRun (n := 1) (j := 2) rfl (by kernel_rfl) ?_
      refine zlEnd (by kernel_rfl) ?_
      refine zkSeq ?_
      refine zrCondF (by kernel_rfl) ?_
      refine zrSeq ?_
      refine zrSeq ?_
      refine zrReg ?_
      refine zlBool (d := 30) (op := (.cmpI .eql (.tmp 24) (.const (.int .i64 0)))) (g := none) (j := 1) (decide (a1 = 0)) rfl (by kernel_rfl) (by kernel_rfl) (by kernel_rfl) (fun hc => ?_) (fun hc => ?_)
      · replace hS := cond_t hc hS
        refine zlRun (n := 1) (j := 2) rfl (by kernel_rfl) ?_
        refine zlEnd (by kernel_rfl) ?_
        refine zkSeq ?_
        refine zrCondT (by kernel_rfl) ?_
        refine zrSkip ?_
        refine zkSeq ?_
        refine zrCondT (by kernel_rfl) ?_
        refine zrSeq ?_
        refine zrReg ?_
        refine zlRun (n := 3) (j := 3) rfl (by kernel_rfl) ?_
        refine zlEnd (by kernel_rfl) ?_
        refine zkSeq ?_
        refine zrRet ?_
        refine zkBlkR ?_
        refine zkSeqR ?_
        refine zkNil ?_
        exact endQ hS hQ (fRet ((congrArg (fun s => outR s 0 c8.res) (by kernel_rfl : finSt c8.fin _ = f8_fin 0 0 false)).trans (f8_out 0 0 false)))
      · replace hS := cond_f hc hS
        refine zlRun (n := 1) (j := 2) rfl (by kernel_rfl) ?_
        refine zlEnd (by kernel_rfl) ?_
        refine zkSeq ?_
        refine zrCondF (by kernel_rfl) ?_
        refine zrSeq ?_
        refine zrReg ?_
        refine zlBool (d := 31) (op := (.cmpI .eql (.tmp 24) (.const (.int .i64 2)))) (g := none) (j := 1) (decide (a1 = 2)) rfl (by kernel_rfl) (by kernel_rfl) (by kernel_rfl) (fun hc => ?_) (fun hc => ?_)
        · replace hS := cond_t hc hS
          refine zlRun (n := 1) (j := 2) rfl (by kernel_rfl) ?_
          refine zlEnd (by kernel_rfl) ?_
          refine zkSeq ?_
          refine zrCondT (by kernel_rfl) ?_
          refine zrSkip ?_
          refine zkSeq ?_
          refine zrCondT (by kernel_rfl) ?_
          refine zrSeq ?_
          refine zrReg ?_
          refine zlRun (n := 3) (j := 3) rfl (by kernel_rfl) ?_
          refine zlEnd (by kernel_rfl) ?_
          refine zkSeq ?_
          refine zrRet ?_
          refine zkBlkR ?_
          refine zkSeqR ?_
          refine zkNil ?_
          exact endQ hS hQ (fRet ((congrArg (fun s => outR s 0 c8.res) (by kernel_rfl : finSt c8.fin _ = f8_fin 0 0 false)).trans (f8_out 0 0 false)))
        · replace hS := cond_f hc hS
          refine zlRun (n := 1) (j := 2) rfl (by kernel_rfl) ?_
          refine zlEnd (by kernel_rfl) ?_
          refine zkSeq ?_
          refine zrCondF (by kernel_rfl) ?_
          refine zrSeq ?_
          refine zrReg ?_
          refine zlBool (d := 32) (op := (.cmpI .eql (.tmp 24) (.const (.int .i64 4)))) (g := none) (j := 1) (decide (a1 = 4)) rfl (by kernel_rfl) (by kernel_rfl) (by kernel_rfl) (fun hc => ?_) (fun hc => ?_)
          · replace hS := cond_t hc hS
            refine zlRun (n := 1) (j := 2) rfl (by kernel_rfl) ?_
            refine zlEnd (by kernel_rfl) ?_
            refine zkSeq ?_
            refine zrCondT (by kernel_rfl) ?_
            refine zrSkip ?_
            refine zkSeq ?_
            refine zrCondT (by kernel_rfl) ?_
            refine zrSeq ?_
            refine zrReg ?_
            refine zlRun (n := 3) (j := 3) rfl (by kernel_rfl) ?_
            refine zlEnd (by kernel_rfl) ?_
            refine zkSeq ?_
            refine zrRet ?_
            refine zkBlkR ?_
            refine zkSeqR ?_
            refine zkNil ?_
            exact endQ hS hQ (fRet ((congrArg (fun s => outR s 0 c8.res) (by kernel_rfl : finSt c8.fin _ = f8_fin 0 0 false)).trans (f8_out 0 0 false)))
          · replace hS := cond_f hc hS
            refine zlRun (n := 1) (j := 2) rfl (by kernel_rfl) ?_
            refine zlEnd (by kernel_rfl) ?_
            refine zkSeq ?_
            refine zrCondF (by kernel_rfl) ?_
            refine zrReg ?_
            refine zlBool (d := 33) (op := (.cmpI .eql (.tmp 24) (.const (.int .i64 5)))) (g := none) (j := 1) (decide (a1 = 5)) rfl (by kernel_rfl) (by kernel_rfl) (by kernel_rfl) (fun hc => ?_) (fun hc => ?_)
            · replace hS := cond_t hc hS
              refine zlRun (n := 1) (j := 2) rfl (by kernel_rfl) ?_
              refine zlEnd (by kernel_rfl) ?_
              refine zkSeq ?_
              refine zrCondT (by kernel_rfl) ?_
              refine zrSeq ?_
              refine zrReg ?_
              refine zlRun (n := 3) (j := 3) rfl (by kernel_rfl) ?_
              refine zlEnd (by kernel_rfl) ?_
              refine zkSeq ?_
              refine zrRet ?_
              refine zkBlkR ?_
              refine zkSeqR ?_
              refine zkNil ?_
              exact endQ hS hQ (fRet ((congrArg (fun s => outR s 0 c8.res) (by kernel_rfl : finSt c8.fin _ = f8_fin 0 0 false)).trans (f8_out 0 0 false)))
            · replace hS := cond_f hc hS
              refine zlRun (n := 1) (j := 2) rfl (by kernel_rfl) ?_
              refine zlEnd (by kernel_rfl) ?_
              refine zkSeq ?_
              refine zrCondF (by kernel_rfl) ?_
              refine zrSkip ?_
              refine zkBlk ?_
              refine zkSeq ?_
              refine zrSeq ?_
              refine zrReg ?_
              refine zlRun (n := 4) (j := 4) rfl (by kernel_rfl) ?_
              refine zlEnd (by kernel_rfl) ?_
              refine zkSeq ?_
              refine zrRet ?_
              refine zkNil ?_
              exact endQ hS hQ (fRet ((congrArg (fun s => outR s 0 c8.res) (by kernel_rfl : finSt c8.fin _ = f8_fin a1 0 false)).trans (f8_out a1 0 false)))
def f8_j1_J (a1 : Int) (a2 : Bool) (a3 : Bool) (p24 : Bool) : St := ⟨(up (up (up (fun _ => .un) 14 (.d (.bool p24))) 10 (.d (.int .i64 a1))) 0 (.d (.int .i64 a1))), (hB fun _ => 0)⟩
noncomputable def f8_j1 (a1 : Int) (a2 : Bool) (a3 : Bool) (p24 : Bool) : Option (Int × Int × Bool) := (bif p24 then (some (1, 0, false)) else (bif (decide (a1 = 2)) then (some (0, 0, true)) else (bif (decide (a1 = 3)) then (some (1, 0, true)) else (bif (decide (a1 = 5)) then (some (2, 2, false)) else (some (a1, 0, false))))))
theorem f8_j1_ok {base : Orc} {d : Nat} (hd : 1 ≤ d) (a1 : Int) (a2 : Bool) (a3 : Bool) {r : Int × Int × Bool} {Q : PX → St → Prop} (hQ : ∀ e st', f8_Q r e st' → Q e st') (p24 : Bool) (hS : f8_j1 a1 a2 a3 p24 = some r) {st : St} (he : keepSt [0, 10, 14] [] [] st = f8_j1_J a1 a2 a3 p24) : ZR (lev codes base (d - 1)) Q c8_2 [.blk 0, .seq c8_3, .seq c8_1] st := by
  refine zrKeep he ?_
  unfold f8_j1 at hS
  refine zrSplit 14 p24 (by kernel_rfl) (fun hc => ?_) (fun hc => ?_)
  · replace hS := cond_t hc hS
    refine zrCondT (by kernel_rfl) ?_
    refine zrSeq ?_
    refine zrReg ?_
    refine zlRun (n := 3) (j := 3) rfl (by kernel_rfl) ?_
    refine zlEnd (by kernel_rfl) ?_
    refine zkSeq ?_
    refine zrRet ?_
    refine zkBlkR ?_
    refine zkSeqR ?_
    refine zkSeqR ?_
    refine zkNil ?_
    exact endQ hS hQ (fRet ((congrArg (fun s => outR s 0 c8.res) (by kernel_rfl : finSt c8.fin _ = f8_fin 1 0 false)).trans (f8_out 1 0 false)))
  · replace hS := cond_f hc hS
    refine zrCondF (by kernel_rfl) ?_
    refine zrSeq ?_
    refine zrReg ?_
    refine zlBool (d := 18) (op := (.cmpI .eql (.tmp 10) (.const (.int .i64 2)))) (g := none) (j := 1) (decide (a1 = 2)) rfl (by kernel_rfl) (by kernel_rfl) (by kernel_rfl) (fun hc => ?_) (fun hc => ?_)
    · replace hS := cond_t hc hS
      refine zlRun (n := 1) (j := 2) rfl (by kernel_rfl) ?_
      refine zlEnd (by kernel_rfl) ?_
      refine zkSeq ?_
      refine zrCondT (by kernel_rfl) ?_
      refine zrSeq ?_
      refine zrReg ?_
      refine zlRun (n := 3) (j := 3) rfl (by kernel_rfl) ?_
      refine zlEnd (by kernel_rfl) ?_
      refine zkSeq ?_
      refine zrRet ?_
      refine zkBlkR ?_
      refine zkSeqR ?_
      refine zkSeqR ?_
      refine zkNil ?_
      exact endQ hS hQ (fRet ((congrArg (fun s => outR s 0 c8.res) (by kernel_rfl : finSt c8.fin _ = f8_fin 0 0 true)).trans (f8_out 0 0 true)))
    · replace hS := cond_f hc hS
      refine zlRun (n := 1) (j := 2) rfl (by kernel_rfl) ?_
      refine zlEnd (by kernel_rfl) ?_
      refine zkSeq ?_
      refine zrCondF (by kernel_rfl) ?_
      refine zrSeq ?_
      refine zrReg ?_
      refine zlBool (d := 20) (op := (.cmpI .eql (.tmp 10) (.const (.int .i64 3)))) (g := none) (j := 1) (decide (a1 = 3)) rfl (by kernel_rfl) (by kernel_rfl) (by kernel_rfl) (fun hc => ?_) (fun hc => ?_)
      · replace hS := cond_t hc hS
        refine zlRun (n := 1) (j := 2) rfl (by kernel_rfl) ?_
        refine zlEnd (by kernel_rfl) ?_
        refine zkSeq ?_
        refine zrCondT (by kernel_rfl) ?_
        refine zrSeq ?_
        refine zrReg ?_
        refine zlRun (n := 3) (j := 3) rfl (by kernel_rfl) ?_
        refine zlEnd (by kernel_rfl) ?_
        refine zkSeq ?_
        refine zrRet ?_
        refine zkBlkR ?_
        refine zkSeqR ?_
        refine zkSeqR ?_
        refine zkNil ?_
        exact endQ hS hQ (fRet ((congrArg (fun s => outR s 0 c8.res) (by kernel_rfl : finSt c8.fin _ = f8_fin 1 0 true)).trans (f8_out 1 0 true)))
      · replace hS := cond_f hc hS
        refine zlRun (n := 1) (j := 2) rfl (by kernel_rfl) ?_
        refine zlEnd (by kernel_rfl) ?_
        refine zkSeq ?_
        refine zrCondF (by kernel_rfl) ?_
        refine zrSeq ?_
        refine zrReg ?_
        refine zlBool (d := 22) (op := (.cmpI .eql (.tmp 10) (.const (.int .i64 5)))) (g := none) (j := 1) (decide (a1 = 5)) rfl (by kernel_rfl) (by kernel_rfl) (by kernel_rfl) (fun hc => ?_) (fun hc => ?_)
        · replace hS := cond_t hc hS
          refine zlRun (n := 1) (j := 2) rfl (by kernel_rfl) ?_
          refine zlEnd (by kernel_rfl) ?_
          refine zkSeq ?_
          refine zrCondT (by kernel_rfl) ?_
          refine zrSeq ?_
          refine zrReg ?_
          refine zlRun (n := 3) (j := 3) rfl (by kernel_rfl) ?_
          refine zlEnd (by kernel_rfl) ?_
          refine zkSeq ?_
          refine zrRet ?_
          refine zkBlkR ?_
          refine zkSeqR ?_
          refine zkSeqR ?_
          refine zkNil ?_
          exact endQ hS hQ (fRet ((congrArg (fun s => outR s 0 c8.res) (by kernel_rfl : finSt c8.fin _ = f8_fin 2 2 false)).trans (f8_out 2 2 false)))
        · replace hS := cond_f hc hS
          refine zlRun (n := 1) (j := 2) rfl (by kernel_rfl) ?_
          refine zlEnd (by kernel_rfl) ?_
          refine zkSeq ?_
          refine zrCondF (by kernel_rfl) ?_
          refine zrSkip ?_
          refine zkBlk ?_
          refine zkSeq ?_
          refine zrSeq ?_
          refine zrReg ?_
          refine zlRun (n := 4) (j := 4) rfl (by kernel_rfl) ?_
          refine zlEnd (by kernel_rfl) ?_
          refine zkSeq ?_
          refine zrRet ?_
          refine zkSeqR ?_
          refine zkNil ?_
          exact endQ hS hQ (fRet ((congrArg (fun s => outR s 0 c8.res) (by kernel_rfl : finSt c8.fin _ = f8_fin a1 0 false)).trans (f8_out a1 0 false)))
noncomputable def f8 (a1 : Int) (a2 : Bool) (a3 : Bool) : Option (Int × Int × Bool) := (bif a2 then (bif (decide (a1 = 0)) then (bif a3 then (some (1, 1, false)) else (some (0, 2, false))) else (bif (decide (a1 = 1)) then (f8_j1 a1 a2 a3 true) else (bif (decide (a1 = 4)) then (f8_j1 a1 a2 a3 true) else (f8_j1 a1 a2 a3 false)))) else (f8_j0 a1 a2 a3 ))
theorem f8_ok (base : Orc) (d : Nat) (hd : 1 ≤ d) (a1 : Int) (a2 : Bool) (a3 : Bool) (r : Int × Int × Bool) (hS : f8 a1 a2 a3 = some r) : lev codes base d 8 [(.d (.int .i64 a1)), (.d (.bool a2)), (.d (.bool a3))] [] = some ((.tup [(.d (.int .i64 r.1)), (.d (.int .i64 r.2.1)), (.d (.bool r.2.2))]), []) := by
  refine lev_go codes8 rfl rfl (Nat.le_trans (Nat.le_of_ble_eq_true rfl) hd) fun Q hQ => ?_
  unfold f8 at hS
  show ZR _ Q c8_b [] _
  replace hQ : ∀ e st', f8_Q r e st' → Q e st' := hQ
  refine zrSeq ?_
  refine zrReg ?_
  refine zlRun (n := 3) (j := 3) rfl (by kernel_rfl) ?_
  refine zlEnd (by kernel_rfl) ?_
  refine zkSeq ?_
  refine zrSeq ?_
  refine zrSeq ?_
  refine zrReg ?_
  refine zlRun (n := 1) (j := 1) rfl (by kernel_rfl) ?_
  refine zlEnd (by kernel_rfl) ?_
  refine zkSeq ?_
  refine zrSplit 9 a2 (by kernel_rfl) (fun hc => ?_) (fun hc => ?_)
  · replace hS := cond_t hc hS
    refine zrCondT (by kernel_rfl) ?_
    refine zrSeq ?_
    refine zrSeq ?_
    refine zrReg ?_
    refine zlRun (n := 1) (j := 1) rfl (by kernel_rfl) ?_
    refine zlEnd (by kernel_rfl) ?_
    refine zkSeq ?_
    refine zrBlk ?_
    refine zrSeq ?_
    refine zrReg ?_
    refine zlBool (d := 12) (op := (.cmpI .eql (.tmp 10) (.const (.int .i64 0)))) (g := none) (j := 1) (decide (a1 = 0)) rfl (by kernel_rfl) (by kernel_rfl) (by kernel_rfl) (fun hc => ?_) (fun hc => ?_)
    · replace hS := cond_t hc hS
      refine zlRun (n := 1) (j := 2) rfl (by kernel_rfl) ?_
      refine zlEnd (by kernel_rfl) ?_
      refine zkSeq ?_
      refine zrCondT (by kernel_rfl) ?_
      refine zrSeq ?_
      refine zrSeq ?_
      refine zrReg ?_
      refine zlRun (n := 1) (j := 1) rfl (by kernel_rfl) ?_
      refine zlEnd (by kernel_rfl) ?_
      refine zkSeq ?_
      refine zrSplit 13 a3 (by kernel_rfl) (fun hc => ?_) (fun hc => ?_)
      · replace hS := cond_t hc hS
        refine zrCondT (by kernel_rfl) ?_
        refine zrSeq ?_
        refine zrReg ?_
        refine zlRun (n := 3) (j := 3) rfl (by kernel_rfl) ?_
        refine zlEnd (by kernel_rfl) ?_
        refine zkSeq ?_
        refine zrRet ?_
        refine zkSeqR ?_
        refine zkBlkR ?_
        refine zkSeqR ?_
        refine zkSeqR ?_
        refine zkNil ?_
        exact endQ hS hQ (fRet ((congrArg (fun s => outR s 0 c8.res) (by kernel_rfl : finSt c8.fin _ = f8_fin 1 1 false)).trans (f8_out 1 1 false)))
      · replace hS := cond_f hc hS
        refine zrCondF (by kernel_rfl) ?_
        refine zrSkip ?_
        refine zkSeq ?_
        refine zrSeq ?_
        refine zrReg ?_
        refine zlRun (n := 3) (j := 3) rfl (by kernel_rfl) ?_
        refine zlEnd (by kernel_rfl) ?_
        refine zkSeq ?_
        refine zrRet ?_
        refine zkBlkR ?_
        refine zkSeqR ?_
        refine zkSeqR ?_
        refine zkNil ?_
        exact endQ hS hQ (fRet ((congrArg (fun s => outR s 0 c8.res) (by kernel_rfl : finSt c8.fin _ = f8_fin 0 2 false)).trans (f8_out 0 2 false)))
    · replace hS := cond_f hc hS
      refine zlRun (n := 1) (j := 2) rfl (by kernel_rfl) ?_
      refine zlEnd (by kernel_rfl) ?_
      refine zkSeq ?_
      refine zrCondF (by kernel_rfl) ?_
      refine zrSeq ?_
      refine zrSeq ?_
      refine zrReg ?_
      refine zlBool (d := 15) (op := (.cmpI .eql (.tmp 10) (.const (.int .i64 1)))) (g := none) (j := 1) (decide (a1 = 1)) rfl (by kernel_rfl) (by kernel_rfl) (by kernel_rfl) (fun hc => ?_) (fun hc => ?_)
      · replace hS := cond_t hc hS
        refine zlRun (n := 1) (j := 2) rfl (by kernel_rfl) ?_
        refine zlEnd (by kernel_rfl) ?_
        refine zkSeq ?_
        refine zrCondT (by kernel_rfl) ?_
        refine zrSkip ?_
        refine zkSeq ?_
        exact f8_j1_ok hd a1 a2 a3 hQ true hS (by kernel_rfl)
      · replace hS := cond_f hc hS
        refine zlRun (n := 1) (j := 2) rfl (by kernel_rfl) ?_
        refine zlEnd (by kernel_rfl) ?_
        refine zkSeq ?_
        refine zrCondF (by kernel_rfl) ?_
        refine zrReg ?_
        refine zlBool (d := 16) (op := (.cmpI .eql (.tmp 10) (.const (.int .i64 4)))) (g := none) (j := 1) (decide (a1 = 4)) rfl (by kernel_rfl) (by kernel_rfl) (by kernel_rfl) (fun hc => ?_) (fun hc => ?_)
        · replace hS := cond_t hc hS
          refine zlRun (n := 1) (j := 2) rfl (by kernel_rfl) ?_
          refine zlEnd (by kernel_rfl) ?_
          refine zkSeq ?_
          exact f8_j1_ok hd a1 a2 a3 hQ true hS (by kernel_rfl)
        · replace hS := cond_f hc hS
          refine zlRun (n := 1) (j := 2) rfl (by kernel_rfl) ?_
          refine zlEnd (by kernel_rfl) ?_
          refine zkSeq ?_
          exact f8_j1_ok hd a1 a2 a3 hQ false hS (by kernel_rfl)
  · replace hS := cond_f hc hS
    refine zrCondF (by kernel_rfl) ?_
    refine zrSkip ?_
    refine zkSeq ?_
    exact f8_j0_ok hd a1 a2 a3 hQ  hS (by kernel_rfl)
/- farwriter/qneg.bytes -/
def f18_fin (p3 : List UInt8) : St := ⟨(up (fun _ => .un) 6 (.d (.str p3))), (hB fun _ => 0)⟩
theorem f18_out (p3 : List UInt8) : outR (f18_fin p3) 0 c18.res = some ((.d (.str p3)), []) := by
  kernel_rfl
def f18_Q (r : (List UInt8)) (e : PX) (st : St) : Prop := DoneF c18 0 ((.d (.str r)), []) e st
def f18_j1_J (a1 : Bool) (a2 : Int) (a3 : Int) (p6 : Int) : St := ⟨(up (up (up (fun _ => .un) 7 (.d (.int .i64 p6))) 2 (.d (.int .i64 a3))) 1 (.d (.int .i64 a2))), (hB fun _ => 0)⟩
noncomputable def f18_j1 (a1 : Bool) (a2 : Int) (a3 : Int) (p6 : Int) : Option ((List UInt8)) := (some ([255, (u8 (IntKind.i64.wrap ((IntKind.i64.wrap (p6 + a2)) - 1))), (u8 a3)] : List UInt8))
theorem f18_j1_ok {base : Orc} {d : Nat} (hd : 1 ≤ d) (a1 : Bool) (a2 : Int) (a3 : Int) {r : (List UInt8)} {Q : PX → St → Prop} (hQ : ∀ e st', f18_Q r e st' → Q e st') (p6 : Int) (hS : f18_j1 a1 a2 a3 p6 = some r) {st : St} (he : keepSt [1, 2, 7] [] [] st = f18_j1_J a1 a2 a3 p6) : ZR (lev codes base (d - 1)) Q c18_1 [] st := by
  refine zrKeep he ?_
  unfold f18_j1 at hS
  refine zrSeq ?_
  refine zrReg ?_
  refine zlRun (n := 4) (j := 4) rfl (by kernel_rfl) ?_
  refine zlOp (d := some 15) (op := (.cvI .u8 (.tmp 14))) (g := none) (v := (.d (.int .u8 ((u8 (IntKind.i64.wrap ((IntKind.i64.wrap (p6 + a2)) - 1))).toNat : Int)))) (ups := []) (j := 5) rfl (by kernel_rfl) (by kernel_rfl) (ev_cv (kk := .i64) (a := (IntKind.i64.wrap ((IntKind.i64.wrap (p6 + a2)) - 1))) (by kernel_rfl) (u8_wrap _)) ?_
  refine zlRun (n := 1) (j := 6) rfl (by kernel_rfl) ?_
  refine zlOp (d := some 17) (op := (.cvI .u8 (.tmp 16))) (g := none) (v := (.d (.int .u8 ((u8 a3).toNat : Int)))) (ups := []) (j := 7) rfl (by kernel_rfl) (by kernel_rfl) (ev_cv (kk := .i64) (a := a3) (by kernel_rfl) (u8_wrap _)) ?_
  refine zlRun (n := 1) (j := 8) rfl (by kernel_rfl) ?_
  refine zlOp (d := some 19) (op := (.cvBS (.tmp 18))) (g := none) (v := (.d (.str ([255, (u8 (IntKind.i64.wrap ((IntKind.i64.wrap (p6 + a2)) - 1))), (u8 a3)] : List UInt8)))) (ups := []) (j := 9) rfl (by kernel_rfl) (by kernel_rfl) (ev_cvBS (s := [255, (u8 (IntKind.i64.wrap ((IntKind.i64.wrap (p6 + a2)) - 1))), (u8 a3)]) ((congrArg (asL _) (by kernel_rfl : ρof _ (.tmp 18) = (.r (.msl 152 1 0 (([255, (u8 (IntKind.i64.wrap ((IntKind.i64.wrap (p6 + a2)) - 1))), (u8 a3)] : List UInt8).length))))).trans (as_whole eU8 (e := 5) (k := 1) (xs := [255, (u8 (IntKind.i64.wrap ((IntKind.i64.wrap (p6 + a2)) - 1))), (u8 a3)]) (by kernel_rfl) rfl rfl)) rfl) ?_
  refine zlRun (n := 1) (j := 10) rfl (by kernel_rfl) ?_
  refine zlEnd (by kernel_rfl) ?_
  refine zkSeq ?_
  refine zrRet ?_
  refine zkNil ?_
  exact endQ hS hQ (fRet ((congrArg (fun s => outR s 0 c18.res) (by kernel_rfl : finSt c18.fin _ = f18_fin ([255, (u8 (IntKind.i64.wrap ((IntKind.i64.wrap (p6 + a2)) - 1))), (u8 a3)] : List UInt8))).trans (f18_out ([255, (u8 (IntKind.i64.wrap ((IntKind.i64.wrap (p6 + a2)) - 1))), (u8 a3)] : List UInt8))))
def f18_j0_J (a1 : Bool) (a2 : Int) (a3 : Int) : St := ⟨(up (up (up (fun _ => .un) 2 (.d (.int .i64 a3))) 1 (.d (.int .i64 a2))) 0 (.d (.bool a1))), (hB fun _ => 0)⟩
noncomputable def f18_j0 (a1 : Bool) (a2 : Int) (a3 : Int) : Option ((List UInt8)) := (bif a1 then (f18_j1 a1 a2 a3 251) else (f18_j1 a1 a2 a3 253))
theorem f18_j0_ok {base : Orc} {d : Nat} (hd : 1 ≤ d) (a1 : Bool) (a2 : Int) (a3 : Int) {r : (List UInt8)} {Q : PX → St → Prop} (hQ : ∀ e st', f18_Q r e st' → Q e st')  (hS : f18_j0 a1 a2 a3 = some r) {st : St} (he : keepSt [0, 1, 2] [] [] st = f18_j0_J a1 a2 a3) : ZR (lev codes base (d - 1)) Q c18_2 [] st := by
  refine zrKeep he ?_
  unfold f18_j0 at hS
  refine zrSeq ?_
  refine zrReg ?_
  refine zlRun (n := 1) (j := 1) rfl (by kernel_rfl) ?_
  refine zlEnd (by kernel_rfl) ?_
  refine zkSeq ?_
  refine zrSeq ?_
  refine zrSeq ?_
  refine zrReg ?_
  refine zlRun (n := 1) (j := 1) rfl (by kernel_rfl) ?_
  refine zlEnd (by kernel_rfl) ?_
  refine zkSeq ?_
  refine zrSplit 10 a1 (by kernel_rfl) (fun hc => ?_) (fun hc => ?_)
  · replace hS := cond_t hc hS
    refine zrCondT (by kernel_rfl) ?_
    refine zrReg ?_
    refine zlRun (n := 1) (j := 1) rfl (by kernel_rfl) ?_
    refine zlEnd (by kernel_rfl) ?_
    refine zkSeq ?_
    exact f18_j1_ok hd a1 a2 a3 hQ 251 hS (by kernel_rfl)
  · replace hS := cond_f hc hS
    refine zrCondF (by kernel_rfl) ?_
    refine zrSkip ?_
    refine zkSeq ?_
    exact f18_j1_ok hd a1 a2 a3 hQ 253 hS (by kernel_rfl)
noncomputable def f18 (a1 : Bool) (a2 : Int) (a3 : Int) : Option ((List UInt8)) := (bif (decide (a2 = 0)) then (some []) else (f18_j0 a1 a2 a3 ))
theorem f18_ok (base : Orc) (d : Nat) (hd : 1 ≤ d) (a1 : Bool) (a2 : Int) (a3 : Int) (r : (List UInt8)) (hS : f18 a1 a2 a3 = some r) : lev codes base d 18 [(.d (.bool a1)), (.d (.int .i64 a2)), (.d (.int .i64 a3))] [] = some ((.d (.str r)), []) := by
  refine lev_go codes18 rfl rfl (Nat.le_trans (Nat.le_of_ble_eq_true rfl) hd) fun Q hQ => ?_
  unfold f18 at hS
  show ZR _ Q c18_b [] _
  replace hQ : ∀ e st', f18_Q r e st' → Q e st' := hQ
  refine zrSeq ?_
  refine zrReg ?_
  refine zlRun (n := 1) (j := 1) rfl (by kernel_rfl) ?_
  refine zlEnd (by kernel_rfl) ?_
  refine zkSeq ?_
  refine zrSeq ?_
  refine zrSeq ?_
  refine zrReg ?_
  refine zlRun (n := 1) (j := 1) rfl (by kernel_rfl) ?_
  refine zlBool (d := 9) (op := (.cmpI .eql (.tmp 8) (.const (.int .i64 0)))) (g := none) (j := 2) (decide (a2 = 0)) rfl (by kernel_rfl) (by kernel_rfl) (by kernel_rfl) (fun hc => ?_) (fun hc => ?_)
  · replace hS := cond_t hc hS
    refine zlEnd (by kernel_rfl) ?_
    refine zkSeq ?_
    refine zrCondT (by kernel_rfl) ?_
    refine zrSeq ?_
    refine zrReg ?_
    refine zlRun (n := 1) (j := 1) rfl (by kernel_rfl) ?_
    refine zlEnd (by kernel_rfl) ?_
    refine zkSeq ?_
    refine zrRet ?_
    refine zkSeqR ?_
    refine zkNil ?_
    exact endQ hS hQ (fRet ((congrArg (fun s => outR s 0 c18.res) (by kernel_rfl : finSt c18.fin _ = f18_fin [])).trans (f18_out [])))
  · replace hS := cond_f hc hS
    refine zlEnd (by kernel_rfl) ?_
    refine zkSeq ?_
    refine zrCondF (by kernel_rfl) ?_
    refine zrSkip ?_
    refine zkSeq ?_
    exact f18_j0_ok hd a1 a2 a3 hQ  hS (by kernel_rfl)
/- farwriter/qneg.Hears -/
def f17_fin (p16 : GNeg) (p17 : List UInt8) : St := ⟨(up (up (fun _ => .un) 5 (.d (.str p17))) 4 (.r (.ptr 40 0 0))), (up (hB fun _ => 0) 40 ⟨0, some (.box ((eU8.row 256 p16.Us) ++ ((eU8.row 256 p16.Him) ++ (((eInt .u64).row 4 p16.UsOk) ++ (((eInt .u64).row 4 p16.HimOk) ++ [])))))⟩)⟩
theorem f17_out (p16 : GNeg) (p17 : List UInt8) : outR (f17_fin p16 p17) 0 c17.res = some ((.tup [(.agg ((eU8.row 256 p16.Us) ++ ((eU8.row 256 p16.Him) ++ (((eInt .u64).row 4 p16.UsOk) ++ (((eInt .u64).row 4 p16.HimOk) ++ []))))), (.d (.str p17))]), []) := by
  kernel_rfl
def f17_Q (r : GNeg × (List UInt8)) (e : PX) (st : St) : Prop := DoneF c17 0 ((.tup [(.agg ((eU8.row 256 r.1.Us) ++ ((eU8.row 256 r.1.Him) ++ (((eInt .u64).row 4 r.1.UsOk) ++ (((eInt .u64).row 4 r.1.HimOk) ++ []))))), (.d (.str r.2))]), []) e st
def f17_j1_J (a1 : GNeg) (a2 : GTok) (p28 : GNeg) (p29 : Bool) (p30 : Bool) : St := ⟨(up (up (up (up (up (fun _ => .un) 7 (.d (.bool p30))) 6 (.d (.bool p29))) 4 (.r (.ptr 40 0 0))) 3 (.r (.ptr 32 0 0))) 2 (.r (.ptr 24 0 0))), (up (up (up (hB fun _ => 0) 40 ⟨0, some (.box ((eU8.row 256 p28.Us) ++ ((eU8.row 256 p28.Him) ++ (((eInt .u64).row 4 p28.UsOk) ++ (((eInt .u64).row 4 p28.HimOk) ++ [])))))⟩) 32 ⟨0, some (.box ((.d (.int .i64 a2.Kind)) :: ((.d (.int .i64 a2.Cmd)) :: ((.d (.int .i64 a2.Opt)) :: ((.d (.str a2.Data)) :: [])))))⟩) 24 ⟨0, some (.box ((eU8.row 256 a1.Us) ++ ((eU8.row 256 a1.Him) ++ (((eInt .u64).row 4 a1.UsOk) ++ (((eInt .u64).row 4 a1.HimOk) ++ [])))))⟩)⟩
noncomputable def f17_j1 (a1 : GNeg) (a2 : GTok) (p28 : GNeg) (p29 : Bool) (p30 : Bool) : Option (GNeg × (List UInt8)) := ((inR a2.Opt 256).bind fun m15 => (bif p30 then ((inR a2.Opt 256).bind fun m17 => ((inR (IntKind.i64.wrap (Int.tdiv a2.Opt 64)) 4).bind fun m22 => ((chk (decide (0 ≤ (Int.tmod a2.Opt 64)))).bind fun z23 => (bif (decide ((bitI .and .u64 (Int.fdiv (a1.UsOk m22) (2 ^ (min ((Int.tmod a2.Opt 64) : Int).toNat 64))) 1) = 1)) then ((f8 ((a1.Us m17).toNat : Int) p29 true).bind fun z24 => ((f18 p30 z24.2.1 a2.Opt).bind fun z25 => (some ((GNeg.mk (upd a1.Us m17 (u8 z24.1)) a1.Him a1.UsOk a1.HimOk), z25)))) else ((f8 ((a1.Us m17).toNat : Int) p29 false).bind fun z26 => ((f18 p30 z26.2.1 a2.Opt).bind fun z27 => (some ((GNeg.mk (upd a1.Us m17 (u8 z26.1)) a1.Him a1.UsOk a1.HimOk), z27)))))))) else ((inR (IntKind.i64.wrap (Int.tdiv a2.Opt 64)) 4).bind fun m32 => ((chk (decide (0 ≤ (Int.tmod a2.Opt 64)))).bind fun z33 => (bif (decide ((bitI .and .u64 (Int.fdiv (a1.HimOk m32) (2 ^ (min ((Int.tmod a2.Opt 64) : Int).toNat 64))) 1) = 1)) then ((f8 ((a1.Him m15).toNat : Int) p29 true).bind fun z34 => ((f18 p30 z34.2.1 a2.Opt).bind fun z35 => (some ((GNeg.mk a1.Us (upd a1.Him m15 (u8 z34.1)) a1.UsOk a1.HimOk), z35)))) else ((f8 ((a1.Him m15).toNat : Int) p29 false).bind fun z36 => ((f18 p30 z36.2.1 a2.Opt).bind fun z37 => (some ((GNeg.mk a1.Us (upd a1.Him m15 (u8 z36.1)) a1.UsOk a1.HimOk), z37)))))))))
theorem f17_j1_ok {base : Orc} {d : Nat} (hd : 2 ≤ d) (a1 : GNeg) (a2 : GTok) {r : GNeg × (List UInt8)} {Q : PX → St → Prop} (hQ : ∀ e st', f17_Q r e st' → Q e st') (p28 : GNeg) (p29 : Bool) (p30 : Bool) (hS : f17_j1 a1 a2 p28 p29 p30 = some r) {st : St} (he : keepSt [2, 3, 4, 6, 7] [(24, .id 24), (32, .id 32), (40, .id 40)] [] st = f17_j1_J a1 a2 p28 p29 p30) : ZR (lev codes base (d - 1)) Q c17_1 [] st := by
  refine zrKeep he ?_
  unfold f17_j1 at hS
  refine zrSeq ?_
  refine zrRegD ?_
  refine zdRun (n := 3) (j := 3) (ts := [[], [(32, false)], []]) (acc' := [[], [(32, false)], []]) rfl (by kernel_rfl) (by kernel_rfl) (by kernel_rfl) ?_
  refine bindE hS (fun m15 hm15 hS => ?_)
  refine zdOp (d := some 32) (op := (.ixA 256 1 (.tmp 31) (.tmp 30))) (g := none) (v := (.r (.ptr 24 0 (256 + m15 * 1)))) (ups := []) (j := 4) (t1 := []) (acc' := [[], [(32, false)], [], []]) (by kernel_rfl) (by kernel_rfl) rfl (by kernel_rfl) (by kernel_rfl) (ev_ixA (kk := .i64) (b := 24) (g := 0) (o := 256) (j := a2.Opt) (by kernel_rfl) (by kernel_rfl) hm15) ?_
  refine zdRun (n := 5) (j := 9) (ts := [[], [(24, false)], [(80, true)], [], [(80, true)]]) (acc' := [[], [(32, false)], [], [], [], [(24, false)], [(80, true)], [], [(80, true)]]) rfl (by kernel_rfl) (by kernel_rfl) (by kernel_rfl) ?_
  refine zdEnd (by kernel_rfl) (by kernel_rfl) ?_
  refine zkSeq ?_
  refine zrSeq ?_
  refine zrSeq ?_
  refine zrReg ?_
  refine zlRun (n := 1) (j := 1) rfl (by kernel_rfl) ?_
  refine zlEnd (by kernel_rfl) ?_
  refine zkSeq ?_
  refine zrSplit 35 p30 (by kernel_rfl) (fun hc => ?_) (fun hc => ?_)
  · replace hS := cond_t hc hS
    refine zrCondT (by kernel_rfl) ?_
    refine zrRegD ?_
    refine zdRun (n := 3) (j := 3) (ts := [[], [(32, false)], []]) (acc' := [[], [(32, false)], []]) rfl (by kernel_rfl) (by kernel_rfl) (by kernel_rfl) ?_
    refine bindE hS (fun m17 hm17 hS => ?_)
    refine zdOp (d := some 39) (op := (.ixA 256 1 (.tmp 38) (.tmp 37))) (g := none) (v := (.r (.ptr 24 0 (0 + m17 * 1)))) (ups := []) (j := 4) (t1 := []) (acc' := [[], [(32, false)], [], []]) (by kernel_rfl) (by kernel_rfl) rfl (by kernel_rfl) (by kernel_rfl) (ev_ixA (kk := .i64) (b := 24) (g := 0) (o := 0) (j := a2.Opt) (by kernel_rfl) (by kernel_rfl) hm17) ?_
    refine zdRun (n := 4) (j := 8) (ts := [[], [(24, false)], [], [(80, true)]]) (acc' := [[], [(32, false)], [], [], [], [(24, false)], [], [(80, true)]]) rfl (by kernel_rfl) (by kernel_rfl) (by kernel_rfl) ?_
    refine zdEnd (by kernel_rfl) (by kernel_rfl) ?_
    refine zkSeq ?_
    refine zrSeq ?_
    refine zrRegD ?_
    refine zdRun (n := 2) (j := 2) (ts := [[], []]) (acc' := [[], []]) rfl (by kernel_rfl) (by kernel_rfl) (by kernel_rfl) ?_
    refine zdOp (d := some 45) (op := (.load .false 1 (.tmp 44))) (g := none) (v := (.d (.int .u8 ((a1.Us m17).toNat : Int)))) (ups := []) (j := 3) (t1 := [(24, false)]) (acc' := [[], [], [(24, false)]]) (by kernel_rfl) (by kernel_rfl) rfl (by kernel_rfl) (by kernel_rfl) (ev_loadA eU8 (b := 24) (g := 0) (o := 0 + m17 * 1) (f := a1.Us) (nn := 256) (m := m17) (fo := 0) (pre := []) (post := ((eU8.row 256 a1.Him) ++ (((eInt .u64).row 4 a1.UsOk) ++ (((eInt .u64).row 4 a1.HimOk) ++ [])))) (by kernel_rfl) (by kernel_rfl) (by kernel_rfl) (inR_lt hm17) (by kernel_rfl) (by kernel_rfl) (by kernel_rfl)) ?_
    refine zdOp (d := some 46) (op := (.cvI .i64 (.tmp 45))) (g := none) (v := (.d (.int .i64 ((a1.Us m17).toNat : Int)))) (ups := []) (j := 4) (t1 := []) (acc' := [[], [], [(24, false)], []]) (by kernel_rfl) (by kernel_rfl) rfl (by kernel_rfl) (by kernel_rfl) (ev_cv (kk := .u8) (a := ((a1.Us m17).toNat : Int)) (by kernel_rfl) (cv_i64 _)) ?_
    refine zdRun (n := 4) (j := 8) (ts := [[], [], [(32, false)], []]) (acc' := [[], [], [(24, false)], [], [], [], [(32, false)], []]) rfl (by kernel_rfl) (by kernel_rfl) (by kernel_rfl) ?_
    refine bindE hS (fun m22 hm22 hS => ?_)
    refine zdOp (d := some 51) (op := (.ixA 4 1 (.tmp 9) (.tmp 50))) (g := none) (v := (.r (.ptr 80 1 (0 + m22 * 1)))) (ups := []) (j := 9) (t1 := []) (acc' := [[], [], [(24, false)], [], [], [], [(32, false)], [], []]) (by kernel_rfl) (by kernel_rfl) rfl (by kernel_rfl) (by kernel_rfl) (ev_ixA (kk := .i64) (b := 80) (g := 1) (o := 0) (j := (IntKind.i64.wrap (Int.tdiv a2.Opt 64))) (by kernel_rfl) (by kernel_rfl) hm22) ?_
    refine zdOp (d := some 52) (op := (.load .false 1 (.tmp 51))) (g := none) (v := (.d (.int .u64 (a1.UsOk m22)))) (ups := []) (j := 10) (t1 := [(80, false)]) (acc' := [[], [], [(24, false)], [], [], [], [(32, false)], [], [], [(80, false)]]) (by kernel_rfl) (by kernel_rfl) rfl (by kernel_rfl) (by kernel_rfl) (ev_loadA (eInt .u64) (b := 80) (g := 1) (o := 0 + m22 * 1) (f := a1.UsOk) (nn := 4) (m := m22) (fo := 0) (pre := []) (post := []) (by kernel_rfl) (by kernel_rfl) (by kernel_rfl) (inR_lt hm22) (by kernel_rfl) (by kernel_rfl) (by kernel_rfl)) ?_
    refine zdRun (n := 3) (j := 13) (ts := [[], [(32, false)], []]) (acc' := [[], [], [(24, false)], [], [], [], [(32, false)], [], [], [(80, false)], [], [(32, false)], []]) rfl (by kernel_rfl) (by kernel_rfl) (by kernel_rfl) ?_
    refine bindE hS (fun z23 hz23 hS => ?_)
    refine zdOp (d := some 56) (op := (.sh .shr (.tmp 52) (.tmp 55))) (g := none) (v := (.d (.int .u64 (Int.fdiv (a1.UsOk m22) (2 ^ (min ((Int.tmod a2.Opt 64) : Int).toNat 64)))))) (ups := []) (j := 14) (t1 := []) (acc' := [[], [], [(24, false)], [], [], [], [(32, false)], [], [], [(80, false)], [], [(32, false)], [], []]) (by kernel_rfl) (by kernel_rfl) rfl (by kernel_rfl) (by kernel_rfl) (ev_sh (kk := .u64) (k2 := .i64) (a := (a1.UsOk m22)) (c := (Int.tmod a2.Opt 64)) (by kernel_rfl) (by kernel_rfl) (sh_r hz23)) ?_
    refine zdRun (n := 1) (j := 15) (ts := [[]]) (acc' := [[], [], [(24, false)], [], [], [], [(32, false)], [], [], [(80, false)], [], [(32, false)], [], [], []]) rfl (by kernel_rfl) (by kernel_rfl) (by kernel_rfl) ?_
    refine zdBool (d := 58) (op := (.cmpI .eql (.tmp 57) (.const (.int .u64 1)))) (g := none) (j := 16) (t1 := []) (acc' := [[], [], [(24, false)], [], [], [], [(32, false)], [], [], [(80, false)], [], [(32, false)], [], [], [], []]) (decide ((bitI .and .u64 (Int.fdiv (a1.UsOk m22) (2 ^ (min ((Int.tmod a2.Opt 64) : Int).toNat 64))) 1) = 1)) (by kernel_rfl) (by kernel_rfl) rfl (by kernel_rfl) (by kernel_rfl) (by kernel_rfl) (fun hc => ?_) (fun hc => ?_)
    · replace hS := cond_t hc hS
      refine bindE hS (fun z24 hz24 hS => ?_)
      refine zdOp (d := some 59) (op := (.call 8 [(.tmp 46), (.tmp 47), (.tmp 58)])) (g := none) (v := (.tup [(.d (.int .i64 z24.1)), (.d (.int .i64 z24.2.1)), (.d (.bool z24.2.2))])) (ups := []) (j := 17) (t1 := [(480, true), (481, true), (482, true), (483, true), (484, true), (485, true), (486, true), (487, true)]) (acc' := [[], [], [(24, false)], [], [], [], [(32, false)], [], [], [(80, false)], [], [(32, false)], [], [], [], [], [(480, true), (481, true), (482, true), (483, true), (484, true), (485, true), (486, true), (487, true)]]) (by kernel_rfl) (by kernel_rfl) rfl (by kernel_rfl) (by kernel_rfl) (ev_call (args := [(.d (.int .i64 ((a1.Us m17).toNat : Int))), (.d (.bool p29)), (.d (.bool true))]) (l := [(.d (.int .i64 ((a1.Us m17).toNat : Int))), (.d (.bool p29)), (.d (.bool true))]) (r := (.tup [(.d (.int .i64 z24.1)), (.d (.int .i64 z24.2.1)), (.d (.bool z24.2.2))])) (by kernel_rfl) (by kernel_rfl) (f8_ok base (d - 1) (dpt hd rfl) ((a1.Us m17).toNat : Int) p29 true z24 hz24) (by kernel_rfl) (by kernel_rfl) (by kernel_rfl)) ?_
      refine zdRun (n := 7) (j := 24) (ts := [[], [], [], [], [], [], []]) (acc' := [[], [], [(24, false)], [], [], [], [(32, false)], [], [], [(80, false)], [], [(32, false)], [], [], [], [], [(480, true), (481, true), (482, true), (483, true), (484, true), (485, true), (486, true), (487, true)], [], [], [], [], [], [], []]) rfl (by kernel_rfl) (by kernel_rfl) (by kernel_rfl) ?_
      refine zdEnd (by kernel_rfl) (by kernel_rfl) ?_
      refine zkSeq ?_
      refine zrSeq ?_
      refine zrReg ?_
      refine zlRun (n := 2) (j := 2) rfl (by kernel_rfl) ?_
      refine zlOp (d := some 65) (op := (.cvI .u8 (.tmp 64))) (g := none) (v := (.d (.int .u8 ((u8 z24.1).toNat : Int)))) (ups := []) (j := 3) rfl (by kernel_rfl) (by kernel_rfl) (ev_cv (kk := .i64) (a := z24.1) (by kernel_rfl) (u8_wrap _)) ?_
      refine zlRun (n := 1) (j := 4) rfl (by kernel_rfl) ?_
      refine zlOp (d := none) (op := (.store 1 (.tmp 66) (.tmp 65))) (g := none) (v := .un) (ups := [(24, ⟨0, some (.box ((eU8.row 256 (upd a1.Us m17 (u8 z24.1))) ++ ((eU8.row 256 a1.Him) ++ (((eInt .u64).row 4 a1.UsOk) ++ (((eInt .u64).row 4 a1.HimOk) ++ [])))))⟩)]) (j := 5) rfl (by kernel_rfl) (by kernel_rfl) (ev_storeA eU8 (b := 24) (g := 0) (o := 0 + m17 * 1) (f := a1.Us) (nn := 256) (m := m17) (fo := 0) (pre := []) (post := ((eU8.row 256 a1.Him) ++ (((eInt .u64).row 4 a1.UsOk) ++ (((eInt .u64).row 4 a1.HimOk) ++ [])))) (by kernel_rfl) (by kernel_rfl) (by kernel_rfl) (inR_lt hm17) (new := ((.d (.int .u8 ((u8 z24.1).toNat : Int))) :: [])) (ds := [.int .u8 ((u8 z24.1).toNat : Int)]) (z' := (u8 z24.1)) (by kernel_rfl) (by kernel_rfl) (by kernel_rfl) (by kernel_rfl) (by kernel_rfl)) ?_
      refine zlEnd (by kernel_rfl) ?_
      refine zkSeq ?_
      refine zrSeq ?_
      refine zrRegD ?_
      refine zdRun (n := 5) (j := 5) (ts := [[(24, false)], [], [], [], [(32, false)]]) (acc' := [[(24, false)], [], [], [], [(32, false)]]) rfl (by kernel_rfl) (by kernel_rfl) (by kernel_rfl) ?_
      refine bindE hS (fun z25 hz25 hS => ?_)
      refine zdOp (d := some 72) (op := (.call 18 [(.tmp 68), (.tmp 69), (.tmp 71)])) (g := none) (v := (.d (.str z25))) (ups := []) (j := 6) (t1 := [(584, true), (585, true), (586, true), (587, true), (588, true), (589, true), (590, true), (591, true)]) (acc' := [[(24, false)], [], [], [], [(32, false)], [(584, true), (585, true), (586, true), (587, true), (588, true), (589, true), (590, true), (591, true)]]) (by kernel_rfl) (by kernel_rfl) rfl (by kernel_rfl) (by kernel_rfl) (ev_call (args := [(.d (.bool p30)), (.d (.int .i64 z24.2.1)), (.d (.int .i64 a2.Opt))]) (l := [(.d (.bool p30)), (.d (.int .i64 z24.2.1)), (.d (.int .i64 a2.Opt))]) (r := (.d (.str z25))) (by kernel_rfl) (by kernel_rfl) (f18_ok base (d - 1) (dpt hd rfl) p30 z24.2.1 a2.Opt z25 hz25) (by kernel_rfl) (by kernel_rfl) (by kernel_rfl)) ?_
      refine zdRun (n := 2) (j := 8) (ts := [[(40, true)], []]) (acc' := [[(24, false)], [], [], [], [(32, false)], [(584, true), (585, true), (586, true), (587, true), (588, true), (589, true), (590, true), (591, true)], [(40, true)], []]) rfl (by kernel_rfl) (by kernel_rfl) (by kernel_rfl) ?_
      refine zdEnd (by kernel_rfl) (by kernel_rfl) ?_
      refine zkSeq ?_
      refine zrRet ?_
      refine zkNil ?_
      exact endQ hS hQ (fRet ((congrArg (fun s => outR s 0 c17.res) (by kernel_rfl : finSt c17.fin _ = f17_fin (GNeg.mk (upd a1.Us m17 (u8 z24.1)) a1.Him a1.UsOk a1.HimOk) z25)).trans (f17_out (GNeg.mk (upd a1.Us m17 (u8 z24.1)) a1.Him a1.UsOk a1.HimOk) z25)))
    · replace hS := cond_f hc hS
      refine bindE hS (fun z26 hz26 hS => ?_)
      refine zdOp (d := some 59) (op := (.call 8 [(.tmp 46), (.tmp 47), (.tmp 58)])) (g := none) (v := (.tup [(.d (.int .i64 z26.1)), (.d (.int .i64 z26.2.1)), (.d (.bool z26.2.2))])) (ups := []) (j := 17) (t1 := [(480, true), (481, true), (482, true), (483, true), (484, true), (485, true), (486, true), (487, true)]) (acc' := [[], [], [(24, false)], [], [], [], [(32, false)], [], [], [(80, false)], [], [(32, false)], [], [], [], [], [(480, true), (481, true), (482, true), (483, true), (484, true), (485, true), (486, true), (487, true)]]) (by kernel_rfl) (by kernel_rfl) rfl (by kernel_rfl) (by kernel_rfl) (ev_call (args := [(.d (.int .i64 ((a1.Us m17).toNat : Int))), (.d (.bool p29)), (.d (.bool false))]) (l := [(.d (.int .i64 ((a1.Us m17).toNat : Int))), (.d (.bool p29)), (.d (.bool false))]) (r := (.tup [(.d (.int .i64 z26.1)), (.d (.int .i64 z26.2.1)), (.d (.bool z26.2.2))])) (by kernel_rfl) (by kernel_rfl) (f8_ok base (d - 1) (dpt hd rfl) ((a1.Us m17).toNat : Int) p29 false z26 hz26) (by kernel_rfl) (by kernel_rfl) (by kernel_rfl)) ?_
      refine zdRun (n := 7) (j := 24) (ts := [[], [], [], [], [], [], []]) (acc' := [[], [], [(24, false)], [], [], [], [(32, false)], [], [], [(80, false)], [], [(32, false)], [], [], [], [], [(480, true), (481, true), (482, true), (483, true), (484, true), (485, true), (486, true), (487, true)], [], [], [], [], [], [], []]) rfl (by kernel_rfl) (by kernel_rfl) (by kernel_rfl) ?_
      refine zdEnd (by kernel_rfl) (by kernel_rfl) ?_
      refine zkSeq ?_
      refine zrSeq ?_
      refine zrReg ?_
      refine zlRun (n := 2) (j := 2) rfl (by kernel_rfl) ?_
      refine zlOp (d := some 65) (op := (.cvI .u8 (.tmp 64))) (g := none) (v := (.d (.int .u8 ((u8 z26.1).toNat : Int)))) (ups := []) (j := 3) rfl (by kernel_rfl) (by kernel_rfl) (ev_cv (kk := .i64) (a := z26.1) (by kernel_rfl) (u8_wrap _)) ?_
      refine zlRun (n := 1) (j := 4) rfl (by kernel_rfl) ?_
      refine zlOp (d := none) (op := (.store 1 (.tmp 66) (.tmp 65))) (g := none) (v := .un) (ups := [(24, ⟨0, some (.box ((eU8.row 256 (upd a1.Us m17 (u8 z26.1))) ++ ((eU8.row 256 a1.Him) ++ (((eInt .u64).row 4 a1.UsOk) ++ (((eInt .u64).row 4 a1.HimOk) ++ [])))))⟩)]) (j := 5) rfl (by kernel_rfl) (by kernel_rfl) (ev_storeA eU8 (b := 24) (g := 0) (o := 0 + m17 * 1) (f := a1.Us) (nn := 256) (m := m17) (fo := 0) (pre := []) (post := ((eU8.row 256 a1.Him) ++ (((eInt .u64).row 4 a1.UsOk) ++ (((eInt .u64).row 4 a1.HimOk) ++ [])))) (by kernel_rfl) (by kernel_rfl) (by kernel_rfl) (inR_lt hm17) (new := ((.d (.int .u8 ((u8 z26.1).toNat : Int))) :: [])) (ds := [.int .u8 ((u8 z26.1).toNat : Int)]) (z' := (u8 z26.1)) (by kernel_rfl) (by kernel_rfl) (by kernel_rfl) (by kernel_rfl) (by kernel_rfl)) ?_
      refine zlEnd (by kernel_rfl) ?_
      refine zkSeq ?_
      refine zrSeq ?_
      refine zrRegD ?_
      refine zdRun (n := 5) (j := 5) (ts := [[(24, false)], [], [], [], [(32, false)]]) (acc' := [[(24, false)], [], [], [], [(32, false)]]) rfl (by kernel_rfl) (by kernel_rfl) (by kernel_rfl) ?_
      refine bindE hS (fun z27 hz27 hS => ?_)
      refine zdOp (d := some 72) (op := (.call 18 [(.tmp 68), (.tmp 69), (.tmp 71)])) (g := none) (v := (.d (.str z27))) (ups := []) (j := 6) (t1 := [(584, true), (585, true), (586, true), (587, true), (588, true), (589, true), (590, true), (591, true)]) (acc' := [[(24, false)], [], [], [], [(32, false)], [(584, true), (585, true), (586, true), (587, true), (588, true), (589, true), (590, true), (591, true)]]) (by kernel_rfl) (by kernel_rfl) rfl (by kernel_rfl) (by kernel_rfl) (ev_call (args := [(.d (.bool p30)), (.d (.int .i64 z26.2.1)), (.d (.int .i64 a2.Opt))]) (l := [(.d (.bool p30)), (.d (.int .i64 z26.2.1)), (.d (.int .i64 a2.Opt))]) (r := (.d (.str z27))) (by kernel_rfl) (by kernel_rfl) (f18_ok base (d - 1) (dpt hd rfl) p30 z26.2.1 a2.Opt z27 hz27) (by kernel_rfl) (by kernel_rfl) (by kernel_rfl)) ?_
      refine zdRun (n := 2) (j := 8) (ts := [[(40, true)], []]) (acc' := [[(24, false)], [], [], [], [(32, false)], [(584, true), (585, true), (586, true), (587, true), (588, true), (589, true), (590, true), (591, true)], [(40, true)], []]) rfl (by kernel_rfl) (by kernel_rfl) (by kernel_rfl) ?_
      refine zdEnd (by kernel_rfl) (by kernel_rfl) ?_
      refine zkSeq ?_
      refine zrRet ?_
      refine zkNil ?_
      exact endQ hS hQ (fRet ((congrArg (fun s => outR s 0 c17.res) (by kernel_rfl : finSt c17.fin _ = f17_fin (GNeg.mk (upd a1.Us m17 (u8 z26.1)) a1.Him a1.UsOk a1.HimOk) z27)).trans (f17_out (GNeg.mk (upd a1.Us m17 (u8 z26.1)) a1.Him a1.UsOk a1.HimOk) z27)))
  · replace hS := cond_f hc hS
    refine zrCondF (by kernel_rfl) ?_
    refine zrSkip ?_
    refine zkSeq ?_
    refine zrSeq ?_
    refine zrRegD ?_
    refine zdRun (n := 2) (j := 2) (ts := [[], []]) (acc' := [[], []]) rfl (by kernel_rfl) (by kernel_rfl) (by kernel_rfl) ?_
    refine zdOp (d := some 45) (op := (.load .false 1 (.tmp 44))) (g := none) (v := (.d (.int .u8 ((a1.Him m15).toNat : Int)))) (ups := []) (j := 3) (t1 := [(24, false)]) (acc' := [[], [], [(24, false)]]) (by kernel_rfl) (by kernel_rfl) rfl (by kernel_rfl) (by kernel_rfl) (ev_loadA eU8 (b := 24) (g := 0) (o := 256 + m15 * 1) (f := a1.Him) (nn := 256) (m := m15) (fo := 0) (pre := ((eU8.row 256 a1.Us) ++ [])) (post := (((eInt .u64).row 4 a1.UsOk) ++ (((eInt .u64).row 4 a1.HimOk) ++ []))) (by kernel_rfl) (by kernel_rfl) (by kernel_rfl) (inR_lt hm15) (by kernel_rfl) (by kernel_rfl) (by kernel_rfl)) ?_
    refine zdOp (d := some 46) (op := (.cvI .i64 (.tmp 45))) (g := none) (v := (.d (.int .i64 ((a1.Him m15).toNat : Int)))) (ups := []) (j := 4) (t1 := []) (acc' := [[], [], [(24, false)], []]) (by kernel_rfl) (by kernel_rfl) rfl (by kernel_rfl) (by kernel_rfl) (ev_cv (kk := .u8) (a := ((a1.Him m15).toNat : Int)) (by kernel_rfl) (cv_i64 _)) ?_
    refine zdRun (n := 4) (j := 8) (ts := [[], [], [(32, false)], []]) (acc' := [[], [], [(24, false)], [], [], [], [(32, false)], []]) rfl (by kernel_rfl) (by kernel_rfl) (by kernel_rfl) ?_
    refine bindE hS (fun m32 hm32 hS => ?_)
    refine zdOp (d := some 51) (op := (.ixA 4 1 (.tmp 9) (.tmp 50))) (g := none) (v := (.r (.ptr 80 1 (0 + m32 * 1)))) (ups := []) (j := 9) (t1 := []) (acc' := [[], [], [(24, false)], [], [], [], [(32, false)], [], []]) (by kernel_rfl) (by kernel_rfl) rfl (by kernel_rfl) (by kernel_rfl) (ev_ixA (kk := .i64) (b := 80) (g := 1) (o := 0) (j := (IntKind.i64.wrap (Int.tdiv a2.Opt 64))) (by kernel_rfl) (by kernel_rfl) hm32) ?_
    refine zdOp (d := some 52) (op := (.load .false 1 (.tmp 51))) (g := none) (v := (.d (.int .u64 (a1.HimOk m32)))) (ups := []) (j := 10) (t1 := [(80, false)]) (acc' := [[], [], [(24, false)], [], [], [], [(32, false)], [], [], [(80, false)]]) (by kernel_rfl) (by kernel_rfl) rfl (by kernel_rfl) (by kernel_rfl) (ev_loadA (eInt .u64) (b := 80) (g := 1) (o := 0 + m32 * 1) (f := a1.HimOk) (nn := 4) (m := m32) (fo := 0) (pre := []) (post := []) (by kernel_rfl) (by kernel_rfl) (by kernel_rfl) (inR_lt hm32) (by kernel_rfl) (by kernel_rfl) (by kernel_rfl)) ?_
    refine zdRun (n := 3) (j := 13) (ts := [[], [(32, false)], []]) (acc' := [[], [], [(24, false)], [], [], [], [(32, false)], [], [], [(80, false)], [], [(32, false)], []]) rfl (by kernel_rfl) (by kernel_rfl) (by kernel_rfl) ?_
    refine bindE hS (fun z33 hz33 hS => ?_)
    refine zdOp (d := some 56) (op := (.sh .shr (.tmp 52) (.tmp 55))) (g := none) (v := (.d (.int .u64 (Int.fdiv (a1.HimOk m32) (2 ^ (min ((Int.tmod a2.Opt 64) : Int).toNat 64)))))) (ups := []) (j := 14) (t1 := []) (acc' := [[], [], [(24, false)], [], [], [], [(32, false)], [], [], [(80, false)], [], [(32, false)], [], []]) (by kernel_rfl) (by kernel_rfl) rfl (by kernel_rfl) (by kernel_rfl) (ev_sh (kk := .u64) (k2 := .i64) (a := (a1.HimOk m32)) (c := (Int.tmod a2.Opt 64)) (by kernel_rfl) (by kernel_rfl) (sh_r hz33)) ?_
    refine zdRun (n := 1) (j := 15) (ts := [[]]) (acc' := [[], [], [(24, false)], [], [], [], [(32, false)], [], [], [(80, false)], [], [(32, false)], [], [], []]) rfl (by kernel_rfl) (by kernel_rfl) (by kernel_rfl) ?_
    refine zdBool (d := 58) (op := (.cmpI .eql (.tmp 57) (.const (.int .u64 1)))) (g := none) (j := 16) (t1 := []) (acc' := [[], [], [(24, false)], [], [], [], [(32, false)], [], [], [(80, false)], [], [(32, false)], [], [], [], []]) (decide ((bitI .and .u64 (Int.fdiv (a1.HimOk m32) (2 ^ (min ((Int.tmod a2.Opt 64) : Int).toNat 64))) 1) = 1)) (by kernel_rfl) (by kernel_rfl) rfl (by kernel_rfl) (by kernel_rfl) (by kernel_rfl) (fun hc => ?_) (fun hc => ?_)
    · replace hS := cond_t hc hS
      refine bindE hS (fun z34 hz34 hS => ?_)
      refine zdOp (d := some 59) (op := (.call 8 [(.tmp 46), (.tmp 47), (.tmp 58)])) (g := none) (v := (.tup [(.d (.int .i64 z34.1)), (.d (.int .i64 z34.2.1)), (.d (.bool z34.2.2))])) (ups := []) (j := 17) (t1 := [(480, true), (481, true), (482, true), (483, true), (484, true), (485, true), (486, true), (487, true)]) (acc' := [[], [], [(24, false)], [], [], [], [(32, false)], [], [], [(80, false)], [], [(32, false)], [], [], [], [], [(480, true), (481, true), (482, true), (483, true), (484, true), (485, true), (486, true), (487, true)]]) (by kernel_rfl) (by kernel_rfl) rfl (by kernel_rfl) (by kernel_rfl) (ev_call (args := [(.d (.int .i64 ((a1.Him m15).toNat : Int))), (.d (.bool p29)), (.d (.bool true))]) (l := [(.d (.int .i64 ((a1.Him m15).toNat : Int))), (.d (.bool p29)), (.d (.bool true))]) (r := (.tup [(.d (.int .i64 z34.1)), (.d (.int .i64 z34.2.1)), (.d (.bool z34.2.2))])) (by kernel_rfl) (by kernel_rfl) (f8_ok base (d - 1) (dpt hd rfl) ((a1.Him m15).toNat : Int) p29 true z34 hz34) (by kernel_rfl) (by kernel_rfl) (by kernel_rfl)) ?_
      refine zdRun (n := 7) (j := 24) (ts := [[], [], [], [], [], [], []]) (acc' := [[], [], [(24, false)], [], [], [], [(32, false)], [], [], [(80, false)], [], [(32, false)], [], [], [], [], [(480, true), (481, true), (482, true), (483, true), (484, true), (485, true), (486, true), (487, true)], [], [], [], [], [], [], []]) rfl (by kernel_rfl) (by kernel_rfl) (by kernel_rfl) ?_
      refine zdEnd (by kernel_rfl) (by kernel_rfl) ?_
      refine zkSeq ?_
      refine zrSeq ?_
      refine zrReg ?_
      refine zlRun (n := 2) (j := 2) rfl (by kernel_rfl) ?_
      refine zlOp (d := some 65) (op := (.cvI .u8 (.tmp 64))) (g := none) (v := (.d (.int .u8 ((u8 z34.1).toNat : Int)))) (ups := []) (j := 3) rfl (by kernel_rfl) (by kernel_rfl) (ev_cv (kk := .i64) (a := z34.1) (by kernel_rfl) (u8_wrap _)) ?_
      refine zlRun (n := 1) (j := 4) rfl (by kernel_rfl) ?_
      refine zlOp (d := none) (op := (.store 1 (.tmp 66) (.tmp 65))) (g := none) (v := .un) (ups := [(24, ⟨0, some (.box ((eU8.row 256 a1.Us) ++ ((eU8.row 256 (upd a1.Him m15 (u8 z34.1))) ++ (((eInt .u64).row 4 a1.UsOk) ++ (((eInt .u64).row 4 a1.HimOk) ++ [])))))⟩)]) (j := 5) rfl (by kernel_rfl) (by kernel_rfl) (ev_storeA eU8 (b := 24) (g := 0) (o := 256 + m15 * 1) (f := a1.Him) (nn := 256) (m := m15) (fo := 0) (pre := ((eU8.row 256 a1.Us) ++ [])) (post := (((eInt .u64).row 4 a1.UsOk) ++ (((eInt .u64).row 4 a1.HimOk) ++ []))) (by kernel_rfl) (by kernel_rfl) (by kernel_rfl) (inR_lt hm15) (new := ((.d (.int .u8 ((u8 z34.1).toNat : Int))) :: [])) (ds := [.int .u8 ((u8 z34.1).toNat : Int)]) (z' := (u8 z34.1)) (by kernel_rfl) (by kernel_rfl) (by kernel_rfl) (by kernel_rfl) (by kernel_rfl)) ?_
      refine zlEnd (by kernel_rfl) ?_
      refine zkSeq ?_
      refine zrSeq ?_
      refine zrRegD ?_
      refine zdRun (n := 5) (j := 5) (ts := [[(24, false)], [], [], [], [(32, false)]]) (acc' := [[(24, false)], [], [], [], [(32, false)]]) rfl (by kernel_rfl) (by kernel_rfl) (by kernel_rfl) ?_
      refine bindE hS (fun z35 hz35 hS => ?_)
      refine zdOp (d := some 72) (op := (.call 18 [(.tmp 68), (.tmp 69), (.tmp 71)])) (g := none) (v := (.d (.str z35))) (ups := []) (j := 6) (t1 := [(584, true), (585, true), (586, true), (587, true), (588, true), (589, true), (590, true), (591, true)]) (acc' := [[(24, false)], [], [], [], [(32, false)], [(584, true), (585, true), (586, true), (587, true), (588, true), (589, true), (590, true), (591, true)]]) (by kernel_rfl) (by kernel_rfl) rfl (by kernel_rfl) (by kernel_rfl) (ev_call (args := [(.d (.bool p30)), (.d (.int .i64 z34.2.1)), (.d (.int .i64 a2.Opt))]) (l := [(.d (.bool p30)), (.d (.int .i64 z34.2.1)), (.d (.int .i64 a2.Opt))]) (r := (.d (.str z35))) (by kernel_rfl) (by kernel_rfl) (f18_ok base (d - 1) (dpt hd rfl) p30 z34.2.1 a2.Opt z35 hz35) (by kernel_rfl) (by kernel_rfl) (by kernel_rfl)) ?_
      refine zdRun (n := 2) (j := 8) (ts := [[(40, true)], []]) (acc' := [[(24, false)], [], [], [], [(32, false)], [(584, true), (585, true), (586, true), (587, true), (588, true), (589, true), (590, true), (591, true)], [(40, true)], []]) rfl (by kernel_rfl) (by kernel_rfl) (by kernel_rfl) ?_
      refine zdEnd (by kernel_rfl) (by kernel_rfl) ?_
      refine zkSeq ?_
      refine zrRet ?_
      refine zkNil ?_
      exact endQ hS hQ (fRet ((congrArg (fun s => outR s 0 c17.res) (by kernel_rfl : finSt c17.fin _ = f17_fin (GNeg.mk a1.Us (upd a1.Him m15 (u8 z34.1)) a1.UsOk a1.HimOk) z35)).trans (f17_out (GNeg.mk a1.Us (upd a1.Him m15 (u8 z34.1)) a1.UsOk a1.HimOk) z35)))
    · replace hS := cond_f hc hS
      refine bindE hS (fun z36 hz36 hS => ?_)
      refine zdOp (d := some 59) (op := (.call 8 [(.tmp 46), (.tmp 47), (.tmp 58)])) (g := none) (v := (.tup [(.d (.int .i64 z36.1)), (.d (.int .i64 z36.2.1)), (.d (.bool z36.2.2))])) (ups := []) (j := 17) (t1 := [(480, true), (481, true), (482, true), (483, true), (484, true), (485, true), (486, true), (487, true)]) (acc' := [[], [], [(24, false)], [], [], [], [(32, false)], [], [], [(80, false)], [], [(32, false)], [], [], [], [], [(480, true), (481, true), (482, true), (483, true), (484, true), (485, true), (486, true), (487, true)]]) (by kernel_rfl) (by kernel_rfl) rfl (by kernel_rfl) (by kernel_rfl) (ev_call (args := [(.d (.int .i64 ((a1.Him m15).toNat : Int))), (.d (.bool p29)), (.d (.bool false))]) (l := [(.d (.int .i64 ((a1.Him m15).toNat : Int))), (.d (.bool p29)), (.d (.bool false))]) (r := (.tup [(.d (.int .i64 z36.1)), (.d (.int .i64 z36.2.1)), (.d (.bool z36.2.2))])) (by kernel_rfl) (by kernel_rfl) (f8_ok base (d - 1) (dpt hd rfl) ((a1.Him m15).toNat : Int) p29 false z36 hz36) (by kernel_rfl) (by kernel_rfl) (by kernel_rfl)) ?_
      refine zdRun (n := 7) (j := 24) (ts := [[], [], [], [], [], [], []]) (acc' := [[], [], [(24, false)], [], [], [], [(32, false)], [], [], [(80, false)], [], [(32, false)], [], [], [], [], [(480, true), (481, true), (482, true), (483, true), (484, true), (485, true), (486, true), (487, true)], [], [], [], [], [], [], []]) rfl (by kernel_rfl) (by kernel_rfl) (by kernel_rfl) ?_
      refine zdEnd (by kernel_rfl) (by kernel_rfl) ?_
      refine zkSeq ?_
      refine zrSeq ?_
      refine zrReg ?_
      refine zlRun (n := 2) (j := 2) rfl (by kernel_rfl) ?_
      refine zlOp (d := some 65) (op := (.cvI .u8 (.tmp 64))) (g := none) (v := (.d (.int .u8 ((u8 z36.1).toNat : Int)))) (ups := []) (j := 3) rfl (by kernel_rfl) (by kernel_rfl) (ev_cv (kk := .i64) (a := z36.1) (by kernel_rfl) (u8_wrap _)) ?_
      refine zlRun (n := 1) (j := 4) rfl (by kernel_rfl) ?_
      refine zlOp (d := none) (op := (.store 1 (.tmp 66) (.tmp 65))) (g := none) (v := .un) (ups := [(24, ⟨0, some (.box ((eU8.row 256 a1.Us) ++ ((eU8.row 256 (upd a1.Him m15 (u8 z36.1))) ++ (((eInt .u64).row 4 a1.UsOk) ++ (((eInt .u64).row 4 a1.HimOk) ++ [])))))⟩)]) (j := 5) rfl (by kernel_rfl) (by kernel_rfl) (ev_storeA eU8 (b := 24) (g := 0) (o := 256 + m15 * 1) (f := a1.Him) (nn := 256) (m := m15) (fo := 0) (pre := ((eU8.row 256 a1.Us) ++ [])) (post := (((eInt .u64).row 4 a1.UsOk) ++ (((eInt .u64).row 4 a1.HimOk) ++ []))) (by kernel_rfl) (by kernel_rfl) (by kernel_rfl) (inR_lt hm15) (new := ((.d (.int .u8 ((u8 z36.1).toNat : Int))) :: [])) (ds := [.int .u8 ((u8 z36.1).toNat : Int)]) (z' := (u8 z36.1)) (by kernel_rfl) (by kernel_rfl) (by kernel_rfl) (by kernel_rfl) (by kernel_rfl)) ?_
      refine zlEnd (by kernel_rfl) ?_
      refine zkSeq ?_
      refine zrSeq ?_
      refine zrRegD ?_
      refine zdRun (n := 5) (j := 5) (ts := [[(24, false)], [], [], [], [(32, false)]]) (acc' := [[(24, false)], [], [], [], [(32, false)]]) rfl (by kernel_rfl) (by kernel_rfl) (by kernel_rfl) ?_
      refine bindE hS (fun z37 hz37 hS => ?_)
      refine zdOp (d := some 72) (op := (.call 18 [(.tmp 68), (.tmp 69), (.tmp 71)])) (g := none) (v := (.d (.str z37))) (ups := []) (j := 6) (t1 := [(584, true), (585, true), (586, true), (587, true), (588, true), (589, true), (590, true), (591, true)]) (acc' := [[(24, false)], [], [], [], [(32, false)], [(584, true), (585, true), (586, true), (587, true), (588, true), (589, true), (590, true), (591, true)]]) (by kernel_rfl) (by kernel_rfl) rfl (by kernel_rfl) (by kernel_rfl) (ev_call (args := [(.d (.bool p30)), (.d (.int .i64 z36.2.1)), (.d (.int .i64 a2.Opt))]) (l := [(.d (.bool p30)), (.d (.int .i64 z36.2.1)), (.d (.int .i64 a2.Opt))]) (r := (.d (.str z37))) (by kernel_rfl) (by kernel_rfl) (f18_ok base (d - 1) (dpt hd rfl) p30 z36.2.1 a2.Opt z37 hz37) (by kernel_rfl) (by kernel_rfl) (by kernel_rfl)) ?_
      refine zdRun (n := 2) (j := 8) (ts := [[(40, true)], []]) (acc' := [[(24, false)], [], [], [], [(32, false)], [(584, true), (585, true), (586, true), (587, true), (588, true), (589, true), (590, true), (591, true)], [(40, true)], []]) rfl (by kernel_rfl) (by kernel_rfl) (by kernel_rfl) ?_
      refine zdEnd (by kernel_rfl) (by kernel_rfl) ?_
      refine zkSeq ?_
      refine zrRet ?_
      refine zkNil ?_
      exact endQ hS hQ (fRet ((congrArg (fun s => outR s 0 c17.res) (by kernel_rfl : finSt c17.fin _ = f17_fin (GNeg.mk a1.Us (upd a1.Him m15 (u8 z36.1)) a1.UsOk a1.HimOk) z37)).trans (f17_out (GNeg.mk a1.Us (upd a1.Him m15 (u8 z36.1)) a1.UsOk a1.HimOk) z37)))
def f17_j0_J (a1 : GNeg) (a2 : GTok) (p21 : GNeg) (p22 : Bool) : St := ⟨(up (up (up (up (fun _ => .un) 6 (.d (.bool p22))) 4 (.r (.ptr 40 0 0))) 3 (.r (.ptr 32 0 0))) 2 (.r (.ptr 24 0 0))), (up (up (up (hB fun _ => 0) 40 ⟨0, some (.box ((eU8.row 256 p21.Us) ++ ((eU8.row 256 p21.Him) ++ (((eInt .u64).row 4 p21.UsOk) ++ (((eInt .u64).row 4 p21.HimOk) ++ [])))))⟩) 32 ⟨0, some (.box ((.d (.int .i64 a2.Kind)) :: ((.d (.int .i64 a2.Cmd)) :: ((.d (.int .i64 a2.Opt)) :: ((.d (.str a2.Data)) :: [])))))⟩) 24 ⟨0, some (.box ((eU8.row 256 a1.Us) ++ ((eU8.row 256 a1.Him) ++ (((eInt .u64).row 4 a1.UsOk) ++ (((eInt .u64).row 4 a1.HimOk) ++ [])))))⟩)⟩
noncomputable def f17_j0 (a1 : GNeg) (a2 : GTok) (p21 : GNeg) (p22 : Bool) : Option (GNeg × (List UInt8)) := (bif (decide (a2.Cmd = 253)) then (f17_j1 a1 a2 p21 p22 true) else (bif (decide (a2.Cmd = 254)) then (f17_j1 a1 a2 p21 p22 true) else (f17_j1 a1 a2 p21 p22 false)))
theorem f17_j0_ok {base : Orc} {d : Nat} (hd : 2 ≤ d) (a1 : GNeg) (a2 : GTok) {r : GNeg × (List UInt8)} {Q : PX → St → Prop} (hQ : ∀ e st', f17_Q r e st' → Q e st') (p21 : GNeg) (p22 : Bool) (hS : f17_j0 a1 a2 p21 p22 = some r) {st : St} (he : keepSt [2, 3, 4, 6] [(24, .id 24), (32, .id 32), (40, .id 40)] [] st = f17_j0_J a1 a2 p21 p22) : ZR (lev codes base (d - 1)) Q c17_2 [] st := by
  refine zrKeep he ?_
  unfold f17_j0 at hS
  refine zrSeq ?_
  refine zrReg ?_
  refine zlRun (n := 2) (j := 2) rfl (by kernel_rfl) ?_
  refine zlBool (d := 23) (op := (.cmpI .eql (.tmp 22) (.const (.int .i64 253)))) (g := none) (j := 3) (decide (a2.Cmd = 253)) rfl (by kernel_rfl) (by kernel_rfl) (by kernel_rfl) (fun hc => ?_) (fun hc => ?_)
  · replace hS := cond_t hc hS
    refine zlRun (n := 6) (j := 9) rfl (by kernel_rfl) ?_
    refine zlEnd (by kernel_rfl) ?_
    refine zkSeq ?_
    exact f17_j1_ok hd a1 a2 hQ p21 p22 true hS (by kernel_rfl)
  · replace hS := cond_f hc hS
    refine zlRun (n := 3) (j := 6) rfl (by kernel_rfl) ?_
    refine zlBool (d := 27) (op := (.cmpI .eql (.tmp 26) (.const (.int .i64 254)))) (g := (some (24, false))) (j := 7) (decide (a2.Cmd = 254)) rfl (by kernel_rfl) (by kernel_rfl) (by kernel_rfl) (fun hc => ?_) (fun hc => ?_)
    · replace hS := cond_t hc hS
      refine zlRun (n := 2) (j := 9) rfl (by kernel_rfl) ?_
      refine zlEnd (by kernel_rfl) ?_
      refine zkSeq ?_
      exact f17_j1_ok hd a1 a2 hQ p21 p22 true hS (by kernel_rfl)
    · replace hS := cond_f hc hS
      refine zlRun (n := 2) (j := 9) rfl (by kernel_rfl) ?_
      refine zlEnd (by kernel_rfl) ?_
      refine zkSeq ?_
      exact f17_j1_ok hd a1 a2 hQ p21 p22 false hS (by kernel_rfl)
noncomputable def f17 (a1 : GNeg) (a2 : GTok) : Option (GNeg × (List UInt8)) := (bif (decide (a2.Cmd = 251)) then (f17_j0 a1 a2 (GNeg.mk (fun _ => 0) (fun _ => 0) (fun _ => 0) (fun _ => 0)) true) else (bif (decide (a2.Cmd = 253)) then (f17_j0 a1 a2 (GNeg.mk (fun _ => 0) (fun _ => 0) (fun _ => 0) (fun _ => 0)) true) else (f17_j0 a1 a2 (GNeg.mk (fun _ => 0) (fun _ => 0) (fun _ => 0) (fun _ => 0)) false)))
theorem f17_ok (base : Orc) (d : Nat) (hd : 2 ≤ d) (a1 : GNeg) (a2 : GTok) (r : GNeg × (List UInt8)) (hS : f17 a1 a2 = some r) : lev codes base d 17 [(.agg ((eU8.row 256 a1.Us) ++ ((eU8.row 256 a1.Him) ++ (((eInt .u64).row 4 a1.UsOk) ++ (((eInt .u64).row 4 a1.HimOk) ++ []))))), (.agg ((.d (.int .i64 a2.Kind)) :: ((.d (.int .i64 a2.Cmd)) :: ((.d (.int .i64 a2.Opt)) :: ((.d (.str a2.Data)) :: [])))))] [] = some ((.tup [(.agg ((eU8.row 256 r.1.Us) ++ ((eU8.row 256 r.1.Him) ++ (((eInt .u64).row 4 r.1.UsOk) ++ (((eInt .u64).row 4 r.1.HimOk) ++ []))))), (.d (.str r.2))]), []) := by
  refine lev_go codes17 rfl rfl (Nat.le_trans (Nat.le_of_ble_eq_true rfl) hd) fun Q hQ => ?_
  unfold f17 at hS
  show ZR _ Q c17_b [] _
  replace hQ : ∀ e st', f17_Q r e st' → Q e st' := hQ
  refine zrSeq ?_
  refine zrReg ?_
  refine zlRun (n := 4) (j := 4) rfl (by kernel_rfl) ?_
  refine zlEnd (by kernel_rfl) ?_
  refine zkSeq ?_
  refine zrSeq ?_
  refine zrReg ?_
  refine zlRun (n := 2) (j := 2) rfl (by kernel_rfl) ?_
  refine zlBool (d := 15) (op := (.cmpI .eql (.tmp 14) (.const (.int .i64 251)))) (g := none) (j := 3) (decide (a2.Cmd = 251)) rfl (by kernel_rfl) (by kernel_rfl) (by kernel_rfl) (fun hc => ?_) (fun hc => ?_)
  · replace hS := cond_t hc hS
    refine zlRun (n := 6) (j := 9) rfl (by kernel_rfl) ?_
    refine zlEnd (by kernel_rfl) ?_
    refine zkSeq ?_
    exact f17_j0_ok hd a1 a2 hQ (GNeg.mk (fun _ => 0) (fun _ => 0) (fun _ => 0) (fun _ => 0)) true hS (by kernel_rfl)
  · replace hS := cond_f hc hS
    refine zlRun (n := 3) (j := 6) rfl (by kernel_rfl) ?_
    refine zlBool (d := 19) (op := (.cmpI .eql (.tmp 18) (.const (.int .i64 253)))) (g := (some (16, false))) (j := 7) (decide (a2.Cmd = 253)) rfl (by kernel_rfl) (by kernel_rfl) (by kernel_rfl) (fun hc => ?_) (fun hc => ?_)
    · replace hS := cond_t hc hS
      refine zlRun (n := 2) (j := 9) rfl (by kernel_rfl) ?_
      refine zlEnd (by kernel_rfl) ?_
      refine zkSeq ?_
      exact f17_j0_ok hd a1 a2 hQ (GNeg.mk (fun _ => 0) (fun _ => 0) (fun _ => 0) (fun _ => 0)) true hS (by kernel_rfl)
    · replace hS := cond_f hc hS
      refine zlRun (n := 2) (j := 9) rfl (by kernel_rfl) ?_
      refine zlEnd (by kernel_rfl) ?_
      refine zkSeq ?_
      exact f17_j0_ok hd a1 a2 hQ (GNeg.mk (fun _ => 0) (fun _ => 0) (fun _ => 0) (fun _ => 0)) false hS (by kernel_rfl)
/- farwriter/qneg.Take -/
def f11_fin (p4 : GNeg) (p5 : List UInt8) (p6 : Int) : St := ⟨(up (up (up (fun _ => .un) 6 (.d (.int .i64 p6))) 5 (.d (.str p5))) 4 (.r (.ptr 40 0 0))), (up (hB fun _ => 0) 40 ⟨0, some (.box ((eU8.row 256 p4.Us) ++ ((eU8.row 256 p4.Him) ++ (((eInt .u64).row 4 p4.UsOk) ++ (((eInt .u64).row 4 p4.HimOk) ++ [])))))⟩)⟩
theorem f11_out (p4 : GNeg) (p5 : List UInt8) (p6 : Int) : outR (f11_fin p4 p5 p6) 0 c11.res = some ((.tup [(.agg ((eU8.row 256 p4.Us) ++ ((eU8.row 256 p4.Him) ++ (((eInt .u64).row 4 p4.UsOk) ++ (((eInt .u64).row 4 p4.HimOk) ++ []))))), (.d (.str p5)), (.d (.int .i64 p6))]), []) := by
  kernel_rfl
def f11_Q (r : GNeg × (List UInt8) × Int) (e : PX) (st : St) : Prop := DoneF c11 0 ((.tup [(.agg ((eU8.row 256 r.1.Us) ++ ((eU8.row 256 r.1.Him) ++ (((eInt .u64).row 4 r.1.UsOk) ++ (((eInt .u64).row 4 r.1.HimOk) ++ []))))), (.d (.str r.2.1)), (.d (.int .i64 r.2.2))]), []) e st
def f11_j1_J (a1 : GNeg) (a2 : GTok) (p11 : GNeg) : St := ⟨(up (up (up (fun _ => .un) 4 (.r (.ptr 40 0 0))) 3 (.r (.ptr 32 0 0))) 2 (.r (.ptr 24 0 0))), (up (up (up (hB fun _ => 0) 40 ⟨0, some (.box ((eU8.row 256 p11.Us) ++ ((eU8.row 256 p11.Him) ++ (((eInt .u64).row 4 p11.UsOk) ++ (((eInt .u64).row 4 p11.HimOk) ++ [])))))⟩) 32 ⟨0, some (.box ((.d (.int .i64 a2.Kind)) :: ((.d (.int .i64 a2.Cmd)) :: ((.d (.int .i64 a2.Opt)) :: ((.d (.str a2.Data)) :: [])))))⟩) 24 ⟨0, some (.box ((eU8.row 256 a1.Us) ++ ((eU8.row 256 a1.Him) ++ (((eInt .u64).row 4 a1.UsOk) ++ (((eInt .u64).row 4 a1.HimOk) ++ [])))))⟩)⟩
noncomputable def f11_j1 (a1 : GNeg) (a2 : GTok) (p11 : GNeg) : Option (GNeg × (List UInt8) × Int) := ((f17 a1 a2).bind fun z6 => (some (z6.1, z6.2, 0)))
theorem f11_j1_ok {base : Orc} {d : Nat} (hd : 3 ≤ d) (a1 : GNeg) (a2 : GTok) {r : GNeg × (List UInt8) × Int} {Q : PX → St → Prop} (hQ : ∀ e st', f11_Q r e st' → Q e st') (p11 : GNeg) (hS : f11_j1 a1 a2 p11 = some r) {st : St} (he : keepSt [2, 3, 4] [(24, .id 24), (32, .id 32), (40, .id 40)] [] st = f11_j1_J a1 a2 p11) : ZR (lev codes base (d - 1)) Q c11_1 [] st := by
  refine zrKeep he ?_
  unfold f11_j1 at hS
  refine zrSeq ?_
  refine zrReg ?_
  refine zlRun (n := 2) (j := 2) rfl (by kernel_rfl) ?_
  refine bindE hS (fun z6 hz6 hS => ?_)
  refine zlOp (d := some 22) (op := (.call 17 [(.tmp 20), (.tmp 21)])) (g := none) (v := (.tup [(.agg ((eU8.row 256 z6.1.Us) ++ ((eU8.row 256 z6.1.Him) ++ (((eInt .u64).row 4 z6.1.UsOk) ++ (((eInt .u64).row 4 z6.1.HimOk) ++ []))))), (.d (.str z6.2))])) (ups := []) (j := 3) rfl (by kernel_rfl) (by kernel_rfl) (ev_call (args := [(.agg ((eU8.row 256 a1.Us) ++ ((eU8.row 256 a1.Him) ++ (((eInt .u64).row 4 a1.UsOk) ++ (((eInt .u64).row 4 a1.HimOk) ++ []))))), (.agg ((.d (.int .i64 a2.Kind)) :: ((.d (.int .i64 a2.Cmd)) :: ((.d (.int .i64 a2.Opt)) :: ((.d (.str a2.Data)) :: [])))))]) (l := [(.agg ((eU8.row 256 a1.Us) ++ ((eU8.row 256 a1.Him) ++ (((eInt .u64).row 4 a1.UsOk) ++ (((eInt .u64).row 4 a1.HimOk) ++ []))))), (.agg ((.d (.int .i64 a2.Kind)) :: ((.d (.int .i64 a2.Cmd)) :: ((.d (.int .i64 a2.Opt)) :: ((.d (.str a2.Data)) :: [])))))]) (r := (.tup [(.agg ((eU8.row 256 z6.1.Us) ++ ((eU8.row 256 z6.1.Him) ++ (((eInt .u64).row 4 z6.1.UsOk) ++ (((eInt .u64).row 4 z6.1.HimOk) ++ []))))), (.d (.str z6.2))])) (by kernel_rfl) (by kernel_rfl) (f17_ok base (d - 1) (dpt hd rfl) a1 a2 z6 hz6) (by kernel_rfl) (by kernel_rfl) (by kernel_rfl)) ?_
  refine zlRun (n := 5) (j := 8) rfl (by kernel_rfl) ?_
  refine zlEnd (by kernel_rfl) ?_
  refine zkSeq ?_
  refine zrSeq ?_
  refine zrReg ?_
  refine zlRun (n := 5) (j := 5) rfl (by kernel_rfl) ?_
  refine zlEnd (by kernel_rfl) ?_
  refine zkSeq ?_
  refine zrRet ?_
  refine zkNil ?_
  exact endQ hS hQ (fRet ((congrArg (fun s => outR s 0 c11.res) (by kernel_rfl : finSt c11.fin _ = f11_fin z6.1 z6.2 0)).trans (f11_out z6.1 z6.2 0)))
def f11_j0_J (a1 : GNeg) (a2 : GTok) (p10 : GNeg) : St := ⟨(up (up (up (fun _ => .un) 4 (.r (.ptr 40 0 0))) 3 (.r (.ptr 32 0 0))) 2 (.r (.ptr 24 0 0))), (up (up (up (hB fun _ => 0) 40 ⟨0, some (.box ((eU8.row 256 p10.Us) ++ ((eU8.row 256 p10.Him) ++ (((eInt .u64).row 4 p10.UsOk) ++ (((eInt .u64).row 4 p10.HimOk) ++ [])))))⟩) 32 ⟨0, some (.box ((.d (.int .i64 a2.Kind)) :: ((.d (.int .i64 a2.Cmd)) :: ((.d (.int .i64 a2.Opt)) :: ((.d (.str a2.Data)) :: [])))))⟩) 24 ⟨0, some (.box ((eU8.row 256 a1.Us) ++ ((eU8.row 256 a1.Him) ++ (((eInt .u64).row 4 a1.UsOk) ++ (((eInt .u64).row 4 a1.HimOk) ++ [])))))⟩)⟩
noncomputable def f11_j0 (a1 : GNeg) (a2 : GTok) (p10 : GNeg) : Option (GNeg × (List UInt8) × Int) := ((f16 a2).bind fun z7 => (bif (!z7) then (some (a1, [], 1)) else (f11_j1 a1 a2 p10)))
theorem f11_j0_ok {base : Orc} {d : Nat} (hd : 3 ≤ d) (a1 : GNeg) (a2 : GTok) {r : GNeg × (List UInt8) × Int} {Q : PX → St → Prop} (hQ : ∀ e st', f11_Q r e st' → Q e st') (p10 : GNeg) (hS : f11_j0 a1 a2 p10 = some r) {st : St} (he : keepSt [2, 3, 4] [(24, .id 24), (32, .id 32), (40, .id 40)] [] st = f11_j0_J a1 a2 p10) : ZR (lev codes base (d - 1)) Q c11_2 [] st := by
  refine zrKeep he ?_
  unfold f11_j0 at hS
  refine zrSeq ?_
  refine zrSeq ?_
  refine zrReg ?_
  refine zlRun (n := 1) (j := 1) rfl (by kernel_rfl) ?_
  refine bindE hS (fun z7 hz7 hS => ?_)
  refine zlOp (d := some 16) (op := (.call 16 [(.tmp 15)])) (g := none) (v := (.d (.bool z7))) (ups := []) (j := 2) rfl (by kernel_rfl) (by kernel_rfl) (ev_call (args := [(.agg ((.d (.int .i64 a2.Kind)) :: ((.d (.int .i64 a2.Cmd)) :: ((.d (.int .i64 a2.Opt)) :: ((.d (.str a2.Data)) :: [])))))]) (l := [(.agg ((.d (.int .i64 a2.Kind)) :: ((.d (.int .i64 a2.Cmd)) :: ((.d (.int .i64 a2.Opt)) :: ((.d (.str a2.Data)) :: [])))))]) (r := (.d (.bool z7))) (by kernel_rfl) (by kernel_rfl) (f16_ok base (d - 1) (dpt hd rfl) a2 z7 hz7) (by kernel_rfl) (by kernel_rfl) (by kernel_rfl)) ?_
  refine zlRun (n := 1) (j := 3) rfl (by kernel_rfl) ?_
  refine zlEnd (by kernel_rfl) ?_
  refine zkSeq ?_
  refine zrSplit 17 (!z7) (by kernel_rfl) (fun hc => ?_) (fun hc => ?_)
  · replace hS := cond_t hc hS
    refine zrCondT (by kernel_rfl) ?_
    refine zrSeq ?_
    refine zrReg ?_
    refine zlRun (n := 4) (j := 4) rfl (by kernel_rfl) ?_
    refine zlEnd (by kernel_rfl) ?_
    refine zkSeq ?_
    refine zrRet ?_
    refine zkSeqR ?_
    refine zkNil ?_
    exact endQ hS hQ (fRet ((congrArg (fun s => outR s 0 c11.res) (by kernel_rfl : finSt c11.fin _ = f11_fin a1 [] 1)).trans (f11_out a1 [] 1)))
  · replace hS := cond_f hc hS
    refine zrCondF (by kernel_rfl) ?_
    refine zrSkip ?_
    refine zkSeq ?_
    exact f11_j1_ok hd a1 a2 hQ p10 hS (by kernel_rfl)
noncomputable def f11 (a1 : GNeg) (a2 : GTok) : Option (GNeg × (List UInt8) × Int) := ((f15 a1).bind fun z8 => (bif (!decide (z8 = 0)) then (some (a1, [], z8)) else (f11_j0 a1 a2 (GNeg.mk (fun _ => 0) (fun _ => 0) (fun _ => 0) (fun _ => 0)))))
theorem f11_ok (base : Orc) (d : Nat) (hd : 3 ≤ d) (a1 : GNeg) (a2 : GTok) (r : GNeg × (List UInt8) × Int) (hS : f11 a1 a2 = some r) : lev codes base d 11 [(.agg ((eU8.row 256 a1.Us) ++ ((eU8.row 256 a1.Him) ++ (((eInt .u64).row 4 a1.UsOk) ++ (((eInt .u64).row 4 a1.HimOk) ++ []))))), (.agg ((.d (.int .i64 a2.Kind)) :: ((.d (.int .i64 a2.Cmd)) :: ((.d (.int .i64 a2.Opt)) :: ((.d (.str a2.Data)) :: [])))))] [] = some ((.tup [(.agg ((eU8.row 256 r.1.Us) ++ ((eU8.row 256 r.1.Him) ++ (((eInt .u64).row 4 r.1.UsOk) ++ (((eInt .u64).row 4 r.1.HimOk) ++ []))))), (.d (.str r.2.1)), (.d (.int .i64 r.2.2))]), []) := by
  refine lev_go codes11 rfl rfl (Nat.le_trans (Nat.le_of_ble_eq_true rfl) hd) fun Q hQ => ?_
  unfold f11 at hS
  show ZR _ Q c11_b [] _
  replace hQ : ∀ e st', f11_Q r e st' → Q e st' := hQ
  refine zrSeq ?_
  refine zrReg ?_
  refine zlRun (n := 5) (j := 5) rfl (by kernel_rfl) ?_
  refine zlEnd (by kernel_rfl) ?_
  refine zkSeq ?_
  refine zrSeq ?_
  refine zrSeq ?_
  refine zrReg ?_
  refine zlRun (n := 1) (j := 1) rfl (by kernel_rfl) ?_
  refine bindE hS (fun z8 hz8 hS => ?_)
  refine zlOp (d := some 10) (op := (.call 15 [(.tmp 9)])) (g := none) (v := (.d (.int .i64 z8))) (ups := []) (j := 2) rfl (by kernel_rfl) (by kernel_rfl) (ev_call (args := [(.agg ((eU8.row 256 a1.Us) ++ ((eU8.row 256 a1.Him) ++ (((eInt .u64).row 4 a1.UsOk) ++ (((eInt .u64).row 4 a1.HimOk) ++ [])))))]) (l := [(.agg ((eU8.row 256 a1.Us) ++ ((eU8.row 256 a1.Him) ++ (((eInt .u64).row 4 a1.UsOk) ++ (((eInt .u64).row 4 a1.HimOk) ++ [])))))]) (r := (.d (.int .i64 z8))) (by kernel_rfl) (by kernel_rfl) (f15_ok base (d - 1) (dpt hd rfl) a1 z8 hz8) (by kernel_rfl) (by kernel_rfl) (by kernel_rfl)) ?_
  refine zlRun (n := 1) (j := 3) rfl (by kernel_rfl) ?_
  refine zlEnd (by kernel_rfl) ?_
  refine zkSeq ?_
  refine zrSeq ?_
  refine zrReg ?_
  refine zlRun (n := 1) (j := 1) rfl (by kernel_rfl) ?_
  refine zlBool (d := 12) (op := (.cmpI .neq (.tmp 11) (.const (.int .i64 0)))) (g := none) (j := 2) (!decide (z8 = 0)) rfl (by kernel_rfl) (by kernel_rfl) (by kernel_rfl) (fun hc => ?_) (fun hc => ?_)
  · replace hS := cond_t hc hS
    refine zlEnd (by kernel_rfl) ?_
    refine zkSeq ?_
    refine zrCondT (by kernel_rfl) ?_
    refine zrSeq ?_
    refine zrReg ?_
    refine zlRun (n := 5) (j := 5) rfl (by kernel_rfl) ?_
    refine zlEnd (by kernel_rfl) ?_
    refine zkSeq ?_
    refine zrRet ?_
    refine zkSeqR ?_
    refine zkNil ?_
    exact endQ hS hQ (fRet ((congrArg (fun s => outR s 0 c11.res) (by kernel_rfl : finSt c11.fin _ = f11_fin a1 [] z8)).trans (f11_out a1 [] z8)))
  · replace hS := cond_f hc hS
    refine zlEnd (by kernel_rfl) ?_
    refine zkSeq ?_
    refine zrCondF (by kernel_rfl) ?_
    refine zrSkip ?_
    refine zkSeq ?_
    exact f11_j0_ok hd a1 a2 hQ (GNeg.mk (fun _ => 0) (fun _ => 0) (fun _ => 0) (fun _ => 0)) hS (by kernel_rfl)
/- farwriter/qneg.Ask -/
def f10_fin (p13 : Int) (p14 : Int) (p15 : Int) : St := ⟨(up (up (up (fun _ => .un) 6 (.d (.int .i64 p15))) 5 (.d (.int .i64 p14))) 4 (.d (.int .i64 p13))), (hB fun _ => 0)⟩
theorem f10_out (p13 : Int) (p14 : Int) (p15 : Int) : outR (f10_fin p13 p14 p15) 0 c10.res = some ((.tup [(.d (.int .i64 p13)), (.d (.int .i64 p14)), (.d (.int .i64 p15))]), []) := by
  kernel_rfl
def f10_Q (r : Int × Int × Int) (e : PX) (st : St) : Prop := DoneF c10 0 ((.tup [(.d (.int .i64 r.1)), (.d (.int .i64 r.2.1)), (.d (.int .i64 r.2.2))]), []) e st
def f10_j5_J (a1 : Int) (a2 : Bool) : St := ⟨(up (up (fun _ => .un) 1 (.d (.bool a2))) 0 (.d (.int .i64 a1))), (hB fun _ => 0)⟩
noncomputable def f10_j5 (a1 : Int) (a2 : Bool) : Option (Int × Int × Int) := (bif (!a2) then (bif (decide (a1 = 4)) then (some (5, 0, 0)) else (some (a1, 0, 7))) else (some (a1, 0, 7)))
theorem f10_j5_ok {base : Orc} {d : Nat} (hd : 2 ≤ d) (a1 : Int) (a2 : Bool) {r : Int × Int × Int} {Q : PX → St → Prop} (hQ : ∀ e st', f10_Q r e st' → Q e st')  (hS : f10_j5 a1 a2 = some r) {st : St} (he : keepSt [0, 1] [] [] st = f10_j5_J a1 a2) : ZR (lev codes base (d - 1)) Q c10_1 [.blk 0, .seq c10_2] st := by
  refine zrKeep he ?_
  unfold f10_j5 at hS
  refine zrSeq ?_
  refine zrReg ?_
  refine zlRun (n := 3) (j := 3) rfl (by kernel_rfl) ?_
  refine zlSplit 46 (!a2) (by kernel_rfl) (fun hc => ?_) (fun hc => ?_)
  · replace hS := cond_t hc hS
    refine zlRun (n := 1) (j := 4) rfl (by kernel_rfl) ?_
    refine zlBool (d := 48) (op := (.cmpI .eql (.tmp 47) (.const (.int .i64 4)))) (g := (some (46, true))) (j := 5) (decide (a1 = 4)) rfl (by kernel_rfl) (by kernel_rfl) (by kernel_rfl) (fun hc => ?_) (fun hc => ?_)
    · replace hS := cond_t hc hS
      refine zlRun (n := 2) (j := 7) rfl (by kernel_rfl) ?_
      refine zlEnd (by kernel_rfl) ?_
      refine zkSeq ?_
      refine zrCondT (by kernel_rfl) ?_
      refine zrSeq ?_
      refine zrReg ?_
      refine zlRun (n := 3) (j := 3) rfl (by kernel_rfl) ?_
      refine zlEnd (by kernel_rfl) ?_
      refine zkSeq ?_
      refine zrRet ?_
      refine zkBlkR ?_
      refine zkSeqR ?_
      refine zkNil ?_
      exact endQ hS hQ (fRet ((congrArg (fun s => outR s 0 c10.res) (by kernel_rfl : finSt c10.fin _ = f10_fin 5 0 0)).trans (f10_out 5 0 0)))
    · replace hS := cond_f hc hS
      refine zlRun (n := 2) (j := 7) rfl (by kernel_rfl) ?_
      refine zlEnd (by kernel_rfl) ?_
      refine zkSeq ?_
      refine zrCondF (by kernel_rfl) ?_
      refine zrSkip ?_
      refine zkBlk ?_
      refine zkSeq ?_
      refine zrSeq ?_
      refine zrReg ?_
      refine zlRun (n := 4) (j := 4) rfl (by kernel_rfl) ?_
      refine zlEnd (by kernel_rfl) ?_
      refine zkSeq ?_
      refine zrRet ?_
      refine zkNil ?_
      exact endQ hS hQ (fRet ((congrArg (fun s => outR s 0 c10.res) (by kernel_rfl : finSt c10.fin _ = f10_fin a1 0 7)).trans (f10_out a1 0 7)))
  · replace hS := cond_f hc hS
    refine zlRun (n := 4) (j := 7) rfl (by kernel_rfl) ?_
    refine zlEnd (by kernel_rfl) ?_
    refine zkSeq ?_
    refine zrCondF (by kernel_rfl) ?_
    refine zrSkip ?_
    refine zkBlk ?_
    refine zkSeq ?_
    refine zrSeq ?_
    refine zrReg ?_
    refine zlRun (n := 4) (j := 4) rfl (by kernel_rfl) ?_
    refine zlEnd (by kernel_rfl) ?_
    refine zkSeq ?_
    refine zrRet ?_
    refine zkNil ?_
    exact endQ hS hQ (fRet ((congrArg (fun s => outR s 0 c10.res) (by kernel_rfl : finSt c10.fin _ = f10_fin a1 0 7)).trans (f10_out a1 0 7)))
def f10_j4_J (a1 : Int) (a2 : Bool) : St := ⟨(up (up (fun _ => .un) 1 (.d (.bool a2))) 0 (.d (.int .i64 a1))), (hB fun _ => 0)⟩
noncomputable def f10_j4 (a1 : Int) (a2 : Bool) : Option (Int × Int × Int) := (bif (!a2) then (bif (decide (a1 = 3)) then (some (2, 0, 0)) else (f10_j5 a1 a2 )) else (f10_j5 a1 a2 ))
theorem f10_j4_ok {base : Orc} {d : Nat} (hd : 2 ≤ d) (a1 : Int) (a2 : Bool) {r : Int × Int × Int} {Q : PX → St → Prop} (hQ : ∀ e st', f10_Q r e st' → Q e st')  (hS : f10_j4 a1 a2 = some r) {st : St} (he : keepSt [0, 1] [] [] st = f10_j4_J a1 a2) : ZR (lev codes base (d - 1)) Q c10_3 [.blk 0, .seq c10_2] st := by
  refine zrKeep he ?_
  unfold f10_j4 at hS
  refine zrSeq ?_
  refine zrReg ?_
  refine zlRun (n := 3) (j := 3) rfl (by kernel_rfl) ?_
  refine zlSplit 39 (!a2) (by kernel_rfl) (fun hc => ?_) (fun hc => ?_)
  · replace hS := cond_t hc hS
    refine zlRun (n := 1) (j := 4) rfl (by kernel_rfl) ?_
    refine zlBool (d := 41) (op := (.cmpI .eql (.tmp 40) (.const (.int .i64 3)))) (g := (some (39, true))) (j := 5) (decide (a1 = 3)) rfl (by kernel_rfl) (by kernel_rfl) (by kernel_rfl) (fun hc => ?_) (fun hc => ?_)
    · replace hS := cond_t hc hS
      refine zlRun (n := 2) (j := 7) rfl (by kernel_rfl) ?_
      refine zlEnd (by kernel_rfl) ?_
      refine zkSeq ?_
      refine zrCondT (by kernel_rfl) ?_
      refine zrSeq ?_
      refine zrReg ?_
      refine zlRun (n := 3) (j := 3) rfl (by kernel_rfl) ?_
      refine zlEnd (by kernel_rfl) ?_
      refine zkSeq ?_
      refine zrRet ?_
      refine zkBlkR ?_
      refine zkSeqR ?_
      refine zkNil ?_
      exact endQ hS hQ (fRet ((congrArg (fun s => outR s 0 c10.res) (by kernel_rfl : finSt c10.fin _ = f10_fin 2 0 0)).trans (f10_out 2 0 0)))
    · replace hS := cond_f hc hS
      refine zlRun (n := 2) (j := 7) rfl (by kernel_rfl) ?_
      refine zlEnd (by kernel_rfl) ?_
      refine zkSeq ?_
      refine zrCondF (by kernel_rfl) ?_
      exact f10_j5_ok hd a1 a2 hQ  hS (by kernel_rfl)
  · replace hS := cond_f hc hS
    refine zlRun (n := 4) (j := 7) rfl (by kernel_rfl) ?_
    refine zlEnd (by kernel_rfl) ?_
    refine zkSeq ?_
    refine zrCondF (by kernel_rfl) ?_
    exact f10_j5_ok hd a1 a2 hQ  hS (by kernel_rfl)
def f10_j3_J (a1 : Int) (a2 : Bool) : St := ⟨(up (up (fun _ => .un) 1 (.d (.bool a2))) 0 (.d (.int .i64 a1))), (hB fun _ => 0)⟩
noncomputable def f10_j3 (a1 : Int) (a2 : Bool) : Option (Int × Int × Int) := (bif (!a2) then (bif (decide (a1 = 1)) then (some (2, 2, 0)) else (f10_j4 a1 a2 )) else (f10_j4 a1 a2 ))
theorem f10_j3_ok {base : Orc} {d : Nat} (hd : 2 ≤ d) (a1 : Int) (a2 : Bool) {r : Int × Int × Int} {Q : PX → St → Prop} (hQ : ∀ e st', f10_Q r e st' → Q e st')  (hS : f10_j3 a1 a2 = some r) {st : St} (he : keepSt [0, 1] [] [] st = f10_j3_J a1 a2) : ZR (lev codes base (d - 1)) Q c10_4 [.blk 0, .seq c10_2] st := by
  refine zrKeep he ?_
  unfold f10_j3 at hS
  refine zrSeq ?_
  refine zrReg ?_
  refine zlRun (n := 3) (j := 3) rfl (by kernel_rfl) ?_
  refine zlSplit 32 (!a2) (by kernel_rfl) (fun hc => ?_) (fun hc => ?_)
  · replace hS := cond_t hc hS
    refine zlRun (n := 1) (j := 4) rfl (by kernel_rfl) ?_
    refine zlBool (d := 34) (op := (.cmpI .eql (.tmp 33) (.const (.int .i64 1)))) (g := (some (32, true))) (j := 5) (decide (a1 = 1)) rfl (by kernel_rfl) (by kernel_rfl) (by kernel_rfl) (fun hc => ?_) (fun hc => ?_)
    · replace hS := cond_t hc hS
      refine zlRun (n := 2) (j := 7) rfl (by kernel_rfl) ?_
      refine zlEnd (by kernel_rfl) ?_
      refine zkSeq ?_
      refine zrCondT (by kernel_rfl) ?_
      refine zrSeq ?_
      refine zrReg ?_
      refine zlRun (n := 3) (j := 3) rfl (by kernel_rfl) ?_
      refine zlEnd (by kernel_rfl) ?_
      refine zkSeq ?_
      refine zrRet ?_
      refine zkBlkR ?_
      refine zkSeqR ?_
      refine zkNil ?_
      exact endQ hS hQ (fRet ((congrArg (fun s => outR s 0 c10.res) (by kernel_rfl : finSt c10.fin _ = f10_fin 2 2 0)).trans (f10_out 2 2 0)))
    · replace hS := cond_f hc hS
      refine zlRun (n := 2) (j := 7) rfl (by kernel_rfl) ?_
      refine zlEnd (by kernel_rfl) ?_
      refine zkSeq ?_
      refine zrCondF (by kernel_rfl) ?_
      exact f10_j4_ok hd a1 a2 hQ  hS (by kernel_rfl)
  · replace hS := cond_f hc hS
    refine zlRun (n := 4) (j := 7) rfl (by kernel_rfl) ?_
    refine zlEnd (by kernel_rfl) ?_
    refine zkSeq ?_
    refine zrCondF (by kernel_rfl) ?_
    exact f10_j4_ok hd a1 a2 hQ  hS (by kernel_rfl)
def f10_j2_J (a1 : Int) (a2 : Bool) : St := ⟨(up (up (fun _ => .un) 1 (.d (.bool a2))) 0 (.d (.int .i64 a1))), (hB fun _ => 0)⟩
noncomputable def f10_j2 (a1 : Int) (a2 : Bool) : Option (Int × Int × Int) := (bif a2 then (bif (decide (a1 = 5)) then (some (4, 0, 0)) else (f10_j3 a1 a2 )) else (f10_j3 a1 a2 ))
theorem f10_j2_ok {base : Orc} {d : Nat} (hd : 2 ≤ d) (a1 : Int) (a2 : Bool) {r : Int × Int × Int} {Q : PX → St → Prop} (hQ : ∀ e st', f10_Q r e st' → Q e st')  (hS : f10_j2 a1 a2 = some r) {st : St} (he : keepSt [0, 1] [] [] st = f10_j2_J a1 a2) : ZR (lev codes base (d - 1)) Q c10_5 [.blk 0, .seq c10_2] st := by
  refine zrKeep he ?_
  unfold f10_j2 at hS
  refine zrSeq ?_
  refine zrReg ?_
  refine zlRun (n := 2) (j := 2) rfl (by kernel_rfl) ?_
  refine zlSplit 25 a2 (by kernel_rfl) (fun hc => ?_) (fun hc => ?_)
  · replace hS := cond_t hc hS
    refine zlRun (n := 1) (j := 3) rfl (by kernel_rfl) ?_
    refine zlBool (d := 27) (op := (.cmpI .eql (.tmp 26) (.const (.int .i64 5)))) (g := (some (25, true))) (j := 4) (decide (a1 = 5)) rfl (by kernel_rfl) (by kernel_rfl) (by kernel_rfl) (fun hc => ?_) (fun hc => ?_)
    · replace hS := cond_t hc hS
      refine zlRun (n := 2) (j := 6) rfl (by kernel_rfl) ?_
      refine zlEnd (by kernel_rfl) ?_
      refine zkSeq ?_
      refine zrCondT (by kernel_rfl) ?_
      refine zrSeq ?_
      refine zrReg ?_
      refine zlRun (n := 3) (j := 3) rfl (by kernel_rfl) ?_
      refine zlEnd (by kernel_rfl) ?_
      refine zkSeq ?_
      refine zrRet ?_
      refine zkBlkR ?_
      refine zkSeqR ?_
      refine zkNil ?_
      exact endQ hS hQ (fRet ((congrArg (fun s => outR s 0 c10.res) (by kernel_rfl : finSt c10.fin _ = f10_fin 4 0 0)).trans (f10_out 4 0 0)))
    · replace hS := cond_f hc hS
      refine zlRun (n := 2) (j := 6) rfl (by kernel_rfl) ?_
      refine zlEnd (by kernel_rfl) ?_
      refine zkSeq ?_
      refine zrCondF (by kernel_rfl) ?_
      exact f10_j3_ok hd a1 a2 hQ  hS (by kernel_rfl)
  · replace hS := cond_f hc hS
    refine zlRun (n := 4) (j := 6) rfl (by kernel_rfl) ?_
    refine zlEnd (by kernel_rfl) ?_
    refine zkSeq ?_
    refine zrCondF (by kernel_rfl) ?_
    exact f10_j3_ok hd a1 a2 hQ  hS (by kernel_rfl)
def f10_j1_J (a1 : Int) (a2 : Bool) : St := ⟨(up (up (fun _ => .un) 1 (.d (.bool a2))) 0 (.d (.int .i64 a1))), (hB fun _ => 0)⟩
noncomputable def f10_j1 (a1 : Int) (a2 : Bool) : Option (Int × Int × Int) := (bif a2 then (bif (decide (a1 = 2)) then (some (3, 0, 0)) else (f10_j2 a1 a2 )) else (f10_j2 a1 a2 ))
theorem f10_j1_ok {base : Orc} {d : Nat} (hd : 2 ≤ d) (a1 : Int) (a2 : Bool) {r : Int × Int × Int} {Q : PX → St → Prop} (hQ : ∀ e st', f10_Q r e st' → Q e st')  (hS : f10_j1 a1 a2 = some r) {st : St} (he : keepSt [0, 1] [] [] st = f10_j1_J a1 a2) : ZR (lev codes base (d - 1)) Q c10_6 [.blk 0, .seq c10_2] st := by
  refine zrKeep he ?_
  unfold f10_j1 at hS
  refine zrSeq ?_
  refine zrReg ?_
  refine zlRun (n := 2) (j := 2) rfl (by kernel_rfl) ?_
  refine zlSplit 19 a2 (by kernel_rfl) (fun hc => ?_) (fun hc => ?_)
  · replace hS := cond_t hc hS
    refine zlRun (n := 1) (j := 3) rfl (by kernel_rfl) ?_
    refine zlBool (d := 21) (op := (.cmpI .eql (.tmp 20) (.const (.int .i64 2)))) (g := (some (19, true))) (j := 4) (decide (a1 = 2)) rfl (by kernel_rfl) (by kernel_rfl) (by kernel_rfl) (fun hc => ?_) (fun hc => ?_)
    · replace hS := cond_t hc hS
      refine zlRun (n := 2) (j := 6) rfl (by kernel_rfl) ?_
      refine zlEnd (by kernel_rfl) ?_
      refine zkSeq ?_
      refine zrCondT (by kernel_rfl) ?_
      refine zrSeq ?_
      refine zrReg ?_
      refine zlRun (n := 3) (j := 3) rfl (by kernel_rfl) ?_
      refine zlEnd (by kernel_rfl) ?_
      refine zkSeq ?_
      refine zrRet ?_
      refine zkBlkR ?_
      refine zkSeqR ?_
      refine zkNil ?_
      exact endQ hS hQ (fRet ((congrArg (fun s => outR s 0 c10.res) (by kernel_rfl : finSt c10.fin _ = f10_fin 3 0 0)).trans (f10_out 3 0 0)))
    · replace hS := cond_f hc hS
      refine zlRun (n := 2) (j := 6) rfl (by kernel_rfl) ?_
      refine zlEnd (by kernel_rfl) ?_
      refine zkSeq ?_
      refine zrCondF (by kernel_rfl) ?_
      exact f10_j2_ok hd a1 a2 hQ  hS (by kernel_rfl)
  · replace hS := cond_f hc hS
    refine zlRun (n := 4) (j := 6) rfl (by kernel_rfl) ?_
    refine zlEnd (by kernel_rfl) ?_
    refine zkSeq ?_
    refine zrCondF (by kernel_rfl) ?_
    exact f10_j2_ok hd a1 a2 hQ  hS (by kernel_rfl)
def f10_j0_J (a1 : Int) (a2 : Bool) : St := ⟨(up (up (fun _ => .un) 1 (.d (.bool a2))) 0 (.d (.int .i64 a1))), (hB fun _ => 0)⟩
noncomputable def f10_j0 (a1 : Int) (a2 : Bool) : Option (Int × Int × Int) := (bif a2 then (bif (decide (a1 = 0)) then (some (4, 1, 0)) else (f10_j1 a1 a2 )) else (f10_j1 a1 a2 ))
theorem f10_j0_ok {base : Orc} {d : Nat} (hd : 2 ≤ d) (a1 : Int) (a2 : Bool) {r : Int × Int × Int} {Q : PX → St → Prop} (hQ : ∀ e st', f10_Q r e st' → Q e st')  (hS : f10_j0 a1 a2 = some r) {st : St} (he : keepSt [0, 1] [] [] st = f10_j0_J a1 a2) : ZR (lev codes base (d - 1)) Q c10_7 [] st := by
  refine zrKeep he ?_
  unfold f10_j0 at hS
  refine zrSeq ?_
  refine zrBlk ?_
  refine zrSeq ?_
  refine zrReg ?_
  refine zlRun (n := 2) (j := 2) rfl (by kernel_rfl) ?_
  refine zlSplit 13 a2 (by kernel_rfl) (fun hc => ?_) (fun hc => ?_)
  · replace hS := cond_t hc hS
    refine zlRun (n := 1) (j := 3) rfl (by kernel_rfl) ?_
    refine zlBool (d := 15) (op := (.cmpI .eql (.tmp 14) (.const (.int .i64 0)))) (g := (some (13, true))) (j := 4) (decide (a1 = 0)) rfl (by kernel_rfl) (by kernel_rfl) (by kernel_rfl) (fun hc => ?_) (fun hc => ?_)
    · replace hS := cond_t hc hS
      refine zlRun (n := 2) (j := 6) rfl (by kernel_rfl) ?_
      refine zlEnd (by kernel_rfl) ?_
      refine zkSeq ?_
      refine zrCondT (by kernel_rfl) ?_
      refine zrSeq ?_
      refine zrReg ?_
      refine zlRun (n := 3) (j := 3) rfl (by kernel_rfl) ?_
      refine zlEnd (by kernel_rfl) ?_
      refine zkSeq ?_
      refine zrRet ?_
      refine zkBlkR ?_
      refine zkSeqR ?_
      refine zkNil ?_
      exact endQ hS hQ (fRet ((congrArg (fun s => outR s 0 c10.res) (by kernel_rfl : finSt c10.fin _ = f10_fin 4 1 0)).trans (f10_out 4 1 0)))
    · replace hS := cond_f hc hS
      refine zlRun (n := 2) (j := 6) rfl (by kernel_rfl) ?_
      refine zlEnd (by kernel_rfl) ?_
      refine zkSeq ?_
      refine zrCondF (by kernel_rfl) ?_
      exact f10_j1_ok hd a1 a2 hQ  hS (by kernel_rfl)
  · replace hS := cond_f hc hS
    refine zlRun (n := 4) (j := 6) rfl (by kernel_rfl) ?_
    refine zlEnd (by kernel_rfl) ?_
    refine zkSeq ?_
    refine zrCondF (by kernel_rfl) ?_
    exact f10_j1_ok hd a1 a2 hQ  hS (by kernel_rfl)
noncomputable def f10 (a1 : Int) (a2 : Bool) : Option (Int × Int × Int) := ((f14 a1).bind fun z3 => (bif (!z3) then (some (a1, 0, 1)) else (f10_j0 a1 a2 )))
theorem f10_ok (base : Orc) (d : Nat) (hd : 2 ≤ d) (a1 : Int) (a2 : Bool) (r : Int × Int × Int) (hS : f10 a1 a2 = some r) : lev codes base d 10 [(.d (.int .i64 a1)), (.d (.bool a2))] [] = some ((.tup [(.d (.int .i64 r.1)), (.d (.int .i64 r.2.1)), (.d (.int .i64 r.2.2))]), []) := by
  refine lev_go codes10 rfl rfl (Nat.le_trans (Nat.le_of_ble_eq_true rfl) hd) fun Q hQ => ?_
  unfold f10 at hS
  show ZR _ Q c10_b [] _
  replace hQ : ∀ e st', f10_Q r e st' → Q e st' := hQ
  refine zrSeq ?_
  refine zrReg ?_
  refine zlRun (n := 3) (j := 3) rfl (by kernel_rfl) ?_
  refine zlEnd (by kernel_rfl) ?_
  refine zkSeq ?_
  refine zrSeq ?_
  refine zrSeq ?_
  refine zrReg ?_
  refine zlRun (n := 1) (j := 1) rfl (by kernel_rfl) ?_
  refine bindE hS (fun z3 hz3 hS => ?_)
  refine zlOp (d := some 8) (op := (.call 14 [(.tmp 7)])) (g := none) (v := (.d (.bool z3))) (ups := []) (j := 2) rfl (by kernel_rfl) (by kernel_rfl) (ev_call (args := [(.d (.int .i64 a1))]) (l := [(.d (.int .i64 a1))]) (r := (.d (.bool z3))) (by kernel_rfl) (by kernel_rfl) (f14_ok base (d - 1) (dpt hd rfl) a1 z3 hz3) (by kernel_rfl) (by kernel_rfl) (by kernel_rfl)) ?_
  refine zlRun (n := 1) (j := 3) rfl (by kernel_rfl) ?_
  refine zlEnd (by kernel_rfl) ?_
  refine zkSeq ?_
  refine zrSplit 9 (!z3) (by kernel_rfl) (fun hc => ?_) (fun hc => ?_)
  · replace hS := cond_t hc hS
    refine zrCondT (by kernel_rfl) ?_
    refine zrSeq ?_
    refine zrReg ?_
    refine zlRun (n := 4) (j := 4) rfl (by kernel_rfl) ?_
    refine zlEnd (by kernel_rfl) ?_
    refine zkSeq ?_
    refine zrRet ?_
    refine zkSeqR ?_
    refine zkNil ?_
    exact endQ hS hQ (fRet ((congrArg (fun s => outR s 0 c10.res) (by kernel_rfl : finSt c10.fin _ = f10_fin a1 0 1)).trans (f10_out a1 0 1)))
  · replace hS := cond_f hc hS
    refine zrCondF (by kernel_rfl) ?_
    refine zrSkip ?_
    refine zkSeq ?_
    exact f10_j0_ok hd a1 a2 hQ  hS (by kernel_rfl)
/- farwriter/qneg.Want -/
def f12_fin (p10 : GNeg) (p11 : List UInt8) (p12 : Int) : St := ⟨(up (up (up (fun _ => .un) 10 (.d (.int .i64 p12))) 9 (.d (.str p11))) 8 (.r (.ptr 72 0 0))), (up (hB fun _ => 0) 72 ⟨0, some (.box ((eU8.row 256 p10.Us) ++ ((eU8.row 256 p10.Him) ++ (((eInt .u64).row 4 p10.UsOk) ++ (((eInt .u64).row 4 p10.HimOk) ++ [])))))⟩)⟩
theorem f12_out (p10 : GNeg) (p11 : List UInt8) (p12 : Int) : outR (f12_fin p10 p11 p12) 0 c12.res = some ((.tup [(.agg ((eU8.row 256 p10.Us) ++ ((eU8.row 256 p10.Him) ++ (((eInt .u64).row 4 p10.UsOk) ++ (((eInt .u64).row 4 p10.HimOk) ++ []))))), (.d (.str p11)), (.d (.int .i64 p12))]), []) := by
  kernel_rfl
def f12_Q (r : GNeg × (List UInt8) × Int) (e : PX) (st : St) : Prop := DoneF c12 0 ((.tup [(.agg ((eU8.row 256 r.1.Us) ++ ((eU8.row 256 r.1.Him) ++ (((eInt .u64).row 4 r.1.UsOk) ++ (((eInt .u64).row 4 r.1.HimOk) ++ []))))), (.d (.str r.2.1)), (.d (.int .i64 r.2.2))]), []) e st
def f12_j1_J (a1 : GNeg) (a2 : Bool) (a3 : Int) (a4 : Bool) (p20 : GNeg) : St := ⟨(up (up (up (up (up (fun _ => .un) 8 (.r (.ptr 72 0 0))) 4 (.r (.ptr 40 0 0))) 3 (.d (.bool a4))) 2 (.d (.int .i64 a3))) 1 (.d (.bool a2))), (up (up (hB fun _ => 0) 72 ⟨0, some (.box ((eU8.row 256 p20.Us) ++ ((eU8.row 256 p20.Him) ++ (((eInt .u64).row 4 p20.UsOk) ++ (((eInt .u64).row 4 p20.HimOk) ++ [])))))⟩) 40 ⟨0, some (.box ((eU8.row 256 a1.Us) ++ ((eU8.row 256 a1.Him) ++ (((eInt .u64).row 4 a1.UsOk) ++ (((eInt .u64).row 4 a1.HimOk) ++ [])))))⟩)⟩
noncomputable def f12_j1 (a1 : GNeg) (a2 : Bool) (a3 : Int) (a4 : Bool) (p20 : GNeg) : Option (GNeg × (List UInt8) × Int) := ((inR a3 256).bind fun m9 => (bif a2 then ((inR a3 256).bind fun m11 => ((f10 ((a1.Us m11).toNat : Int) a4).bind fun z12 => (bif (!decide (z12.2.2 = 0)) then (some (a1, [], z12.2.2)) else ((f18 a2 z12.2.1 a3).bind fun z13 => (some ((GNeg.mk (upd a1.Us m11 (u8 z12.1)) a1.Him a1.UsOk a1.HimOk), z13, 0)))))) else ((f10 ((a1.Him m9).toNat : Int) a4).bind fun z14 => (bif (!decide (z14.2.2 = 0)) then (some (a1, [], z14.2.2)) else ((f18 a2 z14.2.1 a3).bind fun z15 => (some ((GNeg.mk a1.Us (upd a1.Him m9 (u8 z14.1)) a1.UsOk a1.HimOk), z15, 0)))))))
theorem f12_j1_ok {base : Orc} {d : Nat} (hd : 3 ≤ d) (a1 : GNeg) (a2 : Bool) (a3 : Int) (a4 : Bool) {r : GNeg × (List UInt8) × Int} {Q : PX → St → Prop} (hQ : ∀ e st', f12_Q r e st' → Q e st') (p20 : GNeg) (hS : f12_j1 a1 a2 a3 a4 p20 = some r) {st : St} (he : keepSt [1, 2, 3, 4, 8] [(40, .id 40), (72, .id 72)] [] st = f12_j1_J a1 a2 a3 a4 p20) : ZR (lev codes base (d - 1)) Q c12_1 [] st := by
  refine zrKeep he ?_
  unfold f12_j1 at hS
  refine zrSeq ?_
  refine zrReg ?_
  refine zlRun (n := 2) (j := 2) rfl (by kernel_rfl) ?_
  refine bindE hS (fun m9 hm9 hS => ?_)
  refine zlOp (d := some 31) (op := (.ixA 256 1 (.tmp 30) (.tmp 29))) (g := none) (v := (.r (.ptr 40 0 (256 + m9 * 1)))) (ups := []) (j := 3) rfl (by kernel_rfl) (by kernel_rfl) (ev_ixA (kk := .i64) (b := 40) (g := 0) (o := 256) (j := a3) (by kernel_rfl) (by kernel_rfl) hm9) ?_
  refine zlRun (n := 1) (j := 4) rfl (by kernel_rfl) ?_
  refine zlEnd (by kernel_rfl) ?_
  refine zkSeq ?_
  refine zrSeq ?_
  refine zrSeq ?_
  refine zrReg ?_
  refine zlRun (n := 1) (j := 1) rfl (by kernel_rfl) ?_
  refine zlEnd (by kernel_rfl) ?_
  refine zkSeq ?_
  refine zrSplit 32 a2 (by kernel_rfl) (fun hc => ?_) (fun hc => ?_)
  · replace hS := cond_t hc hS
    refine zrCondT (by kernel_rfl) ?_
    refine zrReg ?_
    refine zlRun (n := 2) (j := 2) rfl (by kernel_rfl) ?_
    refine bindE hS (fun m11 hm11 hS => ?_)
    refine zlOp (d := some 35) (op := (.ixA 256 1 (.tmp 34) (.tmp 33))) (g := none) (v := (.r (.ptr 40 0 (0 + m11 * 1)))) (ups := []) (j := 3) rfl (by kernel_rfl) (by kernel_rfl) (ev_ixA (kk := .i64) (b := 40) (g := 0) (o := 0) (j := a3) (by kernel_rfl) (by kernel_rfl) hm11) ?_
    refine zlRun (n := 1) (j := 4) rfl (by kernel_rfl) ?_
    refine zlEnd (by kernel_rfl) ?_
    refine zkSeq ?_
    refine zrSeq ?_
    refine zrReg ?_
    refine zlRun (n := 2) (j := 2) rfl (by kernel_rfl) ?_
    refine zlOp (d := some 39) (op := (.load .false 1 (.tmp 38))) (g := none) (v := (.d (.int .u8 ((a1.Us m11).toNat : Int)))) (ups := []) (j := 3) rfl (by kernel_rfl) (by kernel_rfl) (ev_loadA eU8 (b := 40) (g := 0) (o := 0 + m11 * 1) (f := a1.Us) (nn := 256) (m := m11) (fo := 0) (pre := []) (post := ((eU8.row 256 a1.Him) ++ (((eInt .u64).row 4 a1.UsOk) ++ (((eInt .u64).row 4 a1.HimOk) ++ [])))) (by kernel_rfl) (by kernel_rfl) (by kernel_rfl) (inR_lt hm11) (by kernel_rfl) (by kernel_rfl) (by kernel_rfl)) ?_
    refine zlOp (d := some 40) (op := (.cvI .i64 (.tmp 39))) (g := none) (v := (.d (.int .i64 ((a1.Us m11).toNat : Int)))) (ups := []) (j := 4) rfl (by kernel_rfl) (by kernel_rfl) (ev_cv (kk := .u8) (a := ((a1.Us m11).toNat : Int)) (by kernel_rfl) (cv_i64 _)) ?_
    refine zlRun (n := 1) (j := 5) rfl (by kernel_rfl) ?_
    refine bindE hS (fun z12 hz12 hS => ?_)
    refine zlOp (d := some 42) (op := (.call 10 [(.tmp 40), (.tmp 41)])) (g := none) (v := (.tup [(.d (.int .i64 z12.1)), (.d (.int .i64 z12.2.1)), (.d (.int .i64 z12.2.2))])) (ups := []) (j := 6) rfl (by kernel_rfl) (by kernel_rfl) (ev_call (args := [(.d (.int .i64 ((a1.Us m11).toNat : Int))), (.d (.bool a4))]) (l := [(.d (.int .i64 ((a1.Us m11).toNat : Int))), (.d (.bool a4))]) (r := (.tup [(.d (.int .i64 z12.1)), (.d (.int .i64 z12.2.1)), (.d (.int .i64 z12.2.2))])) (by kernel_rfl) (by kernel_rfl) (f10_ok base (d - 1) (dpt hd rfl) ((a1.Us m11).toNat : Int) a4 z12 hz12) (by kernel_rfl) (by kernel_rfl) (by kernel_rfl)) ?_
    refine zlRun (n := 7) (j := 13) rfl (by kernel_rfl) ?_
    refine zlEnd (by kernel_rfl) ?_
    refine zkSeq ?_
    refine zrSeq ?_
    refine zrSeq ?_
    refine zrReg ?_
    refine zlRun (n := 1) (j := 1) rfl (by kernel_rfl) ?_
    refine zlBool (d := 47) (op := (.cmpI .neq (.tmp 46) (.const (.int .i64 0)))) (g := none) (j := 2) (!decide (z12.2.2 = 0)) rfl (by kernel_rfl) (by kernel_rfl) (by kernel_rfl) (fun hc => ?_) (fun hc => ?_)
    · replace hS := cond_t hc hS
      refine zlEnd (by kernel_rfl) ?_
      refine zkSeq ?_
      refine zrCondT (by kernel_rfl) ?_
      refine zrSeq ?_
      refine zrReg ?_
      refine zlRun (n := 5) (j := 5) rfl (by kernel_rfl) ?_
      refine zlEnd (by kernel_rfl) ?_
      refine zkSeq ?_
      refine zrRet ?_
      refine zkSeqR ?_
      refine zkNil ?_
      exact endQ hS hQ (fRet ((congrArg (fun s => outR s 0 c12.res) (by kernel_rfl : finSt c12.fin _ = f12_fin a1 [] z12.2.2)).trans (f12_out a1 [] z12.2.2)))
    · replace hS := cond_f hc hS
      refine zlEnd (by kernel_rfl) ?_
      refine zkSeq ?_
      refine zrCondF (by kernel_rfl) ?_
      refine zrSkip ?_
      refine zkSeq ?_
      refine zrSeq ?_
      refine zrReg ?_
      refine zlRun (n := 2) (j := 2) rfl (by kernel_rfl) ?_
      refine zlOp (d := some 52) (op := (.cvI .u8 (.tmp 51))) (g := none) (v := (.d (.int .u8 ((u8 z12.1).toNat : Int)))) (ups := []) (j := 3) rfl (by kernel_rfl) (by kernel_rfl) (ev_cv (kk := .i64) (a := z12.1) (by kernel_rfl) (u8_wrap _)) ?_
      refine zlRun (n := 1) (j := 4) rfl (by kernel_rfl) ?_
      refine zlOp (d := none) (op := (.store 1 (.tmp 53) (.tmp 52))) (g := none) (v := .un) (ups := [(40, ⟨0, some (.box ((eU8.row 256 (upd a1.Us m11 (u8 z12.1))) ++ ((eU8.row 256 a1.Him) ++ (((eInt .u64).row 4 a1.UsOk) ++ (((eInt .u64).row 4 a1.HimOk) ++ [])))))⟩)]) (j := 5) rfl (by kernel_rfl) (by kernel_rfl) (ev_storeA eU8 (b := 40) (g := 0) (o := 0 + m11 * 1) (f := a1.Us) (nn := 256) (m := m11) (fo := 0) (pre := []) (post := ((eU8.row 256 a1.Him) ++ (((eInt .u64).row 4 a1.UsOk) ++ (((eInt .u64).row 4 a1.HimOk) ++ [])))) (by kernel_rfl) (by kernel_rfl) (by kernel_rfl) (inR_lt hm11) (new := ((.d (.int .u8 ((u8 z12.1).toNat : Int))) :: [])) (ds := [.int .u8 ((u8 z12.1).toNat : Int)]) (z' := (u8 z12.1)) (by kernel_rfl) (by kernel_rfl) (by kernel_rfl) (by kernel_rfl) (by kernel_rfl)) ?_
      refine zlEnd (by kernel_rfl) ?_
      refine zkSeq ?_
      refine zrSeq ?_
      refine zrRegD ?_
      refine zdRun (n := 4) (j := 4) (ts := [[(40, false)], [], [], []]) (acc' := [[(40, false)], [], [], []]) rfl (by kernel_rfl) (by kernel_rfl) (by kernel_rfl) ?_
      refine bindE hS (fun z13 hz13 hS => ?_)
      refine zdOp (d := some 58) (op := (.call 18 [(.tmp 55), (.tmp 56), (.tmp 57)])) (g := none) (v := (.d (.str z13))) (ups := []) (j := 5) (t1 := [(472, true), (473, true), (474, true), (475, true), (476, true), (477, true), (478, true), (479, true)]) (acc' := [[(40, false)], [], [], [], [(472, true), (473, true), (474, true), (475, true), (476, true), (477, true), (478, true), (479, true)]]) (by kernel_rfl) (by kernel_rfl) rfl (by kernel_rfl) (by kernel_rfl) (ev_call (args := [(.d (.bool a2)), (.d (.int .i64 z12.2.1)), (.d (.int .i64 a3))]) (l := [(.d (.bool a2)), (.d (.int .i64 z12.2.1)), (.d (.int .i64 a3))]) (r := (.d (.str z13))) (by kernel_rfl) (by kernel_rfl) (f18_ok base (d - 1) (dpt hd rfl) a2 z12.2.1 a3 z13 hz13) (by kernel_rfl) (by kernel_rfl) (by kernel_rfl)) ?_
      refine zdRun (n := 3) (j := 8) (ts := [[(72, true)], [], []]) (acc' := [[(40, false)], [], [], [], [(472, true), (473, true), (474, true), (475, true), (476, true), (477, true), (478, true), (479, true)], [(72, true)], [], []]) rfl (by kernel_rfl) (by kernel_rfl) (by kernel_rfl) ?_
      refine zdEnd (by kernel_rfl) (by kernel_rfl) ?_
      refine zkSeq ?_
      refine zrRet ?_
      refine zkNil ?_
      exact endQ hS hQ (fRet ((congrArg (fun s => outR s 0 c12.res) (by kernel_rfl : finSt c12.fin _ = f12_fin (GNeg.mk (upd a1.Us m11 (u8 z12.1)) a1.Him a1.UsOk a1.HimOk) z13 0)).trans (f12_out (GNeg.mk (upd a1.Us m11 (u8 z12.1)) a1.Him a1.UsOk a1.HimOk) z13 0)))
  · replace hS := cond_f hc hS
    refine zrCondF (by kernel_rfl) ?_
    refine zrSkip ?_
    refine zkSeq ?_
    refine zrSeq ?_
    refine zrReg ?_
    refine zlRun (n := 2) (j := 2) rfl (by kernel_rfl) ?_
    refine zlOp (d := some 39) (op := (.load .false 1 (.tmp 38))) (g := none) (v := (.d (.int .u8 ((a1.Him m9).toNat : Int)))) (ups := []) (j := 3) rfl (by kernel_rfl) (by kernel_rfl) (ev_loadA eU8 (b := 40) (g := 0) (o := 256 + m9 * 1) (f := a1.Him) (nn := 256) (m := m9) (fo := 0) (pre := ((eU8.row 256 a1.Us) ++ [])) (post := (((eInt .u64).row 4 a1.UsOk) ++ (((eInt .u64).row 4 a1.HimOk) ++ []))) (by kernel_rfl) (by kernel_rfl) (by kernel_rfl) (inR_lt hm9) (by kernel_rfl) (by kernel_rfl) (by kernel_rfl)) ?_
    refine zlOp (d := some 40) (op := (.cvI .i64 (.tmp 39))) (g := none) (v := (.d (.int .i64 ((a1.Him m9).toNat : Int)))) (ups := []) (j := 4) rfl (by kernel_rfl) (by kernel_rfl) (ev_cv (kk := .u8) (a := ((a1.Him m9).toNat : Int)) (by kernel_rfl) (cv_i64 _)) ?_
    refine zlRun (n := 1) (j := 5) rfl (by kernel_rfl) ?_
    refine bindE hS (fun z14 hz14 hS => ?_)
    refine zlOp (d := some 42) (op := (.call 10 [(.tmp 40), (.tmp 41)])) (g := none) (v := (.tup [(.d (.int .i64 z14.1)), (.d (.int .i64 z14.2.1)), (.d (.int .i64 z14.2.2))])) (ups := []) (j := 6) rfl (by kernel_rfl) (by kernel_rfl) (ev_call (args := [(.d (.int .i64 ((a1.Him m9).toNat : Int))), (.d (.bool a4))]) (l := [(.d (.int .i64 ((a1.Him m9).toNat : Int))), (.d (.bool a4))]) (r := (.tup [(.d (.int .i64 z14.1)), (.d (.int .i64 z14.2.1)), (.d (.int .i64 z14.2.2))])) (by kernel_rfl) (by kernel_rfl) (f10_ok base (d - 1) (dpt hd rfl) ((a1.Him m9).toNat : Int) a4 z14 hz14) (by kernel_rfl) (by kernel_rfl) (by kernel_rfl)) ?_
    refine zlRun (n := 7) (j := 13) rfl (by kernel_rfl) ?_
    refine zlEnd (by kernel_rfl) ?_
    refine zkSeq ?_
    refine zrSeq ?_
    refine zrSeq ?_
    refine zrReg ?_
    refine zlRun (n := 1) (j := 1) rfl (by kernel_rfl) ?_
    refine zlBool (d := 47) (op := (.cmpI .neq (.tmp 46) (.const (.int .i64 0)))) (g := none) (j := 2) (!decide (z14.2.2 = 0)) rfl (by kernel_rfl) (by kernel_rfl) (by kernel_rfl) (fun hc => ?_) (fun hc => ?_)
    · replace hS := cond_t hc hS
      refine zlEnd (by kernel_rfl) ?_
      refine zkSeq ?_
      refine zrCondT (by kernel_rfl) ?_
      refine zrSeq ?_
      refine zrReg ?_
      refine zlRun (n := 5) (j := 5) rfl (by kernel_rfl) ?_
      refine zlEnd (by kernel_rfl) ?_
      refine zkSeq ?_
      refine zrRet ?_
      refine zkSeqR ?_
      refine zkNil ?_
      exact endQ hS hQ (fRet ((congrArg (fun s => outR s 0 c12.res) (by kernel_rfl : finSt c12.fin _ = f12_fin a1 [] z14.2.2)).trans (f12_out a1 [] z14.2.2)))
    · replace hS := cond_f hc hS
      refine zlEnd (by kernel_rfl) ?_
      refine zkSeq ?_
      refine zrCondF (by kernel_rfl) ?_
      refine zrSkip ?_
      refine zkSeq ?_
      refine zrSeq ?_
      refine zrReg ?_
      refine zlRun (n := 2) (j := 2) rfl (by kernel_rfl) ?_
      refine zlOp (d := some 52) (op := (.cvI .u8 (.tmp 51))) (g := none) (v := (.d (.int .u8 ((u8 z14.1).toNat : Int)))) (ups := []) (j := 3) rfl (by kernel_rfl) (by kernel_rfl) (ev_cv (kk := .i64) (a := z14.1) (by kernel_rfl) (u8_wrap _)) ?_
      refine zlRun (n := 1) (j := 4) rfl (by kernel_rfl) ?_
      refine zlOp (d := none) (op := (.store 1 (.tmp 53) (.tmp 52))) (g := none) (v := .un) (ups := [(40, ⟨0, some (.box ((eU8.row 256 a1.Us) ++ ((eU8.row 256 (upd a1.Him m9 (u8 z14.1))) ++ (((eInt .u64).row 4 a1.UsOk) ++ (((eInt .u64).row 4 a1.HimOk) ++ [])))))⟩)]) (j := 5) rfl (by kernel_rfl) (by kernel_rfl) (ev_storeA eU8 (b := 40) (g := 0) (o := 256 + m9 * 1) (f := a1.Him) (nn := 256) (m := m9) (fo := 0) (pre := ((eU8.row 256 a1.Us) ++ [])) (post := (((eInt .u64).row 4 a1.UsOk) ++ (((eInt .u64).row 4 a1.HimOk) ++ []))) (by kernel_rfl) (by kernel_rfl) (by kernel_rfl) (inR_lt hm9) (new := ((.d (.int .u8 ((u8 z14.1).toNat : Int))) :: [])) (ds := [.int .u8 ((u8 z14.1).toNat : Int)]) (z' := (u8 z14.1)) (by kernel_rfl) (by kernel_rfl) (by kernel_rfl) (by kernel_rfl) (by kernel_rfl)) ?_
      refine zlEnd (by kernel_rfl) ?_
      refine zkSeq ?_
      refine zrSeq ?_
      refine zrRegD ?_
      refine zdRun (n := 4) (j := 4) (ts := [[(40, false)], [], [], []]) (acc' := [[(40, false)], [], [], []]) rfl (by kernel_rfl) (by kernel_rfl) (by kernel_rfl) ?_
      refine bindE hS (fun z15 hz15 hS => ?_)
      refine zdOp (d := some 58) (op := (.call 18 [(.tmp 55), (.tmp 56), (.tmp 57)])) (g := none) (v := (.d (.str z15))) (ups := []) (j := 5) (t1 := [(472, true), (473, true), (474, true), (475, true), (476, true), (477, true), (478, true), (479, true)]) (acc' := [[(40, false)], [], [], [], [(472, true), (473, true), (474, true), (475, true), (476, true), (477, true), (478, true), (479, true)]]) (by kernel_rfl) (by kernel_rfl) rfl (by kernel_rfl) (by kernel_rfl) (ev_call (args := [(.d (.bool a2)), (.d (.int .i64 z14.2.1)), (.d (.int .i64 a3))]) (l := [(.d (.bool a2)), (.d (.int .i64 z14.2.1)), (.d (.int .i64 a3))]) (r := (.d (.str z15))) (by kernel_rfl) (by kernel_rfl) (f18_ok base (d - 1) (dpt hd rfl) a2 z14.2.1 a3 z15 hz15) (by kernel_rfl) (by kernel_rfl) (by kernel_rfl)) ?_
      refine zdRun (n := 3) (j := 8) (ts := [[(72, true)], [], []]) (acc' := [[(40, false)], [], [], [], [(472, true), (473, true), (474, true), (475, true), (476, true), (477, true), (478, true), (479, true)], [(72, true)], [], []]) rfl (by kernel_rfl) (by kernel_rfl) (by kernel_rfl) ?_
      refine zdEnd (by kernel_rfl) (by kernel_rfl) ?_
      refine zkSeq ?_
      refine zrRet ?_
      refine zkNil ?_
      exact endQ hS hQ (fRet ((congrArg (fun s => outR s 0 c12.res) (by kernel_rfl : finSt c12.fin _ = f12_fin (GNeg.mk a1.Us (upd a1.Him m9 (u8 z14.1)) a1.UsOk a1.HimOk) z15 0)).trans (f12_out (GNeg.mk a1.Us (upd a1.Him m9 (u8 z14.1)) a1.UsOk a1.HimOk) z15 0)))
def f12_j0_J (a1 : GNeg) (a2 : Bool) (a3 : Int) (a4 : Bool) (p16 : GNeg) : St := ⟨(up (up (up (up (up (fun _ => .un) 8 (.r (.ptr 72 0 0))) 4 (.r (.ptr 40 0 0))) 3 (.d (.bool a4))) 2 (.d (.int .i64 a3))) 1 (.d (.bool a2))), (up (up (hB fun _ => 0) 72 ⟨0, some (.box ((eU8.row 256 p16.Us) ++ ((eU8.row 256 p16.Him) ++ (((eInt .u64).row 4 p16.UsOk) ++ (((eInt .u64).row 4 p16.HimOk) ++ [])))))⟩) 40 ⟨0, some (.box ((eU8.row 256 a1.Us) ++ ((eU8.row 256 a1.Him) ++ (((eInt .u64).row 4 a1.UsOk) ++ (((eInt .u64).row 4 a1.HimOk) ++ [])))))⟩)⟩
noncomputable def f12_j0 (a1 : GNeg) (a2 : Bool) (a3 : Int) (a4 : Bool) (p16 : GNeg) : Option (GNeg × (List UInt8) × Int) := (bif (decide (a3 < 0)) then (some (a1, [], 1)) else (bif (decide (255 < a3)) then (some (a1, [], 1)) else (f12_j1 a1 a2 a3 a4 p16)))
theorem f12_j0_ok {base : Orc} {d : Nat} (hd : 3 ≤ d) (a1 : GNeg) (a2 : Bool) (a3 : Int) (a4 : Bool) {r : GNeg × (List UInt8) × Int} {Q : PX → St → Prop} (hQ : ∀ e st', f12_Q r e st' → Q e st') (p16 : GNeg) (hS : f12_j0 a1 a2 a3 a4 p16 = some r) {st : St} (he : keepSt [1, 2, 3, 4, 8] [(40, .id 40), (72, .id 72)] [] st = f12_j0_J a1 a2 a3 a4 p16) : ZR (lev codes base (d - 1)) Q c12_2 [] st := by
  refine zrKeep he ?_
  unfold f12_j0 at hS
  refine zrSeq ?_
  refine zrSeq ?_
  refine zrReg ?_
  refine zlRun (n := 1) (j := 1) rfl (by kernel_rfl) ?_
  refine zlBool (d := 23) (op := (.cmpI .lss (.tmp 22) (.const (.int .i64 0)))) (g := none) (j := 2) (decide (a3 < 0)) rfl (by kernel_rfl) (by kernel_rfl) (by kernel_rfl) (fun hc => ?_) (fun hc => ?_)
  · replace hS := cond_t hc hS
    refine zlRun (n := 4) (j := 6) rfl (by kernel_rfl) ?_
    refine zlEnd (by kernel_rfl) ?_
    refine zkSeq ?_
    refine zrCondT (by kernel_rfl) ?_
    refine zrSeq ?_
    refine zrReg ?_
    refine zlRun (n := 4) (j := 4) rfl (by kernel_rfl) ?_
    refine zlEnd (by kernel_rfl) ?_
    refine zkSeq ?_
    refine zrRet ?_
    refine zkSeqR ?_
    refine zkNil ?_
    exact endQ hS hQ (fRet ((congrArg (fun s => outR s 0 c12.res) (by kernel_rfl : finSt c12.fin _ = f12_fin a1 [] 1)).trans (f12_out a1 [] 1)))
  · replace hS := cond_f hc hS
    refine zlRun (n := 2) (j := 4) rfl (by kernel_rfl) ?_
    refine zlBool (d := 26) (op := (.cmpI .gtr (.tmp 25) (.const (.int .i64 255)))) (g := (some (24, false))) (j := 5) (decide (255 < a3)) rfl (by kernel_rfl) (by kernel_rfl) (by kernel_rfl) (fun hc => ?_) (fun hc => ?_)
    · replace hS := cond_t hc hS
      refine zlRun (n := 1) (j := 6) rfl (by kernel_rfl) ?_
      refine zlEnd (by kernel_rfl) ?_
      refine zkSeq ?_
      refine zrCondT (by kernel_rfl) ?_
      refine zrSeq ?_
      refine zrReg ?_
      refine zlRun (n := 4) (j := 4) rfl (by kernel_rfl) ?_
      refine zlEnd (by kernel_rfl) ?_
      refine zkSeq ?_
      refine zrRet ?_
      refine zkSeqR ?_
      refine zkNil ?_
      exact endQ hS hQ (fRet ((congrArg (fun s => outR s 0 c12.res) (by kernel_rfl : finSt c12.fin _ = f12_fin a1 [] 1)).trans (f12_out a1 [] 1)))
    · replace hS := cond_f hc hS
      refine zlRun (n := 1) (j := 6) rfl (by kernel_rfl) ?_
      refine zlEnd (by kernel_rfl) ?_
      refine zkSeq ?_
      refine zrCondF (by kernel_rfl) ?_
      refine zrSkip ?_
      refine zkSeq ?_
      exact f12_j1_ok hd a1 a2 a3 a4 hQ p16 hS (by kernel_rfl)
noncomputable def f12 (a1 : GNeg) (a2 : Bool) (a3 : Int) (a4 : Bool) : Option (GNeg × (List UInt8) × Int) := ((f15 a1).bind fun z16 => (bif (!decide (z16 = 0)) then (some (a1, [], z16)) else (f12_j0 a1 a2 a3 a4 (GNeg.mk (fun _ => 0) (fun _ => 0) (fun _ => 0) (fun _ => 0)))))
theorem f12_ok (base : Orc) (d : Nat) (hd : 3 ≤ d) (a1 : GNeg) (a2 : Bool) (a3 : Int) (a4 : Bool) (r : GNeg × (List UInt8) × Int) (hS : f12 a1 a2 a3 a4 = some r) : lev codes base d 12 [(.agg ((eU8.row 256 a1.Us) ++ ((eU8.row 256 a1.Him) ++ (((eInt .u64).row 4 a1.UsOk) ++ (((eInt .u64).row 4 a1.HimOk) ++ []))))), (.d (.bool a2)), (.d (.int .i64 a3)), (.d (.bool a4))] [] = some ((.tup [(.agg ((eU8.row 256 r.1.Us) ++ ((eU8.row 256 r.1.Him) ++ (((eInt .u64).row 4 r.1.UsOk) ++ (((eInt .u64).row 4 r.1.HimOk) ++ []))))), (.d (.str r.2.1)), (.d (.int .i64 r.2.2))]), []) := by
  refine lev_go codes12 rfl rfl (Nat.le_trans (Nat.le_of_ble_eq_true rfl) hd) fun Q hQ => ?_
  unfold f12 at hS
  show ZR _ Q c12_b [] _
  replace hQ : ∀ e st', f12_Q r e st' → Q e st' := hQ
  refine zrSeq ?_
  refine zrReg ?_
  refine zlRun (n := 4) (j := 4) rfl (by kernel_rfl) ?_
  refine zlEnd (by kernel_rfl) ?_
  refine zkSeq ?_
  refine zrSeq ?_
  refine zrSeq ?_
  refine zrReg ?_
  refine zlRun (n := 1) (j := 1) rfl (by kernel_rfl) ?_
  refine bindE hS (fun z16 hz16 hS => ?_)
  refine zlOp (d := some 17) (op := (.call 15 [(.tmp 16)])) (g := none) (v := (.d (.int .i64 z16))) (ups := []) (j := 2) rfl (by kernel_rfl) (by kernel_rfl) (ev_call (args := [(.agg ((eU8.row 256 a1.Us) ++ ((eU8.row 256 a1.Him) ++ (((eInt .u64).row 4 a1.UsOk) ++ (((eInt .u64).row 4 a1.HimOk) ++ [])))))]) (l := [(.agg ((eU8.row 256 a1.Us) ++ ((eU8.row 256 a1.Him) ++ (((eInt .u64).row 4 a1.UsOk) ++ (((eInt .u64).row 4 a1.HimOk) ++ [])))))]) (r := (.d (.int .i64 z16))) (by kernel_rfl) (by kernel_rfl) (f15_ok base (d - 1) (dpt hd rfl) a1 z16 hz16) (by kernel_rfl) (by kernel_rfl) (by kernel_rfl)) ?_
  refine zlRun (n := 1) (j := 3) rfl (by kernel_rfl) ?_
  refine zlEnd (by kernel_rfl) ?_
  refine zkSeq ?_
  refine zrSeq ?_
  refine zrReg ?_
  refine zlRun (n := 1) (j := 1) rfl (by kernel_rfl) ?_
  refine zlBool (d := 19) (op := (.cmpI .neq (.tmp 18) (.const (.int .i64 0)))) (g := none) (j := 2) (!decide (z16 = 0)) rfl (by kernel_rfl) (by kernel_rfl) (by kernel_rfl) (fun hc => ?_) (fun hc => ?_)
  · replace hS := cond_t hc hS
    refine zlEnd (by kernel_rfl) ?_
    refine zkSeq ?_
    refine zrCondT (by kernel_rfl) ?_
    refine zrSeq ?_
    refine zrReg ?_
    refine zlRun (n := 5) (j := 5) rfl (by kernel_rfl) ?_
    refine zlEnd (by kernel_rfl) ?_
    refine zkSeq ?_
    refine zrRet ?_
    refine zkSeqR ?_
    refine zkNil ?_
    exact endQ hS hQ (fRet ((congrArg (fun s => outR s 0 c12.res) (by kernel_rfl : finSt c12.fin _ = f12_fin a1 [] z16)).trans (f12_out a1 [] z16)))
  · replace hS := cond_f hc hS
    refine zlEnd (by kernel_rfl) ?_
    refine zkSeq ?_
    refine zrCondF (by kernel_rfl) ?_
    refine zrSkip ?_
    refine zkSeq ?_
    exact f12_j0_ok hd a1 a2 a3 a4 hQ (GNeg.mk (fun _ => 0) (fun _ => 0) (fun _ => 0) (fun _ => 0)) hS (by kernel_rfl)
/- farwriter/farkeep.qnegLives -/
def f9_fin (p4 : Bool) : St := ⟨(up (fun _ => .un) 0 (.d (.bool p4))), (hB fun _ => 0)⟩
theorem f9_out (p4 : Bool) : outR (f9_fin p4) 0 c9.res = some ((.d (.bool p4)), []) := by
  kernel_rfl
def f9_Q (r : Bool) (e : PX) (st : St) : Prop := DoneF c9 0 ((.d (.bool r)), []) e st
noncomputable def f9  : Option (Bool) := ((f11 (GNeg.mk (fun _ => 0) (fun _ => 0) (fun i => ([2, 0, 0, 0] : List Int).getD i 0) (fun _ => 0)) (GTok.mk 3 253 1 ([]))).bind fun z2 => (bif (decide (z2.2.2 = 0)) then (bif (decide (z2.2.1 = ([255, 251, 1] : List UInt8))) then (bif (decide (((z2.1.Us 1).toNat : Int) = 1)) then (some true) else (some false)) else (some false)) else (some false)))
theorem f9_ok (base : Orc) (d : Nat) (hd : 4 ≤ d)  (r : Bool) (hS : f9 = some r) : lev codes base d 9 [] [] = some ((.d (.bool r)), []) := by
  refine lev_go codes9 rfl rfl (Nat.le_trans (Nat.le_of_ble_eq_true rfl) hd) fun Q hQ => ?_
  unfold f9 at hS
  show ZR _ Q c9_b [] _
  replace hQ : ∀ e st', f9_Q r e st' → Q e st' := hQ
  refine zrSeq ?_
  refine zrReg ?_
  refine zlRun (n := 1) (j := 1) rfl (by kernel_rfl) ?_
  refine zlEnd (by kernel_rfl) ?_
  refine zkSeq ?_
  refine zrSeq ?_
  refine zrReg ?_
  refine zlRun (n := 3) (j := 3) rfl (by kernel_rfl) ?_
  refine bindE hS (fun z2 hz2 hS => ?_)
  refine zlOp (d := some 8) (op := (.call 11 [(.tmp 6), (.tmp 7)])) (g := none) (v := (.tup [(.agg ((eU8.row 256 z2.1.Us) ++ ((eU8.row 256 z2.1.Him) ++ (((eInt .u64).row 4 z2.1.UsOk) ++ (((eInt .u64).row 4 z2.1.HimOk) ++ []))))), (.d (.str z2.2.1)), (.d (.int .i64 z2.2.2))])) (ups := []) (j := 4) rfl (by kernel_rfl) (by kernel_rfl) (ev_call (args := [(.agg ((eU8.row 256 (fun _ => 0)) ++ ((eU8.row 256 (fun _ => 0)) ++ (((eInt .u64).row 4 (fun i => ([2, 0, 0, 0] : List Int).getD i 0)) ++ (((eInt .u64).row 4 (fun _ => 0)) ++ []))))), (.agg ((.d (.int .i64 3)) :: ((.d (.int .i64 253)) :: ((.d (.int .i64 1)) :: ((.d (.str ([]))) :: [])))))]) (l := [(.agg ((eU8.row 256 (fun _ => 0)) ++ ((eU8.row 256 (fun _ => 0)) ++ (((eInt .u64).row 4 (fun i => ([2, 0, 0, 0] : List Int).getD i 0)) ++ (((eInt .u64).row 4 (fun _ => 0)) ++ []))))), (.agg ((.d (.int .i64 3)) :: ((.d (.int .i64 253)) :: ((.d (.int .i64 1)) :: ((.d (.str ([]))) :: [])))))]) (r := (.tup [(.agg ((eU8.row 256 z2.1.Us) ++ ((eU8.row 256 z2.1.Him) ++ (((eInt .u64).row 4 z2.1.UsOk) ++ (((eInt .u64).row 4 z2.1.HimOk) ++ []))))), (.d (.str z2.2.1)), (.d (.int .i64 z2.2.2))])) (by kernel_rfl) (by kernel_rfl) (f11_ok base (d - 1) (dpt hd rfl) (GNeg.mk (fun _ => 0) (fun _ => 0) (fun i => ([2, 0, 0, 0] : List Int).getD i 0) (fun _ => 0)) (GTok.mk 3 253 1 ([])) z2 hz2) (by kernel_rfl) (by kernel_rfl) (by kernel_rfl)) ?_
  refine zlRun (n := 8) (j := 12) rfl (by kernel_rfl) ?_
  refine zlEnd (by kernel_rfl) ?_
  refine zkSeq ?_
  refine zrSeq ?_
  refine zrReg ?_
  refine zlRun (n := 1) (j := 1) rfl (by kernel_rfl) ?_
  refine zlBool (d := 13) (op := (.cmpI .eql (.tmp 12) (.const (.int .i64 0)))) (g := none) (j := 2) (decide (z2.2.2 = 0)) rfl (by kernel_rfl) (by kernel_rfl) (by kernel_rfl) (fun hc => ?_) (fun hc => ?_)
  · replace hS := cond_t hc hS
    refine zlRun (n := 2) (j := 4) rfl (by kernel_rfl) ?_
    refine zlBool (d := 16) (op := (.strO .eql (.tmp 15) (.const (.string ⟨#[255, 251, 1]⟩)))) (g := (some (14, true))) (j := 5) (decide (z2.2.1 = ([255, 251, 1] : List UInt8))) rfl (by kernel_rfl) (by kernel_rfl) (by kernel_rfl) (fun hc => ?_) (fun hc => ?_)
    · replace hS := cond_t hc hS
      refine zlRun (n := 5) (j := 10) rfl (by kernel_rfl) ?_
      refine zlBool (d := 22) (op := (.cmpI .eql (.tmp 21) (.const (.int .u8 1)))) (g := (some (18, true))) (j := 11) (decide (((z2.1.Us 1).toNat : Int) = 1)) rfl (by kernel_rfl) (by kernel_rfl) (by kernel_rfl) (fun hc => ?_) (fun hc => ?_)
      · replace hS := cond_t hc hS
        refine zlRun (n := 2) (j := 13) rfl (by kernel_rfl) ?_
        refine zlEnd (by kernel_rfl) ?_
        refine zkSeq ?_
        refine zrRet ?_
        refine zkNil ?_
        exact endQ hS hQ (fRet ((congrArg (fun s => outR s 0 c9.res) (by kernel_rfl : finSt c9.fin _ = f9_fin true)).trans (f9_out true)))
      · replace hS := cond_f hc hS
        refine zlRun (n := 2) (j := 13) rfl (by kernel_rfl) ?_
        refine zlEnd (by kernel_rfl) ?_
        refine zkSeq ?_
        refine zrRet ?_
        refine zkNil ?_
        exact endQ hS hQ (fRet ((congrArg (fun s => outR s 0 c9.res) (by kernel_rfl : finSt c9.fin _ = f9_fin false)).trans (f9_out false)))
    · replace hS := cond_f hc hS
      refine zlRun (n := 8) (j := 13) rfl (by kernel_rfl) ?_
      refine zlEnd (by kernel_rfl) ?_
      refine zkSeq ?_
      refine zrRet ?_
      refine zkNil ?_
      exact endQ hS hQ (fRet ((congrArg (fun s => outR s 0 c9.res) (by kernel_rfl : finSt c9.fin _ = f9_fin false)).trans (f9_out false)))
  · replace hS := cond_f hc hS
    refine zlRun (n := 11) (j := 13) rfl (by kernel_rfl) ?_
    refine zlEnd (by kernel_rfl) ?_
    refine zkSeq ?_
    refine zrRet ?_
    refine zkNil ?_
    exact endQ hS hQ (fRet ((congrArg (fun s => outR s 0 c9.res) (by kernel_rfl : finSt c9.fin _ = f9_fin false)).trans (f9_out false)))
/- farwriter/farref.Between -/
def f19_fin (p3 : Bool) : St := ⟨(up (fun _ => .un) 6 (.d (.bool p3))), (hB fun _ => 0)⟩
theorem f19_out (p3 : Bool) : outR (f19_fin p3) 0 c19.res = some ((.d (.bool p3)), []) := by
  kernel_rfl
def f19_Q (r : Bool) (e : PX) (st : St) : Prop := DoneF c19 0 ((.d (.bool r)), []) e st
noncomputable def f19 (a1 : Int) (a2 : Int) (a3 : Int) : Option (Bool) := (bif (decide (a2 ≤ a1)) then (bif (decide (a1 ≤ a3)) then (some true) else (some false)) else (some false))
theorem f19_ok (base : Orc) (d : Nat) (hd : 1 ≤ d) (a1 : Int) (a2 : Int) (a3 : Int) (r : Bool) (hS : f19 a1 a2 a3 = some r) : lev codes base d 19 [(.d (.int .i64 a1)), (.d (.int .i64 a2)), (.d (.int .i64 a3))] [] = some ((.d (.bool r)), []) := by
  refine lev_go codes19 rfl rfl (Nat.le_trans (Nat.le_of_ble_eq_true rfl) hd) fun Q hQ => ?_
  unfold f19 at hS
  show ZR _ Q c19_b [] _
  replace hQ : ∀ e st', f19_Q r e st' → Q e st' := hQ
  refine zrSeq ?_
  refine zrReg ?_
  refine zlRun (n := 1) (j := 1) rfl (by kernel_rfl) ?_
  refine zlEnd (by kernel_rfl) ?_
  refine zkSeq ?_
  refine zrSeq ?_
  refine zrReg ?_
  refine zlRun (n := 2) (j := 2) rfl (by kernel_rfl) ?_
  refine zlBool (d := 9) (op := (.cmpI .leq (.tmp 7) (.tmp 8))) (g := none) (j := 3) (decide (a2 ≤ a1)) rfl (by kernel_rfl) (by kernel_rfl) (by kernel_rfl) (fun hc => ?_) (fun hc => ?_)
  · replace hS := cond_t hc hS
    refine zlRun (n := 3) (j := 6) rfl (by kernel_rfl) ?_
    refine zlBool (d := 13) (op := (.cmpI .leq (.tmp 11) (.tmp 12))) (g := (some (10, true))) (j := 7) (decide (a1 ≤ a3)) rfl (by kernel_rfl) (by kernel_rfl) (by kernel_rfl) (fun hc => ?_) (fun hc => ?_)
    · replace hS := cond_t hc hS
      refine zlRun (n := 2) (j := 9) rfl (by kernel_rfl) ?_
      refine zlEnd (by kernel_rfl) ?_
      refine zkSeq ?_
      refine zrRet ?_
      refine zkNil ?_
      exact endQ hS hQ (fRet ((congrArg (fun s => outR s 0 c19.res) (by kernel_rfl : finSt c19.fin _ = f19_fin true)).trans (f19_out true)))
    · replace hS := cond_f hc hS
      refine zlRun (n := 2) (j := 9) rfl (by kernel_rfl) ?_
      refine zlEnd (by kernel_rfl) ?_
      refine zkSeq ?_
      refine zrRet ?_
      refine zkNil ?_
      exact endQ hS hQ (fRet ((congrArg (fun s => outR s 0 c19.res) (by kernel_rfl : finSt c19.fin _ = f19_fin false)).trans (f19_out false)))
  · replace hS := cond_f hc hS
    refine zlRun (n := 6) (j := 9) rfl (by kernel_rfl) ?_
    refine zlEnd (by kernel_rfl) ?_
    refine zkSeq ?_
    refine zrRet ?_
    refine zkNil ?_
    exact endQ hS hQ (fRet ((congrArg (fun s => outR s 0 c19.res) (by kernel_rfl : finSt c19.fin _ = f19_fin false)).trans (f19_out false)))
/- farwriter/farref.NegRight -/
def f13_fin (p9 : Int) : St := ⟨(up (fun _ => .un) 2 (.d (.int .i64 p9))), (hB fun _ => 0)⟩
theorem f13_out (p9 : Int) : outR (f13_fin p9) 0 c13.res = some ((.d (.int .i64 p9)), []) := by
  kernel_rfl
def f13_Q (r : Int) (e : PX) (st : St) : Prop := DoneF c13 0 ((.d (.int .i64 r)), []) e st
def f13_l0_J (a1 : GNeg) (x : Int) : St := ⟨(up (up (fun _ => .un) 4 (.d (.int .i64 x))) 1 (.r (.ptr 16 0 0))), (up (hB fun _ => 0) 16 ⟨0, some (.box ((eU8.row 256 a1.Us) ++ ((eU8.row 256 a1.Him) ++ (((eInt .u64).row 4 a1.UsOk) ++ (((eInt .u64).row 4 a1.HimOk) ++ [])))))⟩)⟩
def f13_l0_H (a1 : GNeg) (x : Int) (st : St) : Prop := keepSt [1, 4] [(16, .id 16)] [] st = f13_l0_J a1 x
def f13_l0_e0_J (a1 : GNeg) : St := ⟨(fun _ => .un), (hB fun _ => 0)⟩
def f13_l0_X (a1 : GNeg) (z : Unit ⊕ Int) (e : PX) (st : St) : Prop := (match z with | .inl z => e = .exit 0 ∧ st = f13_l0_e0_J a1 | .inr z => e = .ret ∧ finSt c13.fin st = f13_fin z)
def f13_l0_j2_J (a1 : GNeg) (p14 : Int) : St := ⟨(up (up (fun _ => .un) 4 (.d (.int .i64 p14))) 1 (.r (.ptr 16 0 0))), (up (hB fun _ => 0) 16 ⟨0, some (.box ((eU8.row 256 a1.Us) ++ ((eU8.row 256 a1.Him) ++ (((eInt .u64).row 4 a1.UsOk) ++ (((eInt .u64).row 4 a1.HimOk) ++ [])))))⟩)⟩
noncomputable def f13_l0_j2 (a1 : GNeg) (p14 : Int) : Option (Int ⊕ (Unit ⊕ Int)) := ((inR p14 256).bind fun m19 => ((f19 ((a1.Us m19).toNat : Int) 0 5).bind fun z20 => (bif (!z20) then (some (.inr (.inr 4))) else ((inR p14 256).bind fun m21 => ((f19 ((a1.Him m21).toNat : Int) 0 5).bind fun z22 => (bif (!z22) then (some (.inr (.inr 4))) else (some (.inl (IntKind.i64.wrap (p14 + 1))))))))))
theorem f13_l0_j2_ok {base : Orc} {d : Nat} (hd : 2 ≤ d) (a1 : GNeg) {r : Int ⊕ (Unit ⊕ Int)} {Q : PX → St → Prop} (hQ : ∀ e st', finL (f13_l0_H a1) (f13_l0_X a1) r e st' → Q e st') (p14 : Int) (hS : f13_l0_j2 a1 p14 = some r) {st : St} (he : keepSt [1, 4] [(16, .id 16)] [] st = f13_l0_j2_J a1 p14) : ZR (lev codes base (d - 1)) Q c13_1 [] st := by
  refine zrKeep he ?_
  unfold f13_l0_j2 at hS
  refine zrSeq ?_
  refine zrBlk ?_
  refine zrSeq ?_
  refine zrReg ?_
  refine zlRun (n := 2) (j := 2) rfl (by kernel_rfl) ?_
  refine zlEnd (by kernel_rfl) ?_
  refine zkSeq ?_
  refine zrSeq ?_
  refine zrReg ?_
  refine zlRun (n := 2) (j := 2) rfl (by kernel_rfl) ?_
  refine bindE hS (fun m19 hm19 hS => ?_)
  refine zlOp (d := some 9) (op := (.ixA 256 1 (.tmp 8) (.tmp 7))) (g := none) (v := (.r (.ptr 16 0 (0 + m19 * 1)))) (ups := []) (j := 3) rfl (by kernel_rfl) (by kernel_rfl) (ev_ixA (kk := .i64) (b := 16) (g := 0) (o := 0) (j := p14) (by kernel_rfl) (by kernel_rfl) hm19) ?_
  refine zlOp (d := some 10) (op := (.load .false 1 (.tmp 9))) (g := none) (v := (.d (.int .u8 ((a1.Us m19).toNat : Int)))) (ups := []) (j := 4) rfl (by kernel_rfl) (by kernel_rfl) (ev_loadA eU8 (b := 16) (g := 0) (o := 0 + m19 * 1) (f := a1.Us) (nn := 256) (m := m19) (fo := 0) (pre := []) (post := ((eU8.row 256 a1.Him) ++ (((eInt .u64).row 4 a1.UsOk) ++ (((eInt .u64).row 4 a1.HimOk) ++ [])))) (by kernel_rfl) (by kernel_rfl) (by kernel_rfl) (inR_lt hm19) (by kernel_rfl) (by kernel_rfl) (by kernel_rfl)) ?_
  refine zlOp (d := some 11) (op := (.cvI .i64 (.tmp 10))) (g := none) (v := (.d (.int .i64 ((a1.Us m19).toNat : Int)))) (ups := []) (j := 5) rfl (by kernel_rfl) (by kernel_rfl) (ev_cv (kk := .u8) (a := ((a1.Us m19).toNat : Int)) (by kernel_rfl) (cv_i64 _)) ?_
  refine bindE hS (fun z20 hz20 hS => ?_)
  refine zlOp (d := some 12) (op := (.call 19 [(.tmp 11), (.const (.int .i64 0)), (.const (.int .i64 5))])) (g := none) (v := (.d (.bool z20))) (ups := []) (j := 6) rfl (by kernel_rfl) (by kernel_rfl) (ev_call (args := [(.d (.int .i64 ((a1.Us m19).toNat : Int))), (.d (.int .i64 0)), (.d (.int .i64 5))]) (l := [(.d (.int .i64 ((a1.Us m19).toNat : Int))), (.d (.int .i64 0)), (.d (.int .i64 5))]) (r := (.d (.bool z20))) (by kernel_rfl) (by kernel_rfl) (f19_ok base (d - 1) (dpt hd rfl) ((a1.Us m19).toNat : Int) 0 5 z20 hz20) (by kernel_rfl) (by kernel_rfl) (by kernel_rfl)) ?_
  refine zlRun (n := 2) (j := 8) rfl (by kernel_rfl) ?_
  refine zlSplit 14 (!z20) (by kernel_rfl) (fun hc => ?_) (fun hc => ?_)
  · replace hS := cond_t hc hS
    refine zlRun (n := 8) (j := 16) rfl (by kernel_rfl) ?_
    refine zlEnd (by kernel_rfl) ?_
    refine zkSeq ?_
    refine zrCondT (by kernel_rfl) ?_
    refine zrSeq ?_
    refine zrReg ?_
    refine zlRun (n := 1) (j := 1) rfl (by kernel_rfl) ?_
    refine zlEnd (by kernel_rfl) ?_
    refine zkSeq ?_
    refine zrRet ?_
    refine zkBlkR ?_
    refine zkSeqR ?_
    refine zkNil ?_
    exact endQ hS hQ (finL_x (by intro h; cases h) (by show _ = _ ∧ _ = _; exact ⟨rfl, by kernel_rfl⟩))
  · replace hS := cond_f hc hS
    refine zlRun (n := 2) (j := 10) rfl (by kernel_rfl) ?_
    refine bindE hS (fun m21 hm21 hS => ?_)
    refine zlOp (d := some 17) (op := (.ixA 256 1 (.tmp 16) (.tmp 15))) (g := (some (14, false))) (v := (.r (.ptr 16 0 (256 + m21 * 1)))) (ups := []) (j := 11) rfl (by kernel_rfl) (by kernel_rfl) (ev_ixA (kk := .i64) (b := 16) (g := 0) (o := 256) (j := p14) (by kernel_rfl) (by kernel_rfl) hm21) ?_
    refine zlOp (d := some 18) (op := (.load .false 1 (.tmp 17))) (g := (some (14, false))) (v := (.d (.int .u8 ((a1.Him m21).toNat : Int)))) (ups := []) (j := 12) rfl (by kernel_rfl) (by kernel_rfl) (ev_loadA eU8 (b := 16) (g := 0) (o := 256 + m21 * 1) (f := a1.Him) (nn := 256) (m := m21) (fo := 0) (pre := ((eU8.row 256 a1.Us) ++ [])) (post := (((eInt .u64).row 4 a1.UsOk) ++ (((eInt .u64).row 4 a1.HimOk) ++ []))) (by kernel_rfl) (by kernel_rfl) (by kernel_rfl) (inR_lt hm21) (by kernel_rfl) (by kernel_rfl) (by kernel_rfl)) ?_
    refine zlOp (d := some 19) (op := (.cvI .i64 (.tmp 18))) (g := (some (14, false))) (v := (.d (.int .i64 ((a1.Him m21).toNat : Int)))) (ups := []) (j := 13) rfl (by kernel_rfl) (by kernel_rfl) (ev_cv (kk := .u8) (a := ((a1.Him m21).toNat : Int)) (by kernel_rfl) (cv_i64 _)) ?_
    refine bindE hS (fun z22 hz22 hS => ?_)
    refine zlOp (d := some 20) (op := (.call 19 [(.tmp 19), (.const (.int .i64 0)), (.const (.int .i64 5))])) (g := (some (14, false))) (v := (.d (.bool z22))) (ups := []) (j := 14) rfl (by kernel_rfl) (by kernel_rfl) (ev_call (args := [(.d (.int .i64 ((a1.Him m21).toNat : Int))), (.d (.int .i64 0)), (.d (.int .i64 5))]) (l := [(.d (.int .i64 ((a1.Him m21).toNat : Int))), (.d (.int .i64 0)), (.d (.int .i64 5))]) (r := (.d (.bool z22))) (by kernel_rfl) (by kernel_rfl) (f19_ok base (d - 1) (dpt hd rfl) ((a1.Him m21).toNat : Int) 0 5 z22 hz22) (by kernel_rfl) (by kernel_rfl) (by kernel_rfl)) ?_
    refine zlRun (n := 2) (j := 16) rfl (by kernel_rfl) ?_
    refine zlEnd (by kernel_rfl) ?_
    refine zkSeq ?_
    refine zrSplit 22 (!z22) (by kernel_rfl) (fun hc => ?_) (fun hc => ?_)
    · replace hS := cond_t hc hS
      refine zrCondT (by kernel_rfl) ?_
      refine zrSeq ?_
      refine zrReg ?_
      refine zlRun (n := 1) (j := 1) rfl (by kernel_rfl) ?_
      refine zlEnd (by kernel_rfl) ?_
      refine zkSeq ?_
      refine zrRet ?_
      refine zkBlkR ?_
      refine zkSeqR ?_
      refine zkNil ?_
      exact endQ hS hQ (finL_x (by intro h; cases h) (by show _ = _ ∧ _ = _; exact ⟨rfl, by kernel_rfl⟩))
    · replace hS := cond_f hc hS
      refine zrCondF (by kernel_rfl) ?_
      refine zrSkip ?_
      refine zkBlk ?_
      refine zkSeq ?_
      refine zrReg ?_
      refine zlRun (n := 2) (j := 2) rfl (by kernel_rfl) ?_
      refine zlEnd (by kernel_rfl) ?_
      refine zkNil ?_
      exact endQ hS hQ (finL_n (by show keepSt _ _ _ _ = _; kernel_rfl))
def f13_l0_j1_J (a1 : GNeg) (p12 : Int) (p13 : Bool) : St := ⟨(up (up (up (fun _ => .un) 5 (.d (.bool p13))) 4 (.d (.int .i64 p12))) 1 (.r (.ptr 16 0 0))), (up (hB fun _ => 0) 16 ⟨0, some (.box ((eU8.row 256 a1.Us) ++ ((eU8.row 256 a1.Him) ++ (((eInt .u64).row 4 a1.UsOk) ++ (((eInt .u64).row 4 a1.HimOk) ++ [])))))⟩)⟩
noncomputable def f13_l0_j1 (a1 : GNeg) (p12 : Int) (p13 : Bool) : Option (Int ⊕ (Unit ⊕ Int)) := (bif p13 then (f13_l0_j2 a1 p12) else (some (.inr (.inl ()))))
theorem f13_l0_j1_ok {base : Orc} {d : Nat} (hd : 2 ≤ d) (a1 : GNeg) {r : Int ⊕ (Unit ⊕ Int)} {Q : PX → St → Prop} (hQ : ∀ e st', finL (f13_l0_H a1) (f13_l0_X a1) r e st' → Q e st') (p12 : Int) (p13 : Bool) (hS : f13_l0_j1 a1 p12 p13 = some r) {st : St} (he : keepSt [1, 4, 5] [(16, .id 16)] [] st = f13_l0_j1_J a1 p12 p13) : ZR (lev codes base (d - 1)) Q c13_2 [] st := by
  refine zrKeep he ?_
  unfold f13_l0_j1 at hS
  refine zrSeq ?_
  refine zrSplit 5 p13 (by kernel_rfl) (fun hc => ?_) (fun hc => ?_)
  · replace hS := cond_t hc hS
    refine zrCondT (by kernel_rfl) ?_
    refine zrSkip ?_
    refine zkSeq ?_
    exact f13_l0_j2_ok hd a1 hQ p12 hS (by kernel_rfl)
  · replace hS := cond_f hc hS
    refine zrCondF (by kernel_rfl) ?_
    refine zrKeep (J := f13_l0_e0_J a1) (by kernel_rfl) ?_
    refine zrExit ?_
    refine zkSeqX ?_
    refine zkNil ?_
    exact endQ hS hQ (finL_x (by intro h; cases h) (by show _ = _ ∧ _ = _; exact ⟨rfl, rfl⟩))
noncomputable def f13_l0 (a1 : GNeg) (x : Int) : Option (Int ⊕ (Unit ⊕ Int)) := (bif (decide (x < 256)) then (f13_l0_j1 a1 x true) else (f13_l0_j1 a1 x false))
theorem f13_l0_ok {base : Orc} {d : Nat} (hd : 2 ≤ d) (a1 : GNeg) {r : Int ⊕ (Unit ⊕ Int)} {Q : PX → St → Prop} (hQ : ∀ e st', finL (f13_l0_H a1) (f13_l0_X a1) r e st' → Q e st') {x : Int} (hS : f13_l0 a1 x = some r) {st : St} (he : f13_l0_H a1 x st) : ZR (lev codes base (d - 1)) Q c13_3 [] st := by
  refine zrKeep he ?_
  unfold f13_l0 at hS
  refine zrSeq ?_
  refine zrReg ?_
  refine zlBool (d := 5) (op := (.cmpI .lss (.tmp 4) (.const (.int .i64 256)))) (g := none) (j := 1) (decide (x < 256)) rfl (by kernel_rfl) (by kernel_rfl) (by kernel_rfl) (fun hc => ?_) (fun hc => ?_)
  · replace hS := cond_t hc hS
    refine zlEnd (by kernel_rfl) ?_
    refine zkSeq ?_
    exact f13_l0_j1_ok hd a1 hQ x true hS (by kernel_rfl)
  · replace hS := cond_f hc hS
    refine zlEnd (by kernel_rfl) ?_
    refine zkSeq ?_
    exact f13_l0_j1_ok hd a1 hQ x false hS (by kernel_rfl)
noncomputable def f13 (a1 : GNeg) : Option (Int) := ((loopO (f13_l0 a1) 0).bind fun z23 => (Sum.elim (fun z24 => (some 0)) (fun z25 => (some z25)) z23))
theorem f13_ok (base : Orc) (d : Nat) (hd : 2 ≤ d) (a1 : GNeg) (r : Int) (hS : f13 a1 = some r) : lev codes base d 13 [(.agg ((eU8.row 256 a1.Us) ++ ((eU8.row 256 a1.Him) ++ (((eInt .u64).row 4 a1.UsOk) ++ (((eInt .u64).row 4 a1.HimOk) ++ [])))))] [] = some ((.d (.int .i64 r)), []) := by
  refine lev_go codes13 rfl rfl (Nat.le_trans (Nat.le_of_ble_eq_true rfl) hd) fun Q hQ => ?_
  unfold f13 at hS
  show ZR _ Q c13_b [] _
  replace hQ : ∀ e st', f13_Q r e st' → Q e st' := hQ
  refine zrSeq ?_
  refine zrReg ?_
  refine zlRun (n := 2) (j := 2) rfl (by kernel_rfl) ?_
  refine zlEnd (by kernel_rfl) ?_
  refine zkSeq ?_
  refine zrSeq ?_
  refine zrSeq ?_
  refine zrReg ?_
  refine zlRun (n := 1) (j := 1) rfl (by kernel_rfl) ?_
  refine zlEnd (by kernel_rfl) ?_
  refine zkSeq ?_
  refine zrBlk ?_
  refine bindE hS (fun z23 hz23 hS => ?_)
  refine zrLoop (f13_l0_H a1) (f13_l0_X a1) (fun x st r Q h0 hS hQ => f13_l0_ok hd a1 hQ hS h0) (x := 0) (z := z23) (by show keepSt _ _ _ _ = _; kernel_rfl) hz23 ?_
  rcases z23 with z24 | z25
  · replace hS := (show _ = _ from hS)
    simp only [Sum.elim_inl] at hS
    intro e st' _ hX
    obtain ⟨rfl, rfl⟩ : _ ∧ _ := hX
    refine zkBlkX ?_
    refine zkSeq ?_
    refine zrSeq ?_
    refine zrReg ?_
    refine zlRun (n := 1) (j := 1) rfl (by kernel_rfl) ?_
    refine zlEnd (by kernel_rfl) ?_
    refine zkSeq ?_
    refine zrRet ?_
    refine zkNil ?_
    exact endQ hS hQ (fRet ((congrArg (fun s => outR s 0 c13.res) (by kernel_rfl : finSt c13.fin _ = f13_fin 0)).trans (f13_out 0)))
  · simp only [Sum.elim_inr] at hS
    intro e st' _ hX
    obtain ⟨rfl, hX⟩ : _ ∧ _ := hX
    refine zkBlkR ?_
    refine zkSeqR ?_
    refine zkNil ?_
    exact endQ hS hQ (fRet ((congrArg (fun s => outR s 0 c13.res) hX).trans (f13_out z25)))
end Go.Proofs.Ytddnpgmmlfbhfaa.Pm
