/- Typed functions, and that the codes are these. Printed by dec.py. -/
import Derived.Test.YtphbfciikjkkfaaDEnvC
namespace Go.Proofs.Ytphbfciikjkkfaa.Pm
set_option maxRecDepth 1000000
set_option maxHeartbeats 20000000
set_option linter.unusedVariables false
/- farwriter/environ.Write$1 -/
def f37_fin (p2 : Bool) : St := ⟨(up (fun _ => .un) 2 (.d (.bool p2))), (hB fun _ => 0)⟩
theorem f37_out (p2 : Bool) : outR (f37_fin p2) 0 c37.res = some ((.d (.bool p2)), []) := by
  kernel_rfl
def f37_Q (r : Bool) (e : PX) (st : St) : Prop := DoneF c37 0 ((.d (.bool r)), []) e st
noncomputable def f37 (a1 : GVar) : Option (Bool) := (bif (decide (200 < (a1.Name.length : Int))) then (some true) else (bif (decide (200 < (a1.Value.length : Int))) then (some true) else (some false)))
theorem f37_ok (base : Orc) (d : Nat) (hd : 1 ≤ d) (a1 : GVar) (r : Bool) (hS : f37 a1 = some r) : lev codes base d 37 [(.agg ((.d (.str a1.Name)) :: ((.d (.str a1.Value)) :: ((.d (.bool a1.User)) :: ((.d (.bool a1.Set)) :: [])))))] [] = some ((.d (.bool r)), []) := by
  refine lev_go codes37 rfl rfl (Nat.le_trans (Nat.le_of_ble_eq_true rfl) hd) fun Q hQ => ?_
  unfold f37 at hS
  show ZR _ Q c37_b [] _
  replace hQ : ∀ e st', f37_Q r e st' → Q e st' := hQ
  refine zrSeq ?_
  refine zrReg ?_
  refine zlRun (n := 2) (j := 2) rfl (by kernel_rfl) ?_
  refine zlEnd (by kernel_rfl) ?_
  refine zkSeq ?_
  refine zrSeq ?_
  refine zrReg ?_
  refine zlRun (n := 3) (j := 3) rfl (by kernel_rfl) ?_
  refine zlBool (d := 6) (op := (.cmpI .gtr (.tmp 5) (.const (.int .i64 200)))) (g := none) (j := 4) (decide (200 < (a1.Name.length : Int))) rfl (by kernel_rfl) (by kernel_rfl) (by kernel_rfl) (fun hc => ?_) (fun hc => ?_)
  · replace hS := cond_t hc hS
    refine zlRun (n := 7) (j := 11) rfl (by kernel_rfl) ?_
    refine zlEnd (by kernel_rfl) ?_
    refine zkSeq ?_
    refine zrRet ?_
    refine zkNil ?_
    exact endQ hS hQ (fRet ((congrArg (fun s => outR s 0 c37.res) (by kernel_rfl : finSt c37.fin _ = f37_fin true)).trans (f37_out true)))
  · replace hS := cond_f hc hS
    refine zlRun (n := 4) (j := 8) rfl (by kernel_rfl) ?_
    refine zlBool (d := 11) (op := (.cmpI .gtr (.tmp 10) (.const (.int .i64 200)))) (g := (some (7, false))) (j := 9) (decide (200 < (a1.Value.length : Int))) rfl (by kernel_rfl) (by kernel_rfl) (by kernel_rfl) (fun hc => ?_) (fun hc => ?_)
    · replace hS := cond_t hc hS
      refine zlRun (n := 2) (j := 11) rfl (by kernel_rfl) ?_
      refine zlEnd (by kernel_rfl) ?_
      refine zkSeq ?_
      refine zrRet ?_
      refine zkNil ?_
      exact endQ hS hQ (fRet ((congrArg (fun s => outR s 0 c37.res) (by kernel_rfl : finSt c37.fin _ = f37_fin true)).trans (f37_out true)))
    · replace hS := cond_f hc hS
      refine zlRun (n := 2) (j := 11) rfl (by kernel_rfl) ?_
      refine zlEnd (by kernel_rfl) ?_
      refine zkSeq ?_
      refine zrRet ?_
      refine zkNil ?_
      exact endQ hS hQ (fRet ((congrArg (fun s => outR s 0 c37.res) (by kernel_rfl : finSt c37.fin _ = f37_fin false)).trans (f37_out false)))
/- slices.IndexFunc[[]farwriter/api.Var,farwriter/api.Var] -/
def f56_fin (p8 : Int) : St := ⟨(up (fun _ => .un) 4 (.d (.int .i64 p8))), (hB fun _ => 0)⟩
theorem f56_out (p8 : Int) : outR (f56_fin p8) 0 c56.res = some ((.d (.int .i64 p8)), []) := by
  kernel_rfl
def f56_Q (r : Int) (e : PX) (st : St) : Prop := DoneF c56 0 ((.d (.int .i64 r)), []) e st
def f56_l0_J (a1 : List GVar) (x : Int) : St := ⟨(up (up (up (up (fun _ => .un) 8 (.d (.int .i64 x))) 7 (.d (.int .i64 (a1.length : Int)))) 1 (.fn 37 [])) 0 (.d (.sl a1.length (e_GVar.cells a1)))), (hB fun _ => 0)⟩
def f56_l0_H (a1 : List GVar) (x : Int) (st : St) : Prop := keepSt [0, 1, 7, 8] [] [] st = f56_l0_J a1 x
def f56_l0_e0_J (a1 : List GVar) : St := ⟨(fun _ => .un), (hB fun _ => 0)⟩
def f56_l0_X (a1 : List GVar) (z : Unit ⊕ Int) (e : PX) (st : St) : Prop := (match z with | .inl z => e = .exit 0 ∧ st = f56_l0_e0_J a1 | .inr z => e = .ret ∧ finSt c56.fin st = f56_fin z)
def f56_l0_j2_J (a1 : List GVar) (p13 : Int) : St := ⟨(up (up (up (up (fun _ => .un) 8 (.d (.int .i64 p13))) 7 (.d (.int .i64 (a1.length : Int)))) 1 (.fn 37 [])) 0 (.d (.sl a1.length (e_GVar.cells a1)))), (hB fun _ => 0)⟩
noncomputable def f56_l0_j2 (a1 : List GVar) (p13 : Int) : Option (Int ⊕ (Unit ⊕ Int)) := ((idx a1 p13).bind fun z7 => ((f37 z7).bind fun z8 => (bif z8 then (some (.inr (.inr p13))) else (some (.inl (IntKind.i64.wrap (p13 + 1)))))))
theorem f56_l0_j2_ok {base : Orc} {d : Nat} (hd : 2 ≤ d) (a1 : List GVar) {r : Int ⊕ (Unit ⊕ Int)} {Q : PX → St → Prop} (hQ : ∀ e st', finL (f56_l0_H a1) (f56_l0_X a1) r e st' → Q e st') (p13 : Int) (hS : f56_l0_j2 a1 p13 = some r) {st : St} (he : keepSt [0, 1, 7, 8] [] [] st = f56_l0_j2_J a1 p13) : ZR (lev codes base (d - 1)) Q c56_1 [] st := by
  refine zrKeep he ?_
  unfold f56_l0_j2 at hS
  refine zrSeq ?_
  refine zrBlk ?_
  refine zrSeq ?_
  refine zrReg ?_
  refine zlRun (n := 2) (j := 2) rfl (by kernel_rfl) ?_
  refine zlEnd (by kernel_rfl) ?_
  refine zkSeq ?_
  refine zrSeq ?_
  refine zrReg ?_
  refine zlRun (n := 3) (j := 3) rfl (by kernel_rfl) ?_
  refine bindE hS (fun z7 hz7 hS => ?_)
  refine zlOp (d := some 14) (op := (.ixS 30 4 (.tmp 12) (.tmp 13))) (g := none) (v := (.rptr (e_GVar.enc z7 ++ (e_GVar.cells (a1.drop ((p13 : Int).toNat + 1)))))) (ups := []) (j := 4) rfl (by kernel_rfl) (by kernel_rfl) (ev_ixS e_GVar (kk := .i64) (xs := a1) (j := p13) (by kernel_rfl) (by kernel_rfl) hz7 rfl (by intro h; cases h)) ?_
  refine zlRun (n := 1) (j := 5) rfl (by kernel_rfl) ?_
  refine bindE hS (fun z8 hz8 hS => ?_)
  refine zlOp (d := some 16) (op := (.callv (.tmp 11) [(.tmp 15)])) (g := none) (v := (.d (.bool z8))) (ups := []) (j := 6) rfl (by kernel_rfl) (by kernel_rfl) (ev_callv (f := 37) (cs := []) (by kernel_rfl) (args := [(.agg ((.d (.str z7.Name)) :: ((.d (.str z7.Value)) :: ((.d (.bool z7.User)) :: ((.d (.bool z7.Set)) :: [])))))]) (l := [(.agg ((.d (.str z7.Name)) :: ((.d (.str z7.Value)) :: ((.d (.bool z7.User)) :: ((.d (.bool z7.Set)) :: [])))))]) (r := (.d (.bool z8))) (by kernel_rfl) (by kernel_rfl) (f37_ok base (d - 1) (dpt hd rfl) z7 z8 hz8) (by kernel_rfl) (by kernel_rfl) (by kernel_rfl)) ?_
  refine zlEnd (by kernel_rfl) ?_
  refine zkSeq ?_
  refine zrSplit 16 z8 (by kernel_rfl) (fun hc => ?_) (fun hc => ?_)
  · replace hS := cond_t hc hS
    refine zrCondT (by kernel_rfl) ?_
    refine zrSeq ?_
    refine zrReg ?_
    refine zlRun (n := 2) (j := 2) rfl (by kernel_rfl) ?_
    refine zlEnd (by kernel_rfl) ?_
    refine zkSeq ?_
    refine zrRet ?_
    refine zkBlkR ?_
    refine zkSeqR ?_
    refine zkNil ?_
    exact endQ hS hQ (finL_x (by intro h; cases h) (by show _ = _ ∧ _ = _; exact ⟨rfl, by kernel_rfl⟩))
  · replace hS := cond_f hc hS
    refine zrCondF (by kernel_rfl) ?_
    refine zrSkip ?_
    refine zkBlk ?_
    refine zkSeq ?_
    refine zrReg ?_
    refine zlRun (n := 2) (j := 2) rfl (by kernel_rfl) ?_
    refine zlEnd (by kernel_rfl) ?_
    refine zkNil ?_
    exact endQ hS hQ (finL_n (by show keepSt _ _ _ _ = _; kernel_rfl))
def f56_l0_j1_J (a1 : List GVar) (p11 : Int) (p12 : Bool) : St := ⟨(up (up (up (up (up (fun _ => .un) 9 (.d (.bool p12))) 8 (.d (.int .i64 p11))) 7 (.d (.int .i64 (a1.length : Int)))) 1 (.fn 37 [])) 0 (.d (.sl a1.length (e_GVar.cells a1)))), (hB fun _ => 0)⟩
noncomputable def f56_l0_j1 (a1 : List GVar) (p11 : Int) (p12 : Bool) : Option (Int ⊕ (Unit ⊕ Int)) := (bif p12 then (f56_l0_j2 a1 p11) else (some (.inr (.inl ()))))
theorem f56_l0_j1_ok {base : Orc} {d : Nat} (hd : 2 ≤ d) (a1 : List GVar) {r : Int ⊕ (Unit ⊕ Int)} {Q : PX → St → Prop} (hQ : ∀ e st', finL (f56_l0_H a1) (f56_l0_X a1) r e st' → Q e st') (p11 : Int) (p12 : Bool) (hS : f56_l0_j1 a1 p11 p12 = some r) {st : St} (he : keepSt [0, 1, 7, 8, 9] [] [] st = f56_l0_j1_J a1 p11 p12) : ZR (lev codes base (d - 1)) Q c56_2 [] st := by
  refine zrKeep he ?_
  unfold f56_l0_j1 at hS
  refine zrSeq ?_
  refine zrSplit 9 p12 (by kernel_rfl) (fun hc => ?_) (fun hc => ?_)
  · replace hS := cond_t hc hS
    refine zrCondT (by kernel_rfl) ?_
    refine zrSkip ?_
    refine zkSeq ?_
    exact f56_l0_j2_ok hd a1 hQ p11 hS (by kernel_rfl)
  · replace hS := cond_f hc hS
    refine zrCondF (by kernel_rfl) ?_
    refine zrKeep (J := f56_l0_e0_J a1) (by kernel_rfl) ?_
    refine zrExit ?_
    refine zkSeqX ?_
    refine zkNil ?_
    exact endQ hS hQ (finL_x (by intro h; cases h) (by show _ = _ ∧ _ = _; exact ⟨rfl, rfl⟩))
noncomputable def f56_l0 (a1 : List GVar) (x : Int) : Option (Int ⊕ (Unit ⊕ Int)) := (bif (decide (x < (a1.length : Int))) then (f56_l0_j1 a1 x true) else (f56_l0_j1 a1 x false))
theorem f56_l0_ok {base : Orc} {d : Nat} (hd : 2 ≤ d) (a1 : List GVar) {r : Int ⊕ (Unit ⊕ Int)} {Q : PX → St → Prop} (hQ : ∀ e st', finL (f56_l0_H a1) (f56_l0_X a1) r e st' → Q e st') {x : Int} (hS : f56_l0 a1 x = some r) {st : St} (he : f56_l0_H a1 x st) : ZR (lev codes base (d - 1)) Q c56_3 [] st := by
  refine zrKeep he ?_
  unfold f56_l0 at hS
  refine zrSeq ?_
  refine zrReg ?_
  refine zlBool (d := 9) (op := (.cmpI .lss (.tmp 8) (.tmp 7))) (g := none) (j := 1) (decide (x < (a1.length : Int))) rfl (by kernel_rfl) (by kernel_rfl) (by kernel_rfl) (fun hc => ?_) (fun hc => ?_)
  · replace hS := cond_t hc hS
    refine zlEnd (by kernel_rfl) ?_
    refine zkSeq ?_
    exact f56_l0_j1_ok hd a1 hQ x true hS (by kernel_rfl)
  · replace hS := cond_f hc hS
    refine zlEnd (by kernel_rfl) ?_
    refine zkSeq ?_
    exact f56_l0_j1_ok hd a1 hQ x false hS (by kernel_rfl)
noncomputable def f56 (a1 : List GVar) : Option (Int) := ((loopO (f56_l0 a1) 0).bind fun z9 => (Sum.elim (fun z10 => (some (-1))) (fun z11 => (some z11)) z9))
theorem f56_ok (base : Orc) (d : Nat) (hd : 2 ≤ d) (a1 : List GVar) (r : Int) (hS : f56 a1 = some r) : lev codes base d 56 [(.d (.sl a1.length (e_GVar.cells a1))), (.fn 37 [])] [] = some ((.d (.int .i64 r)), []) := by
  refine lev_go codes56 rfl rfl (Nat.le_trans (Nat.le_of_ble_eq_true rfl) hd) fun Q hQ => ?_
  unfold f56 at hS
  show ZR _ Q c56_b [] _
  replace hQ : ∀ e st', f56_Q r e st' → Q e st' := hQ
  refine zrSeq ?_
  refine zrReg ?_
  refine zlRun (n := 1) (j := 1) rfl (by kernel_rfl) ?_
  refine zlEnd (by kernel_rfl) ?_
  refine zkSeq ?_
  refine zrSeq ?_
  refine zrSeq ?_
  refine zrReg ?_
  refine zlRun (n := 3) (j := 3) rfl (by kernel_rfl) ?_
  refine zlEnd (by kernel_rfl) ?_
  refine zkSeq ?_
  refine zrBlk ?_
  refine bindE hS (fun z9 hz9 hS => ?_)
  refine zrLoop (f56_l0_H a1) (f56_l0_X a1) (fun x st r Q h0 hS hQ => f56_l0_ok hd a1 hQ hS h0) (x := 0) (z := z9) (by show keepSt _ _ _ _ = _; kernel_rfl) hz9 ?_
  rcases z9 with z10 | z11
  · replace hS := (show _ = _ from hS)
    simp only [Sum.elim_inl] at hS
    intro e st' _ hX
    obtain ⟨rfl, rfl⟩ : _ ∧ _ := hX
    refine zkBlkX ?_
    refine zkSeq ?_
    refine zrSeq ?_
    refine zrReg ?_
    refine zlRun (n := 1) (j := 1) rfl (by kernel_rfl) ?_
    refine zlEnd (by kernel_rfl) ?_
    refine zkSeq ?_
    refine zrRet ?_
    refine zkNil ?_
    exact endQ hS hQ (fRet ((congrArg (fun s => outR s 0 c56.res) (by kernel_rfl : finSt c56.fin _ = f56_fin (-1))).trans (f56_out (-1))))
  · simp only [Sum.elim_inr] at hS
    intro e st' _ hX
    obtain ⟨rfl, hX⟩ : _ ∧ _ := hX
    refine zkBlkR ?_
    refine zkSeqR ?_
    refine zkNil ?_
    exact endQ hS hQ (fRet ((congrArg (fun s => outR s 0 c56.res) hX).trans (f56_out z11)))
/- slices.ContainsFunc[[]farwriter/api.Var,farwriter/api.Var] -/
def f36_fin (p2 : Bool) : St := ⟨(up (fun _ => .un) 4 (.d (.bool p2))), (hB fun _ => 0)⟩
theorem f36_out (p2 : Bool) : outR (f36_fin p2) 0 c36.res = some ((.d (.bool p2)), []) := by
  kernel_rfl
def f36_Q (r : Bool) (e : PX) (st : St) : Prop := DoneF c36 0 ((.d (.bool r)), []) e st
noncomputable def f36 (a1 : List GVar) : Option (Bool) := ((f56 a1).bind fun z2 => (bif (decide (0 ≤ z2)) then (some true) else (some false)))
theorem f36_ok (base : Orc) (d : Nat) (hd : 3 ≤ d) (a1 : List GVar) (r : Bool) (hS : f36 a1 = some r) : lev codes base d 36 [(.d (.sl a1.length (e_GVar.cells a1))), (.fn 37 [])] [] = some ((.d (.bool r)), []) := by
  refine lev_go codes36 rfl rfl (Nat.le_trans (Nat.le_of_ble_eq_true rfl) hd) fun Q hQ => ?_
  unfold f36 at hS
  show ZR _ Q c36_b [] _
  replace hQ : ∀ e st', f36_Q r e st' → Q e st' := hQ
  refine zrSeq ?_
  refine zrReg ?_
  refine zlRun (n := 1) (j := 1) rfl (by kernel_rfl) ?_
  refine zlEnd (by kernel_rfl) ?_
  refine zkSeq ?_
  refine zrSeq ?_
  refine zrReg ?_
  refine zlRun (n := 2) (j := 2) rfl (by kernel_rfl) ?_
  refine bindE hS (fun z2 hz2 hS => ?_)
  refine zlOp (d := some 7) (op := (.call 56 [(.tmp 5), (.tmp 6)])) (g := none) (v := (.d (.int .i64 z2))) (ups := []) (j := 3) rfl (by kernel_rfl) (by kernel_rfl) (ev_call (args := [(.d (.sl a1.length (e_GVar.cells a1))), (.fn 37 [])]) (l := [(.d (.sl a1.length (e_GVar.cells a1))), (.fn 37 [])]) (r := (.d (.int .i64 z2))) (by kernel_rfl) (by kernel_rfl) (f56_ok base (d - 1) (dpt hd rfl) a1 z2 hz2) (by kernel_rfl) (by kernel_rfl) (by kernel_rfl)) ?_
  refine zlBool (d := 8) (op := (.cmpI .geq (.tmp 7) (.const (.int .i64 0)))) (g := none) (j := 4) (decide (0 ≤ z2)) rfl (by kernel_rfl) (by kernel_rfl) (by kernel_rfl) (fun hc => ?_) (fun hc => ?_)
  · replace hS := cond_t hc hS
    refine zlRun (n := 1) (j := 5) rfl (by kernel_rfl) ?_
    refine zlEnd (by kernel_rfl) ?_
    refine zkSeq ?_
    refine zrRet ?_
    refine zkNil ?_
    exact endQ hS hQ (fRet ((congrArg (fun s => outR s 0 c36.res) (by kernel_rfl : finSt c36.fin _ = f36_fin true)).trans (f36_out true)))
  · replace hS := cond_f hc hS
    refine zlRun (n := 1) (j := 5) rfl (by kernel_rfl) ?_
    refine zlEnd (by kernel_rfl) ?_
    refine zkSeq ?_
    refine zrRet ?_
    refine zkNil ?_
    exact endQ hS hQ (fRet ((congrArg (fun s => outR s 0 c36.res) (by kernel_rfl : finSt c36.fin _ = f36_fin false)).trans (f36_out false)))
/- farwriter/environ.escape -/
def f38_fin (p29 : List UInt8) : St := ⟨(up (fun _ => .un) 4 (.r (.msl 0 0 0 p29.length))), (up (hB fun _ => 0) 0 ⟨0, some (.own 5 1 (eU8.cells p29))⟩)⟩
theorem f38_out (p29 : List UInt8) : outR (f38_fin p29) 1 c38.res = some ((.r (.msl 0 0 0 p29.length)), [(.own 5 1 (eU8.cells p29))]) := by
  kernel_rfl
def f38_Q (r : (List UInt8)) (e : PX) (st : St) : Prop := DoneF c38 1 ((.r (.msl 0 0 0 r.length)), [(.own 5 1 (eU8.cells r))]) e st
def f38_l0_J (a1 : List UInt8) (a2 : List UInt8) (x : (List UInt8) × Int) : St := ⟨(up (up (up (up (fun _ => .un) 8 (.d (.int .i64 x.2))) 7 (.d (.int .i64 (a1.length : Int)))) 1 (.d (.str a1))) 0 (.r (.msl 0 0 0 x.1.length))), (up (hB fun _ => 0) 0 ⟨0, some (.own 5 1 (eU8.cells x.1))⟩)⟩
def f38_l0_H (a1 : List UInt8) (a2 : List UInt8) (x : (List UInt8) × Int) (st : St) : Prop := keepSt [0, 1, 7, 8] [(0, .id 0)] [] st = f38_l0_J a1 a2 x
def f38_l0_e0_J (a1 : List UInt8) (a2 : List UInt8) (p28 : List UInt8) : St := ⟨(up (fun _ => .un) 0 (.r (.msl 0 0 0 p28.length))), (up (hB fun _ => 0) 0 ⟨0, some (.own 5 1 (eU8.cells p28))⟩)⟩
def f38_l0_X (a1 : List UInt8) (a2 : List UInt8) (z : ((List UInt8))) (e : PX) (st : St) : Prop := e = .exit 0 ∧ st = f38_l0_e0_J a1 a2 z
def f38_l0_j3_J (a1 : List UInt8) (a2 : List UInt8) (p45 : List UInt8) (p46 : Int) (p47 : Int) : St := ⟨(up (up (up (up (up (fun _ => .un) 8 (.d (.int .i64 p47))) 7 (.d (.int .i64 (a1.length : Int)))) 5 (.d (.int .i64 p46))) 1 (.d (.str a1))) 0 (.r (.msl 0 0 0 p45.length))), (up (hB fun _ => 0) 0 ⟨0, some (.own 5 1 (eU8.cells p45))⟩)⟩
noncomputable def f38_l0_j3 (a1 : List UInt8) (a2 : List UInt8) (p45 : List UInt8) (p46 : Int) (p47 : Int) : Option (((List UInt8) × Int) ⊕ (((List UInt8)))) := ((idx a1 p46).bind fun z15 => ((app? 1 p45 ([z15] : List UInt8)).bind fun z16 => (some (.inl (z16, (IntKind.i64.wrap (p47 + 1)))))))
theorem f38_l0_j3_ok {base : Orc} {d : Nat} (hd : 1 ≤ d) (a1 : List UInt8) (a2 : List UInt8) {r : ((List UInt8) × Int) ⊕ (((List UInt8)))} {Q : PX → St → Prop} (hQ : ∀ e st', finL (f38_l0_H a1 a2) (f38_l0_X a1 a2) r e st' → Q e st') (p45 : List UInt8) (p46 : Int) (p47 : Int) (hS : f38_l0_j3 a1 a2 p45 p46 p47 = some r) {st : St} (he : keepSt [0, 1, 5, 7, 8] [(0, .id 0)] [] st = f38_l0_j3_J a1 a2 p45 p46 p47) : ZR (lev codes base (d - 1)) Q c38_1 [.blk 1, .seq c38_2] st := by
  refine zrKeep he ?_
  unfold f38_l0_j3 at hS
  refine zrReg ?_
  refine zlRun (n := 3) (j := 3) rfl (by kernel_rfl) ?_
  refine bindE hS (fun z15 hz15 hS => ?_)
  refine zlOp (d := some 21) (op := (.ixStr (.tmp 19) (.tmp 20))) (g := none) (v := (.d (.int .u8 (z15.toNat : Int)))) (ups := []) (j := 4) rfl (by kernel_rfl) (by kernel_rfl) (ev_ixStr (kk := .i64) (s := a1) (j := p46) (by kernel_rfl) (by kernel_rfl) hz15) ?_
  refine zlRun (n := 1) (j := 5) rfl (by kernel_rfl) ?_
  refine bindE hS (fun z16 hz16 hS => ?_)
  refine zlOp (d := some 23) (op := (.app 5 1 1 (.tmp 18) (.tmp 22))) (g := none) (v := (.r (.msl 0 1 0 z16.length))) (ups := [(0, ⟨1, some (.own 5 1 (eU8.cells z16))⟩)]) (j := 6) rfl (by kernel_rfl) (by kernel_rfl) (ev_app eU8 (b := 0) (g := 0) (n := p45.length) (xs := p45) (ys := [z15]) ((congrArg (asL _) (by kernel_rfl : ρof _ (.tmp 22) = (.r (.msl 184 1 0 (([z15] : List UInt8).length))))).trans (as_whole eU8 (e := 5) (k := 1) (xs := [z15]) (by kernel_rfl) rfl rfl)) rfl (by kernel_rfl) rfl (by kernel_rfl) rfl hz16) ?_
  refine zlRun (n := 1) (j := 7) rfl (by kernel_rfl) ?_
  refine zlEnd (by kernel_rfl) ?_
  refine zkBlk ?_
  refine zkSeq ?_
  refine zrReg ?_
  refine zlRun (n := 2) (j := 2) rfl (by kernel_rfl) ?_
  refine zlEnd (by kernel_rfl) ?_
  refine zkNil ?_
  exact endQ hS hQ (finL_n (by show keepSt _ _ _ _ = _; kernel_rfl))
def f38_l0_j2_J (a1 : List UInt8) (a2 : List UInt8) (p36 : List UInt8) (p37 : Int) : St := ⟨(up (up (up (up (fun _ => .un) 8 (.d (.int .i64 p37))) 7 (.d (.int .i64 (a1.length : Int)))) 1 (.d (.str a1))) 0 (.r (.msl 0 0 0 p36.length))), (up (hB fun _ => 0) 0 ⟨0, some (.own 5 1 (eU8.cells p36))⟩)⟩
noncomputable def f38_l0_j2 (a1 : List UInt8) (a2 : List UInt8) (p36 : List UInt8) (p37 : Int) : Option (((List UInt8) × Int) ⊕ (((List UInt8)))) := ((idx a1 p37).bind fun z17 => (bif (decide ((z17.toNat : Int) ≤ 3)) then ((app? 1 p36 ([2] : List UInt8)).bind fun z18 => (f38_l0_j3 a1 a2 z18 p37 p37)) else (f38_l0_j3 a1 a2 p36 p37 p37)))
theorem f38_l0_j2_ok {base : Orc} {d : Nat} (hd : 1 ≤ d) (a1 : List UInt8) (a2 : List UInt8) {r : ((List UInt8) × Int) ⊕ (((List UInt8)))} {Q : PX → St → Prop} (hQ : ∀ e st', finL (f38_l0_H a1 a2) (f38_l0_X a1 a2) r e st' → Q e st') (p36 : List UInt8) (p37 : Int) (hS : f38_l0_j2 a1 a2 p36 p37 = some r) {st : St} (he : keepSt [0, 1, 7, 8] [(0, .id 0)] [] st = f38_l0_j2_J a1 a2 p36 p37) : ZR (lev codes base (d - 1)) Q c38_3 [] st := by
  refine zrKeep he ?_
  unfold f38_l0_j2 at hS
  refine zrSeq ?_
  refine zrBlk ?_
  refine zrSeq ?_
  refine zrReg ?_
  refine zlRun (n := 2) (j := 2) rfl (by kernel_rfl) ?_
  refine zlEnd (by kernel_rfl) ?_
  refine zkSeq ?_
  refine zrSeq ?_
  refine zrSeq ?_
  refine zrReg ?_
  refine zlRun (n := 2) (j := 2) rfl (by kernel_rfl) ?_
  refine bindE hS (fun z17 hz17 hS => ?_)
  refine zlOp (d := some 13) (op := (.ixStr (.tmp 11) (.tmp 12))) (g := none) (v := (.d (.int .u8 (z17.toNat : Int)))) (ups := []) (j := 3) rfl (by kernel_rfl) (by kernel_rfl) (ev_ixStr (kk := .i64) (s := a1) (j := p37) (by kernel_rfl) (by kernel_rfl) hz17) ?_
  refine zlBool (d := 14) (op := (.cmpI .leq (.tmp 13) (.const (.int .u8 3)))) (g := none) (j := 4) (decide ((z17.toNat : Int) ≤ 3)) rfl (by kernel_rfl) (by kernel_rfl) (by kernel_rfl) (fun hc => ?_) (fun hc => ?_)
  · replace hS := cond_t hc hS
    refine zlEnd (by kernel_rfl) ?_
    refine zkSeq ?_
    refine zrCondT (by kernel_rfl) ?_
    refine zrReg ?_
    refine zlRun (n := 2) (j := 2) rfl (by kernel_rfl) ?_
    refine bindE hS (fun z18 hz18 hS => ?_)
    refine zlOp (d := some 17) (op := (.app 5 1 1 (.tmp 15) (.tmp 16))) (g := none) (v := (.r (.msl 0 1 0 z18.length))) (ups := [(0, ⟨1, some (.own 5 1 (eU8.cells z18))⟩)]) (j := 3) rfl (by kernel_rfl) (by kernel_rfl) (ev_app eU8 (b := 0) (g := 0) (n := p36.length) (xs := p36) (ys := [2]) ((congrArg (asL _) (by kernel_rfl : ρof _ (.tmp 16) = (.r (.msl 136 1 0 (([2] : List UInt8).length))))).trans (as_whole eU8 (e := 5) (k := 1) (xs := [2]) (by kernel_rfl) rfl rfl)) rfl (by kernel_rfl) rfl (by kernel_rfl) rfl hz18) ?_
    refine zlRun (n := 1) (j := 4) rfl (by kernel_rfl) ?_
    refine zlEnd (by kernel_rfl) ?_
    refine zkSeq ?_
    exact f38_l0_j3_ok hd a1 a2 hQ z18 p37 p37 hS (by kernel_rfl)
  · replace hS := cond_f hc hS
    refine zlEnd (by kernel_rfl) ?_
    refine zkSeq ?_
    refine zrCondF (by kernel_rfl) ?_
    refine zrSkip ?_
    refine zkSeq ?_
    exact f38_l0_j3_ok hd a1 a2 hQ p36 p37 p37 hS (by kernel_rfl)
def f38_l0_j1_J (a1 : List UInt8) (a2 : List UInt8) (p33 : List UInt8) (p34 : Int) (p35 : Bool) : St := ⟨(up (up (up (up (up (fun _ => .un) 9 (.d (.bool p35))) 8 (.d (.int .i64 p34))) 7 (.d (.int .i64 (a1.length : Int)))) 1 (.d (.str a1))) 0 (.r (.msl 0 0 0 p33.length))), (up (hB fun _ => 0) 0 ⟨0, some (.own 5 1 (eU8.cells p33))⟩)⟩
noncomputable def f38_l0_j1 (a1 : List UInt8) (a2 : List UInt8) (p33 : List UInt8) (p34 : Int) (p35 : Bool) : Option (((List UInt8) × Int) ⊕ (((List UInt8)))) := (bif p35 then (f38_l0_j2 a1 a2 p33 p34) else (some (.inr p33)))
theorem f38_l0_j1_ok {base : Orc} {d : Nat} (hd : 1 ≤ d) (a1 : List UInt8) (a2 : List UInt8) {r : ((List UInt8) × Int) ⊕ (((List UInt8)))} {Q : PX → St → Prop} (hQ : ∀ e st', finL (f38_l0_H a1 a2) (f38_l0_X a1 a2) r e st' → Q e st') (p33 : List UInt8) (p34 : Int) (p35 : Bool) (hS : f38_l0_j1 a1 a2 p33 p34 p35 = some r) {st : St} (he : keepSt [0, 1, 7, 8, 9] [(0, .id 0)] [] st = f38_l0_j1_J a1 a2 p33 p34 p35) : ZR (lev codes base (d - 1)) Q c38_4 [] st := by
  refine zrKeep he ?_
  unfold f38_l0_j1 at hS
  refine zrSeq ?_
  refine zrSplit 9 p35 (by kernel_rfl) (fun hc => ?_) (fun hc => ?_)
  · replace hS := cond_t hc hS
    refine zrCondT (by kernel_rfl) ?_
    refine zrSkip ?_
    refine zkSeq ?_
    exact f38_l0_j2_ok hd a1 a2 hQ p33 p34 hS (by kernel_rfl)
  · replace hS := cond_f hc hS
    refine zrCondF (by kernel_rfl) ?_
    refine zrKeep (J := f38_l0_e0_J a1 a2 p33) (by kernel_rfl) ?_
    refine zrExit ?_
    refine zkSeqX ?_
    refine zkNil ?_
    exact endQ hS hQ (finL_x (by intro h; cases h) (by show _ = _ ∧ _ = _; exact ⟨rfl, rfl⟩))
noncomputable def f38_l0 (a1 : List UInt8) (a2 : List UInt8) (x : (List UInt8) × Int) : Option (((List UInt8) × Int) ⊕ (((List UInt8)))) := (bif (decide (x.2 < (a1.length : Int))) then (f38_l0_j1 a1 a2 x.1 x.2 true) else (f38_l0_j1 a1 a2 x.1 x.2 false))
theorem f38_l0_ok {base : Orc} {d : Nat} (hd : 1 ≤ d) (a1 : List UInt8) (a2 : List UInt8) {r : ((List UInt8) × Int) ⊕ (((List UInt8)))} {Q : PX → St → Prop} (hQ : ∀ e st', finL (f38_l0_H a1 a2) (f38_l0_X a1 a2) r e st' → Q e st') {x : (List UInt8) × Int} (hS : f38_l0 a1 a2 x = some r) {st : St} (he : f38_l0_H a1 a2 x st) : ZR (lev codes base (d - 1)) Q c38_5 [] st := by
  refine zrKeep he ?_
  unfold f38_l0 at hS
  refine zrSeq ?_
  refine zrReg ?_
  refine zlBool (d := 9) (op := (.cmpI .lss (.tmp 8) (.tmp 7))) (g := none) (j := 1) (decide (x.2 < (a1.length : Int))) rfl (by kernel_rfl) (by kernel_rfl) (by kernel_rfl) (fun hc => ?_) (fun hc => ?_)
  · replace hS := cond_t hc hS
    refine zlEnd (by kernel_rfl) ?_
    refine zkSeq ?_
    exact f38_l0_j1_ok hd a1 a2 hQ x.1 x.2 true hS (by kernel_rfl)
  · replace hS := cond_f hc hS
    refine zlEnd (by kernel_rfl) ?_
    refine zkSeq ?_
    exact f38_l0_j1_ok hd a1 a2 hQ x.1 x.2 false hS (by kernel_rfl)
noncomputable def f38 (a1 : List UInt8) (a2 : List UInt8) : Option ((List UInt8)) := ((loopO (f38_l0 a1 a2) (a2, 0)).bind fun z19 => (some z19))
theorem f38_ok (base : Orc) (d : Nat) (hd : 1 ≤ d) (a1 : List UInt8) (a2 : List UInt8) (r : (List UInt8)) (hS : f38 a1 a2 = some r) : lev codes base d 38 [(.r (.msl 0 0 0 a2.length)), (.d (.str a1))] [(.own 5 1 (eU8.cells a2))] = some ((.r (.msl 0 0 0 r.length)), [(.own 5 1 (eU8.cells r))]) := by
  refine lev_go codes38 rfl rfl (Nat.le_trans (Nat.le_of_ble_eq_true rfl) hd) fun Q hQ => ?_
  unfold f38 at hS
  show ZR _ Q c38_b [] _
  replace hQ : ∀ e st', f38_Q r e st' → Q e st' := hQ
  refine zrSeq ?_
  refine zrReg ?_
  refine zlRun (n := 1) (j := 1) rfl (by kernel_rfl) ?_
  refine zlEnd (by kernel_rfl) ?_
  refine zkSeq ?_
  refine zrSeq ?_
  refine zrSeq ?_
  refine zrReg ?_
  refine zlRun (n := 3) (j := 3) rfl (by kernel_rfl) ?_
  refine zlEnd (by kernel_rfl) ?_
  refine zkSeq ?_
  refine zrBlk ?_
  refine bindE hS (fun z19 hz19 hS => ?_)
  refine zrLoop (f38_l0_H a1 a2) (f38_l0_X a1 a2) (fun x st r Q h0 hS hQ => f38_l0_ok hd a1 a2 hQ hS h0) (x := (a2, 0)) (z := z19) (by show keepSt _ _ _ _ = _; kernel_rfl) hz19 ?_
  intro e st' _ hX
  obtain ⟨rfl, rfl⟩ : _ ∧ _ := hX
  refine zkBlkX ?_
  refine zkSeq ?_
  refine zrSeq ?_
  refine zrReg ?_
  refine zlRun (n := 2) (j := 2) rfl (by kernel_rfl) ?_
  refine zlEnd (by kernel_rfl) ?_
  refine zkSeq ?_
  refine zrRet ?_
  refine zkNil ?_
  exact endQ hS hQ (fRet ((congrArg (fun s => outR s 1 c38.res) (by kernel_rfl : finSt c38.fin _ = f38_fin z19)).trans (f38_out z19)))
/- farwriter/environ.Write -/
def f14_fin (p99 : List UInt8) (p100 : Int) : St := ⟨(up (up (fun _ => .un) 3 (.d (.int .i64 p100))) 2 (.d (.str p99))), (hB fun _ => 0)⟩
theorem f14_out (p99 : List UInt8) (p100 : Int) : outR (f14_fin p99 p100) 0 c14.res = some ((.tup [(.d (.str p99)), (.d (.int .i64 p100))]), []) := by
  kernel_rfl
def f14_Q (r : (List UInt8) × Int) (e : PX) (st : St) : Prop := DoneF c14 0 ((.tup [(.d (.str r.1)), (.d (.int .i64 r.2))]), []) e st
def f14_l1_J (a1 : List GVar) (x : (List UInt8) × Int) : St := ⟨(up (up (up (up (fun _ => .un) 17 (.d (.int .i64 x.2))) 16 (.d (.int .i64 (a1.length : Int)))) 15 (.d (.sl a1.length (e_GVar.cells a1)))) 4 (.r (.msl 40 0 0 x.1.length))), (up (hB fun _ => 0) 40 ⟨0, some (.own 5 1 (eU8.cells x.1))⟩)⟩
def f14_l1_H (a1 : List GVar) (x : (List UInt8) × Int) (st : St) : Prop := keepSt [4, 15, 16, 17] [(40, .id 40)] [] st = f14_l1_J a1 x
def f14_l1_e0_J (a1 : List GVar) (p98 : List UInt8) : St := ⟨(up (fun _ => .un) 4 (.r (.msl 40 0 0 p98.length))), (up (hB fun _ => 0) 40 ⟨0, some (.own 5 1 (eU8.cells p98))⟩)⟩
def f14_l1_X (a1 : List GVar) (z : ((List UInt8)) ⊕ ((List UInt8) × Int)) (e : PX) (st : St) : Prop := (match z with | .inl z => e = .exit 0 ∧ st = f14_l1_e0_J a1 z | .inr z => e = .ret ∧ finSt c14.fin st = f14_fin z.1 z.2)
def f14_l1_j5_J (a1 : List GVar) (p136 : List UInt8) (p137 : GVar) (p138 : UInt8) (p139 : Int) (p140 : List UInt8) (p141 : Bool) : St := ⟨(up (up (up (up (up (up (up (up (up (fun _ => .un) 27 (.d (.bool p141))) 26 (.d (.str p140))) 25 (.r (.ptr 56 0 1))) 17 (.d (.int .i64 p139))) 16 (.d (.int .i64 (a1.length : Int)))) 15 (.d (.sl a1.length (e_GVar.cells a1)))) 7 (.d (.int .u8 (p138.toNat : Int)))) 6 (.r (.ptr 56 0 0))) 4 (.r (.msl 40 0 0 p136.length))), (up (up (hB fun _ => 0) 56 ⟨0, some (.box ((.d (.str p137.Name)) :: ((.d (.str p137.Value)) :: ((.d (.bool p137.User)) :: ((.d (.bool p137.Set)) :: [])))))⟩) 40 ⟨0, some (.own 5 1 (eU8.cells p136))⟩)⟩
noncomputable def f14_l1_j5 (a1 : List GVar) (p136 : List UInt8) (p137 : GVar) (p138 : UInt8) (p139 : Int) (p140 : List UInt8) (p141 : Bool) : Option (((List UInt8) × Int) ⊕ (((List UInt8)) ⊕ ((List UInt8) × Int))) := ((app? 1 p136 ([p138] : List UInt8)).bind fun z31 => ((f38 p137.Name z31).bind fun z32 => (bif p137.Set then ((app? 1 z32 ([1] : List UInt8)).bind fun z33 => ((f38 p137.Value z33).bind fun z34 => (some (.inl (z34, (IntKind.i64.wrap (p139 + 1))))))) else (some (.inl (z32, (IntKind.i64.wrap (p139 + 1))))))))
theorem f14_l1_j5_ok {base : Orc} {d : Nat} (hd : 4 ≤ d) (a1 : List GVar) {r : ((List UInt8) × Int) ⊕ (((List UInt8)) ⊕ ((List UInt8) × Int))} {Q : PX → St → Prop} (hQ : ∀ e st', finL (f14_l1_H a1) (f14_l1_X a1) r e st' → Q e st') (p136 : List UInt8) (p137 : GVar) (p138 : UInt8) (p139 : Int) (p140 : List UInt8) (p141 : Bool) (hS : f14_l1_j5 a1 p136 p137 p138 p139 p140 p141 = some r) {st : St} (he : keepSt [4, 6, 7, 15, 16, 17, 25, 26, 27] [(40, .id 40), (56, .id 56)] [] st = f14_l1_j5_J a1 p136 p137 p138 p139 p140 p141) : ZR (lev codes base (d - 1)) Q c14_1 [.blk 1, .seq c14_2] st := by
  refine zrKeep he ?_
  unfold f14_l1_j5 at hS
  refine zrSeq ?_
  refine zrRegD ?_
  refine zdRun (n := 3) (j := 3) (ts := [[], [], [(272, true)]]) (acc' := [[], [], [(272, true)]]) rfl (by kernel_rfl) (by kernel_rfl) (by kernel_rfl) ?_
  refine bindE hS (fun z31 hz31 hS => ?_)
  refine zdOp (d := some 34) (op := (.app 5 1 1 (.tmp 31) (.tmp 33))) (g := none) (v := (.r (.msl 40 1 0 z31.length))) (ups := [(40, ⟨1, some (.own 5 1 (eU8.cells z31))⟩)]) (j := 4) (t1 := [(280, true), (40, true), (272, false)]) (acc' := [[], [], [(272, true)], [(280, true), (40, true), (272, false)]]) (by kernel_rfl) (by kernel_rfl) rfl (by kernel_rfl) (by kernel_rfl) (ev_app eU8 (b := 40) (g := 0) (n := p136.length) (xs := p136) (ys := [p138]) ((congrArg (asL _) (by kernel_rfl : ρof _ (.tmp 33) = (.r (.msl 272 1 0 (([p138] : List UInt8).length))))).trans (as_whole eU8 (e := 5) (k := 1) (xs := [p138]) (by kernel_rfl) rfl rfl)) rfl (by kernel_rfl) rfl (by kernel_rfl) rfl hz31) ?_
  refine zdRun (n := 2) (j := 6) (ts := [[], [(56, false)]]) (acc' := [[], [], [(272, true)], [(280, true), (40, true), (272, false)], [], [(56, false)]]) rfl (by kernel_rfl) (by kernel_rfl) (by kernel_rfl) ?_
  refine bindE hS (fun z32 hz32 hS => ?_)
  refine zdOp (d := some 37) (op := (.callr 38 [(.tmp 34), (.tmp 36)])) (g := none) (v := (.r (.msl 40 2 0 z32.length))) (ups := [(40, ⟨2, some (.own 5 1 (eU8.cells z32))⟩)]) (j := 7) (t1 := [(40, true), (40, false), (304, true), (305, true), (306, true), (307, true), (308, true), (309, true), (310, true), (311, true)]) (acc' := [[], [], [(272, true)], [(280, true), (40, true), (272, false)], [], [(56, false)], [(40, true), (40, false), (304, true), (305, true), (306, true), (307, true), (308, true), (309, true), (310, true), (311, true)]]) (by kernel_rfl) (by kernel_rfl) rfl (by kernel_rfl) (by kernel_rfl) (ev_callr (args := [(.r (.msl 40 1 0 z31.length)), (.d (.str p137.Name))]) (ids := [40]) (bs := [(.own 5 1 (eU8.cells z31))]) (l := [(.r (.msl 0 0 0 z31.length)), (.d (.str p137.Name))]) (bt := [(.own 5 1 (eU8.cells z31))]) (r := (.r (.msl 0 0 0 z32.length))) (bs' := [(.own 5 1 (eU8.cells z32))]) (by kernel_rfl) (by kernel_rfl) (by kernel_rfl) (by kernel_rfl) (by kernel_rfl) (f38_ok base (d - 1) (dpt hd rfl) p137.Name z31 z32 hz32) (by kernel_rfl) (by kernel_rfl)) ?_
  refine zdRun (n := 1) (j := 8) (ts := [[]]) (acc' := [[], [], [(272, true)], [(280, true), (40, true), (272, false)], [], [(56, false)], [(40, true), (40, false), (304, true), (305, true), (306, true), (307, true), (308, true), (309, true), (310, true), (311, true)], []]) rfl (by kernel_rfl) (by kernel_rfl) (by kernel_rfl) ?_
  refine zdEnd (by kernel_rfl) (by kernel_rfl) ?_
  refine zkSeq ?_
  refine zrSeq ?_
  refine zrReg ?_
  refine zlRun (n := 2) (j := 2) rfl (by kernel_rfl) ?_
  refine zlEnd (by kernel_rfl) ?_
  refine zkSeq ?_
  refine zrSplit 39 p137.Set (by kernel_rfl) (fun hc => ?_) (fun hc => ?_)
  · replace hS := cond_t hc hS
    refine zrCondT (by kernel_rfl) ?_
    refine zrRegD ?_
    refine zdRun (n := 2) (j := 2) (ts := [[], [(336, true)]]) (acc' := [[], [(336, true)]]) rfl (by kernel_rfl) (by kernel_rfl) (by kernel_rfl) ?_
    refine bindE hS (fun z33 hz33 hS => ?_)
    refine zdOp (d := some 42) (op := (.app 5 1 1 (.tmp 40) (.tmp 41))) (g := none) (v := (.r (.msl 40 3 0 z33.length))) (ups := [(40, ⟨3, some (.own 5 1 (eU8.cells z33))⟩)]) (j := 3) (t1 := [(344, true), (40, true), (336, false)]) (acc' := [[], [(336, true)], [(344, true), (40, true), (336, false)]]) (by kernel_rfl) (by kernel_rfl) rfl (by kernel_rfl) (by kernel_rfl) (ev_app eU8 (b := 40) (g := 2) (n := z32.length) (xs := z32) (ys := [1]) ((congrArg (asL _) (by kernel_rfl : ρof _ (.tmp 41) = (.r (.msl 336 1 0 (([1] : List UInt8).length))))).trans (as_whole eU8 (e := 5) (k := 1) (xs := [1]) (by kernel_rfl) rfl rfl)) rfl (by kernel_rfl) rfl (by kernel_rfl) rfl hz33) ?_
    refine zdRun (n := 2) (j := 5) (ts := [[], [(56, false)]]) (acc' := [[], [(336, true)], [(344, true), (40, true), (336, false)], [], [(56, false)]]) rfl (by kernel_rfl) (by kernel_rfl) (by kernel_rfl) ?_
    refine bindE hS (fun z34 hz34 hS => ?_)
    refine zdOp (d := some 45) (op := (.callr 38 [(.tmp 42), (.tmp 44)])) (g := none) (v := (.r (.msl 40 4 0 z34.length))) (ups := [(40, ⟨4, some (.own 5 1 (eU8.cells z34))⟩)]) (j := 6) (t1 := [(40, true), (40, false), (368, true), (369, true), (370, true), (371, true), (372, true), (373, true), (374, true), (375, true)]) (acc' := [[], [(336, true)], [(344, true), (40, true), (336, false)], [], [(56, false)], [(40, true), (40, false), (368, true), (369, true), (370, true), (371, true), (372, true), (373, true), (374, true), (375, true)]]) (by kernel_rfl) (by kernel_rfl) rfl (by kernel_rfl) (by kernel_rfl) (ev_callr (args := [(.r (.msl 40 3 0 z33.length)), (.d (.str p137.Value))]) (ids := [40]) (bs := [(.own 5 1 (eU8.cells z33))]) (l := [(.r (.msl 0 0 0 z33.length)), (.d (.str p137.Value))]) (bt := [(.own 5 1 (eU8.cells z33))]) (r := (.r (.msl 0 0 0 z34.length))) (bs' := [(.own 5 1 (eU8.cells z34))]) (by kernel_rfl) (by kernel_rfl) (by kernel_rfl) (by kernel_rfl) (by kernel_rfl) (f38_ok base (d - 1) (dpt hd rfl) p137.Value z33 z34 hz34) (by kernel_rfl) (by kernel_rfl)) ?_
    refine zdRun (n := 1) (j := 7) (ts := [[]]) (acc' := [[], [(336, true)], [(344, true), (40, true), (336, false)], [], [(56, false)], [(40, true), (40, false), (368, true), (369, true), (370, true), (371, true), (372, true), (373, true), (374, true), (375, true)], []]) rfl (by kernel_rfl) (by kernel_rfl) (by kernel_rfl) ?_
    refine zdEnd (by kernel_rfl) (by kernel_rfl) ?_
    refine zkBlk ?_
    refine zkSeq ?_
    refine zrReg ?_
    refine zlRun (n := 2) (j := 2) rfl (by kernel_rfl) ?_
    refine zlEnd (by kernel_rfl) ?_
    refine zkNil ?_
    exact endQ hS hQ (finL_n (by show keepSt _ _ _ _ = _; kernel_rfl))
  · replace hS := cond_f hc hS
    refine zrCondF (by kernel_rfl) ?_
    refine zrSkip ?_
    refine zkBlk ?_
    refine zkSeq ?_
    refine zrReg ?_
    refine zlRun (n := 2) (j := 2) rfl (by kernel_rfl) ?_
    refine zlEnd (by kernel_rfl) ?_
    refine zkNil ?_
    exact endQ hS hQ (finL_n (by show keepSt _ _ _ _ = _; kernel_rfl))
def f14_l1_j4_J (a1 : List GVar) (p122 : List UInt8) (p123 : GVar) (p124 : Int) (p125 : List UInt8) (p126 : Bool) : St := ⟨(up (up (up (up (up (up (up (up (fun _ => .un) 27 (.d (.bool p126))) 26 (.d (.str p125))) 25 (.r (.ptr 56 0 1))) 17 (.d (.int .i64 p124))) 16 (.d (.int .i64 (a1.length : Int)))) 15 (.d (.sl a1.length (e_GVar.cells a1)))) 6 (.r (.ptr 56 0 0))) 4 (.r (.msl 40 0 0 p122.length))), (up (up (hB fun _ => 0) 56 ⟨0, some (.box ((.d (.str p123.Name)) :: ((.d (.str p123.Value)) :: ((.d (.bool p123.User)) :: ((.d (.bool p123.Set)) :: [])))))⟩) 40 ⟨0, some (.own 5 1 (eU8.cells p122))⟩)⟩
noncomputable def f14_l1_j4 (a1 : List GVar) (p122 : List UInt8) (p123 : GVar) (p124 : Int) (p125 : List UInt8) (p126 : Bool) : Option (((List UInt8) × Int) ⊕ (((List UInt8)) ⊕ ((List UInt8) × Int))) := (bif p123.User then (f14_l1_j5 a1 p122 p123 (3 : UInt8) p124 p125 p126) else (f14_l1_j5 a1 p122 p123 (0 : UInt8) p124 p125 p126))
theorem f14_l1_j4_ok {base : Orc} {d : Nat} (hd : 4 ≤ d) (a1 : List GVar) {r : ((List UInt8) × Int) ⊕ (((List UInt8)) ⊕ ((List UInt8) × Int))} {Q : PX → St → Prop} (hQ : ∀ e st', finL (f14_l1_H a1) (f14_l1_X a1) r e st' → Q e st') (p122 : List UInt8) (p123 : GVar) (p124 : Int) (p125 : List UInt8) (p126 : Bool) (hS : f14_l1_j4 a1 p122 p123 p124 p125 p126 = some r) {st : St} (he : keepSt [4, 6, 15, 16, 17, 25, 26, 27] [(40, .id 40), (56, .id 56)] [] st = f14_l1_j4_J a1 p122 p123 p124 p125 p126) : ZR (lev codes base (d - 1)) Q c14_3 [.blk 1, .seq c14_2] st := by
  refine zrKeep he ?_
  unfold f14_l1_j4 at hS
  refine zrSeq ?_
  refine zrReg ?_
  refine zlRun (n := 1) (j := 1) rfl (by kernel_rfl) ?_
  refine zlEnd (by kernel_rfl) ?_
  refine zkSeq ?_
  refine zrSeq ?_
  refine zrSeq ?_
  refine zrReg ?_
  refine zlRun (n := 2) (j := 2) rfl (by kernel_rfl) ?_
  refine zlEnd (by kernel_rfl) ?_
  refine zkSeq ?_
  refine zrSplit 30 p123.User (by kernel_rfl) (fun hc => ?_) (fun hc => ?_)
  · replace hS := cond_t hc hS
    refine zrCondT (by kernel_rfl) ?_
    refine zrReg ?_
    refine zlRun (n := 1) (j := 1) rfl (by kernel_rfl) ?_
    refine zlEnd (by kernel_rfl) ?_
    refine zkSeq ?_
    exact f14_l1_j5_ok hd a1 hQ p122 p123 (3 : UInt8) p124 p125 p126 hS (by kernel_rfl)
  · replace hS := cond_f hc hS
    refine zrCondF (by kernel_rfl) ?_
    refine zrSkip ?_
    refine zkSeq ?_
    exact f14_l1_j5_ok hd a1 hQ p122 p123 (0 : UInt8) p124 p125 p126 hS (by kernel_rfl)
def f14_l1_j7_J (a1 : List GVar) (p146 : List UInt8) (p147 : GVar) (p148 : UInt8) (p149 : Int) : St := ⟨(up (up (up (up (up (up (up (up (up (fun _ => .un) 27 (.tup [])) 26 (.tup [])) 25 (.tup [])) 17 (.d (.int .i64 p149))) 16 (.d (.int .i64 (a1.length : Int)))) 15 (.d (.sl a1.length (e_GVar.cells a1)))) 7 (.d (.int .u8 (p148.toNat : Int)))) 6 (.r (.ptr 56 0 0))) 4 (.r (.msl 40 0 0 p146.length))), (up (up (hB fun _ => 0) 56 ⟨0, some (.box ((.d (.str p147.Name)) :: ((.d (.str p147.Value)) :: ((.d (.bool p147.User)) :: ((.d (.bool p147.Set)) :: [])))))⟩) 40 ⟨0, some (.own 5 1 (eU8.cells p146))⟩)⟩
noncomputable def f14_l1_j7 (a1 : List GVar) (p146 : List UInt8) (p147 : GVar) (p148 : UInt8) (p149 : Int) : Option (((List UInt8) × Int) ⊕ (((List UInt8)) ⊕ ((List UInt8) × Int))) := ((app? 1 p146 ([p148] : List UInt8)).bind fun z35 => ((f38 p147.Name z35).bind fun z36 => (bif p147.Set then ((app? 1 z36 ([1] : List UInt8)).bind fun z37 => ((f38 p147.Value z37).bind fun z38 => (some (.inl (z38, (IntKind.i64.wrap (p149 + 1))))))) else (some (.inl (z36, (IntKind.i64.wrap (p149 + 1))))))))
theorem f14_l1_j7_ok {base : Orc} {d : Nat} (hd : 4 ≤ d) (a1 : List GVar) {r : ((List UInt8) × Int) ⊕ (((List UInt8)) ⊕ ((List UInt8) × Int))} {Q : PX → St → Prop} (hQ : ∀ e st', finL (f14_l1_H a1) (f14_l1_X a1) r e st' → Q e st') (p146 : List UInt8) (p147 : GVar) (p148 : UInt8) (p149 : Int) (hS : f14_l1_j7 a1 p146 p147 p148 p149 = some r) {st : St} (he : keepSt [4, 6, 7, 15, 16, 17, 25, 26, 27] [(40, .id 40), (56, .id 56)] [] st = f14_l1_j7_J a1 p146 p147 p148 p149) : ZR (lev codes base (d - 1)) Q c14_1 [.blk 1, .seq c14_2] st := by
  refine zrKeep he ?_
  unfold f14_l1_j7 at hS
  refine zrSeq ?_
  refine zrRegD ?_
  refine zdRun (n := 3) (j := 3) (ts := [[], [], [(272, true)]]) (acc' := [[], [], [(272, true)]]) rfl (by kernel_rfl) (by kernel_rfl) (by kernel_rfl) ?_
  refine bindE hS (fun z35 hz35 hS => ?_)
  refine zdOp (d := some 34) (op := (.app 5 1 1 (.tmp 31) (.tmp 33))) (g := none) (v := (.r (.msl 40 1 0 z35.length))) (ups := [(40, ⟨1, some (.own 5 1 (eU8.cells z35))⟩)]) (j := 4) (t1 := [(280, true), (40, true), (272, false)]) (acc' := [[], [], [(272, true)], [(280, true), (40, true), (272, false)]]) (by kernel_rfl) (by kernel_rfl) rfl (by kernel_rfl) (by kernel_rfl) (ev_app eU8 (b := 40) (g := 0) (n := p146.length) (xs := p146) (ys := [p148]) ((congrArg (asL _) (by kernel_rfl : ρof _ (.tmp 33) = (.r (.msl 272 1 0 (([p148] : List UInt8).length))))).trans (as_whole eU8 (e := 5) (k := 1) (xs := [p148]) (by kernel_rfl) rfl rfl)) rfl (by kernel_rfl) rfl (by kernel_rfl) rfl hz35) ?_
  refine zdRun (n := 2) (j := 6) (ts := [[], [(56, false)]]) (acc' := [[], [], [(272, true)], [(280, true), (40, true), (272, false)], [], [(56, false)]]) rfl (by kernel_rfl) (by kernel_rfl) (by kernel_rfl) ?_
  refine bindE hS (fun z36 hz36 hS => ?_)
  refine zdOp (d := some 37) (op := (.callr 38 [(.tmp 34), (.tmp 36)])) (g := none) (v := (.r (.msl 40 2 0 z36.length))) (ups := [(40, ⟨2, some (.own 5 1 (eU8.cells z36))⟩)]) (j := 7) (t1 := [(40, true), (40, false), (304, true), (305, true), (306, true), (307, true), (308, true), (309, true), (310, true), (311, true)]) (acc' := [[], [], [(272, true)], [(280, true), (40, true), (272, false)], [], [(56, false)], [(40, true), (40, false), (304, true), (305, true), (306, true), (307, true), (308, true), (309, true), (310, true), (311, true)]]) (by kernel_rfl) (by kernel_rfl) rfl (by kernel_rfl) (by kernel_rfl) (ev_callr (args := [(.r (.msl 40 1 0 z35.length)), (.d (.str p147.Name))]) (ids := [40]) (bs := [(.own 5 1 (eU8.cells z35))]) (l := [(.r (.msl 0 0 0 z35.length)), (.d (.str p147.Name))]) (bt := [(.own 5 1 (eU8.cells z35))]) (r := (.r (.msl 0 0 0 z36.length))) (bs' := [(.own 5 1 (eU8.cells z36))]) (by kernel_rfl) (by kernel_rfl) (by kernel_rfl) (by kernel_rfl) (by kernel_rfl) (f38_ok base (d - 1) (dpt hd rfl) p147.Name z35 z36 hz36) (by kernel_rfl) (by kernel_rfl)) ?_
  refine zdRun (n := 1) (j := 8) (ts := [[]]) (acc' := [[], [], [(272, true)], [(280, true), (40, true), (272, false)], [], [(56, false)], [(40, true), (40, false), (304, true), (305, true), (306, true), (307, true), (308, true), (309, true), (310, true), (311, true)], []]) rfl (by kernel_rfl) (by kernel_rfl) (by kernel_rfl) ?_
  refine zdEnd (by kernel_rfl) (by kernel_rfl) ?_
  refine zkSeq ?_
  refine zrSeq ?_
  refine zrReg ?_
  refine zlRun (n := 2) (j := 2) rfl (by kernel_rfl) ?_
  refine zlEnd (by kernel_rfl) ?_
  refine zkSeq ?_
  refine zrSplit 39 p147.Set (by kernel_rfl) (fun hc => ?_) (fun hc => ?_)
  · replace hS := cond_t hc hS
    refine zrCondT (by kernel_rfl) ?_
    refine zrRegD ?_
    refine zdRun (n := 2) (j := 2) (ts := [[], [(336, true)]]) (acc' := [[], [(336, true)]]) rfl (by kernel_rfl) (by kernel_rfl) (by kernel_rfl) ?_
    refine bindE hS (fun z37 hz37 hS => ?_)
    refine zdOp (d := some 42) (op := (.app 5 1 1 (.tmp 40) (.tmp 41))) (g := none) (v := (.r (.msl 40 3 0 z37.length))) (ups := [(40, ⟨3, some (.own 5 1 (eU8.cells z37))⟩)]) (j := 3) (t1 := [(344, true), (40, true), (336, false)]) (acc' := [[], [(336, true)], [(344, true), (40, true), (336, false)]]) (by kernel_rfl) (by kernel_rfl) rfl (by kernel_rfl) (by kernel_rfl) (ev_app eU8 (b := 40) (g := 2) (n := z36.length) (xs := z36) (ys := [1]) ((congrArg (asL _) (by kernel_rfl : ρof _ (.tmp 41) = (.r (.msl 336 1 0 (([1] : List UInt8).length))))).trans (as_whole eU8 (e := 5) (k := 1) (xs := [1]) (by kernel_rfl) rfl rfl)) rfl (by kernel_rfl) rfl (by kernel_rfl) rfl hz37) ?_
    refine zdRun (n := 2) (j := 5) (ts := [[], [(56, false)]]) (acc' := [[], [(336, true)], [(344, true), (40, true), (336, false)], [], [(56, false)]]) rfl (by kernel_rfl) (by kernel_rfl) (by kernel_rfl) ?_
    refine bindE hS (fun z38 hz38 hS => ?_)
    refine zdOp (d := some 45) (op := (.callr 38 [(.tmp 42), (.tmp 44)])) (g := none) (v := (.r (.msl 40 4 0 z38.length))) (ups := [(40, ⟨4, some (.own 5 1 (eU8.cells z38))⟩)]) (j := 6) (t1 := [(40, true), (40, false), (368, true), (369, true), (370, true), (371, true), (372, true), (373, true), (374, true), (375, true)]) (acc' := [[], [(336, true)], [(344, true), (40, true), (336, false)], [], [(56, false)], [(40, true), (40, false), (368, true), (369, true), (370, true), (371, true), (372, true), (373, true), (374, true), (375, true)]]) (by kernel_rfl) (by kernel_rfl) rfl (by kernel_rfl) (by kernel_rfl) (ev_callr (args := [(.r (.msl 40 3 0 z37.length)), (.d (.str p147.Value))]) (ids := [40]) (bs := [(.own 5 1 (eU8.cells z37))]) (l := [(.r (.msl 0 0 0 z37.length)), (.d (.str p147.Value))]) (bt := [(.own 5 1 (eU8.cells z37))]) (r := (.r (.msl 0 0 0 z38.length))) (bs' := [(.own 5 1 (eU8.cells z38))]) (by kernel_rfl) (by kernel_rfl) (by kernel_rfl) (by kernel_rfl) (by kernel_rfl) (f38_ok base (d - 1) (dpt hd rfl) p147.Value z37 z38 hz38) (by kernel_rfl) (by kernel_rfl)) ?_
    refine zdRun (n := 1) (j := 7) (ts := [[]]) (acc' := [[], [(336, true)], [(344, true), (40, true), (336, false)], [], [(56, false)], [(40, true), (40, false), (368, true), (369, true), (370, true), (371, true), (372, true), (373, true), (374, true), (375, true)], []]) rfl (by kernel_rfl) (by kernel_rfl) (by kernel_rfl) ?_
    refine zdEnd (by kernel_rfl) (by kernel_rfl) ?_
    refine zkBlk ?_
    refine zkSeq ?_
    refine zrReg ?_
    refine zlRun (n := 2) (j := 2) rfl (by kernel_rfl) ?_
    refine zlEnd (by kernel_rfl) ?_
    refine zkNil ?_
    exact endQ hS hQ (finL_n (by show keepSt _ _ _ _ = _; kernel_rfl))
  · replace hS := cond_f hc hS
    refine zrCondF (by kernel_rfl) ?_
    refine zrSkip ?_
    refine zkBlk ?_
    refine zkSeq ?_
    refine zrReg ?_
    refine zlRun (n := 2) (j := 2) rfl (by kernel_rfl) ?_
    refine zlEnd (by kernel_rfl) ?_
    refine zkNil ?_
    exact endQ hS hQ (finL_n (by show keepSt _ _ _ _ = _; kernel_rfl))
def f14_l1_j6_J (a1 : List GVar) (p127 : List UInt8) (p128 : GVar) (p129 : Int) : St := ⟨(up (up (up (up (up (up (up (up (fun _ => .un) 27 (.tup [])) 26 (.tup [])) 25 (.tup [])) 17 (.d (.int .i64 p129))) 16 (.d (.int .i64 (a1.length : Int)))) 15 (.d (.sl a1.length (e_GVar.cells a1)))) 6 (.r (.ptr 56 0 0))) 4 (.r (.msl 40 0 0 p127.length))), (up (up (hB fun _ => 0) 56 ⟨0, some (.box ((.d (.str p128.Name)) :: ((.d (.str p128.Value)) :: ((.d (.bool p128.User)) :: ((.d (.bool p128.Set)) :: [])))))⟩) 40 ⟨0, some (.own 5 1 (eU8.cells p127))⟩)⟩
noncomputable def f14_l1_j6 (a1 : List GVar) (p127 : List UInt8) (p128 : GVar) (p129 : Int) : Option (((List UInt8) × Int) ⊕ (((List UInt8)) ⊕ ((List UInt8) × Int))) := (bif p128.User then (f14_l1_j7 a1 p127 p128 (3 : UInt8) p129) else (f14_l1_j7 a1 p127 p128 (0 : UInt8) p129))
theorem f14_l1_j6_ok {base : Orc} {d : Nat} (hd : 4 ≤ d) (a1 : List GVar) {r : ((List UInt8) × Int) ⊕ (((List UInt8)) ⊕ ((List UInt8) × Int))} {Q : PX → St → Prop} (hQ : ∀ e st', finL (f14_l1_H a1) (f14_l1_X a1) r e st' → Q e st') (p127 : List UInt8) (p128 : GVar) (p129 : Int) (hS : f14_l1_j6 a1 p127 p128 p129 = some r) {st : St} (he : keepSt [4, 6, 15, 16, 17, 25, 26, 27] [(40, .id 40), (56, .id 56)] [] st = f14_l1_j6_J a1 p127 p128 p129) : ZR (lev codes base (d - 1)) Q c14_3 [.blk 1, .seq c14_2] st := by
  refine zrKeep he ?_
  unfold f14_l1_j6 at hS
  refine zrSeq ?_
  refine zrReg ?_
  refine zlRun (n := 1) (j := 1) rfl (by kernel_rfl) ?_
  refine zlEnd (by kernel_rfl) ?_
  refine zkSeq ?_
  refine zrSeq ?_
  refine zrSeq ?_
  refine zrReg ?_
  refine zlRun (n := 2) (j := 2) rfl (by kernel_rfl) ?_
  refine zlEnd (by kernel_rfl) ?_
  refine zkSeq ?_
  refine zrSplit 30 p128.User (by kernel_rfl) (fun hc => ?_) (fun hc => ?_)
  · replace hS := cond_t hc hS
    refine zrCondT (by kernel_rfl) ?_
    refine zrReg ?_
    refine zlRun (n := 1) (j := 1) rfl (by kernel_rfl) ?_
    refine zlEnd (by kernel_rfl) ?_
    refine zkSeq ?_
    exact f14_l1_j7_ok hd a1 hQ p127 p128 (3 : UInt8) p129 hS (by kernel_rfl)
  · replace hS := cond_f hc hS
    refine zrCondF (by kernel_rfl) ?_
    refine zrSkip ?_
    refine zkSeq ?_
    exact f14_l1_j7_ok hd a1 hQ p127 p128 (0 : UInt8) p129 hS (by kernel_rfl)
def f14_l1_j3_J (a1 : List GVar) (p108 : List UInt8) (p109 : Int) : St := ⟨(up (up (up (up (fun _ => .un) 17 (.d (.int .i64 p109))) 16 (.d (.int .i64 (a1.length : Int)))) 15 (.d (.sl a1.length (e_GVar.cells a1)))) 4 (.r (.msl 40 0 0 p108.length))), (up (hB fun _ => 0) 40 ⟨0, some (.own 5 1 (eU8.cells p108))⟩)⟩
noncomputable def f14_l1_j3 (a1 : List GVar) (p108 : List UInt8) (p109 : Int) : Option (((List UInt8) × Int) ⊕ (((List UInt8)) ⊕ ((List UInt8) × Int))) := ((idx a1 p109).bind fun z30 => (bif (!z30.Set) then (bif (!decide (z30.Value = ([] : List UInt8))) then (some (.inr (.inr ([], 4)))) else (f14_l1_j4 a1 p108 z30 p109 z30.Value false)) else (f14_l1_j6 a1 p108 z30 p109)))
theorem f14_l1_j3_ok {base : Orc} {d : Nat} (hd : 4 ≤ d) (a1 : List GVar) {r : ((List UInt8) × Int) ⊕ (((List UInt8)) ⊕ ((List UInt8) × Int))} {Q : PX → St → Prop} (hQ : ∀ e st', finL (f14_l1_H a1) (f14_l1_X a1) r e st' → Q e st') (p108 : List UInt8) (p109 : Int) (hS : f14_l1_j3 a1 p108 p109 = some r) {st : St} (he : keepSt [4, 15, 16, 17] [(40, .id 40)] [] st = f14_l1_j3_J a1 p108 p109) : ZR (lev codes base (d - 1)) Q c14_4 [] st := by
  refine zrKeep he ?_
  unfold f14_l1_j3 at hS
  refine zrSeq ?_
  refine zrBlk ?_
  refine zrSeq ?_
  refine zrReg ?_
  refine bindE hS (fun z30 hz30 hS => ?_)
  refine zlOp (d := some 19) (op := (.ixS 30 4 (.tmp 15) (.tmp 17))) (g := none) (v := (.rptr (e_GVar.enc z30 ++ (e_GVar.cells (a1.drop ((p109 : Int).toNat + 1)))))) (ups := []) (j := 1) rfl (by kernel_rfl) (by kernel_rfl) (ev_ixS e_GVar (kk := .i64) (xs := a1) (j := p109) (by kernel_rfl) (by kernel_rfl) hz30 rfl (by intro h; cases h)) ?_
  refine zlRun (n := 3) (j := 4) rfl (by kernel_rfl) ?_
  refine zlEnd (by kernel_rfl) ?_
  refine zkSeq ?_
  refine zrSeq ?_
  refine zrSeq ?_
  refine zrReg ?_
  refine zlRun (n := 4) (j := 4) rfl (by kernel_rfl) ?_
  refine zlSplit 24 (!z30.Set) (by kernel_rfl) (fun hc => ?_) (fun hc => ?_)
  · replace hS := cond_t hc hS
    refine zlRun (n := 2) (j := 6) rfl (by kernel_rfl) ?_
    refine zlBool (d := 27) (op := (.strO .neq (.tmp 26) (.const (.string ⟨#[]⟩)))) (g := (some (24, true))) (j := 7) (!decide (z30.Value = ([] : List UInt8))) rfl (by kernel_rfl) (by kernel_rfl) (by kernel_rfl) (fun hc => ?_) (fun hc => ?_)
    · replace hS := cond_t hc hS
      refine zlRun (n := 1) (j := 8) rfl (by kernel_rfl) ?_
      refine zlEnd (by kernel_rfl) ?_
      refine zkSeq ?_
      refine zrCondT (by kernel_rfl) ?_
      refine zrSeq ?_
      refine zrReg ?_
      refine zlRun (n := 2) (j := 2) rfl (by kernel_rfl) ?_
      refine zlEnd (by kernel_rfl) ?_
      refine zkSeq ?_
      refine zrRet ?_
      refine zkSeqR ?_
      refine zkBlkR ?_
      refine zkSeqR ?_
      refine zkNil ?_
      exact endQ hS hQ (finL_x (by intro h; cases h) (by show _ = _ ∧ _ = _; exact ⟨rfl, by kernel_rfl⟩))
    · replace hS := cond_f hc hS
      refine zlRun (n := 1) (j := 8) rfl (by kernel_rfl) ?_
      refine zlEnd (by kernel_rfl) ?_
      refine zkSeq ?_
      refine zrCondF (by kernel_rfl) ?_
      refine zrSkip ?_
      refine zkSeq ?_
      exact f14_l1_j4_ok hd a1 hQ p108 z30 p109 z30.Value false hS (by kernel_rfl)
  · replace hS := cond_f hc hS
    refine zlRun (n := 4) (j := 8) rfl (by kernel_rfl) ?_
    refine zlEnd (by kernel_rfl) ?_
    refine zkSeq ?_
    refine zrCondF (by kernel_rfl) ?_
    refine zrSkip ?_
    refine zkSeq ?_
    exact f14_l1_j6_ok hd a1 hQ p108 z30 p109 hS (by kernel_rfl)
def f14_l1_j2_J (a1 : List GVar) (p105 : List UInt8) (p106 : Int) (p107 : Bool) : St := ⟨(up (up (up (up (up (fun _ => .un) 18 (.d (.bool p107))) 17 (.d (.int .i64 p106))) 16 (.d (.int .i64 (a1.length : Int)))) 15 (.d (.sl a1.length (e_GVar.cells a1)))) 4 (.r (.msl 40 0 0 p105.length))), (up (hB fun _ => 0) 40 ⟨0, some (.own 5 1 (eU8.cells p105))⟩)⟩
noncomputable def f14_l1_j2 (a1 : List GVar) (p105 : List UInt8) (p106 : Int) (p107 : Bool) : Option (((List UInt8) × Int) ⊕ (((List UInt8)) ⊕ ((List UInt8) × Int))) := (bif p107 then (f14_l1_j3 a1 p105 p106) else (some (.inr (.inl p105))))
theorem f14_l1_j2_ok {base : Orc} {d : Nat} (hd : 4 ≤ d) (a1 : List GVar) {r : ((List UInt8) × Int) ⊕ (((List UInt8)) ⊕ ((List UInt8) × Int))} {Q : PX → St → Prop} (hQ : ∀ e st', finL (f14_l1_H a1) (f14_l1_X a1) r e st' → Q e st') (p105 : List UInt8) (p106 : Int) (p107 : Bool) (hS : f14_l1_j2 a1 p105 p106 p107 = some r) {st : St} (he : keepSt [4, 15, 16, 17, 18] [(40, .id 40)] [] st = f14_l1_j2_J a1 p105 p106 p107) : ZR (lev codes base (d - 1)) Q c14_5 [] st := by
  refine zrKeep he ?_
  unfold f14_l1_j2 at hS
  refine zrSeq ?_
  refine zrSplit 18 p107 (by kernel_rfl) (fun hc => ?_) (fun hc => ?_)
  · replace hS := cond_t hc hS
    refine zrCondT (by kernel_rfl) ?_
    refine zrSkip ?_
    refine zkSeq ?_
    exact f14_l1_j3_ok hd a1 hQ p105 p106 hS (by kernel_rfl)
  · replace hS := cond_f hc hS
    refine zrCondF (by kernel_rfl) ?_
    refine zrKeep (J := f14_l1_e0_J a1 p105) (by kernel_rfl) ?_
    refine zrExit ?_
    refine zkSeqX ?_
    refine zkNil ?_
    exact endQ hS hQ (finL_x (by intro h; cases h) (by show _ = _ ∧ _ = _; exact ⟨rfl, rfl⟩))
noncomputable def f14_l1 (a1 : List GVar) (x : (List UInt8) × Int) : Option (((List UInt8) × Int) ⊕ (((List UInt8)) ⊕ ((List UInt8) × Int))) := (bif (decide (x.2 < (a1.length : Int))) then (f14_l1_j2 a1 x.1 x.2 true) else (f14_l1_j2 a1 x.1 x.2 false))
theorem f14_l1_ok {base : Orc} {d : Nat} (hd : 4 ≤ d) (a1 : List GVar) {r : ((List UInt8) × Int) ⊕ (((List UInt8)) ⊕ ((List UInt8) × Int))} {Q : PX → St → Prop} (hQ : ∀ e st', finL (f14_l1_H a1) (f14_l1_X a1) r e st' → Q e st') {x : (List UInt8) × Int} (hS : f14_l1 a1 x = some r) {st : St} (he : f14_l1_H a1 x st) : ZR (lev codes base (d - 1)) Q c14_6 [] st := by
  refine zrKeep he ?_
  unfold f14_l1 at hS
  refine zrSeq ?_
  refine zrReg ?_
  refine zlBool (d := 18) (op := (.cmpI .lss (.tmp 17) (.tmp 16))) (g := none) (j := 1) (decide (x.2 < (a1.length : Int))) rfl (by kernel_rfl) (by kernel_rfl) (by kernel_rfl) (fun hc => ?_) (fun hc => ?_)
  · replace hS := cond_t hc hS
    refine zlEnd (by kernel_rfl) ?_
    refine zkSeq ?_
    exact f14_l1_j2_ok hd a1 hQ x.1 x.2 true hS (by kernel_rfl)
  · replace hS := cond_f hc hS
    refine zlEnd (by kernel_rfl) ?_
    refine zkSeq ?_
    exact f14_l1_j2_ok hd a1 hQ x.1 x.2 false hS (by kernel_rfl)
def f14_j0_J (a1 : List GVar) : St := ⟨(up (fun _ => .un) 0 (.d (.sl a1.length (e_GVar.cells a1)))), (hB fun _ => 0)⟩
noncomputable def f14_j0 (a1 : List GVar) : Option ((List UInt8) × Int) := ((loopO (f14_l1 a1) ([], 0)).bind fun z39 => (Sum.elim (fun z40 => (some (z40, 0))) (fun z41 => (some (z41.1, z41.2))) z39))
theorem f14_j0_ok {base : Orc} {d : Nat} (hd : 4 ≤ d) (a1 : List GVar) {r : (List UInt8) × Int} {Q : PX → St → Prop} (hQ : ∀ e st', f14_Q r e st' → Q e st')  (hS : f14_j0 a1 = some r) {st : St} (he : keepSt [0] [] [] st = f14_j0_J a1) : ZR (lev codes base (d - 1)) Q c14_7 [] st := by
  refine zrKeep he ?_
  unfold f14_j0 at hS
  refine zrSeq ?_
  refine zrReg ?_
  refine zlRun (n := 1) (j := 1) rfl (by kernel_rfl) ?_
  refine zlEnd (by kernel_rfl) ?_
  refine zkSeq ?_
  refine zrSeq ?_
  refine zrSeq ?_
  refine zrReg ?_
  refine zlRun (n := 3) (j := 3) rfl (by kernel_rfl) ?_
  refine zlEnd (by kernel_rfl) ?_
  refine zkSeq ?_
  refine zrBlk ?_
  refine bindE hS (fun z39 hz39 hS => ?_)
  refine zrLoop (f14_l1_H a1) (f14_l1_X a1) (fun x st r Q h0 hS hQ => f14_l1_ok hd a1 hQ hS h0) (x := ([], 0)) (z := z39) (by show keepSt _ _ _ _ = _; kernel_rfl) hz39 ?_
  rcases z39 with z40 | z41
  · replace hS := (show _ = _ from hS)
    simp only [Sum.elim_inl] at hS
    intro e st' _ hX
    obtain ⟨rfl, rfl⟩ : _ ∧ _ := hX
    refine zkBlkX ?_
    refine zkSeq ?_
    refine zrSeq ?_
    refine zrReg ?_
    refine zlRun (n := 1) (j := 1) rfl (by kernel_rfl) ?_
    refine zlOp (d := some 48) (op := (.cvBS (.tmp 47))) (g := none) (v := (.d (.str z40))) (ups := []) (j := 2) rfl (by kernel_rfl) (by kernel_rfl) (ev_cvBS (s := z40) ((congrArg (asL _) (by kernel_rfl : ρof _ (.tmp 47) = (.r (.msl 40 0 0 z40.length)))).trans (as_whole eU8 (e := 5) (k := 1) (xs := z40) (by kernel_rfl) rfl rfl)) rfl) ?_
    refine zlRun (n := 2) (j := 4) rfl (by kernel_rfl) ?_
    refine zlEnd (by kernel_rfl) ?_
    refine zkSeq ?_
    refine zrRet ?_
    refine zkNil ?_
    exact endQ hS hQ (fRet ((congrArg (fun s => outR s 0 c14.res) (by kernel_rfl : finSt c14.fin _ = f14_fin z40 0)).trans (f14_out z40 0)))
  · simp only [Sum.elim_inr] at hS
    intro e st' _ hX
    obtain ⟨rfl, hX⟩ : _ ∧ _ := hX
    refine zkBlkR ?_
    refine zkSeqR ?_
    refine zkNil ?_
    exact endQ hS hQ (fRet ((congrArg (fun s => outR s 0 c14.res) hX).trans (f14_out z41.1 z41.2)))
noncomputable def f14 (a1 : List GVar) : Option ((List UInt8) × Int) := (bif (decide (20 < (a1.length : Int))) then (some ([], 2)) else ((f36 a1).bind fun z42 => (bif z42 then (some ([], 2)) else (f14_j0 a1 ))))
theorem f14_ok (base : Orc) (d : Nat) (hd : 4 ≤ d) (a1 : List GVar) (r : (List UInt8) × Int) (hS : f14 a1 = some r) : lev codes base d 14 [(.d (.sl a1.length (e_GVar.cells a1)))] [] = some ((.tup [(.d (.str r.1)), (.d (.int .i64 r.2))]), []) := by
  refine lev_go codes14 rfl rfl (Nat.le_trans (Nat.le_of_ble_eq_true rfl) hd) fun Q hQ => ?_
  unfold f14 at hS
  show ZR _ Q c14_b [] _
  replace hQ : ∀ e st', f14_Q r e st' → Q e st' := hQ
  refine zrSeq ?_
  refine zrReg ?_
  refine zlRun (n := 2) (j := 2) rfl (by kernel_rfl) ?_
  refine zlEnd (by kernel_rfl) ?_
  refine zkSeq ?_
  refine zrSeq ?_
  refine zrSeq ?_
  refine zrReg ?_
  refine zlRun (n := 2) (j := 2) rfl (by kernel_rfl) ?_
  refine zlBool (d := 10) (op := (.cmpI .gtr (.tmp 9) (.const (.int .i64 20)))) (g := none) (j := 3) (decide (20 < (a1.length : Int))) rfl (by kernel_rfl) (by kernel_rfl) (by kernel_rfl) (fun hc => ?_) (fun hc => ?_)
  · replace hS := cond_t hc hS
    refine zlRun (n := 4) (j := 7) rfl (by kernel_rfl) ?_
    refine zlEnd (by kernel_rfl) ?_
    refine zkSeq ?_
    refine zrCondT (by kernel_rfl) ?_
    refine zrSeq ?_
    refine zrReg ?_
    refine zlRun (n := 2) (j := 2) rfl (by kernel_rfl) ?_
    refine zlEnd (by kernel_rfl) ?_
    refine zkSeq ?_
    refine zrRet ?_
    refine zkSeqR ?_
    refine zkNil ?_
    exact endQ hS hQ (fRet ((congrArg (fun s => outR s 0 c14.res) (by kernel_rfl : finSt c14.fin _ = f14_fin [] 2)).trans (f14_out [] 2)))
  · replace hS := cond_f hc hS
    refine zlRun (n := 2) (j := 5) rfl (by kernel_rfl) ?_
    refine bindE hS (fun z42 hz42 hS => ?_)
    refine zlOp (d := some 13) (op := (.call 36 [(.tmp 12), (.func 37)])) (g := (some (11, false))) (v := (.d (.bool z42))) (ups := []) (j := 6) rfl (by kernel_rfl) (by kernel_rfl) (ev_call (args := [(.d (.sl a1.length (e_GVar.cells a1))), (.fn 37 [])]) (l := [(.d (.sl a1.length (e_GVar.cells a1))), (.fn 37 [])]) (r := (.d (.bool z42))) (by kernel_rfl) (by kernel_rfl) (f36_ok base (d - 1) (dpt hd rfl) a1 z42 hz42) (by kernel_rfl) (by kernel_rfl) (by kernel_rfl)) ?_
    refine zlRun (n := 1) (j := 7) rfl (by kernel_rfl) ?_
    refine zlEnd (by kernel_rfl) ?_
    refine zkSeq ?_
    refine zrSplit 14 z42 (by kernel_rfl) (fun hc => ?_) (fun hc => ?_)
    · replace hS := cond_t hc hS
      refine zrCondT (by kernel_rfl) ?_
      refine zrSeq ?_
      refine zrReg ?_
      refine zlRun (n := 2) (j := 2) rfl (by kernel_rfl) ?_
      refine zlEnd (by kernel_rfl) ?_
      refine zkSeq ?_
      refine zrRet ?_
      refine zkSeqR ?_
      refine zkNil ?_
      exact endQ hS hQ (fRet ((congrArg (fun s => outR s 0 c14.res) (by kernel_rfl : finSt c14.fin _ = f14_fin [] 2)).trans (f14_out [] 2)))
    · replace hS := cond_f hc hS
      refine zrCondF (by kernel_rfl) ?_
      refine zrSkip ?_
      refine zkSeq ?_
      exact f14_j0_ok hd a1 hQ  hS (by kernel_rfl)
/- farwriter/environ.word -/
def f39_fin (p209 : List UInt8) (p210 : List UInt8) : St := ⟨(up (up (fun _ => .un) 3 (.d (.str p210))) 2 (.d (.str p209))), (hB fun _ => 0)⟩
theorem f39_out (p209 : List UInt8) (p210 : List UInt8) : outR (f39_fin p209 p210) 0 c39.res = some ((.tup [(.d (.str p209)), (.d (.str p210))]), []) := by
  kernel_rfl
def f39_Q (r : (List UInt8) × (List UInt8)) (e : PX) (st : St) : Prop := DoneF c39 0 ((.tup [(.d (.str r.1)), (.d (.str r.2))]), []) e st
def f39_j0_J (a1 : List UInt8) (p211 : List UInt8) (p212 : Int) : St := ⟨(up (up (up (fun _ => .un) 5 (.d (.int .i64 p212))) 4 (.r (.msl 40 0 0 p211.length))) 0 (.d (.str a1))), (up (hB fun _ => 0) 40 ⟨0, some (.own 5 1 (eU8.cells p211))⟩)⟩
noncomputable def f39_j0 (a1 : List UInt8) (p211 : List UInt8) (p212 : Int) : Option ((List UInt8) × (List UInt8)) := ((sub? a1 p212 (a1.length : Int)).bind fun z28 => (some (p211, z28)))
theorem f39_j0_ok {base : Orc} {d : Nat} (hd : 1 ≤ d) (a1 : List UInt8) {r : (List UInt8) × (List UInt8)} {Q : PX → St → Prop} (hQ : ∀ e st', f39_Q r e st' → Q e st') (p211 : List UInt8) (p212 : Int) (hS : f39_j0 a1 p211 p212 = some r) {st : St} (he : keepSt [0, 4, 5] [(40, .id 40)] [] st = f39_j0_J a1 p211 p212) : ZR (lev codes base (d - 1)) Q c39_1 [] st := by
  refine zrKeep he ?_
  unfold f39_j0 at hS
  refine zrSeq ?_
  refine zrRegD ?_
  refine zdRun (n := 1) (j := 1) (ts := [[]]) (acc' := [[]]) rfl (by kernel_rfl) (by kernel_rfl) (by kernel_rfl) ?_
  refine zdOp (d := some 44) (op := (.cvBS (.tmp 43))) (g := none) (v := (.d (.str p211))) (ups := []) (j := 2) (t1 := [(40, false)]) (acc' := [[], [(40, false)]]) (by kernel_rfl) (by kernel_rfl) rfl (by kernel_rfl) (by kernel_rfl) (ev_cvBS (s := p211) ((congrArg (asL _) (by kernel_rfl : ρof _ (.tmp 43) = (.r (.msl 40 0 0 p211.length)))).trans (as_whole eU8 (e := 5) (k := 1) (xs := p211) (by kernel_rfl) rfl rfl)) rfl) ?_
  refine zdRun (n := 2) (j := 4) (ts := [[], []]) (acc' := [[], [(40, false)], [], []]) rfl (by kernel_rfl) (by kernel_rfl) (by kernel_rfl) ?_
  refine bindE hS (fun z28 hz28 hS => ?_)
  refine zdOp (d := some 47) (op := (.slStr (.tmp 45) (.some (.tmp 46)) .none)) (g := none) (v := (.d (.str z28))) (ups := []) (j := 5) (t1 := []) (acc' := [[], [(40, false)], [], [], []]) (by kernel_rfl) (by kernel_rfl) rfl (by kernel_rfl) (by kernel_rfl) (ev_slStr (s := a1) (a := p212) (c := (a1.length : Int)) (by kernel_rfl) (bnd_s _ (kk := .i64) (j := p212) (by kernel_rfl)) (bnd_n _) hz28) ?_
  refine zdRun (n := 2) (j := 7) (ts := [[], []]) (acc' := [[], [(40, false)], [], [], [], [], []]) rfl (by kernel_rfl) (by kernel_rfl) (by kernel_rfl) ?_
  refine zdEnd (by kernel_rfl) (by kernel_rfl) ?_
  refine zkSeq ?_
  refine zrRet ?_
  refine zkNil ?_
  exact endQ hS hQ (fRet ((congrArg (fun s => outR s 0 c39.res) (by kernel_rfl : finSt c39.fin _ = f39_fin p211 z28)).trans (f39_out p211 z28)))
def f39_l1_J (a1 : List UInt8) (x : (List UInt8) × Int) : St := ⟨(up (up (up (fun _ => .un) 5 (.d (.int .i64 x.2))) 4 (.r (.msl 40 0 0 x.1.length))) 0 (.d (.str a1))), (up (hB fun _ => 0) 40 ⟨0, some (.own 5 1 (eU8.cells x.1))⟩)⟩
def f39_l1_H (a1 : List UInt8) (x : (List UInt8) × Int) (st : St) : Prop := keepSt [0, 4, 5] [(40, .id 40)] [] st = f39_l1_J a1 x
def f39_l1_e0_J (a1 : List UInt8) (p207 : List UInt8) (p208 : Int) : St := ⟨(up (up (up (fun _ => .un) 5 (.d (.int .i64 p208))) 4 (.r (.msl 40 0 0 p207.length))) 0 (.d (.str a1))), (up (hB fun _ => 0) 40 ⟨0, some (.own 5 1 (eU8.cells p207))⟩)⟩
def f39_l1_X (a1 : List UInt8) (z : ((List UInt8) × Int)) (e : PX) (st : St) : Prop := e = .exit 0 ∧ st = f39_l1_e0_J a1 z.1 z.2
def f39_l1_j3_J (a1 : List UInt8) (p287 : List UInt8) (p288 : Int) (p289 : Int) (p290 : UInt8) : St := ⟨(up (up (up (up (up (up (up (up (up (up (up (up (up (up (up (up (up (up (up (up (fun _ => .un) 27 (.d (.bool true))) 26 (.tup [])) 25 (.tup [])) 24 (.tup [])) 23 (.tup [])) 22 (.tup [])) 21 (.tup [])) 20 (.tup [])) 19 (.tup [])) 18 (.tup [])) 17 (.tup [])) 16 (.tup [])) 15 (.d (.bool true))) 14 (.d (.bool true))) 13 (.d (.int .u8 (p290.toNat : Int)))) 12 (.d (.int .i64 p289))) 11 (.d (.str a1))) 5 (.d (.int .i64 p288))) 4 (.r (.msl 40 0 0 p287.length))) 0 (.d (.str a1))), (up (hB fun _ => 0) 40 ⟨0, some (.own 5 1 (eU8.cells p287))⟩)⟩
noncomputable def f39_l1_j3 (a1 : List UInt8) (p287 : List UInt8) (p288 : Int) (p289 : Int) (p290 : UInt8) : Option (((List UInt8) × Int) ⊕ (((List UInt8) × Int))) := ((idx a1 p288).bind fun z32 => ((app? 1 p287 ([z32] : List UInt8)).bind fun z33 => (some (.inl (z33, (IntKind.i64.wrap (p288 + 1)))))))
theorem f39_l1_j3_ok {base : Orc} {d : Nat} (hd : 1 ≤ d) (a1 : List UInt8) {r : ((List UInt8) × Int) ⊕ (((List UInt8) × Int))} {Q : PX → St → Prop} (hQ : ∀ e st', finL (f39_l1_H a1) (f39_l1_X a1) r e st' → Q e st') (p287 : List UInt8) (p288 : Int) (p289 : Int) (p290 : UInt8) (hS : f39_l1_j3 a1 p287 p288 p289 p290 = some r) {st : St} (he : keepSt [0, 4, 5, 11, 12, 13, 14, 15, 16, 17, 18, 19, 20, 21, 22, 23, 24, 25, 26, 27] [(40, .id 40)] [] st = f39_l1_j3_J a1 p287 p288 p289 p290) : ZR (lev codes base (d - 1)) Q c39_2 [.blk 1] st := by
  refine zrKeep he ?_
  unfold f39_l1_j3 at hS
  refine zrSeq ?_
  refine zrReg ?_
  refine zlRun (n := 3) (j := 3) rfl (by kernel_rfl) ?_
  refine bindE hS (fun z32 hz32 hS => ?_)
  refine zlOp (d := some 38) (op := (.ixStr (.tmp 36) (.tmp 37))) (g := none) (v := (.d (.int .u8 (z32.toNat : Int)))) (ups := []) (j := 4) rfl (by kernel_rfl) (by kernel_rfl) (ev_ixStr (kk := .i64) (s := a1) (j := p288) (by kernel_rfl) (by kernel_rfl) hz32) ?_
  refine zlRun (n := 1) (j := 5) rfl (by kernel_rfl) ?_
  refine bindE hS (fun z33 hz33 hS => ?_)
  refine zlOp (d := some 40) (op := (.app 5 1 1 (.tmp 35) (.tmp 39))) (g := none) (v := (.r (.msl 40 1 0 z33.length))) (ups := [(40, ⟨1, some (.own 5 1 (eU8.cells z33))⟩)]) (j := 6) rfl (by kernel_rfl) (by kernel_rfl) (ev_app eU8 (b := 40) (g := 0) (n := p287.length) (xs := p287) (ys := [z32]) ((congrArg (asL _) (by kernel_rfl : ρof _ (.tmp 39) = (.r (.msl 320 1 0 (([z32] : List UInt8).length))))).trans (as_whole eU8 (e := 5) (k := 1) (xs := [z32]) (by kernel_rfl) rfl rfl)) rfl (by kernel_rfl) rfl (by kernel_rfl) rfl hz33) ?_
  refine zlRun (n := 1) (j := 7) rfl (by kernel_rfl) ?_
  refine zlEnd (by kernel_rfl) ?_
  refine zkSeq ?_
  refine zrReg ?_
  refine zlRun (n := 3) (j := 3) rfl (by kernel_rfl) ?_
  refine zlEnd (by kernel_rfl) ?_
  refine zkBlk ?_
  refine zkNil ?_
  exact endQ hS hQ (finL_n (by show keepSt _ _ _ _ = _; kernel_rfl))
def f39_l1_j2_J (a1 : List UInt8) (p263 : List UInt8) (p264 : Int) (p265 : Int) (p266 : UInt8) : St := ⟨(up (up (up (up (up (up (up (up (up (up (up (up (up (up (up (up (up (up (up (up (fun _ => .un) 27 (.d (.bool true))) 26 (.tup [])) 25 (.tup [])) 24 (.tup [])) 23 (.tup [])) 22 (.tup [])) 21 (.tup [])) 20 (.tup [])) 19 (.tup [])) 18 (.tup [])) 17 (.tup [])) 16 (.tup [])) 15 (.d (.bool true))) 14 (.d (.bool true))) 13 (.d (.int .u8 (p266.toNat : Int)))) 12 (.d (.int .i64 p265))) 11 (.d (.str a1))) 5 (.d (.int .i64 p264))) 4 (.r (.msl 40 0 0 p263.length))) 0 (.d (.str a1))), (up (hB fun _ => 0) 40 ⟨0, some (.own 5 1 (eU8.cells p263))⟩)⟩
noncomputable def f39_l1_j2 (a1 : List UInt8) (p263 : List UInt8) (p264 : Int) (p265 : Int) (p266 : UInt8) : Option (((List UInt8) × Int) ⊕ (((List UInt8) × Int))) := ((idx a1 p264).bind fun z34 => (bif (decide ((z34.toNat : Int) = 2)) then (f39_l1_j3 a1 p263 (IntKind.i64.wrap (p264 + 1)) p265 p266) else (f39_l1_j3 a1 p263 p264 p265 p266)))
theorem f39_l1_j2_ok {base : Orc} {d : Nat} (hd : 1 ≤ d) (a1 : List UInt8) {r : ((List UInt8) × Int) ⊕ (((List UInt8) × Int))} {Q : PX → St → Prop} (hQ : ∀ e st', finL (f39_l1_H a1) (f39_l1_X a1) r e st' → Q e st') (p263 : List UInt8) (p264 : Int) (p265 : Int) (p266 : UInt8) (hS : f39_l1_j2 a1 p263 p264 p265 p266 = some r) {st : St} (he : keepSt [0, 4, 5, 11, 12, 13, 14, 15, 16, 17, 18, 19, 20, 21, 22, 23, 24, 25, 26, 27] [(40, .id 40)] [] st = f39_l1_j2_J a1 p263 p264 p265 p266) : ZR (lev codes base (d - 1)) Q c39_3 [] st := by
  refine zrKeep he ?_
  unfold f39_l1_j2 at hS
  refine zrBlk ?_
  refine zrSeq ?_
  refine zrSeq ?_
  refine zrReg ?_
  refine zlRun (n := 2) (j := 2) rfl (by kernel_rfl) ?_
  refine bindE hS (fun z34 hz34 hS => ?_)
  refine zlOp (d := some 31) (op := (.ixStr (.tmp 29) (.tmp 30))) (g := none) (v := (.d (.int .u8 (z34.toNat : Int)))) (ups := []) (j := 3) rfl (by kernel_rfl) (by kernel_rfl) (ev_ixStr (kk := .i64) (s := a1) (j := p264) (by kernel_rfl) (by kernel_rfl) hz34) ?_
  refine zlBool (d := 32) (op := (.cmpI .eql (.tmp 31) (.const (.int .u8 2)))) (g := none) (j := 4) (decide ((z34.toNat : Int) = 2)) rfl (by kernel_rfl) (by kernel_rfl) (by kernel_rfl) (fun hc => ?_) (fun hc => ?_)
  · replace hS := cond_t hc hS
    refine zlEnd (by kernel_rfl) ?_
    refine zkSeq ?_
    refine zrCondT (by kernel_rfl) ?_
    refine zrReg ?_
    refine zlRun (n := 3) (j := 3) rfl (by kernel_rfl) ?_
    refine zlEnd (by kernel_rfl) ?_
    refine zkSeq ?_
    exact f39_l1_j3_ok hd a1 hQ p263 (IntKind.i64.wrap (p264 + 1)) p265 p266 hS (by kernel_rfl)
  · replace hS := cond_f hc hS
    refine zlEnd (by kernel_rfl) ?_
    refine zkSeq ?_
    refine zrCondF (by kernel_rfl) ?_
    refine zrSkip ?_
    refine zkSeq ?_
    exact f39_l1_j3_ok hd a1 hQ p263 p264 p265 p266 hS (by kernel_rfl)
def f39_l1_j5_J (a1 : List UInt8) (p314 : List UInt8) (p315 : Int) (p316 : Int) (p317 : UInt8) (p318 : Int) (p319 : UInt8) (p320 : Int) (p321 : Int) (p322 : Bool) (p323 : Bool) (p324 : Bool) : St := ⟨(up (up (up (up (up (up (up (up (up (up (up (up (up (up (up (up (up (up (up (up (fun _ => .un) 27 (.d (.bool p324))) 26 (.d (.bool p323))) 25 (.d (.bool p322))) 24 (.d (.int .i64 (a1.length : Int)))) 23 (.d (.str a1))) 22 (.d (.int .i64 p321))) 21 (.d (.int .i64 p320))) 20 (.d (.bool true))) 19 (.d (.bool true))) 18 (.d (.int .u8 (p319.toNat : Int)))) 17 (.d (.int .i64 p318))) 16 (.d (.str a1))) 15 (.d (.bool false))) 14 (.d (.bool false))) 13 (.d (.int .u8 (p317.toNat : Int)))) 12 (.d (.int .i64 p316))) 11 (.d (.str a1))) 5 (.d (.int .i64 p315))) 4 (.r (.msl 40 0 0 p314.length))) 0 (.d (.str a1))), (up (hB fun _ => 0) 40 ⟨0, some (.own 5 1 (eU8.cells p314))⟩)⟩
noncomputable def f39_l1_j5 (a1 : List UInt8) (p314 : List UInt8) (p315 : Int) (p316 : Int) (p317 : UInt8) (p318 : Int) (p319 : UInt8) (p320 : Int) (p321 : Int) (p322 : Bool) (p323 : Bool) (p324 : Bool) : Option (((List UInt8) × Int) ⊕ (((List UInt8) × Int))) := ((idx a1 p315).bind fun z36 => ((app? 1 p314 ([z36] : List UInt8)).bind fun z37 => (some (.inl (z37, (IntKind.i64.wrap (p315 + 1)))))))
theorem f39_l1_j5_ok {base : Orc} {d : Nat} (hd : 1 ≤ d) (a1 : List UInt8) {r : ((List UInt8) × Int) ⊕ (((List UInt8) × Int))} {Q : PX → St → Prop} (hQ : ∀ e st', finL (f39_l1_H a1) (f39_l1_X a1) r e st' → Q e st') (p314 : List UInt8) (p315 : Int) (p316 : Int) (p317 : UInt8) (p318 : Int) (p319 : UInt8) (p320 : Int) (p321 : Int) (p322 : Bool) (p323 : Bool) (p324 : Bool) (hS : f39_l1_j5 a1 p314 p315 p316 p317 p318 p319 p320 p321 p322 p323 p324 = some r) {st : St} (he : keepSt [0, 4, 5, 11, 12, 13, 14, 15, 16, 17, 18, 19, 20, 21, 22, 23, 24, 25, 26, 27] [(40, .id 40)] [] st = f39_l1_j5_J a1 p314 p315 p316 p317 p318 p319 p320 p321 p322 p323 p324) : ZR (lev codes base (d - 1)) Q c39_2 [.blk 1] st := by
  refine zrKeep he ?_
  unfold f39_l1_j5 at hS
  refine zrSeq ?_
  refine zrReg ?_
  refine zlRun (n := 3) (j := 3) rfl (by kernel_rfl) ?_
  refine bindE hS (fun z36 hz36 hS => ?_)
  refine zlOp (d := some 38) (op := (.ixStr (.tmp 36) (.tmp 37))) (g := none) (v := (.d (.int .u8 (z36.toNat : Int)))) (ups := []) (j := 4) rfl (by kernel_rfl) (by kernel_rfl) (ev_ixStr (kk := .i64) (s := a1) (j := p315) (by kernel_rfl) (by kernel_rfl) hz36) ?_
  refine zlRun (n := 1) (j := 5) rfl (by kernel_rfl) ?_
  refine bindE hS (fun z37 hz37 hS => ?_)
  refine zlOp (d := some 40) (op := (.app 5 1 1 (.tmp 35) (.tmp 39))) (g := none) (v := (.r (.msl 40 1 0 z37.length))) (ups := [(40, ⟨1, some (.own 5 1 (eU8.cells z37))⟩)]) (j := 6) rfl (by kernel_rfl) (by kernel_rfl) (ev_app eU8 (b := 40) (g := 0) (n := p314.length) (xs := p314) (ys := [z36]) ((congrArg (asL _) (by kernel_rfl : ρof _ (.tmp 39) = (.r (.msl 320 1 0 (([z36] : List UInt8).length))))).trans (as_whole eU8 (e := 5) (k := 1) (xs := [z36]) (by kernel_rfl) rfl rfl)) rfl (by kernel_rfl) rfl (by kernel_rfl) rfl hz37) ?_
  refine zlRun (n := 1) (j := 7) rfl (by kernel_rfl) ?_
  refine zlEnd (by kernel_rfl) ?_
  refine zkSeq ?_
  refine zrReg ?_
  refine zlRun (n := 3) (j := 3) rfl (by kernel_rfl) ?_
  refine zlEnd (by kernel_rfl) ?_
  refine zkBlk ?_
  refine zkNil ?_
  exact endQ hS hQ (finL_n (by show keepSt _ _ _ _ = _; kernel_rfl))
def f39_l1_j4_J (a1 : List UInt8) (p267 : List UInt8) (p268 : Int) (p269 : Int) (p270 : UInt8) (p271 : Int) (p272 : UInt8) (p273 : Int) (p274 : Int) (p275 : Bool) (p276 : Bool) (p277 : Bool) : St := ⟨(up (up (up (up (up (up (up (up (up (up (up (up (up (up (up (up (up (up (up (up (fun _ => .un) 27 (.d (.bool p277))) 26 (.d (.bool p276))) 25 (.d (.bool p275))) 24 (.d (.int .i64 (a1.length : Int)))) 23 (.d (.str a1))) 22 (.d (.int .i64 p274))) 21 (.d (.int .i64 p273))) 20 (.d (.bool true))) 19 (.d (.bool true))) 18 (.d (.int .u8 (p272.toNat : Int)))) 17 (.d (.int .i64 p271))) 16 (.d (.str a1))) 15 (.d (.bool false))) 14 (.d (.bool false))) 13 (.d (.int .u8 (p270.toNat : Int)))) 12 (.d (.int .i64 p269))) 11 (.d (.str a1))) 5 (.d (.int .i64 p268))) 4 (.r (.msl 40 0 0 p267.length))) 0 (.d (.str a1))), (up (hB fun _ => 0) 40 ⟨0, some (.own 5 1 (eU8.cells p267))⟩)⟩
noncomputable def f39_l1_j4 (a1 : List UInt8) (p267 : List UInt8) (p268 : Int) (p269 : Int) (p270 : UInt8) (p271 : Int) (p272 : UInt8) (p273 : Int) (p274 : Int) (p275 : Bool) (p276 : Bool) (p277 : Bool) : Option (((List UInt8) × Int) ⊕ (((List UInt8) × Int))) := ((idx a1 p268).bind fun z38 => (bif (decide ((z38.toNat : Int) = 2)) then (f39_l1_j5 a1 p267 (IntKind.i64.wrap (p268 + 1)) p269 p270 p271 p272 p273 p274 p275 p276 p277) else (f39_l1_j5 a1 p267 p268 p269 p270 p271 p272 p273 p274 p275 p276 p277)))
theorem f39_l1_j4_ok {base : Orc} {d : Nat} (hd : 1 ≤ d) (a1 : List UInt8) {r : ((List UInt8) × Int) ⊕ (((List UInt8) × Int))} {Q : PX → St → Prop} (hQ : ∀ e st', finL (f39_l1_H a1) (f39_l1_X a1) r e st' → Q e st') (p267 : List UInt8) (p268 : Int) (p269 : Int) (p270 : UInt8) (p271 : Int) (p272 : UInt8) (p273 : Int) (p274 : Int) (p275 : Bool) (p276 : Bool) (p277 : Bool) (hS : f39_l1_j4 a1 p267 p268 p269 p270 p271 p272 p273 p274 p275 p276 p277 = some r) {st : St} (he : keepSt [0, 4, 5, 11, 12, 13, 14, 15, 16, 17, 18, 19, 20, 21, 22, 23, 24, 25, 26, 27] [(40, .id 40)] [] st = f39_l1_j4_J a1 p267 p268 p269 p270 p271 p272 p273 p274 p275 p276 p277) : ZR (lev codes base (d - 1)) Q c39_3 [] st := by
  refine zrKeep he ?_
  unfold f39_l1_j4 at hS
  refine zrBlk ?_
  refine zrSeq ?_
  refine zrSeq ?_
  refine zrReg ?_
  refine zlRun (n := 2) (j := 2) rfl (by kernel_rfl) ?_
  refine bindE hS (fun z38 hz38 hS => ?_)
  refine zlOp (d := some 31) (op := (.ixStr (.tmp 29) (.tmp 30))) (g := none) (v := (.d (.int .u8 (z38.toNat : Int)))) (ups := []) (j := 3) rfl (by kernel_rfl) (by kernel_rfl) (ev_ixStr (kk := .i64) (s := a1) (j := p268) (by kernel_rfl) (by kernel_rfl) hz38) ?_
  refine zlBool (d := 32) (op := (.cmpI .eql (.tmp 31) (.const (.int .u8 2)))) (g := none) (j := 4) (decide ((z38.toNat : Int) = 2)) rfl (by kernel_rfl) (by kernel_rfl) (by kernel_rfl) (fun hc => ?_) (fun hc => ?_)
  · replace hS := cond_t hc hS
    refine zlEnd (by kernel_rfl) ?_
    refine zkSeq ?_
    refine zrCondT (by kernel_rfl) ?_
    refine zrReg ?_
    refine zlRun (n := 3) (j := 3) rfl (by kernel_rfl) ?_
    refine zlEnd (by kernel_rfl) ?_
    refine zkSeq ?_
    exact f39_l1_j5_ok hd a1 hQ p267 (IntKind.i64.wrap (p268 + 1)) p269 p270 p271 p272 p273 p274 p275 p276 p277 hS (by kernel_rfl)
  · replace hS := cond_f hc hS
    refine zlEnd (by kernel_rfl) ?_
    refine zkSeq ?_
    refine zrCondF (by kernel_rfl) ?_
    refine zrSkip ?_
    refine zkSeq ?_
    exact f39_l1_j5_ok hd a1 hQ p267 p268 p269 p270 p271 p272 p273 p274 p275 p276 p277 hS (by kernel_rfl)
noncomputable def f39_l1 (a1 : List UInt8) (x : (List UInt8) × Int) : Option (((List UInt8) × Int) ⊕ (((List UInt8) × Int))) := (bif (decide (x.2 < (a1.length : Int))) then ((idx a1 x.2).bind fun z39 => (bif (decide (3 < (z39.toNat : Int))) then (f39_l1_j2 a1 x.1 x.2 x.2 z39) else ((idx a1 x.2).bind fun z40 => (bif (decide ((z40.toNat : Int) = 2)) then (bif (decide ((IntKind.i64.wrap (x.2 + 1)) < (a1.length : Int))) then (f39_l1_j4 a1 x.1 x.2 x.2 z39 x.2 z40 x.2 (IntKind.i64.wrap (x.2 + 1)) true true true) else (some (.inr (x.1, x.2)))) else (some (.inr (x.1, x.2))))))) else (some (.inr (x.1, x.2))))
theorem f39_l1_ok {base : Orc} {d : Nat} (hd : 1 ≤ d) (a1 : List UInt8) {r : ((List UInt8) × Int) ⊕ (((List UInt8) × Int))} {Q : PX → St → Prop} (hQ : ∀ e st', finL (f39_l1_H a1) (f39_l1_X a1) r e st' → Q e st') {x : (List UInt8) × Int} (hS : f39_l1 a1 x = some r) {st : St} (he : f39_l1_H a1 x st) : ZR (lev codes base (d - 1)) Q c39_4 [] st := by
  refine zrKeep he ?_
  unfold f39_l1 at hS
  refine zrSeq ?_
  refine zrSeq ?_
  refine zrReg ?_
  refine zlRun (n := 3) (j := 3) rfl (by kernel_rfl) ?_
  refine zlBool (d := 9) (op := (.cmpI .lss (.tmp 6) (.tmp 8))) (g := none) (j := 4) (decide (x.2 < (a1.length : Int))) rfl (by kernel_rfl) (by kernel_rfl) (by kernel_rfl) (fun hc => ?_) (fun hc => ?_)
  · replace hS := cond_t hc hS
    refine zlRun (n := 3) (j := 7) rfl (by kernel_rfl) ?_
    refine bindE hS (fun z39 hz39 hS => ?_)
    refine zlOp (d := some 13) (op := (.ixStr (.tmp 11) (.tmp 12))) (g := (some (10, true))) (v := (.d (.int .u8 (z39.toNat : Int)))) (ups := []) (j := 8) rfl (by kernel_rfl) (by kernel_rfl) (ev_ixStr (kk := .i64) (s := a1) (j := x.2) (by kernel_rfl) (by kernel_rfl) hz39) ?_
    refine zlBool (d := 14) (op := (.cmpI .gtr (.tmp 13) (.const (.int .u8 3)))) (g := (some (10, true))) (j := 9) (decide (3 < (z39.toNat : Int))) rfl (by kernel_rfl) (by kernel_rfl) (by kernel_rfl) (fun hc => ?_) (fun hc => ?_)
    · replace hS := cond_t hc hS
      refine zlRun (n := 14) (j := 23) rfl (by kernel_rfl) ?_
      refine zlEnd (by kernel_rfl) ?_
      refine zkSeq ?_
      refine zrCondT (by kernel_rfl) ?_
      refine zrSkip ?_
      refine zkSeq ?_
      exact f39_l1_j2_ok hd a1 hQ x.1 x.2 x.2 z39 hS (by kernel_rfl)
    · replace hS := cond_f hc hS
      refine zlRun (n := 3) (j := 12) rfl (by kernel_rfl) ?_
      refine bindE hS (fun z40 hz40 hS => ?_)
      refine zlOp (d := some 18) (op := (.ixStr (.tmp 16) (.tmp 17))) (g := (some (15, false))) (v := (.d (.int .u8 (z40.toNat : Int)))) (ups := []) (j := 13) rfl (by kernel_rfl) (by kernel_rfl) (ev_ixStr (kk := .i64) (s := a1) (j := x.2) (by kernel_rfl) (by kernel_rfl) hz40) ?_
      refine zlBool (d := 19) (op := (.cmpI .eql (.tmp 18) (.const (.int .u8 2)))) (g := (some (15, false))) (j := 14) (decide ((z40.toNat : Int) = 2)) rfl (by kernel_rfl) (by kernel_rfl) (by kernel_rfl) (fun hc => ?_) (fun hc => ?_)
      · replace hS := cond_t hc hS
        refine zlRun (n := 5) (j := 19) rfl (by kernel_rfl) ?_
        refine zlBool (d := 25) (op := (.cmpI .lss (.tmp 22) (.tmp 24))) (g := (some (20, true))) (j := 20) (decide ((IntKind.i64.wrap (x.2 + 1)) < (a1.length : Int))) rfl (by kernel_rfl) (by kernel_rfl) (by kernel_rfl) (fun hc => ?_) (fun hc => ?_)
        · replace hS := cond_t hc hS
          refine zlRun (n := 3) (j := 23) rfl (by kernel_rfl) ?_
          refine zlEnd (by kernel_rfl) ?_
          refine zkSeq ?_
          refine zrCondT (by kernel_rfl) ?_
          refine zrSkip ?_
          refine zkSeq ?_
          exact f39_l1_j4_ok hd a1 hQ x.1 x.2 x.2 z39 x.2 z40 x.2 (IntKind.i64.wrap (x.2 + 1)) true true true hS (by kernel_rfl)
        · replace hS := cond_f hc hS
          refine zlRun (n := 3) (j := 23) rfl (by kernel_rfl) ?_
          refine zlEnd (by kernel_rfl) ?_
          refine zkSeq ?_
          refine zrCondF (by kernel_rfl) ?_
          refine zrKeep (J := f39_l1_e0_J a1 x.1 x.2) (by kernel_rfl) ?_
          refine zrExit ?_
          refine zkSeqX ?_
          refine zkNil ?_
          exact endQ hS hQ (finL_x (by intro h; cases h) (by show _ = _ ∧ _ = _; exact ⟨rfl, rfl⟩))
      · replace hS := cond_f hc hS
        refine zlRun (n := 9) (j := 23) rfl (by kernel_rfl) ?_
        refine zlEnd (by kernel_rfl) ?_
        refine zkSeq ?_
        refine zrCondF (by kernel_rfl) ?_
        refine zrKeep (J := f39_l1_e0_J a1 x.1 x.2) (by kernel_rfl) ?_
        refine zrExit ?_
        refine zkSeqX ?_
        refine zkNil ?_
        exact endQ hS hQ (finL_x (by intro h; cases h) (by show _ = _ ∧ _ = _; exact ⟨rfl, rfl⟩))
  · replace hS := cond_f hc hS
    refine zlRun (n := 19) (j := 23) rfl (by kernel_rfl) ?_
    refine zlEnd (by kernel_rfl) ?_
    refine zkSeq ?_
    refine zrCondF (by kernel_rfl) ?_
    refine zrKeep (J := f39_l1_e0_J a1 x.1 x.2) (by kernel_rfl) ?_
    refine zrExit ?_
    refine zkSeqX ?_
    refine zkNil ?_
    exact endQ hS hQ (finL_x (by intro h; cases h) (by show _ = _ ∧ _ = _; exact ⟨rfl, rfl⟩))
noncomputable def f39 (a1 : List UInt8) : Option ((List UInt8) × (List UInt8)) := ((loopO (f39_l1 a1) ([], 0)).bind fun z41 => (f39_j0 a1 z41.1 z41.2))
theorem f39_ok (base : Orc) (d : Nat) (hd : 1 ≤ d) (a1 : List UInt8) (r : (List UInt8) × (List UInt8)) (hS : f39 a1 = some r) : lev codes base d 39 [(.d (.str a1))] [] = some ((.tup [(.d (.str r.1)), (.d (.str r.2))]), []) := by
  refine lev_go codes39 rfl rfl (Nat.le_trans (Nat.le_of_ble_eq_true rfl) hd) fun Q hQ => ?_
  unfold f39 at hS
  show ZR _ Q c39_b [] _
  replace hQ : ∀ e st', f39_Q r e st' → Q e st' := hQ
  refine zrSeq ?_
  refine zrReg ?_
  refine zlRun (n := 2) (j := 2) rfl (by kernel_rfl) ?_
  refine zlEnd (by kernel_rfl) ?_
  refine zkSeq ?_
  refine zrSeq ?_
  refine zrReg ?_
  refine zlRun (n := 1) (j := 1) rfl (by kernel_rfl) ?_
  refine zlEnd (by kernel_rfl) ?_
  refine zkSeq ?_
  refine zrSeq ?_
  refine zrReg ?_
  refine zlRun (n := 1) (j := 1) rfl (by kernel_rfl) ?_
  refine zlEnd (by kernel_rfl) ?_
  refine zkSeq ?_
  refine zrSeq ?_
  refine zrBlk ?_
  refine bindE hS (fun z41 hz41 hS => ?_)
  refine zrLoop (f39_l1_H a1) (f39_l1_X a1) (fun x st r Q h0 hS hQ => f39_l1_ok hd a1 hQ hS h0) (x := ([], 0)) (z := z41) (by show keepSt _ _ _ _ = _; kernel_rfl) hz41 ?_
  intro e st' _ hX
  obtain ⟨rfl, rfl⟩ : _ ∧ _ := hX
  refine zkBlkX ?_
  refine zkSeq ?_
  exact f39_j0_ok hd a1 hQ z41.1 z41.2 hS (by kernel_rfl)
/- farwriter/environ.Read -/
def f15_fin (p200 : List GVar) (p201 : Int) : St := ⟨(up (up (fun _ => .un) 3 (.d (.int .i64 p201))) 2 (.r (.msl 561 0 0 p200.length))), (up (hB fun _ => 0) 561 ⟨0, some (.own 30 4 (e_GVar.cells p200))⟩)⟩
theorem f15_out (p200 : List GVar) (p201 : Int) : outR (f15_fin p200 p201) 0 c15.res = some ((.tup [(.r (.own 0 30 4 p200.length (e_GVar.cells p200))), (.d (.int .i64 p201))]), []) := by
  exact out_of (ids := []) (ids' := [561]) (l := [(.r (.msl 561 0 0 p200.length)), (.d (.int .i64 p201))]) (by kernel_rfl) (by kernel_rfl) (o_tup (o_cons (o_own e_GVar (e := 30) (k := 4) (xs := p200) (by kernel_rfl) rfl rfl rfl rfl) (o_cons rfl o_nil)))
def f15_Q (r : (List GVar) × Int) (e : PX) (st : St) : Prop := DoneF c15 0 ((.tup [(.r (.own 0 30 4 r.1.length (e_GVar.cells r.1))), (.d (.int .i64 r.2))]), []) e st
def f15_j1_J (a1 : List UInt8) (p203 : List GVar) : St := ⟨(up (up (fun _ => .un) 4 (.r (.msl 40 0 0 p203.length))) 0 (.d (.str a1))), (up (hB fun _ => 0) 40 ⟨0, some (.own 30 4 (e_GVar.cells p203))⟩)⟩
noncomputable def f15_j1 (a1 : List UInt8) (p203 : List GVar) : Option ((List GVar) × Int) := ((f14 p203).bind fun z56 => (bif (!decide (z56.2 = 0)) then (some ([], 4)) else (bif (!decide (z56.1 = a1)) then (some ([], 4)) else (some (p203, 0)))))
theorem f15_j1_ok {base : Orc} {d : Nat} (hd : 5 ≤ d) (a1 : List UInt8) {r : (List GVar) × Int} {Q : PX → St → Prop} (hQ : ∀ e st', f15_Q r e st' → Q e st') (p203 : List GVar) (hS : f15_j1 a1 p203 = some r) {st : St} (he : keepSt [0, 4] [(40, .id 40)] [] st = f15_j1_J a1 p203) : ZR (lev codes base (d - 1)) Q c15_1 [] st := by
  refine zrKeep he ?_
  unfold f15_j1 at hS
  refine zrSeq ?_
  refine zrSeq ?_
  refine zrReg ?_
  refine zlRun (n := 1) (j := 1) rfl (by kernel_rfl) ?_
  refine bindE hS (fun z56 hz56 hS => ?_)
  refine zlOp (d := some 55) (op := (.call 14 [(.tmp 54)])) (g := none) (v := (.tup [(.d (.str z56.1)), (.d (.int .i64 z56.2))])) (ups := []) (j := 2) rfl (by kernel_rfl) (by kernel_rfl) (ev_call (args := [(.r (.msl 40 0 0 p203.length))]) (l := [(.d (.sl p203.length (e_GVar.cells p203)))]) (r := (.tup [(.d (.str z56.1)), (.d (.int .i64 z56.2))])) (by kernel_rfl) (l_cons (l_own e_GVar (e := 30) (k := 4) (xs := p203) (by kernel_rfl) rfl rfl) l_nil) (f14_ok base (d - 1) (dpt hd rfl) p203 z56 hz56) (by kernel_rfl) (by kernel_rfl) (by kernel_rfl)) ?_
  refine zlRun (n := 5) (j := 7) rfl (by kernel_rfl) ?_
  refine zlEnd (by kernel_rfl) ?_
  refine zkSeq ?_
  refine zrSeq ?_
  refine zrReg ?_
  refine zlRun (n := 1) (j := 1) rfl (by kernel_rfl) ?_
  refine zlBool (d := 59) (op := (.cmpI .neq (.tmp 58) (.const (.int .i64 0)))) (g := none) (j := 2) (!decide (z56.2 = 0)) rfl (by kernel_rfl) (by kernel_rfl) (by kernel_rfl) (fun hc => ?_) (fun hc => ?_)
  · replace hS := cond_t hc hS
    refine zlRun (n := 5) (j := 7) rfl (by kernel_rfl) ?_
    refine zlEnd (by kernel_rfl) ?_
    refine zkSeq ?_
    refine zrCondT (by kernel_rfl) ?_
    refine zrSeq ?_
    refine zrReg ?_
    refine zlRun (n := 2) (j := 2) rfl (by kernel_rfl) ?_
    refine zlEnd (by kernel_rfl) ?_
    refine zkSeq ?_
    refine zrRet ?_
    refine zkSeqR ?_
    refine zkNil ?_
    exact endQ hS hQ (fRet ((congrArg (fun s => outR s 0 c15.res) (by kernel_rfl : finSt c15.fin _ = f15_fin [] 4)).trans (f15_out [] 4)))
  · replace hS := cond_f hc hS
    refine zlRun (n := 3) (j := 5) rfl (by kernel_rfl) ?_
    refine zlBool (d := 63) (op := (.strO .neq (.tmp 61) (.tmp 62))) (g := (some (60, false))) (j := 6) (!decide (z56.1 = a1)) rfl (by kernel_rfl) (by kernel_rfl) (by kernel_rfl) (fun hc => ?_) (fun hc => ?_)
    · replace hS := cond_t hc hS
      refine zlRun (n := 1) (j := 7) rfl (by kernel_rfl) ?_
      refine zlEnd (by kernel_rfl) ?_
      refine zkSeq ?_
      refine zrCondT (by kernel_rfl) ?_
      refine zrSeq ?_
      refine zrReg ?_
      refine zlRun (n := 2) (j := 2) rfl (by kernel_rfl) ?_
      refine zlEnd (by kernel_rfl) ?_
      refine zkSeq ?_
      refine zrRet ?_
      refine zkSeqR ?_
      refine zkNil ?_
      exact endQ hS hQ (fRet ((congrArg (fun s => outR s 0 c15.res) (by kernel_rfl : finSt c15.fin _ = f15_fin [] 4)).trans (f15_out [] 4)))
    · replace hS := cond_f hc hS
      refine zlRun (n := 1) (j := 7) rfl (by kernel_rfl) ?_
      refine zlEnd (by kernel_rfl) ?_
      refine zkSeq ?_
      refine zrCondF (by kernel_rfl) ?_
      refine zrSkip ?_
      refine zkSeq ?_
      refine zrSeq ?_
      refine zrReg ?_
      refine zlRun (n := 3) (j := 3) rfl (by kernel_rfl) ?_
      refine zlEnd (by kernel_rfl) ?_
      refine zkSeq ?_
      refine zrRet ?_
      refine zkNil ?_
      exact endQ hS hQ (fRet ((congrArg (fun s => outR s 0 c15.res) (by kernel_rfl : finSt c15.fin _ = f15_fin p203 0)).trans (f15_out p203 0)))
def f15_l2_J (a1 : List UInt8) (x : (List GVar) × (List UInt8)) : St := ⟨(up (up (up (fun _ => .un) 5 (.d (.str x.2))) 4 (.r (.msl 40 0 0 x.1.length))) 0 (.d (.str a1))), (up (hB fun _ => 0) 40 ⟨0, some (.own 30 4 (e_GVar.cells x.1))⟩)⟩
def f15_l2_H (a1 : List UInt8) (x : (List GVar) × (List UInt8)) (st : St) : Prop := keepSt [0, 4, 5] [(40, .id 40)] [] st = f15_l2_J a1 x
def f15_l2_e0_J (a1 : List UInt8) (p196 : List GVar) : St := ⟨(up (up (fun _ => .un) 4 (.r (.msl 40 0 0 p196.length))) 0 (.d (.str a1))), (up (hB fun _ => 0) 40 ⟨0, some (.own 30 4 (e_GVar.cells p196))⟩)⟩
def f15_l2_X (a1 : List UInt8) (z : ((List GVar)) ⊕ ((List GVar) × Int)) (e : PX) (st : St) : Prop := (match z with | .inl z => e = .exit 0 ∧ st = f15_l2_e0_J a1 z | .inr z => e = .ret ∧ finSt c15.fin st = f15_fin z.1 z.2)
def f15_l2_j5_J (a1 : List UInt8) (p232 : List GVar) (p233 : List UInt8) (p234 : GVar) (p235 : List UInt8) (p236 : UInt8) (p237 : Bool) : St := ⟨(up (up (up (up (up (up (up (fun _ => .un) 21 (.d (.bool p237))) 20 (.d (.int .u8 (p236.toNat : Int)))) 19 (.d (.str p235))) 6 (.r (.ptr 56 0 0))) 5 (.d (.str p233))) 4 (.r (.msl 40 0 0 p232.length))) 0 (.d (.str a1))), (up (up (hB fun _ => 0) 56 ⟨0, some (.box ((.d (.str p234.Name)) :: ((.d (.str p234.Value)) :: ((.d (.bool p234.User)) :: ((.d (.bool p234.Set)) :: [])))))⟩) 40 ⟨0, some (.own 30 4 (e_GVar.cells p232))⟩)⟩
noncomputable def f15_l2_j5 (a1 : List UInt8) (p232 : List GVar) (p233 : List UInt8) (p234 : GVar) (p235 : List UInt8) (p236 : UInt8) (p237 : Bool) : Option (((List GVar) × (List UInt8)) ⊕ (((List GVar)) ⊕ ((List GVar) × Int))) := ((sub? p233 1 (p233.length : Int)).bind fun z60 => ((f39 z60).bind fun z61 => (bif (!decide (z61.2 = ([] : List UInt8))) then ((idx z61.2 0).bind fun z63 => (bif (decide ((z63.toNat : Int) = 1)) then ((sub? z61.2 1 (z61.2.length : Int)).bind fun z64 => ((f39 z64).bind fun z65 => ((app? 40 p232 ([(GVar.mk z61.1 z65.1 p234.User true)] : List GVar)).bind fun z66 => (some (.inl (z66, z65.2)))))) else ((app? 40 p232 ([(GVar.mk z61.1 p234.Value p234.User p234.Set)] : List GVar)).bind fun z67 => (some (.inl (z67, z61.2)))))) else ((app? 40 p232 ([(GVar.mk z61.1 p234.Value p234.User p234.Set)] : List GVar)).bind fun z68 => (some (.inl (z68, z61.2)))))))
theorem f15_l2_j5_ok {base : Orc} {d : Nat} (hd : 5 ≤ d) (a1 : List UInt8) {r : ((List GVar) × (List UInt8)) ⊕ (((List GVar)) ⊕ ((List GVar) × Int))} {Q : PX → St → Prop} (hQ : ∀ e st', finL (f15_l2_H a1) (f15_l2_X a1) r e st' → Q e st') (p232 : List GVar) (p233 : List UInt8) (p234 : GVar) (p235 : List UInt8) (p236 : UInt8) (p237 : Bool) (hS : f15_l2_j5 a1 p232 p233 p234 p235 p236 p237 = some r) {st : St} (he : keepSt [0, 4, 5, 6, 19, 20, 21] [(40, .id 40), (56, .id 56)] [] st = f15_l2_j5_J a1 p232 p233 p234 p235 p236 p237) : ZR (lev codes base (d - 1)) Q c15_2 [.blk 1] st := by
  refine zrKeep he ?_
  unfold f15_l2_j5 at hS
  refine zrSeq ?_
  refine zrReg ?_
  refine zlRun (n := 1) (j := 1) rfl (by kernel_rfl) ?_
  refine bindE hS (fun z60 hz60 hS => ?_)
  refine zlOp (d := some 29) (op := (.slStr (.tmp 28) (.some (.const (.int .i64 1))) .none)) (g := none) (v := (.d (.str z60))) (ups := []) (j := 2) rfl (by kernel_rfl) (by kernel_rfl) (ev_slStr (s := p233) (a := 1) (c := (p233.length : Int)) (by kernel_rfl) (bnd_s _ (kk := .i64) (j := 1) (by kernel_rfl)) (bnd_n _) hz60) ?_
  refine bindE hS (fun z61 hz61 hS => ?_)
  refine zlOp (d := some 30) (op := (.call 39 [(.tmp 29)])) (g := none) (v := (.tup [(.d (.str z61.1)), (.d (.str z61.2))])) (ups := []) (j := 3) rfl (by kernel_rfl) (by kernel_rfl) (ev_call (args := [(.d (.str z60))]) (l := [(.d (.str z60))]) (r := (.tup [(.d (.str z61.1)), (.d (.str z61.2))])) (by kernel_rfl) (by kernel_rfl) (f39_ok base (d - 1) (dpt hd rfl) z60 z61 hz61) (by kernel_rfl) (by kernel_rfl) (by kernel_rfl)) ?_
  refine zlRun (n := 6) (j := 9) rfl (by kernel_rfl) ?_
  refine zlEnd (by kernel_rfl) ?_
  refine zkSeq ?_
  refine zrSeq ?_
  refine zrSeq ?_
  refine zrReg ?_
  refine zlRun (n := 1) (j := 1) rfl (by kernel_rfl) ?_
  refine zlBool (d := 35) (op := (.strO .neq (.tmp 34) (.const (.string ⟨#[]⟩)))) (g := none) (j := 2) (!decide (z61.2 = ([] : List UInt8))) rfl (by kernel_rfl) (by kernel_rfl) (by kernel_rfl) (fun hc => ?_) (fun hc => ?_)
  · replace hS := cond_t hc hS
    refine zlRun (n := 2) (j := 4) rfl (by kernel_rfl) ?_
    refine bindE hS (fun z63 hz63 hS => ?_)
    refine zlOp (d := some 38) (op := (.ixStr (.tmp 37) (.const (.int .i64 0)))) (g := (some (36, true))) (v := (.d (.int .u8 (z63.toNat : Int)))) (ups := []) (j := 5) rfl (by kernel_rfl) (by kernel_rfl) (ev_ixStr (kk := .i64) (s := z61.2) (j := 0) (by kernel_rfl) (by kernel_rfl) hz63) ?_
    refine zlBool (d := 39) (op := (.cmpI .eql (.tmp 38) (.const (.int .u8 1)))) (g := (some (36, true))) (j := 6) (decide ((z63.toNat : Int) = 1)) rfl (by kernel_rfl) (by kernel_rfl) (by kernel_rfl) (fun hc => ?_) (fun hc => ?_)
    · replace hS := cond_t hc hS
      refine zlRun (n := 1) (j := 7) rfl (by kernel_rfl) ?_
      refine zlEnd (by kernel_rfl) ?_
      refine zkSeq ?_
      refine zrCondT (by kernel_rfl) ?_
      refine zrSeq ?_
      refine zrReg ?_
      refine zlRun (n := 2) (j := 2) rfl (by kernel_rfl) ?_
      refine zlEnd (by kernel_rfl) ?_
      refine zkSeq ?_
      refine zrReg ?_
      refine zlRun (n := 1) (j := 1) rfl (by kernel_rfl) ?_
      refine bindE hS (fun z64 hz64 hS => ?_)
      refine zlOp (d := some 44) (op := (.slStr (.tmp 43) (.some (.const (.int .i64 1))) .none)) (g := none) (v := (.d (.str z64))) (ups := []) (j := 2) rfl (by kernel_rfl) (by kernel_rfl) (ev_slStr (s := z61.2) (a := 1) (c := (z61.2.length : Int)) (by kernel_rfl) (bnd_s _ (kk := .i64) (j := 1) (by kernel_rfl)) (bnd_n _) hz64) ?_
      refine bindE hS (fun z65 hz65 hS => ?_)
      refine zlOp (d := some 45) (op := (.call 39 [(.tmp 44)])) (g := none) (v := (.tup [(.d (.str z65.1)), (.d (.str z65.2))])) (ups := []) (j := 3) rfl (by kernel_rfl) (by kernel_rfl) (ev_call (args := [(.d (.str z64))]) (l := [(.d (.str z64))]) (r := (.tup [(.d (.str z65.1)), (.d (.str z65.2))])) (by kernel_rfl) (by kernel_rfl) (f39_ok base (d - 1) (dpt hd rfl) z64 z65 hz65) (by kernel_rfl) (by kernel_rfl) (by kernel_rfl)) ?_
      refine zlRun (n := 6) (j := 9) rfl (by kernel_rfl) ?_
      refine zlEnd (by kernel_rfl) ?_
      refine zkSeq ?_
      refine zrReg ?_
      refine zlRun (n := 3) (j := 3) rfl (by kernel_rfl) ?_
      refine bindE hS (fun z66 hz66 hS => ?_)
      refine zlOp (d := some 52) (op := (.app 30 4 40 (.tmp 49) (.tmp 51))) (g := none) (v := (.r (.msl 40 1 0 z66.length))) (ups := [(40, ⟨1, some (.own 30 4 (e_GVar.cells z66))⟩)]) (j := 4) rfl (by kernel_rfl) (by kernel_rfl) (ev_app e_GVar (b := 40) (g := 0) (n := p232.length) (xs := p232) (ys := [(GVar.mk z61.1 z65.1 p234.User true)]) ((congrArg (asL _) (by kernel_rfl : ρof _ (.tmp 51) = (.r (.msl 416 1 0 (([(GVar.mk z61.1 z65.1 p234.User true)] : List GVar).length))))).trans (as_whole e_GVar (e := 30) (k := 4) (xs := [(GVar.mk z61.1 z65.1 p234.User true)]) (by kernel_rfl) rfl rfl)) rfl (by kernel_rfl) rfl (by kernel_rfl) rfl hz66) ?_
      refine zlRun (n := 1) (j := 5) rfl (by kernel_rfl) ?_
      refine zlEnd (by kernel_rfl) ?_
      refine zkBlk ?_
      refine zkNil ?_
      exact endQ hS hQ (finL_n (by show keepSt _ _ _ _ = _; kernel_rfl))
    · replace hS := cond_f hc hS
      refine zlRun (n := 1) (j := 7) rfl (by kernel_rfl) ?_
      refine zlEnd (by kernel_rfl) ?_
      refine zkSeq ?_
      refine zrCondF (by kernel_rfl) ?_
      refine zrSkip ?_
      refine zkSeq ?_
      refine zrReg ?_
      refine zlRun (n := 3) (j := 3) rfl (by kernel_rfl) ?_
      refine bindE hS (fun z67 hz67 hS => ?_)
      refine zlOp (d := some 52) (op := (.app 30 4 40 (.tmp 49) (.tmp 51))) (g := none) (v := (.r (.msl 40 1 0 z67.length))) (ups := [(40, ⟨1, some (.own 30 4 (e_GVar.cells z67))⟩)]) (j := 4) rfl (by kernel_rfl) (by kernel_rfl) (ev_app e_GVar (b := 40) (g := 0) (n := p232.length) (xs := p232) (ys := [(GVar.mk z61.1 p234.Value p234.User p234.Set)]) ((congrArg (asL _) (by kernel_rfl : ρof _ (.tmp 51) = (.r (.msl 416 1 0 (([(GVar.mk z61.1 p234.Value p234.User p234.Set)] : List GVar).length))))).trans (as_whole e_GVar (e := 30) (k := 4) (xs := [(GVar.mk z61.1 p234.Value p234.User p234.Set)]) (by kernel_rfl) rfl rfl)) rfl (by kernel_rfl) rfl (by kernel_rfl) rfl hz67) ?_
      refine zlRun (n := 1) (j := 5) rfl (by kernel_rfl) ?_
      refine zlEnd (by kernel_rfl) ?_
      refine zkBlk ?_
      refine zkNil ?_
      exact endQ hS hQ (finL_n (by show keepSt _ _ _ _ = _; kernel_rfl))
  · replace hS := cond_f hc hS
    refine zlRun (n := 5) (j := 7) rfl (by kernel_rfl) ?_
    refine zlEnd (by kernel_rfl) ?_
    refine zkSeq ?_
    refine zrCondF (by kernel_rfl) ?_
    refine zrSkip ?_
    refine zkSeq ?_
    refine zrReg ?_
    refine zlRun (n := 3) (j := 3) rfl (by kernel_rfl) ?_
    refine bindE hS (fun z68 hz68 hS => ?_)
    refine zlOp (d := some 52) (op := (.app 30 4 40 (.tmp 49) (.tmp 51))) (g := none) (v := (.r (.msl 40 1 0 z68.length))) (ups := [(40, ⟨1, some (.own 30 4 (e_GVar.cells z68))⟩)]) (j := 4) rfl (by kernel_rfl) (by kernel_rfl) (ev_app e_GVar (b := 40) (g := 0) (n := p232.length) (xs := p232) (ys := [(GVar.mk z61.1 p234.Value p234.User p234.Set)]) ((congrArg (asL _) (by kernel_rfl : ρof _ (.tmp 51) = (.r (.msl 416 1 0 (([(GVar.mk z61.1 p234.Value p234.User p234.Set)] : List GVar).length))))).trans (as_whole e_GVar (e := 30) (k := 4) (xs := [(GVar.mk z61.1 p234.Value p234.User p234.Set)]) (by kernel_rfl) rfl rfl)) rfl (by kernel_rfl) rfl (by kernel_rfl) rfl hz68) ?_
    refine zlRun (n := 1) (j := 5) rfl (by kernel_rfl) ?_
    refine zlEnd (by kernel_rfl) ?_
    refine zkBlk ?_
    refine zkNil ?_
    exact endQ hS hQ (finL_n (by show keepSt _ _ _ _ = _; kernel_rfl))
def f15_l2_j4_J (a1 : List UInt8) (p219 : List GVar) (p220 : List UInt8) (p221 : List UInt8) (p222 : UInt8) (p223 : Bool) : St := ⟨(up (up (up (up (up (up (fun _ => .un) 21 (.d (.bool p223))) 20 (.d (.int .u8 (p222.toNat : Int)))) 19 (.d (.str p221))) 5 (.d (.str p220))) 4 (.r (.msl 40 0 0 p219.length))) 0 (.d (.str a1))), (up (hB fun _ => 0) 40 ⟨0, some (.own 30 4 (e_GVar.cells p219))⟩)⟩
noncomputable def f15_l2_j4 (a1 : List UInt8) (p219 : List GVar) (p220 : List UInt8) (p221 : List UInt8) (p222 : UInt8) (p223 : Bool) : Option (((List GVar) × (List UInt8)) ⊕ (((List GVar)) ⊕ ((List GVar) × Int))) := ((idx p220 0).bind fun z69 => (bif (decide ((z69.toNat : Int) = 3)) then (f15_l2_j5 a1 p219 p220 (GVar.mk ([]) ([]) true false) p221 p222 p223) else (f15_l2_j5 a1 p219 p220 (GVar.mk ([]) ([]) false false) p221 p222 p223)))
theorem f15_l2_j4_ok {base : Orc} {d : Nat} (hd : 5 ≤ d) (a1 : List UInt8) {r : ((List GVar) × (List UInt8)) ⊕ (((List GVar)) ⊕ ((List GVar) × Int))} {Q : PX → St → Prop} (hQ : ∀ e st', finL (f15_l2_H a1) (f15_l2_X a1) r e st' → Q e st') (p219 : List GVar) (p220 : List UInt8) (p221 : List UInt8) (p222 : UInt8) (p223 : Bool) (hS : f15_l2_j4 a1 p219 p220 p221 p222 p223 = some r) {st : St} (he : keepSt [0, 4, 5, 19, 20, 21] [(40, .id 40)] [] st = f15_l2_j4_J a1 p219 p220 p221 p222 p223) : ZR (lev codes base (d - 1)) Q c15_3 [.blk 1] st := by
  refine zrKeep he ?_
  unfold f15_l2_j4 at hS
  refine zrSeq ?_
  refine zrReg ?_
  refine zlRun (n := 1) (j := 1) rfl (by kernel_rfl) ?_
  refine bindE hS (fun z69 hz69 hS => ?_)
  refine zlOp (d := some 24) (op := (.ixStr (.tmp 23) (.const (.int .i64 0)))) (g := none) (v := (.d (.int .u8 (z69.toNat : Int)))) (ups := []) (j := 2) rfl (by kernel_rfl) (by kernel_rfl) (ev_ixStr (kk := .i64) (s := p220) (j := 0) (by kernel_rfl) (by kernel_rfl) hz69) ?_
  refine zlBool (d := 25) (op := (.cmpI .eql (.tmp 24) (.const (.int .u8 3)))) (g := none) (j := 3) (decide ((z69.toNat : Int) = 3)) rfl (by kernel_rfl) (by kernel_rfl) (by kernel_rfl) (fun hc => ?_) (fun hc => ?_)
  · replace hS := cond_t hc hS
    refine zlRun (n := 3) (j := 6) rfl (by kernel_rfl) ?_
    refine zlEnd (by kernel_rfl) ?_
    refine zkSeq ?_
    exact f15_l2_j5_ok hd a1 hQ p219 p220 (GVar.mk ([]) ([]) true false) p221 p222 p223 hS (by kernel_rfl)
  · replace hS := cond_f hc hS
    refine zlRun (n := 3) (j := 6) rfl (by kernel_rfl) ?_
    refine zlEnd (by kernel_rfl) ?_
    refine zkSeq ?_
    exact f15_l2_j5_ok hd a1 hQ p219 p220 (GVar.mk ([]) ([]) false false) p221 p222 p223 hS (by kernel_rfl)
def f15_l2_j7_J (a1 : List UInt8) (p241 : List GVar) (p242 : List UInt8) (p243 : GVar) : St := ⟨(up (up (up (up (up (up (up (fun _ => .un) 21 (.tup [])) 20 (.tup [])) 19 (.tup [])) 6 (.r (.ptr 56 0 0))) 5 (.d (.str p242))) 4 (.r (.msl 40 0 0 p241.length))) 0 (.d (.str a1))), (up (up (hB fun _ => 0) 56 ⟨0, some (.box ((.d (.str p243.Name)) :: ((.d (.str p243.Value)) :: ((.d (.bool p243.User)) :: ((.d (.bool p243.Set)) :: [])))))⟩) 40 ⟨0, some (.own 30 4 (e_GVar.cells p241))⟩)⟩
noncomputable def f15_l2_j7 (a1 : List UInt8) (p241 : List GVar) (p242 : List UInt8) (p243 : GVar) : Option (((List GVar) × (List UInt8)) ⊕ (((List GVar)) ⊕ ((List GVar) × Int))) := ((sub? p242 1 (p242.length : Int)).bind fun z71 => ((f39 z71).bind fun z72 => (bif (!decide (z72.2 = ([] : List UInt8))) then ((idx z72.2 0).bind fun z74 => (bif (decide ((z74.toNat : Int) = 1)) then ((sub? z72.2 1 (z72.2.length : Int)).bind fun z75 => ((f39 z75).bind fun z76 => ((app? 40 p241 ([(GVar.mk z72.1 z76.1 p243.User true)] : List GVar)).bind fun z77 => (some (.inl (z77, z76.2)))))) else ((app? 40 p241 ([(GVar.mk z72.1 p243.Value p243.User p243.Set)] : List GVar)).bind fun z78 => (some (.inl (z78, z72.2)))))) else ((app? 40 p241 ([(GVar.mk z72.1 p243.Value p243.User p243.Set)] : List GVar)).bind fun z79 => (some (.inl (z79, z72.2)))))))
theorem f15_l2_j7_ok {base : Orc} {d : Nat} (hd : 5 ≤ d) (a1 : List UInt8) {r : ((List GVar) × (List UInt8)) ⊕ (((List GVar)) ⊕ ((List GVar) × Int))} {Q : PX → St → Prop} (hQ : ∀ e st', finL (f15_l2_H a1) (f15_l2_X a1) r e st' → Q e st') (p241 : List GVar) (p242 : List UInt8) (p243 : GVar) (hS : f15_l2_j7 a1 p241 p242 p243 = some r) {st : St} (he : keepSt [0, 4, 5, 6, 19, 20, 21] [(40, .id 40), (56, .id 56)] [] st = f15_l2_j7_J a1 p241 p242 p243) : ZR (lev codes base (d - 1)) Q c15_2 [.blk 1] st := by
  refine zrKeep he ?_
  unfold f15_l2_j7 at hS
  refine zrSeq ?_
  refine zrReg ?_
  refine zlRun (n := 1) (j := 1) rfl (by kernel_rfl) ?_
  refine bindE hS (fun z71 hz71 hS => ?_)
  refine zlOp (d := some 29) (op := (.slStr (.tmp 28) (.some (.const (.int .i64 1))) .none)) (g := none) (v := (.d (.str z71))) (ups := []) (j := 2) rfl (by kernel_rfl) (by kernel_rfl) (ev_slStr (s := p242) (a := 1) (c := (p242.length : Int)) (by kernel_rfl) (bnd_s _ (kk := .i64) (j := 1) (by kernel_rfl)) (bnd_n _) hz71) ?_
  refine bindE hS (fun z72 hz72 hS => ?_)
  refine zlOp (d := some 30) (op := (.call 39 [(.tmp 29)])) (g := none) (v := (.tup [(.d (.str z72.1)), (.d (.str z72.2))])) (ups := []) (j := 3) rfl (by kernel_rfl) (by kernel_rfl) (ev_call (args := [(.d (.str z71))]) (l := [(.d (.str z71))]) (r := (.tup [(.d (.str z72.1)), (.d (.str z72.2))])) (by kernel_rfl) (by kernel_rfl) (f39_ok base (d - 1) (dpt hd rfl) z71 z72 hz72) (by kernel_rfl) (by kernel_rfl) (by kernel_rfl)) ?_
  refine zlRun (n := 6) (j := 9) rfl (by kernel_rfl) ?_
  refine zlEnd (by kernel_rfl) ?_
  refine zkSeq ?_
  refine zrSeq ?_
  refine zrSeq ?_
  refine zrReg ?_
  refine zlRun (n := 1) (j := 1) rfl (by kernel_rfl) ?_
  refine zlBool (d := 35) (op := (.strO .neq (.tmp 34) (.const (.string ⟨#[]⟩)))) (g := none) (j := 2) (!decide (z72.2 = ([] : List UInt8))) rfl (by kernel_rfl) (by kernel_rfl) (by kernel_rfl) (fun hc => ?_) (fun hc => ?_)
  · replace hS := cond_t hc hS
    refine zlRun (n := 2) (j := 4) rfl (by kernel_rfl) ?_
    refine bindE hS (fun z74 hz74 hS => ?_)
    refine zlOp (d := some 38) (op := (.ixStr (.tmp 37) (.const (.int .i64 0)))) (g := (some (36, true))) (v := (.d (.int .u8 (z74.toNat : Int)))) (ups := []) (j := 5) rfl (by kernel_rfl) (by kernel_rfl) (ev_ixStr (kk := .i64) (s := z72.2) (j := 0) (by kernel_rfl) (by kernel_rfl) hz74) ?_
    refine zlBool (d := 39) (op := (.cmpI .eql (.tmp 38) (.const (.int .u8 1)))) (g := (some (36, true))) (j := 6) (decide ((z74.toNat : Int) = 1)) rfl (by kernel_rfl) (by kernel_rfl) (by kernel_rfl) (fun hc => ?_) (fun hc => ?_)
    · replace hS := cond_t hc hS
      refine zlRun (n := 1) (j := 7) rfl (by kernel_rfl) ?_
      refine zlEnd (by kernel_rfl) ?_
      refine zkSeq ?_
      refine zrCondT (by kernel_rfl) ?_
      refine zrSeq ?_
      refine zrReg ?_
      refine zlRun (n := 2) (j := 2) rfl (by kernel_rfl) ?_
      refine zlEnd (by kernel_rfl) ?_
      refine zkSeq ?_
      refine zrReg ?_
      refine zlRun (n := 1) (j := 1) rfl (by kernel_rfl) ?_
      refine bindE hS (fun z75 hz75 hS => ?_)
      refine zlOp (d := some 44) (op := (.slStr (.tmp 43) (.some (.const (.int .i64 1))) .none)) (g := none) (v := (.d (.str z75))) (ups := []) (j := 2) rfl (by kernel_rfl) (by kernel_rfl) (ev_slStr (s := z72.2) (a := 1) (c := (z72.2.length : Int)) (by kernel_rfl) (bnd_s _ (kk := .i64) (j := 1) (by kernel_rfl)) (bnd_n _) hz75) ?_
      refine bindE hS (fun z76 hz76 hS => ?_)
      refine zlOp (d := some 45) (op := (.call 39 [(.tmp 44)])) (g := none) (v := (.tup [(.d (.str z76.1)), (.d (.str z76.2))])) (ups := []) (j := 3) rfl (by kernel_rfl) (by kernel_rfl) (ev_call (args := [(.d (.str z75))]) (l := [(.d (.str z75))]) (r := (.tup [(.d (.str z76.1)), (.d (.str z76.2))])) (by kernel_rfl) (by kernel_rfl) (f39_ok base (d - 1) (dpt hd rfl) z75 z76 hz76) (by kernel_rfl) (by kernel_rfl) (by kernel_rfl)) ?_
      refine zlRun (n := 6) (j := 9) rfl (by kernel_rfl) ?_
      refine zlEnd (by kernel_rfl) ?_
      refine zkSeq ?_
      refine zrReg ?_
      refine zlRun (n := 3) (j := 3) rfl (by kernel_rfl) ?_
      refine bindE hS (fun z77 hz77 hS => ?_)
      refine zlOp (d := some 52) (op := (.app 30 4 40 (.tmp 49) (.tmp 51))) (g := none) (v := (.r (.msl 40 1 0 z77.length))) (ups := [(40, ⟨1, some (.own 30 4 (e_GVar.cells z77))⟩)]) (j := 4) rfl (by kernel_rfl) (by kernel_rfl) (ev_app e_GVar (b := 40) (g := 0) (n := p241.length) (xs := p241) (ys := [(GVar.mk z72.1 z76.1 p243.User true)]) ((congrArg (asL _) (by kernel_rfl : ρof _ (.tmp 51) = (.r (.msl 416 1 0 (([(GVar.mk z72.1 z76.1 p243.User true)] : List GVar).length))))).trans (as_whole e_GVar (e := 30) (k := 4) (xs := [(GVar.mk z72.1 z76.1 p243.User true)]) (by kernel_rfl) rfl rfl)) rfl (by kernel_rfl) rfl (by kernel_rfl) rfl hz77) ?_
      refine zlRun (n := 1) (j := 5) rfl (by kernel_rfl) ?_
      refine zlEnd (by kernel_rfl) ?_
      refine zkBlk ?_
      refine zkNil ?_
      exact endQ hS hQ (finL_n (by show keepSt _ _ _ _ = _; kernel_rfl))
    · replace hS := cond_f hc hS
      refine zlRun (n := 1) (j := 7) rfl (by kernel_rfl) ?_
      refine zlEnd (by kernel_rfl) ?_
      refine zkSeq ?_
      refine zrCondF (by kernel_rfl) ?_
      refine zrSkip ?_
      refine zkSeq ?_
      refine zrReg ?_
      refine zlRun (n := 3) (j := 3) rfl (by kernel_rfl) ?_
      refine bindE hS (fun z78 hz78 hS => ?_)
      refine zlOp (d := some 52) (op := (.app 30 4 40 (.tmp 49) (.tmp 51))) (g := none) (v := (.r (.msl 40 1 0 z78.length))) (ups := [(40, ⟨1, some (.own 30 4 (e_GVar.cells z78))⟩)]) (j := 4) rfl (by kernel_rfl) (by kernel_rfl) (ev_app e_GVar (b := 40) (g := 0) (n := p241.length) (xs := p241) (ys := [(GVar.mk z72.1 p243.Value p243.User p243.Set)]) ((congrArg (asL _) (by kernel_rfl : ρof _ (.tmp 51) = (.r (.msl 416 1 0 (([(GVar.mk z72.1 p243.Value p243.User p243.Set)] : List GVar).length))))).trans (as_whole e_GVar (e := 30) (k := 4) (xs := [(GVar.mk z72.1 p243.Value p243.User p243.Set)]) (by kernel_rfl) rfl rfl)) rfl (by kernel_rfl) rfl (by kernel_rfl) rfl hz78) ?_
      refine zlRun (n := 1) (j := 5) rfl (by kernel_rfl) ?_
      refine zlEnd (by kernel_rfl) ?_
      refine zkBlk ?_
      refine zkNil ?_
      exact endQ hS hQ (finL_n (by show keepSt _ _ _ _ = _; kernel_rfl))
  · replace hS := cond_f hc hS
    refine zlRun (n := 5) (j := 7) rfl (by kernel_rfl) ?_
    refine zlEnd (by kernel_rfl) ?_
    refine zkSeq ?_
    refine zrCondF (by kernel_rfl) ?_
    refine zrSkip ?_
    refine zkSeq ?_
    refine zrReg ?_
    refine zlRun (n := 3) (j := 3) rfl (by kernel_rfl) ?_
    refine bindE hS (fun z79 hz79 hS => ?_)
    refine zlOp (d := some 52) (op := (.app 30 4 40 (.tmp 49) (.tmp 51))) (g := none) (v := (.r (.msl 40 1 0 z79.length))) (ups := [(40, ⟨1, some (.own 30 4 (e_GVar.cells z79))⟩)]) (j := 4) rfl (by kernel_rfl) (by kernel_rfl) (ev_app e_GVar (b := 40) (g := 0) (n := p241.length) (xs := p241) (ys := [(GVar.mk z72.1 p243.Value p243.User p243.Set)]) ((congrArg (asL _) (by kernel_rfl : ρof _ (.tmp 51) = (.r (.msl 416 1 0 (([(GVar.mk z72.1 p243.Value p243.User p243.Set)] : List GVar).length))))).trans (as_whole e_GVar (e := 30) (k := 4) (xs := [(GVar.mk z72.1 p243.Value p243.User p243.Set)]) (by kernel_rfl) rfl rfl)) rfl (by kernel_rfl) rfl (by kernel_rfl) rfl hz79) ?_
    refine zlRun (n := 1) (j := 5) rfl (by kernel_rfl) ?_
    refine zlEnd (by kernel_rfl) ?_
    refine zkBlk ?_
    refine zkNil ?_
    exact endQ hS hQ (finL_n (by show keepSt _ _ _ _ = _; kernel_rfl))
def f15_l2_j6_J (a1 : List UInt8) (p224 : List GVar) (p225 : List UInt8) : St := ⟨(up (up (up (up (up (up (fun _ => .un) 21 (.tup [])) 20 (.tup [])) 19 (.tup [])) 5 (.d (.str p225))) 4 (.r (.msl 40 0 0 p224.length))) 0 (.d (.str a1))), (up (hB fun _ => 0) 40 ⟨0, some (.own 30 4 (e_GVar.cells p224))⟩)⟩
noncomputable def f15_l2_j6 (a1 : List UInt8) (p224 : List GVar) (p225 : List UInt8) : Option (((List GVar) × (List UInt8)) ⊕ (((List GVar)) ⊕ ((List GVar) × Int))) := ((idx p225 0).bind fun z80 => (bif (decide ((z80.toNat : Int) = 3)) then (f15_l2_j7 a1 p224 p225 (GVar.mk ([]) ([]) true false)) else (f15_l2_j7 a1 p224 p225 (GVar.mk ([]) ([]) false false))))
theorem f15_l2_j6_ok {base : Orc} {d : Nat} (hd : 5 ≤ d) (a1 : List UInt8) {r : ((List GVar) × (List UInt8)) ⊕ (((List GVar)) ⊕ ((List GVar) × Int))} {Q : PX → St → Prop} (hQ : ∀ e st', finL (f15_l2_H a1) (f15_l2_X a1) r e st' → Q e st') (p224 : List GVar) (p225 : List UInt8) (hS : f15_l2_j6 a1 p224 p225 = some r) {st : St} (he : keepSt [0, 4, 5, 19, 20, 21] [(40, .id 40)] [] st = f15_l2_j6_J a1 p224 p225) : ZR (lev codes base (d - 1)) Q c15_3 [.blk 1] st := by
  refine zrKeep he ?_
  unfold f15_l2_j6 at hS
  refine zrSeq ?_
  refine zrReg ?_
  refine zlRun (n := 1) (j := 1) rfl (by kernel_rfl) ?_
  refine bindE hS (fun z80 hz80 hS => ?_)
  refine zlOp (d := some 24) (op := (.ixStr (.tmp 23) (.const (.int .i64 0)))) (g := none) (v := (.d (.int .u8 (z80.toNat : Int)))) (ups := []) (j := 2) rfl (by kernel_rfl) (by kernel_rfl) (ev_ixStr (kk := .i64) (s := p225) (j := 0) (by kernel_rfl) (by kernel_rfl) hz80) ?_
  refine zlBool (d := 25) (op := (.cmpI .eql (.tmp 24) (.const (.int .u8 3)))) (g := none) (j := 3) (decide ((z80.toNat : Int) = 3)) rfl (by kernel_rfl) (by kernel_rfl) (by kernel_rfl) (fun hc => ?_) (fun hc => ?_)
  · replace hS := cond_t hc hS
    refine zlRun (n := 3) (j := 6) rfl (by kernel_rfl) ?_
    refine zlEnd (by kernel_rfl) ?_
    refine zkSeq ?_
    exact f15_l2_j7_ok hd a1 hQ p224 p225 (GVar.mk ([]) ([]) true false) hS (by kernel_rfl)
  · replace hS := cond_f hc hS
    refine zlRun (n := 3) (j := 6) rfl (by kernel_rfl) ?_
    refine zlEnd (by kernel_rfl) ?_
    refine zkSeq ?_
    exact f15_l2_j7_ok hd a1 hQ p224 p225 (GVar.mk ([]) ([]) false false) hS (by kernel_rfl)
def f15_l2_j3_J (a1 : List UInt8) (p207 : List GVar) (p208 : List UInt8) : St := ⟨(up (up (up (fun _ => .un) 5 (.d (.str p208))) 4 (.r (.msl 40 0 0 p207.length))) 0 (.d (.str a1))), (up (hB fun _ => 0) 40 ⟨0, some (.own 30 4 (e_GVar.cells p207))⟩)⟩
noncomputable def f15_l2_j3 (a1 : List UInt8) (p207 : List GVar) (p208 : List UInt8) : Option (((List GVar) × (List UInt8)) ⊕ (((List GVar)) ⊕ ((List GVar) × Int))) := ((idx p208 0).bind fun z81 => (bif (!decide ((z81.toNat : Int) = 0)) then ((idx p208 0).bind fun z82 => (bif (!decide ((z82.toNat : Int) = 3)) then (some (.inr (.inr ([], 4)))) else (f15_l2_j4 a1 p207 p208 p208 z82 false))) else (f15_l2_j6 a1 p207 p208)))
theorem f15_l2_j3_ok {base : Orc} {d : Nat} (hd : 5 ≤ d) (a1 : List UInt8) {r : ((List GVar) × (List UInt8)) ⊕ (((List GVar)) ⊕ ((List GVar) × Int))} {Q : PX → St → Prop} (hQ : ∀ e st', finL (f15_l2_H a1) (f15_l2_X a1) r e st' → Q e st') (p207 : List GVar) (p208 : List UInt8) (hS : f15_l2_j3 a1 p207 p208 = some r) {st : St} (he : keepSt [0, 4, 5] [(40, .id 40)] [] st = f15_l2_j3_J a1 p207 p208) : ZR (lev codes base (d - 1)) Q c15_4 [] st := by
  refine zrKeep he ?_
  unfold f15_l2_j3 at hS
  refine zrBlk ?_
  refine zrSeq ?_
  refine zrSeq ?_
  refine zrReg ?_
  refine zlRun (n := 1) (j := 1) rfl (by kernel_rfl) ?_
  refine bindE hS (fun z81 hz81 hS => ?_)
  refine zlOp (d := some 16) (op := (.ixStr (.tmp 15) (.const (.int .i64 0)))) (g := none) (v := (.d (.int .u8 (z81.toNat : Int)))) (ups := []) (j := 2) rfl (by kernel_rfl) (by kernel_rfl) (ev_ixStr (kk := .i64) (s := p208) (j := 0) (by kernel_rfl) (by kernel_rfl) hz81) ?_
  refine zlBool (d := 17) (op := (.cmpI .neq (.tmp 16) (.const (.int .u8 0)))) (g := none) (j := 3) (!decide ((z81.toNat : Int) = 0)) rfl (by kernel_rfl) (by kernel_rfl) (by kernel_rfl) (fun hc => ?_) (fun hc => ?_)
  · replace hS := cond_t hc hS
    refine zlRun (n := 2) (j := 5) rfl (by kernel_rfl) ?_
    refine bindE hS (fun z82 hz82 hS => ?_)
    refine zlOp (d := some 20) (op := (.ixStr (.tmp 19) (.const (.int .i64 0)))) (g := (some (18, true))) (v := (.d (.int .u8 (z82.toNat : Int)))) (ups := []) (j := 6) rfl (by kernel_rfl) (by kernel_rfl) (ev_ixStr (kk := .i64) (s := p208) (j := 0) (by kernel_rfl) (by kernel_rfl) hz82) ?_
    refine zlBool (d := 21) (op := (.cmpI .neq (.tmp 20) (.const (.int .u8 3)))) (g := (some (18, true))) (j := 7) (!decide ((z82.toNat : Int) = 3)) rfl (by kernel_rfl) (by kernel_rfl) (by kernel_rfl) (fun hc => ?_) (fun hc => ?_)
    · replace hS := cond_t hc hS
      refine zlRun (n := 1) (j := 8) rfl (by kernel_rfl) ?_
      refine zlEnd (by kernel_rfl) ?_
      refine zkSeq ?_
      refine zrCondT (by kernel_rfl) ?_
      refine zrSeq ?_
      refine zrReg ?_
      refine zlRun (n := 2) (j := 2) rfl (by kernel_rfl) ?_
      refine zlEnd (by kernel_rfl) ?_
      refine zkSeq ?_
      refine zrRet ?_
      refine zkSeqR ?_
      refine zkBlkR ?_
      refine zkNil ?_
      exact endQ hS hQ (finL_x (by intro h; cases h) (by show _ = _ ∧ _ = _; exact ⟨rfl, by kernel_rfl⟩))
    · replace hS := cond_f hc hS
      refine zlRun (n := 1) (j := 8) rfl (by kernel_rfl) ?_
      refine zlEnd (by kernel_rfl) ?_
      refine zkSeq ?_
      refine zrCondF (by kernel_rfl) ?_
      refine zrSkip ?_
      refine zkSeq ?_
      exact f15_l2_j4_ok hd a1 hQ p207 p208 p208 z82 false hS (by kernel_rfl)
  · replace hS := cond_f hc hS
    refine zlRun (n := 5) (j := 8) rfl (by kernel_rfl) ?_
    refine zlEnd (by kernel_rfl) ?_
    refine zkSeq ?_
    refine zrCondF (by kernel_rfl) ?_
    refine zrSkip ?_
    refine zkSeq ?_
    exact f15_l2_j6_ok hd a1 hQ p207 p208 hS (by kernel_rfl)
noncomputable def f15_l2 (a1 : List UInt8) (x : (List GVar) × (List UInt8)) : Option (((List GVar) × (List UInt8)) ⊕ (((List GVar)) ⊕ ((List GVar) × Int))) := (bif (!decide (x.2 = ([] : List UInt8))) then (f15_l2_j3 a1 x.1 x.2) else (some (.inr (.inl x.1))))
theorem f15_l2_ok {base : Orc} {d : Nat} (hd : 5 ≤ d) (a1 : List UInt8) {r : ((List GVar) × (List UInt8)) ⊕ (((List GVar)) ⊕ ((List GVar) × Int))} {Q : PX → St → Prop} (hQ : ∀ e st', finL (f15_l2_H a1) (f15_l2_X a1) r e st' → Q e st') {x : (List GVar) × (List UInt8)} (hS : f15_l2 a1 x = some r) {st : St} (he : f15_l2_H a1 x st) : ZR (lev codes base (d - 1)) Q c15_5 [] st := by
  refine zrKeep he ?_
  unfold f15_l2 at hS
  refine zrSeq ?_
  refine zrSeq ?_
  refine zrReg ?_
  refine zlRun (n := 1) (j := 1) rfl (by kernel_rfl) ?_
  refine zlBool (d := 14) (op := (.strO .neq (.tmp 13) (.const (.string ⟨#[]⟩)))) (g := none) (j := 2) (!decide (x.2 = ([] : List UInt8))) rfl (by kernel_rfl) (by kernel_rfl) (by kernel_rfl) (fun hc => ?_) (fun hc => ?_)
  · replace hS := cond_t hc hS
    refine zlEnd (by kernel_rfl) ?_
    refine zkSeq ?_
    refine zrCondT (by kernel_rfl) ?_
    refine zrSkip ?_
    refine zkSeq ?_
    exact f15_l2_j3_ok hd a1 hQ x.1 x.2 hS (by kernel_rfl)
  · replace hS := cond_f hc hS
    refine zlEnd (by kernel_rfl) ?_
    refine zkSeq ?_
    refine zrCondF (by kernel_rfl) ?_
    refine zrKeep (J := f15_l2_e0_J a1 x.1) (by kernel_rfl) ?_
    refine zrExit ?_
    refine zkSeqX ?_
    refine zkNil ?_
    exact endQ hS hQ (finL_x (by intro h; cases h) (by show _ = _ ∧ _ = _; exact ⟨rfl, rfl⟩))
def f15_j0_J (a1 : List UInt8) : St := ⟨(up (fun _ => .un) 0 (.d (.str a1))), (hB fun _ => 0)⟩
noncomputable def f15_j0 (a1 : List UInt8) : Option ((List GVar) × Int) := ((loopO (f15_l2 a1) ([], a1)).bind fun z83 => (Sum.elim (fun z84 => (f15_j1 a1 z84)) (fun z85 => (some (z85.1, z85.2))) z83))
theorem f15_j0_ok {base : Orc} {d : Nat} (hd : 5 ≤ d) (a1 : List UInt8) {r : (List GVar) × Int} {Q : PX → St → Prop} (hQ : ∀ e st', f15_Q r e st' → Q e st')  (hS : f15_j0 a1 = some r) {st : St} (he : keepSt [0] [] [] st = f15_j0_J a1) : ZR (lev codes base (d - 1)) Q c15_6 [] st := by
  refine zrKeep he ?_
  unfold f15_j0 at hS
  refine zrSeq ?_
  refine zrReg ?_
  refine zlRun (n := 1) (j := 1) rfl (by kernel_rfl) ?_
  refine zlEnd (by kernel_rfl) ?_
  refine zkSeq ?_
  refine zrSeq ?_
  refine zrSeq ?_
  refine zrReg ?_
  refine zlRun (n := 2) (j := 2) rfl (by kernel_rfl) ?_
  refine zlEnd (by kernel_rfl) ?_
  refine zkSeq ?_
  refine zrBlk ?_
  refine bindE hS (fun z83 hz83 hS => ?_)
  refine zrLoop (f15_l2_H a1) (f15_l2_X a1) (fun x st r Q h0 hS hQ => f15_l2_ok hd a1 hQ hS h0) (x := ([], a1)) (z := z83) (by show keepSt _ _ _ _ = _; kernel_rfl) hz83 ?_
  rcases z83 with z84 | z85
  · replace hS := (show _ = _ from hS)
    simp only [Sum.elim_inl] at hS
    intro e st' _ hX
    obtain ⟨rfl, rfl⟩ : _ ∧ _ := hX
    refine zkBlkX ?_
    refine zkSeq ?_
    exact f15_j1_ok hd a1 hQ z84 hS (by kernel_rfl)
  · simp only [Sum.elim_inr] at hS
    intro e st' _ hX
    obtain ⟨rfl, hX⟩ : _ ∧ _ := hX
    refine zkBlkR ?_
    refine zkSeqR ?_
    refine zkNil ?_
    exact endQ hS hQ (fRet ((congrArg (fun s => outR s 0 c15.res) hX).trans (f15_out z85.1 z85.2)))
noncomputable def f15 (a1 : List UInt8) : Option ((List GVar) × Int) := (bif (decide (4096 < (a1.length : Int))) then (some ([], 2)) else (f15_j0 a1 ))
theorem f15_ok (base : Orc) (d : Nat) (hd : 5 ≤ d) (a1 : List UInt8) (r : (List GVar) × Int) (hS : f15 a1 = some r) : lev codes base d 15 [(.d (.str a1))] [] = some ((.tup [(.r (.own 0 30 4 r.1.length (e_GVar.cells r.1))), (.d (.int .i64 r.2))]), []) := by
  refine lev_go codes15 rfl rfl (Nat.le_trans (Nat.le_of_ble_eq_true rfl) hd) fun Q hQ => ?_
  unfold f15 at hS
  show ZR _ Q c15_b [] _
  replace hQ : ∀ e st', f15_Q r e st' → Q e st' := hQ
  refine zrSeq ?_
  refine zrReg ?_
  refine zlRun (n := 2) (j := 2) rfl (by kernel_rfl) ?_
  refine zlEnd (by kernel_rfl) ?_
  refine zkSeq ?_
  refine zrSeq ?_
  refine zrSeq ?_
  refine zrReg ?_
  refine zlRun (n := 2) (j := 2) rfl (by kernel_rfl) ?_
  refine zlBool (d := 11) (op := (.cmpI .gtr (.tmp 10) (.const (.int .i64 4096)))) (g := none) (j := 3) (decide (4096 < (a1.length : Int))) rfl (by kernel_rfl) (by kernel_rfl) (by kernel_rfl) (fun hc => ?_) (fun hc => ?_)
  · replace hS := cond_t hc hS
    refine zlEnd (by kernel_rfl) ?_
    refine zkSeq ?_
    refine zrCondT (by kernel_rfl) ?_
    refine zrSeq ?_
    refine zrReg ?_
    refine zlRun (n := 2) (j := 2) rfl (by kernel_rfl) ?_
    refine zlEnd (by kernel_rfl) ?_
    refine zkSeq ?_
    refine zrRet ?_
    refine zkSeqR ?_
    refine zkNil ?_
    exact endQ hS hQ (fRet ((congrArg (fun s => outR s 0 c15.res) (by kernel_rfl : finSt c15.fin _ = f15_fin [] 2)).trans (f15_out [] 2)))
  · replace hS := cond_f hc hS
    refine zlEnd (by kernel_rfl) ?_
    refine zkSeq ?_
    refine zrCondF (by kernel_rfl) ?_
    refine zrSkip ?_
    refine zkSeq ?_
    exact f15_j0_ok hd a1 hQ  hS (by kernel_rfl)
/- slices.Equal[[]farwriter/api.Var,farwriter/api.Var] -/
def f16_fin (p14 : Bool) : St := ⟨(up (fun _ => .un) 4 (.d (.bool p14))), (hB fun _ => 0)⟩
theorem f16_out (p14 : Bool) : outR (f16_fin p14) 0 c16.res = some ((.d (.bool p14)), []) := by
  kernel_rfl
def f16_Q (r : Bool) (e : PX) (st : St) : Prop := DoneF c16 0 ((.d (.bool r)), []) e st
def f16_l1_J (a1 : List GVar) (a2 : List GVar) (x : Int) : St := ⟨(up (up (up (up (fun _ => .un) 13 (.d (.int .i64 x))) 12 (.d (.int .i64 (a1.length : Int)))) 1 (.d (.sl a2.length (e_GVar.cells a2)))) 0 (.d (.sl a1.length (e_GVar.cells a1)))), (hB fun _ => 0)⟩
def f16_l1_H (a1 : List GVar) (a2 : List GVar) (x : Int) (st : St) : Prop := keepSt [0, 1, 12, 13] [] [] st = f16_l1_J a1 a2 x
def f16_l1_e0_J (a1 : List GVar) (a2 : List GVar) : St := ⟨(fun _ => .un), (hB fun _ => 0)⟩
def f16_l1_X (a1 : List GVar) (a2 : List GVar) (z : Unit ⊕ Bool) (e : PX) (st : St) : Prop := (match z with | .inl z => e = .exit 0 ∧ st = f16_l1_e0_J a1 a2 | .inr z => e = .ret ∧ finSt c16.fin st = f16_fin z)
def f16_l1_j3_J (a1 : List GVar) (a2 : List GVar) (p20 : Int) : St := ⟨(up (up (up (up (fun _ => .un) 13 (.d (.int .i64 p20))) 12 (.d (.int .i64 (a1.length : Int)))) 1 (.d (.sl a2.length (e_GVar.cells a2)))) 0 (.d (.sl a1.length (e_GVar.cells a1)))), (hB fun _ => 0)⟩
noncomputable def f16_l1_j3 (a1 : List GVar) (a2 : List GVar) (p20 : Int) : Option (Int ⊕ (Unit ⊕ Bool)) := ((idx a1 p20).bind fun z7 => ((idx a2 p20).bind fun z8 => (bif (!(decide (z7.Name = z8.Name) && (decide (z7.Value = z8.Value) && (decide (z7.User = z8.User) && (decide (z7.Set = z8.Set) && true))))) then (some (.inr (.inr false))) else (some (.inl (IntKind.i64.wrap (p20 + 1)))))))
theorem f16_l1_j3_ok {base : Orc} {d : Nat} (hd : 1 ≤ d) (a1 : List GVar) (a2 : List GVar) {r : Int ⊕ (Unit ⊕ Bool)} {Q : PX → St → Prop} (hQ : ∀ e st', finL (f16_l1_H a1 a2) (f16_l1_X a1 a2) r e st' → Q e st') (p20 : Int) (hS : f16_l1_j3 a1 a2 p20 = some r) {st : St} (he : keepSt [0, 1, 12, 13] [] [] st = f16_l1_j3_J a1 a2 p20) : ZR (lev codes base (d - 1)) Q c16_1 [] st := by
  refine zrKeep he ?_
  unfold f16_l1_j3 at hS
  refine zrSeq ?_
  refine zrBlk ?_
  refine zrSeq ?_
  refine zrReg ?_
  refine zlRun (n := 2) (j := 2) rfl (by kernel_rfl) ?_
  refine zlEnd (by kernel_rfl) ?_
  refine zkSeq ?_
  refine zrSeq ?_
  refine zrRegD ?_
  refine zdRun (n := 2) (j := 2) (ts := [[], []]) (acc' := [[], []]) rfl (by kernel_rfl) (by kernel_rfl) (by kernel_rfl) ?_
  refine bindE hS (fun z7 hz7 hS => ?_)
  refine zdOp (d := some 18) (op := (.ixS 30 4 (.tmp 16) (.tmp 17))) (g := none) (v := (.rptr (e_GVar.enc z7 ++ (e_GVar.cells (a1.drop ((p20 : Int).toNat + 1)))))) (ups := []) (j := 3) (t1 := []) (acc' := [[], [], []]) (by kernel_rfl) (by kernel_rfl) rfl (by kernel_rfl) (by kernel_rfl) (ev_ixS e_GVar (kk := .i64) (xs := a1) (j := p20) (by kernel_rfl) (by kernel_rfl) hz7 rfl (by intro h; cases h)) ?_
  refine zdRun (n := 3) (j := 6) (ts := [[], [], []]) (acc' := [[], [], [], [], [], []]) rfl (by kernel_rfl) (by kernel_rfl) (by kernel_rfl) ?_
  refine bindE hS (fun z8 hz8 hS => ?_)
  refine zdOp (d := some 22) (op := (.ixS 30 4 (.tmp 20) (.tmp 21))) (g := none) (v := (.rptr (e_GVar.enc z8 ++ (e_GVar.cells (a2.drop ((p20 : Int).toNat + 1)))))) (ups := []) (j := 7) (t1 := []) (acc' := [[], [], [], [], [], [], []]) (by kernel_rfl) (by kernel_rfl) rfl (by kernel_rfl) (by kernel_rfl) (ev_ixS e_GVar (kk := .i64) (xs := a2) (j := p20) (by kernel_rfl) (by kernel_rfl) hz8 rfl (by intro h; cases h)) ?_
  refine zdRun (n := 1) (j := 8) (ts := [[]]) (acc' := [[], [], [], [], [], [], [], []]) rfl (by kernel_rfl) (by kernel_rfl) (by kernel_rfl) ?_
  refine zdBool (d := 24) (op := (.eqA .true [(2, .str), (2, .bool)] (.tmp 19) (.tmp 23))) (g := none) (j := 9) (t1 := []) (acc' := [[], [], [], [], [], [], [], [], []]) (!(decide (z7.Name = z8.Name) && (decide (z7.Value = z8.Value) && (decide (z7.User = z8.User) && (decide (z7.Set = z8.Set) && true))))) (by kernel_rfl) (by kernel_rfl) rfl (by kernel_rfl) (by kernel_rfl) (by kernel_rfl) (fun hc => ?_) (fun hc => ?_)
  · replace hS := cond_t hc hS
    refine zdEnd (by kernel_rfl) (by kernel_rfl) ?_
    refine zkSeq ?_
    refine zrCondT (by kernel_rfl) ?_
    refine zrSeq ?_
    refine zrReg ?_
    refine zlRun (n := 1) (j := 1) rfl (by kernel_rfl) ?_
    refine zlEnd (by kernel_rfl) ?_
    refine zkSeq ?_
    refine zrRet ?_
    refine zkBlkR ?_
    refine zkSeqR ?_
    refine zkNil ?_
    exact endQ hS hQ (finL_x (by intro h; cases h) (by show _ = _ ∧ _ = _; exact ⟨rfl, by kernel_rfl⟩))
  · replace hS := cond_f hc hS
    refine zdEnd (by kernel_rfl) (by kernel_rfl) ?_
    refine zkSeq ?_
    refine zrCondF (by kernel_rfl) ?_
    refine zrSkip ?_
    refine zkBlk ?_
    refine zkSeq ?_
    refine zrReg ?_
    refine zlRun (n := 2) (j := 2) rfl (by kernel_rfl) ?_
    refine zlEnd (by kernel_rfl) ?_
    refine zkNil ?_
    exact endQ hS hQ (finL_n (by show keepSt _ _ _ _ = _; kernel_rfl))
def f16_l1_j2_J (a1 : List GVar) (a2 : List GVar) (p18 : Int) (p19 : Bool) : St := ⟨(up (up (up (up (up (fun _ => .un) 14 (.d (.bool p19))) 13 (.d (.int .i64 p18))) 12 (.d (.int .i64 (a1.length : Int)))) 1 (.d (.sl a2.length (e_GVar.cells a2)))) 0 (.d (.sl a1.length (e_GVar.cells a1)))), (hB fun _ => 0)⟩
noncomputable def f16_l1_j2 (a1 : List GVar) (a2 : List GVar) (p18 : Int) (p19 : Bool) : Option (Int ⊕ (Unit ⊕ Bool)) := (bif p19 then (f16_l1_j3 a1 a2 p18) else (some (.inr (.inl ()))))
theorem f16_l1_j2_ok {base : Orc} {d : Nat} (hd : 1 ≤ d) (a1 : List GVar) (a2 : List GVar) {r : Int ⊕ (Unit ⊕ Bool)} {Q : PX → St → Prop} (hQ : ∀ e st', finL (f16_l1_H a1 a2) (f16_l1_X a1 a2) r e st' → Q e st') (p18 : Int) (p19 : Bool) (hS : f16_l1_j2 a1 a2 p18 p19 = some r) {st : St} (he : keepSt [0, 1, 12, 13, 14] [] [] st = f16_l1_j2_J a1 a2 p18 p19) : ZR (lev codes base (d - 1)) Q c16_2 [] st := by
  refine zrKeep he ?_
  unfold f16_l1_j2 at hS
  refine zrSeq ?_
  refine zrSplit 14 p19 (by kernel_rfl) (fun hc => ?_) (fun hc => ?_)
  · replace hS := cond_t hc hS
    refine zrCondT (by kernel_rfl) ?_
    refine zrSkip ?_
    refine zkSeq ?_
    exact f16_l1_j3_ok hd a1 a2 hQ p18 hS (by kernel_rfl)
  · replace hS := cond_f hc hS
    refine zrCondF (by kernel_rfl) ?_
    refine zrKeep (J := f16_l1_e0_J a1 a2) (by kernel_rfl) ?_
    refine zrExit ?_
    refine zkSeqX ?_
    refine zkNil ?_
    exact endQ hS hQ (finL_x (by intro h; cases h) (by show _ = _ ∧ _ = _; exact ⟨rfl, rfl⟩))
noncomputable def f16_l1 (a1 : List GVar) (a2 : List GVar) (x : Int) : Option (Int ⊕ (Unit ⊕ Bool)) := (bif (decide (x < (a1.length : Int))) then (f16_l1_j2 a1 a2 x true) else (f16_l1_j2 a1 a2 x false))
theorem f16_l1_ok {base : Orc} {d : Nat} (hd : 1 ≤ d) (a1 : List GVar) (a2 : List GVar) {r : Int ⊕ (Unit ⊕ Bool)} {Q : PX → St → Prop} (hQ : ∀ e st', finL (f16_l1_H a1 a2) (f16_l1_X a1 a2) r e st' → Q e st') {x : Int} (hS : f16_l1 a1 a2 x = some r) {st : St} (he : f16_l1_H a1 a2 x st) : ZR (lev codes base (d - 1)) Q c16_3 [] st := by
  refine zrKeep he ?_
  unfold f16_l1 at hS
  refine zrSeq ?_
  refine zrReg ?_
  refine zlBool (d := 14) (op := (.cmpI .lss (.tmp 13) (.tmp 12))) (g := none) (j := 1) (decide (x < (a1.length : Int))) rfl (by kernel_rfl) (by kernel_rfl) (by kernel_rfl) (fun hc => ?_) (fun hc => ?_)
  · replace hS := cond_t hc hS
    refine zlEnd (by kernel_rfl) ?_
    refine zkSeq ?_
    exact f16_l1_j2_ok hd a1 a2 hQ x true hS (by kernel_rfl)
  · replace hS := cond_f hc hS
    refine zlEnd (by kernel_rfl) ?_
    refine zkSeq ?_
    exact f16_l1_j2_ok hd a1 a2 hQ x false hS (by kernel_rfl)
def f16_j0_J (a1 : List GVar) (a2 : List GVar) : St := ⟨(up (up (fun _ => .un) 1 (.d (.sl a2.length (e_GVar.cells a2)))) 0 (.d (.sl a1.length (e_GVar.cells a1)))), (hB fun _ => 0)⟩
noncomputable def f16_j0 (a1 : List GVar) (a2 : List GVar) : Option (Bool) := ((loopO (f16_l1 a1 a2) 0).bind fun z9 => (Sum.elim (fun z10 => (some true)) (fun z11 => (some z11)) z9))
theorem f16_j0_ok {base : Orc} {d : Nat} (hd : 1 ≤ d) (a1 : List GVar) (a2 : List GVar) {r : Bool} {Q : PX → St → Prop} (hQ : ∀ e st', f16_Q r e st' → Q e st')  (hS : f16_j0 a1 a2 = some r) {st : St} (he : keepSt [0, 1] [] [] st = f16_j0_J a1 a2) : ZR (lev codes base (d - 1)) Q c16_4 [] st := by
  refine zrKeep he ?_
  unfold f16_j0 at hS
  refine zrSeq ?_
  refine zrSeq ?_
  refine zrReg ?_
  refine zlRun (n := 3) (j := 3) rfl (by kernel_rfl) ?_
  refine zlEnd (by kernel_rfl) ?_
  refine zkSeq ?_
  refine zrBlk ?_
  refine bindE hS (fun z9 hz9 hS => ?_)
  refine zrLoop (f16_l1_H a1 a2) (f16_l1_X a1 a2) (fun x st r Q h0 hS hQ => f16_l1_ok hd a1 a2 hQ hS h0) (x := 0) (z := z9) (by show keepSt _ _ _ _ = _; kernel_rfl) hz9 ?_
  rcases z9 with z10 | z11
  · replace hS := (show _ = _ from hS)
    simp only [Sum.elim_inl] at hS
    intro e st' _ hX
    obtain ⟨rfl, rfl⟩ : _ ∧ _ := hX
    refine zkBlkX ?_
    refine zkSeq ?_
    refine zrSeq ?_
    refine zrReg ?_
    refine zlRun (n := 1) (j := 1) rfl (by kernel_rfl) ?_
    refine zlEnd (by kernel_rfl) ?_
    refine zkSeq ?_
    refine zrRet ?_
    refine zkNil ?_
    exact endQ hS hQ (fRet ((congrArg (fun s => outR s 0 c16.res) (by kernel_rfl : finSt c16.fin _ = f16_fin true)).trans (f16_out true)))
  · simp only [Sum.elim_inr] at hS
    intro e st' _ hX
    obtain ⟨rfl, hX⟩ : _ ∧ _ := hX
    refine zkBlkR ?_
    refine zkSeqR ?_
    refine zkNil ?_
    exact endQ hS hQ (fRet ((congrArg (fun s => outR s 0 c16.res) hX).trans (f16_out z11)))
noncomputable def f16 (a1 : List GVar) (a2 : List GVar) : Option (Bool) := (bif (!decide ((a1.length : Int) = (a2.length : Int))) then (some false) else (f16_j0 a1 a2 ))
theorem f16_ok (base : Orc) (d : Nat) (hd : 1 ≤ d) (a1 : List GVar) (a2 : List GVar) (r : Bool) (hS : f16 a1 a2 = some r) : lev codes base d 16 [(.d (.sl a1.length (e_GVar.cells a1))), (.d (.sl a2.length (e_GVar.cells a2)))] [] = some ((.d (.bool r)), []) := by
  refine lev_go codes16 rfl rfl (Nat.le_trans (Nat.le_of_ble_eq_true rfl) hd) fun Q hQ => ?_
  unfold f16 at hS
  show ZR _ Q c16_b [] _
  replace hQ : ∀ e st', f16_Q r e st' → Q e st' := hQ
  refine zrSeq ?_
  refine zrReg ?_
  refine zlRun (n := 1) (j := 1) rfl (by kernel_rfl) ?_
  refine zlEnd (by kernel_rfl) ?_
  refine zkSeq ?_
  refine zrSeq ?_
  refine zrSeq ?_
  refine zrReg ?_
  refine zlRun (n := 4) (j := 4) rfl (by kernel_rfl) ?_
  refine zlBool (d := 10) (op := (.cmpI .neq (.tmp 7) (.tmp 9))) (g := none) (j := 5) (!decide ((a1.length : Int) = (a2.length : Int))) rfl (by kernel_rfl) (by kernel_rfl) (by kernel_rfl) (fun hc => ?_) (fun hc => ?_)
  · replace hS := cond_t hc hS
    refine zlEnd (by kernel_rfl) ?_
    refine zkSeq ?_
    refine zrCondT (by kernel_rfl) ?_
    refine zrSeq ?_
    refine zrReg ?_
    refine zlRun (n := 1) (j := 1) rfl (by kernel_rfl) ?_
    refine zlEnd (by kernel_rfl) ?_
    refine zkSeq ?_
    refine zrRet ?_
    refine zkSeqR ?_
    refine zkNil ?_
    exact endQ hS hQ (fRet ((congrArg (fun s => outR s 0 c16.res) (by kernel_rfl : finSt c16.fin _ = f16_fin false)).trans (f16_out false)))
  · replace hS := cond_f hc hS
    refine zlEnd (by kernel_rfl) ?_
    refine zkSeq ?_
    refine zrCondF (by kernel_rfl) ?_
    refine zrSkip ?_
    refine zkSeq ?_
    exact f16_j0_ok hd a1 a2 hQ  hS (by kernel_rfl)
/- farwriter/farkeep.environLives -/
def f17_fin (p3 : Bool) : St := ⟨(up (fun _ => .un) 0 (.d (.bool p3))), (hB fun _ => 0)⟩
theorem f17_out (p3 : Bool) : outR (f17_fin p3) 0 c17.res = some ((.d (.bool p3)), []) := by
  kernel_rfl
def f17_Q (r : Bool) (e : PX) (st : St) : Prop := DoneF c17 0 ((.d (.bool r)), []) e st
noncomputable def f17  : Option (Bool) := ((f14 [(GVar.mk ([85, 83, 69, 82]) ([97, 1]) false true), (GVar.mk ([88]) ([]) true false)]).bind fun z2 => (bif (decide (z2.2 = 0)) then (bif (decide (z2.1 = ([0, 85, 83, 69, 82, 1, 97, 2, 1, 3, 88] : List UInt8))) then (some true) else (some false)) else (some false)))
theorem f17_ok (base : Orc) (d : Nat) (hd : 5 ≤ d)  (r : Bool) (hS : f17 = some r) : lev codes base d 17 [] [] = some ((.d (.bool r)), []) := by
  refine lev_go codes17 rfl rfl (Nat.le_trans (Nat.le_of_ble_eq_true rfl) hd) fun Q hQ => ?_
  unfold f17 at hS
  show ZR _ Q c17_b [] _
  replace hQ : ∀ e st', f17_Q r e st' → Q e st' := hQ
  refine zrSeq ?_
  refine zrReg ?_
  refine zlRun (n := 1) (j := 1) rfl (by kernel_rfl) ?_
  refine zlEnd (by kernel_rfl) ?_
  refine zkSeq ?_
  refine zrSeq ?_
  refine zrReg ?_
  refine zlRun (n := 3) (j := 3) rfl (by kernel_rfl) ?_
  refine bindE hS (fun z2 hz2 hS => ?_)
  refine zlOp (d := some 7) (op := (.call 14 [(.tmp 6)])) (g := none) (v := (.tup [(.d (.str z2.1)), (.d (.int .i64 z2.2))])) (ups := []) (j := 4) rfl (by kernel_rfl) (by kernel_rfl) (ev_call (args := [(.r (.msl 56 1 0 (([(GVar.mk ([85, 83, 69, 82]) ([97, 1]) false true), (GVar.mk ([88]) ([]) true false)] : List GVar).length)))]) (l := [(.d (.sl ([(GVar.mk ([85, 83, 69, 82]) ([97, 1]) false true), (GVar.mk ([88]) ([]) true false)] : List GVar).length (e_GVar.cells ([(GVar.mk ([85, 83, 69, 82]) ([97, 1]) false true), (GVar.mk ([88]) ([]) true false)]))))]) (r := (.tup [(.d (.str z2.1)), (.d (.int .i64 z2.2))])) (by kernel_rfl) (l_cons (l_own e_GVar (e := 30) (k := 4) (xs := [(GVar.mk ([85, 83, 69, 82]) ([97, 1]) false true), (GVar.mk ([88]) ([]) true false)]) (by kernel_rfl) rfl rfl) l_nil) (f14_ok base (d - 1) (dpt hd rfl) [(GVar.mk ([85, 83, 69, 82]) ([97, 1]) false true), (GVar.mk ([88]) ([]) true false)] z2 hz2) (by kernel_rfl) (by kernel_rfl) (by kernel_rfl)) ?_
  refine zlRun (n := 5) (j := 9) rfl (by kernel_rfl) ?_
  refine zlEnd (by kernel_rfl) ?_
  refine zkSeq ?_
  refine zrSeq ?_
  refine zrReg ?_
  refine zlRun (n := 1) (j := 1) rfl (by kernel_rfl) ?_
  refine zlBool (d := 11) (op := (.cmpI .eql (.tmp 10) (.const (.int .i64 0)))) (g := none) (j := 2) (decide (z2.2 = 0)) rfl (by kernel_rfl) (by kernel_rfl) (by kernel_rfl) (fun hc => ?_) (fun hc => ?_)
  · replace hS := cond_t hc hS
    refine zlRun (n := 2) (j := 4) rfl (by kernel_rfl) ?_
    refine zlBool (d := 14) (op := (.strO .eql (.tmp 13) (.const (.string ⟨#[0, 85, 83, 69, 82, 1, 97, 2, 1, 3, 88]⟩)))) (g := (some (12, true))) (j := 5) (decide (z2.1 = ([0, 85, 83, 69, 82, 1, 97, 2, 1, 3, 88] : List UInt8))) rfl (by kernel_rfl) (by kernel_rfl) (by kernel_rfl) (fun hc => ?_) (fun hc => ?_)
    · replace hS := cond_t hc hS
      refine zlRun (n := 2) (j := 7) rfl (by kernel_rfl) ?_
      refine zlEnd (by kernel_rfl) ?_
      refine zkSeq ?_
      refine zrRet ?_
      refine zkNil ?_
      exact endQ hS hQ (fRet ((congrArg (fun s => outR s 0 c17.res) (by kernel_rfl : finSt c17.fin _ = f17_fin true)).trans (f17_out true)))
    · replace hS := cond_f hc hS
      refine zlRun (n := 2) (j := 7) rfl (by kernel_rfl) ?_
      refine zlEnd (by kernel_rfl) ?_
      refine zkSeq ?_
      refine zrRet ?_
      refine zkNil ?_
      exact endQ hS hQ (fRet ((congrArg (fun s => outR s 0 c17.res) (by kernel_rfl : finSt c17.fin _ = f17_fin false)).trans (f17_out false)))
  · replace hS := cond_f hc hS
    refine zlRun (n := 5) (j := 7) rfl (by kernel_rfl) ?_
    refine zlEnd (by kernel_rfl) ?_
    refine zkSeq ?_
    refine zrRet ?_
    refine zkNil ?_
    exact endQ hS hQ (fRet ((congrArg (fun s => outR s 0 c17.res) (by kernel_rfl : finSt c17.fin _ = f17_fin false)).trans (f17_out false)))
/- farwriter/farkeep.EnvironBack -/
def f3_fin (p13 : Bool) : St := ⟨(up (fun _ => .un) 4 (.d (.bool p13))), (hB fun _ => 0)⟩
theorem f3_out (p13 : Bool) : outR (f3_fin p13) 0 c3.res = some ((.d (.bool p13)), []) := by
  kernel_rfl
def f3_Q (r : Bool) (e : PX) (st : St) : Prop := DoneF c3 0 ((.d (.bool r)), []) e st
def f3_j1_J (a1 : List GVar) (a2 : List UInt8) (p24 : List GVar) : St := ⟨(up (up (fun _ => .un) 9 (.r (.msl 328 0 0 p24.length))) 1 (.d (.str a2))), (up (hB fun _ => 0) 328 ⟨0, some (.own 30 4 (e_GVar.cells p24))⟩)⟩
noncomputable def f3_j1 (a1 : List GVar) (a2 : List UInt8) (p24 : List GVar) : Option (Bool) := ((f14 p24).bind fun z14 => (bif (decide (z14.2 = 0)) then (bif (decide (z14.1 = a2)) then (some true) else (some false)) else (some false)))
theorem f3_j1_ok {base : Orc} {d : Nat} (hd : 6 ≤ d) (a1 : List GVar) (a2 : List UInt8) {r : Bool} {Q : PX → St → Prop} (hQ : ∀ e st', f3_Q r e st' → Q e st') (p24 : List GVar) (hS : f3_j1 a1 a2 p24 = some r) {st : St} (he : keepSt [1, 9] [(328, .id 328)] [] st = f3_j1_J a1 a2 p24) : ZR (lev codes base (d - 1)) Q c3_1 [] st := by
  refine zrKeep he ?_
  unfold f3_j1 at hS
  refine zrSeq ?_
  refine zrReg ?_
  refine zlRun (n := 1) (j := 1) rfl (by kernel_rfl) ?_
  refine bindE hS (fun z14 hz14 hS => ?_)
  refine zlOp (d := some 57) (op := (.call 14 [(.tmp 56)])) (g := none) (v := (.tup [(.d (.str z14.1)), (.d (.int .i64 z14.2))])) (ups := []) (j := 2) rfl (by kernel_rfl) (by kernel_rfl) (ev_call (args := [(.r (.msl 328 0 0 p24.length))]) (l := [(.d (.sl p24.length (e_GVar.cells p24)))]) (r := (.tup [(.d (.str z14.1)), (.d (.int .i64 z14.2))])) (by kernel_rfl) (l_cons (l_own e_GVar (e := 30) (k := 4) (xs := p24) (by kernel_rfl) rfl rfl) l_nil) (f14_ok base (d - 1) (dpt hd rfl) p24 z14 hz14) (by kernel_rfl) (by kernel_rfl) (by kernel_rfl)) ?_
  refine zlRun (n := 5) (j := 7) rfl (by kernel_rfl) ?_
  refine zlEnd (by kernel_rfl) ?_
  refine zkSeq ?_
  refine zrSeq ?_
  refine zrReg ?_
  refine zlRun (n := 1) (j := 1) rfl (by kernel_rfl) ?_
  refine zlBool (d := 61) (op := (.cmpI .eql (.tmp 60) (.const (.int .i64 0)))) (g := none) (j := 2) (decide (z14.2 = 0)) rfl (by kernel_rfl) (by kernel_rfl) (by kernel_rfl) (fun hc => ?_) (fun hc => ?_)
  · replace hS := cond_t hc hS
    refine zlRun (n := 3) (j := 5) rfl (by kernel_rfl) ?_
    refine zlBool (d := 65) (op := (.strO .eql (.tmp 63) (.tmp 64))) (g := (some (62, true))) (j := 6) (decide (z14.1 = a2)) rfl (by kernel_rfl) (by kernel_rfl) (by kernel_rfl) (fun hc => ?_) (fun hc => ?_)
    · replace hS := cond_t hc hS
      refine zlRun (n := 2) (j := 8) rfl (by kernel_rfl) ?_
      refine zlEnd (by kernel_rfl) ?_
      refine zkSeq ?_
      refine zrRet ?_
      refine zkNil ?_
      exact endQ hS hQ (fRet ((congrArg (fun s => outR s 0 c3.res) (by kernel_rfl : finSt c3.fin _ = f3_fin true)).trans (f3_out true)))
    · replace hS := cond_f hc hS
      refine zlRun (n := 2) (j := 8) rfl (by kernel_rfl) ?_
      refine zlEnd (by kernel_rfl) ?_
      refine zkSeq ?_
      refine zrRet ?_
      refine zkNil ?_
      exact endQ hS hQ (fRet ((congrArg (fun s => outR s 0 c3.res) (by kernel_rfl : finSt c3.fin _ = f3_fin false)).trans (f3_out false)))
  · replace hS := cond_f hc hS
    refine zlRun (n := 6) (j := 8) rfl (by kernel_rfl) ?_
    refine zlEnd (by kernel_rfl) ?_
    refine zkSeq ?_
    refine zrRet ?_
    refine zkNil ?_
    exact endQ hS hQ (fRet ((congrArg (fun s => outR s 0 c3.res) (by kernel_rfl : finSt c3.fin _ = f3_fin false)).trans (f3_out false)))
def f3_j2_J (a1 : List GVar) (a2 : List UInt8) (p26 : List GVar) : St := ⟨(up (fun _ => .un) 9 (.r (.msl 328 0 0 p26.length))), (up (hB fun _ => 0) 328 ⟨0, some (.own 30 4 (e_GVar.cells p26))⟩)⟩
noncomputable def f3_j2 (a1 : List GVar) (a2 : List UInt8) (p26 : List GVar) : Option (Bool) := (f17.bind fun z16 => (bif z16 then (bif (decide ((p26.length : Int) = 0)) then (some true) else (some false)) else (some false)))
theorem f3_j2_ok {base : Orc} {d : Nat} (hd : 6 ≤ d) (a1 : List GVar) (a2 : List UInt8) {r : Bool} {Q : PX → St → Prop} (hQ : ∀ e st', f3_Q r e st' → Q e st') (p26 : List GVar) (hS : f3_j2 a1 a2 p26 = some r) {st : St} (he : keepSt [9] [(328, .id 328)] [] st = f3_j2_J a1 a2 p26) : ZR (lev codes base (d - 1)) Q c3_2 [.seq c3_1] st := by
  refine zrKeep he ?_
  unfold f3_j2 at hS
  refine zrSeq ?_
  refine zrReg ?_
  refine bindE hS (fun z16 hz16 hS => ?_)
  refine zlOp (d := some 49) (op := (.call 17 [])) (g := none) (v := (.d (.bool z16))) (ups := []) (j := 1) rfl (by kernel_rfl) (by kernel_rfl) (ev_call (args := []) (l := []) (r := (.d (.bool z16))) (by kernel_rfl) (by kernel_rfl) (f17_ok base (d - 1) (dpt hd rfl)  z16 hz16) (by kernel_rfl) (by kernel_rfl) (by kernel_rfl)) ?_
  refine zlRun (n := 1) (j := 2) rfl (by kernel_rfl) ?_
  refine zlSplit 50 z16 (by kernel_rfl) (fun hc => ?_) (fun hc => ?_)
  · replace hS := cond_t hc hS
    refine zlRun (n := 2) (j := 4) rfl (by kernel_rfl) ?_
    refine zlBool (d := 53) (op := (.cmpI .eql (.tmp 52) (.const (.int .i64 0)))) (g := (some (50, true))) (j := 5) (decide ((p26.length : Int) = 0)) rfl (by kernel_rfl) (by kernel_rfl) (by kernel_rfl) (fun hc => ?_) (fun hc => ?_)
    · replace hS := cond_t hc hS
      refine zlRun (n := 2) (j := 7) rfl (by kernel_rfl) ?_
      refine zlEnd (by kernel_rfl) ?_
      refine zkSeq ?_
      refine zrRet ?_
      refine zkSeqR ?_
      refine zkNil ?_
      exact endQ hS hQ (fRet ((congrArg (fun s => outR s 0 c3.res) (by kernel_rfl : finSt c3.fin _ = f3_fin true)).trans (f3_out true)))
    · replace hS := cond_f hc hS
      refine zlRun (n := 2) (j := 7) rfl (by kernel_rfl) ?_
      refine zlEnd (by kernel_rfl) ?_
      refine zkSeq ?_
      refine zrRet ?_
      refine zkSeqR ?_
      refine zkNil ?_
      exact endQ hS hQ (fRet ((congrArg (fun s => outR s 0 c3.res) (by kernel_rfl : finSt c3.fin _ = f3_fin false)).trans (f3_out false)))
  · replace hS := cond_f hc hS
    refine zlRun (n := 5) (j := 7) rfl (by kernel_rfl) ?_
    refine zlEnd (by kernel_rfl) ?_
    refine zkSeq ?_
    refine zrRet ?_
    refine zkSeqR ?_
    refine zkNil ?_
    exact endQ hS hQ (fRet ((congrArg (fun s => outR s 0 c3.res) (by kernel_rfl : finSt c3.fin _ = f3_fin false)).trans (f3_out false)))
def f3_j0_J (a1 : List GVar) (a2 : List UInt8) : St := ⟨(up (fun _ => .un) 1 (.d (.str a2))), (hB fun _ => 0)⟩
noncomputable def f3_j0 (a1 : List GVar) (a2 : List UInt8) : Option (Bool) := ((f15 a2).bind fun z11 => (f17.bind fun z17 => (bif (!z17) then (f3_j2 a1 a2 z11.1) else (bif (!decide (z11.2 = 0)) then (f3_j2 a1 a2 z11.1) else (f3_j1 a1 a2 z11.1)))))
theorem f3_j0_ok {base : Orc} {d : Nat} (hd : 6 ≤ d) (a1 : List GVar) (a2 : List UInt8) {r : Bool} {Q : PX → St → Prop} (hQ : ∀ e st', f3_Q r e st' → Q e st')  (hS : f3_j0 a1 a2 = some r) {st : St} (he : keepSt [1] [] [] st = f3_j0_J a1 a2) : ZR (lev codes base (d - 1)) Q c3_3 [] st := by
  refine zrKeep he ?_
  unfold f3_j0 at hS
  refine zrSeq ?_
  refine zrReg ?_
  refine zlRun (n := 1) (j := 1) rfl (by kernel_rfl) ?_
  refine bindE hS (fun z11 hz11 hS => ?_)
  refine zlOp (d := some 40) (op := (.call 15 [(.tmp 39)])) (g := none) (v := (.tup [(.r (.msl 328 1 0 z11.1.length)), (.d (.int .i64 z11.2))])) (ups := [(328, ⟨1, some (.own 30 4 (e_GVar.cells z11.1))⟩)]) (j := 2) rfl (by kernel_rfl) (by kernel_rfl) (ev_call (args := [(.d (.str a2))]) (l := [(.d (.str a2))]) (r := (.tup [(.r (.own 0 30 4 z11.1.length (e_GVar.cells z11.1))), (.d (.int .i64 z11.2))])) (by kernel_rfl) (by kernel_rfl) (f15_ok base (d - 1) (dpt hd rfl) a2 z11 hz11) (by kernel_rfl) (by kernel_rfl) (by kernel_rfl)) ?_
  refine zlRun (n := 5) (j := 7) rfl (by kernel_rfl) ?_
  refine zlEnd (by kernel_rfl) ?_
  refine zkSeq ?_
  refine zrSeq ?_
  refine zrSeq ?_
  refine zrReg ?_
  refine bindE hS (fun z17 hz17 hS => ?_)
  refine zlOp (d := some 43) (op := (.call 17 [])) (g := none) (v := (.d (.bool z17))) (ups := []) (j := 1) rfl (by kernel_rfl) (by kernel_rfl) (ev_call (args := []) (l := []) (r := (.d (.bool z17))) (by kernel_rfl) (by kernel_rfl) (f17_ok base (d - 1) (dpt hd rfl)  z17 hz17) (by kernel_rfl) (by kernel_rfl) (by kernel_rfl)) ?_
  refine zlRun (n := 2) (j := 3) rfl (by kernel_rfl) ?_
  refine zlSplit 45 (!z17) (by kernel_rfl) (fun hc => ?_) (fun hc => ?_)
  · replace hS := cond_t hc hS
    refine zlRun (n := 3) (j := 6) rfl (by kernel_rfl) ?_
    refine zlEnd (by kernel_rfl) ?_
    refine zkSeq ?_
    refine zrCondT (by kernel_rfl) ?_
    exact f3_j2_ok hd a1 a2 hQ z11.1 hS (by kernel_rfl)
  · replace hS := cond_f hc hS
    refine zlRun (n := 1) (j := 4) rfl (by kernel_rfl) ?_
    refine zlBool (d := 47) (op := (.cmpI .neq (.tmp 46) (.const (.int .i64 0)))) (g := (some (45, false))) (j := 5) (!decide (z11.2 = 0)) rfl (by kernel_rfl) (by kernel_rfl) (by kernel_rfl) (fun hc => ?_) (fun hc => ?_)
    · replace hS := cond_t hc hS
      refine zlRun (n := 1) (j := 6) rfl (by kernel_rfl) ?_
      refine zlEnd (by kernel_rfl) ?_
      refine zkSeq ?_
      refine zrCondT (by kernel_rfl) ?_
      exact f3_j2_ok hd a1 a2 hQ z11.1 hS (by kernel_rfl)
    · replace hS := cond_f hc hS
      refine zlRun (n := 1) (j := 6) rfl (by kernel_rfl) ?_
      refine zlEnd (by kernel_rfl) ?_
      refine zkSeq ?_
      refine zrCondF (by kernel_rfl) ?_
      refine zrSkip ?_
      refine zkSeq ?_
      exact f3_j1_ok hd a1 a2 hQ z11.1 hS (by kernel_rfl)
def f3_j3_J (a1 : List GVar) (a2 : List UInt8) : St := ⟨(up (fun _ => .un) 1 (.d (.str a2))), (hB fun _ => 0)⟩
noncomputable def f3_j3 (a1 : List GVar) (a2 : List UInt8) : Option (Bool) := (f3_j0 a1 a2 )
theorem f3_j3_ok {base : Orc} {d : Nat} (hd : 6 ≤ d) (a1 : List GVar) (a2 : List UInt8) {r : Bool} {Q : PX → St → Prop} (hQ : ∀ e st', f3_Q r e st' → Q e st')  (hS : f3_j3 a1 a2 = some r) {st : St} (he : keepSt [1] [] [] st = f3_j3_J a1 a2) : ZR (lev codes base (d - 1)) Q c3_4 [.seq c3_3] st := by
  refine zrKeep he ?_
  unfold f3_j3 at hS
  refine zrSkip ?_
  refine zkSeq ?_
  exact f3_j0_ok hd a1 a2 hQ  hS (by kernel_rfl)
noncomputable def f3 (a1 : List GVar) (a2 : List UInt8) : Option (Bool) := ((f14 a1).bind fun z18 => (bif (decide (z18.2 = 0)) then (bif (decide ((z18.1.length : Int) ≤ 4096)) then ((f15 z18.1).bind fun z19 => (bif (!decide (z19.2 = 0)) then (some false) else ((f16 z19.1 a1).bind fun z20 => (bif (!z20) then (some false) else (f3_j0 a1 a2 ))))) else (f3_j3 a1 a2 )) else (f3_j3 a1 a2 )))
theorem f3_ok (base : Orc) (d : Nat) (hd : 6 ≤ d) (a1 : List GVar) (a2 : List UInt8) (r : Bool) (hS : f3 a1 a2 = some r) : lev codes base d 3 [(.d (.sl a1.length (e_GVar.cells a1))), (.d (.str a2))] [] = some ((.d (.bool r)), []) := by
  refine lev_go codes3 rfl rfl (Nat.le_trans (Nat.le_of_ble_eq_true rfl) hd) fun Q hQ => ?_
  unfold f3 at hS
  show ZR _ Q c3_b [] _
  replace hQ : ∀ e st', f3_Q r e st' → Q e st' := hQ
  refine zrSeq ?_
  refine zrReg ?_
  refine zlRun (n := 1) (j := 1) rfl (by kernel_rfl) ?_
  refine zlEnd (by kernel_rfl) ?_
  refine zkSeq ?_
  refine zrSeq ?_
  refine zrSeq ?_
  refine zrReg ?_
  refine zlRun (n := 1) (j := 1) rfl (by kernel_rfl) ?_
  refine bindE hS (fun z18 hz18 hS => ?_)
  refine zlOp (d := some 15) (op := (.call 14 [(.tmp 14)])) (g := none) (v := (.tup [(.d (.str z18.1)), (.d (.int .i64 z18.2))])) (ups := []) (j := 2) rfl (by kernel_rfl) (by kernel_rfl) (ev_call (args := [(.d (.sl a1.length (e_GVar.cells a1)))]) (l := [(.d (.sl a1.length (e_GVar.cells a1)))]) (r := (.tup [(.d (.str z18.1)), (.d (.int .i64 z18.2))])) (by kernel_rfl) (by kernel_rfl) (f14_ok base (d - 1) (dpt hd rfl) a1 z18 hz18) (by kernel_rfl) (by kernel_rfl) (by kernel_rfl)) ?_
  refine zlRun (n := 5) (j := 7) rfl (by kernel_rfl) ?_
  refine zlEnd (by kernel_rfl) ?_
  refine zkSeq ?_
  refine zrSeq ?_
  refine zrReg ?_
  refine zlRun (n := 1) (j := 1) rfl (by kernel_rfl) ?_
  refine zlBool (d := 19) (op := (.cmpI .eql (.tmp 18) (.const (.int .i64 0)))) (g := none) (j := 2) (decide (z18.2 = 0)) rfl (by kernel_rfl) (by kernel_rfl) (by kernel_rfl) (fun hc => ?_) (fun hc => ?_)
  · replace hS := cond_t hc hS
    refine zlRun (n := 3) (j := 5) rfl (by kernel_rfl) ?_
    refine zlBool (d := 23) (op := (.cmpI .leq (.tmp 22) (.const (.int .i64 4096)))) (g := (some (20, true))) (j := 6) (decide ((z18.1.length : Int) ≤ 4096)) rfl (by kernel_rfl) (by kernel_rfl) (by kernel_rfl) (fun hc => ?_) (fun hc => ?_)
    · replace hS := cond_t hc hS
      refine zlRun (n := 1) (j := 7) rfl (by kernel_rfl) ?_
      refine zlEnd (by kernel_rfl) ?_
      refine zkSeq ?_
      refine zrCondT (by kernel_rfl) ?_
      refine zrSeq ?_
      refine zrReg ?_
      refine zlRun (n := 1) (j := 1) rfl (by kernel_rfl) ?_
      refine bindE hS (fun z19 hz19 hS => ?_)
      refine zlOp (d := some 27) (op := (.call 15 [(.tmp 26)])) (g := none) (v := (.tup [(.r (.msl 224 1 0 z19.1.length)), (.d (.int .i64 z19.2))])) (ups := [(224, ⟨1, some (.own 30 4 (e_GVar.cells z19.1))⟩)]) (j := 2) rfl (by kernel_rfl) (by kernel_rfl) (ev_call (args := [(.d (.str z18.1))]) (l := [(.d (.str z18.1))]) (r := (.tup [(.r (.own 0 30 4 z19.1.length (e_GVar.cells z19.1))), (.d (.int .i64 z19.2))])) (by kernel_rfl) (by kernel_rfl) (f15_ok base (d - 1) (dpt hd rfl) z18.1 z19 hz19) (by kernel_rfl) (by kernel_rfl) (by kernel_rfl)) ?_
      refine zlRun (n := 5) (j := 7) rfl (by kernel_rfl) ?_
      refine zlEnd (by kernel_rfl) ?_
      refine zkSeq ?_
      refine zrSeq ?_
      refine zrReg ?_
      refine zlRun (n := 1) (j := 1) rfl (by kernel_rfl) ?_
      refine zlBool (d := 31) (op := (.cmpI .neq (.tmp 30) (.const (.int .i64 0)))) (g := none) (j := 2) (!decide (z19.2 = 0)) rfl (by kernel_rfl) (by kernel_rfl) (by kernel_rfl) (fun hc => ?_) (fun hc => ?_)
      · replace hS := cond_t hc hS
        refine zlRun (n := 6) (j := 8) rfl (by kernel_rfl) ?_
        refine zlEnd (by kernel_rfl) ?_
        refine zkSeq ?_
        refine zrCondT (by kernel_rfl) ?_
        refine zrSeq ?_
        refine zrReg ?_
        refine zlRun (n := 1) (j := 1) rfl (by kernel_rfl) ?_
        refine zlEnd (by kernel_rfl) ?_
        refine zkSeq ?_
        refine zrRet ?_
        refine zkSeqR ?_
        refine zkNil ?_
        exact endQ hS hQ (fRet ((congrArg (fun s => outR s 0 c3.res) (by kernel_rfl : finSt c3.fin _ = f3_fin false)).trans (f3_out false)))
      · replace hS := cond_f hc hS
        refine zlRun (n := 3) (j := 5) rfl (by kernel_rfl) ?_
        refine bindE hS (fun z20 hz20 hS => ?_)
        refine zlOp (d := some 35) (op := (.call 16 [(.tmp 33), (.tmp 34)])) (g := (some (32, false))) (v := (.d (.bool z20))) (ups := []) (j := 6) rfl (by kernel_rfl) (by kernel_rfl) (ev_call (args := [(.r (.msl 224 1 0 z19.1.length)), (.d (.sl a1.length (e_GVar.cells a1)))]) (l := [(.d (.sl z19.1.length (e_GVar.cells z19.1))), (.d (.sl a1.length (e_GVar.cells a1)))]) (r := (.d (.bool z20))) (by kernel_rfl) (l_cons (l_own e_GVar (e := 30) (k := 4) (xs := z19.1) (by kernel_rfl) rfl rfl) (l_cons (by kernel_rfl) l_nil)) (f16_ok base (d - 1) (dpt hd rfl) z19.1 a1 z20 hz20) (by kernel_rfl) (by kernel_rfl) (by kernel_rfl)) ?_
        refine zlRun (n := 2) (j := 8) rfl (by kernel_rfl) ?_
        refine zlEnd (by kernel_rfl) ?_
        refine zkSeq ?_
        refine zrSplit 37 (!z20) (by kernel_rfl) (fun hc => ?_) (fun hc => ?_)
        · replace hS := cond_t hc hS
          refine zrCondT (by kernel_rfl) ?_
          refine zrSeq ?_
          refine zrReg ?_
          refine zlRun (n := 1) (j := 1) rfl (by kernel_rfl) ?_
          refine zlEnd (by kernel_rfl) ?_
          refine zkSeq ?_
          refine zrRet ?_
          refine zkSeqR ?_
          refine zkNil ?_
          exact endQ hS hQ (fRet ((congrArg (fun s => outR s 0 c3.res) (by kernel_rfl : finSt c3.fin _ = f3_fin false)).trans (f3_out false)))
        · replace hS := cond_f hc hS
          refine zrCondF (by kernel_rfl) ?_
          refine zrSkip ?_
          refine zkSeq ?_
          exact f3_j0_ok hd a1 a2 hQ  hS (by kernel_rfl)
    · replace hS := cond_f hc hS
      refine zlRun (n := 1) (j := 7) rfl (by kernel_rfl) ?_
      refine zlEnd (by kernel_rfl) ?_
      refine zkSeq ?_
      refine zrCondF (by kernel_rfl) ?_
      exact f3_j3_ok hd a1 a2 hQ  hS (by kernel_rfl)
  · replace hS := cond_f hc hS
    refine zlRun (n := 5) (j := 7) rfl (by kernel_rfl) ?_
    refine zlEnd (by kernel_rfl) ?_
    refine zkSeq ?_
    refine zrCondF (by kernel_rfl) ?_
    exact f3_j3_ok hd a1 a2 hQ  hS (by kernel_rfl)
/- slices.Clone[[]farwriter/api.Var,farwriter/api.Var] -/
def f18_fin (p1 : List GVar) : St := ⟨(up (fun _ => .un) 2 (.r (.msl 97 0 0 p1.length))), (up (hB fun _ => 0) 97 ⟨0, some (.own 30 4 (e_GVar.cells p1))⟩)⟩
theorem f18_out (p1 : List GVar) : outR (f18_fin p1) 0 c18.res = some ((.r (.own 0 30 4 p1.length (e_GVar.cells p1))), []) := by
  exact out_of (ids := []) (ids' := [97]) (l := [(.r (.msl 97 0 0 p1.length))]) (by kernel_rfl) (by kernel_rfl) (o_own e_GVar (e := 30) (k := 4) (xs := p1) (by kernel_rfl) rfl rfl rfl rfl)
def f18_Q (r : List GVar) (e : PX) (st : St) : Prop := DoneF c18 0 ((.r (.own 0 30 4 r.length (e_GVar.cells r))), []) e st
noncomputable def f18 (a1 : List GVar) : Option (List GVar) := ((app? 40 ([] : List GVar) a1).bind fun z2 => (some z2))
theorem f18_ok (base : Orc) (d : Nat) (hd : 1 ≤ d) (a1 : List GVar) (r : List GVar) (hS : f18 a1 = some r) : lev codes base d 18 [(.d (.sl a1.length (e_GVar.cells a1)))] [] = some ((.r (.own 0 30 4 r.length (e_GVar.cells r))), []) := by
  refine lev_goZ codes18 rfl rfl (Nat.le_trans (Nat.le_of_ble_eq_true rfl) hd) (fun Q hQ => ?_) (fun h0 Q hQ => ?_)
  · unfold f18 at hS
    show ZR _ Q c18_b [] _
    refine zrSeq ?_
    refine zrReg ?_
    refine zlRun (n := 1) (j := 1) rfl (by kernel_rfl) ?_
    refine zlEnd (by kernel_rfl) ?_
    refine zkSeq ?_
    refine zrSeq ?_
    refine zrSeq ?_
    refine zrReg ?_
    refine zlRun (n := 2) (j := 2) rfl (by kernel_rfl) ?_
    refine zlEnd (by kernel_rfl) ?_
    refine zkSeq ?_
    refine zrCondF (by kernel_rfl) ?_
    refine zrSkip ?_
    refine zkSeq ?_
    refine zrSeq ?_
    refine zrReg ?_
    refine zlRun (n := 2) (j := 2) rfl (by kernel_rfl) ?_
    refine bindE hS (fun z2 hz2 hS => ?_)
    refine zlOp (d := some 7) (op := (.app 30 4 40 (.tmp 5) (.tmp 6))) (g := none) (v := (.r (.msl 48 2 0 z2.length))) (ups := [(48, ⟨2, some (.own 30 4 (e_GVar.cells z2))⟩)]) (j := 3) rfl (by kernel_rfl) (by kernel_rfl) (ev_app e_GVar (b := 48) (g := 1) (n := ([] : List GVar).length) (xs := []) (ys := a1) ((congrArg (asL _) (by kernel_rfl : ρof _ (.tmp 6) = (.slz false a1.length (e_GVar.cells a1)))).trans rfl) rfl (by kernel_rfl) rfl (by kernel_rfl) rfl hz2) ?_
    refine zlRun (n := 1) (j := 4) rfl (by kernel_rfl) ?_
    refine zlEnd (by kernel_rfl) ?_
    refine zkSeq ?_
    refine zrRet ?_
    refine zkNil ?_
    exact endQ (F := f18_Q) hS hQ (fRet ((congrArg (fun s => outR s 0 c18.res) (by kernel_rfl : finSt c18.fin _ = f18_fin z2)).trans (f18_out z2)))
  · have hS : (some []) = some r := by
      have hl := List.eq_nil_of_length_eq_zero h0
      subst hl
      simpa [f18, app?] using hS
    show ZR _ Q c18_b [] _
    refine zrSeq ?_
    refine zrReg ?_
    refine zlRun (n := 1) (j := 1) rfl (by kernel_rfl) ?_
    refine zlEnd (by kernel_rfl) ?_
    refine zkSeq ?_
    refine zrSeq ?_
    refine zrSeq ?_
    refine zrReg ?_
    refine zlRun (n := 2) (j := 2) rfl (by kernel_rfl) ?_
    refine zlEnd (by kernel_rfl) ?_
    refine zkSeq ?_
    refine zrCondT (by kernel_rfl) ?_
    refine zrSeq ?_
    refine zrReg ?_
    refine zlRun (n := 1) (j := 1) rfl (by kernel_rfl) ?_
    refine zlEnd (by kernel_rfl) ?_
    refine zkSeq ?_
    refine zrRet ?_
    refine zkSeqR ?_
    refine zkNil ?_
    exact endQ (F := f18_Q) hS hQ (fRet ((congrArg (fun s => outR s 0 c18.res) (by kernel_rfl : finSt c18.fin _ = f18_fin [])).trans (f18_out [])))
/- farwriter/farkeep.EnvironJoins -/
def f4_fin (p23 : Bool) : St := ⟨(up (fun _ => .un) 4 (.d (.bool p23))), (hB fun _ => 0)⟩
theorem f4_out (p23 : Bool) : outR (f4_fin p23) 0 c4.res = some ((.d (.bool p23)), []) := by
  kernel_rfl
def f4_Q (r : Bool) (e : PX) (st : St) : Prop := DoneF c4 0 ((.d (.bool r)), []) e st
def f4_j0_J (a1 : List UInt8) (a2 : List UInt8) (p45 : List GVar) (p46 : List GVar) (p47 : List GVar) (p48 : Int) : St := ⟨(up (up (up (up (fun _ => .un) 10 (.d (.int .i64 p48))) 9 (.r (.msl 208 0 0 p47.length))) 7 (.r (.msl 152 0 0 p46.length))) 5 (.r (.msl 112 0 0 p45.length))), (up (up (up (hB fun _ => 0) 208 ⟨0, some (.own 30 4 (e_GVar.cells p47))⟩) 152 ⟨0, some (.own 30 4 (e_GVar.cells p46))⟩) 112 ⟨0, some (.own 30 4 (e_GVar.cells p45))⟩)⟩
noncomputable def f4_j0 (a1 : List UInt8) (a2 : List UInt8) (p45 : List GVar) (p46 : List GVar) (p47 : List GVar) (p48 : Int) : Option (Bool) := (bif (decide (p48 = 0)) then ((f18 p45).bind fun z18 => ((app? 40 z18 p46).bind fun z19 => ((f16 p47 z19).bind fun z20 => (some z20)))) else (some false))
theorem f4_j0_ok {base : Orc} {d : Nat} (hd : 6 ≤ d) (a1 : List UInt8) (a2 : List UInt8) {r : Bool} {Q : PX → St → Prop} (hQ : ∀ e st', f4_Q r e st' → Q e st') (p45 : List GVar) (p46 : List GVar) (p47 : List GVar) (p48 : Int) (hS : f4_j0 a1 a2 p45 p46 p47 p48 = some r) {st : St} (he : keepSt [5, 7, 9, 10] [(112, .id 112), (152, .id 152), (208, .id 208)] [] st = f4_j0_J a1 a2 p45 p46 p47 p48) : ZR (lev codes base (d - 1)) Q c4_1 [] st := by
  refine zrKeep he ?_
  unfold f4_j0 at hS
  refine zrSeq ?_
  refine zrReg ?_
  refine zlRun (n := 1) (j := 1) rfl (by kernel_rfl) ?_
  refine zlBool (d := 56) (op := (.cmpI .eql (.tmp 55) (.const (.int .i64 0)))) (g := none) (j := 2) (decide (p48 = 0)) rfl (by kernel_rfl) (by kernel_rfl) (by kernel_rfl) (fun hc => ?_) (fun hc => ?_)
  · replace hS := cond_t hc hS
    refine zlRun (n := 3) (j := 5) rfl (by kernel_rfl) ?_
    refine bindE hS (fun z18 hz18 hS => ?_)
    refine zlOp (d := some 60) (op := (.call 18 [(.tmp 59)])) (g := (some (57, true))) (v := (.r (.msl 488 1 0 z18.length))) (ups := [(488, ⟨1, some (.own 30 4 (e_GVar.cells z18))⟩)]) (j := 6) rfl (by kernel_rfl) (by kernel_rfl) (ev_call (args := [(.r (.msl 112 0 0 p45.length))]) (l := [(.d (.sl p45.length (e_GVar.cells p45)))]) (r := (.r (.own 0 30 4 z18.length (e_GVar.cells z18)))) (by kernel_rfl) (l_cons (l_own e_GVar (e := 30) (k := 4) (xs := p45) (by kernel_rfl) rfl rfl) l_nil) (f18_ok base (d - 1) (dpt hd rfl) p45 z18 hz18) (by simp only [free_own e_GVar (fun _ => rfl), free_tup, free_agg, free_nl, free_cs, free_int, free_bool, free_str, free_un, free_ni, free_s0, Bool.and_true, Bool.or_true, Bool.and_self]) (by kernel_rfl) (by kernel_rfl)) ?_
    refine zlRun (n := 1) (j := 7) rfl (by kernel_rfl) ?_
    refine bindE hS (fun z19 hz19 hS => ?_)
    refine zlOp (d := some 62) (op := (.app 30 4 40 (.tmp 60) (.tmp 61))) (g := (some (57, true))) (v := (.r (.msl 488 2 0 z19.length))) (ups := [(488, ⟨2, some (.own 30 4 (e_GVar.cells z19))⟩)]) (j := 8) rfl (by kernel_rfl) (by kernel_rfl) (ev_app e_GVar (b := 488) (g := 1) (n := z18.length) (xs := z18) (ys := p46) ((congrArg (asL _) (by kernel_rfl : ρof _ (.tmp 61) = (.r (.msl 152 0 0 p46.length)))).trans (as_whole e_GVar (e := 30) (k := 4) (xs := p46) (by kernel_rfl) rfl rfl)) rfl (by kernel_rfl) rfl (by kernel_rfl) rfl hz19) ?_
    refine bindE hS (fun z20 hz20 hS => ?_)
    refine zlOp (d := some 63) (op := (.call 16 [(.tmp 58), (.tmp 62)])) (g := (some (57, true))) (v := (.d (.bool z20))) (ups := []) (j := 9) rfl (by kernel_rfl) (by kernel_rfl) (ev_call (args := [(.r (.msl 208 0 0 p47.length)), (.r (.msl 488 2 0 z19.length))]) (l := [(.d (.sl p47.length (e_GVar.cells p47))), (.d (.sl z19.length (e_GVar.cells z19)))]) (r := (.d (.bool z20))) (by kernel_rfl) (l_cons (l_own e_GVar (e := 30) (k := 4) (xs := p47) (by kernel_rfl) rfl rfl) (l_cons (l_own e_GVar (e := 30) (k := 4) (xs := z19) (by kernel_rfl) rfl rfl) l_nil)) (f16_ok base (d - 1) (dpt hd rfl) p47 z19 z20 hz20) (by kernel_rfl) (by kernel_rfl) (by kernel_rfl)) ?_
    refine zlRun (n := 2) (j := 11) rfl (by kernel_rfl) ?_
    refine zlEnd (by kernel_rfl) ?_
    refine zkSeq ?_
    refine zrRet ?_
    refine zkNil ?_
    exact endQ hS hQ (fRet ((congrArg (fun s => outR s 0 c4.res) (by kernel_rfl : finSt c4.fin _ = f4_fin z20)).trans (f4_out z20)))
  · replace hS := cond_f hc hS
    refine zlRun (n := 9) (j := 11) rfl (by kernel_rfl) ?_
    refine zlEnd (by kernel_rfl) ?_
    refine zkSeq ?_
    refine zrRet ?_
    refine zkNil ?_
    exact endQ hS hQ (fRet ((congrArg (fun s => outR s 0 c4.res) (by kernel_rfl : finSt c4.fin _ = f4_fin false)).trans (f4_out false)))
noncomputable def f4 (a1 : List UInt8) (a2 : List UInt8) : Option (Bool) := ((f15 a1).bind fun z10 => ((f15 a2).bind fun z11 => ((cat? a1 a2).bind fun z14 => ((f15 z14).bind fun z15 => (f17.bind fun z21 => (bif (!z21) then (f17.bind fun z22 => (some z22)) else (bif (!decide (z10.2 = 0)) then (f17.bind fun z23 => (some z23)) else (bif (!decide (z11.2 = 0)) then (f17.bind fun z24 => (some z24)) else (bif (decide (4096 < (IntKind.i64.wrap ((a1.length : Int) + (a2.length : Int))))) then (f17.bind fun z25 => (some z25)) else (bif (decide (20 < (IntKind.i64.wrap ((z10.1.length : Int) + (z11.1.length : Int))))) then (f17.bind fun z26 => (some z26)) else (f4_j0 a1 a2 z10.1 z11.1 z15.1 z15.2)))))))))))
theorem f4_ok (base : Orc) (d : Nat) (hd : 6 ≤ d) (a1 : List UInt8) (a2 : List UInt8) (r : Bool) (hS : f4 a1 a2 = some r) : lev codes base d 4 [(.d (.str a1)), (.d (.str a2))] [] = some ((.d (.bool r)), []) := by
  refine lev_go codes4 rfl rfl (Nat.le_trans (Nat.le_of_ble_eq_true rfl) hd) fun Q hQ => ?_
  unfold f4 at hS
  show ZR _ Q c4_b [] _
  replace hQ : ∀ e st', f4_Q r e st' → Q e st' := hQ
  refine zrSeq ?_
  refine zrReg ?_
  refine zlRun (n := 1) (j := 1) rfl (by kernel_rfl) ?_
  refine zlEnd (by kernel_rfl) ?_
  refine zkSeq ?_
  refine zrSeq ?_
  refine zrReg ?_
  refine zlRun (n := 1) (j := 1) rfl (by kernel_rfl) ?_
  refine bindE hS (fun z10 hz10 hS => ?_)
  refine zlOp (d := some 13) (op := (.call 15 [(.tmp 12)])) (g := none) (v := (.tup [(.r (.msl 112 1 0 z10.1.length)), (.d (.int .i64 z10.2))])) (ups := [(112, ⟨1, some (.own 30 4 (e_GVar.cells z10.1))⟩)]) (j := 2) rfl (by kernel_rfl) (by kernel_rfl) (ev_call (args := [(.d (.str a1))]) (l := [(.d (.str a1))]) (r := (.tup [(.r (.own 0 30 4 z10.1.length (e_GVar.cells z10.1))), (.d (.int .i64 z10.2))])) (by kernel_rfl) (by kernel_rfl) (f15_ok base (d - 1) (dpt hd rfl) a1 z10 hz10) (by kernel_rfl) (by kernel_rfl) (by kernel_rfl)) ?_
  refine zlRun (n := 5) (j := 7) rfl (by kernel_rfl) ?_
  refine zlEnd (by kernel_rfl) ?_
  refine zkSeq ?_
  refine zrSeq ?_
  refine zrReg ?_
  refine zlRun (n := 1) (j := 1) rfl (by kernel_rfl) ?_
  refine bindE hS (fun z11 hz11 hS => ?_)
  refine zlOp (d := some 18) (op := (.call 15 [(.tmp 17)])) (g := none) (v := (.tup [(.r (.msl 152 1 0 z11.1.length)), (.d (.int .i64 z11.2))])) (ups := [(152, ⟨1, some (.own 30 4 (e_GVar.cells z11.1))⟩)]) (j := 2) rfl (by kernel_rfl) (by kernel_rfl) (ev_call (args := [(.d (.str a2))]) (l := [(.d (.str a2))]) (r := (.tup [(.r (.own 0 30 4 z11.1.length (e_GVar.cells z11.1))), (.d (.int .i64 z11.2))])) (by kernel_rfl) (by kernel_rfl) (f15_ok base (d - 1) (dpt hd rfl) a2 z11 hz11) (by kernel_rfl) (by kernel_rfl) (by kernel_rfl)) ?_
  refine zlRun (n := 5) (j := 7) rfl (by kernel_rfl) ?_
  refine zlEnd (by kernel_rfl) ?_
  refine zkSeq ?_
  refine zrSeq ?_
  refine zrReg ?_
  refine zlRun (n := 2) (j := 2) rfl (by kernel_rfl) ?_
  refine bindE hS (fun z14 hz14 hS => ?_)
  refine zlOp (d := some 24) (op := (.strO .add (.tmp 22) (.tmp 23))) (g := none) (v := (.d (.str z14))) (ups := []) (j := 3) rfl (by kernel_rfl) (by kernel_rfl) (ev_cat (a := a1) (c := a2) (by kernel_rfl) (by kernel_rfl) hz14) ?_
  refine bindE hS (fun z15 hz15 hS => ?_)
  refine zlOp (d := some 25) (op := (.call 15 [(.tmp 24)])) (g := none) (v := (.tup [(.r (.msl 208 1 0 z15.1.length)), (.d (.int .i64 z15.2))])) (ups := [(208, ⟨1, some (.own 30 4 (e_GVar.cells z15.1))⟩)]) (j := 4) rfl (by kernel_rfl) (by kernel_rfl) (ev_call (args := [(.d (.str z14))]) (l := [(.d (.str z14))]) (r := (.tup [(.r (.own 0 30 4 z15.1.length (e_GVar.cells z15.1))), (.d (.int .i64 z15.2))])) (by kernel_rfl) (by kernel_rfl) (f15_ok base (d - 1) (dpt hd rfl) z14 z15 hz15) (by kernel_rfl) (by kernel_rfl) (by kernel_rfl)) ?_
  refine zlRun (n := 5) (j := 9) rfl (by kernel_rfl) ?_
  refine zlEnd (by kernel_rfl) ?_
  refine zkSeq ?_
  refine zrSeq ?_
  refine zrSeq ?_
  refine zrReg ?_
  refine bindE hS (fun z21 hz21 hS => ?_)
  refine zlOp (d := some 28) (op := (.call 17 [])) (g := none) (v := (.d (.bool z21))) (ups := []) (j := 1) rfl (by kernel_rfl) (by kernel_rfl) (ev_call (args := []) (l := []) (r := (.d (.bool z21))) (by kernel_rfl) (by kernel_rfl) (f17_ok base (d - 1) (dpt hd rfl)  z21 hz21) (by kernel_rfl) (by kernel_rfl) (by kernel_rfl)) ?_
  refine zlRun (n := 2) (j := 3) rfl (by kernel_rfl) ?_
  refine zlSplit 30 (!z21) (by kernel_rfl) (fun hc => ?_) (fun hc => ?_)
  · replace hS := cond_t hc hS
    refine zlRun (n := 23) (j := 26) rfl (by kernel_rfl) ?_
    refine zlEnd (by kernel_rfl) ?_
    refine zkSeq ?_
    refine zrCondT (by kernel_rfl) ?_
    refine zrSeq ?_
    refine zrReg ?_
    refine bindE hS (fun z22 hz22 hS => ?_)
    refine zlOp (d := some 54) (op := (.call 17 [])) (g := none) (v := (.d (.bool z22))) (ups := []) (j := 1) rfl (by kernel_rfl) (by kernel_rfl) (ev_call (args := []) (l := []) (r := (.d (.bool z22))) (by kernel_rfl) (by kernel_rfl) (f17_ok base (d - 1) (dpt hd rfl)  z22 hz22) (by kernel_rfl) (by kernel_rfl) (by kernel_rfl)) ?_
    refine zlRun (n := 1) (j := 2) rfl (by kernel_rfl) ?_
    refine zlEnd (by kernel_rfl) ?_
    refine zkSeq ?_
    refine zrRet ?_
    refine zkSeqR ?_
    refine zkNil ?_
    exact endQ hS hQ (fRet ((congrArg (fun s => outR s 0 c4.res) (by kernel_rfl : finSt c4.fin _ = f4_fin z22)).trans (f4_out z22)))
  · replace hS := cond_f hc hS
    refine zlRun (n := 1) (j := 4) rfl (by kernel_rfl) ?_
    refine zlBool (d := 32) (op := (.cmpI .neq (.tmp 31) (.const (.int .i64 0)))) (g := (some (30, false))) (j := 5) (!decide (z10.2 = 0)) rfl (by kernel_rfl) (by kernel_rfl) (by kernel_rfl) (fun hc => ?_) (fun hc => ?_)
    · replace hS := cond_t hc hS
      refine zlRun (n := 21) (j := 26) rfl (by kernel_rfl) ?_
      refine zlEnd (by kernel_rfl) ?_
      refine zkSeq ?_
      refine zrCondT (by kernel_rfl) ?_
      refine zrSeq ?_
      refine zrReg ?_
      refine bindE hS (fun z23 hz23 hS => ?_)
      refine zlOp (d := some 54) (op := (.call 17 [])) (g := none) (v := (.d (.bool z23))) (ups := []) (j := 1) rfl (by kernel_rfl) (by kernel_rfl) (ev_call (args := []) (l := []) (r := (.d (.bool z23))) (by kernel_rfl) (by kernel_rfl) (f17_ok base (d - 1) (dpt hd rfl)  z23 hz23) (by kernel_rfl) (by kernel_rfl) (by kernel_rfl)) ?_
      refine zlRun (n := 1) (j := 2) rfl (by kernel_rfl) ?_
      refine zlEnd (by kernel_rfl) ?_
      refine zkSeq ?_
      refine zrRet ?_
      refine zkSeqR ?_
      refine zkNil ?_
      exact endQ hS hQ (fRet ((congrArg (fun s => outR s 0 c4.res) (by kernel_rfl : finSt c4.fin _ = f4_fin z23)).trans (f4_out z23)))
    · replace hS := cond_f hc hS
      refine zlRun (n := 3) (j := 8) rfl (by kernel_rfl) ?_
      refine zlBool (d := 36) (op := (.cmpI .neq (.tmp 35) (.const (.int .i64 0)))) (g := (some (34, false))) (j := 9) (!decide (z11.2 = 0)) rfl (by kernel_rfl) (by kernel_rfl) (by kernel_rfl) (fun hc => ?_) (fun hc => ?_)
      · replace hS := cond_t hc hS
        refine zlRun (n := 17) (j := 26) rfl (by kernel_rfl) ?_
        refine zlEnd (by kernel_rfl) ?_
        refine zkSeq ?_
        refine zrCondT (by kernel_rfl) ?_
        refine zrSeq ?_
        refine zrReg ?_
        refine bindE hS (fun z24 hz24 hS => ?_)
        refine zlOp (d := some 54) (op := (.call 17 [])) (g := none) (v := (.d (.bool z24))) (ups := []) (j := 1) rfl (by kernel_rfl) (by kernel_rfl) (ev_call (args := []) (l := []) (r := (.d (.bool z24))) (by kernel_rfl) (by kernel_rfl) (f17_ok base (d - 1) (dpt hd rfl)  z24 hz24) (by kernel_rfl) (by kernel_rfl) (by kernel_rfl)) ?_
        refine zlRun (n := 1) (j := 2) rfl (by kernel_rfl) ?_
        refine zlEnd (by kernel_rfl) ?_
        refine zkSeq ?_
        refine zrRet ?_
        refine zkSeqR ?_
        refine zkNil ?_
        exact endQ hS hQ (fRet ((congrArg (fun s => outR s 0 c4.res) (by kernel_rfl : finSt c4.fin _ = f4_fin z24)).trans (f4_out z24)))
      · replace hS := cond_f hc hS
        refine zlRun (n := 7) (j := 16) rfl (by kernel_rfl) ?_
        refine zlBool (d := 44) (op := (.cmpI .gtr (.tmp 43) (.const (.int .i64 4096)))) (g := (some (38, false))) (j := 17) (decide (4096 < (IntKind.i64.wrap ((a1.length : Int) + (a2.length : Int))))) rfl (by kernel_rfl) (by kernel_rfl) (by kernel_rfl) (fun hc => ?_) (fun hc => ?_)
        · replace hS := cond_t hc hS
          refine zlRun (n := 9) (j := 26) rfl (by kernel_rfl) ?_
          refine zlEnd (by kernel_rfl) ?_
          refine zkSeq ?_
          refine zrCondT (by kernel_rfl) ?_
          refine zrSeq ?_
          refine zrReg ?_
          refine bindE hS (fun z25 hz25 hS => ?_)
          refine zlOp (d := some 54) (op := (.call 17 [])) (g := none) (v := (.d (.bool z25))) (ups := []) (j := 1) rfl (by kernel_rfl) (by kernel_rfl) (ev_call (args := []) (l := []) (r := (.d (.bool z25))) (by kernel_rfl) (by kernel_rfl) (f17_ok base (d - 1) (dpt hd rfl)  z25 hz25) (by kernel_rfl) (by kernel_rfl) (by kernel_rfl)) ?_
          refine zlRun (n := 1) (j := 2) rfl (by kernel_rfl) ?_
          refine zlEnd (by kernel_rfl) ?_
          refine zkSeq ?_
          refine zrRet ?_
          refine zkSeqR ?_
          refine zkNil ?_
          exact endQ hS hQ (fRet ((congrArg (fun s => outR s 0 c4.res) (by kernel_rfl : finSt c4.fin _ = f4_fin z25)).trans (f4_out z25)))
        · replace hS := cond_f hc hS
          refine zlRun (n := 7) (j := 24) rfl (by kernel_rfl) ?_
          refine zlBool (d := 52) (op := (.cmpI .gtr (.tmp 51) (.const (.int .i64 20)))) (g := (some (46, false))) (j := 25) (decide (20 < (IntKind.i64.wrap ((z10.1.length : Int) + (z11.1.length : Int))))) rfl (by kernel_rfl) (by kernel_rfl) (by kernel_rfl) (fun hc => ?_) (fun hc => ?_)
          · replace hS := cond_t hc hS
            refine zlRun (n := 1) (j := 26) rfl (by kernel_rfl) ?_
            refine zlEnd (by kernel_rfl) ?_
            refine zkSeq ?_
            refine zrCondT (by kernel_rfl) ?_
            refine zrSeq ?_
            refine zrReg ?_
            refine bindE hS (fun z26 hz26 hS => ?_)
            refine zlOp (d := some 54) (op := (.call 17 [])) (g := none) (v := (.d (.bool z26))) (ups := []) (j := 1) rfl (by kernel_rfl) (by kernel_rfl) (ev_call (args := []) (l := []) (r := (.d (.bool z26))) (by kernel_rfl) (by kernel_rfl) (f17_ok base (d - 1) (dpt hd rfl)  z26 hz26) (by kernel_rfl) (by kernel_rfl) (by kernel_rfl)) ?_
            refine zlRun (n := 1) (j := 2) rfl (by kernel_rfl) ?_
            refine zlEnd (by kernel_rfl) ?_
            refine zkSeq ?_
            refine zrRet ?_
            refine zkSeqR ?_
            refine zkNil ?_
            exact endQ hS hQ (fRet ((congrArg (fun s => outR s 0 c4.res) (by kernel_rfl : finSt c4.fin _ = f4_fin z26)).trans (f4_out z26)))
          · replace hS := cond_f hc hS
            refine zlRun (n := 1) (j := 26) rfl (by kernel_rfl) ?_
            refine zlEnd (by kernel_rfl) ?_
            refine zkSeq ?_
            refine zrCondF (by kernel_rfl) ?_
            refine zrSkip ?_
            refine zkSeq ?_
            exact f4_j0_ok hd a1 a2 hQ z10.1 z11.1 z15.1 z15.2 hS (by kernel_rfl)
end Go.Proofs.Ytphbfciikjkkfaa.Pm
