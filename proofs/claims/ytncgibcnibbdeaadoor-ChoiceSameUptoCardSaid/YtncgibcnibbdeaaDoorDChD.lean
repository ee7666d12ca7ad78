/- Typed functions, and that the codes are these. Printed by dec.py. -/
import Derived.Test.YtncgibcnibbdeaaDoorDChC
namespace Go.Proofs.YtncgibcnibbdeaaDoor.Pm
set_option maxRecDepth 1000000
set_option maxHeartbeats 20000000
set_option linter.unusedVariables false
/- farwriter/about.Name -/
def f24_fin (p27 : Bool) : St := ⟨(up (fun _ => .un) 2 (.d (.bool p27))), (hB fun _ => 0)⟩
theorem f24_out (p27 : Bool) : outR (f24_fin p27) 0 c24.res = some ((.d (.bool p27)), []) := by
  kernel_rfl
def f24_Q (r : Bool) (e : PX) (st : St) : Prop := DoneF c24 0 ((.d (.bool r)), []) e st
def f24_j0_J (a1 : List UInt8) : St := ⟨(up (fun _ => .un) 0 (.d (.str a1))), (hB fun _ => 0)⟩
noncomputable def f24_j0 (a1 : List UInt8) : Option (Bool) := (bif (!decide (a1 = ([] : List UInt8))) then (bif (decide ((a1.length : Int) ≤ 40)) then (some true) else (some false)) else (some false))
theorem f24_j0_ok {d : Nat} (hd : 1 ≤ d) (a1 : List UInt8) {r : Bool} {Q : PX → St → Prop} (hQ : ∀ e st', f24_Q r e st' → Q e st')  (hS : f24_j0 a1 = some r) {st : St} (he : keepSt [0] [] [] st = f24_j0_J a1) : ZR (lev codes baseL (d - 1)) Q c24_1 [] st := by
  refine zrKeep he ?_
  unfold f24_j0 at hS
  refine zrSeq ?_
  refine zrReg ?_
  refine zlRun (n := 1) (j := 1) rfl (by kernel_rfl) ?_
  refine zlBool (d := 21) (op := (.strO .neq (.tmp 20) (.const (.string ⟨#[]⟩)))) (g := none) (j := 2) (!decide (a1 = ([] : List UInt8))) rfl (by kernel_rfl) (by kernel_rfl) (by kernel_rfl) (fun hc => ?_) (fun hc => ?_)
  · replace hS := cond_t hc hS
    refine zlRun (n := 3) (j := 5) rfl (by kernel_rfl) ?_
    refine zlBool (d := 25) (op := (.cmpI .leq (.tmp 24) (.const (.int .i64 40)))) (g := (some (22, true))) (j := 6) (decide ((a1.length : Int) ≤ 40)) rfl (by kernel_rfl) (by kernel_rfl) (by kernel_rfl) (fun hc => ?_) (fun hc => ?_)
    · replace hS := cond_t hc hS
      refine zlRun (n := 2) (j := 8) rfl (by kernel_rfl) ?_
      refine zlEnd (by kernel_rfl) ?_
      refine zkSeq ?_
      refine zrRet ?_
      refine zkNil ?_
      exact endQ hS hQ (fRet ((congrArg (fun s => outR s 0 c24.res) (by kernel_rfl : finSt c24.fin _ = f24_fin true)).trans (f24_out true)))
    · replace hS := cond_f hc hS
      refine zlRun (n := 2) (j := 8) rfl (by kernel_rfl) ?_
      refine zlEnd (by kernel_rfl) ?_
      refine zkSeq ?_
      refine zrRet ?_
      refine zkNil ?_
      exact endQ hS hQ (fRet ((congrArg (fun s => outR s 0 c24.res) (by kernel_rfl : finSt c24.fin _ = f24_fin false)).trans (f24_out false)))
  · replace hS := cond_f hc hS
    refine zlRun (n := 6) (j := 8) rfl (by kernel_rfl) ?_
    refine zlEnd (by kernel_rfl) ?_
    refine zkSeq ?_
    refine zrRet ?_
    refine zkNil ?_
    exact endQ hS hQ (fRet ((congrArg (fun s => outR s 0 c24.res) (by kernel_rfl : finSt c24.fin _ = f24_fin false)).trans (f24_out false)))
def f24_l1_J (a1 : List UInt8) (x : Int) : St := ⟨(up (up (up (fun _ => .un) 6 (.d (.int .i64 x))) 5 (.d (.int .i64 (a1.length : Int)))) 0 (.d (.str a1))), (hB fun _ => 0)⟩
def f24_l1_H (a1 : List UInt8) (x : Int) (st : St) : Prop := keepSt [0, 5, 6] [] [] st = f24_l1_J a1 x
def f24_l1_e0_J (a1 : List UInt8) : St := ⟨(up (fun _ => .un) 0 (.d (.str a1))), (hB fun _ => 0)⟩
def f24_l1_X (a1 : List UInt8) (z : Unit ⊕ Bool) (e : PX) (st : St) : Prop := (match z with | .inl z => e = .exit 0 ∧ st = f24_l1_e0_J a1 | .inr z => e = .ret ∧ finSt c24.fin st = f24_fin z)
def f24_l1_j3_J (a1 : List UInt8) (p32 : Int) : St := ⟨(up (up (up (fun _ => .un) 6 (.d (.int .i64 p32))) 5 (.d (.int .i64 (a1.length : Int)))) 0 (.d (.str a1))), (hB fun _ => 0)⟩
noncomputable def f24_l1_j3 (a1 : List UInt8) (p32 : Int) : Option (Int ⊕ (Unit ⊕ Bool)) := ((idx a1 p32).bind fun z7 => (bif (decide ((z7.toNat : Int) < 33)) then (some (.inr (.inr false))) else ((idx a1 p32).bind fun z8 => (bif (decide (126 < (z8.toNat : Int))) then (some (.inr (.inr false))) else (some (.inl (IntKind.i64.wrap (p32 + 1))))))))
theorem f24_l1_j3_ok {d : Nat} (hd : 1 ≤ d) (a1 : List UInt8) {r : Int ⊕ (Unit ⊕ Bool)} {Q : PX → St → Prop} (hQ : ∀ e st', finL (f24_l1_H a1) (f24_l1_X a1) r e st' → Q e st') (p32 : Int) (hS : f24_l1_j3 a1 p32 = some r) {st : St} (he : keepSt [0, 5, 6] [] [] st = f24_l1_j3_J a1 p32) : ZR (lev codes baseL (d - 1)) Q c24_2 [] st := by
  refine zrKeep he ?_
  unfold f24_l1_j3 at hS
  refine zrSeq ?_
  refine zrBlk ?_
  refine zrSeq ?_
  refine zrReg ?_
  refine zlRun (n := 2) (j := 2) rfl (by kernel_rfl) ?_
  refine zlEnd (by kernel_rfl) ?_
  refine zkSeq ?_
  refine zrSeq ?_
  refine zrReg ?_
  refine zlRun (n := 2) (j := 2) rfl (by kernel_rfl) ?_
  refine bindE hS (fun z7 hz7 hS => ?_)
  refine zlOp (d := some 11) (op := (.ixStr (.tmp 9) (.tmp 10))) (g := none) (v := (.d (.int .u8 (z7.toNat : Int)))) (ups := []) (j := 3) rfl (by kernel_rfl) (by kernel_rfl) (ev_ixStr (kk := .i64) (s := a1) (j := p32) (by kernel_rfl) (by kernel_rfl) hz7) ?_
  refine zlBool (d := 12) (op := (.cmpI .lss (.tmp 11) (.const (.int .u8 33)))) (g := none) (j := 4) (decide ((z7.toNat : Int) < 33)) rfl (by kernel_rfl) (by kernel_rfl) (by kernel_rfl) (fun hc => ?_) (fun hc => ?_)
  · replace hS := cond_t hc hS
    refine zlRun (n := 6) (j := 10) rfl (by kernel_rfl) ?_
    refine zlEnd (by kernel_rfl) ?_
    refine zkSeq ?_
    refine zrCondT (by kernel_rfl) ?_
    refine zrSeq ?_
    refine zrReg ?_
    refine zlRun (n := 1) (j := 1) rfl (by kernel_rfl) ?_
    refine zlEnd (by kernel_rfl) ?_
    refine zkSeq ?_
    refine zrRet ?_
    refine zkBlkR ?_
    refine zkSeqR ?_
    refine zkNil ?_
    exact endQ hS hQ (finL_x (by intro h; cases h) (by show _ = _ ∧ _ = _; exact ⟨rfl, by kernel_rfl⟩))
  · replace hS := cond_f hc hS
    refine zlRun (n := 3) (j := 7) rfl (by kernel_rfl) ?_
    refine bindE hS (fun z8 hz8 hS => ?_)
    refine zlOp (d := some 16) (op := (.ixStr (.tmp 14) (.tmp 15))) (g := (some (13, false))) (v := (.d (.int .u8 (z8.toNat : Int)))) (ups := []) (j := 8) rfl (by kernel_rfl) (by kernel_rfl) (ev_ixStr (kk := .i64) (s := a1) (j := p32) (by kernel_rfl) (by kernel_rfl) hz8) ?_
    refine zlBool (d := 17) (op := (.cmpI .gtr (.tmp 16) (.const (.int .u8 126)))) (g := (some (13, false))) (j := 9) (decide (126 < (z8.toNat : Int))) rfl (by kernel_rfl) (by kernel_rfl) (by kernel_rfl) (fun hc => ?_) (fun hc => ?_)
    · replace hS := cond_t hc hS
      refine zlRun (n := 1) (j := 10) rfl (by kernel_rfl) ?_
      refine zlEnd (by kernel_rfl) ?_
      refine zkSeq ?_
      refine zrCondT (by kernel_rfl) ?_
      refine zrSeq ?_
      refine zrReg ?_
      refine zlRun (n := 1) (j := 1) rfl (by kernel_rfl) ?_
      refine zlEnd (by kernel_rfl) ?_
      refine zkSeq ?_
      refine zrRet ?_
      refine zkBlkR ?_
      refine zkSeqR ?_
      refine zkNil ?_
      exact endQ hS hQ (finL_x (by intro h; cases h) (by show _ = _ ∧ _ = _; exact ⟨rfl, by kernel_rfl⟩))
    · replace hS := cond_f hc hS
      refine zlRun (n := 1) (j := 10) rfl (by kernel_rfl) ?_
      refine zlEnd (by kernel_rfl) ?_
      refine zkSeq ?_
      refine zrCondF (by kernel_rfl) ?_
      refine zrSkip ?_
      refine zkBlk ?_
      refine zkSeq ?_
      refine zrReg ?_
      refine zlRun (n := 2) (j := 2) rfl (by kernel_rfl) ?_
      refine zlEnd (by kernel_rfl) ?_
      refine zkNil ?_
      exact endQ hS hQ (finL_n (by show keepSt _ _ _ _ = _; kernel_rfl))
def f24_l1_j2_J (a1 : List UInt8) (p30 : Int) (p31 : Bool) : St := ⟨(up (up (up (up (fun _ => .un) 7 (.d (.bool p31))) 6 (.d (.int .i64 p30))) 5 (.d (.int .i64 (a1.length : Int)))) 0 (.d (.str a1))), (hB fun _ => 0)⟩
noncomputable def f24_l1_j2 (a1 : List UInt8) (p30 : Int) (p31 : Bool) : Option (Int ⊕ (Unit ⊕ Bool)) := (bif p31 then (f24_l1_j3 a1 p30) else (some (.inr (.inl ()))))
theorem f24_l1_j2_ok {d : Nat} (hd : 1 ≤ d) (a1 : List UInt8) {r : Int ⊕ (Unit ⊕ Bool)} {Q : PX → St → Prop} (hQ : ∀ e st', finL (f24_l1_H a1) (f24_l1_X a1) r e st' → Q e st') (p30 : Int) (p31 : Bool) (hS : f24_l1_j2 a1 p30 p31 = some r) {st : St} (he : keepSt [0, 5, 6, 7] [] [] st = f24_l1_j2_J a1 p30 p31) : ZR (lev codes baseL (d - 1)) Q c24_3 [] st := by
  refine zrKeep he ?_
  unfold f24_l1_j2 at hS
  refine zrSeq ?_
  refine zrSplit 7 p31 (by kernel_rfl) (fun hc => ?_) (fun hc => ?_)
  · replace hS := cond_t hc hS
    refine zrCondT (by kernel_rfl) ?_
    refine zrSkip ?_
    refine zkSeq ?_
    exact f24_l1_j3_ok hd a1 hQ p30 hS (by kernel_rfl)
  · replace hS := cond_f hc hS
    refine zrCondF (by kernel_rfl) ?_
    refine zrKeep (J := f24_l1_e0_J a1) (by kernel_rfl) ?_
    refine zrExit ?_
    refine zkSeqX ?_
    refine zkNil ?_
    exact endQ hS hQ (finL_x (by intro h; cases h) (by show _ = _ ∧ _ = _; exact ⟨rfl, rfl⟩))
noncomputable def f24_l1 (a1 : List UInt8) (x : Int) : Option (Int ⊕ (Unit ⊕ Bool)) := (bif (decide (x < (a1.length : Int))) then (f24_l1_j2 a1 x true) else (f24_l1_j2 a1 x false))
theorem f24_l1_ok {d : Nat} (hd : 1 ≤ d) (a1 : List UInt8) {r : Int ⊕ (Unit ⊕ Bool)} {Q : PX → St → Prop} (hQ : ∀ e st', finL (f24_l1_H a1) (f24_l1_X a1) r e st' → Q e st') {x : Int} (hS : f24_l1 a1 x = some r) {st : St} (he : f24_l1_H a1 x st) : ZR (lev codes baseL (d - 1)) Q c24_4 [] st := by
  refine zrKeep he ?_
  unfold f24_l1 at hS
  refine zrSeq ?_
  refine zrReg ?_
  refine zlBool (d := 7) (op := (.cmpI .lss (.tmp 6) (.tmp 5))) (g := none) (j := 1) (decide (x < (a1.length : Int))) rfl (by kernel_rfl) (by kernel_rfl) (by kernel_rfl) (fun hc => ?_) (fun hc => ?_)
  · replace hS := cond_t hc hS
    refine zlEnd (by kernel_rfl) ?_
    refine zkSeq ?_
    exact f24_l1_j2_ok hd a1 hQ x true hS (by kernel_rfl)
  · replace hS := cond_f hc hS
    refine zlEnd (by kernel_rfl) ?_
    refine zkSeq ?_
    exact f24_l1_j2_ok hd a1 hQ x false hS (by kernel_rfl)
noncomputable def f24 (a1 : List UInt8) : Option (Bool) := ((loopO (f24_l1 a1) 0).bind fun z9 => (Sum.elim (fun z10 => (f24_j0 a1 )) (fun z11 => (some z11)) z9))
theorem f24_ok (d : Nat) (hd : 1 ≤ d) (a1 : List UInt8) (r : Bool) (hS : f24 a1 = some r) : lev codes baseL d 24 [(.d (.str a1))] [] = some ((.d (.bool r)), []) := by
  refine lev_go codes24 rfl rfl (Nat.le_trans (Nat.le_of_ble_eq_true rfl) hd) fun Q hQ => ?_
  unfold f24 at hS
  show ZR _ Q c24_b [] _
  replace hQ : ∀ e st', f24_Q r e st' → Q e st' := hQ
  refine zrSeq ?_
  refine zrReg ?_
  refine zlRun (n := 1) (j := 1) rfl (by kernel_rfl) ?_
  refine zlEnd (by kernel_rfl) ?_
  refine zkSeq ?_
  refine zrSeq ?_
  refine zrSeq ?_
  refine zrReg ?_
  refine zlRun (n := 3) (j := 3) rfl (by kernel_rfl) ?_
  refine zlEnd (by kernel_rfl) ?_
  refine zkSeq ?_
  refine zrBlk ?_
  refine bindE hS (fun z9 hz9 hS => ?_)
  refine zrLoop (f24_l1_H a1) (f24_l1_X a1) (fun x st r Q h0 hS hQ => f24_l1_ok hd a1 hQ hS h0) (x := 0) (z := z9) (by show keepSt _ _ _ _ = _; kernel_rfl) hz9 ?_
  rcases z9 with z10 | z11
  · replace hS := (show _ = _ from hS)
    simp only [Sum.elim_inl] at hS
    intro e st' _ hX
    obtain ⟨rfl, rfl⟩ : _ ∧ _ := hX
    refine zkBlkX ?_
    refine zkSeq ?_
    exact f24_j0_ok hd a1 hQ  hS (by kernel_rfl)
  · simp only [Sum.elim_inr] at hS
    intro e st' _ hX
    obtain ⟨rfl, hX⟩ : _ ∧ _ := hX
    refine zkBlkR ?_
    refine zkSeqR ?_
    refine zkNil ?_
    exact endQ hS hQ (fRet ((congrArg (fun s => outR s 0 c24.res) hX).trans (f24_out z11)))
/- farwriter/choice.Ask$1 -/
def f23_fin (p1 : Bool) : St := ⟨(up (fun _ => .un) 2 (.d (.bool p1))), (hB fun _ => 0)⟩
theorem f23_out (p1 : Bool) : outR (f23_fin p1) 0 c23.res = some ((.d (.bool p1)), []) := by
  kernel_rfl
def f23_Q (r : Bool) (e : PX) (st : St) : Prop := DoneF c23 0 ((.d (.bool r)), []) e st
noncomputable def f23 (a1 : List UInt8) : Option (Bool) := ((f24 a1).bind fun z2 => (some (!z2)))
theorem f23_ok (d : Nat) (hd : 2 ≤ d) (a1 : List UInt8) (r : Bool) (hS : f23 a1 = some r) : lev codes baseL d 23 [(.d (.str a1))] [] = some ((.d (.bool r)), []) := by
  refine lev_go codes23 rfl rfl (Nat.le_trans (Nat.le_of_ble_eq_true rfl) hd) fun Q hQ => ?_
  unfold f23 at hS
  show ZR _ Q c23_b [] _
  replace hQ : ∀ e st', f23_Q r e st' → Q e st' := hQ
  refine zrSeq ?_
  refine zrReg ?_
  refine zlRun (n := 1) (j := 1) rfl (by kernel_rfl) ?_
  refine zlEnd (by kernel_rfl) ?_
  refine zkSeq ?_
  refine zrSeq ?_
  refine zrReg ?_
  refine zlRun (n := 1) (j := 1) rfl (by kernel_rfl) ?_
  refine bindE hS (fun z2 hz2 hS => ?_)
  refine zlOp (d := some 4) (op := (.call 24 [(.tmp 3)])) (g := none) (v := (.d (.bool z2))) (ups := []) (j := 2) rfl (by kernel_rfl) (by kernel_rfl) (ev_call (args := [(.d (.str a1))]) (l := [(.d (.str a1))]) (r := (.d (.bool z2))) (by kernel_rfl) (by kernel_rfl) (f24_ok (d - 1) (dpt hd rfl) a1 z2 hz2) (by kernel_rfl) (by kernel_rfl) (by kernel_rfl)) ?_
  refine zlRun (n := 2) (j := 4) rfl (by kernel_rfl) ?_
  refine zlEnd (by kernel_rfl) ?_
  refine zkSeq ?_
  refine zrRet ?_
  refine zkNil ?_
  exact endQ hS hQ (fRet ((congrArg (fun s => outR s 0 c23.res) (by kernel_rfl : finSt c23.fin _ = f23_fin (!z2))).trans (f23_out (!z2))))
/- slices.IndexFunc[[]string,string] -/
def f38_fin (p8 : Int) : St := ⟨(up (fun _ => .un) 4 (.d (.int .i64 p8))), (hB fun _ => 0)⟩
theorem f38_out (p8 : Int) : outR (f38_fin p8) 0 c38.res = some ((.d (.int .i64 p8)), []) := by
  kernel_rfl
def f38_Q (r : Int) (e : PX) (st : St) : Prop := DoneF c38 0 ((.d (.int .i64 r)), []) e st
def f38_l0_J (a1 : List (List UInt8)) (x : Int) : St := ⟨(up (up (up (up (fun _ => .un) 8 (.d (.int .i64 x))) 7 (.d (.int .i64 (a1.length : Int)))) 1 (.fn 23 [])) 0 (.d (.sl a1.length (eStr.cells a1)))), (hB fun _ => 0)⟩
def f38_l0_H (a1 : List (List UInt8)) (x : Int) (st : St) : Prop := keepSt [0, 1, 7, 8] [] [] st = f38_l0_J a1 x
def f38_l0_e0_J (a1 : List (List UInt8)) : St := ⟨(fun _ => .un), (hB fun _ => 0)⟩
def f38_l0_X (a1 : List (List UInt8)) (z : Unit ⊕ Int) (e : PX) (st : St) : Prop := (match z with | .inl z => e = .exit 0 ∧ st = f38_l0_e0_J a1 | .inr z => e = .ret ∧ finSt c38.fin st = f38_fin z)
def f38_l0_j2_J (a1 : List (List UInt8)) (p13 : Int) : St := ⟨(up (up (up (up (fun _ => .un) 8 (.d (.int .i64 p13))) 7 (.d (.int .i64 (a1.length : Int)))) 1 (.fn 23 [])) 0 (.d (.sl a1.length (eStr.cells a1)))), (hB fun _ => 0)⟩
noncomputable def f38_l0_j2 (a1 : List (List UInt8)) (p13 : Int) : Option (Int ⊕ (Unit ⊕ Int)) := ((idx a1 p13).bind fun z7 => ((f23 z7).bind fun z8 => (bif z8 then (some (.inr (.inr p13))) else (some (.inl (IntKind.i64.wrap (p13 + 1)))))))
theorem f38_l0_j2_ok {d : Nat} (hd : 3 ≤ d) (a1 : List (List UInt8)) {r : Int ⊕ (Unit ⊕ Int)} {Q : PX → St → Prop} (hQ : ∀ e st', finL (f38_l0_H a1) (f38_l0_X a1) r e st' → Q e st') (p13 : Int) (hS : f38_l0_j2 a1 p13 = some r) {st : St} (he : keepSt [0, 1, 7, 8] [] [] st = f38_l0_j2_J a1 p13) : ZR (lev codes baseL (d - 1)) Q c38_1 [] st := by
  refine zrKeep he ?_
  unfold f38_l0_j2 at hS
  refine zrSeq ?_
  refine zrBlk ?_
  refine zrSeq ?_
  refine zrReg ?_
  refine zlRun (n := 2) (j := 2) rfl (by kernel_rfl) ?_
  refine zlEnd (by kernel_rfl) ?_
  refine zkSeq ?_
  refine zrSeq ?_
  refine zrReg ?_
  refine zlRun (n := 3) (j := 3) rfl (by kernel_rfl) ?_
  refine bindE hS (fun z7 hz7 hS => ?_)
  refine zlOp (d := some 14) (op := (.ixS 9 1 (.tmp 12) (.tmp 13))) (g := none) (v := (.rptr (eStr.enc z7 ++ (eStr.cells (a1.drop ((p13 : Int).toNat + 1)))))) (ups := []) (j := 4) rfl (by kernel_rfl) (by kernel_rfl) (ev_ixS eStr (kk := .i64) (xs := a1) (j := p13) (by kernel_rfl) (by kernel_rfl) hz7 rfl (by intro h; cases h)) ?_
  refine zlRun (n := 1) (j := 5) rfl (by kernel_rfl) ?_
  refine bindE hS (fun z8 hz8 hS => ?_)
  refine zlOp (d := some 16) (op := (.callv (.tmp 11) [(.tmp 15)])) (g := none) (v := (.d (.bool z8))) (ups := []) (j := 6) rfl (by kernel_rfl) (by kernel_rfl) (ev_callv (f := 23) (cs := []) (by kernel_rfl) (args := [(.d (.str z7))]) (l := [(.d (.str z7))]) (r := (.d (.bool z8))) (by kernel_rfl) (by kernel_rfl) (f23_ok (d - 1) (dpt hd rfl) z7 z8 hz8) (by kernel_rfl) (by kernel_rfl) (by kernel_rfl)) ?_
  refine zlEnd (by kernel_rfl) ?_
  refine zkSeq ?_
  refine zrSplit 16 z8 (by kernel_rfl) (fun hc => ?_) (fun hc => ?_)
  · replace hS := cond_t hc hS
    refine zrCondT (by kernel_rfl) ?_
    refine zrSeq ?_
    refine zrReg ?_
    refine zlRun (n := 2) (j := 2) rfl (by kernel_rfl) ?_
    refine zlEnd (by kernel_rfl) ?_
    refine zkSeq ?_
    refine zrRet ?_
    refine zkBlkR ?_
    refine zkSeqR ?_
    refine zkNil ?_
    exact endQ hS hQ (finL_x (by intro h; cases h) (by show _ = _ ∧ _ = _; exact ⟨rfl, by kernel_rfl⟩))
  · replace hS := cond_f hc hS
    refine zrCondF (by kernel_rfl) ?_
    refine zrSkip ?_
    refine zkBlk ?_
    refine zkSeq ?_
    refine zrReg ?_
    refine zlRun (n := 2) (j := 2) rfl (by kernel_rfl) ?_
    refine zlEnd (by kernel_rfl) ?_
    refine zkNil ?_
    exact endQ hS hQ (finL_n (by show keepSt _ _ _ _ = _; kernel_rfl))
def f38_l0_j1_J (a1 : List (List UInt8)) (p11 : Int) (p12 : Bool) : St := ⟨(up (up (up (up (up (fun _ => .un) 9 (.d (.bool p12))) 8 (.d (.int .i64 p11))) 7 (.d (.int .i64 (a1.length : Int)))) 1 (.fn 23 [])) 0 (.d (.sl a1.length (eStr.cells a1)))), (hB fun _ => 0)⟩
noncomputable def f38_l0_j1 (a1 : List (List UInt8)) (p11 : Int) (p12 : Bool) : Option (Int ⊕ (Unit ⊕ Int)) := (bif p12 then (f38_l0_j2 a1 p11) else (some (.inr (.inl ()))))
theorem f38_l0_j1_ok {d : Nat} (hd : 3 ≤ d) (a1 : List (List UInt8)) {r : Int ⊕ (Unit ⊕ Int)} {Q : PX → St → Prop} (hQ : ∀ e st', finL (f38_l0_H a1) (f38_l0_X a1) r e st' → Q e st') (p11 : Int) (p12 : Bool) (hS : f38_l0_j1 a1 p11 p12 = some r) {st : St} (he : keepSt [0, 1, 7, 8, 9] [] [] st = f38_l0_j1_J a1 p11 p12) : ZR (lev codes baseL (d - 1)) Q c38_2 [] st := by
  refine zrKeep he ?_
  unfold f38_l0_j1 at hS
  refine zrSeq ?_
  refine zrSplit 9 p12 (by kernel_rfl) (fun hc => ?_) (fun hc => ?_)
  · replace hS := cond_t hc hS
    refine zrCondT (by kernel_rfl) ?_
    refine zrSkip ?_
    refine zkSeq ?_
    exact f38_l0_j2_ok hd a1 hQ p11 hS (by kernel_rfl)
  · replace hS := cond_f hc hS
    refine zrCondF (by kernel_rfl) ?_
    refine zrKeep (J := f38_l0_e0_J a1) (by kernel_rfl) ?_
    refine zrExit ?_
    refine zkSeqX ?_
    refine zkNil ?_
    exact endQ hS hQ (finL_x (by intro h; cases h) (by show _ = _ ∧ _ = _; exact ⟨rfl, rfl⟩))
noncomputable def f38_l0 (a1 : List (List UInt8)) (x : Int) : Option (Int ⊕ (Unit ⊕ Int)) := (bif (decide (x < (a1.length : Int))) then (f38_l0_j1 a1 x true) else (f38_l0_j1 a1 x false))
theorem f38_l0_ok {d : Nat} (hd : 3 ≤ d) (a1 : List (List UInt8)) {r : Int ⊕ (Unit ⊕ Int)} {Q : PX → St → Prop} (hQ : ∀ e st', finL (f38_l0_H a1) (f38_l0_X a1) r e st' → Q e st') {x : Int} (hS : f38_l0 a1 x = some r) {st : St} (he : f38_l0_H a1 x st) : ZR (lev codes baseL (d - 1)) Q c38_3 [] st := by
  refine zrKeep he ?_
  unfold f38_l0 at hS
  refine zrSeq ?_
  refine zrReg ?_
  refine zlBool (d := 9) (op := (.cmpI .lss (.tmp 8) (.tmp 7))) (g := none) (j := 1) (decide (x < (a1.length : Int))) rfl (by kernel_rfl) (by kernel_rfl) (by kernel_rfl) (fun hc => ?_) (fun hc => ?_)
  · replace hS := cond_t hc hS
    refine zlEnd (by kernel_rfl) ?_
    refine zkSeq ?_
    exact f38_l0_j1_ok hd a1 hQ x true hS (by kernel_rfl)
  · replace hS := cond_f hc hS
    refine zlEnd (by kernel_rfl) ?_
    refine zkSeq ?_
    exact f38_l0_j1_ok hd a1 hQ x false hS (by kernel_rfl)
noncomputable def f38 (a1 : List (List UInt8)) : Option (Int) := ((loopO (f38_l0 a1) 0).bind fun z9 => (Sum.elim (fun z10 => (some (-1))) (fun z11 => (some z11)) z9))
theorem f38_ok (d : Nat) (hd : 3 ≤ d) (a1 : List (List UInt8)) (r : Int) (hS : f38 a1 = some r) : lev codes baseL d 38 [(.d (.sl a1.length (eStr.cells a1))), (.fn 23 [])] [] = some ((.d (.int .i64 r)), []) := by
  refine lev_go codes38 rfl rfl (Nat.le_trans (Nat.le_of_ble_eq_true rfl) hd) fun Q hQ => ?_
  unfold f38 at hS
  show ZR _ Q c38_b [] _
  replace hQ : ∀ e st', f38_Q r e st' → Q e st' := hQ
  refine zrSeq ?_
  refine zrReg ?_
  refine zlRun (n := 1) (j := 1) rfl (by kernel_rfl) ?_
  refine zlEnd (by kernel_rfl) ?_
  refine zkSeq ?_
  refine zrSeq ?_
  refine zrSeq ?_
  refine zrReg ?_
  refine zlRun (n := 3) (j := 3) rfl (by kernel_rfl) ?_
  refine zlEnd (by kernel_rfl) ?_
  refine zkSeq ?_
  refine zrBlk ?_
  refine bindE hS (fun z9 hz9 hS => ?_)
  refine zrLoop (f38_l0_H a1) (f38_l0_X a1) (fun x st r Q h0 hS hQ => f38_l0_ok hd a1 hQ hS h0) (x := 0) (z := z9) (by show keepSt _ _ _ _ = _; kernel_rfl) hz9 ?_
  rcases z9 with z10 | z11
  · replace hS := (show _ = _ from hS)
    simp only [Sum.elim_inl] at hS
    intro e st' _ hX
    obtain ⟨rfl, rfl⟩ : _ ∧ _ := hX
    refine zkBlkX ?_
    refine zkSeq ?_
    refine zrSeq ?_
    refine zrReg ?_
    refine zlRun (n := 1) (j := 1) rfl (by kernel_rfl) ?_
    refine zlEnd (by kernel_rfl) ?_
    refine zkSeq ?_
    refine zrRet ?_
    refine zkNil ?_
    exact endQ hS hQ (fRet ((congrArg (fun s => outR s 0 c38.res) (by kernel_rfl : finSt c38.fin _ = f38_fin (-1))).trans (f38_out (-1))))
  · simp only [Sum.elim_inr] at hS
    intro e st' _ hX
    obtain ⟨rfl, hX⟩ : _ ∧ _ := hX
    refine zkBlkR ?_
    refine zkSeqR ?_
    refine zkNil ?_
    exact endQ hS hQ (fRet ((congrArg (fun s => outR s 0 c38.res) hX).trans (f38_out z11)))
/- slices.ContainsFunc[[]string,string] -/
def f22_fin (p2 : Bool) : St := ⟨(up (fun _ => .un) 4 (.d (.bool p2))), (hB fun _ => 0)⟩
theorem f22_out (p2 : Bool) : outR (f22_fin p2) 0 c22.res = some ((.d (.bool p2)), []) := by
  kernel_rfl
def f22_Q (r : Bool) (e : PX) (st : St) : Prop := DoneF c22 0 ((.d (.bool r)), []) e st
noncomputable def f22 (a1 : List (List UInt8)) : Option (Bool) := ((f38 a1).bind fun z2 => (bif (decide (0 ≤ z2)) then (some true) else (some false)))
theorem f22_ok (d : Nat) (hd : 4 ≤ d) (a1 : List (List UInt8)) (r : Bool) (hS : f22 a1 = some r) : lev codes baseL d 22 [(.d (.sl a1.length (eStr.cells a1))), (.fn 23 [])] [] = some ((.d (.bool r)), []) := by
  refine lev_go codes22 rfl rfl (Nat.le_trans (Nat.le_of_ble_eq_true rfl) hd) fun Q hQ => ?_
  unfold f22 at hS
  show ZR _ Q c22_b [] _
  replace hQ : ∀ e st', f22_Q r e st' → Q e st' := hQ
  refine zrSeq ?_
  refine zrReg ?_
  refine zlRun (n := 1) (j := 1) rfl (by kernel_rfl) ?_
  refine zlEnd (by kernel_rfl) ?_
  refine zkSeq ?_
  refine zrSeq ?_
  refine zrReg ?_
  refine zlRun (n := 2) (j := 2) rfl (by kernel_rfl) ?_
  refine bindE hS (fun z2 hz2 hS => ?_)
  refine zlOp (d := some 7) (op := (.call 38 [(.tmp 5), (.tmp 6)])) (g := none) (v := (.d (.int .i64 z2))) (ups := []) (j := 3) rfl (by kernel_rfl) (by kernel_rfl) (ev_call (args := [(.d (.sl a1.length (eStr.cells a1))), (.fn 23 [])]) (l := [(.d (.sl a1.length (eStr.cells a1))), (.fn 23 [])]) (r := (.d (.int .i64 z2))) (by kernel_rfl) (by kernel_rfl) (f38_ok (d - 1) (dpt hd rfl) a1 z2 hz2) (by kernel_rfl) (by kernel_rfl) (by kernel_rfl)) ?_
  refine zlBool (d := 8) (op := (.cmpI .geq (.tmp 7) (.const (.int .i64 0)))) (g := none) (j := 4) (decide (0 ≤ z2)) rfl (by kernel_rfl) (by kernel_rfl) (by kernel_rfl) (fun hc => ?_) (fun hc => ?_)
  · replace hS := cond_t hc hS
    refine zlRun (n := 1) (j := 5) rfl (by kernel_rfl) ?_
    refine zlEnd (by kernel_rfl) ?_
    refine zkSeq ?_
    refine zrRet ?_
    refine zkNil ?_
    exact endQ hS hQ (fRet ((congrArg (fun s => outR s 0 c22.res) (by kernel_rfl : finSt c22.fin _ = f22_fin true)).trans (f22_out true)))
  · replace hS := cond_f hc hS
    refine zlRun (n := 1) (j := 5) rfl (by kernel_rfl) ?_
    refine zlEnd (by kernel_rfl) ?_
    refine zkSeq ?_
    refine zrRet ?_
    refine zkNil ?_
    exact endQ hS hQ (fRet ((congrArg (fun s => outR s 0 c22.res) (by kernel_rfl : finSt c22.fin _ = f22_fin false)).trans (f22_out false)))
/- strings.Contains -/
theorem libContains_ok (d : Nat) (hd : 0 ≤ d) (a1 : List UInt8) (a2 : List UInt8) (r : Bool) (hS : libContains a1 a2 = some r) : lev codes baseL d 10 [(.d (.str a1)), (.d (.str a2))] [] = some ((.d (.bool r)), []) := lib_call (l := libs) rfl rfl rfl (ossB_ hS) d
/- farwriter/choice.Ask$2 -/
def f25_fin (p1 : Bool) : St := ⟨(up (fun _ => .un) 3 (.d (.bool p1))), (hB fun _ => 0)⟩
theorem f25_out (p1 : Bool) : outR (f25_fin p1) 0 c25.res = some ((.d (.bool p1)), []) := by
  kernel_rfl
def f25_Q (r : Bool) (e : PX) (st : St) : Prop := DoneF c25 0 ((.d (.bool r)), []) e st
noncomputable def f25 (a1 : List UInt8) (a2 : List UInt8) (a3 : List PD) : Option (Bool) := ((libContains a1 a2).bind fun z2 => (some z2))
theorem f25_ok (d : Nat) (hd : 1 ≤ d) (a1 : List UInt8) (a2 : List UInt8) (a3 : List PD) (r : Bool) (hS : f25 a1 a2 a3 = some r) : lev codes baseL d 25 [(.d (.str a1)), (.rptr (eStr.enc a2 ++ a3))] [] = some ((.d (.bool r)), []) := by
  refine lev_go codes25 rfl rfl (Nat.le_trans (Nat.le_of_ble_eq_true rfl) hd) fun Q hQ => ?_
  unfold f25 at hS
  show ZR _ Q c25_b [] _
  replace hQ : ∀ e st', f25_Q r e st' → Q e st' := hQ
  refine zrSeq ?_
  refine zrReg ?_
  refine zlRun (n := 1) (j := 1) rfl (by kernel_rfl) ?_
  refine zlEnd (by kernel_rfl) ?_
  refine zkSeq ?_
  refine zrSeq ?_
  refine zrReg ?_
  refine zlRun (n := 2) (j := 2) rfl (by kernel_rfl) ?_
  refine bindE hS (fun z2 hz2 hS => ?_)
  refine zlOp (d := some 6) (op := (.call 10 [(.tmp 4), (.tmp 5)])) (g := none) (v := (.d (.bool z2))) (ups := []) (j := 3) rfl (by kernel_rfl) (by kernel_rfl) (ev_call (args := [(.d (.str a1)), (.d (.str a2))]) (l := [(.d (.str a1)), (.d (.str a2))]) (r := (.d (.bool z2))) (by kernel_rfl) (by kernel_rfl) (libContains_ok (d - 1) (dpt hd rfl) a1 a2 z2 hz2) (by kernel_rfl) (by kernel_rfl) (by kernel_rfl)) ?_
  refine zlRun (n := 1) (j := 4) rfl (by kernel_rfl) ?_
  refine zlEnd (by kernel_rfl) ?_
  refine zkSeq ?_
  refine zrRet ?_
  refine zkNil ?_
  exact endQ hS hQ (fRet ((congrArg (fun s => outR s 0 c25.res) (by kernel_rfl : finSt c25.fin _ = f25_fin z2)).trans (f25_out z2)))
/- slices.IndexFunc[[]string,string] -/
def f38v1_fin (p8 : Int) : St := ⟨(up (fun _ => .un) 4 (.d (.int .i64 p8))), (hB fun _ => 0)⟩
theorem f38v1_out (p8 : Int) : outR (f38v1_fin p8) 0 c38.res = some ((.d (.int .i64 p8)), []) := by
  kernel_rfl
def f38v1_Q (r : Int) (e : PX) (st : St) : Prop := DoneF c38 0 ((.d (.int .i64 r)), []) e st
def f38v1_l0_J (a1 : List (List UInt8)) (a2 : List UInt8) (a3 : List PD) (x : Int) : St := ⟨(up (up (up (up (fun _ => .un) 8 (.d (.int .i64 x))) 7 (.d (.int .i64 (a1.length : Int)))) 1 (.fn 25 [(.rptr (eStr.enc a2 ++ a3))])) 0 (.d (.sl a1.length (eStr.cells a1)))), (hB fun _ => 0)⟩
def f38v1_l0_H (a1 : List (List UInt8)) (a2 : List UInt8) (a3 : List PD) (x : Int) (st : St) : Prop := keepSt [0, 1, 7, 8] [] [] st = f38v1_l0_J a1 a2 a3 x
def f38v1_l0_e0_J (a1 : List (List UInt8)) (a2 : List UInt8) (a3 : List PD) : St := ⟨(fun _ => .un), (hB fun _ => 0)⟩
def f38v1_l0_X (a1 : List (List UInt8)) (a2 : List UInt8) (a3 : List PD) (z : Unit ⊕ Int) (e : PX) (st : St) : Prop := (match z with | .inl z => e = .exit 0 ∧ st = f38v1_l0_e0_J a1 a2 a3 | .inr z => e = .ret ∧ finSt c38.fin st = f38v1_fin z)
def f38v1_l0_j2_J (a1 : List (List UInt8)) (a2 : List UInt8) (a3 : List PD) (p13 : Int) : St := ⟨(up (up (up (up (fun _ => .un) 8 (.d (.int .i64 p13))) 7 (.d (.int .i64 (a1.length : Int)))) 1 (.fn 25 [(.rptr (eStr.enc a2 ++ a3))])) 0 (.d (.sl a1.length (eStr.cells a1)))), (hB fun _ => 0)⟩
noncomputable def f38v1_l0_j2 (a1 : List (List UInt8)) (a2 : List UInt8) (a3 : List PD) (p13 : Int) : Option (Int ⊕ (Unit ⊕ Int)) := ((idx a1 p13).bind fun z7 => ((f25 z7 a2 a3).bind fun z8 => (bif z8 then (some (.inr (.inr p13))) else (some (.inl (IntKind.i64.wrap (p13 + 1)))))))
theorem f38v1_l0_j2_ok {d : Nat} (hd : 2 ≤ d) (a1 : List (List UInt8)) (a2 : List UInt8) (a3 : List PD) {r : Int ⊕ (Unit ⊕ Int)} {Q : PX → St → Prop} (hQ : ∀ e st', finL (f38v1_l0_H a1 a2 a3) (f38v1_l0_X a1 a2 a3) r e st' → Q e st') (p13 : Int) (hS : f38v1_l0_j2 a1 a2 a3 p13 = some r) {st : St} (he : keepSt [0, 1, 7, 8] [] [] st = f38v1_l0_j2_J a1 a2 a3 p13) : ZR (lev codes baseL (d - 1)) Q c38_1 [] st := by
  refine zrKeep he ?_
  unfold f38v1_l0_j2 at hS
  refine zrSeq ?_
  refine zrBlk ?_
  refine zrSeq ?_
  refine zrReg ?_
  refine zlRun (n := 2) (j := 2) rfl (by kernel_rfl) ?_
  refine zlEnd (by kernel_rfl) ?_
  refine zkSeq ?_
  refine zrSeq ?_
  refine zrReg ?_
  refine zlRun (n := 3) (j := 3) rfl (by kernel_rfl) ?_
  refine bindE hS (fun z7 hz7 hS => ?_)
  refine zlOp (d := some 14) (op := (.ixS 9 1 (.tmp 12) (.tmp 13))) (g := none) (v := (.rptr (eStr.enc z7 ++ (eStr.cells (a1.drop ((p13 : Int).toNat + 1)))))) (ups := []) (j := 4) rfl (by kernel_rfl) (by kernel_rfl) (ev_ixS eStr (kk := .i64) (xs := a1) (j := p13) (by kernel_rfl) (by kernel_rfl) hz7 rfl (by intro h; cases h)) ?_
  refine zlRun (n := 1) (j := 5) rfl (by kernel_rfl) ?_
  refine bindE hS (fun z8 hz8 hS => ?_)
  refine zlOp (d := some 16) (op := (.callv (.tmp 11) [(.tmp 15)])) (g := none) (v := (.d (.bool z8))) (ups := []) (j := 6) rfl (by kernel_rfl) (by kernel_rfl) (ev_callv (f := 25) (cs := [(.rptr (eStr.enc a2 ++ a3))]) (by kernel_rfl) (args := [(.d (.str z7)), (.rptr (eStr.enc a2 ++ a3))]) (l := [(.d (.str z7)), (.rptr (eStr.enc a2 ++ a3))]) (r := (.d (.bool z8))) (by kernel_rfl) (by kernel_rfl) (f25_ok (d - 1) (dpt hd rfl) z7 a2 a3 z8 hz8) (by kernel_rfl) (by kernel_rfl) (by kernel_rfl)) ?_
  refine zlEnd (by kernel_rfl) ?_
  refine zkSeq ?_
  refine zrSplit 16 z8 (by kernel_rfl) (fun hc => ?_) (fun hc => ?_)
  · replace hS := cond_t hc hS
    refine zrCondT (by kernel_rfl) ?_
    refine zrSeq ?_
    refine zrReg ?_
    refine zlRun (n := 2) (j := 2) rfl (by kernel_rfl) ?_
    refine zlEnd (by kernel_rfl) ?_
    refine zkSeq ?_
    refine zrRet ?_
    refine zkBlkR ?_
    refine zkSeqR ?_
    refine zkNil ?_
    exact endQ hS hQ (finL_x (by intro h; cases h) (by show _ = _ ∧ _ = _; exact ⟨rfl, by kernel_rfl⟩))
  · replace hS := cond_f hc hS
    refine zrCondF (by kernel_rfl) ?_
    refine zrSkip ?_
    refine zkBlk ?_
    refine zkSeq ?_
    refine zrReg ?_
    refine zlRun (n := 2) (j := 2) rfl (by kernel_rfl) ?_
    refine zlEnd (by kernel_rfl) ?_
    refine zkNil ?_
    exact endQ hS hQ (finL_n (by show keepSt _ _ _ _ = _; kernel_rfl))
def f38v1_l0_j1_J (a1 : List (List UInt8)) (a2 : List UInt8) (a3 : List PD) (p11 : Int) (p12 : Bool) : St := ⟨(up (up (up (up (up (fun _ => .un) 9 (.d (.bool p12))) 8 (.d (.int .i64 p11))) 7 (.d (.int .i64 (a1.length : Int)))) 1 (.fn 25 [(.rptr (eStr.enc a2 ++ a3))])) 0 (.d (.sl a1.length (eStr.cells a1)))), (hB fun _ => 0)⟩
noncomputable def f38v1_l0_j1 (a1 : List (List UInt8)) (a2 : List UInt8) (a3 : List PD) (p11 : Int) (p12 : Bool) : Option (Int ⊕ (Unit ⊕ Int)) := (bif p12 then (f38v1_l0_j2 a1 a2 a3 p11) else (some (.inr (.inl ()))))
theorem f38v1_l0_j1_ok {d : Nat} (hd : 2 ≤ d) (a1 : List (List UInt8)) (a2 : List UInt8) (a3 : List PD) {r : Int ⊕ (Unit ⊕ Int)} {Q : PX → St → Prop} (hQ : ∀ e st', finL (f38v1_l0_H a1 a2 a3) (f38v1_l0_X a1 a2 a3) r e st' → Q e st') (p11 : Int) (p12 : Bool) (hS : f38v1_l0_j1 a1 a2 a3 p11 p12 = some r) {st : St} (he : keepSt [0, 1, 7, 8, 9] [] [] st = f38v1_l0_j1_J a1 a2 a3 p11 p12) : ZR (lev codes baseL (d - 1)) Q c38_2 [] st := by
  refine zrKeep he ?_
  unfold f38v1_l0_j1 at hS
  refine zrSeq ?_
  refine zrSplit 9 p12 (by kernel_rfl) (fun hc => ?_) (fun hc => ?_)
  · replace hS := cond_t hc hS
    refine zrCondT (by kernel_rfl) ?_
    refine zrSkip ?_
    refine zkSeq ?_
    exact f38v1_l0_j2_ok hd a1 a2 a3 hQ p11 hS (by kernel_rfl)
  · replace hS := cond_f hc hS
    refine zrCondF (by kernel_rfl) ?_
    refine zrKeep (J := f38v1_l0_e0_J a1 a2 a3) (by kernel_rfl) ?_
    refine zrExit ?_
    refine zkSeqX ?_
    refine zkNil ?_
    exact endQ hS hQ (finL_x (by intro h; cases h) (by show _ = _ ∧ _ = _; exact ⟨rfl, rfl⟩))
noncomputable def f38v1_l0 (a1 : List (List UInt8)) (a2 : List UInt8) (a3 : List PD) (x : Int) : Option (Int ⊕ (Unit ⊕ Int)) := (bif (decide (x < (a1.length : Int))) then (f38v1_l0_j1 a1 a2 a3 x true) else (f38v1_l0_j1 a1 a2 a3 x false))
theorem f38v1_l0_ok {d : Nat} (hd : 2 ≤ d) (a1 : List (List UInt8)) (a2 : List UInt8) (a3 : List PD) {r : Int ⊕ (Unit ⊕ Int)} {Q : PX → St → Prop} (hQ : ∀ e st', finL (f38v1_l0_H a1 a2 a3) (f38v1_l0_X a1 a2 a3) r e st' → Q e st') {x : Int} (hS : f38v1_l0 a1 a2 a3 x = some r) {st : St} (he : f38v1_l0_H a1 a2 a3 x st) : ZR (lev codes baseL (d - 1)) Q c38_3 [] st := by
  refine zrKeep he ?_
  unfold f38v1_l0 at hS
  refine zrSeq ?_
  refine zrReg ?_
  refine zlBool (d := 9) (op := (.cmpI .lss (.tmp 8) (.tmp 7))) (g := none) (j := 1) (decide (x < (a1.length : Int))) rfl (by kernel_rfl) (by kernel_rfl) (by kernel_rfl) (fun hc => ?_) (fun hc => ?_)
  · replace hS := cond_t hc hS
    refine zlEnd (by kernel_rfl) ?_
    refine zkSeq ?_
    exact f38v1_l0_j1_ok hd a1 a2 a3 hQ x true hS (by kernel_rfl)
  · replace hS := cond_f hc hS
    refine zlEnd (by kernel_rfl) ?_
    refine zkSeq ?_
    exact f38v1_l0_j1_ok hd a1 a2 a3 hQ x false hS (by kernel_rfl)
noncomputable def f38v1 (a1 : List (List UInt8)) (a2 : List UInt8) (a3 : List PD) : Option (Int) := ((loopO (f38v1_l0 a1 a2 a3) 0).bind fun z9 => (Sum.elim (fun z10 => (some (-1))) (fun z11 => (some z11)) z9))
theorem f38v1_ok (d : Nat) (hd : 2 ≤ d) (a1 : List (List UInt8)) (a2 : List UInt8) (a3 : List PD) (r : Int) (hS : f38v1 a1 a2 a3 = some r) : lev codes baseL d 38 [(.d (.sl a1.length (eStr.cells a1))), (.fn 25 [(.rptr (eStr.enc a2 ++ a3))])] [] = some ((.d (.int .i64 r)), []) := by
  refine lev_go codes38 rfl rfl (Nat.le_trans (Nat.le_of_ble_eq_true rfl) hd) fun Q hQ => ?_
  unfold f38v1 at hS
  show ZR _ Q c38_b [] _
  replace hQ : ∀ e st', f38v1_Q r e st' → Q e st' := hQ
  refine zrSeq ?_
  refine zrReg ?_
  refine zlRun (n := 1) (j := 1) rfl (by kernel_rfl) ?_
  refine zlEnd (by kernel_rfl) ?_
  refine zkSeq ?_
  refine zrSeq ?_
  refine zrSeq ?_
  refine zrReg ?_
  refine zlRun (n := 3) (j := 3) rfl (by kernel_rfl) ?_
  refine zlEnd (by kernel_rfl) ?_
  refine zkSeq ?_
  refine zrBlk ?_
  refine bindE hS (fun z9 hz9 hS => ?_)
  refine zrLoop (f38v1_l0_H a1 a2 a3) (f38v1_l0_X a1 a2 a3) (fun x st r Q h0 hS hQ => f38v1_l0_ok hd a1 a2 a3 hQ hS h0) (x := 0) (z := z9) (by show keepSt _ _ _ _ = _; kernel_rfl) hz9 ?_
  rcases z9 with z10 | z11
  · replace hS := (show _ = _ from hS)
    simp only [Sum.elim_inl] at hS
    intro e st' _ hX
    obtain ⟨rfl, rfl⟩ : _ ∧ _ := hX
    refine zkBlkX ?_
    refine zkSeq ?_
    refine zrSeq ?_
    refine zrReg ?_
    refine zlRun (n := 1) (j := 1) rfl (by kernel_rfl) ?_
    refine zlEnd (by kernel_rfl) ?_
    refine zkSeq ?_
    refine zrRet ?_
    refine zkNil ?_
    exact endQ hS hQ (fRet ((congrArg (fun s => outR s 0 c38.res) (by kernel_rfl : finSt c38.fin _ = f38v1_fin (-1))).trans (f38v1_out (-1))))
  · simp only [Sum.elim_inr] at hS
    intro e st' _ hX
    obtain ⟨rfl, hX⟩ : _ ∧ _ := hX
    refine zkBlkR ?_
    refine zkSeqR ?_
    refine zkNil ?_
    exact endQ hS hQ (fRet ((congrArg (fun s => outR s 0 c38.res) hX).trans (f38v1_out z11)))
/- slices.ContainsFunc[[]string,string] -/
def f22v1_fin (p2 : Bool) : St := ⟨(up (fun _ => .un) 4 (.d (.bool p2))), (hB fun _ => 0)⟩
theorem f22v1_out (p2 : Bool) : outR (f22v1_fin p2) 0 c22.res = some ((.d (.bool p2)), []) := by
  kernel_rfl
def f22v1_Q (r : Bool) (e : PX) (st : St) : Prop := DoneF c22 0 ((.d (.bool r)), []) e st
noncomputable def f22v1 (a1 : List (List UInt8)) (a2 : List UInt8) (a3 : List PD) : Option (Bool) := ((f38v1 a1 a2 a3).bind fun z2 => (bif (decide (0 ≤ z2)) then (some true) else (some false)))
theorem f22v1_ok (d : Nat) (hd : 3 ≤ d) (a1 : List (List UInt8)) (a2 : List UInt8) (a3 : List PD) (r : Bool) (hS : f22v1 a1 a2 a3 = some r) : lev codes baseL d 22 [(.d (.sl a1.length (eStr.cells a1))), (.fn 25 [(.rptr (eStr.enc a2 ++ a3))])] [] = some ((.d (.bool r)), []) := by
  refine lev_go codes22 rfl rfl (Nat.le_trans (Nat.le_of_ble_eq_true rfl) hd) fun Q hQ => ?_
  unfold f22v1 at hS
  show ZR _ Q c22_b [] _
  replace hQ : ∀ e st', f22v1_Q r e st' → Q e st' := hQ
  refine zrSeq ?_
  refine zrReg ?_
  refine zlRun (n := 1) (j := 1) rfl (by kernel_rfl) ?_
  refine zlEnd (by kernel_rfl) ?_
  refine zkSeq ?_
  refine zrSeq ?_
  refine zrReg ?_
  refine zlRun (n := 2) (j := 2) rfl (by kernel_rfl) ?_
  refine bindE hS (fun z2 hz2 hS => ?_)
  refine zlOp (d := some 7) (op := (.call 38 [(.tmp 5), (.tmp 6)])) (g := none) (v := (.d (.int .i64 z2))) (ups := []) (j := 3) rfl (by kernel_rfl) (by kernel_rfl) (ev_call (args := [(.d (.sl a1.length (eStr.cells a1))), (.fn 25 [(.rptr (eStr.enc a2 ++ a3))])]) (l := [(.d (.sl a1.length (eStr.cells a1))), (.fn 25 [(.rptr (eStr.enc a2 ++ a3))])]) (r := (.d (.int .i64 z2))) (by kernel_rfl) (by kernel_rfl) (f38v1_ok (d - 1) (dpt hd rfl) a1 a2 a3 z2 hz2) (by kernel_rfl) (by kernel_rfl) (by kernel_rfl)) ?_
  refine zlBool (d := 8) (op := (.cmpI .geq (.tmp 7) (.const (.int .i64 0)))) (g := none) (j := 4) (decide (0 ≤ z2)) rfl (by kernel_rfl) (by kernel_rfl) (by kernel_rfl) (fun hc => ?_) (fun hc => ?_)
  · replace hS := cond_t hc hS
    refine zlRun (n := 1) (j := 5) rfl (by kernel_rfl) ?_
    refine zlEnd (by kernel_rfl) ?_
    refine zkSeq ?_
    refine zrRet ?_
    refine zkNil ?_
    exact endQ hS hQ (fRet ((congrArg (fun s => outR s 0 c22.res) (by kernel_rfl : finSt c22.fin _ = f22v1_fin true)).trans (f22v1_out true)))
  · replace hS := cond_f hc hS
    refine zlRun (n := 1) (j := 5) rfl (by kernel_rfl) ?_
    refine zlEnd (by kernel_rfl) ?_
    refine zkSeq ?_
    refine zrRet ?_
    refine zkNil ?_
    exact endQ hS hQ (fRet ((congrArg (fun s => outR s 0 c22.res) (by kernel_rfl : finSt c22.fin _ = f22v1_fin false)).trans (f22v1_out false)))
/- strings.Join -/
theorem libJoin_ok (d : Nat) (hd : 0 ≤ d) (a1 : List (List UInt8)) (a2 : List UInt8) (r : List UInt8) (hS : libJoin a1 a2 = some r) : lev codes baseL d 11 [(.d (.sl a1.length (eStr.cells a1))), (.d (.str a2))] [] = some ((.d (.str r)), []) := lib_call (l := libs) rfl rfl rfl (oSsS_ hS) d
/- farwriter/choice.Ask -/
def f8_fin (p8 : List UInt8) (p9 : Int) : St := ⟨(up (up (fun _ => .un) 3 (.d (.int .i64 p9))) 2 (.d (.str p8))), (hB fun _ => 0)⟩
theorem f8_out (p8 : List UInt8) (p9 : Int) : outR (f8_fin p8 p9) 0 c8.res = some ((.tup [(.d (.str p8)), (.d (.int .i64 p9))]), []) := by
  kernel_rfl
def f8_Q (r : (List UInt8) × Int) (e : PX) (st : St) : Prop := DoneF c8 0 ((.tup [(.d (.str r.1)), (.d (.int .i64 r.2))]), []) e st
def f8_l2_J (a1 : List (List UInt8)) (x : UInt8) : St := ⟨(up (up (fun _ => .un) 4 (.d (.int .u8 (x.toNat : Int)))) 0 (.d (.sl a1.length (eStr.cells a1)))), (hB fun _ => 0)⟩
def f8_l2_H (a1 : List (List UInt8)) (x : UInt8) (st : St) : Prop := keepSt [0, 4] [] [] st = f8_l2_J a1 x
def f8_l2_e0_J (a1 : List (List UInt8)) : St := ⟨(fun _ => .un), (hB fun _ => 0)⟩
def f8_l2_X (a1 : List (List UInt8)) (z : Unit ⊕ ((List UInt8) × Int)) (e : PX) (st : St) : Prop := (match z with | .inl z => e = .exit 0 ∧ st = f8_l2_e0_J a1 | .inr z => e = .ret ∧ finSt c8.fin st = f8_fin z.1 z.2)
def f8_l2_j3_J (a1 : List (List UInt8)) (p13 : UInt8) : St := ⟨(up (up (fun _ => .un) 4 (.d (.int .u8 (p13.toNat : Int)))) 0 (.d (.sl a1.length (eStr.cells a1)))), (hB fun _ => 0)⟩
noncomputable def f8_l2_j3 (a1 : List (List UInt8)) (p13 : UInt8) : Option (UInt8 ⊕ (Unit ⊕ ((List UInt8) × Int))) := ((f22v1 a1 ((Utf8.encode (p13.toNat : Int)).data.toList) []).bind fun z31 => (bif (!z31) then ((cat? ([1] : List UInt8) ((Utf8.encode (p13.toNat : Int)).data.toList)).bind fun z32 => ((libJoin a1 ((Utf8.encode (p13.toNat : Int)).data.toList)).bind fun z33 => ((cat? z32 z33).bind fun z34 => (some (.inr (.inr (z34, 0))))))) else (some (.inl (p13 + (1 : UInt8))))))
theorem f8_l2_j3_ok {d : Nat} (hd : 5 ≤ d) (a1 : List (List UInt8)) {r : UInt8 ⊕ (Unit ⊕ ((List UInt8) × Int))} {Q : PX → St → Prop} (hQ : ∀ e st', finL (f8_l2_H a1) (f8_l2_X a1) r e st' → Q e st') (p13 : UInt8) (hS : f8_l2_j3 a1 p13 = some r) {st : St} (he : keepSt [0, 4] [] [] st = f8_l2_j3_J a1 p13) : ZR (lev codes baseL (d - 1)) Q c8_1 [] st := by
  refine zrKeep he ?_
  unfold f8_l2_j3 at hS
  refine zrSeq ?_
  refine zrBlk ?_
  refine zrSeq ?_
  refine zrReg ?_
  refine zlRun (n := 1) (j := 1) rfl (by kernel_rfl) ?_
  refine zlOp (d := some 21) (op := (.cvI .i32 (.tmp 20))) (g := none) (v := (.d (.int .i32 (p13.toNat : Int)))) (ups := []) (j := 2) rfl (by kernel_rfl) (by kernel_rfl) (ev_cv (kk := .u8) (a := (p13.toNat : Int)) (by kernel_rfl) (cv_i32 _)) ?_
  refine zlRun (n := 3) (j := 5) rfl (by kernel_rfl) ?_
  refine zlEnd (by kernel_rfl) ?_
  refine zkSeq ?_
  refine zrSeq ?_
  refine zrReg ?_
  refine zlRun (n := 2) (j := 2) rfl (by kernel_rfl) ?_
  refine bindE hS (fun z31 hz31 hS => ?_)
  refine zlOp (d := some 25) (op := (.call 22 [(.tmp 23), (.tmp 24)])) (g := none) (v := (.d (.bool z31))) (ups := []) (j := 3) rfl (by kernel_rfl) (by kernel_rfl) (ev_call (args := [(.d (.sl a1.length (eStr.cells a1))), (.fn 25 [(.r (.ptr 48 1 0))])]) (l := [(.d (.sl a1.length (eStr.cells a1))), (.fn 25 [(.rptr (eStr.enc ((Utf8.encode (p13.toNat : Int)).data.toList) ++ []))])]) (r := (.d (.bool z31))) (by kernel_rfl) (by kernel_rfl) (f22v1_ok (d - 1) (dpt hd rfl) a1 ((Utf8.encode (p13.toNat : Int)).data.toList) [] z31 hz31) (by kernel_rfl) (by kernel_rfl) (by kernel_rfl)) ?_
  refine zlRun (n := 1) (j := 4) rfl (by kernel_rfl) ?_
  refine zlEnd (by kernel_rfl) ?_
  refine zkSeq ?_
  refine zrSplit 26 (!z31) (by kernel_rfl) (fun hc => ?_) (fun hc => ?_)
  · replace hS := cond_t hc hS
    refine zrCondT (by kernel_rfl) ?_
    refine zrSeq ?_
    refine zrRegD ?_
    refine zdRun (n := 1) (j := 1) (ts := [[(48, false)]]) (acc' := [[(48, false)]]) rfl (by kernel_rfl) (by kernel_rfl) (by kernel_rfl) ?_
    refine bindE hS (fun z32 hz32 hS => ?_)
    refine zdOp (d := some 28) (op := (.strO .add (.const (.string ⟨#[1]⟩)) (.tmp 27))) (g := none) (v := (.d (.str z32))) (ups := []) (j := 2) (t1 := []) (acc' := [[(48, false)], []]) (by kernel_rfl) (by kernel_rfl) rfl (by kernel_rfl) (by kernel_rfl) (ev_cat (a := [1]) (c := (Utf8.encode (p13.toNat : Int)).data.toList) (by kernel_rfl) (by kernel_rfl) hz32) ?_
    refine zdRun (n := 2) (j := 4) (ts := [[], [(48, false)]]) (acc' := [[(48, false)], [], [], [(48, false)]]) rfl (by kernel_rfl) (by kernel_rfl) (by kernel_rfl) ?_
    refine bindE hS (fun z33 hz33 hS => ?_)
    refine zdOp (d := some 31) (op := (.call 11 [(.tmp 29), (.tmp 30)])) (g := none) (v := (.d (.str z33))) (ups := []) (j := 5) (t1 := [(256, true), (257, true), (258, true), (259, true), (260, true), (261, true), (262, true), (263, true)]) (acc' := [[(48, false)], [], [], [(48, false)], [(256, true), (257, true), (258, true), (259, true), (260, true), (261, true), (262, true), (263, true)]]) (by kernel_rfl) (by kernel_rfl) rfl (by kernel_rfl) (by kernel_rfl) (ev_call (args := [(.d (.sl a1.length (eStr.cells a1))), (.d (.str ((Utf8.encode (p13.toNat : Int)).data.toList)))]) (l := [(.d (.sl a1.length (eStr.cells a1))), (.d (.str ((Utf8.encode (p13.toNat : Int)).data.toList)))]) (r := (.d (.str z33))) (by kernel_rfl) (by kernel_rfl) (libJoin_ok (d - 1) (dpt hd rfl) a1 ((Utf8.encode (p13.toNat : Int)).data.toList) z33 hz33) (by kernel_rfl) (by kernel_rfl) (by kernel_rfl)) ?_
    refine bindE hS (fun z34 hz34 hS => ?_)
    refine zdOp (d := some 32) (op := (.strO .add (.tmp 28) (.tmp 31))) (g := none) (v := (.d (.str z34))) (ups := []) (j := 6) (t1 := []) (acc' := [[(48, false)], [], [], [(48, false)], [(256, true), (257, true), (258, true), (259, true), (260, true), (261, true), (262, true), (263, true)], []]) (by kernel_rfl) (by kernel_rfl) rfl (by kernel_rfl) (by kernel_rfl) (ev_cat (a := z32) (c := z33) (by kernel_rfl) (by kernel_rfl) hz34) ?_
    refine zdRun (n := 2) (j := 8) (ts := [[], []]) (acc' := [[(48, false)], [], [], [(48, false)], [(256, true), (257, true), (258, true), (259, true), (260, true), (261, true), (262, true), (263, true)], [], [], []]) rfl (by kernel_rfl) (by kernel_rfl) (by kernel_rfl) ?_
    refine zdEnd (by kernel_rfl) (by kernel_rfl) ?_
    refine zkSeq ?_
    refine zrRet ?_
    refine zkBlkR ?_
    refine zkSeqR ?_
    refine zkNil ?_
    exact endQ hS hQ (finL_x (by intro h; cases h) (by show _ = _ ∧ _ = _; exact ⟨rfl, by kernel_rfl⟩))
  · replace hS := cond_f hc hS
    refine zrCondF (by kernel_rfl) ?_
    refine zrSkip ?_
    refine zkBlk ?_
    refine zkSeq ?_
    refine zrReg ?_
    refine zlRun (n := 1) (j := 1) rfl (by kernel_rfl) ?_
    refine zlOp (d := some 19) (op := (.arI .add (.tmp 18) (.const (.int .u8 1)))) (g := none) (v := (.d (.int .u8 ((p13 + (1 : UInt8)).toNat : Int)))) (ups := []) (j := 2) rfl (by kernel_rfl) (by kernel_rfl) (ev_arI (kk := .u8) (a := (p13.toNat : Int)) (c := ((1 : UInt8).toNat : Int)) (by kernel_rfl) (by kernel_rfl) (ar_add8 p13 (1 : UInt8))) ?_
    refine zlRun (n := 1) (j := 3) rfl (by kernel_rfl) ?_
    refine zlEnd (by kernel_rfl) ?_
    refine zkNil ?_
    exact endQ hS hQ (finL_n (by show keepSt _ _ _ _ = _; kernel_rfl))
noncomputable def f8_l2 (a1 : List (List UInt8)) (x : UInt8) : Option (UInt8 ⊕ (Unit ⊕ ((List UInt8) × Int))) := (bif (decide ((x.toNat : Int) ≤ 47)) then (f8_l2_j3 a1 x) else (some (.inr (.inl ()))))
theorem f8_l2_ok {d : Nat} (hd : 5 ≤ d) (a1 : List (List UInt8)) {r : UInt8 ⊕ (Unit ⊕ ((List UInt8) × Int))} {Q : PX → St → Prop} (hQ : ∀ e st', finL (f8_l2_H a1) (f8_l2_X a1) r e st' → Q e st') {x : UInt8} (hS : f8_l2 a1 x = some r) {st : St} (he : f8_l2_H a1 x st) : ZR (lev codes baseL (d - 1)) Q c8_2 [] st := by
  refine zrKeep he ?_
  unfold f8_l2 at hS
  refine zrSeq ?_
  refine zrSeq ?_
  refine zrReg ?_
  refine zlRun (n := 1) (j := 1) rfl (by kernel_rfl) ?_
  refine zlBool (d := 17) (op := (.cmpI .leq (.tmp 16) (.const (.int .u8 47)))) (g := none) (j := 2) (decide ((x.toNat : Int) ≤ 47)) rfl (by kernel_rfl) (by kernel_rfl) (by kernel_rfl) (fun hc => ?_) (fun hc => ?_)
  · replace hS := cond_t hc hS
    refine zlEnd (by kernel_rfl) ?_
    refine zkSeq ?_
    refine zrCondT (by kernel_rfl) ?_
    refine zrSkip ?_
    refine zkSeq ?_
    exact f8_l2_j3_ok hd a1 hQ x hS (by kernel_rfl)
  · replace hS := cond_f hc hS
    refine zlEnd (by kernel_rfl) ?_
    refine zkSeq ?_
    refine zrCondF (by kernel_rfl) ?_
    refine zrKeep (J := f8_l2_e0_J a1) (by kernel_rfl) ?_
    refine zrExit ?_
    refine zkSeqX ?_
    refine zkNil ?_
    exact endQ hS hQ (finL_x (by intro h; cases h) (by show _ = _ ∧ _ = _; exact ⟨rfl, rfl⟩))
def f8_j1_J (a1 : List (List UInt8)) : St := ⟨(up (fun _ => .un) 0 (.d (.sl a1.length (eStr.cells a1)))), (hB fun _ => 0)⟩
noncomputable def f8_j1 (a1 : List (List UInt8)) : Option ((List UInt8) × Int) := ((loopO (f8_l2 a1) (33 : UInt8)).bind fun z35 => (Sum.elim (fun z36 => (some ([], 5))) (fun z37 => (some (z37.1, z37.2))) z35))
theorem f8_j1_ok {d : Nat} (hd : 5 ≤ d) (a1 : List (List UInt8)) {r : (List UInt8) × Int} {Q : PX → St → Prop} (hQ : ∀ e st', f8_Q r e st' → Q e st')  (hS : f8_j1 a1 = some r) {st : St} (he : keepSt [0] [] [] st = f8_j1_J a1) : ZR (lev codes baseL (d - 1)) Q c8_3 [] st := by
  refine zrKeep he ?_
  unfold f8_j1 at hS
  refine zrSeq ?_
  refine zrSeq ?_
  refine zrReg ?_
  refine zlRun (n := 1) (j := 1) rfl (by kernel_rfl) ?_
  refine zlEnd (by kernel_rfl) ?_
  refine zkSeq ?_
  refine zrBlk ?_
  refine bindE hS (fun z35 hz35 hS => ?_)
  refine zrLoop (f8_l2_H a1) (f8_l2_X a1) (fun x st r Q h0 hS hQ => f8_l2_ok hd a1 hQ hS h0) (x := (33 : UInt8)) (z := z35) (by show keepSt _ _ _ _ = _; kernel_rfl) hz35 ?_
  rcases z35 with z36 | z37
  · replace hS := (show _ = _ from hS)
    simp only [Sum.elim_inl] at hS
    intro e st' _ hX
    obtain ⟨rfl, rfl⟩ : _ ∧ _ := hX
    refine zkBlkX ?_
    refine zkSeq ?_
    refine zrSeq ?_
    refine zrReg ?_
    refine zlRun (n := 2) (j := 2) rfl (by kernel_rfl) ?_
    refine zlEnd (by kernel_rfl) ?_
    refine zkSeq ?_
    refine zrRet ?_
    refine zkNil ?_
    exact endQ hS hQ (fRet ((congrArg (fun s => outR s 0 c8.res) (by kernel_rfl : finSt c8.fin _ = f8_fin [] 5)).trans (f8_out [] 5)))
  · simp only [Sum.elim_inr] at hS
    intro e st' _ hX
    obtain ⟨rfl, hX⟩ : _ ∧ _ := hX
    refine zkBlkR ?_
    refine zkSeqR ?_
    refine zkNil ?_
    exact endQ hS hQ (fRet ((congrArg (fun s => outR s 0 c8.res) hX).trans (f8_out z37.1 z37.2)))
def f8_j0_J (a1 : List (List UInt8)) : St := ⟨(up (fun _ => .un) 0 (.d (.sl a1.length (eStr.cells a1)))), (hB fun _ => 0)⟩
noncomputable def f8_j0 (a1 : List (List UInt8)) : Option ((List UInt8) × Int) := ((f22 a1).bind fun z38 => (bif z38 then (some ([], 4)) else (f8_j1 a1 )))
theorem f8_j0_ok {d : Nat} (hd : 5 ≤ d) (a1 : List (List UInt8)) {r : (List UInt8) × Int} {Q : PX → St → Prop} (hQ : ∀ e st', f8_Q r e st' → Q e st')  (hS : f8_j0 a1 = some r) {st : St} (he : keepSt [0] [] [] st = f8_j0_J a1) : ZR (lev codes baseL (d - 1)) Q c8_4 [] st := by
  refine zrKeep he ?_
  unfold f8_j0 at hS
  refine zrSeq ?_
  refine zrSeq ?_
  refine zrReg ?_
  refine zlRun (n := 1) (j := 1) rfl (by kernel_rfl) ?_
  refine bindE hS (fun z38 hz38 hS => ?_)
  refine zlOp (d := some 15) (op := (.call 22 [(.tmp 14), (.func 23)])) (g := none) (v := (.d (.bool z38))) (ups := []) (j := 2) rfl (by kernel_rfl) (by kernel_rfl) (ev_call (args := [(.d (.sl a1.length (eStr.cells a1))), (.fn 23 [])]) (l := [(.d (.sl a1.length (eStr.cells a1))), (.fn 23 [])]) (r := (.d (.bool z38))) (by kernel_rfl) (by kernel_rfl) (f22_ok (d - 1) (dpt hd rfl) a1 z38 hz38) (by kernel_rfl) (by kernel_rfl) (by kernel_rfl)) ?_
  refine zlEnd (by kernel_rfl) ?_
  refine zkSeq ?_
  refine zrSplit 15 z38 (by kernel_rfl) (fun hc => ?_) (fun hc => ?_)
  · replace hS := cond_t hc hS
    refine zrCondT (by kernel_rfl) ?_
    refine zrSeq ?_
    refine zrReg ?_
    refine zlRun (n := 2) (j := 2) rfl (by kernel_rfl) ?_
    refine zlEnd (by kernel_rfl) ?_
    refine zkSeq ?_
    refine zrRet ?_
    refine zkSeqR ?_
    refine zkNil ?_
    exact endQ hS hQ (fRet ((congrArg (fun s => outR s 0 c8.res) (by kernel_rfl : finSt c8.fin _ = f8_fin [] 4)).trans (f8_out [] 4)))
  · replace hS := cond_f hc hS
    refine zrCondF (by kernel_rfl) ?_
    refine zrSkip ?_
    refine zkSeq ?_
    exact f8_j1_ok hd a1 hQ  hS (by kernel_rfl)
noncomputable def f8 (a1 : List (List UInt8)) : Option ((List UInt8) × Int) := (bif (decide ((a1.length : Int) < 1)) then (some ([], 1)) else (bif (decide (8 < (a1.length : Int))) then (some ([], 1)) else (f8_j0 a1 )))
theorem f8_ok (d : Nat) (hd : 5 ≤ d) (a1 : List (List UInt8)) (r : (List UInt8) × Int) (hS : f8 a1 = some r) : lev codes baseL d 8 [(.d (.sl a1.length (eStr.cells a1)))] [] = some ((.tup [(.d (.str r.1)), (.d (.int .i64 r.2))]), []) := by
  refine lev_go codes8 rfl rfl (Nat.le_trans (Nat.le_of_ble_eq_true rfl) hd) fun Q hQ => ?_
  unfold f8 at hS
  show ZR _ Q c8_b [] _
  replace hQ : ∀ e st', f8_Q r e st' → Q e st' := hQ
  refine zrSeq ?_
  refine zrReg ?_
  refine zlRun (n := 2) (j := 2) rfl (by kernel_rfl) ?_
  refine zlEnd (by kernel_rfl) ?_
  refine zkSeq ?_
  refine zrSeq ?_
  refine zrSeq ?_
  refine zrReg ?_
  refine zlRun (n := 2) (j := 2) rfl (by kernel_rfl) ?_
  refine zlBool (d := 8) (op := (.cmpI .lss (.tmp 7) (.const (.int .i64 1)))) (g := none) (j := 3) (decide ((a1.length : Int) < 1)) rfl (by kernel_rfl) (by kernel_rfl) (by kernel_rfl) (fun hc => ?_) (fun hc => ?_)
  · replace hS := cond_t hc hS
    refine zlRun (n := 5) (j := 8) rfl (by kernel_rfl) ?_
    refine zlEnd (by kernel_rfl) ?_
    refine zkSeq ?_
    refine zrCondT (by kernel_rfl) ?_
    refine zrSeq ?_
    refine zrReg ?_
    refine zlRun (n := 2) (j := 2) rfl (by kernel_rfl) ?_
    refine zlEnd (by kernel_rfl) ?_
    refine zkSeq ?_
    refine zrRet ?_
    refine zkSeqR ?_
    refine zkNil ?_
    exact endQ hS hQ (fRet ((congrArg (fun s => outR s 0 c8.res) (by kernel_rfl : finSt c8.fin _ = f8_fin [] 1)).trans (f8_out [] 1)))
  · replace hS := cond_f hc hS
    refine zlRun (n := 3) (j := 6) rfl (by kernel_rfl) ?_
    refine zlBool (d := 12) (op := (.cmpI .gtr (.tmp 11) (.const (.int .i64 8)))) (g := (some (9, false))) (j := 7) (decide (8 < (a1.length : Int))) rfl (by kernel_rfl) (by kernel_rfl) (by kernel_rfl) (fun hc => ?_) (fun hc => ?_)
    · replace hS := cond_t hc hS
      refine zlRun (n := 1) (j := 8) rfl (by kernel_rfl) ?_
      refine zlEnd (by kernel_rfl) ?_
      refine zkSeq ?_
      refine zrCondT (by kernel_rfl) ?_
      refine zrSeq ?_
      refine zrReg ?_
      refine zlRun (n := 2) (j := 2) rfl (by kernel_rfl) ?_
      refine zlEnd (by kernel_rfl) ?_
      refine zkSeq ?_
      refine zrRet ?_
      refine zkSeqR ?_
      refine zkNil ?_
      exact endQ hS hQ (fRet ((congrArg (fun s => outR s 0 c8.res) (by kernel_rfl : finSt c8.fin _ = f8_fin [] 1)).trans (f8_out [] 1)))
    · replace hS := cond_f hc hS
      refine zlRun (n := 1) (j := 8) rfl (by kernel_rfl) ?_
      refine zlEnd (by kernel_rfl) ?_
      refine zkSeq ?_
      refine zrCondF (by kernel_rfl) ?_
      refine zrSkip ?_
      refine zkSeq ?_
      exact f8_j0_ok hd a1 hQ  hS (by kernel_rfl)
/- strings.Split -/
theorem libSplit_ok (d : Nat) (hd : 0 ≤ d) (a1 : List UInt8) (a2 : List UInt8) (r : List (List UInt8)) (hS : libSplit a1 a2 = some r) : lev codes baseL d 13 [(.d (.str a1)), (.d (.str a2))] [] = some ((.d (.sl r.length (eStr.cells r))), []) := lib_call (l := libs) rfl rfl rfl (ossL_ hS) d
/- farwriter/choice.Answer$1 -/
def f31_fin (p1 : Bool) : St := ⟨(up (fun _ => .un) 2 (.d (.bool p1))), (hB fun _ => 0)⟩
theorem f31_out (p1 : Bool) : outR (f31_fin p1) 0 c31.res = some ((.d (.bool p1)), []) := by
  kernel_rfl
def f31_Q (r : Bool) (e : PX) (st : St) : Prop := DoneF c31 0 ((.d (.bool r)), []) e st
noncomputable def f31 (a1 : List UInt8) : Option (Bool) := ((f24 a1).bind fun z2 => (some (!z2)))
theorem f31_ok (d : Nat) (hd : 2 ≤ d) (a1 : List UInt8) (r : Bool) (hS : f31 a1 = some r) : lev codes baseL d 31 [(.d (.str a1))] [] = some ((.d (.bool r)), []) := by
  refine lev_go codes31 rfl rfl (Nat.le_trans (Nat.le_of_ble_eq_true rfl) hd) fun Q hQ => ?_
  unfold f31 at hS
  show ZR _ Q c31_b [] _
  replace hQ : ∀ e st', f31_Q r e st' → Q e st' := hQ
  refine zrSeq ?_
  refine zrReg ?_
  refine zlRun (n := 1) (j := 1) rfl (by kernel_rfl) ?_
  refine zlEnd (by kernel_rfl) ?_
  refine zkSeq ?_
  refine zrSeq ?_
  refine zrReg ?_
  refine zlRun (n := 1) (j := 1) rfl (by kernel_rfl) ?_
  refine bindE hS (fun z2 hz2 hS => ?_)
  refine zlOp (d := some 4) (op := (.call 24 [(.tmp 3)])) (g := none) (v := (.d (.bool z2))) (ups := []) (j := 2) rfl (by kernel_rfl) (by kernel_rfl) (ev_call (args := [(.d (.str a1))]) (l := [(.d (.str a1))]) (r := (.d (.bool z2))) (by kernel_rfl) (by kernel_rfl) (f24_ok (d - 1) (dpt hd rfl) a1 z2 hz2) (by kernel_rfl) (by kernel_rfl) (by kernel_rfl)) ?_
  refine zlRun (n := 2) (j := 4) rfl (by kernel_rfl) ?_
  refine zlEnd (by kernel_rfl) ?_
  refine zkSeq ?_
  refine zrRet ?_
  refine zkNil ?_
  exact endQ hS hQ (fRet ((congrArg (fun s => outR s 0 c31.res) (by kernel_rfl : finSt c31.fin _ = f31_fin (!z2))).trans (f31_out (!z2))))
/- slices.IndexFunc[[]string,string] -/
def f38v2_fin (p8 : Int) : St := ⟨(up (fun _ => .un) 4 (.d (.int .i64 p8))), (hB fun _ => 0)⟩
theorem f38v2_out (p8 : Int) : outR (f38v2_fin p8) 0 c38.res = some ((.d (.int .i64 p8)), []) := by
  kernel_rfl
def f38v2_Q (r : Int) (e : PX) (st : St) : Prop := DoneF c38 0 ((.d (.int .i64 r)), []) e st
def f38v2_l0_J (a1 : List (List UInt8)) (x : Int) : St := ⟨(up (up (up (up (fun _ => .un) 8 (.d (.int .i64 x))) 7 (.d (.int .i64 (a1.length : Int)))) 1 (.fn 31 [])) 0 (.d (.sl a1.length (eStr.cells a1)))), (hB fun _ => 0)⟩
def f38v2_l0_H (a1 : List (List UInt8)) (x : Int) (st : St) : Prop := keepSt [0, 1, 7, 8] [] [] st = f38v2_l0_J a1 x
def f38v2_l0_e0_J (a1 : List (List UInt8)) : St := ⟨(fun _ => .un), (hB fun _ => 0)⟩
def f38v2_l0_X (a1 : List (List UInt8)) (z : Unit ⊕ Int) (e : PX) (st : St) : Prop := (match z with | .inl z => e = .exit 0 ∧ st = f38v2_l0_e0_J a1 | .inr z => e = .ret ∧ finSt c38.fin st = f38v2_fin z)
def f38v2_l0_j2_J (a1 : List (List UInt8)) (p13 : Int) : St := ⟨(up (up (up (up (fun _ => .un) 8 (.d (.int .i64 p13))) 7 (.d (.int .i64 (a1.length : Int)))) 1 (.fn 31 [])) 0 (.d (.sl a1.length (eStr.cells a1)))), (hB fun _ => 0)⟩
noncomputable def f38v2_l0_j2 (a1 : List (List UInt8)) (p13 : Int) : Option (Int ⊕ (Unit ⊕ Int)) := ((idx a1 p13).bind fun z7 => ((f31 z7).bind fun z8 => (bif z8 then (some (.inr (.inr p13))) else (some (.inl (IntKind.i64.wrap (p13 + 1)))))))
theorem f38v2_l0_j2_ok {d : Nat} (hd : 3 ≤ d) (a1 : List (List UInt8)) {r : Int ⊕ (Unit ⊕ Int)} {Q : PX → St → Prop} (hQ : ∀ e st', finL (f38v2_l0_H a1) (f38v2_l0_X a1) r e st' → Q e st') (p13 : Int) (hS : f38v2_l0_j2 a1 p13 = some r) {st : St} (he : keepSt [0, 1, 7, 8] [] [] st = f38v2_l0_j2_J a1 p13) : ZR (lev codes baseL (d - 1)) Q c38_1 [] st := by
  refine zrKeep he ?_
  unfold f38v2_l0_j2 at hS
  refine zrSeq ?_
  refine zrBlk ?_
  refine zrSeq ?_
  refine zrReg ?_
  refine zlRun (n := 2) (j := 2) rfl (by kernel_rfl) ?_
  refine zlEnd (by kernel_rfl) ?_
  refine zkSeq ?_
  refine zrSeq ?_
  refine zrReg ?_
  refine zlRun (n := 3) (j := 3) rfl (by kernel_rfl) ?_
  refine bindE hS (fun z7 hz7 hS => ?_)
  refine zlOp (d := some 14) (op := (.ixS 9 1 (.tmp 12) (.tmp 13))) (g := none) (v := (.rptr (eStr.enc z7 ++ (eStr.cells (a1.drop ((p13 : Int).toNat + 1)))))) (ups := []) (j := 4) rfl (by kernel_rfl) (by kernel_rfl) (ev_ixS eStr (kk := .i64) (xs := a1) (j := p13) (by kernel_rfl) (by kernel_rfl) hz7 rfl (by intro h; cases h)) ?_
  refine zlRun (n := 1) (j := 5) rfl (by kernel_rfl) ?_
  refine bindE hS (fun z8 hz8 hS => ?_)
  refine zlOp (d := some 16) (op := (.callv (.tmp 11) [(.tmp 15)])) (g := none) (v := (.d (.bool z8))) (ups := []) (j := 6) rfl (by kernel_rfl) (by kernel_rfl) (ev_callv (f := 31) (cs := []) (by kernel_rfl) (args := [(.d (.str z7))]) (l := [(.d (.str z7))]) (r := (.d (.bool z8))) (by kernel_rfl) (by kernel_rfl) (f31_ok (d - 1) (dpt hd rfl) z7 z8 hz8) (by kernel_rfl) (by kernel_rfl) (by kernel_rfl)) ?_
  refine zlEnd (by kernel_rfl) ?_
  refine zkSeq ?_
  refine zrSplit 16 z8 (by kernel_rfl) (fun hc => ?_) (fun hc => ?_)
  · replace hS := cond_t hc hS
    refine zrCondT (by kernel_rfl) ?_
    refine zrSeq ?_
    refine zrReg ?_
    refine zlRun (n := 2) (j := 2) rfl (by kernel_rfl) ?_
    refine zlEnd (by kernel_rfl) ?_
    refine zkSeq ?_
    refine zrRet ?_
    refine zkBlkR ?_
    refine zkSeqR ?_
    refine zkNil ?_
    exact endQ hS hQ (finL_x (by intro h; cases h) (by show _ = _ ∧ _ = _; exact ⟨rfl, by kernel_rfl⟩))
  · replace hS := cond_f hc hS
    refine zrCondF (by kernel_rfl) ?_
    refine zrSkip ?_
    refine zkBlk ?_
    refine zkSeq ?_
    refine zrReg ?_
    refine zlRun (n := 2) (j := 2) rfl (by kernel_rfl) ?_
    refine zlEnd (by kernel_rfl) ?_
    refine zkNil ?_
    exact endQ hS hQ (finL_n (by show keepSt _ _ _ _ = _; kernel_rfl))
def f38v2_l0_j1_J (a1 : List (List UInt8)) (p11 : Int) (p12 : Bool) : St := ⟨(up (up (up (up (up (fun _ => .un) 9 (.d (.bool p12))) 8 (.d (.int .i64 p11))) 7 (.d (.int .i64 (a1.length : Int)))) 1 (.fn 31 [])) 0 (.d (.sl a1.length (eStr.cells a1)))), (hB fun _ => 0)⟩
noncomputable def f38v2_l0_j1 (a1 : List (List UInt8)) (p11 : Int) (p12 : Bool) : Option (Int ⊕ (Unit ⊕ Int)) := (bif p12 then (f38v2_l0_j2 a1 p11) else (some (.inr (.inl ()))))
theorem f38v2_l0_j1_ok {d : Nat} (hd : 3 ≤ d) (a1 : List (List UInt8)) {r : Int ⊕ (Unit ⊕ Int)} {Q : PX → St → Prop} (hQ : ∀ e st', finL (f38v2_l0_H a1) (f38v2_l0_X a1) r e st' → Q e st') (p11 : Int) (p12 : Bool) (hS : f38v2_l0_j1 a1 p11 p12 = some r) {st : St} (he : keepSt [0, 1, 7, 8, 9] [] [] st = f38v2_l0_j1_J a1 p11 p12) : ZR (lev codes baseL (d - 1)) Q c38_2 [] st := by
  refine zrKeep he ?_
  unfold f38v2_l0_j1 at hS
  refine zrSeq ?_
  refine zrSplit 9 p12 (by kernel_rfl) (fun hc => ?_) (fun hc => ?_)
  · replace hS := cond_t hc hS
    refine zrCondT (by kernel_rfl) ?_
    refine zrSkip ?_
    refine zkSeq ?_
    exact f38v2_l0_j2_ok hd a1 hQ p11 hS (by kernel_rfl)
  · replace hS := cond_f hc hS
    refine zrCondF (by kernel_rfl) ?_
    refine zrKeep (J := f38v2_l0_e0_J a1) (by kernel_rfl) ?_
    refine zrExit ?_
    refine zkSeqX ?_
    refine zkNil ?_
    exact endQ hS hQ (finL_x (by intro h; cases h) (by show _ = _ ∧ _ = _; exact ⟨rfl, rfl⟩))
noncomputable def f38v2_l0 (a1 : List (List UInt8)) (x : Int) : Option (Int ⊕ (Unit ⊕ Int)) := (bif (decide (x < (a1.length : Int))) then (f38v2_l0_j1 a1 x true) else (f38v2_l0_j1 a1 x false))
theorem f38v2_l0_ok {d : Nat} (hd : 3 ≤ d) (a1 : List (List UInt8)) {r : Int ⊕ (Unit ⊕ Int)} {Q : PX → St → Prop} (hQ : ∀ e st', finL (f38v2_l0_H a1) (f38v2_l0_X a1) r e st' → Q e st') {x : Int} (hS : f38v2_l0 a1 x = some r) {st : St} (he : f38v2_l0_H a1 x st) : ZR (lev codes baseL (d - 1)) Q c38_3 [] st := by
  refine zrKeep he ?_
  unfold f38v2_l0 at hS
  refine zrSeq ?_
  refine zrReg ?_
  refine zlBool (d := 9) (op := (.cmpI .lss (.tmp 8) (.tmp 7))) (g := none) (j := 1) (decide (x < (a1.length : Int))) rfl (by kernel_rfl) (by kernel_rfl) (by kernel_rfl) (fun hc => ?_) (fun hc => ?_)
  · replace hS := cond_t hc hS
    refine zlEnd (by kernel_rfl) ?_
    refine zkSeq ?_
    exact f38v2_l0_j1_ok hd a1 hQ x true hS (by kernel_rfl)
  · replace hS := cond_f hc hS
    refine zlEnd (by kernel_rfl) ?_
    refine zkSeq ?_
    exact f38v2_l0_j1_ok hd a1 hQ x false hS (by kernel_rfl)
noncomputable def f38v2 (a1 : List (List UInt8)) : Option (Int) := ((loopO (f38v2_l0 a1) 0).bind fun z9 => (Sum.elim (fun z10 => (some (-1))) (fun z11 => (some z11)) z9))
theorem f38v2_ok (d : Nat) (hd : 3 ≤ d) (a1 : List (List UInt8)) (r : Int) (hS : f38v2 a1 = some r) : lev codes baseL d 38 [(.d (.sl a1.length (eStr.cells a1))), (.fn 31 [])] [] = some ((.d (.int .i64 r)), []) := by
  refine lev_go codes38 rfl rfl (Nat.le_trans (Nat.le_of_ble_eq_true rfl) hd) fun Q hQ => ?_
  unfold f38v2 at hS
  show ZR _ Q c38_b [] _
  replace hQ : ∀ e st', f38v2_Q r e st' → Q e st' := hQ
  refine zrSeq ?_
  refine zrReg ?_
  refine zlRun (n := 1) (j := 1) rfl (by kernel_rfl) ?_
  refine zlEnd (by kernel_rfl) ?_
  refine zkSeq ?_
  refine zrSeq ?_
  refine zrSeq ?_
  refine zrReg ?_
  refine zlRun (n := 3) (j := 3) rfl (by kernel_rfl) ?_
  refine zlEnd (by kernel_rfl) ?_
  refine zkSeq ?_
  refine zrBlk ?_
  refine bindE hS (fun z9 hz9 hS => ?_)
  refine zrLoop (f38v2_l0_H a1) (f38v2_l0_X a1) (fun x st r Q h0 hS hQ => f38v2_l0_ok hd a1 hQ hS h0) (x := 0) (z := z9) (by show keepSt _ _ _ _ = _; kernel_rfl) hz9 ?_
  rcases z9 with z10 | z11
  · replace hS := (show _ = _ from hS)
    simp only [Sum.elim_inl] at hS
    intro e st' _ hX
    obtain ⟨rfl, rfl⟩ : _ ∧ _ := hX
    refine zkBlkX ?_
    refine zkSeq ?_
    refine zrSeq ?_
    refine zrReg ?_
    refine zlRun (n := 1) (j := 1) rfl (by kernel_rfl) ?_
    refine zlEnd (by kernel_rfl) ?_
    refine zkSeq ?_
    refine zrRet ?_
    refine zkNil ?_
    exact endQ hS hQ (fRet ((congrArg (fun s => outR s 0 c38.res) (by kernel_rfl : finSt c38.fin _ = f38v2_fin (-1))).trans (f38v2_out (-1))))
  · simp only [Sum.elim_inr] at hS
    intro e st' _ hX
    obtain ⟨rfl, hX⟩ : _ ∧ _ := hX
    refine zkBlkR ?_
    refine zkSeqR ?_
    refine zkNil ?_
    exact endQ hS hQ (fRet ((congrArg (fun s => outR s 0 c38.res) hX).trans (f38v2_out z11)))
/- slices.ContainsFunc[[]string,string] -/
def f22v2_fin (p2 : Bool) : St := ⟨(up (fun _ => .un) 4 (.d (.bool p2))), (hB fun _ => 0)⟩
theorem f22v2_out (p2 : Bool) : outR (f22v2_fin p2) 0 c22.res = some ((.d (.bool p2)), []) := by
  kernel_rfl
def f22v2_Q (r : Bool) (e : PX) (st : St) : Prop := DoneF c22 0 ((.d (.bool r)), []) e st
noncomputable def f22v2 (a1 : List (List UInt8)) : Option (Bool) := ((f38v2 a1).bind fun z2 => (bif (decide (0 ≤ z2)) then (some true) else (some false)))
theorem f22v2_ok (d : Nat) (hd : 4 ≤ d) (a1 : List (List UInt8)) (r : Bool) (hS : f22v2 a1 = some r) : lev codes baseL d 22 [(.d (.sl a1.length (eStr.cells a1))), (.fn 31 [])] [] = some ((.d (.bool r)), []) := by
  refine lev_go codes22 rfl rfl (Nat.le_trans (Nat.le_of_ble_eq_true rfl) hd) fun Q hQ => ?_
  unfold f22v2 at hS
  show ZR _ Q c22_b [] _
  replace hQ : ∀ e st', f22v2_Q r e st' → Q e st' := hQ
  refine zrSeq ?_
  refine zrReg ?_
  refine zlRun (n := 1) (j := 1) rfl (by kernel_rfl) ?_
  refine zlEnd (by kernel_rfl) ?_
  refine zkSeq ?_
  refine zrSeq ?_
  refine zrReg ?_
  refine zlRun (n := 2) (j := 2) rfl (by kernel_rfl) ?_
  refine bindE hS (fun z2 hz2 hS => ?_)
  refine zlOp (d := some 7) (op := (.call 38 [(.tmp 5), (.tmp 6)])) (g := none) (v := (.d (.int .i64 z2))) (ups := []) (j := 3) rfl (by kernel_rfl) (by kernel_rfl) (ev_call (args := [(.d (.sl a1.length (eStr.cells a1))), (.fn 31 [])]) (l := [(.d (.sl a1.length (eStr.cells a1))), (.fn 31 [])]) (r := (.d (.int .i64 z2))) (by kernel_rfl) (by kernel_rfl) (f38v2_ok (d - 1) (dpt hd rfl) a1 z2 hz2) (by kernel_rfl) (by kernel_rfl) (by kernel_rfl)) ?_
  refine zlBool (d := 8) (op := (.cmpI .geq (.tmp 7) (.const (.int .i64 0)))) (g := none) (j := 4) (decide (0 ≤ z2)) rfl (by kernel_rfl) (by kernel_rfl) (by kernel_rfl) (fun hc => ?_) (fun hc => ?_)
  · replace hS := cond_t hc hS
    refine zlRun (n := 1) (j := 5) rfl (by kernel_rfl) ?_
    refine zlEnd (by kernel_rfl) ?_
    refine zkSeq ?_
    refine zrRet ?_
    refine zkNil ?_
    exact endQ hS hQ (fRet ((congrArg (fun s => outR s 0 c22.res) (by kernel_rfl : finSt c22.fin _ = f22v2_fin true)).trans (f22v2_out true)))
  · replace hS := cond_f hc hS
    refine zlRun (n := 1) (j := 5) rfl (by kernel_rfl) ?_
    refine zlEnd (by kernel_rfl) ?_
    refine zkSeq ?_
    refine zrRet ?_
    refine zkNil ?_
    exact endQ hS hQ (fRet ((congrArg (fun s => outR s 0 c22.res) (by kernel_rfl : finSt c22.fin _ = f22v2_fin false)).trans (f22v2_out false)))
/- farwriter/choice.upper -/
def f32_fin (p70 : List UInt8) : St := ⟨(up (fun _ => .un) 2 (.d (.str p70))), (hB fun _ => 0)⟩
theorem f32_out (p70 : List UInt8) : outR (f32_fin p70) 0 c32.res = some ((.d (.str p70)), []) := by
  kernel_rfl
def f32_Q (r : (List UInt8)) (e : PX) (st : St) : Prop := DoneF c32 0 ((.d (.str r)), []) e st
def f32_l0_J (a1 : List UInt8) (x : (List UInt8) × Int × Int) : St := ⟨(up (up (up (up (fun _ => .un) 10 (.d (.int .i64 x.2.2))) 9 (.d (.int .i64 x.2.1))) 8 (.r (.msl 64 0 0 x.1.length))) 3 (.r (.msl 64 0 0 x.1.length))), (up (hB fun _ => 0) 64 ⟨0, some (.own 5 1 (eU8.cells x.1))⟩)⟩
def f32_l0_H (a1 : List UInt8) (x : (List UInt8) × Int × Int) (st : St) : Prop := keepSt [3, 8, 9, 10] [(64, .id 64)] [] st = f32_l0_J a1 x
def f32_l0_e0_J (a1 : List UInt8) (p69 : List UInt8) : St := ⟨(up (fun _ => .un) 3 (.r (.msl 64 0 0 p69.length))), (up (hB fun _ => 0) 64 ⟨0, some (.own 5 1 (eU8.cells p69))⟩)⟩
def f32_l0_X (a1 : List UInt8) (z : ((List UInt8))) (e : PX) (st : St) : Prop := e = .exit 0 ∧ st = f32_l0_e0_J a1 z
def f32_l0_j2_J (a1 : List UInt8) (p79 : List UInt8) (p80 : Int) (p81 : Int) : St := ⟨(up (up (up (up (fun _ => .un) 10 (.d (.int .i64 p81))) 9 (.d (.int .i64 p80))) 8 (.r (.msl 64 0 0 p79.length))) 3 (.r (.msl 64 0 0 p79.length))), (up (hB fun _ => 0) 64 ⟨0, some (.own 5 1 (eU8.cells p79))⟩)⟩
noncomputable def f32_l0_j2 (a1 : List UInt8) (p79 : List UInt8) (p80 : Int) (p81 : Int) : Option (((List UInt8) × Int × Int) ⊕ (((List UInt8)))) := ((inR p81 p79.length).bind fun m18 => ((p79[m18]?).bind fun z19 => (bif (decide (97 ≤ (z19.toNat : Int))) then (bif (decide ((z19.toNat : Int) ≤ 122)) then ((inR p81 p79.length).bind fun m20 => ((p79[m20]?).bind fun z21 => ((some (p79.set m20 (z19 - (32 : UInt8)))).bind fun z22 => (some (.inl (z22, p80, (IntKind.i64.wrap (p81 + 1)))))))) else (some (.inl (p79, p80, (IntKind.i64.wrap (p81 + 1)))))) else (some (.inl (p79, p80, (IntKind.i64.wrap (p81 + 1))))))))
theorem f32_l0_j2_ok {d : Nat} (hd : 1 ≤ d) (a1 : List UInt8) {r : ((List UInt8) × Int × Int) ⊕ (((List UInt8)))} {Q : PX → St → Prop} (hQ : ∀ e st', finL (f32_l0_H a1) (f32_l0_X a1) r e st' → Q e st') (p79 : List UInt8) (p80 : Int) (p81 : Int) (hS : f32_l0_j2 a1 p79 p80 p81 = some r) {st : St} (he : keepSt [3, 8, 9, 10] [(64, .id 64)] [] st = f32_l0_j2_J a1 p79 p80 p81) : ZR (lev codes baseL (d - 1)) Q c32_1 [] st := by
  refine zrKeep he ?_
  unfold f32_l0_j2 at hS
  refine zrSeq ?_
  refine zrBlk ?_
  refine zrSeq ?_
  refine zrReg ?_
  refine zlRun (n := 1) (j := 1) rfl (by kernel_rfl) ?_
  refine bindE hS (fun m18 hm18 hS => ?_)
  refine zlOp (d := some 13) (op := (.ixS 5 1 (.tmp 8) (.tmp 10))) (g := none) (v := (.r (.ptr 64 0 ((0 + m18) * 1)))) (ups := []) (j := 2) rfl (by kernel_rfl) (by kernel_rfl) (ev_ixM (kk := .i64) (b := 64) (g := 0) (l := 0) (n := p79.length) (j := p81) (cs := eU8.cells p79) (by kernel_rfl) (by kernel_rfl) (by kernel_rfl) hm18) ?_
  refine bindE hS (fun z19 hz19 hS => ?_)
  refine zlOp (d := some 14) (op := (.load .false 1 (.tmp 13))) (g := none) (v := (.d (.int .u8 (z19.toNat : Int)))) (ups := []) (j := 3) rfl (by kernel_rfl) (by kernel_rfl) (ev_loadM eU8 (b := 64) (g := 0) (o := (0 + m18) * 1) (e := 5) (k := 1) (m := m18) (fo := 0) (xs := p79) (by kernel_rfl) (by kernel_rfl) (by rw [Nat.zero_add]; rfl) hz19 (by kernel_rfl) (by kernel_rfl) (by kernel_rfl)) ?_
  refine zlRun (n := 2) (j := 5) rfl (by kernel_rfl) ?_
  refine zlEnd (by kernel_rfl) ?_
  refine zkSeq ?_
  refine zrSeq ?_
  refine zrReg ?_
  refine zlRun (n := 1) (j := 1) rfl (by kernel_rfl) ?_
  refine zlBool (d := 16) (op := (.cmpI .geq (.tmp 15) (.const (.int .u8 97)))) (g := none) (j := 2) (decide (97 ≤ (z19.toNat : Int))) rfl (by kernel_rfl) (by kernel_rfl) (by kernel_rfl) (fun hc => ?_) (fun hc => ?_)
  · replace hS := cond_t hc hS
    refine zlRun (n := 2) (j := 4) rfl (by kernel_rfl) ?_
    refine zlBool (d := 19) (op := (.cmpI .leq (.tmp 18) (.const (.int .u8 122)))) (g := (some (17, true))) (j := 5) (decide ((z19.toNat : Int) ≤ 122)) rfl (by kernel_rfl) (by kernel_rfl) (by kernel_rfl) (fun hc => ?_) (fun hc => ?_)
    · replace hS := cond_t hc hS
      refine zlRun (n := 1) (j := 6) rfl (by kernel_rfl) ?_
      refine zlEnd (by kernel_rfl) ?_
      refine zkSeq ?_
      refine zrCondT (by kernel_rfl) ?_
      refine zrReg ?_
      refine zlRun (n := 3) (j := 3) rfl (by kernel_rfl) ?_
      refine zlOp (d := some 24) (op := (.arI .sub (.tmp 23) (.const (.int .u8 32)))) (g := none) (v := (.d (.int .u8 ((z19 - (32 : UInt8)).toNat : Int)))) (ups := []) (j := 4) rfl (by kernel_rfl) (by kernel_rfl) (ev_arI (kk := .u8) (a := (z19.toNat : Int)) (c := ((32 : UInt8).toNat : Int)) (by kernel_rfl) (by kernel_rfl) (ar_sub8 z19 (32 : UInt8))) ?_
      refine bindE hS (fun m20 hm20 hS => ?_)
      refine zlOp (d := some 25) (op := (.ixS 5 1 (.tmp 21) (.tmp 22))) (g := none) (v := (.r (.ptr 64 0 ((0 + m20) * 1)))) (ups := []) (j := 5) rfl (by kernel_rfl) (by kernel_rfl) (ev_ixM (kk := .i64) (b := 64) (g := 0) (l := 0) (n := p79.length) (j := p81) (cs := eU8.cells p79) (by kernel_rfl) (by kernel_rfl) (by kernel_rfl) hm20) ?_
      refine bindE hS (fun z21 hz21 hS => ?_)
      refine bindE hS (fun z22 hz22 hS => ?_)
      refine zlOp (d := none) (op := (.store 1 (.tmp 25) (.tmp 24))) (g := none) (v := .un) (ups := [(64, ⟨0, some (.own 5 1 (eU8.cells (p79.set m20 (z19 - (32 : UInt8)))))⟩)]) (j := 6) rfl (by kernel_rfl) (by kernel_rfl) (ev_storeM eU8 (b := 64) (g := 0) (o := (0 + m20) * 1) (e := 5) (k := 1) (m := m20) (fo := 0) (xs := p79) (z := z21) (z' := (z19 - (32 : UInt8))) (by kernel_rfl) (new := ((.d (.int .u8 ((z19 - (32 : UInt8)).toNat : Int))) :: [])) (ds := [.int .u8 ((z19 - (32 : UInt8)).toNat : Int)]) (by kernel_rfl) (by kernel_rfl) (by kernel_rfl) (by rw [Nat.zero_add]; rfl) hz21 (by kernel_rfl) (by kernel_rfl) (by kernel_rfl)) ?_
      have ez22 := Option.some.inj hz22
      have lz22 : p79.length = z22.length := by rw [← ez22, List.length_set]
      rw [ez22]
      try delta f32_l0_j2_J
      try rw [lz22]
      refine zlEnd (by kernel_rfl) ?_
      refine zkBlk ?_
      refine zkSeq ?_
      refine zrReg ?_
      refine zlRun (n := 2) (j := 2) rfl (by kernel_rfl) ?_
      refine zlEnd (by kernel_rfl) ?_
      refine zkNil ?_
      exact endQ hS hQ (finL_n (by show keepSt _ _ _ _ = _; kernel_rfl))
    · replace hS := cond_f hc hS
      refine zlRun (n := 1) (j := 6) rfl (by kernel_rfl) ?_
      refine zlEnd (by kernel_rfl) ?_
      refine zkSeq ?_
      refine zrCondF (by kernel_rfl) ?_
      refine zrSkip ?_
      refine zkBlk ?_
      refine zkSeq ?_
      refine zrReg ?_
      refine zlRun (n := 2) (j := 2) rfl (by kernel_rfl) ?_
      refine zlEnd (by kernel_rfl) ?_
      refine zkNil ?_
      exact endQ hS hQ (finL_n (by show keepSt _ _ _ _ = _; kernel_rfl))
  · replace hS := cond_f hc hS
    refine zlRun (n := 4) (j := 6) rfl (by kernel_rfl) ?_
    refine zlEnd (by kernel_rfl) ?_
    refine zkSeq ?_
    refine zrCondF (by kernel_rfl) ?_
    refine zrSkip ?_
    refine zkBlk ?_
    refine zkSeq ?_
    refine zrReg ?_
    refine zlRun (n := 2) (j := 2) rfl (by kernel_rfl) ?_
    refine zlEnd (by kernel_rfl) ?_
    refine zkNil ?_
    exact endQ hS hQ (finL_n (by show keepSt _ _ _ _ = _; kernel_rfl))
def f32_l0_j1_J (a1 : List UInt8) (p75 : List UInt8) (p76 : Int) (p77 : Int) (p78 : Bool) : St := ⟨(up (up (up (up (up (fun _ => .un) 11 (.d (.bool p78))) 10 (.d (.int .i64 p77))) 9 (.d (.int .i64 p76))) 8 (.r (.msl 64 0 0 p75.length))) 3 (.r (.msl 64 0 0 p75.length))), (up (hB fun _ => 0) 64 ⟨0, some (.own 5 1 (eU8.cells p75))⟩)⟩
noncomputable def f32_l0_j1 (a1 : List UInt8) (p75 : List UInt8) (p76 : Int) (p77 : Int) (p78 : Bool) : Option (((List UInt8) × Int × Int) ⊕ (((List UInt8)))) := (bif p78 then (f32_l0_j2 a1 p75 p76 p77) else (some (.inr p75)))
theorem f32_l0_j1_ok {d : Nat} (hd : 1 ≤ d) (a1 : List UInt8) {r : ((List UInt8) × Int × Int) ⊕ (((List UInt8)))} {Q : PX → St → Prop} (hQ : ∀ e st', finL (f32_l0_H a1) (f32_l0_X a1) r e st' → Q e st') (p75 : List UInt8) (p76 : Int) (p77 : Int) (p78 : Bool) (hS : f32_l0_j1 a1 p75 p76 p77 p78 = some r) {st : St} (he : keepSt [3, 8, 9, 10, 11] [(64, .id 64)] [] st = f32_l0_j1_J a1 p75 p76 p77 p78) : ZR (lev codes baseL (d - 1)) Q c32_2 [] st := by
  refine zrKeep he ?_
  unfold f32_l0_j1 at hS
  refine zrSeq ?_
  refine zrSplit 11 p78 (by kernel_rfl) (fun hc => ?_) (fun hc => ?_)
  · replace hS := cond_t hc hS
    refine zrCondT (by kernel_rfl) ?_
    refine zrSkip ?_
    refine zkSeq ?_
    exact f32_l0_j2_ok hd a1 hQ p75 p76 p77 hS (by kernel_rfl)
  · replace hS := cond_f hc hS
    refine zrCondF (by kernel_rfl) ?_
    refine zrKeep (J := f32_l0_e0_J a1 p75) (by kernel_rfl) ?_
    refine zrExit ?_
    refine zkSeqX ?_
    refine zkNil ?_
    exact endQ hS hQ (finL_x (by intro h; cases h) (by show _ = _ ∧ _ = _; exact ⟨rfl, rfl⟩))
noncomputable def f32_l0 (a1 : List UInt8) (x : (List UInt8) × Int × Int) : Option (((List UInt8) × Int × Int) ⊕ (((List UInt8)))) := (bif (decide (x.2.2 < x.2.1)) then (f32_l0_j1 a1 x.1 x.2.1 x.2.2 true) else (f32_l0_j1 a1 x.1 x.2.1 x.2.2 false))
theorem f32_l0_ok {d : Nat} (hd : 1 ≤ d) (a1 : List UInt8) {r : ((List UInt8) × Int × Int) ⊕ (((List UInt8)))} {Q : PX → St → Prop} (hQ : ∀ e st', finL (f32_l0_H a1) (f32_l0_X a1) r e st' → Q e st') {x : (List UInt8) × Int × Int} (hS : f32_l0 a1 x = some r) {st : St} (he : f32_l0_H a1 x st) : ZR (lev codes baseL (d - 1)) Q c32_3 [] st := by
  refine zrKeep he ?_
  unfold f32_l0 at hS
  refine zrSeq ?_
  refine zrReg ?_
  refine zlBool (d := 11) (op := (.cmpI .lss (.tmp 10) (.tmp 9))) (g := none) (j := 1) (decide (x.2.2 < x.2.1)) rfl (by kernel_rfl) (by kernel_rfl) (by kernel_rfl) (fun hc => ?_) (fun hc => ?_)
  · replace hS := cond_t hc hS
    refine zlEnd (by kernel_rfl) ?_
    refine zkSeq ?_
    exact f32_l0_j1_ok hd a1 hQ x.1 x.2.1 x.2.2 true hS (by kernel_rfl)
  · replace hS := cond_f hc hS
    refine zlEnd (by kernel_rfl) ?_
    refine zkSeq ?_
    exact f32_l0_j1_ok hd a1 hQ x.1 x.2.1 x.2.2 false hS (by kernel_rfl)
noncomputable def f32 (a1 : List UInt8) : Option ((List UInt8)) := ((chk (decide (a1.length ≤ 140737488355328))).bind fun z17 => ((loopO (f32_l0 a1) (a1, (a1.length : Int), 0)).bind fun z23 => (some z23)))
theorem f32_ok (d : Nat) (hd : 1 ≤ d) (a1 : List UInt8) (r : (List UInt8)) (hS : f32 a1 = some r) : lev codes baseL d 32 [(.d (.str a1))] [] = some ((.d (.str r)), []) := by
  refine lev_go codes32 rfl rfl (Nat.le_trans (Nat.le_of_ble_eq_true rfl) hd) fun Q hQ => ?_
  unfold f32 at hS
  show ZR _ Q c32_b [] _
  replace hQ : ∀ e st', f32_Q r e st' → Q e st' := hQ
  refine zrSeq ?_
  refine zrReg ?_
  refine zlRun (n := 1) (j := 1) rfl (by kernel_rfl) ?_
  refine zlEnd (by kernel_rfl) ?_
  refine zkSeq ?_
  refine zrSeq ?_
  refine zrReg ?_
  refine zlRun (n := 1) (j := 1) rfl (by kernel_rfl) ?_
  refine bindE hS (fun z17 hz17 hS => ?_)
  refine zlOp (d := some 7) (op := (.cvSO 5 (.tmp 6))) (g := none) (v := (.r (.msl 64 1 0 a1.length))) (ups := [(64, ⟨1, some (.own 5 1 (eU8.cells a1))⟩)]) (j := 2) rfl (by kernel_rfl) (by kernel_rfl) (ev_cvSO (s := a1) (by kernel_rfl) hz17) ?_
  refine zlRun (n := 1) (j := 3) rfl (by kernel_rfl) ?_
  refine zlEnd (by kernel_rfl) ?_
  refine zkSeq ?_
  refine zrSeq ?_
  refine zrSeq ?_
  refine zrReg ?_
  refine zlRun (n := 3) (j := 3) rfl (by kernel_rfl) ?_
  refine zlEnd (by kernel_rfl) ?_
  refine zkSeq ?_
  refine zrBlk ?_
  refine bindE hS (fun z23 hz23 hS => ?_)
  refine zrLoop (f32_l0_H a1) (f32_l0_X a1) (fun x st r Q h0 hS hQ => f32_l0_ok hd a1 hQ hS h0) (x := (a1, (a1.length : Int), 0)) (z := z23) (by show keepSt _ _ _ _ = _; kernel_rfl) hz23 ?_
  intro e st' _ hX
  obtain ⟨rfl, rfl⟩ : _ ∧ _ := hX
  refine zkBlkX ?_
  refine zkSeq ?_
  refine zrSeq ?_
  refine zrReg ?_
  refine zlRun (n := 1) (j := 1) rfl (by kernel_rfl) ?_
  refine zlOp (d := some 28) (op := (.cvBS (.tmp 27))) (g := none) (v := (.d (.str z23))) (ups := []) (j := 2) rfl (by kernel_rfl) (by kernel_rfl) (ev_cvBS (s := z23) ((congrArg (asL _) (by kernel_rfl : ρof _ (.tmp 27) = (.r (.msl 64 0 0 z23.length)))).trans (as_whole eU8 (e := 5) (k := 1) (xs := z23) (by kernel_rfl) rfl rfl)) rfl) ?_
  refine zlRun (n := 1) (j := 3) rfl (by kernel_rfl) ?_
  refine zlEnd (by kernel_rfl) ?_
  refine zkSeq ?_
  refine zrRet ?_
  refine zkNil ?_
  exact endQ hS hQ (fRet ((congrArg (fun s => outR s 0 c32.res) (by kernel_rfl : finSt c32.fin _ = f32_fin z23)).trans (f32_out z23)))
/- farwriter/choice.Answer -/
def f14_fin (p175 : List UInt8) (p176 : List UInt8) (p177 : Int) : St := ⟨(up (up (up (fun _ => .un) 6 (.d (.int .i64 p177))) 5 (.d (.str p176))) 4 (.d (.str p175))), (hB fun _ => 0)⟩
theorem f14_out (p175 : List UInt8) (p176 : List UInt8) (p177 : Int) : outR (f14_fin p175 p176 p177) 0 c14.res = some ((.tup [(.d (.str p175)), (.d (.str p176)), (.d (.int .i64 p177))]), []) := by
  kernel_rfl
def f14_Q (r : (List UInt8) × (List UInt8) × Int) (e : PX) (st : St) : Prop := DoneF c14 0 ((.tup [(.d (.str r.1)), (.d (.str r.2.1)), (.d (.int .i64 r.2.2))]), []) e st
def f14_l3_J (a1 : List (List UInt8)) (a2 : List UInt8) (x : (List (List UInt8)) × Int × Int) : St := ⟨(up (up (up (up (fun _ => .un) 42 (.d (.int .i64 x.2.2))) 41 (.d (.int .i64 x.2.1))) 40 (.d (.sl x.1.length (eStr.cells x.1)))) 0 (.d (.sl a1.length (eStr.cells a1)))), (hB fun _ => 0)⟩
def f14_l3_H (a1 : List (List UInt8)) (a2 : List UInt8) (x : (List (List UInt8)) × Int × Int) (st : St) : Prop := keepSt [0, 40, 41, 42] [] [] st = f14_l3_J a1 a2 x
def f14_l3_e0_J (a1 : List (List UInt8)) (a2 : List UInt8) : St := ⟨(fun _ => .un), (hB fun _ => 0)⟩
def f14_l3_X (a1 : List (List UInt8)) (a2 : List UInt8) (z : Unit ⊕ ((List UInt8) × (List UInt8) × Int)) (e : PX) (st : St) : Prop := (match z with | .inl z => e = .exit 0 ∧ st = f14_l3_e0_J a1 a2 | .inr z => e = .ret ∧ finSt c14.fin st = f14_fin z.1 z.2.1 z.2.2)
def f14_l3_l6_J (a1 : List (List UInt8)) (a2 : List UInt8) (x : (List UInt8) × (List (List UInt8)) × Int × Int × Int) : St := ⟨(up (up (up (up (up (up (up (up (fun _ => .un) 48 (.d (.int .i64 x.2.2.2.2))) 47 (.d (.int .i64 (a1.length : Int)))) 46 (.d (.sl a1.length (eStr.cells a1)))) 42 (.d (.int .i64 x.2.2.2.1))) 41 (.d (.int .i64 x.2.2.1))) 40 (.d (.sl x.2.1.length (eStr.cells x.2.1)))) 9 (.d (.str x.1))) 0 (.d (.sl a1.length (eStr.cells a1)))), (hB fun _ => 0)⟩
def f14_l3_l6_H (a1 : List (List UInt8)) (a2 : List UInt8) (x : (List UInt8) × (List (List UInt8)) × Int × Int × Int) (st : St) : Prop := keepSt [0, 9, 40, 41, 42, 46, 47, 48] [] [] st = f14_l3_l6_J a1 a2 x
def f14_l3_l6_e2_J (a1 : List (List UInt8)) (a2 : List UInt8) (p416 : List (List UInt8)) (p417 : Int) (p418 : Int) : St := ⟨(up (up (up (up (fun _ => .un) 42 (.d (.int .i64 p418))) 41 (.d (.int .i64 p417))) 40 (.d (.sl p416.length (eStr.cells p416)))) 0 (.d (.sl a1.length (eStr.cells a1)))), (hB fun _ => 0)⟩
def f14_l3_l6_X (a1 : List (List UInt8)) (a2 : List UInt8) (z : ((List (List UInt8)) × Int × Int) ⊕ ((List UInt8) × (List UInt8) × Int)) (e : PX) (st : St) : Prop := (match z with | .inl z => e = .exit 2 ∧ st = f14_l3_l6_e2_J a1 a2 z.1 z.2.1 z.2.2 | .inr z => e = .ret ∧ finSt c14.fin st = f14_fin z.1 z.2.1 z.2.2)
def f14_l3_l6_j8_J (a1 : List (List UInt8)) (a2 : List UInt8) (p431 : List UInt8) (p432 : List (List UInt8)) (p433 : Int) (p434 : Int) (p435 : Int) : St := ⟨(up (up (up (up (up (up (up (up (fun _ => .un) 48 (.d (.int .i64 p435))) 47 (.d (.int .i64 (a1.length : Int)))) 46 (.d (.sl a1.length (eStr.cells a1)))) 42 (.d (.int .i64 p434))) 41 (.d (.int .i64 p433))) 40 (.d (.sl p432.length (eStr.cells p432)))) 9 (.d (.str p431))) 0 (.d (.sl a1.length (eStr.cells a1)))), (hB fun _ => 0)⟩
noncomputable def f14_l3_l6_j8 (a1 : List (List UInt8)) (a2 : List UInt8) (p431 : List UInt8) (p432 : List (List UInt8)) (p433 : Int) (p434 : Int) (p435 : Int) : Option (((List UInt8) × (List (List UInt8)) × Int × Int × Int) ⊕ (((List (List UInt8)) × Int × Int) ⊕ ((List UInt8) × (List UInt8) × Int))) := ((idx a1 p435).bind fun z106 => ((f32 p431).bind fun z109 => ((f32 z106).bind fun z110 => (bif (decide (z109 = z110)) then ((cat? ([2] : List UInt8) p431).bind fun z111 => (some (.inr (.inr (z111, z106, 0))))) else (some (.inl (p431, p432, p433, p434, (IntKind.i64.wrap (p435 + 1)))))))))
theorem f14_l3_l6_j8_ok {d : Nat} (hd : 5 ≤ d) (a1 : List (List UInt8)) (a2 : List UInt8) {r : ((List UInt8) × (List (List UInt8)) × Int × Int × Int) ⊕ (((List (List UInt8)) × Int × Int) ⊕ ((List UInt8) × (List UInt8) × Int))} {Q : PX → St → Prop} (hQ : ∀ e st', finL (f14_l3_l6_H a1 a2) (f14_l3_l6_X a1 a2) r e st' → Q e st') (p431 : List UInt8) (p432 : List (List UInt8)) (p433 : Int) (p434 : Int) (p435 : Int) (hS : f14_l3_l6_j8 a1 a2 p431 p432 p433 p434 p435 = some r) {st : St} (he : keepSt [0, 9, 40, 41, 42, 46, 47, 48] [] [] st = f14_l3_l6_j8_J a1 a2 p431 p432 p433 p434 p435) : ZR (lev codes baseL (d - 1)) Q c14_1 [] st := by
  refine zrKeep he ?_
  unfold f14_l3_l6_j8 at hS
  refine zrSeq ?_
  refine zrBlk ?_
  refine zrSeq ?_
  refine zrReg ?_
  refine bindE hS (fun z106 hz106 hS => ?_)
  refine zlOp (d := some 50) (op := (.ixS 9 1 (.tmp 46) (.tmp 48))) (g := none) (v := (.rptr (eStr.enc z106 ++ (eStr.cells (a1.drop ((p435 : Int).toNat + 1)))))) (ups := []) (j := 1) rfl (by kernel_rfl) (by kernel_rfl) (ev_ixS eStr (kk := .i64) (xs := a1) (j := p435) (by kernel_rfl) (by kernel_rfl) hz106 rfl (by intro h; cases h)) ?_
  refine zlRun (n := 2) (j := 3) rfl (by kernel_rfl) ?_
  refine zlEnd (by kernel_rfl) ?_
  refine zkSeq ?_
  refine zrSeq ?_
  refine zrReg ?_
  refine zlRun (n := 1) (j := 1) rfl (by kernel_rfl) ?_
  refine bindE hS (fun z109 hz109 hS => ?_)
  refine zlOp (d := some 53) (op := (.call 32 [(.tmp 52)])) (g := none) (v := (.d (.str z109))) (ups := []) (j := 2) rfl (by kernel_rfl) (by kernel_rfl) (ev_call (args := [(.d (.str p431))]) (l := [(.d (.str p431))]) (r := (.d (.str z109))) (by kernel_rfl) (by kernel_rfl) (f32_ok (d - 1) (dpt hd rfl) p431 z109 hz109) (by kernel_rfl) (by kernel_rfl) (by kernel_rfl)) ?_
  refine zlRun (n := 1) (j := 3) rfl (by kernel_rfl) ?_
  refine bindE hS (fun z110 hz110 hS => ?_)
  refine zlOp (d := some 55) (op := (.call 32 [(.tmp 54)])) (g := none) (v := (.d (.str z110))) (ups := []) (j := 4) rfl (by kernel_rfl) (by kernel_rfl) (ev_call (args := [(.d (.str z106))]) (l := [(.d (.str z106))]) (r := (.d (.str z110))) (by kernel_rfl) (by kernel_rfl) (f32_ok (d - 1) (dpt hd rfl) z106 z110 hz110) (by kernel_rfl) (by kernel_rfl) (by kernel_rfl)) ?_
  refine zlBool (d := 56) (op := (.strO .eql (.tmp 53) (.tmp 55))) (g := none) (j := 5) (decide (z109 = z110)) rfl (by kernel_rfl) (by kernel_rfl) (by kernel_rfl) (fun hc => ?_) (fun hc => ?_)
  · replace hS := cond_t hc hS
    refine zlEnd (by kernel_rfl) ?_
    refine zkSeq ?_
    refine zrCondT (by kernel_rfl) ?_
    refine zrSeq ?_
    refine zrReg ?_
    refine zlRun (n := 1) (j := 1) rfl (by kernel_rfl) ?_
    refine bindE hS (fun z111 hz111 hS => ?_)
    refine zlOp (d := some 58) (op := (.strO .add (.const (.string ⟨#[2]⟩)) (.tmp 57))) (g := none) (v := (.d (.str z111))) (ups := []) (j := 2) rfl (by kernel_rfl) (by kernel_rfl) (ev_cat (a := [2]) (c := p431) (by kernel_rfl) (by kernel_rfl) hz111) ?_
    refine zlRun (n := 4) (j := 6) rfl (by kernel_rfl) ?_
    refine zlEnd (by kernel_rfl) ?_
    refine zkSeq ?_
    refine zrRet ?_
    refine zkBlkR ?_
    refine zkSeqR ?_
    refine zkNil ?_
    exact endQ hS hQ (finL_x (by intro h; cases h) (by show _ = _ ∧ _ = _; exact ⟨rfl, by kernel_rfl⟩))
  · replace hS := cond_f hc hS
    refine zlEnd (by kernel_rfl) ?_
    refine zkSeq ?_
    refine zrCondF (by kernel_rfl) ?_
    refine zrSkip ?_
    refine zkBlk ?_
    refine zkSeq ?_
    refine zrReg ?_
    refine zlRun (n := 2) (j := 2) rfl (by kernel_rfl) ?_
    refine zlEnd (by kernel_rfl) ?_
    refine zkNil ?_
    exact endQ hS hQ (finL_n (by show keepSt _ _ _ _ = _; kernel_rfl))
def f14_l3_l6_j7_J (a1 : List (List UInt8)) (a2 : List UInt8) (p425 : List UInt8) (p426 : List (List UInt8)) (p427 : Int) (p428 : Int) (p429 : Int) (p430 : Bool) : St := ⟨(up (up (up (up (up (up (up (up (up (fun _ => .un) 49 (.d (.bool p430))) 48 (.d (.int .i64 p429))) 47 (.d (.int .i64 (a1.length : Int)))) 46 (.d (.sl a1.length (eStr.cells a1)))) 42 (.d (.int .i64 p428))) 41 (.d (.int .i64 p427))) 40 (.d (.sl p426.length (eStr.cells p426)))) 9 (.d (.str p425))) 0 (.d (.sl a1.length (eStr.cells a1)))), (hB fun _ => 0)⟩
noncomputable def f14_l3_l6_j7 (a1 : List (List UInt8)) (a2 : List UInt8) (p425 : List UInt8) (p426 : List (List UInt8)) (p427 : Int) (p428 : Int) (p429 : Int) (p430 : Bool) : Option (((List UInt8) × (List (List UInt8)) × Int × Int × Int) ⊕ (((List (List UInt8)) × Int × Int) ⊕ ((List UInt8) × (List UInt8) × Int))) := (bif p430 then (f14_l3_l6_j8 a1 a2 p425 p426 p427 p428 p429) else (some (.inr (.inl (p426, p427, p428)))))
theorem f14_l3_l6_j7_ok {d : Nat} (hd : 5 ≤ d) (a1 : List (List UInt8)) (a2 : List UInt8) {r : ((List UInt8) × (List (List UInt8)) × Int × Int × Int) ⊕ (((List (List UInt8)) × Int × Int) ⊕ ((List UInt8) × (List UInt8) × Int))} {Q : PX → St → Prop} (hQ : ∀ e st', finL (f14_l3_l6_H a1 a2) (f14_l3_l6_X a1 a2) r e st' → Q e st') (p425 : List UInt8) (p426 : List (List UInt8)) (p427 : Int) (p428 : Int) (p429 : Int) (p430 : Bool) (hS : f14_l3_l6_j7 a1 a2 p425 p426 p427 p428 p429 p430 = some r) {st : St} (he : keepSt [0, 9, 40, 41, 42, 46, 47, 48, 49] [] [] st = f14_l3_l6_j7_J a1 a2 p425 p426 p427 p428 p429 p430) : ZR (lev codes baseL (d - 1)) Q c14_2 [] st := by
  refine zrKeep he ?_
  unfold f14_l3_l6_j7 at hS
  refine zrSeq ?_
  refine zrSplit 49 p430 (by kernel_rfl) (fun hc => ?_) (fun hc => ?_)
  · replace hS := cond_t hc hS
    refine zrCondT (by kernel_rfl) ?_
    refine zrSkip ?_
    refine zkSeq ?_
    exact f14_l3_l6_j8_ok hd a1 a2 hQ p425 p426 p427 p428 p429 hS (by kernel_rfl)
  · replace hS := cond_f hc hS
    refine zrCondF (by kernel_rfl) ?_
    refine zrKeep (J := f14_l3_l6_e2_J a1 a2 p426 p427 p428) (by kernel_rfl) ?_
    refine zrExit ?_
    refine zkSeqX ?_
    refine zkNil ?_
    exact endQ hS hQ (finL_x (by intro h; cases h) (by show _ = _ ∧ _ = _; exact ⟨rfl, rfl⟩))
noncomputable def f14_l3_l6 (a1 : List (List UInt8)) (a2 : List UInt8) (x : (List UInt8) × (List (List UInt8)) × Int × Int × Int) : Option (((List UInt8) × (List (List UInt8)) × Int × Int × Int) ⊕ (((List (List UInt8)) × Int × Int) ⊕ ((List UInt8) × (List UInt8) × Int))) := (bif (decide (x.2.2.2.2 < (a1.length : Int))) then (f14_l3_l6_j7 a1 a2 x.1 x.2.1 x.2.2.1 x.2.2.2.1 x.2.2.2.2 true) else (f14_l3_l6_j7 a1 a2 x.1 x.2.1 x.2.2.1 x.2.2.2.1 x.2.2.2.2 false))
theorem f14_l3_l6_ok {d : Nat} (hd : 5 ≤ d) (a1 : List (List UInt8)) (a2 : List UInt8) {r : ((List UInt8) × (List (List UInt8)) × Int × Int × Int) ⊕ (((List (List UInt8)) × Int × Int) ⊕ ((List UInt8) × (List UInt8) × Int))} {Q : PX → St → Prop} (hQ : ∀ e st', finL (f14_l3_l6_H a1 a2) (f14_l3_l6_X a1 a2) r e st' → Q e st') {x : (List UInt8) × (List (List UInt8)) × Int × Int × Int} (hS : f14_l3_l6 a1 a2 x = some r) {st : St} (he : f14_l3_l6_H a1 a2 x st) : ZR (lev codes baseL (d - 1)) Q c14_3 [] st := by
  refine zrKeep he ?_
  unfold f14_l3_l6 at hS
  refine zrSeq ?_
  refine zrReg ?_
  refine zlBool (d := 49) (op := (.cmpI .lss (.tmp 48) (.tmp 47))) (g := none) (j := 1) (decide (x.2.2.2.2 < (a1.length : Int))) rfl (by kernel_rfl) (by kernel_rfl) (by kernel_rfl) (fun hc => ?_) (fun hc => ?_)
  · replace hS := cond_t hc hS
    refine zlEnd (by kernel_rfl) ?_
    refine zkSeq ?_
    exact f14_l3_l6_j7_ok hd a1 a2 hQ x.1 x.2.1 x.2.2.1 x.2.2.2.1 x.2.2.2.2 true hS (by kernel_rfl)
  · replace hS := cond_f hc hS
    refine zlEnd (by kernel_rfl) ?_
    refine zkSeq ?_
    exact f14_l3_l6_j7_ok hd a1 a2 hQ x.1 x.2.1 x.2.2.1 x.2.2.2.1 x.2.2.2.2 false hS (by kernel_rfl)
def f14_l3_j5_J (a1 : List (List UInt8)) (a2 : List UInt8) (p362 : List (List UInt8)) (p363 : Int) (p364 : Int) : St := ⟨(up (up (up (up (fun _ => .un) 42 (.d (.int .i64 p364))) 41 (.d (.int .i64 p363))) 40 (.d (.sl p362.length (eStr.cells p362)))) 0 (.d (.sl a1.length (eStr.cells a1)))), (hB fun _ => 0)⟩
noncomputable def f14_l3_j5 (a1 : List (List UInt8)) (a2 : List UInt8) (p362 : List (List UInt8)) (p363 : Int) (p364 : Int) : Option (((List (List UInt8)) × Int × Int) ⊕ (Unit ⊕ ((List UInt8) × (List UInt8) × Int))) := ((idx p362 p364).bind fun z93 => ((loopO (f14_l3_l6 a1 a2) (z93, p362, p363, p364, 0)).bind fun z112 => (Sum.elim (fun z113 => (some (.inl (z113.1, z113.2.1, (IntKind.i64.wrap (z113.2.2 + 1)))))) (fun z114 => (some (.inr (.inr (z114.1, z114.2.1, z114.2.2))))) z112)))
theorem f14_l3_j5_ok {d : Nat} (hd : 5 ≤ d) (a1 : List (List UInt8)) (a2 : List UInt8) {r : ((List (List UInt8)) × Int × Int) ⊕ (Unit ⊕ ((List UInt8) × (List UInt8) × Int))} {Q : PX → St → Prop} (hQ : ∀ e st', finL (f14_l3_H a1 a2) (f14_l3_X a1 a2) r e st' → Q e st') (p362 : List (List UInt8)) (p363 : Int) (p364 : Int) (hS : f14_l3_j5 a1 a2 p362 p363 p364 = some r) {st : St} (he : keepSt [0, 40, 41, 42] [] [] st = f14_l3_j5_J a1 a2 p362 p363 p364) : ZR (lev codes baseL (d - 1)) Q c14_4 [] st := by
  refine zrKeep he ?_
  unfold f14_l3_j5 at hS
  refine zrSeq ?_
  refine zrBlk ?_
  refine zrSeq ?_
  refine zrReg ?_
  refine bindE hS (fun z93 hz93 hS => ?_)
  refine zlOp (d := some 44) (op := (.ixS 9 1 (.tmp 40) (.tmp 42))) (g := none) (v := (.rptr (eStr.enc z93 ++ (eStr.cells (p362.drop ((p364 : Int).toNat + 1)))))) (ups := []) (j := 1) rfl (by kernel_rfl) (by kernel_rfl) (ev_ixS eStr (kk := .i64) (xs := p362) (j := p364) (by kernel_rfl) (by kernel_rfl) hz93 rfl (by intro h; cases h)) ?_
  refine zlRun (n := 2) (j := 3) rfl (by kernel_rfl) ?_
  refine zlEnd (by kernel_rfl) ?_
  refine zkSeq ?_
  refine zrSeq ?_
  refine zrReg ?_
  refine zlRun (n := 3) (j := 3) rfl (by kernel_rfl) ?_
  refine zlEnd (by kernel_rfl) ?_
  refine zkSeq ?_
  refine zrBlk ?_
  refine bindE hS (fun z112 hz112 hS => ?_)
  refine zrLoop (f14_l3_l6_H a1 a2) (f14_l3_l6_X a1 a2) (fun x st r Q h0 hS hQ => f14_l3_l6_ok hd a1 a2 hQ hS h0) (x := (z93, p362, p363, p364, 0)) (z := z112) (by show keepSt _ _ _ _ = _; kernel_rfl) hz112 ?_
  rcases z112 with z113 | z114
  · replace hS := (show _ = _ from hS)
    simp only [Sum.elim_inl] at hS
    intro e st' _ hX
    obtain ⟨rfl, rfl⟩ : _ ∧ _ := hX
    refine zkBlkX ?_
    refine zkBlk ?_
    refine zkSeq ?_
    refine zrReg ?_
    refine zlRun (n := 2) (j := 2) rfl (by kernel_rfl) ?_
    refine zlEnd (by kernel_rfl) ?_
    refine zkNil ?_
    exact endQ hS hQ (finL_n (by show keepSt _ _ _ _ = _; kernel_rfl))
  · simp only [Sum.elim_inr] at hS
    intro e st' _ hX
    obtain ⟨rfl, hX⟩ : _ ∧ _ := hX
    refine zkBlkR ?_
    refine zkBlkR ?_
    refine zkSeqR ?_
    refine zkNil ?_
    exact endQ hS hQ (finL_x (by intro h; cases h) (by show _ = _ ∧ _ = _; exact ⟨rfl, hX⟩))
def f14_l3_j4_J (a1 : List (List UInt8)) (a2 : List UInt8) (p358 : List (List UInt8)) (p359 : Int) (p360 : Int) (p361 : Bool) : St := ⟨(up (up (up (up (up (fun _ => .un) 43 (.d (.bool p361))) 42 (.d (.int .i64 p360))) 41 (.d (.int .i64 p359))) 40 (.d (.sl p358.length (eStr.cells p358)))) 0 (.d (.sl a1.length (eStr.cells a1)))), (hB fun _ => 0)⟩
noncomputable def f14_l3_j4 (a1 : List (List UInt8)) (a2 : List UInt8) (p358 : List (List UInt8)) (p359 : Int) (p360 : Int) (p361 : Bool) : Option (((List (List UInt8)) × Int × Int) ⊕ (Unit ⊕ ((List UInt8) × (List UInt8) × Int))) := (bif p361 then (f14_l3_j5 a1 a2 p358 p359 p360) else (some (.inr (.inl ()))))
theorem f14_l3_j4_ok {d : Nat} (hd : 5 ≤ d) (a1 : List (List UInt8)) (a2 : List UInt8) {r : ((List (List UInt8)) × Int × Int) ⊕ (Unit ⊕ ((List UInt8) × (List UInt8) × Int))} {Q : PX → St → Prop} (hQ : ∀ e st', finL (f14_l3_H a1 a2) (f14_l3_X a1 a2) r e st' → Q e st') (p358 : List (List UInt8)) (p359 : Int) (p360 : Int) (p361 : Bool) (hS : f14_l3_j4 a1 a2 p358 p359 p360 p361 = some r) {st : St} (he : keepSt [0, 40, 41, 42, 43] [] [] st = f14_l3_j4_J a1 a2 p358 p359 p360 p361) : ZR (lev codes baseL (d - 1)) Q c14_5 [] st := by
  refine zrKeep he ?_
  unfold f14_l3_j4 at hS
  refine zrSeq ?_
  refine zrSplit 43 p361 (by kernel_rfl) (fun hc => ?_) (fun hc => ?_)
  · replace hS := cond_t hc hS
    refine zrCondT (by kernel_rfl) ?_
    refine zrSkip ?_
    refine zkSeq ?_
    exact f14_l3_j5_ok hd a1 a2 hQ p358 p359 p360 hS (by kernel_rfl)
  · replace hS := cond_f hc hS
    refine zrCondF (by kernel_rfl) ?_
    refine zrKeep (J := f14_l3_e0_J a1 a2) (by kernel_rfl) ?_
    refine zrExit ?_
    refine zkSeqX ?_
    refine zkNil ?_
    exact endQ hS hQ (finL_x (by intro h; cases h) (by show _ = _ ∧ _ = _; exact ⟨rfl, rfl⟩))
noncomputable def f14_l3 (a1 : List (List UInt8)) (a2 : List UInt8) (x : (List (List UInt8)) × Int × Int) : Option (((List (List UInt8)) × Int × Int) ⊕ (Unit ⊕ ((List UInt8) × (List UInt8) × Int))) := (bif (decide (x.2.2 < x.2.1)) then (f14_l3_j4 a1 a2 x.1 x.2.1 x.2.2 true) else (f14_l3_j4 a1 a2 x.1 x.2.1 x.2.2 false))
theorem f14_l3_ok {d : Nat} (hd : 5 ≤ d) (a1 : List (List UInt8)) (a2 : List UInt8) {r : ((List (List UInt8)) × Int × Int) ⊕ (Unit ⊕ ((List UInt8) × (List UInt8) × Int))} {Q : PX → St → Prop} (hQ : ∀ e st', finL (f14_l3_H a1 a2) (f14_l3_X a1 a2) r e st' → Q e st') {x : (List (List UInt8)) × Int × Int} (hS : f14_l3 a1 a2 x = some r) {st : St} (he : f14_l3_H a1 a2 x st) : ZR (lev codes baseL (d - 1)) Q c14_6 [] st := by
  refine zrKeep he ?_
  unfold f14_l3 at hS
  refine zrSeq ?_
  refine zrReg ?_
  refine zlBool (d := 43) (op := (.cmpI .lss (.tmp 42) (.tmp 41))) (g := none) (j := 1) (decide (x.2.2 < x.2.1)) rfl (by kernel_rfl) (by kernel_rfl) (by kernel_rfl) (fun hc => ?_) (fun hc => ?_)
  · replace hS := cond_t hc hS
    refine zlEnd (by kernel_rfl) ?_
    refine zkSeq ?_
    exact f14_l3_j4_ok hd a1 a2 hQ x.1 x.2.1 x.2.2 true hS (by kernel_rfl)
  · replace hS := cond_f hc hS
    refine zlEnd (by kernel_rfl) ?_
    refine zkSeq ?_
    exact f14_l3_j4_ok hd a1 a2 hQ x.1 x.2.1 x.2.2 false hS (by kernel_rfl)
def f14_j2_J (a1 : List (List UInt8)) (a2 : List UInt8) (p182 : List (List UInt8)) : St := ⟨(up (up (fun _ => .un) 7 (.d (.sl p182.length (eStr.cells p182)))) 0 (.d (.sl a1.length (eStr.cells a1)))), (hB fun _ => 0)⟩
noncomputable def f14_j2 (a1 : List (List UInt8)) (a2 : List UInt8) (p182 : List (List UInt8)) : Option ((List UInt8) × (List UInt8) × Int) := ((loopO (f14_l3 a1 a2) (p182, (p182.length : Int), 0)).bind fun z115 => (Sum.elim (fun z116 => (some ([3], [], 0))) (fun z117 => (some (z117.1, z117.2.1, z117.2.2))) z115))
theorem f14_j2_ok {d : Nat} (hd : 5 ≤ d) (a1 : List (List UInt8)) (a2 : List UInt8) {r : (List UInt8) × (List UInt8) × Int} {Q : PX → St → Prop} (hQ : ∀ e st', f14_Q r e st' → Q e st') (p182 : List (List UInt8)) (hS : f14_j2 a1 a2 p182 = some r) {st : St} (he : keepSt [0, 7] [] [] st = f14_j2_J a1 a2 p182) : ZR (lev codes baseL (d - 1)) Q c14_7 [] st := by
  refine zrKeep he ?_
  unfold f14_j2 at hS
  refine zrSeq ?_
  refine zrSeq ?_
  refine zrReg ?_
  refine zlRun (n := 3) (j := 3) rfl (by kernel_rfl) ?_
  refine zlEnd (by kernel_rfl) ?_
  refine zkSeq ?_
  refine zrBlk ?_
  refine bindE hS (fun z115 hz115 hS => ?_)
  refine zrLoop (f14_l3_H a1 a2) (f14_l3_X a1 a2) (fun x st r Q h0 hS hQ => f14_l3_ok hd a1 a2 hQ hS h0) (x := (p182, (p182.length : Int), 0)) (z := z115) (by show keepSt _ _ _ _ = _; kernel_rfl) hz115 ?_
  rcases z115 with z116 | z117
  · replace hS := (show _ = _ from hS)
    simp only [Sum.elim_inl] at hS
    intro e st' _ hX
    obtain ⟨rfl, rfl⟩ : _ ∧ _ := hX
    refine zkBlkX ?_
    refine zkSeq ?_
    refine zrSeq ?_
    refine zrReg ?_
    refine zlRun (n := 3) (j := 3) rfl (by kernel_rfl) ?_
    refine zlEnd (by kernel_rfl) ?_
    refine zkSeq ?_
    refine zrRet ?_
    refine zkNil ?_
    exact endQ hS hQ (fRet ((congrArg (fun s => outR s 0 c14.res) (by kernel_rfl : finSt c14.fin _ = f14_fin [3] [] 0)).trans (f14_out [3] [] 0)))
  · simp only [Sum.elim_inr] at hS
    intro e st' _ hX
    obtain ⟨rfl, hX⟩ : _ ∧ _ := hX
    refine zkBlkR ?_
    refine zkSeqR ?_
    refine zkNil ?_
    exact endQ hS hQ (fRet ((congrArg (fun s => outR s 0 c14.res) hX).trans (f14_out z117.1 z117.2.1 z117.2.2)))
def f14_j1_J (a1 : List (List UInt8)) (a2 : List UInt8) (p179 : List (List UInt8)) : St := ⟨(up (up (fun _ => .un) 7 (.d (.sl p179.length (eStr.cells p179)))) 0 (.d (.sl a1.length (eStr.cells a1)))), (hB fun _ => 0)⟩
noncomputable def f14_j1 (a1 : List (List UInt8)) (a2 : List UInt8) (p179 : List (List UInt8)) : Option ((List UInt8) × (List UInt8) × Int) := (bif (decide (8 < (p179.length : Int))) then (some ([], [], 2)) else (f14_j2 a1 a2 p179))
theorem f14_j1_ok {d : Nat} (hd : 5 ≤ d) (a1 : List (List UInt8)) (a2 : List UInt8) {r : (List UInt8) × (List UInt8) × Int} {Q : PX → St → Prop} (hQ : ∀ e st', f14_Q r e st' → Q e st') (p179 : List (List UInt8)) (hS : f14_j1 a1 a2 p179 = some r) {st : St} (he : keepSt [0, 7] [] [] st = f14_j1_J a1 a2 p179) : ZR (lev codes baseL (d - 1)) Q c14_8 [] st := by
  refine zrKeep he ?_
  unfold f14_j1 at hS
  refine zrSeq ?_
  refine zrSeq ?_
  refine zrReg ?_
  refine zlRun (n := 2) (j := 2) rfl (by kernel_rfl) ?_
  refine zlBool (d := 39) (op := (.cmpI .gtr (.tmp 38) (.const (.int .i64 8)))) (g := none) (j := 3) (decide (8 < (p179.length : Int))) rfl (by kernel_rfl) (by kernel_rfl) (by kernel_rfl) (fun hc => ?_) (fun hc => ?_)
  · replace hS := cond_t hc hS
    refine zlEnd (by kernel_rfl) ?_
    refine zkSeq ?_
    refine zrCondT (by kernel_rfl) ?_
    refine zrSeq ?_
    refine zrReg ?_
    refine zlRun (n := 3) (j := 3) rfl (by kernel_rfl) ?_
    refine zlEnd (by kernel_rfl) ?_
    refine zkSeq ?_
    refine zrRet ?_
    refine zkSeqR ?_
    refine zkNil ?_
    exact endQ hS hQ (fRet ((congrArg (fun s => outR s 0 c14.res) (by kernel_rfl : finSt c14.fin _ = f14_fin [] [] 2)).trans (f14_out [] [] 2)))
  · replace hS := cond_f hc hS
    refine zlEnd (by kernel_rfl) ?_
    refine zkSeq ?_
    refine zrCondF (by kernel_rfl) ?_
    refine zrSkip ?_
    refine zkSeq ?_
    exact f14_j2_ok hd a1 a2 hQ p179 hS (by kernel_rfl)
def f14_j0_J (a1 : List (List UInt8)) (a2 : List UInt8) : St := ⟨(up (up (fun _ => .un) 1 (.d (.str a2))) 0 (.d (.sl a1.length (eStr.cells a1)))), (hB fun _ => 0)⟩
noncomputable def f14_j0 (a1 : List (List UInt8)) (a2 : List UInt8) : Option ((List UInt8) × (List UInt8) × Int) := ((sub? a2 2 (a2.length : Int)).bind fun z50 => ((sub? a2 1 2).bind fun z51 => ((libSplit z50 z51).bind fun z52 => ((f22v2 z52).bind fun z118 => (bif z118 then (some ([], [], 4)) else (f14_j1 a1 a2 z52))))))
theorem f14_j0_ok {d : Nat} (hd : 5 ≤ d) (a1 : List (List UInt8)) (a2 : List UInt8) {r : (List UInt8) × (List UInt8) × Int} {Q : PX → St → Prop} (hQ : ∀ e st', f14_Q r e st' → Q e st')  (hS : f14_j0 a1 a2 = some r) {st : St} (he : keepSt [0, 1] [] [] st = f14_j0_J a1 a2) : ZR (lev codes baseL (d - 1)) Q c14_9 [] st := by
  refine zrKeep he ?_
  unfold f14_j0 at hS
  refine zrSeq ?_
  refine zrRegD ?_
  refine zdRun (n := 1) (j := 1) (ts := [[]]) (acc' := [[]]) rfl (by kernel_rfl) (by kernel_rfl) (by kernel_rfl) ?_
  refine bindE hS (fun z50 hz50 hS => ?_)
  refine zdOp (d := some 31) (op := (.slStr (.tmp 30) (.some (.const (.int .i64 2))) .none)) (g := none) (v := (.d (.str z50))) (ups := []) (j := 2) (t1 := []) (acc' := [[], []]) (by kernel_rfl) (by kernel_rfl) rfl (by kernel_rfl) (by kernel_rfl) (ev_slStr (s := a2) (a := 2) (c := (a2.length : Int)) (by kernel_rfl) (bnd_s _ (kk := .i64) (j := 2) (by kernel_rfl)) (bnd_n _) hz50) ?_
  refine zdRun (n := 1) (j := 3) (ts := [[]]) (acc' := [[], [], []]) rfl (by kernel_rfl) (by kernel_rfl) (by kernel_rfl) ?_
  refine bindE hS (fun z51 hz51 hS => ?_)
  refine zdOp (d := some 33) (op := (.slStr (.tmp 32) (.some (.const (.int .i64 1))) (.some (.const (.int .i64 2))))) (g := none) (v := (.d (.str z51))) (ups := []) (j := 4) (t1 := []) (acc' := [[], [], [], []]) (by kernel_rfl) (by kernel_rfl) rfl (by kernel_rfl) (by kernel_rfl) (ev_slStr (s := a2) (a := 1) (c := 2) (by kernel_rfl) (bnd_s _ (kk := .i64) (j := 1) (by kernel_rfl)) (bnd_s _ (kk := .i64) (j := 2) (by kernel_rfl)) hz51) ?_
  refine bindE hS (fun z52 hz52 hS => ?_)
  refine zdOp (d := some 34) (op := (.call 13 [(.tmp 31), (.tmp 33)])) (g := none) (v := (.d (.sl z52.length (eStr.cells z52)))) (ups := []) (j := 5) (t1 := [(280, true), (281, true), (282, true), (283, true), (284, true), (285, true), (286, true), (287, true)]) (acc' := [[], [], [], [], [(280, true), (281, true), (282, true), (283, true), (284, true), (285, true), (286, true), (287, true)]]) (by kernel_rfl) (by kernel_rfl) rfl (by kernel_rfl) (by kernel_rfl) (ev_call (args := [(.d (.str z50)), (.d (.str z51))]) (l := [(.d (.str z50)), (.d (.str z51))]) (r := (.d (.sl z52.length (eStr.cells z52)))) (by kernel_rfl) (by kernel_rfl) (libSplit_ok (d - 1) (dpt hd rfl) z50 z51 z52 hz52) (by kernel_rfl) (by kernel_rfl) (by kernel_rfl)) ?_
  refine zdRun (n := 1) (j := 6) (ts := [[]]) (acc' := [[], [], [], [], [(280, true), (281, true), (282, true), (283, true), (284, true), (285, true), (286, true), (287, true)], []]) rfl (by kernel_rfl) (by kernel_rfl) (by kernel_rfl) ?_
  refine zdEnd (by kernel_rfl) (by kernel_rfl) ?_
  refine zkSeq ?_
  refine zrSeq ?_
  refine zrSeq ?_
  refine zrReg ?_
  refine zlRun (n := 1) (j := 1) rfl (by kernel_rfl) ?_
  refine bindE hS (fun z118 hz118 hS => ?_)
  refine zlOp (d := some 36) (op := (.call 22 [(.tmp 35), (.func 31)])) (g := none) (v := (.d (.bool z118))) (ups := []) (j := 2) rfl (by kernel_rfl) (by kernel_rfl) (ev_call (args := [(.d (.sl z52.length (eStr.cells z52))), (.fn 31 [])]) (l := [(.d (.sl z52.length (eStr.cells z52))), (.fn 31 [])]) (r := (.d (.bool z118))) (by kernel_rfl) (by kernel_rfl) (f22v2_ok (d - 1) (dpt hd rfl) z52 z118 hz118) (by kernel_rfl) (by kernel_rfl) (by kernel_rfl)) ?_
  refine zlEnd (by kernel_rfl) ?_
  refine zkSeq ?_
  refine zrSplit 36 z118 (by kernel_rfl) (fun hc => ?_) (fun hc => ?_)
  · replace hS := cond_t hc hS
    refine zrCondT (by kernel_rfl) ?_
    refine zrSeq ?_
    refine zrReg ?_
    refine zlRun (n := 3) (j := 3) rfl (by kernel_rfl) ?_
    refine zlEnd (by kernel_rfl) ?_
    refine zkSeq ?_
    refine zrRet ?_
    refine zkSeqR ?_
    refine zkNil ?_
    exact endQ hS hQ (fRet ((congrArg (fun s => outR s 0 c14.res) (by kernel_rfl : finSt c14.fin _ = f14_fin [] [] 4)).trans (f14_out [] [] 4)))
  · replace hS := cond_f hc hS
    refine zrCondF (by kernel_rfl) ?_
    refine zrSkip ?_
    refine zkSeq ?_
    exact f14_j1_ok hd a1 a2 hQ z52 hS (by kernel_rfl)
noncomputable def f14 (a1 : List (List UInt8)) (a2 : List UInt8) : Option ((List UInt8) × (List UInt8) × Int) := (bif (decide ((a2.length : Int) < 2)) then (some ([], [], 4)) else ((idx a2 0).bind fun z119 => (bif (!decide ((z119.toNat : Int) = 1)) then (some ([], [], 4)) else ((idx a2 1).bind fun z120 => (bif (decide ((z120.toNat : Int) < 33)) then (some ([], [], 4)) else ((idx a2 1).bind fun z121 => (bif (decide (126 < (z121.toNat : Int))) then (some ([], [], 4)) else (f14_j0 a1 a2 ))))))))
theorem f14_ok (d : Nat) (hd : 5 ≤ d) (a1 : List (List UInt8)) (a2 : List UInt8) (r : (List UInt8) × (List UInt8) × Int) (hS : f14 a1 a2 = some r) : lev codes baseL d 14 [(.d (.sl a1.length (eStr.cells a1))), (.d (.str a2))] [] = some ((.tup [(.d (.str r.1)), (.d (.str r.2.1)), (.d (.int .i64 r.2.2))]), []) := by
  refine lev_go codes14 rfl rfl (Nat.le_trans (Nat.le_of_ble_eq_true rfl) hd) fun Q hQ => ?_
  unfold f14 at hS
  show ZR _ Q c14_b [] _
  replace hQ : ∀ e st', f14_Q r e st' → Q e st' := hQ
  refine zrSeq ?_
  refine zrReg ?_
  refine zlRun (n := 3) (j := 3) rfl (by kernel_rfl) ?_
  refine zlEnd (by kernel_rfl) ?_
  refine zkSeq ?_
  refine zrSeq ?_
  refine zrSeq ?_
  refine zrReg ?_
  refine zlRun (n := 2) (j := 2) rfl (by kernel_rfl) ?_
  refine zlBool (d := 14) (op := (.cmpI .lss (.tmp 13) (.const (.int .i64 2)))) (g := none) (j := 3) (decide ((a2.length : Int) < 2)) rfl (by kernel_rfl) (by kernel_rfl) (by kernel_rfl) (fun hc => ?_) (fun hc => ?_)
  · replace hS := cond_t hc hS
    refine zlRun (n := 15) (j := 18) rfl (by kernel_rfl) ?_
    refine zlEnd (by kernel_rfl) ?_
    refine zkSeq ?_
    refine zrCondT (by kernel_rfl) ?_
    refine zrSeq ?_
    refine zrReg ?_
    refine zlRun (n := 3) (j := 3) rfl (by kernel_rfl) ?_
    refine zlEnd (by kernel_rfl) ?_
    refine zkSeq ?_
    refine zrRet ?_
    refine zkSeqR ?_
    refine zkNil ?_
    exact endQ hS hQ (fRet ((congrArg (fun s => outR s 0 c14.res) (by kernel_rfl : finSt c14.fin _ = f14_fin [] [] 4)).trans (f14_out [] [] 4)))
  · replace hS := cond_f hc hS
    refine zlRun (n := 2) (j := 5) rfl (by kernel_rfl) ?_
    refine bindE hS (fun z119 hz119 hS => ?_)
    refine zlOp (d := some 17) (op := (.ixStr (.tmp 16) (.const (.int .i64 0)))) (g := (some (15, false))) (v := (.d (.int .u8 (z119.toNat : Int)))) (ups := []) (j := 6) rfl (by kernel_rfl) (by kernel_rfl) (ev_ixStr (kk := .i64) (s := a2) (j := 0) (by kernel_rfl) (by kernel_rfl) hz119) ?_
    refine zlBool (d := 18) (op := (.cmpI .neq (.tmp 17) (.const (.int .u8 1)))) (g := (some (15, false))) (j := 7) (!decide ((z119.toNat : Int) = 1)) rfl (by kernel_rfl) (by kernel_rfl) (by kernel_rfl) (fun hc => ?_) (fun hc => ?_)
    · replace hS := cond_t hc hS
      refine zlRun (n := 11) (j := 18) rfl (by kernel_rfl) ?_
      refine zlEnd (by kernel_rfl) ?_
      refine zkSeq ?_
      refine zrCondT (by kernel_rfl) ?_
      refine zrSeq ?_
      refine zrReg ?_
      refine zlRun (n := 3) (j := 3) rfl (by kernel_rfl) ?_
      refine zlEnd (by kernel_rfl) ?_
      refine zkSeq ?_
      refine zrRet ?_
      refine zkSeqR ?_
      refine zkNil ?_
      exact endQ hS hQ (fRet ((congrArg (fun s => outR s 0 c14.res) (by kernel_rfl : finSt c14.fin _ = f14_fin [] [] 4)).trans (f14_out [] [] 4)))
    · replace hS := cond_f hc hS
      refine zlRun (n := 3) (j := 10) rfl (by kernel_rfl) ?_
      refine bindE hS (fun z120 hz120 hS => ?_)
      refine zlOp (d := some 22) (op := (.ixStr (.tmp 21) (.const (.int .i64 1)))) (g := (some (20, false))) (v := (.d (.int .u8 (z120.toNat : Int)))) (ups := []) (j := 11) rfl (by kernel_rfl) (by kernel_rfl) (ev_ixStr (kk := .i64) (s := a2) (j := 1) (by kernel_rfl) (by kernel_rfl) hz120) ?_
      refine zlBool (d := 23) (op := (.cmpI .lss (.tmp 22) (.const (.int .u8 33)))) (g := (some (20, false))) (j := 12) (decide ((z120.toNat : Int) < 33)) rfl (by kernel_rfl) (by kernel_rfl) (by kernel_rfl) (fun hc => ?_) (fun hc => ?_)
      · replace hS := cond_t hc hS
        refine zlRun (n := 6) (j := 18) rfl (by kernel_rfl) ?_
        refine zlEnd (by kernel_rfl) ?_
        refine zkSeq ?_
        refine zrCondT (by kernel_rfl) ?_
        refine zrSeq ?_
        refine zrReg ?_
        refine zlRun (n := 3) (j := 3) rfl (by kernel_rfl) ?_
        refine zlEnd (by kernel_rfl) ?_
        refine zkSeq ?_
        refine zrRet ?_
        refine zkSeqR ?_
        refine zkNil ?_
        exact endQ hS hQ (fRet ((congrArg (fun s => outR s 0 c14.res) (by kernel_rfl : finSt c14.fin _ = f14_fin [] [] 4)).trans (f14_out [] [] 4)))
      · replace hS := cond_f hc hS
        refine zlRun (n := 3) (j := 15) rfl (by kernel_rfl) ?_
        refine bindE hS (fun z121 hz121 hS => ?_)
        refine zlOp (d := some 27) (op := (.ixStr (.tmp 26) (.const (.int .i64 1)))) (g := (some (25, false))) (v := (.d (.int .u8 (z121.toNat : Int)))) (ups := []) (j := 16) rfl (by kernel_rfl) (by kernel_rfl) (ev_ixStr (kk := .i64) (s := a2) (j := 1) (by kernel_rfl) (by kernel_rfl) hz121) ?_
        refine zlBool (d := 28) (op := (.cmpI .gtr (.tmp 27) (.const (.int .u8 126)))) (g := (some (25, false))) (j := 17) (decide (126 < (z121.toNat : Int))) rfl (by kernel_rfl) (by kernel_rfl) (by kernel_rfl) (fun hc => ?_) (fun hc => ?_)
        · replace hS := cond_t hc hS
          refine zlRun (n := 1) (j := 18) rfl (by kernel_rfl) ?_
          refine zlEnd (by kernel_rfl) ?_
          refine zkSeq ?_
          refine zrCondT (by kernel_rfl) ?_
          refine zrSeq ?_
          refine zrReg ?_
          refine zlRun (n := 3) (j := 3) rfl (by kernel_rfl) ?_
          refine zlEnd (by kernel_rfl) ?_
          refine zkSeq ?_
          refine zrRet ?_
          refine zkSeqR ?_
          refine zkNil ?_
          exact endQ hS hQ (fRet ((congrArg (fun s => outR s 0 c14.res) (by kernel_rfl : finSt c14.fin _ = f14_fin [] [] 4)).trans (f14_out [] [] 4)))
        · replace hS := cond_f hc hS
          refine zlRun (n := 1) (j := 18) rfl (by kernel_rfl) ?_
          refine zlEnd (by kernel_rfl) ?_
          refine zkSeq ?_
          refine zrCondF (by kernel_rfl) ?_
          refine zrSkip ?_
          refine zkSeq ?_
          exact f14_j0_ok hd a1 a2 hQ  hS (by kernel_rfl)
/- farwriter/farkeep.choiceLives -/
def f9_fin (p6 : Bool) : St := ⟨(up (fun _ => .un) 0 (.d (.bool p6))), (hB fun _ => 0)⟩
theorem f9_out (p6 : Bool) : outR (f9_fin p6) 0 c9.res = some ((.d (.bool p6)), []) := by
  kernel_rfl
def f9_Q (r : Bool) (e : PX) (st : St) : Prop := DoneF c9 0 ((.d (.bool r)), []) e st
noncomputable def f9  : Option (Bool) := ((f8 [[85, 84, 70, 45, 56], [65, 83, 67, 73, 73, 33]]).bind fun z3 => ((f14 [[97, 115, 99, 105, 105, 33]] z3.1).bind fun z4 => (bif (decide (z3.2 = 0)) then (bif (decide (z4.2.2 = 0)) then (bif (decide (z3.1 = ([1, 34, 85, 84, 70, 45, 56, 34, 65, 83, 67, 73, 73, 33] : List UInt8))) then (bif (decide (z4.1 = ([2, 65, 83, 67, 73, 73, 33] : List UInt8))) then (bif (decide (z4.2.1 = ([97, 115, 99, 105, 105, 33] : List UInt8))) then (some true) else (some false)) else (some false)) else (some false)) else (some false)) else (some false))))
theorem f9_ok (d : Nat) (hd : 6 ≤ d)  (r : Bool) (hS : f9 = some r) : lev codes baseL d 9 [] [] = some ((.d (.bool r)), []) := by
  refine lev_go codes9 rfl rfl (Nat.le_trans (Nat.le_of_ble_eq_true rfl) hd) fun Q hQ => ?_
  unfold f9 at hS
  show ZR _ Q c9_b [] _
  replace hQ : ∀ e st', f9_Q r e st' → Q e st' := hQ
  refine zrSeq ?_
  refine zrReg ?_
  refine zlRun (n := 1) (j := 1) rfl (by kernel_rfl) ?_
  refine zlEnd (by kernel_rfl) ?_
  refine zkSeq ?_
  refine zrSeq ?_
  refine zrReg ?_
  refine zlRun (n := 1) (j := 1) rfl (by kernel_rfl) ?_
  refine bindE hS (fun z3 hz3 hS => ?_)
  refine zlOp (d := some 8) (op := (.call 8 [(.tmp 7)])) (g := none) (v := (.tup [(.d (.str z3.1)), (.d (.int .i64 z3.2))])) (ups := []) (j := 2) rfl (by kernel_rfl) (by kernel_rfl) (ev_call (args := [(.r (.msl 64 1 0 (([[85, 84, 70, 45, 56], [65, 83, 67, 73, 73, 33]] : List (List UInt8)).length)))]) (l := [(.d (.sl ([[85, 84, 70, 45, 56], [65, 83, 67, 73, 73, 33]] : List (List UInt8)).length (eStr.cells ([[85, 84, 70, 45, 56], [65, 83, 67, 73, 73, 33]]))))]) (r := (.tup [(.d (.str z3.1)), (.d (.int .i64 z3.2))])) (by kernel_rfl) (l_cons (l_own eStr (e := 9) (k := 1) (xs := [[85, 84, 70, 45, 56], [65, 83, 67, 73, 73, 33]]) (by kernel_rfl) rfl rfl) l_nil) (f8_ok (d - 1) (dpt hd rfl) [[85, 84, 70, 45, 56], [65, 83, 67, 73, 73, 33]] z3 hz3) (by kernel_rfl) (by kernel_rfl) (by kernel_rfl)) ?_
  refine zlRun (n := 5) (j := 7) rfl (by kernel_rfl) ?_
  refine zlEnd (by kernel_rfl) ?_
  refine zkSeq ?_
  refine zrSeq ?_
  refine zrReg ?_
  refine zlRun (n := 2) (j := 2) rfl (by kernel_rfl) ?_
  refine bindE hS (fun z4 hz4 hS => ?_)
  refine zlOp (d := some 14) (op := (.call 14 [(.tmp 12), (.tmp 13)])) (g := none) (v := (.tup [(.d (.str z4.1)), (.d (.str z4.2.1)), (.d (.int .i64 z4.2.2))])) (ups := []) (j := 3) rfl (by kernel_rfl) (by kernel_rfl) (ev_call (args := [(.r (.msl 104 1 0 (([[97, 115, 99, 105, 105, 33]] : List (List UInt8)).length))), (.d (.str z3.1))]) (l := [(.d (.sl ([[97, 115, 99, 105, 105, 33]] : List (List UInt8)).length (eStr.cells ([[97, 115, 99, 105, 105, 33]])))), (.d (.str z3.1))]) (r := (.tup [(.d (.str z4.1)), (.d (.str z4.2.1)), (.d (.int .i64 z4.2.2))])) (by kernel_rfl) (l_cons (l_own eStr (e := 9) (k := 1) (xs := [[97, 115, 99, 105, 105, 33]]) (by kernel_rfl) rfl rfl) (l_cons (by kernel_rfl) l_nil)) (f14_ok (d - 1) (dpt hd rfl) [[97, 115, 99, 105, 105, 33]] z3.1 z4 hz4) (by kernel_rfl) (by kernel_rfl) (by kernel_rfl)) ?_
  refine zlRun (n := 7) (j := 10) rfl (by kernel_rfl) ?_
  refine zlEnd (by kernel_rfl) ?_
  refine zkSeq ?_
  refine zrSeq ?_
  refine zrReg ?_
  refine zlRun (n := 1) (j := 1) rfl (by kernel_rfl) ?_
  refine zlBool (d := 19) (op := (.cmpI .eql (.tmp 18) (.const (.int .i64 0)))) (g := none) (j := 2) (decide (z3.2 = 0)) rfl (by kernel_rfl) (by kernel_rfl) (by kernel_rfl) (fun hc => ?_) (fun hc => ?_)
  · replace hS := cond_t hc hS
    refine zlRun (n := 2) (j := 4) rfl (by kernel_rfl) ?_
    refine zlBool (d := 22) (op := (.cmpI .eql (.tmp 21) (.const (.int .i64 0)))) (g := (some (20, true))) (j := 5) (decide (z4.2.2 = 0)) rfl (by kernel_rfl) (by kernel_rfl) (by kernel_rfl) (fun hc => ?_) (fun hc => ?_)
    · replace hS := cond_t hc hS
      refine zlRun (n := 3) (j := 8) rfl (by kernel_rfl) ?_
      refine zlBool (d := 26) (op := (.strO .eql (.tmp 25) (.const (.string ⟨#[1, 34, 85, 84, 70, 45, 56, 34, 65, 83, 67, 73, 73, 33]⟩)))) (g := (some (24, true))) (j := 9) (decide (z3.1 = ([1, 34, 85, 84, 70, 45, 56, 34, 65, 83, 67, 73, 73, 33] : List UInt8))) rfl (by kernel_rfl) (by kernel_rfl) (by kernel_rfl) (fun hc => ?_) (fun hc => ?_)
      · replace hS := cond_t hc hS
        refine zlRun (n := 3) (j := 12) rfl (by kernel_rfl) ?_
        refine zlBool (d := 30) (op := (.strO .eql (.tmp 29) (.const (.string ⟨#[2, 65, 83, 67, 73, 73, 33]⟩)))) (g := (some (28, true))) (j := 13) (decide (z4.1 = ([2, 65, 83, 67, 73, 73, 33] : List UInt8))) rfl (by kernel_rfl) (by kernel_rfl) (by kernel_rfl) (fun hc => ?_) (fun hc => ?_)
        · replace hS := cond_t hc hS
          refine zlRun (n := 3) (j := 16) rfl (by kernel_rfl) ?_
          refine zlBool (d := 34) (op := (.strO .eql (.tmp 33) (.const (.string ⟨#[97, 115, 99, 105, 105, 33]⟩)))) (g := (some (32, true))) (j := 17) (decide (z4.2.1 = ([97, 115, 99, 105, 105, 33] : List UInt8))) rfl (by kernel_rfl) (by kernel_rfl) (by kernel_rfl) (fun hc => ?_) (fun hc => ?_)
          · replace hS := cond_t hc hS
            refine zlRun (n := 2) (j := 19) rfl (by kernel_rfl) ?_
            refine zlEnd (by kernel_rfl) ?_
            refine zkSeq ?_
            refine zrRet ?_
            refine zkNil ?_
            exact endQ hS hQ (fRet ((congrArg (fun s => outR s 0 c9.res) (by kernel_rfl : finSt c9.fin _ = f9_fin true)).trans (f9_out true)))
          · replace hS := cond_f hc hS
            refine zlRun (n := 2) (j := 19) rfl (by kernel_rfl) ?_
            refine zlEnd (by kernel_rfl) ?_
            refine zkSeq ?_
            refine zrRet ?_
            refine zkNil ?_
            exact endQ hS hQ (fRet ((congrArg (fun s => outR s 0 c9.res) (by kernel_rfl : finSt c9.fin _ = f9_fin false)).trans (f9_out false)))
        · replace hS := cond_f hc hS
          refine zlRun (n := 6) (j := 19) rfl (by kernel_rfl) ?_
          refine zlEnd (by kernel_rfl) ?_
          refine zkSeq ?_
          refine zrRet ?_
          refine zkNil ?_
          exact endQ hS hQ (fRet ((congrArg (fun s => outR s 0 c9.res) (by kernel_rfl : finSt c9.fin _ = f9_fin false)).trans (f9_out false)))
      · replace hS := cond_f hc hS
        refine zlRun (n := 10) (j := 19) rfl (by kernel_rfl) ?_
        refine zlEnd (by kernel_rfl) ?_
        refine zkSeq ?_
        refine zrRet ?_
        refine zkNil ?_
        exact endQ hS hQ (fRet ((congrArg (fun s => outR s 0 c9.res) (by kernel_rfl : finSt c9.fin _ = f9_fin false)).trans (f9_out false)))
    · replace hS := cond_f hc hS
      refine zlRun (n := 14) (j := 19) rfl (by kernel_rfl) ?_
      refine zlEnd (by kernel_rfl) ?_
      refine zkSeq ?_
      refine zrRet ?_
      refine zkNil ?_
      exact endQ hS hQ (fRet ((congrArg (fun s => outR s 0 c9.res) (by kernel_rfl : finSt c9.fin _ = f9_fin false)).trans (f9_out false)))
  · replace hS := cond_f hc hS
    refine zlRun (n := 17) (j := 19) rfl (by kernel_rfl) ?_
    refine zlEnd (by kernel_rfl) ?_
    refine zkSeq ?_
    refine zrRet ?_
    refine zkNil ?_
    exact endQ hS hQ (fRet ((congrArg (fun s => outR s 0 c9.res) (by kernel_rfl : finSt c9.fin _ = f9_fin false)).trans (f9_out false)))
/- slices.Equal[[]string,string] -/
def f12_fin (p14 : Bool) : St := ⟨(up (fun _ => .un) 4 (.d (.bool p14))), (hB fun _ => 0)⟩
theorem f12_out (p14 : Bool) : outR (f12_fin p14) 0 c12.res = some ((.d (.bool p14)), []) := by
  kernel_rfl
def f12_Q (r : Bool) (e : PX) (st : St) : Prop := DoneF c12 0 ((.d (.bool r)), []) e st
def f12_l1_J (a1 : List (List UInt8)) (a2 : List (List UInt8)) (x : Int) : St := ⟨(up (up (up (up (fun _ => .un) 13 (.d (.int .i64 x))) 12 (.d (.int .i64 (a1.length : Int)))) 1 (.d (.sl a2.length (eStr.cells a2)))) 0 (.d (.sl a1.length (eStr.cells a1)))), (hB fun _ => 0)⟩
def f12_l1_H (a1 : List (List UInt8)) (a2 : List (List UInt8)) (x : Int) (st : St) : Prop := keepSt [0, 1, 12, 13] [] [] st = f12_l1_J a1 a2 x
def f12_l1_e0_J (a1 : List (List UInt8)) (a2 : List (List UInt8)) : St := ⟨(fun _ => .un), (hB fun _ => 0)⟩
def f12_l1_X (a1 : List (List UInt8)) (a2 : List (List UInt8)) (z : Unit ⊕ Bool) (e : PX) (st : St) : Prop := (match z with | .inl z => e = .exit 0 ∧ st = f12_l1_e0_J a1 a2 | .inr z => e = .ret ∧ finSt c12.fin st = f12_fin z)
def f12_l1_j3_J (a1 : List (List UInt8)) (a2 : List (List UInt8)) (p20 : Int) : St := ⟨(up (up (up (up (fun _ => .un) 13 (.d (.int .i64 p20))) 12 (.d (.int .i64 (a1.length : Int)))) 1 (.d (.sl a2.length (eStr.cells a2)))) 0 (.d (.sl a1.length (eStr.cells a1)))), (hB fun _ => 0)⟩
noncomputable def f12_l1_j3 (a1 : List (List UInt8)) (a2 : List (List UInt8)) (p20 : Int) : Option (Int ⊕ (Unit ⊕ Bool)) := ((idx a1 p20).bind fun z7 => ((idx a2 p20).bind fun z8 => (bif (!decide (z7 = z8)) then (some (.inr (.inr false))) else (some (.inl (IntKind.i64.wrap (p20 + 1)))))))
theorem f12_l1_j3_ok {d : Nat} (hd : 1 ≤ d) (a1 : List (List UInt8)) (a2 : List (List UInt8)) {r : Int ⊕ (Unit ⊕ Bool)} {Q : PX → St → Prop} (hQ : ∀ e st', finL (f12_l1_H a1 a2) (f12_l1_X a1 a2) r e st' → Q e st') (p20 : Int) (hS : f12_l1_j3 a1 a2 p20 = some r) {st : St} (he : keepSt [0, 1, 12, 13] [] [] st = f12_l1_j3_J a1 a2 p20) : ZR (lev codes baseL (d - 1)) Q c12_1 [] st := by
  refine zrKeep he ?_
  unfold f12_l1_j3 at hS
  refine zrSeq ?_
  refine zrBlk ?_
  refine zrSeq ?_
  refine zrReg ?_
  refine zlRun (n := 2) (j := 2) rfl (by kernel_rfl) ?_
  refine zlEnd (by kernel_rfl) ?_
  refine zkSeq ?_
  refine zrSeq ?_
  refine zrRegD ?_
  refine zdRun (n := 2) (j := 2) (ts := [[], []]) (acc' := [[], []]) rfl (by kernel_rfl) (by kernel_rfl) (by kernel_rfl) ?_
  refine bindE hS (fun z7 hz7 hS => ?_)
  refine zdOp (d := some 18) (op := (.ixS 9 1 (.tmp 16) (.tmp 17))) (g := none) (v := (.rptr (eStr.enc z7 ++ (eStr.cells (a1.drop ((p20 : Int).toNat + 1)))))) (ups := []) (j := 3) (t1 := []) (acc' := [[], [], []]) (by kernel_rfl) (by kernel_rfl) rfl (by kernel_rfl) (by kernel_rfl) (ev_ixS eStr (kk := .i64) (xs := a1) (j := p20) (by kernel_rfl) (by kernel_rfl) hz7 rfl (by intro h; cases h)) ?_
  refine zdRun (n := 3) (j := 6) (ts := [[], [], []]) (acc' := [[], [], [], [], [], []]) rfl (by kernel_rfl) (by kernel_rfl) (by kernel_rfl) ?_
  refine bindE hS (fun z8 hz8 hS => ?_)
  refine zdOp (d := some 22) (op := (.ixS 9 1 (.tmp 20) (.tmp 21))) (g := none) (v := (.rptr (eStr.enc z8 ++ (eStr.cells (a2.drop ((p20 : Int).toNat + 1)))))) (ups := []) (j := 7) (t1 := []) (acc' := [[], [], [], [], [], [], []]) (by kernel_rfl) (by kernel_rfl) rfl (by kernel_rfl) (by kernel_rfl) (ev_ixS eStr (kk := .i64) (xs := a2) (j := p20) (by kernel_rfl) (by kernel_rfl) hz8 rfl (by intro h; cases h)) ?_
  refine zdRun (n := 1) (j := 8) (ts := [[]]) (acc' := [[], [], [], [], [], [], [], []]) rfl (by kernel_rfl) (by kernel_rfl) (by kernel_rfl) ?_
  refine zdBool (d := 24) (op := (.strO .neq (.tmp 19) (.tmp 23))) (g := none) (j := 9) (t1 := []) (acc' := [[], [], [], [], [], [], [], [], []]) (!decide (z7 = z8)) (by kernel_rfl) (by kernel_rfl) rfl (by kernel_rfl) (by kernel_rfl) (by kernel_rfl) (fun hc => ?_) (fun hc => ?_)
  · replace hS := cond_t hc hS
    refine zdEnd (by kernel_rfl) (by kernel_rfl) ?_
    refine zkSeq ?_
    refine zrCondT (by kernel_rfl) ?_
    refine zrSeq ?_
    refine zrReg ?_
    refine zlRun (n := 1) (j := 1) rfl (by kernel_rfl) ?_
    refine zlEnd (by kernel_rfl) ?_
    refine zkSeq ?_
    refine zrRet ?_
    refine zkBlkR ?_
    refine zkSeqR ?_
    refine zkNil ?_
    exact endQ hS hQ (finL_x (by intro h; cases h) (by show _ = _ ∧ _ = _; exact ⟨rfl, by kernel_rfl⟩))
  · replace hS := cond_f hc hS
    refine zdEnd (by kernel_rfl) (by kernel_rfl) ?_
    refine zkSeq ?_
    refine zrCondF (by kernel_rfl) ?_
    refine zrSkip ?_
    refine zkBlk ?_
    refine zkSeq ?_
    refine zrReg ?_
    refine zlRun (n := 2) (j := 2) rfl (by kernel_rfl) ?_
    refine zlEnd (by kernel_rfl) ?_
    refine zkNil ?_
    exact endQ hS hQ (finL_n (by show keepSt _ _ _ _ = _; kernel_rfl))
def f12_l1_j2_J (a1 : List (List UInt8)) (a2 : List (List UInt8)) (p18 : Int) (p19 : Bool) : St := ⟨(up (up (up (up (up (fun _ => .un) 14 (.d (.bool p19))) 13 (.d (.int .i64 p18))) 12 (.d (.int .i64 (a1.length : Int)))) 1 (.d (.sl a2.length (eStr.cells a2)))) 0 (.d (.sl a1.length (eStr.cells a1)))), (hB fun _ => 0)⟩
noncomputable def f12_l1_j2 (a1 : List (List UInt8)) (a2 : List (List UInt8)) (p18 : Int) (p19 : Bool) : Option (Int ⊕ (Unit ⊕ Bool)) := (bif p19 then (f12_l1_j3 a1 a2 p18) else (some (.inr (.inl ()))))
theorem f12_l1_j2_ok {d : Nat} (hd : 1 ≤ d) (a1 : List (List UInt8)) (a2 : List (List UInt8)) {r : Int ⊕ (Unit ⊕ Bool)} {Q : PX → St → Prop} (hQ : ∀ e st', finL (f12_l1_H a1 a2) (f12_l1_X a1 a2) r e st' → Q e st') (p18 : Int) (p19 : Bool) (hS : f12_l1_j2 a1 a2 p18 p19 = some r) {st : St} (he : keepSt [0, 1, 12, 13, 14] [] [] st = f12_l1_j2_J a1 a2 p18 p19) : ZR (lev codes baseL (d - 1)) Q c12_2 [] st := by
  refine zrKeep he ?_
  unfold f12_l1_j2 at hS
  refine zrSeq ?_
  refine zrSplit 14 p19 (by kernel_rfl) (fun hc => ?_) (fun hc => ?_)
  · replace hS := cond_t hc hS
    refine zrCondT (by kernel_rfl) ?_
    refine zrSkip ?_
    refine zkSeq ?_
    exact f12_l1_j3_ok hd a1 a2 hQ p18 hS (by kernel_rfl)
  · replace hS := cond_f hc hS
    refine zrCondF (by kernel_rfl) ?_
    refine zrKeep (J := f12_l1_e0_J a1 a2) (by kernel_rfl) ?_
    refine zrExit ?_
    refine zkSeqX ?_
    refine zkNil ?_
    exact endQ hS hQ (finL_x (by intro h; cases h) (by show _ = _ ∧ _ = _; exact ⟨rfl, rfl⟩))
noncomputable def f12_l1 (a1 : List (List UInt8)) (a2 : List (List UInt8)) (x : Int) : Option (Int ⊕ (Unit ⊕ Bool)) := (bif (decide (x < (a1.length : Int))) then (f12_l1_j2 a1 a2 x true) else (f12_l1_j2 a1 a2 x false))
theorem f12_l1_ok {d : Nat} (hd : 1 ≤ d) (a1 : List (List UInt8)) (a2 : List (List UInt8)) {r : Int ⊕ (Unit ⊕ Bool)} {Q : PX → St → Prop} (hQ : ∀ e st', finL (f12_l1_H a1 a2) (f12_l1_X a1 a2) r e st' → Q e st') {x : Int} (hS : f12_l1 a1 a2 x = some r) {st : St} (he : f12_l1_H a1 a2 x st) : ZR (lev codes baseL (d - 1)) Q c12_3 [] st := by
  refine zrKeep he ?_
  unfold f12_l1 at hS
  refine zrSeq ?_
  refine zrReg ?_
  refine zlBool (d := 14) (op := (.cmpI .lss (.tmp 13) (.tmp 12))) (g := none) (j := 1) (decide (x < (a1.length : Int))) rfl (by kernel_rfl) (by kernel_rfl) (by kernel_rfl) (fun hc => ?_) (fun hc => ?_)
  · replace hS := cond_t hc hS
    refine zlEnd (by kernel_rfl) ?_
    refine zkSeq ?_
    exact f12_l1_j2_ok hd a1 a2 hQ x true hS (by kernel_rfl)
  · replace hS := cond_f hc hS
    refine zlEnd (by kernel_rfl) ?_
    refine zkSeq ?_
    exact f12_l1_j2_ok hd a1 a2 hQ x false hS (by kernel_rfl)
def f12_j0_J (a1 : List (List UInt8)) (a2 : List (List UInt8)) : St := ⟨(up (up (fun _ => .un) 1 (.d (.sl a2.length (eStr.cells a2)))) 0 (.d (.sl a1.length (eStr.cells a1)))), (hB fun _ => 0)⟩
noncomputable def f12_j0 (a1 : List (List UInt8)) (a2 : List (List UInt8)) : Option (Bool) := ((loopO (f12_l1 a1 a2) 0).bind fun z9 => (Sum.elim (fun z10 => (some true)) (fun z11 => (some z11)) z9))
theorem f12_j0_ok {d : Nat} (hd : 1 ≤ d) (a1 : List (List UInt8)) (a2 : List (List UInt8)) {r : Bool} {Q : PX → St → Prop} (hQ : ∀ e st', f12_Q r e st' → Q e st')  (hS : f12_j0 a1 a2 = some r) {st : St} (he : keepSt [0, 1] [] [] st = f12_j0_J a1 a2) : ZR (lev codes baseL (d - 1)) Q c12_4 [] st := by
  refine zrKeep he ?_
  unfold f12_j0 at hS
  refine zrSeq ?_
  refine zrSeq ?_
  refine zrReg ?_
  refine zlRun (n := 3) (j := 3) rfl (by kernel_rfl) ?_
  refine zlEnd (by kernel_rfl) ?_
  refine zkSeq ?_
  refine zrBlk ?_
  refine bindE hS (fun z9 hz9 hS => ?_)
  refine zrLoop (f12_l1_H a1 a2) (f12_l1_X a1 a2) (fun x st r Q h0 hS hQ => f12_l1_ok hd a1 a2 hQ hS h0) (x := 0) (z := z9) (by show keepSt _ _ _ _ = _; kernel_rfl) hz9 ?_
  rcases z9 with z10 | z11
  · replace hS := (show _ = _ from hS)
    simp only [Sum.elim_inl] at hS
    intro e st' _ hX
    obtain ⟨rfl, rfl⟩ : _ ∧ _ := hX
    refine zkBlkX ?_
    refine zkSeq ?_
    refine zrSeq ?_
    refine zrReg ?_
    refine zlRun (n := 1) (j := 1) rfl (by kernel_rfl) ?_
    refine zlEnd (by kernel_rfl) ?_
    refine zkSeq ?_
    refine zrRet ?_
    refine zkNil ?_
    exact endQ hS hQ (fRet ((congrArg (fun s => outR s 0 c12.res) (by kernel_rfl : finSt c12.fin _ = f12_fin true)).trans (f12_out true)))
  · simp only [Sum.elim_inr] at hS
    intro e st' _ hX
    obtain ⟨rfl, hX⟩ : _ ∧ _ := hX
    refine zkBlkR ?_
    refine zkSeqR ?_
    refine zkNil ?_
    exact endQ hS hQ (fRet ((congrArg (fun s => outR s 0 c12.res) hX).trans (f12_out z11)))
noncomputable def f12 (a1 : List (List UInt8)) (a2 : List (List UInt8)) : Option (Bool) := (bif (!decide ((a1.length : Int) = (a2.length : Int))) then (some false) else (f12_j0 a1 a2 ))
theorem f12_ok (d : Nat) (hd : 1 ≤ d) (a1 : List (List UInt8)) (a2 : List (List UInt8)) (r : Bool) (hS : f12 a1 a2 = some r) : lev codes baseL d 12 [(.d (.sl a1.length (eStr.cells a1))), (.d (.sl a2.length (eStr.cells a2)))] [] = some ((.d (.bool r)), []) := by
  refine lev_go codes12 rfl rfl (Nat.le_trans (Nat.le_of_ble_eq_true rfl) hd) fun Q hQ => ?_
  unfold f12 at hS
  show ZR _ Q c12_b [] _
  replace hQ : ∀ e st', f12_Q r e st' → Q e st' := hQ
  refine zrSeq ?_
  refine zrReg ?_
  refine zlRun (n := 1) (j := 1) rfl (by kernel_rfl) ?_
  refine zlEnd (by kernel_rfl) ?_
  refine zkSeq ?_
  refine zrSeq ?_
  refine zrSeq ?_
  refine zrReg ?_
  refine zlRun (n := 4) (j := 4) rfl (by kernel_rfl) ?_
  refine zlBool (d := 10) (op := (.cmpI .neq (.tmp 7) (.tmp 9))) (g := none) (j := 5) (!decide ((a1.length : Int) = (a2.length : Int))) rfl (by kernel_rfl) (by kernel_rfl) (by kernel_rfl) (fun hc => ?_) (fun hc => ?_)
  · replace hS := cond_t hc hS
    refine zlEnd (by kernel_rfl) ?_
    refine zkSeq ?_
    refine zrCondT (by kernel_rfl) ?_
    refine zrSeq ?_
    refine zrReg ?_
    refine zlRun (n := 1) (j := 1) rfl (by kernel_rfl) ?_
    refine zlEnd (by kernel_rfl) ?_
    refine zkSeq ?_
    refine zrRet ?_
    refine zkSeqR ?_
    refine zkNil ?_
    exact endQ hS hQ (fRet ((congrArg (fun s => outR s 0 c12.res) (by kernel_rfl : finSt c12.fin _ = f12_fin false)).trans (f12_out false)))
  · replace hS := cond_f hc hS
    refine zlEnd (by kernel_rfl) ?_
    refine zkSeq ?_
    refine zrCondF (by kernel_rfl) ?_
    refine zrSkip ?_
    refine zkSeq ?_
    exact f12_j0_ok hd a1 a2 hQ  hS (by kernel_rfl)
/- farwriter/farkeep.ChoiceWords -/
def f3_fin (p11 : Bool) : St := ⟨(up (fun _ => .un) 2 (.d (.bool p11))), (hB fun _ => 0)⟩
theorem f3_out (p11 : Bool) : outR (f3_fin p11) 0 c3.res = some ((.d (.bool p11)), []) := by
  kernel_rfl
def f3_Q (r : Bool) (e : PX) (st : St) : Prop := DoneF c3 0 ((.d (.bool r)), []) e st
def f3_j0_J (a1 : List (List UInt8)) (p19 : List UInt8) : St := ⟨(up (up (fun _ => .un) 3 (.d (.str p19))) 0 (.d (.sl a1.length (eStr.cells a1)))), (hB fun _ => 0)⟩
noncomputable def f3_j0 (a1 : List (List UInt8)) (p19 : List UInt8) : Option (Bool) := (bif (decide (2 < (p19.length : Int))) then ((idx p19 0).bind fun z15 => (bif (decide ((z15.toNat : Int) = 1)) then ((libJoin a1 []).bind fun z16 => ((sub? p19 1 2).bind fun z17 => ((libContains z16 z17).bind fun z18 => (bif (!z18) then ((sub? p19 2 (p19.length : Int)).bind fun z19 => ((sub? p19 1 2).bind fun z20 => ((libSplit z19 z20).bind fun z21 => ((f12 z21 a1).bind fun z22 => (some z22))))) else (some false))))) else (some false))) else (some false))
theorem f3_j0_ok {d : Nat} (hd : 7 ≤ d) (a1 : List (List UInt8)) {r : Bool} {Q : PX → St → Prop} (hQ : ∀ e st', f3_Q r e st' → Q e st') (p19 : List UInt8) (hS : f3_j0 a1 p19 = some r) {st : St} (he : keepSt [0, 3] [] [] st = f3_j0_J a1 p19) : ZR (lev codes baseL (d - 1)) Q c3_1 [] st := by
  refine zrKeep he ?_
  unfold f3_j0 at hS
  refine zrSeq ?_
  refine zrRegD ?_
  refine zdRun (n := 2) (j := 2) (ts := [[], []]) (acc' := [[], []]) rfl (by kernel_rfl) (by kernel_rfl) (by kernel_rfl) ?_
  refine zdBool (d := 31) (op := (.cmpI .gtr (.tmp 30) (.const (.int .i64 2)))) (g := none) (j := 3) (t1 := []) (acc' := [[], [], []]) (decide (2 < (p19.length : Int))) (by kernel_rfl) (by kernel_rfl) rfl (by kernel_rfl) (by kernel_rfl) (by kernel_rfl) (fun hc => ?_) (fun hc => ?_)
  · replace hS := cond_t hc hS
    refine zdRun (n := 2) (j := 5) (ts := [[], []]) (acc' := [[], [], [], [], []]) rfl (by kernel_rfl) (by kernel_rfl) (by kernel_rfl) ?_
    refine bindE hS (fun z15 hz15 hS => ?_)
    refine zdOp (d := some 34) (op := (.ixStr (.tmp 33) (.const (.int .i64 0)))) (g := (some (32, true))) (v := (.d (.int .u8 (z15.toNat : Int)))) (ups := []) (j := 6) (t1 := []) (acc' := [[], [], [], [], [], []]) (by kernel_rfl) (by kernel_rfl) rfl (by kernel_rfl) (by kernel_rfl) (ev_ixStr (kk := .i64) (s := p19) (j := 0) (by kernel_rfl) (by kernel_rfl) hz15) ?_
    refine zdBool (d := 35) (op := (.cmpI .eql (.tmp 34) (.const (.int .u8 1)))) (g := (some (32, true))) (j := 7) (t1 := []) (acc' := [[], [], [], [], [], [], []]) (decide ((z15.toNat : Int) = 1)) (by kernel_rfl) (by kernel_rfl) rfl (by kernel_rfl) (by kernel_rfl) (by kernel_rfl) (fun hc => ?_) (fun hc => ?_)
    · replace hS := cond_t hc hS
      refine zdRun (n := 3) (j := 10) (ts := [[], [], []]) (acc' := [[], [], [], [], [], [], [], [], [], []]) rfl (by kernel_rfl) (by kernel_rfl) (by kernel_rfl) ?_
      refine bindE hS (fun z16 hz16 hS => ?_)
      refine zdOp (d := some 39) (op := (.call 11 [(.tmp 38), (.const (.string ⟨#[]⟩))])) (g := (some (37, true))) (v := (.d (.str z16))) (ups := []) (j := 11) (t1 := [(320, true), (321, true), (322, true), (323, true), (324, true), (325, true), (326, true), (327, true)]) (acc' := [[], [], [], [], [], [], [], [], [], [], [(320, true), (321, true), (322, true), (323, true), (324, true), (325, true), (326, true), (327, true)]]) (by kernel_rfl) (by kernel_rfl) rfl (by kernel_rfl) (by kernel_rfl) (ev_call (args := [(.d (.sl a1.length (eStr.cells a1))), (.d (.str ([])))]) (l := [(.d (.sl a1.length (eStr.cells a1))), (.d (.str ([])))]) (r := (.d (.str z16))) (by kernel_rfl) (by kernel_rfl) (libJoin_ok (d - 1) (dpt hd rfl) a1 [] z16 hz16) (by kernel_rfl) (by kernel_rfl) (by kernel_rfl)) ?_
      refine zdRun (n := 1) (j := 12) (ts := [[]]) (acc' := [[], [], [], [], [], [], [], [], [], [], [(320, true), (321, true), (322, true), (323, true), (324, true), (325, true), (326, true), (327, true)], []]) rfl (by kernel_rfl) (by kernel_rfl) (by kernel_rfl) ?_
      refine bindE hS (fun z17 hz17 hS => ?_)
      refine zdOp (d := some 41) (op := (.slStr (.tmp 40) (.some (.const (.int .i64 1))) (.some (.const (.int .i64 2))))) (g := (some (37, true))) (v := (.d (.str z17))) (ups := []) (j := 13) (t1 := []) (acc' := [[], [], [], [], [], [], [], [], [], [], [(320, true), (321, true), (322, true), (323, true), (324, true), (325, true), (326, true), (327, true)], [], []]) (by kernel_rfl) (by kernel_rfl) rfl (by kernel_rfl) (by kernel_rfl) (ev_slStr (s := p19) (a := 1) (c := 2) (by kernel_rfl) (bnd_s _ (kk := .i64) (j := 1) (by kernel_rfl)) (bnd_s _ (kk := .i64) (j := 2) (by kernel_rfl)) hz17) ?_
      refine bindE hS (fun z18 hz18 hS => ?_)
      refine zdOp (d := some 42) (op := (.call 10 [(.tmp 39), (.tmp 41)])) (g := (some (37, true))) (v := (.d (.bool z18))) (ups := []) (j := 14) (t1 := [(344, true), (345, true), (346, true), (347, true), (348, true), (349, true), (350, true), (351, true)]) (acc' := [[], [], [], [], [], [], [], [], [], [], [(320, true), (321, true), (322, true), (323, true), (324, true), (325, true), (326, true), (327, true)], [], [], [(344, true), (345, true), (346, true), (347, true), (348, true), (349, true), (350, true), (351, true)]]) (by kernel_rfl) (by kernel_rfl) rfl (by kernel_rfl) (by kernel_rfl) (ev_call (args := [(.d (.str z16)), (.d (.str z17))]) (l := [(.d (.str z16)), (.d (.str z17))]) (r := (.d (.bool z18))) (by kernel_rfl) (by kernel_rfl) (libContains_ok (d - 1) (dpt hd rfl) z16 z17 z18 hz18) (by kernel_rfl) (by kernel_rfl) (by kernel_rfl)) ?_
      refine zdRun (n := 3) (j := 17) (ts := [[], [], []]) (acc' := [[], [], [], [], [], [], [], [], [], [], [(320, true), (321, true), (322, true), (323, true), (324, true), (325, true), (326, true), (327, true)], [], [], [(344, true), (345, true), (346, true), (347, true), (348, true), (349, true), (350, true), (351, true)], [], [], []]) rfl (by kernel_rfl) (by kernel_rfl) (by kernel_rfl) ?_
      refine zdSplit 45 (!z18) (by kernel_rfl) (fun hc => ?_) (fun hc => ?_)
      · replace hS := cond_t hc hS
        refine zdRun (n := 1) (j := 18) (ts := [[]]) (acc' := [[], [], [], [], [], [], [], [], [], [], [(320, true), (321, true), (322, true), (323, true), (324, true), (325, true), (326, true), (327, true)], [], [], [(344, true), (345, true), (346, true), (347, true), (348, true), (349, true), (350, true), (351, true)], [], [], [], []]) rfl (by kernel_rfl) (by kernel_rfl) (by kernel_rfl) ?_
        refine bindE hS (fun z19 hz19 hS => ?_)
        refine zdOp (d := some 47) (op := (.slStr (.tmp 46) (.some (.const (.int .i64 2))) .none)) (g := (some (45, true))) (v := (.d (.str z19))) (ups := []) (j := 19) (t1 := []) (acc' := [[], [], [], [], [], [], [], [], [], [], [(320, true), (321, true), (322, true), (323, true), (324, true), (325, true), (326, true), (327, true)], [], [], [(344, true), (345, true), (346, true), (347, true), (348, true), (349, true), (350, true), (351, true)], [], [], [], [], []]) (by kernel_rfl) (by kernel_rfl) rfl (by kernel_rfl) (by kernel_rfl) (ev_slStr (s := p19) (a := 2) (c := (p19.length : Int)) (by kernel_rfl) (bnd_s _ (kk := .i64) (j := 2) (by kernel_rfl)) (bnd_n _) hz19) ?_
        refine zdRun (n := 1) (j := 20) (ts := [[]]) (acc' := [[], [], [], [], [], [], [], [], [], [], [(320, true), (321, true), (322, true), (323, true), (324, true), (325, true), (326, true), (327, true)], [], [], [(344, true), (345, true), (346, true), (347, true), (348, true), (349, true), (350, true), (351, true)], [], [], [], [], [], []]) rfl (by kernel_rfl) (by kernel_rfl) (by kernel_rfl) ?_
        refine bindE hS (fun z20 hz20 hS => ?_)
        refine zdOp (d := some 49) (op := (.slStr (.tmp 48) (.some (.const (.int .i64 1))) (.some (.const (.int .i64 2))))) (g := (some (45, true))) (v := (.d (.str z20))) (ups := []) (j := 21) (t1 := []) (acc' := [[], [], [], [], [], [], [], [], [], [], [(320, true), (321, true), (322, true), (323, true), (324, true), (325, true), (326, true), (327, true)], [], [], [(344, true), (345, true), (346, true), (347, true), (348, true), (349, true), (350, true), (351, true)], [], [], [], [], [], [], []]) (by kernel_rfl) (by kernel_rfl) rfl (by kernel_rfl) (by kernel_rfl) (ev_slStr (s := p19) (a := 1) (c := 2) (by kernel_rfl) (bnd_s _ (kk := .i64) (j := 1) (by kernel_rfl)) (bnd_s _ (kk := .i64) (j := 2) (by kernel_rfl)) hz20) ?_
        refine bindE hS (fun z21 hz21 hS => ?_)
        refine zdOp (d := some 50) (op := (.call 13 [(.tmp 47), (.tmp 49)])) (g := (some (45, true))) (v := (.d (.sl z21.length (eStr.cells z21)))) (ups := []) (j := 22) (t1 := [(408, true), (409, true), (410, true), (411, true), (412, true), (413, true), (414, true), (415, true)]) (acc' := [[], [], [], [], [], [], [], [], [], [], [(320, true), (321, true), (322, true), (323, true), (324, true), (325, true), (326, true), (327, true)], [], [], [(344, true), (345, true), (346, true), (347, true), (348, true), (349, true), (350, true), (351, true)], [], [], [], [], [], [], [], [(408, true), (409, true), (410, true), (411, true), (412, true), (413, true), (414, true), (415, true)]]) (by kernel_rfl) (by kernel_rfl) rfl (by kernel_rfl) (by kernel_rfl) (ev_call (args := [(.d (.str z19)), (.d (.str z20))]) (l := [(.d (.str z19)), (.d (.str z20))]) (r := (.d (.sl z21.length (eStr.cells z21)))) (by kernel_rfl) (by kernel_rfl) (libSplit_ok (d - 1) (dpt hd rfl) z19 z20 z21 hz21) (by kernel_rfl) (by kernel_rfl) (by kernel_rfl)) ?_
        refine zdRun (n := 1) (j := 23) (ts := [[]]) (acc' := [[], [], [], [], [], [], [], [], [], [], [(320, true), (321, true), (322, true), (323, true), (324, true), (325, true), (326, true), (327, true)], [], [], [(344, true), (345, true), (346, true), (347, true), (348, true), (349, true), (350, true), (351, true)], [], [], [], [], [], [], [], [(408, true), (409, true), (410, true), (411, true), (412, true), (413, true), (414, true), (415, true)], []]) rfl (by kernel_rfl) (by kernel_rfl) (by kernel_rfl) ?_
        refine bindE hS (fun z22 hz22 hS => ?_)
        refine zdOp (d := some 52) (op := (.call 12 [(.tmp 50), (.tmp 51)])) (g := (some (45, true))) (v := (.d (.bool z22))) (ups := []) (j := 24) (t1 := [(424, true), (425, true), (426, true), (427, true), (428, true), (429, true), (430, true), (431, true)]) (acc' := [[], [], [], [], [], [], [], [], [], [], [(320, true), (321, true), (322, true), (323, true), (324, true), (325, true), (326, true), (327, true)], [], [], [(344, true), (345, true), (346, true), (347, true), (348, true), (349, true), (350, true), (351, true)], [], [], [], [], [], [], [], [(408, true), (409, true), (410, true), (411, true), (412, true), (413, true), (414, true), (415, true)], [], [(424, true), (425, true), (426, true), (427, true), (428, true), (429, true), (430, true), (431, true)]]) (by kernel_rfl) (by kernel_rfl) rfl (by kernel_rfl) (by kernel_rfl) (ev_call (args := [(.d (.sl z21.length (eStr.cells z21))), (.d (.sl a1.length (eStr.cells a1)))]) (l := [(.d (.sl z21.length (eStr.cells z21))), (.d (.sl a1.length (eStr.cells a1)))]) (r := (.d (.bool z22))) (by kernel_rfl) (by kernel_rfl) (f12_ok (d - 1) (dpt hd rfl) z21 a1 z22 hz22) (by kernel_rfl) (by kernel_rfl) (by kernel_rfl)) ?_
        refine zdRun (n := 2) (j := 26) (ts := [[], []]) (acc' := [[], [], [], [], [], [], [], [], [], [], [(320, true), (321, true), (322, true), (323, true), (324, true), (325, true), (326, true), (327, true)], [], [], [(344, true), (345, true), (346, true), (347, true), (348, true), (349, true), (350, true), (351, true)], [], [], [], [], [], [], [], [(408, true), (409, true), (410, true), (411, true), (412, true), (413, true), (414, true), (415, true)], [], [(424, true), (425, true), (426, true), (427, true), (428, true), (429, true), (430, true), (431, true)], [], []]) rfl (by kernel_rfl) (by kernel_rfl) (by kernel_rfl) ?_
        refine zdEnd (by kernel_rfl) (by kernel_rfl) ?_
        refine zkSeq ?_
        refine zrRet ?_
        refine zkNil ?_
        exact endQ hS hQ (fRet ((congrArg (fun s => outR s 0 c3.res) (by kernel_rfl : finSt c3.fin _ = f3_fin z22)).trans (f3_out z22)))
      · replace hS := cond_f hc hS
        refine zdRun (n := 9) (j := 26) (ts := [[], [], [], [], [], [], [], [], []]) (acc' := [[], [], [], [], [], [], [], [], [], [], [(320, true), (321, true), (322, true), (323, true), (324, true), (325, true), (326, true), (327, true)], [], [], [(344, true), (345, true), (346, true), (347, true), (348, true), (349, true), (350, true), (351, true)], [], [], [], [], [], [], [], [], [], [], [], []]) rfl (by kernel_rfl) (by kernel_rfl) (by kernel_rfl) ?_
        refine zdEnd (by kernel_rfl) (by kernel_rfl) ?_
        refine zkSeq ?_
        refine zrRet ?_
        refine zkNil ?_
        exact endQ hS hQ (fRet ((congrArg (fun s => outR s 0 c3.res) (by kernel_rfl : finSt c3.fin _ = f3_fin false)).trans (f3_out false)))
    · replace hS := cond_f hc hS
      refine zdRun (n := 19) (j := 26) (ts := [[], [], [], [], [], [], [], [], [], [], [], [], [], [], [], [], [], [], []]) (acc' := [[], [], [], [], [], [], [], [], [], [], [], [], [], [], [], [], [], [], [], [], [], [], [], [], [], []]) rfl (by kernel_rfl) (by kernel_rfl) (by kernel_rfl) ?_
      refine zdEnd (by kernel_rfl) (by kernel_rfl) ?_
      refine zkSeq ?_
      refine zrRet ?_
      refine zkNil ?_
      exact endQ hS hQ (fRet ((congrArg (fun s => outR s 0 c3.res) (by kernel_rfl : finSt c3.fin _ = f3_fin false)).trans (f3_out false)))
  · replace hS := cond_f hc hS
    refine zdRun (n := 23) (j := 26) (ts := [[], [], [], [], [], [], [], [], [], [], [], [], [], [], [], [], [], [], [], [], [], [], []]) (acc' := [[], [], [], [], [], [], [], [], [], [], [], [], [], [], [], [], [], [], [], [], [], [], [], [], [], []]) rfl (by kernel_rfl) (by kernel_rfl) (by kernel_rfl) ?_
    refine zdEnd (by kernel_rfl) (by kernel_rfl) ?_
    refine zkSeq ?_
    refine zrRet ?_
    refine zkNil ?_
    exact endQ hS hQ (fRet ((congrArg (fun s => outR s 0 c3.res) (by kernel_rfl : finSt c3.fin _ = f3_fin false)).trans (f3_out false)))
def f3_j1_J (a1 : List (List UInt8)) (p21 : Int) : St := ⟨(up (fun _ => .un) 4 (.d (.int .i64 p21))), (hB fun _ => 0)⟩
noncomputable def f3_j1 (a1 : List (List UInt8)) (p21 : Int) : Option (Bool) := (f9.bind fun z24 => (bif z24 then (bif (decide (p21 = 1)) then (some true) else (bif (decide (p21 = 4)) then (some true) else (bif (decide (p21 = 5)) then (some true) else (some false)))) else (some false)))
theorem f3_j1_ok {d : Nat} (hd : 7 ≤ d) (a1 : List (List UInt8)) {r : Bool} {Q : PX → St → Prop} (hQ : ∀ e st', f3_Q r e st' → Q e st') (p21 : Int) (hS : f3_j1 a1 p21 = some r) {st : St} (he : keepSt [4] [] [] st = f3_j1_J a1 p21) : ZR (lev codes baseL (d - 1)) Q c3_2 [.seq c3_1] st := by
  refine zrKeep he ?_
  unfold f3_j1 at hS
  refine zrSeq ?_
  refine zrReg ?_
  refine bindE hS (fun z24 hz24 hS => ?_)
  refine zlOp (d := some 16) (op := (.call 9 [])) (g := none) (v := (.d (.bool z24))) (ups := []) (j := 1) rfl (by kernel_rfl) (by kernel_rfl) (ev_call (args := []) (l := []) (r := (.d (.bool z24))) (by kernel_rfl) (by kernel_rfl) (f9_ok (d - 1) (dpt hd rfl)  z24 hz24) (by kernel_rfl) (by kernel_rfl) (by kernel_rfl)) ?_
  refine zlRun (n := 1) (j := 2) rfl (by kernel_rfl) ?_
  refine zlSplit 17 z24 (by kernel_rfl) (fun hc => ?_) (fun hc => ?_)
  · replace hS := cond_t hc hS
    refine zlRun (n := 1) (j := 3) rfl (by kernel_rfl) ?_
    refine zlBool (d := 19) (op := (.cmpI .eql (.tmp 18) (.const (.int .i64 1)))) (g := (some (17, true))) (j := 4) (decide (p21 = 1)) rfl (by kernel_rfl) (by kernel_rfl) (by kernel_rfl) (fun hc => ?_) (fun hc => ?_)
    · replace hS := cond_t hc hS
      refine zlRun (n := 10) (j := 14) rfl (by kernel_rfl) ?_
      refine zlEnd (by kernel_rfl) ?_
      refine zkSeq ?_
      refine zrRet ?_
      refine zkSeqR ?_
      refine zkNil ?_
      exact endQ hS hQ (fRet ((congrArg (fun s => outR s 0 c3.res) (by kernel_rfl : finSt c3.fin _ = f3_fin true)).trans (f3_out true)))
    · replace hS := cond_f hc hS
      refine zlRun (n := 2) (j := 6) rfl (by kernel_rfl) ?_
      refine zlBool (d := 22) (op := (.cmpI .eql (.tmp 21) (.const (.int .i64 4)))) (g := (some (20, false))) (j := 7) (decide (p21 = 4)) rfl (by kernel_rfl) (by kernel_rfl) (by kernel_rfl) (fun hc => ?_) (fun hc => ?_)
      · replace hS := cond_t hc hS
        refine zlRun (n := 7) (j := 14) rfl (by kernel_rfl) ?_
        refine zlEnd (by kernel_rfl) ?_
        refine zkSeq ?_
        refine zrRet ?_
        refine zkSeqR ?_
        refine zkNil ?_
        exact endQ hS hQ (fRet ((congrArg (fun s => outR s 0 c3.res) (by kernel_rfl : finSt c3.fin _ = f3_fin true)).trans (f3_out true)))
      · replace hS := cond_f hc hS
        refine zlRun (n := 3) (j := 10) rfl (by kernel_rfl) ?_
        refine zlBool (d := 26) (op := (.cmpI .eql (.tmp 25) (.const (.int .i64 5)))) (g := (some (24, false))) (j := 11) (decide (p21 = 5)) rfl (by kernel_rfl) (by kernel_rfl) (by kernel_rfl) (fun hc => ?_) (fun hc => ?_)
        · replace hS := cond_t hc hS
          refine zlRun (n := 3) (j := 14) rfl (by kernel_rfl) ?_
          refine zlEnd (by kernel_rfl) ?_
          refine zkSeq ?_
          refine zrRet ?_
          refine zkSeqR ?_
          refine zkNil ?_
          exact endQ hS hQ (fRet ((congrArg (fun s => outR s 0 c3.res) (by kernel_rfl : finSt c3.fin _ = f3_fin true)).trans (f3_out true)))
        · replace hS := cond_f hc hS
          refine zlRun (n := 3) (j := 14) rfl (by kernel_rfl) ?_
          refine zlEnd (by kernel_rfl) ?_
          refine zkSeq ?_
          refine zrRet ?_
          refine zkSeqR ?_
          refine zkNil ?_
          exact endQ hS hQ (fRet ((congrArg (fun s => outR s 0 c3.res) (by kernel_rfl : finSt c3.fin _ = f3_fin false)).trans (f3_out false)))
  · replace hS := cond_f hc hS
    refine zlRun (n := 12) (j := 14) rfl (by kernel_rfl) ?_
    refine zlEnd (by kernel_rfl) ?_
    refine zkSeq ?_
    refine zrRet ?_
    refine zkSeqR ?_
    refine zkNil ?_
    exact endQ hS hQ (fRet ((congrArg (fun s => outR s 0 c3.res) (by kernel_rfl : finSt c3.fin _ = f3_fin false)).trans (f3_out false)))
noncomputable def f3 (a1 : List (List UInt8)) : Option (Bool) := ((f8 a1).bind fun z12 => (f9.bind fun z25 => (bif (!z25) then (f3_j1 a1 z12.2) else (bif (!decide (z12.2 = 0)) then (f3_j1 a1 z12.2) else (f3_j0 a1 z12.1)))))
theorem f3_ok (d : Nat) (hd : 7 ≤ d) (a1 : List (List UInt8)) (r : Bool) (hS : f3 a1 = some r) : lev codes baseL d 3 [(.d (.sl a1.length (eStr.cells a1)))] [] = some ((.d (.bool r)), []) := by
  refine lev_go codes3 rfl rfl (Nat.le_trans (Nat.le_of_ble_eq_true rfl) hd) fun Q hQ => ?_
  unfold f3 at hS
  show ZR _ Q c3_b [] _
  replace hQ : ∀ e st', f3_Q r e st' → Q e st' := hQ
  refine zrSeq ?_
  refine zrReg ?_
  refine zlRun (n := 1) (j := 1) rfl (by kernel_rfl) ?_
  refine zlEnd (by kernel_rfl) ?_
  refine zkSeq ?_
  refine zrSeq ?_
  refine zrReg ?_
  refine zlRun (n := 1) (j := 1) rfl (by kernel_rfl) ?_
  refine bindE hS (fun z12 hz12 hS => ?_)
  refine zlOp (d := some 7) (op := (.call 8 [(.tmp 6)])) (g := none) (v := (.tup [(.d (.str z12.1)), (.d (.int .i64 z12.2))])) (ups := []) (j := 2) rfl (by kernel_rfl) (by kernel_rfl) (ev_call (args := [(.d (.sl a1.length (eStr.cells a1)))]) (l := [(.d (.sl a1.length (eStr.cells a1)))]) (r := (.tup [(.d (.str z12.1)), (.d (.int .i64 z12.2))])) (by kernel_rfl) (by kernel_rfl) (f8_ok (d - 1) (dpt hd rfl) a1 z12 hz12) (by kernel_rfl) (by kernel_rfl) (by kernel_rfl)) ?_
  refine zlRun (n := 5) (j := 7) rfl (by kernel_rfl) ?_
  refine zlEnd (by kernel_rfl) ?_
  refine zkSeq ?_
  refine zrSeq ?_
  refine zrSeq ?_
  refine zrReg ?_
  refine bindE hS (fun z25 hz25 hS => ?_)
  refine zlOp (d := some 10) (op := (.call 9 [])) (g := none) (v := (.d (.bool z25))) (ups := []) (j := 1) rfl (by kernel_rfl) (by kernel_rfl) (ev_call (args := []) (l := []) (r := (.d (.bool z25))) (by kernel_rfl) (by kernel_rfl) (f9_ok (d - 1) (dpt hd rfl)  z25 hz25) (by kernel_rfl) (by kernel_rfl) (by kernel_rfl)) ?_
  refine zlRun (n := 2) (j := 3) rfl (by kernel_rfl) ?_
  refine zlSplit 12 (!z25) (by kernel_rfl) (fun hc => ?_) (fun hc => ?_)
  · replace hS := cond_t hc hS
    refine zlRun (n := 3) (j := 6) rfl (by kernel_rfl) ?_
    refine zlEnd (by kernel_rfl) ?_
    refine zkSeq ?_
    refine zrCondT (by kernel_rfl) ?_
    exact f3_j1_ok hd a1 hQ z12.2 hS (by kernel_rfl)
  · replace hS := cond_f hc hS
    refine zlRun (n := 1) (j := 4) rfl (by kernel_rfl) ?_
    refine zlBool (d := 14) (op := (.cmpI .neq (.tmp 13) (.const (.int .i64 0)))) (g := (some (12, false))) (j := 5) (!decide (z12.2 = 0)) rfl (by kernel_rfl) (by kernel_rfl) (by kernel_rfl) (fun hc => ?_) (fun hc => ?_)
    · replace hS := cond_t hc hS
      refine zlRun (n := 1) (j := 6) rfl (by kernel_rfl) ?_
      refine zlEnd (by kernel_rfl) ?_
      refine zkSeq ?_
      refine zrCondT (by kernel_rfl) ?_
      exact f3_j1_ok hd a1 hQ z12.2 hS (by kernel_rfl)
    · replace hS := cond_f hc hS
      refine zlRun (n := 1) (j := 6) rfl (by kernel_rfl) ?_
      refine zlEnd (by kernel_rfl) ?_
      refine zkSeq ?_
      refine zrCondF (by kernel_rfl) ?_
      refine zrSkip ?_
      refine zkSeq ?_
      exact f3_j0_ok hd a1 hQ z12.1 hS (by kernel_rfl)
/- farwriter/choice.Told -/
def f15_fin (p19 : List UInt8) (p20 : Int) : St := ⟨(up (up (fun _ => .un) 5 (.d (.int .i64 p20))) 4 (.d (.str p19))), (hB fun _ => 0)⟩
theorem f15_out (p19 : List UInt8) (p20 : Int) : outR (f15_fin p19 p20) 0 c15.res = some ((.tup [(.d (.str p19)), (.d (.int .i64 p20))]), []) := by
  kernel_rfl
def f15_Q (r : (List UInt8) × Int) (e : PX) (st : St) : Prop := DoneF c15 0 ((.tup [(.d (.str r.1)), (.d (.int .i64 r.2))]), []) e st
def f15_l1_J (a1 : List (List UInt8)) (a2 : List UInt8) (x : Int) : St := ⟨(up (up (up (up (fun _ => .un) 24 (.d (.int .i64 x))) 23 (.d (.int .i64 (a1.length : Int)))) 22 (.d (.sl a1.length (eStr.cells a1)))) 1 (.d (.str a2))), (hB fun _ => 0)⟩
def f15_l1_H (a1 : List (List UInt8)) (a2 : List UInt8) (x : Int) (st : St) : Prop := keepSt [1, 22, 23, 24] [] [] st = f15_l1_J a1 a2 x
def f15_l1_e0_J (a1 : List (List UInt8)) (a2 : List UInt8) : St := ⟨(fun _ => .un), (hB fun _ => 0)⟩
def f15_l1_X (a1 : List (List UInt8)) (a2 : List UInt8) (z : Unit ⊕ ((List UInt8) × Int)) (e : PX) (st : St) : Prop := (match z with | .inl z => e = .exit 0 ∧ st = f15_l1_e0_J a1 a2 | .inr z => e = .ret ∧ finSt c15.fin st = f15_fin z.1 z.2)
def f15_l1_j3_J (a1 : List (List UInt8)) (a2 : List UInt8) (p27 : Int) : St := ⟨(up (up (up (up (fun _ => .un) 24 (.d (.int .i64 p27))) 23 (.d (.int .i64 (a1.length : Int)))) 22 (.d (.sl a1.length (eStr.cells a1)))) 1 (.d (.str a2))), (hB fun _ => 0)⟩
noncomputable def f15_l1_j3 (a1 : List (List UInt8)) (a2 : List UInt8) (p27 : Int) : Option (Int ⊕ (Unit ⊕ ((List UInt8) × Int))) := ((idx a1 p27).bind fun z18 => ((f32 z18).bind fun z19 => ((sub? a2 1 (a2.length : Int)).bind fun z20 => ((f32 z20).bind fun z21 => (bif (decide (z19 = z21)) then (some (.inr (.inr (z18, 0)))) else (some (.inl (IntKind.i64.wrap (p27 + 1)))))))))
theorem f15_l1_j3_ok {d : Nat} (hd : 2 ≤ d) (a1 : List (List UInt8)) (a2 : List UInt8) {r : Int ⊕ (Unit ⊕ ((List UInt8) × Int))} {Q : PX → St → Prop} (hQ : ∀ e st', finL (f15_l1_H a1 a2) (f15_l1_X a1 a2) r e st' → Q e st') (p27 : Int) (hS : f15_l1_j3 a1 a2 p27 = some r) {st : St} (he : keepSt [1, 22, 23, 24] [] [] st = f15_l1_j3_J a1 a2 p27) : ZR (lev codes baseL (d - 1)) Q c15_1 [] st := by
  refine zrKeep he ?_
  unfold f15_l1_j3 at hS
  refine zrSeq ?_
  refine zrBlk ?_
  refine zrSeq ?_
  refine zrReg ?_
  refine bindE hS (fun z18 hz18 hS => ?_)
  refine zlOp (d := some 26) (op := (.ixS 9 1 (.tmp 22) (.tmp 24))) (g := none) (v := (.rptr (eStr.enc z18 ++ (eStr.cells (a1.drop ((p27 : Int).toNat + 1)))))) (ups := []) (j := 1) rfl (by kernel_rfl) (by kernel_rfl) (ev_ixS eStr (kk := .i64) (xs := a1) (j := p27) (by kernel_rfl) (by kernel_rfl) hz18 rfl (by intro h; cases h)) ?_
  refine zlRun (n := 2) (j := 3) rfl (by kernel_rfl) ?_
  refine zlEnd (by kernel_rfl) ?_
  refine zkSeq ?_
  refine zrSeq ?_
  refine zrRegD ?_
  refine zdRun (n := 1) (j := 1) (ts := [[]]) (acc' := [[]]) rfl (by kernel_rfl) (by kernel_rfl) (by kernel_rfl) ?_
  refine bindE hS (fun z19 hz19 hS => ?_)
  refine zdOp (d := some 29) (op := (.call 32 [(.tmp 28)])) (g := none) (v := (.d (.str z19))) (ups := []) (j := 2) (t1 := [(240, true), (241, true), (242, true), (243, true), (244, true), (245, true), (246, true), (247, true)]) (acc' := [[], [(240, true), (241, true), (242, true), (243, true), (244, true), (245, true), (246, true), (247, true)]]) (by kernel_rfl) (by kernel_rfl) rfl (by kernel_rfl) (by kernel_rfl) (ev_call (args := [(.d (.str z18))]) (l := [(.d (.str z18))]) (r := (.d (.str z19))) (by kernel_rfl) (by kernel_rfl) (f32_ok (d - 1) (dpt hd rfl) z18 z19 hz19) (by kernel_rfl) (by kernel_rfl) (by kernel_rfl)) ?_
  refine zdRun (n := 1) (j := 3) (ts := [[]]) (acc' := [[], [(240, true), (241, true), (242, true), (243, true), (244, true), (245, true), (246, true), (247, true)], []]) rfl (by kernel_rfl) (by kernel_rfl) (by kernel_rfl) ?_
  refine bindE hS (fun z20 hz20 hS => ?_)
  refine zdOp (d := some 31) (op := (.slStr (.tmp 30) (.some (.const (.int .i64 1))) .none)) (g := none) (v := (.d (.str z20))) (ups := []) (j := 4) (t1 := []) (acc' := [[], [(240, true), (241, true), (242, true), (243, true), (244, true), (245, true), (246, true), (247, true)], [], []]) (by kernel_rfl) (by kernel_rfl) rfl (by kernel_rfl) (by kernel_rfl) (ev_slStr (s := a2) (a := 1) (c := (a2.length : Int)) (by kernel_rfl) (bnd_s _ (kk := .i64) (j := 1) (by kernel_rfl)) (bnd_n _) hz20) ?_
  refine bindE hS (fun z21 hz21 hS => ?_)
  refine zdOp (d := some 32) (op := (.call 32 [(.tmp 31)])) (g := none) (v := (.d (.str z21))) (ups := []) (j := 5) (t1 := [(264, true), (265, true), (266, true), (267, true), (268, true), (269, true), (270, true), (271, true)]) (acc' := [[], [(240, true), (241, true), (242, true), (243, true), (244, true), (245, true), (246, true), (247, true)], [], [], [(264, true), (265, true), (266, true), (267, true), (268, true), (269, true), (270, true), (271, true)]]) (by kernel_rfl) (by kernel_rfl) rfl (by kernel_rfl) (by kernel_rfl) (ev_call (args := [(.d (.str z20))]) (l := [(.d (.str z20))]) (r := (.d (.str z21))) (by kernel_rfl) (by kernel_rfl) (f32_ok (d - 1) (dpt hd rfl) z20 z21 hz21) (by kernel_rfl) (by kernel_rfl) (by kernel_rfl)) ?_
  refine zdBool (d := 33) (op := (.strO .eql (.tmp 29) (.tmp 32))) (g := none) (j := 6) (t1 := []) (acc' := [[], [(240, true), (241, true), (242, true), (243, true), (244, true), (245, true), (246, true), (247, true)], [], [], [(264, true), (265, true), (266, true), (267, true), (268, true), (269, true), (270, true), (271, true)], []]) (decide (z19 = z21)) (by kernel_rfl) (by kernel_rfl) rfl (by kernel_rfl) (by kernel_rfl) (by kernel_rfl) (fun hc => ?_) (fun hc => ?_)
  · replace hS := cond_t hc hS
    refine zdEnd (by kernel_rfl) (by kernel_rfl) ?_
    refine zkSeq ?_
    refine zrCondT (by kernel_rfl) ?_
    refine zrSeq ?_
    refine zrReg ?_
    refine zlRun (n := 3) (j := 3) rfl (by kernel_rfl) ?_
    refine zlEnd (by kernel_rfl) ?_
    refine zkSeq ?_
    refine zrRet ?_
    refine zkBlkR ?_
    refine zkSeqR ?_
    refine zkNil ?_
    exact endQ hS hQ (finL_x (by intro h; cases h) (by show _ = _ ∧ _ = _; exact ⟨rfl, by kernel_rfl⟩))
  · replace hS := cond_f hc hS
    refine zdEnd (by kernel_rfl) (by kernel_rfl) ?_
    refine zkSeq ?_
    refine zrCondF (by kernel_rfl) ?_
    refine zrSkip ?_
    refine zkBlk ?_
    refine zkSeq ?_
    refine zrReg ?_
    refine zlRun (n := 2) (j := 2) rfl (by kernel_rfl) ?_
    refine zlEnd (by kernel_rfl) ?_
    refine zkNil ?_
    exact endQ hS hQ (finL_n (by show keepSt _ _ _ _ = _; kernel_rfl))
def f15_l1_j2_J (a1 : List (List UInt8)) (a2 : List UInt8) (p25 : Int) (p26 : Bool) : St := ⟨(up (up (up (up (up (fun _ => .un) 25 (.d (.bool p26))) 24 (.d (.int .i64 p25))) 23 (.d (.int .i64 (a1.length : Int)))) 22 (.d (.sl a1.length (eStr.cells a1)))) 1 (.d (.str a2))), (hB fun _ => 0)⟩
noncomputable def f15_l1_j2 (a1 : List (List UInt8)) (a2 : List UInt8) (p25 : Int) (p26 : Bool) : Option (Int ⊕ (Unit ⊕ ((List UInt8) × Int))) := (bif p26 then (f15_l1_j3 a1 a2 p25) else (some (.inr (.inl ()))))
theorem f15_l1_j2_ok {d : Nat} (hd : 2 ≤ d) (a1 : List (List UInt8)) (a2 : List UInt8) {r : Int ⊕ (Unit ⊕ ((List UInt8) × Int))} {Q : PX → St → Prop} (hQ : ∀ e st', finL (f15_l1_H a1 a2) (f15_l1_X a1 a2) r e st' → Q e st') (p25 : Int) (p26 : Bool) (hS : f15_l1_j2 a1 a2 p25 p26 = some r) {st : St} (he : keepSt [1, 22, 23, 24, 25] [] [] st = f15_l1_j2_J a1 a2 p25 p26) : ZR (lev codes baseL (d - 1)) Q c15_2 [] st := by
  refine zrKeep he ?_
  unfold f15_l1_j2 at hS
  refine zrSeq ?_
  refine zrSplit 25 p26 (by kernel_rfl) (fun hc => ?_) (fun hc => ?_)
  · replace hS := cond_t hc hS
    refine zrCondT (by kernel_rfl) ?_
    refine zrSkip ?_
    refine zkSeq ?_
    exact f15_l1_j3_ok hd a1 a2 hQ p25 hS (by kernel_rfl)
  · replace hS := cond_f hc hS
    refine zrCondF (by kernel_rfl) ?_
    refine zrKeep (J := f15_l1_e0_J a1 a2) (by kernel_rfl) ?_
    refine zrExit ?_
    refine zkSeqX ?_
    refine zkNil ?_
    exact endQ hS hQ (finL_x (by intro h; cases h) (by show _ = _ ∧ _ = _; exact ⟨rfl, rfl⟩))
noncomputable def f15_l1 (a1 : List (List UInt8)) (a2 : List UInt8) (x : Int) : Option (Int ⊕ (Unit ⊕ ((List UInt8) × Int))) := (bif (decide (x < (a1.length : Int))) then (f15_l1_j2 a1 a2 x true) else (f15_l1_j2 a1 a2 x false))
theorem f15_l1_ok {d : Nat} (hd : 2 ≤ d) (a1 : List (List UInt8)) (a2 : List UInt8) {r : Int ⊕ (Unit ⊕ ((List UInt8) × Int))} {Q : PX → St → Prop} (hQ : ∀ e st', finL (f15_l1_H a1 a2) (f15_l1_X a1 a2) r e st' → Q e st') {x : Int} (hS : f15_l1 a1 a2 x = some r) {st : St} (he : f15_l1_H a1 a2 x st) : ZR (lev codes baseL (d - 1)) Q c15_3 [] st := by
  refine zrKeep he ?_
  unfold f15_l1 at hS
  refine zrSeq ?_
  refine zrReg ?_
  refine zlBool (d := 25) (op := (.cmpI .lss (.tmp 24) (.tmp 23))) (g := none) (j := 1) (decide (x < (a1.length : Int))) rfl (by kernel_rfl) (by kernel_rfl) (by kernel_rfl) (fun hc => ?_) (fun hc => ?_)
  · replace hS := cond_t hc hS
    refine zlEnd (by kernel_rfl) ?_
    refine zkSeq ?_
    exact f15_l1_j2_ok hd a1 a2 hQ x true hS (by kernel_rfl)
  · replace hS := cond_f hc hS
    refine zlEnd (by kernel_rfl) ?_
    refine zkSeq ?_
    exact f15_l1_j2_ok hd a1 a2 hQ x false hS (by kernel_rfl)
def f15_j0_J (a1 : List (List UInt8)) (a2 : List UInt8) : St := ⟨(up (up (fun _ => .un) 1 (.d (.str a2))) 0 (.d (.sl a1.length (eStr.cells a1)))), (hB fun _ => 0)⟩
noncomputable def f15_j0 (a1 : List (List UInt8)) (a2 : List UInt8) : Option ((List UInt8) × Int) := ((idx a2 0).bind fun z17 => (bif (decide ((z17.toNat : Int) = 2)) then ((loopO (f15_l1 a1 a2) 0).bind fun z22 => (Sum.elim (fun z23 => (some ([], 6))) (fun z24 => (some (z24.1, z24.2))) z22)) else (some ([], 6))))
theorem f15_j0_ok {d : Nat} (hd : 2 ≤ d) (a1 : List (List UInt8)) (a2 : List UInt8) {r : (List UInt8) × Int} {Q : PX → St → Prop} (hQ : ∀ e st', f15_Q r e st' → Q e st')  (hS : f15_j0 a1 a2 = some r) {st : St} (he : keepSt [0, 1] [] [] st = f15_j0_J a1 a2) : ZR (lev codes baseL (d - 1)) Q c15_4 [] st := by
  refine zrKeep he ?_
  unfold f15_j0 at hS
  refine zrSeq ?_
  refine zrSeq ?_
  refine zrReg ?_
  refine zlRun (n := 1) (j := 1) rfl (by kernel_rfl) ?_
  refine bindE hS (fun z17 hz17 hS => ?_)
  refine zlOp (d := some 20) (op := (.ixStr (.tmp 19) (.const (.int .i64 0)))) (g := none) (v := (.d (.int .u8 (z17.toNat : Int)))) (ups := []) (j := 2) rfl (by kernel_rfl) (by kernel_rfl) (ev_ixStr (kk := .i64) (s := a2) (j := 0) (by kernel_rfl) (by kernel_rfl) hz17) ?_
  refine zlBool (d := 21) (op := (.cmpI .eql (.tmp 20) (.const (.int .u8 2)))) (g := none) (j := 3) (decide ((z17.toNat : Int) = 2)) rfl (by kernel_rfl) (by kernel_rfl) (by kernel_rfl) (fun hc => ?_) (fun hc => ?_)
  · replace hS := cond_t hc hS
    refine zlEnd (by kernel_rfl) ?_
    refine zkSeq ?_
    refine zrCondT (by kernel_rfl) ?_
    refine zrSeq ?_
    refine zrReg ?_
    refine zlRun (n := 3) (j := 3) rfl (by kernel_rfl) ?_
    refine zlEnd (by kernel_rfl) ?_
    refine zkSeq ?_
    refine zrBlk ?_
    refine bindE hS (fun z22 hz22 hS => ?_)
    refine zrLoop (f15_l1_H a1 a2) (f15_l1_X a1 a2) (fun x st r Q h0 hS hQ => f15_l1_ok hd a1 a2 hQ hS h0) (x := 0) (z := z22) (by show keepSt _ _ _ _ = _; kernel_rfl) hz22 ?_
    rcases z22 with z23 | z24
    · replace hS := (show _ = _ from hS)
      simp only [Sum.elim_inl] at hS
      intro e st' _ hX
      obtain ⟨rfl, rfl⟩ : _ ∧ _ := hX
      refine zkBlkX ?_
      refine zkSeq ?_
      refine zrSeq ?_
      refine zrReg ?_
      refine zlRun (n := 2) (j := 2) rfl (by kernel_rfl) ?_
      refine zlEnd (by kernel_rfl) ?_
      refine zkSeq ?_
      refine zrRet ?_
      refine zkNil ?_
      exact endQ hS hQ (fRet ((congrArg (fun s => outR s 0 c15.res) (by kernel_rfl : finSt c15.fin _ = f15_fin [] 6)).trans (f15_out [] 6)))
    · simp only [Sum.elim_inr] at hS
      intro e st' _ hX
      obtain ⟨rfl, hX⟩ : _ ∧ _ := hX
      refine zkBlkR ?_
      refine zkSeqR ?_
      refine zkNil ?_
      exact endQ hS hQ (fRet ((congrArg (fun s => outR s 0 c15.res) hX).trans (f15_out z24.1 z24.2)))
  · replace hS := cond_f hc hS
    refine zlEnd (by kernel_rfl) ?_
    refine zkSeq ?_
    refine zrCondF (by kernel_rfl) ?_
    refine zrSkip ?_
    refine zkSeq ?_
    refine zrSeq ?_
    refine zrReg ?_
    refine zlRun (n := 2) (j := 2) rfl (by kernel_rfl) ?_
    refine zlEnd (by kernel_rfl) ?_
    refine zkSeq ?_
    refine zrRet ?_
    refine zkNil ?_
    exact endQ hS hQ (fRet ((congrArg (fun s => outR s 0 c15.res) (by kernel_rfl : finSt c15.fin _ = f15_fin [] 6)).trans (f15_out [] 6)))
noncomputable def f15 (a1 : List (List UInt8)) (a2 : List UInt8) : Option ((List UInt8) × Int) := (bif (decide (a2 = ([] : List UInt8))) then (some ([], 4)) else ((idx a2 0).bind fun z25 => (bif (!decide ((z25.toNat : Int) = 2)) then (bif (!decide (a2 = ([3] : List UInt8))) then (some ([], 4)) else (f15_j0 a1 a2 )) else (f15_j0 a1 a2 ))))
theorem f15_ok (d : Nat) (hd : 2 ≤ d) (a1 : List (List UInt8)) (a2 : List UInt8) (r : (List UInt8) × Int) (hS : f15 a1 a2 = some r) : lev codes baseL d 15 [(.d (.sl a1.length (eStr.cells a1))), (.d (.str a2))] [] = some ((.tup [(.d (.str r.1)), (.d (.int .i64 r.2))]), []) := by
  refine lev_go codes15 rfl rfl (Nat.le_trans (Nat.le_of_ble_eq_true rfl) hd) fun Q hQ => ?_
  unfold f15 at hS
  show ZR _ Q c15_b [] _
  replace hQ : ∀ e st', f15_Q r e st' → Q e st' := hQ
  refine zrSeq ?_
  refine zrReg ?_
  refine zlRun (n := 2) (j := 2) rfl (by kernel_rfl) ?_
  refine zlEnd (by kernel_rfl) ?_
  refine zkSeq ?_
  refine zrSeq ?_
  refine zrSeq ?_
  refine zrReg ?_
  refine zlRun (n := 1) (j := 1) rfl (by kernel_rfl) ?_
  refine zlBool (d := 9) (op := (.strO .eql (.tmp 8) (.const (.string ⟨#[]⟩)))) (g := none) (j := 2) (decide (a2 = ([] : List UInt8))) rfl (by kernel_rfl) (by kernel_rfl) (by kernel_rfl) (fun hc => ?_) (fun hc => ?_)
  · replace hS := cond_t hc hS
    refine zlRun (n := 9) (j := 11) rfl (by kernel_rfl) ?_
    refine zlEnd (by kernel_rfl) ?_
    refine zkSeq ?_
    refine zrCondT (by kernel_rfl) ?_
    refine zrSeq ?_
    refine zrReg ?_
    refine zlRun (n := 2) (j := 2) rfl (by kernel_rfl) ?_
    refine zlEnd (by kernel_rfl) ?_
    refine zkSeq ?_
    refine zrRet ?_
    refine zkSeqR ?_
    refine zkNil ?_
    exact endQ hS hQ (fRet ((congrArg (fun s => outR s 0 c15.res) (by kernel_rfl : finSt c15.fin _ = f15_fin [] 4)).trans (f15_out [] 4)))
  · replace hS := cond_f hc hS
    refine zlRun (n := 2) (j := 4) rfl (by kernel_rfl) ?_
    refine bindE hS (fun z25 hz25 hS => ?_)
    refine zlOp (d := some 12) (op := (.ixStr (.tmp 11) (.const (.int .i64 0)))) (g := (some (10, false))) (v := (.d (.int .u8 (z25.toNat : Int)))) (ups := []) (j := 5) rfl (by kernel_rfl) (by kernel_rfl) (ev_ixStr (kk := .i64) (s := a2) (j := 0) (by kernel_rfl) (by kernel_rfl) hz25) ?_
    refine zlBool (d := 13) (op := (.cmpI .neq (.tmp 12) (.const (.int .u8 2)))) (g := (some (10, false))) (j := 6) (!decide ((z25.toNat : Int) = 2)) rfl (by kernel_rfl) (by kernel_rfl) (by kernel_rfl) (fun hc => ?_) (fun hc => ?_)
    · replace hS := cond_t hc hS
      refine zlRun (n := 2) (j := 8) rfl (by kernel_rfl) ?_
      refine zlBool (d := 16) (op := (.strO .neq (.tmp 15) (.const (.string ⟨#[3]⟩)))) (g := (some (14, true))) (j := 9) (!decide (a2 = ([3] : List UInt8))) rfl (by kernel_rfl) (by kernel_rfl) (by kernel_rfl) (fun hc => ?_) (fun hc => ?_)
      · replace hS := cond_t hc hS
        refine zlRun (n := 2) (j := 11) rfl (by kernel_rfl) ?_
        refine zlEnd (by kernel_rfl) ?_
        refine zkSeq ?_
        refine zrCondT (by kernel_rfl) ?_
        refine zrSeq ?_
        refine zrReg ?_
        refine zlRun (n := 2) (j := 2) rfl (by kernel_rfl) ?_
        refine zlEnd (by kernel_rfl) ?_
        refine zkSeq ?_
        refine zrRet ?_
        refine zkSeqR ?_
        refine zkNil ?_
        exact endQ hS hQ (fRet ((congrArg (fun s => outR s 0 c15.res) (by kernel_rfl : finSt c15.fin _ = f15_fin [] 4)).trans (f15_out [] 4)))
      · replace hS := cond_f hc hS
        refine zlRun (n := 2) (j := 11) rfl (by kernel_rfl) ?_
        refine zlEnd (by kernel_rfl) ?_
        refine zkSeq ?_
        refine zrCondF (by kernel_rfl) ?_
        refine zrSkip ?_
        refine zkSeq ?_
        exact f15_j0_ok hd a1 a2 hQ  hS (by kernel_rfl)
    · replace hS := cond_f hc hS
      refine zlRun (n := 5) (j := 11) rfl (by kernel_rfl) ?_
      refine zlEnd (by kernel_rfl) ?_
      refine zkSeq ?_
      refine zrCondF (by kernel_rfl) ?_
      refine zrSkip ?_
      refine zkSeq ?_
      exact f15_j0_ok hd a1 a2 hQ  hS (by kernel_rfl)
/- farwriter/farkeep.upper -/
def f16_fin (p70 : List UInt8) : St := ⟨(up (fun _ => .un) 2 (.d (.str p70))), (hB fun _ => 0)⟩
theorem f16_out (p70 : List UInt8) : outR (f16_fin p70) 0 c16.res = some ((.d (.str p70)), []) := by
  kernel_rfl
def f16_Q (r : (List UInt8)) (e : PX) (st : St) : Prop := DoneF c16 0 ((.d (.str r)), []) e st
def f16_l0_J (a1 : List UInt8) (x : (List UInt8) × Int × Int) : St := ⟨(up (up (up (up (fun _ => .un) 10 (.d (.int .i64 x.2.2))) 9 (.d (.int .i64 x.2.1))) 8 (.r (.msl 64 0 0 x.1.length))) 3 (.r (.msl 64 0 0 x.1.length))), (up (hB fun _ => 0) 64 ⟨0, some (.own 5 1 (eU8.cells x.1))⟩)⟩
def f16_l0_H (a1 : List UInt8) (x : (List UInt8) × Int × Int) (st : St) : Prop := keepSt [3, 8, 9, 10] [(64, .id 64)] [] st = f16_l0_J a1 x
def f16_l0_e0_J (a1 : List UInt8) (p69 : List UInt8) : St := ⟨(up (fun _ => .un) 3 (.r (.msl 64 0 0 p69.length))), (up (hB fun _ => 0) 64 ⟨0, some (.own 5 1 (eU8.cells p69))⟩)⟩
def f16_l0_X (a1 : List UInt8) (z : ((List UInt8))) (e : PX) (st : St) : Prop := e = .exit 0 ∧ st = f16_l0_e0_J a1 z
def f16_l0_j2_J (a1 : List UInt8) (p79 : List UInt8) (p80 : Int) (p81 : Int) : St := ⟨(up (up (up (up (fun _ => .un) 10 (.d (.int .i64 p81))) 9 (.d (.int .i64 p80))) 8 (.r (.msl 64 0 0 p79.length))) 3 (.r (.msl 64 0 0 p79.length))), (up (hB fun _ => 0) 64 ⟨0, some (.own 5 1 (eU8.cells p79))⟩)⟩
noncomputable def f16_l0_j2 (a1 : List UInt8) (p79 : List UInt8) (p80 : Int) (p81 : Int) : Option (((List UInt8) × Int × Int) ⊕ (((List UInt8)))) := ((inR p81 p79.length).bind fun m18 => ((p79[m18]?).bind fun z19 => (bif (decide (97 ≤ (z19.toNat : Int))) then (bif (decide ((z19.toNat : Int) ≤ 122)) then ((inR p81 p79.length).bind fun m20 => ((p79[m20]?).bind fun z21 => ((some (p79.set m20 (z19 - (32 : UInt8)))).bind fun z22 => (some (.inl (z22, p80, (IntKind.i64.wrap (p81 + 1)))))))) else (some (.inl (p79, p80, (IntKind.i64.wrap (p81 + 1)))))) else (some (.inl (p79, p80, (IntKind.i64.wrap (p81 + 1))))))))
theorem f16_l0_j2_ok {d : Nat} (hd : 1 ≤ d) (a1 : List UInt8) {r : ((List UInt8) × Int × Int) ⊕ (((List UInt8)))} {Q : PX → St → Prop} (hQ : ∀ e st', finL (f16_l0_H a1) (f16_l0_X a1) r e st' → Q e st') (p79 : List UInt8) (p80 : Int) (p81 : Int) (hS : f16_l0_j2 a1 p79 p80 p81 = some r) {st : St} (he : keepSt [3, 8, 9, 10] [(64, .id 64)] [] st = f16_l0_j2_J a1 p79 p80 p81) : ZR (lev codes baseL (d - 1)) Q c16_1 [] st := by
  refine zrKeep he ?_
  unfold f16_l0_j2 at hS
  refine zrSeq ?_
  refine zrBlk ?_
  refine zrSeq ?_
  refine zrReg ?_
  refine zlRun (n := 1) (j := 1) rfl (by kernel_rfl) ?_
  refine bindE hS (fun m18 hm18 hS => ?_)
  refine zlOp (d := some 13) (op := (.ixS 5 1 (.tmp 8) (.tmp 10))) (g := none) (v := (.r (.ptr 64 0 ((0 + m18) * 1)))) (ups := []) (j := 2) rfl (by kernel_rfl) (by kernel_rfl) (ev_ixM (kk := .i64) (b := 64) (g := 0) (l := 0) (n := p79.length) (j := p81) (cs := eU8.cells p79) (by kernel_rfl) (by kernel_rfl) (by kernel_rfl) hm18) ?_
  refine bindE hS (fun z19 hz19 hS => ?_)
  refine zlOp (d := some 14) (op := (.load .false 1 (.tmp 13))) (g := none) (v := (.d (.int .u8 (z19.toNat : Int)))) (ups := []) (j := 3) rfl (by kernel_rfl) (by kernel_rfl) (ev_loadM eU8 (b := 64) (g := 0) (o := (0 + m18) * 1) (e := 5) (k := 1) (m := m18) (fo := 0) (xs := p79) (by kernel_rfl) (by kernel_rfl) (by rw [Nat.zero_add]; rfl) hz19 (by kernel_rfl) (by kernel_rfl) (by kernel_rfl)) ?_
  refine zlRun (n := 2) (j := 5) rfl (by kernel_rfl) ?_
  refine zlEnd (by kernel_rfl) ?_
  refine zkSeq ?_
  refine zrSeq ?_
  refine zrReg ?_
  refine zlRun (n := 1) (j := 1) rfl (by kernel_rfl) ?_
  refine zlBool (d := 16) (op := (.cmpI .geq (.tmp 15) (.const (.int .u8 97)))) (g := none) (j := 2) (decide (97 ≤ (z19.toNat : Int))) rfl (by kernel_rfl) (by kernel_rfl) (by kernel_rfl) (fun hc => ?_) (fun hc => ?_)
  · replace hS := cond_t hc hS
    refine zlRun (n := 2) (j := 4) rfl (by kernel_rfl) ?_
    refine zlBool (d := 19) (op := (.cmpI .leq (.tmp 18) (.const (.int .u8 122)))) (g := (some (17, true))) (j := 5) (decide ((z19.toNat : Int) ≤ 122)) rfl (by kernel_rfl) (by kernel_rfl) (by kernel_rfl) (fun hc => ?_) (fun hc => ?_)
    · replace hS := cond_t hc hS
      refine zlRun (n := 1) (j := 6) rfl (by kernel_rfl) ?_
      refine zlEnd (by kernel_rfl) ?_
      refine zkSeq ?_
      refine zrCondT (by kernel_rfl) ?_
      refine zrReg ?_
      refine zlRun (n := 3) (j := 3) rfl (by kernel_rfl) ?_
      refine zlOp (d := some 24) (op := (.arI .sub (.tmp 23) (.const (.int .u8 32)))) (g := none) (v := (.d (.int .u8 ((z19 - (32 : UInt8)).toNat : Int)))) (ups := []) (j := 4) rfl (by kernel_rfl) (by kernel_rfl) (ev_arI (kk := .u8) (a := (z19.toNat : Int)) (c := ((32 : UInt8).toNat : Int)) (by kernel_rfl) (by kernel_rfl) (ar_sub8 z19 (32 : UInt8))) ?_
      refine bindE hS (fun m20 hm20 hS => ?_)
      refine zlOp (d := some 25) (op := (.ixS 5 1 (.tmp 21) (.tmp 22))) (g := none) (v := (.r (.ptr 64 0 ((0 + m20) * 1)))) (ups := []) (j := 5) rfl (by kernel_rfl) (by kernel_rfl) (ev_ixM (kk := .i64) (b := 64) (g := 0) (l := 0) (n := p79.length) (j := p81) (cs := eU8.cells p79) (by kernel_rfl) (by kernel_rfl) (by kernel_rfl) hm20) ?_
      refine bindE hS (fun z21 hz21 hS => ?_)
      refine bindE hS (fun z22 hz22 hS => ?_)
      refine zlOp (d := none) (op := (.store 1 (.tmp 25) (.tmp 24))) (g := none) (v := .un) (ups := [(64, ⟨0, some (.own 5 1 (eU8.cells (p79.set m20 (z19 - (32 : UInt8)))))⟩)]) (j := 6) rfl (by kernel_rfl) (by kernel_rfl) (ev_storeM eU8 (b := 64) (g := 0) (o := (0 + m20) * 1) (e := 5) (k := 1) (m := m20) (fo := 0) (xs := p79) (z := z21) (z' := (z19 - (32 : UInt8))) (by kernel_rfl) (new := ((.d (.int .u8 ((z19 - (32 : UInt8)).toNat : Int))) :: [])) (ds := [.int .u8 ((z19 - (32 : UInt8)).toNat : Int)]) (by kernel_rfl) (by kernel_rfl) (by kernel_rfl) (by rw [Nat.zero_add]; rfl) hz21 (by kernel_rfl) (by kernel_rfl) (by kernel_rfl)) ?_
      have ez22 := Option.some.inj hz22
      have lz22 : p79.length = z22.length := by rw [← ez22, List.length_set]
      rw [ez22]
      try delta f16_l0_j2_J
      try rw [lz22]
      refine zlEnd (by kernel_rfl) ?_
      refine zkBlk ?_
      refine zkSeq ?_
      refine zrReg ?_
      refine zlRun (n := 2) (j := 2) rfl (by kernel_rfl) ?_
      refine zlEnd (by kernel_rfl) ?_
      refine zkNil ?_
      exact endQ hS hQ (finL_n (by show keepSt _ _ _ _ = _; kernel_rfl))
    · replace hS := cond_f hc hS
      refine zlRun (n := 1) (j := 6) rfl (by kernel_rfl) ?_
      refine zlEnd (by kernel_rfl) ?_
      refine zkSeq ?_
      refine zrCondF (by kernel_rfl) ?_
      refine zrSkip ?_
      refine zkBlk ?_
      refine zkSeq ?_
      refine zrReg ?_
      refine zlRun (n := 2) (j := 2) rfl (by kernel_rfl) ?_
      refine zlEnd (by kernel_rfl) ?_
      refine zkNil ?_
      exact endQ hS hQ (finL_n (by show keepSt _ _ _ _ = _; kernel_rfl))
  · replace hS := cond_f hc hS
    refine zlRun (n := 4) (j := 6) rfl (by kernel_rfl) ?_
    refine zlEnd (by kernel_rfl) ?_
    refine zkSeq ?_
    refine zrCondF (by kernel_rfl) ?_
    refine zrSkip ?_
    refine zkBlk ?_
    refine zkSeq ?_
    refine zrReg ?_
    refine zlRun (n := 2) (j := 2) rfl (by kernel_rfl) ?_
    refine zlEnd (by kernel_rfl) ?_
    refine zkNil ?_
    exact endQ hS hQ (finL_n (by show keepSt _ _ _ _ = _; kernel_rfl))
def f16_l0_j1_J (a1 : List UInt8) (p75 : List UInt8) (p76 : Int) (p77 : Int) (p78 : Bool) : St := ⟨(up (up (up (up (up (fun _ => .un) 11 (.d (.bool p78))) 10 (.d (.int .i64 p77))) 9 (.d (.int .i64 p76))) 8 (.r (.msl 64 0 0 p75.length))) 3 (.r (.msl 64 0 0 p75.length))), (up (hB fun _ => 0) 64 ⟨0, some (.own 5 1 (eU8.cells p75))⟩)⟩
noncomputable def f16_l0_j1 (a1 : List UInt8) (p75 : List UInt8) (p76 : Int) (p77 : Int) (p78 : Bool) : Option (((List UInt8) × Int × Int) ⊕ (((List UInt8)))) := (bif p78 then (f16_l0_j2 a1 p75 p76 p77) else (some (.inr p75)))
theorem f16_l0_j1_ok {d : Nat} (hd : 1 ≤ d) (a1 : List UInt8) {r : ((List UInt8) × Int × Int) ⊕ (((List UInt8)))} {Q : PX → St → Prop} (hQ : ∀ e st', finL (f16_l0_H a1) (f16_l0_X a1) r e st' → Q e st') (p75 : List UInt8) (p76 : Int) (p77 : Int) (p78 : Bool) (hS : f16_l0_j1 a1 p75 p76 p77 p78 = some r) {st : St} (he : keepSt [3, 8, 9, 10, 11] [(64, .id 64)] [] st = f16_l0_j1_J a1 p75 p76 p77 p78) : ZR (lev codes baseL (d - 1)) Q c16_2 [] st := by
  refine zrKeep he ?_
  unfold f16_l0_j1 at hS
  refine zrSeq ?_
  refine zrSplit 11 p78 (by kernel_rfl) (fun hc => ?_) (fun hc => ?_)
  · replace hS := cond_t hc hS
    refine zrCondT (by kernel_rfl) ?_
    refine zrSkip ?_
    refine zkSeq ?_
    exact f16_l0_j2_ok hd a1 hQ p75 p76 p77 hS (by kernel_rfl)
  · replace hS := cond_f hc hS
    refine zrCondF (by kernel_rfl) ?_
    refine zrKeep (J := f16_l0_e0_J a1 p75) (by kernel_rfl) ?_
    refine zrExit ?_
    refine zkSeqX ?_
    refine zkNil ?_
    exact endQ hS hQ (finL_x (by intro h; cases h) (by show _ = _ ∧ _ = _; exact ⟨rfl, rfl⟩))
noncomputable def f16_l0 (a1 : List UInt8) (x : (List UInt8) × Int × Int) : Option (((List UInt8) × Int × Int) ⊕ (((List UInt8)))) := (bif (decide (x.2.2 < x.2.1)) then (f16_l0_j1 a1 x.1 x.2.1 x.2.2 true) else (f16_l0_j1 a1 x.1 x.2.1 x.2.2 false))
theorem f16_l0_ok {d : Nat} (hd : 1 ≤ d) (a1 : List UInt8) {r : ((List UInt8) × Int × Int) ⊕ (((List UInt8)))} {Q : PX → St → Prop} (hQ : ∀ e st', finL (f16_l0_H a1) (f16_l0_X a1) r e st' → Q e st') {x : (List UInt8) × Int × Int} (hS : f16_l0 a1 x = some r) {st : St} (he : f16_l0_H a1 x st) : ZR (lev codes baseL (d - 1)) Q c16_3 [] st := by
  refine zrKeep he ?_
  unfold f16_l0 at hS
  refine zrSeq ?_
  refine zrReg ?_
  refine zlBool (d := 11) (op := (.cmpI .lss (.tmp 10) (.tmp 9))) (g := none) (j := 1) (decide (x.2.2 < x.2.1)) rfl (by kernel_rfl) (by kernel_rfl) (by kernel_rfl) (fun hc => ?_) (fun hc => ?_)
  · replace hS := cond_t hc hS
    refine zlEnd (by kernel_rfl) ?_
    refine zkSeq ?_
    exact f16_l0_j1_ok hd a1 hQ x.1 x.2.1 x.2.2 true hS (by kernel_rfl)
  · replace hS := cond_f hc hS
    refine zlEnd (by kernel_rfl) ?_
    refine zkSeq ?_
    exact f16_l0_j1_ok hd a1 hQ x.1 x.2.1 x.2.2 false hS (by kernel_rfl)
noncomputable def f16 (a1 : List UInt8) : Option ((List UInt8)) := ((chk (decide (a1.length ≤ 140737488355328))).bind fun z17 => ((loopO (f16_l0 a1) (a1, (a1.length : Int), 0)).bind fun z23 => (some z23)))
theorem f16_ok (d : Nat) (hd : 1 ≤ d) (a1 : List UInt8) (r : (List UInt8)) (hS : f16 a1 = some r) : lev codes baseL d 16 [(.d (.str a1))] [] = some ((.d (.str r)), []) := by
  refine lev_go codes16 rfl rfl (Nat.le_trans (Nat.le_of_ble_eq_true rfl) hd) fun Q hQ => ?_
  unfold f16 at hS
  show ZR _ Q c16_b [] _
  replace hQ : ∀ e st', f16_Q r e st' → Q e st' := hQ
  refine zrSeq ?_
  refine zrReg ?_
  refine zlRun (n := 1) (j := 1) rfl (by kernel_rfl) ?_
  refine zlEnd (by kernel_rfl) ?_
  refine zkSeq ?_
  refine zrSeq ?_
  refine zrReg ?_
  refine zlRun (n := 1) (j := 1) rfl (by kernel_rfl) ?_
  refine bindE hS (fun z17 hz17 hS => ?_)
  refine zlOp (d := some 7) (op := (.cvSO 5 (.tmp 6))) (g := none) (v := (.r (.msl 64 1 0 a1.length))) (ups := [(64, ⟨1, some (.own 5 1 (eU8.cells a1))⟩)]) (j := 2) rfl (by kernel_rfl) (by kernel_rfl) (ev_cvSO (s := a1) (by kernel_rfl) hz17) ?_
  refine zlRun (n := 1) (j := 3) rfl (by kernel_rfl) ?_
  refine zlEnd (by kernel_rfl) ?_
  refine zkSeq ?_
  refine zrSeq ?_
  refine zrSeq ?_
  refine zrReg ?_
  refine zlRun (n := 3) (j := 3) rfl (by kernel_rfl) ?_
  refine zlEnd (by kernel_rfl) ?_
  refine zkSeq ?_
  refine zrBlk ?_
  refine bindE hS (fun z23 hz23 hS => ?_)
  refine zrLoop (f16_l0_H a1) (f16_l0_X a1) (fun x st r Q h0 hS hQ => f16_l0_ok hd a1 hQ hS h0) (x := (a1, (a1.length : Int), 0)) (z := z23) (by show keepSt _ _ _ _ = _; kernel_rfl) hz23 ?_
  intro e st' _ hX
  obtain ⟨rfl, rfl⟩ : _ ∧ _ := hX
  refine zkBlkX ?_
  refine zkSeq ?_
  refine zrSeq ?_
  refine zrReg ?_
  refine zlRun (n := 1) (j := 1) rfl (by kernel_rfl) ?_
  refine zlOp (d := some 28) (op := (.cvBS (.tmp 27))) (g := none) (v := (.d (.str z23))) (ups := []) (j := 2) rfl (by kernel_rfl) (by kernel_rfl) (ev_cvBS (s := z23) ((congrArg (asL _) (by kernel_rfl : ρof _ (.tmp 27) = (.r (.msl 64 0 0 z23.length)))).trans (as_whole eU8 (e := 5) (k := 1) (xs := z23) (by kernel_rfl) rfl rfl)) rfl) ?_
  refine zlRun (n := 1) (j := 3) rfl (by kernel_rfl) ?_
  refine zlEnd (by kernel_rfl) ?_
  refine zkSeq ?_
  refine zrRet ?_
  refine zkNil ?_
  exact endQ hS hQ (fRet ((congrArg (fun s => outR s 0 c16.res) (by kernel_rfl : finSt c16.fin _ = f16_fin z23)).trans (f16_out z23)))
end Go.Proofs.YtncgibcnibbdeaaDoor.Pm
