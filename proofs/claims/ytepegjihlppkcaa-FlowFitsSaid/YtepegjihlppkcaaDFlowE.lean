/- Typed functions, and that the codes are these. Printed by dec.py. -/
import Derived.Test.YtepegjihlppkcaaDFlowD
namespace Go.Proofs.Ytepegjihlppkcaa.Pm
set_option maxRecDepth 1000000
set_option maxHeartbeats 20000000
set_option linter.unusedVariables false
/- slices.EqualFunc[[][]int,[][]int,[]int,[]int] -/
def f37_fin (p9 : Bool) : St := ⟨(up (fun _ => .un) 6 (.d (.bool p9))), (hB fun _ => 0)⟩
theorem f37_out (p9 : Bool) : outR (f37_fin p9) 0 c37.res = some ((.d (.bool p9)), []) := by
  kernel_rfl
def f37_Q (r : Bool) (e : PX) (st : St) : Prop := DoneF c37 0 ((.d (.bool r)), []) e st
def f37_l1_J (a1 : List (List Int)) (a2 : List (List Int)) (x : Int) : St := ⟨(up (up (up (up (up (fun _ => .un) 17 (.d (.int .i64 x))) 16 (.d (.int .i64 (a1.length : Int)))) 15 (.d (.sl a1.length ((eSl (eInt .i64)).cells a1)))) 2 (.fn 38 [])) 1 (.d (.sl a2.length ((eSl (eInt .i64)).cells a2)))), (hB fun _ => 0)⟩
def f37_l1_H (a1 : List (List Int)) (a2 : List (List Int)) (x : Int) (st : St) : Prop := keepSt [1, 2, 15, 16, 17] [] [] st = f37_l1_J a1 a2 x
def f37_l1_e0_J (a1 : List (List Int)) (a2 : List (List Int)) : St := ⟨(fun _ => .un), (hB fun _ => 0)⟩
def f37_l1_X (a1 : List (List Int)) (a2 : List (List Int)) (z : Unit ⊕ Bool) (e : PX) (st : St) : Prop := (match z with | .inl z => e = .exit 0 ∧ st = f37_l1_e0_J a1 a2 | .inr z => e = .ret ∧ finSt c37.fin st = f37_fin z)
def f37_l1_j3_J (a1 : List (List Int)) (a2 : List (List Int)) (p15 : Int) : St := ⟨(up (up (up (up (up (fun _ => .un) 17 (.d (.int .i64 p15))) 16 (.d (.int .i64 (a1.length : Int)))) 15 (.d (.sl a1.length ((eSl (eInt .i64)).cells a1)))) 2 (.fn 38 [])) 1 (.d (.sl a2.length ((eSl (eInt .i64)).cells a2)))), (hB fun _ => 0)⟩
noncomputable def f37_l1_j3 (a1 : List (List Int)) (a2 : List (List Int)) (p15 : Int) : Option (Int ⊕ (Unit ⊕ Bool)) := ((idx a1 p15).bind fun z10 => ((idx a2 p15).bind fun z11 => ((f38 z10 z11).bind fun z12 => (bif (!z12) then (some (.inr (.inr false))) else (some (.inl (IntKind.i64.wrap (p15 + 1))))))))
theorem f37_l1_j3_ok {base : Orc} {d : Nat} (hd : 3 ≤ d) (a1 : List (List Int)) (a2 : List (List Int)) {r : Int ⊕ (Unit ⊕ Bool)} {Q : PX → St → Prop} (hQ : ∀ e st', finL (f37_l1_H a1 a2) (f37_l1_X a1 a2) r e st' → Q e st') (p15 : Int) (hS : f37_l1_j3 a1 a2 p15 = some r) {st : St} (he : keepSt [1, 2, 15, 16, 17] [] [] st = f37_l1_j3_J a1 a2 p15) : ZR (lev codes base (d - 1)) Q c37_1 [] st := by
  refine zrKeep he ?_
  unfold f37_l1_j3 at hS
  refine zrSeq ?_
  refine zrBlk ?_
  refine zrSeq ?_
  refine zrReg ?_
  refine zlRun (n := 1) (j := 1) rfl (by kernel_rfl) ?_
  refine bindE hS (fun z10 hz10 hS => ?_)
  refine zlOp (d := some 20) (op := (.ixS 22 1 (.tmp 15) (.tmp 17))) (g := none) (v := (.rptr ((eSl (eInt .i64)).enc z10 ++ ((eSl (eInt .i64)).cells (a1.drop ((p15 : Int).toNat + 1)))))) (ups := []) (j := 2) rfl (by kernel_rfl) (by kernel_rfl) (ev_ixS (eSl (eInt .i64)) (kk := .i64) (xs := a1) (j := p15) (by kernel_rfl) (by kernel_rfl) hz10 rfl (by intro h; cases h)) ?_
  refine zlRun (n := 3) (j := 5) rfl (by kernel_rfl) ?_
  refine zlEnd (by kernel_rfl) ?_
  refine zkSeq ?_
  refine zrSeq ?_
  refine zrReg ?_
  refine zlRun (n := 2) (j := 2) rfl (by kernel_rfl) ?_
  refine bindE hS (fun z11 hz11 hS => ?_)
  refine zlOp (d := some 24) (op := (.ixS 22 1 (.tmp 22) (.tmp 23))) (g := none) (v := (.rptr ((eSl (eInt .i64)).enc z11 ++ ((eSl (eInt .i64)).cells (a2.drop ((p15 : Int).toNat + 1)))))) (ups := []) (j := 3) rfl (by kernel_rfl) (by kernel_rfl) (ev_ixS (eSl (eInt .i64)) (kk := .i64) (xs := a2) (j := p15) (by kernel_rfl) (by kernel_rfl) hz11 rfl (by intro h; cases h)) ?_
  refine zlRun (n := 2) (j := 5) rfl (by kernel_rfl) ?_
  refine zlEnd (by kernel_rfl) ?_
  refine zkSeq ?_
  refine zrSeq ?_
  refine zrReg ?_
  refine zlRun (n := 3) (j := 3) rfl (by kernel_rfl) ?_
  refine bindE hS (fun z12 hz12 hS => ?_)
  refine zlOp (d := some 29) (op := (.callv (.tmp 26) [(.tmp 27), (.tmp 28)])) (g := none) (v := (.d (.bool z12))) (ups := []) (j := 4) rfl (by kernel_rfl) (by kernel_rfl) (ev_callv (f := 38) (cs := []) (by kernel_rfl) (args := [(.d (.sl z10.length ((eInt .i64).cells z10))), (.d (.sl z11.length ((eInt .i64).cells z11)))]) (l := [(.d (.sl z10.length ((eInt .i64).cells z10))), (.d (.sl z11.length ((eInt .i64).cells z11)))]) (r := (.d (.bool z12))) (by kernel_rfl) (by kernel_rfl) (f38_ok base (d - 1) (dpt hd rfl) z10 z11 z12 hz12) (by kernel_rfl) (by kernel_rfl) (by kernel_rfl)) ?_
  refine zlRun (n := 1) (j := 5) rfl (by kernel_rfl) ?_
  refine zlEnd (by kernel_rfl) ?_
  refine zkSeq ?_
  refine zrSplit 30 (!z12) (by kernel_rfl) (fun hc => ?_) (fun hc => ?_)
  · replace hS := cond_t hc hS
    refine zrCondT (by kernel_rfl) ?_
    refine zrSeq ?_
    refine zrReg ?_
    refine zlRun (n := 1) (j := 1) rfl (by kernel_rfl) ?_
    refine zlEnd (by kernel_rfl) ?_
    refine zkSeq ?_
    refine zrRet ?_
    refine zkBlkR ?_
    refine zkSeqR ?_
    refine zkNil ?_
    exact endQ hS hQ (finL_x (by intro h; cases h) (by show _ = _ ∧ _ = _; exact ⟨rfl, by kernel_rfl⟩))
  · replace hS := cond_f hc hS
    refine zrCondF (by kernel_rfl) ?_
    refine zrSkip ?_
    refine zkBlk ?_
    refine zkSeq ?_
    refine zrReg ?_
    refine zlRun (n := 2) (j := 2) rfl (by kernel_rfl) ?_
    refine zlEnd (by kernel_rfl) ?_
    refine zkNil ?_
    exact endQ hS hQ (finL_n (by show keepSt _ _ _ _ = _; kernel_rfl))
def f37_l1_j2_J (a1 : List (List Int)) (a2 : List (List Int)) (p13 : Int) (p14 : Bool) : St := ⟨(up (up (up (up (up (up (fun _ => .un) 18 (.d (.bool p14))) 17 (.d (.int .i64 p13))) 16 (.d (.int .i64 (a1.length : Int)))) 15 (.d (.sl a1.length ((eSl (eInt .i64)).cells a1)))) 2 (.fn 38 [])) 1 (.d (.sl a2.length ((eSl (eInt .i64)).cells a2)))), (hB fun _ => 0)⟩
noncomputable def f37_l1_j2 (a1 : List (List Int)) (a2 : List (List Int)) (p13 : Int) (p14 : Bool) : Option (Int ⊕ (Unit ⊕ Bool)) := (bif p14 then (f37_l1_j3 a1 a2 p13) else (some (.inr (.inl ()))))
theorem f37_l1_j2_ok {base : Orc} {d : Nat} (hd : 3 ≤ d) (a1 : List (List Int)) (a2 : List (List Int)) {r : Int ⊕ (Unit ⊕ Bool)} {Q : PX → St → Prop} (hQ : ∀ e st', finL (f37_l1_H a1 a2) (f37_l1_X a1 a2) r e st' → Q e st') (p13 : Int) (p14 : Bool) (hS : f37_l1_j2 a1 a2 p13 p14 = some r) {st : St} (he : keepSt [1, 2, 15, 16, 17, 18] [] [] st = f37_l1_j2_J a1 a2 p13 p14) : ZR (lev codes base (d - 1)) Q c37_2 [] st := by
  refine zrKeep he ?_
  unfold f37_l1_j2 at hS
  refine zrSeq ?_
  refine zrSplit 18 p14 (by kernel_rfl) (fun hc => ?_) (fun hc => ?_)
  · replace hS := cond_t hc hS
    refine zrCondT (by kernel_rfl) ?_
    refine zrSkip ?_
    refine zkSeq ?_
    exact f37_l1_j3_ok hd a1 a2 hQ p13 hS (by kernel_rfl)
  · replace hS := cond_f hc hS
    refine zrCondF (by kernel_rfl) ?_
    refine zrKeep (J := f37_l1_e0_J a1 a2) (by kernel_rfl) ?_
    refine zrExit ?_
    refine zkSeqX ?_
    refine zkNil ?_
    exact endQ hS hQ (finL_x (by intro h; cases h) (by show _ = _ ∧ _ = _; exact ⟨rfl, rfl⟩))
noncomputable def f37_l1 (a1 : List (List Int)) (a2 : List (List Int)) (x : Int) : Option (Int ⊕ (Unit ⊕ Bool)) := (bif (decide (x < (a1.length : Int))) then (f37_l1_j2 a1 a2 x true) else (f37_l1_j2 a1 a2 x false))
theorem f37_l1_ok {base : Orc} {d : Nat} (hd : 3 ≤ d) (a1 : List (List Int)) (a2 : List (List Int)) {r : Int ⊕ (Unit ⊕ Bool)} {Q : PX → St → Prop} (hQ : ∀ e st', finL (f37_l1_H a1 a2) (f37_l1_X a1 a2) r e st' → Q e st') {x : Int} (hS : f37_l1 a1 a2 x = some r) {st : St} (he : f37_l1_H a1 a2 x st) : ZR (lev codes base (d - 1)) Q c37_3 [] st := by
  refine zrKeep he ?_
  unfold f37_l1 at hS
  refine zrSeq ?_
  refine zrReg ?_
  refine zlBool (d := 18) (op := (.cmpI .lss (.tmp 17) (.tmp 16))) (g := none) (j := 1) (decide (x < (a1.length : Int))) rfl (by kernel_rfl) (by kernel_rfl) (by kernel_rfl) (fun hc => ?_) (fun hc => ?_)
  · replace hS := cond_t hc hS
    refine zlEnd (by kernel_rfl) ?_
    refine zkSeq ?_
    exact f37_l1_j2_ok hd a1 a2 hQ x true hS (by kernel_rfl)
  · replace hS := cond_f hc hS
    refine zlEnd (by kernel_rfl) ?_
    refine zkSeq ?_
    exact f37_l1_j2_ok hd a1 a2 hQ x false hS (by kernel_rfl)
def f37_j0_J (a1 : List (List Int)) (a2 : List (List Int)) : St := ⟨(up (up (up (fun _ => .un) 2 (.fn 38 [])) 1 (.d (.sl a2.length ((eSl (eInt .i64)).cells a2)))) 0 (.d (.sl a1.length ((eSl (eInt .i64)).cells a1)))), (hB fun _ => 0)⟩
noncomputable def f37_j0 (a1 : List (List Int)) (a2 : List (List Int)) : Option (Bool) := ((loopO (f37_l1 a1 a2) 0).bind fun z13 => (Sum.elim (fun z14 => (some true)) (fun z15 => (some z15)) z13))
theorem f37_j0_ok {base : Orc} {d : Nat} (hd : 3 ≤ d) (a1 : List (List Int)) (a2 : List (List Int)) {r : Bool} {Q : PX → St → Prop} (hQ : ∀ e st', f37_Q r e st' → Q e st')  (hS : f37_j0 a1 a2 = some r) {st : St} (he : keepSt [0, 1, 2] [] [] st = f37_j0_J a1 a2) : ZR (lev codes base (d - 1)) Q c37_4 [] st := by
  refine zrKeep he ?_
  unfold f37_j0 at hS
  refine zrSeq ?_
  refine zrSeq ?_
  refine zrReg ?_
  refine zlRun (n := 3) (j := 3) rfl (by kernel_rfl) ?_
  refine zlEnd (by kernel_rfl) ?_
  refine zkSeq ?_
  refine zrBlk ?_
  refine bindE hS (fun z13 hz13 hS => ?_)
  refine zrLoop (f37_l1_H a1 a2) (f37_l1_X a1 a2) (fun x st r Q h0 hS hQ => f37_l1_ok hd a1 a2 hQ hS h0) (x := 0) (z := z13) (by show keepSt _ _ _ _ = _; kernel_rfl) hz13 ?_
  rcases z13 with z14 | z15
  · replace hS := (show _ = _ from hS)
    simp only [Sum.elim_inl] at hS
    intro e st' _ hX
    obtain ⟨rfl, rfl⟩ : _ ∧ _ := hX
    refine zkBlkX ?_
    refine zkSeq ?_
    refine zrSeq ?_
    refine zrReg ?_
    refine zlRun (n := 1) (j := 1) rfl (by kernel_rfl) ?_
    refine zlEnd (by kernel_rfl) ?_
    refine zkSeq ?_
    refine zrRet ?_
    refine zkNil ?_
    exact endQ hS hQ (fRet ((congrArg (fun s => outR s 0 c37.res) (by kernel_rfl : finSt c37.fin _ = f37_fin true)).trans (f37_out true)))
  · simp only [Sum.elim_inr] at hS
    intro e st' _ hX
    obtain ⟨rfl, hX⟩ : _ ∧ _ := hX
    refine zkBlkR ?_
    refine zkSeqR ?_
    refine zkNil ?_
    exact endQ hS hQ (fRet ((congrArg (fun s => outR s 0 c37.res) hX).trans (f37_out z15)))
noncomputable def f37 (a1 : List (List Int)) (a2 : List (List Int)) : Option (Bool) := (bif (!decide ((a1.length : Int) = (a2.length : Int))) then (some false) else (f37_j0 a1 a2 ))
theorem f37_ok (base : Orc) (d : Nat) (hd : 3 ≤ d) (a1 : List (List Int)) (a2 : List (List Int)) (r : Bool) (hS : f37 a1 a2 = some r) : lev codes base d 37 [(.d (.sl a1.length ((eSl (eInt .i64)).cells a1))), (.d (.sl a2.length ((eSl (eInt .i64)).cells a2))), (.fn 38 [])] [] = some ((.d (.bool r)), []) := by
  refine lev_go codes37 rfl rfl (Nat.le_trans (Nat.le_of_ble_eq_true rfl) hd) fun Q hQ => ?_
  unfold f37 at hS
  show ZR _ Q c37_b [] _
  replace hQ : ∀ e st', f37_Q r e st' → Q e st' := hQ
  refine zrSeq ?_
  refine zrReg ?_
  refine zlRun (n := 1) (j := 1) rfl (by kernel_rfl) ?_
  refine zlEnd (by kernel_rfl) ?_
  refine zkSeq ?_
  refine zrSeq ?_
  refine zrSeq ?_
  refine zrReg ?_
  refine zlRun (n := 4) (j := 4) rfl (by kernel_rfl) ?_
  refine zlBool (d := 14) (op := (.cmpI .neq (.tmp 11) (.tmp 13))) (g := none) (j := 5) (!decide ((a1.length : Int) = (a2.length : Int))) rfl (by kernel_rfl) (by kernel_rfl) (by kernel_rfl) (fun hc => ?_) (fun hc => ?_)
  · replace hS := cond_t hc hS
    refine zlEnd (by kernel_rfl) ?_
    refine zkSeq ?_
    refine zrCondT (by kernel_rfl) ?_
    refine zrSeq ?_
    refine zrReg ?_
    refine zlRun (n := 1) (j := 1) rfl (by kernel_rfl) ?_
    refine zlEnd (by kernel_rfl) ?_
    refine zkSeq ?_
    refine zrRet ?_
    refine zkSeqR ?_
    refine zkNil ?_
    exact endQ hS hQ (fRet ((congrArg (fun s => outR s 0 c37.res) (by kernel_rfl : finSt c37.fin _ = f37_fin false)).trans (f37_out false)))
  · replace hS := cond_f hc hS
    refine zlEnd (by kernel_rfl) ?_
    refine zkSeq ?_
    refine zrCondF (by kernel_rfl) ?_
    refine zrSkip ?_
    refine zkSeq ?_
    exact f37_j0_ok hd a1 a2 hQ  hS (by kernel_rfl)
/- farwriter/farref.SameLines -/
def f22_fin (p1 : Bool) : St := ⟨(up (fun _ => .un) 4 (.d (.bool p1))), (hB fun _ => 0)⟩
theorem f22_out (p1 : Bool) : outR (f22_fin p1) 0 c22.res = some ((.d (.bool p1)), []) := by
  kernel_rfl
def f22_Q (r : Bool) (e : PX) (st : St) : Prop := DoneF c22 0 ((.d (.bool r)), []) e st
noncomputable def f22 (a1 : List (List Int)) (a2 : List (List Int)) : Option (Bool) := ((f37 a1 a2).bind fun z2 => (some z2))
theorem f22_ok (base : Orc) (d : Nat) (hd : 4 ≤ d) (a1 : List (List Int)) (a2 : List (List Int)) (r : Bool) (hS : f22 a1 a2 = some r) : lev codes base d 22 [(.d (.sl a1.length ((eSl (eInt .i64)).cells a1))), (.d (.sl a2.length ((eSl (eInt .i64)).cells a2)))] [] = some ((.d (.bool r)), []) := by
  refine lev_go codes22 rfl rfl (Nat.le_trans (Nat.le_of_ble_eq_true rfl) hd) fun Q hQ => ?_
  unfold f22 at hS
  show ZR _ Q c22_b [] _
  replace hQ : ∀ e st', f22_Q r e st' → Q e st' := hQ
  refine zrSeq ?_
  refine zrReg ?_
  refine zlRun (n := 1) (j := 1) rfl (by kernel_rfl) ?_
  refine zlEnd (by kernel_rfl) ?_
  refine zkSeq ?_
  refine zrSeq ?_
  refine zrReg ?_
  refine zlRun (n := 2) (j := 2) rfl (by kernel_rfl) ?_
  refine bindE hS (fun z2 hz2 hS => ?_)
  refine zlOp (d := some 7) (op := (.call 37 [(.tmp 5), (.tmp 6), (.func 38)])) (g := none) (v := (.d (.bool z2))) (ups := []) (j := 3) rfl (by kernel_rfl) (by kernel_rfl) (ev_call (args := [(.d (.sl a1.length ((eSl (eInt .i64)).cells a1))), (.d (.sl a2.length ((eSl (eInt .i64)).cells a2))), (.fn 38 [])]) (l := [(.d (.sl a1.length ((eSl (eInt .i64)).cells a1))), (.d (.sl a2.length ((eSl (eInt .i64)).cells a2))), (.fn 38 [])]) (r := (.d (.bool z2))) (by kernel_rfl) (by kernel_rfl) (f37_ok base (d - 1) (dpt hd rfl) a1 a2 z2 hz2) (by kernel_rfl) (by kernel_rfl) (by kernel_rfl)) ?_
  refine zlRun (n := 1) (j := 4) rfl (by kernel_rfl) ?_
  refine zlEnd (by kernel_rfl) ?_
  refine zkSeq ?_
  refine zrRet ?_
  refine zkNil ?_
  exact endQ hS hQ (fRet ((congrArg (fun s => outR s 0 c22.res) (by kernel_rfl : finSt c22.fin _ = f22_fin z2)).trans (f22_out z2)))
/- farwriter/farkeep.FlowBack -/
def f6_fin (p8 : Bool) : St := ⟨(up (fun _ => .un) 4 (.d (.bool p8))), (hB fun _ => 0)⟩
theorem f6_out (p8 : Bool) : outR (f6_fin p8) 0 c6.res = some ((.d (.bool p8)), []) := by
  kernel_rfl
def f6_Q (r : Bool) (e : PX) (st : St) : Prop := DoneF c6 0 ((.d (.bool r)), []) e st
def f6_j0_J (a1 : List (List Int)) (a2 : Int) (p14 : List GRow) : St := ⟨(up (up (fun _ => .un) 5 (.r (.msl 104 0 0 p14.length))) 0 (.d (.sl a1.length ((eSl (eInt .i64)).cells a1)))), (up (hB fun _ => 0) 104 ⟨0, some (.own 39 2 (e_GRow.cells p14))⟩)⟩
noncomputable def f6_j0 (a1 : List (List Int)) (a2 : Int) (p14 : List GRow) : Option (Bool) := ((f21 p14).bind fun z9 => (bif (decide (z9.2 = 0)) then ((f22 z9.1 a1).bind fun z10 => (some z10)) else (some false)))
theorem f6_j0_ok {base : Orc} {d : Nat} (hd : 7 ≤ d) (a1 : List (List Int)) (a2 : Int) {r : Bool} {Q : PX → St → Prop} (hQ : ∀ e st', f6_Q r e st' → Q e st') (p14 : List GRow) (hS : f6_j0 a1 a2 p14 = some r) {st : St} (he : keepSt [0, 5] [(104, .id 104)] [] st = f6_j0_J a1 a2 p14) : ZR (lev codes base (d - 1)) Q c6_1 [] st := by
  refine zrKeep he ?_
  unfold f6_j0 at hS
  refine zrSeq ?_
  refine zrReg ?_
  refine zlRun (n := 1) (j := 1) rfl (by kernel_rfl) ?_
  refine bindE hS (fun z9 hz9 hS => ?_)
  refine zlOp (d := some 29) (op := (.callf 21 [(.tmp 28)])) (g := none) (v := (.tup [(.r (.msl 240 1 0 z9.1.length)), (.d (.int .i64 z9.2))])) (ups := [(104, ⟨1, none⟩), (240, ⟨1, some (.own 22 1 ((eSl (eInt .i64)).cells z9.1))⟩)]) (j := 2) rfl (by kernel_rfl) (by kernel_rfl) (ev_callF (args := [(.r (.msl 104 0 0 p14.length))]) (args' := [(.d (.sl p14.length (e_GRow.cells p14)))]) (l := [(.d (.sl p14.length (e_GRow.cells p14)))]) (refs := [104]) (r := (.tup [(.r (.own 0 22 1 z9.1.length ((eSl (eInt .i64)).cells z9.1))), (.d (.int .i64 z9.2))])) (v := (.tup [(.r (.msl 240 1 0 z9.1.length)), (.d (.int .i64 z9.2))])) (ups' := [(240, ⟨1, some (.own 22 1 ((eSl (eInt .i64)).cells z9.1))⟩)]) (by kernel_rfl) (by kernel_rfl) (by kernel_rfl) (fz_cons (fz_own e_GRow (e := 39) (k := 2) (xs := p14) (by kernel_rfl) (by kernel_rfl) rfl rfl) fz_nil) (by kernel_rfl) (f21_ok base (d - 1) (dpt hd rfl) p14 z9 hz9) (by kernel_rfl) (by kernel_rfl) (by kernel_rfl) (by kernel_rfl)) ?_
  refine zlRun (n := 5) (j := 7) rfl (by kernel_rfl) ?_
  refine zlEnd (by kernel_rfl) ?_
  refine zkSeq ?_
  refine zrSeq ?_
  refine zrReg ?_
  refine zlRun (n := 1) (j := 1) rfl (by kernel_rfl) ?_
  refine zlBool (d := 33) (op := (.cmpI .eql (.tmp 32) (.const (.int .i64 0)))) (g := none) (j := 2) (decide (z9.2 = 0)) rfl (by kernel_rfl) (by kernel_rfl) (by kernel_rfl) (fun hc => ?_) (fun hc => ?_)
  · replace hS := cond_t hc hS
    refine zlRun (n := 3) (j := 5) rfl (by kernel_rfl) ?_
    refine bindE hS (fun z10 hz10 hS => ?_)
    refine zlOp (d := some 37) (op := (.call 22 [(.tmp 35), (.tmp 36)])) (g := (some (34, true))) (v := (.d (.bool z10))) (ups := []) (j := 6) rfl (by kernel_rfl) (by kernel_rfl) (ev_call (args := [(.r (.msl 240 1 0 z9.1.length)), (.d (.sl a1.length ((eSl (eInt .i64)).cells a1)))]) (l := [(.d (.sl z9.1.length ((eSl (eInt .i64)).cells z9.1))), (.d (.sl a1.length ((eSl (eInt .i64)).cells a1)))]) (r := (.d (.bool z10))) (by kernel_rfl) (l_cons (l_own (eSl (eInt .i64)) (e := 22) (k := 1) (xs := z9.1) (by kernel_rfl) rfl rfl) (l_cons (by kernel_rfl) l_nil)) (f22_ok base (d - 1) (dpt hd rfl) z9.1 a1 z10 hz10) (by kernel_rfl) (by kernel_rfl) (by kernel_rfl)) ?_
    refine zlRun (n := 2) (j := 8) rfl (by kernel_rfl) ?_
    refine zlEnd (by kernel_rfl) ?_
    refine zkSeq ?_
    refine zrRet ?_
    refine zkNil ?_
    exact endQ hS hQ (fRet ((congrArg (fun s => outR s 0 c6.res) (by kernel_rfl : finSt c6.fin _ = f6_fin z10)).trans (f6_out z10)))
  · replace hS := cond_f hc hS
    refine zlRun (n := 6) (j := 8) rfl (by kernel_rfl) ?_
    refine zlEnd (by kernel_rfl) ?_
    refine zkSeq ?_
    refine zrRet ?_
    refine zkNil ?_
    exact endQ hS hQ (fRet ((congrArg (fun s => outR s 0 c6.res) (by kernel_rfl : finSt c6.fin _ = f6_fin false)).trans (f6_out false)))
def f6_j1_J (a1 : List (List Int)) (a2 : Int) (p16 : List GRow) : St := ⟨(up (fun _ => .un) 5 (.r (.msl 104 0 0 p16.length))), (up (hB fun _ => 0) 104 ⟨0, some (.own 39 2 (e_GRow.cells p16))⟩)⟩
noncomputable def f6_j1 (a1 : List (List Int)) (a2 : Int) (p16 : List GRow) : Option (Bool) := (f20.bind fun z12 => (bif z12 then (bif (decide ((p16.length : Int) = 0)) then (some true) else (some false)) else (some false)))
theorem f6_j1_ok {base : Orc} {d : Nat} (hd : 7 ≤ d) (a1 : List (List Int)) (a2 : Int) {r : Bool} {Q : PX → St → Prop} (hQ : ∀ e st', f6_Q r e st' → Q e st') (p16 : List GRow) (hS : f6_j1 a1 a2 p16 = some r) {st : St} (he : keepSt [5] [(104, .id 104)] [] st = f6_j1_J a1 a2 p16) : ZR (lev codes base (d - 1)) Q c6_2 [.seq c6_1] st := by
  refine zrKeep he ?_
  unfold f6_j1 at hS
  refine zrSeq ?_
  refine zrReg ?_
  refine bindE hS (fun z12 hz12 hS => ?_)
  refine zlOp (d := some 21) (op := (.call 20 [])) (g := none) (v := (.d (.bool z12))) (ups := []) (j := 1) rfl (by kernel_rfl) (by kernel_rfl) (ev_call (args := []) (l := []) (r := (.d (.bool z12))) (by kernel_rfl) (by kernel_rfl) (f20_ok base (d - 1) (dpt hd rfl)  z12 hz12) (by kernel_rfl) (by kernel_rfl) (by kernel_rfl)) ?_
  refine zlRun (n := 1) (j := 2) rfl (by kernel_rfl) ?_
  refine zlSplit 22 z12 (by kernel_rfl) (fun hc => ?_) (fun hc => ?_)
  · replace hS := cond_t hc hS
    refine zlRun (n := 2) (j := 4) rfl (by kernel_rfl) ?_
    refine zlBool (d := 25) (op := (.cmpI .eql (.tmp 24) (.const (.int .i64 0)))) (g := (some (22, true))) (j := 5) (decide ((p16.length : Int) = 0)) rfl (by kernel_rfl) (by kernel_rfl) (by kernel_rfl) (fun hc => ?_) (fun hc => ?_)
    · replace hS := cond_t hc hS
      refine zlRun (n := 2) (j := 7) rfl (by kernel_rfl) ?_
      refine zlEnd (by kernel_rfl) ?_
      refine zkSeq ?_
      refine zrRet ?_
      refine zkSeqR ?_
      refine zkNil ?_
      exact endQ hS hQ (fRet ((congrArg (fun s => outR s 0 c6.res) (by kernel_rfl : finSt c6.fin _ = f6_fin true)).trans (f6_out true)))
    · replace hS := cond_f hc hS
      refine zlRun (n := 2) (j := 7) rfl (by kernel_rfl) ?_
      refine zlEnd (by kernel_rfl) ?_
      refine zkSeq ?_
      refine zrRet ?_
      refine zkSeqR ?_
      refine zkNil ?_
      exact endQ hS hQ (fRet ((congrArg (fun s => outR s 0 c6.res) (by kernel_rfl : finSt c6.fin _ = f6_fin false)).trans (f6_out false)))
  · replace hS := cond_f hc hS
    refine zlRun (n := 5) (j := 7) rfl (by kernel_rfl) ?_
    refine zlEnd (by kernel_rfl) ?_
    refine zkSeq ?_
    refine zrRet ?_
    refine zkSeqR ?_
    refine zkNil ?_
    exact endQ hS hQ (fRet ((congrArg (fun s => outR s 0 c6.res) (by kernel_rfl : finSt c6.fin _ = f6_fin false)).trans (f6_out false)))
noncomputable def f6 (a1 : List (List Int)) (a2 : Int) : Option (Bool) := ((f19 a1 a2).bind fun z6 => (f20.bind fun z13 => (bif (!z13) then (f6_j1 a1 a2 z6.1) else (bif (!decide (z6.2 = 0)) then (f6_j1 a1 a2 z6.1) else (f6_j0 a1 a2 z6.1)))))
theorem f6_ok (base : Orc) (d : Nat) (hd : 7 ≤ d) (a1 : List (List Int)) (a2 : Int) (r : Bool) (hS : f6 a1 a2 = some r) : lev codes base d 6 [(.d (.sl a1.length ((eSl (eInt .i64)).cells a1))), (.d (.int .i64 a2))] [] = some ((.d (.bool r)), []) := by
  refine lev_go codes6 rfl rfl (Nat.le_trans (Nat.le_of_ble_eq_true rfl) hd) fun Q hQ => ?_
  unfold f6 at hS
  show ZR _ Q c6_b [] _
  replace hQ : ∀ e st', f6_Q r e st' → Q e st' := hQ
  refine zrSeq ?_
  refine zrReg ?_
  refine zlRun (n := 1) (j := 1) rfl (by kernel_rfl) ?_
  refine zlEnd (by kernel_rfl) ?_
  refine zkSeq ?_
  refine zrSeq ?_
  refine zrReg ?_
  refine zlRun (n := 2) (j := 2) rfl (by kernel_rfl) ?_
  refine bindE hS (fun z6 hz6 hS => ?_)
  refine zlOp (d := some 12) (op := (.callf 19 [(.tmp 10), (.tmp 11)])) (g := none) (v := (.tup [(.r (.msl 104 1 0 z6.1.length)), (.d (.int .i64 z6.2))])) (ups := [(104, ⟨1, some (.own 39 2 (e_GRow.cells z6.1))⟩)]) (j := 3) rfl (by kernel_rfl) (by kernel_rfl) (ev_callF (args := [(.d (.sl a1.length ((eSl (eInt .i64)).cells a1))), (.d (.int .i64 a2))]) (args' := [(.d (.sl a1.length ((eSl (eInt .i64)).cells a1))), (.d (.int .i64 a2))]) (l := [(.d (.sl a1.length ((eSl (eInt .i64)).cells a1))), (.d (.int .i64 a2))]) (refs := []) (r := (.tup [(.r (.own 0 39 2 z6.1.length (e_GRow.cells z6.1))), (.d (.int .i64 z6.2))])) (v := (.tup [(.r (.msl 104 1 0 z6.1.length)), (.d (.int .i64 z6.2))])) (ups' := [(104, ⟨1, some (.own 39 2 (e_GRow.cells z6.1))⟩)]) (by kernel_rfl) (by kernel_rfl) (by kernel_rfl) (fz_cons rfl (fz_cons rfl fz_nil)) (by kernel_rfl) (f19_ok base (d - 1) (dpt hd rfl) a1 a2 z6 hz6) (by kernel_rfl) (by kernel_rfl) (by kernel_rfl) (by kernel_rfl)) ?_
  refine zlRun (n := 5) (j := 8) rfl (by kernel_rfl) ?_
  refine zlEnd (by kernel_rfl) ?_
  refine zkSeq ?_
  refine zrSeq ?_
  refine zrSeq ?_
  refine zrReg ?_
  refine bindE hS (fun z13 hz13 hS => ?_)
  refine zlOp (d := some 15) (op := (.call 20 [])) (g := none) (v := (.d (.bool z13))) (ups := []) (j := 1) rfl (by kernel_rfl) (by kernel_rfl) (ev_call (args := []) (l := []) (r := (.d (.bool z13))) (by kernel_rfl) (by kernel_rfl) (f20_ok base (d - 1) (dpt hd rfl)  z13 hz13) (by kernel_rfl) (by kernel_rfl) (by kernel_rfl)) ?_
  refine zlRun (n := 2) (j := 3) rfl (by kernel_rfl) ?_
  refine zlSplit 17 (!z13) (by kernel_rfl) (fun hc => ?_) (fun hc => ?_)
  · replace hS := cond_t hc hS
    refine zlRun (n := 3) (j := 6) rfl (by kernel_rfl) ?_
    refine zlEnd (by kernel_rfl) ?_
    refine zkSeq ?_
    refine zrCondT (by kernel_rfl) ?_
    exact f6_j1_ok hd a1 a2 hQ z6.1 hS (by kernel_rfl)
  · replace hS := cond_f hc hS
    refine zlRun (n := 1) (j := 4) rfl (by kernel_rfl) ?_
    refine zlBool (d := 19) (op := (.cmpI .neq (.tmp 18) (.const (.int .i64 0)))) (g := (some (17, false))) (j := 5) (!decide (z6.2 = 0)) rfl (by kernel_rfl) (by kernel_rfl) (by kernel_rfl) (fun hc => ?_) (fun hc => ?_)
    · replace hS := cond_t hc hS
      refine zlRun (n := 1) (j := 6) rfl (by kernel_rfl) ?_
      refine zlEnd (by kernel_rfl) ?_
      refine zkSeq ?_
      refine zrCondT (by kernel_rfl) ?_
      exact f6_j1_ok hd a1 a2 hQ z6.1 hS (by kernel_rfl)
    · replace hS := cond_f hc hS
      refine zlRun (n := 1) (j := 6) rfl (by kernel_rfl) ?_
      refine zlEnd (by kernel_rfl) ?_
      refine zkSeq ?_
      refine zrCondF (by kernel_rfl) ?_
      refine zrSkip ?_
      refine zkSeq ?_
      exact f6_j0_ok hd a1 a2 hQ z6.1 hS (by kernel_rfl)
/- farwriter/flow.Again -/
def f23_fin (p5 : List GRow) (p6 : Int) : St := ⟨(up (up (fun _ => .un) 5 (.d (.int .i64 p6))) 4 (.r (.msl 201 0 0 p5.length))), (up (hB fun _ => 0) 201 ⟨0, some (.own 39 2 (e_GRow.cells p5))⟩)⟩
theorem f23_out (p5 : List GRow) (p6 : Int) : outR (f23_fin p5 p6) 0 c23.res = some ((.tup [(.r (.own 0 39 2 p5.length (e_GRow.cells p5))), (.d (.int .i64 p6))]), []) := by
  exact out_of (ids := []) (ids' := [201]) (l := [(.r (.msl 201 0 0 p5.length)), (.d (.int .i64 p6))]) (by kernel_rfl) (by kernel_rfl) (o_tup (o_cons (o_own e_GRow (e := 39) (k := 2) (xs := p5) (by kernel_rfl) rfl rfl rfl rfl) (o_cons rfl o_nil)))
def f23_Q (r : (List GRow) × Int) (e : PX) (st : St) : Prop := DoneF c23 0 ((.tup [(.r (.own 0 39 2 r.1.length (e_GRow.cells r.1))), (.d (.int .i64 r.2))]), []) e st
def f23_j0_J (a1 : List GRow) (a2 : Int) (p10 : List (List Int)) : St := ⟨(up (up (fun _ => .un) 6 (.r (.msl 88 0 0 p10.length))) 1 (.d (.int .i64 a2))), (up (hB fun _ => 0) 88 ⟨0, some (.own 22 1 ((eSl (eInt .i64)).cells p10))⟩)⟩
noncomputable def f23_j0 (a1 : List GRow) (a2 : Int) (p10 : List (List Int)) : Option ((List GRow) × Int) := ((f19 p10 a2).bind fun z4 => (some (z4.1, z4.2)))
theorem f23_j0_ok {base : Orc} {d : Nat} (hd : 6 ≤ d) (a1 : List GRow) (a2 : Int) {r : (List GRow) × Int} {Q : PX → St → Prop} (hQ : ∀ e st', f23_Q r e st' → Q e st') (p10 : List (List Int)) (hS : f23_j0 a1 a2 p10 = some r) {st : St} (he : keepSt [1, 6] [(88, .id 88)] [] st = f23_j0_J a1 a2 p10) : ZR (lev codes base (d - 1)) Q c23_1 [] st := by
  refine zrKeep he ?_
  unfold f23_j0 at hS
  refine zrSeq ?_
  refine zrReg ?_
  refine zlRun (n := 2) (j := 2) rfl (by kernel_rfl) ?_
  refine bindE hS (fun z4 hz4 hS => ?_)
  refine zlOp (d := some 18) (op := (.callf 19 [(.tmp 16), (.tmp 17)])) (g := none) (v := (.tup [(.r (.msl 152 1 0 z4.1.length)), (.d (.int .i64 z4.2))])) (ups := [(88, ⟨1, none⟩), (152, ⟨1, some (.own 39 2 (e_GRow.cells z4.1))⟩)]) (j := 3) rfl (by kernel_rfl) (by kernel_rfl) (ev_callF (args := [(.r (.msl 88 0 0 p10.length)), (.d (.int .i64 a2))]) (args' := [(.d (.sl p10.length ((eSl (eInt .i64)).cells p10))), (.d (.int .i64 a2))]) (l := [(.d (.sl p10.length ((eSl (eInt .i64)).cells p10))), (.d (.int .i64 a2))]) (refs := [88]) (r := (.tup [(.r (.own 0 39 2 z4.1.length (e_GRow.cells z4.1))), (.d (.int .i64 z4.2))])) (v := (.tup [(.r (.msl 152 1 0 z4.1.length)), (.d (.int .i64 z4.2))])) (ups' := [(152, ⟨1, some (.own 39 2 (e_GRow.cells z4.1))⟩)]) (by kernel_rfl) (by kernel_rfl) (by kernel_rfl) (fz_cons (fz_own (eSl (eInt .i64)) (e := 22) (k := 1) (xs := p10) (by kernel_rfl) (by kernel_rfl) rfl rfl) (fz_cons rfl fz_nil)) (by kernel_rfl) (f19_ok base (d - 1) (dpt hd rfl) p10 a2 z4 hz4) (by kernel_rfl) (by kernel_rfl) (by kernel_rfl) (by kernel_rfl)) ?_
  refine zlRun (n := 4) (j := 7) rfl (by kernel_rfl) ?_
  refine zlEnd (by kernel_rfl) ?_
  refine zkSeq ?_
  refine zrRet ?_
  refine zkNil ?_
  exact endQ hS hQ (fRet ((congrArg (fun s => outR s 0 c23.res) (by kernel_rfl : finSt c23.fin _ = f23_fin z4.1 z4.2)).trans (f23_out z4.1 z4.2)))
noncomputable def f23 (a1 : List GRow) (a2 : Int) : Option ((List GRow) × Int) := ((f21 a1).bind fun z3 => (bif (!decide (z3.2 = 0)) then (some ([], z3.2)) else (f23_j0 a1 a2 z3.1)))
theorem f23_ok (base : Orc) (d : Nat) (hd : 6 ≤ d) (a1 : List GRow) (a2 : Int) (r : (List GRow) × Int) (hS : f23 a1 a2 = some r) : lev codes base d 23 [(.d (.sl a1.length (e_GRow.cells a1))), (.d (.int .i64 a2))] [] = some ((.tup [(.r (.own 0 39 2 r.1.length (e_GRow.cells r.1))), (.d (.int .i64 r.2))]), []) := by
  refine lev_go codes23 rfl rfl (Nat.le_trans (Nat.le_of_ble_eq_true rfl) hd) fun Q hQ => ?_
  unfold f23 at hS
  show ZR _ Q c23_b [] _
  replace hQ : ∀ e st', f23_Q r e st' → Q e st' := hQ
  refine zrSeq ?_
  refine zrReg ?_
  refine zlRun (n := 2) (j := 2) rfl (by kernel_rfl) ?_
  refine zlEnd (by kernel_rfl) ?_
  refine zkSeq ?_
  refine zrSeq ?_
  refine zrReg ?_
  refine zlRun (n := 1) (j := 1) rfl (by kernel_rfl) ?_
  refine bindE hS (fun z3 hz3 hS => ?_)
  refine zlOp (d := some 10) (op := (.callf 21 [(.tmp 9)])) (g := none) (v := (.tup [(.r (.msl 88 1 0 z3.1.length)), (.d (.int .i64 z3.2))])) (ups := [(88, ⟨1, some (.own 22 1 ((eSl (eInt .i64)).cells z3.1))⟩)]) (j := 2) rfl (by kernel_rfl) (by kernel_rfl) (ev_callF (args := [(.d (.sl a1.length (e_GRow.cells a1)))]) (args' := [(.d (.sl a1.length (e_GRow.cells a1)))]) (l := [(.d (.sl a1.length (e_GRow.cells a1)))]) (refs := []) (r := (.tup [(.r (.own 0 22 1 z3.1.length ((eSl (eInt .i64)).cells z3.1))), (.d (.int .i64 z3.2))])) (v := (.tup [(.r (.msl 88 1 0 z3.1.length)), (.d (.int .i64 z3.2))])) (ups' := [(88, ⟨1, some (.own 22 1 ((eSl (eInt .i64)).cells z3.1))⟩)]) (by kernel_rfl) (by kernel_rfl) (by kernel_rfl) (fz_cons rfl fz_nil) (by kernel_rfl) (f21_ok base (d - 1) (dpt hd rfl) a1 z3 hz3) (by kernel_rfl) (by kernel_rfl) (by kernel_rfl) (by kernel_rfl)) ?_
  refine zlRun (n := 5) (j := 7) rfl (by kernel_rfl) ?_
  refine zlEnd (by kernel_rfl) ?_
  refine zkSeq ?_
  refine zrSeq ?_
  refine zrSeq ?_
  refine zrReg ?_
  refine zlRun (n := 1) (j := 1) rfl (by kernel_rfl) ?_
  refine zlBool (d := 14) (op := (.cmpI .neq (.tmp 13) (.const (.int .i64 0)))) (g := none) (j := 2) (!decide (z3.2 = 0)) rfl (by kernel_rfl) (by kernel_rfl) (by kernel_rfl) (fun hc => ?_) (fun hc => ?_)
  · replace hS := cond_t hc hS
    refine zlEnd (by kernel_rfl) ?_
    refine zkSeq ?_
    refine zrCondT (by kernel_rfl) ?_
    refine zrSeq ?_
    refine zrReg ?_
    refine zlRun (n := 3) (j := 3) rfl (by kernel_rfl) ?_
    refine zlEnd (by kernel_rfl) ?_
    refine zkSeq ?_
    refine zrRet ?_
    refine zkSeqR ?_
    refine zkNil ?_
    exact endQ hS hQ (fRet ((congrArg (fun s => outR s 0 c23.res) (by kernel_rfl : finSt c23.fin _ = f23_fin [] z3.2)).trans (f23_out [] z3.2)))
  · replace hS := cond_f hc hS
    refine zlEnd (by kernel_rfl) ?_
    refine zkSeq ?_
    refine zrCondF (by kernel_rfl) ?_
    refine zrSkip ?_
    refine zkSeq ?_
    exact f23_j0_ok hd a1 a2 hQ z3.1 hS (by kernel_rfl)
/- farwriter/farkeep.FlowWays -/
def f7_fin (p19 : Bool) : St := ⟨(up (fun _ => .un) 6 (.d (.bool p19))), (hB fun _ => 0)⟩
theorem f7_out (p19 : Bool) : outR (f7_fin p19) 0 c7.res = some ((.d (.bool p19)), []) := by
  kernel_rfl
def f7_Q (r : Bool) (e : PX) (st : St) : Prop := DoneF c7 0 ((.d (.bool r)), []) e st
def f7_j2_J (a1 : List (List Int)) (a2 : Int) (a3 : Int) (p31 : List GRow) (p32 : List GRow) (p33 : List GRow) (p34 : Int) : St := ⟨(up (up (up (up (up (fun _ => .un) 12 (.d (.int .i64 p34))) 11 (.r (.msl 352 0 0 p33.length))) 9 (.d (.sl p32.length (e_GRow.cells p32)))) 7 (.d (.sl p31.length (e_GRow.cells p31)))) 1 (.d (.int .i64 a2))), (up (hB fun _ => 0) 352 ⟨0, some (.own 39 2 (e_GRow.cells p33))⟩)⟩
noncomputable def f7_j2 (a1 : List (List Int)) (a2 : Int) (a3 : Int) (p31 : List GRow) (p32 : List GRow) (p33 : List GRow) (p34 : Int) : Option (Bool) := ((f23 p32 a2).bind fun z16 => ((f23 p31 a2).bind fun z17 => (bif (decide (p34 = 0)) then (bif (decide (z16.2 = 0)) then (bif (decide (z17.2 = 0)) then ((f24 p32 p33).bind fun z18 => (bif z18 then ((f24 z16.1 p31).bind fun z19 => (bif z19 then ((f24 z17.1 p31).bind fun z20 => (some z20)) else (some false))) else (some false))) else (some false)) else (some false)) else (some false))))
theorem f7_j2_ok {base : Orc} {d : Nat} (hd : 7 ≤ d) (a1 : List (List Int)) (a2 : Int) (a3 : Int) {r : Bool} {Q : PX → St → Prop} (hQ : ∀ e st', f7_Q r e st' → Q e st') (p31 : List GRow) (p32 : List GRow) (p33 : List GRow) (p34 : Int) (hS : f7_j2 a1 a2 a3 p31 p32 p33 p34 = some r) {st : St} (he : keepSt [1, 7, 9, 11, 12] [(352, .id 352)] [] st = f7_j2_J a1 a2 a3 p31 p32 p33 p34) : ZR (lev codes base (d - 1)) Q c7_1 [] st := by
  refine zrKeep he ?_
  unfold f7_j2 at hS
  refine zrSeq ?_
  refine zrReg ?_
  refine zlRun (n := 2) (j := 2) rfl (by kernel_rfl) ?_
  refine bindE hS (fun z16 hz16 hS => ?_)
  refine zlOp (d := some 49) (op := (.callf 23 [(.tmp 47), (.tmp 48)])) (g := none) (v := (.tup [(.r (.msl 400 1 0 z16.1.length)), (.d (.int .i64 z16.2))])) (ups := [(400, ⟨1, some (.own 39 2 (e_GRow.cells z16.1))⟩)]) (j := 3) rfl (by kernel_rfl) (by kernel_rfl) (ev_callF (args := [(.d (.sl p32.length (e_GRow.cells p32))), (.d (.int .i64 a2))]) (args' := [(.d (.sl p32.length (e_GRow.cells p32))), (.d (.int .i64 a2))]) (l := [(.d (.sl p32.length (e_GRow.cells p32))), (.d (.int .i64 a2))]) (refs := []) (r := (.tup [(.r (.own 0 39 2 z16.1.length (e_GRow.cells z16.1))), (.d (.int .i64 z16.2))])) (v := (.tup [(.r (.msl 400 1 0 z16.1.length)), (.d (.int .i64 z16.2))])) (ups' := [(400, ⟨1, some (.own 39 2 (e_GRow.cells z16.1))⟩)]) (by kernel_rfl) (by kernel_rfl) (by kernel_rfl) (fz_cons rfl (fz_cons rfl fz_nil)) (by kernel_rfl) (f23_ok base (d - 1) (dpt hd rfl) p32 a2 z16 hz16) (by kernel_rfl) (by kernel_rfl) (by kernel_rfl) (by kernel_rfl)) ?_
  refine zlRun (n := 5) (j := 8) rfl (by kernel_rfl) ?_
  refine zlEnd (by kernel_rfl) ?_
  refine zkSeq ?_
  refine zrSeq ?_
  refine zrReg ?_
  refine zlRun (n := 2) (j := 2) rfl (by kernel_rfl) ?_
  refine bindE hS (fun z17 hz17 hS => ?_)
  refine zlOp (d := some 55) (op := (.callf 23 [(.tmp 53), (.tmp 54)])) (g := none) (v := (.tup [(.r (.msl 448 1 0 z17.1.length)), (.d (.int .i64 z17.2))])) (ups := [(448, ⟨1, some (.own 39 2 (e_GRow.cells z17.1))⟩)]) (j := 3) rfl (by kernel_rfl) (by kernel_rfl) (ev_callF (args := [(.d (.sl p31.length (e_GRow.cells p31))), (.d (.int .i64 a2))]) (args' := [(.d (.sl p31.length (e_GRow.cells p31))), (.d (.int .i64 a2))]) (l := [(.d (.sl p31.length (e_GRow.cells p31))), (.d (.int .i64 a2))]) (refs := []) (r := (.tup [(.r (.own 0 39 2 z17.1.length (e_GRow.cells z17.1))), (.d (.int .i64 z17.2))])) (v := (.tup [(.r (.msl 448 1 0 z17.1.length)), (.d (.int .i64 z17.2))])) (ups' := [(448, ⟨1, some (.own 39 2 (e_GRow.cells z17.1))⟩)]) (by kernel_rfl) (by kernel_rfl) (by kernel_rfl) (fz_cons rfl (fz_cons rfl fz_nil)) (by kernel_rfl) (f23_ok base (d - 1) (dpt hd rfl) p31 a2 z17 hz17) (by kernel_rfl) (by kernel_rfl) (by kernel_rfl) (by kernel_rfl)) ?_
  refine zlRun (n := 5) (j := 8) rfl (by kernel_rfl) ?_
  refine zlEnd (by kernel_rfl) ?_
  refine zkSeq ?_
  refine zrSeq ?_
  refine zrReg ?_
  refine zlRun (n := 1) (j := 1) rfl (by kernel_rfl) ?_
  refine zlBool (d := 59) (op := (.cmpI .eql (.tmp 58) (.const (.int .i64 0)))) (g := none) (j := 2) (decide (p34 = 0)) rfl (by kernel_rfl) (by kernel_rfl) (by kernel_rfl) (fun hc => ?_) (fun hc => ?_)
  · replace hS := cond_t hc hS
    refine zlRun (n := 2) (j := 4) rfl (by kernel_rfl) ?_
    refine zlBool (d := 62) (op := (.cmpI .eql (.tmp 61) (.const (.int .i64 0)))) (g := (some (60, true))) (j := 5) (decide (z16.2 = 0)) rfl (by kernel_rfl) (by kernel_rfl) (by kernel_rfl) (fun hc => ?_) (fun hc => ?_)
    · replace hS := cond_t hc hS
      refine zlRun (n := 3) (j := 8) rfl (by kernel_rfl) ?_
      refine zlBool (d := 66) (op := (.cmpI .eql (.tmp 65) (.const (.int .i64 0)))) (g := (some (64, true))) (j := 9) (decide (z17.2 = 0)) rfl (by kernel_rfl) (by kernel_rfl) (by kernel_rfl) (fun hc => ?_) (fun hc => ?_)
      · replace hS := cond_t hc hS
        refine zlRun (n := 4) (j := 13) rfl (by kernel_rfl) ?_
        refine bindE hS (fun z18 hz18 hS => ?_)
        refine zlOp (d := some 71) (op := (.call 24 [(.tmp 69), (.tmp 70)])) (g := (some (68, true))) (v := (.d (.bool z18))) (ups := []) (j := 14) rfl (by kernel_rfl) (by kernel_rfl) (ev_call (args := [(.d (.sl p32.length (e_GRow.cells p32))), (.r (.msl 352 0 0 p33.length))]) (l := [(.d (.sl p32.length (e_GRow.cells p32))), (.d (.sl p33.length (e_GRow.cells p33)))]) (r := (.d (.bool z18))) (by kernel_rfl) (l_cons (by kernel_rfl) (l_cons (l_own e_GRow (e := 39) (k := 2) (xs := p33) (by kernel_rfl) rfl rfl) l_nil)) (f24_ok base (d - 1) (dpt hd rfl) p32 p33 z18 hz18) (by kernel_rfl) (by kernel_rfl) (by kernel_rfl)) ?_
        refine zlRun (n := 2) (j := 16) rfl (by kernel_rfl) ?_
        refine zlSplit 73 z18 (by kernel_rfl) (fun hc => ?_) (fun hc => ?_)
        · replace hS := cond_t hc hS
          refine zlRun (n := 2) (j := 18) rfl (by kernel_rfl) ?_
          refine bindE hS (fun z19 hz19 hS => ?_)
          refine zlOp (d := some 76) (op := (.call 24 [(.tmp 74), (.tmp 75)])) (g := (some (73, true))) (v := (.d (.bool z19))) (ups := []) (j := 19) rfl (by kernel_rfl) (by kernel_rfl) (ev_call (args := [(.r (.msl 400 1 0 z16.1.length)), (.d (.sl p31.length (e_GRow.cells p31)))]) (l := [(.d (.sl z16.1.length (e_GRow.cells z16.1))), (.d (.sl p31.length (e_GRow.cells p31)))]) (r := (.d (.bool z19))) (by kernel_rfl) (l_cons (l_own e_GRow (e := 39) (k := 2) (xs := z16.1) (by kernel_rfl) rfl rfl) (l_cons (by kernel_rfl) l_nil)) (f24_ok base (d - 1) (dpt hd rfl) z16.1 p31 z19 hz19) (by kernel_rfl) (by kernel_rfl) (by kernel_rfl)) ?_
          refine zlRun (n := 2) (j := 21) rfl (by kernel_rfl) ?_
          refine zlSplit 78 z19 (by kernel_rfl) (fun hc => ?_) (fun hc => ?_)
          · replace hS := cond_t hc hS
            refine zlRun (n := 2) (j := 23) rfl (by kernel_rfl) ?_
            refine bindE hS (fun z20 hz20 hS => ?_)
            refine zlOp (d := some 81) (op := (.call 24 [(.tmp 79), (.tmp 80)])) (g := (some (78, true))) (v := (.d (.bool z20))) (ups := []) (j := 24) rfl (by kernel_rfl) (by kernel_rfl) (ev_call (args := [(.r (.msl 448 1 0 z17.1.length)), (.d (.sl p31.length (e_GRow.cells p31)))]) (l := [(.d (.sl z17.1.length (e_GRow.cells z17.1))), (.d (.sl p31.length (e_GRow.cells p31)))]) (r := (.d (.bool z20))) (by kernel_rfl) (l_cons (l_own e_GRow (e := 39) (k := 2) (xs := z17.1) (by kernel_rfl) rfl rfl) (l_cons (by kernel_rfl) l_nil)) (f24_ok base (d - 1) (dpt hd rfl) z17.1 p31 z20 hz20) (by kernel_rfl) (by kernel_rfl) (by kernel_rfl)) ?_
            refine zlRun (n := 2) (j := 26) rfl (by kernel_rfl) ?_
            refine zlEnd (by kernel_rfl) ?_
            refine zkSeq ?_
            refine zrRet ?_
            refine zkNil ?_
            exact endQ hS hQ (fRet ((congrArg (fun s => outR s 0 c7.res) (by kernel_rfl : finSt c7.fin _ = f7_fin z20)).trans (f7_out z20)))
          · replace hS := cond_f hc hS
            refine zlRun (n := 5) (j := 26) rfl (by kernel_rfl) ?_
            refine zlEnd (by kernel_rfl) ?_
            refine zkSeq ?_
            refine zrRet ?_
            refine zkNil ?_
            exact endQ hS hQ (fRet ((congrArg (fun s => outR s 0 c7.res) (by kernel_rfl : finSt c7.fin _ = f7_fin false)).trans (f7_out false)))
        · replace hS := cond_f hc hS
          refine zlRun (n := 10) (j := 26) rfl (by kernel_rfl) ?_
          refine zlEnd (by kernel_rfl) ?_
          refine zkSeq ?_
          refine zrRet ?_
          refine zkNil ?_
          exact endQ hS hQ (fRet ((congrArg (fun s => outR s 0 c7.res) (by kernel_rfl : finSt c7.fin _ = f7_fin false)).trans (f7_out false)))
      · replace hS := cond_f hc hS
        refine zlRun (n := 17) (j := 26) rfl (by kernel_rfl) ?_
        refine zlEnd (by kernel_rfl) ?_
        refine zkSeq ?_
        refine zrRet ?_
        refine zkNil ?_
        exact endQ hS hQ (fRet ((congrArg (fun s => outR s 0 c7.res) (by kernel_rfl : finSt c7.fin _ = f7_fin false)).trans (f7_out false)))
    · replace hS := cond_f hc hS
      refine zlRun (n := 21) (j := 26) rfl (by kernel_rfl) ?_
      refine zlEnd (by kernel_rfl) ?_
      refine zkSeq ?_
      refine zrRet ?_
      refine zkNil ?_
      exact endQ hS hQ (fRet ((congrArg (fun s => outR s 0 c7.res) (by kernel_rfl : finSt c7.fin _ = f7_fin false)).trans (f7_out false)))
  · replace hS := cond_f hc hS
    refine zlRun (n := 24) (j := 26) rfl (by kernel_rfl) ?_
    refine zlEnd (by kernel_rfl) ?_
    refine zkSeq ?_
    refine zrRet ?_
    refine zkNil ?_
    exact endQ hS hQ (fRet ((congrArg (fun s => outR s 0 c7.res) (by kernel_rfl : finSt c7.fin _ = f7_fin false)).trans (f7_out false)))
def f7_j1_J (a1 : List (List Int)) (a2 : Int) (a3 : Int) (p29 : List GRow) (p30 : List GRow) : St := ⟨(up (up (up (up (up (fun _ => .un) 9 (.r (.msl 216 0 0 p30.length))) 7 (.d (.sl p29.length (e_GRow.cells p29)))) 2 (.d (.int .i64 a3))) 1 (.d (.int .i64 a2))) 0 (.d (.sl a1.length ((eSl (eInt .i64)).cells a1)))), (up (hB fun _ => 0) 216 ⟨0, some (.own 39 2 (e_GRow.cells p30))⟩)⟩
noncomputable def f7_j1 (a1 : List (List Int)) (a2 : Int) (a3 : Int) (p29 : List GRow) (p30 : List GRow) : Option (Bool) := ((f19 a1 a3).bind fun z15 => (f7_j2 a1 a2 a3 p29 p30 z15.1 z15.2))
theorem f7_j1_ok {base : Orc} {d : Nat} (hd : 7 ≤ d) (a1 : List (List Int)) (a2 : Int) (a3 : Int) {r : Bool} {Q : PX → St → Prop} (hQ : ∀ e st', f7_Q r e st' → Q e st') (p29 : List GRow) (p30 : List GRow) (hS : f7_j1 a1 a2 a3 p29 p30 = some r) {st : St} (he : keepSt [0, 1, 2, 7, 9] [(216, .id 216)] [] st = f7_j1_J a1 a2 a3 p29 p30) : ZR (lev codes base (d - 1)) Q c7_2 [] st := by
  refine zrKeep he ?_
  unfold f7_j1 at hS
  refine zrSeq ?_
  refine zrReg ?_
  refine zlRun (n := 2) (j := 2) rfl (by kernel_rfl) ?_
  refine bindE hS (fun z15 hz15 hS => ?_)
  refine zlOp (d := some 43) (op := (.callf 19 [(.tmp 41), (.tmp 42)])) (g := none) (v := (.tup [(.r (.msl 352 1 0 z15.1.length)), (.d (.int .i64 z15.2))])) (ups := [(352, ⟨1, some (.own 39 2 (e_GRow.cells z15.1))⟩)]) (j := 3) rfl (by kernel_rfl) (by kernel_rfl) (ev_callF (args := [(.d (.sl a1.length ((eSl (eInt .i64)).cells a1))), (.d (.int .i64 a3))]) (args' := [(.d (.sl a1.length ((eSl (eInt .i64)).cells a1))), (.d (.int .i64 a3))]) (l := [(.d (.sl a1.length ((eSl (eInt .i64)).cells a1))), (.d (.int .i64 a3))]) (refs := []) (r := (.tup [(.r (.own 0 39 2 z15.1.length (e_GRow.cells z15.1))), (.d (.int .i64 z15.2))])) (v := (.tup [(.r (.msl 352 1 0 z15.1.length)), (.d (.int .i64 z15.2))])) (ups' := [(352, ⟨1, some (.own 39 2 (e_GRow.cells z15.1))⟩)]) (by kernel_rfl) (by kernel_rfl) (by kernel_rfl) (fz_cons rfl (fz_cons rfl fz_nil)) (by kernel_rfl) (f19_ok base (d - 1) (dpt hd rfl) a1 a3 z15 hz15) (by kernel_rfl) (by kernel_rfl) (by kernel_rfl) (by kernel_rfl)) ?_
  refine zlRun (n := 5) (j := 8) rfl (by kernel_rfl) ?_
  refine zlEnd (by kernel_rfl) ?_
  refine zkSeq ?_
  exact f7_j2_ok hd a1 a2 a3 hQ p29 p30 z15.1 z15.2 hS (by exact (by kernel_rfl : _ = (⟨(up (up (up (up (up (fun _ => .un) 12 (.d (.int .i64 z15.2))) 11 (.r (.msl 352 0 0 z15.1.length))) 9 (.d (.sl p30.length (((e_GRow.cells p30).drop (0 * e_GRow.k)).take (p30.length * e_GRow.k))))) 7 (.d (.sl p29.length (e_GRow.cells p29)))) 1 (.d (.int .i64 a2))), (up (hB fun _ => 0) 352 ⟨0, some (.own 39 2 (e_GRow.cells z15.1))⟩)⟩ : St)).trans (by simp only [Enc.frz]; kernel_rfl))
def f7_j0_J (a1 : List (List Int)) (a2 : Int) (a3 : Int) (p20 : List GRow) (p21 : Int) : St := ⟨(up (up (up (up (up (fun _ => .un) 8 (.d (.int .i64 p21))) 7 (.d (.sl p20.length (e_GRow.cells p20)))) 2 (.d (.int .i64 a3))) 1 (.d (.int .i64 a2))) 0 (.d (.sl a1.length ((eSl (eInt .i64)).cells a1)))), (hB fun _ => 0)⟩
noncomputable def f7_j0 (a1 : List (List Int)) (a2 : Int) (a3 : Int) (p20 : List GRow) (p21 : Int) : Option (Bool) := ((f23 p20 a3).bind fun z12 => (f20.bind fun z21 => (bif (!z21) then (f20.bind fun z22 => (some z22)) else (bif (!decide (p21 = 0)) then (f20.bind fun z23 => (some z23)) else (bif (!decide (z12.2 = 0)) then (f20.bind fun z24 => (some z24)) else (f7_j1 a1 a2 a3 p20 z12.1))))))
theorem f7_j0_ok {base : Orc} {d : Nat} (hd : 7 ≤ d) (a1 : List (List Int)) (a2 : Int) (a3 : Int) {r : Bool} {Q : PX → St → Prop} (hQ : ∀ e st', f7_Q r e st' → Q e st') (p20 : List GRow) (p21 : Int) (hS : f7_j0 a1 a2 a3 p20 p21 = some r) {st : St} (he : keepSt [0, 1, 2, 7, 8] [] [] st = f7_j0_J a1 a2 a3 p20 p21) : ZR (lev codes base (d - 1)) Q c7_3 [] st := by
  refine zrKeep he ?_
  unfold f7_j0 at hS
  refine zrSeq ?_
  refine zrReg ?_
  refine zlRun (n := 2) (j := 2) rfl (by kernel_rfl) ?_
  refine bindE hS (fun z12 hz12 hS => ?_)
  refine zlOp (d := some 26) (op := (.callf 23 [(.tmp 24), (.tmp 25)])) (g := none) (v := (.tup [(.r (.msl 216 1 0 z12.1.length)), (.d (.int .i64 z12.2))])) (ups := [(216, ⟨1, some (.own 39 2 (e_GRow.cells z12.1))⟩)]) (j := 3) rfl (by kernel_rfl) (by kernel_rfl) (ev_callF (args := [(.d (.sl p20.length (e_GRow.cells p20))), (.d (.int .i64 a3))]) (args' := [(.d (.sl p20.length (e_GRow.cells p20))), (.d (.int .i64 a3))]) (l := [(.d (.sl p20.length (e_GRow.cells p20))), (.d (.int .i64 a3))]) (refs := []) (r := (.tup [(.r (.own 0 39 2 z12.1.length (e_GRow.cells z12.1))), (.d (.int .i64 z12.2))])) (v := (.tup [(.r (.msl 216 1 0 z12.1.length)), (.d (.int .i64 z12.2))])) (ups' := [(216, ⟨1, some (.own 39 2 (e_GRow.cells z12.1))⟩)]) (by kernel_rfl) (by kernel_rfl) (by kernel_rfl) (fz_cons rfl (fz_cons rfl fz_nil)) (by kernel_rfl) (f23_ok base (d - 1) (dpt hd rfl) p20 a3 z12 hz12) (by kernel_rfl) (by kernel_rfl) (by kernel_rfl) (by kernel_rfl)) ?_
  refine zlRun (n := 5) (j := 8) rfl (by kernel_rfl) ?_
  refine zlEnd (by kernel_rfl) ?_
  refine zkSeq ?_
  refine zrSeq ?_
  refine zrSeq ?_
  refine zrReg ?_
  refine bindE hS (fun z21 hz21 hS => ?_)
  refine zlOp (d := some 29) (op := (.call 20 [])) (g := none) (v := (.d (.bool z21))) (ups := []) (j := 1) rfl (by kernel_rfl) (by kernel_rfl) (ev_call (args := []) (l := []) (r := (.d (.bool z21))) (by kernel_rfl) (by kernel_rfl) (f20_ok base (d - 1) (dpt hd rfl)  z21 hz21) (by kernel_rfl) (by kernel_rfl) (by kernel_rfl)) ?_
  refine zlRun (n := 2) (j := 3) rfl (by kernel_rfl) ?_
  refine zlSplit 31 (!z21) (by kernel_rfl) (fun hc => ?_) (fun hc => ?_)
  · replace hS := cond_t hc hS
    refine zlRun (n := 7) (j := 10) rfl (by kernel_rfl) ?_
    refine zlEnd (by kernel_rfl) ?_
    refine zkSeq ?_
    refine zrCondT (by kernel_rfl) ?_
    refine zrSeq ?_
    refine zrReg ?_
    refine bindE hS (fun z22 hz22 hS => ?_)
    refine zlOp (d := some 39) (op := (.call 20 [])) (g := none) (v := (.d (.bool z22))) (ups := []) (j := 1) rfl (by kernel_rfl) (by kernel_rfl) (ev_call (args := []) (l := []) (r := (.d (.bool z22))) (by kernel_rfl) (by kernel_rfl) (f20_ok base (d - 1) (dpt hd rfl)  z22 hz22) (by kernel_rfl) (by kernel_rfl) (by kernel_rfl)) ?_
    refine zlRun (n := 1) (j := 2) rfl (by kernel_rfl) ?_
    refine zlEnd (by kernel_rfl) ?_
    refine zkSeq ?_
    refine zrRet ?_
    refine zkSeqR ?_
    refine zkNil ?_
    exact endQ hS hQ (fRet ((congrArg (fun s => outR s 0 c7.res) (by kernel_rfl : finSt c7.fin _ = f7_fin z22)).trans (f7_out z22)))
  · replace hS := cond_f hc hS
    refine zlRun (n := 1) (j := 4) rfl (by kernel_rfl) ?_
    refine zlBool (d := 33) (op := (.cmpI .neq (.tmp 32) (.const (.int .i64 0)))) (g := (some (31, false))) (j := 5) (!decide (p21 = 0)) rfl (by kernel_rfl) (by kernel_rfl) (by kernel_rfl) (fun hc => ?_) (fun hc => ?_)
    · replace hS := cond_t hc hS
      refine zlRun (n := 5) (j := 10) rfl (by kernel_rfl) ?_
      refine zlEnd (by kernel_rfl) ?_
      refine zkSeq ?_
      refine zrCondT (by kernel_rfl) ?_
      refine zrSeq ?_
      refine zrReg ?_
      refine bindE hS (fun z23 hz23 hS => ?_)
      refine zlOp (d := some 39) (op := (.call 20 [])) (g := none) (v := (.d (.bool z23))) (ups := []) (j := 1) rfl (by kernel_rfl) (by kernel_rfl) (ev_call (args := []) (l := []) (r := (.d (.bool z23))) (by kernel_rfl) (by kernel_rfl) (f20_ok base (d - 1) (dpt hd rfl)  z23 hz23) (by kernel_rfl) (by kernel_rfl) (by kernel_rfl)) ?_
      refine zlRun (n := 1) (j := 2) rfl (by kernel_rfl) ?_
      refine zlEnd (by kernel_rfl) ?_
      refine zkSeq ?_
      refine zrRet ?_
      refine zkSeqR ?_
      refine zkNil ?_
      exact endQ hS hQ (fRet ((congrArg (fun s => outR s 0 c7.res) (by kernel_rfl : finSt c7.fin _ = f7_fin z23)).trans (f7_out z23)))
    · replace hS := cond_f hc hS
      refine zlRun (n := 3) (j := 8) rfl (by kernel_rfl) ?_
      refine zlBool (d := 37) (op := (.cmpI .neq (.tmp 36) (.const (.int .i64 0)))) (g := (some (35, false))) (j := 9) (!decide (z12.2 = 0)) rfl (by kernel_rfl) (by kernel_rfl) (by kernel_rfl) (fun hc => ?_) (fun hc => ?_)
      · replace hS := cond_t hc hS
        refine zlRun (n := 1) (j := 10) rfl (by kernel_rfl) ?_
        refine zlEnd (by kernel_rfl) ?_
        refine zkSeq ?_
        refine zrCondT (by kernel_rfl) ?_
        refine zrSeq ?_
        refine zrReg ?_
        refine bindE hS (fun z24 hz24 hS => ?_)
        refine zlOp (d := some 39) (op := (.call 20 [])) (g := none) (v := (.d (.bool z24))) (ups := []) (j := 1) rfl (by kernel_rfl) (by kernel_rfl) (ev_call (args := []) (l := []) (r := (.d (.bool z24))) (by kernel_rfl) (by kernel_rfl) (f20_ok base (d - 1) (dpt hd rfl)  z24 hz24) (by kernel_rfl) (by kernel_rfl) (by kernel_rfl)) ?_
        refine zlRun (n := 1) (j := 2) rfl (by kernel_rfl) ?_
        refine zlEnd (by kernel_rfl) ?_
        refine zkSeq ?_
        refine zrRet ?_
        refine zkSeqR ?_
        refine zkNil ?_
        exact endQ hS hQ (fRet ((congrArg (fun s => outR s 0 c7.res) (by kernel_rfl : finSt c7.fin _ = f7_fin z24)).trans (f7_out z24)))
      · replace hS := cond_f hc hS
        refine zlRun (n := 1) (j := 10) rfl (by kernel_rfl) ?_
        refine zlEnd (by kernel_rfl) ?_
        refine zkSeq ?_
        refine zrCondF (by kernel_rfl) ?_
        refine zrSkip ?_
        refine zkSeq ?_
        exact f7_j1_ok hd a1 a2 a3 hQ p20 z12.1 hS (by kernel_rfl)
noncomputable def f7 (a1 : List (List Int)) (a2 : Int) (a3 : Int) : Option (Bool) := ((f19 a1 a2).bind fun z11 => (f7_j0 a1 a2 a3 z11.1 z11.2))
theorem f7_ok (base : Orc) (d : Nat) (hd : 7 ≤ d) (a1 : List (List Int)) (a2 : Int) (a3 : Int) (r : Bool) (hS : f7 a1 a2 a3 = some r) : lev codes base d 7 [(.d (.sl a1.length ((eSl (eInt .i64)).cells a1))), (.d (.int .i64 a2)), (.d (.int .i64 a3))] [] = some ((.d (.bool r)), []) := by
  refine lev_go codes7 rfl rfl (Nat.le_trans (Nat.le_of_ble_eq_true rfl) hd) fun Q hQ => ?_
  unfold f7 at hS
  show ZR _ Q c7_b [] _
  replace hQ : ∀ e st', f7_Q r e st' → Q e st' := hQ
  refine zrSeq ?_
  refine zrReg ?_
  refine zlRun (n := 1) (j := 1) rfl (by kernel_rfl) ?_
  refine zlEnd (by kernel_rfl) ?_
  refine zkSeq ?_
  refine zrSeq ?_
  refine zrReg ?_
  refine zlRun (n := 2) (j := 2) rfl (by kernel_rfl) ?_
  refine bindE hS (fun z11 hz11 hS => ?_)
  refine zlOp (d := some 20) (op := (.callf 19 [(.tmp 18), (.tmp 19)])) (g := none) (v := (.tup [(.r (.msl 168 1 0 z11.1.length)), (.d (.int .i64 z11.2))])) (ups := [(168, ⟨1, some (.own 39 2 (e_GRow.cells z11.1))⟩)]) (j := 3) rfl (by kernel_rfl) (by kernel_rfl) (ev_callF (args := [(.d (.sl a1.length ((eSl (eInt .i64)).cells a1))), (.d (.int .i64 a2))]) (args' := [(.d (.sl a1.length ((eSl (eInt .i64)).cells a1))), (.d (.int .i64 a2))]) (l := [(.d (.sl a1.length ((eSl (eInt .i64)).cells a1))), (.d (.int .i64 a2))]) (refs := []) (r := (.tup [(.r (.own 0 39 2 z11.1.length (e_GRow.cells z11.1))), (.d (.int .i64 z11.2))])) (v := (.tup [(.r (.msl 168 1 0 z11.1.length)), (.d (.int .i64 z11.2))])) (ups' := [(168, ⟨1, some (.own 39 2 (e_GRow.cells z11.1))⟩)]) (by kernel_rfl) (by kernel_rfl) (by kernel_rfl) (fz_cons rfl (fz_cons rfl fz_nil)) (by kernel_rfl) (f19_ok base (d - 1) (dpt hd rfl) a1 a2 z11 hz11) (by kernel_rfl) (by kernel_rfl) (by kernel_rfl) (by kernel_rfl)) ?_
  refine zlRun (n := 5) (j := 8) rfl (by kernel_rfl) ?_
  refine zlEnd (by kernel_rfl) ?_
  refine zkSeq ?_
  exact f7_j0_ok hd a1 a2 a3 hQ z11.1 z11.2 hS (by exact (by kernel_rfl : _ = (⟨(up (up (up (up (up (fun _ => .un) 8 (.d (.int .i64 z11.2))) 7 (.d (.sl z11.1.length (((e_GRow.cells z11.1).drop (0 * e_GRow.k)).take (z11.1.length * e_GRow.k))))) 2 (.d (.int .i64 a3))) 1 (.d (.int .i64 a2))) 0 (.d (.sl a1.length ((eSl (eInt .i64)).cells a1)))), (hB fun _ => 0)⟩ : St)).trans (by simp only [Enc.frz]; kernel_rfl))
end Go.Proofs.Ytepegjihlppkcaa.Pm
