/- Typed functions, and that the codes are these. Printed by dec.py. -/
import Derived.Test.YtphbfciikjkkfaaDPenD
namespace Go.Proofs.Ytphbfciikjkkfaa.Pm
set_option maxRecDepth 1000000
set_option maxHeartbeats 20000000
set_option linter.unusedVariables false
/- slices.Equal[[]int,int] -/
def f48_fin (p14 : Bool) : St := ⟨(up (fun _ => .un) 4 (.d (.bool p14))), (hB fun _ => 0)⟩
theorem f48_out (p14 : Bool) : outR (f48_fin p14) 0 c48.res = some ((.d (.bool p14)), []) := by
  kernel_rfl
def f48_Q (r : Bool) (e : PX) (st : St) : Prop := DoneF c48 0 ((.d (.bool r)), []) e st
def f48_l1_J (a1 : List Int) (a2 : List Int) (x : Int) : St := ⟨(up (up (up (up (fun _ => .un) 13 (.d (.int .i64 x))) 12 (.d (.int .i64 (a1.length : Int)))) 1 (.d (.sl a2.length ((eInt .i64).cells a2)))) 0 (.d (.sl a1.length ((eInt .i64).cells a1)))), (hB fun _ => 0)⟩
def f48_l1_H (a1 : List Int) (a2 : List Int) (x : Int) (st : St) : Prop := keepSt [0, 1, 12, 13] [] [] st = f48_l1_J a1 a2 x
def f48_l1_e0_J (a1 : List Int) (a2 : List Int) : St := ⟨(fun _ => .un), (hB fun _ => 0)⟩
def f48_l1_X (a1 : List Int) (a2 : List Int) (z : Unit ⊕ Bool) (e : PX) (st : St) : Prop := (match z with | .inl z => e = .exit 0 ∧ st = f48_l1_e0_J a1 a2 | .inr z => e = .ret ∧ finSt c48.fin st = f48_fin z)
def f48_l1_j3_J (a1 : List Int) (a2 : List Int) (p20 : Int) : St := ⟨(up (up (up (up (fun _ => .un) 13 (.d (.int .i64 p20))) 12 (.d (.int .i64 (a1.length : Int)))) 1 (.d (.sl a2.length ((eInt .i64).cells a2)))) 0 (.d (.sl a1.length ((eInt .i64).cells a1)))), (hB fun _ => 0)⟩
noncomputable def f48_l1_j3 (a1 : List Int) (a2 : List Int) (p20 : Int) : Option (Int ⊕ (Unit ⊕ Bool)) := ((idx a1 p20).bind fun z7 => ((idx a2 p20).bind fun z8 => (bif (!decide (z7 = z8)) then (some (.inr (.inr false))) else (some (.inl (IntKind.i64.wrap (p20 + 1)))))))
theorem f48_l1_j3_ok {base : Orc} {d : Nat} (hd : 1 ≤ d) (a1 : List Int) (a2 : List Int) {r : Int ⊕ (Unit ⊕ Bool)} {Q : PX → St → Prop} (hQ : ∀ e st', finL (f48_l1_H a1 a2) (f48_l1_X a1 a2) r e st' → Q e st') (p20 : Int) (hS : f48_l1_j3 a1 a2 p20 = some r) {st : St} (he : keepSt [0, 1, 12, 13] [] [] st = f48_l1_j3_J a1 a2 p20) : ZR (lev codes base (d - 1)) Q c48_1 [] st := by
  refine zrKeep he ?_
  unfold f48_l1_j3 at hS
  refine zrSeq ?_
  refine zrBlk ?_
  refine zrSeq ?_
  refine zrReg ?_
  refine zlRun (n := 2) (j := 2) rfl (by kernel_rfl) ?_
  refine zlEnd (by kernel_rfl) ?_
  refine zkSeq ?_
  refine zrSeq ?_
  refine zrRegD ?_
  refine zdRun (n := 2) (j := 2) (ts := [[], []]) (acc' := [[], []]) rfl (by kernel_rfl) (by kernel_rfl) (by kernel_rfl) ?_
  refine bindE hS (fun z7 hz7 hS => ?_)
  refine zdOp (d := some 18) (op := (.ixS 3 1 (.tmp 16) (.tmp 17))) (g := none) (v := (.rptr ((eInt .i64).enc z7 ++ ((eInt .i64).cells (a1.drop ((p20 : Int).toNat + 1)))))) (ups := []) (j := 3) (t1 := []) (acc' := [[], [], []]) (by kernel_rfl) (by kernel_rfl) rfl (by kernel_rfl) (by kernel_rfl) (ev_ixS (eInt .i64) (kk := .i64) (xs := a1) (j := p20) (by kernel_rfl) (by kernel_rfl) hz7 rfl (by intro h; cases h)) ?_
  refine zdRun (n := 3) (j := 6) (ts := [[], [], []]) (acc' := [[], [], [], [], [], []]) rfl (by kernel_rfl) (by kernel_rfl) (by kernel_rfl) ?_
  refine bindE hS (fun z8 hz8 hS => ?_)
  refine zdOp (d := some 22) (op := (.ixS 3 1 (.tmp 20) (.tmp 21))) (g := none) (v := (.rptr ((eInt .i64).enc z8 ++ ((eInt .i64).cells (a2.drop ((p20 : Int).toNat + 1)))))) (ups := []) (j := 7) (t1 := []) (acc' := [[], [], [], [], [], [], []]) (by kernel_rfl) (by kernel_rfl) rfl (by kernel_rfl) (by kernel_rfl) (ev_ixS (eInt .i64) (kk := .i64) (xs := a2) (j := p20) (by kernel_rfl) (by kernel_rfl) hz8 rfl (by intro h; cases h)) ?_
  refine zdRun (n := 1) (j := 8) (ts := [[]]) (acc' := [[], [], [], [], [], [], [], []]) rfl (by kernel_rfl) (by kernel_rfl) (by kernel_rfl) ?_
  refine zdBool (d := 24) (op := (.cmpI .neq (.tmp 19) (.tmp 23))) (g := none) (j := 9) (t1 := []) (acc' := [[], [], [], [], [], [], [], [], []]) (!decide (z7 = z8)) (by kernel_rfl) (by kernel_rfl) rfl (by kernel_rfl) (by kernel_rfl) (by kernel_rfl) (fun hc => ?_) (fun hc => ?_)
  · replace hS := cond_t hc hS
    refine zdEnd (by kernel_rfl) (by kernel_rfl) ?_
    refine zkSeq ?_
    refine zrCondT (by kernel_rfl) ?_
    refine zrSeq ?_
    refine zrReg ?_
    refine zlRun (n := 1) (j := 1) rfl (by kernel_rfl) ?_
    refine zlEnd (by kernel_rfl) ?_
    refine zkSeq ?_
    refine zrRet ?_
    refine zkBlkR ?_
    refine zkSeqR ?_
    refine zkNil ?_
    exact endQ hS hQ (finL_x (by intro h; cases h) (by show _ = _ ∧ _ = _; exact ⟨rfl, by kernel_rfl⟩))
  · replace hS := cond_f hc hS
    refine zdEnd (by kernel_rfl) (by kernel_rfl) ?_
    refine zkSeq ?_
    refine zrCondF (by kernel_rfl) ?_
    refine zrSkip ?_
    refine zkBlk ?_
    refine zkSeq ?_
    refine zrReg ?_
    refine zlRun (n := 2) (j := 2) rfl (by kernel_rfl) ?_
    refine zlEnd (by kernel_rfl) ?_
    refine zkNil ?_
    exact endQ hS hQ (finL_n (by show keepSt _ _ _ _ = _; kernel_rfl))
def f48_l1_j2_J (a1 : List Int) (a2 : List Int) (p18 : Int) (p19 : Bool) : St := ⟨(up (up (up (up (up (fun _ => .un) 14 (.d (.bool p19))) 13 (.d (.int .i64 p18))) 12 (.d (.int .i64 (a1.length : Int)))) 1 (.d (.sl a2.length ((eInt .i64).cells a2)))) 0 (.d (.sl a1.length ((eInt .i64).cells a1)))), (hB fun _ => 0)⟩
noncomputable def f48_l1_j2 (a1 : List Int) (a2 : List Int) (p18 : Int) (p19 : Bool) : Option (Int ⊕ (Unit ⊕ Bool)) := (bif p19 then (f48_l1_j3 a1 a2 p18) else (some (.inr (.inl ()))))
theorem f48_l1_j2_ok {base : Orc} {d : Nat} (hd : 1 ≤ d) (a1 : List Int) (a2 : List Int) {r : Int ⊕ (Unit ⊕ Bool)} {Q : PX → St → Prop} (hQ : ∀ e st', finL (f48_l1_H a1 a2) (f48_l1_X a1 a2) r e st' → Q e st') (p18 : Int) (p19 : Bool) (hS : f48_l1_j2 a1 a2 p18 p19 = some r) {st : St} (he : keepSt [0, 1, 12, 13, 14] [] [] st = f48_l1_j2_J a1 a2 p18 p19) : ZR (lev codes base (d - 1)) Q c48_2 [] st := by
  refine zrKeep he ?_
  unfold f48_l1_j2 at hS
  refine zrSeq ?_
  refine zrSplit 14 p19 (by kernel_rfl) (fun hc => ?_) (fun hc => ?_)
  · replace hS := cond_t hc hS
    refine zrCondT (by kernel_rfl) ?_
    refine zrSkip ?_
    refine zkSeq ?_
    exact f48_l1_j3_ok hd a1 a2 hQ p18 hS (by kernel_rfl)
  · replace hS := cond_f hc hS
    refine zrCondF (by kernel_rfl) ?_
    refine zrKeep (J := f48_l1_e0_J a1 a2) (by kernel_rfl) ?_
    refine zrExit ?_
    refine zkSeqX ?_
    refine zkNil ?_
    exact endQ hS hQ (finL_x (by intro h; cases h) (by show _ = _ ∧ _ = _; exact ⟨rfl, rfl⟩))
noncomputable def f48_l1 (a1 : List Int) (a2 : List Int) (x : Int) : Option (Int ⊕ (Unit ⊕ Bool)) := (bif (decide (x < (a1.length : Int))) then (f48_l1_j2 a1 a2 x true) else (f48_l1_j2 a1 a2 x false))
theorem f48_l1_ok {base : Orc} {d : Nat} (hd : 1 ≤ d) (a1 : List Int) (a2 : List Int) {r : Int ⊕ (Unit ⊕ Bool)} {Q : PX → St → Prop} (hQ : ∀ e st', finL (f48_l1_H a1 a2) (f48_l1_X a1 a2) r e st' → Q e st') {x : Int} (hS : f48_l1 a1 a2 x = some r) {st : St} (he : f48_l1_H a1 a2 x st) : ZR (lev codes base (d - 1)) Q c48_3 [] st := by
  refine zrKeep he ?_
  unfold f48_l1 at hS
  refine zrSeq ?_
  refine zrReg ?_
  refine zlBool (d := 14) (op := (.cmpI .lss (.tmp 13) (.tmp 12))) (g := none) (j := 1) (decide (x < (a1.length : Int))) rfl (by kernel_rfl) (by kernel_rfl) (by kernel_rfl) (fun hc => ?_) (fun hc => ?_)
  · replace hS := cond_t hc hS
    refine zlEnd (by kernel_rfl) ?_
    refine zkSeq ?_
    exact f48_l1_j2_ok hd a1 a2 hQ x true hS (by kernel_rfl)
  · replace hS := cond_f hc hS
    refine zlEnd (by kernel_rfl) ?_
    refine zkSeq ?_
    exact f48_l1_j2_ok hd a1 a2 hQ x false hS (by kernel_rfl)
def f48_j0_J (a1 : List Int) (a2 : List Int) : St := ⟨(up (up (fun _ => .un) 1 (.d (.sl a2.length ((eInt .i64).cells a2)))) 0 (.d (.sl a1.length ((eInt .i64).cells a1)))), (hB fun _ => 0)⟩
noncomputable def f48_j0 (a1 : List Int) (a2 : List Int) : Option (Bool) := ((loopO (f48_l1 a1 a2) 0).bind fun z9 => (Sum.elim (fun z10 => (some true)) (fun z11 => (some z11)) z9))
theorem f48_j0_ok {base : Orc} {d : Nat} (hd : 1 ≤ d) (a1 : List Int) (a2 : List Int) {r : Bool} {Q : PX → St → Prop} (hQ : ∀ e st', f48_Q r e st' → Q e st')  (hS : f48_j0 a1 a2 = some r) {st : St} (he : keepSt [0, 1] [] [] st = f48_j0_J a1 a2) : ZR (lev codes base (d - 1)) Q c48_4 [] st := by
  refine zrKeep he ?_
  unfold f48_j0 at hS
  refine zrSeq ?_
  refine zrSeq ?_
  refine zrReg ?_
  refine zlRun (n := 3) (j := 3) rfl (by kernel_rfl) ?_
  refine zlEnd (by kernel_rfl) ?_
  refine zkSeq ?_
  refine zrBlk ?_
  refine bindE hS (fun z9 hz9 hS => ?_)
  refine zrLoop (f48_l1_H a1 a2) (f48_l1_X a1 a2) (fun x st r Q h0 hS hQ => f48_l1_ok hd a1 a2 hQ hS h0) (x := 0) (z := z9) (by show keepSt _ _ _ _ = _; kernel_rfl) hz9 ?_
  rcases z9 with z10 | z11
  · replace hS := (show _ = _ from hS)
    simp only [Sum.elim_inl] at hS
    intro e st' _ hX
    obtain ⟨rfl, rfl⟩ : _ ∧ _ := hX
    refine zkBlkX ?_
    refine zkSeq ?_
    refine zrSeq ?_
    refine zrReg ?_
    refine zlRun (n := 1) (j := 1) rfl (by kernel_rfl) ?_
    refine zlEnd (by kernel_rfl) ?_
    refine zkSeq ?_
    refine zrRet ?_
    refine zkNil ?_
    exact endQ hS hQ (fRet ((congrArg (fun s => outR s 0 c48.res) (by kernel_rfl : finSt c48.fin _ = f48_fin true)).trans (f48_out true)))
  · simp only [Sum.elim_inr] at hS
    intro e st' _ hX
    obtain ⟨rfl, hX⟩ : _ ∧ _ := hX
    refine zkBlkR ?_
    refine zkSeqR ?_
    refine zkNil ?_
    exact endQ hS hQ (fRet ((congrArg (fun s => outR s 0 c48.res) hX).trans (f48_out z11)))
noncomputable def f48 (a1 : List Int) (a2 : List Int) : Option (Bool) := (bif (!decide ((a1.length : Int) = (a2.length : Int))) then (some false) else (f48_j0 a1 a2 ))
theorem f48_ok (base : Orc) (d : Nat) (hd : 1 ≤ d) (a1 : List Int) (a2 : List Int) (r : Bool) (hS : f48 a1 a2 = some r) : lev codes base d 48 [(.d (.sl a1.length ((eInt .i64).cells a1))), (.d (.sl a2.length ((eInt .i64).cells a2)))] [] = some ((.d (.bool r)), []) := by
  refine lev_go codes48 rfl rfl (Nat.le_trans (Nat.le_of_ble_eq_true rfl) hd) fun Q hQ => ?_
  unfold f48 at hS
  show ZR _ Q c48_b [] _
  replace hQ : ∀ e st', f48_Q r e st' → Q e st' := hQ
  refine zrSeq ?_
  refine zrReg ?_
  refine zlRun (n := 1) (j := 1) rfl (by kernel_rfl) ?_
  refine zlEnd (by kernel_rfl) ?_
  refine zkSeq ?_
  refine zrSeq ?_
  refine zrSeq ?_
  refine zrReg ?_
  refine zlRun (n := 4) (j := 4) rfl (by kernel_rfl) ?_
  refine zlBool (d := 10) (op := (.cmpI .neq (.tmp 7) (.tmp 9))) (g := none) (j := 5) (!decide ((a1.length : Int) = (a2.length : Int))) rfl (by kernel_rfl) (by kernel_rfl) (by kernel_rfl) (fun hc => ?_) (fun hc => ?_)
  · replace hS := cond_t hc hS
    refine zlEnd (by kernel_rfl) ?_
    refine zkSeq ?_
    refine zrCondT (by kernel_rfl) ?_
    refine zrSeq ?_
    refine zrReg ?_
    refine zlRun (n := 1) (j := 1) rfl (by kernel_rfl) ?_
    refine zlEnd (by kernel_rfl) ?_
    refine zkSeq ?_
    refine zrRet ?_
    refine zkSeqR ?_
    refine zkNil ?_
    exact endQ hS hQ (fRet ((congrArg (fun s => outR s 0 c48.res) (by kernel_rfl : finSt c48.fin _ = f48_fin false)).trans (f48_out false)))
  · replace hS := cond_f hc hS
    refine zlEnd (by kernel_rfl) ?_
    refine zkSeq ?_
    refine zrCondF (by kernel_rfl) ?_
    refine zrSkip ?_
    refine zkSeq ?_
    exact f48_j0_ok hd a1 a2 hQ  hS (by kernel_rfl)
/- farwriter/farkeep.penLives -/
def f30_fin (p4 : Bool) : St := ⟨(up (fun _ => .un) 0 (.d (.bool p4))), (hB fun _ => 0)⟩
theorem f30_out (p4 : Bool) : outR (f30_fin p4) 0 c30.res = some ((.d (.bool p4)), []) := by
  kernel_rfl
def f30_Q (r : Bool) (e : PX) (st : St) : Prop := DoneF c30 0 ((.d (.bool r)), []) e st
noncomputable def f30  : Option (Bool) := ((f32 (GPen.mk 0 0 0) [1, 31]).bind fun z4 => ((f29 (GPen.mk 0 0 0) z4.1).bind fun z5 => (bif (decide (z4.2 = 0)) then (bif (decide (z5.2 = 0)) then (bif (decide (z4.1.Flags = 1) && (decide (z4.1.Fore = 2) && (decide (z4.1.Back = 0) && true))) then ((f48 z5.1 [1, 31]).bind fun z6 => (some z6)) else (some false)) else (some false)) else (some false))))
theorem f30_ok (base : Orc) (d : Nat) (hd : 6 ≤ d)  (r : Bool) (hS : f30 = some r) : lev codes base d 30 [] [] = some ((.d (.bool r)), []) := by
  refine lev_go codes30 rfl rfl (Nat.le_trans (Nat.le_of_ble_eq_true rfl) hd) fun Q hQ => ?_
  unfold f30 at hS
  show ZR _ Q c30_b [] _
  replace hQ : ∀ e st', f30_Q r e st' → Q e st' := hQ
  refine zrSeq ?_
  refine zrReg ?_
  refine zlRun (n := 1) (j := 1) rfl (by kernel_rfl) ?_
  refine zlEnd (by kernel_rfl) ?_
  refine zkSeq ?_
  refine zrSeq ?_
  refine zrReg ?_
  refine zlRun (n := 2) (j := 2) rfl (by kernel_rfl) ?_
  refine bindE hS (fun z4 hz4 hS => ?_)
  refine zlOp (d := some 8) (op := (.call 32 [(.tmp 6), (.tmp 7)])) (g := none) (v := (.tup [(.agg ((.d (.int .i64 z4.1.Flags)) :: ((.d (.int .i64 z4.1.Fore)) :: ((.d (.int .i64 z4.1.Back)) :: [])))), (.d (.int .i64 z4.2))])) (ups := []) (j := 3) rfl (by kernel_rfl) (by kernel_rfl) (ev_call (args := [(.agg ((.d (.int .i64 0)) :: ((.d (.int .i64 0)) :: ((.d (.int .i64 0)) :: [])))), (.r (.msl 64 1 0 (([1, 31] : List Int).length)))]) (l := [(.agg ((.d (.int .i64 0)) :: ((.d (.int .i64 0)) :: ((.d (.int .i64 0)) :: [])))), (.d (.sl ([1, 31] : List Int).length ((eInt .i64).cells ([1, 31]))))]) (r := (.tup [(.agg ((.d (.int .i64 z4.1.Flags)) :: ((.d (.int .i64 z4.1.Fore)) :: ((.d (.int .i64 z4.1.Back)) :: [])))), (.d (.int .i64 z4.2))])) (by kernel_rfl) (l_cons (by kernel_rfl) (l_cons (l_own (eInt .i64) (e := 3) (k := 1) (xs := [1, 31]) (by kernel_rfl) rfl rfl) l_nil)) (f32_ok base (d - 1) (dpt hd rfl) (GPen.mk 0 0 0) [1, 31] z4 hz4) (by kernel_rfl) (by kernel_rfl) (by kernel_rfl)) ?_
  refine zlRun (n := 6) (j := 9) rfl (by kernel_rfl) ?_
  refine zlEnd (by kernel_rfl) ?_
  refine zkSeq ?_
  refine zrSeq ?_
  refine zrReg ?_
  refine zlRun (n := 2) (j := 2) rfl (by kernel_rfl) ?_
  refine bindE hS (fun z5 hz5 hS => ?_)
  refine zlOp (d := some 14) (op := (.call 29 [(.tmp 12), (.tmp 13)])) (g := none) (v := (.tup [(.r (.msl 120 1 0 z5.1.length)), (.d (.int .i64 z5.2))])) (ups := [(120, ⟨1, some (.own 3 1 ((eInt .i64).cells z5.1))⟩)]) (j := 3) rfl (by kernel_rfl) (by kernel_rfl) (ev_call (args := [(.agg ((.d (.int .i64 0)) :: ((.d (.int .i64 0)) :: ((.d (.int .i64 0)) :: [])))), (.agg ((.d (.int .i64 z4.1.Flags)) :: ((.d (.int .i64 z4.1.Fore)) :: ((.d (.int .i64 z4.1.Back)) :: []))))]) (l := [(.agg ((.d (.int .i64 0)) :: ((.d (.int .i64 0)) :: ((.d (.int .i64 0)) :: [])))), (.agg ((.d (.int .i64 z4.1.Flags)) :: ((.d (.int .i64 z4.1.Fore)) :: ((.d (.int .i64 z4.1.Back)) :: []))))]) (r := (.tup [(.r (.own 0 3 1 z5.1.length ((eInt .i64).cells z5.1))), (.d (.int .i64 z5.2))])) (by kernel_rfl) (by kernel_rfl) (f29_ok base (d - 1) (dpt hd rfl) (GPen.mk 0 0 0) z4.1 z5 hz5) (by kernel_rfl) (by kernel_rfl) (by kernel_rfl)) ?_
  refine zlRun (n := 5) (j := 8) rfl (by kernel_rfl) ?_
  refine zlEnd (by kernel_rfl) ?_
  refine zkSeq ?_
  refine zrSeq ?_
  refine zrReg ?_
  refine zlRun (n := 1) (j := 1) rfl (by kernel_rfl) ?_
  refine zlBool (d := 18) (op := (.cmpI .eql (.tmp 17) (.const (.int .i64 0)))) (g := none) (j := 2) (decide (z4.2 = 0)) rfl (by kernel_rfl) (by kernel_rfl) (by kernel_rfl) (fun hc => ?_) (fun hc => ?_)
  · replace hS := cond_t hc hS
    refine zlRun (n := 2) (j := 4) rfl (by kernel_rfl) ?_
    refine zlBool (d := 21) (op := (.cmpI .eql (.tmp 20) (.const (.int .i64 0)))) (g := (some (19, true))) (j := 5) (decide (z5.2 = 0)) rfl (by kernel_rfl) (by kernel_rfl) (by kernel_rfl) (fun hc => ?_) (fun hc => ?_)
    · replace hS := cond_t hc hS
      refine zlRun (n := 4) (j := 9) rfl (by kernel_rfl) ?_
      refine zlBool (d := 26) (op := (.eqA .false [(3, .int)] (.tmp 24) (.tmp 25))) (g := (some (23, true))) (j := 10) (decide (z4.1.Flags = 1) && (decide (z4.1.Fore = 2) && (decide (z4.1.Back = 0) && true))) rfl (by kernel_rfl) (by kernel_rfl) (by kernel_rfl) (fun hc => ?_) (fun hc => ?_)
      · replace hS := cond_t hc hS
        refine zlRun (n := 4) (j := 14) rfl (by kernel_rfl) ?_
        refine bindE hS (fun z6 hz6 hS => ?_)
        refine zlOp (d := some 31) (op := (.call 48 [(.tmp 29), (.tmp 30)])) (g := (some (28, true))) (v := (.d (.bool z6))) (ups := []) (j := 15) rfl (by kernel_rfl) (by kernel_rfl) (ev_call (args := [(.r (.msl 120 1 0 z5.1.length)), (.r (.msl 248 1 0 (([1, 31] : List Int).length)))]) (l := [(.d (.sl z5.1.length ((eInt .i64).cells z5.1))), (.d (.sl ([1, 31] : List Int).length ((eInt .i64).cells ([1, 31]))))]) (r := (.d (.bool z6))) (by kernel_rfl) (l_cons (l_own (eInt .i64) (e := 3) (k := 1) (xs := z5.1) (by kernel_rfl) rfl rfl) (l_cons (l_own (eInt .i64) (e := 3) (k := 1) (xs := [1, 31]) (by kernel_rfl) rfl rfl) l_nil)) (f48_ok base (d - 1) (dpt hd rfl) z5.1 [1, 31] z6 hz6) (by kernel_rfl) (by kernel_rfl) (by kernel_rfl)) ?_
        refine zlRun (n := 2) (j := 17) rfl (by kernel_rfl) ?_
        refine zlEnd (by kernel_rfl) ?_
        refine zkSeq ?_
        refine zrRet ?_
        refine zkNil ?_
        exact endQ hS hQ (fRet ((congrArg (fun s => outR s 0 c30.res) (by kernel_rfl : finSt c30.fin _ = f30_fin z6)).trans (f30_out z6)))
      · replace hS := cond_f hc hS
        refine zlRun (n := 7) (j := 17) rfl (by kernel_rfl) ?_
        refine zlEnd (by kernel_rfl) ?_
        refine zkSeq ?_
        refine zrRet ?_
        refine zkNil ?_
        exact endQ hS hQ (fRet ((congrArg (fun s => outR s 0 c30.res) (by kernel_rfl : finSt c30.fin _ = f30_fin false)).trans (f30_out false)))
    · replace hS := cond_f hc hS
      refine zlRun (n := 12) (j := 17) rfl (by kernel_rfl) ?_
      refine zlEnd (by kernel_rfl) ?_
      refine zkSeq ?_
      refine zrRet ?_
      refine zkNil ?_
      exact endQ hS hQ (fRet ((congrArg (fun s => outR s 0 c30.res) (by kernel_rfl : finSt c30.fin _ = f30_fin false)).trans (f30_out false)))
  · replace hS := cond_f hc hS
    refine zlRun (n := 15) (j := 17) rfl (by kernel_rfl) ?_
    refine zlEnd (by kernel_rfl) ?_
    refine zkSeq ?_
    refine zrRet ?_
    refine zkNil ?_
    exact endQ hS hQ (fRet ((congrArg (fun s => outR s 0 c30.res) (by kernel_rfl : finSt c30.fin _ = f30_fin false)).trans (f30_out false)))
/- farwriter/farref.Between -/
def f44_fin (p3 : Bool) : St := ⟨(up (fun _ => .un) 6 (.d (.bool p3))), (hB fun _ => 0)⟩
theorem f44_out (p3 : Bool) : outR (f44_fin p3) 0 c44.res = some ((.d (.bool p3)), []) := by
  kernel_rfl
def f44_Q (r : Bool) (e : PX) (st : St) : Prop := DoneF c44 0 ((.d (.bool r)), []) e st
noncomputable def f44 (a1 : Int) (a2 : Int) (a3 : Int) : Option (Bool) := (bif (decide (a2 ≤ a1)) then (bif (decide (a1 ≤ a3)) then (some true) else (some false)) else (some false))
theorem f44_ok (base : Orc) (d : Nat) (hd : 1 ≤ d) (a1 : Int) (a2 : Int) (a3 : Int) (r : Bool) (hS : f44 a1 a2 a3 = some r) : lev codes base d 44 [(.d (.int .i64 a1)), (.d (.int .i64 a2)), (.d (.int .i64 a3))] [] = some ((.d (.bool r)), []) := by
  refine lev_go codes44 rfl rfl (Nat.le_trans (Nat.le_of_ble_eq_true rfl) hd) fun Q hQ => ?_
  unfold f44 at hS
  show ZR _ Q c44_b [] _
  replace hQ : ∀ e st', f44_Q r e st' → Q e st' := hQ
  refine zrSeq ?_
  refine zrReg ?_
  refine zlRun (n := 1) (j := 1) rfl (by kernel_rfl) ?_
  refine zlEnd (by kernel_rfl) ?_
  refine zkSeq ?_
  refine zrSeq ?_
  refine zrReg ?_
  refine zlRun (n := 2) (j := 2) rfl (by kernel_rfl) ?_
  refine zlBool (d := 9) (op := (.cmpI .leq (.tmp 7) (.tmp 8))) (g := none) (j := 3) (decide (a2 ≤ a1)) rfl (by kernel_rfl) (by kernel_rfl) (by kernel_rfl) (fun hc => ?_) (fun hc => ?_)
  · replace hS := cond_t hc hS
    refine zlRun (n := 3) (j := 6) rfl (by kernel_rfl) ?_
    refine zlBool (d := 13) (op := (.cmpI .leq (.tmp 11) (.tmp 12))) (g := (some (10, true))) (j := 7) (decide (a1 ≤ a3)) rfl (by kernel_rfl) (by kernel_rfl) (by kernel_rfl) (fun hc => ?_) (fun hc => ?_)
    · replace hS := cond_t hc hS
      refine zlRun (n := 2) (j := 9) rfl (by kernel_rfl) ?_
      refine zlEnd (by kernel_rfl) ?_
      refine zkSeq ?_
      refine zrRet ?_
      refine zkNil ?_
      exact endQ hS hQ (fRet ((congrArg (fun s => outR s 0 c44.res) (by kernel_rfl : finSt c44.fin _ = f44_fin true)).trans (f44_out true)))
    · replace hS := cond_f hc hS
      refine zlRun (n := 2) (j := 9) rfl (by kernel_rfl) ?_
      refine zlEnd (by kernel_rfl) ?_
      refine zkSeq ?_
      refine zrRet ?_
      refine zkNil ?_
      exact endQ hS hQ (fRet ((congrArg (fun s => outR s 0 c44.res) (by kernel_rfl : finSt c44.fin _ = f44_fin false)).trans (f44_out false)))
  · replace hS := cond_f hc hS
    refine zlRun (n := 6) (j := 9) rfl (by kernel_rfl) ?_
    refine zlEnd (by kernel_rfl) ?_
    refine zkSeq ?_
    refine zrRet ?_
    refine zkNil ?_
    exact endQ hS hQ (fRet ((congrArg (fun s => outR s 0 c44.res) (by kernel_rfl : finSt c44.fin _ = f44_fin false)).trans (f44_out false)))
/- farwriter/farref.Two -/
def f49_fin (p13 : Int) : St := ⟨(up (fun _ => .un) 2 (.d (.int .i64 p13))), (hB fun _ => 0)⟩
theorem f49_out (p13 : Int) : outR (f49_fin p13) 0 c49.res = some ((.d (.int .i64 p13)), []) := by
  kernel_rfl
def f49_Q (r : Int) (e : PX) (st : St) : Prop := DoneF c49 0 ((.d (.int .i64 r)), []) e st
def f49_l0_J (a1 : Int) (x : Int × Int) : St := ⟨(up (up (up (fun _ => .un) 5 (.d (.int .i64 x.2))) 4 (.d (.int .i64 a1))) 3 (.d (.int .i64 x.1))), (hB fun _ => 0)⟩
def f49_l0_H (a1 : Int) (x : Int × Int) (st : St) : Prop := keepSt [3, 4, 5] [] [] st = f49_l0_J a1 x
def f49_l0_e0_J (a1 : Int) (p12 : Int) : St := ⟨(up (fun _ => .un) 3 (.d (.int .i64 p12))), (hB fun _ => 0)⟩
def f49_l0_X (a1 : Int) (z : Int) (e : PX) (st : St) : Prop := e = .exit 0 ∧ st = f49_l0_e0_J a1 z
def f49_l0_j1_J (a1 : Int) (p17 : Int) (p18 : Int) (p19 : Bool) : St := ⟨(up (up (up (up (fun _ => .un) 6 (.d (.bool p19))) 5 (.d (.int .i64 p18))) 4 (.d (.int .i64 a1))) 3 (.d (.int .i64 p17))), (hB fun _ => 0)⟩
noncomputable def f49_l0_j1 (a1 : Int) (p17 : Int) (p18 : Int) (p19 : Bool) : Option ((Int × Int) ⊕ Int) := (bif p19 then (some (.inl ((IntKind.i64.wrap (p17 * 2)), (IntKind.i64.wrap (p18 + 1))))) else (some (.inr p17)))
theorem f49_l0_j1_ok {base : Orc} {d : Nat} (hd : 1 ≤ d) (a1 : Int) {r : (Int × Int) ⊕ Int} {Q : PX → St → Prop} (hQ : ∀ e st', finL (f49_l0_H a1) (f49_l0_X a1) r e st' → Q e st') (p17 : Int) (p18 : Int) (p19 : Bool) (hS : f49_l0_j1 a1 p17 p18 p19 = some r) {st : St} (he : keepSt [3, 4, 5, 6] [] [] st = f49_l0_j1_J a1 p17 p18 p19) : ZR (lev codes base (d - 1)) Q c49_1 [] st := by
  refine zrKeep he ?_
  unfold f49_l0_j1 at hS
  refine zrSeq ?_
  refine zrSplit 6 p19 (by kernel_rfl) (fun hc => ?_) (fun hc => ?_)
  · replace hS := cond_t hc hS
    refine zrCondT (by kernel_rfl) ?_
    refine zrSkip ?_
    refine zkSeq ?_
    refine zrSeq ?_
    refine zrBlk ?_
    refine zrReg ?_
    refine zlRun (n := 3) (j := 3) rfl (by kernel_rfl) ?_
    refine zlEnd (by kernel_rfl) ?_
    refine zkBlk ?_
    refine zkSeq ?_
    refine zrReg ?_
    refine zlRun (n := 2) (j := 2) rfl (by kernel_rfl) ?_
    refine zlEnd (by kernel_rfl) ?_
    refine zkNil ?_
    exact endQ hS hQ (finL_n (by show keepSt _ _ _ _ = _; kernel_rfl))
  · replace hS := cond_f hc hS
    refine zrCondF (by kernel_rfl) ?_
    refine zrKeep (J := f49_l0_e0_J a1 p17) (by kernel_rfl) ?_
    refine zrExit ?_
    refine zkSeqX ?_
    refine zkNil ?_
    exact endQ hS hQ (finL_x (by intro h; cases h) (by show _ = _ ∧ _ = _; exact ⟨rfl, rfl⟩))
noncomputable def f49_l0 (a1 : Int) (x : Int × Int) : Option ((Int × Int) ⊕ Int) := (bif (decide (x.2 < a1)) then (f49_l0_j1 a1 x.1 x.2 true) else (f49_l0_j1 a1 x.1 x.2 false))
theorem f49_l0_ok {base : Orc} {d : Nat} (hd : 1 ≤ d) (a1 : Int) {r : (Int × Int) ⊕ Int} {Q : PX → St → Prop} (hQ : ∀ e st', finL (f49_l0_H a1) (f49_l0_X a1) r e st' → Q e st') {x : Int × Int} (hS : f49_l0 a1 x = some r) {st : St} (he : f49_l0_H a1 x st) : ZR (lev codes base (d - 1)) Q c49_2 [] st := by
  refine zrKeep he ?_
  unfold f49_l0 at hS
  refine zrSeq ?_
  refine zrReg ?_
  refine zlBool (d := 6) (op := (.cmpI .lss (.tmp 5) (.tmp 4))) (g := none) (j := 1) (decide (x.2 < a1)) rfl (by kernel_rfl) (by kernel_rfl) (by kernel_rfl) (fun hc => ?_) (fun hc => ?_)
  · replace hS := cond_t hc hS
    refine zlEnd (by kernel_rfl) ?_
    refine zkSeq ?_
    exact f49_l0_j1_ok hd a1 hQ x.1 x.2 true hS (by kernel_rfl)
  · replace hS := cond_f hc hS
    refine zlEnd (by kernel_rfl) ?_
    refine zkSeq ?_
    exact f49_l0_j1_ok hd a1 hQ x.1 x.2 false hS (by kernel_rfl)
noncomputable def f49 (a1 : Int) : Option (Int) := ((loopO (f49_l0 a1) (1, 0)).bind fun z1 => (some z1))
theorem f49_ok (base : Orc) (d : Nat) (hd : 1 ≤ d) (a1 : Int) (r : Int) (hS : f49 a1 = some r) : lev codes base d 49 [(.d (.int .i64 a1))] [] = some ((.d (.int .i64 r)), []) := by
  refine lev_go codes49 rfl rfl (Nat.le_trans (Nat.le_of_ble_eq_true rfl) hd) fun Q hQ => ?_
  unfold f49 at hS
  show ZR _ Q c49_b [] _
  replace hQ : ∀ e st', f49_Q r e st' → Q e st' := hQ
  refine zrSeq ?_
  refine zrReg ?_
  refine zlRun (n := 1) (j := 1) rfl (by kernel_rfl) ?_
  refine zlEnd (by kernel_rfl) ?_
  refine zkSeq ?_
  refine zrSeq ?_
  refine zrReg ?_
  refine zlRun (n := 1) (j := 1) rfl (by kernel_rfl) ?_
  refine zlEnd (by kernel_rfl) ?_
  refine zkSeq ?_
  refine zrSeq ?_
  refine zrSeq ?_
  refine zrReg ?_
  refine zlRun (n := 2) (j := 2) rfl (by kernel_rfl) ?_
  refine zlEnd (by kernel_rfl) ?_
  refine zkSeq ?_
  refine zrBlk ?_
  refine bindE hS (fun z1 hz1 hS => ?_)
  refine zrLoop (f49_l0_H a1) (f49_l0_X a1) (fun x st r Q h0 hS hQ => f49_l0_ok hd a1 hQ hS h0) (x := (1, 0)) (z := z1) (by show keepSt _ _ _ _ = _; kernel_rfl) hz1 ?_
  intro e st' _ hX
  obtain ⟨rfl, rfl⟩ : _ ∧ _ := hX
  refine zkBlkX ?_
  refine zkSeq ?_
  refine zrSeq ?_
  refine zrReg ?_
  refine zlRun (n := 2) (j := 2) rfl (by kernel_rfl) ?_
  refine zlEnd (by kernel_rfl) ?_
  refine zkSeq ?_
  refine zrRet ?_
  refine zkNil ?_
  exact endQ hS hQ (fRet ((congrArg (fun s => outR s 0 c49.res) (by kernel_rfl : finSt c49.fin _ = f49_fin z1)).trans (f49_out z1)))
/- farwriter/farref.PenRight -/
def f31_fin (p12 : Int) : St := ⟨(up (fun _ => .un) 2 (.d (.int .i64 p12))), (hB fun _ => 0)⟩
theorem f31_out (p12 : Int) : outR (f31_fin p12) 0 c31.res = some ((.d (.int .i64 p12)), []) := by
  kernel_rfl
def f31_Q (r : Int) (e : PX) (st : St) : Prop := DoneF c31 0 ((.d (.int .i64 r)), []) e st
def f31_j0_J (a1 : GPen) : St := ⟨(up (fun _ => .un) 1 (.r (.ptr 16 0 0))), (up (hB fun _ => 0) 16 ⟨0, some (.box ((.d (.int .i64 a1.Flags)) :: ((.d (.int .i64 a1.Fore)) :: ((.d (.int .i64 a1.Back)) :: []))))⟩)⟩
noncomputable def f31_j0 (a1 : GPen) : Option (Int) := ((f44 a1.Flags 0 255).bind fun z20 => (bif (!z20) then (some 4) else (some 0)))
theorem f31_j0_ok {base : Orc} {d : Nat} (hd : 2 ≤ d) (a1 : GPen) {r : Int} {Q : PX → St → Prop} (hQ : ∀ e st', f31_Q r e st' → Q e st')  (hS : f31_j0 a1 = some r) {st : St} (he : keepSt [1] [(16, .id 16)] [] st = f31_j0_J a1) : ZR (lev codes base (d - 1)) Q c31_1 [] st := by
  refine zrKeep he ?_
  unfold f31_j0 at hS
  refine zrSeq ?_
  refine zrSeq ?_
  refine zrReg ?_
  refine zlRun (n := 2) (j := 2) rfl (by kernel_rfl) ?_
  refine bindE hS (fun z20 hz20 hS => ?_)
  refine zlOp (d := some 29) (op := (.call 44 [(.tmp 28), (.const (.int .i64 0)), (.const (.int .i64 255))])) (g := none) (v := (.d (.bool z20))) (ups := []) (j := 3) rfl (by kernel_rfl) (by kernel_rfl) (ev_call (args := [(.d (.int .i64 a1.Flags)), (.d (.int .i64 0)), (.d (.int .i64 255))]) (l := [(.d (.int .i64 a1.Flags)), (.d (.int .i64 0)), (.d (.int .i64 255))]) (r := (.d (.bool z20))) (by kernel_rfl) (by kernel_rfl) (f44_ok base (d - 1) (dpt hd rfl) a1.Flags 0 255 z20 hz20) (by kernel_rfl) (by kernel_rfl) (by kernel_rfl)) ?_
  refine zlRun (n := 1) (j := 4) rfl (by kernel_rfl) ?_
  refine zlEnd (by kernel_rfl) ?_
  refine zkSeq ?_
  refine zrSplit 30 (!z20) (by kernel_rfl) (fun hc => ?_) (fun hc => ?_)
  · replace hS := cond_t hc hS
    refine zrCondT (by kernel_rfl) ?_
    refine zrSeq ?_
    refine zrReg ?_
    refine zlRun (n := 1) (j := 1) rfl (by kernel_rfl) ?_
    refine zlEnd (by kernel_rfl) ?_
    refine zkSeq ?_
    refine zrRet ?_
    refine zkSeqR ?_
    refine zkNil ?_
    exact endQ hS hQ (fRet ((congrArg (fun s => outR s 0 c31.res) (by kernel_rfl : finSt c31.fin _ = f31_fin 4)).trans (f31_out 4)))
  · replace hS := cond_f hc hS
    refine zrCondF (by kernel_rfl) ?_
    refine zrSkip ?_
    refine zkSeq ?_
    refine zrSeq ?_
    refine zrReg ?_
    refine zlRun (n := 1) (j := 1) rfl (by kernel_rfl) ?_
    refine zlEnd (by kernel_rfl) ?_
    refine zkSeq ?_
    refine zrRet ?_
    refine zkNil ?_
    exact endQ hS hQ (fRet ((congrArg (fun s => outR s 0 c31.res) (by kernel_rfl : finSt c31.fin _ = f31_fin 0)).trans (f31_out 0)))
def f31_l1_J (a1 : GPen) (x : Int) : St := ⟨(up (up (up (up (fun _ => .un) 11 (.d (.int .i64 x))) 10 (.d (.int .i64 ((([a1.Fore, a1.Back] : List Int).length) : Int)))) 9 (.r (.msl 80 0 0 (([a1.Fore, a1.Back] : List Int).length)))) 1 (.r (.ptr 16 0 0))), (up (up (hB fun _ => 0) 80 ⟨0, some (.own 3 1 ((eInt .i64).cells ([a1.Fore, a1.Back])))⟩) 16 ⟨0, some (.box ((.d (.int .i64 a1.Flags)) :: ((.d (.int .i64 a1.Fore)) :: ((.d (.int .i64 a1.Back)) :: []))))⟩)⟩
def f31_l1_H (a1 : GPen) (x : Int) (st : St) : Prop := keepSt [1, 9, 10, 11] [(16, .id 16), (80, .id 80)] [] st = f31_l1_J a1 x
def f31_l1_e0_J (a1 : GPen) : St := ⟨(up (fun _ => .un) 1 (.r (.ptr 16 0 0))), (up (hB fun _ => 0) 16 ⟨0, some (.box ((.d (.int .i64 a1.Flags)) :: ((.d (.int .i64 a1.Fore)) :: ((.d (.int .i64 a1.Back)) :: []))))⟩)⟩
def f31_l1_X (a1 : GPen) (z : Unit ⊕ Int) (e : PX) (st : St) : Prop := (match z with | .inl z => e = .exit 0 ∧ st = f31_l1_e0_J a1 | .inr z => e = .ret ∧ finSt c31.fin st = f31_fin z)
def f31_l1_j3_J (a1 : GPen) (p17 : Int) : St := ⟨(up (up (up (up (fun _ => .un) 11 (.d (.int .i64 p17))) 10 (.d (.int .i64 ((([a1.Fore, a1.Back] : List Int).length) : Int)))) 9 (.r (.msl 80 0 0 (([a1.Fore, a1.Back] : List Int).length)))) 1 (.r (.ptr 16 0 0))), (up (up (hB fun _ => 0) 80 ⟨0, some (.own 3 1 ((eInt .i64).cells ([a1.Fore, a1.Back])))⟩) 16 ⟨0, some (.box ((.d (.int .i64 a1.Flags)) :: ((.d (.int .i64 a1.Fore)) :: ((.d (.int .i64 a1.Back)) :: []))))⟩)⟩
noncomputable def f31_l1_j3 (a1 : GPen) (p17 : Int) : Option (Int ⊕ (Unit ⊕ Int)) := ((inR p17 (([a1.Fore, a1.Back] : List Int).length)).bind fun m21 => ((([a1.Fore, a1.Back])[m21]?).bind fun z22 => ((f44 z22 0 256).bind fun z23 => (bif (!z23) then ((f49 24).bind fun z24 => ((f49 25).bind fun z25 => ((f44 z22 z24 (IntKind.i64.wrap (z25 - 1))).bind fun z26 => (bif (!z26) then (some (.inr (.inr 4))) else (some (.inl (IntKind.i64.wrap (p17 + 1)))))))) else (some (.inl (IntKind.i64.wrap (p17 + 1))))))))
theorem f31_l1_j3_ok {base : Orc} {d : Nat} (hd : 2 ≤ d) (a1 : GPen) {r : Int ⊕ (Unit ⊕ Int)} {Q : PX → St → Prop} (hQ : ∀ e st', finL (f31_l1_H a1) (f31_l1_X a1) r e st' → Q e st') (p17 : Int) (hS : f31_l1_j3 a1 p17 = some r) {st : St} (he : keepSt [1, 9, 10, 11] [(16, .id 16), (80, .id 80)] [] st = f31_l1_j3_J a1 p17) : ZR (lev codes base (d - 1)) Q c31_2 [] st := by
  refine zrKeep he ?_
  unfold f31_l1_j3 at hS
  refine zrSeq ?_
  refine zrBlk ?_
  refine zrSeq ?_
  refine zrReg ?_
  refine bindE hS (fun m21 hm21 hS => ?_)
  refine zlOp (d := some 13) (op := (.ixS 3 1 (.tmp 9) (.tmp 11))) (g := none) (v := (.r (.ptr 80 0 ((0 + m21) * 1)))) (ups := []) (j := 1) rfl (by kernel_rfl) (by kernel_rfl) (ev_ixM (kk := .i64) (b := 80) (g := 0) (l := 0) (n := ([a1.Fore, a1.Back] : List Int).length) (j := p17) (cs := (eInt .i64).cells ([a1.Fore, a1.Back])) (by kernel_rfl) (by kernel_rfl) (by kernel_rfl) hm21) ?_
  refine bindE hS (fun z22 hz22 hS => ?_)
  refine zlOp (d := some 14) (op := (.load .false 1 (.tmp 13))) (g := none) (v := (.d (.int .i64 z22))) (ups := []) (j := 2) rfl (by kernel_rfl) (by kernel_rfl) (ev_loadM (eInt .i64) (b := 80) (g := 0) (o := (0 + m21) * 1) (e := 3) (k := 1) (m := m21) (fo := 0) (xs := [a1.Fore, a1.Back]) (by kernel_rfl) (by kernel_rfl) (by rw [Nat.zero_add]; rfl) hz22 (by kernel_rfl) (by kernel_rfl) (by kernel_rfl)) ?_
  refine zlRun (n := 1) (j := 3) rfl (by kernel_rfl) ?_
  refine zlEnd (by kernel_rfl) ?_
  refine zkSeq ?_
  refine zrSeq ?_
  refine zrReg ?_
  refine zlRun (n := 1) (j := 1) rfl (by kernel_rfl) ?_
  refine bindE hS (fun z23 hz23 hS => ?_)
  refine zlOp (d := some 16) (op := (.call 44 [(.tmp 15), (.const (.int .i64 0)), (.const (.int .i64 256))])) (g := none) (v := (.d (.bool z23))) (ups := []) (j := 2) rfl (by kernel_rfl) (by kernel_rfl) (ev_call (args := [(.d (.int .i64 z22)), (.d (.int .i64 0)), (.d (.int .i64 256))]) (l := [(.d (.int .i64 z22)), (.d (.int .i64 0)), (.d (.int .i64 256))]) (r := (.d (.bool z23))) (by kernel_rfl) (by kernel_rfl) (f44_ok base (d - 1) (dpt hd rfl) z22 0 256 z23 hz23) (by kernel_rfl) (by kernel_rfl) (by kernel_rfl)) ?_
  refine zlRun (n := 2) (j := 4) rfl (by kernel_rfl) ?_
  refine zlSplit 18 (!z23) (by kernel_rfl) (fun hc => ?_) (fun hc => ?_)
  · replace hS := cond_t hc hS
    refine zlRun (n := 1) (j := 5) rfl (by kernel_rfl) ?_
    refine bindE hS (fun z24 hz24 hS => ?_)
    refine zlOp (d := some 20) (op := (.call 49 [(.const (.int .i64 24))])) (g := (some (18, true))) (v := (.d (.int .i64 z24))) (ups := []) (j := 6) rfl (by kernel_rfl) (by kernel_rfl) (ev_call (args := [(.d (.int .i64 24))]) (l := [(.d (.int .i64 24))]) (r := (.d (.int .i64 z24))) (by kernel_rfl) (by kernel_rfl) (f49_ok base (d - 1) (dpt hd rfl) 24 z24 hz24) (by kernel_rfl) (by kernel_rfl) (by kernel_rfl)) ?_
    refine bindE hS (fun z25 hz25 hS => ?_)
    refine zlOp (d := some 21) (op := (.call 49 [(.const (.int .i64 25))])) (g := (some (18, true))) (v := (.d (.int .i64 z25))) (ups := []) (j := 7) rfl (by kernel_rfl) (by kernel_rfl) (ev_call (args := [(.d (.int .i64 25))]) (l := [(.d (.int .i64 25))]) (r := (.d (.int .i64 z25))) (by kernel_rfl) (by kernel_rfl) (f49_ok base (d - 1) (dpt hd rfl) 25 z25 hz25) (by kernel_rfl) (by kernel_rfl) (by kernel_rfl)) ?_
    refine zlRun (n := 1) (j := 8) rfl (by kernel_rfl) ?_
    refine bindE hS (fun z26 hz26 hS => ?_)
    refine zlOp (d := some 23) (op := (.call 44 [(.tmp 19), (.tmp 20), (.tmp 22)])) (g := (some (18, true))) (v := (.d (.bool z26))) (ups := []) (j := 9) rfl (by kernel_rfl) (by kernel_rfl) (ev_call (args := [(.d (.int .i64 z22)), (.d (.int .i64 z24)), (.d (.int .i64 (IntKind.i64.wrap (z25 - 1))))]) (l := [(.d (.int .i64 z22)), (.d (.int .i64 z24)), (.d (.int .i64 (IntKind.i64.wrap (z25 - 1))))]) (r := (.d (.bool z26))) (by kernel_rfl) (by kernel_rfl) (f44_ok base (d - 1) (dpt hd rfl) z22 z24 (IntKind.i64.wrap (z25 - 1)) z26 hz26) (by kernel_rfl) (by kernel_rfl) (by kernel_rfl)) ?_
    refine zlRun (n := 2) (j := 11) rfl (by kernel_rfl) ?_
    refine zlEnd (by kernel_rfl) ?_
    refine zkSeq ?_
    refine zrSplit 25 (!z26) (by kernel_rfl) (fun hc => ?_) (fun hc => ?_)
    · replace hS := cond_t hc hS
      refine zrCondT (by kernel_rfl) ?_
      refine zrSeq ?_
      refine zrReg ?_
      refine zlRun (n := 1) (j := 1) rfl (by kernel_rfl) ?_
      refine zlEnd (by kernel_rfl) ?_
      refine zkSeq ?_
      refine zrRet ?_
      refine zkBlkR ?_
      refine zkSeqR ?_
      refine zkNil ?_
      exact endQ hS hQ (finL_x (by intro h; cases h) (by show _ = _ ∧ _ = _; exact ⟨rfl, by kernel_rfl⟩))
    · replace hS := cond_f hc hS
      refine zrCondF (by kernel_rfl) ?_
      refine zrSkip ?_
      refine zkBlk ?_
      refine zkSeq ?_
      refine zrReg ?_
      refine zlRun (n := 2) (j := 2) rfl (by kernel_rfl) ?_
      refine zlEnd (by kernel_rfl) ?_
      refine zkNil ?_
      exact endQ hS hQ (finL_n (by show keepSt _ _ _ _ = _; kernel_rfl))
  · replace hS := cond_f hc hS
    refine zlRun (n := 7) (j := 11) rfl (by kernel_rfl) ?_
    refine zlEnd (by kernel_rfl) ?_
    refine zkSeq ?_
    refine zrCondF (by kernel_rfl) ?_
    refine zrSkip ?_
    refine zkBlk ?_
    refine zkSeq ?_
    refine zrReg ?_
    refine zlRun (n := 2) (j := 2) rfl (by kernel_rfl) ?_
    refine zlEnd (by kernel_rfl) ?_
    refine zkNil ?_
    exact endQ hS hQ (finL_n (by show keepSt _ _ _ _ = _; kernel_rfl))
def f31_l1_j2_J (a1 : GPen) (p15 : Int) (p16 : Bool) : St := ⟨(up (up (up (up (up (fun _ => .un) 12 (.d (.bool p16))) 11 (.d (.int .i64 p15))) 10 (.d (.int .i64 ((([a1.Fore, a1.Back] : List Int).length) : Int)))) 9 (.r (.msl 80 0 0 (([a1.Fore, a1.Back] : List Int).length)))) 1 (.r (.ptr 16 0 0))), (up (up (hB fun _ => 0) 80 ⟨0, some (.own 3 1 ((eInt .i64).cells ([a1.Fore, a1.Back])))⟩) 16 ⟨0, some (.box ((.d (.int .i64 a1.Flags)) :: ((.d (.int .i64 a1.Fore)) :: ((.d (.int .i64 a1.Back)) :: []))))⟩)⟩
noncomputable def f31_l1_j2 (a1 : GPen) (p15 : Int) (p16 : Bool) : Option (Int ⊕ (Unit ⊕ Int)) := (bif p16 then (f31_l1_j3 a1 p15) else (some (.inr (.inl ()))))
theorem f31_l1_j2_ok {base : Orc} {d : Nat} (hd : 2 ≤ d) (a1 : GPen) {r : Int ⊕ (Unit ⊕ Int)} {Q : PX → St → Prop} (hQ : ∀ e st', finL (f31_l1_H a1) (f31_l1_X a1) r e st' → Q e st') (p15 : Int) (p16 : Bool) (hS : f31_l1_j2 a1 p15 p16 = some r) {st : St} (he : keepSt [1, 9, 10, 11, 12] [(16, .id 16), (80, .id 80)] [] st = f31_l1_j2_J a1 p15 p16) : ZR (lev codes base (d - 1)) Q c31_3 [] st := by
  refine zrKeep he ?_
  unfold f31_l1_j2 at hS
  refine zrSeq ?_
  refine zrSplit 12 p16 (by kernel_rfl) (fun hc => ?_) (fun hc => ?_)
  · replace hS := cond_t hc hS
    refine zrCondT (by kernel_rfl) ?_
    refine zrSkip ?_
    refine zkSeq ?_
    exact f31_l1_j3_ok hd a1 hQ p15 hS (by kernel_rfl)
  · replace hS := cond_f hc hS
    refine zrCondF (by kernel_rfl) ?_
    refine zrKeep (J := f31_l1_e0_J a1) (by kernel_rfl) ?_
    refine zrExit ?_
    refine zkSeqX ?_
    refine zkNil ?_
    exact endQ hS hQ (finL_x (by intro h; cases h) (by show _ = _ ∧ _ = _; exact ⟨rfl, rfl⟩))
noncomputable def f31_l1 (a1 : GPen) (x : Int) : Option (Int ⊕ (Unit ⊕ Int)) := (bif (decide (x < ((([a1.Fore, a1.Back] : List Int).length) : Int))) then (f31_l1_j2 a1 x true) else (f31_l1_j2 a1 x false))
theorem f31_l1_ok {base : Orc} {d : Nat} (hd : 2 ≤ d) (a1 : GPen) {r : Int ⊕ (Unit ⊕ Int)} {Q : PX → St → Prop} (hQ : ∀ e st', finL (f31_l1_H a1) (f31_l1_X a1) r e st' → Q e st') {x : Int} (hS : f31_l1 a1 x = some r) {st : St} (he : f31_l1_H a1 x st) : ZR (lev codes base (d - 1)) Q c31_4 [] st := by
  refine zrKeep he ?_
  unfold f31_l1 at hS
  refine zrSeq ?_
  refine zrReg ?_
  refine zlBool (d := 12) (op := (.cmpI .lss (.tmp 11) (.tmp 10))) (g := none) (j := 1) (decide (x < ((([a1.Fore, a1.Back] : List Int).length) : Int))) rfl (by kernel_rfl) (by kernel_rfl) (by kernel_rfl) (fun hc => ?_) (fun hc => ?_)
  · replace hS := cond_t hc hS
    refine zlEnd (by kernel_rfl) ?_
    refine zkSeq ?_
    exact f31_l1_j2_ok hd a1 hQ x true hS (by kernel_rfl)
  · replace hS := cond_f hc hS
    refine zlEnd (by kernel_rfl) ?_
    refine zkSeq ?_
    exact f31_l1_j2_ok hd a1 hQ x false hS (by kernel_rfl)
noncomputable def f31 (a1 : GPen) : Option (Int) := ((loopO (f31_l1 a1) 0).bind fun z27 => (Sum.elim (fun z28 => (f31_j0 a1 )) (fun z29 => (some z29)) z27))
theorem f31_ok (base : Orc) (d : Nat) (hd : 2 ≤ d) (a1 : GPen) (r : Int) (hS : f31 a1 = some r) : lev codes base d 31 [(.agg ((.d (.int .i64 a1.Flags)) :: ((.d (.int .i64 a1.Fore)) :: ((.d (.int .i64 a1.Back)) :: []))))] [] = some ((.d (.int .i64 r)), []) := by
  refine lev_go codes31 rfl rfl (Nat.le_trans (Nat.le_of_ble_eq_true rfl) hd) fun Q hQ => ?_
  unfold f31 at hS
  show ZR _ Q c31_b [] _
  replace hQ : ∀ e st', f31_Q r e st' → Q e st' := hQ
  refine zrSeq ?_
  refine zrReg ?_
  refine zlRun (n := 2) (j := 2) rfl (by kernel_rfl) ?_
  refine zlEnd (by kernel_rfl) ?_
  refine zkSeq ?_
  refine zrSeq ?_
  refine zrSeq ?_
  refine zrReg ?_
  refine zlRun (n := 7) (j := 7) rfl (by kernel_rfl) ?_
  refine zlEnd (by kernel_rfl) ?_
  refine zkSeq ?_
  refine zrBlk ?_
  refine bindE hS (fun z27 hz27 hS => ?_)
  refine zrLoop (f31_l1_H a1) (f31_l1_X a1) (fun x st r Q h0 hS hQ => f31_l1_ok hd a1 hQ hS h0) (x := 0) (z := z27) (by show keepSt _ _ _ _ = _; kernel_rfl) hz27 ?_
  rcases z27 with z28 | z29
  · replace hS := (show _ = _ from hS)
    simp only [Sum.elim_inl] at hS
    intro e st' _ hX
    obtain ⟨rfl, rfl⟩ : _ ∧ _ := hX
    refine zkBlkX ?_
    refine zkSeq ?_
    exact f31_j0_ok hd a1 hQ  hS (by kernel_rfl)
  · simp only [Sum.elim_inr] at hS
    intro e st' _ hX
    obtain ⟨rfl, hX⟩ : _ ∧ _ := hX
    refine zkBlkR ?_
    refine zkSeqR ?_
    refine zkNil ?_
    exact endQ hS hQ (fRet ((congrArg (fun s => outR s 0 c31.res) hX).trans (f31_out z29)))
/- farwriter/farkeep.PenZero -/
def f11_fin (p10 : Bool) : St := ⟨(up (fun _ => .un) 6 (.d (.bool p10))), (hB fun _ => 0)⟩
theorem f11_out (p10 : Bool) : outR (f11_fin p10) 0 c11.res = some ((.d (.bool p10)), []) := by
  kernel_rfl
def f11_Q (r : Bool) (e : PX) (st : St) : Prop := DoneF c11 0 ((.d (.bool r)), []) e st
def f11_j0_J (a1 : GPen) (a2 : GPen) (a3 : List Int) (p18 : GPen) (p19 : GPen) : St := ⟨(up (up (fun _ => .un) 9 (.r (.ptr 80 0 0))) 7 (.r (.ptr 64 0 0))), (up (up (hB fun _ => 0) 80 ⟨0, some (.box ((.d (.int .i64 p19.Flags)) :: ((.d (.int .i64 p19.Fore)) :: ((.d (.int .i64 p19.Back)) :: []))))⟩) 64 ⟨0, some (.box ((.d (.int .i64 p18.Flags)) :: ((.d (.int .i64 p18.Fore)) :: ((.d (.int .i64 p18.Back)) :: []))))⟩)⟩
noncomputable def f11_j0 (a1 : GPen) (a2 : GPen) (a3 : List Int) (p18 : GPen) (p19 : GPen) : Option (Bool) := (bif (decide (p18.Flags = p19.Flags) && (decide (p18.Fore = p19.Fore) && (decide (p18.Back = p19.Back) && true))) then ((f31 p18).bind fun z14 => (bif (decide (z14 = 0)) then (some true) else (some false))) else (some false))
theorem f11_j0_ok {base : Orc} {d : Nat} (hd : 7 ≤ d) (a1 : GPen) (a2 : GPen) (a3 : List Int) {r : Bool} {Q : PX → St → Prop} (hQ : ∀ e st', f11_Q r e st' → Q e st') (p18 : GPen) (p19 : GPen) (hS : f11_j0 a1 a2 a3 p18 p19 = some r) {st : St} (he : keepSt [7, 9] [(64, .id 64), (80, .id 80)] [] st = f11_j0_J a1 a2 a3 p18 p19) : ZR (lev codes base (d - 1)) Q c11_1 [] st := by
  refine zrKeep he ?_
  unfold f11_j0 at hS
  refine zrSeq ?_
  refine zrReg ?_
  refine zlRun (n := 2) (j := 2) rfl (by kernel_rfl) ?_
  refine zlBool (d := 40) (op := (.eqA .false [(3, .int)] (.tmp 38) (.tmp 39))) (g := none) (j := 3) (decide (p18.Flags = p19.Flags) && (decide (p18.Fore = p19.Fore) && (decide (p18.Back = p19.Back) && true))) rfl (by kernel_rfl) (by kernel_rfl) (by kernel_rfl) (fun hc => ?_) (fun hc => ?_)
  · replace hS := cond_t hc hS
    refine zlRun (n := 2) (j := 5) rfl (by kernel_rfl) ?_
    refine bindE hS (fun z14 hz14 hS => ?_)
    refine zlOp (d := some 43) (op := (.call 31 [(.tmp 42)])) (g := (some (41, true))) (v := (.d (.int .i64 z14))) (ups := []) (j := 6) rfl (by kernel_rfl) (by kernel_rfl) (ev_call (args := [(.agg ((.d (.int .i64 p18.Flags)) :: ((.d (.int .i64 p18.Fore)) :: ((.d (.int .i64 p18.Back)) :: []))))]) (l := [(.agg ((.d (.int .i64 p18.Flags)) :: ((.d (.int .i64 p18.Fore)) :: ((.d (.int .i64 p18.Back)) :: []))))]) (r := (.d (.int .i64 z14))) (by kernel_rfl) (by kernel_rfl) (f31_ok base (d - 1) (dpt hd rfl) p18 z14 hz14) (by kernel_rfl) (by kernel_rfl) (by kernel_rfl)) ?_
    refine zlBool (d := 44) (op := (.cmpI .eql (.tmp 43) (.const (.int .i64 0)))) (g := (some (41, true))) (j := 7) (decide (z14 = 0)) rfl (by kernel_rfl) (by kernel_rfl) (by kernel_rfl) (fun hc => ?_) (fun hc => ?_)
    · replace hS := cond_t hc hS
      refine zlRun (n := 2) (j := 9) rfl (by kernel_rfl) ?_
      refine zlEnd (by kernel_rfl) ?_
      refine zkSeq ?_
      refine zrRet ?_
      refine zkNil ?_
      exact endQ hS hQ (fRet ((congrArg (fun s => outR s 0 c11.res) (by kernel_rfl : finSt c11.fin _ = f11_fin true)).trans (f11_out true)))
    · replace hS := cond_f hc hS
      refine zlRun (n := 2) (j := 9) rfl (by kernel_rfl) ?_
      refine zlEnd (by kernel_rfl) ?_
      refine zkSeq ?_
      refine zrRet ?_
      refine zkNil ?_
      exact endQ hS hQ (fRet ((congrArg (fun s => outR s 0 c11.res) (by kernel_rfl : finSt c11.fin _ = f11_fin false)).trans (f11_out false)))
  · replace hS := cond_f hc hS
    refine zlRun (n := 6) (j := 9) rfl (by kernel_rfl) ?_
    refine zlEnd (by kernel_rfl) ?_
    refine zkSeq ?_
    refine zrRet ?_
    refine zkNil ?_
    exact endQ hS hQ (fRet ((congrArg (fun s => outR s 0 c11.res) (by kernel_rfl : finSt c11.fin _ = f11_fin false)).trans (f11_out false)))
noncomputable def f11 (a1 : GPen) (a2 : GPen) (a3 : List Int) : Option (Bool) := ((app? 8 ([0] : List Int) a3).bind fun z8 => ((f32 a1 z8).bind fun z9 => ((app? 8 ([(-1)] : List Int) a3).bind fun z10 => ((f32 a2 z10).bind fun z11 => (f30.bind fun z15 => (bif (!z15) then (f30.bind fun z16 => (some z16)) else (bif (!decide (z9.2 = 0)) then (f30.bind fun z17 => (some z17)) else (bif (!decide (z11.2 = 0)) then (f30.bind fun z18 => (some z18)) else (f11_j0 a1 a2 a3 z9.1 z11.1)))))))))
theorem f11_ok (base : Orc) (d : Nat) (hd : 7 ≤ d) (a1 : GPen) (a2 : GPen) (a3 : List Int) (r : Bool) (hS : f11 a1 a2 a3 = some r) : lev codes base d 11 [(.agg ((.d (.int .i64 a1.Flags)) :: ((.d (.int .i64 a1.Fore)) :: ((.d (.int .i64 a1.Back)) :: [])))), (.agg ((.d (.int .i64 a2.Flags)) :: ((.d (.int .i64 a2.Fore)) :: ((.d (.int .i64 a2.Back)) :: [])))), (.d (.sl a3.length ((eInt .i64).cells a3)))] [] = some ((.d (.bool r)), []) := by
  refine lev_go codes11 rfl rfl (Nat.le_trans (Nat.le_of_ble_eq_true rfl) hd) fun Q hQ => ?_
  unfold f11 at hS
  show ZR _ Q c11_b [] _
  replace hQ : ∀ e st', f11_Q r e st' → Q e st' := hQ
  refine zrSeq ?_
  refine zrReg ?_
  refine zlRun (n := 3) (j := 3) rfl (by kernel_rfl) ?_
  refine zlEnd (by kernel_rfl) ?_
  refine zkSeq ?_
  refine zrSeq ?_
  refine zrRegD ?_
  refine zdRun (n := 3) (j := 3) (ts := [[(32, false)], [(112, true)], []]) (acc' := [[(32, false)], [(112, true)], []]) rfl (by kernel_rfl) (by kernel_rfl) (by kernel_rfl) ?_
  refine bindE hS (fun z8 hz8 hS => ?_)
  refine zdOp (d := some 15) (op := (.app 3 1 8 (.tmp 13) (.tmp 14))) (g := none) (v := (.r (.msl 112 2 0 z8.length))) (ups := [(112, ⟨2, some (.own 3 1 ((eInt .i64).cells z8))⟩)]) (j := 4) (t1 := [(128, true), (112, true)]) (acc' := [[(32, false)], [(112, true)], [], [(128, true), (112, true)]]) (by kernel_rfl) (by kernel_rfl) rfl (by kernel_rfl) (by kernel_rfl) (ev_app (eInt .i64) (b := 112) (g := 1) (n := ([0] : List Int).length) (xs := [0]) (ys := a3) ((congrArg (asL _) (by kernel_rfl : ρof _ (.tmp 14) = (.d (.sl a3.length ((eInt .i64).cells a3))))).trans (as_d _ _)) rfl (by kernel_rfl) rfl (by kernel_rfl) rfl hz8) ?_
  refine bindE hS (fun z9 hz9 hS => ?_)
  refine zdOp (d := some 16) (op := (.call 32 [(.tmp 12), (.tmp 15)])) (g := none) (v := (.tup [(.agg ((.d (.int .i64 z9.1.Flags)) :: ((.d (.int .i64 z9.1.Fore)) :: ((.d (.int .i64 z9.1.Back)) :: [])))), (.d (.int .i64 z9.2))])) (ups := []) (j := 5) (t1 := [(112, false), (136, true), (137, true), (138, true), (139, true), (140, true), (141, true), (142, true), (143, true)]) (acc' := [[(32, false)], [(112, true)], [], [(128, true), (112, true)], [(112, false), (136, true), (137, true), (138, true), (139, true), (140, true), (141, true), (142, true), (143, true)]]) (by kernel_rfl) (by kernel_rfl) rfl (by kernel_rfl) (by kernel_rfl) (ev_call (args := [(.agg ((.d (.int .i64 a1.Flags)) :: ((.d (.int .i64 a1.Fore)) :: ((.d (.int .i64 a1.Back)) :: [])))), (.r (.msl 112 2 0 z8.length))]) (l := [(.agg ((.d (.int .i64 a1.Flags)) :: ((.d (.int .i64 a1.Fore)) :: ((.d (.int .i64 a1.Back)) :: [])))), (.d (.sl z8.length ((eInt .i64).cells z8)))]) (r := (.tup [(.agg ((.d (.int .i64 z9.1.Flags)) :: ((.d (.int .i64 z9.1.Fore)) :: ((.d (.int .i64 z9.1.Back)) :: [])))), (.d (.int .i64 z9.2))])) (by kernel_rfl) (l_cons (by kernel_rfl) (l_cons (l_own (eInt .i64) (e := 3) (k := 1) (xs := z8) (by kernel_rfl) rfl rfl) l_nil)) (f32_ok base (d - 1) (dpt hd rfl) a1 z8 z9 hz9) (by kernel_rfl) (by kernel_rfl) (by kernel_rfl)) ?_
  refine zdRun (n := 6) (j := 11) (ts := [[], [], [], [(64, true)], [(64, true)], []]) (acc' := [[(32, false)], [(112, true)], [], [(128, true), (112, true)], [(112, false), (136, true), (137, true), (138, true), (139, true), (140, true), (141, true), (142, true), (143, true)], [], [], [], [(64, true)], [(64, true)], []]) rfl (by kernel_rfl) (by kernel_rfl) (by kernel_rfl) ?_
  refine zdEnd (by kernel_rfl) (by kernel_rfl) ?_
  refine zkSeq ?_
  refine zrSeq ?_
  refine zrRegD ?_
  refine zdRun (n := 3) (j := 3) (ts := [[(40, false)], [(176, true)], []]) (acc' := [[(40, false)], [(176, true)], []]) rfl (by kernel_rfl) (by kernel_rfl) (by kernel_rfl) ?_
  refine bindE hS (fun z10 hz10 hS => ?_)
  refine zdOp (d := some 23) (op := (.app 3 1 8 (.tmp 21) (.tmp 22))) (g := none) (v := (.r (.msl 176 2 0 z10.length))) (ups := [(176, ⟨2, some (.own 3 1 ((eInt .i64).cells z10))⟩)]) (j := 4) (t1 := [(192, true), (176, true)]) (acc' := [[(40, false)], [(176, true)], [], [(192, true), (176, true)]]) (by kernel_rfl) (by kernel_rfl) rfl (by kernel_rfl) (by kernel_rfl) (ev_app (eInt .i64) (b := 176) (g := 1) (n := ([(-1)] : List Int).length) (xs := [(-1)]) (ys := a3) ((congrArg (asL _) (by kernel_rfl : ρof _ (.tmp 22) = (.d (.sl a3.length ((eInt .i64).cells a3))))).trans (as_d _ _)) rfl (by kernel_rfl) rfl (by kernel_rfl) rfl hz10) ?_
  refine bindE hS (fun z11 hz11 hS => ?_)
  refine zdOp (d := some 24) (op := (.call 32 [(.tmp 20), (.tmp 23)])) (g := none) (v := (.tup [(.agg ((.d (.int .i64 z11.1.Flags)) :: ((.d (.int .i64 z11.1.Fore)) :: ((.d (.int .i64 z11.1.Back)) :: [])))), (.d (.int .i64 z11.2))])) (ups := []) (j := 5) (t1 := [(176, false), (200, true), (201, true), (202, true), (203, true), (204, true), (205, true), (206, true), (207, true)]) (acc' := [[(40, false)], [(176, true)], [], [(192, true), (176, true)], [(176, false), (200, true), (201, true), (202, true), (203, true), (204, true), (205, true), (206, true), (207, true)]]) (by kernel_rfl) (by kernel_rfl) rfl (by kernel_rfl) (by kernel_rfl) (ev_call (args := [(.agg ((.d (.int .i64 a2.Flags)) :: ((.d (.int .i64 a2.Fore)) :: ((.d (.int .i64 a2.Back)) :: [])))), (.r (.msl 176 2 0 z10.length))]) (l := [(.agg ((.d (.int .i64 a2.Flags)) :: ((.d (.int .i64 a2.Fore)) :: ((.d (.int .i64 a2.Back)) :: [])))), (.d (.sl z10.length ((eInt .i64).cells z10)))]) (r := (.tup [(.agg ((.d (.int .i64 z11.1.Flags)) :: ((.d (.int .i64 z11.1.Fore)) :: ((.d (.int .i64 z11.1.Back)) :: [])))), (.d (.int .i64 z11.2))])) (by kernel_rfl) (l_cons (by kernel_rfl) (l_cons (l_own (eInt .i64) (e := 3) (k := 1) (xs := z10) (by kernel_rfl) rfl rfl) l_nil)) (f32_ok base (d - 1) (dpt hd rfl) a2 z10 z11 hz11) (by kernel_rfl) (by kernel_rfl) (by kernel_rfl)) ?_
  refine zdRun (n := 6) (j := 11) (ts := [[], [], [], [(80, true)], [(80, true)], []]) (acc' := [[(40, false)], [(176, true)], [], [(192, true), (176, true)], [(176, false), (200, true), (201, true), (202, true), (203, true), (204, true), (205, true), (206, true), (207, true)], [], [], [], [(80, true)], [(80, true)], []]) rfl (by kernel_rfl) (by kernel_rfl) (by kernel_rfl) ?_
  refine zdEnd (by kernel_rfl) (by kernel_rfl) ?_
  refine zkSeq ?_
  refine zrSeq ?_
  refine zrSeq ?_
  refine zrReg ?_
  refine bindE hS (fun z15 hz15 hS => ?_)
  refine zlOp (d := some 27) (op := (.call 30 [])) (g := none) (v := (.d (.bool z15))) (ups := []) (j := 1) rfl (by kernel_rfl) (by kernel_rfl) (ev_call (args := []) (l := []) (r := (.d (.bool z15))) (by kernel_rfl) (by kernel_rfl) (f30_ok base (d - 1) (dpt hd rfl)  z15 hz15) (by kernel_rfl) (by kernel_rfl) (by kernel_rfl)) ?_
  refine zlRun (n := 2) (j := 3) rfl (by kernel_rfl) ?_
  refine zlSplit 29 (!z15) (by kernel_rfl) (fun hc => ?_) (fun hc => ?_)
  · replace hS := cond_t hc hS
    refine zlRun (n := 7) (j := 10) rfl (by kernel_rfl) ?_
    refine zlEnd (by kernel_rfl) ?_
    refine zkSeq ?_
    refine zrCondT (by kernel_rfl) ?_
    refine zrSeq ?_
    refine zrReg ?_
    refine bindE hS (fun z16 hz16 hS => ?_)
    refine zlOp (d := some 37) (op := (.call 30 [])) (g := none) (v := (.d (.bool z16))) (ups := []) (j := 1) rfl (by kernel_rfl) (by kernel_rfl) (ev_call (args := []) (l := []) (r := (.d (.bool z16))) (by kernel_rfl) (by kernel_rfl) (f30_ok base (d - 1) (dpt hd rfl)  z16 hz16) (by kernel_rfl) (by kernel_rfl) (by kernel_rfl)) ?_
    refine zlRun (n := 1) (j := 2) rfl (by kernel_rfl) ?_
    refine zlEnd (by kernel_rfl) ?_
    refine zkSeq ?_
    refine zrRet ?_
    refine zkSeqR ?_
    refine zkNil ?_
    exact endQ hS hQ (fRet ((congrArg (fun s => outR s 0 c11.res) (by kernel_rfl : finSt c11.fin _ = f11_fin z16)).trans (f11_out z16)))
  · replace hS := cond_f hc hS
    refine zlRun (n := 1) (j := 4) rfl (by kernel_rfl) ?_
    refine zlBool (d := 31) (op := (.cmpI .neq (.tmp 30) (.const (.int .i64 0)))) (g := (some (29, false))) (j := 5) (!decide (z9.2 = 0)) rfl (by kernel_rfl) (by kernel_rfl) (by kernel_rfl) (fun hc => ?_) (fun hc => ?_)
    · replace hS := cond_t hc hS
      refine zlRun (n := 5) (j := 10) rfl (by kernel_rfl) ?_
      refine zlEnd (by kernel_rfl) ?_
      refine zkSeq ?_
      refine zrCondT (by kernel_rfl) ?_
      refine zrSeq ?_
      refine zrReg ?_
      refine bindE hS (fun z17 hz17 hS => ?_)
      refine zlOp (d := some 37) (op := (.call 30 [])) (g := none) (v := (.d (.bool z17))) (ups := []) (j := 1) rfl (by kernel_rfl) (by kernel_rfl) (ev_call (args := []) (l := []) (r := (.d (.bool z17))) (by kernel_rfl) (by kernel_rfl) (f30_ok base (d - 1) (dpt hd rfl)  z17 hz17) (by kernel_rfl) (by kernel_rfl) (by kernel_rfl)) ?_
      refine zlRun (n := 1) (j := 2) rfl (by kernel_rfl) ?_
      refine zlEnd (by kernel_rfl) ?_
      refine zkSeq ?_
      refine zrRet ?_
      refine zkSeqR ?_
      refine zkNil ?_
      exact endQ hS hQ (fRet ((congrArg (fun s => outR s 0 c11.res) (by kernel_rfl : finSt c11.fin _ = f11_fin z17)).trans (f11_out z17)))
    · replace hS := cond_f hc hS
      refine zlRun (n := 3) (j := 8) rfl (by kernel_rfl) ?_
      refine zlBool (d := 35) (op := (.cmpI .neq (.tmp 34) (.const (.int .i64 0)))) (g := (some (33, false))) (j := 9) (!decide (z11.2 = 0)) rfl (by kernel_rfl) (by kernel_rfl) (by kernel_rfl) (fun hc => ?_) (fun hc => ?_)
      · replace hS := cond_t hc hS
        refine zlRun (n := 1) (j := 10) rfl (by kernel_rfl) ?_
        refine zlEnd (by kernel_rfl) ?_
        refine zkSeq ?_
        refine zrCondT (by kernel_rfl) ?_
        refine zrSeq ?_
        refine zrReg ?_
        refine bindE hS (fun z18 hz18 hS => ?_)
        refine zlOp (d := some 37) (op := (.call 30 [])) (g := none) (v := (.d (.bool z18))) (ups := []) (j := 1) rfl (by kernel_rfl) (by kernel_rfl) (ev_call (args := []) (l := []) (r := (.d (.bool z18))) (by kernel_rfl) (by kernel_rfl) (f30_ok base (d - 1) (dpt hd rfl)  z18 hz18) (by kernel_rfl) (by kernel_rfl) (by kernel_rfl)) ?_
        refine zlRun (n := 1) (j := 2) rfl (by kernel_rfl) ?_
        refine zlEnd (by kernel_rfl) ?_
        refine zkSeq ?_
        refine zrRet ?_
        refine zkSeqR ?_
        refine zkNil ?_
        exact endQ hS hQ (fRet ((congrArg (fun s => outR s 0 c11.res) (by kernel_rfl : finSt c11.fin _ = f11_fin z18)).trans (f11_out z18)))
      · replace hS := cond_f hc hS
        refine zlRun (n := 1) (j := 10) rfl (by kernel_rfl) ?_
        refine zlEnd (by kernel_rfl) ?_
        refine zkSeq ?_
        refine zrCondF (by kernel_rfl) ?_
        refine zrSkip ?_
        refine zkSeq ?_
        exact f11_j0_ok hd a1 a2 a3 hQ z9.1 z11.1 hS (by kernel_rfl)
/- farwriter/farkeep.PenBack -/
def f12_fin (p10 : Bool) : St := ⟨(up (fun _ => .un) 4 (.d (.bool p10))), (hB fun _ => 0)⟩
theorem f12_out (p10 : Bool) : outR (f12_fin p10) 0 c12.res = some ((.d (.bool p10)), []) := by
  kernel_rfl
def f12_Q (r : Bool) (e : PX) (st : St) : Prop := DoneF c12 0 ((.d (.bool r)), []) e st
def f12_j0_J (a1 : GPen) (a2 : Int) : St := ⟨(up (up (fun _ => .un) 2 (.r (.ptr 24 0 0))) 1 (.d (.int .i64 a2))), (up (hB fun _ => 0) 24 ⟨0, some (.box ((.d (.int .i64 a1.Flags)) :: ((.d (.int .i64 a1.Fore)) :: ((.d (.int .i64 a1.Back)) :: []))))⟩)⟩
noncomputable def f12_j0 (a1 : GPen) (a2 : Int) : Option (Bool) := ((f32 a1 [a2]).bind fun z10 => ((f32 z10.1 [(IntKind.i64.wrap (a2 + 20))]).bind fun z11 => ((f32 a1 [(IntKind.i64.wrap (a2 + 20))]).bind fun z12 => (bif (decide (z10.2 = 0)) then (bif (decide (z11.2 = 0)) then (bif (decide (z12.2 = 0)) then (bif (decide (z11.1.Flags = z12.1.Flags) && (decide (z11.1.Fore = z12.1.Fore) && (decide (z11.1.Back = z12.1.Back) && true))) then (bif (decide (z11.1.Fore = a1.Fore)) then (bif (decide (z11.1.Back = a1.Back)) then (bif (!decide ((bitI .andNot .i64 z10.1.Flags z11.1.Flags) = 0)) then (bif (decide ((bitI .andNot .i64 z11.1.Flags a1.Flags) = 0)) then (some true) else (some false)) else (some false)) else (some false)) else (some false)) else (some false)) else (some false)) else (some false)) else (some false)))))
theorem f12_j0_ok {base : Orc} {d : Nat} (hd : 7 ≤ d) (a1 : GPen) (a2 : Int) {r : Bool} {Q : PX → St → Prop} (hQ : ∀ e st', f12_Q r e st' → Q e st')  (hS : f12_j0 a1 a2 = some r) {st : St} (he : keepSt [1, 2] [(24, .id 24)] [] st = f12_j0_J a1 a2) : ZR (lev codes base (d - 1)) Q c12_1 [] st := by
  refine zrKeep he ?_
  unfold f12_j0 at hS
  refine zrSeq ?_
  refine zrReg ?_
  refine zlRun (n := 3) (j := 3) rfl (by kernel_rfl) ?_
  refine bindE hS (fun z10 hz10 hS => ?_)
  refine zlOp (d := some 35) (op := (.call 32 [(.tmp 32), (.tmp 34)])) (g := none) (v := (.tup [(.agg ((.d (.int .i64 z10.1.Flags)) :: ((.d (.int .i64 z10.1.Fore)) :: ((.d (.int .i64 z10.1.Back)) :: [])))), (.d (.int .i64 z10.2))])) (ups := []) (j := 4) rfl (by kernel_rfl) (by kernel_rfl) (ev_call (args := [(.agg ((.d (.int .i64 a1.Flags)) :: ((.d (.int .i64 a1.Fore)) :: ((.d (.int .i64 a1.Back)) :: [])))), (.r (.msl 280 1 0 (([a2] : List Int).length)))]) (l := [(.agg ((.d (.int .i64 a1.Flags)) :: ((.d (.int .i64 a1.Fore)) :: ((.d (.int .i64 a1.Back)) :: [])))), (.d (.sl ([a2] : List Int).length ((eInt .i64).cells ([a2]))))]) (r := (.tup [(.agg ((.d (.int .i64 z10.1.Flags)) :: ((.d (.int .i64 z10.1.Fore)) :: ((.d (.int .i64 z10.1.Back)) :: [])))), (.d (.int .i64 z10.2))])) (by kernel_rfl) (l_cons (by kernel_rfl) (l_cons (l_own (eInt .i64) (e := 3) (k := 1) (xs := [a2]) (by kernel_rfl) rfl rfl) l_nil)) (f32_ok base (d - 1) (dpt hd rfl) a1 [a2] z10 hz10) (by kernel_rfl) (by kernel_rfl) (by kernel_rfl)) ?_
  refine zlRun (n := 6) (j := 10) rfl (by kernel_rfl) ?_
  refine zlEnd (by kernel_rfl) ?_
  refine zkSeq ?_
  refine zrSeq ?_
  refine zrReg ?_
  refine zlRun (n := 4) (j := 4) rfl (by kernel_rfl) ?_
  refine bindE hS (fun z11 hz11 hS => ?_)
  refine zlOp (d := some 43) (op := (.call 32 [(.tmp 39), (.tmp 42)])) (g := none) (v := (.tup [(.agg ((.d (.int .i64 z11.1.Flags)) :: ((.d (.int .i64 z11.1.Fore)) :: ((.d (.int .i64 z11.1.Back)) :: [])))), (.d (.int .i64 z11.2))])) (ups := []) (j := 5) rfl (by kernel_rfl) (by kernel_rfl) (ev_call (args := [(.agg ((.d (.int .i64 z10.1.Flags)) :: ((.d (.int .i64 z10.1.Fore)) :: ((.d (.int .i64 z10.1.Back)) :: [])))), (.r (.msl 344 1 0 (([(IntKind.i64.wrap (a2 + 20))] : List Int).length)))]) (l := [(.agg ((.d (.int .i64 z10.1.Flags)) :: ((.d (.int .i64 z10.1.Fore)) :: ((.d (.int .i64 z10.1.Back)) :: [])))), (.d (.sl ([(IntKind.i64.wrap (a2 + 20))] : List Int).length ((eInt .i64).cells ([(IntKind.i64.wrap (a2 + 20))]))))]) (r := (.tup [(.agg ((.d (.int .i64 z11.1.Flags)) :: ((.d (.int .i64 z11.1.Fore)) :: ((.d (.int .i64 z11.1.Back)) :: [])))), (.d (.int .i64 z11.2))])) (by kernel_rfl) (l_cons (by kernel_rfl) (l_cons (l_own (eInt .i64) (e := 3) (k := 1) (xs := [(IntKind.i64.wrap (a2 + 20))]) (by kernel_rfl) rfl rfl) l_nil)) (f32_ok base (d - 1) (dpt hd rfl) z10.1 [(IntKind.i64.wrap (a2 + 20))] z11 hz11) (by kernel_rfl) (by kernel_rfl) (by kernel_rfl)) ?_
  refine zlRun (n := 6) (j := 11) rfl (by kernel_rfl) ?_
  refine zlEnd (by kernel_rfl) ?_
  refine zkSeq ?_
  refine zrSeq ?_
  refine zrReg ?_
  refine zlRun (n := 4) (j := 4) rfl (by kernel_rfl) ?_
  refine bindE hS (fun z12 hz12 hS => ?_)
  refine zlOp (d := some 51) (op := (.call 32 [(.tmp 47), (.tmp 50)])) (g := none) (v := (.tup [(.agg ((.d (.int .i64 z12.1.Flags)) :: ((.d (.int .i64 z12.1.Fore)) :: ((.d (.int .i64 z12.1.Back)) :: [])))), (.d (.int .i64 z12.2))])) (ups := []) (j := 5) rfl (by kernel_rfl) (by kernel_rfl) (ev_call (args := [(.agg ((.d (.int .i64 a1.Flags)) :: ((.d (.int .i64 a1.Fore)) :: ((.d (.int .i64 a1.Back)) :: [])))), (.r (.msl 408 1 0 (([(IntKind.i64.wrap (a2 + 20))] : List Int).length)))]) (l := [(.agg ((.d (.int .i64 a1.Flags)) :: ((.d (.int .i64 a1.Fore)) :: ((.d (.int .i64 a1.Back)) :: [])))), (.d (.sl ([(IntKind.i64.wrap (a2 + 20))] : List Int).length ((eInt .i64).cells ([(IntKind.i64.wrap (a2 + 20))]))))]) (r := (.tup [(.agg ((.d (.int .i64 z12.1.Flags)) :: ((.d (.int .i64 z12.1.Fore)) :: ((.d (.int .i64 z12.1.Back)) :: [])))), (.d (.int .i64 z12.2))])) (by kernel_rfl) (l_cons (by kernel_rfl) (l_cons (l_own (eInt .i64) (e := 3) (k := 1) (xs := [(IntKind.i64.wrap (a2 + 20))]) (by kernel_rfl) rfl rfl) l_nil)) (f32_ok base (d - 1) (dpt hd rfl) a1 [(IntKind.i64.wrap (a2 + 20))] z12 hz12) (by kernel_rfl) (by kernel_rfl) (by kernel_rfl)) ?_
  refine zlRun (n := 6) (j := 11) rfl (by kernel_rfl) ?_
  refine zlEnd (by kernel_rfl) ?_
  refine zkSeq ?_
  refine zrSeq ?_
  refine zrReg ?_
  refine zlRun (n := 1) (j := 1) rfl (by kernel_rfl) ?_
  refine zlBool (d := 55) (op := (.cmpI .eql (.tmp 54) (.const (.int .i64 0)))) (g := none) (j := 2) (decide (z10.2 = 0)) rfl (by kernel_rfl) (by kernel_rfl) (by kernel_rfl) (fun hc => ?_) (fun hc => ?_)
  · replace hS := cond_t hc hS
    refine zlRun (n := 2) (j := 4) rfl (by kernel_rfl) ?_
    refine zlBool (d := 58) (op := (.cmpI .eql (.tmp 57) (.const (.int .i64 0)))) (g := (some (56, true))) (j := 5) (decide (z11.2 = 0)) rfl (by kernel_rfl) (by kernel_rfl) (by kernel_rfl) (fun hc => ?_) (fun hc => ?_)
    · replace hS := cond_t hc hS
      refine zlRun (n := 3) (j := 8) rfl (by kernel_rfl) ?_
      refine zlBool (d := 62) (op := (.cmpI .eql (.tmp 61) (.const (.int .i64 0)))) (g := (some (60, true))) (j := 9) (decide (z12.2 = 0)) rfl (by kernel_rfl) (by kernel_rfl) (by kernel_rfl) (fun hc => ?_) (fun hc => ?_)
      · replace hS := cond_t hc hS
        refine zlRun (n := 4) (j := 13) rfl (by kernel_rfl) ?_
        refine zlBool (d := 67) (op := (.eqA .false [(3, .int)] (.tmp 65) (.tmp 66))) (g := (some (64, true))) (j := 14) (decide (z11.1.Flags = z12.1.Flags) && (decide (z11.1.Fore = z12.1.Fore) && (decide (z11.1.Back = z12.1.Back) && true))) rfl (by kernel_rfl) (by kernel_rfl) (by kernel_rfl) (fun hc => ?_) (fun hc => ?_)
        · replace hS := cond_t hc hS
          refine zlRun (n := 6) (j := 20) rfl (by kernel_rfl) ?_
          refine zlBool (d := 74) (op := (.cmpI .eql (.tmp 71) (.tmp 73))) (g := (some (69, true))) (j := 21) (decide (z11.1.Fore = a1.Fore)) rfl (by kernel_rfl) (by kernel_rfl) (by kernel_rfl) (fun hc => ?_) (fun hc => ?_)
          · replace hS := cond_t hc hS
            refine zlRun (n := 6) (j := 27) rfl (by kernel_rfl) ?_
            refine zlBool (d := 81) (op := (.cmpI .eql (.tmp 78) (.tmp 80))) (g := (some (76, true))) (j := 28) (decide (z11.1.Back = a1.Back)) rfl (by kernel_rfl) (by kernel_rfl) (by kernel_rfl) (fun hc => ?_) (fun hc => ?_)
            · replace hS := cond_t hc hS
              refine zlRun (n := 7) (j := 35) rfl (by kernel_rfl) ?_
              refine zlBool (d := 89) (op := (.cmpI .neq (.tmp 88) (.const (.int .i64 0)))) (g := (some (83, true))) (j := 36) (!decide ((bitI .andNot .i64 z10.1.Flags z11.1.Flags) = 0)) rfl (by kernel_rfl) (by kernel_rfl) (by kernel_rfl) (fun hc => ?_) (fun hc => ?_)
              · replace hS := cond_t hc hS
                refine zlRun (n := 7) (j := 43) rfl (by kernel_rfl) ?_
                refine zlBool (d := 97) (op := (.cmpI .eql (.tmp 96) (.const (.int .i64 0)))) (g := (some (91, true))) (j := 44) (decide ((bitI .andNot .i64 z11.1.Flags a1.Flags) = 0)) rfl (by kernel_rfl) (by kernel_rfl) (by kernel_rfl) (fun hc => ?_) (fun hc => ?_)
                · replace hS := cond_t hc hS
                  refine zlRun (n := 2) (j := 46) rfl (by kernel_rfl) ?_
                  refine zlEnd (by kernel_rfl) ?_
                  refine zkSeq ?_
                  refine zrRet ?_
                  refine zkNil ?_
                  exact endQ hS hQ (fRet ((congrArg (fun s => outR s 0 c12.res) (by kernel_rfl : finSt c12.fin _ = f12_fin true)).trans (f12_out true)))
                · replace hS := cond_f hc hS
                  refine zlRun (n := 2) (j := 46) rfl (by kernel_rfl) ?_
                  refine zlEnd (by kernel_rfl) ?_
                  refine zkSeq ?_
                  refine zrRet ?_
                  refine zkNil ?_
                  exact endQ hS hQ (fRet ((congrArg (fun s => outR s 0 c12.res) (by kernel_rfl : finSt c12.fin _ = f12_fin false)).trans (f12_out false)))
              · replace hS := cond_f hc hS
                refine zlRun (n := 10) (j := 46) rfl (by kernel_rfl) ?_
                refine zlEnd (by kernel_rfl) ?_
                refine zkSeq ?_
                refine zrRet ?_
                refine zkNil ?_
                exact endQ hS hQ (fRet ((congrArg (fun s => outR s 0 c12.res) (by kernel_rfl : finSt c12.fin _ = f12_fin false)).trans (f12_out false)))
            · replace hS := cond_f hc hS
              refine zlRun (n := 18) (j := 46) rfl (by kernel_rfl) ?_
              refine zlEnd (by kernel_rfl) ?_
              refine zkSeq ?_
              refine zrRet ?_
              refine zkNil ?_
              exact endQ hS hQ (fRet ((congrArg (fun s => outR s 0 c12.res) (by kernel_rfl : finSt c12.fin _ = f12_fin false)).trans (f12_out false)))
          · replace hS := cond_f hc hS
            refine zlRun (n := 25) (j := 46) rfl (by kernel_rfl) ?_
            refine zlEnd (by kernel_rfl) ?_
            refine zkSeq ?_
            refine zrRet ?_
            refine zkNil ?_
            exact endQ hS hQ (fRet ((congrArg (fun s => outR s 0 c12.res) (by kernel_rfl : finSt c12.fin _ = f12_fin false)).trans (f12_out false)))
        · replace hS := cond_f hc hS
          refine zlRun (n := 32) (j := 46) rfl (by kernel_rfl) ?_
          refine zlEnd (by kernel_rfl) ?_
          refine zkSeq ?_
          refine zrRet ?_
          refine zkNil ?_
          exact endQ hS hQ (fRet ((congrArg (fun s => outR s 0 c12.res) (by kernel_rfl : finSt c12.fin _ = f12_fin false)).trans (f12_out false)))
      · replace hS := cond_f hc hS
        refine zlRun (n := 37) (j := 46) rfl (by kernel_rfl) ?_
        refine zlEnd (by kernel_rfl) ?_
        refine zkSeq ?_
        refine zrRet ?_
        refine zkNil ?_
        exact endQ hS hQ (fRet ((congrArg (fun s => outR s 0 c12.res) (by kernel_rfl : finSt c12.fin _ = f12_fin false)).trans (f12_out false)))
    · replace hS := cond_f hc hS
      refine zlRun (n := 41) (j := 46) rfl (by kernel_rfl) ?_
      refine zlEnd (by kernel_rfl) ?_
      refine zkSeq ?_
      refine zrRet ?_
      refine zkNil ?_
      exact endQ hS hQ (fRet ((congrArg (fun s => outR s 0 c12.res) (by kernel_rfl : finSt c12.fin _ = f12_fin false)).trans (f12_out false)))
  · replace hS := cond_f hc hS
    refine zlRun (n := 44) (j := 46) rfl (by kernel_rfl) ?_
    refine zlEnd (by kernel_rfl) ?_
    refine zkSeq ?_
    refine zrRet ?_
    refine zkNil ?_
    exact endQ hS hQ (fRet ((congrArg (fun s => outR s 0 c12.res) (by kernel_rfl : finSt c12.fin _ = f12_fin false)).trans (f12_out false)))
noncomputable def f12 (a1 : GPen) (a2 : Int) : Option (Bool) := (f30.bind fun z13 => (bif (!z13) then (f30.bind fun z14 => (some z14)) else ((f33 a1).bind fun z15 => (bif (!decide (z15 = 0)) then (f30.bind fun z16 => (some z16)) else (bif (decide (a2 < 3)) then (f30.bind fun z17 => (some z17)) else (bif (decide (9 < a2)) then (f30.bind fun z18 => (some z18)) else (bif (decide (a2 = 6)) then (f30.bind fun z19 => (some z19)) else (f12_j0 a1 a2 ))))))))
theorem f12_ok (base : Orc) (d : Nat) (hd : 7 ≤ d) (a1 : GPen) (a2 : Int) (r : Bool) (hS : f12 a1 a2 = some r) : lev codes base d 12 [(.agg ((.d (.int .i64 a1.Flags)) :: ((.d (.int .i64 a1.Fore)) :: ((.d (.int .i64 a1.Back)) :: [])))), (.d (.int .i64 a2))] [] = some ((.d (.bool r)), []) := by
  refine lev_go codes12 rfl rfl (Nat.le_trans (Nat.le_of_ble_eq_true rfl) hd) fun Q hQ => ?_
  unfold f12 at hS
  show ZR _ Q c12_b [] _
  replace hQ : ∀ e st', f12_Q r e st' → Q e st' := hQ
  refine zrSeq ?_
  refine zrReg ?_
  refine zlRun (n := 2) (j := 2) rfl (by kernel_rfl) ?_
  refine zlEnd (by kernel_rfl) ?_
  refine zkSeq ?_
  refine zrSeq ?_
  refine zrSeq ?_
  refine zrReg ?_
  refine bindE hS (fun z13 hz13 hS => ?_)
  refine zlOp (d := some 11) (op := (.call 30 [])) (g := none) (v := (.d (.bool z13))) (ups := []) (j := 1) rfl (by kernel_rfl) (by kernel_rfl) (ev_call (args := []) (l := []) (r := (.d (.bool z13))) (by kernel_rfl) (by kernel_rfl) (f30_ok base (d - 1) (dpt hd rfl)  z13 hz13) (by kernel_rfl) (by kernel_rfl) (by kernel_rfl)) ?_
  refine zlRun (n := 2) (j := 3) rfl (by kernel_rfl) ?_
  refine zlSplit 13 (!z13) (by kernel_rfl) (fun hc => ?_) (fun hc => ?_)
  · replace hS := cond_t hc hS
    refine zlRun (n := 16) (j := 19) rfl (by kernel_rfl) ?_
    refine zlEnd (by kernel_rfl) ?_
    refine zkSeq ?_
    refine zrCondT (by kernel_rfl) ?_
    refine zrSeq ?_
    refine zrReg ?_
    refine bindE hS (fun z14 hz14 hS => ?_)
    refine zlOp (d := some 30) (op := (.call 30 [])) (g := none) (v := (.d (.bool z14))) (ups := []) (j := 1) rfl (by kernel_rfl) (by kernel_rfl) (ev_call (args := []) (l := []) (r := (.d (.bool z14))) (by kernel_rfl) (by kernel_rfl) (f30_ok base (d - 1) (dpt hd rfl)  z14 hz14) (by kernel_rfl) (by kernel_rfl) (by kernel_rfl)) ?_
    refine zlRun (n := 1) (j := 2) rfl (by kernel_rfl) ?_
    refine zlEnd (by kernel_rfl) ?_
    refine zkSeq ?_
    refine zrRet ?_
    refine zkSeqR ?_
    refine zkNil ?_
    exact endQ hS hQ (fRet ((congrArg (fun s => outR s 0 c12.res) (by kernel_rfl : finSt c12.fin _ = f12_fin z14)).trans (f12_out z14)))
  · replace hS := cond_f hc hS
    refine zlRun (n := 1) (j := 4) rfl (by kernel_rfl) ?_
    refine bindE hS (fun z15 hz15 hS => ?_)
    refine zlOp (d := some 15) (op := (.call 33 [(.tmp 14)])) (g := (some (13, false))) (v := (.d (.int .i64 z15))) (ups := []) (j := 5) rfl (by kernel_rfl) (by kernel_rfl) (ev_call (args := [(.agg ((.d (.int .i64 a1.Flags)) :: ((.d (.int .i64 a1.Fore)) :: ((.d (.int .i64 a1.Back)) :: []))))]) (l := [(.agg ((.d (.int .i64 a1.Flags)) :: ((.d (.int .i64 a1.Fore)) :: ((.d (.int .i64 a1.Back)) :: []))))]) (r := (.d (.int .i64 z15))) (by kernel_rfl) (by kernel_rfl) (f33_ok base (d - 1) (dpt hd rfl) a1 z15 hz15) (by kernel_rfl) (by kernel_rfl) (by kernel_rfl)) ?_
    refine zlBool (d := 16) (op := (.cmpI .neq (.tmp 15) (.const (.int .i64 0)))) (g := (some (13, false))) (j := 6) (!decide (z15 = 0)) rfl (by kernel_rfl) (by kernel_rfl) (by kernel_rfl) (fun hc => ?_) (fun hc => ?_)
    · replace hS := cond_t hc hS
      refine zlRun (n := 13) (j := 19) rfl (by kernel_rfl) ?_
      refine zlEnd (by kernel_rfl) ?_
      refine zkSeq ?_
      refine zrCondT (by kernel_rfl) ?_
      refine zrSeq ?_
      refine zrReg ?_
      refine bindE hS (fun z16 hz16 hS => ?_)
      refine zlOp (d := some 30) (op := (.call 30 [])) (g := none) (v := (.d (.bool z16))) (ups := []) (j := 1) rfl (by kernel_rfl) (by kernel_rfl) (ev_call (args := []) (l := []) (r := (.d (.bool z16))) (by kernel_rfl) (by kernel_rfl) (f30_ok base (d - 1) (dpt hd rfl)  z16 hz16) (by kernel_rfl) (by kernel_rfl) (by kernel_rfl)) ?_
      refine zlRun (n := 1) (j := 2) rfl (by kernel_rfl) ?_
      refine zlEnd (by kernel_rfl) ?_
      refine zkSeq ?_
      refine zrRet ?_
      refine zkSeqR ?_
      refine zkNil ?_
      exact endQ hS hQ (fRet ((congrArg (fun s => outR s 0 c12.res) (by kernel_rfl : finSt c12.fin _ = f12_fin z16)).trans (f12_out z16)))
    · replace hS := cond_f hc hS
      refine zlRun (n := 3) (j := 9) rfl (by kernel_rfl) ?_
      refine zlBool (d := 20) (op := (.cmpI .lss (.tmp 19) (.const (.int .i64 3)))) (g := (some (18, false))) (j := 10) (decide (a2 < 3)) rfl (by kernel_rfl) (by kernel_rfl) (by kernel_rfl) (fun hc => ?_) (fun hc => ?_)
      · replace hS := cond_t hc hS
        refine zlRun (n := 9) (j := 19) rfl (by kernel_rfl) ?_
        refine zlEnd (by kernel_rfl) ?_
        refine zkSeq ?_
        refine zrCondT (by kernel_rfl) ?_
        refine zrSeq ?_
        refine zrReg ?_
        refine bindE hS (fun z17 hz17 hS => ?_)
        refine zlOp (d := some 30) (op := (.call 30 [])) (g := none) (v := (.d (.bool z17))) (ups := []) (j := 1) rfl (by kernel_rfl) (by kernel_rfl) (ev_call (args := []) (l := []) (r := (.d (.bool z17))) (by kernel_rfl) (by kernel_rfl) (f30_ok base (d - 1) (dpt hd rfl)  z17 hz17) (by kernel_rfl) (by kernel_rfl) (by kernel_rfl)) ?_
        refine zlRun (n := 1) (j := 2) rfl (by kernel_rfl) ?_
        refine zlEnd (by kernel_rfl) ?_
        refine zkSeq ?_
        refine zrRet ?_
        refine zkSeqR ?_
        refine zkNil ?_
        exact endQ hS hQ (fRet ((congrArg (fun s => outR s 0 c12.res) (by kernel_rfl : finSt c12.fin _ = f12_fin z17)).trans (f12_out z17)))
      · replace hS := cond_f hc hS
        refine zlRun (n := 3) (j := 13) rfl (by kernel_rfl) ?_
        refine zlBool (d := 24) (op := (.cmpI .gtr (.tmp 23) (.const (.int .i64 9)))) (g := (some (22, false))) (j := 14) (decide (9 < a2)) rfl (by kernel_rfl) (by kernel_rfl) (by kernel_rfl) (fun hc => ?_) (fun hc => ?_)
        · replace hS := cond_t hc hS
          refine zlRun (n := 5) (j := 19) rfl (by kernel_rfl) ?_
          refine zlEnd (by kernel_rfl) ?_
          refine zkSeq ?_
          refine zrCondT (by kernel_rfl) ?_
          refine zrSeq ?_
          refine zrReg ?_
          refine bindE hS (fun z18 hz18 hS => ?_)
          refine zlOp (d := some 30) (op := (.call 30 [])) (g := none) (v := (.d (.bool z18))) (ups := []) (j := 1) rfl (by kernel_rfl) (by kernel_rfl) (ev_call (args := []) (l := []) (r := (.d (.bool z18))) (by kernel_rfl) (by kernel_rfl) (f30_ok base (d - 1) (dpt hd rfl)  z18 hz18) (by kernel_rfl) (by kernel_rfl) (by kernel_rfl)) ?_
          refine zlRun (n := 1) (j := 2) rfl (by kernel_rfl) ?_
          refine zlEnd (by kernel_rfl) ?_
          refine zkSeq ?_
          refine zrRet ?_
          refine zkSeqR ?_
          refine zkNil ?_
          exact endQ hS hQ (fRet ((congrArg (fun s => outR s 0 c12.res) (by kernel_rfl : finSt c12.fin _ = f12_fin z18)).trans (f12_out z18)))
        · replace hS := cond_f hc hS
          refine zlRun (n := 3) (j := 17) rfl (by kernel_rfl) ?_
          refine zlBool (d := 28) (op := (.cmpI .eql (.tmp 27) (.const (.int .i64 6)))) (g := (some (26, false))) (j := 18) (decide (a2 = 6)) rfl (by kernel_rfl) (by kernel_rfl) (by kernel_rfl) (fun hc => ?_) (fun hc => ?_)
          · replace hS := cond_t hc hS
            refine zlRun (n := 1) (j := 19) rfl (by kernel_rfl) ?_
            refine zlEnd (by kernel_rfl) ?_
            refine zkSeq ?_
            refine zrCondT (by kernel_rfl) ?_
            refine zrSeq ?_
            refine zrReg ?_
            refine bindE hS (fun z19 hz19 hS => ?_)
            refine zlOp (d := some 30) (op := (.call 30 [])) (g := none) (v := (.d (.bool z19))) (ups := []) (j := 1) rfl (by kernel_rfl) (by kernel_rfl) (ev_call (args := []) (l := []) (r := (.d (.bool z19))) (by kernel_rfl) (by kernel_rfl) (f30_ok base (d - 1) (dpt hd rfl)  z19 hz19) (by kernel_rfl) (by kernel_rfl) (by kernel_rfl)) ?_
            refine zlRun (n := 1) (j := 2) rfl (by kernel_rfl) ?_
            refine zlEnd (by kernel_rfl) ?_
            refine zkSeq ?_
            refine zrRet ?_
            refine zkSeqR ?_
            refine zkNil ?_
            exact endQ hS hQ (fRet ((congrArg (fun s => outR s 0 c12.res) (by kernel_rfl : finSt c12.fin _ = f12_fin z19)).trans (f12_out z19)))
          · replace hS := cond_f hc hS
            refine zlRun (n := 1) (j := 19) rfl (by kernel_rfl) ?_
            refine zlEnd (by kernel_rfl) ?_
            refine zkSeq ?_
            refine zrCondF (by kernel_rfl) ?_
            refine zrSkip ?_
            refine zkSeq ?_
            exact f12_j0_ok hd a1 a2 hQ  hS (by kernel_rfl)
/- farwriter/farkeep.PenMakes -/
def f10_fin (p21 : Bool) : St := ⟨(up (fun _ => .un) 4 (.d (.bool p21))), (hB fun _ => 0)⟩
theorem f10_out (p21 : Bool) : outR (f10_fin p21) 0 c10.res = some ((.d (.bool p21)), []) := by
  kernel_rfl
def f10_Q (r : Bool) (e : PX) (st : St) : Prop := DoneF c10 0 ((.d (.bool r)), []) e st
def f10_j0_J (a1 : GPen) (a2 : GPen) (p38 : List Int) : St := ⟨(up (up (up (fun _ => .un) 5 (.r (.msl 104 0 0 p38.length))) 3 (.r (.ptr 32 0 0))) 2 (.r (.ptr 24 0 0))), (up (up (up (hB fun _ => 0) 104 ⟨0, some (.own 3 1 ((eInt .i64).cells p38))⟩) 32 ⟨0, some (.box ((.d (.int .i64 a2.Flags)) :: ((.d (.int .i64 a2.Fore)) :: ((.d (.int .i64 a2.Back)) :: []))))⟩) 24 ⟨0, some (.box ((.d (.int .i64 a1.Flags)) :: ((.d (.int .i64 a1.Fore)) :: ((.d (.int .i64 a1.Back)) :: []))))⟩)⟩
noncomputable def f10_j0 (a1 : GPen) (a2 : GPen) (p38 : List Int) : Option (Bool) := ((f32 a1 p38).bind fun z12 => (bif (decide (z12.2 = 0)) then (bif (decide (z12.1.Flags = a2.Flags) && (decide (z12.1.Fore = a2.Fore) && (decide (z12.1.Back = a2.Back) && true))) then (bif (decide ((p38.length : Int) ≤ 19)) then (bif (!(decide (a1.Flags = a2.Flags) && (decide (a1.Fore = a2.Fore) && (decide (a1.Back = a2.Back) && true)))) then (some true) else (some false)) else (some false)) else (some false)) else (some false)))
theorem f10_j0_ok {base : Orc} {d : Nat} (hd : 7 ≤ d) (a1 : GPen) (a2 : GPen) {r : Bool} {Q : PX → St → Prop} (hQ : ∀ e st', f10_Q r e st' → Q e st') (p38 : List Int) (hS : f10_j0 a1 a2 p38 = some r) {st : St} (he : keepSt [2, 3, 5] [(24, .id 24), (32, .id 32), (104, .id 104)] [] st = f10_j0_J a1 a2 p38) : ZR (lev codes base (d - 1)) Q c10_1 [] st := by
  refine zrKeep he ?_
  unfold f10_j0 at hS
  refine zrSeq ?_
  refine zrReg ?_
  refine zlRun (n := 2) (j := 2) rfl (by kernel_rfl) ?_
  refine bindE hS (fun z12 hz12 hS => ?_)
  refine zlOp (d := some 48) (op := (.call 32 [(.tmp 46), (.tmp 47)])) (g := none) (v := (.tup [(.agg ((.d (.int .i64 z12.1.Flags)) :: ((.d (.int .i64 z12.1.Fore)) :: ((.d (.int .i64 z12.1.Back)) :: [])))), (.d (.int .i64 z12.2))])) (ups := []) (j := 3) rfl (by kernel_rfl) (by kernel_rfl) (ev_call (args := [(.agg ((.d (.int .i64 a1.Flags)) :: ((.d (.int .i64 a1.Fore)) :: ((.d (.int .i64 a1.Back)) :: [])))), (.r (.msl 104 0 0 p38.length))]) (l := [(.agg ((.d (.int .i64 a1.Flags)) :: ((.d (.int .i64 a1.Fore)) :: ((.d (.int .i64 a1.Back)) :: [])))), (.d (.sl p38.length ((eInt .i64).cells p38)))]) (r := (.tup [(.agg ((.d (.int .i64 z12.1.Flags)) :: ((.d (.int .i64 z12.1.Fore)) :: ((.d (.int .i64 z12.1.Back)) :: [])))), (.d (.int .i64 z12.2))])) (by kernel_rfl) (l_cons (by kernel_rfl) (l_cons (l_own (eInt .i64) (e := 3) (k := 1) (xs := p38) (by kernel_rfl) rfl rfl) l_nil)) (f32_ok base (d - 1) (dpt hd rfl) a1 p38 z12 hz12) (by kernel_rfl) (by kernel_rfl) (by kernel_rfl)) ?_
  refine zlRun (n := 6) (j := 9) rfl (by kernel_rfl) ?_
  refine zlEnd (by kernel_rfl) ?_
  refine zkSeq ?_
  refine zrSeq ?_
  refine zrReg ?_
  refine zlRun (n := 1) (j := 1) rfl (by kernel_rfl) ?_
  refine zlBool (d := 52) (op := (.cmpI .eql (.tmp 51) (.const (.int .i64 0)))) (g := none) (j := 2) (decide (z12.2 = 0)) rfl (by kernel_rfl) (by kernel_rfl) (by kernel_rfl) (fun hc => ?_) (fun hc => ?_)
  · replace hS := cond_t hc hS
    refine zlRun (n := 3) (j := 5) rfl (by kernel_rfl) ?_
    refine zlBool (d := 56) (op := (.eqA .false [(3, .int)] (.tmp 54) (.tmp 55))) (g := (some (53, true))) (j := 6) (decide (z12.1.Flags = a2.Flags) && (decide (z12.1.Fore = a2.Fore) && (decide (z12.1.Back = a2.Back) && true))) rfl (by kernel_rfl) (by kernel_rfl) (by kernel_rfl) (fun hc => ?_) (fun hc => ?_)
    · replace hS := cond_t hc hS
      refine zlRun (n := 4) (j := 10) rfl (by kernel_rfl) ?_
      refine zlBool (d := 61) (op := (.cmpI .leq (.tmp 60) (.const (.int .i64 19)))) (g := (some (58, true))) (j := 11) (decide ((p38.length : Int) ≤ 19)) rfl (by kernel_rfl) (by kernel_rfl) (by kernel_rfl) (fun hc => ?_) (fun hc => ?_)
      · replace hS := cond_t hc hS
        refine zlRun (n := 4) (j := 15) rfl (by kernel_rfl) ?_
        refine zlBool (d := 66) (op := (.eqA .true [(3, .int)] (.tmp 64) (.tmp 65))) (g := (some (63, true))) (j := 16) (!(decide (a1.Flags = a2.Flags) && (decide (a1.Fore = a2.Fore) && (decide (a1.Back = a2.Back) && true)))) rfl (by kernel_rfl) (by kernel_rfl) (by kernel_rfl) (fun hc => ?_) (fun hc => ?_)
        · replace hS := cond_t hc hS
          refine zlRun (n := 2) (j := 18) rfl (by kernel_rfl) ?_
          refine zlEnd (by kernel_rfl) ?_
          refine zkSeq ?_
          refine zrRet ?_
          refine zkNil ?_
          exact endQ hS hQ (fRet ((congrArg (fun s => outR s 0 c10.res) (by kernel_rfl : finSt c10.fin _ = f10_fin true)).trans (f10_out true)))
        · replace hS := cond_f hc hS
          refine zlRun (n := 2) (j := 18) rfl (by kernel_rfl) ?_
          refine zlEnd (by kernel_rfl) ?_
          refine zkSeq ?_
          refine zrRet ?_
          refine zkNil ?_
          exact endQ hS hQ (fRet ((congrArg (fun s => outR s 0 c10.res) (by kernel_rfl : finSt c10.fin _ = f10_fin false)).trans (f10_out false)))
      · replace hS := cond_f hc hS
        refine zlRun (n := 7) (j := 18) rfl (by kernel_rfl) ?_
        refine zlEnd (by kernel_rfl) ?_
        refine zkSeq ?_
        refine zrRet ?_
        refine zkNil ?_
        exact endQ hS hQ (fRet ((congrArg (fun s => outR s 0 c10.res) (by kernel_rfl : finSt c10.fin _ = f10_fin false)).trans (f10_out false)))
    · replace hS := cond_f hc hS
      refine zlRun (n := 12) (j := 18) rfl (by kernel_rfl) ?_
      refine zlEnd (by kernel_rfl) ?_
      refine zkSeq ?_
      refine zrRet ?_
      refine zkNil ?_
      exact endQ hS hQ (fRet ((congrArg (fun s => outR s 0 c10.res) (by kernel_rfl : finSt c10.fin _ = f10_fin false)).trans (f10_out false)))
  · replace hS := cond_f hc hS
    refine zlRun (n := 16) (j := 18) rfl (by kernel_rfl) ?_
    refine zlEnd (by kernel_rfl) ?_
    refine zkSeq ?_
    refine zrRet ?_
    refine zkNil ?_
    exact endQ hS hQ (fRet ((congrArg (fun s => outR s 0 c10.res) (by kernel_rfl : finSt c10.fin _ = f10_fin false)).trans (f10_out false)))
def f10_j1_J (a1 : GPen) (a2 : GPen) (p43 : List Int) (p44 : Int) : St := ⟨(up (up (up (up (fun _ => .un) 6 (.d (.int .i64 p44))) 5 (.r (.msl 104 0 0 p43.length))) 3 (.r (.ptr 32 0 0))) 2 (.r (.ptr 24 0 0))), (up (up (up (hB fun _ => 0) 104 ⟨0, some (.own 3 1 ((eInt .i64).cells p43))⟩) 32 ⟨0, some (.box ((.d (.int .i64 a2.Flags)) :: ((.d (.int .i64 a2.Fore)) :: ((.d (.int .i64 a2.Back)) :: []))))⟩) 24 ⟨0, some (.box ((.d (.int .i64 a1.Flags)) :: ((.d (.int .i64 a1.Fore)) :: ((.d (.int .i64 a1.Back)) :: []))))⟩)⟩
noncomputable def f10_j1 (a1 : GPen) (a2 : GPen) (p43 : List Int) (p44 : Int) : Option (Bool) := (f30.bind fun z14 => (bif z14 then (bif (decide (p44 = 0)) then (bif (decide (a1.Flags = a2.Flags) && (decide (a1.Fore = a2.Fore) && (decide (a1.Back = a2.Back) && true))) then ((f31 a2).bind fun z15 => (bif (decide (z15 = 0)) then (bif (decide ((p43.length : Int) = 0)) then (some true) else (some false)) else (some false))) else (some false)) else (bif (decide (a1.Flags = a2.Flags) && (decide (a1.Fore = a2.Fore) && (decide (a1.Back = a2.Back) && true))) then ((f31 a2).bind fun z16 => (bif (decide (z16 = 0)) then (some false) else (bif (decide ((p43.length : Int) = 0)) then (some true) else (some false)))) else (bif (decide ((p43.length : Int) = 0)) then (some true) else (some false)))) else (some false)))
theorem f10_j1_ok {base : Orc} {d : Nat} (hd : 7 ≤ d) (a1 : GPen) (a2 : GPen) {r : Bool} {Q : PX → St → Prop} (hQ : ∀ e st', f10_Q r e st' → Q e st') (p43 : List Int) (p44 : Int) (hS : f10_j1 a1 a2 p43 p44 = some r) {st : St} (he : keepSt [2, 3, 5, 6] [(24, .id 24), (32, .id 32), (104, .id 104)] [] st = f10_j1_J a1 a2 p43 p44) : ZR (lev codes base (d - 1)) Q c10_2 [.seq c10_1] st := by
  refine zrKeep he ?_
  unfold f10_j1 at hS
  refine zrSeq ?_
  refine zrReg ?_
  refine bindE hS (fun z14 hz14 hS => ?_)
  refine zlOp (d := some 26) (op := (.call 30 [])) (g := none) (v := (.d (.bool z14))) (ups := []) (j := 1) rfl (by kernel_rfl) (by kernel_rfl) (ev_call (args := []) (l := []) (r := (.d (.bool z14))) (by kernel_rfl) (by kernel_rfl) (f30_ok base (d - 1) (dpt hd rfl)  z14 hz14) (by kernel_rfl) (by kernel_rfl) (by kernel_rfl)) ?_
  refine zlRun (n := 1) (j := 2) rfl (by kernel_rfl) ?_
  refine zlSplit 27 z14 (by kernel_rfl) (fun hc => ?_) (fun hc => ?_)
  · replace hS := cond_t hc hS
    refine zlRun (n := 1) (j := 3) rfl (by kernel_rfl) ?_
    refine zlBool (d := 29) (op := (.cmpI .eql (.tmp 28) (.const (.int .i64 0)))) (g := (some (27, true))) (j := 4) (decide (p44 = 0)) rfl (by kernel_rfl) (by kernel_rfl) (by kernel_rfl) (fun hc => ?_) (fun hc => ?_)
    · replace hS := cond_t hc hS
      refine zlRun (n := 2) (j := 6) rfl (by kernel_rfl) ?_
      refine zlBool (d := 32) (op := (.eqA .false [(3, .int)] (.tmp 30) (.tmp 31))) (g := (some (27, true))) (j := 7) (decide (a1.Flags = a2.Flags) && (decide (a1.Fore = a2.Fore) && (decide (a1.Back = a2.Back) && true))) rfl (by kernel_rfl) (by kernel_rfl) (by kernel_rfl) (fun hc => ?_) (fun hc => ?_)
      · replace hS := cond_t hc hS
        refine zlRun (n := 2) (j := 9) rfl (by kernel_rfl) ?_
        refine bindE hS (fun z15 hz15 hS => ?_)
        refine zlOp (d := some 35) (op := (.call 31 [(.tmp 34)])) (g := (some (33, true))) (v := (.d (.int .i64 z15))) (ups := []) (j := 10) rfl (by kernel_rfl) (by kernel_rfl) (ev_call (args := [(.agg ((.d (.int .i64 a2.Flags)) :: ((.d (.int .i64 a2.Fore)) :: ((.d (.int .i64 a2.Back)) :: []))))]) (l := [(.agg ((.d (.int .i64 a2.Flags)) :: ((.d (.int .i64 a2.Fore)) :: ((.d (.int .i64 a2.Back)) :: []))))]) (r := (.d (.int .i64 z15))) (by kernel_rfl) (by kernel_rfl) (f31_ok base (d - 1) (dpt hd rfl) a2 z15 hz15) (by kernel_rfl) (by kernel_rfl) (by kernel_rfl)) ?_
        refine zlBool (d := 36) (op := (.cmpI .eql (.tmp 35) (.const (.int .i64 0)))) (g := (some (33, true))) (j := 11) (decide (z15 = 0)) rfl (by kernel_rfl) (by kernel_rfl) (by kernel_rfl) (fun hc => ?_) (fun hc => ?_)
        · replace hS := cond_t hc hS
          refine zlRun (n := 6) (j := 17) rfl (by kernel_rfl) ?_
          refine zlBool (d := 43) (op := (.cmpI .eql (.tmp 42) (.const (.int .i64 0)))) (g := (some (40, true))) (j := 18) (decide ((p43.length : Int) = 0)) rfl (by kernel_rfl) (by kernel_rfl) (by kernel_rfl) (fun hc => ?_) (fun hc => ?_)
          · replace hS := cond_t hc hS
            refine zlRun (n := 2) (j := 20) rfl (by kernel_rfl) ?_
            refine zlEnd (by kernel_rfl) ?_
            refine zkSeq ?_
            refine zrRet ?_
            refine zkSeqR ?_
            refine zkNil ?_
            exact endQ hS hQ (fRet ((congrArg (fun s => outR s 0 c10.res) (by kernel_rfl : finSt c10.fin _ = f10_fin true)).trans (f10_out true)))
          · replace hS := cond_f hc hS
            refine zlRun (n := 2) (j := 20) rfl (by kernel_rfl) ?_
            refine zlEnd (by kernel_rfl) ?_
            refine zkSeq ?_
            refine zrRet ?_
            refine zkSeqR ?_
            refine zkNil ?_
            exact endQ hS hQ (fRet ((congrArg (fun s => outR s 0 c10.res) (by kernel_rfl : finSt c10.fin _ = f10_fin false)).trans (f10_out false)))
        · replace hS := cond_f hc hS
          refine zlRun (n := 9) (j := 20) rfl (by kernel_rfl) ?_
          refine zlEnd (by kernel_rfl) ?_
          refine zkSeq ?_
          refine zrRet ?_
          refine zkSeqR ?_
          refine zkNil ?_
          exact endQ hS hQ (fRet ((congrArg (fun s => outR s 0 c10.res) (by kernel_rfl : finSt c10.fin _ = f10_fin false)).trans (f10_out false)))
      · replace hS := cond_f hc hS
        refine zlRun (n := 13) (j := 20) rfl (by kernel_rfl) ?_
        refine zlEnd (by kernel_rfl) ?_
        refine zkSeq ?_
        refine zrRet ?_
        refine zkSeqR ?_
        refine zkNil ?_
        exact endQ hS hQ (fRet ((congrArg (fun s => outR s 0 c10.res) (by kernel_rfl : finSt c10.fin _ = f10_fin false)).trans (f10_out false)))
    · replace hS := cond_f hc hS
      refine zlRun (n := 2) (j := 6) rfl (by kernel_rfl) ?_
      refine zlBool (d := 32) (op := (.eqA .false [(3, .int)] (.tmp 30) (.tmp 31))) (g := (some (27, true))) (j := 7) (decide (a1.Flags = a2.Flags) && (decide (a1.Fore = a2.Fore) && (decide (a1.Back = a2.Back) && true))) rfl (by kernel_rfl) (by kernel_rfl) (by kernel_rfl) (fun hc => ?_) (fun hc => ?_)
      · replace hS := cond_t hc hS
        refine zlRun (n := 2) (j := 9) rfl (by kernel_rfl) ?_
        refine bindE hS (fun z16 hz16 hS => ?_)
        refine zlOp (d := some 35) (op := (.call 31 [(.tmp 34)])) (g := (some (33, true))) (v := (.d (.int .i64 z16))) (ups := []) (j := 10) rfl (by kernel_rfl) (by kernel_rfl) (ev_call (args := [(.agg ((.d (.int .i64 a2.Flags)) :: ((.d (.int .i64 a2.Fore)) :: ((.d (.int .i64 a2.Back)) :: []))))]) (l := [(.agg ((.d (.int .i64 a2.Flags)) :: ((.d (.int .i64 a2.Fore)) :: ((.d (.int .i64 a2.Back)) :: []))))]) (r := (.d (.int .i64 z16))) (by kernel_rfl) (by kernel_rfl) (f31_ok base (d - 1) (dpt hd rfl) a2 z16 hz16) (by kernel_rfl) (by kernel_rfl) (by kernel_rfl)) ?_
        refine zlBool (d := 36) (op := (.cmpI .eql (.tmp 35) (.const (.int .i64 0)))) (g := (some (33, true))) (j := 11) (decide (z16 = 0)) rfl (by kernel_rfl) (by kernel_rfl) (by kernel_rfl) (fun hc => ?_) (fun hc => ?_)
        · replace hS := cond_t hc hS
          refine zlRun (n := 9) (j := 20) rfl (by kernel_rfl) ?_
          refine zlEnd (by kernel_rfl) ?_
          refine zkSeq ?_
          refine zrRet ?_
          refine zkSeqR ?_
          refine zkNil ?_
          exact endQ hS hQ (fRet ((congrArg (fun s => outR s 0 c10.res) (by kernel_rfl : finSt c10.fin _ = f10_fin false)).trans (f10_out false)))
        · replace hS := cond_f hc hS
          refine zlRun (n := 6) (j := 17) rfl (by kernel_rfl) ?_
          refine zlBool (d := 43) (op := (.cmpI .eql (.tmp 42) (.const (.int .i64 0)))) (g := (some (40, true))) (j := 18) (decide ((p43.length : Int) = 0)) rfl (by kernel_rfl) (by kernel_rfl) (by kernel_rfl) (fun hc => ?_) (fun hc => ?_)
          · replace hS := cond_t hc hS
            refine zlRun (n := 2) (j := 20) rfl (by kernel_rfl) ?_
            refine zlEnd (by kernel_rfl) ?_
            refine zkSeq ?_
            refine zrRet ?_
            refine zkSeqR ?_
            refine zkNil ?_
            exact endQ hS hQ (fRet ((congrArg (fun s => outR s 0 c10.res) (by kernel_rfl : finSt c10.fin _ = f10_fin true)).trans (f10_out true)))
          · replace hS := cond_f hc hS
            refine zlRun (n := 2) (j := 20) rfl (by kernel_rfl) ?_
            refine zlEnd (by kernel_rfl) ?_
            refine zkSeq ?_
            refine zrRet ?_
            refine zkSeqR ?_
            refine zkNil ?_
            exact endQ hS hQ (fRet ((congrArg (fun s => outR s 0 c10.res) (by kernel_rfl : finSt c10.fin _ = f10_fin false)).trans (f10_out false)))
      · replace hS := cond_f hc hS
        refine zlRun (n := 10) (j := 17) rfl (by kernel_rfl) ?_
        refine zlBool (d := 43) (op := (.cmpI .eql (.tmp 42) (.const (.int .i64 0)))) (g := (some (40, true))) (j := 18) (decide ((p43.length : Int) = 0)) rfl (by kernel_rfl) (by kernel_rfl) (by kernel_rfl) (fun hc => ?_) (fun hc => ?_)
        · replace hS := cond_t hc hS
          refine zlRun (n := 2) (j := 20) rfl (by kernel_rfl) ?_
          refine zlEnd (by kernel_rfl) ?_
          refine zkSeq ?_
          refine zrRet ?_
          refine zkSeqR ?_
          refine zkNil ?_
          exact endQ hS hQ (fRet ((congrArg (fun s => outR s 0 c10.res) (by kernel_rfl : finSt c10.fin _ = f10_fin true)).trans (f10_out true)))
        · replace hS := cond_f hc hS
          refine zlRun (n := 2) (j := 20) rfl (by kernel_rfl) ?_
          refine zlEnd (by kernel_rfl) ?_
          refine zkSeq ?_
          refine zrRet ?_
          refine zkSeqR ?_
          refine zkNil ?_
          exact endQ hS hQ (fRet ((congrArg (fun s => outR s 0 c10.res) (by kernel_rfl : finSt c10.fin _ = f10_fin false)).trans (f10_out false)))
  · replace hS := cond_f hc hS
    refine zlRun (n := 18) (j := 20) rfl (by kernel_rfl) ?_
    refine zlEnd (by kernel_rfl) ?_
    refine zkSeq ?_
    refine zrRet ?_
    refine zkSeqR ?_
    refine zkNil ?_
    exact endQ hS hQ (fRet ((congrArg (fun s => outR s 0 c10.res) (by kernel_rfl : finSt c10.fin _ = f10_fin false)).trans (f10_out false)))
noncomputable def f10 (a1 : GPen) (a2 : GPen) : Option (Bool) := ((f29 a1 a2).bind fun z7 => (f30.bind fun z17 => (bif (!z17) then (f10_j1 a1 a2 z7.1 z7.2) else (bif (!decide (z7.2 = 0)) then (f10_j1 a1 a2 z7.1 z7.2) else (bif (decide ((z7.1.length : Int) = 0)) then (f10_j1 a1 a2 z7.1 z7.2) else (f10_j0 a1 a2 z7.1))))))
theorem f10_ok (base : Orc) (d : Nat) (hd : 7 ≤ d) (a1 : GPen) (a2 : GPen) (r : Bool) (hS : f10 a1 a2 = some r) : lev codes base d 10 [(.agg ((.d (.int .i64 a1.Flags)) :: ((.d (.int .i64 a1.Fore)) :: ((.d (.int .i64 a1.Back)) :: [])))), (.agg ((.d (.int .i64 a2.Flags)) :: ((.d (.int .i64 a2.Fore)) :: ((.d (.int .i64 a2.Back)) :: []))))] [] = some ((.d (.bool r)), []) := by
  refine lev_go codes10 rfl rfl (Nat.le_trans (Nat.le_of_ble_eq_true rfl) hd) fun Q hQ => ?_
  unfold f10 at hS
  show ZR _ Q c10_b [] _
  replace hQ : ∀ e st', f10_Q r e st' → Q e st' := hQ
  refine zrSeq ?_
  refine zrReg ?_
  refine zlRun (n := 3) (j := 3) rfl (by kernel_rfl) ?_
  refine zlEnd (by kernel_rfl) ?_
  refine zkSeq ?_
  refine zrSeq ?_
  refine zrReg ?_
  refine zlRun (n := 2) (j := 2) rfl (by kernel_rfl) ?_
  refine bindE hS (fun z7 hz7 hS => ?_)
  refine zlOp (d := some 12) (op := (.call 29 [(.tmp 10), (.tmp 11)])) (g := none) (v := (.tup [(.r (.msl 104 1 0 z7.1.length)), (.d (.int .i64 z7.2))])) (ups := [(104, ⟨1, some (.own 3 1 ((eInt .i64).cells z7.1))⟩)]) (j := 3) rfl (by kernel_rfl) (by kernel_rfl) (ev_call (args := [(.agg ((.d (.int .i64 a1.Flags)) :: ((.d (.int .i64 a1.Fore)) :: ((.d (.int .i64 a1.Back)) :: [])))), (.agg ((.d (.int .i64 a2.Flags)) :: ((.d (.int .i64 a2.Fore)) :: ((.d (.int .i64 a2.Back)) :: []))))]) (l := [(.agg ((.d (.int .i64 a1.Flags)) :: ((.d (.int .i64 a1.Fore)) :: ((.d (.int .i64 a1.Back)) :: [])))), (.agg ((.d (.int .i64 a2.Flags)) :: ((.d (.int .i64 a2.Fore)) :: ((.d (.int .i64 a2.Back)) :: []))))]) (r := (.tup [(.r (.own 0 3 1 z7.1.length ((eInt .i64).cells z7.1))), (.d (.int .i64 z7.2))])) (by kernel_rfl) (by kernel_rfl) (f29_ok base (d - 1) (dpt hd rfl) a1 a2 z7 hz7) (by kernel_rfl) (by kernel_rfl) (by kernel_rfl)) ?_
  refine zlRun (n := 5) (j := 8) rfl (by kernel_rfl) ?_
  refine zlEnd (by kernel_rfl) ?_
  refine zkSeq ?_
  refine zrSeq ?_
  refine zrSeq ?_
  refine zrReg ?_
  refine bindE hS (fun z17 hz17 hS => ?_)
  refine zlOp (d := some 15) (op := (.call 30 [])) (g := none) (v := (.d (.bool z17))) (ups := []) (j := 1) rfl (by kernel_rfl) (by kernel_rfl) (ev_call (args := []) (l := []) (r := (.d (.bool z17))) (by kernel_rfl) (by kernel_rfl) (f30_ok base (d - 1) (dpt hd rfl)  z17 hz17) (by kernel_rfl) (by kernel_rfl) (by kernel_rfl)) ?_
  refine zlRun (n := 2) (j := 3) rfl (by kernel_rfl) ?_
  refine zlSplit 17 (!z17) (by kernel_rfl) (fun hc => ?_) (fun hc => ?_)
  · replace hS := cond_t hc hS
    refine zlRun (n := 8) (j := 11) rfl (by kernel_rfl) ?_
    refine zlEnd (by kernel_rfl) ?_
    refine zkSeq ?_
    refine zrCondT (by kernel_rfl) ?_
    exact f10_j1_ok hd a1 a2 hQ z7.1 z7.2 hS (by kernel_rfl)
  · replace hS := cond_f hc hS
    refine zlRun (n := 1) (j := 4) rfl (by kernel_rfl) ?_
    refine zlBool (d := 19) (op := (.cmpI .neq (.tmp 18) (.const (.int .i64 0)))) (g := (some (17, false))) (j := 5) (!decide (z7.2 = 0)) rfl (by kernel_rfl) (by kernel_rfl) (by kernel_rfl) (fun hc => ?_) (fun hc => ?_)
    · replace hS := cond_t hc hS
      refine zlRun (n := 6) (j := 11) rfl (by kernel_rfl) ?_
      refine zlEnd (by kernel_rfl) ?_
      refine zkSeq ?_
      refine zrCondT (by kernel_rfl) ?_
      exact f10_j1_ok hd a1 a2 hQ z7.1 z7.2 hS (by kernel_rfl)
    · replace hS := cond_f hc hS
      refine zlRun (n := 4) (j := 9) rfl (by kernel_rfl) ?_
      refine zlBool (d := 24) (op := (.cmpI .eql (.tmp 23) (.const (.int .i64 0)))) (g := (some (21, false))) (j := 10) (decide ((z7.1.length : Int) = 0)) rfl (by kernel_rfl) (by kernel_rfl) (by kernel_rfl) (fun hc => ?_) (fun hc => ?_)
      · replace hS := cond_t hc hS
        refine zlRun (n := 1) (j := 11) rfl (by kernel_rfl) ?_
        refine zlEnd (by kernel_rfl) ?_
        refine zkSeq ?_
        refine zrCondT (by kernel_rfl) ?_
        exact f10_j1_ok hd a1 a2 hQ z7.1 z7.2 hS (by kernel_rfl)
      · replace hS := cond_f hc hS
        refine zlRun (n := 1) (j := 11) rfl (by kernel_rfl) ?_
        refine zlEnd (by kernel_rfl) ?_
        refine zkSeq ?_
        refine zrCondF (by kernel_rfl) ?_
        refine zrSkip ?_
        refine zkSeq ?_
        exact f10_j0_ok hd a1 a2 hQ z7.1 hS (by kernel_rfl)
/- slices.Clone[[]int,int] -/
def f34_fin (p1 : List Int) : St := ⟨(up (fun _ => .un) 2 (.r (.msl 97 0 0 p1.length))), (up (hB fun _ => 0) 97 ⟨0, some (.own 3 1 ((eInt .i64).cells p1))⟩)⟩
theorem f34_out (p1 : List Int) : outR (f34_fin p1) 0 c34.res = some ((.r (.own 0 3 1 p1.length ((eInt .i64).cells p1))), []) := by
  exact out_of (ids := []) (ids' := [97]) (l := [(.r (.msl 97 0 0 p1.length))]) (by kernel_rfl) (by kernel_rfl) (o_own (eInt .i64) (e := 3) (k := 1) (xs := p1) (by kernel_rfl) rfl rfl rfl rfl)
def f34_Q (r : List Int) (e : PX) (st : St) : Prop := DoneF c34 0 ((.r (.own 0 3 1 r.length ((eInt .i64).cells r))), []) e st
noncomputable def f34 (a1 : List Int) : Option (List Int) := ((app? 8 ([] : List Int) a1).bind fun z2 => (some z2))
theorem f34_ok (base : Orc) (d : Nat) (hd : 1 ≤ d) (a1 : List Int) (r : List Int) (hS : f34 a1 = some r) : lev codes base d 34 [(.d (.sl a1.length ((eInt .i64).cells a1)))] [] = some ((.r (.own 0 3 1 r.length ((eInt .i64).cells r))), []) := by
  refine lev_goZ codes34 rfl rfl (Nat.le_trans (Nat.le_of_ble_eq_true rfl) hd) (fun Q hQ => ?_) (fun h0 Q hQ => ?_)
  · unfold f34 at hS
    show ZR _ Q c34_b [] _
    refine zrSeq ?_
    refine zrReg ?_
    refine zlRun (n := 1) (j := 1) rfl (by kernel_rfl) ?_
    refine zlEnd (by kernel_rfl) ?_
    refine zkSeq ?_
    refine zrSeq ?_
    refine zrSeq ?_
    refine zrReg ?_
    refine zlRun (n := 2) (j := 2) rfl (by kernel_rfl) ?_
    refine zlEnd (by kernel_rfl) ?_
    refine zkSeq ?_
    refine zrCondF (by kernel_rfl) ?_
    refine zrSkip ?_
    refine zkSeq ?_
    refine zrSeq ?_
    refine zrReg ?_
    refine zlRun (n := 2) (j := 2) rfl (by kernel_rfl) ?_
    refine bindE hS (fun z2 hz2 hS => ?_)
    refine zlOp (d := some 7) (op := (.app 3 1 8 (.tmp 5) (.tmp 6))) (g := none) (v := (.r (.msl 48 2 0 z2.length))) (ups := [(48, ⟨2, some (.own 3 1 ((eInt .i64).cells z2))⟩)]) (j := 3) rfl (by kernel_rfl) (by kernel_rfl) (ev_app (eInt .i64) (b := 48) (g := 1) (n := ([] : List Int).length) (xs := []) (ys := a1) ((congrArg (asL _) (by kernel_rfl : ρof _ (.tmp 6) = (.slz false a1.length ((eInt .i64).cells a1)))).trans rfl) rfl (by kernel_rfl) rfl (by kernel_rfl) rfl hz2) ?_
    refine zlRun (n := 1) (j := 4) rfl (by kernel_rfl) ?_
    refine zlEnd (by kernel_rfl) ?_
    refine zkSeq ?_
    refine zrRet ?_
    refine zkNil ?_
    exact endQ (F := f34_Q) hS hQ (fRet ((congrArg (fun s => outR s 0 c34.res) (by kernel_rfl : finSt c34.fin _ = f34_fin z2)).trans (f34_out z2)))
  · have hS : (some []) = some r := by
      have hl := List.eq_nil_of_length_eq_zero h0
      subst hl
      simpa [f34, app?] using hS
    show ZR _ Q c34_b [] _
    refine zrSeq ?_
    refine zrReg ?_
    refine zlRun (n := 1) (j := 1) rfl (by kernel_rfl) ?_
    refine zlEnd (by kernel_rfl) ?_
    refine zkSeq ?_
    refine zrSeq ?_
    refine zrSeq ?_
    refine zrReg ?_
    refine zlRun (n := 2) (j := 2) rfl (by kernel_rfl) ?_
    refine zlEnd (by kernel_rfl) ?_
    refine zkSeq ?_
    refine zrCondT (by kernel_rfl) ?_
    refine zrSeq ?_
    refine zrReg ?_
    refine zlRun (n := 1) (j := 1) rfl (by kernel_rfl) ?_
    refine zlEnd (by kernel_rfl) ?_
    refine zkSeq ?_
    refine zrRet ?_
    refine zkSeqR ?_
    refine zkNil ?_
    exact endQ (F := f34_Q) hS hQ (fRet ((congrArg (fun s => outR s 0 c34.res) (by kernel_rfl : finSt c34.fin _ = f34_fin [])).trans (f34_out [])))
/- slices.Index[[]int,int] -/
def f55_fin (p15 : Int) : St := ⟨(up (fun _ => .un) 4 (.d (.int .i64 p15))), (hB fun _ => 0)⟩
theorem f55_out (p15 : Int) : outR (f55_fin p15) 0 c55.res = some ((.d (.int .i64 p15)), []) := by
  kernel_rfl
def f55_Q (r : Int) (e : PX) (st : St) : Prop := DoneF c55 0 ((.d (.int .i64 r)), []) e st
def f55_l0_J (a1 : List Int) (a2 : Int) (x : Int) : St := ⟨(up (up (up (up (fun _ => .un) 8 (.d (.int .i64 x))) 7 (.d (.int .i64 (a1.length : Int)))) 1 (.d (.int .i64 a2))) 0 (.d (.sl a1.length ((eInt .i64).cells a1)))), (hB fun _ => 0)⟩
def f55_l0_H (a1 : List Int) (a2 : Int) (x : Int) (st : St) : Prop := keepSt [0, 1, 7, 8] [] [] st = f55_l0_J a1 a2 x
def f55_l0_e0_J (a1 : List Int) (a2 : Int) : St := ⟨(fun _ => .un), (hB fun _ => 0)⟩
def f55_l0_X (a1 : List Int) (a2 : Int) (z : Unit ⊕ Int) (e : PX) (st : St) : Prop := (match z with | .inl z => e = .exit 0 ∧ st = f55_l0_e0_J a1 a2 | .inr z => e = .ret ∧ finSt c55.fin st = f55_fin z)
def f55_l0_j2_J (a1 : List Int) (a2 : Int) (p20 : Int) : St := ⟨(up (up (up (up (fun _ => .un) 8 (.d (.int .i64 p20))) 7 (.d (.int .i64 (a1.length : Int)))) 1 (.d (.int .i64 a2))) 0 (.d (.sl a1.length ((eInt .i64).cells a1)))), (hB fun _ => 0)⟩
noncomputable def f55_l0_j2 (a1 : List Int) (a2 : Int) (p20 : Int) : Option (Int ⊕ (Unit ⊕ Int)) := ((idx a1 p20).bind fun z4 => (bif (decide (a2 = z4)) then (some (.inr (.inr p20))) else (some (.inl (IntKind.i64.wrap (p20 + 1))))))
theorem f55_l0_j2_ok {base : Orc} {d : Nat} (hd : 1 ≤ d) (a1 : List Int) (a2 : Int) {r : Int ⊕ (Unit ⊕ Int)} {Q : PX → St → Prop} (hQ : ∀ e st', finL (f55_l0_H a1 a2) (f55_l0_X a1 a2) r e st' → Q e st') (p20 : Int) (hS : f55_l0_j2 a1 a2 p20 = some r) {st : St} (he : keepSt [0, 1, 7, 8] [] [] st = f55_l0_j2_J a1 a2 p20) : ZR (lev codes base (d - 1)) Q c55_1 [] st := by
  refine zrKeep he ?_
  unfold f55_l0_j2 at hS
  refine zrSeq ?_
  refine zrBlk ?_
  refine zrSeq ?_
  refine zrReg ?_
  refine zlRun (n := 2) (j := 2) rfl (by kernel_rfl) ?_
  refine zlEnd (by kernel_rfl) ?_
  refine zkSeq ?_
  refine zrSeq ?_
  refine zrReg ?_
  refine zlRun (n := 3) (j := 3) rfl (by kernel_rfl) ?_
  refine bindE hS (fun z4 hz4 hS => ?_)
  refine zlOp (d := some 14) (op := (.ixS 3 1 (.tmp 12) (.tmp 13))) (g := none) (v := (.rptr ((eInt .i64).enc z4 ++ ((eInt .i64).cells (a1.drop ((p20 : Int).toNat + 1)))))) (ups := []) (j := 4) rfl (by kernel_rfl) (by kernel_rfl) (ev_ixS (eInt .i64) (kk := .i64) (xs := a1) (j := p20) (by kernel_rfl) (by kernel_rfl) hz4 rfl (by intro h; cases h)) ?_
  refine zlRun (n := 1) (j := 5) rfl (by kernel_rfl) ?_
  refine zlBool (d := 16) (op := (.cmpI .eql (.tmp 11) (.tmp 15))) (g := none) (j := 6) (decide (a2 = z4)) rfl (by kernel_rfl) (by kernel_rfl) (by kernel_rfl) (fun hc => ?_) (fun hc => ?_)
  · replace hS := cond_t hc hS
    refine zlEnd (by kernel_rfl) ?_
    refine zkSeq ?_
    refine zrCondT (by kernel_rfl) ?_
    refine zrSeq ?_
    refine zrReg ?_
    refine zlRun (n := 2) (j := 2) rfl (by kernel_rfl) ?_
    refine zlEnd (by kernel_rfl) ?_
    refine zkSeq ?_
    refine zrRet ?_
    refine zkBlkR ?_
    refine zkSeqR ?_
    refine zkNil ?_
    exact endQ hS hQ (finL_x (by intro h; cases h) (by show _ = _ ∧ _ = _; exact ⟨rfl, by kernel_rfl⟩))
  · replace hS := cond_f hc hS
    refine zlEnd (by kernel_rfl) ?_
    refine zkSeq ?_
    refine zrCondF (by kernel_rfl) ?_
    refine zrSkip ?_
    refine zkBlk ?_
    refine zkSeq ?_
    refine zrReg ?_
    refine zlRun (n := 2) (j := 2) rfl (by kernel_rfl) ?_
    refine zlEnd (by kernel_rfl) ?_
    refine zkNil ?_
    exact endQ hS hQ (finL_n (by show keepSt _ _ _ _ = _; kernel_rfl))
def f55_l0_j1_J (a1 : List Int) (a2 : Int) (p18 : Int) (p19 : Bool) : St := ⟨(up (up (up (up (up (fun _ => .un) 9 (.d (.bool p19))) 8 (.d (.int .i64 p18))) 7 (.d (.int .i64 (a1.length : Int)))) 1 (.d (.int .i64 a2))) 0 (.d (.sl a1.length ((eInt .i64).cells a1)))), (hB fun _ => 0)⟩
noncomputable def f55_l0_j1 (a1 : List Int) (a2 : Int) (p18 : Int) (p19 : Bool) : Option (Int ⊕ (Unit ⊕ Int)) := (bif p19 then (f55_l0_j2 a1 a2 p18) else (some (.inr (.inl ()))))
theorem f55_l0_j1_ok {base : Orc} {d : Nat} (hd : 1 ≤ d) (a1 : List Int) (a2 : Int) {r : Int ⊕ (Unit ⊕ Int)} {Q : PX → St → Prop} (hQ : ∀ e st', finL (f55_l0_H a1 a2) (f55_l0_X a1 a2) r e st' → Q e st') (p18 : Int) (p19 : Bool) (hS : f55_l0_j1 a1 a2 p18 p19 = some r) {st : St} (he : keepSt [0, 1, 7, 8, 9] [] [] st = f55_l0_j1_J a1 a2 p18 p19) : ZR (lev codes base (d - 1)) Q c55_2 [] st := by
  refine zrKeep he ?_
  unfold f55_l0_j1 at hS
  refine zrSeq ?_
  refine zrSplit 9 p19 (by kernel_rfl) (fun hc => ?_) (fun hc => ?_)
  · replace hS := cond_t hc hS
    refine zrCondT (by kernel_rfl) ?_
    refine zrSkip ?_
    refine zkSeq ?_
    exact f55_l0_j2_ok hd a1 a2 hQ p18 hS (by kernel_rfl)
  · replace hS := cond_f hc hS
    refine zrCondF (by kernel_rfl) ?_
    refine zrKeep (J := f55_l0_e0_J a1 a2) (by kernel_rfl) ?_
    refine zrExit ?_
    refine zkSeqX ?_
    refine zkNil ?_
    exact endQ hS hQ (finL_x (by intro h; cases h) (by show _ = _ ∧ _ = _; exact ⟨rfl, rfl⟩))
noncomputable def f55_l0 (a1 : List Int) (a2 : Int) (x : Int) : Option (Int ⊕ (Unit ⊕ Int)) := (bif (decide (x < (a1.length : Int))) then (f55_l0_j1 a1 a2 x true) else (f55_l0_j1 a1 a2 x false))
theorem f55_l0_ok {base : Orc} {d : Nat} (hd : 1 ≤ d) (a1 : List Int) (a2 : Int) {r : Int ⊕ (Unit ⊕ Int)} {Q : PX → St → Prop} (hQ : ∀ e st', finL (f55_l0_H a1 a2) (f55_l0_X a1 a2) r e st' → Q e st') {x : Int} (hS : f55_l0 a1 a2 x = some r) {st : St} (he : f55_l0_H a1 a2 x st) : ZR (lev codes base (d - 1)) Q c55_3 [] st := by
  refine zrKeep he ?_
  unfold f55_l0 at hS
  refine zrSeq ?_
  refine zrReg ?_
  refine zlBool (d := 9) (op := (.cmpI .lss (.tmp 8) (.tmp 7))) (g := none) (j := 1) (decide (x < (a1.length : Int))) rfl (by kernel_rfl) (by kernel_rfl) (by kernel_rfl) (fun hc => ?_) (fun hc => ?_)
  · replace hS := cond_t hc hS
    refine zlEnd (by kernel_rfl) ?_
    refine zkSeq ?_
    exact f55_l0_j1_ok hd a1 a2 hQ x true hS (by kernel_rfl)
  · replace hS := cond_f hc hS
    refine zlEnd (by kernel_rfl) ?_
    refine zkSeq ?_
    exact f55_l0_j1_ok hd a1 a2 hQ x false hS (by kernel_rfl)
noncomputable def f55 (a1 : List Int) (a2 : Int) : Option (Int) := ((loopO (f55_l0 a1 a2) 0).bind fun z5 => (Sum.elim (fun z6 => (some (-1))) (fun z7 => (some z7)) z5))
theorem f55_ok (base : Orc) (d : Nat) (hd : 1 ≤ d) (a1 : List Int) (a2 : Int) (r : Int) (hS : f55 a1 a2 = some r) : lev codes base d 55 [(.d (.sl a1.length ((eInt .i64).cells a1))), (.d (.int .i64 a2))] [] = some ((.d (.int .i64 r)), []) := by
  refine lev_go codes55 rfl rfl (Nat.le_trans (Nat.le_of_ble_eq_true rfl) hd) fun Q hQ => ?_
  unfold f55 at hS
  show ZR _ Q c55_b [] _
  replace hQ : ∀ e st', f55_Q r e st' → Q e st' := hQ
  refine zrSeq ?_
  refine zrReg ?_
  refine zlRun (n := 1) (j := 1) rfl (by kernel_rfl) ?_
  refine zlEnd (by kernel_rfl) ?_
  refine zkSeq ?_
  refine zrSeq ?_
  refine zrSeq ?_
  refine zrReg ?_
  refine zlRun (n := 3) (j := 3) rfl (by kernel_rfl) ?_
  refine zlEnd (by kernel_rfl) ?_
  refine zkSeq ?_
  refine zrBlk ?_
  refine bindE hS (fun z5 hz5 hS => ?_)
  refine zrLoop (f55_l0_H a1 a2) (f55_l0_X a1 a2) (fun x st r Q h0 hS hQ => f55_l0_ok hd a1 a2 hQ hS h0) (x := 0) (z := z5) (by show keepSt _ _ _ _ = _; kernel_rfl) hz5 ?_
  rcases z5 with z6 | z7
  · replace hS := (show _ = _ from hS)
    simp only [Sum.elim_inl] at hS
    intro e st' _ hX
    obtain ⟨rfl, rfl⟩ : _ ∧ _ := hX
    refine zkBlkX ?_
    refine zkSeq ?_
    refine zrSeq ?_
    refine zrReg ?_
    refine zlRun (n := 1) (j := 1) rfl (by kernel_rfl) ?_
    refine zlEnd (by kernel_rfl) ?_
    refine zkSeq ?_
    refine zrRet ?_
    refine zkNil ?_
    exact endQ hS hQ (fRet ((congrArg (fun s => outR s 0 c55.res) (by kernel_rfl : finSt c55.fin _ = f55_fin (-1))).trans (f55_out (-1))))
  · simp only [Sum.elim_inr] at hS
    intro e st' _ hX
    obtain ⟨rfl, hX⟩ : _ ∧ _ := hX
    refine zkBlkR ?_
    refine zkSeqR ?_
    refine zkNil ?_
    exact endQ hS hQ (fRet ((congrArg (fun s => outR s 0 c55.res) hX).trans (f55_out z7)))
/- slices.Contains[[]int,int] -/
def f35_fin (p2 : Bool) : St := ⟨(up (fun _ => .un) 4 (.d (.bool p2))), (hB fun _ => 0)⟩
theorem f35_out (p2 : Bool) : outR (f35_fin p2) 0 c35.res = some ((.d (.bool p2)), []) := by
  kernel_rfl
def f35_Q (r : Bool) (e : PX) (st : St) : Prop := DoneF c35 0 ((.d (.bool r)), []) e st
noncomputable def f35 (a1 : List Int) (a2 : Int) : Option (Bool) := ((f55 a1 a2).bind fun z2 => (bif (decide (0 ≤ z2)) then (some true) else (some false)))
theorem f35_ok (base : Orc) (d : Nat) (hd : 2 ≤ d) (a1 : List Int) (a2 : Int) (r : Bool) (hS : f35 a1 a2 = some r) : lev codes base d 35 [(.d (.sl a1.length ((eInt .i64).cells a1))), (.d (.int .i64 a2))] [] = some ((.d (.bool r)), []) := by
  refine lev_go codes35 rfl rfl (Nat.le_trans (Nat.le_of_ble_eq_true rfl) hd) fun Q hQ => ?_
  unfold f35 at hS
  show ZR _ Q c35_b [] _
  replace hQ : ∀ e st', f35_Q r e st' → Q e st' := hQ
  refine zrSeq ?_
  refine zrReg ?_
  refine zlRun (n := 1) (j := 1) rfl (by kernel_rfl) ?_
  refine zlEnd (by kernel_rfl) ?_
  refine zkSeq ?_
  refine zrSeq ?_
  refine zrReg ?_
  refine zlRun (n := 2) (j := 2) rfl (by kernel_rfl) ?_
  refine bindE hS (fun z2 hz2 hS => ?_)
  refine zlOp (d := some 7) (op := (.call 55 [(.tmp 5), (.tmp 6)])) (g := none) (v := (.d (.int .i64 z2))) (ups := []) (j := 3) rfl (by kernel_rfl) (by kernel_rfl) (ev_call (args := [(.d (.sl a1.length ((eInt .i64).cells a1))), (.d (.int .i64 a2))]) (l := [(.d (.sl a1.length ((eInt .i64).cells a1))), (.d (.int .i64 a2))]) (r := (.d (.int .i64 z2))) (by kernel_rfl) (by kernel_rfl) (f55_ok base (d - 1) (dpt hd rfl) a1 a2 z2 hz2) (by kernel_rfl) (by kernel_rfl) (by kernel_rfl)) ?_
  refine zlBool (d := 8) (op := (.cmpI .geq (.tmp 7) (.const (.int .i64 0)))) (g := none) (j := 4) (decide (0 ≤ z2)) rfl (by kernel_rfl) (by kernel_rfl) (by kernel_rfl) (fun hc => ?_) (fun hc => ?_)
  · replace hS := cond_t hc hS
    refine zlRun (n := 1) (j := 5) rfl (by kernel_rfl) ?_
    refine zlEnd (by kernel_rfl) ?_
    refine zkSeq ?_
    refine zrRet ?_
    refine zkNil ?_
    exact endQ hS hQ (fRet ((congrArg (fun s => outR s 0 c35.res) (by kernel_rfl : finSt c35.fin _ = f35_fin true)).trans (f35_out true)))
  · replace hS := cond_f hc hS
    refine zlRun (n := 1) (j := 5) rfl (by kernel_rfl) ?_
    refine zlEnd (by kernel_rfl) ?_
    refine zkSeq ?_
    refine zrRet ?_
    refine zkNil ?_
    exact endQ hS hQ (fRet ((congrArg (fun s => outR s 0 c35.res) (by kernel_rfl : finSt c35.fin _ = f35_fin false)).trans (f35_out false)))
/- farwriter/farkeep.PenJoins -/
def f13_fin (p13 : Bool) : St := ⟨(up (fun _ => .un) 6 (.d (.bool p13))), (hB fun _ => 0)⟩
theorem f13_out (p13 : Bool) : outR (f13_fin p13) 0 c13.res = some ((.d (.bool p13)), []) := by
  kernel_rfl
def f13_Q (r : Bool) (e : PX) (st : St) : Prop := DoneF c13 0 ((.d (.bool r)), []) e st
noncomputable def f13 (a1 : GPen) (a2 : List Int) (a3 : List Int) : Option (Bool) := ((f32 a1 a2).bind fun z10 => ((f32 z10.1 a3).bind fun z11 => ((f34 a2).bind fun z12 => ((app? 8 z12 a3).bind fun z13 => ((f32 a1 z13).bind fun z14 => (f30.bind fun z15 => (bif (!z15) then (f30.bind fun z16 => (some z16)) else (bif (!decide (z10.2 = 0)) then (f30.bind fun z17 => (some z17)) else (bif (!decide (z11.2 = 0)) then (f30.bind fun z18 => (some z18)) else (bif (!decide (z14.2 = 0)) then (f30.bind fun z19 => (some z19)) else ((f35 a2 38).bind fun z20 => (bif z20 then (f30.bind fun z21 => (some z21)) else ((f35 a2 48).bind fun z22 => (bif z22 then (f30.bind fun z23 => (some z23)) else (bif (decide (z11.1.Flags = z14.1.Flags) && (decide (z11.1.Fore = z14.1.Fore) && (decide (z11.1.Back = z14.1.Back) && true))) then (some true) else (some false))))))))))))))))
theorem f13_ok (base : Orc) (d : Nat) (hd : 7 ≤ d) (a1 : GPen) (a2 : List Int) (a3 : List Int) (r : Bool) (hS : f13 a1 a2 a3 = some r) : lev codes base d 13 [(.agg ((.d (.int .i64 a1.Flags)) :: ((.d (.int .i64 a1.Fore)) :: ((.d (.int .i64 a1.Back)) :: [])))), (.d (.sl a2.length ((eInt .i64).cells a2))), (.d (.sl a3.length ((eInt .i64).cells a3)))] [] = some ((.d (.bool r)), []) := by
  refine lev_go codes13 rfl rfl (Nat.le_trans (Nat.le_of_ble_eq_true rfl) hd) fun Q hQ => ?_
  unfold f13 at hS
  show ZR _ Q c13_b [] _
  replace hQ : ∀ e st', f13_Q r e st' → Q e st' := hQ
  refine zrSeq ?_
  refine zrReg ?_
  refine zlRun (n := 2) (j := 2) rfl (by kernel_rfl) ?_
  refine zlEnd (by kernel_rfl) ?_
  refine zkSeq ?_
  refine zrSeq ?_
  refine zrReg ?_
  refine zlRun (n := 2) (j := 2) rfl (by kernel_rfl) ?_
  refine bindE hS (fun z10 hz10 hS => ?_)
  refine zlOp (d := some 16) (op := (.call 32 [(.tmp 14), (.tmp 15)])) (g := none) (v := (.tup [(.agg ((.d (.int .i64 z10.1.Flags)) :: ((.d (.int .i64 z10.1.Fore)) :: ((.d (.int .i64 z10.1.Back)) :: [])))), (.d (.int .i64 z10.2))])) (ups := []) (j := 3) rfl (by kernel_rfl) (by kernel_rfl) (ev_call (args := [(.agg ((.d (.int .i64 a1.Flags)) :: ((.d (.int .i64 a1.Fore)) :: ((.d (.int .i64 a1.Back)) :: [])))), (.d (.sl a2.length ((eInt .i64).cells a2)))]) (l := [(.agg ((.d (.int .i64 a1.Flags)) :: ((.d (.int .i64 a1.Fore)) :: ((.d (.int .i64 a1.Back)) :: [])))), (.d (.sl a2.length ((eInt .i64).cells a2)))]) (r := (.tup [(.agg ((.d (.int .i64 z10.1.Flags)) :: ((.d (.int .i64 z10.1.Fore)) :: ((.d (.int .i64 z10.1.Back)) :: [])))), (.d (.int .i64 z10.2))])) (by kernel_rfl) (by kernel_rfl) (f32_ok base (d - 1) (dpt hd rfl) a1 a2 z10 hz10) (by kernel_rfl) (by kernel_rfl) (by kernel_rfl)) ?_
  refine zlRun (n := 6) (j := 9) rfl (by kernel_rfl) ?_
  refine zlEnd (by kernel_rfl) ?_
  refine zkSeq ?_
  refine zrSeq ?_
  refine zrReg ?_
  refine zlRun (n := 2) (j := 2) rfl (by kernel_rfl) ?_
  refine bindE hS (fun z11 hz11 hS => ?_)
  refine zlOp (d := some 22) (op := (.call 32 [(.tmp 20), (.tmp 21)])) (g := none) (v := (.tup [(.agg ((.d (.int .i64 z11.1.Flags)) :: ((.d (.int .i64 z11.1.Fore)) :: ((.d (.int .i64 z11.1.Back)) :: [])))), (.d (.int .i64 z11.2))])) (ups := []) (j := 3) rfl (by kernel_rfl) (by kernel_rfl) (ev_call (args := [(.agg ((.d (.int .i64 z10.1.Flags)) :: ((.d (.int .i64 z10.1.Fore)) :: ((.d (.int .i64 z10.1.Back)) :: [])))), (.d (.sl a3.length ((eInt .i64).cells a3)))]) (l := [(.agg ((.d (.int .i64 z10.1.Flags)) :: ((.d (.int .i64 z10.1.Fore)) :: ((.d (.int .i64 z10.1.Back)) :: [])))), (.d (.sl a3.length ((eInt .i64).cells a3)))]) (r := (.tup [(.agg ((.d (.int .i64 z11.1.Flags)) :: ((.d (.int .i64 z11.1.Fore)) :: ((.d (.int .i64 z11.1.Back)) :: [])))), (.d (.int .i64 z11.2))])) (by kernel_rfl) (by kernel_rfl) (f32_ok base (d - 1) (dpt hd rfl) z10.1 a3 z11 hz11) (by kernel_rfl) (by kernel_rfl) (by kernel_rfl)) ?_
  refine zlRun (n := 6) (j := 9) rfl (by kernel_rfl) ?_
  refine zlEnd (by kernel_rfl) ?_
  refine zkSeq ?_
  refine zrSeq ?_
  refine zrRegD ?_
  refine zdRun (n := 2) (j := 2) (ts := [[(32, false)], []]) (acc' := [[(32, false)], []]) rfl (by kernel_rfl) (by kernel_rfl) (by kernel_rfl) ?_
  refine bindE hS (fun z12 hz12 hS => ?_)
  refine zdOp (d := some 28) (op := (.call 34 [(.tmp 27)])) (g := none) (v := (.r (.msl 232 1 0 z12.length))) (ups := [(232, ⟨1, some (.own 3 1 ((eInt .i64).cells z12))⟩)]) (j := 3) (t1 := [(232, true), (233, true), (234, true), (235, true), (236, true), (237, true), (238, true), (239, true)]) (acc' := [[(32, false)], [], [(232, true), (233, true), (234, true), (235, true), (236, true), (237, true), (238, true), (239, true)]]) (by kernel_rfl) (by kernel_rfl) rfl (by kernel_rfl) (by kernel_rfl) (ev_call (args := [(.d (.sl a2.length ((eInt .i64).cells a2)))]) (l := [(.d (.sl a2.length ((eInt .i64).cells a2)))]) (r := (.r (.own 0 3 1 z12.length ((eInt .i64).cells z12)))) (by kernel_rfl) (by kernel_rfl) (f34_ok base (d - 1) (dpt hd rfl) a2 z12 hz12) (by kernel_rfl) (by kernel_rfl) (by kernel_rfl)) ?_
  refine zdRun (n := 1) (j := 4) (ts := [[]]) (acc' := [[(32, false)], [], [(232, true), (233, true), (234, true), (235, true), (236, true), (237, true), (238, true), (239, true)], []]) rfl (by kernel_rfl) (by kernel_rfl) (by kernel_rfl) ?_
  refine bindE hS (fun z13 hz13 hS => ?_)
  refine zdOp (d := some 30) (op := (.app 3 1 8 (.tmp 28) (.tmp 29))) (g := none) (v := (.r (.msl 232 2 0 z13.length))) (ups := [(232, ⟨2, some (.own 3 1 ((eInt .i64).cells z13))⟩)]) (j := 5) (t1 := [(248, true), (232, true)]) (acc' := [[(32, false)], [], [(232, true), (233, true), (234, true), (235, true), (236, true), (237, true), (238, true), (239, true)], [], [(248, true), (232, true)]]) (by kernel_rfl) (by kernel_rfl) rfl (by kernel_rfl) (by kernel_rfl) (ev_app (eInt .i64) (b := 232) (g := 1) (n := z12.length) (xs := z12) (ys := a3) ((congrArg (asL _) (by kernel_rfl : ρof _ (.tmp 29) = (.d (.sl a3.length ((eInt .i64).cells a3))))).trans (as_d _ _)) rfl (by kernel_rfl) rfl (by kernel_rfl) rfl hz13) ?_
  refine bindE hS (fun z14 hz14 hS => ?_)
  refine zdOp (d := some 31) (op := (.call 32 [(.tmp 26), (.tmp 30)])) (g := none) (v := (.tup [(.agg ((.d (.int .i64 z14.1.Flags)) :: ((.d (.int .i64 z14.1.Fore)) :: ((.d (.int .i64 z14.1.Back)) :: [])))), (.d (.int .i64 z14.2))])) (ups := []) (j := 6) (t1 := [(232, false), (256, true), (257, true), (258, true), (259, true), (260, true), (261, true), (262, true), (263, true)]) (acc' := [[(32, false)], [], [(232, true), (233, true), (234, true), (235, true), (236, true), (237, true), (238, true), (239, true)], [], [(248, true), (232, true)], [(232, false), (256, true), (257, true), (258, true), (259, true), (260, true), (261, true), (262, true), (263, true)]]) (by kernel_rfl) (by kernel_rfl) rfl (by kernel_rfl) (by kernel_rfl) (ev_call (args := [(.agg ((.d (.int .i64 a1.Flags)) :: ((.d (.int .i64 a1.Fore)) :: ((.d (.int .i64 a1.Back)) :: [])))), (.r (.msl 232 2 0 z13.length))]) (l := [(.agg ((.d (.int .i64 a1.Flags)) :: ((.d (.int .i64 a1.Fore)) :: ((.d (.int .i64 a1.Back)) :: [])))), (.d (.sl z13.length ((eInt .i64).cells z13)))]) (r := (.tup [(.agg ((.d (.int .i64 z14.1.Flags)) :: ((.d (.int .i64 z14.1.Fore)) :: ((.d (.int .i64 z14.1.Back)) :: [])))), (.d (.int .i64 z14.2))])) (by kernel_rfl) (l_cons (by kernel_rfl) (l_cons (l_own (eInt .i64) (e := 3) (k := 1) (xs := z13) (by kernel_rfl) rfl rfl) l_nil)) (f32_ok base (d - 1) (dpt hd rfl) a1 z13 z14 hz14) (by kernel_rfl) (by kernel_rfl) (by kernel_rfl)) ?_
  refine zdRun (n := 6) (j := 12) (ts := [[], [], [], [(96, true)], [(96, true)], []]) (acc' := [[(32, false)], [], [(232, true), (233, true), (234, true), (235, true), (236, true), (237, true), (238, true), (239, true)], [], [(248, true), (232, true)], [(232, false), (256, true), (257, true), (258, true), (259, true), (260, true), (261, true), (262, true), (263, true)], [], [], [], [(96, true)], [(96, true)], []]) rfl (by kernel_rfl) (by kernel_rfl) (by kernel_rfl) ?_
  refine zdEnd (by kernel_rfl) (by kernel_rfl) ?_
  refine zkSeq ?_
  refine zrSeq ?_
  refine zrSeq ?_
  refine zrReg ?_
  refine bindE hS (fun z15 hz15 hS => ?_)
  refine zlOp (d := some 34) (op := (.call 30 [])) (g := none) (v := (.d (.bool z15))) (ups := []) (j := 1) rfl (by kernel_rfl) (by kernel_rfl) (ev_call (args := []) (l := []) (r := (.d (.bool z15))) (by kernel_rfl) (by kernel_rfl) (f30_ok base (d - 1) (dpt hd rfl)  z15 hz15) (by kernel_rfl) (by kernel_rfl) (by kernel_rfl)) ?_
  refine zlRun (n := 2) (j := 3) rfl (by kernel_rfl) ?_
  refine zlSplit 36 (!z15) (by kernel_rfl) (fun hc => ?_) (fun hc => ?_)
  · replace hS := cond_t hc hS
    refine zlRun (n := 19) (j := 22) rfl (by kernel_rfl) ?_
    refine zlEnd (by kernel_rfl) ?_
    refine zkSeq ?_
    refine zrCondT (by kernel_rfl) ?_
    refine zrSeq ?_
    refine zrReg ?_
    refine bindE hS (fun z16 hz16 hS => ?_)
    refine zlOp (d := some 56) (op := (.call 30 [])) (g := none) (v := (.d (.bool z16))) (ups := []) (j := 1) rfl (by kernel_rfl) (by kernel_rfl) (ev_call (args := []) (l := []) (r := (.d (.bool z16))) (by kernel_rfl) (by kernel_rfl) (f30_ok base (d - 1) (dpt hd rfl)  z16 hz16) (by kernel_rfl) (by kernel_rfl) (by kernel_rfl)) ?_
    refine zlRun (n := 1) (j := 2) rfl (by kernel_rfl) ?_
    refine zlEnd (by kernel_rfl) ?_
    refine zkSeq ?_
    refine zrRet ?_
    refine zkSeqR ?_
    refine zkNil ?_
    exact endQ hS hQ (fRet ((congrArg (fun s => outR s 0 c13.res) (by kernel_rfl : finSt c13.fin _ = f13_fin z16)).trans (f13_out z16)))
  · replace hS := cond_f hc hS
    refine zlRun (n := 1) (j := 4) rfl (by kernel_rfl) ?_
    refine zlBool (d := 38) (op := (.cmpI .neq (.tmp 37) (.const (.int .i64 0)))) (g := (some (36, false))) (j := 5) (!decide (z10.2 = 0)) rfl (by kernel_rfl) (by kernel_rfl) (by kernel_rfl) (fun hc => ?_) (fun hc => ?_)
    · replace hS := cond_t hc hS
      refine zlRun (n := 17) (j := 22) rfl (by kernel_rfl) ?_
      refine zlEnd (by kernel_rfl) ?_
      refine zkSeq ?_
      refine zrCondT (by kernel_rfl) ?_
      refine zrSeq ?_
      refine zrReg ?_
      refine bindE hS (fun z17 hz17 hS => ?_)
      refine zlOp (d := some 56) (op := (.call 30 [])) (g := none) (v := (.d (.bool z17))) (ups := []) (j := 1) rfl (by kernel_rfl) (by kernel_rfl) (ev_call (args := []) (l := []) (r := (.d (.bool z17))) (by kernel_rfl) (by kernel_rfl) (f30_ok base (d - 1) (dpt hd rfl)  z17 hz17) (by kernel_rfl) (by kernel_rfl) (by kernel_rfl)) ?_
      refine zlRun (n := 1) (j := 2) rfl (by kernel_rfl) ?_
      refine zlEnd (by kernel_rfl) ?_
      refine zkSeq ?_
      refine zrRet ?_
      refine zkSeqR ?_
      refine zkNil ?_
      exact endQ hS hQ (fRet ((congrArg (fun s => outR s 0 c13.res) (by kernel_rfl : finSt c13.fin _ = f13_fin z17)).trans (f13_out z17)))
    · replace hS := cond_f hc hS
      refine zlRun (n := 3) (j := 8) rfl (by kernel_rfl) ?_
      refine zlBool (d := 42) (op := (.cmpI .neq (.tmp 41) (.const (.int .i64 0)))) (g := (some (40, false))) (j := 9) (!decide (z11.2 = 0)) rfl (by kernel_rfl) (by kernel_rfl) (by kernel_rfl) (fun hc => ?_) (fun hc => ?_)
      · replace hS := cond_t hc hS
        refine zlRun (n := 13) (j := 22) rfl (by kernel_rfl) ?_
        refine zlEnd (by kernel_rfl) ?_
        refine zkSeq ?_
        refine zrCondT (by kernel_rfl) ?_
        refine zrSeq ?_
        refine zrReg ?_
        refine bindE hS (fun z18 hz18 hS => ?_)
        refine zlOp (d := some 56) (op := (.call 30 [])) (g := none) (v := (.d (.bool z18))) (ups := []) (j := 1) rfl (by kernel_rfl) (by kernel_rfl) (ev_call (args := []) (l := []) (r := (.d (.bool z18))) (by kernel_rfl) (by kernel_rfl) (f30_ok base (d - 1) (dpt hd rfl)  z18 hz18) (by kernel_rfl) (by kernel_rfl) (by kernel_rfl)) ?_
        refine zlRun (n := 1) (j := 2) rfl (by kernel_rfl) ?_
        refine zlEnd (by kernel_rfl) ?_
        refine zkSeq ?_
        refine zrRet ?_
        refine zkSeqR ?_
        refine zkNil ?_
        exact endQ hS hQ (fRet ((congrArg (fun s => outR s 0 c13.res) (by kernel_rfl : finSt c13.fin _ = f13_fin z18)).trans (f13_out z18)))
      · replace hS := cond_f hc hS
        refine zlRun (n := 3) (j := 12) rfl (by kernel_rfl) ?_
        refine zlBool (d := 46) (op := (.cmpI .neq (.tmp 45) (.const (.int .i64 0)))) (g := (some (44, false))) (j := 13) (!decide (z14.2 = 0)) rfl (by kernel_rfl) (by kernel_rfl) (by kernel_rfl) (fun hc => ?_) (fun hc => ?_)
        · replace hS := cond_t hc hS
          refine zlRun (n := 9) (j := 22) rfl (by kernel_rfl) ?_
          refine zlEnd (by kernel_rfl) ?_
          refine zkSeq ?_
          refine zrCondT (by kernel_rfl) ?_
          refine zrSeq ?_
          refine zrReg ?_
          refine bindE hS (fun z19 hz19 hS => ?_)
          refine zlOp (d := some 56) (op := (.call 30 [])) (g := none) (v := (.d (.bool z19))) (ups := []) (j := 1) rfl (by kernel_rfl) (by kernel_rfl) (ev_call (args := []) (l := []) (r := (.d (.bool z19))) (by kernel_rfl) (by kernel_rfl) (f30_ok base (d - 1) (dpt hd rfl)  z19 hz19) (by kernel_rfl) (by kernel_rfl) (by kernel_rfl)) ?_
          refine zlRun (n := 1) (j := 2) rfl (by kernel_rfl) ?_
          refine zlEnd (by kernel_rfl) ?_
          refine zkSeq ?_
          refine zrRet ?_
          refine zkSeqR ?_
          refine zkNil ?_
          exact endQ hS hQ (fRet ((congrArg (fun s => outR s 0 c13.res) (by kernel_rfl : finSt c13.fin _ = f13_fin z19)).trans (f13_out z19)))
        · replace hS := cond_f hc hS
          refine zlRun (n := 3) (j := 16) rfl (by kernel_rfl) ?_
          refine bindE hS (fun z20 hz20 hS => ?_)
          refine zlOp (d := some 50) (op := (.call 35 [(.tmp 49), (.const (.int .i64 38))])) (g := (some (48, false))) (v := (.d (.bool z20))) (ups := []) (j := 17) rfl (by kernel_rfl) (by kernel_rfl) (ev_call (args := [(.d (.sl a2.length ((eInt .i64).cells a2))), (.d (.int .i64 38))]) (l := [(.d (.sl a2.length ((eInt .i64).cells a2))), (.d (.int .i64 38))]) (r := (.d (.bool z20))) (by kernel_rfl) (by kernel_rfl) (f35_ok base (d - 1) (dpt hd rfl) a2 38 z20 hz20) (by kernel_rfl) (by kernel_rfl) (by kernel_rfl)) ?_
          refine zlRun (n := 2) (j := 19) rfl (by kernel_rfl) ?_
          refine zlSplit 52 z20 (by kernel_rfl) (fun hc => ?_) (fun hc => ?_)
          · replace hS := cond_t hc hS
            refine zlRun (n := 3) (j := 22) rfl (by kernel_rfl) ?_
            refine zlEnd (by kernel_rfl) ?_
            refine zkSeq ?_
            refine zrCondT (by kernel_rfl) ?_
            refine zrSeq ?_
            refine zrReg ?_
            refine bindE hS (fun z21 hz21 hS => ?_)
            refine zlOp (d := some 56) (op := (.call 30 [])) (g := none) (v := (.d (.bool z21))) (ups := []) (j := 1) rfl (by kernel_rfl) (by kernel_rfl) (ev_call (args := []) (l := []) (r := (.d (.bool z21))) (by kernel_rfl) (by kernel_rfl) (f30_ok base (d - 1) (dpt hd rfl)  z21 hz21) (by kernel_rfl) (by kernel_rfl) (by kernel_rfl)) ?_
            refine zlRun (n := 1) (j := 2) rfl (by kernel_rfl) ?_
            refine zlEnd (by kernel_rfl) ?_
            refine zkSeq ?_
            refine zrRet ?_
            refine zkSeqR ?_
            refine zkNil ?_
            exact endQ hS hQ (fRet ((congrArg (fun s => outR s 0 c13.res) (by kernel_rfl : finSt c13.fin _ = f13_fin z21)).trans (f13_out z21)))
          · replace hS := cond_f hc hS
            refine zlRun (n := 1) (j := 20) rfl (by kernel_rfl) ?_
            refine bindE hS (fun z22 hz22 hS => ?_)
            refine zlOp (d := some 54) (op := (.call 35 [(.tmp 53), (.const (.int .i64 48))])) (g := (some (52, false))) (v := (.d (.bool z22))) (ups := []) (j := 21) rfl (by kernel_rfl) (by kernel_rfl) (ev_call (args := [(.d (.sl a2.length ((eInt .i64).cells a2))), (.d (.int .i64 48))]) (l := [(.d (.sl a2.length ((eInt .i64).cells a2))), (.d (.int .i64 48))]) (r := (.d (.bool z22))) (by kernel_rfl) (by kernel_rfl) (f35_ok base (d - 1) (dpt hd rfl) a2 48 z22 hz22) (by kernel_rfl) (by kernel_rfl) (by kernel_rfl)) ?_
            refine zlRun (n := 1) (j := 22) rfl (by kernel_rfl) ?_
            refine zlEnd (by kernel_rfl) ?_
            refine zkSeq ?_
            refine zrSplit 55 z22 (by kernel_rfl) (fun hc => ?_) (fun hc => ?_)
            · replace hS := cond_t hc hS
              refine zrCondT (by kernel_rfl) ?_
              refine zrSeq ?_
              refine zrReg ?_
              refine bindE hS (fun z23 hz23 hS => ?_)
              refine zlOp (d := some 56) (op := (.call 30 [])) (g := none) (v := (.d (.bool z23))) (ups := []) (j := 1) rfl (by kernel_rfl) (by kernel_rfl) (ev_call (args := []) (l := []) (r := (.d (.bool z23))) (by kernel_rfl) (by kernel_rfl) (f30_ok base (d - 1) (dpt hd rfl)  z23 hz23) (by kernel_rfl) (by kernel_rfl) (by kernel_rfl)) ?_
              refine zlRun (n := 1) (j := 2) rfl (by kernel_rfl) ?_
              refine zlEnd (by kernel_rfl) ?_
              refine zkSeq ?_
              refine zrRet ?_
              refine zkSeqR ?_
              refine zkNil ?_
              exact endQ hS hQ (fRet ((congrArg (fun s => outR s 0 c13.res) (by kernel_rfl : finSt c13.fin _ = f13_fin z23)).trans (f13_out z23)))
            · replace hS := cond_f hc hS
              refine zrCondF (by kernel_rfl) ?_
              refine zrSkip ?_
              refine zkSeq ?_
              refine zrSeq ?_
              refine zrReg ?_
              refine zlRun (n := 2) (j := 2) rfl (by kernel_rfl) ?_
              refine zlBool (d := 59) (op := (.eqA .false [(3, .int)] (.tmp 57) (.tmp 58))) (g := none) (j := 3) (decide (z11.1.Flags = z14.1.Flags) && (decide (z11.1.Fore = z14.1.Fore) && (decide (z11.1.Back = z14.1.Back) && true))) rfl (by kernel_rfl) (by kernel_rfl) (by kernel_rfl) (fun hc => ?_) (fun hc => ?_)
              · replace hS := cond_t hc hS
                refine zlRun (n := 1) (j := 4) rfl (by kernel_rfl) ?_
                refine zlEnd (by kernel_rfl) ?_
                refine zkSeq ?_
                refine zrRet ?_
                refine zkNil ?_
                exact endQ hS hQ (fRet ((congrArg (fun s => outR s 0 c13.res) (by kernel_rfl : finSt c13.fin _ = f13_fin true)).trans (f13_out true)))
              · replace hS := cond_f hc hS
                refine zlRun (n := 1) (j := 4) rfl (by kernel_rfl) ?_
                refine zlEnd (by kernel_rfl) ?_
                refine zkSeq ?_
                refine zrRet ?_
                refine zkNil ?_
                exact endQ hS hQ (fRet ((congrArg (fun s => outR s 0 c13.res) (by kernel_rfl : finSt c13.fin _ = f13_fin false)).trans (f13_out false)))
end Go.Proofs.Ytphbfciikjkkfaa.Pm
