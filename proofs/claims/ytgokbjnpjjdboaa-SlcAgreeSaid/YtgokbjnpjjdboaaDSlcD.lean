/- Typed functions, and that the codes are these. Printed by dec.py. -/
import Derived.Test.YtgokbjnpjjdboaaDSlcC
namespace Go.Proofs.Ytgokbjnpjjdboaa.Pm
set_option maxRecDepth 1000000
set_option maxHeartbeats 20000000
set_option linter.unusedVariables false
/- farwriter/slc.Check -/
def f36_fin (p17 : Int) : St := ⟨(up (fun _ => .un) 2 (.d (.int .i64 p17))), (hB fun _ => 0)⟩
theorem f36_out (p17 : Int) : outR (f36_fin p17) 0 c36.res = some ((.d (.int .i64 p17)), []) := by
  kernel_rfl
def f36_Q (r : Int) (e : PX) (st : St) : Prop := DoneF c36 0 ((.d (.int .i64 r)), []) e st
def f36_j0_J (a1 : GKeys) : St := ⟨(up (fun _ => .un) 1 (.r (.ptr 16 0 0))), (up (hB fun _ => 0) 16 ⟨0, some (.box ((eU8.row 19 a1.Levels) ++ ((eU8.row 19 a1.Chars) ++ [])))⟩)⟩
noncomputable def f36_j0 (a1 : GKeys) : Option (Int) := (bif (!decide (((a1.Levels 0).toNat : Int) = 0)) then (some 4) else (bif (!decide (((a1.Chars 0).toNat : Int) = 0)) then (some 4) else (some 0)))
theorem f36_j0_ok {base : Orc} {d : Nat} (hd : 1 ≤ d) (a1 : GKeys) {r : Int} {Q : PX → St → Prop} (hQ : ∀ e st', f36_Q r e st' → Q e st')  (hS : f36_j0 a1 = some r) {st : St} (he : keepSt [1] [(16, .id 16)] [] st = f36_j0_J a1) : ZR (lev codes base (d - 1)) Q c36_1 [] st := by
  refine zrKeep he ?_
  unfold f36_j0 at hS
  refine zrSeq ?_
  refine zrSeq ?_
  refine zrReg ?_
  refine zlRun (n := 3) (j := 3) rfl (by kernel_rfl) ?_
  refine zlBool (d := 16) (op := (.cmpI .neq (.tmp 15) (.const (.int .u8 0)))) (g := none) (j := 4) (!decide (((a1.Levels 0).toNat : Int) = 0)) rfl (by kernel_rfl) (by kernel_rfl) (by kernel_rfl) (fun hc => ?_) (fun hc => ?_)
  · replace hS := cond_t hc hS
    refine zlRun (n := 6) (j := 10) rfl (by kernel_rfl) ?_
    refine zlEnd (by kernel_rfl) ?_
    refine zkSeq ?_
    refine zrCondT (by kernel_rfl) ?_
    refine zrSeq ?_
    refine zrReg ?_
    refine zlRun (n := 1) (j := 1) rfl (by kernel_rfl) ?_
    refine zlEnd (by kernel_rfl) ?_
    refine zkSeq ?_
    refine zrRet ?_
    refine zkSeqR ?_
    refine zkNil ?_
    exact endQ hS hQ (fRet ((congrArg (fun s => outR s 0 c36.res) (by kernel_rfl : finSt c36.fin _ = f36_fin 4)).trans (f36_out 4)))
  · replace hS := cond_f hc hS
    refine zlRun (n := 4) (j := 8) rfl (by kernel_rfl) ?_
    refine zlBool (d := 21) (op := (.cmpI .neq (.tmp 20) (.const (.int .u8 0)))) (g := (some (17, false))) (j := 9) (!decide (((a1.Chars 0).toNat : Int) = 0)) rfl (by kernel_rfl) (by kernel_rfl) (by kernel_rfl) (fun hc => ?_) (fun hc => ?_)
    · replace hS := cond_t hc hS
      refine zlRun (n := 1) (j := 10) rfl (by kernel_rfl) ?_
      refine zlEnd (by kernel_rfl) ?_
      refine zkSeq ?_
      refine zrCondT (by kernel_rfl) ?_
      refine zrSeq ?_
      refine zrReg ?_
      refine zlRun (n := 1) (j := 1) rfl (by kernel_rfl) ?_
      refine zlEnd (by kernel_rfl) ?_
      refine zkSeq ?_
      refine zrRet ?_
      refine zkSeqR ?_
      refine zkNil ?_
      exact endQ hS hQ (fRet ((congrArg (fun s => outR s 0 c36.res) (by kernel_rfl : finSt c36.fin _ = f36_fin 4)).trans (f36_out 4)))
    · replace hS := cond_f hc hS
      refine zlRun (n := 1) (j := 10) rfl (by kernel_rfl) ?_
      refine zlEnd (by kernel_rfl) ?_
      refine zkSeq ?_
      refine zrCondF (by kernel_rfl) ?_
      refine zrSkip ?_
      refine zkSeq ?_
      refine zrSeq ?_
      refine zrReg ?_
      refine zlRun (n := 1) (j := 1) rfl (by kernel_rfl) ?_
      refine zlEnd (by kernel_rfl) ?_
      refine zkSeq ?_
      refine zrRet ?_
      refine zkNil ?_
      exact endQ hS hQ (fRet ((congrArg (fun s => outR s 0 c36.res) (by kernel_rfl : finSt c36.fin _ = f36_fin 0)).trans (f36_out 0)))
def f36_l1_J (a1 : GKeys) (x : Int) : St := ⟨(up (up (up (fun _ => .un) 7 (.d (.int .i64 x))) 6 (.agg ((eU8.row 19 a1.Levels) ++ []))) 1 (.r (.ptr 16 0 0))), (up (hB fun _ => 0) 16 ⟨0, some (.box ((eU8.row 19 a1.Levels) ++ ((eU8.row 19 a1.Chars) ++ [])))⟩)⟩
def f36_l1_H (a1 : GKeys) (x : Int) (st : St) : Prop := keepSt [1, 6, 7] [(16, .id 16)] [] st = f36_l1_J a1 x
def f36_l1_e0_J (a1 : GKeys) : St := ⟨(up (fun _ => .un) 1 (.r (.ptr 16 0 0))), (up (hB fun _ => 0) 16 ⟨0, some (.box ((eU8.row 19 a1.Levels) ++ ((eU8.row 19 a1.Chars) ++ [])))⟩)⟩
def f36_l1_X (a1 : GKeys) (z : Unit ⊕ Int) (e : PX) (st : St) : Prop := (match z with | .inl z => e = .exit 0 ∧ st = f36_l1_e0_J a1 | .inr z => e = .ret ∧ finSt c36.fin st = f36_fin z)
def f36_l1_j3_J (a1 : GKeys) (p22 : Int) : St := ⟨(up (up (up (fun _ => .un) 7 (.d (.int .i64 p22))) 6 (.agg ((eU8.row 19 a1.Levels) ++ []))) 1 (.r (.ptr 16 0 0))), (up (hB fun _ => 0) 16 ⟨0, some (.box ((eU8.row 19 a1.Levels) ++ ((eU8.row 19 a1.Chars) ++ [])))⟩)⟩
noncomputable def f36_l1_j3 (a1 : GKeys) (p22 : Int) : Option (Int ⊕ (Unit ⊕ Int)) := ((inR p22 19).bind fun m3 => (bif (decide (2 < ((a1.Levels m3).toNat : Int))) then (some (.inr (.inr 4))) else (some (.inl (IntKind.i64.wrap (p22 + 1))))))
theorem f36_l1_j3_ok {base : Orc} {d : Nat} (hd : 1 ≤ d) (a1 : GKeys) {r : Int ⊕ (Unit ⊕ Int)} {Q : PX → St → Prop} (hQ : ∀ e st', finL (f36_l1_H a1) (f36_l1_X a1) r e st' → Q e st') (p22 : Int) (hS : f36_l1_j3 a1 p22 = some r) {st : St} (he : keepSt [1, 6, 7] [(16, .id 16)] [] st = f36_l1_j3_J a1 p22) : ZR (lev codes base (d - 1)) Q c36_2 [] st := by
  refine zrKeep he ?_
  unfold f36_l1_j3 at hS
  refine zrSeq ?_
  refine zrBlk ?_
  refine zrSeq ?_
  refine zrReg ?_
  refine bindE hS (fun m3 hm3 hS => ?_)
  refine zlOp (d := some 9) (op := (.ixV .false 19 1 (.tmp 6) (.tmp 7))) (g := none) (v := (.d (.int .u8 ((a1.Levels m3).toNat : Int)))) (ups := []) (j := 1) rfl (by kernel_rfl) (by kernel_rfl) (ev_ixV eU8 a1.Levels (kk := .i64) (j := p22) (by kernel_rfl) (by kernel_rfl) hm3 rfl (by kernel_rfl) (by kernel_rfl)) ?_
  refine zlRun (n := 1) (j := 2) rfl (by kernel_rfl) ?_
  refine zlEnd (by kernel_rfl) ?_
  refine zkSeq ?_
  refine zrSeq ?_
  refine zrReg ?_
  refine zlRun (n := 1) (j := 1) rfl (by kernel_rfl) ?_
  refine zlBool (d := 11) (op := (.cmpI .gtr (.tmp 10) (.const (.int .u8 2)))) (g := none) (j := 2) (decide (2 < ((a1.Levels m3).toNat : Int))) rfl (by kernel_rfl) (by kernel_rfl) (by kernel_rfl) (fun hc => ?_) (fun hc => ?_)
  · replace hS := cond_t hc hS
    refine zlEnd (by kernel_rfl) ?_
    refine zkSeq ?_
    refine zrCondT (by kernel_rfl) ?_
    refine zrSeq ?_
    refine zrReg ?_
    refine zlRun (n := 1) (j := 1) rfl (by kernel_rfl) ?_
    refine zlEnd (by kernel_rfl) ?_
    refine zkSeq ?_
    refine zrRet ?_
    refine zkBlkR ?_
    refine zkSeqR ?_
    refine zkNil ?_
    exact endQ hS hQ (finL_x (by intro h; cases h) (by show _ = _ ∧ _ = _; exact ⟨rfl, by kernel_rfl⟩))
  · replace hS := cond_f hc hS
    refine zlEnd (by kernel_rfl) ?_
    refine zkSeq ?_
    refine zrCondF (by kernel_rfl) ?_
    refine zrSkip ?_
    refine zkBlk ?_
    refine zkSeq ?_
    refine zrReg ?_
    refine zlRun (n := 2) (j := 2) rfl (by kernel_rfl) ?_
    refine zlEnd (by kernel_rfl) ?_
    refine zkNil ?_
    exact endQ hS hQ (finL_n (by show keepSt _ _ _ _ = _; kernel_rfl))
def f36_l1_j2_J (a1 : GKeys) (p20 : Int) (p21 : Bool) : St := ⟨(up (up (up (up (fun _ => .un) 8 (.d (.bool p21))) 7 (.d (.int .i64 p20))) 6 (.agg ((eU8.row 19 a1.Levels) ++ []))) 1 (.r (.ptr 16 0 0))), (up (hB fun _ => 0) 16 ⟨0, some (.box ((eU8.row 19 a1.Levels) ++ ((eU8.row 19 a1.Chars) ++ [])))⟩)⟩
noncomputable def f36_l1_j2 (a1 : GKeys) (p20 : Int) (p21 : Bool) : Option (Int ⊕ (Unit ⊕ Int)) := (bif p21 then (f36_l1_j3 a1 p20) else (some (.inr (.inl ()))))
theorem f36_l1_j2_ok {base : Orc} {d : Nat} (hd : 1 ≤ d) (a1 : GKeys) {r : Int ⊕ (Unit ⊕ Int)} {Q : PX → St → Prop} (hQ : ∀ e st', finL (f36_l1_H a1) (f36_l1_X a1) r e st' → Q e st') (p20 : Int) (p21 : Bool) (hS : f36_l1_j2 a1 p20 p21 = some r) {st : St} (he : keepSt [1, 6, 7, 8] [(16, .id 16)] [] st = f36_l1_j2_J a1 p20 p21) : ZR (lev codes base (d - 1)) Q c36_3 [] st := by
  refine zrKeep he ?_
  unfold f36_l1_j2 at hS
  refine zrSeq ?_
  refine zrSplit 8 p21 (by kernel_rfl) (fun hc => ?_) (fun hc => ?_)
  · replace hS := cond_t hc hS
    refine zrCondT (by kernel_rfl) ?_
    refine zrSkip ?_
    refine zkSeq ?_
    exact f36_l1_j3_ok hd a1 hQ p20 hS (by kernel_rfl)
  · replace hS := cond_f hc hS
    refine zrCondF (by kernel_rfl) ?_
    refine zrKeep (J := f36_l1_e0_J a1) (by kernel_rfl) ?_
    refine zrExit ?_
    refine zkSeqX ?_
    refine zkNil ?_
    exact endQ hS hQ (finL_x (by intro h; cases h) (by show _ = _ ∧ _ = _; exact ⟨rfl, rfl⟩))
noncomputable def f36_l1 (a1 : GKeys) (x : Int) : Option (Int ⊕ (Unit ⊕ Int)) := (bif (decide (x < 19)) then (f36_l1_j2 a1 x true) else (f36_l1_j2 a1 x false))
theorem f36_l1_ok {base : Orc} {d : Nat} (hd : 1 ≤ d) (a1 : GKeys) {r : Int ⊕ (Unit ⊕ Int)} {Q : PX → St → Prop} (hQ : ∀ e st', finL (f36_l1_H a1) (f36_l1_X a1) r e st' → Q e st') {x : Int} (hS : f36_l1 a1 x = some r) {st : St} (he : f36_l1_H a1 x st) : ZR (lev codes base (d - 1)) Q c36_4 [] st := by
  refine zrKeep he ?_
  unfold f36_l1 at hS
  refine zrSeq ?_
  refine zrReg ?_
  refine zlBool (d := 8) (op := (.cmpI .lss (.tmp 7) (.const (.int .i64 19)))) (g := none) (j := 1) (decide (x < 19)) rfl (by kernel_rfl) (by kernel_rfl) (by kernel_rfl) (fun hc => ?_) (fun hc => ?_)
  · replace hS := cond_t hc hS
    refine zlEnd (by kernel_rfl) ?_
    refine zkSeq ?_
    exact f36_l1_j2_ok hd a1 hQ x true hS (by kernel_rfl)
  · replace hS := cond_f hc hS
    refine zlEnd (by kernel_rfl) ?_
    refine zkSeq ?_
    exact f36_l1_j2_ok hd a1 hQ x false hS (by kernel_rfl)
noncomputable def f36 (a1 : GKeys) : Option (Int) := ((loopO (f36_l1 a1) 0).bind fun z4 => (Sum.elim (fun z5 => (f36_j0 a1 )) (fun z6 => (some z6)) z4))
theorem f36_ok (base : Orc) (d : Nat) (hd : 1 ≤ d) (a1 : GKeys) (r : Int) (hS : f36 a1 = some r) : lev codes base d 36 [(.agg ((eU8.row 19 a1.Levels) ++ ((eU8.row 19 a1.Chars) ++ [])))] [] = some ((.d (.int .i64 r)), []) := by
  refine lev_go codes36 rfl rfl (Nat.le_trans (Nat.le_of_ble_eq_true rfl) hd) fun Q hQ => ?_
  unfold f36 at hS
  show ZR _ Q c36_b [] _
  replace hQ : ∀ e st', f36_Q r e st' → Q e st' := hQ
  refine zrSeq ?_
  refine zrReg ?_
  refine zlRun (n := 2) (j := 2) rfl (by kernel_rfl) ?_
  refine zlEnd (by kernel_rfl) ?_
  refine zkSeq ?_
  refine zrSeq ?_
  refine zrSeq ?_
  refine zrReg ?_
  refine zlRun (n := 3) (j := 3) rfl (by kernel_rfl) ?_
  refine zlEnd (by kernel_rfl) ?_
  refine zkSeq ?_
  refine zrBlk ?_
  refine bindE hS (fun z4 hz4 hS => ?_)
  refine zrLoop (f36_l1_H a1) (f36_l1_X a1) (fun x st r Q h0 hS hQ => f36_l1_ok hd a1 hQ hS h0) (x := 0) (z := z4) (by show keepSt _ _ _ _ = _; kernel_rfl) hz4 ?_
  rcases z4 with z5 | z6
  · replace hS := (show _ = _ from hS)
    simp only [Sum.elim_inl] at hS
    intro e st' _ hX
    obtain ⟨rfl, rfl⟩ : _ ∧ _ := hX
    refine zkBlkX ?_
    refine zkSeq ?_
    exact f36_j0_ok hd a1 hQ  hS (by kernel_rfl)
  · simp only [Sum.elim_inr] at hS
    intro e st' _ hX
    obtain ⟨rfl, hX⟩ : _ ∧ _ := hX
    refine zkBlkR ?_
    refine zkSeqR ?_
    refine zkNil ?_
    exact endQ hS hQ (fRet ((congrArg (fun s => outR s 0 c36.res) hX).trans (f36_out z6)))
/- farwriter/slc.all -/
def f38_fin (p12 : List UInt8) : St := ⟨(up (fun _ => .un) 2 (.d (.str p12))), (hB fun _ => 0)⟩
theorem f38_out (p12 : List UInt8) : outR (f38_fin p12) 0 c38.res = some ((.d (.str p12)), []) := by
  kernel_rfl
def f38_Q (r : (List UInt8)) (e : PX) (st : St) : Prop := DoneF c38 0 ((.d (.str r)), []) e st
def f38_l0_J (a1 : GKeys) (x : (List UInt8) × Int) : St := ⟨(up (up (up (fun _ => .un) 4 (.d (.int .i64 x.2))) 3 (.r (.msl 32 0 0 x.1.length))) 1 (.r (.ptr 16 0 0))), (up (up (hB fun _ => 0) 32 ⟨0, some (.own 5 1 (eU8.cells x.1))⟩) 16 ⟨0, some (.box ((eU8.row 19 a1.Levels) ++ ((eU8.row 19 a1.Chars) ++ [])))⟩)⟩
def f38_l0_H (a1 : GKeys) (x : (List UInt8) × Int) (st : St) : Prop := keepSt [1, 3, 4] [(16, .id 16), (32, .id 32)] [] st = f38_l0_J a1 x
def f38_l0_e0_J (a1 : GKeys) (p11 : List UInt8) : St := ⟨(up (fun _ => .un) 3 (.r (.msl 32 0 0 p11.length))), (up (hB fun _ => 0) 32 ⟨0, some (.own 5 1 (eU8.cells p11))⟩)⟩
def f38_l0_X (a1 : GKeys) (z : ((List UInt8))) (e : PX) (st : St) : Prop := e = .exit 0 ∧ st = f38_l0_e0_J a1 z
def f38_l0_j1_J (a1 : GKeys) (p16 : List UInt8) (p17 : Int) : St := ⟨(up (up (up (fun _ => .un) 4 (.d (.int .i64 p17))) 3 (.r (.msl 32 0 0 p16.length))) 1 (.r (.ptr 16 0 0))), (up (up (hB fun _ => 0) 32 ⟨0, some (.own 5 1 (eU8.cells p16))⟩) 16 ⟨0, some (.box ((eU8.row 19 a1.Levels) ++ ((eU8.row 19 a1.Chars) ++ [])))⟩)⟩
noncomputable def f38_l0_j1 (a1 : GKeys) (p16 : List UInt8) (p17 : Int) : Option (((List UInt8) × Int) ⊕ (((List UInt8)))) := ((inR p17 19).bind fun m12 => ((inR p17 19).bind fun m13 => ((app? 1 p16 ([(u8 p17), (a1.Levels m12), (a1.Chars m13)] : List UInt8)).bind fun z14 => (some (.inl (z14, (IntKind.i64.wrap (p17 + 1))))))))
theorem f38_l0_j1_ok {base : Orc} {d : Nat} (hd : 1 ≤ d) (a1 : GKeys) {r : ((List UInt8) × Int) ⊕ (((List UInt8)))} {Q : PX → St → Prop} (hQ : ∀ e st', finL (f38_l0_H a1) (f38_l0_X a1) r e st' → Q e st') (p16 : List UInt8) (p17 : Int) (hS : f38_l0_j1 a1 p16 p17 = some r) {st : St} (he : keepSt [1, 3, 4] [(16, .id 16), (32, .id 32)] [] st = f38_l0_j1_J a1 p16 p17) : ZR (lev codes base (d - 1)) Q c38_1 [] st := by
  refine zrKeep he ?_
  unfold f38_l0_j1 at hS
  refine zrSeq ?_
  refine zrBlk ?_
  refine zrRegD ?_
  refine zdRun (n := 2) (j := 2) (ts := [[], []]) (acc' := [[], []]) rfl (by kernel_rfl) (by kernel_rfl) (by kernel_rfl) ?_
  refine zdOp (d := some 11) (op := (.cvI .u8 (.tmp 10))) (g := none) (v := (.d (.int .u8 ((u8 p17).toNat : Int)))) (ups := []) (j := 3) (t1 := []) (acc' := [[], [], []]) (by kernel_rfl) (by kernel_rfl) rfl (by kernel_rfl) (by kernel_rfl) (ev_cv (kk := .i64) (a := p17) (by kernel_rfl) (u8_wrap _)) ?_
  refine zdRun (n := 2) (j := 5) (ts := [[], []]) (acc' := [[], [], [], [], []]) rfl (by kernel_rfl) (by kernel_rfl) (by kernel_rfl) ?_
  refine bindE hS (fun m12 hm12 hS => ?_)
  refine zdOp (d := some 14) (op := (.ixA 19 1 (.tmp 13) (.tmp 12))) (g := none) (v := (.r (.ptr 16 0 (0 + m12 * 1)))) (ups := []) (j := 6) (t1 := []) (acc' := [[], [], [], [], [], []]) (by kernel_rfl) (by kernel_rfl) rfl (by kernel_rfl) (by kernel_rfl) (ev_ixA (kk := .i64) (b := 16) (g := 0) (o := 0) (j := p17) (by kernel_rfl) (by kernel_rfl) hm12) ?_
  refine zdOp (d := some 15) (op := (.load .false 1 (.tmp 14))) (g := none) (v := (.d (.int .u8 ((a1.Levels m12).toNat : Int)))) (ups := []) (j := 7) (t1 := [(16, false)]) (acc' := [[], [], [], [], [], [], [(16, false)]]) (by kernel_rfl) (by kernel_rfl) rfl (by kernel_rfl) (by kernel_rfl) (ev_loadA eU8 (b := 16) (g := 0) (o := 0 + m12 * 1) (f := a1.Levels) (nn := 19) (m := m12) (fo := 0) (pre := []) (post := ((eU8.row 19 a1.Chars) ++ [])) (by kernel_rfl) (by kernel_rfl) (by kernel_rfl) (inR_lt hm12) (by kernel_rfl) (by kernel_rfl) (by kernel_rfl)) ?_
  refine zdRun (n := 2) (j := 9) (ts := [[], []]) (acc' := [[], [], [], [], [], [], [(16, false)], [], []]) rfl (by kernel_rfl) (by kernel_rfl) (by kernel_rfl) ?_
  refine bindE hS (fun m13 hm13 hS => ?_)
  refine zdOp (d := some 18) (op := (.ixA 19 1 (.tmp 17) (.tmp 16))) (g := none) (v := (.r (.ptr 16 0 (19 + m13 * 1)))) (ups := []) (j := 10) (t1 := []) (acc' := [[], [], [], [], [], [], [(16, false)], [], [], []]) (by kernel_rfl) (by kernel_rfl) rfl (by kernel_rfl) (by kernel_rfl) (ev_ixA (kk := .i64) (b := 16) (g := 0) (o := 19) (j := p17) (by kernel_rfl) (by kernel_rfl) hm13) ?_
  refine zdOp (d := some 19) (op := (.load .false 1 (.tmp 18))) (g := none) (v := (.d (.int .u8 ((a1.Chars m13).toNat : Int)))) (ups := []) (j := 11) (t1 := [(16, false)]) (acc' := [[], [], [], [], [], [], [(16, false)], [], [], [], [(16, false)]]) (by kernel_rfl) (by kernel_rfl) rfl (by kernel_rfl) (by kernel_rfl) (ev_loadA eU8 (b := 16) (g := 0) (o := 19 + m13 * 1) (f := a1.Chars) (nn := 19) (m := m13) (fo := 0) (pre := ((eU8.row 19 a1.Levels) ++ [])) (post := []) (by kernel_rfl) (by kernel_rfl) (by kernel_rfl) (inR_lt hm13) (by kernel_rfl) (by kernel_rfl) (by kernel_rfl)) ?_
  refine zdRun (n := 1) (j := 12) (ts := [[(168, true)]]) (acc' := [[], [], [], [], [], [], [(16, false)], [], [], [], [(16, false)], [(168, true)]]) rfl (by kernel_rfl) (by kernel_rfl) (by kernel_rfl) ?_
  refine bindE hS (fun z14 hz14 hS => ?_)
  refine zdOp (d := some 21) (op := (.app 5 1 1 (.tmp 9) (.tmp 20))) (g := none) (v := (.r (.msl 32 1 0 z14.length))) (ups := [(32, ⟨1, some (.own 5 1 (eU8.cells z14))⟩)]) (j := 13) (t1 := [(176, true), (32, true), (168, false)]) (acc' := [[], [], [], [], [], [], [(16, false)], [], [], [], [(16, false)], [(168, true)], [(176, true), (32, true), (168, false)]]) (by kernel_rfl) (by kernel_rfl) rfl (by kernel_rfl) (by kernel_rfl) (ev_app eU8 (b := 32) (g := 0) (n := p16.length) (xs := p16) (ys := [(u8 p17), (a1.Levels m12), (a1.Chars m13)]) ((congrArg (asL _) (by kernel_rfl : ρof _ (.tmp 20) = (.r (.msl 168 1 0 (([(u8 p17), (a1.Levels m12), (a1.Chars m13)] : List UInt8).length))))).trans (as_whole eU8 (e := 5) (k := 1) (xs := [(u8 p17), (a1.Levels m12), (a1.Chars m13)]) (by kernel_rfl) rfl rfl)) rfl (by kernel_rfl) rfl (by kernel_rfl) rfl hz14) ?_
  refine zdRun (n := 1) (j := 14) (ts := [[]]) (acc' := [[], [], [], [], [], [], [(16, false)], [], [], [], [(16, false)], [(168, true)], [(176, true), (32, true), (168, false)], []]) rfl (by kernel_rfl) (by kernel_rfl) (by kernel_rfl) ?_
  refine zdEnd (by kernel_rfl) (by kernel_rfl) ?_
  refine zkBlk ?_
  refine zkSeq ?_
  refine zrReg ?_
  refine zlRun (n := 3) (j := 3) rfl (by kernel_rfl) ?_
  refine zlEnd (by kernel_rfl) ?_
  refine zkNil ?_
  exact endQ hS hQ (finL_n (by show keepSt _ _ _ _ = _; kernel_rfl))
noncomputable def f38_l0 (a1 : GKeys) (x : (List UInt8) × Int) : Option (((List UInt8) × Int) ⊕ (((List UInt8)))) := (bif (decide (x.2 ≤ 18)) then (f38_l0_j1 a1 x.1 x.2) else (some (.inr x.1)))
theorem f38_l0_ok {base : Orc} {d : Nat} (hd : 1 ≤ d) (a1 : GKeys) {r : ((List UInt8) × Int) ⊕ (((List UInt8)))} {Q : PX → St → Prop} (hQ : ∀ e st', finL (f38_l0_H a1) (f38_l0_X a1) r e st' → Q e st') {x : (List UInt8) × Int} (hS : f38_l0 a1 x = some r) {st : St} (he : f38_l0_H a1 x st) : ZR (lev codes base (d - 1)) Q c38_2 [] st := by
  refine zrKeep he ?_
  unfold f38_l0 at hS
  refine zrSeq ?_
  refine zrSeq ?_
  refine zrReg ?_
  refine zlRun (n := 1) (j := 1) rfl (by kernel_rfl) ?_
  refine zlBool (d := 6) (op := (.cmpI .leq (.tmp 5) (.const (.int .i64 18)))) (g := none) (j := 2) (decide (x.2 ≤ 18)) rfl (by kernel_rfl) (by kernel_rfl) (by kernel_rfl) (fun hc => ?_) (fun hc => ?_)
  · replace hS := cond_t hc hS
    refine zlEnd (by kernel_rfl) ?_
    refine zkSeq ?_
    refine zrCondT (by kernel_rfl) ?_
    refine zrSkip ?_
    refine zkSeq ?_
    exact f38_l0_j1_ok hd a1 hQ x.1 x.2 hS (by kernel_rfl)
  · replace hS := cond_f hc hS
    refine zlEnd (by kernel_rfl) ?_
    refine zkSeq ?_
    refine zrCondF (by kernel_rfl) ?_
    refine zrKeep (J := f38_l0_e0_J a1 x.1) (by kernel_rfl) ?_
    refine zrExit ?_
    refine zkSeqX ?_
    refine zkNil ?_
    exact endQ hS hQ (finL_x (by intro h; cases h) (by show _ = _ ∧ _ = _; exact ⟨rfl, rfl⟩))
noncomputable def f38 (a1 : GKeys) : Option ((List UInt8)) := ((loopO (f38_l0 a1) ([], 1)).bind fun z15 => (some z15))
theorem f38_ok (base : Orc) (d : Nat) (hd : 1 ≤ d) (a1 : GKeys) (r : (List UInt8)) (hS : f38 a1 = some r) : lev codes base d 38 [(.agg ((eU8.row 19 a1.Levels) ++ ((eU8.row 19 a1.Chars) ++ [])))] [] = some ((.d (.str r)), []) := by
  refine lev_go codes38 rfl rfl (Nat.le_trans (Nat.le_of_ble_eq_true rfl) hd) fun Q hQ => ?_
  unfold f38 at hS
  show ZR _ Q c38_b [] _
  replace hQ : ∀ e st', f38_Q r e st' → Q e st' := hQ
  refine zrSeq ?_
  refine zrReg ?_
  refine zlRun (n := 2) (j := 2) rfl (by kernel_rfl) ?_
  refine zlEnd (by kernel_rfl) ?_
  refine zkSeq ?_
  refine zrSeq ?_
  refine zrReg ?_
  refine zlRun (n := 1) (j := 1) rfl (by kernel_rfl) ?_
  refine zlEnd (by kernel_rfl) ?_
  refine zkSeq ?_
  refine zrSeq ?_
  refine zrSeq ?_
  refine zrReg ?_
  refine zlRun (n := 1) (j := 1) rfl (by kernel_rfl) ?_
  refine zlEnd (by kernel_rfl) ?_
  refine zkSeq ?_
  refine zrBlk ?_
  refine bindE hS (fun z15 hz15 hS => ?_)
  refine zrLoop (f38_l0_H a1) (f38_l0_X a1) (fun x st r Q h0 hS hQ => f38_l0_ok hd a1 hQ hS h0) (x := ([], 1)) (z := z15) (by show keepSt _ _ _ _ = _; kernel_rfl) hz15 ?_
  intro e st' _ hX
  obtain ⟨rfl, rfl⟩ : _ ∧ _ := hX
  refine zkBlkX ?_
  refine zkSeq ?_
  refine zrSeq ?_
  refine zrReg ?_
  refine zlRun (n := 1) (j := 1) rfl (by kernel_rfl) ?_
  refine zlOp (d := some 23) (op := (.cvBS (.tmp 22))) (g := none) (v := (.d (.str z15))) (ups := []) (j := 2) rfl (by kernel_rfl) (by kernel_rfl) (ev_cvBS (s := z15) ((congrArg (asL _) (by kernel_rfl : ρof _ (.tmp 22) = (.r (.msl 32 0 0 z15.length)))).trans (as_whole eU8 (e := 5) (k := 1) (xs := z15) (by kernel_rfl) rfl rfl)) rfl) ?_
  refine zlRun (n := 1) (j := 3) rfl (by kernel_rfl) ?_
  refine zlEnd (by kernel_rfl) ?_
  refine zkSeq ?_
  refine zrRet ?_
  refine zkNil ?_
  exact endQ hS hQ (fRet ((congrArg (fun s => outR s 0 c38.res) (by kernel_rfl : finSt c38.fin _ = f38_fin z15)).trans (f38_out z15)))
/- farwriter/slc.triple -/
def f37_fin (p16 : GKeys) (p17 : List UInt8) : St := ⟨(up (fun _ => .un) 8 (.r (.msl 1241 0 0 p17.length))), (up (up (hB fun _ => 0) 1241 ⟨0, some (.own 5 1 (eU8.cells p17))⟩) 0 ⟨0, some (.box ((eU8.row 19 p16.Levels) ++ ((eU8.row 19 p16.Chars) ++ [])))⟩)⟩
theorem f37_out (p16 : GKeys) (p17 : List UInt8) : outR (f37_fin p16 p17) 1 c37.res = some ((.r (.own 0 5 1 p17.length (eU8.cells p17))), [(.box ((eU8.row 19 p16.Levels) ++ ((eU8.row 19 p16.Chars) ++ [])))]) := by
  exact out_of (ids := []) (ids' := [1241]) (l := [(.r (.msl 1241 0 0 p17.length))]) (by kernel_rfl) (by kernel_rfl) (o_own eU8 (e := 5) (k := 1) (xs := p17) (by kernel_rfl) rfl rfl rfl rfl)
def f37_Q (r : GKeys × (List UInt8)) (e : PX) (st : St) : Prop := DoneF c37 1 ((.r (.own 0 5 1 r.2.length (eU8.cells r.2))), [(.box ((eU8.row 19 r.1.Levels) ++ ((eU8.row 19 r.1.Chars) ++ [])))]) e st
def f37_j1_J (a1 : UInt8) (a2 : UInt8) (a3 : UInt8) (a4 : GKeys) : St := ⟨(up (up (up (up (fun _ => .un) 9 (.d (.int .u8 ((a2 % (4 : UInt8)).toNat : Int)))) 3 (.d (.int .u8 (a3.toNat : Int)))) 1 (.d (.int .u8 (a1.toNat : Int)))) 0 (.r (.ptr 0 0 0))), (up (hB fun _ => 0) 0 ⟨0, some (.box ((eU8.row 19 a4.Levels) ++ ((eU8.row 19 a4.Chars) ++ [])))⟩)⟩
noncomputable def f37_j1 (a1 : UInt8) (a2 : UInt8) (a3 : UInt8) (a4 : GKeys) : Option (GKeys × (List UInt8)) := ((inR (a1.toNat : Int) 19).bind fun m29 => ((inR (a1.toNat : Int) 19).bind fun m30 => (some ((GKeys.mk (upd a4.Levels m29 (a2 % (4 : UInt8))) (upd a4.Chars m30 a3)), [a1, ((128 : UInt8) + (a2 % (4 : UInt8))), a3]))))
theorem f37_j1_ok {base : Orc} {d : Nat} (hd : 1 ≤ d) (a1 : UInt8) (a2 : UInt8) (a3 : UInt8) (a4 : GKeys) {r : GKeys × (List UInt8)} {Q : PX → St → Prop} (hQ : ∀ e st', f37_Q r e st' → Q e st')  (hS : f37_j1 a1 a2 a3 a4 = some r) {st : St} (he : keepSt [0, 1, 3, 9] [(0, .id 0)] [] st = f37_j1_J a1 a2 a3 a4) : ZR (lev codes base (d - 1)) Q c37_1 [] st := by
  refine zrKeep he ?_
  unfold f37_j1 at hS
  refine zrSeq ?_
  refine zrRegD ?_
  refine zdRun (n := 8) (j := 8) (ts := [[], [], [], [], [], [], [], []]) (acc' := [[], [], [], [], [], [], [], []]) rfl (by kernel_rfl) (by kernel_rfl) (by kernel_rfl) ?_
  refine bindE hS (fun m29 hm29 hS => ?_)
  refine zdOp (d := some 142) (op := (.ixA 19 1 (.tmp 141) (.tmp 135))) (g := none) (v := (.r (.ptr 0 0 (0 + m29 * 1)))) (ups := []) (j := 9) (t1 := []) (acc' := [[], [], [], [], [], [], [], [], []]) (by kernel_rfl) (by kernel_rfl) rfl (by kernel_rfl) (by kernel_rfl) (ev_ixA (kk := .u8) (b := 0) (g := 0) (o := 0) (j := (a1.toNat : Int)) (by kernel_rfl) (by kernel_rfl) hm29) ?_
  refine zdOp (d := none) (op := (.store 1 (.tmp 142) (.tmp 138))) (g := none) (v := .un) (ups := [(0, ⟨0, some (.box ((eU8.row 19 (upd a4.Levels m29 (a2 % (4 : UInt8)))) ++ ((eU8.row 19 a4.Chars) ++ [])))⟩)]) (j := 10) (t1 := [(0, true)]) (acc' := [[], [], [], [], [], [], [], [], [], [(0, true)]]) (by kernel_rfl) (by kernel_rfl) rfl (by kernel_rfl) (by kernel_rfl) (ev_storeA eU8 (b := 0) (g := 0) (o := 0 + m29 * 1) (f := a4.Levels) (nn := 19) (m := m29) (fo := 0) (pre := []) (post := ((eU8.row 19 a4.Chars) ++ [])) (by kernel_rfl) (by kernel_rfl) (by kernel_rfl) (inR_lt hm29) (new := ((.d (.int .u8 ((a2 % (4 : UInt8)).toNat : Int))) :: [])) (ds := [.int .u8 ((a2 % (4 : UInt8)).toNat : Int)]) (z' := (a2 % (4 : UInt8))) (by kernel_rfl) (by kernel_rfl) (by kernel_rfl) (by kernel_rfl) (by kernel_rfl)) ?_
  refine zdRun (n := 2) (j := 12) (ts := [[], []]) (acc' := [[], [], [], [], [], [], [], [], [], [(0, true)], [], []]) rfl (by kernel_rfl) (by kernel_rfl) (by kernel_rfl) ?_
  refine bindE hS (fun m30 hm30 hS => ?_)
  refine zdOp (d := some 145) (op := (.ixA 19 1 (.tmp 144) (.tmp 137))) (g := none) (v := (.r (.ptr 0 0 (19 + m30 * 1)))) (ups := []) (j := 13) (t1 := []) (acc' := [[], [], [], [], [], [], [], [], [], [(0, true)], [], [], []]) (by kernel_rfl) (by kernel_rfl) rfl (by kernel_rfl) (by kernel_rfl) (ev_ixA (kk := .u8) (b := 0) (g := 0) (o := 19) (j := (a1.toNat : Int)) (by kernel_rfl) (by kernel_rfl) hm30) ?_
  refine zdOp (d := none) (op := (.store 1 (.tmp 145) (.tmp 139))) (g := none) (v := .un) (ups := [(0, ⟨0, some (.box ((eU8.row 19 (upd a4.Levels m29 (a2 % (4 : UInt8)))) ++ ((eU8.row 19 (upd a4.Chars m30 a3)) ++ [])))⟩)]) (j := 14) (t1 := [(0, true)]) (acc' := [[], [], [], [], [], [], [], [], [], [(0, true)], [], [], [], [(0, true)]]) (by kernel_rfl) (by kernel_rfl) rfl (by kernel_rfl) (by kernel_rfl) (ev_storeA eU8 (b := 0) (g := 0) (o := 19 + m30 * 1) (f := a4.Chars) (nn := 19) (m := m30) (fo := 0) (pre := ((eU8.row 19 (upd a4.Levels m29 (a2 % (4 : UInt8)))) ++ [])) (post := []) (by kernel_rfl) (by kernel_rfl) (by kernel_rfl) (inR_lt hm30) (new := ((.d (.int .u8 (a3.toNat : Int))) :: [])) (ds := [.int .u8 (a3.toNat : Int)]) (z' := a3) (by kernel_rfl) (by kernel_rfl) (by kernel_rfl) (by kernel_rfl) (by kernel_rfl)) ?_
  refine zdEnd (by kernel_rfl) (by kernel_rfl) ?_
  refine zkSeq ?_
  refine zrSeq ?_
  refine zrReg ?_
  refine zlRun (n := 2) (j := 2) rfl (by kernel_rfl) ?_
  refine zlOp (d := some 148) (op := (.arI .add (.const (.int .u8 128)) (.tmp 147))) (g := none) (v := (.d (.int .u8 (((128 : UInt8) + (a2 % (4 : UInt8))).toNat : Int)))) (ups := []) (j := 3) rfl (by kernel_rfl) (by kernel_rfl) (ev_arI (kk := .u8) (a := ((128 : UInt8).toNat : Int)) (c := ((a2 % (4 : UInt8)).toNat : Int)) (by kernel_rfl) (by kernel_rfl) (ar_add8 (128 : UInt8) (a2 % (4 : UInt8)))) ?_
  refine zlRun (n := 3) (j := 6) rfl (by kernel_rfl) ?_
  refine zlEnd (by kernel_rfl) ?_
  refine zkSeq ?_
  refine zrRet ?_
  refine zkNil ?_
  exact endQ hS hQ (fRet ((congrArg (fun s => outR s 1 c37.res) (by kernel_rfl : finSt c37.fin _ = f37_fin (GKeys.mk (upd a4.Levels m29 (a2 % (4 : UInt8))) (upd a4.Chars m30 a3)) [a1, ((128 : UInt8) + (a2 % (4 : UInt8))), a3])).trans (f37_out (GKeys.mk (upd a4.Levels m29 (a2 % (4 : UInt8))) (upd a4.Chars m30 a3)) [a1, ((128 : UInt8) + (a2 % (4 : UInt8))), a3])))
def f37_j2_J (a1 : UInt8) (a2 : UInt8) (a3 : UInt8) (a4 : GKeys) (p35 : Bool) : St := ⟨(up (up (fun _ => .un) 10 (.d (.bool p35))) 1 (.d (.int .u8 (a1.toNat : Int)))), (up (hB fun _ => 0) 0 ⟨0, some (.box ((eU8.row 19 a4.Levels) ++ ((eU8.row 19 a4.Chars) ++ [])))⟩)⟩
noncomputable def f37_j2 (a1 : UInt8) (a2 : UInt8) (a3 : UInt8) (a4 : GKeys) (p35 : Bool) : Option (GKeys × (List UInt8)) := (bif p35 then (some (a4, [])) else (some (a4, [a1, 0, 0])))
theorem f37_j2_ok {base : Orc} {d : Nat} (hd : 1 ≤ d) (a1 : UInt8) (a2 : UInt8) (a3 : UInt8) (a4 : GKeys) {r : GKeys × (List UInt8)} {Q : PX → St → Prop} (hQ : ∀ e st', f37_Q r e st' → Q e st') (p35 : Bool) (hS : f37_j2 a1 a2 a3 a4 p35 = some r) {st : St} (he : keepSt [1, 10] [(0, .id 0)] [] st = f37_j2_J a1 a2 a3 a4 p35) : ZR (lev codes base (d - 1)) Q c37_2 [.blk 0, .seq c37_1] st := by
  refine zrKeep he ?_
  unfold f37_j2 at hS
  refine zrSeq ?_
  refine zrSeq ?_
  refine zrReg ?_
  refine zlRun (n := 1) (j := 1) rfl (by kernel_rfl) ?_
  refine zlEnd (by kernel_rfl) ?_
  refine zkSeq ?_
  refine zrSplit 22 p35 (by kernel_rfl) (fun hc => ?_) (fun hc => ?_)
  · replace hS := cond_t hc hS
    refine zrCondT (by kernel_rfl) ?_
    refine zrSeq ?_
    refine zrReg ?_
    refine zlRun (n := 1) (j := 1) rfl (by kernel_rfl) ?_
    refine zlEnd (by kernel_rfl) ?_
    refine zkSeq ?_
    refine zrRet ?_
    refine zkSeqR ?_
    refine zkBlkR ?_
    refine zkSeqR ?_
    refine zkNil ?_
    exact endQ hS hQ (fRet ((congrArg (fun s => outR s 1 c37.res) (by kernel_rfl : finSt c37.fin _ = f37_fin a4 [])).trans (f37_out a4 [])))
  · replace hS := cond_f hc hS
    refine zrCondF (by kernel_rfl) ?_
    refine zrSkip ?_
    refine zkSeq ?_
    refine zrSeq ?_
    refine zrReg ?_
    refine zlRun (n := 3) (j := 3) rfl (by kernel_rfl) ?_
    refine zlEnd (by kernel_rfl) ?_
    refine zkSeq ?_
    refine zrRet ?_
    refine zkBlkR ?_
    refine zkSeqR ?_
    refine zkNil ?_
    exact endQ hS hQ (fRet ((congrArg (fun s => outR s 1 c37.res) (by kernel_rfl : finSt c37.fin _ = f37_fin a4 [a1, 0, 0])).trans (f37_out a4 [a1, 0, 0])))
def f37_j4_J (a1 : UInt8) (a2 : UInt8) (a3 : UInt8) (a4 : GKeys) : St := ⟨(up (up (up (up (fun _ => .un) 9 (.d (.int .u8 ((a2 % (4 : UInt8)).toNat : Int)))) 3 (.d (.int .u8 (a3.toNat : Int)))) 1 (.d (.int .u8 (a1.toNat : Int)))) 0 (.r (.ptr 0 0 0))), (up (hB fun _ => 0) 0 ⟨0, some (.box ((eU8.row 19 a4.Levels) ++ ((eU8.row 19 a4.Chars) ++ [])))⟩)⟩
noncomputable def f37_j4 (a1 : UInt8) (a2 : UInt8) (a3 : UInt8) (a4 : GKeys) : Option (GKeys × (List UInt8)) := ((inR (a1.toNat : Int) 19).bind fun m41 => (bif (decide (((a4.Levels m41).toNat : Int) = 1)) then ((inR (a1.toNat : Int) 19).bind fun m42 => (some (a4, [a1, 1, (a4.Chars m42)]))) else (f37_j1 a1 a2 a3 a4 )))
theorem f37_j4_ok {base : Orc} {d : Nat} (hd : 1 ≤ d) (a1 : UInt8) (a2 : UInt8) (a3 : UInt8) (a4 : GKeys) {r : GKeys × (List UInt8)} {Q : PX → St → Prop} (hQ : ∀ e st', f37_Q r e st' → Q e st')  (hS : f37_j4 a1 a2 a3 a4 = some r) {st : St} (he : keepSt [0, 1, 3, 9] [(0, .id 0)] [] st = f37_j4_J a1 a2 a3 a4) : ZR (lev codes base (d - 1)) Q c37_3 [.blk 0, .seq c37_1] st := by
  refine zrKeep he ?_
  unfold f37_j4 at hS
  refine zrSeq ?_
  refine zrReg ?_
  refine zlRun (n := 4) (j := 4) rfl (by kernel_rfl) ?_
  refine bindE hS (fun m41 hm41 hS => ?_)
  refine zlOp (d := some 123) (op := (.ixA 19 1 (.tmp 122) (.tmp 120))) (g := none) (v := (.r (.ptr 0 0 (0 + m41 * 1)))) (ups := []) (j := 5) rfl (by kernel_rfl) (by kernel_rfl) (ev_ixA (kk := .u8) (b := 0) (g := 0) (o := 0) (j := (a1.toNat : Int)) (by kernel_rfl) (by kernel_rfl) hm41) ?_
  refine zlOp (d := some 124) (op := (.load .false 1 (.tmp 123))) (g := none) (v := (.d (.int .u8 ((a4.Levels m41).toNat : Int)))) (ups := []) (j := 6) rfl (by kernel_rfl) (by kernel_rfl) (ev_loadA eU8 (b := 0) (g := 0) (o := 0 + m41 * 1) (f := a4.Levels) (nn := 19) (m := m41) (fo := 0) (pre := []) (post := ((eU8.row 19 a4.Chars) ++ [])) (by kernel_rfl) (by kernel_rfl) (by kernel_rfl) (inR_lt hm41) (by kernel_rfl) (by kernel_rfl) (by kernel_rfl)) ?_
  refine zlBool (d := 125) (op := (.cmpI .eql (.tmp 124) (.const (.int .u8 1)))) (g := none) (j := 7) (decide (((a4.Levels m41).toNat : Int) = 1)) rfl (by kernel_rfl) (by kernel_rfl) (by kernel_rfl) (fun hc => ?_) (fun hc => ?_)
  · replace hS := cond_t hc hS
    refine zlRun (n := 1) (j := 8) rfl (by kernel_rfl) ?_
    refine zlEnd (by kernel_rfl) ?_
    refine zkSeq ?_
    refine zrCondT (by kernel_rfl) ?_
    refine zrSeq ?_
    refine zrReg ?_
    refine zlRun (n := 5) (j := 5) rfl (by kernel_rfl) ?_
    refine bindE hS (fun m42 hm42 hS => ?_)
    refine zlOp (d := some 131) (op := (.ixA 19 1 (.tmp 130) (.tmp 128))) (g := none) (v := (.r (.ptr 0 0 (19 + m42 * 1)))) (ups := []) (j := 6) rfl (by kernel_rfl) (by kernel_rfl) (ev_ixA (kk := .u8) (b := 0) (g := 0) (o := 19) (j := (a1.toNat : Int)) (by kernel_rfl) (by kernel_rfl) hm42) ?_
    refine zlOp (d := some 132) (op := (.load .false 1 (.tmp 131))) (g := none) (v := (.d (.int .u8 ((a4.Chars m42).toNat : Int)))) (ups := []) (j := 7) rfl (by kernel_rfl) (by kernel_rfl) (ev_loadA eU8 (b := 0) (g := 0) (o := 19 + m42 * 1) (f := a4.Chars) (nn := 19) (m := m42) (fo := 0) (pre := ((eU8.row 19 a4.Levels) ++ [])) (post := []) (by kernel_rfl) (by kernel_rfl) (by kernel_rfl) (inR_lt hm42) (by kernel_rfl) (by kernel_rfl) (by kernel_rfl)) ?_
    refine zlRun (n := 2) (j := 9) rfl (by kernel_rfl) ?_
    refine zlEnd (by kernel_rfl) ?_
    refine zkSeq ?_
    refine zrRet ?_
    refine zkBlkR ?_
    refine zkSeqR ?_
    refine zkNil ?_
    exact endQ hS hQ (fRet ((congrArg (fun s => outR s 1 c37.res) (by kernel_rfl : finSt c37.fin _ = f37_fin a4 [a1, 1, (a4.Chars m42)])).trans (f37_out a4 [a1, 1, (a4.Chars m42)])))
  · replace hS := cond_f hc hS
    refine zlRun (n := 1) (j := 8) rfl (by kernel_rfl) ?_
    refine zlEnd (by kernel_rfl) ?_
    refine zkSeq ?_
    refine zrCondF (by kernel_rfl) ?_
    refine zrSkip ?_
    refine zkBlk ?_
    refine zkSeq ?_
    exact f37_j1_ok hd a1 a2 a3 a4 hQ  hS (by kernel_rfl)
def f37_j3_J (a1 : UInt8) (a2 : UInt8) (a3 : UInt8) (a4 : GKeys) (p37 : Bool) : St := ⟨(up (up (up (up (up (fun _ => .un) 10 (.d (.bool p37))) 9 (.d (.int .u8 ((a2 % (4 : UInt8)).toNat : Int)))) 3 (.d (.int .u8 (a3.toNat : Int)))) 1 (.d (.int .u8 (a1.toNat : Int)))) 0 (.r (.ptr 0 0 0))), (up (hB fun _ => 0) 0 ⟨0, some (.box ((eU8.row 19 a4.Levels) ++ ((eU8.row 19 a4.Chars) ++ [])))⟩)⟩
noncomputable def f37_j3 (a1 : UInt8) (a2 : UInt8) (a3 : UInt8) (a4 : GKeys) (p37 : Bool) : Option (GKeys × (List UInt8)) := (bif p37 then (bif (!decide (((a2 % (4 : UInt8)).toNat : Int) = 3)) then ((inR (a1.toNat : Int) 19).bind fun m33 => ((inR (a1.toNat : Int) 19).bind fun m34 => (some ((GKeys.mk (upd a4.Levels m33 (a2 % (4 : UInt8))) (upd a4.Chars m34 a3)), [])))) else (some (a4, []))) else (bif (decide (((a2 % (4 : UInt8)).toNat : Int) = 0)) then ((inR (a1.toNat : Int) 19).bind fun m35 => ((inR (a1.toNat : Int) 19).bind fun m36 => (some ((GKeys.mk (upd a4.Levels m35 0) (upd a4.Chars m36 a3)), [a1, 128, a3])))) else (bif (decide (((a2 % (4 : UInt8)).toNat : Int) = 3)) then ((inR (a1.toNat : Int) 19).bind fun m37 => ((inR (a1.toNat : Int) 19).bind fun m38 => (some (a4, [a1, (a4.Levels m37), (a4.Chars m38)])))) else ((inR (a1.toNat : Int) 19).bind fun m43 => (bif (decide (((a4.Levels m43).toNat : Int) = 1)) then (bif (decide (((a2 % (4 : UInt8)).toNat : Int) = 1)) then ((inR (a1.toNat : Int) 19).bind fun m44 => ((inR (a1.toNat : Int) 19).bind fun m45 => (some ((GKeys.mk (upd a4.Levels m44 0) (upd a4.Chars m45 0)), [a1, 0, 0])))) else (f37_j4 a1 a2 a3 a4 )) else (f37_j4 a1 a2 a3 a4 ))))))
theorem f37_j3_ok {base : Orc} {d : Nat} (hd : 1 ≤ d) (a1 : UInt8) (a2 : UInt8) (a3 : UInt8) (a4 : GKeys) {r : GKeys × (List UInt8)} {Q : PX → St → Prop} (hQ : ∀ e st', f37_Q r e st' → Q e st') (p37 : Bool) (hS : f37_j3 a1 a2 a3 a4 p37 = some r) {st : St} (he : keepSt [0, 1, 3, 9, 10] [(0, .id 0)] [] st = f37_j3_J a1 a2 a3 a4 p37) : ZR (lev codes base (d - 1)) Q c37_4 [.blk 0, .seq c37_1] st := by
  refine zrKeep he ?_
  unfold f37_j3 at hS
  refine zrSeq ?_
  refine zrReg ?_
  refine zlRun (n := 2) (j := 2) rfl (by kernel_rfl) ?_
  refine zlEnd (by kernel_rfl) ?_
  refine zkSeq ?_
  refine zrSplit 44 p37 (by kernel_rfl) (fun hc => ?_) (fun hc => ?_)
  · replace hS := cond_t hc hS
    refine zrCondT (by kernel_rfl) ?_
    refine zrSeq ?_
    refine zrSeq ?_
    refine zrReg ?_
    refine zlRun (n := 1) (j := 1) rfl (by kernel_rfl) ?_
    refine zlBool (d := 47) (op := (.cmpI .neq (.tmp 46) (.const (.int .u8 3)))) (g := none) (j := 2) (!decide (((a2 % (4 : UInt8)).toNat : Int) = 3)) rfl (by kernel_rfl) (by kernel_rfl) (by kernel_rfl) (fun hc => ?_) (fun hc => ?_)
    · replace hS := cond_t hc hS
      refine zlEnd (by kernel_rfl) ?_
      refine zkSeq ?_
      refine zrCondT (by kernel_rfl) ?_
      refine zrRegD ?_
      refine zdRun (n := 8) (j := 8) (ts := [[], [], [], [], [], [], [], []]) (acc' := [[], [], [], [], [], [], [], []]) rfl (by kernel_rfl) (by kernel_rfl) (by kernel_rfl) ?_
      refine bindE hS (fun m33 hm33 hS => ?_)
      refine zdOp (d := some 56) (op := (.ixA 19 1 (.tmp 55) (.tmp 49))) (g := none) (v := (.r (.ptr 0 0 (0 + m33 * 1)))) (ups := []) (j := 9) (t1 := []) (acc' := [[], [], [], [], [], [], [], [], []]) (by kernel_rfl) (by kernel_rfl) rfl (by kernel_rfl) (by kernel_rfl) (ev_ixA (kk := .u8) (b := 0) (g := 0) (o := 0) (j := (a1.toNat : Int)) (by kernel_rfl) (by kernel_rfl) hm33) ?_
      refine zdOp (d := none) (op := (.store 1 (.tmp 56) (.tmp 52))) (g := none) (v := .un) (ups := [(0, ⟨0, some (.box ((eU8.row 19 (upd a4.Levels m33 (a2 % (4 : UInt8)))) ++ ((eU8.row 19 a4.Chars) ++ [])))⟩)]) (j := 10) (t1 := [(0, true)]) (acc' := [[], [], [], [], [], [], [], [], [], [(0, true)]]) (by kernel_rfl) (by kernel_rfl) rfl (by kernel_rfl) (by kernel_rfl) (ev_storeA eU8 (b := 0) (g := 0) (o := 0 + m33 * 1) (f := a4.Levels) (nn := 19) (m := m33) (fo := 0) (pre := []) (post := ((eU8.row 19 a4.Chars) ++ [])) (by kernel_rfl) (by kernel_rfl) (by kernel_rfl) (inR_lt hm33) (new := ((.d (.int .u8 ((a2 % (4 : UInt8)).toNat : Int))) :: [])) (ds := [.int .u8 ((a2 % (4 : UInt8)).toNat : Int)]) (z' := (a2 % (4 : UInt8))) (by kernel_rfl) (by kernel_rfl) (by kernel_rfl) (by kernel_rfl) (by kernel_rfl)) ?_
      refine zdRun (n := 2) (j := 12) (ts := [[], []]) (acc' := [[], [], [], [], [], [], [], [], [], [(0, true)], [], []]) rfl (by kernel_rfl) (by kernel_rfl) (by kernel_rfl) ?_
      refine bindE hS (fun m34 hm34 hS => ?_)
      refine zdOp (d := some 59) (op := (.ixA 19 1 (.tmp 58) (.tmp 51))) (g := none) (v := (.r (.ptr 0 0 (19 + m34 * 1)))) (ups := []) (j := 13) (t1 := []) (acc' := [[], [], [], [], [], [], [], [], [], [(0, true)], [], [], []]) (by kernel_rfl) (by kernel_rfl) rfl (by kernel_rfl) (by kernel_rfl) (ev_ixA (kk := .u8) (b := 0) (g := 0) (o := 19) (j := (a1.toNat : Int)) (by kernel_rfl) (by kernel_rfl) hm34) ?_
      refine zdOp (d := none) (op := (.store 1 (.tmp 59) (.tmp 53))) (g := none) (v := .un) (ups := [(0, ⟨0, some (.box ((eU8.row 19 (upd a4.Levels m33 (a2 % (4 : UInt8)))) ++ ((eU8.row 19 (upd a4.Chars m34 a3)) ++ [])))⟩)]) (j := 14) (t1 := [(0, true)]) (acc' := [[], [], [], [], [], [], [], [], [], [(0, true)], [], [], [], [(0, true)]]) (by kernel_rfl) (by kernel_rfl) rfl (by kernel_rfl) (by kernel_rfl) (ev_storeA eU8 (b := 0) (g := 0) (o := 19 + m34 * 1) (f := a4.Chars) (nn := 19) (m := m34) (fo := 0) (pre := ((eU8.row 19 (upd a4.Levels m33 (a2 % (4 : UInt8)))) ++ [])) (post := []) (by kernel_rfl) (by kernel_rfl) (by kernel_rfl) (inR_lt hm34) (new := ((.d (.int .u8 (a3.toNat : Int))) :: [])) (ds := [.int .u8 (a3.toNat : Int)]) (z' := a3) (by kernel_rfl) (by kernel_rfl) (by kernel_rfl) (by kernel_rfl) (by kernel_rfl)) ?_
      refine zdEnd (by kernel_rfl) (by kernel_rfl) ?_
      refine zkSeq ?_
      refine zrSeq ?_
      refine zrReg ?_
      refine zlRun (n := 1) (j := 1) rfl (by kernel_rfl) ?_
      refine zlEnd (by kernel_rfl) ?_
      refine zkSeq ?_
      refine zrRet ?_
      refine zkBlkR ?_
      refine zkSeqR ?_
      refine zkNil ?_
      exact endQ hS hQ (fRet ((congrArg (fun s => outR s 1 c37.res) (by kernel_rfl : finSt c37.fin _ = f37_fin (GKeys.mk (upd a4.Levels m33 (a2 % (4 : UInt8))) (upd a4.Chars m34 a3)) [])).trans (f37_out (GKeys.mk (upd a4.Levels m33 (a2 % (4 : UInt8))) (upd a4.Chars m34 a3)) [])))
    · replace hS := cond_f hc hS
      refine zlEnd (by kernel_rfl) ?_
      refine zkSeq ?_
      refine zrCondF (by kernel_rfl) ?_
      refine zrSkip ?_
      refine zkSeq ?_
      refine zrSeq ?_
      refine zrReg ?_
      refine zlRun (n := 1) (j := 1) rfl (by kernel_rfl) ?_
      refine zlEnd (by kernel_rfl) ?_
      refine zkSeq ?_
      refine zrRet ?_
      refine zkBlkR ?_
      refine zkSeqR ?_
      refine zkNil ?_
      exact endQ hS hQ (fRet ((congrArg (fun s => outR s 1 c37.res) (by kernel_rfl : finSt c37.fin _ = f37_fin a4 [])).trans (f37_out a4 [])))
  · replace hS := cond_f hc hS
    refine zrCondF (by kernel_rfl) ?_
    refine zrSeq ?_
    refine zrReg ?_
    refine zlRun (n := 1) (j := 1) rfl (by kernel_rfl) ?_
    refine zlBool (d := 62) (op := (.cmpI .eql (.tmp 61) (.const (.int .u8 0)))) (g := none) (j := 2) (decide (((a2 % (4 : UInt8)).toNat : Int) = 0)) rfl (by kernel_rfl) (by kernel_rfl) (by kernel_rfl) (fun hc => ?_) (fun hc => ?_)
    · replace hS := cond_t hc hS
      refine zlRun (n := 1) (j := 3) rfl (by kernel_rfl) ?_
      refine zlEnd (by kernel_rfl) ?_
      refine zkSeq ?_
      refine zrCondT (by kernel_rfl) ?_
      refine zrSeq ?_
      refine zrRegD ?_
      refine zdRun (n := 7) (j := 7) (ts := [[], [], [], [], [], [], []]) (acc' := [[], [], [], [], [], [], []]) rfl (by kernel_rfl) (by kernel_rfl) (by kernel_rfl) ?_
      refine bindE hS (fun m35 hm35 hS => ?_)
      refine zdOp (d := some 70) (op := (.ixA 19 1 (.tmp 69) (.tmp 64))) (g := none) (v := (.r (.ptr 0 0 (0 + m35 * 1)))) (ups := []) (j := 8) (t1 := []) (acc' := [[], [], [], [], [], [], [], []]) (by kernel_rfl) (by kernel_rfl) rfl (by kernel_rfl) (by kernel_rfl) (ev_ixA (kk := .u8) (b := 0) (g := 0) (o := 0) (j := (a1.toNat : Int)) (by kernel_rfl) (by kernel_rfl) hm35) ?_
      refine zdOp (d := none) (op := (.store 1 (.tmp 70) (.const (.int .u8 0)))) (g := none) (v := .un) (ups := [(0, ⟨0, some (.box ((eU8.row 19 (upd a4.Levels m35 0)) ++ ((eU8.row 19 a4.Chars) ++ [])))⟩)]) (j := 9) (t1 := [(0, true)]) (acc' := [[], [], [], [], [], [], [], [], [(0, true)]]) (by kernel_rfl) (by kernel_rfl) rfl (by kernel_rfl) (by kernel_rfl) (ev_storeA eU8 (b := 0) (g := 0) (o := 0 + m35 * 1) (f := a4.Levels) (nn := 19) (m := m35) (fo := 0) (pre := []) (post := ((eU8.row 19 a4.Chars) ++ [])) (by kernel_rfl) (by kernel_rfl) (by kernel_rfl) (inR_lt hm35) (new := ((.d (.int .u8 0)) :: [])) (ds := [.int .u8 0]) (z' := 0) (by kernel_rfl) (by kernel_rfl) (by kernel_rfl) (by kernel_rfl) (by kernel_rfl)) ?_
      refine zdRun (n := 2) (j := 11) (ts := [[], []]) (acc' := [[], [], [], [], [], [], [], [], [(0, true)], [], []]) rfl (by kernel_rfl) (by kernel_rfl) (by kernel_rfl) ?_
      refine bindE hS (fun m36 hm36 hS => ?_)
      refine zdOp (d := some 73) (op := (.ixA 19 1 (.tmp 72) (.tmp 66))) (g := none) (v := (.r (.ptr 0 0 (19 + m36 * 1)))) (ups := []) (j := 12) (t1 := []) (acc' := [[], [], [], [], [], [], [], [], [(0, true)], [], [], []]) (by kernel_rfl) (by kernel_rfl) rfl (by kernel_rfl) (by kernel_rfl) (ev_ixA (kk := .u8) (b := 0) (g := 0) (o := 19) (j := (a1.toNat : Int)) (by kernel_rfl) (by kernel_rfl) hm36) ?_
      refine zdOp (d := none) (op := (.store 1 (.tmp 73) (.tmp 67))) (g := none) (v := .un) (ups := [(0, ⟨0, some (.box ((eU8.row 19 (upd a4.Levels m35 0)) ++ ((eU8.row 19 (upd a4.Chars m36 a3)) ++ [])))⟩)]) (j := 13) (t1 := [(0, true)]) (acc' := [[], [], [], [], [], [], [], [], [(0, true)], [], [], [], [(0, true)]]) (by kernel_rfl) (by kernel_rfl) rfl (by kernel_rfl) (by kernel_rfl) (ev_storeA eU8 (b := 0) (g := 0) (o := 19 + m36 * 1) (f := a4.Chars) (nn := 19) (m := m36) (fo := 0) (pre := ((eU8.row 19 (upd a4.Levels m35 0)) ++ [])) (post := []) (by kernel_rfl) (by kernel_rfl) (by kernel_rfl) (inR_lt hm36) (new := ((.d (.int .u8 (a3.toNat : Int))) :: [])) (ds := [.int .u8 (a3.toNat : Int)]) (z' := a3) (by kernel_rfl) (by kernel_rfl) (by kernel_rfl) (by kernel_rfl) (by kernel_rfl)) ?_
      refine zdEnd (by kernel_rfl) (by kernel_rfl) ?_
      refine zkSeq ?_
      refine zrSeq ?_
      refine zrReg ?_
      refine zlRun (n := 4) (j := 4) rfl (by kernel_rfl) ?_
      refine zlEnd (by kernel_rfl) ?_
      refine zkSeq ?_
      refine zrRet ?_
      refine zkBlkR ?_
      refine zkSeqR ?_
      refine zkNil ?_
      exact endQ hS hQ (fRet ((congrArg (fun s => outR s 1 c37.res) (by kernel_rfl : finSt c37.fin _ = f37_fin (GKeys.mk (upd a4.Levels m35 0) (upd a4.Chars m36 a3)) [a1, 128, a3])).trans (f37_out (GKeys.mk (upd a4.Levels m35 0) (upd a4.Chars m36 a3)) [a1, 128, a3])))
    · replace hS := cond_f hc hS
      refine zlRun (n := 1) (j := 3) rfl (by kernel_rfl) ?_
      refine zlEnd (by kernel_rfl) ?_
      refine zkSeq ?_
      refine zrCondF (by kernel_rfl) ?_
      refine zrSeq ?_
      refine zrReg ?_
      refine zlRun (n := 1) (j := 1) rfl (by kernel_rfl) ?_
      refine zlBool (d := 79) (op := (.cmpI .eql (.tmp 78) (.const (.int .u8 3)))) (g := none) (j := 2) (decide (((a2 % (4 : UInt8)).toNat : Int) = 3)) rfl (by kernel_rfl) (by kernel_rfl) (by kernel_rfl) (fun hc => ?_) (fun hc => ?_)
      · replace hS := cond_t hc hS
        refine zlRun (n := 1) (j := 3) rfl (by kernel_rfl) ?_
        refine zlEnd (by kernel_rfl) ?_
        refine zkSeq ?_
        refine zrCondT (by kernel_rfl) ?_
        refine zrSeq ?_
        refine zrRegD ?_
        refine zdRun (n := 5) (j := 5) (ts := [[], [], [], [], []]) (acc' := [[], [], [], [], []]) rfl (by kernel_rfl) (by kernel_rfl) (by kernel_rfl) ?_
        refine bindE hS (fun m37 hm37 hS => ?_)
        refine zdOp (d := some 85) (op := (.ixA 19 1 (.tmp 84) (.tmp 82))) (g := none) (v := (.r (.ptr 0 0 (0 + m37 * 1)))) (ups := []) (j := 6) (t1 := []) (acc' := [[], [], [], [], [], []]) (by kernel_rfl) (by kernel_rfl) rfl (by kernel_rfl) (by kernel_rfl) (ev_ixA (kk := .u8) (b := 0) (g := 0) (o := 0) (j := (a1.toNat : Int)) (by kernel_rfl) (by kernel_rfl) hm37) ?_
        refine zdOp (d := some 86) (op := (.load .false 1 (.tmp 85))) (g := none) (v := (.d (.int .u8 ((a4.Levels m37).toNat : Int)))) (ups := []) (j := 7) (t1 := [(0, false)]) (acc' := [[], [], [], [], [], [], [(0, false)]]) (by kernel_rfl) (by kernel_rfl) rfl (by kernel_rfl) (by kernel_rfl) (ev_loadA eU8 (b := 0) (g := 0) (o := 0 + m37 * 1) (f := a4.Levels) (nn := 19) (m := m37) (fo := 0) (pre := []) (post := ((eU8.row 19 a4.Chars) ++ [])) (by kernel_rfl) (by kernel_rfl) (by kernel_rfl) (inR_lt hm37) (by kernel_rfl) (by kernel_rfl) (by kernel_rfl)) ?_
        refine zdRun (n := 4) (j := 11) (ts := [[], [], [], []]) (acc' := [[], [], [], [], [], [], [(0, false)], [], [], [], []]) rfl (by kernel_rfl) (by kernel_rfl) (by kernel_rfl) ?_
        refine bindE hS (fun m38 hm38 hS => ?_)
        refine zdOp (d := some 91) (op := (.ixA 19 1 (.tmp 90) (.tmp 88))) (g := none) (v := (.r (.ptr 0 0 (19 + m38 * 1)))) (ups := []) (j := 12) (t1 := []) (acc' := [[], [], [], [], [], [], [(0, false)], [], [], [], [], []]) (by kernel_rfl) (by kernel_rfl) rfl (by kernel_rfl) (by kernel_rfl) (ev_ixA (kk := .u8) (b := 0) (g := 0) (o := 19) (j := (a1.toNat : Int)) (by kernel_rfl) (by kernel_rfl) hm38) ?_
        refine zdOp (d := some 92) (op := (.load .false 1 (.tmp 91))) (g := none) (v := (.d (.int .u8 ((a4.Chars m38).toNat : Int)))) (ups := []) (j := 13) (t1 := [(0, false)]) (acc' := [[], [], [], [], [], [], [(0, false)], [], [], [], [], [], [(0, false)]]) (by kernel_rfl) (by kernel_rfl) rfl (by kernel_rfl) (by kernel_rfl) (ev_loadA eU8 (b := 0) (g := 0) (o := 19 + m38 * 1) (f := a4.Chars) (nn := 19) (m := m38) (fo := 0) (pre := ((eU8.row 19 a4.Levels) ++ [])) (post := []) (by kernel_rfl) (by kernel_rfl) (by kernel_rfl) (inR_lt hm38) (by kernel_rfl) (by kernel_rfl) (by kernel_rfl)) ?_
        refine zdRun (n := 2) (j := 15) (ts := [[(752, true)], []]) (acc' := [[], [], [], [], [], [], [(0, false)], [], [], [], [], [], [(0, false)], [(752, true)], []]) rfl (by kernel_rfl) (by kernel_rfl) (by kernel_rfl) ?_
        refine zdEnd (by kernel_rfl) (by kernel_rfl) ?_
        refine zkSeq ?_
        refine zrRet ?_
        refine zkBlkR ?_
        refine zkSeqR ?_
        refine zkNil ?_
        exact endQ hS hQ (fRet ((congrArg (fun s => outR s 1 c37.res) (by kernel_rfl : finSt c37.fin _ = f37_fin a4 [a1, (a4.Levels m37), (a4.Chars m38)])).trans (f37_out a4 [a1, (a4.Levels m37), (a4.Chars m38)])))
      · replace hS := cond_f hc hS
        refine zlRun (n := 1) (j := 3) rfl (by kernel_rfl) ?_
        refine zlEnd (by kernel_rfl) ?_
        refine zkSeq ?_
        refine zrCondF (by kernel_rfl) ?_
        refine zrSeq ?_
        refine zrReg ?_
        refine zlRun (n := 4) (j := 4) rfl (by kernel_rfl) ?_
        refine bindE hS (fun m43 hm43 hS => ?_)
        refine zlOp (d := some 99) (op := (.ixA 19 1 (.tmp 98) (.tmp 96))) (g := none) (v := (.r (.ptr 0 0 (0 + m43 * 1)))) (ups := []) (j := 5) rfl (by kernel_rfl) (by kernel_rfl) (ev_ixA (kk := .u8) (b := 0) (g := 0) (o := 0) (j := (a1.toNat : Int)) (by kernel_rfl) (by kernel_rfl) hm43) ?_
        refine zlOp (d := some 100) (op := (.load .false 1 (.tmp 99))) (g := none) (v := (.d (.int .u8 ((a4.Levels m43).toNat : Int)))) (ups := []) (j := 6) rfl (by kernel_rfl) (by kernel_rfl) (ev_loadA eU8 (b := 0) (g := 0) (o := 0 + m43 * 1) (f := a4.Levels) (nn := 19) (m := m43) (fo := 0) (pre := []) (post := ((eU8.row 19 a4.Chars) ++ [])) (by kernel_rfl) (by kernel_rfl) (by kernel_rfl) (inR_lt hm43) (by kernel_rfl) (by kernel_rfl) (by kernel_rfl)) ?_
        refine zlBool (d := 101) (op := (.cmpI .eql (.tmp 100) (.const (.int .u8 1)))) (g := none) (j := 7) (decide (((a4.Levels m43).toNat : Int) = 1)) rfl (by kernel_rfl) (by kernel_rfl) (by kernel_rfl) (fun hc => ?_) (fun hc => ?_)
        · replace hS := cond_t hc hS
          refine zlRun (n := 2) (j := 9) rfl (by kernel_rfl) ?_
          refine zlBool (d := 104) (op := (.cmpI .eql (.tmp 103) (.const (.int .u8 1)))) (g := (some (102, true))) (j := 10) (decide (((a2 % (4 : UInt8)).toNat : Int) = 1)) rfl (by kernel_rfl) (by kernel_rfl) (by kernel_rfl) (fun hc => ?_) (fun hc => ?_)
          · replace hS := cond_t hc hS
            refine zlRun (n := 2) (j := 12) rfl (by kernel_rfl) ?_
            refine zlEnd (by kernel_rfl) ?_
            refine zkSeq ?_
            refine zrCondT (by kernel_rfl) ?_
            refine zrSeq ?_
            refine zrRegD ?_
            refine zdRun (n := 6) (j := 6) (ts := [[], [], [], [], [], []]) (acc' := [[], [], [], [], [], []]) rfl (by kernel_rfl) (by kernel_rfl) (by kernel_rfl) ?_
            refine bindE hS (fun m44 hm44 hS => ?_)
            refine zdOp (d := some 112) (op := (.ixA 19 1 (.tmp 111) (.tmp 107))) (g := none) (v := (.r (.ptr 0 0 (0 + m44 * 1)))) (ups := []) (j := 7) (t1 := []) (acc' := [[], [], [], [], [], [], []]) (by kernel_rfl) (by kernel_rfl) rfl (by kernel_rfl) (by kernel_rfl) (ev_ixA (kk := .u8) (b := 0) (g := 0) (o := 0) (j := (a1.toNat : Int)) (by kernel_rfl) (by kernel_rfl) hm44) ?_
            refine zdOp (d := none) (op := (.store 1 (.tmp 112) (.const (.int .u8 0)))) (g := none) (v := .un) (ups := [(0, ⟨0, some (.box ((eU8.row 19 (upd a4.Levels m44 0)) ++ ((eU8.row 19 a4.Chars) ++ [])))⟩)]) (j := 8) (t1 := [(0, true)]) (acc' := [[], [], [], [], [], [], [], [(0, true)]]) (by kernel_rfl) (by kernel_rfl) rfl (by kernel_rfl) (by kernel_rfl) (ev_storeA eU8 (b := 0) (g := 0) (o := 0 + m44 * 1) (f := a4.Levels) (nn := 19) (m := m44) (fo := 0) (pre := []) (post := ((eU8.row 19 a4.Chars) ++ [])) (by kernel_rfl) (by kernel_rfl) (by kernel_rfl) (inR_lt hm44) (new := ((.d (.int .u8 0)) :: [])) (ds := [.int .u8 0]) (z' := 0) (by kernel_rfl) (by kernel_rfl) (by kernel_rfl) (by kernel_rfl) (by kernel_rfl)) ?_
            refine zdRun (n := 2) (j := 10) (ts := [[], []]) (acc' := [[], [], [], [], [], [], [], [(0, true)], [], []]) rfl (by kernel_rfl) (by kernel_rfl) (by kernel_rfl) ?_
            refine bindE hS (fun m45 hm45 hS => ?_)
            refine zdOp (d := some 115) (op := (.ixA 19 1 (.tmp 114) (.tmp 109))) (g := none) (v := (.r (.ptr 0 0 (19 + m45 * 1)))) (ups := []) (j := 11) (t1 := []) (acc' := [[], [], [], [], [], [], [], [(0, true)], [], [], []]) (by kernel_rfl) (by kernel_rfl) rfl (by kernel_rfl) (by kernel_rfl) (ev_ixA (kk := .u8) (b := 0) (g := 0) (o := 19) (j := (a1.toNat : Int)) (by kernel_rfl) (by kernel_rfl) hm45) ?_
            refine zdOp (d := none) (op := (.store 1 (.tmp 115) (.const (.int .u8 0)))) (g := none) (v := .un) (ups := [(0, ⟨0, some (.box ((eU8.row 19 (upd a4.Levels m44 0)) ++ ((eU8.row 19 (upd a4.Chars m45 0)) ++ [])))⟩)]) (j := 12) (t1 := [(0, true)]) (acc' := [[], [], [], [], [], [], [], [(0, true)], [], [], [], [(0, true)]]) (by kernel_rfl) (by kernel_rfl) rfl (by kernel_rfl) (by kernel_rfl) (ev_storeA eU8 (b := 0) (g := 0) (o := 19 + m45 * 1) (f := a4.Chars) (nn := 19) (m := m45) (fo := 0) (pre := ((eU8.row 19 (upd a4.Levels m44 0)) ++ [])) (post := []) (by kernel_rfl) (by kernel_rfl) (by kernel_rfl) (inR_lt hm45) (new := ((.d (.int .u8 0)) :: [])) (ds := [.int .u8 0]) (z' := 0) (by kernel_rfl) (by kernel_rfl) (by kernel_rfl) (by kernel_rfl) (by kernel_rfl)) ?_
            refine zdEnd (by kernel_rfl) (by kernel_rfl) ?_
            refine zkSeq ?_
            refine zrSeq ?_
            refine zrReg ?_
            refine zlRun (n := 3) (j := 3) rfl (by kernel_rfl) ?_
            refine zlEnd (by kernel_rfl) ?_
            refine zkSeq ?_
            refine zrRet ?_
            refine zkBlkR ?_
            refine zkSeqR ?_
            refine zkNil ?_
            exact endQ hS hQ (fRet ((congrArg (fun s => outR s 1 c37.res) (by kernel_rfl : finSt c37.fin _ = f37_fin (GKeys.mk (upd a4.Levels m44 0) (upd a4.Chars m45 0)) [a1, 0, 0])).trans (f37_out (GKeys.mk (upd a4.Levels m44 0) (upd a4.Chars m45 0)) [a1, 0, 0])))
          · replace hS := cond_f hc hS
            refine zlRun (n := 2) (j := 12) rfl (by kernel_rfl) ?_
            refine zlEnd (by kernel_rfl) ?_
            refine zkSeq ?_
            refine zrCondF (by kernel_rfl) ?_
            exact f37_j4_ok hd a1 a2 a3 a4 hQ  hS (by kernel_rfl)
        · replace hS := cond_f hc hS
          refine zlRun (n := 5) (j := 12) rfl (by kernel_rfl) ?_
          refine zlEnd (by kernel_rfl) ?_
          refine zkSeq ?_
          refine zrCondF (by kernel_rfl) ?_
          exact f37_j4_ok hd a1 a2 a3 a4 hQ  hS (by kernel_rfl)
def f37_j0_J (a1 : UInt8) (a2 : UInt8) (a3 : UInt8) (a4 : GKeys) (p19 : Bool) : St := ⟨(up (up (up (up (up (fun _ => .un) 10 (.d (.bool p19))) 9 (.d (.int .u8 ((a2 % (4 : UInt8)).toNat : Int)))) 3 (.d (.int .u8 (a3.toNat : Int)))) 1 (.d (.int .u8 (a1.toNat : Int)))) 0 (.r (.ptr 0 0 0))), (up (hB fun _ => 0) 0 ⟨0, some (.box ((eU8.row 19 a4.Levels) ++ ((eU8.row 19 a4.Chars) ++ [])))⟩)⟩
noncomputable def f37_j0 (a1 : UInt8) (a2 : UInt8) (a3 : UInt8) (a4 : GKeys) (p19 : Bool) : Option (GKeys × (List UInt8)) := (bif (decide ((a1.toNat : Int) < 1)) then (f37_j2 a1 a2 a3 a4 p19) else (bif (decide (18 < (a1.toNat : Int))) then (f37_j2 a1 a2 a3 a4 p19) else ((inR (a1.toNat : Int) 19).bind fun m46 => (bif (decide (((a2 % (4 : UInt8)).toNat : Int) = ((a4.Levels m46).toNat : Int))) then ((inR (a1.toNat : Int) 19).bind fun m47 => (bif (decide ((a3.toNat : Int) = ((a4.Chars m47).toNat : Int))) then (some (a4, [])) else (f37_j3 a1 a2 a3 a4 p19))) else (f37_j3 a1 a2 a3 a4 p19)))))
theorem f37_j0_ok {base : Orc} {d : Nat} (hd : 1 ≤ d) (a1 : UInt8) (a2 : UInt8) (a3 : UInt8) (a4 : GKeys) {r : GKeys × (List UInt8)} {Q : PX → St → Prop} (hQ : ∀ e st', f37_Q r e st' → Q e st') (p19 : Bool) (hS : f37_j0 a1 a2 a3 a4 p19 = some r) {st : St} (he : keepSt [0, 1, 3, 9, 10] [(0, .id 0)] [] st = f37_j0_J a1 a2 a3 a4 p19) : ZR (lev codes base (d - 1)) Q c37_5 [] st := by
  refine zrKeep he ?_
  unfold f37_j0 at hS
  refine zrSeq ?_
  refine zrBlk ?_
  refine zrSeq ?_
  refine zrReg ?_
  refine zlRun (n := 1) (j := 1) rfl (by kernel_rfl) ?_
  refine zlBool (d := 17) (op := (.cmpI .lss (.tmp 16) (.const (.int .u8 1)))) (g := none) (j := 2) (decide ((a1.toNat : Int) < 1)) rfl (by kernel_rfl) (by kernel_rfl) (by kernel_rfl) (fun hc => ?_) (fun hc => ?_)
  · replace hS := cond_t hc hS
    refine zlRun (n := 5) (j := 7) rfl (by kernel_rfl) ?_
    refine zlEnd (by kernel_rfl) ?_
    refine zkSeq ?_
    refine zrCondT (by kernel_rfl) ?_
    exact f37_j2_ok hd a1 a2 a3 a4 hQ p19 hS (by kernel_rfl)
  · replace hS := cond_f hc hS
    refine zlRun (n := 2) (j := 4) rfl (by kernel_rfl) ?_
    refine zlBool (d := 20) (op := (.cmpI .gtr (.tmp 19) (.const (.int .u8 18)))) (g := (some (18, false))) (j := 5) (decide (18 < (a1.toNat : Int))) rfl (by kernel_rfl) (by kernel_rfl) (by kernel_rfl) (fun hc => ?_) (fun hc => ?_)
    · replace hS := cond_t hc hS
      refine zlRun (n := 2) (j := 7) rfl (by kernel_rfl) ?_
      refine zlEnd (by kernel_rfl) ?_
      refine zkSeq ?_
      refine zrCondT (by kernel_rfl) ?_
      exact f37_j2_ok hd a1 a2 a3 a4 hQ p19 hS (by kernel_rfl)
    · replace hS := cond_f hc hS
      refine zlRun (n := 2) (j := 7) rfl (by kernel_rfl) ?_
      refine zlEnd (by kernel_rfl) ?_
      refine zkSeq ?_
      refine zrCondF (by kernel_rfl) ?_
      refine zrSeq ?_
      refine zrReg ?_
      refine zlRun (n := 5) (j := 5) rfl (by kernel_rfl) ?_
      refine bindE hS (fun m46 hm46 hS => ?_)
      refine zlOp (d := some 31) (op := (.ixA 19 1 (.tmp 30) (.tmp 28))) (g := none) (v := (.r (.ptr 0 0 (0 + m46 * 1)))) (ups := []) (j := 6) rfl (by kernel_rfl) (by kernel_rfl) (ev_ixA (kk := .u8) (b := 0) (g := 0) (o := 0) (j := (a1.toNat : Int)) (by kernel_rfl) (by kernel_rfl) hm46) ?_
      refine zlOp (d := some 32) (op := (.load .false 1 (.tmp 31))) (g := none) (v := (.d (.int .u8 ((a4.Levels m46).toNat : Int)))) (ups := []) (j := 7) rfl (by kernel_rfl) (by kernel_rfl) (ev_loadA eU8 (b := 0) (g := 0) (o := 0 + m46 * 1) (f := a4.Levels) (nn := 19) (m := m46) (fo := 0) (pre := []) (post := ((eU8.row 19 a4.Chars) ++ [])) (by kernel_rfl) (by kernel_rfl) (by kernel_rfl) (inR_lt hm46) (by kernel_rfl) (by kernel_rfl) (by kernel_rfl)) ?_
      refine zlBool (d := 33) (op := (.cmpI .eql (.tmp 26) (.tmp 32))) (g := none) (j := 8) (decide (((a2 % (4 : UInt8)).toNat : Int) = ((a4.Levels m46).toNat : Int))) rfl (by kernel_rfl) (by kernel_rfl) (by kernel_rfl) (fun hc => ?_) (fun hc => ?_)
      · replace hS := cond_t hc hS
        refine zlRun (n := 6) (j := 14) rfl (by kernel_rfl) ?_
        refine bindE hS (fun m47 hm47 hS => ?_)
        refine zlOp (d := some 40) (op := (.ixA 19 1 (.tmp 39) (.tmp 37))) (g := (some (34, true))) (v := (.r (.ptr 0 0 (19 + m47 * 1)))) (ups := []) (j := 15) rfl (by kernel_rfl) (by kernel_rfl) (ev_ixA (kk := .u8) (b := 0) (g := 0) (o := 19) (j := (a1.toNat : Int)) (by kernel_rfl) (by kernel_rfl) hm47) ?_
        refine zlOp (d := some 41) (op := (.load .false 1 (.tmp 40))) (g := (some (34, true))) (v := (.d (.int .u8 ((a4.Chars m47).toNat : Int)))) (ups := []) (j := 16) rfl (by kernel_rfl) (by kernel_rfl) (ev_loadA eU8 (b := 0) (g := 0) (o := 19 + m47 * 1) (f := a4.Chars) (nn := 19) (m := m47) (fo := 0) (pre := ((eU8.row 19 a4.Levels) ++ [])) (post := []) (by kernel_rfl) (by kernel_rfl) (by kernel_rfl) (inR_lt hm47) (by kernel_rfl) (by kernel_rfl) (by kernel_rfl)) ?_
        refine zlBool (d := 42) (op := (.cmpI .eql (.tmp 35) (.tmp 41))) (g := (some (34, true))) (j := 17) (decide ((a3.toNat : Int) = ((a4.Chars m47).toNat : Int))) rfl (by kernel_rfl) (by kernel_rfl) (by kernel_rfl) (fun hc => ?_) (fun hc => ?_)
        · replace hS := cond_t hc hS
          refine zlRun (n := 2) (j := 19) rfl (by kernel_rfl) ?_
          refine zlEnd (by kernel_rfl) ?_
          refine zkSeq ?_
          refine zrCondT (by kernel_rfl) ?_
          refine zrSeq ?_
          refine zrReg ?_
          refine zlRun (n := 1) (j := 1) rfl (by kernel_rfl) ?_
          refine zlEnd (by kernel_rfl) ?_
          refine zkSeq ?_
          refine zrRet ?_
          refine zkBlkR ?_
          refine zkSeqR ?_
          refine zkNil ?_
          exact endQ hS hQ (fRet ((congrArg (fun s => outR s 1 c37.res) (by kernel_rfl : finSt c37.fin _ = f37_fin a4 [])).trans (f37_out a4 [])))
        · replace hS := cond_f hc hS
          refine zlRun (n := 2) (j := 19) rfl (by kernel_rfl) ?_
          refine zlEnd (by kernel_rfl) ?_
          refine zkSeq ?_
          refine zrCondF (by kernel_rfl) ?_
          exact f37_j3_ok hd a1 a2 a3 a4 hQ p19 hS (by kernel_rfl)
      · replace hS := cond_f hc hS
        refine zlRun (n := 11) (j := 19) rfl (by kernel_rfl) ?_
        refine zlEnd (by kernel_rfl) ?_
        refine zkSeq ?_
        refine zrCondF (by kernel_rfl) ?_
        exact f37_j3_ok hd a1 a2 a3 a4 hQ p19 hS (by kernel_rfl)
noncomputable def f37 (a1 : UInt8) (a2 : UInt8) (a3 : UInt8) (a4 : GKeys) : Option (GKeys × (List UInt8)) := (bif (decide (128 ≤ (a2.toNat : Int))) then (f37_j0 a1 a2 a3 a4 true) else (f37_j0 a1 a2 a3 a4 false))
theorem f37_ok (base : Orc) (d : Nat) (hd : 1 ≤ d) (a1 : UInt8) (a2 : UInt8) (a3 : UInt8) (a4 : GKeys) (r : GKeys × (List UInt8)) (hS : f37 a1 a2 a3 a4 = some r) : lev codes base d 37 [(.r (.ptr 0 0 0)), (.d (.int .u8 (a1.toNat : Int))), (.d (.int .u8 (a2.toNat : Int))), (.d (.int .u8 (a3.toNat : Int)))] [(.box ((eU8.row 19 a4.Levels) ++ ((eU8.row 19 a4.Chars) ++ [])))] = some ((.r (.own 0 5 1 r.2.length (eU8.cells r.2))), [(.box ((eU8.row 19 r.1.Levels) ++ ((eU8.row 19 r.1.Chars) ++ [])))]) := by
  refine lev_go codes37 rfl rfl (Nat.le_trans (Nat.le_of_ble_eq_true rfl) hd) fun Q hQ => ?_
  unfold f37 at hS
  show ZR _ Q c37_b [] _
  replace hQ : ∀ e st', f37_Q r e st' → Q e st' := hQ
  refine zrSeq ?_
  refine zrReg ?_
  refine zlRun (n := 1) (j := 1) rfl (by kernel_rfl) ?_
  refine zlEnd (by kernel_rfl) ?_
  refine zkSeq ?_
  refine zrSeq ?_
  refine zrReg ?_
  refine zlRun (n := 1) (j := 1) rfl (by kernel_rfl) ?_
  refine zlOp (d := some 12) (op := (.arI .rem (.tmp 11) (.const (.int .u8 4)))) (g := none) (v := (.d (.int .u8 ((a2 % (4 : UInt8)).toNat : Int)))) (ups := []) (j := 2) rfl (by kernel_rfl) (by kernel_rfl) (ev_arI (kk := .u8) (a := (a2.toNat : Int)) (c := ((4 : UInt8).toNat : Int)) (by kernel_rfl) (by kernel_rfl) (ar_rem8 a2 (4 : UInt8) (by kernel_rfl))) ?_
  refine zlRun (n := 1) (j := 3) rfl (by kernel_rfl) ?_
  refine zlBool (d := 14) (op := (.cmpI .geq (.tmp 13) (.const (.int .u8 128)))) (g := none) (j := 4) (decide (128 ≤ (a2.toNat : Int))) rfl (by kernel_rfl) (by kernel_rfl) (by kernel_rfl) (fun hc => ?_) (fun hc => ?_)
  · replace hS := cond_t hc hS
    refine zlRun (n := 2) (j := 6) rfl (by kernel_rfl) ?_
    refine zlEnd (by kernel_rfl) ?_
    refine zkSeq ?_
    exact f37_j0_ok hd a1 a2 a3 a4 hQ true hS (by kernel_rfl)
  · replace hS := cond_f hc hS
    refine zlRun (n := 2) (j := 6) rfl (by kernel_rfl) ?_
    refine zlEnd (by kernel_rfl) ?_
    refine zkSeq ?_
    exact f37_j0_ok hd a1 a2 a3 a4 hQ false hS (by kernel_rfl)
/- farwriter/slc.Take -/
def f26_fin (p32 : GKeys) (p33 : List UInt8) (p34 : Int) : St := ⟨(up (up (up (fun _ => .un) 6 (.d (.int .i64 p34))) 5 (.d (.str p33))) 4 (.r (.ptr 40 0 0))), (up (hB fun _ => 0) 40 ⟨0, some (.box ((eU8.row 19 p32.Levels) ++ ((eU8.row 19 p32.Chars) ++ [])))⟩)⟩
theorem f26_out (p32 : GKeys) (p33 : List UInt8) (p34 : Int) : outR (f26_fin p32 p33 p34) 0 c26.res = some ((.tup [(.agg ((eU8.row 19 p32.Levels) ++ ((eU8.row 19 p32.Chars) ++ []))), (.d (.str p33)), (.d (.int .i64 p34))]), []) := by
  kernel_rfl
def f26_Q (r : GKeys × (List UInt8) × Int) (e : PX) (st : St) : Prop := DoneF c26 0 ((.tup [(.agg ((eU8.row 19 r.1.Levels) ++ ((eU8.row 19 r.1.Chars) ++ []))), (.d (.str r.2.1)), (.d (.int .i64 r.2.2))]), []) e st
def f26_l3_J (a1 : GKeys) (a2 : List UInt8) (x : GKeys × GKeys × (List UInt8) × Int) : St := ⟨(up (up (up (up (up (fun _ => .un) 9 (.d (.int .i64 x.2.2.2))) 8 (.r (.msl 72 0 0 x.2.2.1.length))) 4 (.r (.ptr 40 0 0))) 2 (.r (.ptr 24 0 0))) 1 (.d (.str a2))), (up (up (up (hB fun _ => 0) 72 ⟨0, some (.own 5 1 (eU8.cells x.2.2.1))⟩) 40 ⟨0, some (.box ((eU8.row 19 x.2.1.Levels) ++ ((eU8.row 19 x.2.1.Chars) ++ [])))⟩) 24 ⟨0, some (.box ((eU8.row 19 x.1.Levels) ++ ((eU8.row 19 x.1.Chars) ++ [])))⟩)⟩
def f26_l3_H (a1 : GKeys) (a2 : List UInt8) (x : GKeys × GKeys × (List UInt8) × Int) (st : St) : Prop := keepSt [1, 2, 4, 8, 9] [(24, .id 24), (40, .id 40), (72, .id 72)] [] st = f26_l3_J a1 a2 x
def f26_l3_e0_J (a1 : GKeys) (a2 : List UInt8) (p66 : GKeys) (p67 : GKeys) (p68 : List UInt8) : St := ⟨(up (up (up (fun _ => .un) 8 (.r (.msl 72 0 0 p68.length))) 4 (.r (.ptr 40 0 0))) 2 (.r (.ptr 24 0 0))), (up (up (up (hB fun _ => 0) 72 ⟨0, some (.own 5 1 (eU8.cells p68))⟩) 40 ⟨0, some (.box ((eU8.row 19 p67.Levels) ++ ((eU8.row 19 p67.Chars) ++ [])))⟩) 24 ⟨0, some (.box ((eU8.row 19 p66.Levels) ++ ((eU8.row 19 p66.Chars) ++ [])))⟩)⟩
def f26_l3_X (a1 : GKeys) (a2 : List UInt8) (z : (GKeys × GKeys × (List UInt8))) (e : PX) (st : St) : Prop := e = .exit 0 ∧ st = f26_l3_e0_J a1 a2 z.1 z.2.1 z.2.2
def f26_l3_j4_J (a1 : GKeys) (a2 : List UInt8) (p74 : GKeys) (p75 : GKeys) (p76 : List UInt8) (p77 : Int) : St := ⟨(up (up (up (up (up (fun _ => .un) 9 (.d (.int .i64 p77))) 8 (.r (.msl 72 0 0 p76.length))) 4 (.r (.ptr 40 0 0))) 2 (.r (.ptr 24 0 0))) 1 (.d (.str a2))), (up (up (up (hB fun _ => 0) 72 ⟨0, some (.own 5 1 (eU8.cells p76))⟩) 40 ⟨0, some (.box ((eU8.row 19 p75.Levels) ++ ((eU8.row 19 p75.Chars) ++ [])))⟩) 24 ⟨0, some (.box ((eU8.row 19 p74.Levels) ++ ((eU8.row 19 p74.Chars) ++ [])))⟩)⟩
noncomputable def f26_l3_j4 (a1 : GKeys) (a2 : List UInt8) (p74 : GKeys) (p75 : GKeys) (p76 : List UInt8) (p77 : Int) : Option ((GKeys × GKeys × (List UInt8) × Int) ⊕ ((GKeys × GKeys × (List UInt8)))) := ((idx a2 p77).bind fun z33 => ((idx a2 (IntKind.i64.wrap (p77 + 1))).bind fun z34 => ((idx a2 (IntKind.i64.wrap (p77 + 2))).bind fun z35 => ((f37 z33 z34 z35 p74).bind fun z36 => ((app? 1 p76 z36.2).bind fun z37 => (some (.inl (z36.1, p75, z37, (IntKind.i64.wrap (p77 + 3))))))))))
theorem f26_l3_j4_ok {base : Orc} {d : Nat} (hd : 2 ≤ d) (a1 : GKeys) (a2 : List UInt8) {r : (GKeys × GKeys × (List UInt8) × Int) ⊕ ((GKeys × GKeys × (List UInt8)))} {Q : PX → St → Prop} (hQ : ∀ e st', finL (f26_l3_H a1 a2) (f26_l3_X a1 a2) r e st' → Q e st') (p74 : GKeys) (p75 : GKeys) (p76 : List UInt8) (p77 : Int) (hS : f26_l3_j4 a1 a2 p74 p75 p76 p77 = some r) {st : St} (he : keepSt [1, 2, 4, 8, 9] [(24, .id 24), (40, .id 40), (72, .id 72)] [] st = f26_l3_j4_J a1 a2 p74 p75 p76 p77) : ZR (lev codes base (d - 1)) Q c26_1 [] st := by
  refine zrKeep he ?_
  unfold f26_l3_j4 at hS
  refine zrSeq ?_
  refine zrBlk ?_
  refine zrRegD ?_
  refine zdRun (n := 3) (j := 3) (ts := [[], [], []]) (acc' := [[], [], []]) rfl (by kernel_rfl) (by kernel_rfl) (by kernel_rfl) ?_
  refine bindE hS (fun z33 hz33 hS => ?_)
  refine zdOp (d := some 34) (op := (.ixStr (.tmp 32) (.tmp 33))) (g := none) (v := (.d (.int .u8 (z33.toNat : Int)))) (ups := []) (j := 4) (t1 := []) (acc' := [[], [], [], []]) (by kernel_rfl) (by kernel_rfl) rfl (by kernel_rfl) (by kernel_rfl) (ev_ixStr (kk := .i64) (s := a2) (j := p77) (by kernel_rfl) (by kernel_rfl) hz33) ?_
  refine zdRun (n := 3) (j := 7) (ts := [[], [], []]) (acc' := [[], [], [], [], [], [], []]) rfl (by kernel_rfl) (by kernel_rfl) (by kernel_rfl) ?_
  refine bindE hS (fun z34 hz34 hS => ?_)
  refine zdOp (d := some 38) (op := (.ixStr (.tmp 35) (.tmp 37))) (g := none) (v := (.d (.int .u8 (z34.toNat : Int)))) (ups := []) (j := 8) (t1 := []) (acc' := [[], [], [], [], [], [], [], []]) (by kernel_rfl) (by kernel_rfl) rfl (by kernel_rfl) (by kernel_rfl) (ev_ixStr (kk := .i64) (s := a2) (j := (IntKind.i64.wrap (p77 + 1))) (by kernel_rfl) (by kernel_rfl) hz34) ?_
  refine zdRun (n := 3) (j := 11) (ts := [[], [], []]) (acc' := [[], [], [], [], [], [], [], [], [], [], []]) rfl (by kernel_rfl) (by kernel_rfl) (by kernel_rfl) ?_
  refine bindE hS (fun z35 hz35 hS => ?_)
  refine zdOp (d := some 42) (op := (.ixStr (.tmp 39) (.tmp 41))) (g := none) (v := (.d (.int .u8 (z35.toNat : Int)))) (ups := []) (j := 12) (t1 := []) (acc' := [[], [], [], [], [], [], [], [], [], [], [], []]) (by kernel_rfl) (by kernel_rfl) rfl (by kernel_rfl) (by kernel_rfl) (ev_ixStr (kk := .i64) (s := a2) (j := (IntKind.i64.wrap (p77 + 2))) (by kernel_rfl) (by kernel_rfl) hz35) ?_
  refine bindE hS (fun z36 hz36 hS => ?_)
  refine zdOp (d := some 43) (op := (.callr 37 [(.tmp 2), (.tmp 34), (.tmp 38), (.tmp 42)])) (g := none) (v := (.r (.msl 352 1 0 z36.2.length))) (ups := [(24, ⟨0, some (.box ((eU8.row 19 z36.1.Levels) ++ ((eU8.row 19 z36.1.Chars) ++ [])))⟩), (352, ⟨1, some (.own 5 1 (eU8.cells z36.2))⟩)]) (j := 13) (t1 := [(24, true), (24, false), (352, true), (353, true), (354, true), (355, true), (356, true), (357, true), (358, true), (359, true)]) (acc' := [[], [], [], [], [], [], [], [], [], [], [], [], [(24, true), (24, false), (352, true), (353, true), (354, true), (355, true), (356, true), (357, true), (358, true), (359, true)]]) (by kernel_rfl) (by kernel_rfl) rfl (by kernel_rfl) (by kernel_rfl) (ev_callr (args := [(.r (.ptr 24 0 0)), (.d (.int .u8 (z33.toNat : Int))), (.d (.int .u8 (z34.toNat : Int))), (.d (.int .u8 (z35.toNat : Int)))]) (ids := [24]) (bs := [(.box ((eU8.row 19 p74.Levels) ++ ((eU8.row 19 p74.Chars) ++ [])))]) (l := [(.r (.ptr 0 0 0)), (.d (.int .u8 (z33.toNat : Int))), (.d (.int .u8 (z34.toNat : Int))), (.d (.int .u8 (z35.toNat : Int)))]) (bt := [(.box ((eU8.row 19 p74.Levels) ++ ((eU8.row 19 p74.Chars) ++ [])))]) (r := (.r (.own 0 5 1 z36.2.length (eU8.cells z36.2)))) (bs' := [(.box ((eU8.row 19 z36.1.Levels) ++ ((eU8.row 19 z36.1.Chars) ++ [])))]) (by kernel_rfl) (by kernel_rfl) (by kernel_rfl) (by kernel_rfl) (by kernel_rfl) (f37_ok base (d - 1) (dpt hd rfl) z33 z34 z35 p74 z36 hz36) (by kernel_rfl) (by kernel_rfl)) ?_
  refine bindE hS (fun z37 hz37 hS => ?_)
  refine zdOp (d := some 44) (op := (.app 5 1 1 (.tmp 31) (.tmp 43))) (g := none) (v := (.r (.msl 72 1 0 z37.length))) (ups := [(72, ⟨1, some (.own 5 1 (eU8.cells z37))⟩)]) (j := 14) (t1 := [(360, true), (72, true), (352, false)]) (acc' := [[], [], [], [], [], [], [], [], [], [], [], [], [(24, true), (24, false), (352, true), (353, true), (354, true), (355, true), (356, true), (357, true), (358, true), (359, true)], [(360, true), (72, true), (352, false)]]) (by kernel_rfl) (by kernel_rfl) rfl (by kernel_rfl) (by kernel_rfl) (ev_app eU8 (b := 72) (g := 0) (n := p76.length) (xs := p76) (ys := z36.2) ((congrArg (asL _) (by kernel_rfl : ρof _ (.tmp 43) = (.r (.msl 352 1 0 z36.2.length)))).trans (as_whole eU8 (e := 5) (k := 1) (xs := z36.2) (by kernel_rfl) rfl rfl)) rfl (by kernel_rfl) rfl (by kernel_rfl) rfl hz37) ?_
  refine zdRun (n := 1) (j := 15) (ts := [[]]) (acc' := [[], [], [], [], [], [], [], [], [], [], [], [], [(24, true), (24, false), (352, true), (353, true), (354, true), (355, true), (356, true), (357, true), (358, true), (359, true)], [(360, true), (72, true), (352, false)], []]) rfl (by kernel_rfl) (by kernel_rfl) (by kernel_rfl) ?_
  refine zdEnd (by kernel_rfl) (by kernel_rfl) ?_
  refine zkBlk ?_
  refine zkSeq ?_
  refine zrReg ?_
  refine zlRun (n := 3) (j := 3) rfl (by kernel_rfl) ?_
  refine zlEnd (by kernel_rfl) ?_
  refine zkNil ?_
  exact endQ hS hQ (finL_n (by show keepSt _ _ _ _ = _; kernel_rfl))
noncomputable def f26_l3 (a1 : GKeys) (a2 : List UInt8) (x : GKeys × GKeys × (List UInt8) × Int) : Option ((GKeys × GKeys × (List UInt8) × Int) ⊕ ((GKeys × GKeys × (List UInt8)))) := (bif (decide (x.2.2.2 < (a2.length : Int))) then (f26_l3_j4 a1 a2 x.1 x.2.1 x.2.2.1 x.2.2.2) else (some (.inr (x.1, x.2.1, x.2.2.1))))
theorem f26_l3_ok {base : Orc} {d : Nat} (hd : 2 ≤ d) (a1 : GKeys) (a2 : List UInt8) {r : (GKeys × GKeys × (List UInt8) × Int) ⊕ ((GKeys × GKeys × (List UInt8)))} {Q : PX → St → Prop} (hQ : ∀ e st', finL (f26_l3_H a1 a2) (f26_l3_X a1 a2) r e st' → Q e st') {x : GKeys × GKeys × (List UInt8) × Int} (hS : f26_l3 a1 a2 x = some r) {st : St} (he : f26_l3_H a1 a2 x st) : ZR (lev codes base (d - 1)) Q c26_2 [] st := by
  refine zrKeep he ?_
  unfold f26_l3 at hS
  refine zrSeq ?_
  refine zrSeq ?_
  refine zrReg ?_
  refine zlRun (n := 3) (j := 3) rfl (by kernel_rfl) ?_
  refine zlBool (d := 28) (op := (.cmpI .lss (.tmp 25) (.tmp 27))) (g := none) (j := 4) (decide (x.2.2.2 < (a2.length : Int))) rfl (by kernel_rfl) (by kernel_rfl) (by kernel_rfl) (fun hc => ?_) (fun hc => ?_)
  · replace hS := cond_t hc hS
    refine zlEnd (by kernel_rfl) ?_
    refine zkSeq ?_
    refine zrCondT (by kernel_rfl) ?_
    refine zrSkip ?_
    refine zkSeq ?_
    exact f26_l3_j4_ok hd a1 a2 hQ x.1 x.2.1 x.2.2.1 x.2.2.2 hS (by kernel_rfl)
  · replace hS := cond_f hc hS
    refine zlEnd (by kernel_rfl) ?_
    refine zkSeq ?_
    refine zrCondF (by kernel_rfl) ?_
    refine zrKeep (J := f26_l3_e0_J a1 a2 x.1 x.2.1 x.2.2.1) (by kernel_rfl) ?_
    refine zrExit ?_
    refine zkSeqX ?_
    refine zkNil ?_
    exact endQ hS hQ (finL_x (by intro h; cases h) (by show _ = _ ∧ _ = _; exact ⟨rfl, rfl⟩))
def f26_j2_J (a1 : GKeys) (a2 : List UInt8) (p44 : GKeys) : St := ⟨(up (up (up (fun _ => .un) 4 (.r (.ptr 40 0 0))) 2 (.r (.ptr 24 0 0))) 1 (.d (.str a2))), (up (up (hB fun _ => 0) 40 ⟨0, some (.box ((eU8.row 19 p44.Levels) ++ ((eU8.row 19 p44.Chars) ++ [])))⟩) 24 ⟨0, some (.box ((eU8.row 19 a1.Levels) ++ ((eU8.row 19 a1.Chars) ++ [])))⟩)⟩
noncomputable def f26_j2 (a1 : GKeys) (a2 : List UInt8) (p44 : GKeys) : Option (GKeys × (List UInt8) × Int) := ((loopO (f26_l3 a1 a2) (a1, p44, [], 0)).bind fun z38 => (some (z38.1, z38.2.2, 0)))
theorem f26_j2_ok {base : Orc} {d : Nat} (hd : 2 ≤ d) (a1 : GKeys) (a2 : List UInt8) {r : GKeys × (List UInt8) × Int} {Q : PX → St → Prop} (hQ : ∀ e st', f26_Q r e st' → Q e st') (p44 : GKeys) (hS : f26_j2 a1 a2 p44 = some r) {st : St} (he : keepSt [1, 2, 4] [(24, .id 24), (40, .id 40)] [] st = f26_j2_J a1 a2 p44) : ZR (lev codes base (d - 1)) Q c26_3 [] st := by
  refine zrKeep he ?_
  unfold f26_j2 at hS
  refine zrSeq ?_
  refine zrReg ?_
  refine zlRun (n := 1) (j := 1) rfl (by kernel_rfl) ?_
  refine zlEnd (by kernel_rfl) ?_
  refine zkSeq ?_
  refine zrSeq ?_
  refine zrSeq ?_
  refine zrReg ?_
  refine zlRun (n := 1) (j := 1) rfl (by kernel_rfl) ?_
  refine zlEnd (by kernel_rfl) ?_
  refine zkSeq ?_
  refine zrBlk ?_
  refine bindE hS (fun z38 hz38 hS => ?_)
  refine zrLoop (f26_l3_H a1 a2) (f26_l3_X a1 a2) (fun x st r Q h0 hS hQ => f26_l3_ok hd a1 a2 hQ hS h0) (x := (a1, p44, [], 0)) (z := z38) (by show keepSt _ _ _ _ = _; kernel_rfl) hz38 ?_
  intro e st' _ hX
  obtain ⟨rfl, rfl⟩ : _ ∧ _ := hX
  refine zkBlkX ?_
  refine zkSeq ?_
  refine zrSeq ?_
  refine zrRegD ?_
  refine zdRun (n := 2) (j := 2) (ts := [[(24, false)], []]) (acc' := [[(24, false)], []]) rfl (by kernel_rfl) (by kernel_rfl) (by kernel_rfl) ?_
  refine zdOp (d := some 47) (op := (.cvBS (.tmp 46))) (g := none) (v := (.d (.str z38.2.2))) (ups := []) (j := 3) (t1 := [(72, false)]) (acc' := [[(24, false)], [], [(72, false)]]) (by kernel_rfl) (by kernel_rfl) rfl (by kernel_rfl) (by kernel_rfl) (ev_cvBS (s := z38.2.2) ((congrArg (asL _) (by kernel_rfl : ρof _ (.tmp 46) = (.r (.msl 72 0 0 z38.2.2.length)))).trans (as_whole eU8 (e := 5) (k := 1) (xs := z38.2.2) (by kernel_rfl) rfl rfl)) rfl) ?_
  refine zdRun (n := 3) (j := 6) (ts := [[(40, true)], [], []]) (acc' := [[(24, false)], [], [(72, false)], [(40, true)], [], []]) rfl (by kernel_rfl) (by kernel_rfl) (by kernel_rfl) ?_
  refine zdEnd (by kernel_rfl) (by kernel_rfl) ?_
  refine zkSeq ?_
  refine zrRet ?_
  refine zkNil ?_
  exact endQ hS hQ (fRet ((congrArg (fun s => outR s 0 c26.res) (by kernel_rfl : finSt c26.fin _ = f26_fin z38.1 z38.2.2 0)).trans (f26_out z38.1 z38.2.2 0)))
def f26_j1_J (a1 : GKeys) (a2 : List UInt8) (p41 : GKeys) : St := ⟨(up (up (up (fun _ => .un) 4 (.r (.ptr 40 0 0))) 2 (.r (.ptr 24 0 0))) 1 (.d (.str a2))), (up (up (hB fun _ => 0) 40 ⟨0, some (.box ((eU8.row 19 p41.Levels) ++ ((eU8.row 19 p41.Chars) ++ [])))⟩) 24 ⟨0, some (.box ((eU8.row 19 a1.Levels) ++ ((eU8.row 19 a1.Chars) ++ [])))⟩)⟩
noncomputable def f26_j1 (a1 : GKeys) (a2 : List UInt8) (p41 : GKeys) : Option (GKeys × (List UInt8) × Int) := (bif (decide (300 < (a2.length : Int))) then (some (a1, [], 2)) else (f26_j2 a1 a2 p41))
theorem f26_j1_ok {base : Orc} {d : Nat} (hd : 2 ≤ d) (a1 : GKeys) (a2 : List UInt8) {r : GKeys × (List UInt8) × Int} {Q : PX → St → Prop} (hQ : ∀ e st', f26_Q r e st' → Q e st') (p41 : GKeys) (hS : f26_j1 a1 a2 p41 = some r) {st : St} (he : keepSt [1, 2, 4] [(24, .id 24), (40, .id 40)] [] st = f26_j1_J a1 a2 p41) : ZR (lev codes base (d - 1)) Q c26_4 [] st := by
  refine zrKeep he ?_
  unfold f26_j1 at hS
  refine zrSeq ?_
  refine zrSeq ?_
  refine zrReg ?_
  refine zlRun (n := 2) (j := 2) rfl (by kernel_rfl) ?_
  refine zlBool (d := 23) (op := (.cmpI .gtr (.tmp 22) (.const (.int .i64 300)))) (g := none) (j := 3) (decide (300 < (a2.length : Int))) rfl (by kernel_rfl) (by kernel_rfl) (by kernel_rfl) (fun hc => ?_) (fun hc => ?_)
  · replace hS := cond_t hc hS
    refine zlEnd (by kernel_rfl) ?_
    refine zkSeq ?_
    refine zrCondT (by kernel_rfl) ?_
    refine zrSeq ?_
    refine zrReg ?_
    refine zlRun (n := 4) (j := 4) rfl (by kernel_rfl) ?_
    refine zlEnd (by kernel_rfl) ?_
    refine zkSeq ?_
    refine zrRet ?_
    refine zkSeqR ?_
    refine zkNil ?_
    exact endQ hS hQ (fRet ((congrArg (fun s => outR s 0 c26.res) (by kernel_rfl : finSt c26.fin _ = f26_fin a1 [] 2)).trans (f26_out a1 [] 2)))
  · replace hS := cond_f hc hS
    refine zlEnd (by kernel_rfl) ?_
    refine zkSeq ?_
    refine zrCondF (by kernel_rfl) ?_
    refine zrSkip ?_
    refine zkSeq ?_
    exact f26_j2_ok hd a1 a2 hQ p41 hS (by kernel_rfl)
def f26_j0_J (a1 : GKeys) (a2 : List UInt8) (p38 : GKeys) : St := ⟨(up (up (up (fun _ => .un) 4 (.r (.ptr 40 0 0))) 2 (.r (.ptr 24 0 0))) 1 (.d (.str a2))), (up (up (hB fun _ => 0) 40 ⟨0, some (.box ((eU8.row 19 p38.Levels) ++ ((eU8.row 19 p38.Chars) ++ [])))⟩) 24 ⟨0, some (.box ((eU8.row 19 a1.Levels) ++ ((eU8.row 19 a1.Chars) ++ [])))⟩)⟩
noncomputable def f26_j0 (a1 : GKeys) (a2 : List UInt8) (p38 : GKeys) : Option (GKeys × (List UInt8) × Int) := (bif (!decide ((Int.tmod (a2.length : Int) 3) = 0)) then (some (a1, [], 4)) else (f26_j1 a1 a2 p38))
theorem f26_j0_ok {base : Orc} {d : Nat} (hd : 2 ≤ d) (a1 : GKeys) (a2 : List UInt8) {r : GKeys × (List UInt8) × Int} {Q : PX → St → Prop} (hQ : ∀ e st', f26_Q r e st' → Q e st') (p38 : GKeys) (hS : f26_j0 a1 a2 p38 = some r) {st : St} (he : keepSt [1, 2, 4] [(24, .id 24), (40, .id 40)] [] st = f26_j0_J a1 a2 p38) : ZR (lev codes base (d - 1)) Q c26_5 [] st := by
  refine zrKeep he ?_
  unfold f26_j0 at hS
  refine zrSeq ?_
  refine zrSeq ?_
  refine zrReg ?_
  refine zlRun (n := 3) (j := 3) rfl (by kernel_rfl) ?_
  refine zlBool (d := 19) (op := (.cmpI .neq (.tmp 18) (.const (.int .i64 0)))) (g := none) (j := 4) (!decide ((Int.tmod (a2.length : Int) 3) = 0)) rfl (by kernel_rfl) (by kernel_rfl) (by kernel_rfl) (fun hc => ?_) (fun hc => ?_)
  · replace hS := cond_t hc hS
    refine zlEnd (by kernel_rfl) ?_
    refine zkSeq ?_
    refine zrCondT (by kernel_rfl) ?_
    refine zrSeq ?_
    refine zrReg ?_
    refine zlRun (n := 4) (j := 4) rfl (by kernel_rfl) ?_
    refine zlEnd (by kernel_rfl) ?_
    refine zkSeq ?_
    refine zrRet ?_
    refine zkSeqR ?_
    refine zkNil ?_
    exact endQ hS hQ (fRet ((congrArg (fun s => outR s 0 c26.res) (by kernel_rfl : finSt c26.fin _ = f26_fin a1 [] 4)).trans (f26_out a1 [] 4)))
  · replace hS := cond_f hc hS
    refine zlEnd (by kernel_rfl) ?_
    refine zkSeq ?_
    refine zrCondF (by kernel_rfl) ?_
    refine zrSkip ?_
    refine zkSeq ?_
    exact f26_j1_ok hd a1 a2 hQ p38 hS (by kernel_rfl)
noncomputable def f26 (a1 : GKeys) (a2 : List UInt8) : Option (GKeys × (List UInt8) × Int) := ((f36 a1).bind fun z39 => (bif (!decide (z39 = 0)) then (some (a1, [], z39)) else (f26_j0 a1 a2 (GKeys.mk (fun _ => 0) (fun _ => 0)))))
theorem f26_ok (base : Orc) (d : Nat) (hd : 2 ≤ d) (a1 : GKeys) (a2 : List UInt8) (r : GKeys × (List UInt8) × Int) (hS : f26 a1 a2 = some r) : lev codes base d 26 [(.agg ((eU8.row 19 a1.Levels) ++ ((eU8.row 19 a1.Chars) ++ []))), (.d (.str a2))] [] = some ((.tup [(.agg ((eU8.row 19 r.1.Levels) ++ ((eU8.row 19 r.1.Chars) ++ []))), (.d (.str r.2.1)), (.d (.int .i64 r.2.2))]), []) := by
  refine lev_go codes26 rfl rfl (Nat.le_trans (Nat.le_of_ble_eq_true rfl) hd) fun Q hQ => ?_
  unfold f26 at hS
  show ZR _ Q c26_b [] _
  replace hQ : ∀ e st', f26_Q r e st' → Q e st' := hQ
  refine zrSeq ?_
  refine zrReg ?_
  refine zlRun (n := 4) (j := 4) rfl (by kernel_rfl) ?_
  refine zlEnd (by kernel_rfl) ?_
  refine zkSeq ?_
  refine zrSeq ?_
  refine zrSeq ?_
  refine zrReg ?_
  refine zlRun (n := 1) (j := 1) rfl (by kernel_rfl) ?_
  refine bindE hS (fun z39 hz39 hS => ?_)
  refine zlOp (d := some 11) (op := (.call 36 [(.tmp 10)])) (g := none) (v := (.d (.int .i64 z39))) (ups := []) (j := 2) rfl (by kernel_rfl) (by kernel_rfl) (ev_call (args := [(.agg ((eU8.row 19 a1.Levels) ++ ((eU8.row 19 a1.Chars) ++ [])))]) (l := [(.agg ((eU8.row 19 a1.Levels) ++ ((eU8.row 19 a1.Chars) ++ [])))]) (r := (.d (.int .i64 z39))) (by kernel_rfl) (by kernel_rfl) (f36_ok base (d - 1) (dpt hd rfl) a1 z39 hz39) (by kernel_rfl) (by kernel_rfl) (by kernel_rfl)) ?_
  refine zlRun (n := 1) (j := 3) rfl (by kernel_rfl) ?_
  refine zlEnd (by kernel_rfl) ?_
  refine zkSeq ?_
  refine zrSeq ?_
  refine zrReg ?_
  refine zlRun (n := 1) (j := 1) rfl (by kernel_rfl) ?_
  refine zlBool (d := 13) (op := (.cmpI .neq (.tmp 12) (.const (.int .i64 0)))) (g := none) (j := 2) (!decide (z39 = 0)) rfl (by kernel_rfl) (by kernel_rfl) (by kernel_rfl) (fun hc => ?_) (fun hc => ?_)
  · replace hS := cond_t hc hS
    refine zlEnd (by kernel_rfl) ?_
    refine zkSeq ?_
    refine zrCondT (by kernel_rfl) ?_
    refine zrSeq ?_
    refine zrReg ?_
    refine zlRun (n := 5) (j := 5) rfl (by kernel_rfl) ?_
    refine zlEnd (by kernel_rfl) ?_
    refine zkSeq ?_
    refine zrRet ?_
    refine zkSeqR ?_
    refine zkNil ?_
    exact endQ hS hQ (fRet ((congrArg (fun s => outR s 0 c26.res) (by kernel_rfl : finSt c26.fin _ = f26_fin a1 [] z39)).trans (f26_out a1 [] z39)))
  · replace hS := cond_f hc hS
    refine zlEnd (by kernel_rfl) ?_
    refine zkSeq ?_
    refine zrCondF (by kernel_rfl) ?_
    refine zrSkip ?_
    refine zkSeq ?_
    exact f26_j0_ok hd a1 a2 hQ (GKeys.mk (fun _ => 0) (fun _ => 0)) hS (by kernel_rfl)
/- farwriter/slc.Meet -/
def f29_fin (p164 : GKeys) (p165 : GKeys) (p166 : Int) (p167 : Int) : St := ⟨(up (up (up (up (fun _ => .un) 7 (.d (.int .i64 p167))) 6 (.d (.int .i64 p166))) 5 (.r (.ptr 48 0 0))) 4 (.r (.ptr 40 0 0))), (up (up (hB fun _ => 0) 48 ⟨0, some (.box ((eU8.row 19 p165.Levels) ++ ((eU8.row 19 p165.Chars) ++ [])))⟩) 40 ⟨0, some (.box ((eU8.row 19 p164.Levels) ++ ((eU8.row 19 p164.Chars) ++ [])))⟩)⟩
theorem f29_out (p164 : GKeys) (p165 : GKeys) (p166 : Int) (p167 : Int) : outR (f29_fin p164 p165 p166 p167) 0 c29.res = some ((.tup [(.agg ((eU8.row 19 p164.Levels) ++ ((eU8.row 19 p164.Chars) ++ []))), (.agg ((eU8.row 19 p165.Levels) ++ ((eU8.row 19 p165.Chars) ++ []))), (.d (.int .i64 p166)), (.d (.int .i64 p167))]), []) := by
  kernel_rfl
def f29_Q (r : GKeys × GKeys × Int × Int) (e : PX) (st : St) : Prop := DoneF c29 0 ((.tup [(.agg ((eU8.row 19 r.1.Levels) ++ ((eU8.row 19 r.1.Chars) ++ []))), (.agg ((eU8.row 19 r.2.1.Levels) ++ ((eU8.row 19 r.2.1.Chars) ++ []))), (.d (.int .i64 r.2.2.1)), (.d (.int .i64 r.2.2.2))]), []) e st
def f29_j1_J (a1 : GKeys) (a2 : GKeys) (p325 : GKeys) (p326 : GKeys) (p327 : GKeys) (p328 : GKeys) (p329 : Int) : St := ⟨(up (up (up (up (up (fun _ => .un) 11 (.d (.int .i64 p329))) 5 (.r (.ptr 48 0 0))) 4 (.r (.ptr 40 0 0))) 3 (.r (.ptr 32 0 0))) 2 (.r (.ptr 24 0 0))), (up (up (up (up (hB fun _ => 0) 48 ⟨0, some (.box ((eU8.row 19 p328.Levels) ++ ((eU8.row 19 p328.Chars) ++ [])))⟩) 40 ⟨0, some (.box ((eU8.row 19 p327.Levels) ++ ((eU8.row 19 p327.Chars) ++ [])))⟩) 32 ⟨0, some (.box ((eU8.row 19 p326.Levels) ++ ((eU8.row 19 p326.Chars) ++ [])))⟩) 24 ⟨0, some (.box ((eU8.row 19 p325.Levels) ++ ((eU8.row 19 p325.Chars) ++ [])))⟩)⟩
noncomputable def f29_j1 (a1 : GKeys) (a2 : GKeys) (p325 : GKeys) (p326 : GKeys) (p327 : GKeys) (p328 : GKeys) (p329 : Int) : Option (GKeys × GKeys × Int × Int) := (some (p325, p326, p329, 0))
theorem f29_j1_ok {base : Orc} {d : Nat} (hd : 3 ≤ d) (a1 : GKeys) (a2 : GKeys) {r : GKeys × GKeys × Int × Int} {Q : PX → St → Prop} (hQ : ∀ e st', f29_Q r e st' → Q e st') (p325 : GKeys) (p326 : GKeys) (p327 : GKeys) (p328 : GKeys) (p329 : Int) (hS : f29_j1 a1 a2 p325 p326 p327 p328 p329 = some r) {st : St} (he : keepSt [2, 3, 4, 5, 11] [(24, .id 24), (32, .id 32), (40, .id 40), (48, .id 48)] [] st = f29_j1_J a1 a2 p325 p326 p327 p328 p329) : ZR (lev codes base (d - 1)) Q c29_1 [] st := by
  refine zrKeep he ?_
  unfold f29_j1 at hS
  refine zrSeq ?_
  refine zrRegD ?_
  refine zdRun (n := 7) (j := 7) (ts := [[(24, false)], [(32, false)], [], [(40, true)], [(48, true)], [], []]) (acc' := [[(24, false)], [(32, false)], [], [(40, true)], [(48, true)], [], []]) rfl (by kernel_rfl) (by kernel_rfl) (by kernel_rfl) ?_
  refine zdEnd (by kernel_rfl) (by kernel_rfl) ?_
  refine zkSeq ?_
  refine zrRet ?_
  refine zkNil ?_
  exact endQ hS hQ (fRet ((congrArg (fun s => outR s 0 c29.res) (by kernel_rfl : finSt c29.fin _ = f29_fin p325 p326 p329 0)).trans (f29_out p325 p326 p329 0)))
def f29_l2_J (a1 : GKeys) (a2 : GKeys) (x : GKeys × GKeys × GKeys × GKeys × Int × (List UInt8)) : St := ⟨(up (up (up (up (up (up (fun _ => .un) 12 (.d (.str x.2.2.2.2.2))) 11 (.d (.int .i64 x.2.2.2.2.1))) 5 (.r (.ptr 48 0 0))) 4 (.r (.ptr 40 0 0))) 3 (.r (.ptr 32 0 0))) 2 (.r (.ptr 24 0 0))), (up (up (up (up (hB fun _ => 0) 48 ⟨0, some (.box ((eU8.row 19 x.2.2.2.1.Levels) ++ ((eU8.row 19 x.2.2.2.1.Chars) ++ [])))⟩) 40 ⟨0, some (.box ((eU8.row 19 x.2.2.1.Levels) ++ ((eU8.row 19 x.2.2.1.Chars) ++ [])))⟩) 32 ⟨0, some (.box ((eU8.row 19 x.2.1.Levels) ++ ((eU8.row 19 x.2.1.Chars) ++ [])))⟩) 24 ⟨0, some (.box ((eU8.row 19 x.1.Levels) ++ ((eU8.row 19 x.1.Chars) ++ [])))⟩)⟩
def f29_l2_H (a1 : GKeys) (a2 : GKeys) (x : GKeys × GKeys × GKeys × GKeys × Int × (List UInt8)) (st : St) : Prop := keepSt [2, 3, 4, 5, 11, 12] [(24, .id 24), (32, .id 32), (40, .id 40), (48, .id 48)] [] st = f29_l2_J a1 a2 x
def f29_l2_e2_J (a1 : GKeys) (a2 : GKeys) (p472 : GKeys) (p473 : GKeys) (p474 : GKeys) (p475 : GKeys) (p476 : Int) : St := ⟨(up (up (up (up (up (fun _ => .un) 11 (.d (.int .i64 p476))) 5 (.r (.ptr 48 0 0))) 4 (.r (.ptr 40 0 0))) 3 (.r (.ptr 32 0 0))) 2 (.r (.ptr 24 0 0))), (up (up (up (up (hB fun _ => 0) 48 ⟨0, some (.box ((eU8.row 19 p475.Levels) ++ ((eU8.row 19 p475.Chars) ++ [])))⟩) 40 ⟨0, some (.box ((eU8.row 19 p474.Levels) ++ ((eU8.row 19 p474.Chars) ++ [])))⟩) 32 ⟨0, some (.box ((eU8.row 19 p473.Levels) ++ ((eU8.row 19 p473.Chars) ++ [])))⟩) 24 ⟨0, some (.box ((eU8.row 19 p472.Levels) ++ ((eU8.row 19 p472.Chars) ++ [])))⟩)⟩
def f29_l2_X (a1 : GKeys) (a2 : GKeys) (z : (GKeys × GKeys × GKeys × GKeys × Int)) (e : PX) (st : St) : Prop := e = .exit 2 ∧ st = f29_l2_e2_J a1 a2 z.1 z.2.1 z.2.2.1 z.2.2.2.1 z.2.2.2.2
def f29_l2_j4_J (a1 : GKeys) (a2 : GKeys) (p518 : GKeys) (p519 : GKeys) (p520 : GKeys) (p521 : GKeys) (p522 : Int) (p523 : List UInt8) (p524 : Int) (p525 : Bool) : St := ⟨(up (up (up (up (up (up (up (up (up (fun _ => .un) 34 (.d (.bool p525))) 33 (.d (.int .i64 p524))) 13 (.r (.ptr 24 0 0))) 12 (.d (.str p523))) 11 (.d (.int .i64 p522))) 5 (.r (.ptr 48 0 0))) 4 (.r (.ptr 40 0 0))) 3 (.r (.ptr 32 0 0))) 2 (.r (.ptr 24 0 0))), (up (up (up (up (hB fun _ => 0) 48 ⟨0, some (.box ((eU8.row 19 p521.Levels) ++ ((eU8.row 19 p521.Chars) ++ [])))⟩) 40 ⟨0, some (.box ((eU8.row 19 p520.Levels) ++ ((eU8.row 19 p520.Chars) ++ [])))⟩) 32 ⟨0, some (.box ((eU8.row 19 p519.Levels) ++ ((eU8.row 19 p519.Chars) ++ [])))⟩) 24 ⟨0, some (.box ((eU8.row 19 p518.Levels) ++ ((eU8.row 19 p518.Chars) ++ [])))⟩)⟩
noncomputable def f29_l2_j4 (a1 : GKeys) (a2 : GKeys) (p518 : GKeys) (p519 : GKeys) (p520 : GKeys) (p521 : GKeys) (p522 : Int) (p523 : List UInt8) (p524 : Int) (p525 : Bool) : Option ((GKeys × GKeys × GKeys × GKeys × Int × (List UInt8)) ⊕ ((GKeys × GKeys × GKeys × GKeys × Int))) := ((f26 p518 p523).bind fun z31 => (some (.inl (z31.1, p519, p520, p521, (IntKind.i64.wrap (p522 + 1)), z31.2.1))))
theorem f29_l2_j4_ok {base : Orc} {d : Nat} (hd : 3 ≤ d) (a1 : GKeys) (a2 : GKeys) {r : (GKeys × GKeys × GKeys × GKeys × Int × (List UInt8)) ⊕ ((GKeys × GKeys × GKeys × GKeys × Int))} {Q : PX → St → Prop} (hQ : ∀ e st', finL (f29_l2_H a1 a2) (f29_l2_X a1 a2) r e st' → Q e st') (p518 : GKeys) (p519 : GKeys) (p520 : GKeys) (p521 : GKeys) (p522 : Int) (p523 : List UInt8) (p524 : Int) (p525 : Bool) (hS : f29_l2_j4 a1 a2 p518 p519 p520 p521 p522 p523 p524 p525 = some r) {st : St} (he : keepSt [2, 3, 4, 5, 11, 12, 13, 33, 34] [(24, .id 24), (32, .id 32), (40, .id 40), (48, .id 48)] [] st = f29_l2_j4_J a1 a2 p518 p519 p520 p521 p522 p523 p524 p525) : ZR (lev codes base (d - 1)) Q c29_2 [.blk 3, .seq c29_3] st := by
  refine zrKeep he ?_
  unfold f29_l2_j4 at hS
  refine zrReg ?_
  refine zlRun (n := 5) (j := 5) rfl (by kernel_rfl) ?_
  refine bindE hS (fun z31 hz31 hS => ?_)
  refine zlOp (d := some 47) (op := (.call 26 [(.tmp 45), (.tmp 46)])) (g := none) (v := (.tup [(.agg ((eU8.row 19 z31.1.Levels) ++ ((eU8.row 19 z31.1.Chars) ++ []))), (.d (.str z31.2.1)), (.d (.int .i64 z31.2.2))])) (ups := []) (j := 6) rfl (by kernel_rfl) (by kernel_rfl) (ev_call (args := [(.agg ((eU8.row 19 p518.Levels) ++ ((eU8.row 19 p518.Chars) ++ []))), (.d (.str p523))]) (l := [(.agg ((eU8.row 19 p518.Levels) ++ ((eU8.row 19 p518.Chars) ++ []))), (.d (.str p523))]) (r := (.tup [(.agg ((eU8.row 19 z31.1.Levels) ++ ((eU8.row 19 z31.1.Chars) ++ []))), (.d (.str z31.2.1)), (.d (.int .i64 z31.2.2))])) (by kernel_rfl) (by kernel_rfl) (f26_ok base (d - 1) (dpt hd rfl) p518 p523 z31 hz31) (by kernel_rfl) (by kernel_rfl) (by kernel_rfl)) ?_
  refine zlRun (n := 7) (j := 13) rfl (by kernel_rfl) ?_
  refine zlEnd (by kernel_rfl) ?_
  refine zkBlk ?_
  refine zkSeq ?_
  refine zrReg ?_
  refine zlRun (n := 3) (j := 3) rfl (by kernel_rfl) ?_
  refine zlEnd (by kernel_rfl) ?_
  refine zkNil ?_
  exact endQ hS hQ (finL_n (by show keepSt _ _ _ _ = _; kernel_rfl))
def f29_l2_j5_J (a1 : GKeys) (a2 : GKeys) (p526 : GKeys) (p527 : GKeys) (p528 : GKeys) (p529 : GKeys) (p530 : Int) (p531 : List UInt8) (p532 : Int) (p533 : Bool) : St := ⟨(up (up (up (up (up (up (up (up (up (fun _ => .un) 34 (.d (.bool p533))) 33 (.d (.int .i64 p532))) 13 (.r (.ptr 32 0 0))) 12 (.d (.str p531))) 11 (.d (.int .i64 p530))) 5 (.r (.ptr 48 0 0))) 4 (.r (.ptr 40 0 0))) 3 (.r (.ptr 32 0 0))) 2 (.r (.ptr 24 0 0))), (up (up (up (up (hB fun _ => 0) 48 ⟨0, some (.box ((eU8.row 19 p529.Levels) ++ ((eU8.row 19 p529.Chars) ++ [])))⟩) 40 ⟨0, some (.box ((eU8.row 19 p528.Levels) ++ ((eU8.row 19 p528.Chars) ++ [])))⟩) 32 ⟨0, some (.box ((eU8.row 19 p527.Levels) ++ ((eU8.row 19 p527.Chars) ++ [])))⟩) 24 ⟨0, some (.box ((eU8.row 19 p526.Levels) ++ ((eU8.row 19 p526.Chars) ++ [])))⟩)⟩
noncomputable def f29_l2_j5 (a1 : GKeys) (a2 : GKeys) (p526 : GKeys) (p527 : GKeys) (p528 : GKeys) (p529 : GKeys) (p530 : Int) (p531 : List UInt8) (p532 : Int) (p533 : Bool) : Option ((GKeys × GKeys × GKeys × GKeys × Int × (List UInt8)) ⊕ ((GKeys × GKeys × GKeys × GKeys × Int))) := ((f26 p527 p531).bind fun z32 => (some (.inl (p526, z32.1, p528, p529, (IntKind.i64.wrap (p530 + 1)), z32.2.1))))
theorem f29_l2_j5_ok {base : Orc} {d : Nat} (hd : 3 ≤ d) (a1 : GKeys) (a2 : GKeys) {r : (GKeys × GKeys × GKeys × GKeys × Int × (List UInt8)) ⊕ ((GKeys × GKeys × GKeys × GKeys × Int))} {Q : PX → St → Prop} (hQ : ∀ e st', finL (f29_l2_H a1 a2) (f29_l2_X a1 a2) r e st' → Q e st') (p526 : GKeys) (p527 : GKeys) (p528 : GKeys) (p529 : GKeys) (p530 : Int) (p531 : List UInt8) (p532 : Int) (p533 : Bool) (hS : f29_l2_j5 a1 a2 p526 p527 p528 p529 p530 p531 p532 p533 = some r) {st : St} (he : keepSt [2, 3, 4, 5, 11, 12, 13, 33, 34] [(24, .id 24), (32, .id 32), (40, .id 40), (48, .id 48)] [] st = f29_l2_j5_J a1 a2 p526 p527 p528 p529 p530 p531 p532 p533) : ZR (lev codes base (d - 1)) Q c29_2 [.blk 3, .seq c29_3] st := by
  refine zrKeep he ?_
  unfold f29_l2_j5 at hS
  refine zrReg ?_
  refine zlRun (n := 5) (j := 5) rfl (by kernel_rfl) ?_
  refine bindE hS (fun z32 hz32 hS => ?_)
  refine zlOp (d := some 47) (op := (.call 26 [(.tmp 45), (.tmp 46)])) (g := none) (v := (.tup [(.agg ((eU8.row 19 z32.1.Levels) ++ ((eU8.row 19 z32.1.Chars) ++ []))), (.d (.str z32.2.1)), (.d (.int .i64 z32.2.2))])) (ups := []) (j := 6) rfl (by kernel_rfl) (by kernel_rfl) (ev_call (args := [(.agg ((eU8.row 19 p527.Levels) ++ ((eU8.row 19 p527.Chars) ++ []))), (.d (.str p531))]) (l := [(.agg ((eU8.row 19 p527.Levels) ++ ((eU8.row 19 p527.Chars) ++ []))), (.d (.str p531))]) (r := (.tup [(.agg ((eU8.row 19 z32.1.Levels) ++ ((eU8.row 19 z32.1.Chars) ++ []))), (.d (.str z32.2.1)), (.d (.int .i64 z32.2.2))])) (by kernel_rfl) (by kernel_rfl) (f26_ok base (d - 1) (dpt hd rfl) p527 p531 z32 hz32) (by kernel_rfl) (by kernel_rfl) (by kernel_rfl)) ?_
  refine zlRun (n := 7) (j := 13) rfl (by kernel_rfl) ?_
  refine zlEnd (by kernel_rfl) ?_
  refine zkBlk ?_
  refine zkSeq ?_
  refine zrReg ?_
  refine zlRun (n := 3) (j := 3) rfl (by kernel_rfl) ?_
  refine zlEnd (by kernel_rfl) ?_
  refine zkNil ?_
  exact endQ hS hQ (finL_n (by show keepSt _ _ _ _ = _; kernel_rfl))
def f29_l2_j3_J (a1 : GKeys) (a2 : GKeys) (p492 : GKeys) (p493 : GKeys) (p494 : GKeys) (p495 : GKeys) (p496 : Int) (p497 : List UInt8) (p498 : Int) (p499 : Bool) : St := ⟨(up (up (up (up (up (up (up (up (fun _ => .un) 34 (.d (.bool p499))) 33 (.d (.int .i64 p498))) 12 (.d (.str p497))) 11 (.d (.int .i64 p496))) 5 (.r (.ptr 48 0 0))) 4 (.r (.ptr 40 0 0))) 3 (.r (.ptr 32 0 0))) 2 (.r (.ptr 24 0 0))), (up (up (up (up (hB fun _ => 0) 48 ⟨0, some (.box ((eU8.row 19 p495.Levels) ++ ((eU8.row 19 p495.Chars) ++ [])))⟩) 40 ⟨0, some (.box ((eU8.row 19 p494.Levels) ++ ((eU8.row 19 p494.Chars) ++ [])))⟩) 32 ⟨0, some (.box ((eU8.row 19 p493.Levels) ++ ((eU8.row 19 p493.Chars) ++ [])))⟩) 24 ⟨0, some (.box ((eU8.row 19 p492.Levels) ++ ((eU8.row 19 p492.Chars) ++ [])))⟩)⟩
noncomputable def f29_l2_j3 (a1 : GKeys) (a2 : GKeys) (p492 : GKeys) (p493 : GKeys) (p494 : GKeys) (p495 : GKeys) (p496 : Int) (p497 : List UInt8) (p498 : Int) (p499 : Bool) : Option ((GKeys × GKeys × GKeys × GKeys × Int × (List UInt8)) ⊕ ((GKeys × GKeys × GKeys × GKeys × Int))) := (bif (decide ((Int.tmod p496 2) = 1)) then (f29_l2_j4 a1 a2 p492 p493 p494 p495 p496 p497 p498 p499) else (f29_l2_j5 a1 a2 p492 p493 p494 p495 p496 p497 p498 p499))
theorem f29_l2_j3_ok {base : Orc} {d : Nat} (hd : 3 ≤ d) (a1 : GKeys) (a2 : GKeys) {r : (GKeys × GKeys × GKeys × GKeys × Int × (List UInt8)) ⊕ ((GKeys × GKeys × GKeys × GKeys × Int))} {Q : PX → St → Prop} (hQ : ∀ e st', finL (f29_l2_H a1 a2) (f29_l2_X a1 a2) r e st' → Q e st') (p492 : GKeys) (p493 : GKeys) (p494 : GKeys) (p495 : GKeys) (p496 : Int) (p497 : List UInt8) (p498 : Int) (p499 : Bool) (hS : f29_l2_j3 a1 a2 p492 p493 p494 p495 p496 p497 p498 p499 = some r) {st : St} (he : keepSt [2, 3, 4, 5, 11, 12, 33, 34] [(24, .id 24), (32, .id 32), (40, .id 40), (48, .id 48)] [] st = f29_l2_j3_J a1 a2 p492 p493 p494 p495 p496 p497 p498 p499) : ZR (lev codes base (d - 1)) Q c29_4 [] st := by
  refine zrKeep he ?_
  unfold f29_l2_j3 at hS
  refine zrSeq ?_
  refine zrBlk ?_
  refine zrSeq ?_
  refine zrReg ?_
  refine zlRun (n := 1) (j := 1) rfl (by kernel_rfl) ?_
  refine zlEnd (by kernel_rfl) ?_
  refine zkSeq ?_
  refine zrSeq ?_
  refine zrSeq ?_
  refine zrReg ?_
  refine zlRun (n := 2) (j := 2) rfl (by kernel_rfl) ?_
  refine zlBool (d := 40) (op := (.cmpI .eql (.tmp 39) (.const (.int .i64 1)))) (g := none) (j := 3) (decide ((Int.tmod p496 2) = 1)) rfl (by kernel_rfl) (by kernel_rfl) (by kernel_rfl) (fun hc => ?_) (fun hc => ?_)
  · replace hS := cond_t hc hS
    refine zlEnd (by kernel_rfl) ?_
    refine zkSeq ?_
    refine zrCondT (by kernel_rfl) ?_
    refine zrReg ?_
    refine zlRun (n := 1) (j := 1) rfl (by kernel_rfl) ?_
    refine zlEnd (by kernel_rfl) ?_
    refine zkSeq ?_
    exact f29_l2_j4_ok hd a1 a2 hQ p492 p493 p494 p495 p496 p497 p498 p499 hS (by kernel_rfl)
  · replace hS := cond_f hc hS
    refine zlEnd (by kernel_rfl) ?_
    refine zkSeq ?_
    refine zrCondF (by kernel_rfl) ?_
    refine zrSkip ?_
    refine zkSeq ?_
    exact f29_l2_j5_ok hd a1 a2 hQ p492 p493 p494 p495 p496 p497 p498 p499 hS (by kernel_rfl)
noncomputable def f29_l2 (a1 : GKeys) (a2 : GKeys) (x : GKeys × GKeys × GKeys × GKeys × Int × (List UInt8)) : Option ((GKeys × GKeys × GKeys × GKeys × Int × (List UInt8)) ⊕ ((GKeys × GKeys × GKeys × GKeys × Int))) := (bif (!decide (x.2.2.2.2.2 = ([] : List UInt8))) then (bif (decide (x.2.2.2.2.1 < 10)) then (f29_l2_j3 a1 a2 x.1 x.2.1 x.2.2.1 x.2.2.2.1 x.2.2.2.2.1 x.2.2.2.2.2 x.2.2.2.2.1 true) else (some (.inr (x.1, x.2.1, x.2.2.1, x.2.2.2.1, x.2.2.2.2.1)))) else (some (.inr (x.1, x.2.1, x.2.2.1, x.2.2.2.1, x.2.2.2.2.1))))
theorem f29_l2_ok {base : Orc} {d : Nat} (hd : 3 ≤ d) (a1 : GKeys) (a2 : GKeys) {r : (GKeys × GKeys × GKeys × GKeys × Int × (List UInt8)) ⊕ ((GKeys × GKeys × GKeys × GKeys × Int))} {Q : PX → St → Prop} (hQ : ∀ e st', finL (f29_l2_H a1 a2) (f29_l2_X a1 a2) r e st' → Q e st') {x : GKeys × GKeys × GKeys × GKeys × Int × (List UInt8)} (hS : f29_l2 a1 a2 x = some r) {st : St} (he : f29_l2_H a1 a2 x st) : ZR (lev codes base (d - 1)) Q c29_5 [] st := by
  refine zrKeep he ?_
  unfold f29_l2 at hS
  refine zrSeq ?_
  refine zrSeq ?_
  refine zrReg ?_
  refine zlRun (n := 1) (j := 1) rfl (by kernel_rfl) ?_
  refine zlBool (d := 31) (op := (.strO .neq (.tmp 30) (.const (.string ⟨#[]⟩)))) (g := none) (j := 2) (!decide (x.2.2.2.2.2 = ([] : List UInt8))) rfl (by kernel_rfl) (by kernel_rfl) (by kernel_rfl) (fun hc => ?_) (fun hc => ?_)
  · replace hS := cond_t hc hS
    refine zlRun (n := 2) (j := 4) rfl (by kernel_rfl) ?_
    refine zlBool (d := 34) (op := (.cmpI .lss (.tmp 33) (.const (.int .i64 10)))) (g := (some (32, true))) (j := 5) (decide (x.2.2.2.2.1 < 10)) rfl (by kernel_rfl) (by kernel_rfl) (by kernel_rfl) (fun hc => ?_) (fun hc => ?_)
    · replace hS := cond_t hc hS
      refine zlRun (n := 1) (j := 6) rfl (by kernel_rfl) ?_
      refine zlEnd (by kernel_rfl) ?_
      refine zkSeq ?_
      refine zrCondT (by kernel_rfl) ?_
      refine zrSkip ?_
      refine zkSeq ?_
      exact f29_l2_j3_ok hd a1 a2 hQ x.1 x.2.1 x.2.2.1 x.2.2.2.1 x.2.2.2.2.1 x.2.2.2.2.2 x.2.2.2.2.1 true hS (by kernel_rfl)
    · replace hS := cond_f hc hS
      refine zlRun (n := 1) (j := 6) rfl (by kernel_rfl) ?_
      refine zlEnd (by kernel_rfl) ?_
      refine zkSeq ?_
      refine zrCondF (by kernel_rfl) ?_
      refine zrKeep (J := f29_l2_e2_J a1 a2 x.1 x.2.1 x.2.2.1 x.2.2.2.1 x.2.2.2.2.1) (by kernel_rfl) ?_
      refine zrExit ?_
      refine zkSeqX ?_
      refine zkNil ?_
      exact endQ hS hQ (finL_x (by intro h; cases h) (by show _ = _ ∧ _ = _; exact ⟨rfl, rfl⟩))
  · replace hS := cond_f hc hS
    refine zlRun (n := 4) (j := 6) rfl (by kernel_rfl) ?_
    refine zlEnd (by kernel_rfl) ?_
    refine zkSeq ?_
    refine zrCondF (by kernel_rfl) ?_
    refine zrKeep (J := f29_l2_e2_J a1 a2 x.1 x.2.1 x.2.2.1 x.2.2.2.1 x.2.2.2.2.1) (by kernel_rfl) ?_
    refine zrExit ?_
    refine zkSeqX ?_
    refine zkNil ?_
    exact endQ hS hQ (finL_x (by intro h; cases h) (by show _ = _ ∧ _ = _; exact ⟨rfl, rfl⟩))
def f29_j0_J (a1 : GKeys) (a2 : GKeys) (p176 : GKeys) (p177 : GKeys) : St := ⟨(up (up (up (up (fun _ => .un) 5 (.r (.ptr 48 0 0))) 4 (.r (.ptr 40 0 0))) 3 (.r (.ptr 32 0 0))) 2 (.r (.ptr 24 0 0))), (up (up (up (up (hB fun _ => 0) 48 ⟨0, some (.box ((eU8.row 19 p177.Levels) ++ ((eU8.row 19 p177.Chars) ++ [])))⟩) 40 ⟨0, some (.box ((eU8.row 19 p176.Levels) ++ ((eU8.row 19 p176.Chars) ++ [])))⟩) 32 ⟨0, some (.box ((eU8.row 19 a2.Levels) ++ ((eU8.row 19 a2.Chars) ++ [])))⟩) 24 ⟨0, some (.box ((eU8.row 19 a1.Levels) ++ ((eU8.row 19 a1.Chars) ++ [])))⟩)⟩
noncomputable def f29_j0 (a1 : GKeys) (a2 : GKeys) (p176 : GKeys) (p177 : GKeys) : Option (GKeys × GKeys × Int × Int) := ((f38 a1).bind fun z23 => ((loopO (f29_l2 a1 a2) (a1, a2, p176, p177, 0, z23)).bind fun z33 => (f29_j1 a1 a2 z33.1 z33.2.1 z33.2.2.1 z33.2.2.2.1 z33.2.2.2.2)))
theorem f29_j0_ok {base : Orc} {d : Nat} (hd : 3 ≤ d) (a1 : GKeys) (a2 : GKeys) {r : GKeys × GKeys × Int × Int} {Q : PX → St → Prop} (hQ : ∀ e st', f29_Q r e st' → Q e st') (p176 : GKeys) (p177 : GKeys) (hS : f29_j0 a1 a2 p176 p177 = some r) {st : St} (he : keepSt [2, 3, 4, 5] [(24, .id 24), (32, .id 32), (40, .id 40), (48, .id 48)] [] st = f29_j0_J a1 a2 p176 p177) : ZR (lev codes base (d - 1)) Q c29_6 [] st := by
  refine zrKeep he ?_
  unfold f29_j0 at hS
  refine zrSeq ?_
  refine zrReg ?_
  refine zlRun (n := 1) (j := 1) rfl (by kernel_rfl) ?_
  refine zlEnd (by kernel_rfl) ?_
  refine zkSeq ?_
  refine zrSeq ?_
  refine zrSeq ?_
  refine zrReg ?_
  refine zlRun (n := 1) (j := 1) rfl (by kernel_rfl) ?_
  refine bindE hS (fun z23 hz23 hS => ?_)
  refine zlOp (d := some 29) (op := (.call 38 [(.tmp 28)])) (g := none) (v := (.d (.str z23))) (ups := []) (j := 2) rfl (by kernel_rfl) (by kernel_rfl) (ev_call (args := [(.agg ((eU8.row 19 a1.Levels) ++ ((eU8.row 19 a1.Chars) ++ [])))]) (l := [(.agg ((eU8.row 19 a1.Levels) ++ ((eU8.row 19 a1.Chars) ++ [])))]) (r := (.d (.str z23))) (by kernel_rfl) (by kernel_rfl) (f38_ok base (d - 1) (dpt hd rfl) a1 z23 hz23) (by kernel_rfl) (by kernel_rfl) (by kernel_rfl)) ?_
  refine zlRun (n := 1) (j := 3) rfl (by kernel_rfl) ?_
  refine zlEnd (by kernel_rfl) ?_
  refine zkSeq ?_
  refine zrBlk ?_
  refine bindE hS (fun z33 hz33 hS => ?_)
  refine zrLoop (f29_l2_H a1 a2) (f29_l2_X a1 a2) (fun x st r Q h0 hS hQ => f29_l2_ok hd a1 a2 hQ hS h0) (x := (a1, a2, p176, p177, 0, z23)) (z := z33) (by show keepSt _ _ _ _ = _; kernel_rfl) hz33 ?_
  intro e st' _ hX
  obtain ⟨rfl, rfl⟩ : _ ∧ _ := hX
  refine zkBlkX ?_
  refine zkSeq ?_
  exact f29_j1_ok hd a1 a2 hQ z33.1 z33.2.1 z33.2.2.1 z33.2.2.2.1 z33.2.2.2.2 hS (by kernel_rfl)
def f29_j7_J (a1 : GKeys) (a2 : GKeys) (p540 : GKeys) (p541 : GKeys) : St := ⟨(up (up (up (up (up (up (fun _ => .un) 17 (.d (.int .i64 1))) 16 (.agg ((eU8.row 19 a1.Levels) ++ ((eU8.row 19 a1.Chars) ++ ((eU8.row 19 a2.Levels) ++ ((eU8.row 19 a2.Chars) ++ [])))))) 5 (.r (.ptr 48 0 0))) 4 (.r (.ptr 40 0 0))) 3 (.r (.ptr 32 0 0))) 2 (.r (.ptr 24 0 0))), (up (up (up (up (hB fun _ => 0) 48 ⟨0, some (.box ((eU8.row 19 p541.Levels) ++ ((eU8.row 19 p541.Chars) ++ [])))⟩) 40 ⟨0, some (.box ((eU8.row 19 p540.Levels) ++ ((eU8.row 19 p540.Chars) ++ [])))⟩) 32 ⟨0, some (.box ((eU8.row 19 a2.Levels) ++ ((eU8.row 19 a2.Chars) ++ [])))⟩) 24 ⟨0, some (.box ((eU8.row 19 a1.Levels) ++ ((eU8.row 19 a1.Chars) ++ [])))⟩)⟩
noncomputable def f29_j7 (a1 : GKeys) (a2 : GKeys) (p540 : GKeys) (p541 : GKeys) : Option (GKeys × GKeys × Int × Int) := ((f36 a2).bind fun z36 => (bif (!decide (z36 = 0)) then (some ((GKeys.mk (fun _ => 0) (fun _ => 0)), (GKeys.mk (fun _ => 0) (fun _ => 0)), 0, z36)) else (f29_j0 a1 a2 p540 p541)))
theorem f29_j7_ok {base : Orc} {d : Nat} (hd : 3 ≤ d) (a1 : GKeys) (a2 : GKeys) {r : GKeys × GKeys × Int × Int} {Q : PX → St → Prop} (hQ : ∀ e st', f29_Q r e st' → Q e st') (p540 : GKeys) (p541 : GKeys) (hS : f29_j7 a1 a2 p540 p541 = some r) {st : St} (he : keepSt [2, 3, 4, 5, 16, 17] [(24, .id 24), (32, .id 32), (40, .id 40), (48, .id 48)] [] st = f29_j7_J a1 a2 p540 p541) : ZR (lev codes base (d - 1)) Q c29_7 [.seq c29_8, .blk 0, .seq c29_6] st := by
  refine zrKeep he ?_
  unfold f29_j7 at hS
  refine zrSeq ?_
  refine zrBlk ?_
  refine zrSeq ?_
  refine zrReg ?_
  refine zlRun (n := 3) (j := 3) rfl (by kernel_rfl) ?_
  refine zlEnd (by kernel_rfl) ?_
  refine zkSeq ?_
  refine zrSeq ?_
  refine zrReg ?_
  refine zlRun (n := 1) (j := 1) rfl (by kernel_rfl) ?_
  refine bindE hS (fun z36 hz36 hS => ?_)
  refine zlOp (d := some 21) (op := (.call 36 [(.tmp 20)])) (g := none) (v := (.d (.int .i64 z36))) (ups := []) (j := 2) rfl (by kernel_rfl) (by kernel_rfl) (ev_call (args := [(.agg ((eU8.row 19 a2.Levels) ++ ((eU8.row 19 a2.Chars) ++ [])))]) (l := [(.agg ((eU8.row 19 a2.Levels) ++ ((eU8.row 19 a2.Chars) ++ [])))]) (r := (.d (.int .i64 z36))) (by kernel_rfl) (by kernel_rfl) (f36_ok base (d - 1) (dpt hd rfl) a2 z36 hz36) (by kernel_rfl) (by kernel_rfl) (by kernel_rfl)) ?_
  refine zlRun (n := 1) (j := 3) rfl (by kernel_rfl) ?_
  refine zlEnd (by kernel_rfl) ?_
  refine zkSeq ?_
  refine zrSeq ?_
  refine zrReg ?_
  refine zlRun (n := 1) (j := 1) rfl (by kernel_rfl) ?_
  refine zlBool (d := 23) (op := (.cmpI .neq (.tmp 22) (.const (.int .i64 0)))) (g := none) (j := 2) (!decide (z36 = 0)) rfl (by kernel_rfl) (by kernel_rfl) (by kernel_rfl) (fun hc => ?_) (fun hc => ?_)
  · replace hS := cond_t hc hS
    refine zlEnd (by kernel_rfl) ?_
    refine zkSeq ?_
    refine zrCondT (by kernel_rfl) ?_
    refine zrSeq ?_
    refine zrReg ?_
    refine zlRun (n := 7) (j := 7) rfl (by kernel_rfl) ?_
    refine zlEnd (by kernel_rfl) ?_
    refine zkSeq ?_
    refine zrRet ?_
    refine zkBlkR ?_
    refine zkSeqR ?_
    refine zkSeqR ?_
    refine zkBlkR ?_
    refine zkSeqR ?_
    refine zkNil ?_
    exact endQ hS hQ (fRet ((congrArg (fun s => outR s 0 c29.res) (by kernel_rfl : finSt c29.fin _ = f29_fin (GKeys.mk (fun _ => 0) (fun _ => 0)) (GKeys.mk (fun _ => 0) (fun _ => 0)) 0 z36)).trans (f29_out (GKeys.mk (fun _ => 0) (fun _ => 0)) (GKeys.mk (fun _ => 0) (fun _ => 0)) 0 z36)))
  · replace hS := cond_f hc hS
    refine zlEnd (by kernel_rfl) ?_
    refine zkSeq ?_
    refine zrCondF (by kernel_rfl) ?_
    refine zrSkip ?_
    refine zkBlk ?_
    refine zkSeq ?_
    refine zrReg ?_
    refine zlRun (n := 2) (j := 2) rfl (by kernel_rfl) ?_
    refine zlEnd (by kernel_rfl) ?_
    refine zkSeq ?_
    refine zrLoop1 ?_
    refine zrSeq ?_
    refine zrReg ?_
    refine zlRun (n := 1) (j := 1) rfl (by kernel_rfl) ?_
    refine zlEnd (by kernel_rfl) ?_
    refine zkSeq ?_
    refine zrSeq ?_
    refine zrCondF (by kernel_rfl) ?_
    refine zrExit ?_
    refine zkSeqX ?_
    refine zkSeqX ?_
    refine zkBlkX ?_
    refine zkSeq ?_
    exact f29_j0_ok hd a1 a2 hQ p540 p541 hS (by kernel_rfl)
def f29_j6_J (a1 : GKeys) (a2 : GKeys) (p534 : GKeys) (p535 : GKeys) : St := ⟨(up (up (up (up (up (up (fun _ => .un) 17 (.d (.int .i64 0))) 16 (.agg ((eU8.row 19 a1.Levels) ++ ((eU8.row 19 a1.Chars) ++ ((eU8.row 19 a2.Levels) ++ ((eU8.row 19 a2.Chars) ++ [])))))) 5 (.r (.ptr 48 0 0))) 4 (.r (.ptr 40 0 0))) 3 (.r (.ptr 32 0 0))) 2 (.r (.ptr 24 0 0))), (up (up (up (up (hB fun _ => 0) 48 ⟨0, some (.box ((eU8.row 19 p535.Levels) ++ ((eU8.row 19 p535.Chars) ++ [])))⟩) 40 ⟨0, some (.box ((eU8.row 19 p534.Levels) ++ ((eU8.row 19 p534.Chars) ++ [])))⟩) 32 ⟨0, some (.box ((eU8.row 19 a2.Levels) ++ ((eU8.row 19 a2.Chars) ++ [])))⟩) 24 ⟨0, some (.box ((eU8.row 19 a1.Levels) ++ ((eU8.row 19 a1.Chars) ++ [])))⟩)⟩
noncomputable def f29_j6 (a1 : GKeys) (a2 : GKeys) (p534 : GKeys) (p535 : GKeys) : Option (GKeys × GKeys × Int × Int) := ((f36 a1).bind fun z34 => (bif (!decide (z34 = 0)) then (some ((GKeys.mk (fun _ => 0) (fun _ => 0)), (GKeys.mk (fun _ => 0) (fun _ => 0)), 0, z34)) else (f29_j7 a1 a2 p534 p535)))
theorem f29_j6_ok {base : Orc} {d : Nat} (hd : 3 ≤ d) (a1 : GKeys) (a2 : GKeys) {r : GKeys × GKeys × Int × Int} {Q : PX → St → Prop} (hQ : ∀ e st', f29_Q r e st' → Q e st') (p534 : GKeys) (p535 : GKeys) (hS : f29_j6 a1 a2 p534 p535 = some r) {st : St} (he : keepSt [2, 3, 4, 5, 16, 17] [(24, .id 24), (32, .id 32), (40, .id 40), (48, .id 48)] [] st = f29_j6_J a1 a2 p534 p535) : ZR (lev codes base (d - 1)) Q c29_7 [.seq c29_8, .blk 0, .seq c29_6] st := by
  refine zrKeep he ?_
  unfold f29_j6 at hS
  refine zrSeq ?_
  refine zrBlk ?_
  refine zrSeq ?_
  refine zrReg ?_
  refine zlRun (n := 3) (j := 3) rfl (by kernel_rfl) ?_
  refine zlEnd (by kernel_rfl) ?_
  refine zkSeq ?_
  refine zrSeq ?_
  refine zrReg ?_
  refine zlRun (n := 1) (j := 1) rfl (by kernel_rfl) ?_
  refine bindE hS (fun z34 hz34 hS => ?_)
  refine zlOp (d := some 21) (op := (.call 36 [(.tmp 20)])) (g := none) (v := (.d (.int .i64 z34))) (ups := []) (j := 2) rfl (by kernel_rfl) (by kernel_rfl) (ev_call (args := [(.agg ((eU8.row 19 a1.Levels) ++ ((eU8.row 19 a1.Chars) ++ [])))]) (l := [(.agg ((eU8.row 19 a1.Levels) ++ ((eU8.row 19 a1.Chars) ++ [])))]) (r := (.d (.int .i64 z34))) (by kernel_rfl) (by kernel_rfl) (f36_ok base (d - 1) (dpt hd rfl) a1 z34 hz34) (by kernel_rfl) (by kernel_rfl) (by kernel_rfl)) ?_
  refine zlRun (n := 1) (j := 3) rfl (by kernel_rfl) ?_
  refine zlEnd (by kernel_rfl) ?_
  refine zkSeq ?_
  refine zrSeq ?_
  refine zrReg ?_
  refine zlRun (n := 1) (j := 1) rfl (by kernel_rfl) ?_
  refine zlBool (d := 23) (op := (.cmpI .neq (.tmp 22) (.const (.int .i64 0)))) (g := none) (j := 2) (!decide (z34 = 0)) rfl (by kernel_rfl) (by kernel_rfl) (by kernel_rfl) (fun hc => ?_) (fun hc => ?_)
  · replace hS := cond_t hc hS
    refine zlEnd (by kernel_rfl) ?_
    refine zkSeq ?_
    refine zrCondT (by kernel_rfl) ?_
    refine zrSeq ?_
    refine zrReg ?_
    refine zlRun (n := 7) (j := 7) rfl (by kernel_rfl) ?_
    refine zlEnd (by kernel_rfl) ?_
    refine zkSeq ?_
    refine zrRet ?_
    refine zkBlkR ?_
    refine zkSeqR ?_
    refine zkSeqR ?_
    refine zkBlkR ?_
    refine zkSeqR ?_
    refine zkNil ?_
    exact endQ hS hQ (fRet ((congrArg (fun s => outR s 0 c29.res) (by kernel_rfl : finSt c29.fin _ = f29_fin (GKeys.mk (fun _ => 0) (fun _ => 0)) (GKeys.mk (fun _ => 0) (fun _ => 0)) 0 z34)).trans (f29_out (GKeys.mk (fun _ => 0) (fun _ => 0)) (GKeys.mk (fun _ => 0) (fun _ => 0)) 0 z34)))
  · replace hS := cond_f hc hS
    refine zlEnd (by kernel_rfl) ?_
    refine zkSeq ?_
    refine zrCondF (by kernel_rfl) ?_
    refine zrSkip ?_
    refine zkBlk ?_
    refine zkSeq ?_
    refine zrReg ?_
    refine zlRun (n := 2) (j := 2) rfl (by kernel_rfl) ?_
    refine zlEnd (by kernel_rfl) ?_
    refine zkSeq ?_
    refine zrLoop1 ?_
    refine zrSeq ?_
    refine zrReg ?_
    refine zlRun (n := 1) (j := 1) rfl (by kernel_rfl) ?_
    refine zlEnd (by kernel_rfl) ?_
    refine zkSeq ?_
    refine zrSeq ?_
    refine zrCondT (by kernel_rfl) ?_
    refine zrSkip ?_
    refine zkSeq ?_
    exact f29_j7_ok hd a1 a2 hQ p534 p535 hS (by kernel_rfl)
noncomputable def f29 (a1 : GKeys) (a2 : GKeys) : Option (GKeys × GKeys × Int × Int) := (f29_j6 a1 a2 (GKeys.mk (fun _ => 0) (fun _ => 0)) (GKeys.mk (fun _ => 0) (fun _ => 0)))
theorem f29_ok (base : Orc) (d : Nat) (hd : 3 ≤ d) (a1 : GKeys) (a2 : GKeys) (r : GKeys × GKeys × Int × Int) (hS : f29 a1 a2 = some r) : lev codes base d 29 [(.agg ((eU8.row 19 a1.Levels) ++ ((eU8.row 19 a1.Chars) ++ []))), (.agg ((eU8.row 19 a2.Levels) ++ ((eU8.row 19 a2.Chars) ++ [])))] [] = some ((.tup [(.agg ((eU8.row 19 r.1.Levels) ++ ((eU8.row 19 r.1.Chars) ++ []))), (.agg ((eU8.row 19 r.2.1.Levels) ++ ((eU8.row 19 r.2.1.Chars) ++ []))), (.d (.int .i64 r.2.2.1)), (.d (.int .i64 r.2.2.2))]), []) := by
  refine lev_go codes29 rfl rfl (Nat.le_trans (Nat.le_of_ble_eq_true rfl) hd) fun Q hQ => ?_
  unfold f29 at hS
  show ZR _ Q c29_b [] _
  replace hQ : ∀ e st', f29_Q r e st' → Q e st' := hQ
  refine zrSeq ?_
  refine zrReg ?_
  refine zlRun (n := 6) (j := 6) rfl (by kernel_rfl) ?_
  refine zlEnd (by kernel_rfl) ?_
  refine zkSeq ?_
  refine zrSeq ?_
  refine zrSeq ?_
  refine zrReg ?_
  refine zlRun (n := 4) (j := 4) rfl (by kernel_rfl) ?_
  refine zlEnd (by kernel_rfl) ?_
  refine zkSeq ?_
  refine zrBlk ?_
  refine zrLoop1 ?_
  refine zrSeq ?_
  refine zrReg ?_
  refine zlRun (n := 1) (j := 1) rfl (by kernel_rfl) ?_
  refine zlEnd (by kernel_rfl) ?_
  refine zkSeq ?_
  refine zrSeq ?_
  refine zrCondT (by kernel_rfl) ?_
  refine zrSkip ?_
  refine zkSeq ?_
  exact f29_j6_ok hd a1 a2 hQ (GKeys.mk (fun _ => 0) (fun _ => 0)) (GKeys.mk (fun _ => 0) (fun _ => 0)) hS (by kernel_rfl)
/- farwriter/farkeep.slcLives -/
def f27_fin (p5 : Bool) : St := ⟨(up (fun _ => .un) 0 (.d (.bool p5))), (hB fun _ => 0)⟩
theorem f27_out (p5 : Bool) : outR (f27_fin p5) 0 c27.res = some ((.d (.bool p5)), []) := by
  kernel_rfl
def f27_Q (r : Bool) (e : PX) (st : St) : Prop := DoneF c27 0 ((.d (.bool r)), []) e st
noncomputable def f27  : Option (Bool) := ((f26 (GKeys.mk (fun _ => 0) (fun _ => 0)) [10, 2, 127]).bind fun z2 => (bif (decide (z2.2.2 = 0)) then (bif (decide (z2.2.1 = ([10, 130, 127] : List UInt8))) then (bif (decide (((z2.1.Levels 10).toNat : Int) = 2)) then (bif (decide (((z2.1.Chars 10).toNat : Int) = 127)) then (some true) else (some false)) else (some false)) else (some false)) else (some false)))
theorem f27_ok (base : Orc) (d : Nat) (hd : 3 ≤ d)  (r : Bool) (hS : f27 = some r) : lev codes base d 27 [] [] = some ((.d (.bool r)), []) := by
  refine lev_go codes27 rfl rfl (Nat.le_trans (Nat.le_of_ble_eq_true rfl) hd) fun Q hQ => ?_
  unfold f27 at hS
  show ZR _ Q c27_b [] _
  replace hQ : ∀ e st', f27_Q r e st' → Q e st' := hQ
  refine zrSeq ?_
  refine zrReg ?_
  refine zlRun (n := 1) (j := 1) rfl (by kernel_rfl) ?_
  refine zlEnd (by kernel_rfl) ?_
  refine zkSeq ?_
  refine zrSeq ?_
  refine zrReg ?_
  refine zlRun (n := 1) (j := 1) rfl (by kernel_rfl) ?_
  refine bindE hS (fun z2 hz2 hS => ?_)
  refine zlOp (d := some 6) (op := (.call 26 [(.tmp 5), (.const (.string ⟨#[10, 2, 127]⟩))])) (g := none) (v := (.tup [(.agg ((eU8.row 19 z2.1.Levels) ++ ((eU8.row 19 z2.1.Chars) ++ []))), (.d (.str z2.2.1)), (.d (.int .i64 z2.2.2))])) (ups := []) (j := 2) rfl (by kernel_rfl) (by kernel_rfl) (ev_call (args := [(.agg ((eU8.row 19 (fun _ => 0)) ++ ((eU8.row 19 (fun _ => 0)) ++ []))), (.d (.str ([10, 2, 127])))]) (l := [(.agg ((eU8.row 19 (fun _ => 0)) ++ ((eU8.row 19 (fun _ => 0)) ++ []))), (.d (.str ([10, 2, 127])))]) (r := (.tup [(.agg ((eU8.row 19 z2.1.Levels) ++ ((eU8.row 19 z2.1.Chars) ++ []))), (.d (.str z2.2.1)), (.d (.int .i64 z2.2.2))])) (by kernel_rfl) (by kernel_rfl) (f26_ok base (d - 1) (dpt hd rfl) (GKeys.mk (fun _ => 0) (fun _ => 0)) [10, 2, 127] z2 hz2) (by kernel_rfl) (by kernel_rfl) (by kernel_rfl)) ?_
  refine zlRun (n := 8) (j := 10) rfl (by kernel_rfl) ?_
  refine zlEnd (by kernel_rfl) ?_
  refine zkSeq ?_
  refine zrSeq ?_
  refine zrReg ?_
  refine zlRun (n := 1) (j := 1) rfl (by kernel_rfl) ?_
  refine zlBool (d := 11) (op := (.cmpI .eql (.tmp 10) (.const (.int .i64 0)))) (g := none) (j := 2) (decide (z2.2.2 = 0)) rfl (by kernel_rfl) (by kernel_rfl) (by kernel_rfl) (fun hc => ?_) (fun hc => ?_)
  · replace hS := cond_t hc hS
    refine zlRun (n := 2) (j := 4) rfl (by kernel_rfl) ?_
    refine zlBool (d := 14) (op := (.strO .eql (.tmp 13) (.const (.string ⟨#[10, 130, 127]⟩)))) (g := (some (12, true))) (j := 5) (decide (z2.2.1 = ([10, 130, 127] : List UInt8))) rfl (by kernel_rfl) (by kernel_rfl) (by kernel_rfl) (fun hc => ?_) (fun hc => ?_)
    · replace hS := cond_t hc hS
      refine zlRun (n := 5) (j := 10) rfl (by kernel_rfl) ?_
      refine zlBool (d := 20) (op := (.cmpI .eql (.tmp 19) (.const (.int .u8 2)))) (g := (some (16, true))) (j := 11) (decide (((z2.1.Levels 10).toNat : Int) = 2)) rfl (by kernel_rfl) (by kernel_rfl) (by kernel_rfl) (fun hc => ?_) (fun hc => ?_)
      · replace hS := cond_t hc hS
        refine zlRun (n := 5) (j := 16) rfl (by kernel_rfl) ?_
        refine zlBool (d := 26) (op := (.cmpI .eql (.tmp 25) (.const (.int .u8 127)))) (g := (some (22, true))) (j := 17) (decide (((z2.1.Chars 10).toNat : Int) = 127)) rfl (by kernel_rfl) (by kernel_rfl) (by kernel_rfl) (fun hc => ?_) (fun hc => ?_)
        · replace hS := cond_t hc hS
          refine zlRun (n := 2) (j := 19) rfl (by kernel_rfl) ?_
          refine zlEnd (by kernel_rfl) ?_
          refine zkSeq ?_
          refine zrRet ?_
          refine zkNil ?_
          exact endQ hS hQ (fRet ((congrArg (fun s => outR s 0 c27.res) (by kernel_rfl : finSt c27.fin _ = f27_fin true)).trans (f27_out true)))
        · replace hS := cond_f hc hS
          refine zlRun (n := 2) (j := 19) rfl (by kernel_rfl) ?_
          refine zlEnd (by kernel_rfl) ?_
          refine zkSeq ?_
          refine zrRet ?_
          refine zkNil ?_
          exact endQ hS hQ (fRet ((congrArg (fun s => outR s 0 c27.res) (by kernel_rfl : finSt c27.fin _ = f27_fin false)).trans (f27_out false)))
      · replace hS := cond_f hc hS
        refine zlRun (n := 8) (j := 19) rfl (by kernel_rfl) ?_
        refine zlEnd (by kernel_rfl) ?_
        refine zkSeq ?_
        refine zrRet ?_
        refine zkNil ?_
        exact endQ hS hQ (fRet ((congrArg (fun s => outR s 0 c27.res) (by kernel_rfl : finSt c27.fin _ = f27_fin false)).trans (f27_out false)))
    · replace hS := cond_f hc hS
      refine zlRun (n := 14) (j := 19) rfl (by kernel_rfl) ?_
      refine zlEnd (by kernel_rfl) ?_
      refine zkSeq ?_
      refine zrRet ?_
      refine zkNil ?_
      exact endQ hS hQ (fRet ((congrArg (fun s => outR s 0 c27.res) (by kernel_rfl : finSt c27.fin _ = f27_fin false)).trans (f27_out false)))
  · replace hS := cond_f hc hS
    refine zlRun (n := 17) (j := 19) rfl (by kernel_rfl) ?_
    refine zlEnd (by kernel_rfl) ?_
    refine zkSeq ?_
    refine zrRet ?_
    refine zkNil ?_
    exact endQ hS hQ (fRet ((congrArg (fun s => outR s 0 c27.res) (by kernel_rfl : finSt c27.fin _ = f27_fin false)).trans (f27_out false)))
/- farwriter/farref.KeysRight -/
def f28_fin (p50 : Int) : St := ⟨(up (fun _ => .un) 2 (.d (.int .i64 p50))), (hB fun _ => 0)⟩
theorem f28_out (p50 : Int) : outR (f28_fin p50) 0 c28.res = some ((.d (.int .i64 p50)), []) := by
  kernel_rfl
def f28_Q (r : Int) (e : PX) (st : St) : Prop := DoneF c28 0 ((.d (.int .i64 r)), []) e st
def f28_j0_J (a1 : GKeys) : St := ⟨(up (fun _ => .un) 1 (.r (.ptr 16 0 0))), (up (hB fun _ => 0) 16 ⟨0, some (.box ((eU8.row 19 a1.Levels) ++ ((eU8.row 19 a1.Chars) ++ [])))⟩)⟩
noncomputable def f28_j0 (a1 : GKeys) : Option (Int) := (bif (decide (0 < ((a1.Chars 0).toNat : Int))) then (some 4) else (some 0))
theorem f28_j0_ok {base : Orc} {d : Nat} (hd : 1 ≤ d) (a1 : GKeys) {r : Int} {Q : PX → St → Prop} (hQ : ∀ e st', f28_Q r e st' → Q e st')  (hS : f28_j0 a1 = some r) {st : St} (he : keepSt [1] [(16, .id 16)] [] st = f28_j0_J a1) : ZR (lev codes base (d - 1)) Q c28_1 [] st := by
  refine zrKeep he ?_
  unfold f28_j0 at hS
  refine zrSeq ?_
  refine zrSeq ?_
  refine zrReg ?_
  refine zlRun (n := 3) (j := 3) rfl (by kernel_rfl) ?_
  refine zlBool (d := 32) (op := (.cmpI .gtr (.tmp 31) (.const (.int .u8 0)))) (g := none) (j := 4) (decide (0 < ((a1.Chars 0).toNat : Int))) rfl (by kernel_rfl) (by kernel_rfl) (by kernel_rfl) (fun hc => ?_) (fun hc => ?_)
  · replace hS := cond_t hc hS
    refine zlEnd (by kernel_rfl) ?_
    refine zkSeq ?_
    refine zrCondT (by kernel_rfl) ?_
    refine zrSeq ?_
    refine zrReg ?_
    refine zlRun (n := 1) (j := 1) rfl (by kernel_rfl) ?_
    refine zlEnd (by kernel_rfl) ?_
    refine zkSeq ?_
    refine zrRet ?_
    refine zkSeqR ?_
    refine zkNil ?_
    exact endQ hS hQ (fRet ((congrArg (fun s => outR s 0 c28.res) (by kernel_rfl : finSt c28.fin _ = f28_fin 4)).trans (f28_out 4)))
  · replace hS := cond_f hc hS
    refine zlEnd (by kernel_rfl) ?_
    refine zkSeq ?_
    refine zrCondF (by kernel_rfl) ?_
    refine zrSkip ?_
    refine zkSeq ?_
    refine zrSeq ?_
    refine zrReg ?_
    refine zlRun (n := 1) (j := 1) rfl (by kernel_rfl) ?_
    refine zlEnd (by kernel_rfl) ?_
    refine zkSeq ?_
    refine zrRet ?_
    refine zkNil ?_
    exact endQ hS hQ (fRet ((congrArg (fun s => outR s 0 c28.res) (by kernel_rfl : finSt c28.fin _ = f28_fin 0)).trans (f28_out 0)))
def f28_l1_J (a1 : GKeys) (x : Int) : St := ⟨(up (up (fun _ => .un) 4 (.d (.int .i64 x))) 1 (.r (.ptr 16 0 0))), (up (hB fun _ => 0) 16 ⟨0, some (.box ((eU8.row 19 a1.Levels) ++ ((eU8.row 19 a1.Chars) ++ [])))⟩)⟩
def f28_l1_H (a1 : GKeys) (x : Int) (st : St) : Prop := keepSt [1, 4] [(16, .id 16)] [] st = f28_l1_J a1 x
def f28_l1_e0_J (a1 : GKeys) : St := ⟨(up (fun _ => .un) 1 (.r (.ptr 16 0 0))), (up (hB fun _ => 0) 16 ⟨0, some (.box ((eU8.row 19 a1.Levels) ++ ((eU8.row 19 a1.Chars) ++ [])))⟩)⟩
def f28_l1_X (a1 : GKeys) (z : Unit ⊕ Int) (e : PX) (st : St) : Prop := (match z with | .inl z => e = .exit 0 ∧ st = f28_l1_e0_J a1 | .inr z => e = .ret ∧ finSt c28.fin st = f28_fin z)
def f28_l1_j3_J (a1 : GKeys) (p55 : Int) : St := ⟨(up (up (fun _ => .un) 4 (.d (.int .i64 p55))) 1 (.r (.ptr 16 0 0))), (up (hB fun _ => 0) 16 ⟨0, some (.box ((eU8.row 19 a1.Levels) ++ ((eU8.row 19 a1.Chars) ++ [])))⟩)⟩
noncomputable def f28_l1_j3 (a1 : GKeys) (p55 : Int) : Option (Int ⊕ (Unit ⊕ Int)) := ((inR p55 19).bind fun m7 => (bif (decide (2 < ((a1.Levels m7).toNat : Int))) then (some (.inr (.inr 4))) else (bif (decide (p55 = 0)) then ((inR p55 19).bind fun m8 => ((inR p55 19).bind fun m9 => (bif (!decide ((((a1.Levels m8) + (a1.Chars m9)).toNat : Int) = 0)) then (some (.inr (.inr 4))) else (some (.inl (IntKind.i64.wrap (p55 + 1))))))) else (some (.inl (IntKind.i64.wrap (p55 + 1)))))))
theorem f28_l1_j3_ok {base : Orc} {d : Nat} (hd : 1 ≤ d) (a1 : GKeys) {r : Int ⊕ (Unit ⊕ Int)} {Q : PX → St → Prop} (hQ : ∀ e st', finL (f28_l1_H a1) (f28_l1_X a1) r e st' → Q e st') (p55 : Int) (hS : f28_l1_j3 a1 p55 = some r) {st : St} (he : keepSt [1, 4] [(16, .id 16)] [] st = f28_l1_j3_J a1 p55) : ZR (lev codes base (d - 1)) Q c28_2 [] st := by
  refine zrKeep he ?_
  unfold f28_l1_j3 at hS
  refine zrSeq ?_
  refine zrBlk ?_
  refine zrSeq ?_
  refine zrReg ?_
  refine zlRun (n := 2) (j := 2) rfl (by kernel_rfl) ?_
  refine zlEnd (by kernel_rfl) ?_
  refine zkSeq ?_
  refine zrSeq ?_
  refine zrRegD ?_
  refine zdRun (n := 2) (j := 2) (ts := [[], []]) (acc' := [[], []]) rfl (by kernel_rfl) (by kernel_rfl) (by kernel_rfl) ?_
  refine bindE hS (fun m7 hm7 hS => ?_)
  refine zdOp (d := some 9) (op := (.ixA 19 1 (.tmp 8) (.tmp 7))) (g := none) (v := (.r (.ptr 16 0 (0 + m7 * 1)))) (ups := []) (j := 3) (t1 := []) (acc' := [[], [], []]) (by kernel_rfl) (by kernel_rfl) rfl (by kernel_rfl) (by kernel_rfl) (ev_ixA (kk := .i64) (b := 16) (g := 0) (o := 0) (j := p55) (by kernel_rfl) (by kernel_rfl) hm7) ?_
  refine zdOp (d := some 10) (op := (.load .false 1 (.tmp 9))) (g := none) (v := (.d (.int .u8 ((a1.Levels m7).toNat : Int)))) (ups := []) (j := 4) (t1 := [(16, false)]) (acc' := [[], [], [], [(16, false)]]) (by kernel_rfl) (by kernel_rfl) rfl (by kernel_rfl) (by kernel_rfl) (ev_loadA eU8 (b := 16) (g := 0) (o := 0 + m7 * 1) (f := a1.Levels) (nn := 19) (m := m7) (fo := 0) (pre := []) (post := ((eU8.row 19 a1.Chars) ++ [])) (by kernel_rfl) (by kernel_rfl) (by kernel_rfl) (inR_lt hm7) (by kernel_rfl) (by kernel_rfl) (by kernel_rfl)) ?_
  refine zdBool (d := 11) (op := (.cmpI .gtr (.tmp 10) (.const (.int .u8 2)))) (g := none) (j := 5) (t1 := []) (acc' := [[], [], [], [(16, false)], []]) (decide (2 < ((a1.Levels m7).toNat : Int))) (by kernel_rfl) (by kernel_rfl) rfl (by kernel_rfl) (by kernel_rfl) (by kernel_rfl) (fun hc => ?_) (fun hc => ?_)
  · replace hS := cond_t hc hS
    refine zdRun (n := 16) (j := 21) (ts := [[], [], [], [], [], [], [], [], [], [], [], [], [], [], [], []]) (acc' := [[], [], [], [(16, false)], [], [], [], [], [], [], [], [], [], [], [], [], [], [], [], [], []]) rfl (by kernel_rfl) (by kernel_rfl) (by kernel_rfl) ?_
    refine zdEnd (by kernel_rfl) (by kernel_rfl) ?_
    refine zkSeq ?_
    refine zrCondT (by kernel_rfl) ?_
    refine zrSeq ?_
    refine zrReg ?_
    refine zlRun (n := 1) (j := 1) rfl (by kernel_rfl) ?_
    refine zlEnd (by kernel_rfl) ?_
    refine zkSeq ?_
    refine zrRet ?_
    refine zkBlkR ?_
    refine zkSeqR ?_
    refine zkNil ?_
    exact endQ hS hQ (finL_x (by intro h; cases h) (by show _ = _ ∧ _ = _; exact ⟨rfl, by kernel_rfl⟩))
  · replace hS := cond_f hc hS
    refine zdRun (n := 2) (j := 7) (ts := [[], []]) (acc' := [[], [], [], [(16, false)], [], [], []]) rfl (by kernel_rfl) (by kernel_rfl) (by kernel_rfl) ?_
    refine zdBool (d := 14) (op := (.cmpI .eql (.tmp 13) (.const (.int .i64 0)))) (g := (some (12, false))) (j := 8) (t1 := []) (acc' := [[], [], [], [(16, false)], [], [], [], []]) (decide (p55 = 0)) (by kernel_rfl) (by kernel_rfl) rfl (by kernel_rfl) (by kernel_rfl) (by kernel_rfl) (fun hc => ?_) (fun hc => ?_)
    · replace hS := cond_t hc hS
      refine zdRun (n := 3) (j := 11) (ts := [[], [], []]) (acc' := [[], [], [], [(16, false)], [], [], [], [], [], [], []]) rfl (by kernel_rfl) (by kernel_rfl) (by kernel_rfl) ?_
      refine bindE hS (fun m8 hm8 hS => ?_)
      refine zdOp (d := some 18) (op := (.ixA 19 1 (.tmp 17) (.tmp 16))) (g := (some (15, true))) (v := (.r (.ptr 16 0 (0 + m8 * 1)))) (ups := []) (j := 12) (t1 := []) (acc' := [[], [], [], [(16, false)], [], [], [], [], [], [], [], []]) (by kernel_rfl) (by kernel_rfl) rfl (by kernel_rfl) (by kernel_rfl) (ev_ixA (kk := .i64) (b := 16) (g := 0) (o := 0) (j := p55) (by kernel_rfl) (by kernel_rfl) hm8) ?_
      refine zdOp (d := some 19) (op := (.load .false 1 (.tmp 18))) (g := (some (15, true))) (v := (.d (.int .u8 ((a1.Levels m8).toNat : Int)))) (ups := []) (j := 13) (t1 := [(16, false)]) (acc' := [[], [], [], [(16, false)], [], [], [], [], [], [], [], [], [(16, false)]]) (by kernel_rfl) (by kernel_rfl) rfl (by kernel_rfl) (by kernel_rfl) (ev_loadA eU8 (b := 16) (g := 0) (o := 0 + m8 * 1) (f := a1.Levels) (nn := 19) (m := m8) (fo := 0) (pre := []) (post := ((eU8.row 19 a1.Chars) ++ [])) (by kernel_rfl) (by kernel_rfl) (by kernel_rfl) (inR_lt hm8) (by kernel_rfl) (by kernel_rfl) (by kernel_rfl)) ?_
      refine zdRun (n := 2) (j := 15) (ts := [[], []]) (acc' := [[], [], [], [(16, false)], [], [], [], [], [], [], [], [], [(16, false)], [], []]) rfl (by kernel_rfl) (by kernel_rfl) (by kernel_rfl) ?_
      refine bindE hS (fun m9 hm9 hS => ?_)
      refine zdOp (d := some 22) (op := (.ixA 19 1 (.tmp 21) (.tmp 20))) (g := (some (15, true))) (v := (.r (.ptr 16 0 (19 + m9 * 1)))) (ups := []) (j := 16) (t1 := []) (acc' := [[], [], [], [(16, false)], [], [], [], [], [], [], [], [], [(16, false)], [], [], []]) (by kernel_rfl) (by kernel_rfl) rfl (by kernel_rfl) (by kernel_rfl) (ev_ixA (kk := .i64) (b := 16) (g := 0) (o := 19) (j := p55) (by kernel_rfl) (by kernel_rfl) hm9) ?_
      refine zdOp (d := some 23) (op := (.load .false 1 (.tmp 22))) (g := (some (15, true))) (v := (.d (.int .u8 ((a1.Chars m9).toNat : Int)))) (ups := []) (j := 17) (t1 := [(16, false)]) (acc' := [[], [], [], [(16, false)], [], [], [], [], [], [], [], [], [(16, false)], [], [], [], [(16, false)]]) (by kernel_rfl) (by kernel_rfl) rfl (by kernel_rfl) (by kernel_rfl) (ev_loadA eU8 (b := 16) (g := 0) (o := 19 + m9 * 1) (f := a1.Chars) (nn := 19) (m := m9) (fo := 0) (pre := ((eU8.row 19 a1.Levels) ++ [])) (post := []) (by kernel_rfl) (by kernel_rfl) (by kernel_rfl) (inR_lt hm9) (by kernel_rfl) (by kernel_rfl) (by kernel_rfl)) ?_
      refine zdOp (d := some 24) (op := (.arI .add (.tmp 19) (.tmp 23))) (g := (some (15, true))) (v := (.d (.int .u8 (((a1.Levels m8) + (a1.Chars m9)).toNat : Int)))) (ups := []) (j := 18) (t1 := []) (acc' := [[], [], [], [(16, false)], [], [], [], [], [], [], [], [], [(16, false)], [], [], [], [(16, false)], []]) (by kernel_rfl) (by kernel_rfl) rfl (by kernel_rfl) (by kernel_rfl) (ev_arI (kk := .u8) (a := ((a1.Levels m8).toNat : Int)) (c := ((a1.Chars m9).toNat : Int)) (by kernel_rfl) (by kernel_rfl) (ar_add8 (a1.Levels m8) (a1.Chars m9))) ?_
      refine zdBool (d := 25) (op := (.cmpI .neq (.tmp 24) (.const (.int .u8 0)))) (g := (some (15, true))) (j := 19) (t1 := []) (acc' := [[], [], [], [(16, false)], [], [], [], [], [], [], [], [], [(16, false)], [], [], [], [(16, false)], [], []]) (!decide ((((a1.Levels m8) + (a1.Chars m9)).toNat : Int) = 0)) (by kernel_rfl) (by kernel_rfl) rfl (by kernel_rfl) (by kernel_rfl) (by kernel_rfl) (fun hc => ?_) (fun hc => ?_)
      · replace hS := cond_t hc hS
        refine zdRun (n := 2) (j := 21) (ts := [[], []]) (acc' := [[], [], [], [(16, false)], [], [], [], [], [], [], [], [], [(16, false)], [], [], [], [(16, false)], [], [], [], []]) rfl (by kernel_rfl) (by kernel_rfl) (by kernel_rfl) ?_
        refine zdEnd (by kernel_rfl) (by kernel_rfl) ?_
        refine zkSeq ?_
        refine zrCondT (by kernel_rfl) ?_
        refine zrSeq ?_
        refine zrReg ?_
        refine zlRun (n := 1) (j := 1) rfl (by kernel_rfl) ?_
        refine zlEnd (by kernel_rfl) ?_
        refine zkSeq ?_
        refine zrRet ?_
        refine zkBlkR ?_
        refine zkSeqR ?_
        refine zkNil ?_
        exact endQ hS hQ (finL_x (by intro h; cases h) (by show _ = _ ∧ _ = _; exact ⟨rfl, by kernel_rfl⟩))
      · replace hS := cond_f hc hS
        refine zdRun (n := 2) (j := 21) (ts := [[], []]) (acc' := [[], [], [], [(16, false)], [], [], [], [], [], [], [], [], [(16, false)], [], [], [], [(16, false)], [], [], [], []]) rfl (by kernel_rfl) (by kernel_rfl) (by kernel_rfl) ?_
        refine zdEnd (by kernel_rfl) (by kernel_rfl) ?_
        refine zkSeq ?_
        refine zrCondF (by kernel_rfl) ?_
        refine zrSkip ?_
        refine zkBlk ?_
        refine zkSeq ?_
        refine zrReg ?_
        refine zlRun (n := 2) (j := 2) rfl (by kernel_rfl) ?_
        refine zlEnd (by kernel_rfl) ?_
        refine zkNil ?_
        exact endQ hS hQ (finL_n (by show keepSt _ _ _ _ = _; kernel_rfl))
    · replace hS := cond_f hc hS
      refine zdRun (n := 13) (j := 21) (ts := [[], [], [], [], [], [], [], [], [], [], [], [], []]) (acc' := [[], [], [], [(16, false)], [], [], [], [], [], [], [], [], [], [], [], [], [], [], [], [], []]) rfl (by kernel_rfl) (by kernel_rfl) (by kernel_rfl) ?_
      refine zdEnd (by kernel_rfl) (by kernel_rfl) ?_
      refine zkSeq ?_
      refine zrCondF (by kernel_rfl) ?_
      refine zrSkip ?_
      refine zkBlk ?_
      refine zkSeq ?_
      refine zrReg ?_
      refine zlRun (n := 2) (j := 2) rfl (by kernel_rfl) ?_
      refine zlEnd (by kernel_rfl) ?_
      refine zkNil ?_
      exact endQ hS hQ (finL_n (by show keepSt _ _ _ _ = _; kernel_rfl))
def f28_l1_j2_J (a1 : GKeys) (p53 : Int) (p54 : Bool) : St := ⟨(up (up (up (fun _ => .un) 5 (.d (.bool p54))) 4 (.d (.int .i64 p53))) 1 (.r (.ptr 16 0 0))), (up (hB fun _ => 0) 16 ⟨0, some (.box ((eU8.row 19 a1.Levels) ++ ((eU8.row 19 a1.Chars) ++ [])))⟩)⟩
noncomputable def f28_l1_j2 (a1 : GKeys) (p53 : Int) (p54 : Bool) : Option (Int ⊕ (Unit ⊕ Int)) := (bif p54 then (f28_l1_j3 a1 p53) else (some (.inr (.inl ()))))
theorem f28_l1_j2_ok {base : Orc} {d : Nat} (hd : 1 ≤ d) (a1 : GKeys) {r : Int ⊕ (Unit ⊕ Int)} {Q : PX → St → Prop} (hQ : ∀ e st', finL (f28_l1_H a1) (f28_l1_X a1) r e st' → Q e st') (p53 : Int) (p54 : Bool) (hS : f28_l1_j2 a1 p53 p54 = some r) {st : St} (he : keepSt [1, 4, 5] [(16, .id 16)] [] st = f28_l1_j2_J a1 p53 p54) : ZR (lev codes base (d - 1)) Q c28_3 [] st := by
  refine zrKeep he ?_
  unfold f28_l1_j2 at hS
  refine zrSeq ?_
  refine zrSplit 5 p54 (by kernel_rfl) (fun hc => ?_) (fun hc => ?_)
  · replace hS := cond_t hc hS
    refine zrCondT (by kernel_rfl) ?_
    refine zrSkip ?_
    refine zkSeq ?_
    exact f28_l1_j3_ok hd a1 hQ p53 hS (by kernel_rfl)
  · replace hS := cond_f hc hS
    refine zrCondF (by kernel_rfl) ?_
    refine zrKeep (J := f28_l1_e0_J a1) (by kernel_rfl) ?_
    refine zrExit ?_
    refine zkSeqX ?_
    refine zkNil ?_
    exact endQ hS hQ (finL_x (by intro h; cases h) (by show _ = _ ∧ _ = _; exact ⟨rfl, rfl⟩))
noncomputable def f28_l1 (a1 : GKeys) (x : Int) : Option (Int ⊕ (Unit ⊕ Int)) := (bif (decide (x < 19)) then (f28_l1_j2 a1 x true) else (f28_l1_j2 a1 x false))
theorem f28_l1_ok {base : Orc} {d : Nat} (hd : 1 ≤ d) (a1 : GKeys) {r : Int ⊕ (Unit ⊕ Int)} {Q : PX → St → Prop} (hQ : ∀ e st', finL (f28_l1_H a1) (f28_l1_X a1) r e st' → Q e st') {x : Int} (hS : f28_l1 a1 x = some r) {st : St} (he : f28_l1_H a1 x st) : ZR (lev codes base (d - 1)) Q c28_4 [] st := by
  refine zrKeep he ?_
  unfold f28_l1 at hS
  refine zrSeq ?_
  refine zrReg ?_
  refine zlBool (d := 5) (op := (.cmpI .lss (.tmp 4) (.const (.int .i64 19)))) (g := none) (j := 1) (decide (x < 19)) rfl (by kernel_rfl) (by kernel_rfl) (by kernel_rfl) (fun hc => ?_) (fun hc => ?_)
  · replace hS := cond_t hc hS
    refine zlEnd (by kernel_rfl) ?_
    refine zkSeq ?_
    exact f28_l1_j2_ok hd a1 hQ x true hS (by kernel_rfl)
  · replace hS := cond_f hc hS
    refine zlEnd (by kernel_rfl) ?_
    refine zkSeq ?_
    exact f28_l1_j2_ok hd a1 hQ x false hS (by kernel_rfl)
noncomputable def f28 (a1 : GKeys) : Option (Int) := ((loopO (f28_l1 a1) 0).bind fun z10 => (Sum.elim (fun z11 => (f28_j0 a1 )) (fun z12 => (some z12)) z10))
theorem f28_ok (base : Orc) (d : Nat) (hd : 1 ≤ d) (a1 : GKeys) (r : Int) (hS : f28 a1 = some r) : lev codes base d 28 [(.agg ((eU8.row 19 a1.Levels) ++ ((eU8.row 19 a1.Chars) ++ [])))] [] = some ((.d (.int .i64 r)), []) := by
  refine lev_go codes28 rfl rfl (Nat.le_trans (Nat.le_of_ble_eq_true rfl) hd) fun Q hQ => ?_
  unfold f28 at hS
  show ZR _ Q c28_b [] _
  replace hQ : ∀ e st', f28_Q r e st' → Q e st' := hQ
  refine zrSeq ?_
  refine zrReg ?_
  refine zlRun (n := 2) (j := 2) rfl (by kernel_rfl) ?_
  refine zlEnd (by kernel_rfl) ?_
  refine zkSeq ?_
  refine zrSeq ?_
  refine zrSeq ?_
  refine zrReg ?_
  refine zlRun (n := 1) (j := 1) rfl (by kernel_rfl) ?_
  refine zlEnd (by kernel_rfl) ?_
  refine zkSeq ?_
  refine zrBlk ?_
  refine bindE hS (fun z10 hz10 hS => ?_)
  refine zrLoop (f28_l1_H a1) (f28_l1_X a1) (fun x st r Q h0 hS hQ => f28_l1_ok hd a1 hQ hS h0) (x := 0) (z := z10) (by show keepSt _ _ _ _ = _; kernel_rfl) hz10 ?_
  rcases z10 with z11 | z12
  · replace hS := (show _ = _ from hS)
    simp only [Sum.elim_inl] at hS
    intro e st' _ hX
    obtain ⟨rfl, rfl⟩ : _ ∧ _ := hX
    refine zkBlkX ?_
    refine zkSeq ?_
    exact f28_j0_ok hd a1 hQ  hS (by kernel_rfl)
  · simp only [Sum.elim_inr] at hS
    intro e st' _ hX
    obtain ⟨rfl, hX⟩ : _ ∧ _ := hX
    refine zkBlkR ?_
    refine zkSeqR ?_
    refine zkNil ?_
    exact endQ hS hQ (fRet ((congrArg (fun s => outR s 0 c28.res) hX).trans (f28_out z12)))
end Go.Proofs.Ytgokbjnpjjdboaa.Pm
