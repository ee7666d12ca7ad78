/- Typed functions, and that the codes are these. Printed by dec.py. -/
import Derived.Test.YtphbfciikjkkfaaDPenC
namespace Go.Proofs.Ytphbfciikjkkfaa.Pm
set_option maxRecDepth 1000000
set_option maxHeartbeats 20000000
set_option linter.unusedVariables false
/- farwriter/pen.flag -/
def f46_fin (p1 : Int) : St := ⟨(up (fun _ => .un) 2 (.d (.int .i64 p1))), (hB fun _ => 0)⟩
theorem f46_out (p1 : Int) : outR (f46_fin p1) 0 c46.res = some ((.d (.int .i64 p1)), []) := by
  kernel_rfl
def f46_Q (r : Int) (e : PX) (st : St) : Prop := DoneF c46 0 ((.d (.int .i64 r)), []) e st
noncomputable def f46 (a1 : Int) : Option (Int) := ((inR a1 10).bind fun m2 => (some (([0, 1, 2, 4, 8, 16, 0, 32, 64, 128] : List Int).getD m2 0)))
theorem f46_ok (base : Orc) (d : Nat) (hd : 1 ≤ d) (a1 : Int) (r : Int) (hS : f46 a1 = some r) : lev codes base d 46 [(.d (.int .i64 a1))] [] = some ((.d (.int .i64 r)), []) := by
  refine lev_go codes46 rfl rfl (Nat.le_trans (Nat.le_of_ble_eq_true rfl) hd) fun Q hQ => ?_
  unfold f46 at hS
  show ZR _ Q c46_b [] _
  replace hQ : ∀ e st', f46_Q r e st' → Q e st' := hQ
  refine zrSeq ?_
  refine zrReg ?_
  refine zlRun (n := 1) (j := 1) rfl (by kernel_rfl) ?_
  refine zlEnd (by kernel_rfl) ?_
  refine zkSeq ?_
  refine zrSeq ?_
  refine zrReg ?_
  refine zlRun (n := 2) (j := 2) rfl (by kernel_rfl) ?_
  refine bindE hS (fun m2 hm2 hS => ?_)
  refine zlOp (d := some 5) (op := (.ixV .false 10 1 (.tmp 3) (.tmp 4))) (g := none) (v := (.d (.int .i64 (([0, 1, 2, 4, 8, 16, 0, 32, 64, 128] : List Int).getD m2 0)))) (ups := []) (j := 3) rfl (by kernel_rfl) (by kernel_rfl) (ev_ixV (eInt .i64) (fun i => ([0, 1, 2, 4, 8, 16, 0, 32, 64, 128] : List Int).getD i 0) (kk := .i64) (j := a1) (by kernel_rfl) (by kernel_rfl) hm2 rfl (by kernel_rfl) (by kernel_rfl)) ?_
  refine zlRun (n := 1) (j := 4) rfl (by kernel_rfl) ?_
  refine zlEnd (by kernel_rfl) ?_
  refine zkSeq ?_
  refine zrRet ?_
  refine zkNil ?_
  exact endQ hS hQ (fRet ((congrArg (fun s => outR s 0 c46.res) (by kernel_rfl : finSt c46.fin _ = f46_fin (([0, 1, 2, 4, 8, 16, 0, 32, 64, 128] : List Int).getD m2 0))).trans (f46_out (([0, 1, 2, 4, 8, 16, 0, 32, 64, 128] : List Int).getD m2 0))))
/- farwriter/pen.one -/
def f52_fin (p26 : GPen) : St := ⟨(fun _ => .un), (up (hB fun _ => 0) 0 ⟨0, some (.box ((.d (.int .i64 p26.Flags)) :: ((.d (.int .i64 p26.Fore)) :: ((.d (.int .i64 p26.Back)) :: []))))⟩)⟩
theorem f52_out (p26 : GPen) : outR (f52_fin p26) 1 c52.res = some ((.tup []), [(.box ((.d (.int .i64 p26.Flags)) :: ((.d (.int .i64 p26.Fore)) :: ((.d (.int .i64 p26.Back)) :: []))))]) := by
  kernel_rfl
def f52_Q (r : GPen) (e : PX) (st : St) : Prop := DoneF c52 1 ((.tup []), [(.box ((.d (.int .i64 r.Flags)) :: ((.d (.int .i64 r.Fore)) :: ((.d (.int .i64 r.Back)) :: []))))]) e st
def f52_j2_J (a1 : Int) (a2 : GPen) : St := ⟨(up (up (up (fun _ => .un) 5 (.d (.int .i64 40))) 4 (.r (.ptr 0 0 2))) 1 (.d (.int .i64 a1))), (up (hB fun _ => 0) 0 ⟨0, some (.box ((.d (.int .i64 a2.Flags)) :: ((.d (.int .i64 a2.Fore)) :: ((.d (.int .i64 a2.Back)) :: []))))⟩)⟩
noncomputable def f52_j2 (a1 : Int) (a2 : GPen) : Option (GPen) := (bif (decide (a1 = 49)) then (some (GPen.mk a2.Flags a2.Fore 0)) else (bif (decide (100 ≤ a1)) then (bif (decide (a1 ≤ 107)) then (some (GPen.mk a2.Flags a2.Fore (IntKind.i64.wrap ((IntKind.i64.wrap ((IntKind.i64.wrap (a1 - 40)) - 60)) + 9)))) else (some a2)) else (some a2)))
theorem f52_j2_ok {base : Orc} {d : Nat} (hd : 2 ≤ d) (a1 : Int) (a2 : GPen) {r : GPen} {Q : PX → St → Prop} (hQ : ∀ e st', f52_Q r e st' → Q e st')  (hS : f52_j2 a1 a2 = some r) {st : St} (he : keepSt [1, 4, 5] [(0, .id 0)] [] st = f52_j2_J a1 a2) : ZR (lev codes base (d - 1)) Q c52_1 [.blk 0] st := by
  refine zrKeep he ?_
  unfold f52_j2 at hS
  refine zrSeq ?_
  refine zrReg ?_
  refine zlRun (n := 3) (j := 3) rfl (by kernel_rfl) ?_
  refine zlBool (d := 91) (op := (.cmpI .eql (.tmp 88) (.tmp 90))) (g := none) (j := 4) (decide (a1 = 49)) rfl (by kernel_rfl) (by kernel_rfl) (by kernel_rfl) (fun hc => ?_) (fun hc => ?_)
  · replace hS := cond_t hc hS
    refine zlRun (n := 1) (j := 5) rfl (by kernel_rfl) ?_
    refine zlEnd (by kernel_rfl) ?_
    refine zkSeq ?_
    refine zrCondT (by kernel_rfl) ?_
    refine zrReg ?_
    refine zlRun (n := 3) (j := 3) rfl (by kernel_rfl) ?_
    refine zlEnd (by kernel_rfl) ?_
    refine zkBlk ?_
    refine zkNil ?_
    exact endQ hS hQ (fNorm ((congrArg (fun s => outR s 1 c52.res) (by kernel_rfl : finSt c52.fin _ = f52_fin (GPen.mk a2.Flags a2.Fore 0))).trans (f52_out (GPen.mk a2.Flags a2.Fore 0))))
  · replace hS := cond_f hc hS
    refine zlRun (n := 1) (j := 5) rfl (by kernel_rfl) ?_
    refine zlEnd (by kernel_rfl) ?_
    refine zkSeq ?_
    refine zrCondF (by kernel_rfl) ?_
    refine zrSeq ?_
    refine zrReg ?_
    refine zlRun (n := 3) (j := 3) rfl (by kernel_rfl) ?_
    refine zlBool (d := 98) (op := (.cmpI .geq (.tmp 95) (.tmp 97))) (g := none) (j := 4) (decide (100 ≤ a1)) rfl (by kernel_rfl) (by kernel_rfl) (by kernel_rfl) (fun hc => ?_) (fun hc => ?_)
    · replace hS := cond_t hc hS
      refine zlRun (n := 4) (j := 8) rfl (by kernel_rfl) ?_
      refine zlBool (d := 103) (op := (.cmpI .leq (.tmp 100) (.tmp 102))) (g := (some (99, true))) (j := 9) (decide (a1 ≤ 107)) rfl (by kernel_rfl) (by kernel_rfl) (by kernel_rfl) (fun hc => ?_) (fun hc => ?_)
      · replace hS := cond_t hc hS
        refine zlRun (n := 2) (j := 11) rfl (by kernel_rfl) ?_
        refine zlEnd (by kernel_rfl) ?_
        refine zkSeq ?_
        refine zrCondT (by kernel_rfl) ?_
        refine zrReg ?_
        refine zlRun (n := 8) (j := 8) rfl (by kernel_rfl) ?_
        refine zlEnd (by kernel_rfl) ?_
        refine zkBlk ?_
        refine zkNil ?_
        exact endQ hS hQ (fNorm ((congrArg (fun s => outR s 1 c52.res) (by kernel_rfl : finSt c52.fin _ = f52_fin (GPen.mk a2.Flags a2.Fore (IntKind.i64.wrap ((IntKind.i64.wrap ((IntKind.i64.wrap (a1 - 40)) - 60)) + 9))))).trans (f52_out (GPen.mk a2.Flags a2.Fore (IntKind.i64.wrap ((IntKind.i64.wrap ((IntKind.i64.wrap (a1 - 40)) - 60)) + 9))))))
      · replace hS := cond_f hc hS
        refine zlRun (n := 2) (j := 11) rfl (by kernel_rfl) ?_
        refine zlEnd (by kernel_rfl) ?_
        refine zkSeq ?_
        refine zrCondF (by kernel_rfl) ?_
        refine zrSkip ?_
        refine zkBlk ?_
        refine zkNil ?_
        exact endQ hS hQ (fNorm ((congrArg (fun s => outR s 1 c52.res) (by kernel_rfl : finSt c52.fin _ = f52_fin a2)).trans (f52_out a2)))
    · replace hS := cond_f hc hS
      refine zlRun (n := 7) (j := 11) rfl (by kernel_rfl) ?_
      refine zlEnd (by kernel_rfl) ?_
      refine zkSeq ?_
      refine zrCondF (by kernel_rfl) ?_
      refine zrSkip ?_
      refine zkBlk ?_
      refine zkNil ?_
      exact endQ hS hQ (fNorm ((congrArg (fun s => outR s 1 c52.res) (by kernel_rfl : finSt c52.fin _ = f52_fin a2)).trans (f52_out a2)))
def f52_j1_J (a1 : Int) (a2 : GPen) : St := ⟨(up (up (up (fun _ => .un) 5 (.d (.int .i64 40))) 4 (.r (.ptr 0 0 2))) 1 (.d (.int .i64 a1))), (up (hB fun _ => 0) 0 ⟨0, some (.box ((.d (.int .i64 a2.Flags)) :: ((.d (.int .i64 a2.Fore)) :: ((.d (.int .i64 a2.Back)) :: []))))⟩)⟩
noncomputable def f52_j1 (a1 : Int) (a2 : GPen) : Option (GPen) := (bif (decide (40 ≤ a1)) then (bif (decide (a1 ≤ 47)) then (some (GPen.mk a2.Flags a2.Fore (IntKind.i64.wrap ((IntKind.i64.wrap (a1 - 40)) + 1)))) else (f52_j2 a1 a2 )) else (f52_j2 a1 a2 ))
theorem f52_j1_ok {base : Orc} {d : Nat} (hd : 2 ≤ d) (a1 : Int) (a2 : GPen) {r : GPen} {Q : PX → St → Prop} (hQ : ∀ e st', f52_Q r e st' → Q e st')  (hS : f52_j1 a1 a2 = some r) {st : St} (he : keepSt [1, 4, 5] [(0, .id 0)] [] st = f52_j1_J a1 a2) : ZR (lev codes base (d - 1)) Q c52_2 [.blk 0] st := by
  refine zrKeep he ?_
  unfold f52_j1 at hS
  refine zrSeq ?_
  refine zrReg ?_
  refine zlRun (n := 2) (j := 2) rfl (by kernel_rfl) ?_
  refine zlBool (d := 74) (op := (.cmpI .geq (.tmp 72) (.tmp 73))) (g := none) (j := 3) (decide (40 ≤ a1)) rfl (by kernel_rfl) (by kernel_rfl) (by kernel_rfl) (fun hc => ?_) (fun hc => ?_)
  · replace hS := cond_t hc hS
    refine zlRun (n := 4) (j := 7) rfl (by kernel_rfl) ?_
    refine zlBool (d := 79) (op := (.cmpI .leq (.tmp 76) (.tmp 78))) (g := (some (75, true))) (j := 8) (decide (a1 ≤ 47)) rfl (by kernel_rfl) (by kernel_rfl) (by kernel_rfl) (fun hc => ?_) (fun hc => ?_)
    · replace hS := cond_t hc hS
      refine zlRun (n := 2) (j := 10) rfl (by kernel_rfl) ?_
      refine zlEnd (by kernel_rfl) ?_
      refine zkSeq ?_
      refine zrCondT (by kernel_rfl) ?_
      refine zrReg ?_
      refine zlRun (n := 7) (j := 7) rfl (by kernel_rfl) ?_
      refine zlEnd (by kernel_rfl) ?_
      refine zkBlk ?_
      refine zkNil ?_
      exact endQ hS hQ (fNorm ((congrArg (fun s => outR s 1 c52.res) (by kernel_rfl : finSt c52.fin _ = f52_fin (GPen.mk a2.Flags a2.Fore (IntKind.i64.wrap ((IntKind.i64.wrap (a1 - 40)) + 1))))).trans (f52_out (GPen.mk a2.Flags a2.Fore (IntKind.i64.wrap ((IntKind.i64.wrap (a1 - 40)) + 1))))))
    · replace hS := cond_f hc hS
      refine zlRun (n := 2) (j := 10) rfl (by kernel_rfl) ?_
      refine zlEnd (by kernel_rfl) ?_
      refine zkSeq ?_
      refine zrCondF (by kernel_rfl) ?_
      exact f52_j2_ok hd a1 a2 hQ  hS (by kernel_rfl)
  · replace hS := cond_f hc hS
    refine zlRun (n := 7) (j := 10) rfl (by kernel_rfl) ?_
    refine zlEnd (by kernel_rfl) ?_
    refine zkSeq ?_
    refine zrCondF (by kernel_rfl) ?_
    exact f52_j2_ok hd a1 a2 hQ  hS (by kernel_rfl)
def f52_j0_J (a1 : Int) (a2 : GPen) : St := ⟨(up (up (up (up (fun _ => .un) 5 (.d (.int .i64 40))) 4 (.r (.ptr 0 0 2))) 1 (.d (.int .i64 a1))) 0 (.r (.ptr 0 0 0))), (up (hB fun _ => 0) 0 ⟨0, some (.box ((.d (.int .i64 a2.Flags)) :: ((.d (.int .i64 a2.Fore)) :: ((.d (.int .i64 a2.Back)) :: []))))⟩)⟩
noncomputable def f52_j0 (a1 : Int) (a2 : GPen) : Option (GPen) := (bif (decide (a1 = 0)) then (some (GPen.mk 0 0 0)) else (bif (decide (a1 ≤ 9)) then ((f46 a1).bind fun z5 => (some (GPen.mk (bitI .or .i64 a2.Flags z5) a2.Fore a2.Back))) else (bif (decide (a1 = 22)) then (some (GPen.mk (bitI .andNot .i64 a2.Flags 3) a2.Fore a2.Back)) else (bif (decide (23 ≤ a1)) then (bif (decide (a1 ≤ 29)) then ((f46 (IntKind.i64.wrap (a1 - 20))).bind fun z6 => (some (GPen.mk (bitI .andNot .i64 a2.Flags z6) a2.Fore a2.Back))) else (f52_j1 a1 a2 )) else (f52_j1 a1 a2 )))))
theorem f52_j0_ok {base : Orc} {d : Nat} (hd : 2 ≤ d) (a1 : Int) (a2 : GPen) {r : GPen} {Q : PX → St → Prop} (hQ : ∀ e st', f52_Q r e st' → Q e st')  (hS : f52_j0 a1 a2 = some r) {st : St} (he : keepSt [0, 1, 4, 5] [(0, .id 0)] [] st = f52_j0_J a1 a2) : ZR (lev codes base (d - 1)) Q c52_3 [] st := by
  refine zrKeep he ?_
  unfold f52_j0 at hS
  refine zrBlk ?_
  refine zrSeq ?_
  refine zrReg ?_
  refine zlRun (n := 1) (j := 1) rfl (by kernel_rfl) ?_
  refine zlBool (d := 28) (op := (.cmpI .eql (.tmp 27) (.const (.int .i64 0)))) (g := none) (j := 2) (decide (a1 = 0)) rfl (by kernel_rfl) (by kernel_rfl) (by kernel_rfl) (fun hc => ?_) (fun hc => ?_)
  · replace hS := cond_t hc hS
    refine zlRun (n := 1) (j := 3) rfl (by kernel_rfl) ?_
    refine zlEnd (by kernel_rfl) ?_
    refine zkSeq ?_
    refine zrCondT (by kernel_rfl) ?_
    refine zrReg ?_
    refine zlRun (n := 4) (j := 4) rfl (by kernel_rfl) ?_
    refine zlEnd (by kernel_rfl) ?_
    refine zkBlk ?_
    refine zkNil ?_
    exact endQ hS hQ (fNorm ((congrArg (fun s => outR s 1 c52.res) (by kernel_rfl : finSt c52.fin _ = f52_fin (GPen.mk 0 0 0))).trans (f52_out (GPen.mk 0 0 0))))
  · replace hS := cond_f hc hS
    refine zlRun (n := 1) (j := 3) rfl (by kernel_rfl) ?_
    refine zlEnd (by kernel_rfl) ?_
    refine zkSeq ?_
    refine zrCondF (by kernel_rfl) ?_
    refine zrSeq ?_
    refine zrReg ?_
    refine zlRun (n := 1) (j := 1) rfl (by kernel_rfl) ?_
    refine zlBool (d := 34) (op := (.cmpI .leq (.tmp 33) (.const (.int .i64 9)))) (g := none) (j := 2) (decide (a1 ≤ 9)) rfl (by kernel_rfl) (by kernel_rfl) (by kernel_rfl) (fun hc => ?_) (fun hc => ?_)
    · replace hS := cond_t hc hS
      refine zlRun (n := 1) (j := 3) rfl (by kernel_rfl) ?_
      refine zlEnd (by kernel_rfl) ?_
      refine zkSeq ?_
      refine zrCondT (by kernel_rfl) ?_
      refine zrRegD ?_
      refine zdRun (n := 5) (j := 5) (ts := [[], [], [], [(0, false)], []]) (acc' := [[], [], [], [(0, false)], []]) rfl (by kernel_rfl) (by kernel_rfl) (by kernel_rfl) ?_
      refine bindE hS (fun z5 hz5 hS => ?_)
      refine zdOp (d := some 40) (op := (.call 46 [(.tmp 39)])) (g := none) (v := (.d (.int .i64 z5))) (ups := []) (j := 6) (t1 := [(328, true), (329, true), (330, true), (331, true), (332, true), (333, true), (334, true), (335, true)]) (acc' := [[], [], [], [(0, false)], [], [(328, true), (329, true), (330, true), (331, true), (332, true), (333, true), (334, true), (335, true)]]) (by kernel_rfl) (by kernel_rfl) rfl (by kernel_rfl) (by kernel_rfl) (ev_call (args := [(.d (.int .i64 a1))]) (l := [(.d (.int .i64 a1))]) (r := (.d (.int .i64 z5))) (by kernel_rfl) (by kernel_rfl) (f46_ok base (d - 1) (dpt hd rfl) a1 z5 hz5) (by kernel_rfl) (by kernel_rfl) (by kernel_rfl)) ?_
      refine zdRun (n := 4) (j := 10) (ts := [[], [], [], [(0, true)]]) (acc' := [[], [], [], [(0, false)], [], [(328, true), (329, true), (330, true), (331, true), (332, true), (333, true), (334, true), (335, true)], [], [], [], [(0, true)]]) rfl (by kernel_rfl) (by kernel_rfl) (by kernel_rfl) ?_
      refine zdEnd (by kernel_rfl) (by kernel_rfl) ?_
      refine zkBlk ?_
      refine zkNil ?_
      exact endQ hS hQ (fNorm ((congrArg (fun s => outR s 1 c52.res) (by kernel_rfl : finSt c52.fin _ = f52_fin (GPen.mk (bitI .or .i64 a2.Flags z5) a2.Fore a2.Back))).trans (f52_out (GPen.mk (bitI .or .i64 a2.Flags z5) a2.Fore a2.Back))))
    · replace hS := cond_f hc hS
      refine zlRun (n := 1) (j := 3) rfl (by kernel_rfl) ?_
      refine zlEnd (by kernel_rfl) ?_
      refine zkSeq ?_
      refine zrCondF (by kernel_rfl) ?_
      refine zrSeq ?_
      refine zrReg ?_
      refine zlRun (n := 1) (j := 1) rfl (by kernel_rfl) ?_
      refine zlBool (d := 46) (op := (.cmpI .eql (.tmp 45) (.const (.int .i64 22)))) (g := none) (j := 2) (decide (a1 = 22)) rfl (by kernel_rfl) (by kernel_rfl) (by kernel_rfl) (fun hc => ?_) (fun hc => ?_)
      · replace hS := cond_t hc hS
        refine zlRun (n := 1) (j := 3) rfl (by kernel_rfl) ?_
        refine zlEnd (by kernel_rfl) ?_
        refine zkSeq ?_
        refine zrCondT (by kernel_rfl) ?_
        refine zrReg ?_
        refine zlRun (n := 8) (j := 8) rfl (by kernel_rfl) ?_
        refine zlEnd (by kernel_rfl) ?_
        refine zkBlk ?_
        refine zkNil ?_
        exact endQ hS hQ (fNorm ((congrArg (fun s => outR s 1 c52.res) (by kernel_rfl : finSt c52.fin _ = f52_fin (GPen.mk (bitI .andNot .i64 a2.Flags 3) a2.Fore a2.Back))).trans (f52_out (GPen.mk (bitI .andNot .i64 a2.Flags 3) a2.Fore a2.Back))))
      · replace hS := cond_f hc hS
        refine zlRun (n := 1) (j := 3) rfl (by kernel_rfl) ?_
        refine zlEnd (by kernel_rfl) ?_
        refine zkSeq ?_
        refine zrCondF (by kernel_rfl) ?_
        refine zrSeq ?_
        refine zrReg ?_
        refine zlRun (n := 1) (j := 1) rfl (by kernel_rfl) ?_
        refine zlBool (d := 56) (op := (.cmpI .geq (.tmp 55) (.const (.int .i64 23)))) (g := none) (j := 2) (decide (23 ≤ a1)) rfl (by kernel_rfl) (by kernel_rfl) (by kernel_rfl) (fun hc => ?_) (fun hc => ?_)
        · replace hS := cond_t hc hS
          refine zlRun (n := 2) (j := 4) rfl (by kernel_rfl) ?_
          refine zlBool (d := 59) (op := (.cmpI .leq (.tmp 58) (.const (.int .i64 29)))) (g := (some (57, true))) (j := 5) (decide (a1 ≤ 29)) rfl (by kernel_rfl) (by kernel_rfl) (by kernel_rfl) (fun hc => ?_) (fun hc => ?_)
          · replace hS := cond_t hc hS
            refine zlRun (n := 2) (j := 7) rfl (by kernel_rfl) ?_
            refine zlEnd (by kernel_rfl) ?_
            refine zkSeq ?_
            refine zrCondT (by kernel_rfl) ?_
            refine zrRegD ?_
            refine zdRun (n := 6) (j := 6) (ts := [[], [], [], [(0, false)], [], []]) (acc' := [[], [], [], [(0, false)], [], []]) rfl (by kernel_rfl) (by kernel_rfl) (by kernel_rfl) ?_
            refine bindE hS (fun z6 hz6 hS => ?_)
            refine zdOp (d := some 67) (op := (.call 46 [(.tmp 66)])) (g := none) (v := (.d (.int .i64 z6))) (ups := []) (j := 7) (t1 := [(544, true), (545, true), (546, true), (547, true), (548, true), (549, true), (550, true), (551, true)]) (acc' := [[], [], [], [(0, false)], [], [], [(544, true), (545, true), (546, true), (547, true), (548, true), (549, true), (550, true), (551, true)]]) (by kernel_rfl) (by kernel_rfl) rfl (by kernel_rfl) (by kernel_rfl) (ev_call (args := [(.d (.int .i64 (IntKind.i64.wrap (a1 - 20))))]) (l := [(.d (.int .i64 (IntKind.i64.wrap (a1 - 20))))]) (r := (.d (.int .i64 z6))) (by kernel_rfl) (by kernel_rfl) (f46_ok base (d - 1) (dpt hd rfl) (IntKind.i64.wrap (a1 - 20)) z6 hz6) (by kernel_rfl) (by kernel_rfl) (by kernel_rfl)) ?_
            refine zdRun (n := 4) (j := 11) (ts := [[], [], [], [(0, true)]]) (acc' := [[], [], [], [(0, false)], [], [], [(544, true), (545, true), (546, true), (547, true), (548, true), (549, true), (550, true), (551, true)], [], [], [], [(0, true)]]) rfl (by kernel_rfl) (by kernel_rfl) (by kernel_rfl) ?_
            refine zdEnd (by kernel_rfl) (by kernel_rfl) ?_
            refine zkBlk ?_
            refine zkNil ?_
            exact endQ hS hQ (fNorm ((congrArg (fun s => outR s 1 c52.res) (by kernel_rfl : finSt c52.fin _ = f52_fin (GPen.mk (bitI .andNot .i64 a2.Flags z6) a2.Fore a2.Back))).trans (f52_out (GPen.mk (bitI .andNot .i64 a2.Flags z6) a2.Fore a2.Back))))
          · replace hS := cond_f hc hS
            refine zlRun (n := 2) (j := 7) rfl (by kernel_rfl) ?_
            refine zlEnd (by kernel_rfl) ?_
            refine zkSeq ?_
            refine zrCondF (by kernel_rfl) ?_
            exact f52_j1_ok hd a1 a2 hQ  hS (by kernel_rfl)
        · replace hS := cond_f hc hS
          refine zlRun (n := 5) (j := 7) rfl (by kernel_rfl) ?_
          refine zlEnd (by kernel_rfl) ?_
          refine zkSeq ?_
          refine zrCondF (by kernel_rfl) ?_
          exact f52_j1_ok hd a1 a2 hQ  hS (by kernel_rfl)
def f52_j5_J (a1 : Int) (a2 : GPen) : St := ⟨(up (up (up (fun _ => .un) 5 (.d (.int .i64 30))) 4 (.r (.ptr 0 0 1))) 1 (.d (.int .i64 a1))), (up (hB fun _ => 0) 0 ⟨0, some (.box ((.d (.int .i64 a2.Flags)) :: ((.d (.int .i64 a2.Fore)) :: ((.d (.int .i64 a2.Back)) :: []))))⟩)⟩
noncomputable def f52_j5 (a1 : Int) (a2 : GPen) : Option (GPen) := (bif (decide (a1 = 39)) then (some (GPen.mk a2.Flags 0 a2.Back)) else (bif (decide (90 ≤ a1)) then (bif (decide (a1 ≤ 97)) then (some (GPen.mk a2.Flags (IntKind.i64.wrap ((IntKind.i64.wrap ((IntKind.i64.wrap (a1 - 30)) - 60)) + 9)) a2.Back)) else (some a2)) else (some a2)))
theorem f52_j5_ok {base : Orc} {d : Nat} (hd : 2 ≤ d) (a1 : Int) (a2 : GPen) {r : GPen} {Q : PX → St → Prop} (hQ : ∀ e st', f52_Q r e st' → Q e st')  (hS : f52_j5 a1 a2 = some r) {st : St} (he : keepSt [1, 4, 5] [(0, .id 0)] [] st = f52_j5_J a1 a2) : ZR (lev codes base (d - 1)) Q c52_1 [.blk 0] st := by
  refine zrKeep he ?_
  unfold f52_j5 at hS
  refine zrSeq ?_
  refine zrReg ?_
  refine zlRun (n := 3) (j := 3) rfl (by kernel_rfl) ?_
  refine zlBool (d := 91) (op := (.cmpI .eql (.tmp 88) (.tmp 90))) (g := none) (j := 4) (decide (a1 = 39)) rfl (by kernel_rfl) (by kernel_rfl) (by kernel_rfl) (fun hc => ?_) (fun hc => ?_)
  · replace hS := cond_t hc hS
    refine zlRun (n := 1) (j := 5) rfl (by kernel_rfl) ?_
    refine zlEnd (by kernel_rfl) ?_
    refine zkSeq ?_
    refine zrCondT (by kernel_rfl) ?_
    refine zrReg ?_
    refine zlRun (n := 3) (j := 3) rfl (by kernel_rfl) ?_
    refine zlEnd (by kernel_rfl) ?_
    refine zkBlk ?_
    refine zkNil ?_
    exact endQ hS hQ (fNorm ((congrArg (fun s => outR s 1 c52.res) (by kernel_rfl : finSt c52.fin _ = f52_fin (GPen.mk a2.Flags 0 a2.Back))).trans (f52_out (GPen.mk a2.Flags 0 a2.Back))))
  · replace hS := cond_f hc hS
    refine zlRun (n := 1) (j := 5) rfl (by kernel_rfl) ?_
    refine zlEnd (by kernel_rfl) ?_
    refine zkSeq ?_
    refine zrCondF (by kernel_rfl) ?_
    refine zrSeq ?_
    refine zrReg ?_
    refine zlRun (n := 3) (j := 3) rfl (by kernel_rfl) ?_
    refine zlBool (d := 98) (op := (.cmpI .geq (.tmp 95) (.tmp 97))) (g := none) (j := 4) (decide (90 ≤ a1)) rfl (by kernel_rfl) (by kernel_rfl) (by kernel_rfl) (fun hc => ?_) (fun hc => ?_)
    · replace hS := cond_t hc hS
      refine zlRun (n := 4) (j := 8) rfl (by kernel_rfl) ?_
      refine zlBool (d := 103) (op := (.cmpI .leq (.tmp 100) (.tmp 102))) (g := (some (99, true))) (j := 9) (decide (a1 ≤ 97)) rfl (by kernel_rfl) (by kernel_rfl) (by kernel_rfl) (fun hc => ?_) (fun hc => ?_)
      · replace hS := cond_t hc hS
        refine zlRun (n := 2) (j := 11) rfl (by kernel_rfl) ?_
        refine zlEnd (by kernel_rfl) ?_
        refine zkSeq ?_
        refine zrCondT (by kernel_rfl) ?_
        refine zrReg ?_
        refine zlRun (n := 8) (j := 8) rfl (by kernel_rfl) ?_
        refine zlEnd (by kernel_rfl) ?_
        refine zkBlk ?_
        refine zkNil ?_
        exact endQ hS hQ (fNorm ((congrArg (fun s => outR s 1 c52.res) (by kernel_rfl : finSt c52.fin _ = f52_fin (GPen.mk a2.Flags (IntKind.i64.wrap ((IntKind.i64.wrap ((IntKind.i64.wrap (a1 - 30)) - 60)) + 9)) a2.Back))).trans (f52_out (GPen.mk a2.Flags (IntKind.i64.wrap ((IntKind.i64.wrap ((IntKind.i64.wrap (a1 - 30)) - 60)) + 9)) a2.Back))))
      · replace hS := cond_f hc hS
        refine zlRun (n := 2) (j := 11) rfl (by kernel_rfl) ?_
        refine zlEnd (by kernel_rfl) ?_
        refine zkSeq ?_
        refine zrCondF (by kernel_rfl) ?_
        refine zrSkip ?_
        refine zkBlk ?_
        refine zkNil ?_
        exact endQ hS hQ (fNorm ((congrArg (fun s => outR s 1 c52.res) (by kernel_rfl : finSt c52.fin _ = f52_fin a2)).trans (f52_out a2)))
    · replace hS := cond_f hc hS
      refine zlRun (n := 7) (j := 11) rfl (by kernel_rfl) ?_
      refine zlEnd (by kernel_rfl) ?_
      refine zkSeq ?_
      refine zrCondF (by kernel_rfl) ?_
      refine zrSkip ?_
      refine zkBlk ?_
      refine zkNil ?_
      exact endQ hS hQ (fNorm ((congrArg (fun s => outR s 1 c52.res) (by kernel_rfl : finSt c52.fin _ = f52_fin a2)).trans (f52_out a2)))
def f52_j4_J (a1 : Int) (a2 : GPen) : St := ⟨(up (up (up (fun _ => .un) 5 (.d (.int .i64 30))) 4 (.r (.ptr 0 0 1))) 1 (.d (.int .i64 a1))), (up (hB fun _ => 0) 0 ⟨0, some (.box ((.d (.int .i64 a2.Flags)) :: ((.d (.int .i64 a2.Fore)) :: ((.d (.int .i64 a2.Back)) :: []))))⟩)⟩
noncomputable def f52_j4 (a1 : Int) (a2 : GPen) : Option (GPen) := (bif (decide (30 ≤ a1)) then (bif (decide (a1 ≤ 37)) then (some (GPen.mk a2.Flags (IntKind.i64.wrap ((IntKind.i64.wrap (a1 - 30)) + 1)) a2.Back)) else (f52_j5 a1 a2 )) else (f52_j5 a1 a2 ))
theorem f52_j4_ok {base : Orc} {d : Nat} (hd : 2 ≤ d) (a1 : Int) (a2 : GPen) {r : GPen} {Q : PX → St → Prop} (hQ : ∀ e st', f52_Q r e st' → Q e st')  (hS : f52_j4 a1 a2 = some r) {st : St} (he : keepSt [1, 4, 5] [(0, .id 0)] [] st = f52_j4_J a1 a2) : ZR (lev codes base (d - 1)) Q c52_2 [.blk 0] st := by
  refine zrKeep he ?_
  unfold f52_j4 at hS
  refine zrSeq ?_
  refine zrReg ?_
  refine zlRun (n := 2) (j := 2) rfl (by kernel_rfl) ?_
  refine zlBool (d := 74) (op := (.cmpI .geq (.tmp 72) (.tmp 73))) (g := none) (j := 3) (decide (30 ≤ a1)) rfl (by kernel_rfl) (by kernel_rfl) (by kernel_rfl) (fun hc => ?_) (fun hc => ?_)
  · replace hS := cond_t hc hS
    refine zlRun (n := 4) (j := 7) rfl (by kernel_rfl) ?_
    refine zlBool (d := 79) (op := (.cmpI .leq (.tmp 76) (.tmp 78))) (g := (some (75, true))) (j := 8) (decide (a1 ≤ 37)) rfl (by kernel_rfl) (by kernel_rfl) (by kernel_rfl) (fun hc => ?_) (fun hc => ?_)
    · replace hS := cond_t hc hS
      refine zlRun (n := 2) (j := 10) rfl (by kernel_rfl) ?_
      refine zlEnd (by kernel_rfl) ?_
      refine zkSeq ?_
      refine zrCondT (by kernel_rfl) ?_
      refine zrReg ?_
      refine zlRun (n := 7) (j := 7) rfl (by kernel_rfl) ?_
      refine zlEnd (by kernel_rfl) ?_
      refine zkBlk ?_
      refine zkNil ?_
      exact endQ hS hQ (fNorm ((congrArg (fun s => outR s 1 c52.res) (by kernel_rfl : finSt c52.fin _ = f52_fin (GPen.mk a2.Flags (IntKind.i64.wrap ((IntKind.i64.wrap (a1 - 30)) + 1)) a2.Back))).trans (f52_out (GPen.mk a2.Flags (IntKind.i64.wrap ((IntKind.i64.wrap (a1 - 30)) + 1)) a2.Back))))
    · replace hS := cond_f hc hS
      refine zlRun (n := 2) (j := 10) rfl (by kernel_rfl) ?_
      refine zlEnd (by kernel_rfl) ?_
      refine zkSeq ?_
      refine zrCondF (by kernel_rfl) ?_
      exact f52_j5_ok hd a1 a2 hQ  hS (by kernel_rfl)
  · replace hS := cond_f hc hS
    refine zlRun (n := 7) (j := 10) rfl (by kernel_rfl) ?_
    refine zlEnd (by kernel_rfl) ?_
    refine zkSeq ?_
    refine zrCondF (by kernel_rfl) ?_
    exact f52_j5_ok hd a1 a2 hQ  hS (by kernel_rfl)
def f52_j3_J (a1 : Int) (a2 : GPen) : St := ⟨(up (up (up (up (fun _ => .un) 5 (.d (.int .i64 30))) 4 (.r (.ptr 0 0 1))) 1 (.d (.int .i64 a1))) 0 (.r (.ptr 0 0 0))), (up (hB fun _ => 0) 0 ⟨0, some (.box ((.d (.int .i64 a2.Flags)) :: ((.d (.int .i64 a2.Fore)) :: ((.d (.int .i64 a2.Back)) :: []))))⟩)⟩
noncomputable def f52_j3 (a1 : Int) (a2 : GPen) : Option (GPen) := (bif (decide (a1 = 0)) then (some (GPen.mk 0 0 0)) else (bif (decide (a1 ≤ 9)) then ((f46 a1).bind fun z7 => (some (GPen.mk (bitI .or .i64 a2.Flags z7) a2.Fore a2.Back))) else (bif (decide (a1 = 22)) then (some (GPen.mk (bitI .andNot .i64 a2.Flags 3) a2.Fore a2.Back)) else (bif (decide (23 ≤ a1)) then (bif (decide (a1 ≤ 29)) then ((f46 (IntKind.i64.wrap (a1 - 20))).bind fun z8 => (some (GPen.mk (bitI .andNot .i64 a2.Flags z8) a2.Fore a2.Back))) else (f52_j4 a1 a2 )) else (f52_j4 a1 a2 )))))
theorem f52_j3_ok {base : Orc} {d : Nat} (hd : 2 ≤ d) (a1 : Int) (a2 : GPen) {r : GPen} {Q : PX → St → Prop} (hQ : ∀ e st', f52_Q r e st' → Q e st')  (hS : f52_j3 a1 a2 = some r) {st : St} (he : keepSt [0, 1, 4, 5] [(0, .id 0)] [] st = f52_j3_J a1 a2) : ZR (lev codes base (d - 1)) Q c52_3 [] st := by
  refine zrKeep he ?_
  unfold f52_j3 at hS
  refine zrBlk ?_
  refine zrSeq ?_
  refine zrReg ?_
  refine zlRun (n := 1) (j := 1) rfl (by kernel_rfl) ?_
  refine zlBool (d := 28) (op := (.cmpI .eql (.tmp 27) (.const (.int .i64 0)))) (g := none) (j := 2) (decide (a1 = 0)) rfl (by kernel_rfl) (by kernel_rfl) (by kernel_rfl) (fun hc => ?_) (fun hc => ?_)
  · replace hS := cond_t hc hS
    refine zlRun (n := 1) (j := 3) rfl (by kernel_rfl) ?_
    refine zlEnd (by kernel_rfl) ?_
    refine zkSeq ?_
    refine zrCondT (by kernel_rfl) ?_
    refine zrReg ?_
    refine zlRun (n := 4) (j := 4) rfl (by kernel_rfl) ?_
    refine zlEnd (by kernel_rfl) ?_
    refine zkBlk ?_
    refine zkNil ?_
    exact endQ hS hQ (fNorm ((congrArg (fun s => outR s 1 c52.res) (by kernel_rfl : finSt c52.fin _ = f52_fin (GPen.mk 0 0 0))).trans (f52_out (GPen.mk 0 0 0))))
  · replace hS := cond_f hc hS
    refine zlRun (n := 1) (j := 3) rfl (by kernel_rfl) ?_
    refine zlEnd (by kernel_rfl) ?_
    refine zkSeq ?_
    refine zrCondF (by kernel_rfl) ?_
    refine zrSeq ?_
    refine zrReg ?_
    refine zlRun (n := 1) (j := 1) rfl (by kernel_rfl) ?_
    refine zlBool (d := 34) (op := (.cmpI .leq (.tmp 33) (.const (.int .i64 9)))) (g := none) (j := 2) (decide (a1 ≤ 9)) rfl (by kernel_rfl) (by kernel_rfl) (by kernel_rfl) (fun hc => ?_) (fun hc => ?_)
    · replace hS := cond_t hc hS
      refine zlRun (n := 1) (j := 3) rfl (by kernel_rfl) ?_
      refine zlEnd (by kernel_rfl) ?_
      refine zkSeq ?_
      refine zrCondT (by kernel_rfl) ?_
      refine zrRegD ?_
      refine zdRun (n := 5) (j := 5) (ts := [[], [], [], [(0, false)], []]) (acc' := [[], [], [], [(0, false)], []]) rfl (by kernel_rfl) (by kernel_rfl) (by kernel_rfl) ?_
      refine bindE hS (fun z7 hz7 hS => ?_)
      refine zdOp (d := some 40) (op := (.call 46 [(.tmp 39)])) (g := none) (v := (.d (.int .i64 z7))) (ups := []) (j := 6) (t1 := [(328, true), (329, true), (330, true), (331, true), (332, true), (333, true), (334, true), (335, true)]) (acc' := [[], [], [], [(0, false)], [], [(328, true), (329, true), (330, true), (331, true), (332, true), (333, true), (334, true), (335, true)]]) (by kernel_rfl) (by kernel_rfl) rfl (by kernel_rfl) (by kernel_rfl) (ev_call (args := [(.d (.int .i64 a1))]) (l := [(.d (.int .i64 a1))]) (r := (.d (.int .i64 z7))) (by kernel_rfl) (by kernel_rfl) (f46_ok base (d - 1) (dpt hd rfl) a1 z7 hz7) (by kernel_rfl) (by kernel_rfl) (by kernel_rfl)) ?_
      refine zdRun (n := 4) (j := 10) (ts := [[], [], [], [(0, true)]]) (acc' := [[], [], [], [(0, false)], [], [(328, true), (329, true), (330, true), (331, true), (332, true), (333, true), (334, true), (335, true)], [], [], [], [(0, true)]]) rfl (by kernel_rfl) (by kernel_rfl) (by kernel_rfl) ?_
      refine zdEnd (by kernel_rfl) (by kernel_rfl) ?_
      refine zkBlk ?_
      refine zkNil ?_
      exact endQ hS hQ (fNorm ((congrArg (fun s => outR s 1 c52.res) (by kernel_rfl : finSt c52.fin _ = f52_fin (GPen.mk (bitI .or .i64 a2.Flags z7) a2.Fore a2.Back))).trans (f52_out (GPen.mk (bitI .or .i64 a2.Flags z7) a2.Fore a2.Back))))
    · replace hS := cond_f hc hS
      refine zlRun (n := 1) (j := 3) rfl (by kernel_rfl) ?_
      refine zlEnd (by kernel_rfl) ?_
      refine zkSeq ?_
      refine zrCondF (by kernel_rfl) ?_
      refine zrSeq ?_
      refine zrReg ?_
      refine zlRun (n := 1) (j := 1) rfl (by kernel_rfl) ?_
      refine zlBool (d := 46) (op := (.cmpI .eql (.tmp 45) (.const (.int .i64 22)))) (g := none) (j := 2) (decide (a1 = 22)) rfl (by kernel_rfl) (by kernel_rfl) (by kernel_rfl) (fun hc => ?_) (fun hc => ?_)
      · replace hS := cond_t hc hS
        refine zlRun (n := 1) (j := 3) rfl (by kernel_rfl) ?_
        refine zlEnd (by kernel_rfl) ?_
        refine zkSeq ?_
        refine zrCondT (by kernel_rfl) ?_
        refine zrReg ?_
        refine zlRun (n := 8) (j := 8) rfl (by kernel_rfl) ?_
        refine zlEnd (by kernel_rfl) ?_
        refine zkBlk ?_
        refine zkNil ?_
        exact endQ hS hQ (fNorm ((congrArg (fun s => outR s 1 c52.res) (by kernel_rfl : finSt c52.fin _ = f52_fin (GPen.mk (bitI .andNot .i64 a2.Flags 3) a2.Fore a2.Back))).trans (f52_out (GPen.mk (bitI .andNot .i64 a2.Flags 3) a2.Fore a2.Back))))
      · replace hS := cond_f hc hS
        refine zlRun (n := 1) (j := 3) rfl (by kernel_rfl) ?_
        refine zlEnd (by kernel_rfl) ?_
        refine zkSeq ?_
        refine zrCondF (by kernel_rfl) ?_
        refine zrSeq ?_
        refine zrReg ?_
        refine zlRun (n := 1) (j := 1) rfl (by kernel_rfl) ?_
        refine zlBool (d := 56) (op := (.cmpI .geq (.tmp 55) (.const (.int .i64 23)))) (g := none) (j := 2) (decide (23 ≤ a1)) rfl (by kernel_rfl) (by kernel_rfl) (by kernel_rfl) (fun hc => ?_) (fun hc => ?_)
        · replace hS := cond_t hc hS
          refine zlRun (n := 2) (j := 4) rfl (by kernel_rfl) ?_
          refine zlBool (d := 59) (op := (.cmpI .leq (.tmp 58) (.const (.int .i64 29)))) (g := (some (57, true))) (j := 5) (decide (a1 ≤ 29)) rfl (by kernel_rfl) (by kernel_rfl) (by kernel_rfl) (fun hc => ?_) (fun hc => ?_)
          · replace hS := cond_t hc hS
            refine zlRun (n := 2) (j := 7) rfl (by kernel_rfl) ?_
            refine zlEnd (by kernel_rfl) ?_
            refine zkSeq ?_
            refine zrCondT (by kernel_rfl) ?_
            refine zrRegD ?_
            refine zdRun (n := 6) (j := 6) (ts := [[], [], [], [(0, false)], [], []]) (acc' := [[], [], [], [(0, false)], [], []]) rfl (by kernel_rfl) (by kernel_rfl) (by kernel_rfl) ?_
            refine bindE hS (fun z8 hz8 hS => ?_)
            refine zdOp (d := some 67) (op := (.call 46 [(.tmp 66)])) (g := none) (v := (.d (.int .i64 z8))) (ups := []) (j := 7) (t1 := [(544, true), (545, true), (546, true), (547, true), (548, true), (549, true), (550, true), (551, true)]) (acc' := [[], [], [], [(0, false)], [], [], [(544, true), (545, true), (546, true), (547, true), (548, true), (549, true), (550, true), (551, true)]]) (by kernel_rfl) (by kernel_rfl) rfl (by kernel_rfl) (by kernel_rfl) (ev_call (args := [(.d (.int .i64 (IntKind.i64.wrap (a1 - 20))))]) (l := [(.d (.int .i64 (IntKind.i64.wrap (a1 - 20))))]) (r := (.d (.int .i64 z8))) (by kernel_rfl) (by kernel_rfl) (f46_ok base (d - 1) (dpt hd rfl) (IntKind.i64.wrap (a1 - 20)) z8 hz8) (by kernel_rfl) (by kernel_rfl) (by kernel_rfl)) ?_
            refine zdRun (n := 4) (j := 11) (ts := [[], [], [], [(0, true)]]) (acc' := [[], [], [], [(0, false)], [], [], [(544, true), (545, true), (546, true), (547, true), (548, true), (549, true), (550, true), (551, true)], [], [], [], [(0, true)]]) rfl (by kernel_rfl) (by kernel_rfl) (by kernel_rfl) ?_
            refine zdEnd (by kernel_rfl) (by kernel_rfl) ?_
            refine zkBlk ?_
            refine zkNil ?_
            exact endQ hS hQ (fNorm ((congrArg (fun s => outR s 1 c52.res) (by kernel_rfl : finSt c52.fin _ = f52_fin (GPen.mk (bitI .andNot .i64 a2.Flags z8) a2.Fore a2.Back))).trans (f52_out (GPen.mk (bitI .andNot .i64 a2.Flags z8) a2.Fore a2.Back))))
          · replace hS := cond_f hc hS
            refine zlRun (n := 2) (j := 7) rfl (by kernel_rfl) ?_
            refine zlEnd (by kernel_rfl) ?_
            refine zkSeq ?_
            refine zrCondF (by kernel_rfl) ?_
            exact f52_j4_ok hd a1 a2 hQ  hS (by kernel_rfl)
        · replace hS := cond_f hc hS
          refine zlRun (n := 5) (j := 7) rfl (by kernel_rfl) ?_
          refine zlEnd (by kernel_rfl) ?_
          refine zkSeq ?_
          refine zrCondF (by kernel_rfl) ?_
          exact f52_j4_ok hd a1 a2 hQ  hS (by kernel_rfl)
def f52_j6_J (a1 : Int) (a2 : GPen) : St := ⟨(up (up (fun _ => .un) 1 (.d (.int .i64 a1))) 0 (.r (.ptr 0 0 0))), (up (hB fun _ => 0) 0 ⟨0, some (.box ((.d (.int .i64 a2.Flags)) :: ((.d (.int .i64 a2.Fore)) :: ((.d (.int .i64 a2.Back)) :: []))))⟩)⟩
noncomputable def f52_j6 (a1 : Int) (a2 : GPen) : Option (GPen) := (f52_j0 a1 a2 )
theorem f52_j6_ok {base : Orc} {d : Nat} (hd : 2 ≤ d) (a1 : Int) (a2 : GPen) {r : GPen} {Q : PX → St → Prop} (hQ : ∀ e st', f52_Q r e st' → Q e st')  (hS : f52_j6 a1 a2 = some r) {st : St} (he : keepSt [0, 1] [(0, .id 0)] [] st = f52_j6_J a1 a2) : ZR (lev codes base (d - 1)) Q c52_4 [.seq c52_3] st := by
  refine zrKeep he ?_
  unfold f52_j6 at hS
  refine zrReg ?_
  refine zlRun (n := 5) (j := 5) rfl (by kernel_rfl) ?_
  refine zlEnd (by kernel_rfl) ?_
  refine zkSeq ?_
  exact f52_j0_ok hd a1 a2 hQ  hS (by kernel_rfl)
def f52_j7_J (a1 : Int) (a2 : GPen) : St := ⟨(up (up (up (up (fun _ => .un) 5 (.d (.int .i64 30))) 4 (.r (.ptr 0 0 1))) 1 (.d (.int .i64 a1))) 0 (.r (.ptr 0 0 0))), (up (hB fun _ => 0) 0 ⟨0, some (.box ((.d (.int .i64 a2.Flags)) :: ((.d (.int .i64 a2.Fore)) :: ((.d (.int .i64 a2.Back)) :: []))))⟩)⟩
noncomputable def f52_j7 (a1 : Int) (a2 : GPen) : Option (GPen) := (f52_j3 a1 a2 )
theorem f52_j7_ok {base : Orc} {d : Nat} (hd : 2 ≤ d) (a1 : Int) (a2 : GPen) {r : GPen} {Q : PX → St → Prop} (hQ : ∀ e st', f52_Q r e st' → Q e st')  (hS : f52_j7 a1 a2 = some r) {st : St} (he : keepSt [0, 1, 4, 5] [(0, .id 0)] [] st = f52_j7_J a1 a2) : ZR (lev codes base (d - 1)) Q c52_5 [.seq c52_3] st := by
  refine zrKeep he ?_
  unfold f52_j7 at hS
  refine zrSkip ?_
  refine zkSeq ?_
  exact f52_j3_ok hd a1 a2 hQ  hS (by kernel_rfl)
noncomputable def f52 (a1 : Int) (a2 : GPen) : Option (GPen) := (bif (decide (40 ≤ a1)) then (bif (decide (a1 ≤ 49)) then (f52_j6 a1 a2 ) else (bif (decide (100 ≤ a1)) then (bif (decide (a1 ≤ 107)) then (f52_j6 a1 a2 ) else (f52_j7 a1 a2 )) else (f52_j7 a1 a2 ))) else (bif (decide (100 ≤ a1)) then (bif (decide (a1 ≤ 107)) then (f52_j6 a1 a2 ) else (f52_j7 a1 a2 )) else (f52_j7 a1 a2 )))
theorem f52_ok (base : Orc) (d : Nat) (hd : 2 ≤ d) (a1 : Int) (a2 : GPen) (r : GPen) (hS : f52 a1 a2 = some r) : lev codes base d 52 [(.r (.ptr 0 0 0)), (.d (.int .i64 a1))] [(.box ((.d (.int .i64 a2.Flags)) :: ((.d (.int .i64 a2.Fore)) :: ((.d (.int .i64 a2.Back)) :: []))))] = some ((.tup []), [(.box ((.d (.int .i64 r.Flags)) :: ((.d (.int .i64 r.Fore)) :: ((.d (.int .i64 r.Back)) :: []))))]) := by
  refine lev_go codes52 rfl rfl (Nat.le_trans (Nat.le_of_ble_eq_true rfl) hd) fun Q hQ => ?_
  unfold f52 at hS
  show ZR _ Q c52_b [] _
  replace hQ : ∀ e st', f52_Q r e st' → Q e st' := hQ
  refine zrSeq ?_
  refine zrReg ?_
  refine zlRun (n := 5) (j := 5) rfl (by kernel_rfl) ?_
  refine zlEnd (by kernel_rfl) ?_
  refine zkSeq ?_
  refine zrSeq ?_
  refine zrSeq ?_
  refine zrReg ?_
  refine zlRun (n := 1) (j := 1) rfl (by kernel_rfl) ?_
  refine zlBool (d := 10) (op := (.cmpI .geq (.tmp 9) (.const (.int .i64 40)))) (g := none) (j := 2) (decide (40 ≤ a1)) rfl (by kernel_rfl) (by kernel_rfl) (by kernel_rfl) (fun hc => ?_) (fun hc => ?_)
  · replace hS := cond_t hc hS
    refine zlRun (n := 2) (j := 4) rfl (by kernel_rfl) ?_
    refine zlBool (d := 13) (op := (.cmpI .leq (.tmp 12) (.const (.int .i64 49)))) (g := (some (11, true))) (j := 5) (decide (a1 ≤ 49)) rfl (by kernel_rfl) (by kernel_rfl) (by kernel_rfl) (fun hc => ?_) (fun hc => ?_)
    · replace hS := cond_t hc hS
      refine zlRun (n := 9) (j := 14) rfl (by kernel_rfl) ?_
      refine zlEnd (by kernel_rfl) ?_
      refine zkSeq ?_
      refine zrCondT (by kernel_rfl) ?_
      exact f52_j6_ok hd a1 a2 hQ  hS (by kernel_rfl)
    · replace hS := cond_f hc hS
      refine zlRun (n := 3) (j := 8) rfl (by kernel_rfl) ?_
      refine zlBool (d := 17) (op := (.cmpI .geq (.tmp 16) (.const (.int .i64 100)))) (g := (some (15, false))) (j := 9) (decide (100 ≤ a1)) rfl (by kernel_rfl) (by kernel_rfl) (by kernel_rfl) (fun hc => ?_) (fun hc => ?_)
      · replace hS := cond_t hc hS
        refine zlRun (n := 2) (j := 11) rfl (by kernel_rfl) ?_
        refine zlBool (d := 20) (op := (.cmpI .leq (.tmp 19) (.const (.int .i64 107)))) (g := (some (18, true))) (j := 12) (decide (a1 ≤ 107)) rfl (by kernel_rfl) (by kernel_rfl) (by kernel_rfl) (fun hc => ?_) (fun hc => ?_)
        · replace hS := cond_t hc hS
          refine zlRun (n := 2) (j := 14) rfl (by kernel_rfl) ?_
          refine zlEnd (by kernel_rfl) ?_
          refine zkSeq ?_
          refine zrCondT (by kernel_rfl) ?_
          exact f52_j6_ok hd a1 a2 hQ  hS (by kernel_rfl)
        · replace hS := cond_f hc hS
          refine zlRun (n := 2) (j := 14) rfl (by kernel_rfl) ?_
          refine zlEnd (by kernel_rfl) ?_
          refine zkSeq ?_
          refine zrCondF (by kernel_rfl) ?_
          exact f52_j7_ok hd a1 a2 hQ  hS (by kernel_rfl)
      · replace hS := cond_f hc hS
        refine zlRun (n := 5) (j := 14) rfl (by kernel_rfl) ?_
        refine zlEnd (by kernel_rfl) ?_
        refine zkSeq ?_
        refine zrCondF (by kernel_rfl) ?_
        exact f52_j7_ok hd a1 a2 hQ  hS (by kernel_rfl)
  · replace hS := cond_f hc hS
    refine zlRun (n := 6) (j := 8) rfl (by kernel_rfl) ?_
    refine zlBool (d := 17) (op := (.cmpI .geq (.tmp 16) (.const (.int .i64 100)))) (g := (some (15, false))) (j := 9) (decide (100 ≤ a1)) rfl (by kernel_rfl) (by kernel_rfl) (by kernel_rfl) (fun hc => ?_) (fun hc => ?_)
    · replace hS := cond_t hc hS
      refine zlRun (n := 2) (j := 11) rfl (by kernel_rfl) ?_
      refine zlBool (d := 20) (op := (.cmpI .leq (.tmp 19) (.const (.int .i64 107)))) (g := (some (18, true))) (j := 12) (decide (a1 ≤ 107)) rfl (by kernel_rfl) (by kernel_rfl) (by kernel_rfl) (fun hc => ?_) (fun hc => ?_)
      · replace hS := cond_t hc hS
        refine zlRun (n := 2) (j := 14) rfl (by kernel_rfl) ?_
        refine zlEnd (by kernel_rfl) ?_
        refine zkSeq ?_
        refine zrCondT (by kernel_rfl) ?_
        exact f52_j6_ok hd a1 a2 hQ  hS (by kernel_rfl)
      · replace hS := cond_f hc hS
        refine zlRun (n := 2) (j := 14) rfl (by kernel_rfl) ?_
        refine zlEnd (by kernel_rfl) ?_
        refine zkSeq ?_
        refine zrCondF (by kernel_rfl) ?_
        exact f52_j7_ok hd a1 a2 hQ  hS (by kernel_rfl)
    · replace hS := cond_f hc hS
      refine zlRun (n := 5) (j := 14) rfl (by kernel_rfl) ?_
      refine zlEnd (by kernel_rfl) ?_
      refine zkSeq ?_
      refine zrCondF (by kernel_rfl) ?_
      exact f52_j7_ok hd a1 a2 hQ  hS (by kernel_rfl)
/- farwriter/pen.color -/
def f54_fin (p6 : Bool) : St := ⟨(up (fun _ => .un) 2 (.d (.bool p6))), (hB fun _ => 0)⟩
theorem f54_out (p6 : Bool) : outR (f54_fin p6) 0 c54.res = some ((.d (.bool p6)), []) := by
  kernel_rfl
def f54_Q (r : Bool) (e : PX) (st : St) : Prop := DoneF c54 0 ((.d (.bool r)), []) e st
noncomputable def f54 (a1 : Int) : Option (Bool) := (bif (decide (0 ≤ a1)) then (bif (decide (a1 ≤ 256)) then (some true) else (bif (decide (16777216 ≤ a1)) then (bif (decide (a1 < 33554432)) then (some true) else (some false)) else (some false))) else (bif (decide (16777216 ≤ a1)) then (bif (decide (a1 < 33554432)) then (some true) else (some false)) else (some false)))
theorem f54_ok (base : Orc) (d : Nat) (hd : 1 ≤ d) (a1 : Int) (r : Bool) (hS : f54 a1 = some r) : lev codes base d 54 [(.d (.int .i64 a1))] [] = some ((.d (.bool r)), []) := by
  refine lev_go codes54 rfl rfl (Nat.le_trans (Nat.le_of_ble_eq_true rfl) hd) fun Q hQ => ?_
  unfold f54 at hS
  show ZR _ Q c54_b [] _
  replace hQ : ∀ e st', f54_Q r e st' → Q e st' := hQ
  refine zrSeq ?_
  refine zrReg ?_
  refine zlRun (n := 1) (j := 1) rfl (by kernel_rfl) ?_
  refine zlEnd (by kernel_rfl) ?_
  refine zkSeq ?_
  refine zrSeq ?_
  refine zrReg ?_
  refine zlRun (n := 1) (j := 1) rfl (by kernel_rfl) ?_
  refine zlBool (d := 4) (op := (.cmpI .geq (.tmp 3) (.const (.int .i64 0)))) (g := none) (j := 2) (decide (0 ≤ a1)) rfl (by kernel_rfl) (by kernel_rfl) (by kernel_rfl) (fun hc => ?_) (fun hc => ?_)
  · replace hS := cond_t hc hS
    refine zlRun (n := 2) (j := 4) rfl (by kernel_rfl) ?_
    refine zlBool (d := 7) (op := (.cmpI .leq (.tmp 6) (.const (.int .i64 256)))) (g := (some (5, true))) (j := 5) (decide (a1 ≤ 256)) rfl (by kernel_rfl) (by kernel_rfl) (by kernel_rfl) (fun hc => ?_) (fun hc => ?_)
    · replace hS := cond_t hc hS
      refine zlRun (n := 10) (j := 15) rfl (by kernel_rfl) ?_
      refine zlEnd (by kernel_rfl) ?_
      refine zkSeq ?_
      refine zrRet ?_
      refine zkNil ?_
      exact endQ hS hQ (fRet ((congrArg (fun s => outR s 0 c54.res) (by kernel_rfl : finSt c54.fin _ = f54_fin true)).trans (f54_out true)))
    · replace hS := cond_f hc hS
      refine zlRun (n := 3) (j := 8) rfl (by kernel_rfl) ?_
      refine zlBool (d := 11) (op := (.cmpI .geq (.tmp 10) (.const (.int .i64 16777216)))) (g := (some (9, false))) (j := 9) (decide (16777216 ≤ a1)) rfl (by kernel_rfl) (by kernel_rfl) (by kernel_rfl) (fun hc => ?_) (fun hc => ?_)
      · replace hS := cond_t hc hS
        refine zlRun (n := 2) (j := 11) rfl (by kernel_rfl) ?_
        refine zlBool (d := 14) (op := (.cmpI .lss (.tmp 13) (.const (.int .i64 33554432)))) (g := (some (12, true))) (j := 12) (decide (a1 < 33554432)) rfl (by kernel_rfl) (by kernel_rfl) (by kernel_rfl) (fun hc => ?_) (fun hc => ?_)
        · replace hS := cond_t hc hS
          refine zlRun (n := 3) (j := 15) rfl (by kernel_rfl) ?_
          refine zlEnd (by kernel_rfl) ?_
          refine zkSeq ?_
          refine zrRet ?_
          refine zkNil ?_
          exact endQ hS hQ (fRet ((congrArg (fun s => outR s 0 c54.res) (by kernel_rfl : finSt c54.fin _ = f54_fin true)).trans (f54_out true)))
        · replace hS := cond_f hc hS
          refine zlRun (n := 3) (j := 15) rfl (by kernel_rfl) ?_
          refine zlEnd (by kernel_rfl) ?_
          refine zkSeq ?_
          refine zrRet ?_
          refine zkNil ?_
          exact endQ hS hQ (fRet ((congrArg (fun s => outR s 0 c54.res) (by kernel_rfl : finSt c54.fin _ = f54_fin false)).trans (f54_out false)))
      · replace hS := cond_f hc hS
        refine zlRun (n := 6) (j := 15) rfl (by kernel_rfl) ?_
        refine zlEnd (by kernel_rfl) ?_
        refine zkSeq ?_
        refine zrRet ?_
        refine zkNil ?_
        exact endQ hS hQ (fRet ((congrArg (fun s => outR s 0 c54.res) (by kernel_rfl : finSt c54.fin _ = f54_fin false)).trans (f54_out false)))
  · replace hS := cond_f hc hS
    refine zlRun (n := 6) (j := 8) rfl (by kernel_rfl) ?_
    refine zlBool (d := 11) (op := (.cmpI .geq (.tmp 10) (.const (.int .i64 16777216)))) (g := (some (9, false))) (j := 9) (decide (16777216 ≤ a1)) rfl (by kernel_rfl) (by kernel_rfl) (by kernel_rfl) (fun hc => ?_) (fun hc => ?_)
    · replace hS := cond_t hc hS
      refine zlRun (n := 2) (j := 11) rfl (by kernel_rfl) ?_
      refine zlBool (d := 14) (op := (.cmpI .lss (.tmp 13) (.const (.int .i64 33554432)))) (g := (some (12, true))) (j := 12) (decide (a1 < 33554432)) rfl (by kernel_rfl) (by kernel_rfl) (by kernel_rfl) (fun hc => ?_) (fun hc => ?_)
      · replace hS := cond_t hc hS
        refine zlRun (n := 3) (j := 15) rfl (by kernel_rfl) ?_
        refine zlEnd (by kernel_rfl) ?_
        refine zkSeq ?_
        refine zrRet ?_
        refine zkNil ?_
        exact endQ hS hQ (fRet ((congrArg (fun s => outR s 0 c54.res) (by kernel_rfl : finSt c54.fin _ = f54_fin true)).trans (f54_out true)))
      · replace hS := cond_f hc hS
        refine zlRun (n := 3) (j := 15) rfl (by kernel_rfl) ?_
        refine zlEnd (by kernel_rfl) ?_
        refine zkSeq ?_
        refine zrRet ?_
        refine zkNil ?_
        exact endQ hS hQ (fRet ((congrArg (fun s => outR s 0 c54.res) (by kernel_rfl : finSt c54.fin _ = f54_fin false)).trans (f54_out false)))
    · replace hS := cond_f hc hS
      refine zlRun (n := 6) (j := 15) rfl (by kernel_rfl) ?_
      refine zlEnd (by kernel_rfl) ?_
      refine zkSeq ?_
      refine zrRet ?_
      refine zkNil ?_
      exact endQ hS hQ (fRet ((congrArg (fun s => outR s 0 c54.res) (by kernel_rfl : finSt c54.fin _ = f54_fin false)).trans (f54_out false)))
/- farwriter/pen.Check -/
def f33_fin (p2 : Int) : St := ⟨(up (fun _ => .un) 2 (.d (.int .i64 p2))), (hB fun _ => 0)⟩
theorem f33_out (p2 : Int) : outR (f33_fin p2) 0 c33.res = some ((.d (.int .i64 p2)), []) := by
  kernel_rfl
def f33_Q (r : Int) (e : PX) (st : St) : Prop := DoneF c33 0 ((.d (.int .i64 r)), []) e st
noncomputable def f33 (a1 : GPen) : Option (Int) := (bif (decide (a1.Flags < 0)) then (some 4) else (bif (decide (255 < a1.Flags)) then (some 4) else ((f54 a1.Fore).bind fun z3 => (bif (!z3) then (some 4) else ((f54 a1.Back).bind fun z4 => (bif (!z4) then (some 4) else (some 0)))))))
theorem f33_ok (base : Orc) (d : Nat) (hd : 2 ≤ d) (a1 : GPen) (r : Int) (hS : f33 a1 = some r) : lev codes base d 33 [(.agg ((.d (.int .i64 a1.Flags)) :: ((.d (.int .i64 a1.Fore)) :: ((.d (.int .i64 a1.Back)) :: []))))] [] = some ((.d (.int .i64 r)), []) := by
  refine lev_go codes33 rfl rfl (Nat.le_trans (Nat.le_of_ble_eq_true rfl) hd) fun Q hQ => ?_
  unfold f33 at hS
  show ZR _ Q c33_b [] _
  replace hQ : ∀ e st', f33_Q r e st' → Q e st' := hQ
  refine zrSeq ?_
  refine zrReg ?_
  refine zlRun (n := 2) (j := 2) rfl (by kernel_rfl) ?_
  refine zlEnd (by kernel_rfl) ?_
  refine zkSeq ?_
  refine zrSeq ?_
  refine zrSeq ?_
  refine zrReg ?_
  refine zlRun (n := 2) (j := 2) rfl (by kernel_rfl) ?_
  refine zlBool (d := 5) (op := (.cmpI .lss (.tmp 4) (.const (.int .i64 0)))) (g := none) (j := 3) (decide (a1.Flags < 0)) rfl (by kernel_rfl) (by kernel_rfl) (by kernel_rfl) (fun hc => ?_) (fun hc => ?_)
  · replace hS := cond_t hc hS
    refine zlRun (n := 17) (j := 20) rfl (by kernel_rfl) ?_
    refine zlEnd (by kernel_rfl) ?_
    refine zkSeq ?_
    refine zrCondT (by kernel_rfl) ?_
    refine zrSeq ?_
    refine zrReg ?_
    refine zlRun (n := 1) (j := 1) rfl (by kernel_rfl) ?_
    refine zlEnd (by kernel_rfl) ?_
    refine zkSeq ?_
    refine zrRet ?_
    refine zkSeqR ?_
    refine zkNil ?_
    exact endQ hS hQ (fRet ((congrArg (fun s => outR s 0 c33.res) (by kernel_rfl : finSt c33.fin _ = f33_fin 4)).trans (f33_out 4)))
  · replace hS := cond_f hc hS
    refine zlRun (n := 3) (j := 6) rfl (by kernel_rfl) ?_
    refine zlBool (d := 9) (op := (.cmpI .gtr (.tmp 8) (.const (.int .i64 255)))) (g := (some (6, false))) (j := 7) (decide (255 < a1.Flags)) rfl (by kernel_rfl) (by kernel_rfl) (by kernel_rfl) (fun hc => ?_) (fun hc => ?_)
    · replace hS := cond_t hc hS
      refine zlRun (n := 13) (j := 20) rfl (by kernel_rfl) ?_
      refine zlEnd (by kernel_rfl) ?_
      refine zkSeq ?_
      refine zrCondT (by kernel_rfl) ?_
      refine zrSeq ?_
      refine zrReg ?_
      refine zlRun (n := 1) (j := 1) rfl (by kernel_rfl) ?_
      refine zlEnd (by kernel_rfl) ?_
      refine zkSeq ?_
      refine zrRet ?_
      refine zkSeqR ?_
      refine zkNil ?_
      exact endQ hS hQ (fRet ((congrArg (fun s => outR s 0 c33.res) (by kernel_rfl : finSt c33.fin _ = f33_fin 4)).trans (f33_out 4)))
    · replace hS := cond_f hc hS
      refine zlRun (n := 4) (j := 11) rfl (by kernel_rfl) ?_
      refine bindE hS (fun z3 hz3 hS => ?_)
      refine zlOp (d := some 14) (op := (.call 54 [(.tmp 13)])) (g := (some (11, false))) (v := (.d (.bool z3))) (ups := []) (j := 12) rfl (by kernel_rfl) (by kernel_rfl) (ev_call (args := [(.d (.int .i64 a1.Fore))]) (l := [(.d (.int .i64 a1.Fore))]) (r := (.d (.bool z3))) (by kernel_rfl) (by kernel_rfl) (f54_ok base (d - 1) (dpt hd rfl) a1.Fore z3 hz3) (by kernel_rfl) (by kernel_rfl) (by kernel_rfl)) ?_
      refine zlRun (n := 3) (j := 15) rfl (by kernel_rfl) ?_
      refine zlSplit 17 (!z3) (by kernel_rfl) (fun hc => ?_) (fun hc => ?_)
      · replace hS := cond_t hc hS
        refine zlRun (n := 5) (j := 20) rfl (by kernel_rfl) ?_
        refine zlEnd (by kernel_rfl) ?_
        refine zkSeq ?_
        refine zrCondT (by kernel_rfl) ?_
        refine zrSeq ?_
        refine zrReg ?_
        refine zlRun (n := 1) (j := 1) rfl (by kernel_rfl) ?_
        refine zlEnd (by kernel_rfl) ?_
        refine zkSeq ?_
        refine zrRet ?_
        refine zkSeqR ?_
        refine zkNil ?_
        exact endQ hS hQ (fRet ((congrArg (fun s => outR s 0 c33.res) (by kernel_rfl : finSt c33.fin _ = f33_fin 4)).trans (f33_out 4)))
      · replace hS := cond_f hc hS
        refine zlRun (n := 2) (j := 17) rfl (by kernel_rfl) ?_
        refine bindE hS (fun z4 hz4 hS => ?_)
        refine zlOp (d := some 20) (op := (.call 54 [(.tmp 19)])) (g := (some (17, false))) (v := (.d (.bool z4))) (ups := []) (j := 18) rfl (by kernel_rfl) (by kernel_rfl) (ev_call (args := [(.d (.int .i64 a1.Back))]) (l := [(.d (.int .i64 a1.Back))]) (r := (.d (.bool z4))) (by kernel_rfl) (by kernel_rfl) (f54_ok base (d - 1) (dpt hd rfl) a1.Back z4 hz4) (by kernel_rfl) (by kernel_rfl) (by kernel_rfl)) ?_
        refine zlRun (n := 2) (j := 20) rfl (by kernel_rfl) ?_
        refine zlEnd (by kernel_rfl) ?_
        refine zkSeq ?_
        refine zrSplit 22 (!z4) (by kernel_rfl) (fun hc => ?_) (fun hc => ?_)
        · replace hS := cond_t hc hS
          refine zrCondT (by kernel_rfl) ?_
          refine zrSeq ?_
          refine zrReg ?_
          refine zlRun (n := 1) (j := 1) rfl (by kernel_rfl) ?_
          refine zlEnd (by kernel_rfl) ?_
          refine zkSeq ?_
          refine zrRet ?_
          refine zkSeqR ?_
          refine zkNil ?_
          exact endQ hS hQ (fRet ((congrArg (fun s => outR s 0 c33.res) (by kernel_rfl : finSt c33.fin _ = f33_fin 4)).trans (f33_out 4)))
        · replace hS := cond_f hc hS
          refine zrCondF (by kernel_rfl) ?_
          refine zrSkip ?_
          refine zkSeq ?_
          refine zrSeq ?_
          refine zrReg ?_
          refine zlRun (n := 1) (j := 1) rfl (by kernel_rfl) ?_
          refine zlEnd (by kernel_rfl) ?_
          refine zkSeq ?_
          refine zrRet ?_
          refine zkNil ?_
          exact endQ hS hQ (fRet ((congrArg (fun s => outR s 0 c33.res) (by kernel_rfl : finSt c33.fin _ = f33_fin 0)).trans (f33_out 0)))
/- farwriter/pen.Sgr$1 -/
def f51_fin (p2 : Bool) : St := ⟨(up (fun _ => .un) 2 (.d (.bool p2))), (hB fun _ => 0)⟩
theorem f51_out (p2 : Bool) : outR (f51_fin p2) 0 c51.res = some ((.d (.bool p2)), []) := by
  kernel_rfl
def f51_Q (r : Bool) (e : PX) (st : St) : Prop := DoneF c51 0 ((.d (.bool r)), []) e st
noncomputable def f51 (a1 : Int) : Option (Bool) := (bif (decide (a1 < (-1))) then (some true) else (bif (decide (16383 < a1)) then (some true) else (some false)))
theorem f51_ok (base : Orc) (d : Nat) (hd : 1 ≤ d) (a1 : Int) (r : Bool) (hS : f51 a1 = some r) : lev codes base d 51 [(.d (.int .i64 a1))] [] = some ((.d (.bool r)), []) := by
  refine lev_go codes51 rfl rfl (Nat.le_trans (Nat.le_of_ble_eq_true rfl) hd) fun Q hQ => ?_
  unfold f51 at hS
  show ZR _ Q c51_b [] _
  replace hQ : ∀ e st', f51_Q r e st' → Q e st' := hQ
  refine zrSeq ?_
  refine zrReg ?_
  refine zlRun (n := 1) (j := 1) rfl (by kernel_rfl) ?_
  refine zlEnd (by kernel_rfl) ?_
  refine zkSeq ?_
  refine zrSeq ?_
  refine zrReg ?_
  refine zlRun (n := 1) (j := 1) rfl (by kernel_rfl) ?_
  refine zlBool (d := 4) (op := (.cmpI .lss (.tmp 3) (.const (.int .i64 (-1))))) (g := none) (j := 2) (decide (a1 < (-1))) rfl (by kernel_rfl) (by kernel_rfl) (by kernel_rfl) (fun hc => ?_) (fun hc => ?_)
  · replace hS := cond_t hc hS
    refine zlRun (n := 5) (j := 7) rfl (by kernel_rfl) ?_
    refine zlEnd (by kernel_rfl) ?_
    refine zkSeq ?_
    refine zrRet ?_
    refine zkNil ?_
    exact endQ hS hQ (fRet ((congrArg (fun s => outR s 0 c51.res) (by kernel_rfl : finSt c51.fin _ = f51_fin true)).trans (f51_out true)))
  · replace hS := cond_f hc hS
    refine zlRun (n := 2) (j := 4) rfl (by kernel_rfl) ?_
    refine zlBool (d := 7) (op := (.cmpI .gtr (.tmp 6) (.const (.int .i64 16383)))) (g := (some (5, false))) (j := 5) (decide (16383 < a1)) rfl (by kernel_rfl) (by kernel_rfl) (by kernel_rfl) (fun hc => ?_) (fun hc => ?_)
    · replace hS := cond_t hc hS
      refine zlRun (n := 2) (j := 7) rfl (by kernel_rfl) ?_
      refine zlEnd (by kernel_rfl) ?_
      refine zkSeq ?_
      refine zrRet ?_
      refine zkNil ?_
      exact endQ hS hQ (fRet ((congrArg (fun s => outR s 0 c51.res) (by kernel_rfl : finSt c51.fin _ = f51_fin true)).trans (f51_out true)))
    · replace hS := cond_f hc hS
      refine zlRun (n := 2) (j := 7) rfl (by kernel_rfl) ?_
      refine zlEnd (by kernel_rfl) ?_
      refine zkSeq ?_
      refine zrRet ?_
      refine zkNil ?_
      exact endQ hS hQ (fRet ((congrArg (fun s => outR s 0 c51.res) (by kernel_rfl : finSt c51.fin _ = f51_fin false)).trans (f51_out false)))
/- slices.IndexFunc[[]int,int] -/
def f61_fin (p8 : Int) : St := ⟨(up (fun _ => .un) 4 (.d (.int .i64 p8))), (hB fun _ => 0)⟩
theorem f61_out (p8 : Int) : outR (f61_fin p8) 0 c61.res = some ((.d (.int .i64 p8)), []) := by
  kernel_rfl
def f61_Q (r : Int) (e : PX) (st : St) : Prop := DoneF c61 0 ((.d (.int .i64 r)), []) e st
def f61_l0_J (a1 : List Int) (x : Int) : St := ⟨(up (up (up (up (fun _ => .un) 8 (.d (.int .i64 x))) 7 (.d (.int .i64 (a1.length : Int)))) 1 (.fn 51 [])) 0 (.d (.sl a1.length ((eInt .i64).cells a1)))), (hB fun _ => 0)⟩
def f61_l0_H (a1 : List Int) (x : Int) (st : St) : Prop := keepSt [0, 1, 7, 8] [] [] st = f61_l0_J a1 x
def f61_l0_e0_J (a1 : List Int) : St := ⟨(fun _ => .un), (hB fun _ => 0)⟩
def f61_l0_X (a1 : List Int) (z : Unit ⊕ Int) (e : PX) (st : St) : Prop := (match z with | .inl z => e = .exit 0 ∧ st = f61_l0_e0_J a1 | .inr z => e = .ret ∧ finSt c61.fin st = f61_fin z)
def f61_l0_j2_J (a1 : List Int) (p13 : Int) : St := ⟨(up (up (up (up (fun _ => .un) 8 (.d (.int .i64 p13))) 7 (.d (.int .i64 (a1.length : Int)))) 1 (.fn 51 [])) 0 (.d (.sl a1.length ((eInt .i64).cells a1)))), (hB fun _ => 0)⟩
noncomputable def f61_l0_j2 (a1 : List Int) (p13 : Int) : Option (Int ⊕ (Unit ⊕ Int)) := ((idx a1 p13).bind fun z7 => ((f51 z7).bind fun z8 => (bif z8 then (some (.inr (.inr p13))) else (some (.inl (IntKind.i64.wrap (p13 + 1)))))))
theorem f61_l0_j2_ok {base : Orc} {d : Nat} (hd : 2 ≤ d) (a1 : List Int) {r : Int ⊕ (Unit ⊕ Int)} {Q : PX → St → Prop} (hQ : ∀ e st', finL (f61_l0_H a1) (f61_l0_X a1) r e st' → Q e st') (p13 : Int) (hS : f61_l0_j2 a1 p13 = some r) {st : St} (he : keepSt [0, 1, 7, 8] [] [] st = f61_l0_j2_J a1 p13) : ZR (lev codes base (d - 1)) Q c61_1 [] st := by
  refine zrKeep he ?_
  unfold f61_l0_j2 at hS
  refine zrSeq ?_
  refine zrBlk ?_
  refine zrSeq ?_
  refine zrReg ?_
  refine zlRun (n := 2) (j := 2) rfl (by kernel_rfl) ?_
  refine zlEnd (by kernel_rfl) ?_
  refine zkSeq ?_
  refine zrSeq ?_
  refine zrReg ?_
  refine zlRun (n := 3) (j := 3) rfl (by kernel_rfl) ?_
  refine bindE hS (fun z7 hz7 hS => ?_)
  refine zlOp (d := some 14) (op := (.ixS 3 1 (.tmp 12) (.tmp 13))) (g := none) (v := (.rptr ((eInt .i64).enc z7 ++ ((eInt .i64).cells (a1.drop ((p13 : Int).toNat + 1)))))) (ups := []) (j := 4) rfl (by kernel_rfl) (by kernel_rfl) (ev_ixS (eInt .i64) (kk := .i64) (xs := a1) (j := p13) (by kernel_rfl) (by kernel_rfl) hz7 rfl (by intro h; cases h)) ?_
  refine zlRun (n := 1) (j := 5) rfl (by kernel_rfl) ?_
  refine bindE hS (fun z8 hz8 hS => ?_)
  refine zlOp (d := some 16) (op := (.callv (.tmp 11) [(.tmp 15)])) (g := none) (v := (.d (.bool z8))) (ups := []) (j := 6) rfl (by kernel_rfl) (by kernel_rfl) (ev_callv (f := 51) (cs := []) (by kernel_rfl) (args := [(.d (.int .i64 z7))]) (l := [(.d (.int .i64 z7))]) (r := (.d (.bool z8))) (by kernel_rfl) (by kernel_rfl) (f51_ok base (d - 1) (dpt hd rfl) z7 z8 hz8) (by kernel_rfl) (by kernel_rfl) (by kernel_rfl)) ?_
  refine zlEnd (by kernel_rfl) ?_
  refine zkSeq ?_
  refine zrSplit 16 z8 (by kernel_rfl) (fun hc => ?_) (fun hc => ?_)
  · replace hS := cond_t hc hS
    refine zrCondT (by kernel_rfl) ?_
    refine zrSeq ?_
    refine zrReg ?_
    refine zlRun (n := 2) (j := 2) rfl (by kernel_rfl) ?_
    refine zlEnd (by kernel_rfl) ?_
    refine zkSeq ?_
    refine zrRet ?_
    refine zkBlkR ?_
    refine zkSeqR ?_
    refine zkNil ?_
    exact endQ hS hQ (finL_x (by intro h; cases h) (by show _ = _ ∧ _ = _; exact ⟨rfl, by kernel_rfl⟩))
  · replace hS := cond_f hc hS
    refine zrCondF (by kernel_rfl) ?_
    refine zrSkip ?_
    refine zkBlk ?_
    refine zkSeq ?_
    refine zrReg ?_
    refine zlRun (n := 2) (j := 2) rfl (by kernel_rfl) ?_
    refine zlEnd (by kernel_rfl) ?_
    refine zkNil ?_
    exact endQ hS hQ (finL_n (by show keepSt _ _ _ _ = _; kernel_rfl))
def f61_l0_j1_J (a1 : List Int) (p11 : Int) (p12 : Bool) : St := ⟨(up (up (up (up (up (fun _ => .un) 9 (.d (.bool p12))) 8 (.d (.int .i64 p11))) 7 (.d (.int .i64 (a1.length : Int)))) 1 (.fn 51 [])) 0 (.d (.sl a1.length ((eInt .i64).cells a1)))), (hB fun _ => 0)⟩
noncomputable def f61_l0_j1 (a1 : List Int) (p11 : Int) (p12 : Bool) : Option (Int ⊕ (Unit ⊕ Int)) := (bif p12 then (f61_l0_j2 a1 p11) else (some (.inr (.inl ()))))
theorem f61_l0_j1_ok {base : Orc} {d : Nat} (hd : 2 ≤ d) (a1 : List Int) {r : Int ⊕ (Unit ⊕ Int)} {Q : PX → St → Prop} (hQ : ∀ e st', finL (f61_l0_H a1) (f61_l0_X a1) r e st' → Q e st') (p11 : Int) (p12 : Bool) (hS : f61_l0_j1 a1 p11 p12 = some r) {st : St} (he : keepSt [0, 1, 7, 8, 9] [] [] st = f61_l0_j1_J a1 p11 p12) : ZR (lev codes base (d - 1)) Q c61_2 [] st := by
  refine zrKeep he ?_
  unfold f61_l0_j1 at hS
  refine zrSeq ?_
  refine zrSplit 9 p12 (by kernel_rfl) (fun hc => ?_) (fun hc => ?_)
  · replace hS := cond_t hc hS
    refine zrCondT (by kernel_rfl) ?_
    refine zrSkip ?_
    refine zkSeq ?_
    exact f61_l0_j2_ok hd a1 hQ p11 hS (by kernel_rfl)
  · replace hS := cond_f hc hS
    refine zrCondF (by kernel_rfl) ?_
    refine zrKeep (J := f61_l0_e0_J a1) (by kernel_rfl) ?_
    refine zrExit ?_
    refine zkSeqX ?_
    refine zkNil ?_
    exact endQ hS hQ (finL_x (by intro h; cases h) (by show _ = _ ∧ _ = _; exact ⟨rfl, rfl⟩))
noncomputable def f61_l0 (a1 : List Int) (x : Int) : Option (Int ⊕ (Unit ⊕ Int)) := (bif (decide (x < (a1.length : Int))) then (f61_l0_j1 a1 x true) else (f61_l0_j1 a1 x false))
theorem f61_l0_ok {base : Orc} {d : Nat} (hd : 2 ≤ d) (a1 : List Int) {r : Int ⊕ (Unit ⊕ Int)} {Q : PX → St → Prop} (hQ : ∀ e st', finL (f61_l0_H a1) (f61_l0_X a1) r e st' → Q e st') {x : Int} (hS : f61_l0 a1 x = some r) {st : St} (he : f61_l0_H a1 x st) : ZR (lev codes base (d - 1)) Q c61_3 [] st := by
  refine zrKeep he ?_
  unfold f61_l0 at hS
  refine zrSeq ?_
  refine zrReg ?_
  refine zlBool (d := 9) (op := (.cmpI .lss (.tmp 8) (.tmp 7))) (g := none) (j := 1) (decide (x < (a1.length : Int))) rfl (by kernel_rfl) (by kernel_rfl) (by kernel_rfl) (fun hc => ?_) (fun hc => ?_)
  · replace hS := cond_t hc hS
    refine zlEnd (by kernel_rfl) ?_
    refine zkSeq ?_
    exact f61_l0_j1_ok hd a1 hQ x true hS (by kernel_rfl)
  · replace hS := cond_f hc hS
    refine zlEnd (by kernel_rfl) ?_
    refine zkSeq ?_
    exact f61_l0_j1_ok hd a1 hQ x false hS (by kernel_rfl)
noncomputable def f61 (a1 : List Int) : Option (Int) := ((loopO (f61_l0 a1) 0).bind fun z9 => (Sum.elim (fun z10 => (some (-1))) (fun z11 => (some z11)) z9))
theorem f61_ok (base : Orc) (d : Nat) (hd : 2 ≤ d) (a1 : List Int) (r : Int) (hS : f61 a1 = some r) : lev codes base d 61 [(.d (.sl a1.length ((eInt .i64).cells a1))), (.fn 51 [])] [] = some ((.d (.int .i64 r)), []) := by
  refine lev_go codes61 rfl rfl (Nat.le_trans (Nat.le_of_ble_eq_true rfl) hd) fun Q hQ => ?_
  unfold f61 at hS
  show ZR _ Q c61_b [] _
  replace hQ : ∀ e st', f61_Q r e st' → Q e st' := hQ
  refine zrSeq ?_
  refine zrReg ?_
  refine zlRun (n := 1) (j := 1) rfl (by kernel_rfl) ?_
  refine zlEnd (by kernel_rfl) ?_
  refine zkSeq ?_
  refine zrSeq ?_
  refine zrSeq ?_
  refine zrReg ?_
  refine zlRun (n := 3) (j := 3) rfl (by kernel_rfl) ?_
  refine zlEnd (by kernel_rfl) ?_
  refine zkSeq ?_
  refine zrBlk ?_
  refine bindE hS (fun z9 hz9 hS => ?_)
  refine zrLoop (f61_l0_H a1) (f61_l0_X a1) (fun x st r Q h0 hS hQ => f61_l0_ok hd a1 hQ hS h0) (x := 0) (z := z9) (by show keepSt _ _ _ _ = _; kernel_rfl) hz9 ?_
  rcases z9 with z10 | z11
  · replace hS := (show _ = _ from hS)
    simp only [Sum.elim_inl] at hS
    intro e st' _ hX
    obtain ⟨rfl, rfl⟩ : _ ∧ _ := hX
    refine zkBlkX ?_
    refine zkSeq ?_
    refine zrSeq ?_
    refine zrReg ?_
    refine zlRun (n := 1) (j := 1) rfl (by kernel_rfl) ?_
    refine zlEnd (by kernel_rfl) ?_
    refine zkSeq ?_
    refine zrRet ?_
    refine zkNil ?_
    exact endQ hS hQ (fRet ((congrArg (fun s => outR s 0 c61.res) (by kernel_rfl : finSt c61.fin _ = f61_fin (-1))).trans (f61_out (-1))))
  · simp only [Sum.elim_inr] at hS
    intro e st' _ hX
    obtain ⟨rfl, hX⟩ : _ ∧ _ := hX
    refine zkBlkR ?_
    refine zkSeqR ?_
    refine zkNil ?_
    exact endQ hS hQ (fRet ((congrArg (fun s => outR s 0 c61.res) hX).trans (f61_out z11)))
/- slices.ContainsFunc[[]int,int] -/
def f50_fin (p2 : Bool) : St := ⟨(up (fun _ => .un) 4 (.d (.bool p2))), (hB fun _ => 0)⟩
theorem f50_out (p2 : Bool) : outR (f50_fin p2) 0 c50.res = some ((.d (.bool p2)), []) := by
  kernel_rfl
def f50_Q (r : Bool) (e : PX) (st : St) : Prop := DoneF c50 0 ((.d (.bool r)), []) e st
noncomputable def f50 (a1 : List Int) : Option (Bool) := ((f61 a1).bind fun z2 => (bif (decide (0 ≤ z2)) then (some true) else (some false)))
theorem f50_ok (base : Orc) (d : Nat) (hd : 3 ≤ d) (a1 : List Int) (r : Bool) (hS : f50 a1 = some r) : lev codes base d 50 [(.d (.sl a1.length ((eInt .i64).cells a1))), (.fn 51 [])] [] = some ((.d (.bool r)), []) := by
  refine lev_go codes50 rfl rfl (Nat.le_trans (Nat.le_of_ble_eq_true rfl) hd) fun Q hQ => ?_
  unfold f50 at hS
  show ZR _ Q c50_b [] _
  replace hQ : ∀ e st', f50_Q r e st' → Q e st' := hQ
  refine zrSeq ?_
  refine zrReg ?_
  refine zlRun (n := 1) (j := 1) rfl (by kernel_rfl) ?_
  refine zlEnd (by kernel_rfl) ?_
  refine zkSeq ?_
  refine zrSeq ?_
  refine zrReg ?_
  refine zlRun (n := 2) (j := 2) rfl (by kernel_rfl) ?_
  refine bindE hS (fun z2 hz2 hS => ?_)
  refine zlOp (d := some 7) (op := (.call 61 [(.tmp 5), (.tmp 6)])) (g := none) (v := (.d (.int .i64 z2))) (ups := []) (j := 3) rfl (by kernel_rfl) (by kernel_rfl) (ev_call (args := [(.d (.sl a1.length ((eInt .i64).cells a1))), (.fn 51 [])]) (l := [(.d (.sl a1.length ((eInt .i64).cells a1))), (.fn 51 [])]) (r := (.d (.int .i64 z2))) (by kernel_rfl) (by kernel_rfl) (f61_ok base (d - 1) (dpt hd rfl) a1 z2 hz2) (by kernel_rfl) (by kernel_rfl) (by kernel_rfl)) ?_
  refine zlBool (d := 8) (op := (.cmpI .geq (.tmp 7) (.const (.int .i64 0)))) (g := none) (j := 4) (decide (0 ≤ z2)) rfl (by kernel_rfl) (by kernel_rfl) (by kernel_rfl) (fun hc => ?_) (fun hc => ?_)
  · replace hS := cond_t hc hS
    refine zlRun (n := 1) (j := 5) rfl (by kernel_rfl) ?_
    refine zlEnd (by kernel_rfl) ?_
    refine zkSeq ?_
    refine zrRet ?_
    refine zkNil ?_
    exact endQ hS hQ (fRet ((congrArg (fun s => outR s 0 c50.res) (by kernel_rfl : finSt c50.fin _ = f50_fin true)).trans (f50_out true)))
  · replace hS := cond_f hc hS
    refine zlRun (n := 1) (j := 5) rfl (by kernel_rfl) ?_
    refine zlEnd (by kernel_rfl) ?_
    refine zkSeq ?_
    refine zrRet ?_
    refine zkNil ?_
    exact endQ hS hQ (fRet ((congrArg (fun s => outR s 0 c50.res) (by kernel_rfl : finSt c50.fin _ = f50_fin false)).trans (f50_out false)))
/- farwriter/pen.extended$1 -/
def f62_fin (p2 : Bool) : St := ⟨(up (fun _ => .un) 2 (.d (.bool p2))), (hB fun _ => 0)⟩
theorem f62_out (p2 : Bool) : outR (f62_fin p2) 0 c62.res = some ((.d (.bool p2)), []) := by
  kernel_rfl
def f62_Q (r : Bool) (e : PX) (st : St) : Prop := DoneF c62 0 ((.d (.bool r)), []) e st
noncomputable def f62 (a1 : Int) : Option (Bool) := (bif (decide (255 < a1)) then (some true) else (some false))
theorem f62_ok (base : Orc) (d : Nat) (hd : 1 ≤ d) (a1 : Int) (r : Bool) (hS : f62 a1 = some r) : lev codes base d 62 [(.d (.int .i64 a1))] [] = some ((.d (.bool r)), []) := by
  refine lev_go codes62 rfl rfl (Nat.le_trans (Nat.le_of_ble_eq_true rfl) hd) fun Q hQ => ?_
  unfold f62 at hS
  show ZR _ Q c62_b [] _
  replace hQ : ∀ e st', f62_Q r e st' → Q e st' := hQ
  refine zrSeq ?_
  refine zrReg ?_
  refine zlRun (n := 1) (j := 1) rfl (by kernel_rfl) ?_
  refine zlEnd (by kernel_rfl) ?_
  refine zkSeq ?_
  refine zrSeq ?_
  refine zrReg ?_
  refine zlRun (n := 1) (j := 1) rfl (by kernel_rfl) ?_
  refine zlBool (d := 4) (op := (.cmpI .gtr (.tmp 3) (.const (.int .i64 255)))) (g := none) (j := 2) (decide (255 < a1)) rfl (by kernel_rfl) (by kernel_rfl) (by kernel_rfl) (fun hc => ?_) (fun hc => ?_)
  · replace hS := cond_t hc hS
    refine zlRun (n := 1) (j := 3) rfl (by kernel_rfl) ?_
    refine zlEnd (by kernel_rfl) ?_
    refine zkSeq ?_
    refine zrRet ?_
    refine zkNil ?_
    exact endQ hS hQ (fRet ((congrArg (fun s => outR s 0 c62.res) (by kernel_rfl : finSt c62.fin _ = f62_fin true)).trans (f62_out true)))
  · replace hS := cond_f hc hS
    refine zlRun (n := 1) (j := 3) rfl (by kernel_rfl) ?_
    refine zlEnd (by kernel_rfl) ?_
    refine zkSeq ?_
    refine zrRet ?_
    refine zkNil ?_
    exact endQ hS hQ (fRet ((congrArg (fun s => outR s 0 c62.res) (by kernel_rfl : finSt c62.fin _ = f62_fin false)).trans (f62_out false)))
/- slices.IndexFunc[[]int,int] -/
def f61v1_fin (p8 : Int) : St := ⟨(up (fun _ => .un) 4 (.d (.int .i64 p8))), (hB fun _ => 0)⟩
theorem f61v1_out (p8 : Int) : outR (f61v1_fin p8) 0 c61.res = some ((.d (.int .i64 p8)), []) := by
  kernel_rfl
def f61v1_Q (r : Int) (e : PX) (st : St) : Prop := DoneF c61 0 ((.d (.int .i64 r)), []) e st
def f61v1_l0_J (a1 : List Int) (x : Int) : St := ⟨(up (up (up (up (fun _ => .un) 8 (.d (.int .i64 x))) 7 (.d (.int .i64 (a1.length : Int)))) 1 (.fn 62 [])) 0 (.d (.sl a1.length ((eInt .i64).cells a1)))), (hB fun _ => 0)⟩
def f61v1_l0_H (a1 : List Int) (x : Int) (st : St) : Prop := keepSt [0, 1, 7, 8] [] [] st = f61v1_l0_J a1 x
def f61v1_l0_e0_J (a1 : List Int) : St := ⟨(fun _ => .un), (hB fun _ => 0)⟩
def f61v1_l0_X (a1 : List Int) (z : Unit ⊕ Int) (e : PX) (st : St) : Prop := (match z with | .inl z => e = .exit 0 ∧ st = f61v1_l0_e0_J a1 | .inr z => e = .ret ∧ finSt c61.fin st = f61v1_fin z)
def f61v1_l0_j2_J (a1 : List Int) (p13 : Int) : St := ⟨(up (up (up (up (fun _ => .un) 8 (.d (.int .i64 p13))) 7 (.d (.int .i64 (a1.length : Int)))) 1 (.fn 62 [])) 0 (.d (.sl a1.length ((eInt .i64).cells a1)))), (hB fun _ => 0)⟩
noncomputable def f61v1_l0_j2 (a1 : List Int) (p13 : Int) : Option (Int ⊕ (Unit ⊕ Int)) := ((idx a1 p13).bind fun z7 => ((f62 z7).bind fun z8 => (bif z8 then (some (.inr (.inr p13))) else (some (.inl (IntKind.i64.wrap (p13 + 1)))))))
theorem f61v1_l0_j2_ok {base : Orc} {d : Nat} (hd : 2 ≤ d) (a1 : List Int) {r : Int ⊕ (Unit ⊕ Int)} {Q : PX → St → Prop} (hQ : ∀ e st', finL (f61v1_l0_H a1) (f61v1_l0_X a1) r e st' → Q e st') (p13 : Int) (hS : f61v1_l0_j2 a1 p13 = some r) {st : St} (he : keepSt [0, 1, 7, 8] [] [] st = f61v1_l0_j2_J a1 p13) : ZR (lev codes base (d - 1)) Q c61_1 [] st := by
  refine zrKeep he ?_
  unfold f61v1_l0_j2 at hS
  refine zrSeq ?_
  refine zrBlk ?_
  refine zrSeq ?_
  refine zrReg ?_
  refine zlRun (n := 2) (j := 2) rfl (by kernel_rfl) ?_
  refine zlEnd (by kernel_rfl) ?_
  refine zkSeq ?_
  refine zrSeq ?_
  refine zrReg ?_
  refine zlRun (n := 3) (j := 3) rfl (by kernel_rfl) ?_
  refine bindE hS (fun z7 hz7 hS => ?_)
  refine zlOp (d := some 14) (op := (.ixS 3 1 (.tmp 12) (.tmp 13))) (g := none) (v := (.rptr ((eInt .i64).enc z7 ++ ((eInt .i64).cells (a1.drop ((p13 : Int).toNat + 1)))))) (ups := []) (j := 4) rfl (by kernel_rfl) (by kernel_rfl) (ev_ixS (eInt .i64) (kk := .i64) (xs := a1) (j := p13) (by kernel_rfl) (by kernel_rfl) hz7 rfl (by intro h; cases h)) ?_
  refine zlRun (n := 1) (j := 5) rfl (by kernel_rfl) ?_
  refine bindE hS (fun z8 hz8 hS => ?_)
  refine zlOp (d := some 16) (op := (.callv (.tmp 11) [(.tmp 15)])) (g := none) (v := (.d (.bool z8))) (ups := []) (j := 6) rfl (by kernel_rfl) (by kernel_rfl) (ev_callv (f := 62) (cs := []) (by kernel_rfl) (args := [(.d (.int .i64 z7))]) (l := [(.d (.int .i64 z7))]) (r := (.d (.bool z8))) (by kernel_rfl) (by kernel_rfl) (f62_ok base (d - 1) (dpt hd rfl) z7 z8 hz8) (by kernel_rfl) (by kernel_rfl) (by kernel_rfl)) ?_
  refine zlEnd (by kernel_rfl) ?_
  refine zkSeq ?_
  refine zrSplit 16 z8 (by kernel_rfl) (fun hc => ?_) (fun hc => ?_)
  · replace hS := cond_t hc hS
    refine zrCondT (by kernel_rfl) ?_
    refine zrSeq ?_
    refine zrReg ?_
    refine zlRun (n := 2) (j := 2) rfl (by kernel_rfl) ?_
    refine zlEnd (by kernel_rfl) ?_
    refine zkSeq ?_
    refine zrRet ?_
    refine zkBlkR ?_
    refine zkSeqR ?_
    refine zkNil ?_
    exact endQ hS hQ (finL_x (by intro h; cases h) (by show _ = _ ∧ _ = _; exact ⟨rfl, by kernel_rfl⟩))
  · replace hS := cond_f hc hS
    refine zrCondF (by kernel_rfl) ?_
    refine zrSkip ?_
    refine zkBlk ?_
    refine zkSeq ?_
    refine zrReg ?_
    refine zlRun (n := 2) (j := 2) rfl (by kernel_rfl) ?_
    refine zlEnd (by kernel_rfl) ?_
    refine zkNil ?_
    exact endQ hS hQ (finL_n (by show keepSt _ _ _ _ = _; kernel_rfl))
def f61v1_l0_j1_J (a1 : List Int) (p11 : Int) (p12 : Bool) : St := ⟨(up (up (up (up (up (fun _ => .un) 9 (.d (.bool p12))) 8 (.d (.int .i64 p11))) 7 (.d (.int .i64 (a1.length : Int)))) 1 (.fn 62 [])) 0 (.d (.sl a1.length ((eInt .i64).cells a1)))), (hB fun _ => 0)⟩
noncomputable def f61v1_l0_j1 (a1 : List Int) (p11 : Int) (p12 : Bool) : Option (Int ⊕ (Unit ⊕ Int)) := (bif p12 then (f61v1_l0_j2 a1 p11) else (some (.inr (.inl ()))))
theorem f61v1_l0_j1_ok {base : Orc} {d : Nat} (hd : 2 ≤ d) (a1 : List Int) {r : Int ⊕ (Unit ⊕ Int)} {Q : PX → St → Prop} (hQ : ∀ e st', finL (f61v1_l0_H a1) (f61v1_l0_X a1) r e st' → Q e st') (p11 : Int) (p12 : Bool) (hS : f61v1_l0_j1 a1 p11 p12 = some r) {st : St} (he : keepSt [0, 1, 7, 8, 9] [] [] st = f61v1_l0_j1_J a1 p11 p12) : ZR (lev codes base (d - 1)) Q c61_2 [] st := by
  refine zrKeep he ?_
  unfold f61v1_l0_j1 at hS
  refine zrSeq ?_
  refine zrSplit 9 p12 (by kernel_rfl) (fun hc => ?_) (fun hc => ?_)
  · replace hS := cond_t hc hS
    refine zrCondT (by kernel_rfl) ?_
    refine zrSkip ?_
    refine zkSeq ?_
    exact f61v1_l0_j2_ok hd a1 hQ p11 hS (by kernel_rfl)
  · replace hS := cond_f hc hS
    refine zrCondF (by kernel_rfl) ?_
    refine zrKeep (J := f61v1_l0_e0_J a1) (by kernel_rfl) ?_
    refine zrExit ?_
    refine zkSeqX ?_
    refine zkNil ?_
    exact endQ hS hQ (finL_x (by intro h; cases h) (by show _ = _ ∧ _ = _; exact ⟨rfl, rfl⟩))
noncomputable def f61v1_l0 (a1 : List Int) (x : Int) : Option (Int ⊕ (Unit ⊕ Int)) := (bif (decide (x < (a1.length : Int))) then (f61v1_l0_j1 a1 x true) else (f61v1_l0_j1 a1 x false))
theorem f61v1_l0_ok {base : Orc} {d : Nat} (hd : 2 ≤ d) (a1 : List Int) {r : Int ⊕ (Unit ⊕ Int)} {Q : PX → St → Prop} (hQ : ∀ e st', finL (f61v1_l0_H a1) (f61v1_l0_X a1) r e st' → Q e st') {x : Int} (hS : f61v1_l0 a1 x = some r) {st : St} (he : f61v1_l0_H a1 x st) : ZR (lev codes base (d - 1)) Q c61_3 [] st := by
  refine zrKeep he ?_
  unfold f61v1_l0 at hS
  refine zrSeq ?_
  refine zrReg ?_
  refine zlBool (d := 9) (op := (.cmpI .lss (.tmp 8) (.tmp 7))) (g := none) (j := 1) (decide (x < (a1.length : Int))) rfl (by kernel_rfl) (by kernel_rfl) (by kernel_rfl) (fun hc => ?_) (fun hc => ?_)
  · replace hS := cond_t hc hS
    refine zlEnd (by kernel_rfl) ?_
    refine zkSeq ?_
    exact f61v1_l0_j1_ok hd a1 hQ x true hS (by kernel_rfl)
  · replace hS := cond_f hc hS
    refine zlEnd (by kernel_rfl) ?_
    refine zkSeq ?_
    exact f61v1_l0_j1_ok hd a1 hQ x false hS (by kernel_rfl)
noncomputable def f61v1 (a1 : List Int) : Option (Int) := ((loopO (f61v1_l0 a1) 0).bind fun z9 => (Sum.elim (fun z10 => (some (-1))) (fun z11 => (some z11)) z9))
theorem f61v1_ok (base : Orc) (d : Nat) (hd : 2 ≤ d) (a1 : List Int) (r : Int) (hS : f61v1 a1 = some r) : lev codes base d 61 [(.d (.sl a1.length ((eInt .i64).cells a1))), (.fn 62 [])] [] = some ((.d (.int .i64 r)), []) := by
  refine lev_go codes61 rfl rfl (Nat.le_trans (Nat.le_of_ble_eq_true rfl) hd) fun Q hQ => ?_
  unfold f61v1 at hS
  show ZR _ Q c61_b [] _
  replace hQ : ∀ e st', f61v1_Q r e st' → Q e st' := hQ
  refine zrSeq ?_
  refine zrReg ?_
  refine zlRun (n := 1) (j := 1) rfl (by kernel_rfl) ?_
  refine zlEnd (by kernel_rfl) ?_
  refine zkSeq ?_
  refine zrSeq ?_
  refine zrSeq ?_
  refine zrReg ?_
  refine zlRun (n := 3) (j := 3) rfl (by kernel_rfl) ?_
  refine zlEnd (by kernel_rfl) ?_
  refine zkSeq ?_
  refine zrBlk ?_
  refine bindE hS (fun z9 hz9 hS => ?_)
  refine zrLoop (f61v1_l0_H a1) (f61v1_l0_X a1) (fun x st r Q h0 hS hQ => f61v1_l0_ok hd a1 hQ hS h0) (x := 0) (z := z9) (by show keepSt _ _ _ _ = _; kernel_rfl) hz9 ?_
  rcases z9 with z10 | z11
  · replace hS := (show _ = _ from hS)
    simp only [Sum.elim_inl] at hS
    intro e st' _ hX
    obtain ⟨rfl, rfl⟩ : _ ∧ _ := hX
    refine zkBlkX ?_
    refine zkSeq ?_
    refine zrSeq ?_
    refine zrReg ?_
    refine zlRun (n := 1) (j := 1) rfl (by kernel_rfl) ?_
    refine zlEnd (by kernel_rfl) ?_
    refine zkSeq ?_
    refine zrRet ?_
    refine zkNil ?_
    exact endQ hS hQ (fRet ((congrArg (fun s => outR s 0 c61.res) (by kernel_rfl : finSt c61.fin _ = f61v1_fin (-1))).trans (f61v1_out (-1))))
  · simp only [Sum.elim_inr] at hS
    intro e st' _ hX
    obtain ⟨rfl, hX⟩ : _ ∧ _ := hX
    refine zkBlkR ?_
    refine zkSeqR ?_
    refine zkNil ?_
    exact endQ hS hQ (fRet ((congrArg (fun s => outR s 0 c61.res) hX).trans (f61v1_out z11)))
/- slices.ContainsFunc[[]int,int] -/
def f50v1_fin (p2 : Bool) : St := ⟨(up (fun _ => .un) 4 (.d (.bool p2))), (hB fun _ => 0)⟩
theorem f50v1_out (p2 : Bool) : outR (f50v1_fin p2) 0 c50.res = some ((.d (.bool p2)), []) := by
  kernel_rfl
def f50v1_Q (r : Bool) (e : PX) (st : St) : Prop := DoneF c50 0 ((.d (.bool r)), []) e st
noncomputable def f50v1 (a1 : List Int) : Option (Bool) := ((f61v1 a1).bind fun z2 => (bif (decide (0 ≤ z2)) then (some true) else (some false)))
theorem f50v1_ok (base : Orc) (d : Nat) (hd : 3 ≤ d) (a1 : List Int) (r : Bool) (hS : f50v1 a1 = some r) : lev codes base d 50 [(.d (.sl a1.length ((eInt .i64).cells a1))), (.fn 62 [])] [] = some ((.d (.bool r)), []) := by
  refine lev_go codes50 rfl rfl (Nat.le_trans (Nat.le_of_ble_eq_true rfl) hd) fun Q hQ => ?_
  unfold f50v1 at hS
  show ZR _ Q c50_b [] _
  replace hQ : ∀ e st', f50v1_Q r e st' → Q e st' := hQ
  refine zrSeq ?_
  refine zrReg ?_
  refine zlRun (n := 1) (j := 1) rfl (by kernel_rfl) ?_
  refine zlEnd (by kernel_rfl) ?_
  refine zkSeq ?_
  refine zrSeq ?_
  refine zrReg ?_
  refine zlRun (n := 2) (j := 2) rfl (by kernel_rfl) ?_
  refine bindE hS (fun z2 hz2 hS => ?_)
  refine zlOp (d := some 7) (op := (.call 61 [(.tmp 5), (.tmp 6)])) (g := none) (v := (.d (.int .i64 z2))) (ups := []) (j := 3) rfl (by kernel_rfl) (by kernel_rfl) (ev_call (args := [(.d (.sl a1.length ((eInt .i64).cells a1))), (.fn 62 [])]) (l := [(.d (.sl a1.length ((eInt .i64).cells a1))), (.fn 62 [])]) (r := (.d (.int .i64 z2))) (by kernel_rfl) (by kernel_rfl) (f61v1_ok base (d - 1) (dpt hd rfl) a1 z2 hz2) (by kernel_rfl) (by kernel_rfl) (by kernel_rfl)) ?_
  refine zlBool (d := 8) (op := (.cmpI .geq (.tmp 7) (.const (.int .i64 0)))) (g := none) (j := 4) (decide (0 ≤ z2)) rfl (by kernel_rfl) (by kernel_rfl) (by kernel_rfl) (fun hc => ?_) (fun hc => ?_)
  · replace hS := cond_t hc hS
    refine zlRun (n := 1) (j := 5) rfl (by kernel_rfl) ?_
    refine zlEnd (by kernel_rfl) ?_
    refine zkSeq ?_
    refine zrRet ?_
    refine zkNil ?_
    exact endQ hS hQ (fRet ((congrArg (fun s => outR s 0 c50.res) (by kernel_rfl : finSt c50.fin _ = f50v1_fin true)).trans (f50v1_out true)))
  · replace hS := cond_f hc hS
    refine zlRun (n := 1) (j := 5) rfl (by kernel_rfl) ?_
    refine zlEnd (by kernel_rfl) ?_
    refine zkSeq ?_
    refine zrRet ?_
    refine zkNil ?_
    exact endQ hS hQ (fRet ((congrArg (fun s => outR s 0 c50.res) (by kernel_rfl : finSt c50.fin _ = f50v1_fin false)).trans (f50v1_out false)))
/- farwriter/pen.extended -/
def f53_fin (p5 : Int) (p6 : Int) : St := ⟨(up (up (fun _ => .un) 3 (.d (.int .i64 p6))) 2 (.d (.int .i64 p5))), (hB fun _ => 0)⟩
theorem f53_out (p5 : Int) (p6 : Int) : outR (f53_fin p5 p6) 0 c53.res = some ((.tup [(.d (.int .i64 p5)), (.d (.int .i64 p6))]), []) := by
  kernel_rfl
def f53_Q (r : Int × Int) (e : PX) (st : St) : Prop := DoneF c53 0 ((.tup [(.d (.int .i64 r.1)), (.d (.int .i64 r.2))]), []) e st
def f53_j1_J (a1 : List Int) (p12 : Bool) : St := ⟨(up (up (fun _ => .un) 27 (.d (.bool p12))) 0 (.d (.sl a1.length ((eInt .i64).cells a1)))), (hB fun _ => 0)⟩
noncomputable def f53_j1 (a1 : List Int) (p12 : Bool) : Option (Int × Int) := (bif p12 then ((idx a1 1).bind fun z18 => ((idx a1 2).bind fun z19 => ((idx a1 3).bind fun z20 => (some ((IntKind.i64.wrap ((IntKind.i64.wrap ((IntKind.i64.wrap (16777216 + (IntKind.i64.wrap (z18 * 2 ^ 16)))) + (IntKind.i64.wrap (z19 * 2 ^ 8)))) + z20)), 4))))) else (some (0, 0)))
theorem f53_j1_ok {base : Orc} {d : Nat} (hd : 4 ≤ d) (a1 : List Int) {r : Int × Int} {Q : PX → St → Prop} (hQ : ∀ e st', f53_Q r e st' → Q e st') (p12 : Bool) (hS : f53_j1 a1 p12 = some r) {st : St} (he : keepSt [0, 27] [] [] st = f53_j1_J a1 p12) : ZR (lev codes base (d - 1)) Q c53_1 [.blk 0, .seq c53_2] st := by
  refine zrKeep he ?_
  unfold f53_j1 at hS
  refine zrSplit 27 p12 (by kernel_rfl) (fun hc => ?_) (fun hc => ?_)
  · replace hS := cond_t hc hS
    refine zrCondT (by kernel_rfl) ?_
    refine zrSeq ?_
    refine zrRegD ?_
    refine zdRun (n := 1) (j := 1) (ts := [[]]) (acc' := [[]]) rfl (by kernel_rfl) (by kernel_rfl) (by kernel_rfl) ?_
    refine bindE hS (fun z18 hz18 hS => ?_)
    refine zdOp (d := some 45) (op := (.ixS 3 1 (.tmp 44) (.const (.int .i64 1)))) (g := none) (v := (.rptr ((eInt .i64).enc z18 ++ ((eInt .i64).cells (a1.drop ((1 : Int).toNat + 1)))))) (ups := []) (j := 2) (t1 := []) (acc' := [[], []]) (by kernel_rfl) (by kernel_rfl) rfl (by kernel_rfl) (by kernel_rfl) (ev_ixS (eInt .i64) (kk := .i64) (xs := a1) (j := 1) (by kernel_rfl) (by kernel_rfl) hz18 rfl (by intro h; cases h)) ?_
    refine zdRun (n := 4) (j := 6) (ts := [[], [], [], []]) (acc' := [[], [], [], [], [], []]) rfl (by kernel_rfl) (by kernel_rfl) (by kernel_rfl) ?_
    refine bindE hS (fun z19 hz19 hS => ?_)
    refine zdOp (d := some 50) (op := (.ixS 3 1 (.tmp 49) (.const (.int .i64 2)))) (g := none) (v := (.rptr ((eInt .i64).enc z19 ++ ((eInt .i64).cells (a1.drop ((2 : Int).toNat + 1)))))) (ups := []) (j := 7) (t1 := []) (acc' := [[], [], [], [], [], [], []]) (by kernel_rfl) (by kernel_rfl) rfl (by kernel_rfl) (by kernel_rfl) (ev_ixS (eInt .i64) (kk := .i64) (xs := a1) (j := 2) (by kernel_rfl) (by kernel_rfl) hz19 rfl (by intro h; cases h)) ?_
    refine zdRun (n := 4) (j := 11) (ts := [[], [], [], []]) (acc' := [[], [], [], [], [], [], [], [], [], [], []]) rfl (by kernel_rfl) (by kernel_rfl) (by kernel_rfl) ?_
    refine bindE hS (fun z20 hz20 hS => ?_)
    refine zdOp (d := some 55) (op := (.ixS 3 1 (.tmp 54) (.const (.int .i64 3)))) (g := none) (v := (.rptr ((eInt .i64).enc z20 ++ ((eInt .i64).cells (a1.drop ((3 : Int).toNat + 1)))))) (ups := []) (j := 12) (t1 := []) (acc' := [[], [], [], [], [], [], [], [], [], [], [], []]) (by kernel_rfl) (by kernel_rfl) rfl (by kernel_rfl) (by kernel_rfl) (ev_ixS (eInt .i64) (kk := .i64) (xs := a1) (j := 3) (by kernel_rfl) (by kernel_rfl) hz20 rfl (by intro h; cases h)) ?_
    refine zdRun (n := 4) (j := 16) (ts := [[], [], [], []]) (acc' := [[], [], [], [], [], [], [], [], [], [], [], [], [], [], [], []]) rfl (by kernel_rfl) (by kernel_rfl) (by kernel_rfl) ?_
    refine zdEnd (by kernel_rfl) (by kernel_rfl) ?_
    refine zkSeq ?_
    refine zrRet ?_
    refine zkBlkR ?_
    refine zkSeqR ?_
    refine zkNil ?_
    exact endQ hS hQ (fRet ((congrArg (fun s => outR s 0 c53.res) (by kernel_rfl : finSt c53.fin _ = f53_fin (IntKind.i64.wrap ((IntKind.i64.wrap ((IntKind.i64.wrap (16777216 + (IntKind.i64.wrap (z18 * 2 ^ 16)))) + (IntKind.i64.wrap (z19 * 2 ^ 8)))) + z20)) 4)).trans (f53_out (IntKind.i64.wrap ((IntKind.i64.wrap ((IntKind.i64.wrap (16777216 + (IntKind.i64.wrap (z18 * 2 ^ 16)))) + (IntKind.i64.wrap (z19 * 2 ^ 8)))) + z20)) 4)))
  · replace hS := cond_f hc hS
    refine zrCondF (by kernel_rfl) ?_
    refine zrSkip ?_
    refine zkBlk ?_
    refine zkSeq ?_
    refine zrSeq ?_
    refine zrReg ?_
    refine zlRun (n := 2) (j := 2) rfl (by kernel_rfl) ?_
    refine zlEnd (by kernel_rfl) ?_
    refine zkSeq ?_
    refine zrRet ?_
    refine zkNil ?_
    exact endQ hS hQ (fRet ((congrArg (fun s => outR s 0 c53.res) (by kernel_rfl : finSt c53.fin _ = f53_fin 0 0)).trans (f53_out 0 0)))
def f53_j0_J (a1 : List Int) (p9 : Bool) : St := ⟨(up (up (up (fun _ => .un) 5 (.d (.bool p9))) 4 (.fn 62 [])) 0 (.d (.sl a1.length ((eInt .i64).cells a1)))), (hB fun _ => 0)⟩
noncomputable def f53_j0 (a1 : List Int) (p9 : Bool) : Option (Int × Int) := (bif p9 then ((idx a1 1).bind fun z14 => (some ((IntKind.i64.wrap (z14 + 1)), 2))) else (bif (decide (4 ≤ (a1.length : Int))) then ((idx a1 0).bind fun z21 => (bif (decide (z21 = 2)) then ((sub? a1 1 4).bind fun z22 => ((f50v1 z22).bind fun z23 => (f53_j1 a1 (!z23)))) else (f53_j1 a1 false))) else (f53_j1 a1 false)))
theorem f53_j0_ok {base : Orc} {d : Nat} (hd : 4 ≤ d) (a1 : List Int) {r : Int × Int} {Q : PX → St → Prop} (hQ : ∀ e st', f53_Q r e st' → Q e st') (p9 : Bool) (hS : f53_j0 a1 p9 = some r) {st : St} (he : keepSt [0, 4, 5] [] [] st = f53_j0_J a1 p9) : ZR (lev codes base (d - 1)) Q c53_3 [.blk 0, .seq c53_2] st := by
  refine zrKeep he ?_
  unfold f53_j0 at hS
  refine zrSplit 5 p9 (by kernel_rfl) (fun hc => ?_) (fun hc => ?_)
  · replace hS := cond_t hc hS
    refine zrCondT (by kernel_rfl) ?_
    refine zrSeq ?_
    refine zrReg ?_
    refine zlRun (n := 1) (j := 1) rfl (by kernel_rfl) ?_
    refine bindE hS (fun z14 hz14 hS => ?_)
    refine zlOp (d := some 24) (op := (.ixS 3 1 (.tmp 23) (.const (.int .i64 1)))) (g := none) (v := (.rptr ((eInt .i64).enc z14 ++ ((eInt .i64).cells (a1.drop ((1 : Int).toNat + 1)))))) (ups := []) (j := 2) rfl (by kernel_rfl) (by kernel_rfl) (ev_ixS (eInt .i64) (kk := .i64) (xs := a1) (j := 1) (by kernel_rfl) (by kernel_rfl) hz14 rfl (by intro h; cases h)) ?_
    refine zlRun (n := 4) (j := 6) rfl (by kernel_rfl) ?_
    refine zlEnd (by kernel_rfl) ?_
    refine zkSeq ?_
    refine zrRet ?_
    refine zkBlkR ?_
    refine zkSeqR ?_
    refine zkNil ?_
    exact endQ hS hQ (fRet ((congrArg (fun s => outR s 0 c53.res) (by kernel_rfl : finSt c53.fin _ = f53_fin (IntKind.i64.wrap (z14 + 1)) 2)).trans (f53_out (IntKind.i64.wrap (z14 + 1)) 2)))
  · replace hS := cond_f hc hS
    refine zrCondF (by kernel_rfl) ?_
    refine zrSeq ?_
    refine zrReg ?_
    refine zlRun (n := 2) (j := 2) rfl (by kernel_rfl) ?_
    refine zlBool (d := 30) (op := (.cmpI .geq (.tmp 29) (.const (.int .i64 4)))) (g := none) (j := 3) (decide (4 ≤ (a1.length : Int))) rfl (by kernel_rfl) (by kernel_rfl) (by kernel_rfl) (fun hc => ?_) (fun hc => ?_)
    · replace hS := cond_t hc hS
      refine zlRun (n := 2) (j := 5) rfl (by kernel_rfl) ?_
      refine bindE hS (fun z21 hz21 hS => ?_)
      refine zlOp (d := some 33) (op := (.ixS 3 1 (.tmp 32) (.const (.int .i64 0)))) (g := (some (31, true))) (v := (.rptr ((eInt .i64).enc z21 ++ ((eInt .i64).cells (a1.drop ((0 : Int).toNat + 1)))))) (ups := []) (j := 6) rfl (by kernel_rfl) (by kernel_rfl) (ev_ixS (eInt .i64) (kk := .i64) (xs := a1) (j := 0) (by kernel_rfl) (by kernel_rfl) hz21 rfl (by intro h; cases h)) ?_
      refine zlRun (n := 1) (j := 7) rfl (by kernel_rfl) ?_
      refine zlBool (d := 35) (op := (.cmpI .eql (.tmp 34) (.const (.int .i64 2)))) (g := (some (31, true))) (j := 8) (decide (z21 = 2)) rfl (by kernel_rfl) (by kernel_rfl) (by kernel_rfl) (fun hc => ?_) (fun hc => ?_)
      · replace hS := cond_t hc hS
        refine zlRun (n := 3) (j := 11) rfl (by kernel_rfl) ?_
        refine bindE hS (fun z22 hz22 hS => ?_)
        refine zlOp (d := some 39) (op := (.slS 3 1 (.tmp 38) (.some (.const (.int .i64 1))) (.some (.const (.int .i64 4))))) (g := (some (37, true))) (v := (.d (.sl z22.length ((eInt .i64).cells z22)))) (ups := []) (j := 12) rfl (by kernel_rfl) (by kernel_rfl) (ev_slS (eInt .i64) (xs := a1) (a := 1) (c := 4) (by kernel_rfl) rfl (bnd_s _ (kk := .i64) (j := 1) (by kernel_rfl)) (bnd_s _ (kk := .i64) (j := 4) (by kernel_rfl)) hz22) ?_
        refine zlRun (n := 1) (j := 13) rfl (by kernel_rfl) ?_
        refine bindE hS (fun z23 hz23 hS => ?_)
        refine zlOp (d := some 41) (op := (.call 50 [(.tmp 39), (.tmp 40)])) (g := (some (37, true))) (v := (.d (.bool z23))) (ups := []) (j := 14) rfl (by kernel_rfl) (by kernel_rfl) (ev_call (args := [(.d (.sl z22.length ((eInt .i64).cells z22))), (.fn 62 [])]) (l := [(.d (.sl z22.length ((eInt .i64).cells z22))), (.fn 62 [])]) (r := (.d (.bool z23))) (by kernel_rfl) (by kernel_rfl) (f50v1_ok base (d - 1) (dpt hd rfl) z22 z23 hz23) (by kernel_rfl) (by kernel_rfl) (by kernel_rfl)) ?_
        refine zlRun (n := 3) (j := 17) rfl (by kernel_rfl) ?_
        refine zlEnd (by kernel_rfl) ?_
        refine zkSeq ?_
        exact f53_j1_ok hd a1 hQ (!z23) hS (by kernel_rfl)
      · replace hS := cond_f hc hS
        refine zlRun (n := 9) (j := 17) rfl (by kernel_rfl) ?_
        refine zlEnd (by kernel_rfl) ?_
        refine zkSeq ?_
        exact f53_j1_ok hd a1 hQ false hS (by kernel_rfl)
    · replace hS := cond_f hc hS
      refine zlRun (n := 14) (j := 17) rfl (by kernel_rfl) ?_
      refine zlEnd (by kernel_rfl) ?_
      refine zkSeq ?_
      exact f53_j1_ok hd a1 hQ false hS (by kernel_rfl)
noncomputable def f53 (a1 : List Int) : Option (Int × Int) := (bif (decide (2 ≤ (a1.length : Int))) then ((idx a1 0).bind fun z24 => (bif (decide (z24 = 5)) then ((idx a1 1).bind fun z25 => ((f62 z25).bind fun z26 => (f53_j0 a1 (!z26)))) else (f53_j0 a1 false))) else (f53_j0 a1 false))
theorem f53_ok (base : Orc) (d : Nat) (hd : 4 ≤ d) (a1 : List Int) (r : Int × Int) (hS : f53 a1 = some r) : lev codes base d 53 [(.d (.sl a1.length ((eInt .i64).cells a1)))] [] = some ((.tup [(.d (.int .i64 r.1)), (.d (.int .i64 r.2))]), []) := by
  refine lev_go codes53 rfl rfl (Nat.le_trans (Nat.le_of_ble_eq_true rfl) hd) fun Q hQ => ?_
  unfold f53 at hS
  show ZR _ Q c53_b [] _
  replace hQ : ∀ e st', f53_Q r e st' → Q e st' := hQ
  refine zrSeq ?_
  refine zrReg ?_
  refine zlRun (n := 2) (j := 2) rfl (by kernel_rfl) ?_
  refine zlEnd (by kernel_rfl) ?_
  refine zkSeq ?_
  refine zrSeq ?_
  refine zrReg ?_
  refine zlRun (n := 1) (j := 1) rfl (by kernel_rfl) ?_
  refine zlEnd (by kernel_rfl) ?_
  refine zkSeq ?_
  refine zrSeq ?_
  refine zrBlk ?_
  refine zrSeq ?_
  refine zrReg ?_
  refine zlRun (n := 2) (j := 2) rfl (by kernel_rfl) ?_
  refine zlBool (d := 8) (op := (.cmpI .geq (.tmp 7) (.const (.int .i64 2)))) (g := none) (j := 3) (decide (2 ≤ (a1.length : Int))) rfl (by kernel_rfl) (by kernel_rfl) (by kernel_rfl) (fun hc => ?_) (fun hc => ?_)
  · replace hS := cond_t hc hS
    refine zlRun (n := 2) (j := 5) rfl (by kernel_rfl) ?_
    refine bindE hS (fun z24 hz24 hS => ?_)
    refine zlOp (d := some 11) (op := (.ixS 3 1 (.tmp 10) (.const (.int .i64 0)))) (g := (some (9, true))) (v := (.rptr ((eInt .i64).enc z24 ++ ((eInt .i64).cells (a1.drop ((0 : Int).toNat + 1)))))) (ups := []) (j := 6) rfl (by kernel_rfl) (by kernel_rfl) (ev_ixS (eInt .i64) (kk := .i64) (xs := a1) (j := 0) (by kernel_rfl) (by kernel_rfl) hz24 rfl (by intro h; cases h)) ?_
    refine zlRun (n := 1) (j := 7) rfl (by kernel_rfl) ?_
    refine zlBool (d := 13) (op := (.cmpI .eql (.tmp 12) (.const (.int .i64 5)))) (g := (some (9, true))) (j := 8) (decide (z24 = 5)) rfl (by kernel_rfl) (by kernel_rfl) (by kernel_rfl) (fun hc => ?_) (fun hc => ?_)
    · replace hS := cond_t hc hS
      refine zlRun (n := 4) (j := 12) rfl (by kernel_rfl) ?_
      refine bindE hS (fun z25 hz25 hS => ?_)
      refine zlOp (d := some 18) (op := (.ixS 3 1 (.tmp 17) (.const (.int .i64 1)))) (g := (some (15, true))) (v := (.rptr ((eInt .i64).enc z25 ++ ((eInt .i64).cells (a1.drop ((1 : Int).toNat + 1)))))) (ups := []) (j := 13) rfl (by kernel_rfl) (by kernel_rfl) (ev_ixS (eInt .i64) (kk := .i64) (xs := a1) (j := 1) (by kernel_rfl) (by kernel_rfl) hz25 rfl (by intro h; cases h)) ?_
      refine zlRun (n := 1) (j := 14) rfl (by kernel_rfl) ?_
      refine bindE hS (fun z26 hz26 hS => ?_)
      refine zlOp (d := some 20) (op := (.callv (.tmp 16) [(.tmp 19)])) (g := (some (15, true))) (v := (.d (.bool z26))) (ups := []) (j := 15) rfl (by kernel_rfl) (by kernel_rfl) (ev_callv (f := 62) (cs := []) (by kernel_rfl) (args := [(.d (.int .i64 z25))]) (l := [(.d (.int .i64 z25))]) (r := (.d (.bool z26))) (by kernel_rfl) (by kernel_rfl) (f62_ok base (d - 1) (dpt hd rfl) z25 z26 hz26) (by kernel_rfl) (by kernel_rfl) (by kernel_rfl)) ?_
      refine zlRun (n := 3) (j := 18) rfl (by kernel_rfl) ?_
      refine zlEnd (by kernel_rfl) ?_
      refine zkSeq ?_
      exact f53_j0_ok hd a1 hQ (!z26) hS (by kernel_rfl)
    · replace hS := cond_f hc hS
      refine zlRun (n := 10) (j := 18) rfl (by kernel_rfl) ?_
      refine zlEnd (by kernel_rfl) ?_
      refine zkSeq ?_
      exact f53_j0_ok hd a1 hQ false hS (by kernel_rfl)
  · replace hS := cond_f hc hS
    refine zlRun (n := 15) (j := 18) rfl (by kernel_rfl) ?_
    refine zlEnd (by kernel_rfl) ?_
    refine zkSeq ?_
    exact f53_j0_ok hd a1 hQ false hS (by kernel_rfl)
/- farwriter/pen.Sgr -/
def f32_fin (p211 : GPen) (p212 : Int) : St := ⟨(up (up (fun _ => .un) 5 (.d (.int .i64 p212))) 4 (.r (.ptr 40 0 0))), (up (hB fun _ => 0) 40 ⟨0, some (.box ((.d (.int .i64 p211.Flags)) :: ((.d (.int .i64 p211.Fore)) :: ((.d (.int .i64 p211.Back)) :: []))))⟩)⟩
theorem f32_out (p211 : GPen) (p212 : Int) : outR (f32_fin p211 p212) 0 c32.res = some ((.tup [(.agg ((.d (.int .i64 p211.Flags)) :: ((.d (.int .i64 p211.Fore)) :: ((.d (.int .i64 p211.Back)) :: [])))), (.d (.int .i64 p212))]), []) := by
  kernel_rfl
def f32_Q (r : GPen × Int) (e : PX) (st : St) : Prop := DoneF c32 0 ((.tup [(.agg ((.d (.int .i64 r.1.Flags)) :: ((.d (.int .i64 r.1.Fore)) :: ((.d (.int .i64 r.1.Back)) :: [])))), (.d (.int .i64 r.2))]), []) e st
def f32_l4_J (a1 : GPen) (a2 : List Int) (x : GPen × (List Int) × Int) : St := ⟨(up (up (up (up (fun _ => .un) 10 (.d (.int .i64 x.2.2))) 7 (.r (.msl 64 0 0 x.2.1.length))) 4 (.r (.ptr 40 0 0))) 2 (.r (.ptr 24 0 0))), (up (up (up (hB fun _ => 0) 64 ⟨0, some (.own 3 1 ((eInt .i64).cells x.2.1))⟩) 40 ⟨0, some (.box ((.d (.int .i64 0)) :: ((.d (.int .i64 0)) :: ((.d (.int .i64 0)) :: []))))⟩) 24 ⟨0, some (.box ((.d (.int .i64 x.1.Flags)) :: ((.d (.int .i64 x.1.Fore)) :: ((.d (.int .i64 x.1.Back)) :: []))))⟩)⟩
def f32_l4_H (a1 : GPen) (a2 : List Int) (x : GPen × (List Int) × Int) (st : St) : Prop := keepSt [2, 4, 7, 10] [(24, .id 24), (40, .id 40), (64, .id 64)] [] st = f32_l4_J a1 a2 x
def f32_l4_e2_J (a1 : GPen) (a2 : List Int) (p411 : GPen) : St := ⟨(up (up (fun _ => .un) 4 (.r (.ptr 40 0 0))) 2 (.r (.ptr 24 0 0))), (up (up (hB fun _ => 0) 40 ⟨0, some (.box ((.d (.int .i64 0)) :: ((.d (.int .i64 0)) :: ((.d (.int .i64 0)) :: []))))⟩) 24 ⟨0, some (.box ((.d (.int .i64 p411.Flags)) :: ((.d (.int .i64 p411.Fore)) :: ((.d (.int .i64 p411.Back)) :: []))))⟩)⟩
def f32_l4_X (a1 : GPen) (a2 : List Int) (z : GPen) (e : PX) (st : St) : Prop := e = .exit 2 ∧ st = f32_l4_e2_J a1 a2 z
def f32_l4_j5_J (a1 : GPen) (a2 : List Int) (p416 : GPen) (p417 : List Int) (p418 : Int) : St := ⟨(up (up (up (up (fun _ => .un) 10 (.d (.int .i64 p418))) 7 (.r (.msl 64 0 0 p417.length))) 4 (.r (.ptr 40 0 0))) 2 (.r (.ptr 24 0 0))), (up (up (up (hB fun _ => 0) 64 ⟨0, some (.own 3 1 ((eInt .i64).cells p417))⟩) 40 ⟨0, some (.box ((.d (.int .i64 0)) :: ((.d (.int .i64 0)) :: ((.d (.int .i64 0)) :: []))))⟩) 24 ⟨0, some (.box ((.d (.int .i64 p416.Flags)) :: ((.d (.int .i64 p416.Fore)) :: ((.d (.int .i64 p416.Back)) :: []))))⟩)⟩
noncomputable def f32_l4_j5 (a1 : GPen) (a2 : List Int) (p416 : GPen) (p417 : List Int) (p418 : Int) : Option ((GPen × (List Int) × Int) ⊕ GPen) := ((inR p418 p417.length).bind fun m124 => ((p417[m124]?).bind fun z125 => (bif (!decide (z125 = 38)) then ((inR p418 p417.length).bind fun m126 => ((p417[m126]?).bind fun z127 => (bif (!decide (z127 = 48)) then ((inR p418 p417.length).bind fun m128 => ((p417[m128]?).bind fun z129 => ((f52 z129 p416).bind fun z130 => (some (.inl (z130, p417, (IntKind.i64.wrap (p418 + 1)))))))) else ((chk (decide (0 ≤ (IntKind.i64.wrap (p418 + 1))) && decide ((IntKind.i64.wrap (p418 + 1)) ≤ (p417.length : Int)) && decide ((p417.length : Int) ≤ (p417.length : Int)))).bind fun z131 => ((part? p417 (((IntKind.i64.wrap (p418 + 1)) : Int).toNat) (((p417.length : Int) : Int).toNat - ((IntKind.i64.wrap (p418 + 1)) : Int).toNat)).bind fun z132 => ((f53 z132).bind fun z133 => (bif (decide (z133.2 = 0)) then (some (.inr p416)) else ((inR p418 p417.length).bind fun m136 => ((p417[m136]?).bind fun z137 => (bif (decide (z137 = 38)) then (some (.inl ((GPen.mk p416.Flags z133.1 p416.Back), p417, (IntKind.i64.wrap ((IntKind.i64.wrap (p418 + z133.2)) + 1))))) else (some (.inl ((GPen.mk p416.Flags p416.Fore z133.1), p417, (IntKind.i64.wrap ((IntKind.i64.wrap (p418 + z133.2)) + 1))))))))))))))) else ((chk (decide (0 ≤ (IntKind.i64.wrap (p418 + 1))) && decide ((IntKind.i64.wrap (p418 + 1)) ≤ (p417.length : Int)) && decide ((p417.length : Int) ≤ (p417.length : Int)))).bind fun z138 => ((part? p417 (((IntKind.i64.wrap (p418 + 1)) : Int).toNat) (((p417.length : Int) : Int).toNat - ((IntKind.i64.wrap (p418 + 1)) : Int).toNat)).bind fun z139 => ((f53 z139).bind fun z140 => (bif (decide (z140.2 = 0)) then (some (.inr p416)) else ((inR p418 p417.length).bind fun m143 => ((p417[m143]?).bind fun z144 => (bif (decide (z144 = 38)) then (some (.inl ((GPen.mk p416.Flags z140.1 p416.Back), p417, (IntKind.i64.wrap ((IntKind.i64.wrap (p418 + z140.2)) + 1))))) else (some (.inl ((GPen.mk p416.Flags p416.Fore z140.1), p417, (IntKind.i64.wrap ((IntKind.i64.wrap (p418 + z140.2)) + 1)))))))))))))))
theorem f32_l4_j5_ok {base : Orc} {d : Nat} (hd : 5 ≤ d) (a1 : GPen) (a2 : List Int) {r : (GPen × (List Int) × Int) ⊕ GPen} {Q : PX → St → Prop} (hQ : ∀ e st', finL (f32_l4_H a1 a2) (f32_l4_X a1 a2) r e st' → Q e st') (p416 : GPen) (p417 : List Int) (p418 : Int) (hS : f32_l4_j5 a1 a2 p416 p417 p418 = some r) {st : St} (he : keepSt [2, 4, 7, 10] [(24, .id 24), (40, .id 40), (64, .id 64)] [] st = f32_l4_j5_J a1 a2 p416 p417 p418) : ZR (lev codes base (d - 1)) Q c32_1 [] st := by
  refine zrKeep he ?_
  unfold f32_l4_j5 at hS
  refine zrSeq ?_
  refine zrBlk ?_
  refine zrSeq ?_
  refine zrSeq ?_
  refine zrReg ?_
  refine zlRun (n := 2) (j := 2) rfl (by kernel_rfl) ?_
  refine bindE hS (fun m124 hm124 hS => ?_)
  refine zlOp (d := some 51) (op := (.ixS 3 1 (.tmp 49) (.tmp 50))) (g := none) (v := (.r (.ptr 64 0 ((0 + m124) * 1)))) (ups := []) (j := 3) rfl (by kernel_rfl) (by kernel_rfl) (ev_ixM (kk := .i64) (b := 64) (g := 0) (l := 0) (n := p417.length) (j := p418) (cs := (eInt .i64).cells p417) (by kernel_rfl) (by kernel_rfl) (by kernel_rfl) hm124) ?_
  refine bindE hS (fun z125 hz125 hS => ?_)
  refine zlOp (d := some 52) (op := (.load .false 1 (.tmp 51))) (g := none) (v := (.d (.int .i64 z125))) (ups := []) (j := 4) rfl (by kernel_rfl) (by kernel_rfl) (ev_loadM (eInt .i64) (b := 64) (g := 0) (o := (0 + m124) * 1) (e := 3) (k := 1) (m := m124) (fo := 0) (xs := p417) (by kernel_rfl) (by kernel_rfl) (by rw [Nat.zero_add]; rfl) hz125 (by kernel_rfl) (by kernel_rfl) (by kernel_rfl)) ?_
  refine zlBool (d := 53) (op := (.cmpI .neq (.tmp 52) (.const (.int .i64 38)))) (g := none) (j := 5) (!decide (z125 = 38)) rfl (by kernel_rfl) (by kernel_rfl) (by kernel_rfl) (fun hc => ?_) (fun hc => ?_)
  · replace hS := cond_t hc hS
    refine zlRun (n := 3) (j := 8) rfl (by kernel_rfl) ?_
    refine bindE hS (fun m126 hm126 hS => ?_)
    refine zlOp (d := some 57) (op := (.ixS 3 1 (.tmp 55) (.tmp 56))) (g := (some (54, true))) (v := (.r (.ptr 64 0 ((0 + m126) * 1)))) (ups := []) (j := 9) rfl (by kernel_rfl) (by kernel_rfl) (ev_ixM (kk := .i64) (b := 64) (g := 0) (l := 0) (n := p417.length) (j := p418) (cs := (eInt .i64).cells p417) (by kernel_rfl) (by kernel_rfl) (by kernel_rfl) hm126) ?_
    refine bindE hS (fun z127 hz127 hS => ?_)
    refine zlOp (d := some 58) (op := (.load .false 1 (.tmp 57))) (g := (some (54, true))) (v := (.d (.int .i64 z127))) (ups := []) (j := 10) rfl (by kernel_rfl) (by kernel_rfl) (ev_loadM (eInt .i64) (b := 64) (g := 0) (o := (0 + m126) * 1) (e := 3) (k := 1) (m := m126) (fo := 0) (xs := p417) (by kernel_rfl) (by kernel_rfl) (by rw [Nat.zero_add]; rfl) hz127 (by kernel_rfl) (by kernel_rfl) (by kernel_rfl)) ?_
    refine zlBool (d := 59) (op := (.cmpI .neq (.tmp 58) (.const (.int .i64 48)))) (g := (some (54, true))) (j := 11) (!decide (z127 = 48)) rfl (by kernel_rfl) (by kernel_rfl) (by kernel_rfl) (fun hc => ?_) (fun hc => ?_)
    · replace hS := cond_t hc hS
      refine zlRun (n := 1) (j := 12) rfl (by kernel_rfl) ?_
      refine zlEnd (by kernel_rfl) ?_
      refine zkSeq ?_
      refine zrCondT (by kernel_rfl) ?_
      refine zrSeq ?_
      refine zrReg ?_
      refine zlRun (n := 2) (j := 2) rfl (by kernel_rfl) ?_
      refine bindE hS (fun m128 hm128 hS => ?_)
      refine zlOp (d := some 63) (op := (.ixS 3 1 (.tmp 61) (.tmp 62))) (g := none) (v := (.r (.ptr 64 0 ((0 + m128) * 1)))) (ups := []) (j := 3) rfl (by kernel_rfl) (by kernel_rfl) (ev_ixM (kk := .i64) (b := 64) (g := 0) (l := 0) (n := p417.length) (j := p418) (cs := (eInt .i64).cells p417) (by kernel_rfl) (by kernel_rfl) (by kernel_rfl) hm128) ?_
      refine bindE hS (fun z129 hz129 hS => ?_)
      refine zlOp (d := some 64) (op := (.load .false 1 (.tmp 63))) (g := none) (v := (.d (.int .i64 z129))) (ups := []) (j := 4) rfl (by kernel_rfl) (by kernel_rfl) (ev_loadM (eInt .i64) (b := 64) (g := 0) (o := (0 + m128) * 1) (e := 3) (k := 1) (m := m128) (fo := 0) (xs := p417) (by kernel_rfl) (by kernel_rfl) (by rw [Nat.zero_add]; rfl) hz129 (by kernel_rfl) (by kernel_rfl) (by kernel_rfl)) ?_
      refine bindE hS (fun z130 hz130 hS => ?_)
      refine zlOp (d := some 65) (op := (.callr 52 [(.tmp 2), (.tmp 64)])) (g := none) (v := (.tup [])) (ups := [(24, ⟨0, some (.box ((.d (.int .i64 z130.Flags)) :: ((.d (.int .i64 z130.Fore)) :: ((.d (.int .i64 z130.Back)) :: []))))⟩)]) (j := 5) rfl (by kernel_rfl) (by kernel_rfl) (ev_callr (args := [(.r (.ptr 24 0 0)), (.d (.int .i64 z129))]) (ids := [24]) (bs := [(.box ((.d (.int .i64 p416.Flags)) :: ((.d (.int .i64 p416.Fore)) :: ((.d (.int .i64 p416.Back)) :: []))))]) (l := [(.r (.ptr 0 0 0)), (.d (.int .i64 z129))]) (bt := [(.box ((.d (.int .i64 p416.Flags)) :: ((.d (.int .i64 p416.Fore)) :: ((.d (.int .i64 p416.Back)) :: []))))]) (r := (.tup [])) (bs' := [(.box ((.d (.int .i64 z130.Flags)) :: ((.d (.int .i64 z130.Fore)) :: ((.d (.int .i64 z130.Back)) :: []))))]) (by kernel_rfl) (by kernel_rfl) (by kernel_rfl) (by kernel_rfl) (by kernel_rfl) (f52_ok base (d - 1) (dpt hd rfl) z129 p416 z130 hz130) (by kernel_rfl) (by kernel_rfl)) ?_
      refine zlEnd (by kernel_rfl) ?_
      refine zkSeq ?_
      refine zrExit ?_
      refine zkSeqX ?_
      refine zkBlkX ?_
      refine zkSeq ?_
      refine zrReg ?_
      refine zlRun (n := 3) (j := 3) rfl (by kernel_rfl) ?_
      refine zlEnd (by kernel_rfl) ?_
      refine zkNil ?_
      exact endQ hS hQ (finL_n (by show keepSt _ _ _ _ = _; kernel_rfl))
    · replace hS := cond_f hc hS
      refine zlRun (n := 1) (j := 12) rfl (by kernel_rfl) ?_
      refine zlEnd (by kernel_rfl) ?_
      refine zkSeq ?_
      refine zrCondF (by kernel_rfl) ?_
      refine zrSkip ?_
      refine zkSeq ?_
      refine zrSeq ?_
      refine zrReg ?_
      refine zlRun (n := 3) (j := 3) rfl (by kernel_rfl) ?_
      refine bindE hS (fun z131 hz131 hS => ?_)
      refine zlOp (d := some 70) (op := (.slS 3 1 (.tmp 67) (.some (.tmp 69)) .none)) (g := none) (v := (.r (.msl 64 0 (((IntKind.i64.wrap (p418 + 1)) : Int).toNat) (((p417.length : Int) : Int).toNat - ((IntKind.i64.wrap (p418 + 1)) : Int).toNat)))) (ups := []) (j := 4) rfl (by kernel_rfl) (by kernel_rfl) (ev_slM (b := 64) (g := 0) (e := 3) (a := (IntKind.i64.wrap (p418 + 1))) (c := (p417.length : Int)) (l := 0) (n := p417.length) (l' := (((IntKind.i64.wrap (p418 + 1)) : Int).toNat)) (n' := (((p417.length : Int) : Int).toNat - ((IntKind.i64.wrap (p418 + 1)) : Int).toNat)) (cs := (eInt .i64).cells p417) (by kernel_rfl) (by kernel_rfl) (bnd_s _ (kk := .i64) (j := (IntKind.i64.wrap (p418 + 1))) (by kernel_rfl)) (bnd_n _) hz131 (by simp) rfl) ?_
      refine bindE hS (fun z132 hz132 hS => ?_)
      refine bindE hS (fun z133 hz133 hS => ?_)
      refine zlOp (d := some 71) (op := (.call 53 [(.tmp 70)])) (g := none) (v := (.tup [(.d (.int .i64 z133.1)), (.d (.int .i64 z133.2))])) (ups := []) (j := 5) rfl (by kernel_rfl) (by kernel_rfl) (ev_call (args := [(.r (.msl 64 0 (((IntKind.i64.wrap (p418 + 1)) : Int).toNat) (((p417.length : Int) : Int).toNat - ((IntKind.i64.wrap (p418 + 1)) : Int).toNat)))]) (l := [(.d (.sl z132.length ((eInt .i64).cells z132)))]) (r := (.tup [(.d (.int .i64 z133.1)), (.d (.int .i64 z133.2))])) (by kernel_rfl) (l_cons (l_part (eInt .i64) (e := 3) (k := 1) (xs := p417) (by kernel_rfl) rfl hz132) l_nil) (f53_ok base (d - 1) (dpt hd rfl) z132 z133 hz133) (by kernel_rfl) (by kernel_rfl) (by kernel_rfl)) ?_
      refine zlRun (n := 5) (j := 10) rfl (by kernel_rfl) ?_
      refine zlEnd (by kernel_rfl) ?_
      refine zkSeq ?_
      refine zrSeq ?_
      refine zrSeq ?_
      refine zrReg ?_
      refine zlRun (n := 1) (j := 1) rfl (by kernel_rfl) ?_
      refine zlBool (d := 75) (op := (.cmpI .eql (.tmp 74) (.const (.int .i64 0)))) (g := none) (j := 2) (decide (z133.2 = 0)) rfl (by kernel_rfl) (by kernel_rfl) (by kernel_rfl) (fun hc => ?_) (fun hc => ?_)
      · replace hS := cond_t hc hS
        refine zlEnd (by kernel_rfl) ?_
        refine zkSeq ?_
        refine zrCondT (by kernel_rfl) ?_
        refine zrKeep (J := f32_l4_e2_J a1 a2 p416) (by kernel_rfl) ?_
        refine zrExit ?_
        refine zkSeqX ?_
        refine zkBlkY rfl ?_
        refine zkSeqX ?_
        refine zkNil ?_
        exact endQ hS hQ (finL_x (by intro h; cases h) (by show _ = _ ∧ _ = _; exact ⟨rfl, rfl⟩))
      · replace hS := cond_f hc hS
        refine zlEnd (by kernel_rfl) ?_
        refine zkSeq ?_
        refine zrCondF (by kernel_rfl) ?_
        refine zrSkip ?_
        refine zkSeq ?_
        refine zrSeq ?_
        refine zrSeq ?_
        refine zrReg ?_
        refine zlRun (n := 2) (j := 2) rfl (by kernel_rfl) ?_
        refine bindE hS (fun m136 hm136 hS => ?_)
        refine zlOp (d := some 78) (op := (.ixS 3 1 (.tmp 76) (.tmp 77))) (g := none) (v := (.r (.ptr 64 0 ((0 + m136) * 1)))) (ups := []) (j := 3) rfl (by kernel_rfl) (by kernel_rfl) (ev_ixM (kk := .i64) (b := 64) (g := 0) (l := 0) (n := p417.length) (j := p418) (cs := (eInt .i64).cells p417) (by kernel_rfl) (by kernel_rfl) (by kernel_rfl) hm136) ?_
        refine bindE hS (fun z137 hz137 hS => ?_)
        refine zlOp (d := some 79) (op := (.load .false 1 (.tmp 78))) (g := none) (v := (.d (.int .i64 z137))) (ups := []) (j := 4) rfl (by kernel_rfl) (by kernel_rfl) (ev_loadM (eInt .i64) (b := 64) (g := 0) (o := (0 + m136) * 1) (e := 3) (k := 1) (m := m136) (fo := 0) (xs := p417) (by kernel_rfl) (by kernel_rfl) (by rw [Nat.zero_add]; rfl) hz137 (by kernel_rfl) (by kernel_rfl) (by kernel_rfl)) ?_
        refine zlBool (d := 80) (op := (.cmpI .eql (.tmp 79) (.const (.int .i64 38)))) (g := none) (j := 5) (decide (z137 = 38)) rfl (by kernel_rfl) (by kernel_rfl) (by kernel_rfl) (fun hc => ?_) (fun hc => ?_)
        · replace hS := cond_t hc hS
          refine zlEnd (by kernel_rfl) ?_
          refine zkSeq ?_
          refine zrCondT (by kernel_rfl) ?_
          refine zrReg ?_
          refine zlRun (n := 3) (j := 3) rfl (by kernel_rfl) ?_
          refine zlEnd (by kernel_rfl) ?_
          refine zkSeq ?_
          refine zrReg ?_
          refine zlRun (n := 4) (j := 4) rfl (by kernel_rfl) ?_
          refine zlEnd (by kernel_rfl) ?_
          refine zkBlk ?_
          refine zkSeq ?_
          refine zrReg ?_
          refine zlRun (n := 3) (j := 3) rfl (by kernel_rfl) ?_
          refine zlEnd (by kernel_rfl) ?_
          refine zkNil ?_
          exact endQ hS hQ (finL_n (by show keepSt _ _ _ _ = _; kernel_rfl))
        · replace hS := cond_f hc hS
          refine zlEnd (by kernel_rfl) ?_
          refine zkSeq ?_
          refine zrCondF (by kernel_rfl) ?_
          refine zrReg ?_
          refine zlRun (n := 3) (j := 3) rfl (by kernel_rfl) ?_
          refine zlEnd (by kernel_rfl) ?_
          refine zkSeq ?_
          refine zrReg ?_
          refine zlRun (n := 4) (j := 4) rfl (by kernel_rfl) ?_
          refine zlEnd (by kernel_rfl) ?_
          refine zkBlk ?_
          refine zkSeq ?_
          refine zrReg ?_
          refine zlRun (n := 3) (j := 3) rfl (by kernel_rfl) ?_
          refine zlEnd (by kernel_rfl) ?_
          refine zkNil ?_
          exact endQ hS hQ (finL_n (by show keepSt _ _ _ _ = _; kernel_rfl))
  · replace hS := cond_f hc hS
    refine zlRun (n := 7) (j := 12) rfl (by kernel_rfl) ?_
    refine zlEnd (by kernel_rfl) ?_
    refine zkSeq ?_
    refine zrCondF (by kernel_rfl) ?_
    refine zrSkip ?_
    refine zkSeq ?_
    refine zrSeq ?_
    refine zrReg ?_
    refine zlRun (n := 3) (j := 3) rfl (by kernel_rfl) ?_
    refine bindE hS (fun z138 hz138 hS => ?_)
    refine zlOp (d := some 70) (op := (.slS 3 1 (.tmp 67) (.some (.tmp 69)) .none)) (g := none) (v := (.r (.msl 64 0 (((IntKind.i64.wrap (p418 + 1)) : Int).toNat) (((p417.length : Int) : Int).toNat - ((IntKind.i64.wrap (p418 + 1)) : Int).toNat)))) (ups := []) (j := 4) rfl (by kernel_rfl) (by kernel_rfl) (ev_slM (b := 64) (g := 0) (e := 3) (a := (IntKind.i64.wrap (p418 + 1))) (c := (p417.length : Int)) (l := 0) (n := p417.length) (l' := (((IntKind.i64.wrap (p418 + 1)) : Int).toNat)) (n' := (((p417.length : Int) : Int).toNat - ((IntKind.i64.wrap (p418 + 1)) : Int).toNat)) (cs := (eInt .i64).cells p417) (by kernel_rfl) (by kernel_rfl) (bnd_s _ (kk := .i64) (j := (IntKind.i64.wrap (p418 + 1))) (by kernel_rfl)) (bnd_n _) hz138 (by simp) rfl) ?_
    refine bindE hS (fun z139 hz139 hS => ?_)
    refine bindE hS (fun z140 hz140 hS => ?_)
    refine zlOp (d := some 71) (op := (.call 53 [(.tmp 70)])) (g := none) (v := (.tup [(.d (.int .i64 z140.1)), (.d (.int .i64 z140.2))])) (ups := []) (j := 5) rfl (by kernel_rfl) (by kernel_rfl) (ev_call (args := [(.r (.msl 64 0 (((IntKind.i64.wrap (p418 + 1)) : Int).toNat) (((p417.length : Int) : Int).toNat - ((IntKind.i64.wrap (p418 + 1)) : Int).toNat)))]) (l := [(.d (.sl z139.length ((eInt .i64).cells z139)))]) (r := (.tup [(.d (.int .i64 z140.1)), (.d (.int .i64 z140.2))])) (by kernel_rfl) (l_cons (l_part (eInt .i64) (e := 3) (k := 1) (xs := p417) (by kernel_rfl) rfl hz139) l_nil) (f53_ok base (d - 1) (dpt hd rfl) z139 z140 hz140) (by kernel_rfl) (by kernel_rfl) (by kernel_rfl)) ?_
    refine zlRun (n := 5) (j := 10) rfl (by kernel_rfl) ?_
    refine zlEnd (by kernel_rfl) ?_
    refine zkSeq ?_
    refine zrSeq ?_
    refine zrSeq ?_
    refine zrReg ?_
    refine zlRun (n := 1) (j := 1) rfl (by kernel_rfl) ?_
    refine zlBool (d := 75) (op := (.cmpI .eql (.tmp 74) (.const (.int .i64 0)))) (g := none) (j := 2) (decide (z140.2 = 0)) rfl (by kernel_rfl) (by kernel_rfl) (by kernel_rfl) (fun hc => ?_) (fun hc => ?_)
    · replace hS := cond_t hc hS
      refine zlEnd (by kernel_rfl) ?_
      refine zkSeq ?_
      refine zrCondT (by kernel_rfl) ?_
      refine zrKeep (J := f32_l4_e2_J a1 a2 p416) (by kernel_rfl) ?_
      refine zrExit ?_
      refine zkSeqX ?_
      refine zkBlkY rfl ?_
      refine zkSeqX ?_
      refine zkNil ?_
      exact endQ hS hQ (finL_x (by intro h; cases h) (by show _ = _ ∧ _ = _; exact ⟨rfl, rfl⟩))
    · replace hS := cond_f hc hS
      refine zlEnd (by kernel_rfl) ?_
      refine zkSeq ?_
      refine zrCondF (by kernel_rfl) ?_
      refine zrSkip ?_
      refine zkSeq ?_
      refine zrSeq ?_
      refine zrSeq ?_
      refine zrReg ?_
      refine zlRun (n := 2) (j := 2) rfl (by kernel_rfl) ?_
      refine bindE hS (fun m143 hm143 hS => ?_)
      refine zlOp (d := some 78) (op := (.ixS 3 1 (.tmp 76) (.tmp 77))) (g := none) (v := (.r (.ptr 64 0 ((0 + m143) * 1)))) (ups := []) (j := 3) rfl (by kernel_rfl) (by kernel_rfl) (ev_ixM (kk := .i64) (b := 64) (g := 0) (l := 0) (n := p417.length) (j := p418) (cs := (eInt .i64).cells p417) (by kernel_rfl) (by kernel_rfl) (by kernel_rfl) hm143) ?_
      refine bindE hS (fun z144 hz144 hS => ?_)
      refine zlOp (d := some 79) (op := (.load .false 1 (.tmp 78))) (g := none) (v := (.d (.int .i64 z144))) (ups := []) (j := 4) rfl (by kernel_rfl) (by kernel_rfl) (ev_loadM (eInt .i64) (b := 64) (g := 0) (o := (0 + m143) * 1) (e := 3) (k := 1) (m := m143) (fo := 0) (xs := p417) (by kernel_rfl) (by kernel_rfl) (by rw [Nat.zero_add]; rfl) hz144 (by kernel_rfl) (by kernel_rfl) (by kernel_rfl)) ?_
      refine zlBool (d := 80) (op := (.cmpI .eql (.tmp 79) (.const (.int .i64 38)))) (g := none) (j := 5) (decide (z144 = 38)) rfl (by kernel_rfl) (by kernel_rfl) (by kernel_rfl) (fun hc => ?_) (fun hc => ?_)
      · replace hS := cond_t hc hS
        refine zlEnd (by kernel_rfl) ?_
        refine zkSeq ?_
        refine zrCondT (by kernel_rfl) ?_
        refine zrReg ?_
        refine zlRun (n := 3) (j := 3) rfl (by kernel_rfl) ?_
        refine zlEnd (by kernel_rfl) ?_
        refine zkSeq ?_
        refine zrReg ?_
        refine zlRun (n := 4) (j := 4) rfl (by kernel_rfl) ?_
        refine zlEnd (by kernel_rfl) ?_
        refine zkBlk ?_
        refine zkSeq ?_
        refine zrReg ?_
        refine zlRun (n := 3) (j := 3) rfl (by kernel_rfl) ?_
        refine zlEnd (by kernel_rfl) ?_
        refine zkNil ?_
        exact endQ hS hQ (finL_n (by show keepSt _ _ _ _ = _; kernel_rfl))
      · replace hS := cond_f hc hS
        refine zlEnd (by kernel_rfl) ?_
        refine zkSeq ?_
        refine zrCondF (by kernel_rfl) ?_
        refine zrReg ?_
        refine zlRun (n := 3) (j := 3) rfl (by kernel_rfl) ?_
        refine zlEnd (by kernel_rfl) ?_
        refine zkSeq ?_
        refine zrReg ?_
        refine zlRun (n := 4) (j := 4) rfl (by kernel_rfl) ?_
        refine zlEnd (by kernel_rfl) ?_
        refine zkBlk ?_
        refine zkSeq ?_
        refine zrReg ?_
        refine zlRun (n := 3) (j := 3) rfl (by kernel_rfl) ?_
        refine zlEnd (by kernel_rfl) ?_
        refine zkNil ?_
        exact endQ hS hQ (finL_n (by show keepSt _ _ _ _ = _; kernel_rfl))
noncomputable def f32_l4 (a1 : GPen) (a2 : List Int) (x : GPen × (List Int) × Int) : Option ((GPen × (List Int) × Int) ⊕ GPen) := (bif (decide (x.2.2 < (x.2.1.length : Int))) then (f32_l4_j5 a1 a2 x.1 x.2.1 x.2.2) else (some (.inr x.1)))
theorem f32_l4_ok {base : Orc} {d : Nat} (hd : 5 ≤ d) (a1 : GPen) (a2 : List Int) {r : (GPen × (List Int) × Int) ⊕ GPen} {Q : PX → St → Prop} (hQ : ∀ e st', finL (f32_l4_H a1 a2) (f32_l4_X a1 a2) r e st' → Q e st') {x : GPen × (List Int) × Int} (hS : f32_l4 a1 a2 x = some r) {st : St} (he : f32_l4_H a1 a2 x st) : ZR (lev codes base (d - 1)) Q c32_2 [] st := by
  refine zrKeep he ?_
  unfold f32_l4 at hS
  refine zrSeq ?_
  refine zrSeq ?_
  refine zrReg ?_
  refine zlRun (n := 3) (j := 3) rfl (by kernel_rfl) ?_
  refine zlBool (d := 46) (op := (.cmpI .lss (.tmp 43) (.tmp 45))) (g := none) (j := 4) (decide (x.2.2 < (x.2.1.length : Int))) rfl (by kernel_rfl) (by kernel_rfl) (by kernel_rfl) (fun hc => ?_) (fun hc => ?_)
  · replace hS := cond_t hc hS
    refine zlEnd (by kernel_rfl) ?_
    refine zkSeq ?_
    refine zrCondT (by kernel_rfl) ?_
    refine zrSkip ?_
    refine zkSeq ?_
    exact f32_l4_j5_ok hd a1 a2 hQ x.1 x.2.1 x.2.2 hS (by kernel_rfl)
  · replace hS := cond_f hc hS
    refine zlEnd (by kernel_rfl) ?_
    refine zkSeq ?_
    refine zrCondF (by kernel_rfl) ?_
    refine zrKeep (J := f32_l4_e2_J a1 a2 x.1) (by kernel_rfl) ?_
    refine zrExit ?_
    refine zkSeqX ?_
    refine zkNil ?_
    exact endQ hS hQ (finL_x (by intro h; cases h) (by show _ = _ ∧ _ = _; exact ⟨rfl, rfl⟩))
def f32_j3_J (a1 : GPen) (a2 : List Int) (p217 : List Int) : St := ⟨(up (up (up (fun _ => .un) 7 (.r (.msl 64 0 0 p217.length))) 4 (.r (.ptr 40 0 0))) 2 (.r (.ptr 24 0 0))), (up (up (up (hB fun _ => 0) 64 ⟨0, some (.own 3 1 ((eInt .i64).cells p217))⟩) 40 ⟨0, some (.box ((.d (.int .i64 0)) :: ((.d (.int .i64 0)) :: ((.d (.int .i64 0)) :: []))))⟩) 24 ⟨0, some (.box ((.d (.int .i64 a1.Flags)) :: ((.d (.int .i64 a1.Fore)) :: ((.d (.int .i64 a1.Back)) :: []))))⟩)⟩
noncomputable def f32_j3 (a1 : GPen) (a2 : List Int) (p217 : List Int) : Option (GPen × Int) := ((loopO (f32_l4 a1 a2) (a1, p217, 0)).bind fun z145 => (some (z145, 0)))
theorem f32_j3_ok {base : Orc} {d : Nat} (hd : 5 ≤ d) (a1 : GPen) (a2 : List Int) {r : GPen × Int} {Q : PX → St → Prop} (hQ : ∀ e st', f32_Q r e st' → Q e st') (p217 : List Int) (hS : f32_j3 a1 a2 p217 = some r) {st : St} (he : keepSt [2, 4, 7] [(24, .id 24), (40, .id 40), (64, .id 64)] [] st = f32_j3_J a1 a2 p217) : ZR (lev codes base (d - 1)) Q c32_3 [] st := by
  refine zrKeep he ?_
  unfold f32_j3 at hS
  refine zrSeq ?_
  refine zrSeq ?_
  refine zrReg ?_
  refine zlRun (n := 1) (j := 1) rfl (by kernel_rfl) ?_
  refine zlEnd (by kernel_rfl) ?_
  refine zkSeq ?_
  refine zrBlk ?_
  refine bindE hS (fun z145 hz145 hS => ?_)
  refine zrLoop (f32_l4_H a1 a2) (f32_l4_X a1 a2) (fun x st r Q h0 hS hQ => f32_l4_ok hd a1 a2 hQ hS h0) (x := (a1, p217, 0)) (z := z145) (by show keepSt _ _ _ _ = _; kernel_rfl) hz145 ?_
  intro e st' _ hX
  obtain ⟨rfl, rfl⟩ : _ ∧ _ := hX
  refine zkBlkX ?_
  refine zkSeq ?_
  refine zrSeq ?_
  refine zrReg ?_
  refine zlRun (n := 3) (j := 3) rfl (by kernel_rfl) ?_
  refine zlEnd (by kernel_rfl) ?_
  refine zkSeq ?_
  refine zrRet ?_
  refine zkNil ?_
  exact endQ hS hQ (fRet ((congrArg (fun s => outR s 0 c32.res) (by kernel_rfl : finSt c32.fin _ = f32_fin z145 0)).trans (f32_out z145 0)))
def f32_l6_J (a1 : GPen) (a2 : List Int) (x : (List Int) × Int) : St := ⟨(up (up (up (up (up (up (fun _ => .un) 33 (.d (.int .i64 x.2))) 32 (.d (.int .i64 (a2.length : Int)))) 31 (.d (.sl a2.length ((eInt .i64).cells a2)))) 7 (.r (.msl 64 0 0 x.1.length))) 4 (.r (.ptr 40 0 0))) 2 (.r (.ptr 24 0 0))), (up (up (up (hB fun _ => 0) 64 ⟨0, some (.own 3 1 ((eInt .i64).cells x.1))⟩) 40 ⟨0, some (.box ((.d (.int .i64 0)) :: ((.d (.int .i64 0)) :: ((.d (.int .i64 0)) :: []))))⟩) 24 ⟨0, some (.box ((.d (.int .i64 a1.Flags)) :: ((.d (.int .i64 a1.Fore)) :: ((.d (.int .i64 a1.Back)) :: []))))⟩)⟩
def f32_l6_H (a1 : GPen) (a2 : List Int) (x : (List Int) × Int) (st : St) : Prop := keepSt [2, 4, 7, 31, 32, 33] [(24, .id 24), (40, .id 40), (64, .id 64)] [] st = f32_l6_J a1 a2 x
def f32_l6_e0_J (a1 : GPen) (a2 : List Int) (p16 : List Int) : St := ⟨(up (up (up (fun _ => .un) 7 (.r (.msl 64 0 0 p16.length))) 4 (.r (.ptr 40 0 0))) 2 (.r (.ptr 24 0 0))), (up (up (up (hB fun _ => 0) 64 ⟨0, some (.own 3 1 ((eInt .i64).cells p16))⟩) 40 ⟨0, some (.box ((.d (.int .i64 0)) :: ((.d (.int .i64 0)) :: ((.d (.int .i64 0)) :: []))))⟩) 24 ⟨0, some (.box ((.d (.int .i64 a1.Flags)) :: ((.d (.int .i64 a1.Fore)) :: ((.d (.int .i64 a1.Back)) :: []))))⟩)⟩
def f32_l6_X (a1 : GPen) (a2 : List Int) (z : ((List Int))) (e : PX) (st : St) : Prop := e = .exit 0 ∧ st = f32_l6_e0_J a1 a2 z
def f32_l6_j8_J (a1 : GPen) (a2 : List Int) (p467 : List Int) (p468 : Int) : St := ⟨(up (up (up (up (up (up (fun _ => .un) 33 (.d (.int .i64 p468))) 32 (.d (.int .i64 (a2.length : Int)))) 31 (.d (.sl a2.length ((eInt .i64).cells a2)))) 7 (.r (.msl 64 0 0 p467.length))) 4 (.r (.ptr 40 0 0))) 2 (.r (.ptr 24 0 0))), (up (up (up (hB fun _ => 0) 64 ⟨0, some (.own 3 1 ((eInt .i64).cells p467))⟩) 40 ⟨0, some (.box ((.d (.int .i64 0)) :: ((.d (.int .i64 0)) :: ((.d (.int .i64 0)) :: []))))⟩) 24 ⟨0, some (.box ((.d (.int .i64 a1.Flags)) :: ((.d (.int .i64 a1.Fore)) :: ((.d (.int .i64 a1.Back)) :: []))))⟩)⟩
noncomputable def f32_l6_j8 (a1 : GPen) (a2 : List Int) (p467 : List Int) (p468 : Int) : Option (((List Int) × Int) ⊕ (((List Int)))) := ((idx a2 p468).bind fun z146 => ((app? 8 p467 ([(if 0 > z146 then 0 else z146)] : List Int)).bind fun z147 => (some (.inl (z147, (IntKind.i64.wrap (p468 + 1)))))))
theorem f32_l6_j8_ok {base : Orc} {d : Nat} (hd : 5 ≤ d) (a1 : GPen) (a2 : List Int) {r : ((List Int) × Int) ⊕ (((List Int)))} {Q : PX → St → Prop} (hQ : ∀ e st', finL (f32_l6_H a1 a2) (f32_l6_X a1 a2) r e st' → Q e st') (p467 : List Int) (p468 : Int) (hS : f32_l6_j8 a1 a2 p467 p468 = some r) {st : St} (he : keepSt [2, 4, 7, 31, 32, 33] [(24, .id 24), (40, .id 40), (64, .id 64)] [] st = f32_l6_j8_J a1 a2 p467 p468) : ZR (lev codes base (d - 1)) Q c32_4 [] st := by
  refine zrKeep he ?_
  unfold f32_l6_j8 at hS
  refine zrSeq ?_
  refine zrBlk ?_
  refine zrSeq ?_
  refine zrReg ?_
  refine bindE hS (fun z146 hz146 hS => ?_)
  refine zlOp (d := some 35) (op := (.ixS 3 1 (.tmp 31) (.tmp 33))) (g := none) (v := (.rptr ((eInt .i64).enc z146 ++ ((eInt .i64).cells (a2.drop ((p468 : Int).toNat + 1)))))) (ups := []) (j := 1) rfl (by kernel_rfl) (by kernel_rfl) (ev_ixS (eInt .i64) (kk := .i64) (xs := a2) (j := p468) (by kernel_rfl) (by kernel_rfl) hz146 rfl (by intro h; cases h)) ?_
  refine zlRun (n := 2) (j := 3) rfl (by kernel_rfl) ?_
  refine zlEnd (by kernel_rfl) ?_
  refine zkSeq ?_
  refine zrReg ?_
  refine zlRun (n := 4) (j := 4) rfl (by kernel_rfl) ?_
  refine bindE hS (fun z147 hz147 hS => ?_)
  refine zlOp (d := some 41) (op := (.app 3 1 8 (.tmp 37) (.tmp 40))) (g := none) (v := (.r (.msl 64 1 0 z147.length))) (ups := [(64, ⟨1, some (.own 3 1 ((eInt .i64).cells z147))⟩)]) (j := 5) rfl (by kernel_rfl) (by kernel_rfl) (ev_app (eInt .i64) (b := 64) (g := 0) (n := p467.length) (xs := p467) (ys := [(if 0 > z146 then 0 else z146)]) ((congrArg (asL _) (by kernel_rfl : ρof _ (.tmp 40) = (.r (.msl 328 1 0 (([(if 0 > z146 then 0 else z146)] : List Int).length))))).trans (as_whole (eInt .i64) (e := 3) (k := 1) (xs := [(if 0 > z146 then 0 else z146)]) (by kernel_rfl) rfl rfl)) rfl (by kernel_rfl) rfl (by kernel_rfl) rfl hz147) ?_
  refine zlRun (n := 1) (j := 6) rfl (by kernel_rfl) ?_
  refine zlEnd (by kernel_rfl) ?_
  refine zkBlk ?_
  refine zkSeq ?_
  refine zrReg ?_
  refine zlRun (n := 2) (j := 2) rfl (by kernel_rfl) ?_
  refine zlEnd (by kernel_rfl) ?_
  refine zkNil ?_
  exact endQ hS hQ (finL_n (by show keepSt _ _ _ _ = _; kernel_rfl))
def f32_l6_j7_J (a1 : GPen) (a2 : List Int) (p464 : List Int) (p465 : Int) (p466 : Bool) : St := ⟨(up (up (up (up (up (up (up (fun _ => .un) 34 (.d (.bool p466))) 33 (.d (.int .i64 p465))) 32 (.d (.int .i64 (a2.length : Int)))) 31 (.d (.sl a2.length ((eInt .i64).cells a2)))) 7 (.r (.msl 64 0 0 p464.length))) 4 (.r (.ptr 40 0 0))) 2 (.r (.ptr 24 0 0))), (up (up (up (hB fun _ => 0) 64 ⟨0, some (.own 3 1 ((eInt .i64).cells p464))⟩) 40 ⟨0, some (.box ((.d (.int .i64 0)) :: ((.d (.int .i64 0)) :: ((.d (.int .i64 0)) :: []))))⟩) 24 ⟨0, some (.box ((.d (.int .i64 a1.Flags)) :: ((.d (.int .i64 a1.Fore)) :: ((.d (.int .i64 a1.Back)) :: []))))⟩)⟩
noncomputable def f32_l6_j7 (a1 : GPen) (a2 : List Int) (p464 : List Int) (p465 : Int) (p466 : Bool) : Option (((List Int) × Int) ⊕ (((List Int)))) := (bif p466 then (f32_l6_j8 a1 a2 p464 p465) else (some (.inr p464)))
theorem f32_l6_j7_ok {base : Orc} {d : Nat} (hd : 5 ≤ d) (a1 : GPen) (a2 : List Int) {r : ((List Int) × Int) ⊕ (((List Int)))} {Q : PX → St → Prop} (hQ : ∀ e st', finL (f32_l6_H a1 a2) (f32_l6_X a1 a2) r e st' → Q e st') (p464 : List Int) (p465 : Int) (p466 : Bool) (hS : f32_l6_j7 a1 a2 p464 p465 p466 = some r) {st : St} (he : keepSt [2, 4, 7, 31, 32, 33, 34] [(24, .id 24), (40, .id 40), (64, .id 64)] [] st = f32_l6_j7_J a1 a2 p464 p465 p466) : ZR (lev codes base (d - 1)) Q c32_5 [] st := by
  refine zrKeep he ?_
  unfold f32_l6_j7 at hS
  refine zrSeq ?_
  refine zrSplit 34 p466 (by kernel_rfl) (fun hc => ?_) (fun hc => ?_)
  · replace hS := cond_t hc hS
    refine zrCondT (by kernel_rfl) ?_
    refine zrSkip ?_
    refine zkSeq ?_
    exact f32_l6_j8_ok hd a1 a2 hQ p464 p465 hS (by kernel_rfl)
  · replace hS := cond_f hc hS
    refine zrCondF (by kernel_rfl) ?_
    refine zrKeep (J := f32_l6_e0_J a1 a2 p464) (by kernel_rfl) ?_
    refine zrExit ?_
    refine zkSeqX ?_
    refine zkNil ?_
    exact endQ hS hQ (finL_x (by intro h; cases h) (by show _ = _ ∧ _ = _; exact ⟨rfl, rfl⟩))
noncomputable def f32_l6 (a1 : GPen) (a2 : List Int) (x : (List Int) × Int) : Option (((List Int) × Int) ⊕ (((List Int)))) := (bif (decide (x.2 < (a2.length : Int))) then (f32_l6_j7 a1 a2 x.1 x.2 true) else (f32_l6_j7 a1 a2 x.1 x.2 false))
theorem f32_l6_ok {base : Orc} {d : Nat} (hd : 5 ≤ d) (a1 : GPen) (a2 : List Int) {r : ((List Int) × Int) ⊕ (((List Int)))} {Q : PX → St → Prop} (hQ : ∀ e st', finL (f32_l6_H a1 a2) (f32_l6_X a1 a2) r e st' → Q e st') {x : (List Int) × Int} (hS : f32_l6 a1 a2 x = some r) {st : St} (he : f32_l6_H a1 a2 x st) : ZR (lev codes base (d - 1)) Q c32_6 [] st := by
  refine zrKeep he ?_
  unfold f32_l6 at hS
  refine zrSeq ?_
  refine zrReg ?_
  refine zlBool (d := 34) (op := (.cmpI .lss (.tmp 33) (.tmp 32))) (g := none) (j := 1) (decide (x.2 < (a2.length : Int))) rfl (by kernel_rfl) (by kernel_rfl) (by kernel_rfl) (fun hc => ?_) (fun hc => ?_)
  · replace hS := cond_t hc hS
    refine zlEnd (by kernel_rfl) ?_
    refine zkSeq ?_
    exact f32_l6_j7_ok hd a1 a2 hQ x.1 x.2 true hS (by kernel_rfl)
  · replace hS := cond_f hc hS
    refine zlEnd (by kernel_rfl) ?_
    refine zkSeq ?_
    exact f32_l6_j7_ok hd a1 a2 hQ x.1 x.2 false hS (by kernel_rfl)
def f32_j2_J (a1 : GPen) (a2 : List Int) : St := ⟨(up (up (up (fun _ => .un) 4 (.r (.ptr 40 0 0))) 2 (.r (.ptr 24 0 0))) 1 (.d (.sl a2.length ((eInt .i64).cells a2)))), (up (up (hB fun _ => 0) 40 ⟨0, some (.box ((.d (.int .i64 0)) :: ((.d (.int .i64 0)) :: ((.d (.int .i64 0)) :: []))))⟩) 24 ⟨0, some (.box ((.d (.int .i64 a1.Flags)) :: ((.d (.int .i64 a1.Fore)) :: ((.d (.int .i64 a1.Back)) :: []))))⟩)⟩
noncomputable def f32_j2 (a1 : GPen) (a2 : List Int) : Option (GPen × Int) := ((loopO (f32_l6 a1 a2) ([], 0)).bind fun z148 => (f32_j3 a1 a2 z148))
theorem f32_j2_ok {base : Orc} {d : Nat} (hd : 5 ≤ d) (a1 : GPen) (a2 : List Int) {r : GPen × Int} {Q : PX → St → Prop} (hQ : ∀ e st', f32_Q r e st' → Q e st')  (hS : f32_j2 a1 a2 = some r) {st : St} (he : keepSt [1, 2, 4] [(24, .id 24), (40, .id 40)] [] st = f32_j2_J a1 a2) : ZR (lev codes base (d - 1)) Q c32_7 [] st := by
  refine zrKeep he ?_
  unfold f32_j2 at hS
  refine zrSeq ?_
  refine zrReg ?_
  refine zlRun (n := 1) (j := 1) rfl (by kernel_rfl) ?_
  refine zlEnd (by kernel_rfl) ?_
  refine zkSeq ?_
  refine zrSeq ?_
  refine zrSeq ?_
  refine zrReg ?_
  refine zlRun (n := 3) (j := 3) rfl (by kernel_rfl) ?_
  refine zlEnd (by kernel_rfl) ?_
  refine zkSeq ?_
  refine zrBlk ?_
  refine bindE hS (fun z148 hz148 hS => ?_)
  refine zrLoop (f32_l6_H a1 a2) (f32_l6_X a1 a2) (fun x st r Q h0 hS hQ => f32_l6_ok hd a1 a2 hQ hS h0) (x := ([], 0)) (z := z148) (by show keepSt _ _ _ _ = _; kernel_rfl) hz148 ?_
  intro e st' _ hX
  obtain ⟨rfl, rfl⟩ : _ ∧ _ := hX
  refine zkBlkX ?_
  refine zkSeq ?_
  exact f32_j3_ok hd a1 a2 hQ z148 hS (by kernel_rfl)
def f32_j1_J (a1 : GPen) (a2 : List Int) : St := ⟨(up (up (up (fun _ => .un) 4 (.r (.ptr 40 0 0))) 2 (.r (.ptr 24 0 0))) 1 (.d (.sl a2.length ((eInt .i64).cells a2)))), (up (up (hB fun _ => 0) 40 ⟨0, some (.box ((.d (.int .i64 0)) :: ((.d (.int .i64 0)) :: ((.d (.int .i64 0)) :: []))))⟩) 24 ⟨0, some (.box ((.d (.int .i64 a1.Flags)) :: ((.d (.int .i64 a1.Fore)) :: ((.d (.int .i64 a1.Back)) :: []))))⟩)⟩
noncomputable def f32_j1 (a1 : GPen) (a2 : List Int) : Option (GPen × Int) := (bif (decide (32 < (a2.length : Int))) then (some (a1, 2)) else (f32_j2 a1 a2 ))
theorem f32_j1_ok {base : Orc} {d : Nat} (hd : 5 ≤ d) (a1 : GPen) (a2 : List Int) {r : GPen × Int} {Q : PX → St → Prop} (hQ : ∀ e st', f32_Q r e st' → Q e st')  (hS : f32_j1 a1 a2 = some r) {st : St} (he : keepSt [1, 2, 4] [(24, .id 24), (40, .id 40)] [] st = f32_j1_J a1 a2) : ZR (lev codes base (d - 1)) Q c32_8 [] st := by
  refine zrKeep he ?_
  unfold f32_j1 at hS
  refine zrSeq ?_
  refine zrSeq ?_
  refine zrReg ?_
  refine zlRun (n := 2) (j := 2) rfl (by kernel_rfl) ?_
  refine zlBool (d := 29) (op := (.cmpI .gtr (.tmp 28) (.const (.int .i64 32)))) (g := none) (j := 3) (decide (32 < (a2.length : Int))) rfl (by kernel_rfl) (by kernel_rfl) (by kernel_rfl) (fun hc => ?_) (fun hc => ?_)
  · replace hS := cond_t hc hS
    refine zlEnd (by kernel_rfl) ?_
    refine zkSeq ?_
    refine zrCondT (by kernel_rfl) ?_
    refine zrSeq ?_
    refine zrReg ?_
    refine zlRun (n := 3) (j := 3) rfl (by kernel_rfl) ?_
    refine zlEnd (by kernel_rfl) ?_
    refine zkSeq ?_
    refine zrRet ?_
    refine zkSeqR ?_
    refine zkNil ?_
    exact endQ hS hQ (fRet ((congrArg (fun s => outR s 0 c32.res) (by kernel_rfl : finSt c32.fin _ = f32_fin a1 2)).trans (f32_out a1 2)))
  · replace hS := cond_f hc hS
    refine zlEnd (by kernel_rfl) ?_
    refine zkSeq ?_
    refine zrCondF (by kernel_rfl) ?_
    refine zrSkip ?_
    refine zkSeq ?_
    exact f32_j2_ok hd a1 a2 hQ  hS (by kernel_rfl)
def f32_j0_J (a1 : GPen) (a2 : List Int) : St := ⟨(up (up (up (fun _ => .un) 4 (.r (.ptr 40 0 0))) 2 (.r (.ptr 24 0 0))) 1 (.d (.sl a2.length ((eInt .i64).cells a2)))), (up (up (hB fun _ => 0) 40 ⟨0, some (.box ((.d (.int .i64 0)) :: ((.d (.int .i64 0)) :: ((.d (.int .i64 0)) :: []))))⟩) 24 ⟨0, some (.box ((.d (.int .i64 a1.Flags)) :: ((.d (.int .i64 a1.Fore)) :: ((.d (.int .i64 a1.Back)) :: []))))⟩)⟩
noncomputable def f32_j0 (a1 : GPen) (a2 : List Int) : Option (GPen × Int) := (bif (decide ((a2.length : Int) = 0)) then (some (a1, 1)) else ((f50 a2).bind fun z149 => (bif z149 then (some (a1, 1)) else (f32_j1 a1 a2 ))))
theorem f32_j0_ok {base : Orc} {d : Nat} (hd : 5 ≤ d) (a1 : GPen) (a2 : List Int) {r : GPen × Int} {Q : PX → St → Prop} (hQ : ∀ e st', f32_Q r e st' → Q e st')  (hS : f32_j0 a1 a2 = some r) {st : St} (he : keepSt [1, 2, 4] [(24, .id 24), (40, .id 40)] [] st = f32_j0_J a1 a2) : ZR (lev codes base (d - 1)) Q c32_9 [] st := by
  refine zrKeep he ?_
  unfold f32_j0 at hS
  refine zrSeq ?_
  refine zrSeq ?_
  refine zrReg ?_
  refine zlRun (n := 2) (j := 2) rfl (by kernel_rfl) ?_
  refine zlBool (d := 21) (op := (.cmpI .eql (.tmp 20) (.const (.int .i64 0)))) (g := none) (j := 3) (decide ((a2.length : Int) = 0)) rfl (by kernel_rfl) (by kernel_rfl) (by kernel_rfl) (fun hc => ?_) (fun hc => ?_)
  · replace hS := cond_t hc hS
    refine zlRun (n := 4) (j := 7) rfl (by kernel_rfl) ?_
    refine zlEnd (by kernel_rfl) ?_
    refine zkSeq ?_
    refine zrCondT (by kernel_rfl) ?_
    refine zrSeq ?_
    refine zrReg ?_
    refine zlRun (n := 3) (j := 3) rfl (by kernel_rfl) ?_
    refine zlEnd (by kernel_rfl) ?_
    refine zkSeq ?_
    refine zrRet ?_
    refine zkSeqR ?_
    refine zkNil ?_
    exact endQ hS hQ (fRet ((congrArg (fun s => outR s 0 c32.res) (by kernel_rfl : finSt c32.fin _ = f32_fin a1 1)).trans (f32_out a1 1)))
  · replace hS := cond_f hc hS
    refine zlRun (n := 2) (j := 5) rfl (by kernel_rfl) ?_
    refine bindE hS (fun z149 hz149 hS => ?_)
    refine zlOp (d := some 24) (op := (.call 50 [(.tmp 23), (.func 51)])) (g := (some (22, false))) (v := (.d (.bool z149))) (ups := []) (j := 6) rfl (by kernel_rfl) (by kernel_rfl) (ev_call (args := [(.d (.sl a2.length ((eInt .i64).cells a2))), (.fn 51 [])]) (l := [(.d (.sl a2.length ((eInt .i64).cells a2))), (.fn 51 [])]) (r := (.d (.bool z149))) (by kernel_rfl) (by kernel_rfl) (f50_ok base (d - 1) (dpt hd rfl) a2 z149 hz149) (by kernel_rfl) (by kernel_rfl) (by kernel_rfl)) ?_
    refine zlRun (n := 1) (j := 7) rfl (by kernel_rfl) ?_
    refine zlEnd (by kernel_rfl) ?_
    refine zkSeq ?_
    refine zrSplit 25 z149 (by kernel_rfl) (fun hc => ?_) (fun hc => ?_)
    · replace hS := cond_t hc hS
      refine zrCondT (by kernel_rfl) ?_
      refine zrSeq ?_
      refine zrReg ?_
      refine zlRun (n := 3) (j := 3) rfl (by kernel_rfl) ?_
      refine zlEnd (by kernel_rfl) ?_
      refine zkSeq ?_
      refine zrRet ?_
      refine zkSeqR ?_
      refine zkNil ?_
      exact endQ hS hQ (fRet ((congrArg (fun s => outR s 0 c32.res) (by kernel_rfl : finSt c32.fin _ = f32_fin a1 1)).trans (f32_out a1 1)))
    · replace hS := cond_f hc hS
      refine zrCondF (by kernel_rfl) ?_
      refine zrSkip ?_
      refine zkSeq ?_
      exact f32_j1_ok hd a1 a2 hQ  hS (by kernel_rfl)
noncomputable def f32 (a1 : GPen) (a2 : List Int) : Option (GPen × Int) := ((f33 a1).bind fun z150 => (bif (!decide (z150 = 0)) then (some (a1, z150)) else (f32_j0 a1 a2 )))
theorem f32_ok (base : Orc) (d : Nat) (hd : 5 ≤ d) (a1 : GPen) (a2 : List Int) (r : GPen × Int) (hS : f32 a1 a2 = some r) : lev codes base d 32 [(.agg ((.d (.int .i64 a1.Flags)) :: ((.d (.int .i64 a1.Fore)) :: ((.d (.int .i64 a1.Back)) :: [])))), (.d (.sl a2.length ((eInt .i64).cells a2)))] [] = some ((.tup [(.agg ((.d (.int .i64 r.1.Flags)) :: ((.d (.int .i64 r.1.Fore)) :: ((.d (.int .i64 r.1.Back)) :: [])))), (.d (.int .i64 r.2))]), []) := by
  refine lev_go codes32 rfl rfl (Nat.le_trans (Nat.le_of_ble_eq_true rfl) hd) fun Q hQ => ?_
  unfold f32 at hS
  show ZR _ Q c32_b [] _
  replace hQ : ∀ e st', f32_Q r e st' → Q e st' := hQ
  refine zrSeq ?_
  refine zrReg ?_
  refine zlRun (n := 3) (j := 3) rfl (by kernel_rfl) ?_
  refine zlEnd (by kernel_rfl) ?_
  refine zkSeq ?_
  refine zrSeq ?_
  refine zrSeq ?_
  refine zrReg ?_
  refine zlRun (n := 1) (j := 1) rfl (by kernel_rfl) ?_
  refine bindE hS (fun z150 hz150 hS => ?_)
  refine zlOp (d := some 14) (op := (.call 33 [(.tmp 13)])) (g := none) (v := (.d (.int .i64 z150))) (ups := []) (j := 2) rfl (by kernel_rfl) (by kernel_rfl) (ev_call (args := [(.agg ((.d (.int .i64 a1.Flags)) :: ((.d (.int .i64 a1.Fore)) :: ((.d (.int .i64 a1.Back)) :: []))))]) (l := [(.agg ((.d (.int .i64 a1.Flags)) :: ((.d (.int .i64 a1.Fore)) :: ((.d (.int .i64 a1.Back)) :: []))))]) (r := (.d (.int .i64 z150))) (by kernel_rfl) (by kernel_rfl) (f33_ok base (d - 1) (dpt hd rfl) a1 z150 hz150) (by kernel_rfl) (by kernel_rfl) (by kernel_rfl)) ?_
  refine zlRun (n := 1) (j := 3) rfl (by kernel_rfl) ?_
  refine zlEnd (by kernel_rfl) ?_
  refine zkSeq ?_
  refine zrSeq ?_
  refine zrReg ?_
  refine zlRun (n := 1) (j := 1) rfl (by kernel_rfl) ?_
  refine zlBool (d := 16) (op := (.cmpI .neq (.tmp 15) (.const (.int .i64 0)))) (g := none) (j := 2) (!decide (z150 = 0)) rfl (by kernel_rfl) (by kernel_rfl) (by kernel_rfl) (fun hc => ?_) (fun hc => ?_)
  · replace hS := cond_t hc hS
    refine zlEnd (by kernel_rfl) ?_
    refine zkSeq ?_
    refine zrCondT (by kernel_rfl) ?_
    refine zrSeq ?_
    refine zrReg ?_
    refine zlRun (n := 4) (j := 4) rfl (by kernel_rfl) ?_
    refine zlEnd (by kernel_rfl) ?_
    refine zkSeq ?_
    refine zrRet ?_
    refine zkSeqR ?_
    refine zkNil ?_
    exact endQ hS hQ (fRet ((congrArg (fun s => outR s 0 c32.res) (by kernel_rfl : finSt c32.fin _ = f32_fin a1 z150)).trans (f32_out a1 z150)))
  · replace hS := cond_f hc hS
    refine zlEnd (by kernel_rfl) ?_
    refine zkSeq ?_
    refine zrCondF (by kernel_rfl) ?_
    refine zrSkip ?_
    refine zkSeq ?_
    exact f32_j0_ok hd a1 a2 hQ  hS (by kernel_rfl)
/- farwriter/pen.paint -/
def f47_fin (p4 : List Int) : St := ⟨(up (fun _ => .un) 4 (.r (.msl 361 0 0 p4.length))), (up (hB fun _ => 0) 361 ⟨0, some (.own 3 1 ((eInt .i64).cells p4))⟩)⟩
theorem f47_out (p4 : List Int) : outR (f47_fin p4) 0 c47.res = some ((.r (.own 0 3 1 p4.length ((eInt .i64).cells p4))), []) := by
  exact out_of (ids := []) (ids' := [361]) (l := [(.r (.msl 361 0 0 p4.length))]) (by kernel_rfl) (by kernel_rfl) (o_own (eInt .i64) (e := 3) (k := 1) (xs := p4) (by kernel_rfl) rfl rfl rfl rfl)
def f47_Q (r : (List Int)) (e : PX) (st : St) : Prop := DoneF c47 0 ((.r (.own 0 3 1 r.length ((eInt .i64).cells r))), []) e st
def f47_j0_J (a1 : Int) (a2 : Int) : St := ⟨(up (up (fun _ => .un) 1 (.d (.int .i64 a2))) 0 (.d (.int .i64 a1))), (hB fun _ => 0)⟩
noncomputable def f47_j0 (a1 : Int) (a2 : Int) : Option ((List Int)) := (some [(IntKind.i64.wrap (a2 + 8)), 2, (bitI .and .i64 (Int.fdiv a1 (2 ^ 16)) 255), (bitI .and .i64 (Int.fdiv a1 (2 ^ 8)) 255), (bitI .and .i64 a1 255)])
theorem f47_j0_ok {base : Orc} {d : Nat} (hd : 1 ≤ d) (a1 : Int) (a2 : Int) {r : (List Int)} {Q : PX → St → Prop} (hQ : ∀ e st', f47_Q r e st' → Q e st')  (hS : f47_j0 a1 a2 = some r) {st : St} (he : keepSt [0, 1] [] [] st = f47_j0_J a1 a2) : ZR (lev codes base (d - 1)) Q c47_1 [] st := by
  refine zrKeep he ?_
  unfold f47_j0 at hS
  refine zrSeq ?_
  refine zrReg ?_
  refine zlRun (n := 12) (j := 12) rfl (by kernel_rfl) ?_
  refine zlEnd (by kernel_rfl) ?_
  refine zkSeq ?_
  refine zrRet ?_
  refine zkNil ?_
  exact endQ hS hQ (fRet ((congrArg (fun s => outR s 0 c47.res) (by kernel_rfl : finSt c47.fin _ = f47_fin [(IntKind.i64.wrap (a2 + 8)), 2, (bitI .and .i64 (Int.fdiv a1 (2 ^ 16)) 255), (bitI .and .i64 (Int.fdiv a1 (2 ^ 8)) 255), (bitI .and .i64 a1 255)])).trans (f47_out [(IntKind.i64.wrap (a2 + 8)), 2, (bitI .and .i64 (Int.fdiv a1 (2 ^ 16)) 255), (bitI .and .i64 (Int.fdiv a1 (2 ^ 8)) 255), (bitI .and .i64 a1 255)])))
noncomputable def f47 (a1 : Int) (a2 : Int) : Option ((List Int)) := (bif (decide (a1 ≤ 8)) then (some [(IntKind.i64.wrap ((IntKind.i64.wrap (a2 + a1)) - 1))]) else (bif (decide (a1 ≤ 16)) then (some [(IntKind.i64.wrap ((IntKind.i64.wrap ((IntKind.i64.wrap (a2 + 60)) + a1)) - 9))]) else (bif (decide (a1 ≤ 256)) then (some [(IntKind.i64.wrap (a2 + 8)), 5, (IntKind.i64.wrap (a1 - 1))]) else (f47_j0 a1 a2 ))))
theorem f47_ok (base : Orc) (d : Nat) (hd : 1 ≤ d) (a1 : Int) (a2 : Int) (r : (List Int)) (hS : f47 a1 a2 = some r) : lev codes base d 47 [(.d (.int .i64 a1)), (.d (.int .i64 a2))] [] = some ((.r (.own 0 3 1 r.length ((eInt .i64).cells r))), []) := by
  refine lev_go codes47 rfl rfl (Nat.le_trans (Nat.le_of_ble_eq_true rfl) hd) fun Q hQ => ?_
  unfold f47 at hS
  show ZR _ Q c47_b [] _
  replace hQ : ∀ e st', f47_Q r e st' → Q e st' := hQ
  refine zrSeq ?_
  refine zrReg ?_
  refine zlRun (n := 1) (j := 1) rfl (by kernel_rfl) ?_
  refine zlEnd (by kernel_rfl) ?_
  refine zkSeq ?_
  refine zrSeq ?_
  refine zrBlk ?_
  refine zrSeq ?_
  refine zrReg ?_
  refine zlRun (n := 1) (j := 1) rfl (by kernel_rfl) ?_
  refine zlBool (d := 7) (op := (.cmpI .leq (.tmp 6) (.const (.int .i64 8)))) (g := none) (j := 2) (decide (a1 ≤ 8)) rfl (by kernel_rfl) (by kernel_rfl) (by kernel_rfl) (fun hc => ?_) (fun hc => ?_)
  · replace hS := cond_t hc hS
    refine zlRun (n := 1) (j := 3) rfl (by kernel_rfl) ?_
    refine zlEnd (by kernel_rfl) ?_
    refine zkSeq ?_
    refine zrCondT (by kernel_rfl) ?_
    refine zrSeq ?_
    refine zrReg ?_
    refine zlRun (n := 6) (j := 6) rfl (by kernel_rfl) ?_
    refine zlEnd (by kernel_rfl) ?_
    refine zkSeq ?_
    refine zrRet ?_
    refine zkBlkR ?_
    refine zkSeqR ?_
    refine zkNil ?_
    exact endQ hS hQ (fRet ((congrArg (fun s => outR s 0 c47.res) (by kernel_rfl : finSt c47.fin _ = f47_fin [(IntKind.i64.wrap ((IntKind.i64.wrap (a2 + a1)) - 1))])).trans (f47_out [(IntKind.i64.wrap ((IntKind.i64.wrap (a2 + a1)) - 1))])))
  · replace hS := cond_f hc hS
    refine zlRun (n := 1) (j := 3) rfl (by kernel_rfl) ?_
    refine zlEnd (by kernel_rfl) ?_
    refine zkSeq ?_
    refine zrCondF (by kernel_rfl) ?_
    refine zrSeq ?_
    refine zrReg ?_
    refine zlRun (n := 1) (j := 1) rfl (by kernel_rfl) ?_
    refine zlBool (d := 15) (op := (.cmpI .leq (.tmp 14) (.const (.int .i64 16)))) (g := none) (j := 2) (decide (a1 ≤ 16)) rfl (by kernel_rfl) (by kernel_rfl) (by kernel_rfl) (fun hc => ?_) (fun hc => ?_)
    · replace hS := cond_t hc hS
      refine zlRun (n := 1) (j := 3) rfl (by kernel_rfl) ?_
      refine zlEnd (by kernel_rfl) ?_
      refine zkSeq ?_
      refine zrCondT (by kernel_rfl) ?_
      refine zrSeq ?_
      refine zrReg ?_
      refine zlRun (n := 7) (j := 7) rfl (by kernel_rfl) ?_
      refine zlEnd (by kernel_rfl) ?_
      refine zkSeq ?_
      refine zrRet ?_
      refine zkBlkR ?_
      refine zkSeqR ?_
      refine zkNil ?_
      exact endQ hS hQ (fRet ((congrArg (fun s => outR s 0 c47.res) (by kernel_rfl : finSt c47.fin _ = f47_fin [(IntKind.i64.wrap ((IntKind.i64.wrap ((IntKind.i64.wrap (a2 + 60)) + a1)) - 9))])).trans (f47_out [(IntKind.i64.wrap ((IntKind.i64.wrap ((IntKind.i64.wrap (a2 + 60)) + a1)) - 9))])))
    · replace hS := cond_f hc hS
      refine zlRun (n := 1) (j := 3) rfl (by kernel_rfl) ?_
      refine zlEnd (by kernel_rfl) ?_
      refine zkSeq ?_
      refine zrCondF (by kernel_rfl) ?_
      refine zrSeq ?_
      refine zrReg ?_
      refine zlRun (n := 1) (j := 1) rfl (by kernel_rfl) ?_
      refine zlBool (d := 24) (op := (.cmpI .leq (.tmp 23) (.const (.int .i64 256)))) (g := none) (j := 2) (decide (a1 ≤ 256)) rfl (by kernel_rfl) (by kernel_rfl) (by kernel_rfl) (fun hc => ?_) (fun hc => ?_)
      · replace hS := cond_t hc hS
        refine zlRun (n := 1) (j := 3) rfl (by kernel_rfl) ?_
        refine zlEnd (by kernel_rfl) ?_
        refine zkSeq ?_
        refine zrCondT (by kernel_rfl) ?_
        refine zrSeq ?_
        refine zrReg ?_
        refine zlRun (n := 6) (j := 6) rfl (by kernel_rfl) ?_
        refine zlEnd (by kernel_rfl) ?_
        refine zkSeq ?_
        refine zrRet ?_
        refine zkBlkR ?_
        refine zkSeqR ?_
        refine zkNil ?_
        exact endQ hS hQ (fRet ((congrArg (fun s => outR s 0 c47.res) (by kernel_rfl : finSt c47.fin _ = f47_fin [(IntKind.i64.wrap (a2 + 8)), 5, (IntKind.i64.wrap (a1 - 1))])).trans (f47_out [(IntKind.i64.wrap (a2 + 8)), 5, (IntKind.i64.wrap (a1 - 1))])))
      · replace hS := cond_f hc hS
        refine zlRun (n := 1) (j := 3) rfl (by kernel_rfl) ?_
        refine zlEnd (by kernel_rfl) ?_
        refine zkSeq ?_
        refine zrCondF (by kernel_rfl) ?_
        refine zrSkip ?_
        refine zkBlk ?_
        refine zkSeq ?_
        exact f47_j0_ok hd a1 a2 hQ  hS (by kernel_rfl)
/- farwriter/pen.Change -/
def f29_fin (p81 : List Int) (p82 : Int) : St := ⟨(up (up (fun _ => .un) 5 (.d (.int .i64 p82))) 4 (.r (.msl 761 0 0 p81.length))), (up (hB fun _ => 0) 761 ⟨0, some (.own 3 1 ((eInt .i64).cells p81))⟩)⟩
theorem f29_out (p81 : List Int) (p82 : Int) : outR (f29_fin p81 p82) 0 c29.res = some ((.tup [(.r (.own 0 3 1 p81.length ((eInt .i64).cells p81))), (.d (.int .i64 p82))]), []) := by
  exact out_of (ids := []) (ids' := [761]) (l := [(.r (.msl 761 0 0 p81.length)), (.d (.int .i64 p82))]) (by kernel_rfl) (by kernel_rfl) (o_tup (o_cons (o_own (eInt .i64) (e := 3) (k := 1) (xs := p81) (by kernel_rfl) rfl rfl rfl rfl) (o_cons rfl o_nil)))
def f29_Q (r : (List Int) × Int) (e : PX) (st : St) : Prop := DoneF c29 0 ((.tup [(.r (.own 0 3 1 r.1.length ((eInt .i64).cells r.1))), (.d (.int .i64 r.2))]), []) e st
def f29_j3_J (a1 : GPen) (a2 : GPen) (p160 : GPen) (p161 : List Int) : St := ⟨(up (up (up (fun _ => .un) 9 (.r (.msl 80 0 0 p161.length))) 3 (.r (.ptr 32 0 0))) 2 (.r (.ptr 24 0 0))), (up (up (up (hB fun _ => 0) 80 ⟨0, some (.own 3 1 ((eInt .i64).cells p161))⟩) 32 ⟨0, some (.box ((.d (.int .i64 a2.Flags)) :: ((.d (.int .i64 a2.Fore)) :: ((.d (.int .i64 a2.Back)) :: []))))⟩) 24 ⟨0, some (.box ((.d (.int .i64 p160.Flags)) :: ((.d (.int .i64 p160.Fore)) :: ((.d (.int .i64 p160.Back)) :: []))))⟩)⟩
noncomputable def f29_j3 (a1 : GPen) (a2 : GPen) (p160 : GPen) (p161 : List Int) : Option ((List Int) × Int) := (bif (!decide (a2.Back = p160.Back)) then ((f47 a2.Back 40).bind fun z43 => ((app? 8 p161 z43).bind fun z44 => (some (z44, 0)))) else (some (p161, 0)))
theorem f29_j3_ok {base : Orc} {d : Nat} (hd : 3 ≤ d) (a1 : GPen) (a2 : GPen) {r : (List Int) × Int} {Q : PX → St → Prop} (hQ : ∀ e st', f29_Q r e st' → Q e st') (p160 : GPen) (p161 : List Int) (hS : f29_j3 a1 a2 p160 p161 = some r) {st : St} (he : keepSt [2, 3, 9] [(24, .id 24), (32, .id 32), (80, .id 80)] [] st = f29_j3_J a1 a2 p160 p161) : ZR (lev codes base (d - 1)) Q c29_1 [] st := by
  refine zrKeep he ?_
  unfold f29_j3 at hS
  refine zrSeq ?_
  refine zrSeq ?_
  refine zrReg ?_
  refine zlRun (n := 4) (j := 4) rfl (by kernel_rfl) ?_
  refine zlBool (d := 84) (op := (.cmpI .neq (.tmp 81) (.tmp 83))) (g := none) (j := 5) (!decide (a2.Back = p160.Back)) rfl (by kernel_rfl) (by kernel_rfl) (by kernel_rfl) (fun hc => ?_) (fun hc => ?_)
  · replace hS := cond_t hc hS
    refine zlEnd (by kernel_rfl) ?_
    refine zkSeq ?_
    refine zrCondT (by kernel_rfl) ?_
    refine zrReg ?_
    refine zlRun (n := 3) (j := 3) rfl (by kernel_rfl) ?_
    refine bindE hS (fun z43 hz43 hS => ?_)
    refine zlOp (d := some 88) (op := (.call 47 [(.tmp 87), (.const (.int .i64 40))])) (g := none) (v := (.r (.msl 712 1 0 z43.length))) (ups := [(712, ⟨1, some (.own 3 1 ((eInt .i64).cells z43))⟩)]) (j := 4) rfl (by kernel_rfl) (by kernel_rfl) (ev_call (args := [(.d (.int .i64 a2.Back)), (.d (.int .i64 40))]) (l := [(.d (.int .i64 a2.Back)), (.d (.int .i64 40))]) (r := (.r (.own 0 3 1 z43.length ((eInt .i64).cells z43)))) (by kernel_rfl) (by kernel_rfl) (f47_ok base (d - 1) (dpt hd rfl) a2.Back 40 z43 hz43) (by kernel_rfl) (by kernel_rfl) (by kernel_rfl)) ?_
    refine bindE hS (fun z44 hz44 hS => ?_)
    refine zlOp (d := some 89) (op := (.app 3 1 8 (.tmp 85) (.tmp 88))) (g := none) (v := (.r (.msl 80 1 0 z44.length))) (ups := [(80, ⟨1, some (.own 3 1 ((eInt .i64).cells z44))⟩)]) (j := 5) rfl (by kernel_rfl) (by kernel_rfl) (ev_app (eInt .i64) (b := 80) (g := 0) (n := p161.length) (xs := p161) (ys := z43) ((congrArg (asL _) (by kernel_rfl : ρof _ (.tmp 88) = (.r (.msl 712 1 0 z43.length)))).trans (as_whole (eInt .i64) (e := 3) (k := 1) (xs := z43) (by kernel_rfl) rfl rfl)) rfl (by kernel_rfl) rfl (by kernel_rfl) rfl hz44) ?_
    refine zlRun (n := 1) (j := 6) rfl (by kernel_rfl) ?_
    refine zlEnd (by kernel_rfl) ?_
    refine zkSeq ?_
    refine zrSeq ?_
    refine zrReg ?_
    refine zlRun (n := 3) (j := 3) rfl (by kernel_rfl) ?_
    refine zlEnd (by kernel_rfl) ?_
    refine zkSeq ?_
    refine zrRet ?_
    refine zkNil ?_
    exact endQ hS hQ (fRet ((congrArg (fun s => outR s 0 c29.res) (by kernel_rfl : finSt c29.fin _ = f29_fin z44 0)).trans (f29_out z44 0)))
  · replace hS := cond_f hc hS
    refine zlEnd (by kernel_rfl) ?_
    refine zkSeq ?_
    refine zrCondF (by kernel_rfl) ?_
    refine zrSkip ?_
    refine zkSeq ?_
    refine zrSeq ?_
    refine zrReg ?_
    refine zlRun (n := 3) (j := 3) rfl (by kernel_rfl) ?_
    refine zlEnd (by kernel_rfl) ?_
    refine zkSeq ?_
    refine zrRet ?_
    refine zkNil ?_
    exact endQ hS hQ (fRet ((congrArg (fun s => outR s 0 c29.res) (by kernel_rfl : finSt c29.fin _ = f29_fin p161 0)).trans (f29_out p161 0)))
def f29_j2_J (a1 : GPen) (a2 : GPen) (p153 : GPen) (p154 : List Int) : St := ⟨(up (up (up (fun _ => .un) 9 (.r (.msl 80 0 0 p154.length))) 3 (.r (.ptr 32 0 0))) 2 (.r (.ptr 24 0 0))), (up (up (up (hB fun _ => 0) 80 ⟨0, some (.own 3 1 ((eInt .i64).cells p154))⟩) 32 ⟨0, some (.box ((.d (.int .i64 a2.Flags)) :: ((.d (.int .i64 a2.Fore)) :: ((.d (.int .i64 a2.Back)) :: []))))⟩) 24 ⟨0, some (.box ((.d (.int .i64 p153.Flags)) :: ((.d (.int .i64 p153.Fore)) :: ((.d (.int .i64 p153.Back)) :: []))))⟩)⟩
noncomputable def f29_j2 (a1 : GPen) (a2 : GPen) (p153 : GPen) (p154 : List Int) : Option ((List Int) × Int) := (bif (!decide (a2.Fore = p153.Fore)) then ((f47 a2.Fore 30).bind fun z45 => ((app? 8 p154 z45).bind fun z46 => (f29_j3 a1 a2 p153 z46))) else (f29_j3 a1 a2 p153 p154))
theorem f29_j2_ok {base : Orc} {d : Nat} (hd : 3 ≤ d) (a1 : GPen) (a2 : GPen) {r : (List Int) × Int} {Q : PX → St → Prop} (hQ : ∀ e st', f29_Q r e st' → Q e st') (p153 : GPen) (p154 : List Int) (hS : f29_j2 a1 a2 p153 p154 = some r) {st : St} (he : keepSt [2, 3, 9] [(24, .id 24), (32, .id 32), (80, .id 80)] [] st = f29_j2_J a1 a2 p153 p154) : ZR (lev codes base (d - 1)) Q c29_2 [] st := by
  refine zrKeep he ?_
  unfold f29_j2 at hS
  refine zrSeq ?_
  refine zrSeq ?_
  refine zrReg ?_
  refine zlRun (n := 4) (j := 4) rfl (by kernel_rfl) ?_
  refine zlBool (d := 74) (op := (.cmpI .neq (.tmp 71) (.tmp 73))) (g := none) (j := 5) (!decide (a2.Fore = p153.Fore)) rfl (by kernel_rfl) (by kernel_rfl) (by kernel_rfl) (fun hc => ?_) (fun hc => ?_)
  · replace hS := cond_t hc hS
    refine zlEnd (by kernel_rfl) ?_
    refine zkSeq ?_
    refine zrCondT (by kernel_rfl) ?_
    refine zrReg ?_
    refine zlRun (n := 3) (j := 3) rfl (by kernel_rfl) ?_
    refine bindE hS (fun z45 hz45 hS => ?_)
    refine zlOp (d := some 78) (op := (.call 47 [(.tmp 77), (.const (.int .i64 30))])) (g := none) (v := (.r (.msl 632 1 0 z45.length))) (ups := [(632, ⟨1, some (.own 3 1 ((eInt .i64).cells z45))⟩)]) (j := 4) rfl (by kernel_rfl) (by kernel_rfl) (ev_call (args := [(.d (.int .i64 a2.Fore)), (.d (.int .i64 30))]) (l := [(.d (.int .i64 a2.Fore)), (.d (.int .i64 30))]) (r := (.r (.own 0 3 1 z45.length ((eInt .i64).cells z45)))) (by kernel_rfl) (by kernel_rfl) (f47_ok base (d - 1) (dpt hd rfl) a2.Fore 30 z45 hz45) (by kernel_rfl) (by kernel_rfl) (by kernel_rfl)) ?_
    refine bindE hS (fun z46 hz46 hS => ?_)
    refine zlOp (d := some 79) (op := (.app 3 1 8 (.tmp 75) (.tmp 78))) (g := none) (v := (.r (.msl 80 1 0 z46.length))) (ups := [(80, ⟨1, some (.own 3 1 ((eInt .i64).cells z46))⟩)]) (j := 5) rfl (by kernel_rfl) (by kernel_rfl) (ev_app (eInt .i64) (b := 80) (g := 0) (n := p154.length) (xs := p154) (ys := z45) ((congrArg (asL _) (by kernel_rfl : ρof _ (.tmp 78) = (.r (.msl 632 1 0 z45.length)))).trans (as_whole (eInt .i64) (e := 3) (k := 1) (xs := z45) (by kernel_rfl) rfl rfl)) rfl (by kernel_rfl) rfl (by kernel_rfl) rfl hz46) ?_
    refine zlRun (n := 1) (j := 6) rfl (by kernel_rfl) ?_
    refine zlEnd (by kernel_rfl) ?_
    refine zkSeq ?_
    exact f29_j3_ok hd a1 a2 hQ p153 z46 hS (by kernel_rfl)
  · replace hS := cond_f hc hS
    refine zlEnd (by kernel_rfl) ?_
    refine zkSeq ?_
    refine zrCondF (by kernel_rfl) ?_
    refine zrSkip ?_
    refine zkSeq ?_
    exact f29_j3_ok hd a1 a2 hQ p153 p154 hS (by kernel_rfl)
def f29_l4_J (a1 : GPen) (a2 : GPen) (x : GPen × (List Int) × Int) : St := ⟨(up (up (up (up (fun _ => .un) 10 (.d (.int .i64 x.2.2))) 9 (.r (.msl 80 0 0 x.2.1.length))) 3 (.r (.ptr 32 0 0))) 2 (.r (.ptr 24 0 0))), (up (up (up (hB fun _ => 0) 80 ⟨0, some (.own 3 1 ((eInt .i64).cells x.2.1))⟩) 32 ⟨0, some (.box ((.d (.int .i64 a2.Flags)) :: ((.d (.int .i64 a2.Fore)) :: ((.d (.int .i64 a2.Back)) :: []))))⟩) 24 ⟨0, some (.box ((.d (.int .i64 x.1.Flags)) :: ((.d (.int .i64 x.1.Fore)) :: ((.d (.int .i64 x.1.Back)) :: []))))⟩)⟩
def f29_l4_H (a1 : GPen) (a2 : GPen) (x : GPen × (List Int) × Int) (st : St) : Prop := keepSt [2, 3, 9, 10] [(24, .id 24), (32, .id 32), (80, .id 80)] [] st = f29_l4_J a1 a2 x
def f29_l4_e2_J (a1 : GPen) (a2 : GPen) (p151 : GPen) (p152 : List Int) : St := ⟨(up (up (up (fun _ => .un) 9 (.r (.msl 80 0 0 p152.length))) 3 (.r (.ptr 32 0 0))) 2 (.r (.ptr 24 0 0))), (up (up (up (hB fun _ => 0) 80 ⟨0, some (.own 3 1 ((eInt .i64).cells p152))⟩) 32 ⟨0, some (.box ((.d (.int .i64 a2.Flags)) :: ((.d (.int .i64 a2.Fore)) :: ((.d (.int .i64 a2.Back)) :: []))))⟩) 24 ⟨0, some (.box ((.d (.int .i64 p151.Flags)) :: ((.d (.int .i64 p151.Fore)) :: ((.d (.int .i64 p151.Back)) :: []))))⟩)⟩
def f29_l4_X (a1 : GPen) (a2 : GPen) (z : (GPen × (List Int))) (e : PX) (st : St) : Prop := e = .exit 2 ∧ st = f29_l4_e2_J a1 a2 z.1 z.2
def f29_l4_j5_J (a1 : GPen) (a2 : GPen) (p166 : GPen) (p167 : List Int) (p168 : Int) : St := ⟨(up (up (up (up (fun _ => .un) 10 (.d (.int .i64 p168))) 9 (.r (.msl 80 0 0 p167.length))) 3 (.r (.ptr 32 0 0))) 2 (.r (.ptr 24 0 0))), (up (up (up (hB fun _ => 0) 80 ⟨0, some (.own 3 1 ((eInt .i64).cells p167))⟩) 32 ⟨0, some (.box ((.d (.int .i64 a2.Flags)) :: ((.d (.int .i64 a2.Fore)) :: ((.d (.int .i64 a2.Back)) :: []))))⟩) 24 ⟨0, some (.box ((.d (.int .i64 p166.Flags)) :: ((.d (.int .i64 p166.Fore)) :: ((.d (.int .i64 p166.Back)) :: []))))⟩)⟩
noncomputable def f29_l4_j5 (a1 : GPen) (a2 : GPen) (p166 : GPen) (p167 : List Int) (p168 : Int) : Option ((GPen × (List Int) × Int) ⊕ ((GPen × (List Int)))) := ((f46 p168).bind fun z48 => (bif (!decide ((bitI .andNot .i64 (bitI .and .i64 z48 a2.Flags) p166.Flags) = 0)) then ((app? 8 p167 ([p168] : List Int)).bind fun z49 => (some (.inl (p166, z49, (IntKind.i64.wrap (p168 + 1)))))) else (some (.inl (p166, p167, (IntKind.i64.wrap (p168 + 1)))))))
theorem f29_l4_j5_ok {base : Orc} {d : Nat} (hd : 3 ≤ d) (a1 : GPen) (a2 : GPen) {r : (GPen × (List Int) × Int) ⊕ ((GPen × (List Int)))} {Q : PX → St → Prop} (hQ : ∀ e st', finL (f29_l4_H a1 a2) (f29_l4_X a1 a2) r e st' → Q e st') (p166 : GPen) (p167 : List Int) (p168 : Int) (hS : f29_l4_j5 a1 a2 p166 p167 p168 = some r) {st : St} (he : keepSt [2, 3, 9, 10] [(24, .id 24), (32, .id 32), (80, .id 80)] [] st = f29_l4_j5_J a1 a2 p166 p167 p168) : ZR (lev codes base (d - 1)) Q c29_3 [] st := by
  refine zrKeep he ?_
  unfold f29_l4_j5 at hS
  refine zrSeq ?_
  refine zrBlk ?_
  refine zrSeq ?_
  refine zrRegD ?_
  refine zdRun (n := 1) (j := 1) (ts := [[]]) (acc' := [[]]) rfl (by kernel_rfl) (by kernel_rfl) (by kernel_rfl) ?_
  refine bindE hS (fun z48 hz48 hS => ?_)
  refine zdOp (d := some 58) (op := (.call 46 [(.tmp 57)])) (g := none) (v := (.d (.int .i64 z48))) (ups := []) (j := 2) (t1 := [(472, true), (473, true), (474, true), (475, true), (476, true), (477, true), (478, true), (479, true)]) (acc' := [[], [(472, true), (473, true), (474, true), (475, true), (476, true), (477, true), (478, true), (479, true)]]) (by kernel_rfl) (by kernel_rfl) rfl (by kernel_rfl) (by kernel_rfl) (ev_call (args := [(.d (.int .i64 p168))]) (l := [(.d (.int .i64 p168))]) (r := (.d (.int .i64 z48))) (by kernel_rfl) (by kernel_rfl) (f46_ok base (d - 1) (dpt hd rfl) p168 z48 hz48) (by kernel_rfl) (by kernel_rfl) (by kernel_rfl)) ?_
  refine zdRun (n := 6) (j := 8) (ts := [[], [(32, false)], [], [], [(24, false)], []]) (acc' := [[], [(472, true), (473, true), (474, true), (475, true), (476, true), (477, true), (478, true), (479, true)], [], [(32, false)], [], [], [(24, false)], []]) rfl (by kernel_rfl) (by kernel_rfl) (by kernel_rfl) ?_
  refine zdBool (d := 65) (op := (.cmpI .neq (.tmp 64) (.const (.int .i64 0)))) (g := none) (j := 9) (t1 := []) (acc' := [[], [(472, true), (473, true), (474, true), (475, true), (476, true), (477, true), (478, true), (479, true)], [], [(32, false)], [], [], [(24, false)], [], []]) (!decide ((bitI .andNot .i64 (bitI .and .i64 z48 a2.Flags) p166.Flags) = 0)) (by kernel_rfl) (by kernel_rfl) rfl (by kernel_rfl) (by kernel_rfl) (by kernel_rfl) (fun hc => ?_) (fun hc => ?_)
  · replace hS := cond_t hc hS
    refine zdEnd (by kernel_rfl) (by kernel_rfl) ?_
    refine zkSeq ?_
    refine zrCondT (by kernel_rfl) ?_
    refine zrReg ?_
    refine zlRun (n := 3) (j := 3) rfl (by kernel_rfl) ?_
    refine bindE hS (fun z49 hz49 hS => ?_)
    refine zlOp (d := some 69) (op := (.app 3 1 8 (.tmp 66) (.tmp 68))) (g := none) (v := (.r (.msl 80 1 0 z49.length))) (ups := [(80, ⟨1, some (.own 3 1 ((eInt .i64).cells z49))⟩)]) (j := 4) rfl (by kernel_rfl) (by kernel_rfl) (ev_app (eInt .i64) (b := 80) (g := 0) (n := p167.length) (xs := p167) (ys := [p168]) ((congrArg (asL _) (by kernel_rfl : ρof _ (.tmp 68) = (.r (.msl 552 1 0 (([p168] : List Int).length))))).trans (as_whole (eInt .i64) (e := 3) (k := 1) (xs := [p168]) (by kernel_rfl) rfl rfl)) rfl (by kernel_rfl) rfl (by kernel_rfl) rfl hz49) ?_
    refine zlRun (n := 1) (j := 5) rfl (by kernel_rfl) ?_
    refine zlEnd (by kernel_rfl) ?_
    refine zkBlk ?_
    refine zkSeq ?_
    refine zrReg ?_
    refine zlRun (n := 3) (j := 3) rfl (by kernel_rfl) ?_
    refine zlEnd (by kernel_rfl) ?_
    refine zkNil ?_
    exact endQ hS hQ (finL_n (by show keepSt _ _ _ _ = _; kernel_rfl))
  · replace hS := cond_f hc hS
    refine zdEnd (by kernel_rfl) (by kernel_rfl) ?_
    refine zkSeq ?_
    refine zrCondF (by kernel_rfl) ?_
    refine zrSkip ?_
    refine zkBlk ?_
    refine zkSeq ?_
    refine zrReg ?_
    refine zlRun (n := 3) (j := 3) rfl (by kernel_rfl) ?_
    refine zlEnd (by kernel_rfl) ?_
    refine zkNil ?_
    exact endQ hS hQ (finL_n (by show keepSt _ _ _ _ = _; kernel_rfl))
noncomputable def f29_l4 (a1 : GPen) (a2 : GPen) (x : GPen × (List Int) × Int) : Option ((GPen × (List Int) × Int) ⊕ ((GPen × (List Int)))) := (bif (decide (x.2.2 ≤ 9)) then (f29_l4_j5 a1 a2 x.1 x.2.1 x.2.2) else (some (.inr (x.1, x.2.1))))
theorem f29_l4_ok {base : Orc} {d : Nat} (hd : 3 ≤ d) (a1 : GPen) (a2 : GPen) {r : (GPen × (List Int) × Int) ⊕ ((GPen × (List Int)))} {Q : PX → St → Prop} (hQ : ∀ e st', finL (f29_l4_H a1 a2) (f29_l4_X a1 a2) r e st' → Q e st') {x : GPen × (List Int) × Int} (hS : f29_l4 a1 a2 x = some r) {st : St} (he : f29_l4_H a1 a2 x st) : ZR (lev codes base (d - 1)) Q c29_4 [] st := by
  refine zrKeep he ?_
  unfold f29_l4 at hS
  refine zrSeq ?_
  refine zrSeq ?_
  refine zrReg ?_
  refine zlRun (n := 1) (j := 1) rfl (by kernel_rfl) ?_
  refine zlBool (d := 54) (op := (.cmpI .leq (.tmp 53) (.const (.int .i64 9)))) (g := none) (j := 2) (decide (x.2.2 ≤ 9)) rfl (by kernel_rfl) (by kernel_rfl) (by kernel_rfl) (fun hc => ?_) (fun hc => ?_)
  · replace hS := cond_t hc hS
    refine zlEnd (by kernel_rfl) ?_
    refine zkSeq ?_
    refine zrCondT (by kernel_rfl) ?_
    refine zrSkip ?_
    refine zkSeq ?_
    exact f29_l4_j5_ok hd a1 a2 hQ x.1 x.2.1 x.2.2 hS (by kernel_rfl)
  · replace hS := cond_f hc hS
    refine zlEnd (by kernel_rfl) ?_
    refine zkSeq ?_
    refine zrCondF (by kernel_rfl) ?_
    refine zrKeep (J := f29_l4_e2_J a1 a2 x.1 x.2.1) (by kernel_rfl) ?_
    refine zrExit ?_
    refine zkSeqX ?_
    refine zkNil ?_
    exact endQ hS hQ (finL_x (by intro h; cases h) (by show _ = _ ∧ _ = _; exact ⟨rfl, rfl⟩))
def f29_j1_J (a1 : GPen) (a2 : GPen) (p94 : GPen) (p95 : List Int) : St := ⟨(up (up (up (fun _ => .un) 9 (.r (.msl 80 0 0 p95.length))) 3 (.r (.ptr 32 0 0))) 2 (.r (.ptr 24 0 0))), (up (up (up (hB fun _ => 0) 80 ⟨0, some (.own 3 1 ((eInt .i64).cells p95))⟩) 32 ⟨0, some (.box ((.d (.int .i64 a2.Flags)) :: ((.d (.int .i64 a2.Fore)) :: ((.d (.int .i64 a2.Back)) :: []))))⟩) 24 ⟨0, some (.box ((.d (.int .i64 p94.Flags)) :: ((.d (.int .i64 p94.Fore)) :: ((.d (.int .i64 p94.Back)) :: []))))⟩)⟩
noncomputable def f29_j1 (a1 : GPen) (a2 : GPen) (p94 : GPen) (p95 : List Int) : Option ((List Int) × Int) := ((loopO (f29_l4 a1 a2) (p94, p95, 1)).bind fun z50 => (f29_j2 a1 a2 z50.1 z50.2))
theorem f29_j1_ok {base : Orc} {d : Nat} (hd : 3 ≤ d) (a1 : GPen) (a2 : GPen) {r : (List Int) × Int} {Q : PX → St → Prop} (hQ : ∀ e st', f29_Q r e st' → Q e st') (p94 : GPen) (p95 : List Int) (hS : f29_j1 a1 a2 p94 p95 = some r) {st : St} (he : keepSt [2, 3, 9] [(24, .id 24), (32, .id 32), (80, .id 80)] [] st = f29_j1_J a1 a2 p94 p95) : ZR (lev codes base (d - 1)) Q c29_5 [] st := by
  refine zrKeep he ?_
  unfold f29_j1 at hS
  refine zrSeq ?_
  refine zrSeq ?_
  refine zrReg ?_
  refine zlRun (n := 1) (j := 1) rfl (by kernel_rfl) ?_
  refine zlEnd (by kernel_rfl) ?_
  refine zkSeq ?_
  refine zrBlk ?_
  refine bindE hS (fun z50 hz50 hS => ?_)
  refine zrLoop (f29_l4_H a1 a2) (f29_l4_X a1 a2) (fun x st r Q h0 hS hQ => f29_l4_ok hd a1 a2 hQ hS h0) (x := (p94, p95, 1)) (z := z50) (by show keepSt _ _ _ _ = _; kernel_rfl) hz50 ?_
  intro e st' _ hX
  obtain ⟨rfl, rfl⟩ : _ ∧ _ := hX
  refine zkBlkX ?_
  refine zkSeq ?_
  exact f29_j2_ok hd a1 a2 hQ z50.1 z50.2 hS (by kernel_rfl)
def f29_j6_J (a1 : GPen) (a2 : GPen) : St := ⟨(up (up (up (fun _ => .un) 9 (.r (.msl 80 0 0 (([] : List Int).length)))) 3 (.r (.ptr 32 0 0))) 2 (.r (.ptr 24 0 0))), (up (up (up (hB fun _ => 0) 80 ⟨0, some (.own 3 1 ((eInt .i64).cells ([])))⟩) 32 ⟨0, some (.box ((.d (.int .i64 a2.Flags)) :: ((.d (.int .i64 a2.Fore)) :: ((.d (.int .i64 a2.Back)) :: []))))⟩) 24 ⟨0, some (.box ((.d (.int .i64 a1.Flags)) :: ((.d (.int .i64 a1.Fore)) :: ((.d (.int .i64 a1.Back)) :: []))))⟩)⟩
noncomputable def f29_j6 (a1 : GPen) (a2 : GPen) : Option ((List Int) × Int) := ((app? 8 ([] : List Int) ([0] : List Int)).bind fun z51 => (f29_j1 a1 a2 (GPen.mk 0 0 0) z51))
theorem f29_j6_ok {base : Orc} {d : Nat} (hd : 3 ≤ d) (a1 : GPen) (a2 : GPen) {r : (List Int) × Int} {Q : PX → St → Prop} (hQ : ∀ e st', f29_Q r e st' → Q e st')  (hS : f29_j6 a1 a2 = some r) {st : St} (he : keepSt [2, 3, 9] [(24, .id 24), (32, .id 32), (80, .id 80)] [] st = f29_j6_J a1 a2) : ZR (lev codes base (d - 1)) Q c29_6 [.seq c29_5] st := by
  refine zrKeep he ?_
  unfold f29_j6 at hS
  refine zrReg ?_
  refine zlRun (n := 2) (j := 2) rfl (by kernel_rfl) ?_
  refine bindE hS (fun z51 hz51 hS => ?_)
  refine zlOp (d := some 51) (op := (.app 3 1 8 (.tmp 49) (.tmp 50))) (g := none) (v := (.r (.msl 80 1 0 z51.length))) (ups := [(80, ⟨1, some (.own 3 1 ((eInt .i64).cells z51))⟩)]) (j := 3) rfl (by kernel_rfl) (by kernel_rfl) (ev_app (eInt .i64) (b := 80) (g := 0) (n := ([] : List Int).length) (xs := []) (ys := [0]) ((congrArg (asL _) (by kernel_rfl : ρof _ (.tmp 50) = (.r (.msl 408 1 0 (([0] : List Int).length))))).trans (as_whole (eInt .i64) (e := 3) (k := 1) (xs := [0]) (by kernel_rfl) rfl rfl)) rfl (by kernel_rfl) rfl (by kernel_rfl) rfl hz51) ?_
  refine zlRun (n := 3) (j := 6) rfl (by kernel_rfl) ?_
  refine zlEnd (by kernel_rfl) ?_
  refine zkSeq ?_
  exact f29_j1_ok hd a1 a2 hQ (GPen.mk 0 0 0) z51 hS (by kernel_rfl)
def f29_j7_J (a1 : GPen) (a2 : GPen) : St := ⟨(up (up (up (fun _ => .un) 9 (.r (.msl 80 0 0 (([] : List Int).length)))) 3 (.r (.ptr 32 0 0))) 2 (.r (.ptr 24 0 0))), (up (up (up (hB fun _ => 0) 80 ⟨0, some (.own 3 1 ((eInt .i64).cells ([])))⟩) 32 ⟨0, some (.box ((.d (.int .i64 a2.Flags)) :: ((.d (.int .i64 a2.Fore)) :: ((.d (.int .i64 a2.Back)) :: []))))⟩) 24 ⟨0, some (.box ((.d (.int .i64 a1.Flags)) :: ((.d (.int .i64 a1.Fore)) :: ((.d (.int .i64 a1.Back)) :: []))))⟩)⟩
noncomputable def f29_j7 (a1 : GPen) (a2 : GPen) : Option ((List Int) × Int) := (f29_j1 a1 a2 a1 [])
theorem f29_j7_ok {base : Orc} {d : Nat} (hd : 3 ≤ d) (a1 : GPen) (a2 : GPen) {r : (List Int) × Int} {Q : PX → St → Prop} (hQ : ∀ e st', f29_Q r e st' → Q e st')  (hS : f29_j7 a1 a2 = some r) {st : St} (he : keepSt [2, 3, 9] [(24, .id 24), (32, .id 32), (80, .id 80)] [] st = f29_j7_J a1 a2) : ZR (lev codes base (d - 1)) Q c29_7 [.seq c29_5] st := by
  refine zrKeep he ?_
  unfold f29_j7 at hS
  refine zrSkip ?_
  refine zkSeq ?_
  exact f29_j1_ok hd a1 a2 hQ a1 [] hS (by kernel_rfl)
def f29_j0_J (a1 : GPen) (a2 : GPen) : St := ⟨(up (up (fun _ => .un) 3 (.r (.ptr 32 0 0))) 2 (.r (.ptr 24 0 0))), (up (up (hB fun _ => 0) 32 ⟨0, some (.box ((.d (.int .i64 a2.Flags)) :: ((.d (.int .i64 a2.Fore)) :: ((.d (.int .i64 a2.Back)) :: []))))⟩) 24 ⟨0, some (.box ((.d (.int .i64 a1.Flags)) :: ((.d (.int .i64 a1.Fore)) :: ((.d (.int .i64 a1.Back)) :: []))))⟩)⟩
noncomputable def f29_j0 (a1 : GPen) (a2 : GPen) : Option ((List Int) × Int) := (bif (!decide ((bitI .andNot .i64 a1.Flags a2.Flags) = 0)) then (f29_j6 a1 a2 ) else (bif (!decide (a1.Fore = 0)) then (bif (decide (a2.Fore = 0)) then (f29_j6 a1 a2 ) else (bif (!decide (a1.Back = 0)) then (bif (decide (a2.Back = 0)) then (f29_j6 a1 a2 ) else (f29_j7 a1 a2 )) else (f29_j7 a1 a2 ))) else (bif (!decide (a1.Back = 0)) then (bif (decide (a2.Back = 0)) then (f29_j6 a1 a2 ) else (f29_j7 a1 a2 )) else (f29_j7 a1 a2 ))))
theorem f29_j0_ok {base : Orc} {d : Nat} (hd : 3 ≤ d) (a1 : GPen) (a2 : GPen) {r : (List Int) × Int} {Q : PX → St → Prop} (hQ : ∀ e st', f29_Q r e st' → Q e st')  (hS : f29_j0 a1 a2 = some r) {st : St} (he : keepSt [2, 3] [(24, .id 24), (32, .id 32)] [] st = f29_j0_J a1 a2) : ZR (lev codes base (d - 1)) Q c29_8 [] st := by
  refine zrKeep he ?_
  unfold f29_j0 at hS
  refine zrSeq ?_
  refine zrReg ?_
  refine zlRun (n := 1) (j := 1) rfl (by kernel_rfl) ?_
  refine zlEnd (by kernel_rfl) ?_
  refine zkSeq ?_
  refine zrSeq ?_
  refine zrSeq ?_
  refine zrReg ?_
  refine zlRun (n := 5) (j := 5) rfl (by kernel_rfl) ?_
  refine zlBool (d := 28) (op := (.cmpI .neq (.tmp 27) (.const (.int .i64 0)))) (g := none) (j := 6) (!decide ((bitI .andNot .i64 a1.Flags a2.Flags) = 0)) rfl (by kernel_rfl) (by kernel_rfl) (by kernel_rfl) (fun hc => ?_) (fun hc => ?_)
  · replace hS := cond_t hc hS
    refine zlRun (n := 20) (j := 26) rfl (by kernel_rfl) ?_
    refine zlEnd (by kernel_rfl) ?_
    refine zkSeq ?_
    refine zrCondT (by kernel_rfl) ?_
    exact f29_j6_ok hd a1 a2 hQ  hS (by kernel_rfl)
  · replace hS := cond_f hc hS
    refine zlRun (n := 3) (j := 9) rfl (by kernel_rfl) ?_
    refine zlBool (d := 32) (op := (.cmpI .neq (.tmp 31) (.const (.int .i64 0)))) (g := (some (29, false))) (j := 10) (!decide (a1.Fore = 0)) rfl (by kernel_rfl) (by kernel_rfl) (by kernel_rfl) (fun hc => ?_) (fun hc => ?_)
    · replace hS := cond_t hc hS
      refine zlRun (n := 3) (j := 13) rfl (by kernel_rfl) ?_
      refine zlBool (d := 36) (op := (.cmpI .eql (.tmp 35) (.const (.int .i64 0)))) (g := (some (33, true))) (j := 14) (decide (a2.Fore = 0)) rfl (by kernel_rfl) (by kernel_rfl) (by kernel_rfl) (fun hc => ?_) (fun hc => ?_)
      · replace hS := cond_t hc hS
        refine zlRun (n := 12) (j := 26) rfl (by kernel_rfl) ?_
        refine zlEnd (by kernel_rfl) ?_
        refine zkSeq ?_
        refine zrCondT (by kernel_rfl) ?_
        exact f29_j6_ok hd a1 a2 hQ  hS (by kernel_rfl)
      · replace hS := cond_f hc hS
        refine zlRun (n := 5) (j := 19) rfl (by kernel_rfl) ?_
        refine zlBool (d := 42) (op := (.cmpI .neq (.tmp 41) (.const (.int .i64 0)))) (g := (some (39, false))) (j := 20) (!decide (a1.Back = 0)) rfl (by kernel_rfl) (by kernel_rfl) (by kernel_rfl) (fun hc => ?_) (fun hc => ?_)
        · replace hS := cond_t hc hS
          refine zlRun (n := 3) (j := 23) rfl (by kernel_rfl) ?_
          refine zlBool (d := 46) (op := (.cmpI .eql (.tmp 45) (.const (.int .i64 0)))) (g := (some (43, true))) (j := 24) (decide (a2.Back = 0)) rfl (by kernel_rfl) (by kernel_rfl) (by kernel_rfl) (fun hc => ?_) (fun hc => ?_)
          · replace hS := cond_t hc hS
            refine zlRun (n := 2) (j := 26) rfl (by kernel_rfl) ?_
            refine zlEnd (by kernel_rfl) ?_
            refine zkSeq ?_
            refine zrCondT (by kernel_rfl) ?_
            exact f29_j6_ok hd a1 a2 hQ  hS (by kernel_rfl)
          · replace hS := cond_f hc hS
            refine zlRun (n := 2) (j := 26) rfl (by kernel_rfl) ?_
            refine zlEnd (by kernel_rfl) ?_
            refine zkSeq ?_
            refine zrCondF (by kernel_rfl) ?_
            exact f29_j7_ok hd a1 a2 hQ  hS (by kernel_rfl)
        · replace hS := cond_f hc hS
          refine zlRun (n := 6) (j := 26) rfl (by kernel_rfl) ?_
          refine zlEnd (by kernel_rfl) ?_
          refine zkSeq ?_
          refine zrCondF (by kernel_rfl) ?_
          exact f29_j7_ok hd a1 a2 hQ  hS (by kernel_rfl)
    · replace hS := cond_f hc hS
      refine zlRun (n := 9) (j := 19) rfl (by kernel_rfl) ?_
      refine zlBool (d := 42) (op := (.cmpI .neq (.tmp 41) (.const (.int .i64 0)))) (g := (some (39, false))) (j := 20) (!decide (a1.Back = 0)) rfl (by kernel_rfl) (by kernel_rfl) (by kernel_rfl) (fun hc => ?_) (fun hc => ?_)
      · replace hS := cond_t hc hS
        refine zlRun (n := 3) (j := 23) rfl (by kernel_rfl) ?_
        refine zlBool (d := 46) (op := (.cmpI .eql (.tmp 45) (.const (.int .i64 0)))) (g := (some (43, true))) (j := 24) (decide (a2.Back = 0)) rfl (by kernel_rfl) (by kernel_rfl) (by kernel_rfl) (fun hc => ?_) (fun hc => ?_)
        · replace hS := cond_t hc hS
          refine zlRun (n := 2) (j := 26) rfl (by kernel_rfl) ?_
          refine zlEnd (by kernel_rfl) ?_
          refine zkSeq ?_
          refine zrCondT (by kernel_rfl) ?_
          exact f29_j6_ok hd a1 a2 hQ  hS (by kernel_rfl)
        · replace hS := cond_f hc hS
          refine zlRun (n := 2) (j := 26) rfl (by kernel_rfl) ?_
          refine zlEnd (by kernel_rfl) ?_
          refine zkSeq ?_
          refine zrCondF (by kernel_rfl) ?_
          exact f29_j7_ok hd a1 a2 hQ  hS (by kernel_rfl)
      · replace hS := cond_f hc hS
        refine zlRun (n := 6) (j := 26) rfl (by kernel_rfl) ?_
        refine zlEnd (by kernel_rfl) ?_
        refine zkSeq ?_
        refine zrCondF (by kernel_rfl) ?_
        exact f29_j7_ok hd a1 a2 hQ  hS (by kernel_rfl)
def f29_j9_J (a1 : GPen) (a2 : GPen) : St := ⟨(up (up (up (up (fun _ => .un) 14 (.d (.int .i64 1))) 13 (.agg ((.d (.int .i64 a1.Flags)) :: ((.d (.int .i64 a1.Fore)) :: ((.d (.int .i64 a1.Back)) :: ((.d (.int .i64 a2.Flags)) :: ((.d (.int .i64 a2.Fore)) :: ((.d (.int .i64 a2.Back)) :: [])))))))) 3 (.r (.ptr 32 0 0))) 2 (.r (.ptr 24 0 0))), (up (up (hB fun _ => 0) 32 ⟨0, some (.box ((.d (.int .i64 a2.Flags)) :: ((.d (.int .i64 a2.Fore)) :: ((.d (.int .i64 a2.Back)) :: []))))⟩) 24 ⟨0, some (.box ((.d (.int .i64 a1.Flags)) :: ((.d (.int .i64 a1.Fore)) :: ((.d (.int .i64 a1.Back)) :: []))))⟩)⟩
noncomputable def f29_j9 (a1 : GPen) (a2 : GPen) : Option ((List Int) × Int) := ((f33 a2).bind fun z54 => (bif (!decide (z54 = 0)) then (some ([], z54)) else (f29_j0 a1 a2 )))
theorem f29_j9_ok {base : Orc} {d : Nat} (hd : 3 ≤ d) (a1 : GPen) (a2 : GPen) {r : (List Int) × Int} {Q : PX → St → Prop} (hQ : ∀ e st', f29_Q r e st' → Q e st')  (hS : f29_j9 a1 a2 = some r) {st : St} (he : keepSt [2, 3, 13, 14] [(24, .id 24), (32, .id 32)] [] st = f29_j9_J a1 a2) : ZR (lev codes base (d - 1)) Q c29_9 [.seq c29_10, .blk 0, .seq c29_8] st := by
  refine zrKeep he ?_
  unfold f29_j9 at hS
  refine zrSeq ?_
  refine zrBlk ?_
  refine zrSeq ?_
  refine zrReg ?_
  refine zlRun (n := 3) (j := 3) rfl (by kernel_rfl) ?_
  refine zlEnd (by kernel_rfl) ?_
  refine zkSeq ?_
  refine zrSeq ?_
  refine zrReg ?_
  refine zlRun (n := 1) (j := 1) rfl (by kernel_rfl) ?_
  refine bindE hS (fun z54 hz54 hS => ?_)
  refine zlOp (d := some 18) (op := (.call 33 [(.tmp 17)])) (g := none) (v := (.d (.int .i64 z54))) (ups := []) (j := 2) rfl (by kernel_rfl) (by kernel_rfl) (ev_call (args := [(.agg ((.d (.int .i64 a2.Flags)) :: ((.d (.int .i64 a2.Fore)) :: ((.d (.int .i64 a2.Back)) :: []))))]) (l := [(.agg ((.d (.int .i64 a2.Flags)) :: ((.d (.int .i64 a2.Fore)) :: ((.d (.int .i64 a2.Back)) :: []))))]) (r := (.d (.int .i64 z54))) (by kernel_rfl) (by kernel_rfl) (f33_ok base (d - 1) (dpt hd rfl) a2 z54 hz54) (by kernel_rfl) (by kernel_rfl) (by kernel_rfl)) ?_
  refine zlRun (n := 1) (j := 3) rfl (by kernel_rfl) ?_
  refine zlEnd (by kernel_rfl) ?_
  refine zkSeq ?_
  refine zrSeq ?_
  refine zrReg ?_
  refine zlRun (n := 1) (j := 1) rfl (by kernel_rfl) ?_
  refine zlBool (d := 20) (op := (.cmpI .neq (.tmp 19) (.const (.int .i64 0)))) (g := none) (j := 2) (!decide (z54 = 0)) rfl (by kernel_rfl) (by kernel_rfl) (by kernel_rfl) (fun hc => ?_) (fun hc => ?_)
  · replace hS := cond_t hc hS
    refine zlEnd (by kernel_rfl) ?_
    refine zkSeq ?_
    refine zrCondT (by kernel_rfl) ?_
    refine zrSeq ?_
    refine zrReg ?_
    refine zlRun (n := 3) (j := 3) rfl (by kernel_rfl) ?_
    refine zlEnd (by kernel_rfl) ?_
    refine zkSeq ?_
    refine zrRet ?_
    refine zkBlkR ?_
    refine zkSeqR ?_
    refine zkSeqR ?_
    refine zkBlkR ?_
    refine zkSeqR ?_
    refine zkNil ?_
    exact endQ hS hQ (fRet ((congrArg (fun s => outR s 0 c29.res) (by kernel_rfl : finSt c29.fin _ = f29_fin [] z54)).trans (f29_out [] z54)))
  · replace hS := cond_f hc hS
    refine zlEnd (by kernel_rfl) ?_
    refine zkSeq ?_
    refine zrCondF (by kernel_rfl) ?_
    refine zrSkip ?_
    refine zkBlk ?_
    refine zkSeq ?_
    refine zrReg ?_
    refine zlRun (n := 2) (j := 2) rfl (by kernel_rfl) ?_
    refine zlEnd (by kernel_rfl) ?_
    refine zkSeq ?_
    refine zrLoop1 ?_
    refine zrSeq ?_
    refine zrReg ?_
    refine zlRun (n := 1) (j := 1) rfl (by kernel_rfl) ?_
    refine zlEnd (by kernel_rfl) ?_
    refine zkSeq ?_
    refine zrSeq ?_
    refine zrCondF (by kernel_rfl) ?_
    refine zrExit ?_
    refine zkSeqX ?_
    refine zkSeqX ?_
    refine zkBlkX ?_
    refine zkSeq ?_
    exact f29_j0_ok hd a1 a2 hQ  hS (by kernel_rfl)
def f29_j8_J (a1 : GPen) (a2 : GPen) : St := ⟨(up (up (up (up (fun _ => .un) 14 (.d (.int .i64 0))) 13 (.agg ((.d (.int .i64 a1.Flags)) :: ((.d (.int .i64 a1.Fore)) :: ((.d (.int .i64 a1.Back)) :: ((.d (.int .i64 a2.Flags)) :: ((.d (.int .i64 a2.Fore)) :: ((.d (.int .i64 a2.Back)) :: [])))))))) 3 (.r (.ptr 32 0 0))) 2 (.r (.ptr 24 0 0))), (up (up (hB fun _ => 0) 32 ⟨0, some (.box ((.d (.int .i64 a2.Flags)) :: ((.d (.int .i64 a2.Fore)) :: ((.d (.int .i64 a2.Back)) :: []))))⟩) 24 ⟨0, some (.box ((.d (.int .i64 a1.Flags)) :: ((.d (.int .i64 a1.Fore)) :: ((.d (.int .i64 a1.Back)) :: []))))⟩)⟩
noncomputable def f29_j8 (a1 : GPen) (a2 : GPen) : Option ((List Int) × Int) := ((f33 a1).bind fun z52 => (bif (!decide (z52 = 0)) then (some ([], z52)) else (f29_j9 a1 a2 )))
theorem f29_j8_ok {base : Orc} {d : Nat} (hd : 3 ≤ d) (a1 : GPen) (a2 : GPen) {r : (List Int) × Int} {Q : PX → St → Prop} (hQ : ∀ e st', f29_Q r e st' → Q e st')  (hS : f29_j8 a1 a2 = some r) {st : St} (he : keepSt [2, 3, 13, 14] [(24, .id 24), (32, .id 32)] [] st = f29_j8_J a1 a2) : ZR (lev codes base (d - 1)) Q c29_9 [.seq c29_10, .blk 0, .seq c29_8] st := by
  refine zrKeep he ?_
  unfold f29_j8 at hS
  refine zrSeq ?_
  refine zrBlk ?_
  refine zrSeq ?_
  refine zrReg ?_
  refine zlRun (n := 3) (j := 3) rfl (by kernel_rfl) ?_
  refine zlEnd (by kernel_rfl) ?_
  refine zkSeq ?_
  refine zrSeq ?_
  refine zrReg ?_
  refine zlRun (n := 1) (j := 1) rfl (by kernel_rfl) ?_
  refine bindE hS (fun z52 hz52 hS => ?_)
  refine zlOp (d := some 18) (op := (.call 33 [(.tmp 17)])) (g := none) (v := (.d (.int .i64 z52))) (ups := []) (j := 2) rfl (by kernel_rfl) (by kernel_rfl) (ev_call (args := [(.agg ((.d (.int .i64 a1.Flags)) :: ((.d (.int .i64 a1.Fore)) :: ((.d (.int .i64 a1.Back)) :: []))))]) (l := [(.agg ((.d (.int .i64 a1.Flags)) :: ((.d (.int .i64 a1.Fore)) :: ((.d (.int .i64 a1.Back)) :: []))))]) (r := (.d (.int .i64 z52))) (by kernel_rfl) (by kernel_rfl) (f33_ok base (d - 1) (dpt hd rfl) a1 z52 hz52) (by kernel_rfl) (by kernel_rfl) (by kernel_rfl)) ?_
  refine zlRun (n := 1) (j := 3) rfl (by kernel_rfl) ?_
  refine zlEnd (by kernel_rfl) ?_
  refine zkSeq ?_
  refine zrSeq ?_
  refine zrReg ?_
  refine zlRun (n := 1) (j := 1) rfl (by kernel_rfl) ?_
  refine zlBool (d := 20) (op := (.cmpI .neq (.tmp 19) (.const (.int .i64 0)))) (g := none) (j := 2) (!decide (z52 = 0)) rfl (by kernel_rfl) (by kernel_rfl) (by kernel_rfl) (fun hc => ?_) (fun hc => ?_)
  · replace hS := cond_t hc hS
    refine zlEnd (by kernel_rfl) ?_
    refine zkSeq ?_
    refine zrCondT (by kernel_rfl) ?_
    refine zrSeq ?_
    refine zrReg ?_
    refine zlRun (n := 3) (j := 3) rfl (by kernel_rfl) ?_
    refine zlEnd (by kernel_rfl) ?_
    refine zkSeq ?_
    refine zrRet ?_
    refine zkBlkR ?_
    refine zkSeqR ?_
    refine zkSeqR ?_
    refine zkBlkR ?_
    refine zkSeqR ?_
    refine zkNil ?_
    exact endQ hS hQ (fRet ((congrArg (fun s => outR s 0 c29.res) (by kernel_rfl : finSt c29.fin _ = f29_fin [] z52)).trans (f29_out [] z52)))
  · replace hS := cond_f hc hS
    refine zlEnd (by kernel_rfl) ?_
    refine zkSeq ?_
    refine zrCondF (by kernel_rfl) ?_
    refine zrSkip ?_
    refine zkBlk ?_
    refine zkSeq ?_
    refine zrReg ?_
    refine zlRun (n := 2) (j := 2) rfl (by kernel_rfl) ?_
    refine zlEnd (by kernel_rfl) ?_
    refine zkSeq ?_
    refine zrLoop1 ?_
    refine zrSeq ?_
    refine zrReg ?_
    refine zlRun (n := 1) (j := 1) rfl (by kernel_rfl) ?_
    refine zlEnd (by kernel_rfl) ?_
    refine zkSeq ?_
    refine zrSeq ?_
    refine zrCondT (by kernel_rfl) ?_
    refine zrSkip ?_
    refine zkSeq ?_
    exact f29_j9_ok hd a1 a2 hQ  hS (by kernel_rfl)
noncomputable def f29 (a1 : GPen) (a2 : GPen) : Option ((List Int) × Int) := (f29_j8 a1 a2 )
theorem f29_ok (base : Orc) (d : Nat) (hd : 3 ≤ d) (a1 : GPen) (a2 : GPen) (r : (List Int) × Int) (hS : f29 a1 a2 = some r) : lev codes base d 29 [(.agg ((.d (.int .i64 a1.Flags)) :: ((.d (.int .i64 a1.Fore)) :: ((.d (.int .i64 a1.Back)) :: [])))), (.agg ((.d (.int .i64 a2.Flags)) :: ((.d (.int .i64 a2.Fore)) :: ((.d (.int .i64 a2.Back)) :: []))))] [] = some ((.tup [(.r (.own 0 3 1 r.1.length ((eInt .i64).cells r.1))), (.d (.int .i64 r.2))]), []) := by
  refine lev_go codes29 rfl rfl (Nat.le_trans (Nat.le_of_ble_eq_true rfl) hd) fun Q hQ => ?_
  unfold f29 at hS
  show ZR _ Q c29_b [] _
  replace hQ : ∀ e st', f29_Q r e st' → Q e st' := hQ
  refine zrSeq ?_
  refine zrReg ?_
  refine zlRun (n := 4) (j := 4) rfl (by kernel_rfl) ?_
  refine zlEnd (by kernel_rfl) ?_
  refine zkSeq ?_
  refine zrSeq ?_
  refine zrSeq ?_
  refine zrReg ?_
  refine zlRun (n := 4) (j := 4) rfl (by kernel_rfl) ?_
  refine zlEnd (by kernel_rfl) ?_
  refine zkSeq ?_
  refine zrBlk ?_
  refine zrLoop1 ?_
  refine zrSeq ?_
  refine zrReg ?_
  refine zlRun (n := 1) (j := 1) rfl (by kernel_rfl) ?_
  refine zlEnd (by kernel_rfl) ?_
  refine zkSeq ?_
  refine zrSeq ?_
  refine zrCondT (by kernel_rfl) ?_
  refine zrSkip ?_
  refine zkSeq ?_
  exact f29_j8_ok hd a1 a2 hQ  hS (by kernel_rfl)
end Go.Proofs.Ytphbfciikjkkfaa.Pm
