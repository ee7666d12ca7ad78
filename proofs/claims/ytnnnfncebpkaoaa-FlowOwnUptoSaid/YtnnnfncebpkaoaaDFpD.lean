/- Typed functions, and that the codes are these. Printed by dec.py. -/
import Derived.Test.YtnnnfncebpkaoaaDFpC
namespace Go.Proofs.Ytnnnfncebpkaoaa.Pm
set_option maxRecDepth 1000000
set_option maxHeartbeats 20000000
set_option linter.unusedVariables false
/- slices.Clone[[]int,int] -/
def f9_fin (p1 : List Int) : St := ⟨(up (fun _ => .un) 2 (.r (.msl 97 0 0 p1.length))), (up (hB fun _ => 0) 97 ⟨0, some (.own 3 1 ((eInt .i64).cells p1))⟩)⟩
theorem f9_out (p1 : List Int) : outR (f9_fin p1) 0 c9.res = some ((.r (.own 0 3 1 p1.length ((eInt .i64).cells p1))), []) := by
  exact out_of (ids := []) (ids' := [97]) (l := [(.r (.msl 97 0 0 p1.length))]) (by kernel_rfl) (by kernel_rfl) (o_own (eInt .i64) (e := 3) (k := 1) (xs := p1) (by kernel_rfl) rfl rfl rfl rfl)
def f9_Q (r : List Int) (e : PX) (st : St) : Prop := DoneF c9 0 ((.r (.own 0 3 1 r.length ((eInt .i64).cells r))), []) e st
noncomputable def f9 (a1 : List Int) : Option (List Int) := ((app? 8 ([] : List Int) a1).bind fun z2 => (some z2))
theorem f9_ok (base : Orc) (d : Nat) (hd : 1 ≤ d) (a1 : List Int) (r : List Int) (hS : f9 a1 = some r) : lev codes base d 9 [(.d (.sl a1.length ((eInt .i64).cells a1)))] [] = some ((.r (.own 0 3 1 r.length ((eInt .i64).cells r))), []) := by
  refine lev_goZ codes9 rfl rfl (Nat.le_trans (Nat.le_of_ble_eq_true rfl) hd) (fun Q hQ => ?_) (fun h0 Q hQ => ?_)
  · unfold f9 at hS
    show ZR _ Q c9_b [] _
    refine zrSeq ?_
    refine zrReg ?_
    refine zlRun (n := 1) (j := 1) rfl (by kernel_rfl) ?_
    refine zlEnd (by kernel_rfl) ?_
    refine zkSeq ?_
    refine zrSeq ?_
    refine zrSeq ?_
    refine zrReg ?_
    refine zlRun (n := 2) (j := 2) rfl (by kernel_rfl) ?_
    refine zlEnd (by kernel_rfl) ?_
    refine zkSeq ?_
    refine zrCondF (by kernel_rfl) ?_
    refine zrSkip ?_
    refine zkSeq ?_
    refine zrSeq ?_
    refine zrReg ?_
    refine zlRun (n := 2) (j := 2) rfl (by kernel_rfl) ?_
    refine bindE hS (fun z2 hz2 hS => ?_)
    refine zlOp (d := some 7) (op := (.app 3 1 8 (.tmp 5) (.tmp 6))) (g := none) (v := (.r (.msl 48 2 0 z2.length))) (ups := [(48, ⟨2, some (.own 3 1 ((eInt .i64).cells z2))⟩)]) (j := 3) rfl (by kernel_rfl) (by kernel_rfl) (ev_app (eInt .i64) (b := 48) (g := 1) (n := ([] : List Int).length) (xs := []) (ys := a1) ((congrArg (asL _) (by kernel_rfl : ρof _ (.tmp 6) = (.slz false a1.length ((eInt .i64).cells a1)))).trans rfl) rfl (by kernel_rfl) rfl (by kernel_rfl) rfl hz2) ?_
    refine zlRun (n := 1) (j := 4) rfl (by kernel_rfl) ?_
    refine zlEnd (by kernel_rfl) ?_
    refine zkSeq ?_
    refine zrRet ?_
    refine zkNil ?_
    exact endQ (F := f9_Q) hS hQ (fRet (by kernel_rfl) ((congrArg (fun s => outR s 0 c9.res) (by kernel_rfl : finSt c9.fin _ = f9_fin z2)).trans (f9_out z2)))
  · have hS : (some []) = some r := by
      have hl := List.eq_nil_of_length_eq_zero h0
      subst hl
      simpa [f9, app?] using hS
    show ZR _ Q c9_b [] _
    refine zrSeq ?_
    refine zrReg ?_
    refine zlRun (n := 1) (j := 1) rfl (by kernel_rfl) ?_
    refine zlEnd (by kernel_rfl) ?_
    refine zkSeq ?_
    refine zrSeq ?_
    refine zrSeq ?_
    refine zrReg ?_
    refine zlRun (n := 2) (j := 2) rfl (by kernel_rfl) ?_
    refine zlEnd (by kernel_rfl) ?_
    refine zkSeq ?_
    refine zrCondT (by kernel_rfl) ?_
    refine zrSeq ?_
    refine zrReg ?_
    refine zlRun (n := 1) (j := 1) rfl (by kernel_rfl) ?_
    refine zlEnd (by kernel_rfl) ?_
    refine zkSeq ?_
    refine zrRet ?_
    refine zkSeqR ?_
    refine zkNil ?_
    exact endQ (F := f9_Q) hS hQ (fRet (by kernel_rfl) ((congrArg (fun s => outR s 0 c9.res) (by kernel_rfl : finSt c9.fin _ = f9_fin [])).trans (f9_out [])))
/- farwriter/width.in -/
def f22_fin (p27 : Bool) : St := ⟨(up (fun _ => .un) 4 (.d (.bool p27))), (hB fun _ => 0)⟩
theorem f22_out (p27 : Bool) : outR (f22_fin p27) 0 c22.res = some ((.d (.bool p27)), []) := by
  kernel_rfl
def f22_Q (r : Bool) (e : PX) (st : St) : Prop := DoneF c22 0 ((.d (.bool r)), []) e st
def f22_l0_J (a1 : Int) (a2 : List (Int × Int)) (x : Int) : St := ⟨(up (up (up (up (fun _ => .un) 9 (.d (.int .i64 x))) 8 (.d (.int .i64 (a2.length : Int)))) 7 (.d (.sl a2.length (e_A50.cells a2)))) 0 (.d (.int .i64 a1))), (hB fun _ => 0)⟩
def f22_l0_H (a1 : Int) (a2 : List (Int × Int)) (x : Int) (st : St) : Prop := keepSt [0, 7, 8, 9] [] [] st = f22_l0_J a1 a2 x
def f22_l0_e0_J (a1 : Int) (a2 : List (Int × Int)) : St := ⟨(fun _ => .un), (hB fun _ => 0)⟩
def f22_l0_X (a1 : Int) (a2 : List (Int × Int)) (z : Unit ⊕ Bool) (e : PX) (st : St) : Prop := (match z with | .inl z => e = .exit 0 ∧ st = f22_l0_e0_J a1 a2 | .inr z => e = .ret ∧ finSt c22.fin st = f22_fin z)
def f22_l0_j2_J (a1 : Int) (a2 : List (Int × Int)) (p32 : Int) : St := ⟨(up (up (up (up (fun _ => .un) 9 (.d (.int .i64 p32))) 8 (.d (.int .i64 (a2.length : Int)))) 7 (.d (.sl a2.length (e_A50.cells a2)))) 0 (.d (.int .i64 a1))), (hB fun _ => 0)⟩
noncomputable def f22_l0_j2 (a1 : Int) (a2 : List (Int × Int)) (p32 : Int) : Option (Int ⊕ (Unit ⊕ Bool)) := ((idx a2 p32).bind fun z4 => (bif (decide (z4.1 ≤ a1)) then (bif (decide (a1 ≤ z4.2)) then (some (.inr (.inr true))) else (some (.inl (IntKind.i64.wrap (p32 + 1))))) else (some (.inl (IntKind.i64.wrap (p32 + 1))))))
theorem f22_l0_j2_ok {base : Orc} {d : Nat} (hd : 1 ≤ d) (a1 : Int) (a2 : List (Int × Int)) {r : Int ⊕ (Unit ⊕ Bool)} {Q : PX → St → Prop} (hQ : ∀ e st', finL (f22_l0_H a1 a2) (f22_l0_X a1 a2) r e st' → Q e st') (p32 : Int) (hS : f22_l0_j2 a1 a2 p32 = some r) {st : St} (he : keepSt [0, 7, 8, 9] [] [] st = f22_l0_j2_J a1 a2 p32) : ZR (lev codes base (d - 1)) Q c22_1 [] st := by
  refine zrKeep he ?_
  unfold f22_l0_j2 at hS
  refine zrSeq ?_
  refine zrBlk ?_
  refine zrSeq ?_
  refine zrReg ?_
  refine bindE hS (fun z4 hz4 hS => ?_)
  refine zlOp (d := some 11) (op := (.ixS 50 2 (.tmp 7) (.tmp 9))) (g := none) (v := (.rptr (e_A50.enc z4 ++ (e_A50.cells (a2.drop ((p32 : Int).toNat + 1)))))) (ups := []) (j := 1) rfl (by kernel_rfl) (by kernel_rfl) (ev_ixS e_A50 (kk := .i64) (xs := a2) (j := p32) (by kernel_rfl) (by kernel_rfl) hz4 rfl (by intro h; cases h)) ?_
  refine zlRun (n := 3) (j := 4) rfl (by kernel_rfl) ?_
  refine zlEnd (by kernel_rfl) ?_
  refine zkSeq ?_
  refine zrSeq ?_
  refine zrReg ?_
  refine zlRun (n := 3) (j := 3) rfl (by kernel_rfl) ?_
  refine zlBool (d := 16) (op := (.cmpI .geq (.tmp 13) (.tmp 15))) (g := none) (j := 4) (decide (z4.1 ≤ a1)) rfl (by kernel_rfl) (by kernel_rfl) (by kernel_rfl) (fun hc => ?_) (fun hc => ?_)
  · replace hS := cond_t hc hS
    refine zlRun (n := 4) (j := 8) rfl (by kernel_rfl) ?_
    refine zlBool (d := 21) (op := (.cmpI .leq (.tmp 18) (.tmp 20))) (g := (some (17, true))) (j := 9) (decide (a1 ≤ z4.2)) rfl (by kernel_rfl) (by kernel_rfl) (by kernel_rfl) (fun hc => ?_) (fun hc => ?_)
    · replace hS := cond_t hc hS
      refine zlRun (n := 1) (j := 10) rfl (by kernel_rfl) ?_
      refine zlEnd (by kernel_rfl) ?_
      refine zkSeq ?_
      refine zrCondT (by kernel_rfl) ?_
      refine zrSeq ?_
      refine zrReg ?_
      refine zlRun (n := 1) (j := 1) rfl (by kernel_rfl) ?_
      refine zlEnd (by kernel_rfl) ?_
      refine zkSeq ?_
      refine zrRet ?_
      refine zkBlkR ?_
      refine zkSeqR ?_
      refine zkNil ?_
      exact endQ hS hQ (finL_x (by intro h; cases h) (by show _ = _ ∧ _ = _; exact ⟨rfl, by kernel_rfl⟩))
    · replace hS := cond_f hc hS
      refine zlRun (n := 1) (j := 10) rfl (by kernel_rfl) ?_
      refine zlEnd (by kernel_rfl) ?_
      refine zkSeq ?_
      refine zrCondF (by kernel_rfl) ?_
      refine zrSkip ?_
      refine zkBlk ?_
      refine zkSeq ?_
      refine zrReg ?_
      refine zlRun (n := 2) (j := 2) rfl (by kernel_rfl) ?_
      refine zlEnd (by kernel_rfl) ?_
      refine zkNil ?_
      exact endQ hS hQ (finL_n (by show keepSt _ _ _ _ = _; kernel_rfl))
  · replace hS := cond_f hc hS
    refine zlRun (n := 6) (j := 10) rfl (by kernel_rfl) ?_
    refine zlEnd (by kernel_rfl) ?_
    refine zkSeq ?_
    refine zrCondF (by kernel_rfl) ?_
    refine zrSkip ?_
    refine zkBlk ?_
    refine zkSeq ?_
    refine zrReg ?_
    refine zlRun (n := 2) (j := 2) rfl (by kernel_rfl) ?_
    refine zlEnd (by kernel_rfl) ?_
    refine zkNil ?_
    exact endQ hS hQ (finL_n (by show keepSt _ _ _ _ = _; kernel_rfl))
def f22_l0_j1_J (a1 : Int) (a2 : List (Int × Int)) (p30 : Int) (p31 : Bool) : St := ⟨(up (up (up (up (up (fun _ => .un) 10 (.d (.bool p31))) 9 (.d (.int .i64 p30))) 8 (.d (.int .i64 (a2.length : Int)))) 7 (.d (.sl a2.length (e_A50.cells a2)))) 0 (.d (.int .i64 a1))), (hB fun _ => 0)⟩
noncomputable def f22_l0_j1 (a1 : Int) (a2 : List (Int × Int)) (p30 : Int) (p31 : Bool) : Option (Int ⊕ (Unit ⊕ Bool)) := (bif p31 then (f22_l0_j2 a1 a2 p30) else (some (.inr (.inl ()))))
theorem f22_l0_j1_ok {base : Orc} {d : Nat} (hd : 1 ≤ d) (a1 : Int) (a2 : List (Int × Int)) {r : Int ⊕ (Unit ⊕ Bool)} {Q : PX → St → Prop} (hQ : ∀ e st', finL (f22_l0_H a1 a2) (f22_l0_X a1 a2) r e st' → Q e st') (p30 : Int) (p31 : Bool) (hS : f22_l0_j1 a1 a2 p30 p31 = some r) {st : St} (he : keepSt [0, 7, 8, 9, 10] [] [] st = f22_l0_j1_J a1 a2 p30 p31) : ZR (lev codes base (d - 1)) Q c22_2 [] st := by
  refine zrKeep he ?_
  unfold f22_l0_j1 at hS
  refine zrSeq ?_
  refine zrSplit 10 p31 (by kernel_rfl) (fun hc => ?_) (fun hc => ?_)
  · replace hS := cond_t hc hS
    refine zrCondT (by kernel_rfl) ?_
    refine zrSkip ?_
    refine zkSeq ?_
    exact f22_l0_j2_ok hd a1 a2 hQ p30 hS (by kernel_rfl)
  · replace hS := cond_f hc hS
    refine zrCondF (by kernel_rfl) ?_
    refine zrKeep (J := f22_l0_e0_J a1 a2) (by kernel_rfl) ?_
    refine zrExit ?_
    refine zkSeqX ?_
    refine zkNil ?_
    exact endQ hS hQ (finL_x (by intro h; cases h) (by show _ = _ ∧ _ = _; exact ⟨rfl, rfl⟩))
noncomputable def f22_l0 (a1 : Int) (a2 : List (Int × Int)) (x : Int) : Option (Int ⊕ (Unit ⊕ Bool)) := (bif (decide (x < (a2.length : Int))) then (f22_l0_j1 a1 a2 x true) else (f22_l0_j1 a1 a2 x false))
theorem f22_l0_ok {base : Orc} {d : Nat} (hd : 1 ≤ d) (a1 : Int) (a2 : List (Int × Int)) {r : Int ⊕ (Unit ⊕ Bool)} {Q : PX → St → Prop} (hQ : ∀ e st', finL (f22_l0_H a1 a2) (f22_l0_X a1 a2) r e st' → Q e st') {x : Int} (hS : f22_l0 a1 a2 x = some r) {st : St} (he : f22_l0_H a1 a2 x st) : ZR (lev codes base (d - 1)) Q c22_3 [] st := by
  refine zrKeep he ?_
  unfold f22_l0 at hS
  refine zrSeq ?_
  refine zrReg ?_
  refine zlBool (d := 10) (op := (.cmpI .lss (.tmp 9) (.tmp 8))) (g := none) (j := 1) (decide (x < (a2.length : Int))) rfl (by kernel_rfl) (by kernel_rfl) (by kernel_rfl) (fun hc => ?_) (fun hc => ?_)
  · replace hS := cond_t hc hS
    refine zlEnd (by kernel_rfl) ?_
    refine zkSeq ?_
    exact f22_l0_j1_ok hd a1 a2 hQ x true hS (by kernel_rfl)
  · replace hS := cond_f hc hS
    refine zlEnd (by kernel_rfl) ?_
    refine zkSeq ?_
    exact f22_l0_j1_ok hd a1 a2 hQ x false hS (by kernel_rfl)
noncomputable def f22 (a1 : Int) (a2 : List (Int × Int)) : Option (Bool) := ((loopO (f22_l0 a1 a2) 0).bind fun z5 => (Sum.elim (fun z6 => (some false)) (fun z7 => (some z7)) z5))
theorem f22_ok (base : Orc) (d : Nat) (hd : 1 ≤ d) (a1 : Int) (a2 : List (Int × Int)) (r : Bool) (hS : f22 a1 a2 = some r) : lev codes base d 22 [(.d (.int .i64 a1)), (.d (.sl a2.length (e_A50.cells a2)))] [] = some ((.d (.bool r)), []) := by
  refine lev_go codes22 rfl rfl (Nat.le_trans (Nat.le_of_ble_eq_true rfl) hd) fun Q hQ => ?_
  unfold f22 at hS
  show ZR _ Q c22_b [] _
  replace hQ : ∀ e st', f22_Q r e st' → Q e st' := hQ
  refine zrSeq ?_
  refine zrReg ?_
  refine zlRun (n := 1) (j := 1) rfl (by kernel_rfl) ?_
  refine zlEnd (by kernel_rfl) ?_
  refine zkSeq ?_
  refine zrSeq ?_
  refine zrSeq ?_
  refine zrReg ?_
  refine zlRun (n := 3) (j := 3) rfl (by kernel_rfl) ?_
  refine zlEnd (by kernel_rfl) ?_
  refine zkSeq ?_
  refine zrBlk ?_
  refine bindE hS (fun z5 hz5 hS => ?_)
  refine zrLoop (f22_l0_H a1 a2) (f22_l0_X a1 a2) (fun x st r Q h0 hS hQ => f22_l0_ok hd a1 a2 hQ hS h0) (x := 0) (z := z5) (by show keepSt _ _ _ _ = _; kernel_rfl) hz5 ?_
  rcases z5 with z6 | z7
  · replace hS := (show _ = _ from hS)
    simp only [Sum.elim_inl] at hS
    intro e st' _ hX
    obtain ⟨rfl, rfl⟩ : _ ∧ _ := hX
    refine zkBlkX ?_
    refine zkSeq ?_
    refine zrSeq ?_
    refine zrReg ?_
    refine zlRun (n := 1) (j := 1) rfl (by kernel_rfl) ?_
    refine zlEnd (by kernel_rfl) ?_
    refine zkSeq ?_
    refine zrRet ?_
    refine zkNil ?_
    exact endQ hS hQ (fRet (by kernel_rfl) ((congrArg (fun s => outR s 0 c22.res) (by kernel_rfl : finSt c22.fin _ = f22_fin false)).trans (f22_out false)))
  · simp only [Sum.elim_inr] at hS
    intro e st' _ hX
    obtain ⟨rfl, hX⟩ : _ ∧ _ := hX
    refine zkBlkR ?_
    refine zkSeqR ?_
    refine zkNil ?_
    exact endQ hS hQ (fRet (by kernel_rfl) ((congrArg (fun s => outR s 0 c22.res) hX).trans (f22_out z7)))
/- farwriter/width.Of -/
def f21_fin (p2 : Int) : St := ⟨(up (fun _ => .un) 2 (.d (.int .i64 p2))), (hB fun _ => 0)⟩
theorem f21_out (p2 : Int) : outR (f21_fin p2) 0 c21.res = some ((.d (.int .i64 p2)), []) := by
  kernel_rfl
def f21_Q (r : Int) (e : PX) (st : St) : Prop := DoneF c21 0 ((.d (.int .i64 r)), []) e st
def f21_j0_J (a1 : Int) (p4 : Bool) : St := ⟨(up (up (up (fun _ => .un) 25 (.d (.bool p4))) 4 (.r (.ptr 40 0 0))) 0 (.d (.int .i64 a1))), (up (hB fun _ => 0) 40 ⟨0, some (.box ((e_A50.row 12 (fun i => ([(4352, 4447), (11904, 12350), (12353, 19903), (19968, 42191), (44032, 55203), (63744, 64255), (65072, 65135), (65280, 65376), (65504, 65510), (127744, 128591), (129280, 129535), (131072, 262141)] : List (Int × Int)).getD i (0, 0))) ++ []))⟩)⟩
noncomputable def f21_j0 (a1 : Int) (p4 : Bool) : Option (Int) := (bif p4 then (some 0) else ((f22 a1 [(4352, 4447), (11904, 12350), (12353, 19903), (19968, 42191), (44032, 55203), (63744, 64255), (65072, 65135), (65280, 65376), (65504, 65510), (127744, 128591), (129280, 129535), (131072, 262141)]).bind fun z4 => (bif z4 then (some 2) else (some 1))))
theorem f21_j0_ok {base : Orc} {d : Nat} (hd : 2 ≤ d) (a1 : Int) {r : Int} {Q : PX → St → Prop} (hQ : ∀ e st', f21_Q r e st' → Q e st') (p4 : Bool) (hS : f21_j0 a1 p4 = some r) {st : St} (he : keepSt [0, 4, 25] [(40, .id 40)] [] st = f21_j0_J a1 p4) : ZR (lev codes base (d - 1)) Q c21_1 [.blk 0, .seq c21_2] st := by
  refine zrKeep he ?_
  unfold f21_j0 at hS
  refine zrSplit 25 p4 (by kernel_rfl) (fun hc => ?_) (fun hc => ?_)
  · replace hS := cond_t hc hS
    refine zrCondT (by kernel_rfl) ?_
    refine zrSeq ?_
    refine zrReg ?_
    refine zlRun (n := 1) (j := 1) rfl (by kernel_rfl) ?_
    refine zlEnd (by kernel_rfl) ?_
    refine zkSeq ?_
    refine zrRet ?_
    refine zkBlkR ?_
    refine zkSeqR ?_
    refine zkNil ?_
    exact endQ hS hQ (fRet (by kernel_rfl) ((congrArg (fun s => outR s 0 c21.res) (by kernel_rfl : finSt c21.fin _ = f21_fin 0)).trans (f21_out 0)))
  · replace hS := cond_f hc hS
    refine zrCondF (by kernel_rfl) ?_
    refine zrSeq ?_
    refine zrReg ?_
    refine zlRun (n := 2) (j := 2) rfl (by kernel_rfl) ?_
    refine bindE hS (fun z4 hz4 hS => ?_)
    refine zlOp (d := some 40) (op := (.call 22 [(.tmp 38), (.tmp 39)])) (g := none) (j := 3) rfl (by kernel_rfl) (by kernel_rfl) (ev_callA (by kernel_rfl) (f22_ok base (d - 1) (dpt hd rfl) a1 [(4352, 4447), (11904, 12350), (12353, 19903), (19968, 42191), (44032, 55203), (63744, 64255), (65072, 65135), (65280, 65376), (65504, 65510), (127744, 128591), (129280, 129535), (131072, 262141)] z4 hz4) (by kernel_rfl) (by kernel_rfl)) ?_
    refine zlRun (n := 1) (j := 4) rfl (by kernel_rfl) ?_
    refine zlEnd (by kernel_rfl) ?_
    refine zkSeq ?_
    refine zrSplit 37 z4 (by kernel_rfl) (fun hc => ?_) (fun hc => ?_)
    · replace hS := cond_t hc hS
      refine zrCondT (by kernel_rfl) ?_
      refine zrSeq ?_
      refine zrReg ?_
      refine zlRun (n := 1) (j := 1) rfl (by kernel_rfl) ?_
      refine zlEnd (by kernel_rfl) ?_
      refine zkSeq ?_
      refine zrRet ?_
      refine zkBlkR ?_
      refine zkSeqR ?_
      refine zkNil ?_
      exact endQ hS hQ (fRet (by kernel_rfl) ((congrArg (fun s => outR s 0 c21.res) (by kernel_rfl : finSt c21.fin _ = f21_fin 2)).trans (f21_out 2)))
    · replace hS := cond_f hc hS
      refine zrCondF (by kernel_rfl) ?_
      refine zrSkip ?_
      refine zkBlk ?_
      refine zkSeq ?_
      refine zrSeq ?_
      refine zrReg ?_
      refine zlRun (n := 1) (j := 1) rfl (by kernel_rfl) ?_
      refine zlEnd (by kernel_rfl) ?_
      refine zkSeq ?_
      refine zrRet ?_
      refine zkNil ?_
      exact endQ hS hQ (fRet (by kernel_rfl) ((congrArg (fun s => outR s 0 c21.res) (by kernel_rfl : finSt c21.fin _ = f21_fin 1)).trans (f21_out 1)))
noncomputable def f21 (a1 : Int) : Option (Int) := (bif (decide (a1 < 0)) then (f21_j0 a1 true) else (bif (decide (1114111 < a1)) then (f21_j0 a1 true) else ((f22 a1 [(0, 31), (127, 159), (768, 879), (8203, 8207), (55296, 57343), (65024, 65039)]).bind fun z5 => (f21_j0 a1 z5))))
theorem f21_ok (base : Orc) (d : Nat) (hd : 2 ≤ d) (a1 : Int) (r : Int) (hS : f21 a1 = some r) : lev codes base d 21 [(.d (.int .i64 a1))] [] = some ((.d (.int .i64 r)), []) := by
  refine lev_go codes21 rfl rfl (Nat.le_trans (Nat.le_of_ble_eq_true rfl) hd) fun Q hQ => ?_
  unfold f21 at hS
  show ZR _ Q c21_b [] _
  replace hQ : ∀ e st', f21_Q r e st' → Q e st' := hQ
  refine zrSeq ?_
  refine zrReg ?_
  refine zlRun (n := 1) (j := 1) rfl (by kernel_rfl) ?_
  refine zlEnd (by kernel_rfl) ?_
  refine zkSeq ?_
  refine zrSeq ?_
  refine zrReg ?_
  refine zlRun (n := 9) (j := 9) rfl (by kernel_rfl) ?_
  refine zlEnd (by kernel_rfl) ?_
  refine zkSeq ?_
  refine zrSeq ?_
  refine zrReg ?_
  refine zlRun (n := 15) (j := 15) rfl (by kernel_rfl) ?_
  refine zlEnd (by kernel_rfl) ?_
  refine zkSeq ?_
  refine zrSeq ?_
  refine zrBlk ?_
  refine zrSeq ?_
  refine zrReg ?_
  refine zlRun (n := 1) (j := 1) rfl (by kernel_rfl) ?_
  refine zlBool (d := 27) (op := (.cmpI .lss (.tmp 26) (.const (.int .i64 0)))) (g := none) (j := 2) (decide (a1 < 0)) rfl (by kernel_rfl) (by kernel_rfl) (by kernel_rfl) (fun hc => ?_) (fun hc => ?_)
  · replace hS := cond_t hc hS
    refine zlRun (n := 10) (j := 12) rfl (by kernel_rfl) ?_
    refine zlEnd (by kernel_rfl) ?_
    refine zkSeq ?_
    exact f21_j0_ok hd a1 hQ true hS (by kernel_rfl)
  · replace hS := cond_f hc hS
    refine zlRun (n := 2) (j := 4) rfl (by kernel_rfl) ?_
    refine zlBool (d := 30) (op := (.cmpI .gtr (.tmp 29) (.const (.int .i64 1114111)))) (g := (some (28, false))) (j := 5) (decide (1114111 < a1)) rfl (by kernel_rfl) (by kernel_rfl) (by kernel_rfl) (fun hc => ?_) (fun hc => ?_)
    · replace hS := cond_t hc hS
      refine zlRun (n := 7) (j := 12) rfl (by kernel_rfl) ?_
      refine zlEnd (by kernel_rfl) ?_
      refine zkSeq ?_
      exact f21_j0_ok hd a1 hQ true hS (by kernel_rfl)
    · replace hS := cond_f hc hS
      refine zlRun (n := 4) (j := 9) rfl (by kernel_rfl) ?_
      refine bindE hS (fun z5 hz5 hS => ?_)
      refine zlOp (d := some 35) (op := (.call 22 [(.tmp 33), (.tmp 34)])) (g := (some (32, false))) (j := 10) rfl (by kernel_rfl) (by kernel_rfl) (ev_callA (by kernel_rfl) (f22_ok base (d - 1) (dpt hd rfl) a1 [(0, 31), (127, 159), (768, 879), (8203, 8207), (55296, 57343), (65024, 65039)] z5 hz5) (by kernel_rfl) (by kernel_rfl)) ?_
      refine zlRun (n := 2) (j := 12) rfl (by kernel_rfl) ?_
      refine zlEnd (by kernel_rfl) ?_
      refine zkSeq ?_
      exact f21_j0_ok hd a1 hQ z5 hS (by kernel_rfl)
/- farwriter/width.cut -/
def f20_fin (p25 : Int) (p26 : Int) : St := ⟨(up (up (fun _ => .un) 5 (.d (.int .i64 p26))) 4 (.d (.int .i64 p25))), (hB fun _ => 0)⟩
theorem f20_out (p25 : Int) (p26 : Int) : outR (f20_fin p25 p26) 0 c20.res = some ((.tup [(.d (.int .i64 p25)), (.d (.int .i64 p26))]), []) := by
  kernel_rfl
def f20_Q (r : Int × Int) (e : PX) (st : St) : Prop := DoneF c20 0 ((.tup [(.d (.int .i64 r.1)), (.d (.int .i64 r.2))]), []) e st
def f20_l0_J (a1 : List Int) (a2 : Int) (x : Int × Int) : St := ⟨(up (up (up (up (up (up (fun _ => .un) 11 (.d (.int .i64 x.2))) 10 (.d (.int .i64 (a1.length : Int)))) 9 (.d (.sl a1.length ((eInt .i64).cells a1)))) 6 (.d (.int .i64 x.1))) 1 (.d (.int .i64 a2))) 0 (.d (.sl a1.length ((eInt .i64).cells a1)))), (hB fun _ => 0)⟩
def f20_l0_H (a1 : List Int) (a2 : Int) (x : Int × Int) (st : St) : Prop := keepSt [0, 1, 6, 9, 10, 11] [] [] st = f20_l0_J a1 a2 x
def f20_l0_e0_J (a1 : List Int) (a2 : Int) (p24 : Int) : St := ⟨(up (up (fun _ => .un) 6 (.d (.int .i64 p24))) 0 (.d (.sl a1.length ((eInt .i64).cells a1)))), (hB fun _ => 0)⟩
def f20_l0_X (a1 : List Int) (a2 : Int) (z : Int ⊕ (Int × Int)) (e : PX) (st : St) : Prop := (match z with | .inl z => e = .exit 0 ∧ st = f20_l0_e0_J a1 a2 z | .inr z => e = .ret ∧ finSt c20.fin st = f20_fin z.1 z.2)
def f20_l0_j2_J (a1 : List Int) (a2 : Int) (p33 : Int) (p34 : Int) : St := ⟨(up (up (up (up (up (up (fun _ => .un) 11 (.d (.int .i64 p34))) 10 (.d (.int .i64 (a1.length : Int)))) 9 (.d (.sl a1.length ((eInt .i64).cells a1)))) 6 (.d (.int .i64 p33))) 1 (.d (.int .i64 a2))) 0 (.d (.sl a1.length ((eInt .i64).cells a1)))), (hB fun _ => 0)⟩
noncomputable def f20_l0_j2 (a1 : List Int) (a2 : Int) (p33 : Int) (p34 : Int) : Option ((Int × Int) ⊕ (Int ⊕ (Int × Int))) := ((idx a1 p34).bind fun z10 => ((f21 z10).bind fun z11 => (bif (decide (a2 < (IntKind.i64.wrap (p33 + z11)))) then (some (.inr (.inr (p34, p33)))) else ((f21 z10).bind fun z12 => (some (.inl ((IntKind.i64.wrap (p33 + z12)), (IntKind.i64.wrap (p34 + 1)))))))))
theorem f20_l0_j2_ok {base : Orc} {d : Nat} (hd : 3 ≤ d) (a1 : List Int) (a2 : Int) {r : (Int × Int) ⊕ (Int ⊕ (Int × Int))} {Q : PX → St → Prop} (hQ : ∀ e st', finL (f20_l0_H a1 a2) (f20_l0_X a1 a2) r e st' → Q e st') (p33 : Int) (p34 : Int) (hS : f20_l0_j2 a1 a2 p33 p34 = some r) {st : St} (he : keepSt [0, 1, 6, 9, 10, 11] [] [] st = f20_l0_j2_J a1 a2 p33 p34) : ZR (lev codes base (d - 1)) Q c20_1 [] st := by
  refine zrKeep he ?_
  unfold f20_l0_j2 at hS
  refine zrSeq ?_
  refine zrBlk ?_
  refine zrSeq ?_
  refine zrReg ?_
  refine zlRun (n := 1) (j := 1) rfl (by kernel_rfl) ?_
  refine bindE hS (fun z10 hz10 hS => ?_)
  refine zlOp (d := some 14) (op := (.ixS 3 1 (.tmp 9) (.tmp 11))) (g := none) (v := (.rptr ((eInt .i64).enc z10 ++ ((eInt .i64).cells (a1.drop ((p34 : Int).toNat + 1)))))) (ups := []) (j := 2) rfl (by kernel_rfl) (by kernel_rfl) (ev_ixS (eInt .i64) (kk := .i64) (xs := a1) (j := p34) (by kernel_rfl) (by kernel_rfl) hz10 rfl (by intro h; cases h)) ?_
  refine zlRun (n := 3) (j := 5) rfl (by kernel_rfl) ?_
  refine zlEnd (by kernel_rfl) ?_
  refine zkSeq ?_
  refine zrSeq ?_
  refine zrSeq ?_
  refine zrReg ?_
  refine zlRun (n := 2) (j := 2) rfl (by kernel_rfl) ?_
  refine bindE hS (fun z11 hz11 hS => ?_)
  refine zlOp (d := some 18) (op := (.call 21 [(.tmp 17)])) (g := none) (j := 3) rfl (by kernel_rfl) (by kernel_rfl) (ev_callA (by kernel_rfl) (f21_ok base (d - 1) (dpt hd rfl) z10 z11 hz11) (by kernel_rfl) (by kernel_rfl)) ?_
  refine zlRun (n := 2) (j := 5) rfl (by kernel_rfl) ?_
  refine zlBool (d := 21) (op := (.cmpI .gtr (.tmp 19) (.tmp 20))) (g := none) (j := 6) (decide (a2 < (IntKind.i64.wrap (p33 + z11)))) rfl (by kernel_rfl) (by kernel_rfl) (by kernel_rfl) (fun hc => ?_) (fun hc => ?_)
  · replace hS := cond_t hc hS
    refine zlEnd (by kernel_rfl) ?_
    refine zkSeq ?_
    refine zrCondT (by kernel_rfl) ?_
    refine zrSeq ?_
    refine zrReg ?_
    refine zlRun (n := 4) (j := 4) rfl (by kernel_rfl) ?_
    refine zlEnd (by kernel_rfl) ?_
    refine zkSeq ?_
    refine zrRet ?_
    refine zkSeqR ?_
    refine zkBlkR ?_
    refine zkSeqR ?_
    refine zkNil ?_
    exact endQ hS hQ (finL_x (by intro h; cases h) (by show _ = _ ∧ _ = _; exact ⟨rfl, by kernel_rfl⟩))
  · replace hS := cond_f hc hS
    refine zlEnd (by kernel_rfl) ?_
    refine zkSeq ?_
    refine zrCondF (by kernel_rfl) ?_
    refine zrSkip ?_
    refine zkSeq ?_
    refine zrReg ?_
    refine zlRun (n := 2) (j := 2) rfl (by kernel_rfl) ?_
    refine bindE hS (fun z12 hz12 hS => ?_)
    refine zlOp (d := some 26) (op := (.call 21 [(.tmp 25)])) (g := none) (j := 3) rfl (by kernel_rfl) (by kernel_rfl) (ev_callA (by kernel_rfl) (f21_ok base (d - 1) (dpt hd rfl) z10 z12 hz12) (by kernel_rfl) (by kernel_rfl)) ?_
    refine zlRun (n := 2) (j := 5) rfl (by kernel_rfl) ?_
    refine zlEnd (by kernel_rfl) ?_
    refine zkBlk ?_
    refine zkSeq ?_
    refine zrReg ?_
    refine zlRun (n := 2) (j := 2) rfl (by kernel_rfl) ?_
    refine zlEnd (by kernel_rfl) ?_
    refine zkNil ?_
    exact endQ hS hQ (finL_n (by show keepSt _ _ _ _ = _; kernel_rfl))
def f20_l0_j1_J (a1 : List Int) (a2 : Int) (p30 : Int) (p31 : Int) (p32 : Bool) : St := ⟨(up (up (up (up (up (up (up (fun _ => .un) 12 (.d (.bool p32))) 11 (.d (.int .i64 p31))) 10 (.d (.int .i64 (a1.length : Int)))) 9 (.d (.sl a1.length ((eInt .i64).cells a1)))) 6 (.d (.int .i64 p30))) 1 (.d (.int .i64 a2))) 0 (.d (.sl a1.length ((eInt .i64).cells a1)))), (hB fun _ => 0)⟩
noncomputable def f20_l0_j1 (a1 : List Int) (a2 : Int) (p30 : Int) (p31 : Int) (p32 : Bool) : Option ((Int × Int) ⊕ (Int ⊕ (Int × Int))) := (bif p32 then (f20_l0_j2 a1 a2 p30 p31) else (some (.inr (.inl p30))))
theorem f20_l0_j1_ok {base : Orc} {d : Nat} (hd : 3 ≤ d) (a1 : List Int) (a2 : Int) {r : (Int × Int) ⊕ (Int ⊕ (Int × Int))} {Q : PX → St → Prop} (hQ : ∀ e st', finL (f20_l0_H a1 a2) (f20_l0_X a1 a2) r e st' → Q e st') (p30 : Int) (p31 : Int) (p32 : Bool) (hS : f20_l0_j1 a1 a2 p30 p31 p32 = some r) {st : St} (he : keepSt [0, 1, 6, 9, 10, 11, 12] [] [] st = f20_l0_j1_J a1 a2 p30 p31 p32) : ZR (lev codes base (d - 1)) Q c20_2 [] st := by
  refine zrKeep he ?_
  unfold f20_l0_j1 at hS
  refine zrSeq ?_
  refine zrSplit 12 p32 (by kernel_rfl) (fun hc => ?_) (fun hc => ?_)
  · replace hS := cond_t hc hS
    refine zrCondT (by kernel_rfl) ?_
    refine zrSkip ?_
    refine zkSeq ?_
    exact f20_l0_j2_ok hd a1 a2 hQ p30 p31 hS (by kernel_rfl)
  · replace hS := cond_f hc hS
    refine zrCondF (by kernel_rfl) ?_
    refine zrKeep (J := f20_l0_e0_J a1 a2 p30) (by kernel_rfl) ?_
    refine zrExit ?_
    refine zkSeqX ?_
    refine zkNil ?_
    exact endQ hS hQ (finL_x (by intro h; cases h) (by show _ = _ ∧ _ = _; exact ⟨rfl, rfl⟩))
noncomputable def f20_l0 (a1 : List Int) (a2 : Int) (x : Int × Int) : Option ((Int × Int) ⊕ (Int ⊕ (Int × Int))) := (bif (decide (x.2 < (a1.length : Int))) then (f20_l0_j1 a1 a2 x.1 x.2 true) else (f20_l0_j1 a1 a2 x.1 x.2 false))
theorem f20_l0_ok {base : Orc} {d : Nat} (hd : 3 ≤ d) (a1 : List Int) (a2 : Int) {r : (Int × Int) ⊕ (Int ⊕ (Int × Int))} {Q : PX → St → Prop} (hQ : ∀ e st', finL (f20_l0_H a1 a2) (f20_l0_X a1 a2) r e st' → Q e st') {x : Int × Int} (hS : f20_l0 a1 a2 x = some r) {st : St} (he : f20_l0_H a1 a2 x st) : ZR (lev codes base (d - 1)) Q c20_3 [] st := by
  refine zrKeep he ?_
  unfold f20_l0 at hS
  refine zrSeq ?_
  refine zrReg ?_
  refine zlBool (d := 12) (op := (.cmpI .lss (.tmp 11) (.tmp 10))) (g := none) (j := 1) (decide (x.2 < (a1.length : Int))) rfl (by kernel_rfl) (by kernel_rfl) (by kernel_rfl) (fun hc => ?_) (fun hc => ?_)
  · replace hS := cond_t hc hS
    refine zlEnd (by kernel_rfl) ?_
    refine zkSeq ?_
    exact f20_l0_j1_ok hd a1 a2 hQ x.1 x.2 true hS (by kernel_rfl)
  · replace hS := cond_f hc hS
    refine zlEnd (by kernel_rfl) ?_
    refine zkSeq ?_
    exact f20_l0_j1_ok hd a1 a2 hQ x.1 x.2 false hS (by kernel_rfl)
noncomputable def f20 (a1 : List Int) (a2 : Int) : Option (Int × Int) := ((loopO (f20_l0 a1 a2) (0, 0)).bind fun z13 => (Sum.elim (fun z14 => (some ((a1.length : Int), z14))) (fun z15 => (some (z15.1, z15.2))) z13))
theorem f20_ok (base : Orc) (d : Nat) (hd : 3 ≤ d) (a1 : List Int) (a2 : Int) (r : Int × Int) (hS : f20 a1 a2 = some r) : lev codes base d 20 [(.d (.sl a1.length ((eInt .i64).cells a1))), (.d (.int .i64 a2))] [] = some ((.tup [(.d (.int .i64 r.1)), (.d (.int .i64 r.2))]), []) := by
  refine lev_go codes20 rfl rfl (Nat.le_trans (Nat.le_of_ble_eq_true rfl) hd) fun Q hQ => ?_
  unfold f20 at hS
  show ZR _ Q c20_b [] _
  replace hQ : ∀ e st', f20_Q r e st' → Q e st' := hQ
  refine zrSeq ?_
  refine zrReg ?_
  refine zlRun (n := 2) (j := 2) rfl (by kernel_rfl) ?_
  refine zlEnd (by kernel_rfl) ?_
  refine zkSeq ?_
  refine zrSeq ?_
  refine zrReg ?_
  refine zlRun (n := 1) (j := 1) rfl (by kernel_rfl) ?_
  refine zlEnd (by kernel_rfl) ?_
  refine zkSeq ?_
  refine zrSeq ?_
  refine zrSeq ?_
  refine zrReg ?_
  refine zlRun (n := 3) (j := 3) rfl (by kernel_rfl) ?_
  refine zlEnd (by kernel_rfl) ?_
  refine zkSeq ?_
  refine zrBlk ?_
  refine bindE hS (fun z13 hz13 hS => ?_)
  refine zrLoop (f20_l0_H a1 a2) (f20_l0_X a1 a2) (fun x st r Q h0 hS hQ => f20_l0_ok hd a1 a2 hQ hS h0) (x := (0, 0)) (z := z13) (by show keepSt _ _ _ _ = _; kernel_rfl) hz13 ?_
  rcases z13 with z14 | z15
  · replace hS := (show _ = _ from hS)
    simp only [Sum.elim_inl] at hS
    intro e st' _ hX
    obtain ⟨rfl, rfl⟩ : _ ∧ _ := hX
    refine zkBlkX ?_
    refine zkSeq ?_
    refine zrSeq ?_
    refine zrReg ?_
    refine zlRun (n := 5) (j := 5) rfl (by kernel_rfl) ?_
    refine zlEnd (by kernel_rfl) ?_
    refine zkSeq ?_
    refine zrRet ?_
    refine zkNil ?_
    exact endQ hS hQ (fRet (by kernel_rfl) ((congrArg (fun s => outR s 0 c20.res) (by kernel_rfl : finSt c20.fin _ = f20_fin (a1.length : Int) z14)).trans (f20_out (a1.length : Int) z14)))
  · simp only [Sum.elim_inr] at hS
    intro e st' _ hX
    obtain ⟨rfl, hX⟩ : _ ∧ _ := hX
    refine zkBlkR ?_
    refine zkSeqR ?_
    refine zkNil ?_
    exact endQ hS hQ (fRet (by kernel_rfl) ((congrArg (fun s => outR s 0 c20.res) hX).trans (f20_out z15.1 z15.2)))
/- farwriter/width.Cut -/
def f14_fin (p2 : List Int) (p3 : List Int) (p4 : Int) : St := ⟨(up (up (up (fun _ => .un) 6 (.d (.int .i64 p4))) 5 (.r (.msl 266 0 0 p3.length))) 4 (.r (.msl 265 0 0 p2.length))), (up (up (hB fun _ => 0) 266 ⟨0, some (.own 3 1 ((eInt .i64).cells p3))⟩) 265 ⟨0, some (.own 3 1 ((eInt .i64).cells p2))⟩)⟩
theorem f14_out (p2 : List Int) (p3 : List Int) (p4 : Int) : outR (f14_fin p2 p3 p4) 0 c14.res = some ((.tup [(.r (.own 0 3 1 p2.length ((eInt .i64).cells p2))), (.r (.own 1 3 1 p3.length ((eInt .i64).cells p3))), (.d (.int .i64 p4))]), []) := by
  exact out_of (ids := []) (ids' := [265, 266]) (l := [(.r (.msl 265 0 0 p2.length)), (.r (.msl 266 0 0 p3.length)), (.d (.int .i64 p4))]) (by kernel_rfl) (by kernel_rfl) (o_tup (o_cons (o_own (eInt .i64) (e := 3) (k := 1) (xs := p2) (by kernel_rfl) rfl rfl rfl rfl) (o_cons (o_own (eInt .i64) (e := 3) (k := 1) (xs := p3) (by kernel_rfl) rfl rfl rfl rfl) (o_cons rfl o_nil))))
def f14_Q (r : (List Int) × (List Int) × Int) (e : PX) (st : St) : Prop := DoneF c14 0 ((.tup [(.r (.own 0 3 1 r.1.length ((eInt .i64).cells r.1))), (.r (.own 1 3 1 r.2.1.length ((eInt .i64).cells r.2.1))), (.d (.int .i64 r.2.2))]), []) e st
def f14_j0_J (a1 : List Int) (a2 : Int) : St := ⟨(up (up (fun _ => .un) 1 (.d (.int .i64 a2))) 0 (.d (.sl a1.length ((eInt .i64).cells a1)))), (hB fun _ => 0)⟩
noncomputable def f14_j0 (a1 : List Int) (a2 : Int) : Option ((List Int) × (List Int) × Int) := ((f20 a1 a2).bind fun z6 => ((sub? a1 0 z6.1).bind fun z7 => ((app? 8 ([] : List Int) z7).bind fun z8 => ((sub? a1 z6.1 (a1.length : Int)).bind fun z9 => ((app? 8 ([] : List Int) z9).bind fun z10 => (some (z8, z10, 0)))))))
theorem f14_j0_ok {base : Orc} {d : Nat} (hd : 4 ≤ d) (a1 : List Int) (a2 : Int) {r : (List Int) × (List Int) × Int} {Q : PX → St → Prop} (hQ : ∀ e st', f14_Q r e st' → Q e st')  (hS : f14_j0 a1 a2 = some r) {st : St} (he : keepSt [0, 1] [] [] st = f14_j0_J a1 a2) : ZR (lev codes base (d - 1)) Q c14_1 [] st := by
  refine zrKeep he ?_
  unfold f14_j0 at hS
  refine zrSeq ?_
  refine zrReg ?_
  refine zlRun (n := 2) (j := 2) rfl (by kernel_rfl) ?_
  refine bindE hS (fun z6 hz6 hS => ?_)
  refine zlOp (d := some 18) (op := (.call 20 [(.tmp 16), (.tmp 17)])) (g := none) (j := 3) rfl (by kernel_rfl) (by kernel_rfl) (ev_callA (by kernel_rfl) (f20_ok base (d - 1) (dpt hd rfl) a1 a2 z6 hz6) (by kernel_rfl) (by kernel_rfl)) ?_
  refine zlRun (n := 5) (j := 8) rfl (by kernel_rfl) ?_
  refine zlEnd (by kernel_rfl) ?_
  refine zkSeq ?_
  refine zrSeq ?_
  refine zrRegD ?_
  refine zdRun (n := 2) (j := 2) (ts := [[], []]) (acc' := [[], []]) rfl (by kernel_rfl) (by kernel_rfl) (by kernel_rfl) ?_
  refine bindE hS (fun z7 hz7 hS => ?_)
  refine zdOp (d := some 23) (op := (.slS 3 1 (.tmp 21) .none (.some (.tmp 22)))) (g := none) (v := (.d (.sl z7.length ((eInt .i64).cells z7)))) (ups := []) (j := 3) (t1 := []) (acc' := [[], [], []]) (by kernel_rfl) (by kernel_rfl) rfl (by kernel_rfl) (by kernel_rfl) (ev_slS (eInt .i64) (xs := a1) (a := 0) (c := z6.1) (by kernel_rfl) rfl (bnd_n 0) (bnd_s _ (kk := .i64) (j := z6.1) (by kernel_rfl)) hz7) ?_
  refine bindE hS (fun z8 hz8 hS => ?_)
  refine zdOp (d := some 24) (op := (.app 3 1 8 (.const (.slice .none 0 0)) (.tmp 23))) (g := none) (v := (.r (.msl 200 2 0 z8.length))) (ups := [(200, ⟨2, some (.own 3 1 ((eInt .i64).cells z8))⟩)]) (j := 4) (t1 := [(200, true)]) (acc' := [[], [], [], [(200, true)]]) (by kernel_rfl) (by kernel_rfl) rfl (by kernel_rfl) (by kernel_rfl) (ev_appN (eInt .i64) (ys := z7) ((congrArg (asL _) (by kernel_rfl : ρof _ (.tmp 23) = (.d (.sl z7.length ((eInt .i64).cells z7))))).trans (as_d _ _)) rfl (by kernel_rfl) rfl hz8) ?_
  refine zdRun (n := 2) (j := 6) (ts := [[], []]) (acc' := [[], [], [], [(200, true)], [], []]) rfl (by kernel_rfl) (by kernel_rfl) (by kernel_rfl) ?_
  refine bindE hS (fun z9 hz9 hS => ?_)
  refine zdOp (d := some 27) (op := (.slS 3 1 (.tmp 25) (.some (.tmp 26)) .none)) (g := none) (v := (.d (.sl z9.length ((eInt .i64).cells z9)))) (ups := []) (j := 7) (t1 := []) (acc' := [[], [], [], [(200, true)], [], [], []]) (by kernel_rfl) (by kernel_rfl) rfl (by kernel_rfl) (by kernel_rfl) (ev_slS (eInt .i64) (xs := a1) (a := z6.1) (c := (a1.length : Int)) (by kernel_rfl) rfl (bnd_s _ (kk := .i64) (j := z6.1) (by kernel_rfl)) (bnd_n _) hz9) ?_
  refine bindE hS (fun z10 hz10 hS => ?_)
  refine zdOp (d := some 28) (op := (.app 3 1 8 (.const (.slice .none 0 0)) (.tmp 27))) (g := none) (v := (.r (.msl 232 2 0 z10.length))) (ups := [(232, ⟨2, some (.own 3 1 ((eInt .i64).cells z10))⟩)]) (j := 8) (t1 := [(232, true)]) (acc' := [[], [], [], [(200, true)], [], [], [], [(232, true)]]) (by kernel_rfl) (by kernel_rfl) rfl (by kernel_rfl) (by kernel_rfl) (ev_appN (eInt .i64) (ys := z9) ((congrArg (asL _) (by kernel_rfl : ρof _ (.tmp 27) = (.d (.sl z9.length ((eInt .i64).cells z9))))).trans (as_d _ _)) rfl (by kernel_rfl) rfl hz10) ?_
  refine zdRun (n := 3) (j := 11) (ts := [[], [], []]) (acc' := [[], [], [], [(200, true)], [], [], [], [(232, true)], [], [], []]) rfl (by kernel_rfl) (by kernel_rfl) (by kernel_rfl) ?_
  refine zdEnd (by kernel_rfl) (by kernel_rfl) ?_
  refine zkSeq ?_
  refine zrRet ?_
  refine zkNil ?_
  exact endQ hS hQ (fRet (by kernel_rfl) ((congrArg (fun s => outR s 0 c14.res) (by kernel_rfl : finSt c14.fin _ = f14_fin z8 z10 0)).trans (f14_out z8 z10 0)))
noncomputable def f14 (a1 : List Int) (a2 : Int) : Option ((List Int) × (List Int) × Int) := (bif (decide (a2 < 0)) then (some ([], [], 1)) else (bif (decide (160 < a2)) then (some ([], [], 1)) else (f14_j0 a1 a2 )))
theorem f14_ok (base : Orc) (d : Nat) (hd : 4 ≤ d) (a1 : List Int) (a2 : Int) (r : (List Int) × (List Int) × Int) (hS : f14 a1 a2 = some r) : lev codes base d 14 [(.d (.sl a1.length ((eInt .i64).cells a1))), (.d (.int .i64 a2))] [] = some ((.tup [(.r (.own 0 3 1 r.1.length ((eInt .i64).cells r.1))), (.r (.own 1 3 1 r.2.1.length ((eInt .i64).cells r.2.1))), (.d (.int .i64 r.2.2))]), []) := by
  refine lev_go codes14 rfl rfl (Nat.le_trans (Nat.le_of_ble_eq_true rfl) hd) fun Q hQ => ?_
  unfold f14 at hS
  show ZR _ Q c14_b [] _
  replace hQ : ∀ e st', f14_Q r e st' → Q e st' := hQ
  refine zrSeq ?_
  refine zrReg ?_
  refine zlRun (n := 3) (j := 3) rfl (by kernel_rfl) ?_
  refine zlEnd (by kernel_rfl) ?_
  refine zkSeq ?_
  refine zrSeq ?_
  refine zrSeq ?_
  refine zrReg ?_
  refine zlRun (n := 1) (j := 1) rfl (by kernel_rfl) ?_
  refine zlBool (d := 10) (op := (.cmpI .lss (.tmp 9) (.const (.int .i64 0)))) (g := none) (j := 2) (decide (a2 < 0)) rfl (by kernel_rfl) (by kernel_rfl) (by kernel_rfl) (fun hc => ?_) (fun hc => ?_)
  · replace hS := cond_t hc hS
    refine zlRun (n := 4) (j := 6) rfl (by kernel_rfl) ?_
    refine zlEnd (by kernel_rfl) ?_
    refine zkSeq ?_
    refine zrCondT (by kernel_rfl) ?_
    refine zrSeq ?_
    refine zrReg ?_
    refine zlRun (n := 3) (j := 3) rfl (by kernel_rfl) ?_
    refine zlEnd (by kernel_rfl) ?_
    refine zkSeq ?_
    refine zrRet ?_
    refine zkSeqR ?_
    refine zkNil ?_
    exact endQ hS hQ (fRet (by kernel_rfl) ((congrArg (fun s => outR s 0 c14.res) (by kernel_rfl : finSt c14.fin _ = f14_fin [] [] 1)).trans (f14_out [] [] 1)))
  · replace hS := cond_f hc hS
    refine zlRun (n := 2) (j := 4) rfl (by kernel_rfl) ?_
    refine zlBool (d := 13) (op := (.cmpI .gtr (.tmp 12) (.const (.int .i64 160)))) (g := (some (11, false))) (j := 5) (decide (160 < a2)) rfl (by kernel_rfl) (by kernel_rfl) (by kernel_rfl) (fun hc => ?_) (fun hc => ?_)
    · replace hS := cond_t hc hS
      refine zlRun (n := 1) (j := 6) rfl (by kernel_rfl) ?_
      refine zlEnd (by kernel_rfl) ?_
      refine zkSeq ?_
      refine zrCondT (by kernel_rfl) ?_
      refine zrSeq ?_
      refine zrReg ?_
      refine zlRun (n := 3) (j := 3) rfl (by kernel_rfl) ?_
      refine zlEnd (by kernel_rfl) ?_
      refine zkSeq ?_
      refine zrRet ?_
      refine zkSeqR ?_
      refine zkNil ?_
      exact endQ hS hQ (fRet (by kernel_rfl) ((congrArg (fun s => outR s 0 c14.res) (by kernel_rfl : finSt c14.fin _ = f14_fin [] [] 1)).trans (f14_out [] [] 1)))
    · replace hS := cond_f hc hS
      refine zlRun (n := 1) (j := 6) rfl (by kernel_rfl) ?_
      refine zlEnd (by kernel_rfl) ?_
      refine zkSeq ?_
      refine zrCondF (by kernel_rfl) ?_
      refine zrSkip ?_
      refine zkSeq ?_
      exact f14_j0_ok hd a1 a2 hQ  hS (by kernel_rfl)
/- farwriter/flow.Flow -/
def f5_fin (p92 : List GRow) (p93 : Int) : St := ⟨(up (up (fun _ => .un) 5 (.d (.int .i64 p93))) 4 (.r (.msl 561 0 0 p92.length))), (up (hB fun _ => 0) 561 ⟨0, some (.own 35 2 (e_GRow.cells p92))⟩)⟩
theorem f5_out (p92 : List GRow) (p93 : Int) : outR (f5_fin p92 p93) 0 c5.res = some ((.tup [(.r (.own 0 35 2 p92.length (e_GRow.cells p92))), (.d (.int .i64 p93))]), []) := by
  exact out_of (ids := []) (ids' := [561]) (l := [(.r (.msl 561 0 0 p92.length)), (.d (.int .i64 p93))]) (by kernel_rfl) (by kernel_rfl) (o_tup (o_cons (o_own e_GRow (e := 35) (k := 2) (xs := p92) (by kernel_rfl) rfl rfl rfl rfl) (o_cons rfl o_nil)))
def f5_Q (r : (List GRow) × Int) (e : PX) (st : St) : Prop := DoneF c5 0 ((.tup [(.r (.own 0 35 2 r.1.length (e_GRow.cells r.1))), (.d (.int .i64 r.2))]), []) e st
def f5_l3_J (a1 : List (List Int)) (a2 : Int) (x : (List GRow) × Int) : St := ⟨(up (up (up (up (up (fun _ => .un) 41 (.d (.int .i64 x.2))) 40 (.d (.int .i64 (a1.length : Int)))) 39 (.d (.sl a1.length ((eSl (eInt .i64)).cells a1)))) 9 (.r (.msl 80 0 0 x.1.length))) 1 (.d (.int .i64 a2))), (up (hB fun _ => 0) 80 ⟨0, some (.own 35 2 (e_GRow.cells x.1))⟩)⟩
def f5_l3_H (a1 : List (List Int)) (a2 : Int) (x : (List GRow) × Int) (st : St) : Prop := keepSt [1, 9, 39, 40, 41] [(80, .id 80)] [] st = f5_l3_J a1 a2 x
def f5_l3_e2_J (a1 : List (List Int)) (a2 : Int) (p91 : List GRow) : St := ⟨(up (fun _ => .un) 9 (.r (.msl 80 0 0 p91.length))), (up (hB fun _ => 0) 80 ⟨0, some (.own 35 2 (e_GRow.cells p91))⟩)⟩
def f5_l3_X (a1 : List (List Int)) (a2 : Int) (z : ((List GRow))) (e : PX) (st : St) : Prop := e = .exit 2 ∧ st = f5_l3_e2_J a1 a2 z
def f5_l3_l6_J (a1 : List (List Int)) (a2 : Int) (x : (List GRow) × (List Int) × Int) : St := ⟨(up (up (up (up (up (up (fun _ => .un) 41 (.d (.int .i64 x.2.2))) 40 (.d (.int .i64 (a1.length : Int)))) 39 (.d (.sl a1.length ((eSl (eInt .i64)).cells a1)))) 11 (.d (.sl x.2.1.length ((eInt .i64).cells x.2.1)))) 9 (.r (.msl 80 0 0 x.1.length))) 1 (.d (.int .i64 a2))), (up (hB fun _ => 0) 80 ⟨0, some (.own 35 2 (e_GRow.cells x.1))⟩)⟩
def f5_l3_l6_H (a1 : List (List Int)) (a2 : Int) (x : (List GRow) × (List Int) × Int) (st : St) : Prop := keepSt [1, 9, 11, 39, 40, 41] [(80, .id 80)] [] st = f5_l3_l6_J a1 a2 x
def f5_l3_l6_e4_J (a1 : List (List Int)) (a2 : Int) (p125 : List GRow) (p126 : Int) : St := ⟨(up (up (up (up (up (fun _ => .un) 41 (.d (.int .i64 p126))) 40 (.d (.int .i64 (a1.length : Int)))) 39 (.d (.sl a1.length ((eSl (eInt .i64)).cells a1)))) 9 (.r (.msl 80 0 0 p125.length))) 1 (.d (.int .i64 a2))), (up (hB fun _ => 0) 80 ⟨0, some (.own 35 2 (e_GRow.cells p125))⟩)⟩
def f5_l3_l6_X (a1 : List (List Int)) (a2 : Int) (z : ((List GRow) × Int)) (e : PX) (st : St) : Prop := e = .exit 4 ∧ st = f5_l3_l6_e4_J a1 a2 z.1 z.2
def f5_l3_l6_j7_J (a1 : List (List Int)) (a2 : Int) (p130 : List GRow) (p131 : List Int) (p132 : Int) : St := ⟨(up (up (up (up (up (up (fun _ => .un) 41 (.d (.int .i64 p132))) 40 (.d (.int .i64 (a1.length : Int)))) 39 (.d (.sl a1.length ((eSl (eInt .i64)).cells a1)))) 13 (.r (.msl 393 0 0 p131.length))) 9 (.r (.msl 80 0 0 p130.length))) 1 (.d (.int .i64 a2))), (up (up (hB fun _ => 0) 393 ⟨0, some (.own 3 1 ((eInt .i64).cells p131))⟩) 80 ⟨0, some (.own 35 2 (e_GRow.cells p130))⟩)⟩
noncomputable def f5_l3_l6_j7 (a1 : List (List Int)) (a2 : Int) (p130 : List GRow) (p131 : List Int) (p132 : Int) : Option (((List GRow) × (List Int) × Int) ⊕ (((List GRow) × Int))) := (bif (decide ((p131.length : Int) = 0)) then (some (.inr (p130, p132))) else (some (.inl (p130, p131, p132))))
theorem f5_l3_l6_j7_ok {base : Orc} {d : Nat} (hd : 5 ≤ d) (a1 : List (List Int)) (a2 : Int) {r : ((List GRow) × (List Int) × Int) ⊕ (((List GRow) × Int))} {Q : PX → St → Prop} (hQ : ∀ e st', finL (f5_l3_l6_H a1 a2) (f5_l3_l6_X a1 a2) r e st' → Q e st') (p130 : List GRow) (p131 : List Int) (p132 : Int) (hS : f5_l3_l6_j7 a1 a2 p130 p131 p132 = some r) {st : St} (he : keepSt [1, 9, 13, 39, 40, 41] [(80, .id 80), (393, .id 393)] [] st = f5_l3_l6_j7_J a1 a2 p130 p131 p132) : ZR (lev codes base (d - 1)) Q c5_1 [.blk 5] st := by
  refine zrKeep he ?_
  unfold f5_l3_l6_j7 at hS
  refine zrSeq ?_
  refine zrReg ?_
  refine zlRun (n := 2) (j := 2) rfl (by kernel_rfl) ?_
  refine zlEnd (by kernel_rfl) ?_
  refine zkSeq ?_
  refine zrSeq ?_
  refine zrReg ?_
  refine zlRun (n := 2) (j := 2) rfl (by kernel_rfl) ?_
  refine zlBool (d := 63) (op := (.cmpI .eql (.tmp 62) (.const (.int .i64 0)))) (g := none) (j := 3) (decide ((p131.length : Int) = 0)) rfl (by kernel_rfl) (by kernel_rfl) (by kernel_rfl) (fun hc => ?_) (fun hc => ?_)
  · replace hS := cond_t hc hS
    refine zlEnd (by kernel_rfl) ?_
    refine zkSeq ?_
    refine zrCondT (by kernel_rfl) ?_
    refine zrKeep (J := f5_l3_l6_e4_J a1 a2 p130 p132) (by kernel_rfl) ?_
    refine zrExit ?_
    refine zkBlkY rfl ?_
    refine zkNil ?_
    exact endQ hS hQ (finL_x (by intro h; cases h) (by show _ = _ ∧ _ = _; exact ⟨rfl, rfl⟩))
  · replace hS := cond_f hc hS
    refine zlEnd (by kernel_rfl) ?_
    refine zkSeq ?_
    refine zrCondF (by kernel_rfl) ?_
    refine zrSkip ?_
    refine zkBlk ?_
    refine zkNil ?_
    exact endQ hS hQ (finL_n (by show keepSt _ _ _ _ = _; exact (by kernel_rfl : _ = (⟨(up (up (up (up (up (up (fun _ => .un) 41 (.d (.int .i64 p132))) 40 (.d (.int .i64 (a1.length : Int)))) 39 (.d (.sl a1.length ((eSl (eInt .i64)).cells a1)))) 11 (.d (.sl p131.length ((((eInt .i64).cells p131).drop (0 * (eInt .i64).k)).take (p131.length * (eInt .i64).k))))) 9 (.r (.msl 80 0 0 p130.length))) 1 (.d (.int .i64 a2))), (up (hB fun _ => 0) 80 ⟨0, some (.own 35 2 (e_GRow.cells p130))⟩)⟩ : St)).trans (by simp only [Enc.frz]; kernel_rfl)))
noncomputable def f5_l3_l6 (a1 : List (List Int)) (a2 : Int) (x : (List GRow) × (List Int) × Int) : Option (((List GRow) × (List Int) × Int) ⊕ (((List GRow) × Int))) := ((f14 x.2.1 a2).bind fun z35 => (bif (decide (0 < (z35.2.1.length : Int))) then ((app? 32 x.1 ([(GRow.mk z35.1 true)] : List GRow)).bind fun z38 => (f5_l3_l6_j7 a1 a2 z38 z35.2.1 x.2.2)) else ((app? 32 x.1 ([(GRow.mk z35.1 false)] : List GRow)).bind fun z39 => (f5_l3_l6_j7 a1 a2 z39 z35.2.1 x.2.2))))
theorem f5_l3_l6_ok {base : Orc} {d : Nat} (hd : 5 ≤ d) (a1 : List (List Int)) (a2 : Int) {r : ((List GRow) × (List Int) × Int) ⊕ (((List GRow) × Int))} {Q : PX → St → Prop} (hQ : ∀ e st', finL (f5_l3_l6_H a1 a2) (f5_l3_l6_X a1 a2) r e st' → Q e st') {x : (List GRow) × (List Int) × Int} (hS : f5_l3_l6 a1 a2 x = some r) {st : St} (he : f5_l3_l6_H a1 a2 x st) : ZR (lev codes base (d - 1)) Q c5_2 [] st := by
  refine zrKeep he ?_
  unfold f5_l3_l6 at hS
  refine zrBlk ?_
  refine zrSeq ?_
  refine zrReg ?_
  refine zlRun (n := 2) (j := 2) rfl (by kernel_rfl) ?_
  refine bindE hS (fun z35 hz35 hS => ?_)
  refine zlOp (d := some 48) (op := (.call 14 [(.tmp 46), (.tmp 47)])) (g := none) (j := 3) rfl (by kernel_rfl) (by kernel_rfl) (ev_callA (by kernel_rfl) (f14_ok base (d - 1) (dpt hd rfl) x.2.1 a2 z35 hz35) (by kernel_rfl) (by kernel_rfl)) ?_
  refine zlRun (n := 7) (j := 10) rfl (by kernel_rfl) ?_
  refine zlEnd (by kernel_rfl) ?_
  refine zkSeq ?_
  refine zrSeq ?_
  refine zrReg ?_
  refine zlRun (n := 4) (j := 4) rfl (by kernel_rfl) ?_
  refine zlBool (d := 56) (op := (.cmpI .gtr (.tmp 55) (.const (.int .i64 0)))) (g := none) (j := 5) (decide (0 < (z35.2.1.length : Int))) rfl (by kernel_rfl) (by kernel_rfl) (by kernel_rfl) (fun hc => ?_) (fun hc => ?_)
  · replace hS := cond_t hc hS
    refine zlRun (n := 1) (j := 6) rfl (by kernel_rfl) ?_
    refine zlOp (d := some 58) (op := (.bsl 35 2 1 [(1, (.slice .none 0 0)), (1, (.bool .false))] [(0, (2, (.tmp 57)))])) (g := none) (v := (.r (.msl 472 1 0 (([(GRow.mk z35.1 true)] : List GRow).length)))) (ups := [(392, ⟨2, none⟩), (472, ⟨1, some (.own 35 2 (e_GRow.cells ([(GRow.mk z35.1 true)])))⟩)]) (j := 7) rfl (by kernel_rfl) (by kernel_rfl) ((by kernel_rfl : peval _ _ 58 (ρof _) (.bsl 35 2 1 [(1, (.slice .none 0 0)), (1, (.bool .false))] [(0, (2, (.tmp 57)))]) = some ((.r (.msl 472 1 0 (([(GRow.mk z35.1 true)] : List GRow).length))), [(392, ⟨2, none⟩), (472, ⟨1, some (.own 35 2 [.sl z35.1.length ((((eInt .i64).cells z35.1).drop (0 * (eInt .i64).k)).take (z35.1.length * (eInt .i64).k)), .bool true])⟩)])).trans (by simp only [Enc.frz]; rfl)) ?_
    refine bindE hS (fun z38 hz38 hS => ?_)
    refine zlOp (d := some 59) (op := (.app 35 2 32 (.tmp 52) (.tmp 58))) (g := none) (v := (.r (.msl 80 1 0 z38.length))) (ups := [(80, ⟨1, some (.own 35 2 (e_GRow.cells z38))⟩)]) (j := 8) rfl (by kernel_rfl) (by kernel_rfl) (ev_app e_GRow (b := 80) (g := 0) (n := x.1.length) (xs := x.1) (ys := [(GRow.mk z35.1 true)]) ((congrArg (asL _) (by kernel_rfl : ρof _ (.tmp 58) = (.r (.msl 472 1 0 (([(GRow.mk z35.1 true)] : List GRow).length))))).trans (as_whole e_GRow (e := 35) (k := 2) (xs := [(GRow.mk z35.1 true)]) (by kernel_rfl) rfl rfl)) rfl (by kernel_rfl) rfl (by kernel_rfl) rfl hz38) ?_
    refine zlRun (n := 1) (j := 9) rfl (by kernel_rfl) ?_
    refine zlEnd (by kernel_rfl) ?_
    refine zkSeq ?_
    exact f5_l3_l6_j7_ok hd a1 a2 hQ z38 z35.2.1 x.2.2 hS (by kernel_rfl)
  · replace hS := cond_f hc hS
    refine zlRun (n := 1) (j := 6) rfl (by kernel_rfl) ?_
    refine zlOp (d := some 58) (op := (.bsl 35 2 1 [(1, (.slice .none 0 0)), (1, (.bool .false))] [(0, (2, (.tmp 57)))])) (g := none) (v := (.r (.msl 472 1 0 (([(GRow.mk z35.1 false)] : List GRow).length)))) (ups := [(392, ⟨2, none⟩), (472, ⟨1, some (.own 35 2 (e_GRow.cells ([(GRow.mk z35.1 false)])))⟩)]) (j := 7) rfl (by kernel_rfl) (by kernel_rfl) ((by kernel_rfl : peval _ _ 58 (ρof _) (.bsl 35 2 1 [(1, (.slice .none 0 0)), (1, (.bool .false))] [(0, (2, (.tmp 57)))]) = some ((.r (.msl 472 1 0 (([(GRow.mk z35.1 false)] : List GRow).length))), [(392, ⟨2, none⟩), (472, ⟨1, some (.own 35 2 [.sl z35.1.length ((((eInt .i64).cells z35.1).drop (0 * (eInt .i64).k)).take (z35.1.length * (eInt .i64).k)), .bool false])⟩)])).trans (by simp only [Enc.frz]; rfl)) ?_
    refine bindE hS (fun z39 hz39 hS => ?_)
    refine zlOp (d := some 59) (op := (.app 35 2 32 (.tmp 52) (.tmp 58))) (g := none) (v := (.r (.msl 80 1 0 z39.length))) (ups := [(80, ⟨1, some (.own 35 2 (e_GRow.cells z39))⟩)]) (j := 8) rfl (by kernel_rfl) (by kernel_rfl) (ev_app e_GRow (b := 80) (g := 0) (n := x.1.length) (xs := x.1) (ys := [(GRow.mk z35.1 false)]) ((congrArg (asL _) (by kernel_rfl : ρof _ (.tmp 58) = (.r (.msl 472 1 0 (([(GRow.mk z35.1 false)] : List GRow).length))))).trans (as_whole e_GRow (e := 35) (k := 2) (xs := [(GRow.mk z35.1 false)]) (by kernel_rfl) rfl rfl)) rfl (by kernel_rfl) rfl (by kernel_rfl) rfl hz39) ?_
    refine zlRun (n := 1) (j := 9) rfl (by kernel_rfl) ?_
    refine zlEnd (by kernel_rfl) ?_
    refine zkSeq ?_
    exact f5_l3_l6_j7_ok hd a1 a2 hQ z39 z35.2.1 x.2.2 hS (by kernel_rfl)
def f5_l3_j5_J (a1 : List (List Int)) (a2 : Int) (p103 : List GRow) (p104 : Int) : St := ⟨(up (up (up (up (up (fun _ => .un) 41 (.d (.int .i64 p104))) 40 (.d (.int .i64 (a1.length : Int)))) 39 (.d (.sl a1.length ((eSl (eInt .i64)).cells a1)))) 9 (.r (.msl 80 0 0 p103.length))) 1 (.d (.int .i64 a2))), (up (hB fun _ => 0) 80 ⟨0, some (.own 35 2 (e_GRow.cells p103))⟩)⟩
noncomputable def f5_l3_j5 (a1 : List (List Int)) (a2 : Int) (p103 : List GRow) (p104 : Int) : Option (((List GRow) × Int) ⊕ (((List GRow)))) := ((idx a1 p104).bind fun z28 => ((loopO (f5_l3_l6 a1 a2) (p103, z28, p104)).bind fun z40 => (some (.inl (z40.1, (IntKind.i64.wrap (z40.2 + 1)))))))
theorem f5_l3_j5_ok {base : Orc} {d : Nat} (hd : 5 ≤ d) (a1 : List (List Int)) (a2 : Int) {r : ((List GRow) × Int) ⊕ (((List GRow)))} {Q : PX → St → Prop} (hQ : ∀ e st', finL (f5_l3_H a1 a2) (f5_l3_X a1 a2) r e st' → Q e st') (p103 : List GRow) (p104 : Int) (hS : f5_l3_j5 a1 a2 p103 p104 = some r) {st : St} (he : keepSt [1, 9, 39, 40, 41] [(80, .id 80)] [] st = f5_l3_j5_J a1 a2 p103 p104) : ZR (lev codes base (d - 1)) Q c5_3 [] st := by
  refine zrKeep he ?_
  unfold f5_l3_j5 at hS
  refine zrSeq ?_
  refine zrBlk ?_
  refine zrSeq ?_
  refine zrReg ?_
  refine bindE hS (fun z28 hz28 hS => ?_)
  refine zlOp (d := some 43) (op := (.ixS 32 1 (.tmp 39) (.tmp 41))) (g := none) (v := (.rptr ((eSl (eInt .i64)).enc z28 ++ ((eSl (eInt .i64)).cells (a1.drop ((p104 : Int).toNat + 1)))))) (ups := []) (j := 1) rfl (by kernel_rfl) (by kernel_rfl) (ev_ixS (eSl (eInt .i64)) (kk := .i64) (xs := a1) (j := p104) (by kernel_rfl) (by kernel_rfl) hz28 rfl (by intro h; cases h)) ?_
  refine zlRun (n := 2) (j := 3) rfl (by kernel_rfl) ?_
  refine zlEnd (by kernel_rfl) ?_
  refine zkSeq ?_
  refine zrBlk ?_
  refine bindE hS (fun z40 hz40 hS => ?_)
  refine zrLoop (f5_l3_l6_H a1 a2) (f5_l3_l6_X a1 a2) (fun x st r Q h0 hS hQ => f5_l3_l6_ok hd a1 a2 hQ hS h0) (x := (p103, z28, p104)) (z := z40) (by show keepSt _ _ _ _ = _; kernel_rfl) hz40 ?_
  intro e st' _ hX
  obtain ⟨rfl, rfl⟩ : _ ∧ _ := hX
  refine zkBlkX ?_
  refine zkBlk ?_
  refine zkSeq ?_
  refine zrReg ?_
  refine zlRun (n := 2) (j := 2) rfl (by kernel_rfl) ?_
  refine zlEnd (by kernel_rfl) ?_
  refine zkNil ?_
  exact endQ hS hQ (finL_n (by show keepSt _ _ _ _ = _; kernel_rfl))
def f5_l3_j4_J (a1 : List (List Int)) (a2 : Int) (p100 : List GRow) (p101 : Int) (p102 : Bool) : St := ⟨(up (up (up (up (up (up (fun _ => .un) 42 (.d (.bool p102))) 41 (.d (.int .i64 p101))) 40 (.d (.int .i64 (a1.length : Int)))) 39 (.d (.sl a1.length ((eSl (eInt .i64)).cells a1)))) 9 (.r (.msl 80 0 0 p100.length))) 1 (.d (.int .i64 a2))), (up (hB fun _ => 0) 80 ⟨0, some (.own 35 2 (e_GRow.cells p100))⟩)⟩
noncomputable def f5_l3_j4 (a1 : List (List Int)) (a2 : Int) (p100 : List GRow) (p101 : Int) (p102 : Bool) : Option (((List GRow) × Int) ⊕ (((List GRow)))) := (bif p102 then (f5_l3_j5 a1 a2 p100 p101) else (some (.inr p100)))
theorem f5_l3_j4_ok {base : Orc} {d : Nat} (hd : 5 ≤ d) (a1 : List (List Int)) (a2 : Int) {r : ((List GRow) × Int) ⊕ (((List GRow)))} {Q : PX → St → Prop} (hQ : ∀ e st', finL (f5_l3_H a1 a2) (f5_l3_X a1 a2) r e st' → Q e st') (p100 : List GRow) (p101 : Int) (p102 : Bool) (hS : f5_l3_j4 a1 a2 p100 p101 p102 = some r) {st : St} (he : keepSt [1, 9, 39, 40, 41, 42] [(80, .id 80)] [] st = f5_l3_j4_J a1 a2 p100 p101 p102) : ZR (lev codes base (d - 1)) Q c5_4 [] st := by
  refine zrKeep he ?_
  unfold f5_l3_j4 at hS
  refine zrSeq ?_
  refine zrSplit 42 p102 (by kernel_rfl) (fun hc => ?_) (fun hc => ?_)
  · replace hS := cond_t hc hS
    refine zrCondT (by kernel_rfl) ?_
    refine zrSkip ?_
    refine zkSeq ?_
    exact f5_l3_j5_ok hd a1 a2 hQ p100 p101 hS (by kernel_rfl)
  · replace hS := cond_f hc hS
    refine zrCondF (by kernel_rfl) ?_
    refine zrKeep (J := f5_l3_e2_J a1 a2 p100) (by kernel_rfl) ?_
    refine zrExit ?_
    refine zkSeqX ?_
    refine zkNil ?_
    exact endQ hS hQ (finL_x (by intro h; cases h) (by show _ = _ ∧ _ = _; exact ⟨rfl, rfl⟩))
noncomputable def f5_l3 (a1 : List (List Int)) (a2 : Int) (x : (List GRow) × Int) : Option (((List GRow) × Int) ⊕ (((List GRow)))) := (bif (decide (x.2 < (a1.length : Int))) then (f5_l3_j4 a1 a2 x.1 x.2 true) else (f5_l3_j4 a1 a2 x.1 x.2 false))
theorem f5_l3_ok {base : Orc} {d : Nat} (hd : 5 ≤ d) (a1 : List (List Int)) (a2 : Int) {r : ((List GRow) × Int) ⊕ (((List GRow)))} {Q : PX → St → Prop} (hQ : ∀ e st', finL (f5_l3_H a1 a2) (f5_l3_X a1 a2) r e st' → Q e st') {x : (List GRow) × Int} (hS : f5_l3 a1 a2 x = some r) {st : St} (he : f5_l3_H a1 a2 x st) : ZR (lev codes base (d - 1)) Q c5_5 [] st := by
  refine zrKeep he ?_
  unfold f5_l3 at hS
  refine zrSeq ?_
  refine zrReg ?_
  refine zlBool (d := 42) (op := (.cmpI .lss (.tmp 41) (.tmp 40))) (g := none) (j := 1) (decide (x.2 < (a1.length : Int))) rfl (by kernel_rfl) (by kernel_rfl) (by kernel_rfl) (fun hc => ?_) (fun hc => ?_)
  · replace hS := cond_t hc hS
    refine zlEnd (by kernel_rfl) ?_
    refine zkSeq ?_
    exact f5_l3_j4_ok hd a1 a2 hQ x.1 x.2 true hS (by kernel_rfl)
  · replace hS := cond_f hc hS
    refine zlEnd (by kernel_rfl) ?_
    refine zkSeq ?_
    exact f5_l3_j4_ok hd a1 a2 hQ x.1 x.2 false hS (by kernel_rfl)
def f5_j2_J (a1 : List (List Int)) (a2 : Int) : St := ⟨(up (up (fun _ => .un) 1 (.d (.int .i64 a2))) 0 (.d (.sl a1.length ((eSl (eInt .i64)).cells a1)))), (hB fun _ => 0)⟩
noncomputable def f5_j2 (a1 : List (List Int)) (a2 : Int) : Option ((List GRow) × Int) := ((loopO (f5_l3 a1 a2) ([], 0)).bind fun z41 => (some (z41, 0)))
theorem f5_j2_ok {base : Orc} {d : Nat} (hd : 5 ≤ d) (a1 : List (List Int)) (a2 : Int) {r : (List GRow) × Int} {Q : PX → St → Prop} (hQ : ∀ e st', f5_Q r e st' → Q e st')  (hS : f5_j2 a1 a2 = some r) {st : St} (he : keepSt [0, 1] [] [] st = f5_j2_J a1 a2) : ZR (lev codes base (d - 1)) Q c5_6 [] st := by
  refine zrKeep he ?_
  unfold f5_j2 at hS
  refine zrSeq ?_
  refine zrReg ?_
  refine zlRun (n := 1) (j := 1) rfl (by kernel_rfl) ?_
  refine zlEnd (by kernel_rfl) ?_
  refine zkSeq ?_
  refine zrSeq ?_
  refine zrSeq ?_
  refine zrReg ?_
  refine zlRun (n := 3) (j := 3) rfl (by kernel_rfl) ?_
  refine zlEnd (by kernel_rfl) ?_
  refine zkSeq ?_
  refine zrBlk ?_
  refine bindE hS (fun z41 hz41 hS => ?_)
  refine zrLoop (f5_l3_H a1 a2) (f5_l3_X a1 a2) (fun x st r Q h0 hS hQ => f5_l3_ok hd a1 a2 hQ hS h0) (x := ([], 0)) (z := z41) (by show keepSt _ _ _ _ = _; kernel_rfl) hz41 ?_
  intro e st' _ hX
  obtain ⟨rfl, rfl⟩ : _ ∧ _ := hX
  refine zkBlkX ?_
  refine zkSeq ?_
  refine zrSeq ?_
  refine zrReg ?_
  refine zlRun (n := 3) (j := 3) rfl (by kernel_rfl) ?_
  refine zlEnd (by kernel_rfl) ?_
  refine zkSeq ?_
  refine zrRet ?_
  refine zkNil ?_
  exact endQ hS hQ (fRet (by kernel_rfl) ((congrArg (fun s => outR s 0 c5.res) (by kernel_rfl : finSt c5.fin _ = f5_fin z41 0)).trans (f5_out z41 0)))
def f5_j1_J (a1 : List (List Int)) (a2 : Int) (p95 : Int) : St := ⟨(up (up (up (fun _ => .un) 6 (.d (.int .i64 p95))) 1 (.d (.int .i64 a2))) 0 (.d (.sl a1.length ((eSl (eInt .i64)).cells a1)))), (hB fun _ => 0)⟩
noncomputable def f5_j1 (a1 : List (List Int)) (a2 : Int) (p95 : Int) : Option ((List GRow) × Int) := (bif (decide (500 < (a1.length : Int))) then (some ([], 2)) else (bif (decide (4000 < p95)) then (some ([], 2)) else (f5_j2 a1 a2 )))
theorem f5_j1_ok {base : Orc} {d : Nat} (hd : 5 ≤ d) (a1 : List (List Int)) (a2 : Int) {r : (List GRow) × Int} {Q : PX → St → Prop} (hQ : ∀ e st', f5_Q r e st' → Q e st') (p95 : Int) (hS : f5_j1 a1 a2 p95 = some r) {st : St} (he : keepSt [0, 1, 6] [] [] st = f5_j1_J a1 a2 p95) : ZR (lev codes base (d - 1)) Q c5_7 [] st := by
  refine zrKeep he ?_
  unfold f5_j1 at hS
  refine zrSeq ?_
  refine zrSeq ?_
  refine zrReg ?_
  refine zlRun (n := 2) (j := 2) rfl (by kernel_rfl) ?_
  refine zlBool (d := 34) (op := (.cmpI .gtr (.tmp 33) (.const (.int .i64 500)))) (g := none) (j := 3) (decide (500 < (a1.length : Int))) rfl (by kernel_rfl) (by kernel_rfl) (by kernel_rfl) (fun hc => ?_) (fun hc => ?_)
  · replace hS := cond_t hc hS
    refine zlRun (n := 4) (j := 7) rfl (by kernel_rfl) ?_
    refine zlEnd (by kernel_rfl) ?_
    refine zkSeq ?_
    refine zrCondT (by kernel_rfl) ?_
    refine zrSeq ?_
    refine zrReg ?_
    refine zlRun (n := 2) (j := 2) rfl (by kernel_rfl) ?_
    refine zlEnd (by kernel_rfl) ?_
    refine zkSeq ?_
    refine zrRet ?_
    refine zkSeqR ?_
    refine zkNil ?_
    exact endQ hS hQ (fRet (by kernel_rfl) ((congrArg (fun s => outR s 0 c5.res) (by kernel_rfl : finSt c5.fin _ = f5_fin [] 2)).trans (f5_out [] 2)))
  · replace hS := cond_f hc hS
    refine zlRun (n := 2) (j := 5) rfl (by kernel_rfl) ?_
    refine zlBool (d := 37) (op := (.cmpI .gtr (.tmp 36) (.const (.int .i64 4000)))) (g := (some (35, false))) (j := 6) (decide (4000 < p95)) rfl (by kernel_rfl) (by kernel_rfl) (by kernel_rfl) (fun hc => ?_) (fun hc => ?_)
    · replace hS := cond_t hc hS
      refine zlRun (n := 1) (j := 7) rfl (by kernel_rfl) ?_
      refine zlEnd (by kernel_rfl) ?_
      refine zkSeq ?_
      refine zrCondT (by kernel_rfl) ?_
      refine zrSeq ?_
      refine zrReg ?_
      refine zlRun (n := 2) (j := 2) rfl (by kernel_rfl) ?_
      refine zlEnd (by kernel_rfl) ?_
      refine zkSeq ?_
      refine zrRet ?_
      refine zkSeqR ?_
      refine zkNil ?_
      exact endQ hS hQ (fRet (by kernel_rfl) ((congrArg (fun s => outR s 0 c5.res) (by kernel_rfl : finSt c5.fin _ = f5_fin [] 2)).trans (f5_out [] 2)))
    · replace hS := cond_f hc hS
      refine zlRun (n := 1) (j := 7) rfl (by kernel_rfl) ?_
      refine zlEnd (by kernel_rfl) ?_
      refine zkSeq ?_
      refine zrCondF (by kernel_rfl) ?_
      refine zrSkip ?_
      refine zkSeq ?_
      exact f5_j2_ok hd a1 a2 hQ  hS (by kernel_rfl)
def f5_l8_J (a1 : List (List Int)) (a2 : Int) (x : Int × Int) : St := ⟨(up (up (up (up (up (up (fun _ => .un) 23 (.d (.int .i64 x.2))) 22 (.d (.int .i64 (a1.length : Int)))) 21 (.d (.sl a1.length ((eSl (eInt .i64)).cells a1)))) 6 (.d (.int .i64 x.1))) 1 (.d (.int .i64 a2))) 0 (.d (.sl a1.length ((eSl (eInt .i64)).cells a1)))), (hB fun _ => 0)⟩
def f5_l8_H (a1 : List (List Int)) (a2 : Int) (x : Int × Int) (st : St) : Prop := keepSt [0, 1, 6, 21, 22, 23] [] [] st = f5_l8_J a1 a2 x
def f5_l8_e0_J (a1 : List (List Int)) (a2 : Int) (p13 : Int) : St := ⟨(up (up (up (fun _ => .un) 6 (.d (.int .i64 p13))) 1 (.d (.int .i64 a2))) 0 (.d (.sl a1.length ((eSl (eInt .i64)).cells a1)))), (hB fun _ => 0)⟩
def f5_l8_X (a1 : List (List Int)) (a2 : Int) (z : Int) (e : PX) (st : St) : Prop := e = .exit 0 ∧ st = f5_l8_e0_J a1 a2 z
def f5_l8_j10_J (a1 : List (List Int)) (a2 : Int) (p139 : Int) (p140 : Int) : St := ⟨(up (up (up (up (up (up (fun _ => .un) 23 (.d (.int .i64 p140))) 22 (.d (.int .i64 (a1.length : Int)))) 21 (.d (.sl a1.length ((eSl (eInt .i64)).cells a1)))) 6 (.d (.int .i64 p139))) 1 (.d (.int .i64 a2))) 0 (.d (.sl a1.length ((eSl (eInt .i64)).cells a1)))), (hB fun _ => 0)⟩
noncomputable def f5_l8_j10 (a1 : List (List Int)) (a2 : Int) (p139 : Int) (p140 : Int) : Option ((Int × Int) ⊕ Int) := ((idx a1 p140).bind fun z42 => (some (.inl ((IntKind.i64.wrap (p139 + (z42.length : Int))), (IntKind.i64.wrap (p140 + 1))))))
theorem f5_l8_j10_ok {base : Orc} {d : Nat} (hd : 5 ≤ d) (a1 : List (List Int)) (a2 : Int) {r : (Int × Int) ⊕ Int} {Q : PX → St → Prop} (hQ : ∀ e st', finL (f5_l8_H a1 a2) (f5_l8_X a1 a2) r e st' → Q e st') (p139 : Int) (p140 : Int) (hS : f5_l8_j10 a1 a2 p139 p140 = some r) {st : St} (he : keepSt [0, 1, 6, 21, 22, 23] [] [] st = f5_l8_j10_J a1 a2 p139 p140) : ZR (lev codes base (d - 1)) Q c5_8 [] st := by
  refine zrKeep he ?_
  unfold f5_l8_j10 at hS
  refine zrSeq ?_
  refine zrBlk ?_
  refine zrSeq ?_
  refine zrReg ?_
  refine bindE hS (fun z42 hz42 hS => ?_)
  refine zlOp (d := some 25) (op := (.ixS 32 1 (.tmp 21) (.tmp 23))) (g := none) (v := (.rptr ((eSl (eInt .i64)).enc z42 ++ ((eSl (eInt .i64)).cells (a1.drop ((p140 : Int).toNat + 1)))))) (ups := []) (j := 1) rfl (by kernel_rfl) (by kernel_rfl) (ev_ixS (eSl (eInt .i64)) (kk := .i64) (xs := a1) (j := p140) (by kernel_rfl) (by kernel_rfl) hz42 rfl (by intro h; cases h)) ?_
  refine zlRun (n := 2) (j := 3) rfl (by kernel_rfl) ?_
  refine zlEnd (by kernel_rfl) ?_
  refine zkSeq ?_
  refine zrReg ?_
  refine zlRun (n := 5) (j := 5) rfl (by kernel_rfl) ?_
  refine zlEnd (by kernel_rfl) ?_
  refine zkBlk ?_
  refine zkSeq ?_
  refine zrReg ?_
  refine zlRun (n := 2) (j := 2) rfl (by kernel_rfl) ?_
  refine zlEnd (by kernel_rfl) ?_
  refine zkNil ?_
  exact endQ hS hQ (finL_n (by show keepSt _ _ _ _ = _; kernel_rfl))
def f5_l8_j9_J (a1 : List (List Int)) (a2 : Int) (p136 : Int) (p137 : Int) (p138 : Bool) : St := ⟨(up (up (up (up (up (up (up (fun _ => .un) 24 (.d (.bool p138))) 23 (.d (.int .i64 p137))) 22 (.d (.int .i64 (a1.length : Int)))) 21 (.d (.sl a1.length ((eSl (eInt .i64)).cells a1)))) 6 (.d (.int .i64 p136))) 1 (.d (.int .i64 a2))) 0 (.d (.sl a1.length ((eSl (eInt .i64)).cells a1)))), (hB fun _ => 0)⟩
noncomputable def f5_l8_j9 (a1 : List (List Int)) (a2 : Int) (p136 : Int) (p137 : Int) (p138 : Bool) : Option ((Int × Int) ⊕ Int) := (bif p138 then (f5_l8_j10 a1 a2 p136 p137) else (some (.inr p136)))
theorem f5_l8_j9_ok {base : Orc} {d : Nat} (hd : 5 ≤ d) (a1 : List (List Int)) (a2 : Int) {r : (Int × Int) ⊕ Int} {Q : PX → St → Prop} (hQ : ∀ e st', finL (f5_l8_H a1 a2) (f5_l8_X a1 a2) r e st' → Q e st') (p136 : Int) (p137 : Int) (p138 : Bool) (hS : f5_l8_j9 a1 a2 p136 p137 p138 = some r) {st : St} (he : keepSt [0, 1, 6, 21, 22, 23, 24] [] [] st = f5_l8_j9_J a1 a2 p136 p137 p138) : ZR (lev codes base (d - 1)) Q c5_9 [] st := by
  refine zrKeep he ?_
  unfold f5_l8_j9 at hS
  refine zrSeq ?_
  refine zrSplit 24 p138 (by kernel_rfl) (fun hc => ?_) (fun hc => ?_)
  · replace hS := cond_t hc hS
    refine zrCondT (by kernel_rfl) ?_
    refine zrSkip ?_
    refine zkSeq ?_
    exact f5_l8_j10_ok hd a1 a2 hQ p136 p137 hS (by kernel_rfl)
  · replace hS := cond_f hc hS
    refine zrCondF (by kernel_rfl) ?_
    refine zrKeep (J := f5_l8_e0_J a1 a2 p136) (by kernel_rfl) ?_
    refine zrExit ?_
    refine zkSeqX ?_
    refine zkNil ?_
    exact endQ hS hQ (finL_x (by intro h; cases h) (by show _ = _ ∧ _ = _; exact ⟨rfl, rfl⟩))
noncomputable def f5_l8 (a1 : List (List Int)) (a2 : Int) (x : Int × Int) : Option ((Int × Int) ⊕ Int) := (bif (decide (x.2 < (a1.length : Int))) then (f5_l8_j9 a1 a2 x.1 x.2 true) else (f5_l8_j9 a1 a2 x.1 x.2 false))
theorem f5_l8_ok {base : Orc} {d : Nat} (hd : 5 ≤ d) (a1 : List (List Int)) (a2 : Int) {r : (Int × Int) ⊕ Int} {Q : PX → St → Prop} (hQ : ∀ e st', finL (f5_l8_H a1 a2) (f5_l8_X a1 a2) r e st' → Q e st') {x : Int × Int} (hS : f5_l8 a1 a2 x = some r) {st : St} (he : f5_l8_H a1 a2 x st) : ZR (lev codes base (d - 1)) Q c5_10 [] st := by
  refine zrKeep he ?_
  unfold f5_l8 at hS
  refine zrSeq ?_
  refine zrReg ?_
  refine zlBool (d := 24) (op := (.cmpI .lss (.tmp 23) (.tmp 22))) (g := none) (j := 1) (decide (x.2 < (a1.length : Int))) rfl (by kernel_rfl) (by kernel_rfl) (by kernel_rfl) (fun hc => ?_) (fun hc => ?_)
  · replace hS := cond_t hc hS
    refine zlEnd (by kernel_rfl) ?_
    refine zkSeq ?_
    exact f5_l8_j9_ok hd a1 a2 hQ x.1 x.2 true hS (by kernel_rfl)
  · replace hS := cond_f hc hS
    refine zlEnd (by kernel_rfl) ?_
    refine zkSeq ?_
    exact f5_l8_j9_ok hd a1 a2 hQ x.1 x.2 false hS (by kernel_rfl)
def f5_j0_J (a1 : List (List Int)) (a2 : Int) : St := ⟨(up (up (fun _ => .un) 1 (.d (.int .i64 a2))) 0 (.d (.sl a1.length ((eSl (eInt .i64)).cells a1)))), (hB fun _ => 0)⟩
noncomputable def f5_j0 (a1 : List (List Int)) (a2 : Int) : Option ((List GRow) × Int) := ((loopO (f5_l8 a1 a2) (0, 0)).bind fun z43 => (f5_j1 a1 a2 z43))
theorem f5_j0_ok {base : Orc} {d : Nat} (hd : 5 ≤ d) (a1 : List (List Int)) (a2 : Int) {r : (List GRow) × Int} {Q : PX → St → Prop} (hQ : ∀ e st', f5_Q r e st' → Q e st')  (hS : f5_j0 a1 a2 = some r) {st : St} (he : keepSt [0, 1] [] [] st = f5_j0_J a1 a2) : ZR (lev codes base (d - 1)) Q c5_11 [] st := by
  refine zrKeep he ?_
  unfold f5_j0 at hS
  refine zrSeq ?_
  refine zrReg ?_
  refine zlRun (n := 1) (j := 1) rfl (by kernel_rfl) ?_
  refine zlEnd (by kernel_rfl) ?_
  refine zkSeq ?_
  refine zrSeq ?_
  refine zrSeq ?_
  refine zrReg ?_
  refine zlRun (n := 3) (j := 3) rfl (by kernel_rfl) ?_
  refine zlEnd (by kernel_rfl) ?_
  refine zkSeq ?_
  refine zrBlk ?_
  refine bindE hS (fun z43 hz43 hS => ?_)
  refine zrLoop (f5_l8_H a1 a2) (f5_l8_X a1 a2) (fun x st r Q h0 hS hQ => f5_l8_ok hd a1 a2 hQ hS h0) (x := (0, 0)) (z := z43) (by show keepSt _ _ _ _ = _; kernel_rfl) hz43 ?_
  intro e st' _ hX
  obtain ⟨rfl, rfl⟩ : _ ∧ _ := hX
  refine zkBlkX ?_
  refine zkSeq ?_
  exact f5_j1_ok hd a1 a2 hQ z43 hS (by kernel_rfl)
noncomputable def f5 (a1 : List (List Int)) (a2 : Int) : Option ((List GRow) × Int) := (bif (decide (a2 < 2)) then (some ([], 1)) else (bif (decide (160 < a2)) then (some ([], 1)) else (f5_j0 a1 a2 )))
theorem f5_ok (base : Orc) (d : Nat) (hd : 5 ≤ d) (a1 : List (List Int)) (a2 : Int) (r : (List GRow) × Int) (hS : f5 a1 a2 = some r) : lev codes base d 5 [(.d (.sl a1.length ((eSl (eInt .i64)).cells a1))), (.d (.int .i64 a2))] [] = some ((.tup [(.r (.own 0 35 2 r.1.length (e_GRow.cells r.1))), (.d (.int .i64 r.2))]), []) := by
  refine lev_go codes5 rfl rfl (Nat.le_trans (Nat.le_of_ble_eq_true rfl) hd) fun Q hQ => ?_
  unfold f5 at hS
  show ZR _ Q c5_b [] _
  replace hQ : ∀ e st', f5_Q r e st' → Q e st' := hQ
  refine zrSeq ?_
  refine zrReg ?_
  refine zlRun (n := 2) (j := 2) rfl (by kernel_rfl) ?_
  refine zlEnd (by kernel_rfl) ?_
  refine zkSeq ?_
  refine zrSeq ?_
  refine zrSeq ?_
  refine zrReg ?_
  refine zlRun (n := 1) (j := 1) rfl (by kernel_rfl) ?_
  refine zlBool (d := 16) (op := (.cmpI .lss (.tmp 15) (.const (.int .i64 2)))) (g := none) (j := 2) (decide (a2 < 2)) rfl (by kernel_rfl) (by kernel_rfl) (by kernel_rfl) (fun hc => ?_) (fun hc => ?_)
  · replace hS := cond_t hc hS
    refine zlRun (n := 4) (j := 6) rfl (by kernel_rfl) ?_
    refine zlEnd (by kernel_rfl) ?_
    refine zkSeq ?_
    refine zrCondT (by kernel_rfl) ?_
    refine zrSeq ?_
    refine zrReg ?_
    refine zlRun (n := 2) (j := 2) rfl (by kernel_rfl) ?_
    refine zlEnd (by kernel_rfl) ?_
    refine zkSeq ?_
    refine zrRet ?_
    refine zkSeqR ?_
    refine zkNil ?_
    exact endQ hS hQ (fRet (by kernel_rfl) ((congrArg (fun s => outR s 0 c5.res) (by kernel_rfl : finSt c5.fin _ = f5_fin [] 1)).trans (f5_out [] 1)))
  · replace hS := cond_f hc hS
    refine zlRun (n := 2) (j := 4) rfl (by kernel_rfl) ?_
    refine zlBool (d := 19) (op := (.cmpI .gtr (.tmp 18) (.const (.int .i64 160)))) (g := (some (17, false))) (j := 5) (decide (160 < a2)) rfl (by kernel_rfl) (by kernel_rfl) (by kernel_rfl) (fun hc => ?_) (fun hc => ?_)
    · replace hS := cond_t hc hS
      refine zlRun (n := 1) (j := 6) rfl (by kernel_rfl) ?_
      refine zlEnd (by kernel_rfl) ?_
      refine zkSeq ?_
      refine zrCondT (by kernel_rfl) ?_
      refine zrSeq ?_
      refine zrReg ?_
      refine zlRun (n := 2) (j := 2) rfl (by kernel_rfl) ?_
      refine zlEnd (by kernel_rfl) ?_
      refine zkSeq ?_
      refine zrRet ?_
      refine zkSeqR ?_
      refine zkNil ?_
      exact endQ hS hQ (fRet (by kernel_rfl) ((congrArg (fun s => outR s 0 c5.res) (by kernel_rfl : finSt c5.fin _ = f5_fin [] 1)).trans (f5_out [] 1)))
    · replace hS := cond_f hc hS
      refine zlRun (n := 1) (j := 6) rfl (by kernel_rfl) ?_
      refine zlEnd (by kernel_rfl) ?_
      refine zkSeq ?_
      refine zrCondF (by kernel_rfl) ?_
      refine zrSkip ?_
      refine zkSeq ?_
      exact f5_j0_ok hd a1 a2 hQ  hS (by kernel_rfl)
/- farwriter/flow.Lines -/
def f7_fin (p39 : List (List Int)) (p40 : Int) : St := ⟨(up (up (fun _ => .un) 3 (.d (.int .i64 p40))) 2 (.r (.msl 529 0 0 p39.length))), (up (hB fun _ => 0) 529 ⟨0, some (.own 32 1 ((eSl (eInt .i64)).cells p39))⟩)⟩
theorem f7_out (p39 : List (List Int)) (p40 : Int) : outR (f7_fin p39 p40) 0 c7.res = some ((.tup [(.r (.own 0 32 1 p39.length ((eSl (eInt .i64)).cells p39))), (.d (.int .i64 p40))]), []) := by
  exact out_of (ids := []) (ids' := [529]) (l := [(.r (.msl 529 0 0 p39.length)), (.d (.int .i64 p40))]) (by kernel_rfl) (by kernel_rfl) (o_tup (o_cons (o_own (eSl (eInt .i64)) (e := 32) (k := 1) (xs := p39) (by kernel_rfl) rfl rfl rfl rfl) (o_cons rfl o_nil)))
def f7_Q (r : (List (List Int)) × Int) (e : PX) (st : St) : Prop := DoneF c7 0 ((.tup [(.r (.own 0 32 1 r.1.length ((eSl (eInt .i64)).cells r.1))), (.d (.int .i64 r.2))]), []) e st
def f7_l3_J (a1 : List GRow) (x : (List (List Int)) × (List Int) × Int) : St := ⟨(up (up (up (up (up (fun _ => .un) 44 (.d (.int .i64 x.2.2))) 43 (.d (.int .i64 (a1.length : Int)))) 42 (.d (.sl a1.length (e_GRow.cells a1)))) 8 (.r (.msl 72 0 0 x.2.1.length))) 7 (.r (.msl 64 0 0 x.1.length))), (up (up (hB fun _ => 0) 72 ⟨0, some (.own 3 1 ((eInt .i64).cells x.2.1))⟩) 64 ⟨0, some (.own 32 1 ((eSl (eInt .i64)).cells x.1))⟩)⟩
def f7_l3_H (a1 : List GRow) (x : (List (List Int)) × (List Int) × Int) (st : St) : Prop := keepSt [7, 8, 42, 43, 44] [(64, .id 64), (72, .id 72)] [] st = f7_l3_J a1 x
def f7_l3_e2_J (a1 : List GRow) (p38 : List (List Int)) : St := ⟨(up (fun _ => .un) 7 (.r (.msl 64 0 0 p38.length))), (up (hB fun _ => 0) 64 ⟨0, some (.own 32 1 ((eSl (eInt .i64)).cells p38))⟩)⟩
def f7_l3_X (a1 : List GRow) (z : ((List (List Int)))) (e : PX) (st : St) : Prop := e = .exit 2 ∧ st = f7_l3_e2_J a1 z
def f7_l3_j5_J (a1 : List GRow) (p52 : List (List Int)) (p53 : List Int) (p54 : Int) : St := ⟨(up (up (up (up (up (fun _ => .un) 44 (.d (.int .i64 p54))) 43 (.d (.int .i64 (a1.length : Int)))) 42 (.d (.sl a1.length (e_GRow.cells a1)))) 8 (.r (.msl 72 0 0 p53.length))) 7 (.r (.msl 64 0 0 p52.length))), (up (up (hB fun _ => 0) 72 ⟨0, some (.own 3 1 ((eInt .i64).cells p53))⟩) 64 ⟨0, some (.own 32 1 ((eSl (eInt .i64)).cells p52))⟩)⟩
noncomputable def f7_l3_j5 (a1 : List GRow) (p52 : List (List Int)) (p53 : List Int) (p54 : Int) : Option (((List (List Int)) × (List Int) × Int) ⊕ (((List (List Int))))) := ((idx a1 p54).bind fun z18 => ((app? 8 p53 z18.Runes).bind fun z19 => (bif (!z18.Soft) then ((f9 z19).bind fun z20 => ((app? 24 p52 ([z20] : List (List Int))).bind fun z21 => (some (.inl (z21, [], (IntKind.i64.wrap (p54 + 1))))))) else (some (.inl (p52, z19, (IntKind.i64.wrap (p54 + 1))))))))
theorem f7_l3_j5_ok {base : Orc} {d : Nat} (hd : 2 ≤ d) (a1 : List GRow) {r : ((List (List Int)) × (List Int) × Int) ⊕ (((List (List Int))))} {Q : PX → St → Prop} (hQ : ∀ e st', finL (f7_l3_H a1) (f7_l3_X a1) r e st' → Q e st') (p52 : List (List Int)) (p53 : List Int) (p54 : Int) (hS : f7_l3_j5 a1 p52 p53 p54 = some r) {st : St} (he : keepSt [7, 8, 42, 43, 44] [(64, .id 64), (72, .id 72)] [] st = f7_l3_j5_J a1 p52 p53 p54) : ZR (lev codes base (d - 1)) Q c7_1 [] st := by
  refine zrKeep he ?_
  unfold f7_l3_j5 at hS
  refine zrSeq ?_
  refine zrBlk ?_
  refine zrSeq ?_
  refine zrReg ?_
  refine bindE hS (fun z18 hz18 hS => ?_)
  refine zlOp (d := some 46) (op := (.ixS 35 2 (.tmp 42) (.tmp 44))) (g := none) (v := (.rptr (e_GRow.enc z18 ++ (e_GRow.cells (a1.drop ((p54 : Int).toNat + 1)))))) (ups := []) (j := 1) rfl (by kernel_rfl) (by kernel_rfl) (ev_ixS e_GRow (kk := .i64) (xs := a1) (j := p54) (by kernel_rfl) (by kernel_rfl) hz18 rfl (by intro h; cases h)) ?_
  refine zlRun (n := 3) (j := 4) rfl (by kernel_rfl) ?_
  refine zlEnd (by kernel_rfl) ?_
  refine zkSeq ?_
  refine zrSeq ?_
  refine zrReg ?_
  refine zlRun (n := 3) (j := 3) rfl (by kernel_rfl) ?_
  refine bindE hS (fun z19 hz19 hS => ?_)
  refine zlOp (d := some 51) (op := (.app 3 1 8 (.tmp 48) (.tmp 50))) (g := none) (v := (.r (.msl 72 1 0 z19.length))) (ups := [(72, ⟨1, some (.own 3 1 ((eInt .i64).cells z19))⟩)]) (j := 4) rfl (by kernel_rfl) (by kernel_rfl) (ev_app (eInt .i64) (b := 72) (g := 0) (n := p53.length) (xs := p53) (ys := z18.Runes) ((congrArg (asL _) (by kernel_rfl : ρof _ (.tmp 50) = (.d (.sl z18.Runes.length ((eInt .i64).cells z18.Runes))))).trans (as_d _ _)) rfl (by kernel_rfl) rfl (by kernel_rfl) rfl hz19) ?_
  refine zlRun (n := 1) (j := 5) rfl (by kernel_rfl) ?_
  refine zlEnd (by kernel_rfl) ?_
  refine zkSeq ?_
  refine zrSeq ?_
  refine zrReg ?_
  refine zlRun (n := 3) (j := 3) rfl (by kernel_rfl) ?_
  refine zlEnd (by kernel_rfl) ?_
  refine zkSeq ?_
  refine zrSplit 54 (!z18.Soft) (by kernel_rfl) (fun hc => ?_) (fun hc => ?_)
  · replace hS := cond_t hc hS
    refine zrCondT (by kernel_rfl) ?_
    refine zrSeq ?_
    refine zrReg ?_
    refine zlRun (n := 2) (j := 2) rfl (by kernel_rfl) ?_
    refine bindE hS (fun z20 hz20 hS => ?_)
    refine zlOp (d := some 57) (op := (.call 9 [(.tmp 56)])) (g := none) (j := 3) rfl (by kernel_rfl) (by kernel_rfl) (ev_callB (args := [(.r (.msl 72 1 0 z19.length))]) (by kernel_rfl) (l_cons (l_own (eInt .i64) (e := 3) (k := 1) (xs := z19) (by kernel_rfl) rfl rfl) l_nil) (f9_ok base (d - 1) (dpt hd rfl) z19 z20 hz20) (by simp only [free_own (eInt .i64) (fun _ => rfl), free_tup, free_agg, free_nl, free_cs, free_int, free_bool, free_str, free_un, free_ni, free_s0, Bool.and_true, Bool.or_true, Bool.and_self]) (by kernel_rfl)) ?_
    refine zlOp (d := some 58) (op := (.bsl 32 1 1 [(1, (.slice .none 0 0))] [(0, (1, (.tmp 57)))])) (g := none) (v := (.r (.msl 472 1 0 (([z20] : List (List Int)).length)))) (ups := [(464, ⟨2, none⟩), (472, ⟨1, some (.own 32 1 ((eSl (eInt .i64)).cells ([z20])))⟩)]) (j := 4) rfl (by kernel_rfl) (by kernel_rfl) ((by kernel_rfl : peval _ _ 58 (ρof _) (.bsl 32 1 1 [(1, (.slice .none 0 0))] [(0, (1, (.tmp 57)))]) = some ((.r (.msl 472 1 0 (([z20] : List (List Int)).length))), [(464, ⟨2, none⟩), (472, ⟨1, some (.own 32 1 [.sl z20.length ((((eInt .i64).cells z20).drop (0 * (eInt .i64).k)).take (z20.length * (eInt .i64).k))])⟩)])).trans (by simp only [Enc.frz]; rfl)) ?_
    refine bindE hS (fun z21 hz21 hS => ?_)
    refine zlOp (d := some 59) (op := (.app 32 1 24 (.tmp 55) (.tmp 58))) (g := none) (v := (.r (.msl 64 1 0 z21.length))) (ups := [(64, ⟨1, some (.own 32 1 ((eSl (eInt .i64)).cells z21))⟩)]) (j := 5) rfl (by kernel_rfl) (by kernel_rfl) (ev_app (eSl (eInt .i64)) (b := 64) (g := 0) (n := p52.length) (xs := p52) (ys := [z20]) ((congrArg (asL _) (by kernel_rfl : ρof _ (.tmp 58) = (.r (.msl 472 1 0 (([z20] : List (List Int)).length))))).trans (as_whole (eSl (eInt .i64)) (e := 32) (k := 1) (xs := [z20]) (by kernel_rfl) rfl rfl)) rfl (by kernel_rfl) rfl (by kernel_rfl) rfl hz21) ?_
    refine zlRun (n := 1) (j := 6) rfl (by kernel_rfl) ?_
    refine zlEnd (by kernel_rfl) ?_
    refine zkSeq ?_
    refine zrReg ?_
    refine zlRun (n := 1) (j := 1) rfl (by kernel_rfl) ?_
    refine zlEnd (by kernel_rfl) ?_
    refine zkBlk ?_
    refine zkSeq ?_
    refine zrReg ?_
    refine zlRun (n := 2) (j := 2) rfl (by kernel_rfl) ?_
    refine zlEnd (by kernel_rfl) ?_
    refine zkNil ?_
    exact endQ hS hQ (finL_n (by show keepSt _ _ _ _ = _; kernel_rfl))
  · replace hS := cond_f hc hS
    refine zrCondF (by kernel_rfl) ?_
    refine zrSkip ?_
    refine zkBlk ?_
    refine zkSeq ?_
    refine zrReg ?_
    refine zlRun (n := 2) (j := 2) rfl (by kernel_rfl) ?_
    refine zlEnd (by kernel_rfl) ?_
    refine zkNil ?_
    exact endQ hS hQ (finL_n (by show keepSt _ _ _ _ = _; kernel_rfl))
def f7_l3_j4_J (a1 : List GRow) (p48 : List (List Int)) (p49 : List Int) (p50 : Int) (p51 : Bool) : St := ⟨(up (up (up (up (up (up (fun _ => .un) 45 (.d (.bool p51))) 44 (.d (.int .i64 p50))) 43 (.d (.int .i64 (a1.length : Int)))) 42 (.d (.sl a1.length (e_GRow.cells a1)))) 8 (.r (.msl 72 0 0 p49.length))) 7 (.r (.msl 64 0 0 p48.length))), (up (up (hB fun _ => 0) 72 ⟨0, some (.own 3 1 ((eInt .i64).cells p49))⟩) 64 ⟨0, some (.own 32 1 ((eSl (eInt .i64)).cells p48))⟩)⟩
noncomputable def f7_l3_j4 (a1 : List GRow) (p48 : List (List Int)) (p49 : List Int) (p50 : Int) (p51 : Bool) : Option (((List (List Int)) × (List Int) × Int) ⊕ (((List (List Int))))) := (bif p51 then (f7_l3_j5 a1 p48 p49 p50) else (some (.inr p48)))
theorem f7_l3_j4_ok {base : Orc} {d : Nat} (hd : 2 ≤ d) (a1 : List GRow) {r : ((List (List Int)) × (List Int) × Int) ⊕ (((List (List Int))))} {Q : PX → St → Prop} (hQ : ∀ e st', finL (f7_l3_H a1) (f7_l3_X a1) r e st' → Q e st') (p48 : List (List Int)) (p49 : List Int) (p50 : Int) (p51 : Bool) (hS : f7_l3_j4 a1 p48 p49 p50 p51 = some r) {st : St} (he : keepSt [7, 8, 42, 43, 44, 45] [(64, .id 64), (72, .id 72)] [] st = f7_l3_j4_J a1 p48 p49 p50 p51) : ZR (lev codes base (d - 1)) Q c7_2 [] st := by
  refine zrKeep he ?_
  unfold f7_l3_j4 at hS
  refine zrSeq ?_
  refine zrSplit 45 p51 (by kernel_rfl) (fun hc => ?_) (fun hc => ?_)
  · replace hS := cond_t hc hS
    refine zrCondT (by kernel_rfl) ?_
    refine zrSkip ?_
    refine zkSeq ?_
    exact f7_l3_j5_ok hd a1 hQ p48 p49 p50 hS (by kernel_rfl)
  · replace hS := cond_f hc hS
    refine zrCondF (by kernel_rfl) ?_
    refine zrKeep (J := f7_l3_e2_J a1 p48) (by kernel_rfl) ?_
    refine zrExit ?_
    refine zkSeqX ?_
    refine zkNil ?_
    exact endQ hS hQ (finL_x (by intro h; cases h) (by show _ = _ ∧ _ = _; exact ⟨rfl, rfl⟩))
noncomputable def f7_l3 (a1 : List GRow) (x : (List (List Int)) × (List Int) × Int) : Option (((List (List Int)) × (List Int) × Int) ⊕ (((List (List Int))))) := (bif (decide (x.2.2 < (a1.length : Int))) then (f7_l3_j4 a1 x.1 x.2.1 x.2.2 true) else (f7_l3_j4 a1 x.1 x.2.1 x.2.2 false))
theorem f7_l3_ok {base : Orc} {d : Nat} (hd : 2 ≤ d) (a1 : List GRow) {r : ((List (List Int)) × (List Int) × Int) ⊕ (((List (List Int))))} {Q : PX → St → Prop} (hQ : ∀ e st', finL (f7_l3_H a1) (f7_l3_X a1) r e st' → Q e st') {x : (List (List Int)) × (List Int) × Int} (hS : f7_l3 a1 x = some r) {st : St} (he : f7_l3_H a1 x st) : ZR (lev codes base (d - 1)) Q c7_3 [] st := by
  refine zrKeep he ?_
  unfold f7_l3 at hS
  refine zrSeq ?_
  refine zrReg ?_
  refine zlBool (d := 45) (op := (.cmpI .lss (.tmp 44) (.tmp 43))) (g := none) (j := 1) (decide (x.2.2 < (a1.length : Int))) rfl (by kernel_rfl) (by kernel_rfl) (by kernel_rfl) (fun hc => ?_) (fun hc => ?_)
  · replace hS := cond_t hc hS
    refine zlEnd (by kernel_rfl) ?_
    refine zkSeq ?_
    exact f7_l3_j4_ok hd a1 hQ x.1 x.2.1 x.2.2 true hS (by kernel_rfl)
  · replace hS := cond_f hc hS
    refine zlEnd (by kernel_rfl) ?_
    refine zkSeq ?_
    exact f7_l3_j4_ok hd a1 hQ x.1 x.2.1 x.2.2 false hS (by kernel_rfl)
def f7_j2_J (a1 : List GRow) : St := ⟨(up (fun _ => .un) 0 (.d (.sl a1.length (e_GRow.cells a1)))), (hB fun _ => 0)⟩
noncomputable def f7_j2 (a1 : List GRow) : Option ((List (List Int)) × Int) := ((loopO (f7_l3 a1) ([], [], 0)).bind fun z22 => (some (z22, 0)))
theorem f7_j2_ok {base : Orc} {d : Nat} (hd : 2 ≤ d) (a1 : List GRow) {r : (List (List Int)) × Int} {Q : PX → St → Prop} (hQ : ∀ e st', f7_Q r e st' → Q e st')  (hS : f7_j2 a1 = some r) {st : St} (he : keepSt [0] [] [] st = f7_j2_J a1) : ZR (lev codes base (d - 1)) Q c7_4 [] st := by
  refine zrKeep he ?_
  unfold f7_j2 at hS
  refine zrSeq ?_
  refine zrReg ?_
  refine zlRun (n := 1) (j := 1) rfl (by kernel_rfl) ?_
  refine zlEnd (by kernel_rfl) ?_
  refine zkSeq ?_
  refine zrSeq ?_
  refine zrReg ?_
  refine zlRun (n := 1) (j := 1) rfl (by kernel_rfl) ?_
  refine zlEnd (by kernel_rfl) ?_
  refine zkSeq ?_
  refine zrSeq ?_
  refine zrSeq ?_
  refine zrReg ?_
  refine zlRun (n := 3) (j := 3) rfl (by kernel_rfl) ?_
  refine zlEnd (by kernel_rfl) ?_
  refine zkSeq ?_
  refine zrBlk ?_
  refine bindE hS (fun z22 hz22 hS => ?_)
  refine zrLoop (f7_l3_H a1) (f7_l3_X a1) (fun x st r Q h0 hS hQ => f7_l3_ok hd a1 hQ hS h0) (x := ([], [], 0)) (z := z22) (by show keepSt _ _ _ _ = _; kernel_rfl) hz22 ?_
  intro e st' _ hX
  obtain ⟨rfl, rfl⟩ : _ ∧ _ := hX
  refine zkBlkX ?_
  refine zkSeq ?_
  refine zrSeq ?_
  refine zrReg ?_
  refine zlRun (n := 3) (j := 3) rfl (by kernel_rfl) ?_
  refine zlEnd (by kernel_rfl) ?_
  refine zkSeq ?_
  refine zrRet ?_
  refine zkNil ?_
  exact endQ hS hQ (fRet (by kernel_rfl) ((congrArg (fun s => outR s 0 c7.res) (by kernel_rfl : finSt c7.fin _ = f7_fin z22 0)).trans (f7_out z22 0)))
def f7_j1_J (a1 : List GRow) : St := ⟨(up (fun _ => .un) 0 (.d (.sl a1.length (e_GRow.cells a1)))), (hB fun _ => 0)⟩
noncomputable def f7_j1 (a1 : List GRow) : Option ((List (List Int)) × Int) := (bif (decide (0 < (a1.length : Int))) then ((idx a1 (IntKind.i64.wrap ((a1.length : Int) - 1))).bind fun z23 => (bif z23.Soft then (some ([], 4)) else (f7_j2 a1 ))) else (f7_j2 a1 ))
theorem f7_j1_ok {base : Orc} {d : Nat} (hd : 2 ≤ d) (a1 : List GRow) {r : (List (List Int)) × Int} {Q : PX → St → Prop} (hQ : ∀ e st', f7_Q r e st' → Q e st')  (hS : f7_j1 a1 = some r) {st : St} (he : keepSt [0] [] [] st = f7_j1_J a1) : ZR (lev codes base (d - 1)) Q c7_5 [] st := by
  refine zrKeep he ?_
  unfold f7_j1 at hS
  refine zrSeq ?_
  refine zrSeq ?_
  refine zrReg ?_
  refine zlRun (n := 2) (j := 2) rfl (by kernel_rfl) ?_
  refine zlBool (d := 32) (op := (.cmpI .gtr (.tmp 31) (.const (.int .i64 0)))) (g := none) (j := 3) (decide (0 < (a1.length : Int))) rfl (by kernel_rfl) (by kernel_rfl) (by kernel_rfl) (fun hc => ?_) (fun hc => ?_)
  · replace hS := cond_t hc hS
    refine zlRun (n := 5) (j := 8) rfl (by kernel_rfl) ?_
    refine bindE hS (fun z23 hz23 hS => ?_)
    refine zlOp (d := some 38) (op := (.ixS 35 2 (.tmp 34) (.tmp 37))) (g := (some (33, true))) (v := (.rptr (e_GRow.enc z23 ++ (e_GRow.cells (a1.drop (((IntKind.i64.wrap ((a1.length : Int) - 1)) : Int).toNat + 1)))))) (ups := []) (j := 9) rfl (by kernel_rfl) (by kernel_rfl) (ev_ixS e_GRow (kk := .i64) (xs := a1) (j := (IntKind.i64.wrap ((a1.length : Int) - 1))) (by kernel_rfl) (by kernel_rfl) hz23 rfl (by intro h; cases h)) ?_
    refine zlRun (n := 3) (j := 12) rfl (by kernel_rfl) ?_
    refine zlEnd (by kernel_rfl) ?_
    refine zkSeq ?_
    refine zrSplit 41 z23.Soft (by kernel_rfl) (fun hc => ?_) (fun hc => ?_)
    · replace hS := cond_t hc hS
      refine zrCondT (by kernel_rfl) ?_
      refine zrSeq ?_
      refine zrReg ?_
      refine zlRun (n := 2) (j := 2) rfl (by kernel_rfl) ?_
      refine zlEnd (by kernel_rfl) ?_
      refine zkSeq ?_
      refine zrRet ?_
      refine zkSeqR ?_
      refine zkNil ?_
      exact endQ hS hQ (fRet (by kernel_rfl) ((congrArg (fun s => outR s 0 c7.res) (by kernel_rfl : finSt c7.fin _ = f7_fin [] 4)).trans (f7_out [] 4)))
    · replace hS := cond_f hc hS
      refine zrCondF (by kernel_rfl) ?_
      refine zrSkip ?_
      refine zkSeq ?_
      exact f7_j2_ok hd a1 hQ  hS (by kernel_rfl)
  · replace hS := cond_f hc hS
    refine zlRun (n := 9) (j := 12) rfl (by kernel_rfl) ?_
    refine zlEnd (by kernel_rfl) ?_
    refine zkSeq ?_
    refine zrCondF (by kernel_rfl) ?_
    refine zrSkip ?_
    refine zkSeq ?_
    exact f7_j2_ok hd a1 hQ  hS (by kernel_rfl)
def f7_j0_J (a1 : List GRow) (p41 : Int) : St := ⟨(up (up (fun _ => .un) 4 (.d (.int .i64 p41))) 0 (.d (.sl a1.length (e_GRow.cells a1)))), (hB fun _ => 0)⟩
noncomputable def f7_j0 (a1 : List GRow) (p41 : Int) : Option ((List (List Int)) × Int) := (bif (decide (4500 < (a1.length : Int))) then (some ([], 2)) else (bif (decide (4000 < p41)) then (some ([], 2)) else (f7_j1 a1 )))
theorem f7_j0_ok {base : Orc} {d : Nat} (hd : 2 ≤ d) (a1 : List GRow) {r : (List (List Int)) × Int} {Q : PX → St → Prop} (hQ : ∀ e st', f7_Q r e st' → Q e st') (p41 : Int) (hS : f7_j0 a1 p41 = some r) {st : St} (he : keepSt [0, 4] [] [] st = f7_j0_J a1 p41) : ZR (lev codes base (d - 1)) Q c7_6 [] st := by
  refine zrKeep he ?_
  unfold f7_j0 at hS
  refine zrSeq ?_
  refine zrSeq ?_
  refine zrReg ?_
  refine zlRun (n := 2) (j := 2) rfl (by kernel_rfl) ?_
  refine zlBool (d := 25) (op := (.cmpI .gtr (.tmp 24) (.const (.int .i64 4500)))) (g := none) (j := 3) (decide (4500 < (a1.length : Int))) rfl (by kernel_rfl) (by kernel_rfl) (by kernel_rfl) (fun hc => ?_) (fun hc => ?_)
  · replace hS := cond_t hc hS
    refine zlRun (n := 4) (j := 7) rfl (by kernel_rfl) ?_
    refine zlEnd (by kernel_rfl) ?_
    refine zkSeq ?_
    refine zrCondT (by kernel_rfl) ?_
    refine zrSeq ?_
    refine zrReg ?_
    refine zlRun (n := 2) (j := 2) rfl (by kernel_rfl) ?_
    refine zlEnd (by kernel_rfl) ?_
    refine zkSeq ?_
    refine zrRet ?_
    refine zkSeqR ?_
    refine zkNil ?_
    exact endQ hS hQ (fRet (by kernel_rfl) ((congrArg (fun s => outR s 0 c7.res) (by kernel_rfl : finSt c7.fin _ = f7_fin [] 2)).trans (f7_out [] 2)))
  · replace hS := cond_f hc hS
    refine zlRun (n := 2) (j := 5) rfl (by kernel_rfl) ?_
    refine zlBool (d := 28) (op := (.cmpI .gtr (.tmp 27) (.const (.int .i64 4000)))) (g := (some (26, false))) (j := 6) (decide (4000 < p41)) rfl (by kernel_rfl) (by kernel_rfl) (by kernel_rfl) (fun hc => ?_) (fun hc => ?_)
    · replace hS := cond_t hc hS
      refine zlRun (n := 1) (j := 7) rfl (by kernel_rfl) ?_
      refine zlEnd (by kernel_rfl) ?_
      refine zkSeq ?_
      refine zrCondT (by kernel_rfl) ?_
      refine zrSeq ?_
      refine zrReg ?_
      refine zlRun (n := 2) (j := 2) rfl (by kernel_rfl) ?_
      refine zlEnd (by kernel_rfl) ?_
      refine zkSeq ?_
      refine zrRet ?_
      refine zkSeqR ?_
      refine zkNil ?_
      exact endQ hS hQ (fRet (by kernel_rfl) ((congrArg (fun s => outR s 0 c7.res) (by kernel_rfl : finSt c7.fin _ = f7_fin [] 2)).trans (f7_out [] 2)))
    · replace hS := cond_f hc hS
      refine zlRun (n := 1) (j := 7) rfl (by kernel_rfl) ?_
      refine zlEnd (by kernel_rfl) ?_
      refine zkSeq ?_
      refine zrCondF (by kernel_rfl) ?_
      refine zrSkip ?_
      refine zkSeq ?_
      exact f7_j1_ok hd a1 hQ  hS (by kernel_rfl)
def f7_l6_J (a1 : List GRow) (x : Int × Int) : St := ⟨(up (up (up (up (up (fun _ => .un) 13 (.d (.int .i64 x.2))) 12 (.d (.int .i64 (a1.length : Int)))) 11 (.d (.sl a1.length (e_GRow.cells a1)))) 4 (.d (.int .i64 x.1))) 0 (.d (.sl a1.length (e_GRow.cells a1)))), (hB fun _ => 0)⟩
def f7_l6_H (a1 : List GRow) (x : Int × Int) (st : St) : Prop := keepSt [0, 4, 11, 12, 13] [] [] st = f7_l6_J a1 x
def f7_l6_e0_J (a1 : List GRow) (p12 : Int) : St := ⟨(up (up (fun _ => .un) 4 (.d (.int .i64 p12))) 0 (.d (.sl a1.length (e_GRow.cells a1)))), (hB fun _ => 0)⟩
def f7_l6_X (a1 : List GRow) (z : Int) (e : PX) (st : St) : Prop := e = .exit 0 ∧ st = f7_l6_e0_J a1 z
def f7_l6_j8_J (a1 : List GRow) (p61 : Int) (p62 : Int) : St := ⟨(up (up (up (up (up (fun _ => .un) 13 (.d (.int .i64 p62))) 12 (.d (.int .i64 (a1.length : Int)))) 11 (.d (.sl a1.length (e_GRow.cells a1)))) 4 (.d (.int .i64 p61))) 0 (.d (.sl a1.length (e_GRow.cells a1)))), (hB fun _ => 0)⟩
noncomputable def f7_l6_j8 (a1 : List GRow) (p61 : Int) (p62 : Int) : Option ((Int × Int) ⊕ Int) := ((idx a1 p62).bind fun z24 => (some (.inl ((IntKind.i64.wrap (p61 + (z24.Runes.length : Int))), (IntKind.i64.wrap (p62 + 1))))))
theorem f7_l6_j8_ok {base : Orc} {d : Nat} (hd : 2 ≤ d) (a1 : List GRow) {r : (Int × Int) ⊕ Int} {Q : PX → St → Prop} (hQ : ∀ e st', finL (f7_l6_H a1) (f7_l6_X a1) r e st' → Q e st') (p61 : Int) (p62 : Int) (hS : f7_l6_j8 a1 p61 p62 = some r) {st : St} (he : keepSt [0, 4, 11, 12, 13] [] [] st = f7_l6_j8_J a1 p61 p62) : ZR (lev codes base (d - 1)) Q c7_7 [] st := by
  refine zrKeep he ?_
  unfold f7_l6_j8 at hS
  refine zrSeq ?_
  refine zrBlk ?_
  refine zrSeq ?_
  refine zrReg ?_
  refine bindE hS (fun z24 hz24 hS => ?_)
  refine zlOp (d := some 15) (op := (.ixS 35 2 (.tmp 11) (.tmp 13))) (g := none) (v := (.rptr (e_GRow.enc z24 ++ (e_GRow.cells (a1.drop ((p62 : Int).toNat + 1)))))) (ups := []) (j := 1) rfl (by kernel_rfl) (by kernel_rfl) (ev_ixS e_GRow (kk := .i64) (xs := a1) (j := p62) (by kernel_rfl) (by kernel_rfl) hz24 rfl (by intro h; cases h)) ?_
  refine zlRun (n := 3) (j := 4) rfl (by kernel_rfl) ?_
  refine zlEnd (by kernel_rfl) ?_
  refine zkSeq ?_
  refine zrReg ?_
  refine zlRun (n := 6) (j := 6) rfl (by kernel_rfl) ?_
  refine zlEnd (by kernel_rfl) ?_
  refine zkBlk ?_
  refine zkSeq ?_
  refine zrReg ?_
  refine zlRun (n := 2) (j := 2) rfl (by kernel_rfl) ?_
  refine zlEnd (by kernel_rfl) ?_
  refine zkNil ?_
  exact endQ hS hQ (finL_n (by show keepSt _ _ _ _ = _; kernel_rfl))
def f7_l6_j7_J (a1 : List GRow) (p58 : Int) (p59 : Int) (p60 : Bool) : St := ⟨(up (up (up (up (up (up (fun _ => .un) 14 (.d (.bool p60))) 13 (.d (.int .i64 p59))) 12 (.d (.int .i64 (a1.length : Int)))) 11 (.d (.sl a1.length (e_GRow.cells a1)))) 4 (.d (.int .i64 p58))) 0 (.d (.sl a1.length (e_GRow.cells a1)))), (hB fun _ => 0)⟩
noncomputable def f7_l6_j7 (a1 : List GRow) (p58 : Int) (p59 : Int) (p60 : Bool) : Option ((Int × Int) ⊕ Int) := (bif p60 then (f7_l6_j8 a1 p58 p59) else (some (.inr p58)))
theorem f7_l6_j7_ok {base : Orc} {d : Nat} (hd : 2 ≤ d) (a1 : List GRow) {r : (Int × Int) ⊕ Int} {Q : PX → St → Prop} (hQ : ∀ e st', finL (f7_l6_H a1) (f7_l6_X a1) r e st' → Q e st') (p58 : Int) (p59 : Int) (p60 : Bool) (hS : f7_l6_j7 a1 p58 p59 p60 = some r) {st : St} (he : keepSt [0, 4, 11, 12, 13, 14] [] [] st = f7_l6_j7_J a1 p58 p59 p60) : ZR (lev codes base (d - 1)) Q c7_8 [] st := by
  refine zrKeep he ?_
  unfold f7_l6_j7 at hS
  refine zrSeq ?_
  refine zrSplit 14 p60 (by kernel_rfl) (fun hc => ?_) (fun hc => ?_)
  · replace hS := cond_t hc hS
    refine zrCondT (by kernel_rfl) ?_
    refine zrSkip ?_
    refine zkSeq ?_
    exact f7_l6_j8_ok hd a1 hQ p58 p59 hS (by kernel_rfl)
  · replace hS := cond_f hc hS
    refine zrCondF (by kernel_rfl) ?_
    refine zrKeep (J := f7_l6_e0_J a1 p58) (by kernel_rfl) ?_
    refine zrExit ?_
    refine zkSeqX ?_
    refine zkNil ?_
    exact endQ hS hQ (finL_x (by intro h; cases h) (by show _ = _ ∧ _ = _; exact ⟨rfl, rfl⟩))
noncomputable def f7_l6 (a1 : List GRow) (x : Int × Int) : Option ((Int × Int) ⊕ Int) := (bif (decide (x.2 < (a1.length : Int))) then (f7_l6_j7 a1 x.1 x.2 true) else (f7_l6_j7 a1 x.1 x.2 false))
theorem f7_l6_ok {base : Orc} {d : Nat} (hd : 2 ≤ d) (a1 : List GRow) {r : (Int × Int) ⊕ Int} {Q : PX → St → Prop} (hQ : ∀ e st', finL (f7_l6_H a1) (f7_l6_X a1) r e st' → Q e st') {x : Int × Int} (hS : f7_l6 a1 x = some r) {st : St} (he : f7_l6_H a1 x st) : ZR (lev codes base (d - 1)) Q c7_9 [] st := by
  refine zrKeep he ?_
  unfold f7_l6 at hS
  refine zrSeq ?_
  refine zrReg ?_
  refine zlBool (d := 14) (op := (.cmpI .lss (.tmp 13) (.tmp 12))) (g := none) (j := 1) (decide (x.2 < (a1.length : Int))) rfl (by kernel_rfl) (by kernel_rfl) (by kernel_rfl) (fun hc => ?_) (fun hc => ?_)
  · replace hS := cond_t hc hS
    refine zlEnd (by kernel_rfl) ?_
    refine zkSeq ?_
    exact f7_l6_j7_ok hd a1 hQ x.1 x.2 true hS (by kernel_rfl)
  · replace hS := cond_f hc hS
    refine zlEnd (by kernel_rfl) ?_
    refine zkSeq ?_
    exact f7_l6_j7_ok hd a1 hQ x.1 x.2 false hS (by kernel_rfl)
noncomputable def f7 (a1 : List GRow) : Option ((List (List Int)) × Int) := ((loopO (f7_l6 a1) (0, 0)).bind fun z25 => (f7_j0 a1 z25))
theorem f7_ok (base : Orc) (d : Nat) (hd : 2 ≤ d) (a1 : List GRow) (r : (List (List Int)) × Int) (hS : f7 a1 = some r) : lev codes base d 7 [(.d (.sl a1.length (e_GRow.cells a1)))] [] = some ((.tup [(.r (.own 0 32 1 r.1.length ((eSl (eInt .i64)).cells r.1))), (.d (.int .i64 r.2))]), []) := by
  refine lev_go codes7 rfl rfl (Nat.le_trans (Nat.le_of_ble_eq_true rfl) hd) fun Q hQ => ?_
  unfold f7 at hS
  show ZR _ Q c7_b [] _
  replace hQ : ∀ e st', f7_Q r e st' → Q e st' := hQ
  refine zrSeq ?_
  refine zrReg ?_
  refine zlRun (n := 2) (j := 2) rfl (by kernel_rfl) ?_
  refine zlEnd (by kernel_rfl) ?_
  refine zkSeq ?_
  refine zrSeq ?_
  refine zrReg ?_
  refine zlRun (n := 1) (j := 1) rfl (by kernel_rfl) ?_
  refine zlEnd (by kernel_rfl) ?_
  refine zkSeq ?_
  refine zrSeq ?_
  refine zrSeq ?_
  refine zrReg ?_
  refine zlRun (n := 3) (j := 3) rfl (by kernel_rfl) ?_
  refine zlEnd (by kernel_rfl) ?_
  refine zkSeq ?_
  refine zrBlk ?_
  refine bindE hS (fun z25 hz25 hS => ?_)
  refine zrLoop (f7_l6_H a1) (f7_l6_X a1) (fun x st r Q h0 hS hQ => f7_l6_ok hd a1 hQ hS h0) (x := (0, 0)) (z := z25) (by show keepSt _ _ _ _ = _; kernel_rfl) hz25 ?_
  intro e st' _ hX
  obtain ⟨rfl, rfl⟩ : _ ∧ _ := hX
  refine zkBlkX ?_
  refine zkSeq ?_
  exact f7_j0_ok hd a1 hQ z25 hS (by kernel_rfl)
/- farwriter/flow.Again -/
def f10_fin (p5 : List GRow) (p6 : Int) : St := ⟨(up (up (fun _ => .un) 5 (.d (.int .i64 p6))) 4 (.r (.msl 201 0 0 p5.length))), (up (hB fun _ => 0) 201 ⟨0, some (.own 35 2 (e_GRow.cells p5))⟩)⟩
theorem f10_out (p5 : List GRow) (p6 : Int) : outR (f10_fin p5 p6) 0 c10.res = some ((.tup [(.r (.own 0 35 2 p5.length (e_GRow.cells p5))), (.d (.int .i64 p6))]), []) := by
  exact out_of (ids := []) (ids' := [201]) (l := [(.r (.msl 201 0 0 p5.length)), (.d (.int .i64 p6))]) (by kernel_rfl) (by kernel_rfl) (o_tup (o_cons (o_own e_GRow (e := 35) (k := 2) (xs := p5) (by kernel_rfl) rfl rfl rfl rfl) (o_cons rfl o_nil)))
def f10_Q (r : (List GRow) × Int) (e : PX) (st : St) : Prop := DoneF c10 0 ((.tup [(.r (.own 0 35 2 r.1.length (e_GRow.cells r.1))), (.d (.int .i64 r.2))]), []) e st
def f10_j0_J (a1 : List GRow) (a2 : Int) (p10 : List (List Int)) : St := ⟨(up (up (fun _ => .un) 6 (.r (.msl 88 0 0 p10.length))) 1 (.d (.int .i64 a2))), (up (hB fun _ => 0) 88 ⟨0, some (.own 32 1 ((eSl (eInt .i64)).cells p10))⟩)⟩
noncomputable def f10_j0 (a1 : List GRow) (a2 : Int) (p10 : List (List Int)) : Option ((List GRow) × Int) := ((f5 p10 a2).bind fun z4 => (some (z4.1, z4.2)))
theorem f10_j0_ok {base : Orc} {d : Nat} (hd : 6 ≤ d) (a1 : List GRow) (a2 : Int) {r : (List GRow) × Int} {Q : PX → St → Prop} (hQ : ∀ e st', f10_Q r e st' → Q e st') (p10 : List (List Int)) (hS : f10_j0 a1 a2 p10 = some r) {st : St} (he : keepSt [1, 6] [(88, .id 88)] [] st = f10_j0_J a1 a2 p10) : ZR (lev codes base (d - 1)) Q c10_1 [] st := by
  refine zrKeep he ?_
  unfold f10_j0 at hS
  refine zrSeq ?_
  refine zrReg ?_
  refine zlRun (n := 2) (j := 2) rfl (by kernel_rfl) ?_
  refine bindE hS (fun z4 hz4 hS => ?_)
  refine zlOp (d := some 18) (op := (.callf 5 [(.tmp 16), (.tmp 17)])) (g := none) (v := (.tup [(.r (.msl 152 1 0 z4.1.length)), (.d (.int .i64 z4.2))])) (ups := [(88, ⟨1, none⟩), (152, ⟨1, some (.own 35 2 (e_GRow.cells z4.1))⟩)]) (j := 3) rfl (by kernel_rfl) (by kernel_rfl) (ev_callF (args := [(.r (.msl 88 0 0 p10.length)), (.d (.int .i64 a2))]) (args' := [(.d (.sl p10.length ((eSl (eInt .i64)).cells p10))), (.d (.int .i64 a2))]) (l := [(.d (.sl p10.length ((eSl (eInt .i64)).cells p10))), (.d (.int .i64 a2))]) (refs := [88]) (r := (.tup [(.r (.own 0 35 2 z4.1.length (e_GRow.cells z4.1))), (.d (.int .i64 z4.2))])) (v := (.tup [(.r (.msl 152 1 0 z4.1.length)), (.d (.int .i64 z4.2))])) (ups' := [(152, ⟨1, some (.own 35 2 (e_GRow.cells z4.1))⟩)]) (by kernel_rfl) (by kernel_rfl) (by kernel_rfl) (fz_cons (fz_own (eSl (eInt .i64)) (e := 32) (k := 1) (xs := p10) (by kernel_rfl) (by kernel_rfl) rfl rfl) (fz_cons rfl fz_nil)) (by kernel_rfl) (f5_ok base (d - 1) (dpt hd rfl) p10 a2 z4 hz4) (by kernel_rfl) (by kernel_rfl) (by kernel_rfl) (by kernel_rfl)) ?_
  refine zlRun (n := 4) (j := 7) rfl (by kernel_rfl) ?_
  refine zlEnd (by kernel_rfl) ?_
  refine zkSeq ?_
  refine zrRet ?_
  refine zkNil ?_
  exact endQ hS hQ (fRet (by kernel_rfl) ((congrArg (fun s => outR s 0 c10.res) (by kernel_rfl : finSt c10.fin _ = f10_fin z4.1 z4.2)).trans (f10_out z4.1 z4.2)))
noncomputable def f10 (a1 : List GRow) (a2 : Int) : Option ((List GRow) × Int) := ((f7 a1).bind fun z3 => (bif (!decide (z3.2 = 0)) then (some ([], z3.2)) else (f10_j0 a1 a2 z3.1)))
theorem f10_ok (base : Orc) (d : Nat) (hd : 6 ≤ d) (a1 : List GRow) (a2 : Int) (r : (List GRow) × Int) (hS : f10 a1 a2 = some r) : lev codes base d 10 [(.d (.sl a1.length (e_GRow.cells a1))), (.d (.int .i64 a2))] [] = some ((.tup [(.r (.own 0 35 2 r.1.length (e_GRow.cells r.1))), (.d (.int .i64 r.2))]), []) := by
  refine lev_go codes10 rfl rfl (Nat.le_trans (Nat.le_of_ble_eq_true rfl) hd) fun Q hQ => ?_
  unfold f10 at hS
  show ZR _ Q c10_b [] _
  replace hQ : ∀ e st', f10_Q r e st' → Q e st' := hQ
  refine zrSeq ?_
  refine zrReg ?_
  refine zlRun (n := 2) (j := 2) rfl (by kernel_rfl) ?_
  refine zlEnd (by kernel_rfl) ?_
  refine zkSeq ?_
  refine zrSeq ?_
  refine zrReg ?_
  refine zlRun (n := 1) (j := 1) rfl (by kernel_rfl) ?_
  refine bindE hS (fun z3 hz3 hS => ?_)
  refine zlOp (d := some 10) (op := (.callf 7 [(.tmp 9)])) (g := none) (v := (.tup [(.r (.msl 88 1 0 z3.1.length)), (.d (.int .i64 z3.2))])) (ups := [(88, ⟨1, some (.own 32 1 ((eSl (eInt .i64)).cells z3.1))⟩)]) (j := 2) rfl (by kernel_rfl) (by kernel_rfl) (ev_callF (args := [(.d (.sl a1.length (e_GRow.cells a1)))]) (args' := [(.d (.sl a1.length (e_GRow.cells a1)))]) (l := [(.d (.sl a1.length (e_GRow.cells a1)))]) (refs := []) (r := (.tup [(.r (.own 0 32 1 z3.1.length ((eSl (eInt .i64)).cells z3.1))), (.d (.int .i64 z3.2))])) (v := (.tup [(.r (.msl 88 1 0 z3.1.length)), (.d (.int .i64 z3.2))])) (ups' := [(88, ⟨1, some (.own 32 1 ((eSl (eInt .i64)).cells z3.1))⟩)]) (by kernel_rfl) (by kernel_rfl) (by kernel_rfl) (fz_cons rfl fz_nil) (by kernel_rfl) (f7_ok base (d - 1) (dpt hd rfl) a1 z3 hz3) (by kernel_rfl) (by kernel_rfl) (by kernel_rfl) (by kernel_rfl)) ?_
  refine zlRun (n := 5) (j := 7) rfl (by kernel_rfl) ?_
  refine zlEnd (by kernel_rfl) ?_
  refine zkSeq ?_
  refine zrSeq ?_
  refine zrSeq ?_
  refine zrReg ?_
  refine zlRun (n := 1) (j := 1) rfl (by kernel_rfl) ?_
  refine zlBool (d := 14) (op := (.cmpI .neq (.tmp 13) (.const (.int .i64 0)))) (g := none) (j := 2) (!decide (z3.2 = 0)) rfl (by kernel_rfl) (by kernel_rfl) (by kernel_rfl) (fun hc => ?_) (fun hc => ?_)
  · replace hS := cond_t hc hS
    refine zlEnd (by kernel_rfl) ?_
    refine zkSeq ?_
    refine zrCondT (by kernel_rfl) ?_
    refine zrSeq ?_
    refine zrReg ?_
    refine zlRun (n := 3) (j := 3) rfl (by kernel_rfl) ?_
    refine zlEnd (by kernel_rfl) ?_
    refine zkSeq ?_
    refine zrRet ?_
    refine zkSeqR ?_
    refine zkNil ?_
    exact endQ hS hQ (fRet (by kernel_rfl) ((congrArg (fun s => outR s 0 c10.res) (by kernel_rfl : finSt c10.fin _ = f10_fin [] z3.2)).trans (f10_out [] z3.2)))
  · replace hS := cond_f hc hS
    refine zlEnd (by kernel_rfl) ?_
    refine zkSeq ?_
    refine zrCondF (by kernel_rfl) ?_
    refine zrSkip ?_
    refine zkSeq ?_
    exact f10_j0_ok hd a1 a2 hQ z3.1 hS (by kernel_rfl)
/- slices.Equal[[]int,int] -/
def f17_fin (p14 : Bool) : St := ⟨(up (fun _ => .un) 4 (.d (.bool p14))), (hB fun _ => 0)⟩
theorem f17_out (p14 : Bool) : outR (f17_fin p14) 0 c17.res = some ((.d (.bool p14)), []) := by
  kernel_rfl
def f17_Q (r : Bool) (e : PX) (st : St) : Prop := DoneF c17 0 ((.d (.bool r)), []) e st
def f17_l1_J (a1 : List Int) (a2 : List Int) (x : Int) : St := ⟨(up (up (up (up (fun _ => .un) 13 (.d (.int .i64 x))) 12 (.d (.int .i64 (a1.length : Int)))) 1 (.d (.sl a2.length ((eInt .i64).cells a2)))) 0 (.d (.sl a1.length ((eInt .i64).cells a1)))), (hB fun _ => 0)⟩
def f17_l1_H (a1 : List Int) (a2 : List Int) (x : Int) (st : St) : Prop := keepSt [0, 1, 12, 13] [] [] st = f17_l1_J a1 a2 x
def f17_l1_e0_J (a1 : List Int) (a2 : List Int) : St := ⟨(fun _ => .un), (hB fun _ => 0)⟩
def f17_l1_X (a1 : List Int) (a2 : List Int) (z : Unit ⊕ Bool) (e : PX) (st : St) : Prop := (match z with | .inl z => e = .exit 0 ∧ st = f17_l1_e0_J a1 a2 | .inr z => e = .ret ∧ finSt c17.fin st = f17_fin z)
def f17_l1_j3_J (a1 : List Int) (a2 : List Int) (p20 : Int) : St := ⟨(up (up (up (up (fun _ => .un) 13 (.d (.int .i64 p20))) 12 (.d (.int .i64 (a1.length : Int)))) 1 (.d (.sl a2.length ((eInt .i64).cells a2)))) 0 (.d (.sl a1.length ((eInt .i64).cells a1)))), (hB fun _ => 0)⟩
noncomputable def f17_l1_j3 (a1 : List Int) (a2 : List Int) (p20 : Int) : Option (Int ⊕ (Unit ⊕ Bool)) := ((idx a1 p20).bind fun z7 => ((idx a2 p20).bind fun z8 => (bif (!decide (z7 = z8)) then (some (.inr (.inr false))) else (some (.inl (IntKind.i64.wrap (p20 + 1)))))))
theorem f17_l1_j3_ok {base : Orc} {d : Nat} (hd : 1 ≤ d) (a1 : List Int) (a2 : List Int) {r : Int ⊕ (Unit ⊕ Bool)} {Q : PX → St → Prop} (hQ : ∀ e st', finL (f17_l1_H a1 a2) (f17_l1_X a1 a2) r e st' → Q e st') (p20 : Int) (hS : f17_l1_j3 a1 a2 p20 = some r) {st : St} (he : keepSt [0, 1, 12, 13] [] [] st = f17_l1_j3_J a1 a2 p20) : ZR (lev codes base (d - 1)) Q c17_1 [] st := by
  refine zrKeep he ?_
  unfold f17_l1_j3 at hS
  refine zrSeq ?_
  refine zrBlk ?_
  refine zrSeq ?_
  refine zrReg ?_
  refine zlRun (n := 2) (j := 2) rfl (by kernel_rfl) ?_
  refine zlEnd (by kernel_rfl) ?_
  refine zkSeq ?_
  refine zrSeq ?_
  refine zrRegD ?_
  refine zdRun (n := 2) (j := 2) (ts := [[], []]) (acc' := [[], []]) rfl (by kernel_rfl) (by kernel_rfl) (by kernel_rfl) ?_
  refine bindE hS (fun z7 hz7 hS => ?_)
  refine zdOp (d := some 18) (op := (.ixS 3 1 (.tmp 16) (.tmp 17))) (g := none) (v := (.rptr ((eInt .i64).enc z7 ++ ((eInt .i64).cells (a1.drop ((p20 : Int).toNat + 1)))))) (ups := []) (j := 3) (t1 := []) (acc' := [[], [], []]) (by kernel_rfl) (by kernel_rfl) rfl (by kernel_rfl) (by kernel_rfl) (ev_ixS (eInt .i64) (kk := .i64) (xs := a1) (j := p20) (by kernel_rfl) (by kernel_rfl) hz7 rfl (by intro h; cases h)) ?_
  refine zdRun (n := 3) (j := 6) (ts := [[], [], []]) (acc' := [[], [], [], [], [], []]) rfl (by kernel_rfl) (by kernel_rfl) (by kernel_rfl) ?_
  refine bindE hS (fun z8 hz8 hS => ?_)
  refine zdOp (d := some 22) (op := (.ixS 3 1 (.tmp 20) (.tmp 21))) (g := none) (v := (.rptr ((eInt .i64).enc z8 ++ ((eInt .i64).cells (a2.drop ((p20 : Int).toNat + 1)))))) (ups := []) (j := 7) (t1 := []) (acc' := [[], [], [], [], [], [], []]) (by kernel_rfl) (by kernel_rfl) rfl (by kernel_rfl) (by kernel_rfl) (ev_ixS (eInt .i64) (kk := .i64) (xs := a2) (j := p20) (by kernel_rfl) (by kernel_rfl) hz8 rfl (by intro h; cases h)) ?_
  refine zdRun (n := 1) (j := 8) (ts := [[]]) (acc' := [[], [], [], [], [], [], [], []]) rfl (by kernel_rfl) (by kernel_rfl) (by kernel_rfl) ?_
  refine zdBool (d := 24) (op := (.cmpI .neq (.tmp 19) (.tmp 23))) (g := none) (j := 9) (t1 := []) (acc' := [[], [], [], [], [], [], [], [], []]) (!decide (z7 = z8)) (by kernel_rfl) (by kernel_rfl) rfl (by kernel_rfl) (by kernel_rfl) (by kernel_rfl) (fun hc => ?_) (fun hc => ?_)
  · replace hS := cond_t hc hS
    refine zdEnd (by kernel_rfl) (by kernel_rfl) ?_
    refine zkSeq ?_
    refine zrCondT (by kernel_rfl) ?_
    refine zrSeq ?_
    refine zrReg ?_
    refine zlRun (n := 1) (j := 1) rfl (by kernel_rfl) ?_
    refine zlEnd (by kernel_rfl) ?_
    refine zkSeq ?_
    refine zrRet ?_
    refine zkBlkR ?_
    refine zkSeqR ?_
    refine zkNil ?_
    exact endQ hS hQ (finL_x (by intro h; cases h) (by show _ = _ ∧ _ = _; exact ⟨rfl, by kernel_rfl⟩))
  · replace hS := cond_f hc hS
    refine zdEnd (by kernel_rfl) (by kernel_rfl) ?_
    refine zkSeq ?_
    refine zrCondF (by kernel_rfl) ?_
    refine zrSkip ?_
    refine zkBlk ?_
    refine zkSeq ?_
    refine zrReg ?_
    refine zlRun (n := 2) (j := 2) rfl (by kernel_rfl) ?_
    refine zlEnd (by kernel_rfl) ?_
    refine zkNil ?_
    exact endQ hS hQ (finL_n (by show keepSt _ _ _ _ = _; kernel_rfl))
def f17_l1_j2_J (a1 : List Int) (a2 : List Int) (p18 : Int) (p19 : Bool) : St := ⟨(up (up (up (up (up (fun _ => .un) 14 (.d (.bool p19))) 13 (.d (.int .i64 p18))) 12 (.d (.int .i64 (a1.length : Int)))) 1 (.d (.sl a2.length ((eInt .i64).cells a2)))) 0 (.d (.sl a1.length ((eInt .i64).cells a1)))), (hB fun _ => 0)⟩
noncomputable def f17_l1_j2 (a1 : List Int) (a2 : List Int) (p18 : Int) (p19 : Bool) : Option (Int ⊕ (Unit ⊕ Bool)) := (bif p19 then (f17_l1_j3 a1 a2 p18) else (some (.inr (.inl ()))))
theorem f17_l1_j2_ok {base : Orc} {d : Nat} (hd : 1 ≤ d) (a1 : List Int) (a2 : List Int) {r : Int ⊕ (Unit ⊕ Bool)} {Q : PX → St → Prop} (hQ : ∀ e st', finL (f17_l1_H a1 a2) (f17_l1_X a1 a2) r e st' → Q e st') (p18 : Int) (p19 : Bool) (hS : f17_l1_j2 a1 a2 p18 p19 = some r) {st : St} (he : keepSt [0, 1, 12, 13, 14] [] [] st = f17_l1_j2_J a1 a2 p18 p19) : ZR (lev codes base (d - 1)) Q c17_2 [] st := by
  refine zrKeep he ?_
  unfold f17_l1_j2 at hS
  refine zrSeq ?_
  refine zrSplit 14 p19 (by kernel_rfl) (fun hc => ?_) (fun hc => ?_)
  · replace hS := cond_t hc hS
    refine zrCondT (by kernel_rfl) ?_
    refine zrSkip ?_
    refine zkSeq ?_
    exact f17_l1_j3_ok hd a1 a2 hQ p18 hS (by kernel_rfl)
  · replace hS := cond_f hc hS
    refine zrCondF (by kernel_rfl) ?_
    refine zrKeep (J := f17_l1_e0_J a1 a2) (by kernel_rfl) ?_
    refine zrExit ?_
    refine zkSeqX ?_
    refine zkNil ?_
    exact endQ hS hQ (finL_x (by intro h; cases h) (by show _ = _ ∧ _ = _; exact ⟨rfl, rfl⟩))
noncomputable def f17_l1 (a1 : List Int) (a2 : List Int) (x : Int) : Option (Int ⊕ (Unit ⊕ Bool)) := (bif (decide (x < (a1.length : Int))) then (f17_l1_j2 a1 a2 x true) else (f17_l1_j2 a1 a2 x false))
theorem f17_l1_ok {base : Orc} {d : Nat} (hd : 1 ≤ d) (a1 : List Int) (a2 : List Int) {r : Int ⊕ (Unit ⊕ Bool)} {Q : PX → St → Prop} (hQ : ∀ e st', finL (f17_l1_H a1 a2) (f17_l1_X a1 a2) r e st' → Q e st') {x : Int} (hS : f17_l1 a1 a2 x = some r) {st : St} (he : f17_l1_H a1 a2 x st) : ZR (lev codes base (d - 1)) Q c17_3 [] st := by
  refine zrKeep he ?_
  unfold f17_l1 at hS
  refine zrSeq ?_
  refine zrReg ?_
  refine zlBool (d := 14) (op := (.cmpI .lss (.tmp 13) (.tmp 12))) (g := none) (j := 1) (decide (x < (a1.length : Int))) rfl (by kernel_rfl) (by kernel_rfl) (by kernel_rfl) (fun hc => ?_) (fun hc => ?_)
  · replace hS := cond_t hc hS
    refine zlEnd (by kernel_rfl) ?_
    refine zkSeq ?_
    exact f17_l1_j2_ok hd a1 a2 hQ x true hS (by kernel_rfl)
  · replace hS := cond_f hc hS
    refine zlEnd (by kernel_rfl) ?_
    refine zkSeq ?_
    exact f17_l1_j2_ok hd a1 a2 hQ x false hS (by kernel_rfl)
def f17_j0_J (a1 : List Int) (a2 : List Int) : St := ⟨(up (up (fun _ => .un) 1 (.d (.sl a2.length ((eInt .i64).cells a2)))) 0 (.d (.sl a1.length ((eInt .i64).cells a1)))), (hB fun _ => 0)⟩
noncomputable def f17_j0 (a1 : List Int) (a2 : List Int) : Option (Bool) := ((loopO (f17_l1 a1 a2) 0).bind fun z9 => (Sum.elim (fun z10 => (some true)) (fun z11 => (some z11)) z9))
theorem f17_j0_ok {base : Orc} {d : Nat} (hd : 1 ≤ d) (a1 : List Int) (a2 : List Int) {r : Bool} {Q : PX → St → Prop} (hQ : ∀ e st', f17_Q r e st' → Q e st')  (hS : f17_j0 a1 a2 = some r) {st : St} (he : keepSt [0, 1] [] [] st = f17_j0_J a1 a2) : ZR (lev codes base (d - 1)) Q c17_4 [] st := by
  refine zrKeep he ?_
  unfold f17_j0 at hS
  refine zrSeq ?_
  refine zrSeq ?_
  refine zrReg ?_
  refine zlRun (n := 3) (j := 3) rfl (by kernel_rfl) ?_
  refine zlEnd (by kernel_rfl) ?_
  refine zkSeq ?_
  refine zrBlk ?_
  refine bindE hS (fun z9 hz9 hS => ?_)
  refine zrLoop (f17_l1_H a1 a2) (f17_l1_X a1 a2) (fun x st r Q h0 hS hQ => f17_l1_ok hd a1 a2 hQ hS h0) (x := 0) (z := z9) (by show keepSt _ _ _ _ = _; kernel_rfl) hz9 ?_
  rcases z9 with z10 | z11
  · replace hS := (show _ = _ from hS)
    simp only [Sum.elim_inl] at hS
    intro e st' _ hX
    obtain ⟨rfl, rfl⟩ : _ ∧ _ := hX
    refine zkBlkX ?_
    refine zkSeq ?_
    refine zrSeq ?_
    refine zrReg ?_
    refine zlRun (n := 1) (j := 1) rfl (by kernel_rfl) ?_
    refine zlEnd (by kernel_rfl) ?_
    refine zkSeq ?_
    refine zrRet ?_
    refine zkNil ?_
    exact endQ hS hQ (fRet (by kernel_rfl) ((congrArg (fun s => outR s 0 c17.res) (by kernel_rfl : finSt c17.fin _ = f17_fin true)).trans (f17_out true)))
  · simp only [Sum.elim_inr] at hS
    intro e st' _ hX
    obtain ⟨rfl, hX⟩ : _ ∧ _ := hX
    refine zkBlkR ?_
    refine zkSeqR ?_
    refine zkNil ?_
    exact endQ hS hQ (fRet (by kernel_rfl) ((congrArg (fun s => outR s 0 c17.res) hX).trans (f17_out z11)))
noncomputable def f17 (a1 : List Int) (a2 : List Int) : Option (Bool) := (bif (!decide ((a1.length : Int) = (a2.length : Int))) then (some false) else (f17_j0 a1 a2 ))
theorem f17_ok (base : Orc) (d : Nat) (hd : 1 ≤ d) (a1 : List Int) (a2 : List Int) (r : Bool) (hS : f17 a1 a2 = some r) : lev codes base d 17 [(.d (.sl a1.length ((eInt .i64).cells a1))), (.d (.sl a2.length ((eInt .i64).cells a2)))] [] = some ((.d (.bool r)), []) := by
  refine lev_go codes17 rfl rfl (Nat.le_trans (Nat.le_of_ble_eq_true rfl) hd) fun Q hQ => ?_
  unfold f17 at hS
  show ZR _ Q c17_b [] _
  replace hQ : ∀ e st', f17_Q r e st' → Q e st' := hQ
  refine zrSeq ?_
  refine zrReg ?_
  refine zlRun (n := 1) (j := 1) rfl (by kernel_rfl) ?_
  refine zlEnd (by kernel_rfl) ?_
  refine zkSeq ?_
  refine zrSeq ?_
  refine zrSeq ?_
  refine zrReg ?_
  refine zlRun (n := 4) (j := 4) rfl (by kernel_rfl) ?_
  refine zlBool (d := 10) (op := (.cmpI .neq (.tmp 7) (.tmp 9))) (g := none) (j := 5) (!decide ((a1.length : Int) = (a2.length : Int))) rfl (by kernel_rfl) (by kernel_rfl) (by kernel_rfl) (fun hc => ?_) (fun hc => ?_)
  · replace hS := cond_t hc hS
    refine zlEnd (by kernel_rfl) ?_
    refine zkSeq ?_
    refine zrCondT (by kernel_rfl) ?_
    refine zrSeq ?_
    refine zrReg ?_
    refine zlRun (n := 1) (j := 1) rfl (by kernel_rfl) ?_
    refine zlEnd (by kernel_rfl) ?_
    refine zkSeq ?_
    refine zrRet ?_
    refine zkSeqR ?_
    refine zkNil ?_
    exact endQ hS hQ (fRet (by kernel_rfl) ((congrArg (fun s => outR s 0 c17.res) (by kernel_rfl : finSt c17.fin _ = f17_fin false)).trans (f17_out false)))
  · replace hS := cond_f hc hS
    refine zlEnd (by kernel_rfl) ?_
    refine zkSeq ?_
    refine zrCondF (by kernel_rfl) ?_
    refine zrSkip ?_
    refine zkSeq ?_
    exact f17_j0_ok hd a1 a2 hQ  hS (by kernel_rfl)
/- farwriter/farref.SameLines$1 -/
def f16_fin (p1 : Bool) : St := ⟨(up (fun _ => .un) 4 (.d (.bool p1))), (hB fun _ => 0)⟩
theorem f16_out (p1 : Bool) : outR (f16_fin p1) 0 c16.res = some ((.d (.bool p1)), []) := by
  kernel_rfl
def f16_Q (r : Bool) (e : PX) (st : St) : Prop := DoneF c16 0 ((.d (.bool r)), []) e st
noncomputable def f16 (a1 : List Int) (a2 : List Int) : Option (Bool) := ((f17 a1 a2).bind fun z2 => (some z2))
theorem f16_ok (base : Orc) (d : Nat) (hd : 2 ≤ d) (a1 : List Int) (a2 : List Int) (r : Bool) (hS : f16 a1 a2 = some r) : lev codes base d 16 [(.d (.sl a1.length ((eInt .i64).cells a1))), (.d (.sl a2.length ((eInt .i64).cells a2)))] [] = some ((.d (.bool r)), []) := by
  refine lev_go codes16 rfl rfl (Nat.le_trans (Nat.le_of_ble_eq_true rfl) hd) fun Q hQ => ?_
  unfold f16 at hS
  show ZR _ Q c16_b [] _
  replace hQ : ∀ e st', f16_Q r e st' → Q e st' := hQ
  refine zrSeq ?_
  refine zrReg ?_
  refine zlRun (n := 1) (j := 1) rfl (by kernel_rfl) ?_
  refine zlEnd (by kernel_rfl) ?_
  refine zkSeq ?_
  refine zrSeq ?_
  refine zrReg ?_
  refine zlRun (n := 2) (j := 2) rfl (by kernel_rfl) ?_
  refine bindE hS (fun z2 hz2 hS => ?_)
  refine zlOp (d := some 7) (op := (.call 17 [(.tmp 5), (.tmp 6)])) (g := none) (j := 3) rfl (by kernel_rfl) (by kernel_rfl) (ev_callA (by kernel_rfl) (f17_ok base (d - 1) (dpt hd rfl) a1 a2 z2 hz2) (by kernel_rfl) (by kernel_rfl)) ?_
  refine zlRun (n := 1) (j := 4) rfl (by kernel_rfl) ?_
  refine zlEnd (by kernel_rfl) ?_
  refine zkSeq ?_
  refine zrRet ?_
  refine zkNil ?_
  exact endQ hS hQ (fRet (by kernel_rfl) ((congrArg (fun s => outR s 0 c16.res) (by kernel_rfl : finSt c16.fin _ = f16_fin z2)).trans (f16_out z2)))
/- slices.EqualFunc[[][]int,[][]int,[]int,[]int] -/
def f15_fin (p9 : Bool) : St := ⟨(up (fun _ => .un) 6 (.d (.bool p9))), (hB fun _ => 0)⟩
theorem f15_out (p9 : Bool) : outR (f15_fin p9) 0 c15.res = some ((.d (.bool p9)), []) := by
  kernel_rfl
def f15_Q (r : Bool) (e : PX) (st : St) : Prop := DoneF c15 0 ((.d (.bool r)), []) e st
def f15_l1_J (a1 : List (List Int)) (a2 : List (List Int)) (x : Int) : St := ⟨(up (up (up (up (up (fun _ => .un) 17 (.d (.int .i64 x))) 16 (.d (.int .i64 (a1.length : Int)))) 15 (.d (.sl a1.length ((eSl (eInt .i64)).cells a1)))) 2 (.fn 16 [])) 1 (.d (.sl a2.length ((eSl (eInt .i64)).cells a2)))), (hB fun _ => 0)⟩
def f15_l1_H (a1 : List (List Int)) (a2 : List (List Int)) (x : Int) (st : St) : Prop := keepSt [1, 2, 15, 16, 17] [] [] st = f15_l1_J a1 a2 x
def f15_l1_e0_J (a1 : List (List Int)) (a2 : List (List Int)) : St := ⟨(fun _ => .un), (hB fun _ => 0)⟩
def f15_l1_X (a1 : List (List Int)) (a2 : List (List Int)) (z : Unit ⊕ Bool) (e : PX) (st : St) : Prop := (match z with | .inl z => e = .exit 0 ∧ st = f15_l1_e0_J a1 a2 | .inr z => e = .ret ∧ finSt c15.fin st = f15_fin z)
def f15_l1_j3_J (a1 : List (List Int)) (a2 : List (List Int)) (p15 : Int) : St := ⟨(up (up (up (up (up (fun _ => .un) 17 (.d (.int .i64 p15))) 16 (.d (.int .i64 (a1.length : Int)))) 15 (.d (.sl a1.length ((eSl (eInt .i64)).cells a1)))) 2 (.fn 16 [])) 1 (.d (.sl a2.length ((eSl (eInt .i64)).cells a2)))), (hB fun _ => 0)⟩
noncomputable def f15_l1_j3 (a1 : List (List Int)) (a2 : List (List Int)) (p15 : Int) : Option (Int ⊕ (Unit ⊕ Bool)) := ((idx a1 p15).bind fun z10 => ((idx a2 p15).bind fun z11 => ((f16 z10 z11).bind fun z12 => (bif (!z12) then (some (.inr (.inr false))) else (some (.inl (IntKind.i64.wrap (p15 + 1))))))))
theorem f15_l1_j3_ok {base : Orc} {d : Nat} (hd : 3 ≤ d) (a1 : List (List Int)) (a2 : List (List Int)) {r : Int ⊕ (Unit ⊕ Bool)} {Q : PX → St → Prop} (hQ : ∀ e st', finL (f15_l1_H a1 a2) (f15_l1_X a1 a2) r e st' → Q e st') (p15 : Int) (hS : f15_l1_j3 a1 a2 p15 = some r) {st : St} (he : keepSt [1, 2, 15, 16, 17] [] [] st = f15_l1_j3_J a1 a2 p15) : ZR (lev codes base (d - 1)) Q c15_1 [] st := by
  refine zrKeep he ?_
  unfold f15_l1_j3 at hS
  refine zrSeq ?_
  refine zrBlk ?_
  refine zrSeq ?_
  refine zrReg ?_
  refine zlRun (n := 1) (j := 1) rfl (by kernel_rfl) ?_
  refine bindE hS (fun z10 hz10 hS => ?_)
  refine zlOp (d := some 20) (op := (.ixS 32 1 (.tmp 15) (.tmp 17))) (g := none) (v := (.rptr ((eSl (eInt .i64)).enc z10 ++ ((eSl (eInt .i64)).cells (a1.drop ((p15 : Int).toNat + 1)))))) (ups := []) (j := 2) rfl (by kernel_rfl) (by kernel_rfl) (ev_ixS (eSl (eInt .i64)) (kk := .i64) (xs := a1) (j := p15) (by kernel_rfl) (by kernel_rfl) hz10 rfl (by intro h; cases h)) ?_
  refine zlRun (n := 3) (j := 5) rfl (by kernel_rfl) ?_
  refine zlEnd (by kernel_rfl) ?_
  refine zkSeq ?_
  refine zrSeq ?_
  refine zrReg ?_
  refine zlRun (n := 2) (j := 2) rfl (by kernel_rfl) ?_
  refine bindE hS (fun z11 hz11 hS => ?_)
  refine zlOp (d := some 24) (op := (.ixS 32 1 (.tmp 22) (.tmp 23))) (g := none) (v := (.rptr ((eSl (eInt .i64)).enc z11 ++ ((eSl (eInt .i64)).cells (a2.drop ((p15 : Int).toNat + 1)))))) (ups := []) (j := 3) rfl (by kernel_rfl) (by kernel_rfl) (ev_ixS (eSl (eInt .i64)) (kk := .i64) (xs := a2) (j := p15) (by kernel_rfl) (by kernel_rfl) hz11 rfl (by intro h; cases h)) ?_
  refine zlRun (n := 2) (j := 5) rfl (by kernel_rfl) ?_
  refine zlEnd (by kernel_rfl) ?_
  refine zkSeq ?_
  refine zrSeq ?_
  refine zrReg ?_
  refine zlRun (n := 3) (j := 3) rfl (by kernel_rfl) ?_
  refine bindE hS (fun z12 hz12 hS => ?_)
  refine zlOp (d := some 29) (op := (.callv (.tmp 26) [(.tmp 27), (.tmp 28)])) (g := none) (v := (.d (.bool z12))) (ups := []) (j := 4) rfl (by kernel_rfl) (by kernel_rfl) (ev_callv (f := 16) (cs := []) (by kernel_rfl) (args := [(.d (.sl z10.length ((eInt .i64).cells z10))), (.d (.sl z11.length ((eInt .i64).cells z11)))]) (l := [(.d (.sl z10.length ((eInt .i64).cells z10))), (.d (.sl z11.length ((eInt .i64).cells z11)))]) (r := (.d (.bool z12))) (by kernel_rfl) (by kernel_rfl) (f16_ok base (d - 1) (dpt hd rfl) z10 z11 z12 hz12) (by kernel_rfl) (by kernel_rfl) (by kernel_rfl)) ?_
  refine zlRun (n := 1) (j := 5) rfl (by kernel_rfl) ?_
  refine zlEnd (by kernel_rfl) ?_
  refine zkSeq ?_
  refine zrSplit 30 (!z12) (by kernel_rfl) (fun hc => ?_) (fun hc => ?_)
  · replace hS := cond_t hc hS
    refine zrCondT (by kernel_rfl) ?_
    refine zrSeq ?_
    refine zrReg ?_
    refine zlRun (n := 1) (j := 1) rfl (by kernel_rfl) ?_
    refine zlEnd (by kernel_rfl) ?_
    refine zkSeq ?_
    refine zrRet ?_
    refine zkBlkR ?_
    refine zkSeqR ?_
    refine zkNil ?_
    exact endQ hS hQ (finL_x (by intro h; cases h) (by show _ = _ ∧ _ = _; exact ⟨rfl, by kernel_rfl⟩))
  · replace hS := cond_f hc hS
    refine zrCondF (by kernel_rfl) ?_
    refine zrSkip ?_
    refine zkBlk ?_
    refine zkSeq ?_
    refine zrReg ?_
    refine zlRun (n := 2) (j := 2) rfl (by kernel_rfl) ?_
    refine zlEnd (by kernel_rfl) ?_
    refine zkNil ?_
    exact endQ hS hQ (finL_n (by show keepSt _ _ _ _ = _; kernel_rfl))
def f15_l1_j2_J (a1 : List (List Int)) (a2 : List (List Int)) (p13 : Int) (p14 : Bool) : St := ⟨(up (up (up (up (up (up (fun _ => .un) 18 (.d (.bool p14))) 17 (.d (.int .i64 p13))) 16 (.d (.int .i64 (a1.length : Int)))) 15 (.d (.sl a1.length ((eSl (eInt .i64)).cells a1)))) 2 (.fn 16 [])) 1 (.d (.sl a2.length ((eSl (eInt .i64)).cells a2)))), (hB fun _ => 0)⟩
noncomputable def f15_l1_j2 (a1 : List (List Int)) (a2 : List (List Int)) (p13 : Int) (p14 : Bool) : Option (Int ⊕ (Unit ⊕ Bool)) := (bif p14 then (f15_l1_j3 a1 a2 p13) else (some (.inr (.inl ()))))
theorem f15_l1_j2_ok {base : Orc} {d : Nat} (hd : 3 ≤ d) (a1 : List (List Int)) (a2 : List (List Int)) {r : Int ⊕ (Unit ⊕ Bool)} {Q : PX → St → Prop} (hQ : ∀ e st', finL (f15_l1_H a1 a2) (f15_l1_X a1 a2) r e st' → Q e st') (p13 : Int) (p14 : Bool) (hS : f15_l1_j2 a1 a2 p13 p14 = some r) {st : St} (he : keepSt [1, 2, 15, 16, 17, 18] [] [] st = f15_l1_j2_J a1 a2 p13 p14) : ZR (lev codes base (d - 1)) Q c15_2 [] st := by
  refine zrKeep he ?_
  unfold f15_l1_j2 at hS
  refine zrSeq ?_
  refine zrSplit 18 p14 (by kernel_rfl) (fun hc => ?_) (fun hc => ?_)
  · replace hS := cond_t hc hS
    refine zrCondT (by kernel_rfl) ?_
    refine zrSkip ?_
    refine zkSeq ?_
    exact f15_l1_j3_ok hd a1 a2 hQ p13 hS (by kernel_rfl)
  · replace hS := cond_f hc hS
    refine zrCondF (by kernel_rfl) ?_
    refine zrKeep (J := f15_l1_e0_J a1 a2) (by kernel_rfl) ?_
    refine zrExit ?_
    refine zkSeqX ?_
    refine zkNil ?_
    exact endQ hS hQ (finL_x (by intro h; cases h) (by show _ = _ ∧ _ = _; exact ⟨rfl, rfl⟩))
noncomputable def f15_l1 (a1 : List (List Int)) (a2 : List (List Int)) (x : Int) : Option (Int ⊕ (Unit ⊕ Bool)) := (bif (decide (x < (a1.length : Int))) then (f15_l1_j2 a1 a2 x true) else (f15_l1_j2 a1 a2 x false))
theorem f15_l1_ok {base : Orc} {d : Nat} (hd : 3 ≤ d) (a1 : List (List Int)) (a2 : List (List Int)) {r : Int ⊕ (Unit ⊕ Bool)} {Q : PX → St → Prop} (hQ : ∀ e st', finL (f15_l1_H a1 a2) (f15_l1_X a1 a2) r e st' → Q e st') {x : Int} (hS : f15_l1 a1 a2 x = some r) {st : St} (he : f15_l1_H a1 a2 x st) : ZR (lev codes base (d - 1)) Q c15_3 [] st := by
  refine zrKeep he ?_
  unfold f15_l1 at hS
  refine zrSeq ?_
  refine zrReg ?_
  refine zlBool (d := 18) (op := (.cmpI .lss (.tmp 17) (.tmp 16))) (g := none) (j := 1) (decide (x < (a1.length : Int))) rfl (by kernel_rfl) (by kernel_rfl) (by kernel_rfl) (fun hc => ?_) (fun hc => ?_)
  · replace hS := cond_t hc hS
    refine zlEnd (by kernel_rfl) ?_
    refine zkSeq ?_
    exact f15_l1_j2_ok hd a1 a2 hQ x true hS (by kernel_rfl)
  · replace hS := cond_f hc hS
    refine zlEnd (by kernel_rfl) ?_
    refine zkSeq ?_
    exact f15_l1_j2_ok hd a1 a2 hQ x false hS (by kernel_rfl)
def f15_j0_J (a1 : List (List Int)) (a2 : List (List Int)) : St := ⟨(up (up (up (fun _ => .un) 2 (.fn 16 [])) 1 (.d (.sl a2.length ((eSl (eInt .i64)).cells a2)))) 0 (.d (.sl a1.length ((eSl (eInt .i64)).cells a1)))), (hB fun _ => 0)⟩
noncomputable def f15_j0 (a1 : List (List Int)) (a2 : List (List Int)) : Option (Bool) := ((loopO (f15_l1 a1 a2) 0).bind fun z13 => (Sum.elim (fun z14 => (some true)) (fun z15 => (some z15)) z13))
theorem f15_j0_ok {base : Orc} {d : Nat} (hd : 3 ≤ d) (a1 : List (List Int)) (a2 : List (List Int)) {r : Bool} {Q : PX → St → Prop} (hQ : ∀ e st', f15_Q r e st' → Q e st')  (hS : f15_j0 a1 a2 = some r) {st : St} (he : keepSt [0, 1, 2] [] [] st = f15_j0_J a1 a2) : ZR (lev codes base (d - 1)) Q c15_4 [] st := by
  refine zrKeep he ?_
  unfold f15_j0 at hS
  refine zrSeq ?_
  refine zrSeq ?_
  refine zrReg ?_
  refine zlRun (n := 3) (j := 3) rfl (by kernel_rfl) ?_
  refine zlEnd (by kernel_rfl) ?_
  refine zkSeq ?_
  refine zrBlk ?_
  refine bindE hS (fun z13 hz13 hS => ?_)
  refine zrLoop (f15_l1_H a1 a2) (f15_l1_X a1 a2) (fun x st r Q h0 hS hQ => f15_l1_ok hd a1 a2 hQ hS h0) (x := 0) (z := z13) (by show keepSt _ _ _ _ = _; kernel_rfl) hz13 ?_
  rcases z13 with z14 | z15
  · replace hS := (show _ = _ from hS)
    simp only [Sum.elim_inl] at hS
    intro e st' _ hX
    obtain ⟨rfl, rfl⟩ : _ ∧ _ := hX
    refine zkBlkX ?_
    refine zkSeq ?_
    refine zrSeq ?_
    refine zrReg ?_
    refine zlRun (n := 1) (j := 1) rfl (by kernel_rfl) ?_
    refine zlEnd (by kernel_rfl) ?_
    refine zkSeq ?_
    refine zrRet ?_
    refine zkNil ?_
    exact endQ hS hQ (fRet (by kernel_rfl) ((congrArg (fun s => outR s 0 c15.res) (by kernel_rfl : finSt c15.fin _ = f15_fin true)).trans (f15_out true)))
  · simp only [Sum.elim_inr] at hS
    intro e st' _ hX
    obtain ⟨rfl, hX⟩ : _ ∧ _ := hX
    refine zkBlkR ?_
    refine zkSeqR ?_
    refine zkNil ?_
    exact endQ hS hQ (fRet (by kernel_rfl) ((congrArg (fun s => outR s 0 c15.res) hX).trans (f15_out z15)))
noncomputable def f15 (a1 : List (List Int)) (a2 : List (List Int)) : Option (Bool) := (bif (!decide ((a1.length : Int) = (a2.length : Int))) then (some false) else (f15_j0 a1 a2 ))
theorem f15_ok (base : Orc) (d : Nat) (hd : 3 ≤ d) (a1 : List (List Int)) (a2 : List (List Int)) (r : Bool) (hS : f15 a1 a2 = some r) : lev codes base d 15 [(.d (.sl a1.length ((eSl (eInt .i64)).cells a1))), (.d (.sl a2.length ((eSl (eInt .i64)).cells a2))), (.fn 16 [])] [] = some ((.d (.bool r)), []) := by
  refine lev_go codes15 rfl rfl (Nat.le_trans (Nat.le_of_ble_eq_true rfl) hd) fun Q hQ => ?_
  unfold f15 at hS
  show ZR _ Q c15_b [] _
  replace hQ : ∀ e st', f15_Q r e st' → Q e st' := hQ
  refine zrSeq ?_
  refine zrReg ?_
  refine zlRun (n := 1) (j := 1) rfl (by kernel_rfl) ?_
  refine zlEnd (by kernel_rfl) ?_
  refine zkSeq ?_
  refine zrSeq ?_
  refine zrSeq ?_
  refine zrReg ?_
  refine zlRun (n := 4) (j := 4) rfl (by kernel_rfl) ?_
  refine zlBool (d := 14) (op := (.cmpI .neq (.tmp 11) (.tmp 13))) (g := none) (j := 5) (!decide ((a1.length : Int) = (a2.length : Int))) rfl (by kernel_rfl) (by kernel_rfl) (by kernel_rfl) (fun hc => ?_) (fun hc => ?_)
  · replace hS := cond_t hc hS
    refine zlEnd (by kernel_rfl) ?_
    refine zkSeq ?_
    refine zrCondT (by kernel_rfl) ?_
    refine zrSeq ?_
    refine zrReg ?_
    refine zlRun (n := 1) (j := 1) rfl (by kernel_rfl) ?_
    refine zlEnd (by kernel_rfl) ?_
    refine zkSeq ?_
    refine zrRet ?_
    refine zkSeqR ?_
    refine zkNil ?_
    exact endQ hS hQ (fRet (by kernel_rfl) ((congrArg (fun s => outR s 0 c15.res) (by kernel_rfl : finSt c15.fin _ = f15_fin false)).trans (f15_out false)))
  · replace hS := cond_f hc hS
    refine zlEnd (by kernel_rfl) ?_
    refine zkSeq ?_
    refine zrCondF (by kernel_rfl) ?_
    refine zrSkip ?_
    refine zkSeq ?_
    exact f15_j0_ok hd a1 a2 hQ  hS (by kernel_rfl)
/- farwriter/farref.SameLines -/
def f8_fin (p1 : Bool) : St := ⟨(up (fun _ => .un) 4 (.d (.bool p1))), (hB fun _ => 0)⟩
theorem f8_out (p1 : Bool) : outR (f8_fin p1) 0 c8.res = some ((.d (.bool p1)), []) := by
  kernel_rfl
def f8_Q (r : Bool) (e : PX) (st : St) : Prop := DoneF c8 0 ((.d (.bool r)), []) e st
noncomputable def f8 (a1 : List (List Int)) (a2 : List (List Int)) : Option (Bool) := ((f15 a1 a2).bind fun z2 => (some z2))
theorem f8_ok (base : Orc) (d : Nat) (hd : 4 ≤ d) (a1 : List (List Int)) (a2 : List (List Int)) (r : Bool) (hS : f8 a1 a2 = some r) : lev codes base d 8 [(.d (.sl a1.length ((eSl (eInt .i64)).cells a1))), (.d (.sl a2.length ((eSl (eInt .i64)).cells a2)))] [] = some ((.d (.bool r)), []) := by
  refine lev_go codes8 rfl rfl (Nat.le_trans (Nat.le_of_ble_eq_true rfl) hd) fun Q hQ => ?_
  unfold f8 at hS
  show ZR _ Q c8_b [] _
  replace hQ : ∀ e st', f8_Q r e st' → Q e st' := hQ
  refine zrSeq ?_
  refine zrReg ?_
  refine zlRun (n := 1) (j := 1) rfl (by kernel_rfl) ?_
  refine zlEnd (by kernel_rfl) ?_
  refine zkSeq ?_
  refine zrSeq ?_
  refine zrReg ?_
  refine zlRun (n := 2) (j := 2) rfl (by kernel_rfl) ?_
  refine bindE hS (fun z2 hz2 hS => ?_)
  refine zlOp (d := some 7) (op := (.call 15 [(.tmp 5), (.tmp 6), (.func 16)])) (g := none) (j := 3) rfl (by kernel_rfl) (by kernel_rfl) (ev_callA (by kernel_rfl) (f15_ok base (d - 1) (dpt hd rfl) a1 a2 z2 hz2) (by kernel_rfl) (by kernel_rfl)) ?_
  refine zlRun (n := 1) (j := 4) rfl (by kernel_rfl) ?_
  refine zlEnd (by kernel_rfl) ?_
  refine zkSeq ?_
  refine zrRet ?_
  refine zkNil ?_
  exact endQ hS hQ (fRet (by kernel_rfl) ((congrArg (fun s => outR s 0 c8.res) (by kernel_rfl : finSt c8.fin _ = f8_fin z2)).trans (f8_out z2)))
/- farwriter/farref.SameRows$1 -/
def f19_fin (p2 : Bool) : St := ⟨(up (fun _ => .un) 4 (.d (.bool p2))), (hB fun _ => 0)⟩
theorem f19_out (p2 : Bool) : outR (f19_fin p2) 0 c19.res = some ((.d (.bool p2)), []) := by
  kernel_rfl
def f19_Q (r : Bool) (e : PX) (st : St) : Prop := DoneF c19 0 ((.d (.bool r)), []) e st
noncomputable def f19 (a1 : GRow) (a2 : GRow) : Option (Bool) := (bif (decide (a1.Soft = a2.Soft)) then ((f17 a1.Runes a2.Runes).bind fun z2 => (some z2)) else (some false))
theorem f19_ok (base : Orc) (d : Nat) (hd : 2 ≤ d) (a1 : GRow) (a2 : GRow) (r : Bool) (hS : f19 a1 a2 = some r) : lev codes base d 19 [(.agg ((.d (.sl a1.Runes.length ((eInt .i64).cells a1.Runes))) :: ((.d (.bool a1.Soft)) :: []))), (.agg ((.d (.sl a2.Runes.length ((eInt .i64).cells a2.Runes))) :: ((.d (.bool a2.Soft)) :: [])))] [] = some ((.d (.bool r)), []) := by
  refine lev_go codes19 rfl rfl (Nat.le_trans (Nat.le_of_ble_eq_true rfl) hd) fun Q hQ => ?_
  unfold f19 at hS
  show ZR _ Q c19_b [] _
  replace hQ : ∀ e st', f19_Q r e st' → Q e st' := hQ
  refine zrSeq ?_
  refine zrReg ?_
  refine zlRun (n := 3) (j := 3) rfl (by kernel_rfl) ?_
  refine zlEnd (by kernel_rfl) ?_
  refine zkSeq ?_
  refine zrSeq ?_
  refine zrReg ?_
  refine zlRun (n := 4) (j := 4) rfl (by kernel_rfl) ?_
  refine zlBool (d := 9) (op := (.eqB .false (.tmp 6) (.tmp 8))) (g := none) (j := 5) (decide (a1.Soft = a2.Soft)) rfl (by kernel_rfl) (by kernel_rfl) (by kernel_rfl) (fun hc => ?_) (fun hc => ?_)
  · replace hS := cond_t hc hS
    refine zlRun (n := 5) (j := 10) rfl (by kernel_rfl) ?_
    refine bindE hS (fun z2 hz2 hS => ?_)
    refine zlOp (d := some 15) (op := (.call 17 [(.tmp 12), (.tmp 14)])) (g := (some (10, true))) (j := 11) rfl (by kernel_rfl) (by kernel_rfl) (ev_callA (by kernel_rfl) (f17_ok base (d - 1) (dpt hd rfl) a1.Runes a2.Runes z2 hz2) (by kernel_rfl) (by kernel_rfl)) ?_
    refine zlRun (n := 2) (j := 13) rfl (by kernel_rfl) ?_
    refine zlEnd (by kernel_rfl) ?_
    refine zkSeq ?_
    refine zrRet ?_
    refine zkNil ?_
    exact endQ hS hQ (fRet (by kernel_rfl) ((congrArg (fun s => outR s 0 c19.res) (by kernel_rfl : finSt c19.fin _ = f19_fin z2)).trans (f19_out z2)))
  · replace hS := cond_f hc hS
    refine zlRun (n := 8) (j := 13) rfl (by kernel_rfl) ?_
    refine zlEnd (by kernel_rfl) ?_
    refine zkSeq ?_
    refine zrRet ?_
    refine zkNil ?_
    exact endQ hS hQ (fRet (by kernel_rfl) ((congrArg (fun s => outR s 0 c19.res) (by kernel_rfl : finSt c19.fin _ = f19_fin false)).trans (f19_out false)))
/- slices.EqualFunc[[]farwriter/api.Row,[]farwriter/api.Row,farwriter/api.Row,farwriter/api.Row] -/
def f18_fin (p9 : Bool) : St := ⟨(up (fun _ => .un) 6 (.d (.bool p9))), (hB fun _ => 0)⟩
theorem f18_out (p9 : Bool) : outR (f18_fin p9) 0 c18.res = some ((.d (.bool p9)), []) := by
  kernel_rfl
def f18_Q (r : Bool) (e : PX) (st : St) : Prop := DoneF c18 0 ((.d (.bool r)), []) e st
def f18_l1_J (a1 : List GRow) (a2 : List GRow) (x : Int) : St := ⟨(up (up (up (up (up (fun _ => .un) 17 (.d (.int .i64 x))) 16 (.d (.int .i64 (a1.length : Int)))) 15 (.d (.sl a1.length (e_GRow.cells a1)))) 2 (.fn 19 [])) 1 (.d (.sl a2.length (e_GRow.cells a2)))), (hB fun _ => 0)⟩
def f18_l1_H (a1 : List GRow) (a2 : List GRow) (x : Int) (st : St) : Prop := keepSt [1, 2, 15, 16, 17] [] [] st = f18_l1_J a1 a2 x
def f18_l1_e0_J (a1 : List GRow) (a2 : List GRow) : St := ⟨(fun _ => .un), (hB fun _ => 0)⟩
def f18_l1_X (a1 : List GRow) (a2 : List GRow) (z : Unit ⊕ Bool) (e : PX) (st : St) : Prop := (match z with | .inl z => e = .exit 0 ∧ st = f18_l1_e0_J a1 a2 | .inr z => e = .ret ∧ finSt c18.fin st = f18_fin z)
def f18_l1_j3_J (a1 : List GRow) (a2 : List GRow) (p15 : Int) : St := ⟨(up (up (up (up (up (fun _ => .un) 17 (.d (.int .i64 p15))) 16 (.d (.int .i64 (a1.length : Int)))) 15 (.d (.sl a1.length (e_GRow.cells a1)))) 2 (.fn 19 [])) 1 (.d (.sl a2.length (e_GRow.cells a2)))), (hB fun _ => 0)⟩
noncomputable def f18_l1_j3 (a1 : List GRow) (a2 : List GRow) (p15 : Int) : Option (Int ⊕ (Unit ⊕ Bool)) := ((idx a1 p15).bind fun z10 => ((idx a2 p15).bind fun z11 => ((f19 z10 z11).bind fun z12 => (bif (!z12) then (some (.inr (.inr false))) else (some (.inl (IntKind.i64.wrap (p15 + 1))))))))
theorem f18_l1_j3_ok {base : Orc} {d : Nat} (hd : 3 ≤ d) (a1 : List GRow) (a2 : List GRow) {r : Int ⊕ (Unit ⊕ Bool)} {Q : PX → St → Prop} (hQ : ∀ e st', finL (f18_l1_H a1 a2) (f18_l1_X a1 a2) r e st' → Q e st') (p15 : Int) (hS : f18_l1_j3 a1 a2 p15 = some r) {st : St} (he : keepSt [1, 2, 15, 16, 17] [] [] st = f18_l1_j3_J a1 a2 p15) : ZR (lev codes base (d - 1)) Q c18_1 [] st := by
  refine zrKeep he ?_
  unfold f18_l1_j3 at hS
  refine zrSeq ?_
  refine zrBlk ?_
  refine zrSeq ?_
  refine zrReg ?_
  refine zlRun (n := 1) (j := 1) rfl (by kernel_rfl) ?_
  refine bindE hS (fun z10 hz10 hS => ?_)
  refine zlOp (d := some 20) (op := (.ixS 35 2 (.tmp 15) (.tmp 17))) (g := none) (v := (.rptr (e_GRow.enc z10 ++ (e_GRow.cells (a1.drop ((p15 : Int).toNat + 1)))))) (ups := []) (j := 2) rfl (by kernel_rfl) (by kernel_rfl) (ev_ixS e_GRow (kk := .i64) (xs := a1) (j := p15) (by kernel_rfl) (by kernel_rfl) hz10 rfl (by intro h; cases h)) ?_
  refine zlRun (n := 4) (j := 6) rfl (by kernel_rfl) ?_
  refine zlEnd (by kernel_rfl) ?_
  refine zkSeq ?_
  refine zrSeq ?_
  refine zrReg ?_
  refine zlRun (n := 2) (j := 2) rfl (by kernel_rfl) ?_
  refine bindE hS (fun z11 hz11 hS => ?_)
  refine zlOp (d := some 24) (op := (.ixS 35 2 (.tmp 22) (.tmp 23))) (g := none) (v := (.rptr (e_GRow.enc z11 ++ (e_GRow.cells (a2.drop ((p15 : Int).toNat + 1)))))) (ups := []) (j := 3) rfl (by kernel_rfl) (by kernel_rfl) (ev_ixS e_GRow (kk := .i64) (xs := a2) (j := p15) (by kernel_rfl) (by kernel_rfl) hz11 rfl (by intro h; cases h)) ?_
  refine zlRun (n := 3) (j := 6) rfl (by kernel_rfl) ?_
  refine zlEnd (by kernel_rfl) ?_
  refine zkSeq ?_
  refine zrSeq ?_
  refine zrReg ?_
  refine zlRun (n := 3) (j := 3) rfl (by kernel_rfl) ?_
  refine bindE hS (fun z12 hz12 hS => ?_)
  refine zlOp (d := some 29) (op := (.callv (.tmp 26) [(.tmp 27), (.tmp 28)])) (g := none) (v := (.d (.bool z12))) (ups := []) (j := 4) rfl (by kernel_rfl) (by kernel_rfl) (ev_callv (f := 19) (cs := []) (by kernel_rfl) (args := [(.agg ((.d (.sl z10.Runes.length ((eInt .i64).cells z10.Runes))) :: ((.d (.bool z10.Soft)) :: []))), (.agg ((.d (.sl z11.Runes.length ((eInt .i64).cells z11.Runes))) :: ((.d (.bool z11.Soft)) :: [])))]) (l := [(.agg ((.d (.sl z10.Runes.length ((eInt .i64).cells z10.Runes))) :: ((.d (.bool z10.Soft)) :: []))), (.agg ((.d (.sl z11.Runes.length ((eInt .i64).cells z11.Runes))) :: ((.d (.bool z11.Soft)) :: [])))]) (r := (.d (.bool z12))) (by kernel_rfl) (by kernel_rfl) (f19_ok base (d - 1) (dpt hd rfl) z10 z11 z12 hz12) (by kernel_rfl) (by kernel_rfl) (by kernel_rfl)) ?_
  refine zlRun (n := 1) (j := 5) rfl (by kernel_rfl) ?_
  refine zlEnd (by kernel_rfl) ?_
  refine zkSeq ?_
  refine zrSplit 30 (!z12) (by kernel_rfl) (fun hc => ?_) (fun hc => ?_)
  · replace hS := cond_t hc hS
    refine zrCondT (by kernel_rfl) ?_
    refine zrSeq ?_
    refine zrReg ?_
    refine zlRun (n := 1) (j := 1) rfl (by kernel_rfl) ?_
    refine zlEnd (by kernel_rfl) ?_
    refine zkSeq ?_
    refine zrRet ?_
    refine zkBlkR ?_
    refine zkSeqR ?_
    refine zkNil ?_
    exact endQ hS hQ (finL_x (by intro h; cases h) (by show _ = _ ∧ _ = _; exact ⟨rfl, by kernel_rfl⟩))
  · replace hS := cond_f hc hS
    refine zrCondF (by kernel_rfl) ?_
    refine zrSkip ?_
    refine zkBlk ?_
    refine zkSeq ?_
    refine zrReg ?_
    refine zlRun (n := 2) (j := 2) rfl (by kernel_rfl) ?_
    refine zlEnd (by kernel_rfl) ?_
    refine zkNil ?_
    exact endQ hS hQ (finL_n (by show keepSt _ _ _ _ = _; kernel_rfl))
def f18_l1_j2_J (a1 : List GRow) (a2 : List GRow) (p13 : Int) (p14 : Bool) : St := ⟨(up (up (up (up (up (up (fun _ => .un) 18 (.d (.bool p14))) 17 (.d (.int .i64 p13))) 16 (.d (.int .i64 (a1.length : Int)))) 15 (.d (.sl a1.length (e_GRow.cells a1)))) 2 (.fn 19 [])) 1 (.d (.sl a2.length (e_GRow.cells a2)))), (hB fun _ => 0)⟩
noncomputable def f18_l1_j2 (a1 : List GRow) (a2 : List GRow) (p13 : Int) (p14 : Bool) : Option (Int ⊕ (Unit ⊕ Bool)) := (bif p14 then (f18_l1_j3 a1 a2 p13) else (some (.inr (.inl ()))))
theorem f18_l1_j2_ok {base : Orc} {d : Nat} (hd : 3 ≤ d) (a1 : List GRow) (a2 : List GRow) {r : Int ⊕ (Unit ⊕ Bool)} {Q : PX → St → Prop} (hQ : ∀ e st', finL (f18_l1_H a1 a2) (f18_l1_X a1 a2) r e st' → Q e st') (p13 : Int) (p14 : Bool) (hS : f18_l1_j2 a1 a2 p13 p14 = some r) {st : St} (he : keepSt [1, 2, 15, 16, 17, 18] [] [] st = f18_l1_j2_J a1 a2 p13 p14) : ZR (lev codes base (d - 1)) Q c18_2 [] st := by
  refine zrKeep he ?_
  unfold f18_l1_j2 at hS
  refine zrSeq ?_
  refine zrSplit 18 p14 (by kernel_rfl) (fun hc => ?_) (fun hc => ?_)
  · replace hS := cond_t hc hS
    refine zrCondT (by kernel_rfl) ?_
    refine zrSkip ?_
    refine zkSeq ?_
    exact f18_l1_j3_ok hd a1 a2 hQ p13 hS (by kernel_rfl)
  · replace hS := cond_f hc hS
    refine zrCondF (by kernel_rfl) ?_
    refine zrKeep (J := f18_l1_e0_J a1 a2) (by kernel_rfl) ?_
    refine zrExit ?_
    refine zkSeqX ?_
    refine zkNil ?_
    exact endQ hS hQ (finL_x (by intro h; cases h) (by show _ = _ ∧ _ = _; exact ⟨rfl, rfl⟩))
noncomputable def f18_l1 (a1 : List GRow) (a2 : List GRow) (x : Int) : Option (Int ⊕ (Unit ⊕ Bool)) := (bif (decide (x < (a1.length : Int))) then (f18_l1_j2 a1 a2 x true) else (f18_l1_j2 a1 a2 x false))
theorem f18_l1_ok {base : Orc} {d : Nat} (hd : 3 ≤ d) (a1 : List GRow) (a2 : List GRow) {r : Int ⊕ (Unit ⊕ Bool)} {Q : PX → St → Prop} (hQ : ∀ e st', finL (f18_l1_H a1 a2) (f18_l1_X a1 a2) r e st' → Q e st') {x : Int} (hS : f18_l1 a1 a2 x = some r) {st : St} (he : f18_l1_H a1 a2 x st) : ZR (lev codes base (d - 1)) Q c18_3 [] st := by
  refine zrKeep he ?_
  unfold f18_l1 at hS
  refine zrSeq ?_
  refine zrReg ?_
  refine zlBool (d := 18) (op := (.cmpI .lss (.tmp 17) (.tmp 16))) (g := none) (j := 1) (decide (x < (a1.length : Int))) rfl (by kernel_rfl) (by kernel_rfl) (by kernel_rfl) (fun hc => ?_) (fun hc => ?_)
  · replace hS := cond_t hc hS
    refine zlEnd (by kernel_rfl) ?_
    refine zkSeq ?_
    exact f18_l1_j2_ok hd a1 a2 hQ x true hS (by kernel_rfl)
  · replace hS := cond_f hc hS
    refine zlEnd (by kernel_rfl) ?_
    refine zkSeq ?_
    exact f18_l1_j2_ok hd a1 a2 hQ x false hS (by kernel_rfl)
def f18_j0_J (a1 : List GRow) (a2 : List GRow) : St := ⟨(up (up (up (fun _ => .un) 2 (.fn 19 [])) 1 (.d (.sl a2.length (e_GRow.cells a2)))) 0 (.d (.sl a1.length (e_GRow.cells a1)))), (hB fun _ => 0)⟩
noncomputable def f18_j0 (a1 : List GRow) (a2 : List GRow) : Option (Bool) := ((loopO (f18_l1 a1 a2) 0).bind fun z13 => (Sum.elim (fun z14 => (some true)) (fun z15 => (some z15)) z13))
theorem f18_j0_ok {base : Orc} {d : Nat} (hd : 3 ≤ d) (a1 : List GRow) (a2 : List GRow) {r : Bool} {Q : PX → St → Prop} (hQ : ∀ e st', f18_Q r e st' → Q e st')  (hS : f18_j0 a1 a2 = some r) {st : St} (he : keepSt [0, 1, 2] [] [] st = f18_j0_J a1 a2) : ZR (lev codes base (d - 1)) Q c18_4 [] st := by
  refine zrKeep he ?_
  unfold f18_j0 at hS
  refine zrSeq ?_
  refine zrSeq ?_
  refine zrReg ?_
  refine zlRun (n := 3) (j := 3) rfl (by kernel_rfl) ?_
  refine zlEnd (by kernel_rfl) ?_
  refine zkSeq ?_
  refine zrBlk ?_
  refine bindE hS (fun z13 hz13 hS => ?_)
  refine zrLoop (f18_l1_H a1 a2) (f18_l1_X a1 a2) (fun x st r Q h0 hS hQ => f18_l1_ok hd a1 a2 hQ hS h0) (x := 0) (z := z13) (by show keepSt _ _ _ _ = _; kernel_rfl) hz13 ?_
  rcases z13 with z14 | z15
  · replace hS := (show _ = _ from hS)
    simp only [Sum.elim_inl] at hS
    intro e st' _ hX
    obtain ⟨rfl, rfl⟩ : _ ∧ _ := hX
    refine zkBlkX ?_
    refine zkSeq ?_
    refine zrSeq ?_
    refine zrReg ?_
    refine zlRun (n := 1) (j := 1) rfl (by kernel_rfl) ?_
    refine zlEnd (by kernel_rfl) ?_
    refine zkSeq ?_
    refine zrRet ?_
    refine zkNil ?_
    exact endQ hS hQ (fRet (by kernel_rfl) ((congrArg (fun s => outR s 0 c18.res) (by kernel_rfl : finSt c18.fin _ = f18_fin true)).trans (f18_out true)))
  · simp only [Sum.elim_inr] at hS
    intro e st' _ hX
    obtain ⟨rfl, hX⟩ : _ ∧ _ := hX
    refine zkBlkR ?_
    refine zkSeqR ?_
    refine zkNil ?_
    exact endQ hS hQ (fRet (by kernel_rfl) ((congrArg (fun s => outR s 0 c18.res) hX).trans (f18_out z15)))
noncomputable def f18 (a1 : List GRow) (a2 : List GRow) : Option (Bool) := (bif (!decide ((a1.length : Int) = (a2.length : Int))) then (some false) else (f18_j0 a1 a2 ))
theorem f18_ok (base : Orc) (d : Nat) (hd : 3 ≤ d) (a1 : List GRow) (a2 : List GRow) (r : Bool) (hS : f18 a1 a2 = some r) : lev codes base d 18 [(.d (.sl a1.length (e_GRow.cells a1))), (.d (.sl a2.length (e_GRow.cells a2))), (.fn 19 [])] [] = some ((.d (.bool r)), []) := by
  refine lev_go codes18 rfl rfl (Nat.le_trans (Nat.le_of_ble_eq_true rfl) hd) fun Q hQ => ?_
  unfold f18 at hS
  show ZR _ Q c18_b [] _
  replace hQ : ∀ e st', f18_Q r e st' → Q e st' := hQ
  refine zrSeq ?_
  refine zrReg ?_
  refine zlRun (n := 1) (j := 1) rfl (by kernel_rfl) ?_
  refine zlEnd (by kernel_rfl) ?_
  refine zkSeq ?_
  refine zrSeq ?_
  refine zrSeq ?_
  refine zrReg ?_
  refine zlRun (n := 4) (j := 4) rfl (by kernel_rfl) ?_
  refine zlBool (d := 14) (op := (.cmpI .neq (.tmp 11) (.tmp 13))) (g := none) (j := 5) (!decide ((a1.length : Int) = (a2.length : Int))) rfl (by kernel_rfl) (by kernel_rfl) (by kernel_rfl) (fun hc => ?_) (fun hc => ?_)
  · replace hS := cond_t hc hS
    refine zlEnd (by kernel_rfl) ?_
    refine zkSeq ?_
    refine zrCondT (by kernel_rfl) ?_
    refine zrSeq ?_
    refine zrReg ?_
    refine zlRun (n := 1) (j := 1) rfl (by kernel_rfl) ?_
    refine zlEnd (by kernel_rfl) ?_
    refine zkSeq ?_
    refine zrRet ?_
    refine zkSeqR ?_
    refine zkNil ?_
    exact endQ hS hQ (fRet (by kernel_rfl) ((congrArg (fun s => outR s 0 c18.res) (by kernel_rfl : finSt c18.fin _ = f18_fin false)).trans (f18_out false)))
  · replace hS := cond_f hc hS
    refine zlEnd (by kernel_rfl) ?_
    refine zkSeq ?_
    refine zrCondF (by kernel_rfl) ?_
    refine zrSkip ?_
    refine zkSeq ?_
    exact f18_j0_ok hd a1 a2 hQ  hS (by kernel_rfl)
/- farwriter/farref.SameRows -/
def f11_fin (p1 : Bool) : St := ⟨(up (fun _ => .un) 4 (.d (.bool p1))), (hB fun _ => 0)⟩
theorem f11_out (p1 : Bool) : outR (f11_fin p1) 0 c11.res = some ((.d (.bool p1)), []) := by
  kernel_rfl
def f11_Q (r : Bool) (e : PX) (st : St) : Prop := DoneF c11 0 ((.d (.bool r)), []) e st
noncomputable def f11 (a1 : List GRow) (a2 : List GRow) : Option (Bool) := ((f18 a1 a2).bind fun z2 => (some z2))
theorem f11_ok (base : Orc) (d : Nat) (hd : 4 ≤ d) (a1 : List GRow) (a2 : List GRow) (r : Bool) (hS : f11 a1 a2 = some r) : lev codes base d 11 [(.d (.sl a1.length (e_GRow.cells a1))), (.d (.sl a2.length (e_GRow.cells a2)))] [] = some ((.d (.bool r)), []) := by
  refine lev_go codes11 rfl rfl (Nat.le_trans (Nat.le_of_ble_eq_true rfl) hd) fun Q hQ => ?_
  unfold f11 at hS
  show ZR _ Q c11_b [] _
  replace hQ : ∀ e st', f11_Q r e st' → Q e st' := hQ
  refine zrSeq ?_
  refine zrReg ?_
  refine zlRun (n := 1) (j := 1) rfl (by kernel_rfl) ?_
  refine zlEnd (by kernel_rfl) ?_
  refine zkSeq ?_
  refine zrSeq ?_
  refine zrReg ?_
  refine zlRun (n := 2) (j := 2) rfl (by kernel_rfl) ?_
  refine bindE hS (fun z2 hz2 hS => ?_)
  refine zlOp (d := some 7) (op := (.call 18 [(.tmp 5), (.tmp 6), (.func 19)])) (g := none) (j := 3) rfl (by kernel_rfl) (by kernel_rfl) (ev_callA (by kernel_rfl) (f18_ok base (d - 1) (dpt hd rfl) a1 a2 z2 hz2) (by kernel_rfl) (by kernel_rfl)) ?_
  refine zlRun (n := 1) (j := 4) rfl (by kernel_rfl) ?_
  refine zlEnd (by kernel_rfl) ?_
  refine zkSeq ?_
  refine zrRet ?_
  refine zkNil ?_
  exact endQ hS hQ (fRet (by kernel_rfl) ((congrArg (fun s => outR s 0 c11.res) (by kernel_rfl : finSt c11.fin _ = f11_fin z2)).trans (f11_out z2)))
/- slices.Clone[[]farwriter/api.Row,farwriter/api.Row] -/
def f12_fin (p1 : List GRow) : St := ⟨(up (fun _ => .un) 2 (.r (.msl 97 0 0 p1.length))), (up (hB fun _ => 0) 97 ⟨0, some (.own 35 2 (e_GRow.cells p1))⟩)⟩
theorem f12_out (p1 : List GRow) : outR (f12_fin p1) 0 c12.res = some ((.r (.own 0 35 2 p1.length (e_GRow.cells p1))), []) := by
  exact out_of (ids := []) (ids' := [97]) (l := [(.r (.msl 97 0 0 p1.length))]) (by kernel_rfl) (by kernel_rfl) (o_own e_GRow (e := 35) (k := 2) (xs := p1) (by kernel_rfl) rfl rfl rfl rfl)
def f12_Q (r : List GRow) (e : PX) (st : St) : Prop := DoneF c12 0 ((.r (.own 0 35 2 r.length (e_GRow.cells r))), []) e st
noncomputable def f12 (a1 : List GRow) : Option (List GRow) := ((app? 32 ([] : List GRow) a1).bind fun z2 => (some z2))
theorem f12_ok (base : Orc) (d : Nat) (hd : 1 ≤ d) (a1 : List GRow) (r : List GRow) (hS : f12 a1 = some r) : lev codes base d 12 [(.d (.sl a1.length (e_GRow.cells a1)))] [] = some ((.r (.own 0 35 2 r.length (e_GRow.cells r))), []) := by
  refine lev_goZ codes12 rfl rfl (Nat.le_trans (Nat.le_of_ble_eq_true rfl) hd) (fun Q hQ => ?_) (fun h0 Q hQ => ?_)
  · unfold f12 at hS
    show ZR _ Q c12_b [] _
    refine zrSeq ?_
    refine zrReg ?_
    refine zlRun (n := 1) (j := 1) rfl (by kernel_rfl) ?_
    refine zlEnd (by kernel_rfl) ?_
    refine zkSeq ?_
    refine zrSeq ?_
    refine zrSeq ?_
    refine zrReg ?_
    refine zlRun (n := 2) (j := 2) rfl (by kernel_rfl) ?_
    refine zlEnd (by kernel_rfl) ?_
    refine zkSeq ?_
    refine zrCondF (by kernel_rfl) ?_
    refine zrSkip ?_
    refine zkSeq ?_
    refine zrSeq ?_
    refine zrReg ?_
    refine zlRun (n := 2) (j := 2) rfl (by kernel_rfl) ?_
    refine bindE hS (fun z2 hz2 hS => ?_)
    refine zlOp (d := some 7) (op := (.app 35 2 32 (.tmp 5) (.tmp 6))) (g := none) (v := (.r (.msl 48 2 0 z2.length))) (ups := [(48, ⟨2, some (.own 35 2 (e_GRow.cells z2))⟩)]) (j := 3) rfl (by kernel_rfl) (by kernel_rfl) (ev_app e_GRow (b := 48) (g := 1) (n := ([] : List GRow).length) (xs := []) (ys := a1) ((congrArg (asL _) (by kernel_rfl : ρof _ (.tmp 6) = (.slz false a1.length (e_GRow.cells a1)))).trans rfl) rfl (by kernel_rfl) rfl (by kernel_rfl) rfl hz2) ?_
    refine zlRun (n := 1) (j := 4) rfl (by kernel_rfl) ?_
    refine zlEnd (by kernel_rfl) ?_
    refine zkSeq ?_
    refine zrRet ?_
    refine zkNil ?_
    exact endQ (F := f12_Q) hS hQ (fRet (by kernel_rfl) ((congrArg (fun s => outR s 0 c12.res) (by kernel_rfl : finSt c12.fin _ = f12_fin z2)).trans (f12_out z2)))
  · have hS : (some []) = some r := by
      have hl := List.eq_nil_of_length_eq_zero h0
      subst hl
      simpa [f12, app?] using hS
    show ZR _ Q c12_b [] _
    refine zrSeq ?_
    refine zrReg ?_
    refine zlRun (n := 1) (j := 1) rfl (by kernel_rfl) ?_
    refine zlEnd (by kernel_rfl) ?_
    refine zkSeq ?_
    refine zrSeq ?_
    refine zrSeq ?_
    refine zrReg ?_
    refine zlRun (n := 2) (j := 2) rfl (by kernel_rfl) ?_
    refine zlEnd (by kernel_rfl) ?_
    refine zkSeq ?_
    refine zrCondT (by kernel_rfl) ?_
    refine zrSeq ?_
    refine zrReg ?_
    refine zlRun (n := 1) (j := 1) rfl (by kernel_rfl) ?_
    refine zlEnd (by kernel_rfl) ?_
    refine zkSeq ?_
    refine zrRet ?_
    refine zkSeqR ?_
    refine zkNil ?_
    exact endQ (F := f12_Q) hS hQ (fRet (by kernel_rfl) ((congrArg (fun s => outR s 0 c12.res) (by kernel_rfl : finSt c12.fin _ = f12_fin [])).trans (f12_out [])))
/- farwriter/farkeep.flowLives -/
def f6_fin (p2 : Bool) : St := ⟨(up (fun _ => .un) 0 (.d (.bool p2))), (hB fun _ => 0)⟩
theorem f6_out (p2 : Bool) : outR (f6_fin p2) 0 c6.res = some ((.d (.bool p2)), []) := by
  kernel_rfl
def f6_Q (r : Bool) (e : PX) (st : St) : Prop := DoneF c6 0 ((.d (.bool r)), []) e st
noncomputable def f6  : Option (Bool) := ((f5 [[97, 98, 99], []] 2).bind fun z3 => (bif (decide (z3.2 = 0)) then ((f11 z3.1 [(GRow.mk ([97, 98]) true), (GRow.mk ([99]) false), (GRow.mk ([]) false)]).bind fun z4 => (some z4)) else (some false)))
theorem f6_ok (base : Orc) (d : Nat) (hd : 6 ≤ d)  (r : Bool) (hS : f6 = some r) : lev codes base d 6 [] [] = some ((.d (.bool r)), []) := by
  refine lev_go codes6 rfl rfl (Nat.le_trans (Nat.le_of_ble_eq_true rfl) hd) fun Q hQ => ?_
  unfold f6 at hS
  show ZR _ Q c6_b [] _
  replace hQ : ∀ e st', f6_Q r e st' → Q e st' := hQ
  refine zrSeq ?_
  refine zrReg ?_
  refine zlRun (n := 1) (j := 1) rfl (by kernel_rfl) ?_
  refine zlEnd (by kernel_rfl) ?_
  refine zkSeq ?_
  refine zrSeq ?_
  refine zrReg ?_
  refine zlRun (n := 1) (j := 1) rfl (by kernel_rfl) ?_
  refine zlOp (d := some 5) (op := (.bsl 32 1 2 [(1, (.slice .none 0 0)), (1, (.slice .none 0 0))] [(0, (1, (.tmp 4))), (1, (1, (.const (.slice .none 0 0))))])) (g := none) (v := (.r (.msl 48 1 0 (([[97, 98, 99], []] : List (List Int)).length)))) (ups := [(40, ⟨2, none⟩), (48, ⟨1, some (.own 32 1 ((eSl (eInt .i64)).cells ([[97, 98, 99], []])))⟩)]) (j := 2) rfl (by kernel_rfl) (by kernel_rfl) ((by kernel_rfl : peval _ _ 5 (ρof _) (.bsl 32 1 2 [(1, (.slice .none 0 0)), (1, (.slice .none 0 0))] [(0, (1, (.tmp 4))), (1, (1, (.const (.slice .none 0 0))))]) = some ((.r (.msl 48 1 0 (([[97, 98, 99], []] : List (List Int)).length))), [(40, ⟨2, none⟩), (48, ⟨1, some (.own 32 1 [.sl ([97, 98, 99] : List Int).length ((((eInt .i64).cells ([97, 98, 99])).drop (0 * (eInt .i64).k)).take (([97, 98, 99] : List Int).length * (eInt .i64).k)), .sl 0 []])⟩)])).trans (by simp only [Enc.frz]; rfl)) ?_
  refine bindE hS (fun z3 hz3 hS => ?_)
  refine zlOp (d := some 6) (op := (.callf 5 [(.tmp 5), (.const (.int .i64 2))])) (g := none) (v := (.tup [(.r (.msl 56 1 0 z3.1.length)), (.d (.int .i64 z3.2))])) (ups := [(48, ⟨2, none⟩), (56, ⟨1, some (.own 35 2 (e_GRow.cells z3.1))⟩)]) (j := 3) rfl (by kernel_rfl) (by kernel_rfl) (ev_callF (args := [(.r (.msl 48 1 0 (([[97, 98, 99], []] : List (List Int)).length))), (.d (.int .i64 2))]) (args' := [(.d (.sl ([[97, 98, 99], []] : List (List Int)).length ((eSl (eInt .i64)).cells ([[97, 98, 99], []])))), (.d (.int .i64 2))]) (l := [(.d (.sl ([[97, 98, 99], []] : List (List Int)).length ((eSl (eInt .i64)).cells ([[97, 98, 99], []])))), (.d (.int .i64 2))]) (refs := [48]) (r := (.tup [(.r (.own 0 35 2 z3.1.length (e_GRow.cells z3.1))), (.d (.int .i64 z3.2))])) (v := (.tup [(.r (.msl 56 1 0 z3.1.length)), (.d (.int .i64 z3.2))])) (ups' := [(56, ⟨1, some (.own 35 2 (e_GRow.cells z3.1))⟩)]) (by kernel_rfl) (by kernel_rfl) (by kernel_rfl) (fz_cons (fz_own (eSl (eInt .i64)) (e := 32) (k := 1) (xs := [[97, 98, 99], []]) (by kernel_rfl) (by kernel_rfl) rfl rfl) (fz_cons rfl fz_nil)) (by kernel_rfl) (f5_ok base (d - 1) (dpt hd rfl) [[97, 98, 99], []] 2 z3 hz3) (by kernel_rfl) (by kernel_rfl) (by kernel_rfl) (by kernel_rfl)) ?_
  refine zlRun (n := 5) (j := 8) rfl (by kernel_rfl) ?_
  refine zlEnd (by kernel_rfl) ?_
  refine zkSeq ?_
  refine zrSeq ?_
  refine zrReg ?_
  refine zlRun (n := 1) (j := 1) rfl (by kernel_rfl) ?_
  refine zlBool (d := 10) (op := (.cmpI .eql (.tmp 9) (.const (.int .i64 0)))) (g := none) (j := 2) (decide (z3.2 = 0)) rfl (by kernel_rfl) (by kernel_rfl) (by kernel_rfl) (fun hc => ?_) (fun hc => ?_)
  · replace hS := cond_t hc hS
    refine zlRun (n := 7) (j := 9) rfl (by kernel_rfl) ?_
    refine zlOp (d := some 18) (op := (.bsl 35 2 3 [(1, (.slice .none 0 0)), (1, (.bool .false)), (1, (.slice .none 0 0)), (1, (.bool .false)), (1, (.slice .none 0 0)), (1, (.bool .false))] [(0, (2, (.tmp 14))), (2, (2, (.tmp 16))), (4, (2, (.tmp 17)))])) (g := (some (11, true))) (v := (.r (.msl 152 1 0 (([(GRow.mk ([97, 98]) true), (GRow.mk ([99]) false), (GRow.mk ([]) false)] : List GRow).length)))) (ups := [(112, ⟨2, none⟩), (128, ⟨2, none⟩), (152, ⟨1, some (.own 35 2 (e_GRow.cells ([(GRow.mk ([97, 98]) true), (GRow.mk ([99]) false), (GRow.mk ([]) false)])))⟩)]) (j := 10) rfl (by kernel_rfl) (by kernel_rfl) ((by kernel_rfl : peval _ _ 18 (ρof _) (.bsl 35 2 3 [(1, (.slice .none 0 0)), (1, (.bool .false)), (1, (.slice .none 0 0)), (1, (.bool .false)), (1, (.slice .none 0 0)), (1, (.bool .false))] [(0, (2, (.tmp 14))), (2, (2, (.tmp 16))), (4, (2, (.tmp 17)))]) = some ((.r (.msl 152 1 0 (([(GRow.mk ([97, 98]) true), (GRow.mk ([99]) false), (GRow.mk ([]) false)] : List GRow).length))), [(112, ⟨2, none⟩), (128, ⟨2, none⟩), (152, ⟨1, some (.own 35 2 [.sl ([97, 98] : List Int).length ((((eInt .i64).cells ([97, 98])).drop (0 * (eInt .i64).k)).take (([97, 98] : List Int).length * (eInt .i64).k)), .bool true, .sl ([99] : List Int).length ((((eInt .i64).cells ([99])).drop (0 * (eInt .i64).k)).take (([99] : List Int).length * (eInt .i64).k)), .bool false, .sl 0 [], .bool false])⟩)])).trans (by simp only [Enc.frz]; rfl)) ?_
    refine bindE hS (fun z4 hz4 hS => ?_)
    refine zlOp (d := some 19) (op := (.call 11 [(.tmp 12), (.tmp 18)])) (g := (some (11, true))) (j := 11) rfl (by kernel_rfl) (by kernel_rfl) (ev_callB (args := [(.r (.msl 56 1 0 z3.1.length)), (.r (.msl 152 1 0 (([(GRow.mk ([97, 98]) true), (GRow.mk ([99]) false), (GRow.mk ([]) false)] : List GRow).length)))]) (by kernel_rfl) (l_cons (l_own e_GRow (e := 35) (k := 2) (xs := z3.1) (by kernel_rfl) rfl rfl) (l_cons (l_own e_GRow (e := 35) (k := 2) (xs := [(GRow.mk ([97, 98]) true), (GRow.mk ([99]) false), (GRow.mk ([]) false)]) (by kernel_rfl) rfl rfl) l_nil)) (f11_ok base (d - 1) (dpt hd rfl) z3.1 [(GRow.mk ([97, 98]) true), (GRow.mk ([99]) false), (GRow.mk ([]) false)] z4 hz4) (by kernel_rfl) (by kernel_rfl)) ?_
    refine zlRun (n := 2) (j := 13) rfl (by kernel_rfl) ?_
    refine zlEnd (by kernel_rfl) ?_
    refine zkSeq ?_
    refine zrRet ?_
    refine zkNil ?_
    exact endQ hS hQ (fRet (by kernel_rfl) ((congrArg (fun s => outR s 0 c6.res) (by kernel_rfl : finSt c6.fin _ = f6_fin z4)).trans (f6_out z4)))
  · replace hS := cond_f hc hS
    refine zlRun (n := 11) (j := 13) rfl (by kernel_rfl) ?_
    refine zlEnd (by kernel_rfl) ?_
    refine zkSeq ?_
    refine zrRet ?_
    refine zkNil ?_
    exact endQ hS hQ (fRet (by kernel_rfl) ((congrArg (fun s => outR s 0 c6.res) (by kernel_rfl : finSt c6.fin _ = f6_fin false)).trans (f6_out false)))
end Go.Proofs.Ytnnnfncebpkaoaa.Pm
