/- Typed functions, and that the codes are these. Printed by dec.py. -/
import Derived.Test.YtjoccdgmcdkbkaaGreatDoorDSsD
namespace Go.Proofs.YtjoccdgmcdkbkaaGreatDoor.Pm
set_option maxRecDepth 1000000
set_option maxHeartbeats 20000000
set_option linter.unusedVariables false
/- farwriter/screen.actions -/
def f37_fin (p15 : Int) : St := ⟨(up u0 2 (dI p15)), h0⟩
theorem f37_out (p15 : Int) : outR (f37_fin p15) 0 c37.res = some ((dI p15), []) := by
  kernel_rfl
def f37_Q (r : Int) (e : PX) (st : St) : Prop := DoneF c37 0 ((dI r), []) e st
def f37_l0_J (a1 : List GAct) (x : Int) : St := ⟨(up (up (up u0 7 (dI x)) 6 (dI (a1.length : Int))) 5 (.d (.sl a1.length (e_GAct.cells a1)))), h0⟩
def f37_l0_H (a1 : List GAct) (x : Int) (st : St) : Prop := keepSt [5, 6, 7] [] [] st = f37_l0_J a1 x
def f37_l0_e0_J (a1 : List GAct) : St := ⟨u0, h0⟩
def f37_l0_X (a1 : List GAct) (z : Unit ⊕ Int) (e : PX) (st : St) : Prop := (match z with | .inl z => e = .exit 0 ∧ st = f37_l0_e0_J a1 | .inr z => e = .ret ∧ finSt c37.fin st = f37_fin z)
def f37_l0_j2_J (a1 : List GAct) (p20 : Int) : St := ⟨(up (up (up u0 7 (dI p20)) 6 (dI (a1.length : Int))) 5 (.d (.sl a1.length (e_GAct.cells a1)))), h0⟩
noncomputable def f37_l0_j2 (a1 : List GAct) (p20 : Int) : Option (Int ⊕ (Unit ⊕ Int)) := ((idx a1 p20).bind fun z7 => (bif (decide (32 < (z7.Args.length : Int))) then (some (.inr (.inr 1))) else (bif (decide (256 < (z7.Text.length : Int))) then (some (.inr (.inr 1))) else ((f61 z7.Args).bind fun z8 => (bif z8 then (some (.inr (.inr 1))) else (some (.inl (IntKind.i64.wrap (p20 + 1)))))))))
theorem f37_l0_j2_ok {d : Nat} (hd : 5 ≤ d) (a1 : List GAct) {r : Int ⊕ (Unit ⊕ Int)} {Q : PX → St → Prop} (hQ : ∀ e st', finL (f37_l0_H a1) (f37_l0_X a1) r e st' → Q e st') (p20 : Int) (hS : f37_l0_j2 a1 p20 = some r) {st : St} (he : keepSt [5, 6, 7] [] [] st = f37_l0_j2_J a1 p20) : ZR (lev codes baseL (d - 1)) Q c37_1 [] st := by
  refine zrKeep he ?_
  unfold f37_l0_j2 at hS
  refine zrSeq ?_
  refine zrBlk ?_
  refine zrSeq (zrReg ?_)
  refine bindE hS (fun z7 hz7 hS => ?_)
  refine zO (v := (.rptr (e_GAct.enc z7 ++ (e_GAct.cells (a1.drop ((p20 : Int).toNat + 1)))))) (ups := []) (some 9) 1 (.ixS 45 6 (tm 5) (tm 7)) (ev_ixS e_GAct (kk := .i64) (xs := a1) (j := p20) (by kernel_rfl) (by kernel_rfl) hz7 rfl (by intro h; cases h)) ?_
  refine zL 3 4 (zE (zkSeq (zrSeq (zrReg (zL 3 3 ?_)))))
  refine zB 14 4 (.cmpI .gtr (tm 13) (ki 32)) (decide (32 < (z7.Args.length : Int))) (fun hc => ?_) (fun hc => ?_)
  · replace hS := cond_t hc hS
    refine zL 11 15 (zE (zkSeq (zT (zrSeq (zrReg (zL 1 1 (zE (zkSeq ?_))))))))
    refine zrRet ?_
    refine zkBlkR ?_
    refine zkSeqR ?_
    refine zkNil ?_
    exact endQ hS hQ (finL_x (by intro h; cases h) (by show _ = _ ∧ _ = _; exact ⟨rfl, by kernel_rfl⟩))
  · replace hS := cond_f hc hS
    refine zL 4 8 ?_
    refine zlBool (d := 19) (op := (.cmpI .gtr (tm 18) (ki 256))) (g := (some (15, false))) (j := 9) (decide (256 < (z7.Text.length : Int))) rfl (by kernel_rfl) (by kernel_rfl) (by kernel_rfl) (fun hc => ?_) (fun hc => ?_)
    · replace hS := cond_t hc hS
      refine zL 6 15 (zE (zkSeq (zT (zrSeq (zrReg (zL 1 1 (zE (zkSeq ?_))))))))
      refine zrRet ?_
      refine zkBlkR ?_
      refine zkSeqR ?_
      refine zkNil ?_
      exact endQ hS hQ (finL_x (by intro h; cases h) (by show _ = _ ∧ _ = _; exact ⟨rfl, by kernel_rfl⟩))
    · replace hS := cond_f hc hS
      refine zL 4 13 ?_
      refine bindE hS (fun z8 hz8 hS => ?_)
      refine zlOp (d := some 24) (op := (.call 61 [(tm 23), (.func 62)])) (g := (some (21, false))) (j := 14) rfl (by kernel_rfl) (by kernel_rfl) (ev_callA (by kernel_rfl) (f61_ok (d - 1) (dpt hd rfl) z7.Args z8 hz8) (by kernel_rfl) (by kernel_rfl)) ?_
      refine zL 1 15 (zE (zkSeq ?_))
      refine zrSplit 25 z8 (by kernel_rfl) (fun hc => ?_) (fun hc => ?_)
      · replace hS := cond_t hc hS
        refine zT (zrSeq (zrReg (zL 1 1 (zE (zkSeq ?_)))))
        refine zrRet ?_
        refine zkBlkR ?_
        refine zkSeqR ?_
        refine zkNil ?_
        exact endQ hS hQ (finL_x (by intro h; cases h) (by show _ = _ ∧ _ = _; exact ⟨rfl, by kernel_rfl⟩))
      · replace hS := cond_f hc hS
        refine zF ?_
        refine zrSkip ?_
        refine zkBlk ?_
        refine zkSeq (zrReg (zL 2 2 (zE ?_)))
        refine zkNil ?_
        exact endQ hS hQ (finL_n (by show keepSt _ _ _ _ = _; kernel_rfl))
def f37_l0_j1_J (a1 : List GAct) (p18 : Int) (p19 : Bool) : St := ⟨(up (up (up (up u0 8 (dB p19)) 7 (dI p18)) 6 (dI (a1.length : Int))) 5 (.d (.sl a1.length (e_GAct.cells a1)))), h0⟩
noncomputable def f37_l0_j1 (a1 : List GAct) (p18 : Int) (p19 : Bool) : Option (Int ⊕ (Unit ⊕ Int)) := (bif p19 then (f37_l0_j2 a1 p18) else (some (.inr (.inl ()))))
theorem f37_l0_j1_ok {d : Nat} (hd : 5 ≤ d) (a1 : List GAct) {r : Int ⊕ (Unit ⊕ Int)} {Q : PX → St → Prop} (hQ : ∀ e st', finL (f37_l0_H a1) (f37_l0_X a1) r e st' → Q e st') (p18 : Int) (p19 : Bool) (hS : f37_l0_j1 a1 p18 p19 = some r) {st : St} (he : keepSt [5, 6, 7, 8] [] [] st = f37_l0_j1_J a1 p18 p19) : ZR (lev codes baseL (d - 1)) Q c37_2 [] st := by
  refine zrKeep he ?_
  unfold f37_l0_j1 at hS
  refine zrSeq ?_
  refine zrSplit 8 p19 (by kernel_rfl) (fun hc => ?_) (fun hc => ?_)
  · replace hS := cond_t hc hS
    refine zT ?_
    refine zrSkip ?_
    refine zkSeq ?_
    exact f37_l0_j2_ok hd a1 hQ p18 hS (by kernel_rfl)
  · replace hS := cond_f hc hS
    refine zF ?_
    refine zrKeep (J := f37_l0_e0_J a1) (by kernel_rfl) ?_
    refine zrExit ?_
    refine zkSeqX ?_
    refine zkNil ?_
    exact endQ hS hQ (finL_x (by intro h; cases h) (by show _ = _ ∧ _ = _; exact ⟨rfl, rfl⟩))
noncomputable def f37_l0 (a1 : List GAct) (x : Int) : Option (Int ⊕ (Unit ⊕ Int)) := (bif (decide (x < (a1.length : Int))) then (f37_l0_j1 a1 x true) else (f37_l0_j1 a1 x false))
theorem f37_l0_ok {d : Nat} (hd : 5 ≤ d) (a1 : List GAct) {r : Int ⊕ (Unit ⊕ Int)} {Q : PX → St → Prop} (hQ : ∀ e st', finL (f37_l0_H a1) (f37_l0_X a1) r e st' → Q e st') {x : Int} (hS : f37_l0 a1 x = some r) {st : St} (he : f37_l0_H a1 x st) : ZR (lev codes baseL (d - 1)) Q c37_3 [] st := by
  refine zrKeep he ?_
  unfold f37_l0 at hS
  refine zrSeq (zrReg ?_)
  refine zB 8 1 (.cmpI .lss (tm 7) (tm 6)) (decide (x < (a1.length : Int))) (fun hc => ?_) (fun hc => ?_)
  · replace hS := cond_t hc hS
    refine zE (zkSeq ?_)
    exact f37_l0_j1_ok hd a1 hQ x true hS (by kernel_rfl)
  · replace hS := cond_f hc hS
    refine zE (zkSeq ?_)
    exact f37_l0_j1_ok hd a1 hQ x false hS (by kernel_rfl)
noncomputable def f37 (a1 : List GAct) : Option (Int) := ((loopO (f37_l0 a1) 0).bind fun z9 => (Sum.elim (fun z10 => (some 0)) (fun z11 => (some z11)) z9))
theorem f37_ok (d : Nat) (hd : 5 ≤ d) (a1 : List GAct) (r : Int) (hS : f37 a1 = some r) : lev codes baseL d 37 [(.d (.sl a1.length (e_GAct.cells a1)))] [] = some ((dI r), []) := by
  refine lev_go codes37 rfl rfl (Nat.le_trans (Nat.le_of_ble_eq_true rfl) hd) fun Q hQ => ?_
  unfold f37 at hS
  show ZR _ Q c37_b [] _
  replace hQ : ∀ e st', f37_Q r e st' → Q e st' := hQ
  refine zrSeq (zrReg (zL 1 1 (zE (zkSeq (zrSeq (zrSeq (zrReg (zL 3 3 (zE (zkSeq ?_))))))))))
  refine zrBlk ?_
  refine bindE hS (fun z9 hz9 hS => ?_)
  refine zrLoop (f37_l0_H a1) (f37_l0_X a1) (fun x st r Q h0 hS hQ => f37_l0_ok hd a1 hQ hS h0) (x := 0) (z := z9) (by show keepSt _ _ _ _ = _; kernel_rfl) hz9 ?_
  rcases z9 with z10 | z11
  · replace hS := (show _ = _ from hS)
    simp only [Sum.elim_inl] at hS
    intro e st' _ hX
    obtain ⟨rfl, rfl⟩ : _ ∧ _ := hX
    refine zkBlkX ?_
    refine zkSeq (zrSeq (zrReg (zL 1 1 (zE (zkSeq ?_)))))
    refine zrRet ?_
    refine zkNil ?_
    exact endQ hS hQ (fR (f37_out 0))
  · simp only [Sum.elim_inr] at hS
    intro e st' _ hX
    obtain ⟨rfl, hX⟩ : _ ∧ _ := hX
    refine zkBlkR ?_
    refine zkSeqR ?_
    refine zkNil ?_
    exact endQ hS hQ (fRet (by kernel_rfl) ((congrArg (fun s => outR s 0 c37.res) hX).trans (f37_out z11)))
/- strings.HasPrefix -/
theorem libHasPrefix_ok (d : Nat) (hd : 0 ≤ d) (a1 : List UInt8) (a2 : List UInt8) (r : Bool) (hS : libHasPrefix a1 a2 = some r) : lev codes baseL d 67 [(.d (.str a1)), (.d (.str a2))] [] = some ((dB r), []) := lib_call (l := libs) rfl rfl rfl (ossB_ hS) d
/- farwriter/args.Get -/
def f101_fin (p2 : Int) : St := ⟨(up u0 6 (dI p2)), h0⟩
theorem f101_out (p2 : Int) : outR (f101_fin p2) 0 c101.res = some ((dI p2), []) := by
  kernel_rfl
def f101_Q (r : Int) (e : PX) (st : St) : Prop := DoneF c101 0 ((dI r), []) e st
noncomputable def f101 (a1 : List Int) (a2 : Int) (a3 : Int) : Option (Int) := (bif (decide (a2 < 0)) then (some a3) else (bif (decide ((a1.length : Int) ≤ a2)) then (some a3) else ((idx a1 a2).bind fun z3 => (bif (decide (z3 = (-1))) then (some a3) else ((idx a1 a2).bind fun z4 => (some z4))))))
theorem f101_ok (d : Nat) (hd : 1 ≤ d) (a1 : List Int) (a2 : Int) (a3 : Int) (r : Int) (hS : f101 a1 a2 a3 = some r) : lev codes baseL d 101 [(.d (.sl a1.length ((eInt .i64).cells a1))), (dI a2), (dI a3)] [] = some ((dI r), []) := by
  refine lev_go codes101 rfl rfl (Nat.le_trans (Nat.le_of_ble_eq_true rfl) hd) fun Q hQ => ?_
  unfold f101 at hS
  show ZR _ Q c101_b [] _
  replace hQ : ∀ e st', f101_Q r e st' → Q e st' := hQ
  refine zrSeq (zrReg (zL 1 1 (zE (zkSeq (zrSeq (zrSeq (zrReg (zL 1 1 ?_))))))))
  refine zB 8 2 (.cmpI .lss (tm 7) (ki 0)) (decide (a2 < 0)) (fun hc => ?_) (fun hc => ?_)
  · replace hS := cond_t hc hS
    refine zL 13 15 (zE (zkSeq (zT (zrSeq (zrReg (zL 2 2 (zE (zkSeq ?_))))))))
    refine zrRet ?_
    refine zkSeqR ?_
    refine zkNil ?_
    exact endQ hS hQ (fR (f101_out a3))
  · replace hS := cond_f hc hS
    refine zL 4 6 ?_
    refine zlBool (d := 13) (op := (.cmpI .geq (tm 10) (tm 12))) (g := (some (9, false))) (j := 7) (decide ((a1.length : Int) ≤ a2)) rfl (by kernel_rfl) (by kernel_rfl) (by kernel_rfl) (fun hc => ?_) (fun hc => ?_)
    · replace hS := cond_t hc hS
      refine zL 8 15 (zE (zkSeq (zT (zrSeq (zrReg (zL 2 2 (zE (zkSeq ?_))))))))
      refine zrRet ?_
      refine zkSeqR ?_
      refine zkNil ?_
      exact endQ hS hQ (fR (f101_out a3))
    · replace hS := cond_f hc hS
      refine zL 4 11 ?_
      refine bindE hS (fun z3 hz3 hS => ?_)
      refine zlOp (d := some 18) (op := (.ixS 3 1 (tm 16) (tm 17))) (g := (some (15, false))) (v := (.rptr ((eInt .i64).enc z3 ++ ((eInt .i64).cells (a1.drop ((a2 : Int).toNat + 1)))))) (ups := []) (j := 12) rfl (by kernel_rfl) (by kernel_rfl) (ev_ixS (eInt .i64) (kk := .i64) (xs := a1) (j := a2) (by kernel_rfl) (by kernel_rfl) hz3 rfl (by intro h; cases h)) ?_
      refine zL 1 13 ?_
      refine zlBool (d := 20) (op := (.cmpI .eql (tm 19) (ki (-1)))) (g := (some (15, false))) (j := 14) (decide (z3 = (-1))) rfl (by kernel_rfl) (by kernel_rfl) (by kernel_rfl) (fun hc => ?_) (fun hc => ?_)
      · replace hS := cond_t hc hS
        refine zL 1 15 (zE (zkSeq (zT (zrSeq (zrReg (zL 2 2 (zE (zkSeq ?_))))))))
        refine zrRet ?_
        refine zkSeqR ?_
        refine zkNil ?_
        exact endQ hS hQ (fR (f101_out a3))
      · replace hS := cond_f hc hS
        refine zL 1 15 (zE (zkSeq (zF ?_)))
        refine zrSkip ?_
        refine zkSeq (zrSeq (zrReg (zL 2 2 ?_)))
        refine bindE hS (fun z4 hz4 hS => ?_)
        refine zO (v := (.rptr ((eInt .i64).enc z4 ++ ((eInt .i64).cells (a1.drop ((a2 : Int).toNat + 1)))))) (ups := []) (some 25) 3 (.ixS 3 1 (tm 23) (tm 24)) (ev_ixS (eInt .i64) (kk := .i64) (xs := a1) (j := a2) (by kernel_rfl) (by kernel_rfl) hz4 rfl (by intro h; cases h)) ?_
        refine zL 2 5 (zE (zkSeq ?_))
        refine zrRet ?_
        refine zkNil ?_
        exact endQ hS hQ (fR (f101_out z4))
/- farwriter/screen.positive -/
def f100_fin (p1 : Int) : St := ⟨(up u0 4 (dI p1)), h0⟩
theorem f100_out (p1 : Int) : outR (f100_fin p1) 0 c100.res = some ((dI p1), []) := by
  kernel_rfl
def f100_Q (r : Int) (e : PX) (st : St) : Prop := DoneF c100 0 ((dI r), []) e st
noncomputable def f100 (a1 : List Int) (a2 : Int) : Option (Int) := ((f101 a1 a2 1).bind fun z2 => (some (if 1 > z2 then 1 else z2)))
theorem f100_ok (d : Nat) (hd : 2 ≤ d) (a1 : List Int) (a2 : Int) (r : Int) (hS : f100 a1 a2 = some r) : lev codes baseL d 100 [(.d (.sl a1.length ((eInt .i64).cells a1))), (dI a2)] [] = some ((dI r), []) := by
  refine lev_go codes100 rfl rfl (Nat.le_trans (Nat.le_of_ble_eq_true rfl) hd) fun Q hQ => ?_
  unfold f100 at hS
  show ZR _ Q c100_b [] _
  replace hQ : ∀ e st', f100_Q r e st' → Q e st' := hQ
  refine zrSeq (zrReg (zL 1 1 (zE (zkSeq (zrSeq (zrReg (zL 2 2 ?_)))))))
  refine bindE hS (fun z2 hz2 hS => ?_)
  refine zO (some 7) 3 (.call 101 [(tm 5), (tm 6), (ki 1)]) (ev_callA (by kernel_rfl) (f101_ok (d - 1) (dpt hd rfl) a1 a2 1 z2 hz2) (by kernel_rfl) (by kernel_rfl)) ?_
  refine zL 2 5 (zE (zkSeq ?_))
  refine zrRet ?_
  refine zkNil ?_
  exact endQ hS hQ (fR (f100_out (if 1 > z2 then 1 else z2)))
/- farwriter/screen.limit -/
def f112_fin (p1 : Int) : St := ⟨(up u0 6 (dI p1)), h0⟩
theorem f112_out (p1 : Int) : outR (f112_fin p1) 0 c112.res = some ((dI p1), []) := by
  kernel_rfl
def f112_Q (r : Int) (e : PX) (st : St) : Prop := DoneF c112 0 ((dI r), []) e st
noncomputable def f112 (a1 : Int) (a2 : Int) (a3 : Int) : Option (Int) := (some (if (if a3 < a1 then a3 else a1) > a2 then (if a3 < a1 then a3 else a1) else a2))
theorem f112_ok (d : Nat) (hd : 1 ≤ d) (a1 : Int) (a2 : Int) (a3 : Int) (r : Int) (hS : f112 a1 a2 a3 = some r) : lev codes baseL d 112 [(dI a1), (dI a2), (dI a3)] [] = some ((dI r), []) := by
  refine lev_go codes112 rfl rfl (Nat.le_trans (Nat.le_of_ble_eq_true rfl) hd) fun Q hQ => ?_
  unfold f112 at hS
  show ZR _ Q c112_b [] _
  replace hQ : ∀ e st', f112_Q r e st' → Q e st' := hQ
  refine zrSeq (zrReg (zL 1 1 (zE (zkSeq (zrSeq (zrReg (zL 6 6 (zE (zkSeq ?_)))))))))
  refine zrRet ?_
  refine zkNil ?_
  exact endQ hS hQ (fR (f112_out (if (if a3 < a1 then a3 else a1) > a2 then (if a3 < a1 then a3 else a1) else a2)))
/- (*farwriter/screen.terminal).up -/
def f117_fin (p10 : Gterminal) : St := ⟨(up u0 2000000 .un), (gh_Gterminal h0 p10 0 1 2 3)⟩
theorem f117_out (p10 : Gterminal) : outR (f117_fin p10) 4 c117.res = some ((.tup []), (gb_Gterminal p10 1 2 3)) := by
  kernel_rfl
def f117_Q (r : Gterminal) (e : PX) (st : St) : Prop := DoneF c117 4 ((.tup []), [(gx_Gterminal r 1 2 3), (go0_Gterminal r), (go1_Gterminal r), (go2_Gterminal r), .box []]) e st
def f117_j1_J (a1 : Int) (a2 : Gterminal) (p21 : Int) (p22 : Int) : St := ⟨(up (up (up (up u0 5 (dI p22)) 4 (dI p21)) 1 (dI a1)) 0 (pt 0)), (gh_Gterminal h0 a2 0 1 2 3)⟩
noncomputable def f117_j1 (a1 : Int) (a2 : Gterminal) (p21 : Int) (p22 : Int) : Option (Gterminal) := ((f112 (IntKind.i64.wrap (a2.Screen.Row - a1)) p21 p22).bind fun z2 => (some (Gterminal.mk ({ a2.Screen with Row := z2, Late := false }) a2.sent)))
theorem f117_j1_ok {d : Nat} (hd : 2 ≤ d) (a1 : Int) (a2 : Gterminal) {r : Gterminal} {Q : PX → St → Prop} (hQ : ∀ e st', f117_Q r e st' → Q e st') (p21 : Int) (p22 : Int) (hS : f117_j1 a1 a2 p21 p22 = some r) {st : St} (he : keepSt [0, 1, 4, 5] [(0, .id 0), (1, .id 1), (2, .id 2), (3, .id 3)] [] st = f117_j1_J a1 a2 p21 p22) : ZR (lev codes baseL (d - 1)) Q c117_1 [] st := by
  refine zrKeep he ?_
  unfold f117_j1 at hS
  refine zrSeq (zrReg (zL 10 10 ?_))
  refine bindE hS (fun z2 hz2 hS => ?_)
  refine zO (some 64) 11 (.call 112 [(tm 61), (tm 62), (tm 63)]) (ev_callA (by kernel_rfl) (f112_ok (d - 1) (dpt hd rfl) (IntKind.i64.wrap (a2.Screen.Row - a1)) p21 p22 z2 hz2) (by kernel_rfl) (by kernel_rfl)) ?_
  refine zL 4 15 (zE (zkSeq (zrReg (zL 5 5 (zE ?_)))))
  refine zkNil ?_
  exact endQ hS hQ (fNormX (by kernel_rfl) (by kernel_rfl : finSt c117.fin _ = f117_fin (Gterminal.mk ({ a2.Screen with Row := z2, Late := false }) a2.sent)) (by kernel_rfl) (f117_out (Gterminal.mk ({ a2.Screen with Row := z2, Late := false }) a2.sent)))
def f117_j2_J (a1 : Int) (a2 : Gterminal) (p24 : Int) : St := ⟨(up (up (up (up u0 5 (dI (IntKind.i64.wrap (a2.Screen.Grid.High - 1)))) 4 (dI p24)) 1 (dI a1)) 0 (pt 0)), (gh_Gterminal h0 a2 0 1 2 3)⟩
noncomputable def f117_j2 (a1 : Int) (a2 : Gterminal) (p24 : Int) : Option (Gterminal) := (f117_j1 a1 a2 p24 (IntKind.i64.wrap (a2.Screen.Grid.High - 1)))
theorem f117_j2_ok {d : Nat} (hd : 2 ≤ d) (a1 : Int) (a2 : Gterminal) {r : Gterminal} {Q : PX → St → Prop} (hQ : ∀ e st', f117_Q r e st' → Q e st') (p24 : Int) (hS : f117_j2 a1 a2 p24 = some r) {st : St} (he : keepSt [0, 1, 4, 5] [(0, .id 0), (1, .id 1), (2, .id 2), (3, .id 3)] [] st = f117_j2_J a1 a2 p24) : ZR (lev codes baseL (d - 1)) Q c117_2 [.seq c117_1] st := by
  refine zrKeep he ?_
  unfold f117_j2 at hS
  refine zrSkip ?_
  refine zkSeq ?_
  exact f117_j1_ok hd a1 a2 hQ p24 (IntKind.i64.wrap (a2.Screen.Grid.High - 1)) hS (by kernel_rfl)
def f117_j0_J (a1 : Int) (a2 : Gterminal) (p14 : Int) : St := ⟨(up (up (up (up u0 5 (dI (IntKind.i64.wrap (a2.Screen.Grid.High - 1)))) 4 (dI p14)) 1 (dI a1)) 0 (pt 0)), (gh_Gterminal h0 a2 0 1 2 3)⟩
noncomputable def f117_j0 (a1 : Int) (a2 : Gterminal) (p14 : Int) : Option (Gterminal) := (bif (decide (a1 < 0)) then (bif (decide (a2.Screen.Row < a2.Screen.Bottom)) then (f117_j1 a1 a2 p14 (IntKind.i64.wrap (a2.Screen.Bottom - 1))) else (f117_j2 a1 a2 p14)) else (f117_j2 a1 a2 p14))
theorem f117_j0_ok {d : Nat} (hd : 2 ≤ d) (a1 : Int) (a2 : Gterminal) {r : Gterminal} {Q : PX → St → Prop} (hQ : ∀ e st', f117_Q r e st' → Q e st') (p14 : Int) (hS : f117_j0 a1 a2 p14 = some r) {st : St} (he : keepSt [0, 1, 4, 5] [(0, .id 0), (1, .id 1), (2, .id 2), (3, .id 3)] [] st = f117_j0_J a1 a2 p14) : ZR (lev codes baseL (d - 1)) Q c117_3 [] st := by
  refine zrKeep he ?_
  unfold f117_j0 at hS
  refine zrSeq (zrSeq ?_)
  refine zrRegD ?_
  refine zdRun (n := 1) (j := 1) (ts := [[]]) (acc' := [[]]) rfl (by kernel_rfl) (by kernel_rfl) (by kernel_rfl) ?_
  refine zdBool (d := 34) (op := (.cmpI .lss (tm 33) (ki 0))) (g := none) (j := 2) (t1 := []) (acc' := [[], []]) (decide (a1 < 0)) (by kernel_rfl) (by kernel_rfl) rfl (by kernel_rfl) (by kernel_rfl) (by kernel_rfl) (fun hc => ?_) (fun hc => ?_)
  · replace hS := cond_t hc hS
    refine zdRun (n := 11) (j := 13) (ts := [[], [], [], [], [], [(0, false)], [], [], [], [], [(0, false)]]) (acc' := [[], [], [], [], [], [], [], [(0, false)], [], [], [], [], [(0, false)]]) rfl (by kernel_rfl) (by kernel_rfl) (by kernel_rfl) ?_
    refine zdBool (d := 46) (op := (.cmpI .lss (tm 40) (tm 45))) (g := (some (35, true))) (j := 14) (t1 := []) (acc' := [[], [], [], [], [], [], [], [(0, false)], [], [], [], [], [(0, false)], []]) (decide (a2.Screen.Row < a2.Screen.Bottom)) (by kernel_rfl) (by kernel_rfl) rfl (by kernel_rfl) (by kernel_rfl) (by kernel_rfl) (fun hc => ?_) (fun hc => ?_)
    · replace hS := cond_t hc hS
      refine zdRun (n := 1) (j := 15) (ts := [[]]) (acc' := [[], [], [], [], [], [], [], [(0, false)], [], [], [], [], [(0, false)], [], []]) rfl (by kernel_rfl) (by kernel_rfl) (by kernel_rfl) ?_
      refine zdEnd (by kernel_rfl) (by kernel_rfl) ?_
      refine zkSeq (zT (zrReg (zL 7 7 (zE (zkSeq ?_)))))
      exact f117_j1_ok hd a1 a2 hQ p14 (IntKind.i64.wrap (a2.Screen.Bottom - 1)) hS (by kernel_rfl)
    · replace hS := cond_f hc hS
      refine zdRun (n := 1) (j := 15) (ts := [[]]) (acc' := [[], [], [], [], [], [], [], [(0, false)], [], [], [], [], [(0, false)], [], []]) rfl (by kernel_rfl) (by kernel_rfl) (by kernel_rfl) ?_
      refine zdEnd (by kernel_rfl) (by kernel_rfl) ?_
      refine zkSeq (zF ?_)
      exact f117_j2_ok hd a1 a2 hQ p14 hS (by kernel_rfl)
  · replace hS := cond_f hc hS
    refine zdRun (n := 13) (j := 15) (ts := [[], [], [], [], [], [], [], [], [], [], [], [], []]) (acc' := [[], [], [], [], [], [], [], [], [], [], [], [], [], [], []]) rfl (by kernel_rfl) (by kernel_rfl) (by kernel_rfl) ?_
    refine zdEnd (by kernel_rfl) (by kernel_rfl) ?_
    refine zkSeq (zF ?_)
    exact f117_j2_ok hd a1 a2 hQ p14 hS (by kernel_rfl)
def f117_j3_J (a1 : Int) (a2 : Gterminal) : St := ⟨(up (up (up (up u0 5 (dI (IntKind.i64.wrap (a2.Screen.Grid.High - 1)))) 4 (dI 0)) 1 (dI a1)) 0 (pt 0)), (gh_Gterminal h0 a2 0 1 2 3)⟩
noncomputable def f117_j3 (a1 : Int) (a2 : Gterminal) : Option (Gterminal) := (f117_j0 a1 a2 0)
theorem f117_j3_ok {d : Nat} (hd : 2 ≤ d) (a1 : Int) (a2 : Gterminal) {r : Gterminal} {Q : PX → St → Prop} (hQ : ∀ e st', f117_Q r e st' → Q e st')  (hS : f117_j3 a1 a2 = some r) {st : St} (he : keepSt [0, 1, 4, 5] [(0, .id 0), (1, .id 1), (2, .id 2), (3, .id 3)] [] st = f117_j3_J a1 a2) : ZR (lev codes baseL (d - 1)) Q c117_4 [.seq c117_3] st := by
  refine zrKeep he ?_
  unfold f117_j3 at hS
  refine zrSkip ?_
  refine zkSeq ?_
  exact f117_j0_ok hd a1 a2 hQ 0 hS (by kernel_rfl)
noncomputable def f117 (a1 : Int) (a2 : Gterminal) : Option (Gterminal) := (bif (decide (0 < a1)) then (bif (decide (a2.Screen.Top ≤ a2.Screen.Row)) then (f117_j0 a1 a2 a2.Screen.Top) else (f117_j3 a1 a2 )) else (f117_j3 a1 a2 ))
theorem f117_ok (d : Nat) (hd : 2 ≤ d) (a1 : Int) (a2 : Gterminal) (r : Gterminal) (hS : f117 a1 a2 = some r) : lev codes baseL d 117 [(pt 0), (dI a1)] (gb_Gterminal a2 1 2 3) = some ((.tup []), [(gx_Gterminal r 1 2 3), (go0_Gterminal r), (go1_Gterminal r), (go2_Gterminal r), .box []]) := by
  refine lev_go codes117 rfl rfl (Nat.le_trans (Nat.le_of_ble_eq_true rfl) hd) fun Q hQ => ?_
  unfold f117 at hS
  show ZR _ Q c117_b [] _
  replace hQ : ∀ e st', f117_Q r e st' → Q e st' := hQ
  refine zrSeq ?_
  refine zrRegD ?_
  refine zdRun (n := 9) (j := 9) (ts := [[], [], [], [], [], [(0, false)], [], [], []]) (acc' := [[], [], [], [], [], [(0, false)], [], [], []]) rfl (by kernel_rfl) (by kernel_rfl) (by kernel_rfl) ?_
  refine zdEnd (by kernel_rfl) (by kernel_rfl) ?_
  refine zkSeq (zrSeq (zrSeq ?_))
  refine zrRegD ?_
  refine zdRun (n := 1) (j := 1) (ts := [[]]) (acc' := [[]]) rfl (by kernel_rfl) (by kernel_rfl) (by kernel_rfl) ?_
  refine zdBool (d := 14) (op := (.cmpI .gtr (tm 13) (ki 0))) (g := none) (j := 2) (t1 := []) (acc' := [[], []]) (decide (0 < a1)) (by kernel_rfl) (by kernel_rfl) rfl (by kernel_rfl) (by kernel_rfl) (by kernel_rfl) (fun hc => ?_) (fun hc => ?_)
  · replace hS := cond_t hc hS
    refine zdRun (n := 11) (j := 13) (ts := [[], [], [], [], [], [(0, false)], [], [], [], [], [(0, false)]]) (acc' := [[], [], [], [], [], [], [], [(0, false)], [], [], [], [], [(0, false)]]) rfl (by kernel_rfl) (by kernel_rfl) (by kernel_rfl) ?_
    refine zdBool (d := 26) (op := (.cmpI .geq (tm 20) (tm 25))) (g := (some (15, true))) (j := 14) (t1 := []) (acc' := [[], [], [], [], [], [], [], [(0, false)], [], [], [], [], [(0, false)], []]) (decide (a2.Screen.Top ≤ a2.Screen.Row)) (by kernel_rfl) (by kernel_rfl) rfl (by kernel_rfl) (by kernel_rfl) (by kernel_rfl) (fun hc => ?_) (fun hc => ?_)
    · replace hS := cond_t hc hS
      refine zdRun (n := 1) (j := 15) (ts := [[]]) (acc' := [[], [], [], [], [], [], [], [(0, false)], [], [], [], [], [(0, false)], [], []]) rfl (by kernel_rfl) (by kernel_rfl) (by kernel_rfl) ?_
      refine zdEnd (by kernel_rfl) (by kernel_rfl) ?_
      refine zkSeq (zT (zrReg (zL 6 6 (zE (zkSeq ?_)))))
      exact f117_j0_ok hd a1 a2 hQ a2.Screen.Top hS (by kernel_rfl)
    · replace hS := cond_f hc hS
      refine zdRun (n := 1) (j := 15) (ts := [[]]) (acc' := [[], [], [], [], [], [], [], [(0, false)], [], [], [], [], [(0, false)], [], []]) rfl (by kernel_rfl) (by kernel_rfl) (by kernel_rfl) ?_
      refine zdEnd (by kernel_rfl) (by kernel_rfl) ?_
      refine zkSeq (zF ?_)
      exact f117_j3_ok hd a1 a2 hQ  hS (by kernel_rfl)
  · replace hS := cond_f hc hS
    refine zdRun (n := 13) (j := 15) (ts := [[], [], [], [], [], [], [], [], [], [], [], [], []]) (acc' := [[], [], [], [], [], [], [], [], [], [], [], [], [], [], []]) rfl (by kernel_rfl) (by kernel_rfl) (by kernel_rfl) ?_
    refine zdEnd (by kernel_rfl) (by kernel_rfl) ?_
    refine zkSeq (zF ?_)
    exact f117_j3_ok hd a1 a2 hQ  hS (by kernel_rfl)
/- (*farwriter/screen.terminal).column -/
def f86_fin (p1 : Gterminal) : St := ⟨(up u0 2000000 .un), (gh_Gterminal h0 p1 0 1 2 3)⟩
theorem f86_out (p1 : Gterminal) : outR (f86_fin p1) 4 c86.res = some ((.tup []), (gb_Gterminal p1 1 2 3)) := by
  kernel_rfl
def f86_Q (r : Gterminal) (e : PX) (st : St) : Prop := DoneF c86 4 ((.tup []), [(gx_Gterminal r 1 2 3), (go0_Gterminal r), (go1_Gterminal r), (go2_Gterminal r), .box []]) e st
noncomputable def f86 (a1 : Int) (a2 : Gterminal) : Option (Gterminal) := ((f112 a1 0 (IntKind.i64.wrap (a2.Screen.Grid.Wide - 1))).bind fun z2 => (some (Gterminal.mk ({ a2.Screen with Col := z2, Late := false }) a2.sent)))
theorem f86_ok (d : Nat) (hd : 2 ≤ d) (a1 : Int) (a2 : Gterminal) (r : Gterminal) (hS : f86 a1 a2 = some r) : lev codes baseL d 86 [(pt 0), (dI a1)] (gb_Gterminal a2 1 2 3) = some ((.tup []), [(gx_Gterminal r 1 2 3), (go0_Gterminal r), (go1_Gterminal r), (go2_Gterminal r), .box []]) := by
  refine lev_go codes86 rfl rfl (Nat.le_trans (Nat.le_of_ble_eq_true rfl) hd) fun Q hQ => ?_
  unfold f86 at hS
  show ZR _ Q c86_b [] _
  replace hQ : ∀ e st', f86_Q r e st' → Q e st' := hQ
  refine zrSeq (zrReg (zL 5 5 (zE (zkSeq (zrReg (zL 9 9 ?_))))))
  refine bindE hS (fun z2 hz2 hS => ?_)
  refine zO (some 17) 10 (.call 112 [(tm 9), (ki 0), (tm 16)]) (ev_callA (by kernel_rfl) (f112_ok (d - 1) (dpt hd rfl) a1 0 (IntKind.i64.wrap (a2.Screen.Grid.Wide - 1)) z2 hz2) (by kernel_rfl) (by kernel_rfl)) ?_
  refine zL 4 14 (zE ?_)
  refine zkNil ?_
  exact endQ hS hQ (fNormX (by kernel_rfl) (by kernel_rfl : finSt c86.fin _ = f86_fin (Gterminal.mk ({ a2.Screen with Col := z2, Late := false }) a2.sent)) (by kernel_rfl) (f86_out (Gterminal.mk ({ a2.Screen with Col := z2, Late := false }) a2.sent)))
/- (*farwriter/screen.terminal).is -/
def f88_fin (p2 : Bool) : St := ⟨(up u0 4 (dB p2)), h0⟩
theorem f88_out (p2 : Bool) : outR (f88_fin p2) 0 c88.res = some ((dB p2), []) := by
  kernel_rfl
def f88_Q (r : Bool) (e : PX) (st : St) : Prop := DoneF c88 0 ((dB r), []) e st
noncomputable def f88 (a1 : Gterminal) (a2 : List PD) (a3 : Int) : Option (Bool) := (bif (!decide ((bitI .and .i64 a1.Screen.Modes a3) = 0)) then (some true) else (some false))
theorem f88_ok (d : Nat) (hd : 1 ≤ d) (a1 : Gterminal) (a2 : List PD) (a3 : Int) (r : Bool) (hS : f88 a1 a2 a3 = some r) : lev codes baseL d 88 [(.rptr (e_UGterminal.enc a1 ++ a2)), (dI a3)] [] = some ((dB r), []) := by
  refine lev_go codes88 rfl rfl (Nat.le_trans (Nat.le_of_ble_eq_true rfl) hd) fun Q hQ => ?_
  unfold f88 at hS
  show ZR _ Q c88_b [] _
  replace hQ : ∀ e st', f88_Q r e st' → Q e st' := hQ
  refine zrSeq (zrReg (zL 1 1 (zE (zkSeq (zrSeq (zrReg (zL 7 7 ?_)))))))
  refine zB 12 8 (.cmpI .neq (tm 11) (ki 0)) (!decide ((bitI .and .i64 a1.Screen.Modes a3) = 0)) (fun hc => ?_) (fun hc => ?_)
  · replace hS := cond_t hc hS
    refine zL 1 9 (zE (zkSeq ?_))
    refine zrRet ?_
    refine zkNil ?_
    exact endQ hS hQ (fR (f88_out true))
  · replace hS := cond_f hc hS
    refine zL 1 9 (zE (zkSeq ?_))
    refine zrRet ?_
    refine zkNil ?_
    exact endQ hS hQ (fR (f88_out false))
/- (*farwriter/screen.terminal).move -/
def f118_fin (p2 : Gterminal) : St := ⟨(up u0 2000000 .un), (gh_Gterminal h0 p2 0 1 2 3)⟩
theorem f118_out (p2 : Gterminal) : outR (f118_fin p2) 4 c118.res = some ((.tup []), (gb_Gterminal p2 1 2 3)) := by
  kernel_rfl
def f118_Q (r : Gterminal) (e : PX) (st : St) : Prop := DoneF c118 4 ((.tup []), [(gx_Gterminal r 1 2 3), (go0_Gterminal r), (go1_Gterminal r), (go2_Gterminal r), .box []]) e st
noncomputable def f118 (a1 : Int) (a2 : Int) (a3 : Gterminal) : Option (Gterminal) := ((f88 a3 [] 2).bind fun z8 => (bif z8 then ((f112 (IntKind.i64.wrap (a1 + a3.Screen.Top)) a3.Screen.Top (IntKind.i64.wrap (a3.Screen.Bottom - 1))).bind fun z9 => ((f86 a2 (Gterminal.mk ({ a3.Screen with Row := z9 }) a3.sent)).bind fun z10 => ((chk (decide (z10.Screen.Past.length = a3.Screen.Past.length))).bind fun z11 => ((chk (decide (z10.Screen.Other.Cells.length = a3.Screen.Other.Cells.length))).bind fun z12 => ((chk (decide (z10.Screen.Grid.Cells.length = a3.Screen.Grid.Cells.length))).bind fun z13 => (some z10)))))) else ((f112 a1 0 (IntKind.i64.wrap (a3.Screen.Grid.High - 1))).bind fun z14 => ((f86 a2 (Gterminal.mk ({ a3.Screen with Row := z14 }) a3.sent)).bind fun z15 => ((chk (decide (z15.Screen.Past.length = a3.Screen.Past.length))).bind fun z16 => ((chk (decide (z15.Screen.Other.Cells.length = a3.Screen.Other.Cells.length))).bind fun z17 => ((chk (decide (z15.Screen.Grid.Cells.length = a3.Screen.Grid.Cells.length))).bind fun z18 => (some z15))))))))
theorem f118_ok (d : Nat) (hd : 3 ≤ d) (a1 : Int) (a2 : Int) (a3 : Gterminal) (r : Gterminal) (hS : f118 a1 a2 a3 = some r) : lev codes baseL d 118 [(pt 0), (dI a1), (dI a2)] (gb_Gterminal a3 1 2 3) = some ((.tup []), [(gx_Gterminal r 1 2 3), (go0_Gterminal r), (go1_Gterminal r), (go2_Gterminal r), .box []]) := by
  refine lev_go codes118 rfl rfl (Nat.le_trans (Nat.le_of_ble_eq_true rfl) hd) fun Q hQ => ?_
  unfold f118 at hS
  show ZR _ Q c118_b [] _
  replace hQ : ∀ e st', f118_Q r e st' → Q e st' := hQ
  refine zrSeq (zrSeq (zrReg (zL 1 1 ?_)))
  refine bindE hS (fun z8 hz8 hS => ?_)
  refine zO (some 7) 2 (.call 88 [(tm 6), (ki 2)]) (ev_callA (by kernel_rfl) (f88_ok (d - 1) (dpt hd rfl) a3 [] 2 z8 hz8) (by kernel_rfl) (by kernel_rfl)) ?_
  refine zE (zkSeq ?_)
  refine zrSplit 7 z8 (by kernel_rfl) (fun hc => ?_) (fun hc => ?_)
  · replace hS := cond_t hc hS
    refine zT ?_
    refine zrRegD ?_
    refine zdRun (n := 19) (j := 19) (ts := [[], [], [], [], [], [], [(0, false)], [], [], [], [], [], [(0, false)], [], [], [], [], [(0, false)], []]) (acc' := [[], [], [], [], [], [], [(0, false)], [], [], [], [], [], [(0, false)], [], [], [], [], [(0, false)], []]) rfl (by kernel_rfl) (by kernel_rfl) (by kernel_rfl) ?_
    refine bindE hS (fun z9 hz9 hS => ?_)
    refine zdOp (d := some 27) (op := (.call 112 [(tm 15), (tm 20), (tm 26)])) (g := none) (j := 20) (t1 := [(224, true), (225, true), (226, true), (227, true), (228, true), (229, true), (230, true), (231, true)]) (acc' := [[], [], [], [], [], [], [(0, false)], [], [], [], [], [], [(0, false)], [], [], [], [], [(0, false)], [], [(224, true), (225, true), (226, true), (227, true), (228, true), (229, true), (230, true), (231, true)]]) (by kernel_rfl) (by kernel_rfl) rfl (by kernel_rfl) (by kernel_rfl) (ev_callA (by kernel_rfl) (f112_ok (d - 1) (dpt hd rfl) (IntKind.i64.wrap (a1 + a3.Screen.Top)) a3.Screen.Top (IntKind.i64.wrap (a3.Screen.Bottom - 1)) z9 hz9) (by kernel_rfl) (by kernel_rfl)) ?_
    refine zdRun (n := 4) (j := 24) (ts := [[], [], [], [(0, true)]]) (acc' := [[], [], [], [], [], [], [(0, false)], [], [], [], [], [], [(0, false)], [], [], [], [], [(0, false)], [], [(224, true), (225, true), (226, true), (227, true), (228, true), (229, true), (230, true), (231, true)], [], [], [], [(0, true)]]) rfl (by kernel_rfl) (by kernel_rfl) (by kernel_rfl) ?_
    refine zdEnd (by kernel_rfl) (by kernel_rfl) ?_
    refine zkSeq (zrReg (zL 2 2 ?_))
    refine bindE hS (fun z10 hz10 hS => ?_)
    refine bindE hS (fun z11 hz11 hS => ?_)
    refine bindE hS (fun z12 hz12 hS => ?_)
    refine bindE hS (fun z13 hz13 hS => ?_)
    refine zO (some 46) 3 (.callr 86 [(tm 44), (tm 45)]) (ev_callrXA (ids := [0, 1, 2, 3]) (bs := [(.box (bx_Gterminal (Gterminal.mk ({ a3.Screen with Row := z9 }) a3.sent) (.r (.msl 1 0 0 a3.Screen.Grid.Cells.length)) (.r (.msl 2 0 0 a3.Screen.Other.Cells.length)) (.r (.msl 3 0 0 a3.Screen.Past.length)))), (go0_Gterminal a3), (go1_Gterminal a3), (go2_Gterminal a3)]) (by kernel_rfl) (by kernel_rfl) (by kernel_rfl) (by kernel_rfl) (f86_ok (d - 1) (dpt hd rfl) a2 (Gterminal.mk ({ a3.Screen with Row := z9 }) a3.sent) z10 hz10) (by kernel_rfl) (sm_box (cs := ((dI a3.Screen.Grid.Wide) :: ((dI a3.Screen.Grid.High) :: ((.r (.msl 1 0 0 a3.Screen.Grid.Cells.length)) :: ((dI z9) :: ((dI a3.Screen.Col) :: ((dB a3.Screen.Late) :: ((dI a3.Screen.Top) :: ((dI a3.Screen.Bottom) :: ((dI a3.Screen.Pen.Flags) :: ((dI a3.Screen.Pen.Fore) :: ((dI a3.Screen.Pen.Back) :: ((dI a3.Screen.Modes) :: (((eInt .u64).row 4 a3.Screen.Stops.Bits) ++ ((dI a3.Screen.Pages.1) :: ((dI a3.Screen.Pages.2) :: ((dI a3.Screen.Shift) :: ((dI a3.Screen.Saved.Row) :: ((dI a3.Screen.Saved.Col) :: ((dI a3.Screen.Saved.Pen.Flags) :: ((dI a3.Screen.Saved.Pen.Fore) :: ((dI a3.Screen.Saved.Pen.Back) :: ((dB a3.Screen.Saved.Origin) :: ((dI a3.Screen.Saved.Pages.1) :: ((dI a3.Screen.Saved.Pages.2) :: ((dI a3.Screen.Saved.Shift) :: ((dI a3.Screen.Other.Wide) :: ((dI a3.Screen.Other.High) :: ((.r (.msl 2 0 0 a3.Screen.Other.Cells.length)) :: ((.d (.str a3.Screen.Title)) :: ((.r (.msl 3 0 0 a3.Screen.Past.length)) :: ((.d (.str a3.sent)) :: [])))))))))))))))))))))))))))))))) (by kernel_rfl) (sm_own e_GCell (e1 := 58) (k1 := 4) (xs := a3.Screen.Grid.Cells) (ys := z10.Screen.Grid.Cells) (by kernel_rfl) hz13 (sm_own e_GCell (e1 := 58) (k1 := 4) (xs := a3.Screen.Other.Cells) (ys := z10.Screen.Other.Cells) (by kernel_rfl) hz12 (sm_own e_GLine (e1 := 87) (k1 := 1) (xs := a3.Screen.Past) (ys := z10.Screen.Past) (by kernel_rfl) hz11 sm_nil)))) (by kernel_rfl)) ?_
    have lz11 : a3.Screen.Past.length = z10.Screen.Past.length := (of_decide_eq_true (chk_t hz11)).symm
    skip
    try rw [lz11]
    have lz12 : a3.Screen.Other.Cells.length = z10.Screen.Other.Cells.length := (of_decide_eq_true (chk_t hz12)).symm
    skip
    try rw [lz12]
    have lz13 : a3.Screen.Grid.Cells.length = z10.Screen.Grid.Cells.length := (of_decide_eq_true (chk_t hz13)).symm
    skip
    try rw [lz13]
    refine zE ?_
    refine zkNil ?_
    exact endQ hS hQ (fNormX (by kernel_rfl) (by kernel_rfl : finSt c118.fin _ = f118_fin z10) (by kernel_rfl) (f118_out z10))
  · replace hS := cond_f hc hS
    refine zF (zrReg (zL 9 9 ?_))
    refine bindE hS (fun z14 hz14 hS => ?_)
    refine zO (some 40) 10 (.call 112 [(tm 32), (ki 0), (tm 39)]) (ev_callA (by kernel_rfl) (f112_ok (d - 1) (dpt hd rfl) a1 0 (IntKind.i64.wrap (a3.Screen.Grid.High - 1)) z14 hz14) (by kernel_rfl) (by kernel_rfl)) ?_
    refine zL 4 14 (zE (zkSeq (zrReg (zL 2 2 ?_))))
    refine bindE hS (fun z15 hz15 hS => ?_)
    refine bindE hS (fun z16 hz16 hS => ?_)
    refine bindE hS (fun z17 hz17 hS => ?_)
    refine bindE hS (fun z18 hz18 hS => ?_)
    refine zO (some 46) 3 (.callr 86 [(tm 44), (tm 45)]) (ev_callrXA (ids := [0, 1, 2, 3]) (bs := [(.box (bx_Gterminal (Gterminal.mk ({ a3.Screen with Row := z14 }) a3.sent) (.r (.msl 1 0 0 a3.Screen.Grid.Cells.length)) (.r (.msl 2 0 0 a3.Screen.Other.Cells.length)) (.r (.msl 3 0 0 a3.Screen.Past.length)))), (go0_Gterminal a3), (go1_Gterminal a3), (go2_Gterminal a3)]) (by kernel_rfl) (by kernel_rfl) (by kernel_rfl) (by kernel_rfl) (f86_ok (d - 1) (dpt hd rfl) a2 (Gterminal.mk ({ a3.Screen with Row := z14 }) a3.sent) z15 hz15) (by kernel_rfl) (sm_box (cs := ((dI a3.Screen.Grid.Wide) :: ((dI a3.Screen.Grid.High) :: ((.r (.msl 1 0 0 a3.Screen.Grid.Cells.length)) :: ((dI z14) :: ((dI a3.Screen.Col) :: ((dB a3.Screen.Late) :: ((dI a3.Screen.Top) :: ((dI a3.Screen.Bottom) :: ((dI a3.Screen.Pen.Flags) :: ((dI a3.Screen.Pen.Fore) :: ((dI a3.Screen.Pen.Back) :: ((dI a3.Screen.Modes) :: (((eInt .u64).row 4 a3.Screen.Stops.Bits) ++ ((dI a3.Screen.Pages.1) :: ((dI a3.Screen.Pages.2) :: ((dI a3.Screen.Shift) :: ((dI a3.Screen.Saved.Row) :: ((dI a3.Screen.Saved.Col) :: ((dI a3.Screen.Saved.Pen.Flags) :: ((dI a3.Screen.Saved.Pen.Fore) :: ((dI a3.Screen.Saved.Pen.Back) :: ((dB a3.Screen.Saved.Origin) :: ((dI a3.Screen.Saved.Pages.1) :: ((dI a3.Screen.Saved.Pages.2) :: ((dI a3.Screen.Saved.Shift) :: ((dI a3.Screen.Other.Wide) :: ((dI a3.Screen.Other.High) :: ((.r (.msl 2 0 0 a3.Screen.Other.Cells.length)) :: ((.d (.str a3.Screen.Title)) :: ((.r (.msl 3 0 0 a3.Screen.Past.length)) :: ((.d (.str a3.sent)) :: [])))))))))))))))))))))))))))))))) (by kernel_rfl) (sm_own e_GCell (e1 := 58) (k1 := 4) (xs := a3.Screen.Grid.Cells) (ys := z15.Screen.Grid.Cells) (by kernel_rfl) hz18 (sm_own e_GCell (e1 := 58) (k1 := 4) (xs := a3.Screen.Other.Cells) (ys := z15.Screen.Other.Cells) (by kernel_rfl) hz17 (sm_own e_GLine (e1 := 87) (k1 := 1) (xs := a3.Screen.Past) (ys := z15.Screen.Past) (by kernel_rfl) hz16 sm_nil)))) (by kernel_rfl)) ?_
    have lz16 : a3.Screen.Past.length = z15.Screen.Past.length := (of_decide_eq_true (chk_t hz16)).symm
    skip
    try rw [lz16]
    have lz17 : a3.Screen.Other.Cells.length = z15.Screen.Other.Cells.length := (of_decide_eq_true (chk_t hz17)).symm
    skip
    try rw [lz17]
    have lz18 : a3.Screen.Grid.Cells.length = z15.Screen.Grid.Cells.length := (of_decide_eq_true (chk_t hz18)).symm
    skip
    try rw [lz18]
    refine zE ?_
    refine zkNil ?_
    exact endQ hS hQ (fNormX (by kernel_rfl) (by kernel_rfl : finSt c118.fin _ = f118_fin z15) (by kernel_rfl) (f118_out z15))
/- farwriter/tabs.has -/
def f116_fin (p2 : Bool) : St := ⟨(up u0 4 (dB p2)), h0⟩
theorem f116_out (p2 : Bool) : outR (f116_fin p2) 0 c116.res = some ((dB p2), []) := by
  kernel_rfl
def f116_Q (r : Bool) (e : PX) (st : St) : Prop := DoneF c116 0 ((dB r), []) e st
noncomputable def f116 (a1 : GStops) (a2 : Int) : Option (Bool) := ((inR (IntKind.i64.wrap (Int.tdiv a2 64)) 4).bind fun m3 => ((chk (decide (0 ≤ (Int.tmod a2 64)))).bind fun z4 => (bif (decide ((bitI .and .u64 (Int.fdiv (a1.Bits m3) (2 ^ (min ((Int.tmod a2 64) : Int).toNat 64))) 1) = 1)) then (some true) else (some false))))
theorem f116_ok (d : Nat) (hd : 1 ≤ d) (a1 : GStops) (a2 : Int) (r : Bool) (hS : f116 a1 a2 = some r) : lev codes baseL d 116 [(.agg (((eInt .u64).row 4 a1.Bits) ++ [])), (dI a2)] [] = some ((dB r), []) := by
  refine lev_go codes116 rfl rfl (Nat.le_trans (Nat.le_of_ble_eq_true rfl) hd) fun Q hQ => ?_
  unfold f116 at hS
  show ZR _ Q c116_b [] _
  replace hQ : ∀ e st', f116_Q r e st' → Q e st' := hQ
  refine zrSeq (zrReg (zL 2 2 (zE (zkSeq (zrSeq (zrReg (zL 3 3 ?_)))))))
  refine bindE hS (fun m3 hm3 hS => ?_)
  refine zO (v := (.r (.ptr 24 1 (0 + m3 * 1)))) (ups := []) (some 8) 4 (.ixA 4 1 (tm 7) (tm 6)) (ev_ixA (kk := .i64) (b := 24) (g := 1) (o := 0) (j := (IntKind.i64.wrap (Int.tdiv a2 64))) (by kernel_rfl) (by kernel_rfl) hm3) ?_
  refine zO (v := (.d (.int .u64 (a1.Bits m3)))) (ups := []) (some 9) 5 (.load .false 1 (tm 8)) (ev_loadA (eInt .u64) (b := 24) (g := 1) (o := 0 + m3 * 1) (f := a1.Bits) (nn := 4) (m := m3) (fo := 0) (pre := []) (post := []) (by kernel_rfl) (by kernel_rfl) (by kernel_rfl) (inR_lt hm3) (by kernel_rfl) (by kernel_rfl) (by kernel_rfl)) ?_
  refine zL 2 7 ?_
  refine bindE hS (fun z4 hz4 hS => ?_)
  refine zO (v := (.d (.int .u64 (Int.fdiv (a1.Bits m3) (2 ^ (min ((Int.tmod a2 64) : Int).toNat 64)))))) (ups := []) (some 12) 8 (.sh .shr (tm 9) (tm 11)) (ev_sh (kk := .u64) (k2 := .i64) (a := (a1.Bits m3)) (c := (Int.tmod a2 64)) (by kernel_rfl) (by kernel_rfl) (sh_r hz4)) ?_
  refine zL 1 9 ?_
  refine zB 14 10 (.cmpI .eql (tm 13) (.const (.int .u64 1))) (decide ((bitI .and .u64 (Int.fdiv (a1.Bits m3) (2 ^ (min ((Int.tmod a2 64) : Int).toNat 64))) 1) = 1)) (fun hc => ?_) (fun hc => ?_)
  · replace hS := cond_t hc hS
    refine zL 1 11 (zE (zkSeq ?_))
    refine zrRet ?_
    refine zkNil ?_
    exact endQ hS hQ (fR (f116_out true))
  · replace hS := cond_f hc hS
    refine zL 1 11 (zE (zkSeq ?_))
    refine zrRet ?_
    refine zkNil ?_
    exact endQ hS hQ (fR (f116_out false))
/- farwriter/tabs.Next -/
def f92_fin (p27 : Int) (p28 : Int) : St := ⟨(up (up u0 9 (dI p28)) 8 (dI p27)), h0⟩
theorem f92_out (p27 : Int) (p28 : Int) : outR (f92_fin p27 p28) 0 c92.res = some ((.tup [(dI p27), (dI p28)]), []) := by
  kernel_rfl
def f92_Q (r : Int × Int) (e : PX) (st : St) : Prop := DoneF c92 0 ((.tup [(dI r.1), (dI r.2)]), []) e st
def f92_l1_J (a1 : GStops) (a2 : Int) (a3 : Int) (a4 : Int) (x : Int × Int) : St := ⟨(up (up (up (up (up u0 10 (dI x.2)) 4 (pt 40)) 3 (dI a4)) 2 (dI x.1)) 1 (dI a2)), (up h0 40 ⟨0, some (.box (((eInt .u64).row 4 a1.Bits) ++ []))⟩)⟩
def f92_l1_H (a1 : GStops) (a2 : Int) (a3 : Int) (a4 : Int) (x : Int × Int) (st : St) : Prop := keepSt [1, 2, 3, 4, 10] [(40, .id 40)] [] st = f92_l1_J a1 a2 a3 a4 x
def f92_l1_e0_J (a1 : GStops) (a2 : Int) (a3 : Int) (a4 : Int) : St := ⟨(up u0 1 (dI a2)), h0⟩
def f92_l1_X (a1 : GStops) (a2 : Int) (a3 : Int) (a4 : Int) (z : Unit ⊕ (Int × Int)) (e : PX) (st : St) : Prop := (match z with | .inl z => e = .exit 0 ∧ st = f92_l1_e0_J a1 a2 a3 a4 | .inr z => e = .ret ∧ finSt c92.fin st = f92_fin z.1 z.2)
def f92_l1_j3_J (a1 : GStops) (a2 : Int) (a3 : Int) (a4 : Int) (p38 : Int) (p39 : Int) : St := ⟨(up (up (up (up (up u0 10 (dI p39)) 4 (pt 40)) 3 (dI a4)) 2 (dI p38)) 1 (dI a2)), (up h0 40 ⟨0, some (.box (((eInt .u64).row 4 a1.Bits) ++ []))⟩)⟩
noncomputable def f92_l1_j3 (a1 : GStops) (a2 : Int) (a3 : Int) (a4 : Int) (p38 : Int) (p39 : Int) : Option ((Int × Int) ⊕ (Unit ⊕ (Int × Int))) := ((f116 a1 p39).bind fun z4 => (bif z4 then (bif (decide ((IntKind.i64.wrap (p38 - 1)) = 0)) then (some (.inr (.inr (p39, 0)))) else (some (.inl ((IntKind.i64.wrap (p38 - 1)), p39)))) else (some (.inl (p38, p39)))))
theorem f92_l1_j3_ok {d : Nat} (hd : 2 ≤ d) (a1 : GStops) (a2 : Int) (a3 : Int) (a4 : Int) {r : (Int × Int) ⊕ (Unit ⊕ (Int × Int))} {Q : PX → St → Prop} (hQ : ∀ e st', finL (f92_l1_H a1 a2 a3 a4) (f92_l1_X a1 a2 a3 a4) r e st' → Q e st') (p38 : Int) (p39 : Int) (hS : f92_l1_j3 a1 a2 a3 a4 p38 p39 = some r) {st : St} (he : keepSt [1, 2, 3, 4, 10] [(40, .id 40)] [] st = f92_l1_j3_J a1 a2 a3 a4 p38 p39) : ZR (lev codes baseL (d - 1)) Q c92_1 [.blk 1] st := by
  refine zrKeep he ?_
  unfold f92_l1_j3 at hS
  refine zrSeq (zrReg (zL 2 2 ?_))
  refine bindE hS (fun z4 hz4 hS => ?_)
  refine zO (some 46) 3 (.call 116 [(tm 44), (tm 45)]) (ev_callA (by kernel_rfl) (f116_ok (d - 1) (dpt hd rfl) a1 p39 z4 hz4) (by kernel_rfl) (by kernel_rfl)) ?_
  refine zE (zkSeq ?_)
  refine zrSplit 46 z4 (by kernel_rfl) (fun hc => ?_) (fun hc => ?_)
  · replace hS := cond_t hc hS
    refine zT (zrSeq (zrReg (zL 3 3 (zE (zkSeq (zrSeq (zrReg (zL 1 1 ?_))))))))
    refine zB 50 2 (.cmpI .eql (tm 49) (ki 0)) (decide ((IntKind.i64.wrap (p38 - 1)) = 0)) (fun hc => ?_) (fun hc => ?_)
    · replace hS := cond_t hc hS
      refine zE (zkSeq (zT (zrSeq (zrReg (zL 3 3 (zE (zkSeq ?_)))))))
      refine zrRet ?_
      refine zkBlkR ?_
      refine zkNil ?_
      exact endQ hS hQ (finL_x (by intro h; cases h) (by show _ = _ ∧ _ = _; exact ⟨rfl, by kernel_rfl⟩))
    · replace hS := cond_f hc hS
      refine zE (zkSeq (zF ?_))
      refine zrSkip ?_
      refine zkBlk ?_
      refine zkNil ?_
      exact endQ hS hQ (finL_n (by show keepSt _ _ _ _ = _; kernel_rfl))
  · replace hS := cond_f hc hS
    refine zF ?_
    refine zrSkip ?_
    refine zkBlk ?_
    refine zkNil ?_
    exact endQ hS hQ (finL_n (by show keepSt _ _ _ _ = _; kernel_rfl))
def f92_l1_j2_J (a1 : GStops) (a2 : Int) (a3 : Int) (a4 : Int) (p33 : Int) (p34 : Int) : St := ⟨(up (up (up (up (up u0 10 (dI p34)) 4 (pt 40)) 3 (dI a4)) 2 (dI p33)) 1 (dI a2)), (up h0 40 ⟨0, some (.box (((eInt .u64).row 4 a1.Bits) ++ []))⟩)⟩
noncomputable def f92_l1_j2 (a1 : GStops) (a2 : Int) (a3 : Int) (a4 : Int) (p33 : Int) (p34 : Int) : Option ((Int × Int) ⊕ (Unit ⊕ (Int × Int))) := (bif (decide (a4 ≤ (IntKind.i64.wrap (p34 + 1)))) then (some (.inr (.inr ((IntKind.i64.wrap (a4 - 1)), 0)))) else (f92_l1_j3 a1 a2 a3 a4 p33 (IntKind.i64.wrap (p34 + 1))))
theorem f92_l1_j2_ok {d : Nat} (hd : 2 ≤ d) (a1 : GStops) (a2 : Int) (a3 : Int) (a4 : Int) {r : (Int × Int) ⊕ (Unit ⊕ (Int × Int))} {Q : PX → St → Prop} (hQ : ∀ e st', finL (f92_l1_H a1 a2 a3 a4) (f92_l1_X a1 a2 a3 a4) r e st' → Q e st') (p33 : Int) (p34 : Int) (hS : f92_l1_j2 a1 a2 a3 a4 p33 p34 = some r) {st : St} (he : keepSt [1, 2, 3, 4, 10] [(40, .id 40)] [] st = f92_l1_j2_J a1 a2 a3 a4 p33 p34) : ZR (lev codes baseL (d - 1)) Q c92_2 [] st := by
  refine zrKeep he ?_
  unfold f92_l1_j2 at hS
  refine zrBlk ?_
  refine zrSeq (zrSeq (zrReg (zL 3 3 (zE (zkSeq (zrSeq (zrReg (zL 2 2 ?_))))))))
  refine zB 41 3 (.cmpI .geq (tm 39) (tm 40)) (decide (a4 ≤ (IntKind.i64.wrap (p34 + 1)))) (fun hc => ?_) (fun hc => ?_)
  · replace hS := cond_t hc hS
    refine zE (zkSeq (zT (zrSeq (zrReg (zL 4 4 (zE (zkSeq ?_)))))))
    refine zrRet ?_
    refine zkSeqR ?_
    refine zkBlkR ?_
    refine zkNil ?_
    exact endQ hS hQ (finL_x (by intro h; cases h) (by show _ = _ ∧ _ = _; exact ⟨rfl, by kernel_rfl⟩))
  · replace hS := cond_f hc hS
    refine zE (zkSeq (zF ?_))
    refine zrSkip ?_
    refine zkSeq ?_
    exact f92_l1_j3_ok hd a1 a2 a3 a4 hQ p33 (IntKind.i64.wrap (p34 + 1)) hS (by kernel_rfl)
noncomputable def f92_l1 (a1 : GStops) (a2 : Int) (a3 : Int) (a4 : Int) (x : Int × Int) : Option ((Int × Int) ⊕ (Unit ⊕ (Int × Int))) := (bif (decide (0 < x.1)) then (f92_l1_j2 a1 a2 a3 a4 x.1 x.2) else (some (.inr (.inl ()))))
theorem f92_l1_ok {d : Nat} (hd : 2 ≤ d) (a1 : GStops) (a2 : Int) (a3 : Int) (a4 : Int) {r : (Int × Int) ⊕ (Unit ⊕ (Int × Int))} {Q : PX → St → Prop} (hQ : ∀ e st', finL (f92_l1_H a1 a2 a3 a4) (f92_l1_X a1 a2 a3 a4) r e st' → Q e st') {x : Int × Int} (hS : f92_l1 a1 a2 a3 a4 x = some r) {st : St} (he : f92_l1_H a1 a2 a3 a4 x st) : ZR (lev codes baseL (d - 1)) Q c92_3 [] st := by
  refine zrKeep he ?_
  unfold f92_l1 at hS
  refine zrSeq (zrSeq (zrReg (zL 1 1 ?_)))
  refine zB 36 2 (.cmpI .gtr (tm 35) (ki 0)) (decide (0 < x.1)) (fun hc => ?_) (fun hc => ?_)
  · replace hS := cond_t hc hS
    refine zE (zkSeq (zT ?_))
    refine zrSkip ?_
    refine zkSeq ?_
    exact f92_l1_j2_ok hd a1 a2 a3 a4 hQ x.1 x.2 hS (by kernel_rfl)
  · replace hS := cond_f hc hS
    refine zE (zkSeq (zF ?_))
    refine zrKeep (J := f92_l1_e0_J a1 a2 a3 a4) (by kernel_rfl) ?_
    refine zrExit ?_
    refine zkSeqX ?_
    refine zkNil ?_
    exact endQ hS hQ (finL_x (by intro h; cases h) (by show _ = _ ∧ _ = _; exact ⟨rfl, rfl⟩))
def f92_j0_J (a1 : GStops) (a2 : Int) (a3 : Int) (a4 : Int) : St := ⟨(up (up (up (up u0 4 (pt 40)) 3 (dI a4)) 2 (dI a3)) 1 (dI a2)), (up h0 40 ⟨0, some (.box (((eInt .u64).row 4 a1.Bits) ++ []))⟩)⟩
noncomputable def f92_j0 (a1 : GStops) (a2 : Int) (a3 : Int) (a4 : Int) : Option (Int × Int) := ((loopO (f92_l1 a1 a2 a3 a4) (a3, a2)).bind fun z5 => (Sum.elim (fun z6 => (some (a2, 0))) (fun z7 => (some (z7.1, z7.2))) z5))
theorem f92_j0_ok {d : Nat} (hd : 2 ≤ d) (a1 : GStops) (a2 : Int) (a3 : Int) (a4 : Int) {r : Int × Int} {Q : PX → St → Prop} (hQ : ∀ e st', f92_Q r e st' → Q e st')  (hS : f92_j0 a1 a2 a3 a4 = some r) {st : St} (he : keepSt [1, 2, 3, 4] [(40, .id 40)] [] st = f92_j0_J a1 a2 a3 a4) : ZR (lev codes baseL (d - 1)) Q c92_4 [] st := by
  refine zrKeep he ?_
  unfold f92_j0 at hS
  refine zrSeq (zrSeq (zrReg (zL 2 2 (zE (zkSeq ?_)))))
  refine zrBlk ?_
  refine bindE hS (fun z5 hz5 hS => ?_)
  refine zrLoop (f92_l1_H a1 a2 a3 a4) (f92_l1_X a1 a2 a3 a4) (fun x st r Q h0 hS hQ => f92_l1_ok hd a1 a2 a3 a4 hQ hS h0) (x := (a3, a2)) (z := z5) (by show keepSt _ _ _ _ = _; kernel_rfl) hz5 ?_
  rcases z5 with z6 | z7
  · replace hS := (show _ = _ from hS)
    simp only [Sum.elim_inl] at hS
    intro e st' _ hX
    obtain ⟨rfl, rfl⟩ : _ ∧ _ := hX
    refine zkBlkX ?_
    refine zkSeq (zrSeq (zrReg (zL 3 3 (zE (zkSeq ?_)))))
    refine zrRet ?_
    refine zkNil ?_
    exact endQ hS hQ (fR (f92_out a2 0))
  · simp only [Sum.elim_inr] at hS
    intro e st' _ hX
    obtain ⟨rfl, hX⟩ : _ ∧ _ := hX
    refine zkBlkR ?_
    refine zkSeqR ?_
    refine zkNil ?_
    exact endQ hS hQ (fRet (by kernel_rfl) ((congrArg (fun s => outR s 0 c92.res) hX).trans (f92_out z7.1 z7.2)))
noncomputable def f92 (a1 : GStops) (a2 : Int) (a3 : Int) (a4 : Int) : Option (Int × Int) := (bif (decide (a4 < 1)) then (some (0, 1)) else (bif (decide (160 < a4)) then (some (0, 1)) else (bif (decide (a2 < 0)) then (some (0, 1)) else (bif (decide (a4 ≤ a2)) then (some (0, 1)) else (bif (decide (a3 < 0)) then (some (0, 1)) else (bif (decide (16383 < a3)) then (some (0, 1)) else (f92_j0 a1 a2 a3 a4 )))))))
theorem f92_ok (d : Nat) (hd : 2 ≤ d) (a1 : GStops) (a2 : Int) (a3 : Int) (a4 : Int) (r : Int × Int) (hS : f92 a1 a2 a3 a4 = some r) : lev codes baseL d 92 [(.agg (((eInt .u64).row 4 a1.Bits) ++ [])), (dI a2), (dI a3), (dI a4)] [] = some ((.tup [(dI r.1), (dI r.2)]), []) := by
  refine lev_go codes92 rfl rfl (Nat.le_trans (Nat.le_of_ble_eq_true rfl) hd) fun Q hQ => ?_
  unfold f92 at hS
  show ZR _ Q c92_b [] _
  replace hQ : ∀ e st', f92_Q r e st' → Q e st' := hQ
  refine zrSeq (zrReg (zL 3 3 (zE (zkSeq (zrSeq (zrSeq (zrReg (zL 1 1 ?_))))))))
  refine zB 12 2 (.cmpI .lss (tm 11) (ki 1)) (decide (a4 < 1)) (fun hc => ?_) (fun hc => ?_)
  · replace hS := cond_t hc hS
    refine zL 21 23 (zE (zkSeq (zT (zrSeq (zrReg (zL 2 2 (zE (zkSeq ?_))))))))
    refine zrRet ?_
    refine zkSeqR ?_
    refine zkNil ?_
    exact endQ hS hQ (fR (f92_out 0 1))
  · replace hS := cond_f hc hS
    refine zL 2 4 ?_
    refine zlBool (d := 15) (op := (.cmpI .gtr (tm 14) (ki 160))) (g := (some (13, false))) (j := 5) (decide (160 < a4)) rfl (by kernel_rfl) (by kernel_rfl) (by kernel_rfl) (fun hc => ?_) (fun hc => ?_)
    · replace hS := cond_t hc hS
      refine zL 18 23 (zE (zkSeq (zT (zrSeq (zrReg (zL 2 2 (zE (zkSeq ?_))))))))
      refine zrRet ?_
      refine zkSeqR ?_
      refine zkNil ?_
      exact endQ hS hQ (fR (f92_out 0 1))
    · replace hS := cond_f hc hS
      refine zL 3 8 ?_
      refine zlBool (d := 19) (op := (.cmpI .lss (tm 18) (ki 0))) (g := (some (17, false))) (j := 9) (decide (a2 < 0)) rfl (by kernel_rfl) (by kernel_rfl) (by kernel_rfl) (fun hc => ?_) (fun hc => ?_)
      · replace hS := cond_t hc hS
        refine zL 14 23 (zE (zkSeq (zT (zrSeq (zrReg (zL 2 2 (zE (zkSeq ?_))))))))
        refine zrRet ?_
        refine zkSeqR ?_
        refine zkNil ?_
        exact endQ hS hQ (fR (f92_out 0 1))
      · replace hS := cond_f hc hS
        refine zL 4 13 ?_
        refine zlBool (d := 24) (op := (.cmpI .geq (tm 22) (tm 23))) (g := (some (21, false))) (j := 14) (decide (a4 ≤ a2)) rfl (by kernel_rfl) (by kernel_rfl) (by kernel_rfl) (fun hc => ?_) (fun hc => ?_)
        · replace hS := cond_t hc hS
          refine zL 9 23 (zE (zkSeq (zT (zrSeq (zrReg (zL 2 2 (zE (zkSeq ?_))))))))
          refine zrRet ?_
          refine zkSeqR ?_
          refine zkNil ?_
          exact endQ hS hQ (fR (f92_out 0 1))
        · replace hS := cond_f hc hS
          refine zL 3 17 ?_
          refine zlBool (d := 28) (op := (.cmpI .lss (tm 27) (ki 0))) (g := (some (26, false))) (j := 18) (decide (a3 < 0)) rfl (by kernel_rfl) (by kernel_rfl) (by kernel_rfl) (fun hc => ?_) (fun hc => ?_)
          · replace hS := cond_t hc hS
            refine zL 5 23 (zE (zkSeq (zT (zrSeq (zrReg (zL 2 2 (zE (zkSeq ?_))))))))
            refine zrRet ?_
            refine zkSeqR ?_
            refine zkNil ?_
            exact endQ hS hQ (fR (f92_out 0 1))
          · replace hS := cond_f hc hS
            refine zL 3 21 ?_
            refine zlBool (d := 32) (op := (.cmpI .gtr (tm 31) (ki 16383))) (g := (some (30, false))) (j := 22) (decide (16383 < a3)) rfl (by kernel_rfl) (by kernel_rfl) (by kernel_rfl) (fun hc => ?_) (fun hc => ?_)
            · replace hS := cond_t hc hS
              refine zL 1 23 (zE (zkSeq (zT (zrSeq (zrReg (zL 2 2 (zE (zkSeq ?_))))))))
              refine zrRet ?_
              refine zkSeqR ?_
              refine zkNil ?_
              exact endQ hS hQ (fR (f92_out 0 1))
            · replace hS := cond_f hc hS
              refine zL 1 23 (zE (zkSeq (zF ?_)))
              refine zrSkip ?_
              refine zkSeq ?_
              exact f92_j0_ok hd a1 a2 a3 a4 hQ  hS (by kernel_rfl)
/- farwriter/tabs.Back -/
def f119_fin (p27 : Int) (p28 : Int) : St := ⟨(up (up u0 7 (dI p28)) 6 (dI p27)), h0⟩
theorem f119_out (p27 : Int) (p28 : Int) : outR (f119_fin p27 p28) 0 c119.res = some ((.tup [(dI p27), (dI p28)]), []) := by
  kernel_rfl
def f119_Q (r : Int × Int) (e : PX) (st : St) : Prop := DoneF c119 0 ((.tup [(dI r.1), (dI r.2)]), []) e st
def f119_l1_J (a1 : GStops) (a2 : Int) (a3 : Int) (x : Int × Int) : St := ⟨(up (up (up (up u0 8 (dI x.2)) 3 (pt 32)) 2 (dI x.1)) 1 (dI a2)), (up h0 32 ⟨0, some (.box (((eInt .u64).row 4 a1.Bits) ++ []))⟩)⟩
def f119_l1_H (a1 : GStops) (a2 : Int) (a3 : Int) (x : Int × Int) (st : St) : Prop := keepSt [1, 2, 3, 8] [(32, .id 32)] [] st = f119_l1_J a1 a2 a3 x
def f119_l1_e0_J (a1 : GStops) (a2 : Int) (a3 : Int) : St := ⟨(up u0 1 (dI a2)), h0⟩
def f119_l1_X (a1 : GStops) (a2 : Int) (a3 : Int) (z : Unit ⊕ (Int × Int)) (e : PX) (st : St) : Prop := (match z with | .inl z => e = .exit 0 ∧ st = f119_l1_e0_J a1 a2 a3 | .inr z => e = .ret ∧ finSt c119.fin st = f119_fin z.1 z.2)
def f119_l1_j3_J (a1 : GStops) (a2 : Int) (a3 : Int) (p38 : Int) (p39 : Int) : St := ⟨(up (up (up (up u0 8 (dI p39)) 3 (pt 32)) 2 (dI p38)) 1 (dI a2)), (up h0 32 ⟨0, some (.box (((eInt .u64).row 4 a1.Bits) ++ []))⟩)⟩
noncomputable def f119_l1_j3 (a1 : GStops) (a2 : Int) (a3 : Int) (p38 : Int) (p39 : Int) : Option ((Int × Int) ⊕ (Unit ⊕ (Int × Int))) := ((f116 a1 p39).bind fun z4 => (bif z4 then (bif (decide ((IntKind.i64.wrap (p38 - 1)) = 0)) then (some (.inr (.inr (p39, 0)))) else (some (.inl ((IntKind.i64.wrap (p38 - 1)), p39)))) else (some (.inl (p38, p39)))))
theorem f119_l1_j3_ok {d : Nat} (hd : 2 ≤ d) (a1 : GStops) (a2 : Int) (a3 : Int) {r : (Int × Int) ⊕ (Unit ⊕ (Int × Int))} {Q : PX → St → Prop} (hQ : ∀ e st', finL (f119_l1_H a1 a2 a3) (f119_l1_X a1 a2 a3) r e st' → Q e st') (p38 : Int) (p39 : Int) (hS : f119_l1_j3 a1 a2 a3 p38 p39 = some r) {st : St} (he : keepSt [1, 2, 3, 8] [(32, .id 32)] [] st = f119_l1_j3_J a1 a2 a3 p38 p39) : ZR (lev codes baseL (d - 1)) Q c119_1 [.blk 1] st := by
  refine zrKeep he ?_
  unfold f119_l1_j3 at hS
  refine zrSeq (zrReg (zL 2 2 ?_))
  refine bindE hS (fun z4 hz4 hS => ?_)
  refine zO (some 32) 3 (.call 116 [(tm 30), (tm 31)]) (ev_callA (by kernel_rfl) (f116_ok (d - 1) (dpt hd rfl) a1 p39 z4 hz4) (by kernel_rfl) (by kernel_rfl)) ?_
  refine zE (zkSeq ?_)
  refine zrSplit 32 z4 (by kernel_rfl) (fun hc => ?_) (fun hc => ?_)
  · replace hS := cond_t hc hS
    refine zT (zrSeq (zrReg (zL 3 3 (zE (zkSeq (zrSeq (zrReg (zL 1 1 ?_))))))))
    refine zB 36 2 (.cmpI .eql (tm 35) (ki 0)) (decide ((IntKind.i64.wrap (p38 - 1)) = 0)) (fun hc => ?_) (fun hc => ?_)
    · replace hS := cond_t hc hS
      refine zE (zkSeq (zT (zrSeq (zrReg (zL 3 3 (zE (zkSeq ?_)))))))
      refine zrRet ?_
      refine zkBlkR ?_
      refine zkNil ?_
      exact endQ hS hQ (finL_x (by intro h; cases h) (by show _ = _ ∧ _ = _; exact ⟨rfl, by kernel_rfl⟩))
    · replace hS := cond_f hc hS
      refine zE (zkSeq (zF ?_))
      refine zrSkip ?_
      refine zkBlk ?_
      refine zkNil ?_
      exact endQ hS hQ (finL_n (by show keepSt _ _ _ _ = _; kernel_rfl))
  · replace hS := cond_f hc hS
    refine zF ?_
    refine zrSkip ?_
    refine zkBlk ?_
    refine zkNil ?_
    exact endQ hS hQ (finL_n (by show keepSt _ _ _ _ = _; kernel_rfl))
def f119_l1_j2_J (a1 : GStops) (a2 : Int) (a3 : Int) (p33 : Int) (p34 : Int) : St := ⟨(up (up (up (up u0 8 (dI p34)) 3 (pt 32)) 2 (dI p33)) 1 (dI a2)), (up h0 32 ⟨0, some (.box (((eInt .u64).row 4 a1.Bits) ++ []))⟩)⟩
noncomputable def f119_l1_j2 (a1 : GStops) (a2 : Int) (a3 : Int) (p33 : Int) (p34 : Int) : Option ((Int × Int) ⊕ (Unit ⊕ (Int × Int))) := (bif (decide ((IntKind.i64.wrap (p34 - 1)) < 0)) then (some (.inr (.inr (0, 0)))) else (f119_l1_j3 a1 a2 a3 p33 (IntKind.i64.wrap (p34 - 1))))
theorem f119_l1_j2_ok {d : Nat} (hd : 2 ≤ d) (a1 : GStops) (a2 : Int) (a3 : Int) {r : (Int × Int) ⊕ (Unit ⊕ (Int × Int))} {Q : PX → St → Prop} (hQ : ∀ e st', finL (f119_l1_H a1 a2 a3) (f119_l1_X a1 a2 a3) r e st' → Q e st') (p33 : Int) (p34 : Int) (hS : f119_l1_j2 a1 a2 a3 p33 p34 = some r) {st : St} (he : keepSt [1, 2, 3, 8] [(32, .id 32)] [] st = f119_l1_j2_J a1 a2 a3 p33 p34) : ZR (lev codes baseL (d - 1)) Q c119_2 [] st := by
  refine zrKeep he ?_
  unfold f119_l1_j2 at hS
  refine zrBlk ?_
  refine zrSeq (zrSeq (zrReg (zL 3 3 (zE (zkSeq (zrSeq (zrReg (zL 1 1 ?_))))))))
  refine zB 29 2 (.cmpI .lss (tm 28) (ki 0)) (decide ((IntKind.i64.wrap (p34 - 1)) < 0)) (fun hc => ?_) (fun hc => ?_)
  · replace hS := cond_t hc hS
    refine zE (zkSeq (zT (zrSeq (zrReg (zL 2 2 (zE (zkSeq ?_)))))))
    refine zrRet ?_
    refine zkSeqR ?_
    refine zkBlkR ?_
    refine zkNil ?_
    exact endQ hS hQ (finL_x (by intro h; cases h) (by show _ = _ ∧ _ = _; exact ⟨rfl, by kernel_rfl⟩))
  · replace hS := cond_f hc hS
    refine zE (zkSeq (zF ?_))
    refine zrSkip ?_
    refine zkSeq ?_
    exact f119_l1_j3_ok hd a1 a2 a3 hQ p33 (IntKind.i64.wrap (p34 - 1)) hS (by kernel_rfl)
noncomputable def f119_l1 (a1 : GStops) (a2 : Int) (a3 : Int) (x : Int × Int) : Option ((Int × Int) ⊕ (Unit ⊕ (Int × Int))) := (bif (decide (0 < x.1)) then (f119_l1_j2 a1 a2 a3 x.1 x.2) else (some (.inr (.inl ()))))
theorem f119_l1_ok {d : Nat} (hd : 2 ≤ d) (a1 : GStops) (a2 : Int) (a3 : Int) {r : (Int × Int) ⊕ (Unit ⊕ (Int × Int))} {Q : PX → St → Prop} (hQ : ∀ e st', finL (f119_l1_H a1 a2 a3) (f119_l1_X a1 a2 a3) r e st' → Q e st') {x : Int × Int} (hS : f119_l1 a1 a2 a3 x = some r) {st : St} (he : f119_l1_H a1 a2 a3 x st) : ZR (lev codes baseL (d - 1)) Q c119_3 [] st := by
  refine zrKeep he ?_
  unfold f119_l1 at hS
  refine zrSeq (zrSeq (zrReg (zL 1 1 ?_)))
  refine zB 25 2 (.cmpI .gtr (tm 24) (ki 0)) (decide (0 < x.1)) (fun hc => ?_) (fun hc => ?_)
  · replace hS := cond_t hc hS
    refine zE (zkSeq (zT ?_))
    refine zrSkip ?_
    refine zkSeq ?_
    exact f119_l1_j2_ok hd a1 a2 a3 hQ x.1 x.2 hS (by kernel_rfl)
  · replace hS := cond_f hc hS
    refine zE (zkSeq (zF ?_))
    refine zrKeep (J := f119_l1_e0_J a1 a2 a3) (by kernel_rfl) ?_
    refine zrExit ?_
    refine zkSeqX ?_
    refine zkNil ?_
    exact endQ hS hQ (finL_x (by intro h; cases h) (by show _ = _ ∧ _ = _; exact ⟨rfl, rfl⟩))
def f119_j0_J (a1 : GStops) (a2 : Int) (a3 : Int) : St := ⟨(up (up (up u0 3 (pt 32)) 2 (dI a3)) 1 (dI a2)), (up h0 32 ⟨0, some (.box (((eInt .u64).row 4 a1.Bits) ++ []))⟩)⟩
noncomputable def f119_j0 (a1 : GStops) (a2 : Int) (a3 : Int) : Option (Int × Int) := ((loopO (f119_l1 a1 a2 a3) (a3, a2)).bind fun z5 => (Sum.elim (fun z6 => (some (a2, 0))) (fun z7 => (some (z7.1, z7.2))) z5))
theorem f119_j0_ok {d : Nat} (hd : 2 ≤ d) (a1 : GStops) (a2 : Int) (a3 : Int) {r : Int × Int} {Q : PX → St → Prop} (hQ : ∀ e st', f119_Q r e st' → Q e st')  (hS : f119_j0 a1 a2 a3 = some r) {st : St} (he : keepSt [1, 2, 3] [(32, .id 32)] [] st = f119_j0_J a1 a2 a3) : ZR (lev codes baseL (d - 1)) Q c119_4 [] st := by
  refine zrKeep he ?_
  unfold f119_j0 at hS
  refine zrSeq (zrSeq (zrReg (zL 2 2 (zE (zkSeq ?_)))))
  refine zrBlk ?_
  refine bindE hS (fun z5 hz5 hS => ?_)
  refine zrLoop (f119_l1_H a1 a2 a3) (f119_l1_X a1 a2 a3) (fun x st r Q h0 hS hQ => f119_l1_ok hd a1 a2 a3 hQ hS h0) (x := (a3, a2)) (z := z5) (by show keepSt _ _ _ _ = _; kernel_rfl) hz5 ?_
  rcases z5 with z6 | z7
  · replace hS := (show _ = _ from hS)
    simp only [Sum.elim_inl] at hS
    intro e st' _ hX
    obtain ⟨rfl, rfl⟩ : _ ∧ _ := hX
    refine zkBlkX ?_
    refine zkSeq (zrSeq (zrReg (zL 3 3 (zE (zkSeq ?_)))))
    refine zrRet ?_
    refine zkNil ?_
    exact endQ hS hQ (fR (f119_out a2 0))
  · simp only [Sum.elim_inr] at hS
    intro e st' _ hX
    obtain ⟨rfl, hX⟩ : _ ∧ _ := hX
    refine zkBlkR ?_
    refine zkSeqR ?_
    refine zkNil ?_
    exact endQ hS hQ (fRet (by kernel_rfl) ((congrArg (fun s => outR s 0 c119.res) hX).trans (f119_out z7.1 z7.2)))
noncomputable def f119 (a1 : GStops) (a2 : Int) (a3 : Int) : Option (Int × Int) := (bif (decide (a2 < 0)) then (some (0, 1)) else (bif (decide (255 < a2)) then (some (0, 1)) else (bif (decide (a3 < 0)) then (some (0, 1)) else (bif (decide (16383 < a3)) then (some (0, 1)) else (f119_j0 a1 a2 a3 )))))
theorem f119_ok (d : Nat) (hd : 2 ≤ d) (a1 : GStops) (a2 : Int) (a3 : Int) (r : Int × Int) (hS : f119 a1 a2 a3 = some r) : lev codes baseL d 119 [(.agg (((eInt .u64).row 4 a1.Bits) ++ [])), (dI a2), (dI a3)] [] = some ((.tup [(dI r.1), (dI r.2)]), []) := by
  refine lev_go codes119 rfl rfl (Nat.le_trans (Nat.le_of_ble_eq_true rfl) hd) fun Q hQ => ?_
  unfold f119 at hS
  show ZR _ Q c119_b [] _
  replace hQ : ∀ e st', f119_Q r e st' → Q e st' := hQ
  refine zrSeq (zrReg (zL 3 3 (zE (zkSeq (zrSeq (zrSeq (zrReg (zL 1 1 ?_))))))))
  refine zB 10 2 (.cmpI .lss (tm 9) (ki 0)) (decide (a2 < 0)) (fun hc => ?_) (fun hc => ?_)
  · replace hS := cond_t hc hS
    refine zL 12 14 (zE (zkSeq (zT (zrSeq (zrReg (zL 2 2 (zE (zkSeq ?_))))))))
    refine zrRet ?_
    refine zkSeqR ?_
    refine zkNil ?_
    exact endQ hS hQ (fR (f119_out 0 1))
  · replace hS := cond_f hc hS
    refine zL 2 4 ?_
    refine zlBool (d := 13) (op := (.cmpI .gtr (tm 12) (ki 255))) (g := (some (11, false))) (j := 5) (decide (255 < a2)) rfl (by kernel_rfl) (by kernel_rfl) (by kernel_rfl) (fun hc => ?_) (fun hc => ?_)
    · replace hS := cond_t hc hS
      refine zL 9 14 (zE (zkSeq (zT (zrSeq (zrReg (zL 2 2 (zE (zkSeq ?_))))))))
      refine zrRet ?_
      refine zkSeqR ?_
      refine zkNil ?_
      exact endQ hS hQ (fR (f119_out 0 1))
    · replace hS := cond_f hc hS
      refine zL 3 8 ?_
      refine zlBool (d := 17) (op := (.cmpI .lss (tm 16) (ki 0))) (g := (some (15, false))) (j := 9) (decide (a3 < 0)) rfl (by kernel_rfl) (by kernel_rfl) (by kernel_rfl) (fun hc => ?_) (fun hc => ?_)
      · replace hS := cond_t hc hS
        refine zL 5 14 (zE (zkSeq (zT (zrSeq (zrReg (zL 2 2 (zE (zkSeq ?_))))))))
        refine zrRet ?_
        refine zkSeqR ?_
        refine zkNil ?_
        exact endQ hS hQ (fR (f119_out 0 1))
      · replace hS := cond_f hc hS
        refine zL 3 12 ?_
        refine zlBool (d := 21) (op := (.cmpI .gtr (tm 20) (ki 16383))) (g := (some (19, false))) (j := 13) (decide (16383 < a3)) rfl (by kernel_rfl) (by kernel_rfl) (by kernel_rfl) (fun hc => ?_) (fun hc => ?_)
        · replace hS := cond_t hc hS
          refine zL 1 14 (zE (zkSeq (zT (zrSeq (zrReg (zL 2 2 (zE (zkSeq ?_))))))))
          refine zrRet ?_
          refine zkSeqR ?_
          refine zkNil ?_
          exact endQ hS hQ (fR (f119_out 0 1))
        · replace hS := cond_f hc hS
          refine zL 1 14 (zE (zkSeq (zF ?_)))
          refine zrSkip ?_
          refine zkSeq ?_
          exact f119_j0_ok hd a1 a2 a3 hQ  hS (by kernel_rfl)
/- (*farwriter/screen.terminal).save -/
def f95_fin (p1 : Gterminal) : St := ⟨(up u0 2000000 .un), (gh_Gterminal h0 p1 0 1 2 3)⟩
theorem f95_out (p1 : Gterminal) : outR (f95_fin p1) 4 c95.res = some ((.tup []), (gb_Gterminal p1 1 2 3)) := by
  kernel_rfl
def f95_Q (r : Gterminal) (e : PX) (st : St) : Prop := DoneF c95 4 ((.tup []), [(gx_Gterminal r 1 2 3), (go0_Gterminal r), (go1_Gterminal r), (go2_Gterminal r), .box []]) e st
noncomputable def f95 (a1 : Gterminal) : Option (Gterminal) := ((f88 a1 [] 2).bind fun z2 => (some (Gterminal.mk ({ a1.Screen with Saved := (GSaved.mk a1.Screen.Row a1.Screen.Col a1.Screen.Pen z2 a1.Screen.Pages a1.Screen.Shift) }) a1.sent)))
theorem f95_ok (d : Nat) (hd : 2 ≤ d) (a1 : Gterminal) (r : Gterminal) (hS : f95 a1 = some r) : lev codes baseL d 95 [(pt 0)] (gb_Gterminal a1 1 2 3) = some ((.tup []), [(gx_Gterminal r 1 2 3), (go0_Gterminal r), (go1_Gterminal r), (go2_Gterminal r), .box []]) := by
  refine lev_go codes95 rfl rfl (Nat.le_trans (Nat.le_of_ble_eq_true rfl) hd) fun Q hQ => ?_
  unfold f95 at hS
  show ZR _ Q c95_b [] _
  replace hQ : ∀ e st', f95_Q r e st' → Q e st' := hQ
  refine zrRegD ?_
  refine zdRun (n := 17) (j := 17) (ts := [[], [], [], [], [], [(0, false)], [], [], [], [], [(0, false)], [], [], [], [], [(0, false)], []]) (acc' := [[], [], [], [], [], [(0, false)], [], [], [], [], [(0, false)], [], [], [], [], [(0, false)], []]) rfl (by kernel_rfl) (by kernel_rfl) (by kernel_rfl) ?_
  refine bindE hS (fun z2 hz2 hS => ?_)
  refine zdOp (d := some 19) (op := (.call 88 [(tm 18), (ki 2)])) (g := none) (j := 18) (t1 := [(0, false), (160, true), (161, true), (162, true), (163, true), (164, true), (165, true), (166, true), (167, true)]) (acc' := [[], [], [], [], [], [(0, false)], [], [], [], [], [(0, false)], [], [], [], [], [(0, false)], [], [(0, false), (160, true), (161, true), (162, true), (163, true), (164, true), (165, true), (166, true), (167, true)]]) (by kernel_rfl) (by kernel_rfl) rfl (by kernel_rfl) (by kernel_rfl) (ev_callA (by kernel_rfl) (f88_ok (d - 1) (dpt hd rfl) a1 [] 2 z2 hz2) (by kernel_rfl) (by kernel_rfl)) ?_
  refine zdRun (n := 15) (j := 33) (ts := [[], [], [], [], [(0, false)], [], [], [], [], [(0, false)], [], [], [], [], [(0, true)]]) (acc' := [[], [], [], [], [], [(0, false)], [], [], [], [], [(0, false)], [], [], [], [], [(0, false)], [], [(0, false), (160, true), (161, true), (162, true), (163, true), (164, true), (165, true), (166, true), (167, true)], [], [], [], [], [(0, false)], [], [], [], [], [(0, false)], [], [], [], [], [(0, true)]]) rfl (by kernel_rfl) (by kernel_rfl) (by kernel_rfl) ?_
  refine zdEnd (by kernel_rfl) (by kernel_rfl) ?_
  refine zkNil ?_
  exact endQ hS hQ (fNormX (by kernel_rfl) (by kernel_rfl : finSt c95.fin _ = f95_fin (Gterminal.mk ({ a1.Screen with Saved := (GSaved.mk a1.Screen.Row a1.Screen.Col a1.Screen.Pen z2 a1.Screen.Pages a1.Screen.Shift) }) a1.sent)) (by kernel_rfl) (f95_out (Gterminal.mk ({ a1.Screen with Saved := (GSaved.mk a1.Screen.Row a1.Screen.Col a1.Screen.Pen z2 a1.Screen.Pages a1.Screen.Shift) }) a1.sent)))
/- (*farwriter/screen.terminal).set -/
def f97_fin (p1 : Gterminal) : St := ⟨(up u0 2000000 .un), (gh_Gterminal h0 p1 0 1 2 3)⟩
theorem f97_out (p1 : Gterminal) : outR (f97_fin p1) 4 c97.res = some ((.tup []), (gb_Gterminal p1 1 2 3)) := by
  kernel_rfl
def f97_Q (r : Gterminal) (e : PX) (st : St) : Prop := DoneF c97 4 ((.tup []), [(gx_Gterminal r 1 2 3), (go0_Gterminal r), (go1_Gterminal r), (go2_Gterminal r), .box []]) e st
noncomputable def f97 (a1 : Int) (a2 : Bool) (a3 : Gterminal) : Option (Gterminal) := (bif a2 then (some (Gterminal.mk ({ a3.Screen with Modes := (bitI .or .i64 (bitI .andNot .i64 a3.Screen.Modes a1) a1) }) a3.sent)) else (some (Gterminal.mk ({ a3.Screen with Modes := (bitI .andNot .i64 a3.Screen.Modes a1) }) a3.sent)))
theorem f97_ok (d : Nat) (hd : 1 ≤ d) (a1 : Int) (a2 : Bool) (a3 : Gterminal) (r : Gterminal) (hS : f97 a1 a2 a3 = some r) : lev codes baseL d 97 [(pt 0), (dI a1), (dB a2)] (gb_Gterminal a3 1 2 3) = some ((.tup []), [(gx_Gterminal r 1 2 3), (go0_Gterminal r), (go1_Gterminal r), (go2_Gterminal r), .box []]) := by
  refine lev_go codes97 rfl rfl (Nat.le_trans (Nat.le_of_ble_eq_true rfl) hd) fun Q hQ => ?_
  unfold f97 at hS
  show ZR _ Q c97_b [] _
  replace hQ : ∀ e st', f97_Q r e st' → Q e st' := hQ
  refine zrSeq (zrReg (zL 11 11 (zE (zkSeq (zrSeq (zrReg (zL 1 1 (zE (zkSeq ?_)))))))))
  refine zrSplit 16 a2 (by kernel_rfl) (fun hc => ?_) (fun hc => ?_)
  · replace hS := cond_t hc hS
    refine zT (zrReg (zL 11 11 (zE ?_)))
    refine zkNil ?_
    exact endQ hS hQ (fNormX (by kernel_rfl) (by kernel_rfl : finSt c97.fin _ = f97_fin (Gterminal.mk ({ a3.Screen with Modes := (bitI .or .i64 (bitI .andNot .i64 a3.Screen.Modes a1) a1) }) a3.sent)) (by kernel_rfl) (f97_out (Gterminal.mk ({ a3.Screen with Modes := (bitI .or .i64 (bitI .andNot .i64 a3.Screen.Modes a1) a1) }) a3.sent)))
  · replace hS := cond_f hc hS
    refine zF ?_
    refine zrSkip ?_
    refine zkNil ?_
    exact endQ hS hQ (fNormX (by kernel_rfl) (by kernel_rfl : finSt c97.fin _ = f97_fin (Gterminal.mk ({ a3.Screen with Modes := (bitI .andNot .i64 a3.Screen.Modes a1) }) a3.sent)) (by kernel_rfl) (f97_out (Gterminal.mk ({ a3.Screen with Modes := (bitI .andNot .i64 a3.Screen.Modes a1) }) a3.sent)))
/- (*farwriter/screen.terminal).restore -/
def f96_fin (p1 : Gterminal) : St := ⟨(up u0 2000000 .un), (gh_Gterminal h0 p1 0 1 2 3)⟩
theorem f96_out (p1 : Gterminal) : outR (f96_fin p1) 4 c96.res = some ((.tup []), (gb_Gterminal p1 1 2 3)) := by
  kernel_rfl
def f96_Q (r : Gterminal) (e : PX) (st : St) : Prop := DoneF c96 4 ((.tup []), [(gx_Gterminal r 1 2 3), (go0_Gterminal r), (go1_Gterminal r), (go2_Gterminal r), .box []]) e st
noncomputable def f96 (a1 : Gterminal) : Option (Gterminal) := ((f97 2 a1.Screen.Saved.Origin (Gterminal.mk ({ a1.Screen with Row := (if (IntKind.i64.wrap (a1.Screen.Grid.High - 1)) < a1.Screen.Saved.Row then (IntKind.i64.wrap (a1.Screen.Grid.High - 1)) else a1.Screen.Saved.Row), Pen := a1.Screen.Saved.Pen, Pages := a1.Screen.Saved.Pages, Shift := a1.Screen.Saved.Shift }) a1.sent)).bind fun z9 => ((chk (decide (z9.Screen.Past.length = a1.Screen.Past.length))).bind fun z10 => ((chk (decide (z9.Screen.Other.Cells.length = a1.Screen.Other.Cells.length))).bind fun z11 => ((chk (decide (z9.Screen.Grid.Cells.length = a1.Screen.Grid.Cells.length))).bind fun z12 => ((f86 a1.Screen.Saved.Col z9).bind fun z13 => ((chk (decide (z13.Screen.Past.length = z9.Screen.Past.length))).bind fun z14 => ((chk (decide (z13.Screen.Other.Cells.length = z9.Screen.Other.Cells.length))).bind fun z15 => ((chk (decide (z13.Screen.Grid.Cells.length = z9.Screen.Grid.Cells.length))).bind fun z16 => (some z13)))))))))
theorem f96_ok (d : Nat) (hd : 3 ≤ d) (a1 : Gterminal) (r : Gterminal) (hS : f96 a1 = some r) : lev codes baseL d 96 [(pt 0)] (gb_Gterminal a1 1 2 3) = some ((.tup []), [(gx_Gterminal r 1 2 3), (go0_Gterminal r), (go1_Gterminal r), (go2_Gterminal r), .box []]) := by
  refine lev_go codes96 rfl rfl (Nat.le_trans (Nat.le_of_ble_eq_true rfl) hd) fun Q hQ => ?_
  unfold f96 at hS
  show ZR _ Q c96_b [] _
  replace hQ : ∀ e st', f96_Q r e st' → Q e st' := hQ
  refine zrSeq (zrReg (zL 7 7 (zE (zkSeq (zrSeq ?_)))))
  refine zrRegD ?_
  refine zdRun (n := 15) (j := 15) (ts := [[], [], [(24, false)], [], [], [], [], [], [(0, false)], [], [], [], [], [], [(0, true)]]) (acc' := [[], [], [(24, false)], [], [], [], [], [], [(0, false)], [], [], [], [], [], [(0, true)]]) rfl (by kernel_rfl) (by kernel_rfl) (by kernel_rfl) ?_
  refine zdEnd (by kernel_rfl) (by kernel_rfl) ?_
  refine zkSeq (zrSeq ?_)
  refine zrRegD ?_
  refine zdRun (n := 21) (j := 21) (ts := [[], [], [], [], [(24, false)], [], [(24, false)], [], [(24, false)], [], [], [], [(0, true)], [], [], [], [(0, true)], [], [], [], [(0, true)]]) (acc' := [[], [], [], [], [(24, false)], [], [(24, false)], [], [(24, false)], [], [], [], [(0, true)], [], [], [], [(0, true)], [], [], [], [(0, true)]]) rfl (by kernel_rfl) (by kernel_rfl) (by kernel_rfl) ?_
  refine zdEnd (by kernel_rfl) (by kernel_rfl) ?_
  refine zkSeq (zrSeq (zrReg (zL 3 3 ?_)))
  refine bindE hS (fun z9 hz9 hS => ?_)
  refine bindE hS (fun z10 hz10 hS => ?_)
  refine bindE hS (fun z11 hz11 hS => ?_)
  refine bindE hS (fun z12 hz12 hS => ?_)
  refine zO (some 43) 4 (.callr 97 [(tm 40), (ki 2), (tm 42)]) (ev_callrXA (ids := [0, 1, 2, 3]) (bs := [(.box (bx_Gterminal (Gterminal.mk ({ a1.Screen with Row := (if (IntKind.i64.wrap (a1.Screen.Grid.High - 1)) < a1.Screen.Saved.Row then (IntKind.i64.wrap (a1.Screen.Grid.High - 1)) else a1.Screen.Saved.Row), Pen := a1.Screen.Saved.Pen, Pages := a1.Screen.Saved.Pages, Shift := a1.Screen.Saved.Shift }) a1.sent) (.r (.msl 1 0 0 a1.Screen.Grid.Cells.length)) (.r (.msl 2 0 0 a1.Screen.Other.Cells.length)) (.r (.msl 3 0 0 a1.Screen.Past.length)))), (go0_Gterminal a1), (go1_Gterminal a1), (go2_Gterminal a1)]) (by kernel_rfl) (by kernel_rfl) (by kernel_rfl) (by kernel_rfl) (f97_ok (d - 1) (dpt hd rfl) 2 a1.Screen.Saved.Origin (Gterminal.mk ({ a1.Screen with Row := (if (IntKind.i64.wrap (a1.Screen.Grid.High - 1)) < a1.Screen.Saved.Row then (IntKind.i64.wrap (a1.Screen.Grid.High - 1)) else a1.Screen.Saved.Row), Pen := a1.Screen.Saved.Pen, Pages := a1.Screen.Saved.Pages, Shift := a1.Screen.Saved.Shift }) a1.sent) z9 hz9) (by kernel_rfl) (sm_box (cs := ((dI a1.Screen.Grid.Wide) :: ((dI a1.Screen.Grid.High) :: ((.r (.msl 1 0 0 a1.Screen.Grid.Cells.length)) :: ((dI (if (IntKind.i64.wrap (a1.Screen.Grid.High - 1)) < a1.Screen.Saved.Row then (IntKind.i64.wrap (a1.Screen.Grid.High - 1)) else a1.Screen.Saved.Row)) :: ((dI a1.Screen.Col) :: ((dB a1.Screen.Late) :: ((dI a1.Screen.Top) :: ((dI a1.Screen.Bottom) :: ((dI a1.Screen.Saved.Pen.Flags) :: ((dI a1.Screen.Saved.Pen.Fore) :: ((dI a1.Screen.Saved.Pen.Back) :: ((dI a1.Screen.Modes) :: (((eInt .u64).row 4 a1.Screen.Stops.Bits) ++ ((dI a1.Screen.Saved.Pages.1) :: ((dI a1.Screen.Saved.Pages.2) :: ((dI a1.Screen.Saved.Shift) :: ((dI a1.Screen.Saved.Row) :: ((dI a1.Screen.Saved.Col) :: ((dI a1.Screen.Saved.Pen.Flags) :: ((dI a1.Screen.Saved.Pen.Fore) :: ((dI a1.Screen.Saved.Pen.Back) :: ((dB a1.Screen.Saved.Origin) :: ((dI a1.Screen.Saved.Pages.1) :: ((dI a1.Screen.Saved.Pages.2) :: ((dI a1.Screen.Saved.Shift) :: ((dI a1.Screen.Other.Wide) :: ((dI a1.Screen.Other.High) :: ((.r (.msl 2 0 0 a1.Screen.Other.Cells.length)) :: ((.d (.str a1.Screen.Title)) :: ((.r (.msl 3 0 0 a1.Screen.Past.length)) :: ((.d (.str a1.sent)) :: [])))))))))))))))))))))))))))))))) (by kernel_rfl) (sm_own e_GCell (e1 := 58) (k1 := 4) (xs := a1.Screen.Grid.Cells) (ys := z9.Screen.Grid.Cells) (by kernel_rfl) hz12 (sm_own e_GCell (e1 := 58) (k1 := 4) (xs := a1.Screen.Other.Cells) (ys := z9.Screen.Other.Cells) (by kernel_rfl) hz11 (sm_own e_GLine (e1 := 87) (k1 := 1) (xs := a1.Screen.Past) (ys := z9.Screen.Past) (by kernel_rfl) hz10 sm_nil)))) (by kernel_rfl)) ?_
  have lz10 : a1.Screen.Past.length = z9.Screen.Past.length := (of_decide_eq_true (chk_t hz10)).symm
  skip
  try rw [lz10]
  have lz11 : a1.Screen.Other.Cells.length = z9.Screen.Other.Cells.length := (of_decide_eq_true (chk_t hz11)).symm
  skip
  try rw [lz11]
  have lz12 : a1.Screen.Grid.Cells.length = z9.Screen.Grid.Cells.length := (of_decide_eq_true (chk_t hz12)).symm
  skip
  try rw [lz12]
  refine zE (zkSeq (zrReg (zL 3 3 ?_)))
  refine bindE hS (fun z13 hz13 hS => ?_)
  refine bindE hS (fun z14 hz14 hS => ?_)
  refine bindE hS (fun z15 hz15 hS => ?_)
  refine bindE hS (fun z16 hz16 hS => ?_)
  refine zO (some 47) 4 (.callr 86 [(tm 44), (tm 46)]) (ev_callrXA (ids := [0, 1, 2, 3]) (bs := (gb_Gterminal z9 1 2 3)) (by kernel_rfl) (by kernel_rfl) (by kernel_rfl) (by kernel_rfl) (f86_ok (d - 1) (dpt hd rfl) a1.Screen.Saved.Col z9 z13 hz13) (by kernel_rfl) (sm_box (cs := (bm_Gterminal z9 1 0 2 0 3 0)) (by kernel_rfl) (sm_own e_GCell (e1 := 58) (k1 := 4) (xs := z9.Screen.Grid.Cells) (ys := z13.Screen.Grid.Cells) (by kernel_rfl) hz16 (sm_own e_GCell (e1 := 58) (k1 := 4) (xs := z9.Screen.Other.Cells) (ys := z13.Screen.Other.Cells) (by kernel_rfl) hz15 (sm_own e_GLine (e1 := 87) (k1 := 1) (xs := z9.Screen.Past) (ys := z13.Screen.Past) (by kernel_rfl) hz14 sm_nil)))) (by kernel_rfl)) ?_
  have lz14 : z9.Screen.Past.length = z13.Screen.Past.length := (of_decide_eq_true (chk_t hz14)).symm
  skip
  try rw [lz14]
  have lz15 : z9.Screen.Other.Cells.length = z13.Screen.Other.Cells.length := (of_decide_eq_true (chk_t hz15)).symm
  skip
  try rw [lz15]
  have lz16 : z9.Screen.Grid.Cells.length = z13.Screen.Grid.Cells.length := (of_decide_eq_true (chk_t hz16)).symm
  skip
  try rw [lz16]
  refine zE ?_
  refine zkNil ?_
  exact endQ hS hQ (fNormX (by kernel_rfl) (by kernel_rfl : finSt c96.fin _ = f96_fin z13) (by kernel_rfl) (f96_out z13))
end Go.Proofs.YtjoccdgmcdkbkaaGreatDoor.Pm
