/- Typed functions, and that the codes are these. Printed by dec.py. -/
import Derived.Test.YthblnlmpfgfgcaaDoorDLqC
namespace Go.Proofs.YthblnlmpfgfgcaaDoor.Pm
set_option maxRecDepth 1000000
set_option maxHeartbeats 20000000
set_option linter.unusedVariables false
/- farwriter/farkeep.lineKeys -/
def f16_fin (p13 : GKeys) : St := ⟨(up (fun _ => .un) 0 (.r (.ptr 8 0 0))), (up (hB fun _ => 0) 8 ⟨0, some (.box ((eU8.row 19 p13.Levels) ++ ((eU8.row 19 p13.Chars) ++ [])))⟩)⟩
theorem f16_out (p13 : GKeys) : outR (f16_fin p13) 0 c16.res = some ((.agg ((eU8.row 19 p13.Levels) ++ ((eU8.row 19 p13.Chars) ++ []))), []) := by
  kernel_rfl
def f16_Q (r : GKeys) (e : PX) (st : St) : Prop := DoneF c16 0 ((.agg ((eU8.row 19 r.Levels) ++ ((eU8.row 19 r.Chars) ++ []))), []) e st
def f16_l0_J  (x : GKeys × Int) : St := ⟨(up (up (up (up (up (fun _ => .un) 6 (.d (.int .i64 x.2))) 5 (.d (.int .i64 ((([10, 11, 12, 13, 14] : List Int).length) : Int)))) 4 (.r (.msl 40 0 0 (([10, 11, 12, 13, 14] : List Int).length)))) 1 (.r (.ptr 16 0 0))) 0 (.r (.ptr 8 0 0))), (up (up (up (hB fun _ => 0) 40 ⟨0, some (.own 3 1 ((eInt .i64).cells ([10, 11, 12, 13, 14])))⟩) 16 ⟨0, some (.box ((eU8.row 19 x.1.Levels) ++ ((eU8.row 19 x.1.Chars) ++ [])))⟩) 8 ⟨0, some (.box ((eU8.row 19 (fun _ => 0)) ++ ((eU8.row 19 (fun _ => 0)) ++ [])))⟩)⟩
def f16_l0_H  (x : GKeys × Int) (st : St) : Prop := keepSt [0, 1, 4, 5, 6] [(8, .id 8), (16, .id 16), (40, .id 40)] [] st = f16_l0_J x
def f16_l0_e0_J (p12 : GKeys) : St := ⟨(up (up (fun _ => .un) 1 (.r (.ptr 16 0 0))) 0 (.r (.ptr 8 0 0))), (up (up (hB fun _ => 0) 16 ⟨0, some (.box ((eU8.row 19 p12.Levels) ++ ((eU8.row 19 p12.Chars) ++ [])))⟩) 8 ⟨0, some (.box ((eU8.row 19 (fun _ => 0)) ++ ((eU8.row 19 (fun _ => 0)) ++ [])))⟩)⟩
def f16_l0_X  (z : GKeys) (e : PX) (st : St) : Prop := e = .exit 0 ∧ st = f16_l0_e0_J z
def f16_l0_j2_J (p20 : GKeys) (p21 : Int) : St := ⟨(up (up (up (up (up (fun _ => .un) 6 (.d (.int .i64 p21))) 5 (.d (.int .i64 ((([10, 11, 12, 13, 14] : List Int).length) : Int)))) 4 (.r (.msl 40 0 0 (([10, 11, 12, 13, 14] : List Int).length)))) 1 (.r (.ptr 16 0 0))) 0 (.r (.ptr 8 0 0))), (up (up (up (hB fun _ => 0) 40 ⟨0, some (.own 3 1 ((eInt .i64).cells ([10, 11, 12, 13, 14])))⟩) 16 ⟨0, some (.box ((eU8.row 19 p20.Levels) ++ ((eU8.row 19 p20.Chars) ++ [])))⟩) 8 ⟨0, some (.box ((eU8.row 19 (fun _ => 0)) ++ ((eU8.row 19 (fun _ => 0)) ++ [])))⟩)⟩
noncomputable def f16_l0_j2 (p20 : GKeys) (p21 : Int) : Option ((GKeys × Int) ⊕ GKeys) := ((inR p21 (([10, 11, 12, 13, 14] : List Int).length)).bind fun m16 => ((([10, 11, 12, 13, 14])[m16]?).bind fun z17 => ((idx ([127, 21, 23, 18, 22] : List UInt8) p21).bind fun z18 => ((inR z17 19).bind fun m19 => ((inR z17 19).bind fun m20 => (some (.inl ((GKeys.mk (upd p20.Levels m19 2) (upd p20.Chars m20 z18)), (IntKind.i64.wrap (p21 + 1))))))))))
theorem f16_l0_j2_ok {d : Nat} (hd : 1 ≤ d)  {r : (GKeys × Int) ⊕ GKeys} {Q : PX → St → Prop} (hQ : ∀ e st', finL (f16_l0_H ) (f16_l0_X ) r e st' → Q e st') (p20 : GKeys) (p21 : Int) (hS : f16_l0_j2 p20 p21 = some r) {st : St} (he : keepSt [0, 1, 4, 5, 6] [(8, .id 8), (16, .id 16), (40, .id 40)] [] st = f16_l0_j2_J p20 p21) : ZR (lev codes baseL (d - 1)) Q c16_1 [] st := by
  refine zrKeep he ?_
  unfold f16_l0_j2 at hS
  refine zrSeq ?_
  refine zrBlk ?_
  refine zrSeq ?_
  refine zrReg ?_
  refine zlRun (n := 1) (j := 1) rfl (by kernel_rfl) ?_
  refine bindE hS (fun m16 hm16 hS => ?_)
  refine zlOp (d := some 9) (op := (.ixS 3 1 (.tmp 4) (.tmp 6))) (g := none) (v := (.r (.ptr 40 0 ((0 + m16) * 1)))) (ups := []) (j := 2) rfl (by kernel_rfl) (by kernel_rfl) (ev_ixM (kk := .i64) (b := 40) (g := 0) (l := 0) (n := ([10, 11, 12, 13, 14] : List Int).length) (j := p21) (cs := (eInt .i64).cells ([10, 11, 12, 13, 14])) (by kernel_rfl) (by kernel_rfl) (by kernel_rfl) hm16) ?_
  refine bindE hS (fun z17 hz17 hS => ?_)
  refine zlOp (d := some 10) (op := (.load .false 1 (.tmp 9))) (g := none) (v := (.d (.int .i64 z17))) (ups := []) (j := 3) rfl (by kernel_rfl) (by kernel_rfl) (ev_loadM (eInt .i64) (b := 40) (g := 0) (o := (0 + m16) * 1) (e := 3) (k := 1) (m := m16) (fo := 0) (xs := [10, 11, 12, 13, 14]) (by kernel_rfl) (by kernel_rfl) (by rw [Nat.zero_add]; rfl) hz17 (by kernel_rfl) (by kernel_rfl) (by kernel_rfl)) ?_
  refine zlRun (n := 2) (j := 5) rfl (by kernel_rfl) ?_
  refine zlEnd (by kernel_rfl) ?_
  refine zkSeq ?_
  refine zrRegD ?_
  refine zdRun (n := 3) (j := 3) (ts := [[], [], []]) (acc' := [[], [], []]) rfl (by kernel_rfl) (by kernel_rfl) (by kernel_rfl) ?_
  refine bindE hS (fun z18 hz18 hS => ?_)
  refine zdOp (d := some 14) (op := (.ixStr (.const (.string ⟨#[127, 21, 23, 18, 22]⟩)) (.tmp 13))) (g := none) (v := (.d (.int .u8 (z18.toNat : Int)))) (ups := []) (j := 4) (t1 := []) (acc' := [[], [], [], []]) (by kernel_rfl) (by kernel_rfl) rfl (by kernel_rfl) (by kernel_rfl) (ev_ixStr (kk := .i64) (s := [127, 21, 23, 18, 22]) (j := p21) (by kernel_rfl) (by kernel_rfl) hz18) ?_
  refine zdRun (n := 1) (j := 5) (ts := [[]]) (acc' := [[], [], [], [], []]) rfl (by kernel_rfl) (by kernel_rfl) (by kernel_rfl) ?_
  refine bindE hS (fun m19 hm19 hS => ?_)
  refine zdOp (d := some 16) (op := (.ixA 19 1 (.tmp 15) (.tmp 11))) (g := none) (v := (.r (.ptr 16 0 (0 + m19 * 1)))) (ups := []) (j := 6) (t1 := []) (acc' := [[], [], [], [], [], []]) (by kernel_rfl) (by kernel_rfl) rfl (by kernel_rfl) (by kernel_rfl) (ev_ixA (kk := .i64) (b := 16) (g := 0) (o := 0) (j := z17) (by kernel_rfl) (by kernel_rfl) hm19) ?_
  refine zdOp (d := none) (op := (.store 1 (.tmp 16) (.const (.int .u8 2)))) (g := none) (v := .un) (ups := [(16, ⟨0, some (.box ((eU8.row 19 (upd p20.Levels m19 2)) ++ ((eU8.row 19 p20.Chars) ++ [])))⟩)]) (j := 7) (t1 := [(16, true)]) (acc' := [[], [], [], [], [], [], [(16, true)]]) (by kernel_rfl) (by kernel_rfl) rfl (by kernel_rfl) (by kernel_rfl) (ev_storeA eU8 (b := 16) (g := 0) (o := 0 + m19 * 1) (f := p20.Levels) (nn := 19) (m := m19) (fo := 0) (pre := []) (post := ((eU8.row 19 p20.Chars) ++ [])) (by kernel_rfl) (by kernel_rfl) (by kernel_rfl) (inR_lt hm19) (new := ((.d (.int .u8 2)) :: [])) (ds := [.int .u8 2]) (z' := 2) (by kernel_rfl) (by kernel_rfl) (by kernel_rfl) (by kernel_rfl) (by kernel_rfl) (by kernel_rfl)) ?_
  refine zdRun (n := 1) (j := 8) (ts := [[]]) (acc' := [[], [], [], [], [], [], [(16, true)], []]) rfl (by kernel_rfl) (by kernel_rfl) (by kernel_rfl) ?_
  refine bindE hS (fun m20 hm20 hS => ?_)
  refine zdOp (d := some 18) (op := (.ixA 19 1 (.tmp 17) (.tmp 12))) (g := none) (v := (.r (.ptr 16 0 (19 + m20 * 1)))) (ups := []) (j := 9) (t1 := []) (acc' := [[], [], [], [], [], [], [(16, true)], [], []]) (by kernel_rfl) (by kernel_rfl) rfl (by kernel_rfl) (by kernel_rfl) (ev_ixA (kk := .i64) (b := 16) (g := 0) (o := 19) (j := z17) (by kernel_rfl) (by kernel_rfl) hm20) ?_
  refine zdOp (d := none) (op := (.store 1 (.tmp 18) (.tmp 14))) (g := none) (v := .un) (ups := [(16, ⟨0, some (.box ((eU8.row 19 (upd p20.Levels m19 2)) ++ ((eU8.row 19 (upd p20.Chars m20 z18)) ++ [])))⟩)]) (j := 10) (t1 := [(16, true)]) (acc' := [[], [], [], [], [], [], [(16, true)], [], [], [(16, true)]]) (by kernel_rfl) (by kernel_rfl) rfl (by kernel_rfl) (by kernel_rfl) (ev_storeA eU8 (b := 16) (g := 0) (o := 19 + m20 * 1) (f := p20.Chars) (nn := 19) (m := m20) (fo := 0) (pre := ((eU8.row 19 (upd p20.Levels m19 2)) ++ [])) (post := []) (by kernel_rfl) (by kernel_rfl) (by kernel_rfl) (inR_lt hm20) (new := ((.d (.int .u8 (z18.toNat : Int))) :: [])) (ds := [.int .u8 (z18.toNat : Int)]) (z' := z18) (by kernel_rfl) (by kernel_rfl) (by kernel_rfl) (by kernel_rfl) (by kernel_rfl) (by kernel_rfl)) ?_
  refine zdEnd (by kernel_rfl) (by kernel_rfl) ?_
  refine zkBlk ?_
  refine zkSeq ?_
  refine zrReg ?_
  refine zlRun (n := 2) (j := 2) rfl (by kernel_rfl) ?_
  refine zlEnd (by kernel_rfl) ?_
  refine zkNil ?_
  exact endQ hS hQ (finL_n (by show keepSt _ _ _ _ = _; kernel_rfl))
def f16_l0_j1_J (p17 : GKeys) (p18 : Int) (p19 : Bool) : St := ⟨(up (up (up (up (up (up (fun _ => .un) 7 (.d (.bool p19))) 6 (.d (.int .i64 p18))) 5 (.d (.int .i64 ((([10, 11, 12, 13, 14] : List Int).length) : Int)))) 4 (.r (.msl 40 0 0 (([10, 11, 12, 13, 14] : List Int).length)))) 1 (.r (.ptr 16 0 0))) 0 (.r (.ptr 8 0 0))), (up (up (up (hB fun _ => 0) 40 ⟨0, some (.own 3 1 ((eInt .i64).cells ([10, 11, 12, 13, 14])))⟩) 16 ⟨0, some (.box ((eU8.row 19 p17.Levels) ++ ((eU8.row 19 p17.Chars) ++ [])))⟩) 8 ⟨0, some (.box ((eU8.row 19 (fun _ => 0)) ++ ((eU8.row 19 (fun _ => 0)) ++ [])))⟩)⟩
noncomputable def f16_l0_j1 (p17 : GKeys) (p18 : Int) (p19 : Bool) : Option ((GKeys × Int) ⊕ GKeys) := (bif p19 then (f16_l0_j2  p17 p18) else (some (.inr p17)))
theorem f16_l0_j1_ok {d : Nat} (hd : 1 ≤ d)  {r : (GKeys × Int) ⊕ GKeys} {Q : PX → St → Prop} (hQ : ∀ e st', finL (f16_l0_H ) (f16_l0_X ) r e st' → Q e st') (p17 : GKeys) (p18 : Int) (p19 : Bool) (hS : f16_l0_j1 p17 p18 p19 = some r) {st : St} (he : keepSt [0, 1, 4, 5, 6, 7] [(8, .id 8), (16, .id 16), (40, .id 40)] [] st = f16_l0_j1_J p17 p18 p19) : ZR (lev codes baseL (d - 1)) Q c16_2 [] st := by
  refine zrKeep he ?_
  unfold f16_l0_j1 at hS
  refine zrSeq ?_
  refine zrSplit 7 p19 (by kernel_rfl) (fun hc => ?_) (fun hc => ?_)
  · replace hS := cond_t hc hS
    refine zrCondT (by kernel_rfl) ?_
    refine zrSkip ?_
    refine zkSeq ?_
    exact f16_l0_j2_ok hd  hQ p17 p18 hS (by kernel_rfl)
  · replace hS := cond_f hc hS
    refine zrCondF (by kernel_rfl) ?_
    refine zrKeep (J := f16_l0_e0_J p17) (by kernel_rfl) ?_
    refine zrExit ?_
    refine zkSeqX ?_
    refine zkNil ?_
    exact endQ hS hQ (finL_x (by intro h; cases h) (by show _ = _ ∧ _ = _; exact ⟨rfl, rfl⟩))
noncomputable def f16_l0  (x : GKeys × Int) : Option ((GKeys × Int) ⊕ GKeys) := (bif (decide (x.2 < ((([10, 11, 12, 13, 14] : List Int).length) : Int))) then (f16_l0_j1  x.1 x.2 true) else (f16_l0_j1  x.1 x.2 false))
theorem f16_l0_ok {d : Nat} (hd : 1 ≤ d)  {r : (GKeys × Int) ⊕ GKeys} {Q : PX → St → Prop} (hQ : ∀ e st', finL (f16_l0_H ) (f16_l0_X ) r e st' → Q e st') {x : GKeys × Int} (hS : f16_l0 x = some r) {st : St} (he : f16_l0_H x st) : ZR (lev codes baseL (d - 1)) Q c16_3 [] st := by
  refine zrKeep he ?_
  unfold f16_l0 at hS
  refine zrSeq ?_
  refine zrReg ?_
  refine zlBool (d := 7) (op := (.cmpI .lss (.tmp 6) (.tmp 5))) (g := none) (j := 1) (decide (x.2 < ((([10, 11, 12, 13, 14] : List Int).length) : Int))) rfl (by kernel_rfl) (by kernel_rfl) (by kernel_rfl) (fun hc => ?_) (fun hc => ?_)
  · replace hS := cond_t hc hS
    refine zlEnd (by kernel_rfl) ?_
    refine zkSeq ?_
    exact f16_l0_j1_ok hd  hQ x.1 x.2 true hS (by kernel_rfl)
  · replace hS := cond_f hc hS
    refine zlEnd (by kernel_rfl) ?_
    refine zkSeq ?_
    exact f16_l0_j1_ok hd  hQ x.1 x.2 false hS (by kernel_rfl)
noncomputable def f16  : Option (GKeys) := ((loopO (f16_l0 ) ((GKeys.mk (fun _ => 0) (fun _ => 0)), 0)).bind fun z21 => (some z21))
theorem f16_ok (d : Nat) (hd : 1 ≤ d)  (r : GKeys) (hS : f16 = some r) : lev codes baseL d 16 [] [] = some ((.agg ((eU8.row 19 r.Levels) ++ ((eU8.row 19 r.Chars) ++ []))), []) := by
  refine lev_go codes16 rfl rfl (Nat.le_trans (Nat.le_of_ble_eq_true rfl) hd) fun Q hQ => ?_
  unfold f16 at hS
  show ZR _ Q c16_b [] _
  replace hQ : ∀ e st', f16_Q r e st' → Q e st' := hQ
  refine zrSeq ?_
  refine zrReg ?_
  refine zlRun (n := 1) (j := 1) rfl (by kernel_rfl) ?_
  refine zlEnd (by kernel_rfl) ?_
  refine zkSeq ?_
  refine zrSeq ?_
  refine zrReg ?_
  refine zlRun (n := 1) (j := 1) rfl (by kernel_rfl) ?_
  refine zlEnd (by kernel_rfl) ?_
  refine zkSeq ?_
  refine zrSeq ?_
  refine zrSeq ?_
  refine zrReg ?_
  refine zlRun (n := 3) (j := 3) rfl (by kernel_rfl) ?_
  refine zlEnd (by kernel_rfl) ?_
  refine zkSeq ?_
  refine zrBlk ?_
  refine bindE hS (fun z21 hz21 hS => ?_)
  refine zrLoop (f16_l0_H ) (f16_l0_X ) (fun x st r Q h0 hS hQ => f16_l0_ok hd  hQ hS h0) (x := ((GKeys.mk (fun _ => 0) (fun _ => 0)), 0)) (z := z21) (by show keepSt _ _ _ _ = _; kernel_rfl) hz21 ?_
  intro e st' _ hX
  obtain ⟨rfl, rfl⟩ : _ ∧ _ := hX
  refine zkBlkX ?_
  refine zkSeq ?_
  refine zrSeq ?_
  refine zrReg ?_
  refine zlRun (n := 2) (j := 2) rfl (by kernel_rfl) ?_
  refine zlEnd (by kernel_rfl) ?_
  refine zkSeq ?_
  refine zrRet ?_
  refine zkNil ?_
  exact endQ hS hQ (fRet (by kernel_rfl) ((congrArg (fun s => outR s 0 c16.res) (by kernel_rfl : finSt c16.fin _ = f16_fin z21)).trans (f16_out z21)))
/- farwriter/line.Check -/
def f6_fin (p2 : Int) : St := ⟨(up (fun _ => .un) 2 (.d (.int .i64 p2))), (hB fun _ => 0)⟩
theorem f6_out (p2 : Int) : outR (f6_fin p2) 0 c6.res = some ((.d (.int .i64 p2)), []) := by
  kernel_rfl
def f6_Q (r : Int) (e : PX) (st : St) : Prop := DoneF c6 0 ((.d (.int .i64 r)), []) e st
noncomputable def f6 (a1 : GEditor) : Option (Int) := (bif (decide (1024 ≤ (a1.Buf.length : Int))) then (some 2) else (some 0))
theorem f6_ok (d : Nat) (hd : 1 ≤ d) (a1 : GEditor) (r : Int) (hS : f6 a1 = some r) : lev codes baseL d 6 [(.agg ((.d (.str a1.Buf)) :: ((.d (.bool a1.Quote)) :: [])))] [] = some ((.d (.int .i64 r)), []) := by
  refine lev_go codes6 rfl rfl (Nat.le_trans (Nat.le_of_ble_eq_true rfl) hd) fun Q hQ => ?_
  unfold f6 at hS
  show ZR _ Q c6_b [] _
  replace hQ : ∀ e st', f6_Q r e st' → Q e st' := hQ
  refine zrSeq ?_
  refine zrReg ?_
  refine zlRun (n := 2) (j := 2) rfl (by kernel_rfl) ?_
  refine zlEnd (by kernel_rfl) ?_
  refine zkSeq ?_
  refine zrSeq ?_
  refine zrSeq ?_
  refine zrReg ?_
  refine zlRun (n := 3) (j := 3) rfl (by kernel_rfl) ?_
  refine zlBool (d := 6) (op := (.cmpI .geq (.tmp 5) (.const (.int .i64 1024)))) (g := none) (j := 4) (decide (1024 ≤ (a1.Buf.length : Int))) rfl (by kernel_rfl) (by kernel_rfl) (by kernel_rfl) (fun hc => ?_) (fun hc => ?_)
  · replace hS := cond_t hc hS
    refine zlEnd (by kernel_rfl) ?_
    refine zkSeq ?_
    refine zrCondT (by kernel_rfl) ?_
    refine zrSeq ?_
    refine zrReg ?_
    refine zlRun (n := 1) (j := 1) rfl (by kernel_rfl) ?_
    refine zlEnd (by kernel_rfl) ?_
    refine zkSeq ?_
    refine zrRet ?_
    refine zkSeqR ?_
    refine zkNil ?_
    exact endQ hS hQ (fRet (by kernel_rfl) ((congrArg (fun s => outR s 0 c6.res) (by kernel_rfl : finSt c6.fin _ = f6_fin 2)).trans (f6_out 2)))
  · replace hS := cond_f hc hS
    refine zlEnd (by kernel_rfl) ?_
    refine zkSeq ?_
    refine zrCondF (by kernel_rfl) ?_
    refine zrSkip ?_
    refine zkSeq ?_
    refine zrSeq ?_
    refine zrReg ?_
    refine zlRun (n := 1) (j := 1) rfl (by kernel_rfl) ?_
    refine zlEnd (by kernel_rfl) ?_
    refine zkSeq ?_
    refine zrRet ?_
    refine zkNil ?_
    exact endQ hS hQ (fRet (by kernel_rfl) ((congrArg (fun s => outR s 0 c6.res) (by kernel_rfl : finSt c6.fin _ = f6_fin 0)).trans (f6_out 0)))
/- farwriter/slc.Check -/
def f19_fin (p17 : Int) : St := ⟨(up (fun _ => .un) 2 (.d (.int .i64 p17))), (hB fun _ => 0)⟩
theorem f19_out (p17 : Int) : outR (f19_fin p17) 0 c19.res = some ((.d (.int .i64 p17)), []) := by
  kernel_rfl
def f19_Q (r : Int) (e : PX) (st : St) : Prop := DoneF c19 0 ((.d (.int .i64 r)), []) e st
def f19_j0_J (a1 : GKeys) : St := ⟨(up (fun _ => .un) 1 (.r (.ptr 16 0 0))), (up (hB fun _ => 0) 16 ⟨0, some (.box ((eU8.row 19 a1.Levels) ++ ((eU8.row 19 a1.Chars) ++ [])))⟩)⟩
noncomputable def f19_j0 (a1 : GKeys) : Option (Int) := (bif (!decide (((a1.Levels 0).toNat : Int) = 0)) then (some 4) else (bif (!decide (((a1.Chars 0).toNat : Int) = 0)) then (some 4) else (some 0)))
theorem f19_j0_ok {d : Nat} (hd : 1 ≤ d) (a1 : GKeys) {r : Int} {Q : PX → St → Prop} (hQ : ∀ e st', f19_Q r e st' → Q e st')  (hS : f19_j0 a1 = some r) {st : St} (he : keepSt [1] [(16, .id 16)] [] st = f19_j0_J a1) : ZR (lev codes baseL (d - 1)) Q c19_1 [] st := by
  refine zrKeep he ?_
  unfold f19_j0 at hS
  refine zrSeq ?_
  refine zrSeq ?_
  refine zrReg ?_
  refine zlRun (n := 3) (j := 3) rfl (by kernel_rfl) ?_
  refine zlBool (d := 16) (op := (.cmpI .neq (.tmp 15) (.const (.int .u8 0)))) (g := none) (j := 4) (!decide (((a1.Levels 0).toNat : Int) = 0)) rfl (by kernel_rfl) (by kernel_rfl) (by kernel_rfl) (fun hc => ?_) (fun hc => ?_)
  · replace hS := cond_t hc hS
    refine zlRun (n := 6) (j := 10) rfl (by kernel_rfl) ?_
    refine zlEnd (by kernel_rfl) ?_
    refine zkSeq ?_
    refine zrCondT (by kernel_rfl) ?_
    refine zrSeq ?_
    refine zrReg ?_
    refine zlRun (n := 1) (j := 1) rfl (by kernel_rfl) ?_
    refine zlEnd (by kernel_rfl) ?_
    refine zkSeq ?_
    refine zrRet ?_
    refine zkSeqR ?_
    refine zkNil ?_
    exact endQ hS hQ (fRet (by kernel_rfl) ((congrArg (fun s => outR s 0 c19.res) (by kernel_rfl : finSt c19.fin _ = f19_fin 4)).trans (f19_out 4)))
  · replace hS := cond_f hc hS
    refine zlRun (n := 4) (j := 8) rfl (by kernel_rfl) ?_
    refine zlBool (d := 21) (op := (.cmpI .neq (.tmp 20) (.const (.int .u8 0)))) (g := (some (17, false))) (j := 9) (!decide (((a1.Chars 0).toNat : Int) = 0)) rfl (by kernel_rfl) (by kernel_rfl) (by kernel_rfl) (fun hc => ?_) (fun hc => ?_)
    · replace hS := cond_t hc hS
      refine zlRun (n := 1) (j := 10) rfl (by kernel_rfl) ?_
      refine zlEnd (by kernel_rfl) ?_
      refine zkSeq ?_
      refine zrCondT (by kernel_rfl) ?_
      refine zrSeq ?_
      refine zrReg ?_
      refine zlRun (n := 1) (j := 1) rfl (by kernel_rfl) ?_
      refine zlEnd (by kernel_rfl) ?_
      refine zkSeq ?_
      refine zrRet ?_
      refine zkSeqR ?_
      refine zkNil ?_
      exact endQ hS hQ (fRet (by kernel_rfl) ((congrArg (fun s => outR s 0 c19.res) (by kernel_rfl : finSt c19.fin _ = f19_fin 4)).trans (f19_out 4)))
    · replace hS := cond_f hc hS
      refine zlRun (n := 1) (j := 10) rfl (by kernel_rfl) ?_
      refine zlEnd (by kernel_rfl) ?_
      refine zkSeq ?_
      refine zrCondF (by kernel_rfl) ?_
      refine zrSkip ?_
      refine zkSeq ?_
      refine zrSeq ?_
      refine zrReg ?_
      refine zlRun (n := 1) (j := 1) rfl (by kernel_rfl) ?_
      refine zlEnd (by kernel_rfl) ?_
      refine zkSeq ?_
      refine zrRet ?_
      refine zkNil ?_
      exact endQ hS hQ (fRet (by kernel_rfl) ((congrArg (fun s => outR s 0 c19.res) (by kernel_rfl : finSt c19.fin _ = f19_fin 0)).trans (f19_out 0)))
def f19_l1_J (a1 : GKeys) (x : Int) : St := ⟨(up (up (up (fun _ => .un) 7 (.d (.int .i64 x))) 6 (.agg ((eU8.row 19 a1.Levels) ++ []))) 1 (.r (.ptr 16 0 0))), (up (hB fun _ => 0) 16 ⟨0, some (.box ((eU8.row 19 a1.Levels) ++ ((eU8.row 19 a1.Chars) ++ [])))⟩)⟩
def f19_l1_H (a1 : GKeys) (x : Int) (st : St) : Prop := keepSt [1, 6, 7] [(16, .id 16)] [] st = f19_l1_J a1 x
def f19_l1_e0_J (a1 : GKeys) : St := ⟨(up (fun _ => .un) 1 (.r (.ptr 16 0 0))), (up (hB fun _ => 0) 16 ⟨0, some (.box ((eU8.row 19 a1.Levels) ++ ((eU8.row 19 a1.Chars) ++ [])))⟩)⟩
def f19_l1_X (a1 : GKeys) (z : Unit ⊕ Int) (e : PX) (st : St) : Prop := (match z with | .inl z => e = .exit 0 ∧ st = f19_l1_e0_J a1 | .inr z => e = .ret ∧ finSt c19.fin st = f19_fin z)
def f19_l1_j3_J (a1 : GKeys) (p22 : Int) : St := ⟨(up (up (up (fun _ => .un) 7 (.d (.int .i64 p22))) 6 (.agg ((eU8.row 19 a1.Levels) ++ []))) 1 (.r (.ptr 16 0 0))), (up (hB fun _ => 0) 16 ⟨0, some (.box ((eU8.row 19 a1.Levels) ++ ((eU8.row 19 a1.Chars) ++ [])))⟩)⟩
noncomputable def f19_l1_j3 (a1 : GKeys) (p22 : Int) : Option (Int ⊕ (Unit ⊕ Int)) := ((inR p22 19).bind fun m3 => (bif (decide (2 < ((a1.Levels m3).toNat : Int))) then (some (.inr (.inr 4))) else (some (.inl (IntKind.i64.wrap (p22 + 1))))))
theorem f19_l1_j3_ok {d : Nat} (hd : 1 ≤ d) (a1 : GKeys) {r : Int ⊕ (Unit ⊕ Int)} {Q : PX → St → Prop} (hQ : ∀ e st', finL (f19_l1_H a1) (f19_l1_X a1) r e st' → Q e st') (p22 : Int) (hS : f19_l1_j3 a1 p22 = some r) {st : St} (he : keepSt [1, 6, 7] [(16, .id 16)] [] st = f19_l1_j3_J a1 p22) : ZR (lev codes baseL (d - 1)) Q c19_2 [] st := by
  refine zrKeep he ?_
  unfold f19_l1_j3 at hS
  refine zrSeq ?_
  refine zrBlk ?_
  refine zrSeq ?_
  refine zrReg ?_
  refine bindE hS (fun m3 hm3 hS => ?_)
  refine zlOp (d := some 9) (op := (.ixV .false 19 1 (.tmp 6) (.tmp 7))) (g := none) (v := (.d (.int .u8 ((a1.Levels m3).toNat : Int)))) (ups := []) (j := 1) rfl (by kernel_rfl) (by kernel_rfl) (ev_ixV eU8 a1.Levels (kk := .i64) (j := p22) (by kernel_rfl) (by kernel_rfl) hm3 rfl (by kernel_rfl) (by kernel_rfl)) ?_
  refine zlRun (n := 1) (j := 2) rfl (by kernel_rfl) ?_
  refine zlEnd (by kernel_rfl) ?_
  refine zkSeq ?_
  refine zrSeq ?_
  refine zrReg ?_
  refine zlRun (n := 1) (j := 1) rfl (by kernel_rfl) ?_
  refine zlBool (d := 11) (op := (.cmpI .gtr (.tmp 10) (.const (.int .u8 2)))) (g := none) (j := 2) (decide (2 < ((a1.Levels m3).toNat : Int))) rfl (by kernel_rfl) (by kernel_rfl) (by kernel_rfl) (fun hc => ?_) (fun hc => ?_)
  · replace hS := cond_t hc hS
    refine zlEnd (by kernel_rfl) ?_
    refine zkSeq ?_
    refine zrCondT (by kernel_rfl) ?_
    refine zrSeq ?_
    refine zrReg ?_
    refine zlRun (n := 1) (j := 1) rfl (by kernel_rfl) ?_
    refine zlEnd (by kernel_rfl) ?_
    refine zkSeq ?_
    refine zrRet ?_
    refine zkBlkR ?_
    refine zkSeqR ?_
    refine zkNil ?_
    exact endQ hS hQ (finL_x (by intro h; cases h) (by show _ = _ ∧ _ = _; exact ⟨rfl, by kernel_rfl⟩))
  · replace hS := cond_f hc hS
    refine zlEnd (by kernel_rfl) ?_
    refine zkSeq ?_
    refine zrCondF (by kernel_rfl) ?_
    refine zrSkip ?_
    refine zkBlk ?_
    refine zkSeq ?_
    refine zrReg ?_
    refine zlRun (n := 2) (j := 2) rfl (by kernel_rfl) ?_
    refine zlEnd (by kernel_rfl) ?_
    refine zkNil ?_
    exact endQ hS hQ (finL_n (by show keepSt _ _ _ _ = _; kernel_rfl))
def f19_l1_j2_J (a1 : GKeys) (p20 : Int) (p21 : Bool) : St := ⟨(up (up (up (up (fun _ => .un) 8 (.d (.bool p21))) 7 (.d (.int .i64 p20))) 6 (.agg ((eU8.row 19 a1.Levels) ++ []))) 1 (.r (.ptr 16 0 0))), (up (hB fun _ => 0) 16 ⟨0, some (.box ((eU8.row 19 a1.Levels) ++ ((eU8.row 19 a1.Chars) ++ [])))⟩)⟩
noncomputable def f19_l1_j2 (a1 : GKeys) (p20 : Int) (p21 : Bool) : Option (Int ⊕ (Unit ⊕ Int)) := (bif p21 then (f19_l1_j3 a1 p20) else (some (.inr (.inl ()))))
theorem f19_l1_j2_ok {d : Nat} (hd : 1 ≤ d) (a1 : GKeys) {r : Int ⊕ (Unit ⊕ Int)} {Q : PX → St → Prop} (hQ : ∀ e st', finL (f19_l1_H a1) (f19_l1_X a1) r e st' → Q e st') (p20 : Int) (p21 : Bool) (hS : f19_l1_j2 a1 p20 p21 = some r) {st : St} (he : keepSt [1, 6, 7, 8] [(16, .id 16)] [] st = f19_l1_j2_J a1 p20 p21) : ZR (lev codes baseL (d - 1)) Q c19_3 [] st := by
  refine zrKeep he ?_
  unfold f19_l1_j2 at hS
  refine zrSeq ?_
  refine zrSplit 8 p21 (by kernel_rfl) (fun hc => ?_) (fun hc => ?_)
  · replace hS := cond_t hc hS
    refine zrCondT (by kernel_rfl) ?_
    refine zrSkip ?_
    refine zkSeq ?_
    exact f19_l1_j3_ok hd a1 hQ p20 hS (by kernel_rfl)
  · replace hS := cond_f hc hS
    refine zrCondF (by kernel_rfl) ?_
    refine zrKeep (J := f19_l1_e0_J a1) (by kernel_rfl) ?_
    refine zrExit ?_
    refine zkSeqX ?_
    refine zkNil ?_
    exact endQ hS hQ (finL_x (by intro h; cases h) (by show _ = _ ∧ _ = _; exact ⟨rfl, rfl⟩))
noncomputable def f19_l1 (a1 : GKeys) (x : Int) : Option (Int ⊕ (Unit ⊕ Int)) := (bif (decide (x < 19)) then (f19_l1_j2 a1 x true) else (f19_l1_j2 a1 x false))
theorem f19_l1_ok {d : Nat} (hd : 1 ≤ d) (a1 : GKeys) {r : Int ⊕ (Unit ⊕ Int)} {Q : PX → St → Prop} (hQ : ∀ e st', finL (f19_l1_H a1) (f19_l1_X a1) r e st' → Q e st') {x : Int} (hS : f19_l1 a1 x = some r) {st : St} (he : f19_l1_H a1 x st) : ZR (lev codes baseL (d - 1)) Q c19_4 [] st := by
  refine zrKeep he ?_
  unfold f19_l1 at hS
  refine zrSeq ?_
  refine zrReg ?_
  refine zlBool (d := 8) (op := (.cmpI .lss (.tmp 7) (.const (.int .i64 19)))) (g := none) (j := 1) (decide (x < 19)) rfl (by kernel_rfl) (by kernel_rfl) (by kernel_rfl) (fun hc => ?_) (fun hc => ?_)
  · replace hS := cond_t hc hS
    refine zlEnd (by kernel_rfl) ?_
    refine zkSeq ?_
    exact f19_l1_j2_ok hd a1 hQ x true hS (by kernel_rfl)
  · replace hS := cond_f hc hS
    refine zlEnd (by kernel_rfl) ?_
    refine zkSeq ?_
    exact f19_l1_j2_ok hd a1 hQ x false hS (by kernel_rfl)
noncomputable def f19 (a1 : GKeys) : Option (Int) := ((loopO (f19_l1 a1) 0).bind fun z4 => (Sum.elim (fun z5 => (f19_j0 a1 )) (fun z6 => (some z6)) z4))
theorem f19_ok (d : Nat) (hd : 1 ≤ d) (a1 : GKeys) (r : Int) (hS : f19 a1 = some r) : lev codes baseL d 19 [(.agg ((eU8.row 19 a1.Levels) ++ ((eU8.row 19 a1.Chars) ++ [])))] [] = some ((.d (.int .i64 r)), []) := by
  refine lev_go codes19 rfl rfl (Nat.le_trans (Nat.le_of_ble_eq_true rfl) hd) fun Q hQ => ?_
  unfold f19 at hS
  show ZR _ Q c19_b [] _
  replace hQ : ∀ e st', f19_Q r e st' → Q e st' := hQ
  refine zrSeq ?_
  refine zrReg ?_
  refine zlRun (n := 2) (j := 2) rfl (by kernel_rfl) ?_
  refine zlEnd (by kernel_rfl) ?_
  refine zkSeq ?_
  refine zrSeq ?_
  refine zrSeq ?_
  refine zrReg ?_
  refine zlRun (n := 3) (j := 3) rfl (by kernel_rfl) ?_
  refine zlEnd (by kernel_rfl) ?_
  refine zkSeq ?_
  refine zrBlk ?_
  refine bindE hS (fun z4 hz4 hS => ?_)
  refine zrLoop (f19_l1_H a1) (f19_l1_X a1) (fun x st r Q h0 hS hQ => f19_l1_ok hd a1 hQ hS h0) (x := 0) (z := z4) (by show keepSt _ _ _ _ = _; kernel_rfl) hz4 ?_
  rcases z4 with z5 | z6
  · replace hS := (show _ = _ from hS)
    simp only [Sum.elim_inl] at hS
    intro e st' _ hX
    obtain ⟨rfl, rfl⟩ : _ ∧ _ := hX
    refine zkBlkX ?_
    refine zkSeq ?_
    exact f19_j0_ok hd a1 hQ  hS (by kernel_rfl)
  · simp only [Sum.elim_inr] at hS
    intro e st' _ hX
    obtain ⟨rfl, hX⟩ : _ ∧ _ := hX
    refine zkBlkR ?_
    refine zkSeqR ?_
    refine zkNil ?_
    exact endQ hS hQ (fRet (by kernel_rfl) ((congrArg (fun s => outR s 0 c19.res) hX).trans (f19_out z6)))
/- (*farwriter/line.typist).send -/
def f32_fin (p1 : Bool) (p2 : Nat → UInt8) (p3 : Nat → UInt8) (p4 : Nat → Int) (p5 : List (List UInt8)) (p6 : List UInt8) (p7 : List UInt8) : St := ⟨(up (up (up (fun _ => .un) 1000003 .un) 1000002 .un) 1000001 .un), (up (up (up (up (hB fun _ => 0) 1 ⟨1, some (.own 5 1 (eU8.cells p7))⟩) 3 ⟨1, some (.own 5 1 (eU8.cells p6))⟩) 2 ⟨1, some (.own 9 1 (eStr.cells p5))⟩) 0 ⟨0, some (.box (bx_Gtypist (Gtypist.mk ([]) p1 (GKeys.mk p2 p3) (GMask.mk p4) ([]) ([])) .nil (.r (.msl 2 1 0 p5.length)) (.r (.msl 3 1 0 p6.length))))⟩)⟩
theorem f32_out (p1 : Bool) (p2 : Nat → UInt8) (p3 : Nat → UInt8) (p4 : Nat → Int) (p5 : List (List UInt8)) (p6 : List UInt8) (p7 : List UInt8) : outR (f32_fin p1 p2 p3 p4 p5 p6 p7) 4 c32.res = some ((.tup []), [(.box (bx_Gtypist (Gtypist.mk ([]) p1 (GKeys.mk p2 p3) (GMask.mk p4) ([]) ([])) .nil (.r (.msl 2 0 0 p5.length)) (.r (.msl 3 0 0 p6.length)))), (.own 5 1 (eU8.cells p7)), (.own 9 1 (eStr.cells p5)), (.own 5 1 (eU8.cells p6))]) := by
  kernel_rfl
def f32_Q (r : Bool × (Nat → UInt8) × (Nat → UInt8) × (Nat → Int) × (List (List UInt8)) × (List UInt8) × (List UInt8)) (e : PX) (st : St) : Prop := DoneF c32 4 ((.tup []), [(.box (bx_Gtypist (Gtypist.mk ([]) r.1 (GKeys.mk r.2.1 r.2.2.1) (GMask.mk r.2.2.2.1) ([]) ([])) .nil (.r (.msl 2 0 0 r.2.2.2.2.1.length)) (.r (.msl 3 0 0 r.2.2.2.2.2.1.length)))), (.own 5 1 (eU8.cells r.2.2.2.2.2.2)), (.own 9 1 (eStr.cells r.2.2.2.2.1)), (.own 5 1 (eU8.cells r.2.2.2.2.2.1))]) e st
noncomputable def f32 (a1 : Bool) (a2 : Nat → UInt8) (a3 : Nat → UInt8) (a4 : Nat → Int) (a5 : List UInt8) (a6 : List (List UInt8)) (a7 : List UInt8) : Option (Bool × (Nat → UInt8) × (Nat → UInt8) × (Nat → Int) × (List (List UInt8)) × (List UInt8) × (List UInt8)) := ((app? 16 a6 ([a5] : List (List UInt8))).bind fun z2 => (some (a1, a2, a3, a4, z2, a7, a5)))
theorem f32_ok (d : Nat) (hd : 1 ≤ d) (a1 : Bool) (a2 : Nat → UInt8) (a3 : Nat → UInt8) (a4 : Nat → Int) (a5 : List UInt8) (a6 : List (List UInt8)) (a7 : List UInt8) (r : Bool × (Nat → UInt8) × (Nat → UInt8) × (Nat → Int) × (List (List UInt8)) × (List UInt8) × (List UInt8)) (hS : f32 a1 a2 a3 a4 a5 a6 a7 = some r) : lev codes baseL d 32 [(.r (.ptr 0 0 0))] [(.box (bx_Gtypist (Gtypist.mk ([]) a1 (GKeys.mk a2 a3) (GMask.mk a4) ([]) ([])) (.r (.msl 1 0 0 a5.length)) (.r (.msl 2 0 0 a6.length)) (.r (.msl 3 0 0 a7.length)))), (.own 5 1 (eU8.cells a5)), (.own 9 1 (eStr.cells a6)), (.own 5 1 (eU8.cells a7))] = some ((.tup []), [(.box (bx_Gtypist (Gtypist.mk ([]) r.1 (GKeys.mk r.2.1 r.2.2.1) (GMask.mk r.2.2.2.1) ([]) ([])) .nil (.r (.msl 2 0 0 r.2.2.2.2.1.length)) (.r (.msl 3 0 0 r.2.2.2.2.2.1.length)))), (.own 5 1 (eU8.cells r.2.2.2.2.2.2)), (.own 9 1 (eStr.cells r.2.2.2.2.1)), (.own 5 1 (eU8.cells r.2.2.2.2.2.1))]) := by
  refine lev_go codes32 rfl rfl (Nat.le_trans (Nat.le_of_ble_eq_true rfl) hd) fun Q hQ => ?_
  unfold f32 at hS
  show ZR _ Q c32_b [] _
  replace hQ : ∀ e st', f32_Q r e st' → Q e st' := hQ
  refine zrSeq ?_
  refine zrRegD ?_
  refine zdRun (n := 9) (j := 9) (ts := [[], [], [], [], [(0, false)], [], [], [], [(0, false)]]) (acc' := [[], [], [], [], [(0, false)], [], [], [], [(0, false)]]) rfl (by kernel_rfl) (by kernel_rfl) (by kernel_rfl) ?_
  refine zdOp (d := some 11) (op := (.cvBS (.tmp 10))) (g := none) (v := (.d (.str a5))) (ups := []) (j := 10) (t1 := [(1, false)]) (acc' := [[], [], [], [], [(0, false)], [], [], [], [(0, false)], [(1, false)]]) (by kernel_rfl) (by kernel_rfl) rfl (by kernel_rfl) (by kernel_rfl) (ev_cvBS (s := a5) ((congrArg (asL _) (by kernel_rfl : ρof _ (.tmp 10) = (.r (.msl 1 0 0 a5.length)))).trans (as_whole eU8 (e := 5) (k := 1) (xs := a5) (by kernel_rfl) rfl rfl)) rfl) ?_
  refine zdRun (n := 1) (j := 11) (ts := [[(104, true)]]) (acc' := [[], [], [], [], [(0, false)], [], [], [], [(0, false)], [(1, false)], [(104, true)]]) rfl (by kernel_rfl) (by kernel_rfl) (by kernel_rfl) ?_
  refine bindE hS (fun z2 hz2 hS => ?_)
  refine zdOp (d := some 13) (op := (.app 9 1 16 (.tmp 6) (.tmp 12))) (g := none) (v := (.r (.msl 2 1 0 z2.length))) (ups := [(2, ⟨1, some (.own 9 1 (eStr.cells z2))⟩)]) (j := 12) (t1 := [(112, true), (2, true), (104, false)]) (acc' := [[], [], [], [], [(0, false)], [], [], [], [(0, false)], [(1, false)], [(104, true)], [(112, true), (2, true), (104, false)]]) (by kernel_rfl) (by kernel_rfl) rfl (by kernel_rfl) (by kernel_rfl) (ev_app eStr (b := 2) (g := 0) (n := a6.length) (xs := a6) (ys := [a5]) ((congrArg (asL _) (by kernel_rfl : ρof _ (.tmp 12) = (.r (.msl 104 1 0 (([a5] : List (List UInt8)).length))))).trans (as_whole eStr (e := 9) (k := 1) (xs := [a5]) (by kernel_rfl) rfl rfl)) rfl (by kernel_rfl) rfl (by kernel_rfl) rfl hz2) ?_
  refine zdRun (n := 3) (j := 15) (ts := [[], [], [(0, true)]]) (acc' := [[], [], [], [], [(0, false)], [], [], [], [(0, false)], [(1, false)], [(104, true)], [(112, true), (2, true), (104, false)], [], [], [(0, true)]]) rfl (by kernel_rfl) (by kernel_rfl) (by kernel_rfl) ?_
  refine zdEnd (by kernel_rfl) (by kernel_rfl) ?_
  refine zkSeq ?_
  refine zrReg ?_
  refine zlRun (n := 4) (j := 4) rfl (by kernel_rfl) ?_
  refine zlEnd (by kernel_rfl) ?_
  refine zkNil ?_
  exact endQ hS hQ (fNorm (by kernel_rfl) ((congrArg (fun s => outR s 4 c32.res) (by kernel_rfl : finSt c32.fin _ = f32_fin a1 a2 a3 a4 z2 a7 a5)).trans (f32_out a1 a2 a3 a4 z2 a7 a5)))
/- (*farwriter/line.typist).insert -/
def f26_fin (p4 : List UInt8) (p5 : Bool) (p6 : Nat → UInt8) (p7 : Nat → UInt8) (p8 : Nat → Int) (p9 : List (List UInt8)) (p10 : List UInt8) (p11 : Bool) : St := ⟨(up (up (up (up (fun _ => .un) 1000003 .un) 1000002 .un) 1000001 .un) 4 (.d (.bool p11))), (up (up (up (up (hB fun _ => 0) 3 ⟨1, some (.own 5 1 (eU8.cells p10))⟩) 2 ⟨1, some (.own 9 1 (eStr.cells p9))⟩) 1 ⟨1, some (.own 5 1 (eU8.cells p4))⟩) 0 ⟨0, some (.box (bx_Gtypist (Gtypist.mk ([]) p5 (GKeys.mk p6 p7) (GMask.mk p8) ([]) ([])) (.r (.msl 1 1 0 p4.length)) (.r (.msl 2 1 0 p9.length)) (.r (.msl 3 1 0 p10.length))))⟩)⟩
theorem f26_out (p4 : List UInt8) (p5 : Bool) (p6 : Nat → UInt8) (p7 : Nat → UInt8) (p8 : Nat → Int) (p9 : List (List UInt8)) (p10 : List UInt8) (p11 : Bool) : outR (f26_fin p4 p5 p6 p7 p8 p9 p10 p11) 4 c26.res = some ((.d (.bool p11)), [(.box (bx_Gtypist (Gtypist.mk ([]) p5 (GKeys.mk p6 p7) (GMask.mk p8) ([]) ([])) (.r (.msl 1 0 0 p4.length)) (.r (.msl 2 0 0 p9.length)) (.r (.msl 3 0 0 p10.length)))), (.own 5 1 (eU8.cells p4)), (.own 9 1 (eStr.cells p9)), (.own 5 1 (eU8.cells p10))]) := by
  kernel_rfl
def f26_Q (r : (List UInt8) × Bool × (Nat → UInt8) × (Nat → UInt8) × (Nat → Int) × (List (List UInt8)) × (List UInt8) × Bool) (e : PX) (st : St) : Prop := DoneF c26 4 ((.d (.bool r.2.2.2.2.2.2.2)), [(.box (bx_Gtypist (Gtypist.mk ([]) r.2.1 (GKeys.mk r.2.2.1 r.2.2.2.1) (GMask.mk r.2.2.2.2.1) ([]) ([])) (.r (.msl 1 0 0 r.1.length)) (.r (.msl 2 0 0 r.2.2.2.2.2.1.length)) (.r (.msl 3 0 0 r.2.2.2.2.2.2.1.length)))), (.own 5 1 (eU8.cells r.1)), (.own 9 1 (eStr.cells r.2.2.2.2.2.1)), (.own 5 1 (eU8.cells r.2.2.2.2.2.2.1))]) e st
noncomputable def f26 (a1 : UInt8) (a2 : Bool) (a3 : Nat → UInt8) (a4 : Nat → UInt8) (a5 : Nat → Int) (a6 : List UInt8) (a7 : List (List UInt8)) (a8 : List UInt8) : Option ((List UInt8) × Bool × (Nat → UInt8) × (Nat → UInt8) × (Nat → Int) × (List (List UInt8)) × (List UInt8) × Bool) := ((app? 1 a6 ([a1] : List UInt8)).bind fun z4 => ((app? 1 a8 ([a1] : List UInt8)).bind fun z5 => (bif (decide ((z4.length : Int) < 1024)) then (some (z4, a2, a3, a4, a5, a7, z5, false)) else ((f32 a2 a3 a4 a5 z4 a7 z5).bind fun z6 => (some ([], z6.1, z6.2.1, z6.2.2.1, z6.2.2.2.1, z6.2.2.2.2.1, z6.2.2.2.2.2.1, true))))))
theorem f26_ok (d : Nat) (hd : 2 ≤ d) (a1 : UInt8) (a2 : Bool) (a3 : Nat → UInt8) (a4 : Nat → UInt8) (a5 : Nat → Int) (a6 : List UInt8) (a7 : List (List UInt8)) (a8 : List UInt8) (r : (List UInt8) × Bool × (Nat → UInt8) × (Nat → UInt8) × (Nat → Int) × (List (List UInt8)) × (List UInt8) × Bool) (hS : f26 a1 a2 a3 a4 a5 a6 a7 a8 = some r) : lev codes baseL d 26 [(.r (.ptr 0 0 0)), (.d (.int .u8 (a1.toNat : Int)))] [(.box (bx_Gtypist (Gtypist.mk ([]) a2 (GKeys.mk a3 a4) (GMask.mk a5) ([]) ([])) (.r (.msl 1 0 0 a6.length)) (.r (.msl 2 0 0 a7.length)) (.r (.msl 3 0 0 a8.length)))), (.own 5 1 (eU8.cells a6)), (.own 9 1 (eStr.cells a7)), (.own 5 1 (eU8.cells a8))] = some ((.d (.bool r.2.2.2.2.2.2.2)), [(.box (bx_Gtypist (Gtypist.mk ([]) r.2.1 (GKeys.mk r.2.2.1 r.2.2.2.1) (GMask.mk r.2.2.2.2.1) ([]) ([])) (.r (.msl 1 0 0 r.1.length)) (.r (.msl 2 0 0 r.2.2.2.2.2.1.length)) (.r (.msl 3 0 0 r.2.2.2.2.2.2.1.length)))), (.own 5 1 (eU8.cells r.1)), (.own 9 1 (eStr.cells r.2.2.2.2.2.1)), (.own 5 1 (eU8.cells r.2.2.2.2.2.2.1))]) := by
  refine lev_go codes26 rfl rfl (Nat.le_trans (Nat.le_of_ble_eq_true rfl) hd) fun Q hQ => ?_
  unfold f26 at hS
  show ZR _ Q c26_b [] _
  replace hQ : ∀ e st', f26_Q r e st' → Q e st' := hQ
  refine zrSeq ?_
  refine zrReg ?_
  refine zlRun (n := 1) (j := 1) rfl (by kernel_rfl) ?_
  refine zlEnd (by kernel_rfl) ?_
  refine zkSeq ?_
  refine zrSeq ?_
  refine zrRegD ?_
  refine zdRun (n := 8) (j := 8) (ts := [[], [], [], [], [], [(0, false)], [], [(104, true)]]) (acc' := [[], [], [], [], [], [(0, false)], [], [(104, true)]]) rfl (by kernel_rfl) (by kernel_rfl) (by kernel_rfl) ?_
  refine bindE hS (fun z4 hz4 hS => ?_)
  refine zdOp (d := some 13) (op := (.app 5 1 1 (.tmp 10) (.tmp 12))) (g := none) (v := (.r (.msl 1 1 0 z4.length))) (ups := [(1, ⟨1, some (.own 5 1 (eU8.cells z4))⟩)]) (j := 9) (t1 := [(112, true), (1, true), (104, false)]) (acc' := [[], [], [], [], [], [(0, false)], [], [(104, true)], [(112, true), (1, true), (104, false)]]) (by kernel_rfl) (by kernel_rfl) rfl (by kernel_rfl) (by kernel_rfl) (ev_app eU8 (b := 1) (g := 0) (n := a6.length) (xs := a6) (ys := [a1]) ((congrArg (asL _) (by kernel_rfl : ρof _ (.tmp 12) = (.r (.msl 104 1 0 (([a1] : List UInt8).length))))).trans (as_whole eU8 (e := 5) (k := 1) (xs := [a1]) (by kernel_rfl) rfl rfl)) rfl (by kernel_rfl) rfl (by kernel_rfl) rfl hz4) ?_
  refine zdRun (n := 6) (j := 15) (ts := [[], [], [], [(0, false)], [], [(160, true)]]) (acc' := [[], [], [], [], [], [(0, false)], [], [(104, true)], [(112, true), (1, true), (104, false)], [], [], [], [(0, false)], [], [(160, true)]]) rfl (by kernel_rfl) (by kernel_rfl) (by kernel_rfl) ?_
  refine bindE hS (fun z5 hz5 hS => ?_)
  refine zdOp (d := some 20) (op := (.app 5 1 1 (.tmp 17) (.tmp 19))) (g := none) (v := (.r (.msl 3 1 0 z5.length))) (ups := [(3, ⟨1, some (.own 5 1 (eU8.cells z5))⟩)]) (j := 16) (t1 := [(168, true), (3, true), (160, false)]) (acc' := [[], [], [], [], [], [(0, false)], [], [(104, true)], [(112, true), (1, true), (104, false)], [], [], [], [(0, false)], [], [(160, true)], [(168, true), (3, true), (160, false)]]) (by kernel_rfl) (by kernel_rfl) rfl (by kernel_rfl) (by kernel_rfl) (ev_app eU8 (b := 3) (g := 0) (n := a8.length) (xs := a8) (ys := [a1]) ((congrArg (asL _) (by kernel_rfl : ρof _ (.tmp 19) = (.r (.msl 160 1 0 (([a1] : List UInt8).length))))).trans (as_whole eU8 (e := 5) (k := 1) (xs := [a1]) (by kernel_rfl) rfl rfl)) rfl (by kernel_rfl) rfl (by kernel_rfl) rfl hz5) ?_
  refine zdRun (n := 6) (j := 22) (ts := [[], [], [(0, true)], [], [], [(0, true)]]) (acc' := [[], [], [], [], [], [(0, false)], [], [(104, true)], [(112, true), (1, true), (104, false)], [], [], [], [(0, false)], [], [(160, true)], [(168, true), (3, true), (160, false)], [], [], [(0, true)], [], [], [(0, true)]]) rfl (by kernel_rfl) (by kernel_rfl) (by kernel_rfl) ?_
  refine zdEnd (by kernel_rfl) (by kernel_rfl) ?_
  refine zkSeq ?_
  refine zrSeq ?_
  refine zrSeq ?_
  refine zrReg ?_
  refine zlRun (n := 5) (j := 5) rfl (by kernel_rfl) ?_
  refine zlBool (d := 30) (op := (.cmpI .lss (.tmp 29) (.const (.int .i64 1024)))) (g := none) (j := 6) (decide ((z4.length : Int) < 1024)) rfl (by kernel_rfl) (by kernel_rfl) (by kernel_rfl) (fun hc => ?_) (fun hc => ?_)
  · replace hS := cond_t hc hS
    refine zlEnd (by kernel_rfl) ?_
    refine zkSeq ?_
    refine zrCondT (by kernel_rfl) ?_
    refine zrSeq ?_
    refine zrReg ?_
    refine zlRun (n := 1) (j := 1) rfl (by kernel_rfl) ?_
    refine zlEnd (by kernel_rfl) ?_
    refine zkSeq ?_
    refine zrRet ?_
    refine zkSeqR ?_
    refine zkNil ?_
    exact endQ hS hQ (fRet (by kernel_rfl) ((congrArg (fun s => outR s 4 c26.res) (by kernel_rfl : finSt c26.fin _ = f26_fin z4 a2 a3 a4 a5 a7 z5 false)).trans (f26_out z4 a2 a3 a4 a5 a7 z5 false)))
  · replace hS := cond_f hc hS
    refine zlEnd (by kernel_rfl) ?_
    refine zkSeq ?_
    refine zrCondF (by kernel_rfl) ?_
    refine zrSkip ?_
    refine zkSeq ?_
    refine zrSeq ?_
    refine zrReg ?_
    refine zlRun (n := 1) (j := 1) rfl (by kernel_rfl) ?_
    refine bindE hS (fun z6 hz6 hS => ?_)
    refine zlOp (d := some 32) (op := (.callr 32 [(.tmp 31)])) (g := none) (j := 2) rfl (by kernel_rfl) (by kernel_rfl) (ev_callrA (ids := [0, 1, 2, 3]) (by kernel_rfl) (by kernel_rfl) (by kernel_rfl) (f32_ok (d - 1) (dpt hd rfl) a2 a3 a4 a5 z4 a7 z5 z6 hz6) (by kernel_rfl)) ?_
    refine zlEnd (by kernel_rfl) ?_
    refine zkSeq ?_
    refine zrSeq ?_
    refine zrReg ?_
    refine zlRun (n := 1) (j := 1) rfl (by kernel_rfl) ?_
    refine zlEnd (by kernel_rfl) ?_
    refine zkSeq ?_
    refine zrRet ?_
    refine zkNil ?_
    exact endQ hS hQ (fRet (by kernel_rfl) ((congrArg (fun s => outR s 4 c26.res) (by kernel_rfl : finSt c26.fin _ = f26_fin [] z6.1 z6.2.1 z6.2.2.1 z6.2.2.2.1 z6.2.2.2.2.1 z6.2.2.2.2.2.1 true)).trans (f26_out [] z6.1 z6.2.1 z6.2.2.1 z6.2.2.2.1 z6.2.2.2.2.1 z6.2.2.2.2.2.1 true)))
/- (*farwriter/line.typist).is -/
def f27_fin (p3 : List UInt8) (p4 : Bool) (p5 : Nat → UInt8) (p6 : Nat → UInt8) (p7 : Nat → Int) (p8 : List (List UInt8)) (p9 : List UInt8) (p10 : Bool) : St := ⟨(up (up (up (up (fun _ => .un) 1000003 .un) 1000002 .un) 1000001 .un) 6 (.d (.bool p10))), (up (up (up (up (hB fun _ => 0) 3 ⟨1, some (.own 5 1 (eU8.cells p9))⟩) 2 ⟨1, some (.own 9 1 (eStr.cells p8))⟩) 1 ⟨1, some (.own 5 1 (eU8.cells p3))⟩) 0 ⟨0, some (.box (bx_Gtypist (Gtypist.mk ([]) p4 (GKeys.mk p5 p6) (GMask.mk p7) ([]) ([])) (.r (.msl 1 1 0 p3.length)) (.r (.msl 2 1 0 p8.length)) (.r (.msl 3 1 0 p9.length))))⟩)⟩
theorem f27_out (p3 : List UInt8) (p4 : Bool) (p5 : Nat → UInt8) (p6 : Nat → UInt8) (p7 : Nat → Int) (p8 : List (List UInt8)) (p9 : List UInt8) (p10 : Bool) : outR (f27_fin p3 p4 p5 p6 p7 p8 p9 p10) 4 c27.res = some ((.d (.bool p10)), [(.box (bx_Gtypist (Gtypist.mk ([]) p4 (GKeys.mk p5 p6) (GMask.mk p7) ([]) ([])) (.r (.msl 1 0 0 p3.length)) (.r (.msl 2 0 0 p8.length)) (.r (.msl 3 0 0 p9.length)))), (.own 5 1 (eU8.cells p3)), (.own 9 1 (eStr.cells p8)), (.own 5 1 (eU8.cells p9))]) := by
  kernel_rfl
def f27_Q (r : (List UInt8) × Bool × (Nat → UInt8) × (Nat → UInt8) × (Nat → Int) × (List (List UInt8)) × (List UInt8) × Bool) (e : PX) (st : St) : Prop := DoneF c27 4 ((.d (.bool r.2.2.2.2.2.2.2)), [(.box (bx_Gtypist (Gtypist.mk ([]) r.2.1 (GKeys.mk r.2.2.1 r.2.2.2.1) (GMask.mk r.2.2.2.2.1) ([]) ([])) (.r (.msl 1 0 0 r.1.length)) (.r (.msl 2 0 0 r.2.2.2.2.2.1.length)) (.r (.msl 3 0 0 r.2.2.2.2.2.2.1.length)))), (.own 5 1 (eU8.cells r.1)), (.own 9 1 (eStr.cells r.2.2.2.2.2.1)), (.own 5 1 (eU8.cells r.2.2.2.2.2.2.1))]) e st
noncomputable def f27 (a1 : UInt8) (a2 : Int) (a3 : Bool) (a4 : Nat → UInt8) (a5 : Nat → UInt8) (a6 : Nat → Int) (a7 : List UInt8) (a8 : List (List UInt8)) (a9 : List UInt8) : Option ((List UInt8) × Bool × (Nat → UInt8) × (Nat → UInt8) × (Nat → Int) × (List (List UInt8)) × (List UInt8) × Bool) := ((inR a2 19).bind fun m3 => (bif (!decide (((a4 m3).toNat : Int) = 0)) then ((inR a2 19).bind fun m4 => (bif (decide (((a5 m4).toNat : Int) = (a1.toNat : Int))) then (some (a7, a3, a4, a5, a6, a8, a9, true)) else (some (a7, a3, a4, a5, a6, a8, a9, false)))) else (some (a7, a3, a4, a5, a6, a8, a9, false))))
theorem f27_ok (d : Nat) (hd : 1 ≤ d) (a1 : UInt8) (a2 : Int) (a3 : Bool) (a4 : Nat → UInt8) (a5 : Nat → UInt8) (a6 : Nat → Int) (a7 : List UInt8) (a8 : List (List UInt8)) (a9 : List UInt8) (r : (List UInt8) × Bool × (Nat → UInt8) × (Nat → UInt8) × (Nat → Int) × (List (List UInt8)) × (List UInt8) × Bool) (hS : f27 a1 a2 a3 a4 a5 a6 a7 a8 a9 = some r) : lev codes baseL d 27 [(.r (.ptr 0 0 0)), (.d (.int .u8 (a1.toNat : Int))), (.d (.int .i64 a2))] [(.box (bx_Gtypist (Gtypist.mk ([]) a3 (GKeys.mk a4 a5) (GMask.mk a6) ([]) ([])) (.r (.msl 1 0 0 a7.length)) (.r (.msl 2 0 0 a8.length)) (.r (.msl 3 0 0 a9.length)))), (.own 5 1 (eU8.cells a7)), (.own 9 1 (eStr.cells a8)), (.own 5 1 (eU8.cells a9))] = some ((.d (.bool r.2.2.2.2.2.2.2)), [(.box (bx_Gtypist (Gtypist.mk ([]) r.2.1 (GKeys.mk r.2.2.1 r.2.2.2.1) (GMask.mk r.2.2.2.2.1) ([]) ([])) (.r (.msl 1 0 0 r.1.length)) (.r (.msl 2 0 0 r.2.2.2.2.2.1.length)) (.r (.msl 3 0 0 r.2.2.2.2.2.2.1.length)))), (.own 5 1 (eU8.cells r.1)), (.own 9 1 (eStr.cells r.2.2.2.2.2.1)), (.own 5 1 (eU8.cells r.2.2.2.2.2.2.1))]) := by
  refine lev_go codes27 rfl rfl (Nat.le_trans (Nat.le_of_ble_eq_true rfl) hd) fun Q hQ => ?_
  unfold f27 at hS
  show ZR _ Q c27_b [] _
  replace hQ : ∀ e st', f27_Q r e st' → Q e st' := hQ
  refine zrSeq ?_
  refine zrReg ?_
  refine zlRun (n := 1) (j := 1) rfl (by kernel_rfl) ?_
  refine zlEnd (by kernel_rfl) ?_
  refine zkSeq ?_
  refine zrSeq ?_
  refine zrReg ?_
  refine zlRun (n := 5) (j := 5) rfl (by kernel_rfl) ?_
  refine bindE hS (fun m3 hm3 hS => ?_)
  refine zlOp (d := some 12) (op := (.ixA 19 1 (.tmp 11) (.tmp 8))) (g := none) (v := (.r (.ptr 0 0 (2 + m3 * 1)))) (ups := []) (j := 6) rfl (by kernel_rfl) (by kernel_rfl) (ev_ixA (kk := .i64) (b := 0) (g := 0) (o := 2) (j := a2) (by kernel_rfl) (by kernel_rfl) hm3) ?_
  refine zlOp (d := some 13) (op := (.load .false 1 (.tmp 12))) (g := none) (v := (.d (.int .u8 ((a4 m3).toNat : Int)))) (ups := []) (j := 7) rfl (by kernel_rfl) (by kernel_rfl) (ev_loadA eU8 (b := 0) (g := 0) (o := 2 + m3 * 1) (f := a4) (nn := 19) (m := m3) (fo := 0) (pre := ((.r (.msl 1 0 0 a7.length)) :: ((.d (.bool a3)) :: []))) (post := ((eU8.row 19 a5) ++ (((eInt .u64).row 4 a6) ++ ((.r (.msl 2 0 0 a8.length)) :: ((.r (.msl 3 0 0 a9.length)) :: []))))) (by kernel_rfl) (by kernel_rfl) (by kernel_rfl) (inR_lt hm3) (by kernel_rfl) (by kernel_rfl) (by kernel_rfl)) ?_
  refine zlBool (d := 14) (op := (.cmpI .neq (.tmp 13) (.const (.int .u8 0)))) (g := none) (j := 8) (!decide (((a4 m3).toNat : Int) = 0)) rfl (by kernel_rfl) (by kernel_rfl) (by kernel_rfl) (fun hc => ?_) (fun hc => ?_)
  · replace hS := cond_t hc hS
    refine zlRun (n := 6) (j := 14) rfl (by kernel_rfl) ?_
    refine bindE hS (fun m4 hm4 hS => ?_)
    refine zlOp (d := some 21) (op := (.ixA 19 1 (.tmp 20) (.tmp 17))) (g := (some (15, true))) (v := (.r (.ptr 0 0 (21 + m4 * 1)))) (ups := []) (j := 15) rfl (by kernel_rfl) (by kernel_rfl) (ev_ixA (kk := .i64) (b := 0) (g := 0) (o := 21) (j := a2) (by kernel_rfl) (by kernel_rfl) hm4) ?_
    refine zlOp (d := some 22) (op := (.load .false 1 (.tmp 21))) (g := (some (15, true))) (v := (.d (.int .u8 ((a5 m4).toNat : Int)))) (ups := []) (j := 16) rfl (by kernel_rfl) (by kernel_rfl) (ev_loadA eU8 (b := 0) (g := 0) (o := 21 + m4 * 1) (f := a5) (nn := 19) (m := m4) (fo := 0) (pre := ((.r (.msl 1 0 0 a7.length)) :: ((.d (.bool a3)) :: ((eU8.row 19 a4) ++ [])))) (post := (((eInt .u64).row 4 a6) ++ ((.r (.msl 2 0 0 a8.length)) :: ((.r (.msl 3 0 0 a9.length)) :: [])))) (by kernel_rfl) (by kernel_rfl) (by kernel_rfl) (inR_lt hm4) (by kernel_rfl) (by kernel_rfl) (by kernel_rfl)) ?_
    refine zlRun (n := 1) (j := 17) rfl (by kernel_rfl) ?_
    refine zlBool (d := 24) (op := (.cmpI .eql (.tmp 22) (.tmp 23))) (g := (some (15, true))) (j := 18) (decide (((a5 m4).toNat : Int) = (a1.toNat : Int))) rfl (by kernel_rfl) (by kernel_rfl) (by kernel_rfl) (fun hc => ?_) (fun hc => ?_)
    · replace hS := cond_t hc hS
      refine zlRun (n := 2) (j := 20) rfl (by kernel_rfl) ?_
      refine zlEnd (by kernel_rfl) ?_
      refine zkSeq ?_
      refine zrRet ?_
      refine zkNil ?_
      exact endQ hS hQ (fRet (by kernel_rfl) ((congrArg (fun s => outR s 4 c27.res) (by kernel_rfl : finSt c27.fin _ = f27_fin a7 a3 a4 a5 a6 a8 a9 true)).trans (f27_out a7 a3 a4 a5 a6 a8 a9 true)))
    · replace hS := cond_f hc hS
      refine zlRun (n := 2) (j := 20) rfl (by kernel_rfl) ?_
      refine zlEnd (by kernel_rfl) ?_
      refine zkSeq ?_
      refine zrRet ?_
      refine zkNil ?_
      exact endQ hS hQ (fRet (by kernel_rfl) ((congrArg (fun s => outR s 4 c27.res) (by kernel_rfl : finSt c27.fin _ = f27_fin a7 a3 a4 a5 a6 a8 a9 false)).trans (f27_out a7 a3 a4 a5 a6 a8 a9 false)))
  · replace hS := cond_f hc hS
    refine zlRun (n := 12) (j := 20) rfl (by kernel_rfl) ?_
    refine zlEnd (by kernel_rfl) ?_
    refine zkSeq ?_
    refine zrRet ?_
    refine zkNil ?_
    exact endQ hS hQ (fRet (by kernel_rfl) ((congrArg (fun s => outR s 4 c27.res) (by kernel_rfl : finSt c27.fin _ = f27_fin a7 a3 a4 a5 a6 a8 a9 false)).trans (f27_out a7 a3 a4 a5 a6 a8 a9 false)))
/- strings.Repeat -/
theorem libRepeat_ok (d : Nat) (hd : 0 ≤ d) (a1 : List UInt8) (a2 : Int) (r : List UInt8) (hS : libRepeat a1 a2 = some r) : lev codes baseL d 38 [(.d (.str a1)), (.d (.int .i64 a2))] [] = some ((.d (.str r)), []) := lib_callB (l := libs) rfl rfl rfl rfl rfl (osiS_ hS) d
/- (*farwriter/line.typist).erase -/
def f28_fin (p1 : List UInt8) (p2 : Bool) (p3 : Nat → UInt8) (p4 : Nat → UInt8) (p5 : Nat → Int) (p6 : List (List UInt8)) (p7 : List UInt8) : St := ⟨(up (up (up (fun _ => .un) 1000003 .un) 1000002 .un) 1000001 .un), (up (up (up (up (hB fun _ => 0) 3 ⟨1, some (.own 5 1 (eU8.cells p7))⟩) 2 ⟨1, some (.own 9 1 (eStr.cells p6))⟩) 1 ⟨1, some (.own 5 1 (eU8.cells p1))⟩) 0 ⟨0, some (.box (bx_Gtypist (Gtypist.mk ([]) p2 (GKeys.mk p3 p4) (GMask.mk p5) ([]) ([])) (.r (.msl 1 1 0 p1.length)) (.r (.msl 2 1 0 p6.length)) (.r (.msl 3 1 0 p7.length))))⟩)⟩
theorem f28_out (p1 : List UInt8) (p2 : Bool) (p3 : Nat → UInt8) (p4 : Nat → UInt8) (p5 : Nat → Int) (p6 : List (List UInt8)) (p7 : List UInt8) : outR (f28_fin p1 p2 p3 p4 p5 p6 p7) 4 c28.res = some ((.tup []), [(.box (bx_Gtypist (Gtypist.mk ([]) p2 (GKeys.mk p3 p4) (GMask.mk p5) ([]) ([])) (.r (.msl 1 0 0 p1.length)) (.r (.msl 2 0 0 p6.length)) (.r (.msl 3 0 0 p7.length)))), (.own 5 1 (eU8.cells p1)), (.own 9 1 (eStr.cells p6)), (.own 5 1 (eU8.cells p7))]) := by
  kernel_rfl
def f28_Q (r : (List UInt8) × Bool × (Nat → UInt8) × (Nat → UInt8) × (Nat → Int) × (List (List UInt8)) × (List UInt8)) (e : PX) (st : St) : Prop := DoneF c28 4 ((.tup []), [(.box (bx_Gtypist (Gtypist.mk ([]) r.2.1 (GKeys.mk r.2.2.1 r.2.2.2.1) (GMask.mk r.2.2.2.2.1) ([]) ([])) (.r (.msl 1 0 0 r.1.length)) (.r (.msl 2 0 0 r.2.2.2.2.2.1.length)) (.r (.msl 3 0 0 r.2.2.2.2.2.2.length)))), (.own 5 1 (eU8.cells r.1)), (.own 9 1 (eStr.cells r.2.2.2.2.2.1)), (.own 5 1 (eU8.cells r.2.2.2.2.2.2))]) e st
noncomputable def f28 (a1 : Int) (a2 : Bool) (a3 : Nat → UInt8) (a4 : Nat → UInt8) (a5 : Nat → Int) (a6 : List UInt8) (a7 : List (List UInt8)) (a8 : List UInt8) : Option ((List UInt8) × Bool × (Nat → UInt8) × (Nat → UInt8) × (Nat → Int) × (List (List UInt8)) × (List UInt8)) := ((sub? a6 0 (IntKind.i64.wrap ((a6.length : Int) - a1))).bind fun z4 => ((libRepeat [8, 32, 8] a1).bind fun z5 => ((app? 1 a8 z5).bind fun z6 => (some (z4, a2, a3, a4, a5, a7, z6)))))
theorem f28_ok (d : Nat) (hd : 1 ≤ d) (a1 : Int) (a2 : Bool) (a3 : Nat → UInt8) (a4 : Nat → UInt8) (a5 : Nat → Int) (a6 : List UInt8) (a7 : List (List UInt8)) (a8 : List UInt8) (r : (List UInt8) × Bool × (Nat → UInt8) × (Nat → UInt8) × (Nat → Int) × (List (List UInt8)) × (List UInt8)) (hS : f28 a1 a2 a3 a4 a5 a6 a7 a8 = some r) : lev codes baseL d 28 [(.r (.ptr 0 0 0)), (.d (.int .i64 a1))] [(.box (bx_Gtypist (Gtypist.mk ([]) a2 (GKeys.mk a3 a4) (GMask.mk a5) ([]) ([])) (.r (.msl 1 0 0 a6.length)) (.r (.msl 2 0 0 a7.length)) (.r (.msl 3 0 0 a8.length)))), (.own 5 1 (eU8.cells a6)), (.own 9 1 (eStr.cells a7)), (.own 5 1 (eU8.cells a8))] = some ((.tup []), [(.box (bx_Gtypist (Gtypist.mk ([]) r.2.1 (GKeys.mk r.2.2.1 r.2.2.2.1) (GMask.mk r.2.2.2.2.1) ([]) ([])) (.r (.msl 1 0 0 r.1.length)) (.r (.msl 2 0 0 r.2.2.2.2.2.1.length)) (.r (.msl 3 0 0 r.2.2.2.2.2.2.length)))), (.own 5 1 (eU8.cells r.1)), (.own 9 1 (eStr.cells r.2.2.2.2.2.1)), (.own 5 1 (eU8.cells r.2.2.2.2.2.2))]) := by
  refine lev_go codes28 rfl rfl (Nat.le_trans (Nat.le_of_ble_eq_true rfl) hd) fun Q hQ => ?_
  unfold f28 at hS
  show ZR _ Q c28_b [] _
  replace hQ : ∀ e st', f28_Q r e st' → Q e st' := hQ
  refine zrSeq ?_
  refine zrRegD ?_
  refine zdRun (n := 12) (j := 12) (ts := [[], [], [], [], [(0, false)], [], [], [], [(0, false)], [(1, false)], [], []]) (acc' := [[], [], [], [], [(0, false)], [], [], [], [(0, false)], [(1, false)], [], []]) rfl (by kernel_rfl) (by kernel_rfl) (by kernel_rfl) ?_
  refine bindE hS (fun z4 hz4 hS => ?_)
  refine zdOp (d := some 16) (op := (.slC 5 1 (.tmp 8) .none (.some (.tmp 15)))) (g := none) (v := (.r (.msl 1 1 0 z4.length))) (ups := [(1, ⟨1, some (.own 5 1 (eU8.cells z4))⟩)]) (j := 13) (t1 := [(1, true)]) (acc' := [[], [], [], [], [(0, false)], [], [], [], [(0, false)], [(1, false)], [], [], [(1, true)]]) (by kernel_rfl) (by kernel_rfl) rfl (by kernel_rfl) (by kernel_rfl) (ev_slC eU8 (b := 1) (g := 0) (n := a6.length) (c := (IntKind.i64.wrap ((a6.length : Int) - a1))) (xs := a6) (by kernel_rfl) rfl (by kernel_rfl) rfl (bnd_n 0) (bnd_s _ (kk := .i64) (j := (IntKind.i64.wrap ((a6.length : Int) - a1))) (by kernel_rfl)) hz4) ?_
  refine zdRun (n := 3) (j := 16) (ts := [[], [], [(0, true)]]) (acc' := [[], [], [], [], [(0, false)], [], [], [], [(0, false)], [(1, false)], [], [], [(1, true)], [], [], [(0, true)]]) rfl (by kernel_rfl) (by kernel_rfl) (by kernel_rfl) ?_
  refine zdEnd (by kernel_rfl) (by kernel_rfl) ?_
  refine zkSeq ?_
  refine zrRegD ?_
  refine zdRun (n := 6) (j := 6) (ts := [[], [], [], [], [(0, false)], []]) (acc' := [[], [], [], [], [(0, false)], []]) rfl (by kernel_rfl) (by kernel_rfl) (by kernel_rfl) ?_
  refine bindE hS (fun z5 hz5 hS => ?_)
  refine zdOp (d := some 25) (op := (.call 38 [(.const (.string ⟨#[8, 32, 8]⟩)), (.tmp 24)])) (g := none) (j := 7) (t1 := [(208, true), (209, true), (210, true), (211, true), (212, true), (213, true), (214, true), (215, true)]) (acc' := [[], [], [], [], [(0, false)], [], [(208, true), (209, true), (210, true), (211, true), (212, true), (213, true), (214, true), (215, true)]]) (by kernel_rfl) (by kernel_rfl) rfl (by kernel_rfl) (by kernel_rfl) (ev_callA (by kernel_rfl) (libRepeat_ok (d - 1) (dpt hd rfl) [8, 32, 8] a1 z5 hz5) (by kernel_rfl) (by kernel_rfl)) ?_
  refine bindE hS (fun z6 hz6 hS => ?_)
  refine zdOp (d := some 26) (op := (.app 5 1 1 (.tmp 23) (.tmp 25))) (g := none) (v := (.r (.msl 3 1 0 z6.length))) (ups := [(3, ⟨1, some (.own 5 1 (eU8.cells z6))⟩)]) (j := 8) (t1 := [(216, true), (3, true)]) (acc' := [[], [], [], [], [(0, false)], [], [(208, true), (209, true), (210, true), (211, true), (212, true), (213, true), (214, true), (215, true)], [(216, true), (3, true)]]) (by kernel_rfl) (by kernel_rfl) rfl (by kernel_rfl) (by kernel_rfl) (ev_appS (b := 3) (g := 0) (n := a8.length) (xs := a8) (ss := z5) (by kernel_rfl) (by kernel_rfl) rfl (by kernel_rfl) hz6) ?_
  refine zdRun (n := 3) (j := 11) (ts := [[], [], [(0, true)]]) (acc' := [[], [], [], [], [(0, false)], [], [(208, true), (209, true), (210, true), (211, true), (212, true), (213, true), (214, true), (215, true)], [(216, true), (3, true)], [], [], [(0, true)]]) rfl (by kernel_rfl) (by kernel_rfl) (by kernel_rfl) ?_
  refine zdEnd (by kernel_rfl) (by kernel_rfl) ?_
  refine zkNil ?_
  exact endQ hS hQ (fNorm (by kernel_rfl) ((congrArg (fun s => outR s 4 c28.res) (by kernel_rfl : finSt c28.fin _ = f28_fin z4 a2 a3 a4 a5 a7 z6)).trans (f28_out z4 a2 a3 a4 a5 a7 z6)))
/- strings.TrimRight -/
theorem libTrimRight_ok (d : Nat) (hd : 0 ≤ d) (a1 : List UInt8) (a2 : List UInt8) (r : List UInt8) (hS : libTrimRight a1 a2 = some r) : lev codes baseL d 29 [(.d (.str a1)), (.d (.str a2))] [] = some ((.d (.str r)), []) := lib_callB (l := libs) rfl rfl rfl rfl rfl (ossS_ hS) d
/- strings.LastIndexByte -/
theorem libLastIndexByte_ok (d : Nat) (hd : 0 ≤ d) (a1 : List UInt8) (a2 : UInt8) (r : Int) (hS : libLastIndexByte a1 a2 = some r) : lev codes baseL d 30 [(.d (.str a1)), (.d (.int .u8 (a2.toNat : Int)))] [] = some ((.d (.int .i64 r)), []) := lib_callB (l := libs) rfl rfl rfl rfl rfl (osuI_ hS) d
/- farwriter/mask.Has -/
def f31_fin (p2 : Bool) : St := ⟨(up (fun _ => .un) 4 (.d (.bool p2))), (hB fun _ => 0)⟩
theorem f31_out (p2 : Bool) : outR (f31_fin p2) 0 c31.res = some ((.d (.bool p2)), []) := by
  kernel_rfl
def f31_Q (r : Bool) (e : PX) (st : St) : Prop := DoneF c31 0 ((.d (.bool r)), []) e st
noncomputable def f31 (a1 : GMask) (a2 : UInt8) : Option (Bool) := ((inR ((a2 / (64 : UInt8)).toNat : Int) 4).bind fun m3 => ((chk (decide (0 ≤ ((a2 % (64 : UInt8)).toNat : Int)))).bind fun z4 => (bif (decide ((bitI .and .u64 (Int.fdiv (a1.Bits m3) (2 ^ (min (((a2 % (64 : UInt8)).toNat : Int) : Int).toNat 64))) 1) = 1)) then (some true) else (some false))))
theorem f31_ok (d : Nat) (hd : 1 ≤ d) (a1 : GMask) (a2 : UInt8) (r : Bool) (hS : f31 a1 a2 = some r) : lev codes baseL d 31 [(.agg (((eInt .u64).row 4 a1.Bits) ++ [])), (.d (.int .u8 (a2.toNat : Int)))] [] = some ((.d (.bool r)), []) := by
  refine lev_go codes31 rfl rfl (Nat.le_trans (Nat.le_of_ble_eq_true rfl) hd) fun Q hQ => ?_
  unfold f31 at hS
  show ZR _ Q c31_b [] _
  replace hQ : ∀ e st', f31_Q r e st' → Q e st' := hQ
  refine zrSeq ?_
  refine zrReg ?_
  refine zlRun (n := 2) (j := 2) rfl (by kernel_rfl) ?_
  refine zlEnd (by kernel_rfl) ?_
  refine zkSeq ?_
  refine zrSeq ?_
  refine zrReg ?_
  refine zlRun (n := 1) (j := 1) rfl (by kernel_rfl) ?_
  refine zlOp (d := some 6) (op := (.arI .quo (.tmp 5) (.const (.int .u8 64)))) (g := none) (v := (.d (.int .u8 ((a2 / (64 : UInt8)).toNat : Int)))) (ups := []) (j := 2) rfl (by kernel_rfl) (by kernel_rfl) (ev_arI (kk := .u8) (a := (a2.toNat : Int)) (c := ((64 : UInt8).toNat : Int)) (by kernel_rfl) (by kernel_rfl) (ar_quo8 a2 (64 : UInt8) (by kernel_rfl))) ?_
  refine zlRun (n := 1) (j := 3) rfl (by kernel_rfl) ?_
  refine bindE hS (fun m3 hm3 hS => ?_)
  refine zlOp (d := some 8) (op := (.ixA 4 1 (.tmp 7) (.tmp 6))) (g := none) (v := (.r (.ptr 24 1 (0 + m3 * 1)))) (ups := []) (j := 4) rfl (by kernel_rfl) (by kernel_rfl) (ev_ixA (kk := .u8) (b := 24) (g := 1) (o := 0) (j := ((a2 / (64 : UInt8)).toNat : Int)) (by kernel_rfl) (by kernel_rfl) hm3) ?_
  refine zlOp (d := some 9) (op := (.load .false 1 (.tmp 8))) (g := none) (v := (.d (.int .u64 (a1.Bits m3)))) (ups := []) (j := 5) rfl (by kernel_rfl) (by kernel_rfl) (ev_loadA (eInt .u64) (b := 24) (g := 1) (o := 0 + m3 * 1) (f := a1.Bits) (nn := 4) (m := m3) (fo := 0) (pre := []) (post := []) (by kernel_rfl) (by kernel_rfl) (by kernel_rfl) (inR_lt hm3) (by kernel_rfl) (by kernel_rfl) (by kernel_rfl)) ?_
  refine zlRun (n := 1) (j := 6) rfl (by kernel_rfl) ?_
  refine zlOp (d := some 11) (op := (.arI .rem (.tmp 10) (.const (.int .u8 64)))) (g := none) (v := (.d (.int .u8 ((a2 % (64 : UInt8)).toNat : Int)))) (ups := []) (j := 7) rfl (by kernel_rfl) (by kernel_rfl) (ev_arI (kk := .u8) (a := (a2.toNat : Int)) (c := ((64 : UInt8).toNat : Int)) (by kernel_rfl) (by kernel_rfl) (ar_rem8 a2 (64 : UInt8) (by kernel_rfl))) ?_
  refine bindE hS (fun z4 hz4 hS => ?_)
  refine zlOp (d := some 12) (op := (.sh .shr (.tmp 9) (.tmp 11))) (g := none) (v := (.d (.int .u64 (Int.fdiv (a1.Bits m3) (2 ^ (min (((a2 % (64 : UInt8)).toNat : Int) : Int).toNat 64)))))) (ups := []) (j := 8) rfl (by kernel_rfl) (by kernel_rfl) (ev_sh (kk := .u64) (k2 := .u8) (a := (a1.Bits m3)) (c := ((a2 % (64 : UInt8)).toNat : Int)) (by kernel_rfl) (by kernel_rfl) (sh_r hz4)) ?_
  refine zlRun (n := 1) (j := 9) rfl (by kernel_rfl) ?_
  refine zlBool (d := 14) (op := (.cmpI .eql (.tmp 13) (.const (.int .u64 1)))) (g := none) (j := 10) (decide ((bitI .and .u64 (Int.fdiv (a1.Bits m3) (2 ^ (min (((a2 % (64 : UInt8)).toNat : Int) : Int).toNat 64))) 1) = 1)) rfl (by kernel_rfl) (by kernel_rfl) (by kernel_rfl) (fun hc => ?_) (fun hc => ?_)
  · replace hS := cond_t hc hS
    refine zlRun (n := 1) (j := 11) rfl (by kernel_rfl) ?_
    refine zlEnd (by kernel_rfl) ?_
    refine zkSeq ?_
    refine zrRet ?_
    refine zkNil ?_
    exact endQ hS hQ (fRet (by kernel_rfl) ((congrArg (fun s => outR s 0 c31.res) (by kernel_rfl : finSt c31.fin _ = f31_fin true)).trans (f31_out true)))
  · replace hS := cond_f hc hS
    refine zlRun (n := 1) (j := 11) rfl (by kernel_rfl) ?_
    refine zlEnd (by kernel_rfl) ?_
    refine zkSeq ?_
    refine zrRet ?_
    refine zkNil ?_
    exact endQ hS hQ (fRet (by kernel_rfl) ((congrArg (fun s => outR s 0 c31.res) (by kernel_rfl : finSt c31.fin _ = f31_fin false)).trans (f31_out false)))
/- (*farwriter/line.typist).take -/
def f20_fin (p30 : List UInt8) (p31 : Bool) (p32 : Nat → UInt8) (p33 : Nat → UInt8) (p34 : Nat → Int) (p35 : List (List UInt8)) (p36 : List UInt8) : St := ⟨(up (up (up (fun _ => .un) 1000003 .un) 1000002 .un) 1000001 .un), (up (up (up (up (hB fun _ => 0) 3 ⟨1, some (.own 5 1 (eU8.cells p36))⟩) 2 ⟨1, some (.own 9 1 (eStr.cells p35))⟩) 1 ⟨1, some (.own 5 1 (eU8.cells p30))⟩) 0 ⟨0, some (.box (bx_Gtypist (Gtypist.mk ([]) p31 (GKeys.mk p32 p33) (GMask.mk p34) ([]) ([])) (.r (.msl 1 1 0 p30.length)) (.r (.msl 2 1 0 p35.length)) (.r (.msl 3 1 0 p36.length))))⟩)⟩
theorem f20_out (p30 : List UInt8) (p31 : Bool) (p32 : Nat → UInt8) (p33 : Nat → UInt8) (p34 : Nat → Int) (p35 : List (List UInt8)) (p36 : List UInt8) : outR (f20_fin p30 p31 p32 p33 p34 p35 p36) 4 c20.res = some ((.tup []), [(.box (bx_Gtypist (Gtypist.mk ([]) p31 (GKeys.mk p32 p33) (GMask.mk p34) ([]) ([])) (.r (.msl 1 0 0 p30.length)) (.r (.msl 2 0 0 p35.length)) (.r (.msl 3 0 0 p36.length)))), (.own 5 1 (eU8.cells p30)), (.own 9 1 (eStr.cells p35)), (.own 5 1 (eU8.cells p36))]) := by
  kernel_rfl
def f20_Q (r : (List UInt8) × Bool × (Nat → UInt8) × (Nat → UInt8) × (Nat → Int) × (List (List UInt8)) × (List UInt8)) (e : PX) (st : St) : Prop := DoneF c20 4 ((.tup []), [(.box (bx_Gtypist (Gtypist.mk ([]) r.2.1 (GKeys.mk r.2.2.1 r.2.2.2.1) (GMask.mk r.2.2.2.2.1) ([]) ([])) (.r (.msl 1 0 0 r.1.length)) (.r (.msl 2 0 0 r.2.2.2.2.2.1.length)) (.r (.msl 3 0 0 r.2.2.2.2.2.2.length)))), (.own 5 1 (eU8.cells r.1)), (.own 9 1 (eStr.cells r.2.2.2.2.2.1)), (.own 5 1 (eU8.cells r.2.2.2.2.2.2))]) e st
def f20_j0_J (a1 : UInt8) (a2 : Bool) (a3 : Nat → UInt8) (a4 : Nat → UInt8) (a5 : Nat → Int) (a6 : List UInt8) (a7 : List (List UInt8)) (a8 : List UInt8) (p66 : List UInt8) (p67 : Bool) (p68 : Nat → UInt8) (p69 : Nat → UInt8) (p70 : Nat → Int) (p71 : List (List UInt8)) (p72 : List UInt8) (p73 : Bool) : St := ⟨(up (up (up (up (up (up (fun _ => .un) 1000003 .un) 1000002 .un) 1000001 .un) 88 (.d (.bool p73))) 1 (.d (.int .u8 (a1.toNat : Int)))) 0 (.r (.ptr 0 0 0))), (up (up (up (up (hB fun _ => 0) 3 ⟨1, some (.own 5 1 (eU8.cells p72))⟩) 2 ⟨1, some (.own 9 1 (eStr.cells p71))⟩) 1 ⟨1, some (.own 5 1 (eU8.cells p66))⟩) 0 ⟨0, some (.box (bx_Gtypist (Gtypist.mk ([]) p67 (GKeys.mk p68 p69) (GMask.mk p70) ([]) ([])) (.r (.msl 1 1 0 p66.length)) (.r (.msl 2 1 0 p71.length)) (.r (.msl 3 1 0 p72.length))))⟩)⟩
noncomputable def f20_j0 (a1 : UInt8) (a2 : Bool) (a3 : Nat → UInt8) (a4 : Nat → UInt8) (a5 : Nat → Int) (a6 : List UInt8) (a7 : List (List UInt8)) (a8 : List UInt8) (p66 : List UInt8) (p67 : Bool) (p68 : Nat → UInt8) (p69 : Nat → UInt8) (p70 : Nat → Int) (p71 : List (List UInt8)) (p72 : List UInt8) (p73 : Bool) : Option ((List UInt8) × Bool × (Nat → UInt8) × (Nat → UInt8) × (Nat → Int) × (List (List UInt8)) × (List UInt8)) := (bif p73 then ((f26 a1 p67 p68 p69 p70 p66 p71 p72).bind fun z36 => (bif (!z36.2.2.2.2.2.2.2) then ((f32 z36.2.1 z36.2.2.1 z36.2.2.2.1 z36.2.2.2.2.1 z36.1 z36.2.2.2.2.2.1 z36.2.2.2.2.2.2.1).bind fun z37 => (some ([], z37.1, z37.2.1, z37.2.2.1, z37.2.2.2.1, z37.2.2.2.2.1, z37.2.2.2.2.2.1))) else (some (z36.1, z36.2.1, z36.2.2.1, z36.2.2.2.1, z36.2.2.2.2.1, z36.2.2.2.2.2.1, z36.2.2.2.2.2.2.1)))) else ((f26 a1 p67 p68 p69 p70 p66 p71 p72).bind fun z38 => (some (z38.1, z38.2.1, z38.2.2.1, z38.2.2.2.1, z38.2.2.2.2.1, z38.2.2.2.2.2.1, z38.2.2.2.2.2.2.1))))
theorem f20_j0_ok {d : Nat} (hd : 3 ≤ d) (a1 : UInt8) (a2 : Bool) (a3 : Nat → UInt8) (a4 : Nat → UInt8) (a5 : Nat → Int) (a6 : List UInt8) (a7 : List (List UInt8)) (a8 : List UInt8) {r : (List UInt8) × Bool × (Nat → UInt8) × (Nat → UInt8) × (Nat → Int) × (List (List UInt8)) × (List UInt8)} {Q : PX → St → Prop} (hQ : ∀ e st', f20_Q r e st' → Q e st') (p66 : List UInt8) (p67 : Bool) (p68 : Nat → UInt8) (p69 : Nat → UInt8) (p70 : Nat → Int) (p71 : List (List UInt8)) (p72 : List UInt8) (p73 : Bool) (hS : f20_j0 a1 a2 a3 a4 a5 a6 a7 a8 p66 p67 p68 p69 p70 p71 p72 p73 = some r) {st : St} (he : keepSt [0, 1, 88, 1000001, 1000002, 1000003] [(0, .id 0), (1, .id 1), (2, .id 2), (3, .id 3)] [] st = f20_j0_J a1 a2 a3 a4 a5 a6 a7 a8 p66 p67 p68 p69 p70 p71 p72 p73) : ZR (lev codes baseL (d - 1)) Q c20_1 [.blk 0] st := by
  refine zrKeep he ?_
  unfold f20_j0 at hS
  refine zrSplit 88 p73 (by kernel_rfl) (fun hc => ?_) (fun hc => ?_)
  · replace hS := cond_t hc hS
    refine zrCondT (by kernel_rfl) ?_
    refine zrSeq ?_
    refine zrReg ?_
    refine zlRun (n := 2) (j := 2) rfl (by kernel_rfl) ?_
    refine bindE hS (fun z36 hz36 hS => ?_)
    refine zlOp (d := some 115) (op := (.callr 26 [(.tmp 113), (.tmp 114)])) (g := none) (j := 3) rfl (by kernel_rfl) (by kernel_rfl) (ev_callrA (ids := [0, 1, 2, 3]) (by kernel_rfl) (by kernel_rfl) (by kernel_rfl) (f26_ok (d - 1) (dpt hd rfl) a1 p67 p68 p69 p70 p66 p71 p72 z36 hz36) (by kernel_rfl)) ?_
    refine zlRun (n := 1) (j := 4) rfl (by kernel_rfl) ?_
    refine zlEnd (by kernel_rfl) ?_
    refine zkSeq ?_
    refine zrSplit 116 (!z36.2.2.2.2.2.2.2) (by kernel_rfl) (fun hc => ?_) (fun hc => ?_)
    · replace hS := cond_t hc hS
      refine zrCondT (by kernel_rfl) ?_
      refine zrReg ?_
      refine zlRun (n := 1) (j := 1) rfl (by kernel_rfl) ?_
      refine bindE hS (fun z37 hz37 hS => ?_)
      refine zlOp (d := some 118) (op := (.callr 32 [(.tmp 117)])) (g := none) (j := 2) rfl (by kernel_rfl) (by kernel_rfl) (ev_callrA (ids := [0, 1, 2, 3]) (by kernel_rfl) (by kernel_rfl) (by kernel_rfl) (f32_ok (d - 1) (dpt hd rfl) z36.2.1 z36.2.2.1 z36.2.2.2.1 z36.2.2.2.2.1 z36.1 z36.2.2.2.2.2.1 z36.2.2.2.2.2.2.1 z37 hz37) (by kernel_rfl)) ?_
      refine zlEnd (by kernel_rfl) ?_
      refine zkBlk ?_
      refine zkNil ?_
      exact endQ hS hQ (fNorm (by kernel_rfl) ((congrArg (fun s => outR s 4 c20.res) (by kernel_rfl : finSt c20.fin _ = f20_fin [] z37.1 z37.2.1 z37.2.2.1 z37.2.2.2.1 z37.2.2.2.2.1 z37.2.2.2.2.2.1)).trans (f20_out [] z37.1 z37.2.1 z37.2.2.1 z37.2.2.2.1 z37.2.2.2.2.1 z37.2.2.2.2.2.1)))
    · replace hS := cond_f hc hS
      refine zrCondF (by kernel_rfl) ?_
      refine zrSkip ?_
      refine zkBlk ?_
      refine zkNil ?_
      exact endQ hS hQ (fNorm (by kernel_rfl) ((congrArg (fun s => outR s 4 c20.res) (by kernel_rfl : finSt c20.fin _ = f20_fin z36.1 z36.2.1 z36.2.2.1 z36.2.2.2.1 z36.2.2.2.2.1 z36.2.2.2.2.2.1 z36.2.2.2.2.2.2.1)).trans (f20_out z36.1 z36.2.1 z36.2.2.1 z36.2.2.2.1 z36.2.2.2.2.1 z36.2.2.2.2.2.1 z36.2.2.2.2.2.2.1)))
  · replace hS := cond_f hc hS
    refine zrCondF (by kernel_rfl) ?_
    refine zrReg ?_
    refine zlRun (n := 2) (j := 2) rfl (by kernel_rfl) ?_
    refine bindE hS (fun z38 hz38 hS => ?_)
    refine zlOp (d := some 7) (op := (.callr 26 [(.tmp 5), (.tmp 6)])) (g := none) (j := 3) rfl (by kernel_rfl) (by kernel_rfl) (ev_callrA (ids := [0, 1, 2, 3]) (by kernel_rfl) (by kernel_rfl) (by kernel_rfl) (f26_ok (d - 1) (dpt hd rfl) a1 p67 p68 p69 p70 p66 p71 p72 z38 hz38) (by kernel_rfl)) ?_
    refine zlEnd (by kernel_rfl) ?_
    refine zkBlk ?_
    refine zkNil ?_
    exact endQ hS hQ (fNorm (by kernel_rfl) ((congrArg (fun s => outR s 4 c20.res) (by kernel_rfl : finSt c20.fin _ = f20_fin z38.1 z38.2.1 z38.2.2.1 z38.2.2.2.1 z38.2.2.2.2.1 z38.2.2.2.2.2.1 z38.2.2.2.2.2.2.1)).trans (f20_out z38.1 z38.2.1 z38.2.2.1 z38.2.2.2.1 z38.2.2.2.2.1 z38.2.2.2.2.2.1 z38.2.2.2.2.2.2.1)))
noncomputable def f20 (a1 : UInt8) (a2 : Bool) (a3 : Nat → UInt8) (a4 : Nat → UInt8) (a5 : Nat → Int) (a6 : List UInt8) (a7 : List (List UInt8)) (a8 : List UInt8) : Option ((List UInt8) × Bool × (Nat → UInt8) × (Nat → UInt8) × (Nat → Int) × (List (List UInt8)) × (List UInt8)) := (bif a2 then ((f26 a1 false a3 a4 a5 a6 a7 a8).bind fun z20 => (some (z20.1, z20.2.1, z20.2.2.1, z20.2.2.2.1, z20.2.2.2.2.1, z20.2.2.2.2.2.1, z20.2.2.2.2.2.2.1))) else ((f27 a1 14 a2 a3 a4 a5 a6 a7 a8).bind fun z21 => (bif z21.2.2.2.2.2.2.2 then (some (z21.1, true, z21.2.2.1, z21.2.2.2.1, z21.2.2.2.2.1, z21.2.2.2.2.2.1, z21.2.2.2.2.2.2.1)) else ((f27 a1 10 z21.2.1 z21.2.2.1 z21.2.2.2.1 z21.2.2.2.2.1 z21.1 z21.2.2.2.2.2.1 z21.2.2.2.2.2.2.1).bind fun z22 => (bif z22.2.2.2.2.2.2.2 then ((f28 (if (z22.1.length : Int) < 1 then (z22.1.length : Int) else 1) z22.2.1 z22.2.2.1 z22.2.2.2.1 z22.2.2.2.2.1 z22.1 z22.2.2.2.2.2.1 z22.2.2.2.2.2.2.1).bind fun z23 => (some (z23.1, z23.2.1, z23.2.2.1, z23.2.2.2.1, z23.2.2.2.2.1, z23.2.2.2.2.2.1, z23.2.2.2.2.2.2))) else ((f27 a1 12 z22.2.1 z22.2.2.1 z22.2.2.2.1 z22.2.2.2.2.1 z22.1 z22.2.2.2.2.2.1 z22.2.2.2.2.2.2.1).bind fun z24 => (bif z24.2.2.2.2.2.2.2 then ((libTrimRight z24.1 [32]).bind fun z25 => ((libLastIndexByte z25 (32 : UInt8)).bind fun z26 => ((f28 (IntKind.i64.wrap ((IntKind.i64.wrap ((z24.1.length : Int) - z26)) - 1)) z24.2.1 z24.2.2.1 z24.2.2.2.1 z24.2.2.2.2.1 z24.1 z24.2.2.2.2.2.1 z24.2.2.2.2.2.2.1).bind fun z27 => (some (z27.1, z27.2.1, z27.2.2.1, z27.2.2.2.1, z27.2.2.2.2.1, z27.2.2.2.2.2.1, z27.2.2.2.2.2.2))))) else ((f27 a1 11 z24.2.1 z24.2.2.1 z24.2.2.2.1 z24.2.2.2.2.1 z24.1 z24.2.2.2.2.2.1 z24.2.2.2.2.2.2.1).bind fun z28 => (bif z28.2.2.2.2.2.2.2 then ((f28 (z28.1.length : Int) z28.2.1 z28.2.2.1 z28.2.2.2.1 z28.2.2.2.2.1 z28.1 z28.2.2.2.2.2.1 z28.2.2.2.2.2.2.1).bind fun z29 => (some (z29.1, z29.2.1, z29.2.2.1, z29.2.2.2.1, z29.2.2.2.2.1, z29.2.2.2.2.2.1, z29.2.2.2.2.2.2))) else ((f27 a1 13 z28.2.1 z28.2.2.1 z28.2.2.2.1 z28.2.2.2.2.1 z28.1 z28.2.2.2.2.2.1 z28.2.2.2.2.2.2.1).bind fun z30 => (bif z30.2.2.2.2.2.2.2 then ((app? 1 z30.2.2.2.2.2.2.1 ([13, 10] : List UInt8)).bind fun z31 => ((app? 1 z31 z30.1).bind fun z32 => (some (z30.1, z30.2.1, z30.2.2.1, z30.2.2.2.1, z30.2.2.2.2.1, z30.2.2.2.2.2.1, z32)))) else (bif (decide ((a1.toNat : Int) = 13)) then (f20_j0 a1 a2 a3 a4 a5 a6 a7 a8 z30.1 z30.2.1 z30.2.2.1 z30.2.2.2.1 z30.2.2.2.2.1 z30.2.2.2.2.2.1 z30.2.2.2.2.2.2.1 true) else (bif (decide ((a1.toNat : Int) = 10)) then (f20_j0 a1 a2 a3 a4 a5 a6 a7 a8 z30.1 z30.2.1 z30.2.2.1 z30.2.2.2.1 z30.2.2.2.2.1 z30.2.2.2.2.2.1 z30.2.2.2.2.2.2.1 true) else ((f27 a1 17 z30.2.1 z30.2.2.1 z30.2.2.2.1 z30.2.2.2.2.1 z30.1 z30.2.2.2.2.2.1 z30.2.2.2.2.2.2.1).bind fun z39 => (bif z39.2.2.2.2.2.2.2 then (f20_j0 a1 a2 a3 a4 a5 a6 a7 a8 z39.1 z39.2.1 z39.2.2.1 z39.2.2.2.1 z39.2.2.2.2.1 z39.2.2.2.2.2.1 z39.2.2.2.2.2.2.1 true) else ((f27 a1 18 z39.2.1 z39.2.2.1 z39.2.2.2.1 z39.2.2.2.2.1 z39.1 z39.2.2.2.2.2.1 z39.2.2.2.2.2.2.1).bind fun z40 => (bif z40.2.2.2.2.2.2.2 then (f20_j0 a1 a2 a3 a4 a5 a6 a7 a8 z40.1 z40.2.1 z40.2.2.1 z40.2.2.2.1 z40.2.2.2.2.1 z40.2.2.2.2.2.1 z40.2.2.2.2.2.2.1 true) else ((f31 (GMask.mk z40.2.2.2.2.1) a1).bind fun z41 => (f20_j0 a1 a2 a3 a4 a5 a6 a7 a8 z40.1 z40.2.1 z40.2.2.1 z40.2.2.2.1 z40.2.2.2.2.1 z40.2.2.2.2.2.1 z40.2.2.2.2.2.2.1 z41)))))))))))))))))))
theorem f20_ok (d : Nat) (hd : 3 ≤ d) (a1 : UInt8) (a2 : Bool) (a3 : Nat → UInt8) (a4 : Nat → UInt8) (a5 : Nat → Int) (a6 : List UInt8) (a7 : List (List UInt8)) (a8 : List UInt8) (r : (List UInt8) × Bool × (Nat → UInt8) × (Nat → UInt8) × (Nat → Int) × (List (List UInt8)) × (List UInt8)) (hS : f20 a1 a2 a3 a4 a5 a6 a7 a8 = some r) : lev codes baseL d 20 [(.r (.ptr 0 0 0)), (.d (.int .u8 (a1.toNat : Int)))] [(.box (bx_Gtypist (Gtypist.mk ([]) a2 (GKeys.mk a3 a4) (GMask.mk a5) ([]) ([])) (.r (.msl 1 0 0 a6.length)) (.r (.msl 2 0 0 a7.length)) (.r (.msl 3 0 0 a8.length)))), (.own 5 1 (eU8.cells a6)), (.own 9 1 (eStr.cells a7)), (.own 5 1 (eU8.cells a8))] = some ((.tup []), [(.box (bx_Gtypist (Gtypist.mk ([]) r.2.1 (GKeys.mk r.2.2.1 r.2.2.2.1) (GMask.mk r.2.2.2.2.1) ([]) ([])) (.r (.msl 1 0 0 r.1.length)) (.r (.msl 2 0 0 r.2.2.2.2.2.1.length)) (.r (.msl 3 0 0 r.2.2.2.2.2.2.length)))), (.own 5 1 (eU8.cells r.1)), (.own 9 1 (eStr.cells r.2.2.2.2.2.1)), (.own 5 1 (eU8.cells r.2.2.2.2.2.2))]) := by
  refine lev_go codes20 rfl rfl (Nat.le_trans (Nat.le_of_ble_eq_true rfl) hd) fun Q hQ => ?_
  unfold f20 at hS
  show ZR _ Q c20_b [] _
  replace hQ : ∀ e st', f20_Q r e st' → Q e st' := hQ
  refine zrBlk ?_
  refine zrSeq ?_
  refine zrReg ?_
  refine zlRun (n := 5) (j := 5) rfl (by kernel_rfl) ?_
  refine zlEnd (by kernel_rfl) ?_
  refine zkSeq ?_
  refine zrSplit 8 a2 (by kernel_rfl) (fun hc => ?_) (fun hc => ?_)
  · replace hS := cond_t hc hS
    refine zrCondT (by kernel_rfl) ?_
    refine zrSeq ?_
    refine zrReg ?_
    refine zlRun (n := 4) (j := 4) rfl (by kernel_rfl) ?_
    refine zlEnd (by kernel_rfl) ?_
    refine zkSeq ?_
    refine zrReg ?_
    refine zlRun (n := 2) (j := 2) rfl (by kernel_rfl) ?_
    refine bindE hS (fun z20 hz20 hS => ?_)
    refine zlOp (d := some 18) (op := (.callr 26 [(.tmp 16), (.tmp 17)])) (g := none) (j := 3) rfl (by kernel_rfl) (by kernel_rfl) (ev_callrA (ids := [0, 1, 2, 3]) (by kernel_rfl) (by kernel_rfl) (by kernel_rfl) (f26_ok (d - 1) (dpt hd rfl) a1 false a3 a4 a5 a6 a7 a8 z20 hz20) (by kernel_rfl)) ?_
    refine zlEnd (by kernel_rfl) ?_
    refine zkBlk ?_
    refine zkNil ?_
    exact endQ hS hQ (fNorm (by kernel_rfl) ((congrArg (fun s => outR s 4 c20.res) (by kernel_rfl : finSt c20.fin _ = f20_fin z20.1 z20.2.1 z20.2.2.1 z20.2.2.2.1 z20.2.2.2.2.1 z20.2.2.2.2.2.1 z20.2.2.2.2.2.2.1)).trans (f20_out z20.1 z20.2.1 z20.2.2.1 z20.2.2.2.1 z20.2.2.2.2.1 z20.2.2.2.2.2.1 z20.2.2.2.2.2.2.1)))
  · replace hS := cond_f hc hS
    refine zrCondF (by kernel_rfl) ?_
    refine zrSeq ?_
    refine zrReg ?_
    refine zlRun (n := 2) (j := 2) rfl (by kernel_rfl) ?_
    refine bindE hS (fun z21 hz21 hS => ?_)
    refine zlOp (d := some 22) (op := (.callr 27 [(.tmp 20), (.tmp 21), (.const (.int .i64 14))])) (g := none) (j := 3) rfl (by kernel_rfl) (by kernel_rfl) (ev_callrA (ids := [0, 1, 2, 3]) (by kernel_rfl) (by kernel_rfl) (by kernel_rfl) (f27_ok (d - 1) (dpt hd rfl) a1 14 a2 a3 a4 a5 a6 a7 a8 z21 hz21) (by kernel_rfl)) ?_
    refine zlRun (n := 1) (j := 4) rfl (by kernel_rfl) ?_
    refine zlEnd (by kernel_rfl) ?_
    refine zkSeq ?_
    refine zrSplit 19 z21.2.2.2.2.2.2.2 (by kernel_rfl) (fun hc => ?_) (fun hc => ?_)
    · replace hS := cond_t hc hS
      refine zrCondT (by kernel_rfl) ?_
      refine zrReg ?_
      refine zlRun (n := 4) (j := 4) rfl (by kernel_rfl) ?_
      refine zlEnd (by kernel_rfl) ?_
      refine zkBlk ?_
      refine zkNil ?_
      exact endQ hS hQ (fNorm (by kernel_rfl) ((congrArg (fun s => outR s 4 c20.res) (by kernel_rfl : finSt c20.fin _ = f20_fin z21.1 true z21.2.2.1 z21.2.2.2.1 z21.2.2.2.2.1 z21.2.2.2.2.2.1 z21.2.2.2.2.2.2.1)).trans (f20_out z21.1 true z21.2.2.1 z21.2.2.2.1 z21.2.2.2.2.1 z21.2.2.2.2.2.1 z21.2.2.2.2.2.2.1)))
    · replace hS := cond_f hc hS
      refine zrCondF (by kernel_rfl) ?_
      refine zrSeq ?_
      refine zrReg ?_
      refine zlRun (n := 2) (j := 2) rfl (by kernel_rfl) ?_
      refine bindE hS (fun z22 hz22 hS => ?_)
      refine zlOp (d := some 29) (op := (.callr 27 [(.tmp 27), (.tmp 28), (.const (.int .i64 10))])) (g := none) (j := 3) rfl (by kernel_rfl) (by kernel_rfl) (ev_callrA (ids := [0, 1, 2, 3]) (by kernel_rfl) (by kernel_rfl) (by kernel_rfl) (f27_ok (d - 1) (dpt hd rfl) a1 10 z21.2.1 z21.2.2.1 z21.2.2.2.1 z21.2.2.2.2.1 z21.1 z21.2.2.2.2.2.1 z21.2.2.2.2.2.2.1 z22 hz22) (by kernel_rfl)) ?_
      refine zlRun (n := 1) (j := 4) rfl (by kernel_rfl) ?_
      refine zlEnd (by kernel_rfl) ?_
      refine zkSeq ?_
      refine zrSplit 26 z22.2.2.2.2.2.2.2 (by kernel_rfl) (fun hc => ?_) (fun hc => ?_)
      · replace hS := cond_t hc hS
        refine zrCondT (by kernel_rfl) ?_
        refine zrReg ?_
        refine zlRun (n := 7) (j := 7) rfl (by kernel_rfl) ?_
        refine bindE hS (fun z23 hz23 hS => ?_)
        refine zlOp (d := some 37) (op := (.callr 28 [(.tmp 30), (.tmp 36)])) (g := none) (j := 8) rfl (by kernel_rfl) (by kernel_rfl) (ev_callrA (ids := [0, 1, 2, 3]) (by kernel_rfl) (by kernel_rfl) (by kernel_rfl) (f28_ok (d - 1) (dpt hd rfl) (if (z22.1.length : Int) < 1 then (z22.1.length : Int) else 1) z22.2.1 z22.2.2.1 z22.2.2.2.1 z22.2.2.2.2.1 z22.1 z22.2.2.2.2.2.1 z22.2.2.2.2.2.2.1 z23 hz23) (by kernel_rfl)) ?_
        refine zlEnd (by kernel_rfl) ?_
        refine zkBlk ?_
        refine zkNil ?_
        exact endQ hS hQ (fNorm (by kernel_rfl) ((congrArg (fun s => outR s 4 c20.res) (by kernel_rfl : finSt c20.fin _ = f20_fin z23.1 z23.2.1 z23.2.2.1 z23.2.2.2.1 z23.2.2.2.2.1 z23.2.2.2.2.2.1 z23.2.2.2.2.2.2)).trans (f20_out z23.1 z23.2.1 z23.2.2.1 z23.2.2.2.1 z23.2.2.2.2.1 z23.2.2.2.2.2.1 z23.2.2.2.2.2.2)))
      · replace hS := cond_f hc hS
        refine zrCondF (by kernel_rfl) ?_
        refine zrSeq ?_
        refine zrReg ?_
        refine zlRun (n := 2) (j := 2) rfl (by kernel_rfl) ?_
        refine bindE hS (fun z24 hz24 hS => ?_)
        refine zlOp (d := some 41) (op := (.callr 27 [(.tmp 39), (.tmp 40), (.const (.int .i64 12))])) (g := none) (j := 3) rfl (by kernel_rfl) (by kernel_rfl) (ev_callrA (ids := [0, 1, 2, 3]) (by kernel_rfl) (by kernel_rfl) (by kernel_rfl) (f27_ok (d - 1) (dpt hd rfl) a1 12 z22.2.1 z22.2.2.1 z22.2.2.2.1 z22.2.2.2.2.1 z22.1 z22.2.2.2.2.2.1 z22.2.2.2.2.2.2.1 z24 hz24) (by kernel_rfl)) ?_
        refine zlRun (n := 1) (j := 4) rfl (by kernel_rfl) ?_
        refine zlEnd (by kernel_rfl) ?_
        refine zkSeq ?_
        refine zrSplit 38 z24.2.2.2.2.2.2.2 (by kernel_rfl) (fun hc => ?_) (fun hc => ?_)
        · replace hS := cond_t hc hS
          refine zrCondT (by kernel_rfl) ?_
          refine zrSeq ?_
          refine zrReg ?_
          refine zlRun (n := 4) (j := 4) rfl (by kernel_rfl) ?_
          refine zlOp (d := some 46) (op := (.cvBS (.tmp 45))) (g := none) (v := (.d (.str z24.1))) (ups := []) (j := 5) rfl (by kernel_rfl) (by kernel_rfl) (ev_cvBS (s := z24.1) ((congrArg (asL _) (by kernel_rfl : ρof _ (.tmp 45) = (.r (.msl 1 3 0 z24.1.length)))).trans (as_whole eU8 (e := 5) (k := 1) (xs := z24.1) (by kernel_rfl) rfl rfl)) rfl) ?_
          refine bindE hS (fun z25 hz25 hS => ?_)
          refine zlOp (d := some 47) (op := (.call 29 [(.tmp 46), (.const (.string ⟨#[32]⟩))])) (g := none) (j := 6) rfl (by kernel_rfl) (by kernel_rfl) (ev_callA (by kernel_rfl) (libTrimRight_ok (d - 1) (dpt hd rfl) z24.1 [32] z25 hz25) (by kernel_rfl) (by kernel_rfl)) ?_
          refine zlRun (n := 1) (j := 7) rfl (by kernel_rfl) ?_
          refine zlEnd (by kernel_rfl) ?_
          refine zkSeq ?_
          refine zrRegD ?_
          refine zdRun (n := 7) (j := 7) (ts := [[], [], [], [], [(0, false)], [(1, false)], []]) (acc' := [[], [], [], [], [(0, false)], [(1, false)], []]) rfl (by kernel_rfl) (by kernel_rfl) (by kernel_rfl) ?_
          refine bindE hS (fun z26 hz26 hS => ?_)
          refine zdOp (d := some 55) (op := (.call 30 [(.tmp 54), (.const (.int .u8 32))])) (g := none) (j := 8) (t1 := [(448, true), (449, true), (450, true), (451, true), (452, true), (453, true), (454, true), (455, true)]) (acc' := [[], [], [], [], [(0, false)], [(1, false)], [], [(448, true), (449, true), (450, true), (451, true), (452, true), (453, true), (454, true), (455, true)]]) (by kernel_rfl) (by kernel_rfl) rfl (by kernel_rfl) (by kernel_rfl) (ev_callA (by kernel_rfl) (libLastIndexByte_ok (d - 1) (dpt hd rfl) z25 (32 : UInt8) z26 hz26) (by kernel_rfl) (by kernel_rfl)) ?_
          refine zdRun (n := 2) (j := 10) (ts := [[], []]) (acc' := [[], [], [], [], [(0, false)], [(1, false)], [], [(448, true), (449, true), (450, true), (451, true), (452, true), (453, true), (454, true), (455, true)], [], []]) rfl (by kernel_rfl) (by kernel_rfl) (by kernel_rfl) ?_
          refine bindE hS (fun z27 hz27 hS => ?_)
          refine zdOp (d := some 58) (op := (.callr 28 [(.tmp 48), (.tmp 57)])) (g := none) (j := 11) (t1 := [(0, true), (1, true), (2, true), (3, true), (0, false), (472, true), (473, true), (474, true), (475, true), (476, true), (477, true), (478, true), (479, true)]) (acc' := [[], [], [], [], [(0, false)], [(1, false)], [], [(448, true), (449, true), (450, true), (451, true), (452, true), (453, true), (454, true), (455, true)], [], [], [(0, true), (1, true), (2, true), (3, true), (0, false), (472, true), (473, true), (474, true), (475, true), (476, true), (477, true), (478, true), (479, true)]]) (by kernel_rfl) (by kernel_rfl) rfl (by kernel_rfl) (by kernel_rfl) (ev_callrA (ids := [0, 1, 2, 3]) (by kernel_rfl) (by kernel_rfl) (by kernel_rfl) (f28_ok (d - 1) (dpt hd rfl) (IntKind.i64.wrap ((IntKind.i64.wrap ((z24.1.length : Int) - z26)) - 1)) z24.2.1 z24.2.2.1 z24.2.2.2.1 z24.2.2.2.2.1 z24.1 z24.2.2.2.2.2.1 z24.2.2.2.2.2.2.1 z27 hz27) (by kernel_rfl)) ?_
          refine zdEnd (by kernel_rfl) (by kernel_rfl) ?_
          refine zkBlk ?_
          refine zkNil ?_
          exact endQ hS hQ (fNorm (by kernel_rfl) ((congrArg (fun s => outR s 4 c20.res) (by kernel_rfl : finSt c20.fin _ = f20_fin z27.1 z27.2.1 z27.2.2.1 z27.2.2.2.1 z27.2.2.2.2.1 z27.2.2.2.2.2.1 z27.2.2.2.2.2.2)).trans (f20_out z27.1 z27.2.1 z27.2.2.1 z27.2.2.2.1 z27.2.2.2.2.1 z27.2.2.2.2.2.1 z27.2.2.2.2.2.2)))
        · replace hS := cond_f hc hS
          refine zrCondF (by kernel_rfl) ?_
          refine zrSeq ?_
          refine zrReg ?_
          refine zlRun (n := 2) (j := 2) rfl (by kernel_rfl) ?_
          refine bindE hS (fun z28 hz28 hS => ?_)
          refine zlOp (d := some 62) (op := (.callr 27 [(.tmp 60), (.tmp 61), (.const (.int .i64 11))])) (g := none) (j := 3) rfl (by kernel_rfl) (by kernel_rfl) (ev_callrA (ids := [0, 1, 2, 3]) (by kernel_rfl) (by kernel_rfl) (by kernel_rfl) (f27_ok (d - 1) (dpt hd rfl) a1 11 z24.2.1 z24.2.2.1 z24.2.2.2.1 z24.2.2.2.2.1 z24.1 z24.2.2.2.2.2.1 z24.2.2.2.2.2.2.1 z28 hz28) (by kernel_rfl)) ?_
          refine zlRun (n := 1) (j := 4) rfl (by kernel_rfl) ?_
          refine zlEnd (by kernel_rfl) ?_
          refine zkSeq ?_
          refine zrSplit 59 z28.2.2.2.2.2.2.2 (by kernel_rfl) (fun hc => ?_) (fun hc => ?_)
          · replace hS := cond_t hc hS
            refine zrCondT (by kernel_rfl) ?_
            refine zrReg ?_
            refine zlRun (n := 6) (j := 6) rfl (by kernel_rfl) ?_
            refine bindE hS (fun z29 hz29 hS => ?_)
            refine zlOp (d := some 69) (op := (.callr 28 [(.tmp 63), (.tmp 68)])) (g := none) (j := 7) rfl (by kernel_rfl) (by kernel_rfl) (ev_callrA (ids := [0, 1, 2, 3]) (by kernel_rfl) (by kernel_rfl) (by kernel_rfl) (f28_ok (d - 1) (dpt hd rfl) (z28.1.length : Int) z28.2.1 z28.2.2.1 z28.2.2.2.1 z28.2.2.2.2.1 z28.1 z28.2.2.2.2.2.1 z28.2.2.2.2.2.2.1 z29 hz29) (by kernel_rfl)) ?_
            refine zlEnd (by kernel_rfl) ?_
            refine zkBlk ?_
            refine zkNil ?_
            exact endQ hS hQ (fNorm (by kernel_rfl) ((congrArg (fun s => outR s 4 c20.res) (by kernel_rfl : finSt c20.fin _ = f20_fin z29.1 z29.2.1 z29.2.2.1 z29.2.2.2.1 z29.2.2.2.2.1 z29.2.2.2.2.2.1 z29.2.2.2.2.2.2)).trans (f20_out z29.1 z29.2.1 z29.2.2.1 z29.2.2.2.1 z29.2.2.2.2.1 z29.2.2.2.2.2.1 z29.2.2.2.2.2.2)))
          · replace hS := cond_f hc hS
            refine zrCondF (by kernel_rfl) ?_
            refine zrSeq ?_
            refine zrReg ?_
            refine zlRun (n := 2) (j := 2) rfl (by kernel_rfl) ?_
            refine bindE hS (fun z30 hz30 hS => ?_)
            refine zlOp (d := some 73) (op := (.callr 27 [(.tmp 71), (.tmp 72), (.const (.int .i64 13))])) (g := none) (j := 3) rfl (by kernel_rfl) (by kernel_rfl) (ev_callrA (ids := [0, 1, 2, 3]) (by kernel_rfl) (by kernel_rfl) (by kernel_rfl) (f27_ok (d - 1) (dpt hd rfl) a1 13 z28.2.1 z28.2.2.1 z28.2.2.2.1 z28.2.2.2.2.1 z28.1 z28.2.2.2.2.2.1 z28.2.2.2.2.2.2.1 z30 hz30) (by kernel_rfl)) ?_
            refine zlRun (n := 1) (j := 4) rfl (by kernel_rfl) ?_
            refine zlEnd (by kernel_rfl) ?_
            refine zkSeq ?_
            refine zrSplit 70 z30.2.2.2.2.2.2.2 (by kernel_rfl) (fun hc => ?_) (fun hc => ?_)
            · replace hS := cond_t hc hS
              refine zrCondT (by kernel_rfl) ?_
              refine zrRegD ?_
              refine zdRun (n := 6) (j := 6) (ts := [[], [], [], [], [(0, false)], [(640, true)]]) (acc' := [[], [], [], [], [(0, false)], [(640, true)]]) rfl (by kernel_rfl) (by kernel_rfl) (by kernel_rfl) ?_
              refine bindE hS (fun z31 hz31 hS => ?_)
              refine zdOp (d := some 80) (op := (.app 5 1 1 (.tmp 78) (.tmp 79))) (g := none) (v := (.r (.msl 3 6 0 z31.length))) (ups := [(3, ⟨6, some (.own 5 1 (eU8.cells z31))⟩)]) (j := 7) (t1 := [(648, true), (3, true), (640, false)]) (acc' := [[], [], [], [], [(0, false)], [(640, true)], [(648, true), (3, true), (640, false)]]) (by kernel_rfl) (by kernel_rfl) rfl (by kernel_rfl) (by kernel_rfl) (ev_app eU8 (b := 3) (g := 5) (n := z30.2.2.2.2.2.2.1.length) (xs := z30.2.2.2.2.2.2.1) (ys := [13, 10]) ((congrArg (asL _) (by kernel_rfl : ρof _ (.tmp 79) = (.r (.msl 640 1 0 (([13, 10] : List UInt8).length))))).trans (as_whole eU8 (e := 5) (k := 1) (xs := [13, 10]) (by kernel_rfl) rfl rfl)) rfl (by kernel_rfl) rfl (by kernel_rfl) rfl hz31) ?_
              refine zdRun (n := 4) (j := 11) (ts := [[], [], [], [(0, false)]]) (acc' := [[], [], [], [], [(0, false)], [(640, true)], [(648, true), (3, true), (640, false)], [], [], [], [(0, false)]]) rfl (by kernel_rfl) (by kernel_rfl) (by kernel_rfl) ?_
              refine bindE hS (fun z32 hz32 hS => ?_)
              refine zdOp (d := some 85) (op := (.app 5 1 1 (.tmp 80) (.tmp 84))) (g := none) (v := (.r (.msl 3 7 0 z32.length))) (ups := [(3, ⟨7, some (.own 5 1 (eU8.cells z32))⟩)]) (j := 12) (t1 := [(688, true), (3, true), (1, false)]) (acc' := [[], [], [], [], [(0, false)], [(640, true)], [(648, true), (3, true), (640, false)], [], [], [], [(0, false)], [(688, true), (3, true), (1, false)]]) (by kernel_rfl) (by kernel_rfl) rfl (by kernel_rfl) (by kernel_rfl) (ev_app eU8 (b := 3) (g := 6) (n := z31.length) (xs := z31) (ys := z30.1) ((congrArg (asL _) (by kernel_rfl : ρof _ (.tmp 84) = (.r (.msl 1 5 0 z30.1.length)))).trans (as_whole eU8 (e := 5) (k := 1) (xs := z30.1) (by kernel_rfl) rfl rfl)) rfl (by kernel_rfl) rfl (by kernel_rfl) rfl hz32) ?_
              refine zdRun (n := 3) (j := 15) (ts := [[], [], [(0, true)]]) (acc' := [[], [], [], [], [(0, false)], [(640, true)], [(648, true), (3, true), (640, false)], [], [], [], [(0, false)], [(688, true), (3, true), (1, false)], [], [], [(0, true)]]) rfl (by kernel_rfl) (by kernel_rfl) (by kernel_rfl) ?_
              refine zdEnd (by kernel_rfl) (by kernel_rfl) ?_
              refine zkBlk ?_
              refine zkNil ?_
              exact endQ hS hQ (fNorm (by kernel_rfl) ((congrArg (fun s => outR s 4 c20.res) (by kernel_rfl : finSt c20.fin _ = f20_fin z30.1 z30.2.1 z30.2.2.1 z30.2.2.2.1 z30.2.2.2.2.1 z30.2.2.2.2.2.1 z32)).trans (f20_out z30.1 z30.2.1 z30.2.2.1 z30.2.2.2.1 z30.2.2.2.2.1 z30.2.2.2.2.2.1 z32)))
            · replace hS := cond_f hc hS
              refine zrCondF (by kernel_rfl) ?_
              refine zrSeq ?_
              refine zrReg ?_
              refine zlRun (n := 1) (j := 1) rfl (by kernel_rfl) ?_
              refine zlBool (d := 90) (op := (.cmpI .eql (.tmp 89) (.const (.int .u8 13)))) (g := none) (j := 2) (decide ((a1.toNat : Int) = 13)) rfl (by kernel_rfl) (by kernel_rfl) (by kernel_rfl) (fun hc => ?_) (fun hc => ?_)
              · replace hS := cond_t hc hS
                refine zlRun (n := 23) (j := 25) rfl (by kernel_rfl) ?_
                refine zlEnd (by kernel_rfl) ?_
                refine zkSeq ?_
                exact f20_j0_ok hd a1 a2 a3 a4 a5 a6 a7 a8 hQ z30.1 z30.2.1 z30.2.2.1 z30.2.2.2.1 z30.2.2.2.2.1 z30.2.2.2.2.2.1 z30.2.2.2.2.2.2.1 true hS (by kernel_rfl)
              · replace hS := cond_f hc hS
                refine zlRun (n := 2) (j := 4) rfl (by kernel_rfl) ?_
                refine zlBool (d := 93) (op := (.cmpI .eql (.tmp 92) (.const (.int .u8 10)))) (g := (some (91, false))) (j := 5) (decide ((a1.toNat : Int) = 10)) rfl (by kernel_rfl) (by kernel_rfl) (by kernel_rfl) (fun hc => ?_) (fun hc => ?_)
                · replace hS := cond_t hc hS
                  refine zlRun (n := 20) (j := 25) rfl (by kernel_rfl) ?_
                  refine zlEnd (by kernel_rfl) ?_
                  refine zkSeq ?_
                  exact f20_j0_ok hd a1 a2 a3 a4 a5 a6 a7 a8 hQ z30.1 z30.2.1 z30.2.2.1 z30.2.2.2.1 z30.2.2.2.2.1 z30.2.2.2.2.2.1 z30.2.2.2.2.2.2.1 true hS (by kernel_rfl)
                · replace hS := cond_f hc hS
                  refine zlRun (n := 4) (j := 9) rfl (by kernel_rfl) ?_
                  refine bindE hS (fun z39 hz39 hS => ?_)
                  refine zlOp (d := some 98) (op := (.callr 27 [(.tmp 96), (.tmp 97), (.const (.int .i64 17))])) (g := (some (95, false))) (j := 10) rfl (by kernel_rfl) (by kernel_rfl) (ev_callrA (ids := [0, 1, 2, 3]) (by kernel_rfl) (by kernel_rfl) (by kernel_rfl) (f27_ok (d - 1) (dpt hd rfl) a1 17 z30.2.1 z30.2.2.1 z30.2.2.2.1 z30.2.2.2.2.1 z30.1 z30.2.2.2.2.2.1 z30.2.2.2.2.2.2.1 z39 hz39) (by kernel_rfl)) ?_
                  refine zlRun (n := 2) (j := 12) rfl (by kernel_rfl) ?_
                  refine zlSplit 100 z39.2.2.2.2.2.2.2 (by kernel_rfl) (fun hc => ?_) (fun hc => ?_)
                  · replace hS := cond_t hc hS
                    refine zlRun (n := 13) (j := 25) rfl (by kernel_rfl) ?_
                    refine zlEnd (by kernel_rfl) ?_
                    refine zkSeq ?_
                    exact f20_j0_ok hd a1 a2 a3 a4 a5 a6 a7 a8 hQ z39.1 z39.2.1 z39.2.2.1 z39.2.2.2.1 z39.2.2.2.2.1 z39.2.2.2.2.2.1 z39.2.2.2.2.2.2.1 true hS (by kernel_rfl)
                  · replace hS := cond_f hc hS
                    refine zlRun (n := 2) (j := 14) rfl (by kernel_rfl) ?_
                    refine bindE hS (fun z40 hz40 hS => ?_)
                    refine zlOp (d := some 103) (op := (.callr 27 [(.tmp 101), (.tmp 102), (.const (.int .i64 18))])) (g := (some (100, false))) (j := 15) rfl (by kernel_rfl) (by kernel_rfl) (ev_callrA (ids := [0, 1, 2, 3]) (by kernel_rfl) (by kernel_rfl) (by kernel_rfl) (f27_ok (d - 1) (dpt hd rfl) a1 18 z39.2.1 z39.2.2.1 z39.2.2.2.1 z39.2.2.2.2.1 z39.1 z39.2.2.2.2.2.1 z39.2.2.2.2.2.2.1 z40 hz40) (by kernel_rfl)) ?_
                    refine zlRun (n := 2) (j := 17) rfl (by kernel_rfl) ?_
                    refine zlSplit 105 z40.2.2.2.2.2.2.2 (by kernel_rfl) (fun hc => ?_) (fun hc => ?_)
                    · replace hS := cond_t hc hS
                      refine zlRun (n := 8) (j := 25) rfl (by kernel_rfl) ?_
                      refine zlEnd (by kernel_rfl) ?_
                      refine zkSeq ?_
                      exact f20_j0_ok hd a1 a2 a3 a4 a5 a6 a7 a8 hQ z40.1 z40.2.1 z40.2.2.1 z40.2.2.2.1 z40.2.2.2.2.1 z40.2.2.2.2.2.1 z40.2.2.2.2.2.2.1 true hS (by kernel_rfl)
                    · replace hS := cond_f hc hS
                      refine zlRun (n := 5) (j := 22) rfl (by kernel_rfl) ?_
                      refine bindE hS (fun z41 hz41 hS => ?_)
                      refine zlOp (d := some 111) (op := (.call 31 [(.tmp 109), (.tmp 110)])) (g := (some (105, false))) (j := 23) rfl (by kernel_rfl) (by kernel_rfl) (ev_callA (by kernel_rfl) (f31_ok (d - 1) (dpt hd rfl) (GMask.mk z40.2.2.2.2.1) a1 z41 hz41) (by kernel_rfl) (by kernel_rfl)) ?_
                      refine zlRun (n := 2) (j := 25) rfl (by kernel_rfl) ?_
                      refine zlEnd (by kernel_rfl) ?_
                      refine zkSeq ?_
                      exact f20_j0_ok hd a1 a2 a3 a4 a5 a6 a7 a8 hQ z40.1 z40.2.1 z40.2.2.1 z40.2.2.2.1 z40.2.2.2.2.1 z40.2.2.2.2.2.1 z40.2.2.2.2.2.2.1 z41 hS (by kernel_rfl)
/- farwriter/line.Type -/
def f8_fin (p52 : GEditor) (p53 : List (List UInt8)) (p54 : List UInt8) (p55 : Int) : St := ⟨(up (up (up (up (fun _ => .un) 11 (.d (.int .i64 p55))) 10 (.d (.str p54))) 9 (.r (.msl 603 0 0 p53.length))) 8 (.r (.ptr 72 0 0))), (up (up (hB fun _ => 0) 603 ⟨0, some (.own 9 1 (eStr.cells p53))⟩) 72 ⟨0, some (.box ((.d (.str p52.Buf)) :: ((.d (.bool p52.Quote)) :: [])))⟩)⟩
theorem f8_out (p52 : GEditor) (p53 : List (List UInt8)) (p54 : List UInt8) (p55 : Int) : outR (f8_fin p52 p53 p54 p55) 0 c8.res = some ((.tup [(.agg ((.d (.str p52.Buf)) :: ((.d (.bool p52.Quote)) :: []))), (.r (.own 0 9 1 p53.length (eStr.cells p53))), (.d (.str p54)), (.d (.int .i64 p55))]), []) := by
  exact out_of (ids := []) (ids' := [603]) (l := [(.agg ((.d (.str p52.Buf)) :: ((.d (.bool p52.Quote)) :: []))), (.r (.msl 603 0 0 p53.length)), (.d (.str p54)), (.d (.int .i64 p55))]) (by kernel_rfl) (by kernel_rfl) (o_tup (o_cons rfl (o_cons (o_own eStr (e := 9) (k := 1) (xs := p53) (by kernel_rfl) rfl rfl rfl rfl) (o_cons rfl (o_cons rfl o_nil)))))
def f8_Q (r : GEditor × (List (List UInt8)) × (List UInt8) × Int) (e : PX) (st : St) : Prop := DoneF c8 0 ((.tup [(.agg ((.d (.str r.1.Buf)) :: ((.d (.bool r.1.Quote)) :: []))), (.r (.own 0 9 1 r.2.1.length (eStr.cells r.2.1))), (.d (.str r.2.2.1)), (.d (.int .i64 r.2.2.2))]), []) e st
def f8_j3_J (a1 : GEditor) (a2 : GKeys) (a3 : GMask) (a4 : List UInt8) (p61 : List UInt8) (p62 : Bool) (p63 : Nat → UInt8) (p64 : Nat → UInt8) (p65 : Nat → Int) (p66 : List (List UInt8)) (p67 : List UInt8) : St := ⟨(up (up (fun _ => .un) 14 (.r (.ptr 328 0 0))) 8 (.r (.ptr 72 0 0))), (up (up (up (up (up (hB fun _ => 0) 602 ⟨0, some (.own 5 1 (eU8.cells p67))⟩) 601 ⟨0, some (.own 9 1 (eStr.cells p66))⟩) 280 ⟨0, some (.own 5 1 (eU8.cells p61))⟩) 328 ⟨0, some (.box (bx_Gtypist (Gtypist.mk ([]) p62 (GKeys.mk p63 p64) (GMask.mk p65) ([]) ([])) (.r (.msl 280 0 0 p61.length)) (.r (.msl 601 0 0 p66.length)) (.r (.msl 602 0 0 p67.length))))⟩) 72 ⟨0, some (.box ((.d (.str ([]))) :: ((.d (.bool false)) :: [])))⟩)⟩
noncomputable def f8_j3 (a1 : GEditor) (a2 : GKeys) (a3 : GMask) (a4 : List UInt8) (p61 : List UInt8) (p62 : Bool) (p63 : Nat → UInt8) (p64 : Nat → UInt8) (p65 : Nat → Int) (p66 : List (List UInt8)) (p67 : List UInt8) : Option (GEditor × (List (List UInt8)) × (List UInt8) × Int) := (some ((GEditor.mk p61 p62), p66, p67, 0))
theorem f8_j3_ok {d : Nat} (hd : 4 ≤ d) (a1 : GEditor) (a2 : GKeys) (a3 : GMask) (a4 : List UInt8) {r : GEditor × (List (List UInt8)) × (List UInt8) × Int} {Q : PX → St → Prop} (hQ : ∀ e st', f8_Q r e st' → Q e st') (p61 : List UInt8) (p62 : Bool) (p63 : Nat → UInt8) (p64 : Nat → UInt8) (p65 : Nat → Int) (p66 : List (List UInt8)) (p67 : List UInt8) (hS : f8_j3 a1 a2 a3 a4 p61 p62 p63 p64 p65 p66 p67 = some r) {st : St} (he : keepSt [8, 14] [(72, .id 72), (328, .id 328), (280, .id 280), (601, .id 601), (602, .id 602)] [] st = f8_j3_J a1 a2 a3 a4 p61 p62 p63 p64 p65 p66 p67) : ZR (lev codes baseL (d - 1)) Q c8_1 [] st := by
  refine zrKeep he ?_
  unfold f8_j3 at hS
  refine zrSeq ?_
  refine zrRegD ?_
  refine zdRun (n := 4) (j := 4) (ts := [[], [], [], [(328, false)]]) (acc' := [[], [], [], [(328, false)]]) rfl (by kernel_rfl) (by kernel_rfl) (by kernel_rfl) ?_
  refine zdOp (d := some 56) (op := (.cvBS (.tmp 55))) (g := none) (v := (.d (.str p61))) (ups := []) (j := 5) (t1 := [(280, false)]) (acc' := [[], [], [], [(328, false)], [(280, false)]]) (by kernel_rfl) (by kernel_rfl) rfl (by kernel_rfl) (by kernel_rfl) (ev_cvBS (s := p61) ((congrArg (asL _) (by kernel_rfl : ρof _ (.tmp 55) = (.r (.msl 280 0 0 p61.length)))).trans (as_whole eU8 (e := 5) (k := 1) (xs := p61) (by kernel_rfl) rfl rfl)) rfl) ?_
  refine zdRun (n := 13) (j := 18) (ts := [[], [], [], [(328, false)], [], [], [], [], [(328, false)], [], [], [], [(328, false)]]) (acc' := [[], [], [], [(328, false)], [(280, false)], [], [], [], [(328, false)], [], [], [], [], [(328, false)], [], [], [], [(328, false)]]) rfl (by kernel_rfl) (by kernel_rfl) (by kernel_rfl) ?_
  refine zdOp (d := some 70) (op := (.cvBS (.tmp 69))) (g := none) (v := (.d (.str p67))) (ups := []) (j := 19) (t1 := [(602, false)]) (acc' := [[], [], [], [(328, false)], [(280, false)], [], [], [], [(328, false)], [], [], [], [], [(328, false)], [], [], [], [(328, false)], [(602, false)]]) (by kernel_rfl) (by kernel_rfl) rfl (by kernel_rfl) (by kernel_rfl) (ev_cvBS (s := p67) ((congrArg (asL _) (by kernel_rfl : ρof _ (.tmp 69) = (.r (.msl 602 0 0 p67.length)))).trans (as_whole eU8 (e := 5) (k := 1) (xs := p67) (by kernel_rfl) rfl rfl)) rfl) ?_
  refine zdRun (n := 4) (j := 23) (ts := [[(72, true)], [], [], []]) (acc' := [[], [], [], [(328, false)], [(280, false)], [], [], [], [(328, false)], [], [], [], [], [(328, false)], [], [], [], [(328, false)], [(602, false)], [(72, true)], [], [], []]) rfl (by kernel_rfl) (by kernel_rfl) (by kernel_rfl) ?_
  refine zdEnd (by kernel_rfl) (by kernel_rfl) ?_
  refine zkSeq ?_
  refine zrRet ?_
  refine zkNil ?_
  exact endQ hS hQ (fRet (by kernel_rfl) ((congrArg (fun s => outR s 0 c8.res) (by kernel_rfl : finSt c8.fin _ = f8_fin (GEditor.mk p61 p62) p66 p67 0)).trans (f8_out (GEditor.mk p61 p62) p66 p67 0)))
def f8_l4_J (a1 : GEditor) (a2 : GKeys) (a3 : GMask) (a4 : List UInt8) (x : (List UInt8) × Bool × (Nat → UInt8) × (Nat → UInt8) × (Nat → Int) × (List (List UInt8)) × (List UInt8) × Int) : St := ⟨(up (up (up (up (up (fun _ => .un) 43 (.d (.int .i64 x.2.2.2.2.2.2.2))) 42 (.d (.int .i64 (a4.length : Int)))) 14 (.r (.ptr 328 0 0))) 8 (.r (.ptr 72 0 0))) 3 (.d (.str a4))), (up (up (up (up (up (hB fun _ => 0) 602 ⟨0, some (.own 5 1 (eU8.cells x.2.2.2.2.2.2.1))⟩) 601 ⟨0, some (.own 9 1 (eStr.cells x.2.2.2.2.2.1))⟩) 280 ⟨0, some (.own 5 1 (eU8.cells x.1))⟩) 328 ⟨0, some (.box (bx_Gtypist (Gtypist.mk ([]) x.2.1 (GKeys.mk x.2.2.1 x.2.2.2.1) (GMask.mk x.2.2.2.2.1) ([]) ([])) (.r (.msl 280 0 0 x.1.length)) (.r (.msl 601 0 0 x.2.2.2.2.2.1.length)) (.r (.msl 602 0 0 x.2.2.2.2.2.2.1.length))))⟩) 72 ⟨0, some (.box ((.d (.str ([]))) :: ((.d (.bool false)) :: [])))⟩)⟩
def f8_l4_H (a1 : GEditor) (a2 : GKeys) (a3 : GMask) (a4 : List UInt8) (x : (List UInt8) × Bool × (Nat → UInt8) × (Nat → UInt8) × (Nat → Int) × (List (List UInt8)) × (List UInt8) × Int) (st : St) : Prop := keepSt [3, 8, 14, 42, 43] [(72, .id 72), (328, .id 328), (280, .id 280), (601, (.cell 328 44)), (602, (.cell 328 45))] [.cell 328 44 601 9 1, .cell 328 45 602 5 1] st = f8_l4_J a1 a2 a3 a4 x
def f8_l4_e0_J (a1 : GEditor) (a2 : GKeys) (a3 : GMask) (a4 : List UInt8) (p45 : List UInt8) (p46 : Bool) (p47 : Nat → UInt8) (p48 : Nat → UInt8) (p49 : Nat → Int) (p50 : List (List UInt8)) (p51 : List UInt8) : St := ⟨(up (up (fun _ => .un) 14 (.r (.ptr 328 0 0))) 8 (.r (.ptr 72 0 0))), (up (up (up (up (up (hB fun _ => 0) 602 ⟨0, some (.own 5 1 (eU8.cells p51))⟩) 601 ⟨0, some (.own 9 1 (eStr.cells p50))⟩) 280 ⟨0, some (.own 5 1 (eU8.cells p45))⟩) 328 ⟨0, some (.box (bx_Gtypist (Gtypist.mk ([]) p46 (GKeys.mk p47 p48) (GMask.mk p49) ([]) ([])) (.r (.msl 280 0 0 p45.length)) (.r (.msl 601 0 0 p50.length)) (.r (.msl 602 0 0 p51.length))))⟩) 72 ⟨0, some (.box ((.d (.str ([]))) :: ((.d (.bool false)) :: [])))⟩)⟩
def f8_l4_X (a1 : GEditor) (a2 : GKeys) (a3 : GMask) (a4 : List UInt8) (z : ((List UInt8) × Bool × (Nat → UInt8) × (Nat → UInt8) × (Nat → Int) × (List (List UInt8)) × (List UInt8))) (e : PX) (st : St) : Prop := e = .exit 0 ∧ st = f8_l4_e0_J a1 a2 a3 a4 z.1 z.2.1 z.2.2.1 z.2.2.2.1 z.2.2.2.2.1 z.2.2.2.2.2.1 z.2.2.2.2.2.2
def f8_l4_j6_J (a1 : GEditor) (a2 : GKeys) (a3 : GMask) (a4 : List UInt8) (p86 : List UInt8) (p87 : Bool) (p88 : Nat → UInt8) (p89 : Nat → UInt8) (p90 : Nat → Int) (p91 : List (List UInt8)) (p92 : List UInt8) (p93 : Int) : St := ⟨(up (up (up (up (up (fun _ => .un) 43 (.d (.int .i64 p93))) 42 (.d (.int .i64 (a4.length : Int)))) 14 (.r (.ptr 328 0 0))) 8 (.r (.ptr 72 0 0))) 3 (.d (.str a4))), (up (up (up (up (up (hB fun _ => 0) 602 ⟨0, some (.own 5 1 (eU8.cells p92))⟩) 601 ⟨0, some (.own 9 1 (eStr.cells p91))⟩) 280 ⟨0, some (.own 5 1 (eU8.cells p86))⟩) 328 ⟨0, some (.box (bx_Gtypist (Gtypist.mk ([]) p87 (GKeys.mk p88 p89) (GMask.mk p90) ([]) ([])) (.r (.msl 280 0 0 p86.length)) (.r (.msl 601 0 0 p91.length)) (.r (.msl 602 0 0 p92.length))))⟩) 72 ⟨0, some (.box ((.d (.str ([]))) :: ((.d (.bool false)) :: [])))⟩)⟩
noncomputable def f8_l4_j6 (a1 : GEditor) (a2 : GKeys) (a3 : GMask) (a4 : List UInt8) (p86 : List UInt8) (p87 : Bool) (p88 : Nat → UInt8) (p89 : Nat → UInt8) (p90 : Nat → Int) (p91 : List (List UInt8)) (p92 : List UInt8) (p93 : Int) : Option (((List UInt8) × Bool × (Nat → UInt8) × (Nat → UInt8) × (Nat → Int) × (List (List UInt8)) × (List UInt8) × Int) ⊕ (((List UInt8) × Bool × (Nat → UInt8) × (Nat → UInt8) × (Nat → Int) × (List (List UInt8)) × (List UInt8)))) := ((idx a4 p93).bind fun z13 => ((f20 z13 p87 p88 p89 p90 p86 p91 p92).bind fun z14 => (some (.inl (z14.1, z14.2.1, z14.2.2.1, z14.2.2.2.1, z14.2.2.2.2.1, z14.2.2.2.2.2.1, z14.2.2.2.2.2.2, (IntKind.i64.wrap (p93 + 1)))))))
theorem f8_l4_j6_ok {d : Nat} (hd : 4 ≤ d) (a1 : GEditor) (a2 : GKeys) (a3 : GMask) (a4 : List UInt8) {r : ((List UInt8) × Bool × (Nat → UInt8) × (Nat → UInt8) × (Nat → Int) × (List (List UInt8)) × (List UInt8) × Int) ⊕ (((List UInt8) × Bool × (Nat → UInt8) × (Nat → UInt8) × (Nat → Int) × (List (List UInt8)) × (List UInt8)))} {Q : PX → St → Prop} (hQ : ∀ e st', finL (f8_l4_H a1 a2 a3 a4) (f8_l4_X a1 a2 a3 a4) r e st' → Q e st') (p86 : List UInt8) (p87 : Bool) (p88 : Nat → UInt8) (p89 : Nat → UInt8) (p90 : Nat → Int) (p91 : List (List UInt8)) (p92 : List UInt8) (p93 : Int) (hS : f8_l4_j6 a1 a2 a3 a4 p86 p87 p88 p89 p90 p91 p92 p93 = some r) {st : St} (he : keepSt [3, 8, 14, 42, 43] [(72, .id 72), (328, .id 328), (280, .id 280), (601, .id 601), (602, .id 602)] [] st = f8_l4_j6_J a1 a2 a3 a4 p86 p87 p88 p89 p90 p91 p92 p93) : ZR (lev codes baseL (d - 1)) Q c8_2 [] st := by
  refine zrKeep he ?_
  unfold f8_l4_j6 at hS
  refine zrSeq ?_
  refine zrBlk ?_
  refine zrSeq ?_
  refine zrReg ?_
  refine zlRun (n := 2) (j := 2) rfl (by kernel_rfl) ?_
  refine zlEnd (by kernel_rfl) ?_
  refine zkSeq ?_
  refine zrReg ?_
  refine zlRun (n := 3) (j := 3) rfl (by kernel_rfl) ?_
  refine bindE hS (fun z13 hz13 hS => ?_)
  refine zlOp (d := some 49) (op := (.ixStr (.tmp 47) (.tmp 48))) (g := none) (v := (.d (.int .u8 (z13.toNat : Int)))) (ups := []) (j := 4) rfl (by kernel_rfl) (by kernel_rfl) (ev_ixStr (kk := .i64) (s := a4) (j := p93) (by kernel_rfl) (by kernel_rfl) hz13) ?_
  refine bindE hS (fun z14 hz14 hS => ?_)
  refine zlOp (d := some 50) (op := (.callr 20 [(.tmp 46), (.tmp 49)])) (g := none) (j := 5) rfl (by kernel_rfl) (by kernel_rfl) (ev_callrA (ids := [328, 280, 601, 602]) (by kernel_rfl) (by kernel_rfl) (by kernel_rfl) (f20_ok (d - 1) (dpt hd rfl) z13 p87 p88 p89 p90 p86 p91 p92 z14 hz14) (by kernel_rfl)) ?_
  refine zlEnd (by kernel_rfl) ?_
  refine zkBlk ?_
  refine zkSeq ?_
  refine zrReg ?_
  refine zlRun (n := 2) (j := 2) rfl (by kernel_rfl) ?_
  refine zlEnd (by kernel_rfl) ?_
  refine zkNil ?_
  exact endQ hS hQ (finL_n (by show keepSt _ _ _ _ = _; kernel_rfl))
def f8_l4_j5_J (a1 : GEditor) (a2 : GKeys) (a3 : GMask) (a4 : List UInt8) (p77 : List UInt8) (p78 : Bool) (p79 : Nat → UInt8) (p80 : Nat → UInt8) (p81 : Nat → Int) (p82 : List (List UInt8)) (p83 : List UInt8) (p84 : Int) (p85 : Bool) : St := ⟨(up (up (up (up (up (up (fun _ => .un) 44 (.d (.bool p85))) 43 (.d (.int .i64 p84))) 42 (.d (.int .i64 (a4.length : Int)))) 14 (.r (.ptr 328 0 0))) 8 (.r (.ptr 72 0 0))) 3 (.d (.str a4))), (up (up (up (up (up (hB fun _ => 0) 602 ⟨0, some (.own 5 1 (eU8.cells p83))⟩) 601 ⟨0, some (.own 9 1 (eStr.cells p82))⟩) 280 ⟨0, some (.own 5 1 (eU8.cells p77))⟩) 328 ⟨0, some (.box (bx_Gtypist (Gtypist.mk ([]) p78 (GKeys.mk p79 p80) (GMask.mk p81) ([]) ([])) (.r (.msl 280 0 0 p77.length)) (.r (.msl 601 0 0 p82.length)) (.r (.msl 602 0 0 p83.length))))⟩) 72 ⟨0, some (.box ((.d (.str ([]))) :: ((.d (.bool false)) :: [])))⟩)⟩
noncomputable def f8_l4_j5 (a1 : GEditor) (a2 : GKeys) (a3 : GMask) (a4 : List UInt8) (p77 : List UInt8) (p78 : Bool) (p79 : Nat → UInt8) (p80 : Nat → UInt8) (p81 : Nat → Int) (p82 : List (List UInt8)) (p83 : List UInt8) (p84 : Int) (p85 : Bool) : Option (((List UInt8) × Bool × (Nat → UInt8) × (Nat → UInt8) × (Nat → Int) × (List (List UInt8)) × (List UInt8) × Int) ⊕ (((List UInt8) × Bool × (Nat → UInt8) × (Nat → UInt8) × (Nat → Int) × (List (List UInt8)) × (List UInt8)))) := (bif p85 then (f8_l4_j6 a1 a2 a3 a4 p77 p78 p79 p80 p81 p82 p83 p84) else (some (.inr (p77, p78, p79, p80, p81, p82, p83))))
theorem f8_l4_j5_ok {d : Nat} (hd : 4 ≤ d) (a1 : GEditor) (a2 : GKeys) (a3 : GMask) (a4 : List UInt8) {r : ((List UInt8) × Bool × (Nat → UInt8) × (Nat → UInt8) × (Nat → Int) × (List (List UInt8)) × (List UInt8) × Int) ⊕ (((List UInt8) × Bool × (Nat → UInt8) × (Nat → UInt8) × (Nat → Int) × (List (List UInt8)) × (List UInt8)))} {Q : PX → St → Prop} (hQ : ∀ e st', finL (f8_l4_H a1 a2 a3 a4) (f8_l4_X a1 a2 a3 a4) r e st' → Q e st') (p77 : List UInt8) (p78 : Bool) (p79 : Nat → UInt8) (p80 : Nat → UInt8) (p81 : Nat → Int) (p82 : List (List UInt8)) (p83 : List UInt8) (p84 : Int) (p85 : Bool) (hS : f8_l4_j5 a1 a2 a3 a4 p77 p78 p79 p80 p81 p82 p83 p84 p85 = some r) {st : St} (he : keepSt [3, 8, 14, 42, 43, 44] [(72, .id 72), (328, .id 328), (280, .id 280), (601, .id 601), (602, .id 602)] [] st = f8_l4_j5_J a1 a2 a3 a4 p77 p78 p79 p80 p81 p82 p83 p84 p85) : ZR (lev codes baseL (d - 1)) Q c8_3 [] st := by
  refine zrKeep he ?_
  unfold f8_l4_j5 at hS
  refine zrSeq ?_
  refine zrSplit 44 p85 (by kernel_rfl) (fun hc => ?_) (fun hc => ?_)
  · replace hS := cond_t hc hS
    refine zrCondT (by kernel_rfl) ?_
    refine zrSkip ?_
    refine zkSeq ?_
    exact f8_l4_j6_ok hd a1 a2 a3 a4 hQ p77 p78 p79 p80 p81 p82 p83 p84 hS (by kernel_rfl)
  · replace hS := cond_f hc hS
    refine zrCondF (by kernel_rfl) ?_
    refine zrKeep (J := f8_l4_e0_J a1 a2 a3 a4 p77 p78 p79 p80 p81 p82 p83) (by kernel_rfl) ?_
    refine zrExit ?_
    refine zkSeqX ?_
    refine zkNil ?_
    exact endQ hS hQ (finL_x (by intro h; cases h) (by show _ = _ ∧ _ = _; exact ⟨rfl, rfl⟩))
noncomputable def f8_l4 (a1 : GEditor) (a2 : GKeys) (a3 : GMask) (a4 : List UInt8) (x : (List UInt8) × Bool × (Nat → UInt8) × (Nat → UInt8) × (Nat → Int) × (List (List UInt8)) × (List UInt8) × Int) : Option (((List UInt8) × Bool × (Nat → UInt8) × (Nat → UInt8) × (Nat → Int) × (List (List UInt8)) × (List UInt8) × Int) ⊕ (((List UInt8) × Bool × (Nat → UInt8) × (Nat → UInt8) × (Nat → Int) × (List (List UInt8)) × (List UInt8)))) := (bif (decide (x.2.2.2.2.2.2.2 < (a4.length : Int))) then (f8_l4_j5 a1 a2 a3 a4 x.1 x.2.1 x.2.2.1 x.2.2.2.1 x.2.2.2.2.1 x.2.2.2.2.2.1 x.2.2.2.2.2.2.1 x.2.2.2.2.2.2.2 true) else (f8_l4_j5 a1 a2 a3 a4 x.1 x.2.1 x.2.2.1 x.2.2.2.1 x.2.2.2.2.1 x.2.2.2.2.2.1 x.2.2.2.2.2.2.1 x.2.2.2.2.2.2.2 false))
theorem f8_l4_ok {d : Nat} (hd : 4 ≤ d) (a1 : GEditor) (a2 : GKeys) (a3 : GMask) (a4 : List UInt8) {r : ((List UInt8) × Bool × (Nat → UInt8) × (Nat → UInt8) × (Nat → Int) × (List (List UInt8)) × (List UInt8) × Int) ⊕ (((List UInt8) × Bool × (Nat → UInt8) × (Nat → UInt8) × (Nat → Int) × (List (List UInt8)) × (List UInt8)))} {Q : PX → St → Prop} (hQ : ∀ e st', finL (f8_l4_H a1 a2 a3 a4) (f8_l4_X a1 a2 a3 a4) r e st' → Q e st') {x : (List UInt8) × Bool × (Nat → UInt8) × (Nat → UInt8) × (Nat → Int) × (List (List UInt8)) × (List UInt8) × Int} (hS : f8_l4 a1 a2 a3 a4 x = some r) {st : St} (he : f8_l4_H a1 a2 a3 a4 x st) : ZR (lev codes baseL (d - 1)) Q c8_4 [] st := by
  refine zrKeep he ?_
  unfold f8_l4 at hS
  refine zrSeq ?_
  refine zrReg ?_
  refine zlBool (d := 44) (op := (.cmpI .lss (.tmp 43) (.tmp 42))) (g := none) (j := 1) (decide (x.2.2.2.2.2.2.2 < (a4.length : Int))) rfl (by kernel_rfl) (by kernel_rfl) (by kernel_rfl) (fun hc => ?_) (fun hc => ?_)
  · replace hS := cond_t hc hS
    refine zlEnd (by kernel_rfl) ?_
    refine zkSeq ?_
    exact f8_l4_j5_ok hd a1 a2 a3 a4 hQ x.1 x.2.1 x.2.2.1 x.2.2.2.1 x.2.2.2.2.1 x.2.2.2.2.2.1 x.2.2.2.2.2.2.1 x.2.2.2.2.2.2.2 true hS (by kernel_rfl)
  · replace hS := cond_f hc hS
    refine zlEnd (by kernel_rfl) ?_
    refine zkSeq ?_
    exact f8_l4_j5_ok hd a1 a2 a3 a4 hQ x.1 x.2.1 x.2.2.1 x.2.2.2.1 x.2.2.2.2.1 x.2.2.2.2.2.1 x.2.2.2.2.2.2.1 x.2.2.2.2.2.2.2 false hS (by kernel_rfl)
def f8_j2_J (a1 : GEditor) (a2 : GKeys) (a3 : GMask) (a4 : List UInt8) : St := ⟨(up (up (up (up (up (fun _ => .un) 8 (.r (.ptr 72 0 0))) 6 (.r (.ptr 56 0 0))) 5 (.r (.ptr 48 0 0))) 4 (.r (.ptr 40 0 0))) 3 (.d (.str a4))), (up (up (up (up (hB fun _ => 0) 72 ⟨0, some (.box ((.d (.str ([]))) :: ((.d (.bool false)) :: [])))⟩) 56 ⟨0, some (.box (((eInt .u64).row 4 a3.Bits) ++ []))⟩) 48 ⟨0, some (.box ((eU8.row 19 a2.Levels) ++ ((eU8.row 19 a2.Chars) ++ [])))⟩) 40 ⟨0, some (.box ((.d (.str a1.Buf)) :: ((.d (.bool a1.Quote)) :: [])))⟩)⟩
noncomputable def f8_j2 (a1 : GEditor) (a2 : GKeys) (a3 : GMask) (a4 : List UInt8) : Option (GEditor × (List (List UInt8)) × (List UInt8) × Int) := ((chk (decide (a1.Buf.length ≤ 140737488355328))).bind fun z12 => ((loopO (f8_l4 a1 a2 a3 a4) (a1.Buf, a1.Quote, a2.Levels, a2.Chars, a3.Bits, [], [], 0)).bind fun z15 => (f8_j3 a1 a2 a3 a4 z15.1 z15.2.1 z15.2.2.1 z15.2.2.2.1 z15.2.2.2.2.1 z15.2.2.2.2.2.1 z15.2.2.2.2.2.2)))
theorem f8_j2_ok {d : Nat} (hd : 4 ≤ d) (a1 : GEditor) (a2 : GKeys) (a3 : GMask) (a4 : List UInt8) {r : GEditor × (List (List UInt8)) × (List UInt8) × Int} {Q : PX → St → Prop} (hQ : ∀ e st', f8_Q r e st' → Q e st')  (hS : f8_j2 a1 a2 a3 a4 = some r) {st : St} (he : keepSt [3, 4, 5, 6, 8] [(40, .id 40), (48, .id 48), (56, .id 56), (72, .id 72)] [] st = f8_j2_J a1 a2 a3 a4) : ZR (lev codes baseL (d - 1)) Q c8_5 [] st := by
  refine zrKeep he ?_
  unfold f8_j2 at hS
  refine zrSeq ?_
  refine zrReg ?_
  refine zlRun (n := 2) (j := 2) rfl (by kernel_rfl) ?_
  refine bindE hS (fun z12 hz12 hS => ?_)
  refine zlOp (d := some 34) (op := (.cvSO 5 (.tmp 33))) (g := none) (v := (.r (.msl 280 1 0 a1.Buf.length))) (ups := [(280, ⟨1, some (.own 5 1 (eU8.cells a1.Buf))⟩)]) (j := 3) rfl (by kernel_rfl) (by kernel_rfl) (ev_cvSO (s := a1.Buf) (by kernel_rfl) hz12) ?_
  refine zlRun (n := 7) (j := 10) rfl (by kernel_rfl) ?_
  refine zlEnd (by kernel_rfl) ?_
  refine zkSeq ?_
  refine zrSeq ?_
  refine zrSeq ?_
  refine zrReg ?_
  refine zlRun (n := 3) (j := 3) rfl (by kernel_rfl) ?_
  refine zlEnd (by kernel_rfl) ?_
  refine zkSeq ?_
  refine zrBlk ?_
  refine bindE hS (fun z15 hz15 hS => ?_)
  refine zrLoop (f8_l4_H a1 a2 a3 a4) (f8_l4_X a1 a2 a3 a4) (fun x st r Q h0 hS hQ => f8_l4_ok hd a1 a2 a3 a4 hQ hS h0) (x := (a1.Buf, a1.Quote, a2.Levels, a2.Chars, a3.Bits, [], [], 0)) (z := z15) (by show keepSt _ _ _ _ = _; kernel_rfl) hz15 ?_
  intro e st' _ hX
  obtain ⟨rfl, rfl⟩ : _ ∧ _ := hX
  refine zkBlkX ?_
  refine zkSeq ?_
  exact f8_j3_ok hd a1 a2 a3 a4 hQ z15.1 z15.2.1 z15.2.2.1 z15.2.2.2.1 z15.2.2.2.2.1 z15.2.2.2.2.2.1 z15.2.2.2.2.2.2 hS (by kernel_rfl)
def f8_j1_J (a1 : GEditor) (a2 : GKeys) (a3 : GMask) (a4 : List UInt8) : St := ⟨(up (up (up (up (up (fun _ => .un) 8 (.r (.ptr 72 0 0))) 6 (.r (.ptr 56 0 0))) 5 (.r (.ptr 48 0 0))) 4 (.r (.ptr 40 0 0))) 3 (.d (.str a4))), (up (up (up (up (hB fun _ => 0) 72 ⟨0, some (.box ((.d (.str ([]))) :: ((.d (.bool false)) :: [])))⟩) 56 ⟨0, some (.box (((eInt .u64).row 4 a3.Bits) ++ []))⟩) 48 ⟨0, some (.box ((eU8.row 19 a2.Levels) ++ ((eU8.row 19 a2.Chars) ++ [])))⟩) 40 ⟨0, some (.box ((.d (.str a1.Buf)) :: ((.d (.bool a1.Quote)) :: [])))⟩)⟩
noncomputable def f8_j1 (a1 : GEditor) (a2 : GKeys) (a3 : GMask) (a4 : List UInt8) : Option (GEditor × (List (List UInt8)) × (List UInt8) × Int) := (bif (decide (4096 < (a4.length : Int))) then (some (a1, [], [], 2)) else (f8_j2 a1 a2 a3 a4 ))
theorem f8_j1_ok {d : Nat} (hd : 4 ≤ d) (a1 : GEditor) (a2 : GKeys) (a3 : GMask) (a4 : List UInt8) {r : GEditor × (List (List UInt8)) × (List UInt8) × Int} {Q : PX → St → Prop} (hQ : ∀ e st', f8_Q r e st' → Q e st')  (hS : f8_j1 a1 a2 a3 a4 = some r) {st : St} (he : keepSt [3, 4, 5, 6, 8] [(40, .id 40), (48, .id 48), (56, .id 56), (72, .id 72)] [] st = f8_j1_J a1 a2 a3 a4) : ZR (lev codes baseL (d - 1)) Q c8_6 [] st := by
  refine zrKeep he ?_
  unfold f8_j1 at hS
  refine zrSeq ?_
  refine zrSeq ?_
  refine zrReg ?_
  refine zlRun (n := 2) (j := 2) rfl (by kernel_rfl) ?_
  refine zlBool (d := 30) (op := (.cmpI .gtr (.tmp 29) (.const (.int .i64 4096)))) (g := none) (j := 3) (decide (4096 < (a4.length : Int))) rfl (by kernel_rfl) (by kernel_rfl) (by kernel_rfl) (fun hc => ?_) (fun hc => ?_)
  · replace hS := cond_t hc hS
    refine zlEnd (by kernel_rfl) ?_
    refine zkSeq ?_
    refine zrCondT (by kernel_rfl) ?_
    refine zrSeq ?_
    refine zrReg ?_
    refine zlRun (n := 5) (j := 5) rfl (by kernel_rfl) ?_
    refine zlEnd (by kernel_rfl) ?_
    refine zkSeq ?_
    refine zrRet ?_
    refine zkSeqR ?_
    refine zkNil ?_
    exact endQ hS hQ (fRet (by kernel_rfl) ((congrArg (fun s => outR s 0 c8.res) (by kernel_rfl : finSt c8.fin _ = f8_fin a1 [] [] 2)).trans (f8_out a1 [] [] 2)))
  · replace hS := cond_f hc hS
    refine zlEnd (by kernel_rfl) ?_
    refine zkSeq ?_
    refine zrCondF (by kernel_rfl) ?_
    refine zrSkip ?_
    refine zkSeq ?_
    exact f8_j2_ok hd a1 a2 a3 a4 hQ  hS (by kernel_rfl)
def f8_j0_J (a1 : GEditor) (a2 : GKeys) (a3 : GMask) (a4 : List UInt8) : St := ⟨(up (up (up (up (up (fun _ => .un) 8 (.r (.ptr 72 0 0))) 6 (.r (.ptr 56 0 0))) 5 (.r (.ptr 48 0 0))) 4 (.r (.ptr 40 0 0))) 3 (.d (.str a4))), (up (up (up (up (hB fun _ => 0) 72 ⟨0, some (.box ((.d (.str ([]))) :: ((.d (.bool false)) :: [])))⟩) 56 ⟨0, some (.box (((eInt .u64).row 4 a3.Bits) ++ []))⟩) 48 ⟨0, some (.box ((eU8.row 19 a2.Levels) ++ ((eU8.row 19 a2.Chars) ++ [])))⟩) 40 ⟨0, some (.box ((.d (.str a1.Buf)) :: ((.d (.bool a1.Quote)) :: [])))⟩)⟩
noncomputable def f8_j0 (a1 : GEditor) (a2 : GKeys) (a3 : GMask) (a4 : List UInt8) : Option (GEditor × (List (List UInt8)) × (List UInt8) × Int) := ((f19 a2).bind fun z16 => (bif (!decide (z16 = 0)) then (some (a1, [], [], z16)) else (f8_j1 a1 a2 a3 a4 )))
theorem f8_j0_ok {d : Nat} (hd : 4 ≤ d) (a1 : GEditor) (a2 : GKeys) (a3 : GMask) (a4 : List UInt8) {r : GEditor × (List (List UInt8)) × (List UInt8) × Int} {Q : PX → St → Prop} (hQ : ∀ e st', f8_Q r e st' → Q e st')  (hS : f8_j0 a1 a2 a3 a4 = some r) {st : St} (he : keepSt [3, 4, 5, 6, 8] [(40, .id 40), (48, .id 48), (56, .id 56), (72, .id 72)] [] st = f8_j0_J a1 a2 a3 a4) : ZR (lev codes baseL (d - 1)) Q c8_7 [] st := by
  refine zrKeep he ?_
  unfold f8_j0 at hS
  refine zrSeq ?_
  refine zrSeq ?_
  refine zrReg ?_
  refine zlRun (n := 1) (j := 1) rfl (by kernel_rfl) ?_
  refine bindE hS (fun z16 hz16 hS => ?_)
  refine zlOp (d := some 23) (op := (.call 19 [(.tmp 22)])) (g := none) (j := 2) rfl (by kernel_rfl) (by kernel_rfl) (ev_callA (by kernel_rfl) (f19_ok (d - 1) (dpt hd rfl) a2 z16 hz16) (by kernel_rfl) (by kernel_rfl)) ?_
  refine zlRun (n := 1) (j := 3) rfl (by kernel_rfl) ?_
  refine zlEnd (by kernel_rfl) ?_
  refine zkSeq ?_
  refine zrSeq ?_
  refine zrReg ?_
  refine zlRun (n := 1) (j := 1) rfl (by kernel_rfl) ?_
  refine zlBool (d := 25) (op := (.cmpI .neq (.tmp 24) (.const (.int .i64 0)))) (g := none) (j := 2) (!decide (z16 = 0)) rfl (by kernel_rfl) (by kernel_rfl) (by kernel_rfl) (fun hc => ?_) (fun hc => ?_)
  · replace hS := cond_t hc hS
    refine zlEnd (by kernel_rfl) ?_
    refine zkSeq ?_
    refine zrCondT (by kernel_rfl) ?_
    refine zrSeq ?_
    refine zrReg ?_
    refine zlRun (n := 6) (j := 6) rfl (by kernel_rfl) ?_
    refine zlEnd (by kernel_rfl) ?_
    refine zkSeq ?_
    refine zrRet ?_
    refine zkSeqR ?_
    refine zkNil ?_
    exact endQ hS hQ (fRet (by kernel_rfl) ((congrArg (fun s => outR s 0 c8.res) (by kernel_rfl : finSt c8.fin _ = f8_fin a1 [] [] z16)).trans (f8_out a1 [] [] z16)))
  · replace hS := cond_f hc hS
    refine zlEnd (by kernel_rfl) ?_
    refine zkSeq ?_
    refine zrCondF (by kernel_rfl) ?_
    refine zrSkip ?_
    refine zkSeq ?_
    exact f8_j1_ok hd a1 a2 a3 a4 hQ  hS (by kernel_rfl)
noncomputable def f8 (a1 : GEditor) (a2 : GKeys) (a3 : GMask) (a4 : List UInt8) : Option (GEditor × (List (List UInt8)) × (List UInt8) × Int) := ((f6 a1).bind fun z17 => (bif (!decide (z17 = 0)) then (some (a1, [], [], z17)) else (f8_j0 a1 a2 a3 a4 )))
theorem f8_ok (d : Nat) (hd : 4 ≤ d) (a1 : GEditor) (a2 : GKeys) (a3 : GMask) (a4 : List UInt8) (r : GEditor × (List (List UInt8)) × (List UInt8) × Int) (hS : f8 a1 a2 a3 a4 = some r) : lev codes baseL d 8 [(.agg ((.d (.str a1.Buf)) :: ((.d (.bool a1.Quote)) :: []))), (.agg ((eU8.row 19 a2.Levels) ++ ((eU8.row 19 a2.Chars) ++ []))), (.agg (((eInt .u64).row 4 a3.Bits) ++ [])), (.d (.str a4))] [] = some ((.tup [(.agg ((.d (.str r.1.Buf)) :: ((.d (.bool r.1.Quote)) :: []))), (.r (.own 0 9 1 r.2.1.length (eStr.cells r.2.1))), (.d (.str r.2.2.1)), (.d (.int .i64 r.2.2.2))]), []) := by
  refine lev_go codes8 rfl rfl (Nat.le_trans (Nat.le_of_ble_eq_true rfl) hd) fun Q hQ => ?_
  unfold f8 at hS
  show ZR _ Q c8_b [] _
  replace hQ : ∀ e st', f8_Q r e st' → Q e st' := hQ
  refine zrSeq ?_
  refine zrReg ?_
  refine zlRun (n := 7) (j := 7) rfl (by kernel_rfl) ?_
  refine zlEnd (by kernel_rfl) ?_
  refine zkSeq ?_
  refine zrSeq ?_
  refine zrSeq ?_
  refine zrReg ?_
  refine zlRun (n := 1) (j := 1) rfl (by kernel_rfl) ?_
  refine bindE hS (fun z17 hz17 hS => ?_)
  refine zlOp (d := some 17) (op := (.call 6 [(.tmp 16)])) (g := none) (j := 2) rfl (by kernel_rfl) (by kernel_rfl) (ev_callA (by kernel_rfl) (f6_ok (d - 1) (dpt hd rfl) a1 z17 hz17) (by kernel_rfl) (by kernel_rfl)) ?_
  refine zlRun (n := 1) (j := 3) rfl (by kernel_rfl) ?_
  refine zlEnd (by kernel_rfl) ?_
  refine zkSeq ?_
  refine zrSeq ?_
  refine zrReg ?_
  refine zlRun (n := 1) (j := 1) rfl (by kernel_rfl) ?_
  refine zlBool (d := 19) (op := (.cmpI .neq (.tmp 18) (.const (.int .i64 0)))) (g := none) (j := 2) (!decide (z17 = 0)) rfl (by kernel_rfl) (by kernel_rfl) (by kernel_rfl) (fun hc => ?_) (fun hc => ?_)
  · replace hS := cond_t hc hS
    refine zlEnd (by kernel_rfl) ?_
    refine zkSeq ?_
    refine zrCondT (by kernel_rfl) ?_
    refine zrSeq ?_
    refine zrReg ?_
    refine zlRun (n := 6) (j := 6) rfl (by kernel_rfl) ?_
    refine zlEnd (by kernel_rfl) ?_
    refine zkSeq ?_
    refine zrRet ?_
    refine zkSeqR ?_
    refine zkNil ?_
    exact endQ hS hQ (fRet (by kernel_rfl) ((congrArg (fun s => outR s 0 c8.res) (by kernel_rfl : finSt c8.fin _ = f8_fin a1 [] [] z17)).trans (f8_out a1 [] [] z17)))
  · replace hS := cond_f hc hS
    refine zlEnd (by kernel_rfl) ?_
    refine zkSeq ?_
    refine zrCondF (by kernel_rfl) ?_
    refine zrSkip ?_
    refine zkSeq ?_
    exact f8_j0_ok hd a1 a2 a3 a4 hQ  hS (by kernel_rfl)
/- slices.Equal[[]string,string] -/
def f17_fin (p14 : Bool) : St := ⟨(up (fun _ => .un) 4 (.d (.bool p14))), (hB fun _ => 0)⟩
theorem f17_out (p14 : Bool) : outR (f17_fin p14) 0 c17.res = some ((.d (.bool p14)), []) := by
  kernel_rfl
def f17_Q (r : Bool) (e : PX) (st : St) : Prop := DoneF c17 0 ((.d (.bool r)), []) e st
def f17_l1_J (a1 : List (List UInt8)) (a2 : List (List UInt8)) (x : Int) : St := ⟨(up (up (up (up (fun _ => .un) 13 (.d (.int .i64 x))) 12 (.d (.int .i64 (a1.length : Int)))) 1 (.d (.sl a2.length (eStr.cells a2)))) 0 (.d (.sl a1.length (eStr.cells a1)))), (hB fun _ => 0)⟩
def f17_l1_H (a1 : List (List UInt8)) (a2 : List (List UInt8)) (x : Int) (st : St) : Prop := keepSt [0, 1, 12, 13] [] [] st = f17_l1_J a1 a2 x
def f17_l1_e0_J (a1 : List (List UInt8)) (a2 : List (List UInt8)) : St := ⟨(fun _ => .un), (hB fun _ => 0)⟩
def f17_l1_X (a1 : List (List UInt8)) (a2 : List (List UInt8)) (z : Unit ⊕ Bool) (e : PX) (st : St) : Prop := (match z with | .inl z => e = .exit 0 ∧ st = f17_l1_e0_J a1 a2 | .inr z => e = .ret ∧ finSt c17.fin st = f17_fin z)
def f17_l1_j3_J (a1 : List (List UInt8)) (a2 : List (List UInt8)) (p20 : Int) : St := ⟨(up (up (up (up (fun _ => .un) 13 (.d (.int .i64 p20))) 12 (.d (.int .i64 (a1.length : Int)))) 1 (.d (.sl a2.length (eStr.cells a2)))) 0 (.d (.sl a1.length (eStr.cells a1)))), (hB fun _ => 0)⟩
noncomputable def f17_l1_j3 (a1 : List (List UInt8)) (a2 : List (List UInt8)) (p20 : Int) : Option (Int ⊕ (Unit ⊕ Bool)) := ((idx a1 p20).bind fun z7 => ((idx a2 p20).bind fun z8 => (bif (!decide (z7 = z8)) then (some (.inr (.inr false))) else (some (.inl (IntKind.i64.wrap (p20 + 1)))))))
theorem f17_l1_j3_ok {d : Nat} (hd : 1 ≤ d) (a1 : List (List UInt8)) (a2 : List (List UInt8)) {r : Int ⊕ (Unit ⊕ Bool)} {Q : PX → St → Prop} (hQ : ∀ e st', finL (f17_l1_H a1 a2) (f17_l1_X a1 a2) r e st' → Q e st') (p20 : Int) (hS : f17_l1_j3 a1 a2 p20 = some r) {st : St} (he : keepSt [0, 1, 12, 13] [] [] st = f17_l1_j3_J a1 a2 p20) : ZR (lev codes baseL (d - 1)) Q c17_1 [] st := by
  refine zrKeep he ?_
  unfold f17_l1_j3 at hS
  refine zrSeq ?_
  refine zrBlk ?_
  refine zrSeq ?_
  refine zrReg ?_
  refine zlRun (n := 2) (j := 2) rfl (by kernel_rfl) ?_
  refine zlEnd (by kernel_rfl) ?_
  refine zkSeq ?_
  refine zrSeq ?_
  refine zrRegD ?_
  refine zdRun (n := 2) (j := 2) (ts := [[], []]) (acc' := [[], []]) rfl (by kernel_rfl) (by kernel_rfl) (by kernel_rfl) ?_
  refine bindE hS (fun z7 hz7 hS => ?_)
  refine zdOp (d := some 18) (op := (.ixS 9 1 (.tmp 16) (.tmp 17))) (g := none) (v := (.rptr (eStr.enc z7 ++ (eStr.cells (a1.drop ((p20 : Int).toNat + 1)))))) (ups := []) (j := 3) (t1 := []) (acc' := [[], [], []]) (by kernel_rfl) (by kernel_rfl) rfl (by kernel_rfl) (by kernel_rfl) (ev_ixS eStr (kk := .i64) (xs := a1) (j := p20) (by kernel_rfl) (by kernel_rfl) hz7 rfl (by intro h; cases h)) ?_
  refine zdRun (n := 3) (j := 6) (ts := [[], [], []]) (acc' := [[], [], [], [], [], []]) rfl (by kernel_rfl) (by kernel_rfl) (by kernel_rfl) ?_
  refine bindE hS (fun z8 hz8 hS => ?_)
  refine zdOp (d := some 22) (op := (.ixS 9 1 (.tmp 20) (.tmp 21))) (g := none) (v := (.rptr (eStr.enc z8 ++ (eStr.cells (a2.drop ((p20 : Int).toNat + 1)))))) (ups := []) (j := 7) (t1 := []) (acc' := [[], [], [], [], [], [], []]) (by kernel_rfl) (by kernel_rfl) rfl (by kernel_rfl) (by kernel_rfl) (ev_ixS eStr (kk := .i64) (xs := a2) (j := p20) (by kernel_rfl) (by kernel_rfl) hz8 rfl (by intro h; cases h)) ?_
  refine zdRun (n := 1) (j := 8) (ts := [[]]) (acc' := [[], [], [], [], [], [], [], []]) rfl (by kernel_rfl) (by kernel_rfl) (by kernel_rfl) ?_
  refine zdBool (d := 24) (op := (.strO .neq (.tmp 19) (.tmp 23))) (g := none) (j := 9) (t1 := []) (acc' := [[], [], [], [], [], [], [], [], []]) (!decide (z7 = z8)) (by kernel_rfl) (by kernel_rfl) rfl (by kernel_rfl) (by kernel_rfl) (by kernel_rfl) (fun hc => ?_) (fun hc => ?_)
  · replace hS := cond_t hc hS
    refine zdEnd (by kernel_rfl) (by kernel_rfl) ?_
    refine zkSeq ?_
    refine zrCondT (by kernel_rfl) ?_
    refine zrSeq ?_
    refine zrReg ?_
    refine zlRun (n := 1) (j := 1) rfl (by kernel_rfl) ?_
    refine zlEnd (by kernel_rfl) ?_
    refine zkSeq ?_
    refine zrRet ?_
    refine zkBlkR ?_
    refine zkSeqR ?_
    refine zkNil ?_
    exact endQ hS hQ (finL_x (by intro h; cases h) (by show _ = _ ∧ _ = _; exact ⟨rfl, by kernel_rfl⟩))
  · replace hS := cond_f hc hS
    refine zdEnd (by kernel_rfl) (by kernel_rfl) ?_
    refine zkSeq ?_
    refine zrCondF (by kernel_rfl) ?_
    refine zrSkip ?_
    refine zkBlk ?_
    refine zkSeq ?_
    refine zrReg ?_
    refine zlRun (n := 2) (j := 2) rfl (by kernel_rfl) ?_
    refine zlEnd (by kernel_rfl) ?_
    refine zkNil ?_
    exact endQ hS hQ (finL_n (by show keepSt _ _ _ _ = _; kernel_rfl))
def f17_l1_j2_J (a1 : List (List UInt8)) (a2 : List (List UInt8)) (p18 : Int) (p19 : Bool) : St := ⟨(up (up (up (up (up (fun _ => .un) 14 (.d (.bool p19))) 13 (.d (.int .i64 p18))) 12 (.d (.int .i64 (a1.length : Int)))) 1 (.d (.sl a2.length (eStr.cells a2)))) 0 (.d (.sl a1.length (eStr.cells a1)))), (hB fun _ => 0)⟩
noncomputable def f17_l1_j2 (a1 : List (List UInt8)) (a2 : List (List UInt8)) (p18 : Int) (p19 : Bool) : Option (Int ⊕ (Unit ⊕ Bool)) := (bif p19 then (f17_l1_j3 a1 a2 p18) else (some (.inr (.inl ()))))
theorem f17_l1_j2_ok {d : Nat} (hd : 1 ≤ d) (a1 : List (List UInt8)) (a2 : List (List UInt8)) {r : Int ⊕ (Unit ⊕ Bool)} {Q : PX → St → Prop} (hQ : ∀ e st', finL (f17_l1_H a1 a2) (f17_l1_X a1 a2) r e st' → Q e st') (p18 : Int) (p19 : Bool) (hS : f17_l1_j2 a1 a2 p18 p19 = some r) {st : St} (he : keepSt [0, 1, 12, 13, 14] [] [] st = f17_l1_j2_J a1 a2 p18 p19) : ZR (lev codes baseL (d - 1)) Q c17_2 [] st := by
  refine zrKeep he ?_
  unfold f17_l1_j2 at hS
  refine zrSeq ?_
  refine zrSplit 14 p19 (by kernel_rfl) (fun hc => ?_) (fun hc => ?_)
  · replace hS := cond_t hc hS
    refine zrCondT (by kernel_rfl) ?_
    refine zrSkip ?_
    refine zkSeq ?_
    exact f17_l1_j3_ok hd a1 a2 hQ p18 hS (by kernel_rfl)
  · replace hS := cond_f hc hS
    refine zrCondF (by kernel_rfl) ?_
    refine zrKeep (J := f17_l1_e0_J a1 a2) (by kernel_rfl) ?_
    refine zrExit ?_
    refine zkSeqX ?_
    refine zkNil ?_
    exact endQ hS hQ (finL_x (by intro h; cases h) (by show _ = _ ∧ _ = _; exact ⟨rfl, rfl⟩))
noncomputable def f17_l1 (a1 : List (List UInt8)) (a2 : List (List UInt8)) (x : Int) : Option (Int ⊕ (Unit ⊕ Bool)) := (bif (decide (x < (a1.length : Int))) then (f17_l1_j2 a1 a2 x true) else (f17_l1_j2 a1 a2 x false))
theorem f17_l1_ok {d : Nat} (hd : 1 ≤ d) (a1 : List (List UInt8)) (a2 : List (List UInt8)) {r : Int ⊕ (Unit ⊕ Bool)} {Q : PX → St → Prop} (hQ : ∀ e st', finL (f17_l1_H a1 a2) (f17_l1_X a1 a2) r e st' → Q e st') {x : Int} (hS : f17_l1 a1 a2 x = some r) {st : St} (he : f17_l1_H a1 a2 x st) : ZR (lev codes baseL (d - 1)) Q c17_3 [] st := by
  refine zrKeep he ?_
  unfold f17_l1 at hS
  refine zrSeq ?_
  refine zrReg ?_
  refine zlBool (d := 14) (op := (.cmpI .lss (.tmp 13) (.tmp 12))) (g := none) (j := 1) (decide (x < (a1.length : Int))) rfl (by kernel_rfl) (by kernel_rfl) (by kernel_rfl) (fun hc => ?_) (fun hc => ?_)
  · replace hS := cond_t hc hS
    refine zlEnd (by kernel_rfl) ?_
    refine zkSeq ?_
    exact f17_l1_j2_ok hd a1 a2 hQ x true hS (by kernel_rfl)
  · replace hS := cond_f hc hS
    refine zlEnd (by kernel_rfl) ?_
    refine zkSeq ?_
    exact f17_l1_j2_ok hd a1 a2 hQ x false hS (by kernel_rfl)
def f17_j0_J (a1 : List (List UInt8)) (a2 : List (List UInt8)) : St := ⟨(up (up (fun _ => .un) 1 (.d (.sl a2.length (eStr.cells a2)))) 0 (.d (.sl a1.length (eStr.cells a1)))), (hB fun _ => 0)⟩
noncomputable def f17_j0 (a1 : List (List UInt8)) (a2 : List (List UInt8)) : Option (Bool) := ((loopO (f17_l1 a1 a2) 0).bind fun z9 => (Sum.elim (fun z10 => (some true)) (fun z11 => (some z11)) z9))
theorem f17_j0_ok {d : Nat} (hd : 1 ≤ d) (a1 : List (List UInt8)) (a2 : List (List UInt8)) {r : Bool} {Q : PX → St → Prop} (hQ : ∀ e st', f17_Q r e st' → Q e st')  (hS : f17_j0 a1 a2 = some r) {st : St} (he : keepSt [0, 1] [] [] st = f17_j0_J a1 a2) : ZR (lev codes baseL (d - 1)) Q c17_4 [] st := by
  refine zrKeep he ?_
  unfold f17_j0 at hS
  refine zrSeq ?_
  refine zrSeq ?_
  refine zrReg ?_
  refine zlRun (n := 3) (j := 3) rfl (by kernel_rfl) ?_
  refine zlEnd (by kernel_rfl) ?_
  refine zkSeq ?_
  refine zrBlk ?_
  refine bindE hS (fun z9 hz9 hS => ?_)
  refine zrLoop (f17_l1_H a1 a2) (f17_l1_X a1 a2) (fun x st r Q h0 hS hQ => f17_l1_ok hd a1 a2 hQ hS h0) (x := 0) (z := z9) (by show keepSt _ _ _ _ = _; kernel_rfl) hz9 ?_
  rcases z9 with z10 | z11
  · replace hS := (show _ = _ from hS)
    simp only [Sum.elim_inl] at hS
    intro e st' _ hX
    obtain ⟨rfl, rfl⟩ : _ ∧ _ := hX
    refine zkBlkX ?_
    refine zkSeq ?_
    refine zrSeq ?_
    refine zrReg ?_
    refine zlRun (n := 1) (j := 1) rfl (by kernel_rfl) ?_
    refine zlEnd (by kernel_rfl) ?_
    refine zkSeq ?_
    refine zrRet ?_
    refine zkNil ?_
    exact endQ hS hQ (fRet (by kernel_rfl) ((congrArg (fun s => outR s 0 c17.res) (by kernel_rfl : finSt c17.fin _ = f17_fin true)).trans (f17_out true)))
  · simp only [Sum.elim_inr] at hS
    intro e st' _ hX
    obtain ⟨rfl, hX⟩ : _ ∧ _ := hX
    refine zkBlkR ?_
    refine zkSeqR ?_
    refine zkNil ?_
    exact endQ hS hQ (fRet (by kernel_rfl) ((congrArg (fun s => outR s 0 c17.res) hX).trans (f17_out z11)))
noncomputable def f17 (a1 : List (List UInt8)) (a2 : List (List UInt8)) : Option (Bool) := (bif (!decide ((a1.length : Int) = (a2.length : Int))) then (some false) else (f17_j0 a1 a2 ))
theorem f17_ok (d : Nat) (hd : 1 ≤ d) (a1 : List (List UInt8)) (a2 : List (List UInt8)) (r : Bool) (hS : f17 a1 a2 = some r) : lev codes baseL d 17 [(.d (.sl a1.length (eStr.cells a1))), (.d (.sl a2.length (eStr.cells a2)))] [] = some ((.d (.bool r)), []) := by
  refine lev_go codes17 rfl rfl (Nat.le_trans (Nat.le_of_ble_eq_true rfl) hd) fun Q hQ => ?_
  unfold f17 at hS
  show ZR _ Q c17_b [] _
  replace hQ : ∀ e st', f17_Q r e st' → Q e st' := hQ
  refine zrSeq ?_
  refine zrReg ?_
  refine zlRun (n := 1) (j := 1) rfl (by kernel_rfl) ?_
  refine zlEnd (by kernel_rfl) ?_
  refine zkSeq ?_
  refine zrSeq ?_
  refine zrSeq ?_
  refine zrReg ?_
  refine zlRun (n := 4) (j := 4) rfl (by kernel_rfl) ?_
  refine zlBool (d := 10) (op := (.cmpI .neq (.tmp 7) (.tmp 9))) (g := none) (j := 5) (!decide ((a1.length : Int) = (a2.length : Int))) rfl (by kernel_rfl) (by kernel_rfl) (by kernel_rfl) (fun hc => ?_) (fun hc => ?_)
  · replace hS := cond_t hc hS
    refine zlEnd (by kernel_rfl) ?_
    refine zkSeq ?_
    refine zrCondT (by kernel_rfl) ?_
    refine zrSeq ?_
    refine zrReg ?_
    refine zlRun (n := 1) (j := 1) rfl (by kernel_rfl) ?_
    refine zlEnd (by kernel_rfl) ?_
    refine zkSeq ?_
    refine zrRet ?_
    refine zkSeqR ?_
    refine zkNil ?_
    exact endQ hS hQ (fRet (by kernel_rfl) ((congrArg (fun s => outR s 0 c17.res) (by kernel_rfl : finSt c17.fin _ = f17_fin false)).trans (f17_out false)))
  · replace hS := cond_f hc hS
    refine zlEnd (by kernel_rfl) ?_
    refine zkSeq ?_
    refine zrCondF (by kernel_rfl) ?_
    refine zrSkip ?_
    refine zkSeq ?_
    exact f17_j0_ok hd a1 a2 hQ  hS (by kernel_rfl)
/- farwriter/farkeep.lineLives -/
def f5_fin (p5 : Bool) : St := ⟨(up (fun _ => .un) 0 (.d (.bool p5))), (hB fun _ => 0)⟩
theorem f5_out (p5 : Bool) : outR (f5_fin p5) 0 c5.res = some ((.d (.bool p5)), []) := by
  kernel_rfl
def f5_Q (r : Bool) (e : PX) (st : St) : Prop := DoneF c5 0 ((.d (.bool r)), []) e st
noncomputable def f5  : Option (Bool) := (f16.bind fun z4 => ((f8 (GEditor.mk ([]) false) z4 (GMask.mk (fun _ => 0)) [108, 120, 127, 115, 32, 45, 108, 13, 120]).bind fun z5 => (bif (decide (z5.2.2.2 = 0)) then (bif (decide (z5.1.Buf = ([120] : List UInt8))) then ((f17 z5.2.1 [[108, 115, 32, 45, 108, 13]]).bind fun z6 => (bif z6 then (bif (decide (z5.2.2.1 = ([108, 120, 8, 32, 8, 115, 32, 45, 108, 13, 120] : List UInt8))) then (some true) else (some false)) else (some false))) else (some false)) else (some false))))
theorem f5_ok (d : Nat) (hd : 5 ≤ d)  (r : Bool) (hS : f5 = some r) : lev codes baseL d 5 [] [] = some ((.d (.bool r)), []) := by
  refine lev_go codes5 rfl rfl (Nat.le_trans (Nat.le_of_ble_eq_true rfl) hd) fun Q hQ => ?_
  unfold f5 at hS
  show ZR _ Q c5_b [] _
  replace hQ : ∀ e st', f5_Q r e st' → Q e st' := hQ
  refine zrSeq ?_
  refine zrReg ?_
  refine zlRun (n := 1) (j := 1) rfl (by kernel_rfl) ?_
  refine zlEnd (by kernel_rfl) ?_
  refine zkSeq ?_
  refine zrSeq ?_
  refine zrReg ?_
  refine zlRun (n := 1) (j := 1) rfl (by kernel_rfl) ?_
  refine bindE hS (fun z4 hz4 hS => ?_)
  refine zlOp (d := some 7) (op := (.call 16 [])) (g := none) (j := 2) rfl (by kernel_rfl) (by kernel_rfl) (ev_callA (by kernel_rfl) (f16_ok (d - 1) (dpt hd rfl)  z4 hz4) (by kernel_rfl) (by kernel_rfl)) ?_
  refine zlRun (n := 1) (j := 3) rfl (by kernel_rfl) ?_
  refine bindE hS (fun z5 hz5 hS => ?_)
  refine zlOp (d := some 9) (op := (.call 8 [(.tmp 6), (.tmp 7), (.tmp 8), (.const (.string ⟨#[108, 120, 127, 115, 32, 45, 108, 13, 120]⟩))])) (g := none) (j := 4) rfl (by kernel_rfl) (by kernel_rfl) (ev_callA (by kernel_rfl) (f8_ok (d - 1) (dpt hd rfl) (GEditor.mk ([]) false) z4 (GMask.mk (fun _ => 0)) [108, 120, 127, 115, 32, 45, 108, 13, 120] z5 hz5) (by kernel_rfl) (by kernel_rfl)) ?_
  refine zlRun (n := 10) (j := 14) rfl (by kernel_rfl) ?_
  refine zlEnd (by kernel_rfl) ?_
  refine zkSeq ?_
  refine zrSeq ?_
  refine zrReg ?_
  refine zlRun (n := 1) (j := 1) rfl (by kernel_rfl) ?_
  refine zlBool (d := 15) (op := (.cmpI .eql (.tmp 14) (.const (.int .i64 0)))) (g := none) (j := 2) (decide (z5.2.2.2 = 0)) rfl (by kernel_rfl) (by kernel_rfl) (by kernel_rfl) (fun hc => ?_) (fun hc => ?_)
  · replace hS := cond_t hc hS
    refine zlRun (n := 3) (j := 5) rfl (by kernel_rfl) ?_
    refine zlBool (d := 19) (op := (.strO .eql (.tmp 18) (.const (.string ⟨#[120]⟩)))) (g := (some (16, true))) (j := 6) (decide (z5.1.Buf = ([120] : List UInt8))) rfl (by kernel_rfl) (by kernel_rfl) (by kernel_rfl) (fun hc => ?_) (fun hc => ?_)
    · replace hS := cond_t hc hS
      refine zlRun (n := 4) (j := 10) rfl (by kernel_rfl) ?_
      refine bindE hS (fun z6 hz6 hS => ?_)
      refine zlOp (d := some 24) (op := (.call 17 [(.tmp 22), (.tmp 23)])) (g := (some (21, true))) (j := 11) rfl (by kernel_rfl) (by kernel_rfl) (ev_callB (args := [(.r (.msl 80 1 0 z5.2.1.length)), (.r (.msl 192 1 0 (([[108, 115, 32, 45, 108, 13]] : List (List UInt8)).length)))]) (by kernel_rfl) (l_cons (l_own eStr (e := 9) (k := 1) (xs := z5.2.1) (by kernel_rfl) rfl rfl) (l_cons (l_own eStr (e := 9) (k := 1) (xs := [[108, 115, 32, 45, 108, 13]]) (by kernel_rfl) rfl rfl) l_nil)) (f17_ok (d - 1) (dpt hd rfl) z5.2.1 [[108, 115, 32, 45, 108, 13]] z6 hz6) (by kernel_rfl) (by kernel_rfl)) ?_
      refine zlRun (n := 2) (j := 13) rfl (by kernel_rfl) ?_
      refine zlSplit 26 z6 (by kernel_rfl) (fun hc => ?_) (fun hc => ?_)
      · replace hS := cond_t hc hS
        refine zlRun (n := 1) (j := 14) rfl (by kernel_rfl) ?_
        refine zlBool (d := 28) (op := (.strO .eql (.tmp 27) (.const (.string ⟨#[108, 120, 8, 32, 8, 115, 32, 45, 108, 13, 120]⟩)))) (g := (some (26, true))) (j := 15) (decide (z5.2.2.1 = ([108, 120, 8, 32, 8, 115, 32, 45, 108, 13, 120] : List UInt8))) rfl (by kernel_rfl) (by kernel_rfl) (by kernel_rfl) (fun hc => ?_) (fun hc => ?_)
        · replace hS := cond_t hc hS
          refine zlRun (n := 2) (j := 17) rfl (by kernel_rfl) ?_
          refine zlEnd (by kernel_rfl) ?_
          refine zkSeq ?_
          refine zrRet ?_
          refine zkNil ?_
          exact endQ hS hQ (fRet (by kernel_rfl) ((congrArg (fun s => outR s 0 c5.res) (by kernel_rfl : finSt c5.fin _ = f5_fin true)).trans (f5_out true)))
        · replace hS := cond_f hc hS
          refine zlRun (n := 2) (j := 17) rfl (by kernel_rfl) ?_
          refine zlEnd (by kernel_rfl) ?_
          refine zkSeq ?_
          refine zrRet ?_
          refine zkNil ?_
          exact endQ hS hQ (fRet (by kernel_rfl) ((congrArg (fun s => outR s 0 c5.res) (by kernel_rfl : finSt c5.fin _ = f5_fin false)).trans (f5_out false)))
      · replace hS := cond_f hc hS
        refine zlRun (n := 4) (j := 17) rfl (by kernel_rfl) ?_
        refine zlEnd (by kernel_rfl) ?_
        refine zkSeq ?_
        refine zrRet ?_
        refine zkNil ?_
        exact endQ hS hQ (fRet (by kernel_rfl) ((congrArg (fun s => outR s 0 c5.res) (by kernel_rfl : finSt c5.fin _ = f5_fin false)).trans (f5_out false)))
    · replace hS := cond_f hc hS
      refine zlRun (n := 11) (j := 17) rfl (by kernel_rfl) ?_
      refine zlEnd (by kernel_rfl) ?_
      refine zkSeq ?_
      refine zrRet ?_
      refine zkNil ?_
      exact endQ hS hQ (fRet (by kernel_rfl) ((congrArg (fun s => outR s 0 c5.res) (by kernel_rfl : finSt c5.fin _ = f5_fin false)).trans (f5_out false)))
  · replace hS := cond_f hc hS
    refine zlRun (n := 15) (j := 17) rfl (by kernel_rfl) ?_
    refine zlEnd (by kernel_rfl) ?_
    refine zkSeq ?_
    refine zrRet ?_
    refine zkNil ?_
    exact endQ hS hQ (fRet (by kernel_rfl) ((congrArg (fun s => outR s 0 c5.res) (by kernel_rfl : finSt c5.fin _ = f5_fin false)).trans (f5_out false)))
/- (*strings.Builder).WriteString -/
theorem libBW_ok (d : Nat) (hd : 0 ≤ d) (a1 a2 r : List UInt8) (hS : blw? a1 a2 = some r) : lev codes baseL d 7 [.r (.ptr 0 0 0), .d (.str a2)] [.box (blC 37 (.r (.msl 1 0 0 a1.length))), .own 5 1 (eU8.cells a1)] = some (.tup [.d (.int .i64 a2.length), .d (.err false)], [.box (blC 37 (.r (.msl 1 0 0 r.length))), .own 5 1 (eU8.cells r)]) := blW_call rfl hS d
theorem libBS_ok (d : Nat) (hd : 0 ≤ d) (a1 : List UInt8) : lev codes baseL d 9 [.r (.ptr 0 0 0)] [.box (blC 37 (.r (.msl 1 0 0 a1.length))), .own 5 1 (eU8.cells a1)] = some (.d (.str a1), [.box (blC 37 .un), .own 5 1 []]) := blS_call rfl rfl a1 d
/- farwriter/farref.KeysRight -/
def f10_fin (p23 : Int) : St := ⟨(up (fun _ => .un) 2 (.d (.int .i64 p23))), (hB fun _ => 0)⟩
theorem f10_out (p23 : Int) : outR (f10_fin p23) 0 c10.res = some ((.d (.int .i64 p23)), []) := by
  kernel_rfl
def f10_Q (r : Int) (e : PX) (st : St) : Prop := DoneF c10 0 ((.d (.int .i64 r)), []) e st
def f10_j0_J (a1 : GKeys) : St := ⟨(up (fun _ => .un) 1 (.r (.ptr 16 0 0))), (up (hB fun _ => 0) 16 ⟨0, some (.box ((eU8.row 19 a1.Levels) ++ ((eU8.row 19 a1.Chars) ++ [])))⟩)⟩
noncomputable def f10_j0 (a1 : GKeys) : Option (Int) := (bif (decide (0 < ((a1.Chars 0).toNat : Int))) then (some 4) else (some 0))
theorem f10_j0_ok {d : Nat} (hd : 1 ≤ d) (a1 : GKeys) {r : Int} {Q : PX → St → Prop} (hQ : ∀ e st', f10_Q r e st' → Q e st')  (hS : f10_j0 a1 = some r) {st : St} (he : keepSt [1] [(16, .id 16)] [] st = f10_j0_J a1) : ZR (lev codes baseL (d - 1)) Q c10_1 [] st := by
  refine zrKeep he ?_
  unfold f10_j0 at hS
  refine zrSeq ?_
  refine zrSeq ?_
  refine zrReg ?_
  refine zlRun (n := 3) (j := 3) rfl (by kernel_rfl) ?_
  refine zlBool (d := 32) (op := (.cmpI .gtr (.tmp 31) (.const (.int .u8 0)))) (g := none) (j := 4) (decide (0 < ((a1.Chars 0).toNat : Int))) rfl (by kernel_rfl) (by kernel_rfl) (by kernel_rfl) (fun hc => ?_) (fun hc => ?_)
  · replace hS := cond_t hc hS
    refine zlEnd (by kernel_rfl) ?_
    refine zkSeq ?_
    refine zrCondT (by kernel_rfl) ?_
    refine zrSeq ?_
    refine zrReg ?_
    refine zlRun (n := 1) (j := 1) rfl (by kernel_rfl) ?_
    refine zlEnd (by kernel_rfl) ?_
    refine zkSeq ?_
    refine zrRet ?_
    refine zkSeqR ?_
    refine zkNil ?_
    exact endQ hS hQ (fRet (by kernel_rfl) ((congrArg (fun s => outR s 0 c10.res) (by kernel_rfl : finSt c10.fin _ = f10_fin 4)).trans (f10_out 4)))
  · replace hS := cond_f hc hS
    refine zlEnd (by kernel_rfl) ?_
    refine zkSeq ?_
    refine zrCondF (by kernel_rfl) ?_
    refine zrSkip ?_
    refine zkSeq ?_
    refine zrSeq ?_
    refine zrReg ?_
    refine zlRun (n := 1) (j := 1) rfl (by kernel_rfl) ?_
    refine zlEnd (by kernel_rfl) ?_
    refine zkSeq ?_
    refine zrRet ?_
    refine zkNil ?_
    exact endQ hS hQ (fRet (by kernel_rfl) ((congrArg (fun s => outR s 0 c10.res) (by kernel_rfl : finSt c10.fin _ = f10_fin 0)).trans (f10_out 0)))
def f10_l1_J (a1 : GKeys) (x : Int) : St := ⟨(up (up (fun _ => .un) 4 (.d (.int .i64 x))) 1 (.r (.ptr 16 0 0))), (up (hB fun _ => 0) 16 ⟨0, some (.box ((eU8.row 19 a1.Levels) ++ ((eU8.row 19 a1.Chars) ++ [])))⟩)⟩
def f10_l1_H (a1 : GKeys) (x : Int) (st : St) : Prop := keepSt [1, 4] [(16, .id 16)] [] st = f10_l1_J a1 x
def f10_l1_e0_J (a1 : GKeys) : St := ⟨(up (fun _ => .un) 1 (.r (.ptr 16 0 0))), (up (hB fun _ => 0) 16 ⟨0, some (.box ((eU8.row 19 a1.Levels) ++ ((eU8.row 19 a1.Chars) ++ [])))⟩)⟩
def f10_l1_X (a1 : GKeys) (z : Unit ⊕ Int) (e : PX) (st : St) : Prop := (match z with | .inl z => e = .exit 0 ∧ st = f10_l1_e0_J a1 | .inr z => e = .ret ∧ finSt c10.fin st = f10_fin z)
def f10_l1_j3_J (a1 : GKeys) (p28 : Int) : St := ⟨(up (up (fun _ => .un) 4 (.d (.int .i64 p28))) 1 (.r (.ptr 16 0 0))), (up (hB fun _ => 0) 16 ⟨0, some (.box ((eU8.row 19 a1.Levels) ++ ((eU8.row 19 a1.Chars) ++ [])))⟩)⟩
noncomputable def f10_l1_j3 (a1 : GKeys) (p28 : Int) : Option (Int ⊕ (Unit ⊕ Int)) := ((inR p28 19).bind fun m7 => (bif (decide (2 < ((a1.Levels m7).toNat : Int))) then (some (.inr (.inr 4))) else (bif (decide (p28 = 0)) then ((inR p28 19).bind fun m8 => ((inR p28 19).bind fun m9 => (bif (!decide ((((a1.Levels m8) + (a1.Chars m9)).toNat : Int) = 0)) then (some (.inr (.inr 4))) else (some (.inl (IntKind.i64.wrap (p28 + 1))))))) else (some (.inl (IntKind.i64.wrap (p28 + 1)))))))
theorem f10_l1_j3_ok {d : Nat} (hd : 1 ≤ d) (a1 : GKeys) {r : Int ⊕ (Unit ⊕ Int)} {Q : PX → St → Prop} (hQ : ∀ e st', finL (f10_l1_H a1) (f10_l1_X a1) r e st' → Q e st') (p28 : Int) (hS : f10_l1_j3 a1 p28 = some r) {st : St} (he : keepSt [1, 4] [(16, .id 16)] [] st = f10_l1_j3_J a1 p28) : ZR (lev codes baseL (d - 1)) Q c10_2 [] st := by
  refine zrKeep he ?_
  unfold f10_l1_j3 at hS
  refine zrSeq ?_
  refine zrBlk ?_
  refine zrSeq ?_
  refine zrReg ?_
  refine zlRun (n := 2) (j := 2) rfl (by kernel_rfl) ?_
  refine zlEnd (by kernel_rfl) ?_
  refine zkSeq ?_
  refine zrSeq ?_
  refine zrRegD ?_
  refine zdRun (n := 2) (j := 2) (ts := [[], []]) (acc' := [[], []]) rfl (by kernel_rfl) (by kernel_rfl) (by kernel_rfl) ?_
  refine bindE hS (fun m7 hm7 hS => ?_)
  refine zdOp (d := some 9) (op := (.ixA 19 1 (.tmp 8) (.tmp 7))) (g := none) (v := (.r (.ptr 16 0 (0 + m7 * 1)))) (ups := []) (j := 3) (t1 := []) (acc' := [[], [], []]) (by kernel_rfl) (by kernel_rfl) rfl (by kernel_rfl) (by kernel_rfl) (ev_ixA (kk := .i64) (b := 16) (g := 0) (o := 0) (j := p28) (by kernel_rfl) (by kernel_rfl) hm7) ?_
  refine zdOp (d := some 10) (op := (.load .false 1 (.tmp 9))) (g := none) (v := (.d (.int .u8 ((a1.Levels m7).toNat : Int)))) (ups := []) (j := 4) (t1 := [(16, false)]) (acc' := [[], [], [], [(16, false)]]) (by kernel_rfl) (by kernel_rfl) rfl (by kernel_rfl) (by kernel_rfl) (ev_loadA eU8 (b := 16) (g := 0) (o := 0 + m7 * 1) (f := a1.Levels) (nn := 19) (m := m7) (fo := 0) (pre := []) (post := ((eU8.row 19 a1.Chars) ++ [])) (by kernel_rfl) (by kernel_rfl) (by kernel_rfl) (inR_lt hm7) (by kernel_rfl) (by kernel_rfl) (by kernel_rfl)) ?_
  refine zdBool (d := 11) (op := (.cmpI .gtr (.tmp 10) (.const (.int .u8 2)))) (g := none) (j := 5) (t1 := []) (acc' := [[], [], [], [(16, false)], []]) (decide (2 < ((a1.Levels m7).toNat : Int))) (by kernel_rfl) (by kernel_rfl) rfl (by kernel_rfl) (by kernel_rfl) (by kernel_rfl) (fun hc => ?_) (fun hc => ?_)
  · replace hS := cond_t hc hS
    refine zdRun (n := 16) (j := 21) (ts := [[], [], [], [], [], [], [], [], [], [], [], [], [], [], [], []]) (acc' := [[], [], [], [(16, false)], [], [], [], [], [], [], [], [], [], [], [], [], [], [], [], [], []]) rfl (by kernel_rfl) (by kernel_rfl) (by kernel_rfl) ?_
    refine zdEnd (by kernel_rfl) (by kernel_rfl) ?_
    refine zkSeq ?_
    refine zrCondT (by kernel_rfl) ?_
    refine zrSeq ?_
    refine zrReg ?_
    refine zlRun (n := 1) (j := 1) rfl (by kernel_rfl) ?_
    refine zlEnd (by kernel_rfl) ?_
    refine zkSeq ?_
    refine zrRet ?_
    refine zkBlkR ?_
    refine zkSeqR ?_
    refine zkNil ?_
    exact endQ hS hQ (finL_x (by intro h; cases h) (by show _ = _ ∧ _ = _; exact ⟨rfl, by kernel_rfl⟩))
  · replace hS := cond_f hc hS
    refine zdRun (n := 2) (j := 7) (ts := [[], []]) (acc' := [[], [], [], [(16, false)], [], [], []]) rfl (by kernel_rfl) (by kernel_rfl) (by kernel_rfl) ?_
    refine zdBool (d := 14) (op := (.cmpI .eql (.tmp 13) (.const (.int .i64 0)))) (g := (some (12, false))) (j := 8) (t1 := []) (acc' := [[], [], [], [(16, false)], [], [], [], []]) (decide (p28 = 0)) (by kernel_rfl) (by kernel_rfl) rfl (by kernel_rfl) (by kernel_rfl) (by kernel_rfl) (fun hc => ?_) (fun hc => ?_)
    · replace hS := cond_t hc hS
      refine zdRun (n := 3) (j := 11) (ts := [[], [], []]) (acc' := [[], [], [], [(16, false)], [], [], [], [], [], [], []]) rfl (by kernel_rfl) (by kernel_rfl) (by kernel_rfl) ?_
      refine bindE hS (fun m8 hm8 hS => ?_)
      refine zdOp (d := some 18) (op := (.ixA 19 1 (.tmp 17) (.tmp 16))) (g := (some (15, true))) (v := (.r (.ptr 16 0 (0 + m8 * 1)))) (ups := []) (j := 12) (t1 := []) (acc' := [[], [], [], [(16, false)], [], [], [], [], [], [], [], []]) (by kernel_rfl) (by kernel_rfl) rfl (by kernel_rfl) (by kernel_rfl) (ev_ixA (kk := .i64) (b := 16) (g := 0) (o := 0) (j := p28) (by kernel_rfl) (by kernel_rfl) hm8) ?_
      refine zdOp (d := some 19) (op := (.load .false 1 (.tmp 18))) (g := (some (15, true))) (v := (.d (.int .u8 ((a1.Levels m8).toNat : Int)))) (ups := []) (j := 13) (t1 := [(16, false)]) (acc' := [[], [], [], [(16, false)], [], [], [], [], [], [], [], [], [(16, false)]]) (by kernel_rfl) (by kernel_rfl) rfl (by kernel_rfl) (by kernel_rfl) (ev_loadA eU8 (b := 16) (g := 0) (o := 0 + m8 * 1) (f := a1.Levels) (nn := 19) (m := m8) (fo := 0) (pre := []) (post := ((eU8.row 19 a1.Chars) ++ [])) (by kernel_rfl) (by kernel_rfl) (by kernel_rfl) (inR_lt hm8) (by kernel_rfl) (by kernel_rfl) (by kernel_rfl)) ?_
      refine zdRun (n := 2) (j := 15) (ts := [[], []]) (acc' := [[], [], [], [(16, false)], [], [], [], [], [], [], [], [], [(16, false)], [], []]) rfl (by kernel_rfl) (by kernel_rfl) (by kernel_rfl) ?_
      refine bindE hS (fun m9 hm9 hS => ?_)
      refine zdOp (d := some 22) (op := (.ixA 19 1 (.tmp 21) (.tmp 20))) (g := (some (15, true))) (v := (.r (.ptr 16 0 (19 + m9 * 1)))) (ups := []) (j := 16) (t1 := []) (acc' := [[], [], [], [(16, false)], [], [], [], [], [], [], [], [], [(16, false)], [], [], []]) (by kernel_rfl) (by kernel_rfl) rfl (by kernel_rfl) (by kernel_rfl) (ev_ixA (kk := .i64) (b := 16) (g := 0) (o := 19) (j := p28) (by kernel_rfl) (by kernel_rfl) hm9) ?_
      refine zdOp (d := some 23) (op := (.load .false 1 (.tmp 22))) (g := (some (15, true))) (v := (.d (.int .u8 ((a1.Chars m9).toNat : Int)))) (ups := []) (j := 17) (t1 := [(16, false)]) (acc' := [[], [], [], [(16, false)], [], [], [], [], [], [], [], [], [(16, false)], [], [], [], [(16, false)]]) (by kernel_rfl) (by kernel_rfl) rfl (by kernel_rfl) (by kernel_rfl) (ev_loadA eU8 (b := 16) (g := 0) (o := 19 + m9 * 1) (f := a1.Chars) (nn := 19) (m := m9) (fo := 0) (pre := ((eU8.row 19 a1.Levels) ++ [])) (post := []) (by kernel_rfl) (by kernel_rfl) (by kernel_rfl) (inR_lt hm9) (by kernel_rfl) (by kernel_rfl) (by kernel_rfl)) ?_
      refine zdOp (d := some 24) (op := (.arI .add (.tmp 19) (.tmp 23))) (g := (some (15, true))) (v := (.d (.int .u8 (((a1.Levels m8) + (a1.Chars m9)).toNat : Int)))) (ups := []) (j := 18) (t1 := []) (acc' := [[], [], [], [(16, false)], [], [], [], [], [], [], [], [], [(16, false)], [], [], [], [(16, false)], []]) (by kernel_rfl) (by kernel_rfl) rfl (by kernel_rfl) (by kernel_rfl) (ev_arI (kk := .u8) (a := ((a1.Levels m8).toNat : Int)) (c := ((a1.Chars m9).toNat : Int)) (by kernel_rfl) (by kernel_rfl) (ar_add8 (a1.Levels m8) (a1.Chars m9))) ?_
      refine zdBool (d := 25) (op := (.cmpI .neq (.tmp 24) (.const (.int .u8 0)))) (g := (some (15, true))) (j := 19) (t1 := []) (acc' := [[], [], [], [(16, false)], [], [], [], [], [], [], [], [], [(16, false)], [], [], [], [(16, false)], [], []]) (!decide ((((a1.Levels m8) + (a1.Chars m9)).toNat : Int) = 0)) (by kernel_rfl) (by kernel_rfl) rfl (by kernel_rfl) (by kernel_rfl) (by kernel_rfl) (fun hc => ?_) (fun hc => ?_)
      · replace hS := cond_t hc hS
        refine zdRun (n := 2) (j := 21) (ts := [[], []]) (acc' := [[], [], [], [(16, false)], [], [], [], [], [], [], [], [], [(16, false)], [], [], [], [(16, false)], [], [], [], []]) rfl (by kernel_rfl) (by kernel_rfl) (by kernel_rfl) ?_
        refine zdEnd (by kernel_rfl) (by kernel_rfl) ?_
        refine zkSeq ?_
        refine zrCondT (by kernel_rfl) ?_
        refine zrSeq ?_
        refine zrReg ?_
        refine zlRun (n := 1) (j := 1) rfl (by kernel_rfl) ?_
        refine zlEnd (by kernel_rfl) ?_
        refine zkSeq ?_
        refine zrRet ?_
        refine zkBlkR ?_
        refine zkSeqR ?_
        refine zkNil ?_
        exact endQ hS hQ (finL_x (by intro h; cases h) (by show _ = _ ∧ _ = _; exact ⟨rfl, by kernel_rfl⟩))
      · replace hS := cond_f hc hS
        refine zdRun (n := 2) (j := 21) (ts := [[], []]) (acc' := [[], [], [], [(16, false)], [], [], [], [], [], [], [], [], [(16, false)], [], [], [], [(16, false)], [], [], [], []]) rfl (by kernel_rfl) (by kernel_rfl) (by kernel_rfl) ?_
        refine zdEnd (by kernel_rfl) (by kernel_rfl) ?_
        refine zkSeq ?_
        refine zrCondF (by kernel_rfl) ?_
        refine zrSkip ?_
        refine zkBlk ?_
        refine zkSeq ?_
        refine zrReg ?_
        refine zlRun (n := 2) (j := 2) rfl (by kernel_rfl) ?_
        refine zlEnd (by kernel_rfl) ?_
        refine zkNil ?_
        exact endQ hS hQ (finL_n (by show keepSt _ _ _ _ = _; kernel_rfl))
    · replace hS := cond_f hc hS
      refine zdRun (n := 13) (j := 21) (ts := [[], [], [], [], [], [], [], [], [], [], [], [], []]) (acc' := [[], [], [], [(16, false)], [], [], [], [], [], [], [], [], [], [], [], [], [], [], [], [], []]) rfl (by kernel_rfl) (by kernel_rfl) (by kernel_rfl) ?_
      refine zdEnd (by kernel_rfl) (by kernel_rfl) ?_
      refine zkSeq ?_
      refine zrCondF (by kernel_rfl) ?_
      refine zrSkip ?_
      refine zkBlk ?_
      refine zkSeq ?_
      refine zrReg ?_
      refine zlRun (n := 2) (j := 2) rfl (by kernel_rfl) ?_
      refine zlEnd (by kernel_rfl) ?_
      refine zkNil ?_
      exact endQ hS hQ (finL_n (by show keepSt _ _ _ _ = _; kernel_rfl))
def f10_l1_j2_J (a1 : GKeys) (p26 : Int) (p27 : Bool) : St := ⟨(up (up (up (fun _ => .un) 5 (.d (.bool p27))) 4 (.d (.int .i64 p26))) 1 (.r (.ptr 16 0 0))), (up (hB fun _ => 0) 16 ⟨0, some (.box ((eU8.row 19 a1.Levels) ++ ((eU8.row 19 a1.Chars) ++ [])))⟩)⟩
noncomputable def f10_l1_j2 (a1 : GKeys) (p26 : Int) (p27 : Bool) : Option (Int ⊕ (Unit ⊕ Int)) := (bif p27 then (f10_l1_j3 a1 p26) else (some (.inr (.inl ()))))
theorem f10_l1_j2_ok {d : Nat} (hd : 1 ≤ d) (a1 : GKeys) {r : Int ⊕ (Unit ⊕ Int)} {Q : PX → St → Prop} (hQ : ∀ e st', finL (f10_l1_H a1) (f10_l1_X a1) r e st' → Q e st') (p26 : Int) (p27 : Bool) (hS : f10_l1_j2 a1 p26 p27 = some r) {st : St} (he : keepSt [1, 4, 5] [(16, .id 16)] [] st = f10_l1_j2_J a1 p26 p27) : ZR (lev codes baseL (d - 1)) Q c10_3 [] st := by
  refine zrKeep he ?_
  unfold f10_l1_j2 at hS
  refine zrSeq ?_
  refine zrSplit 5 p27 (by kernel_rfl) (fun hc => ?_) (fun hc => ?_)
  · replace hS := cond_t hc hS
    refine zrCondT (by kernel_rfl) ?_
    refine zrSkip ?_
    refine zkSeq ?_
    exact f10_l1_j3_ok hd a1 hQ p26 hS (by kernel_rfl)
  · replace hS := cond_f hc hS
    refine zrCondF (by kernel_rfl) ?_
    refine zrKeep (J := f10_l1_e0_J a1) (by kernel_rfl) ?_
    refine zrExit ?_
    refine zkSeqX ?_
    refine zkNil ?_
    exact endQ hS hQ (finL_x (by intro h; cases h) (by show _ = _ ∧ _ = _; exact ⟨rfl, rfl⟩))
noncomputable def f10_l1 (a1 : GKeys) (x : Int) : Option (Int ⊕ (Unit ⊕ Int)) := (bif (decide (x < 19)) then (f10_l1_j2 a1 x true) else (f10_l1_j2 a1 x false))
theorem f10_l1_ok {d : Nat} (hd : 1 ≤ d) (a1 : GKeys) {r : Int ⊕ (Unit ⊕ Int)} {Q : PX → St → Prop} (hQ : ∀ e st', finL (f10_l1_H a1) (f10_l1_X a1) r e st' → Q e st') {x : Int} (hS : f10_l1 a1 x = some r) {st : St} (he : f10_l1_H a1 x st) : ZR (lev codes baseL (d - 1)) Q c10_4 [] st := by
  refine zrKeep he ?_
  unfold f10_l1 at hS
  refine zrSeq ?_
  refine zrReg ?_
  refine zlBool (d := 5) (op := (.cmpI .lss (.tmp 4) (.const (.int .i64 19)))) (g := none) (j := 1) (decide (x < 19)) rfl (by kernel_rfl) (by kernel_rfl) (by kernel_rfl) (fun hc => ?_) (fun hc => ?_)
  · replace hS := cond_t hc hS
    refine zlEnd (by kernel_rfl) ?_
    refine zkSeq ?_
    exact f10_l1_j2_ok hd a1 hQ x true hS (by kernel_rfl)
  · replace hS := cond_f hc hS
    refine zlEnd (by kernel_rfl) ?_
    refine zkSeq ?_
    exact f10_l1_j2_ok hd a1 hQ x false hS (by kernel_rfl)
noncomputable def f10 (a1 : GKeys) : Option (Int) := ((loopO (f10_l1 a1) 0).bind fun z10 => (Sum.elim (fun z11 => (f10_j0 a1 )) (fun z12 => (some z12)) z10))
theorem f10_ok (d : Nat) (hd : 1 ≤ d) (a1 : GKeys) (r : Int) (hS : f10 a1 = some r) : lev codes baseL d 10 [(.agg ((eU8.row 19 a1.Levels) ++ ((eU8.row 19 a1.Chars) ++ [])))] [] = some ((.d (.int .i64 r)), []) := by
  refine lev_go codes10 rfl rfl (Nat.le_trans (Nat.le_of_ble_eq_true rfl) hd) fun Q hQ => ?_
  unfold f10 at hS
  show ZR _ Q c10_b [] _
  replace hQ : ∀ e st', f10_Q r e st' → Q e st' := hQ
  refine zrSeq ?_
  refine zrReg ?_
  refine zlRun (n := 2) (j := 2) rfl (by kernel_rfl) ?_
  refine zlEnd (by kernel_rfl) ?_
  refine zkSeq ?_
  refine zrSeq ?_
  refine zrSeq ?_
  refine zrReg ?_
  refine zlRun (n := 1) (j := 1) rfl (by kernel_rfl) ?_
  refine zlEnd (by kernel_rfl) ?_
  refine zkSeq ?_
  refine zrBlk ?_
  refine bindE hS (fun z10 hz10 hS => ?_)
  refine zrLoop (f10_l1_H a1) (f10_l1_X a1) (fun x st r Q h0 hS hQ => f10_l1_ok hd a1 hQ hS h0) (x := 0) (z := z10) (by show keepSt _ _ _ _ = _; kernel_rfl) hz10 ?_
  rcases z10 with z11 | z12
  · replace hS := (show _ = _ from hS)
    simp only [Sum.elim_inl] at hS
    intro e st' _ hX
    obtain ⟨rfl, rfl⟩ : _ ∧ _ := hX
    refine zkBlkX ?_
    refine zkSeq ?_
    exact f10_j0_ok hd a1 hQ  hS (by kernel_rfl)
  · simp only [Sum.elim_inr] at hS
    intro e st' _ hX
    obtain ⟨rfl, hX⟩ : _ ∧ _ := hX
    refine zkBlkR ?_
    refine zkSeqR ?_
    refine zkNil ?_
    exact endQ hS hQ (fRet (by kernel_rfl) ((congrArg (fun s => outR s 0 c10.res) hX).trans (f10_out z12)))
/- farwriter/farkeep.LineQuotes -/
def f3_fin (p20 : Bool) : St := ⟨(up (fun _ => .un) 6 (.d (.bool p20))), (hB fun _ => 0)⟩
theorem f3_out (p20 : Bool) : outR (f3_fin p20) 0 c3.res = some ((.d (.bool p20)), []) := by
  kernel_rfl
def f3_Q (r : Bool) (e : PX) (st : St) : Prop := DoneF c3 0 ((.d (.bool r)), []) e st
def f3_j1_J (a1 : GKeys) (a2 : GMask) (a3 : List UInt8) (p22 : List UInt8) : St := ⟨(up (up (up (up (fun _ => .un) 7 (.r (.ptr 64 0 0))) 4 (.r (.ptr 40 0 0))) 3 (.r (.ptr 32 0 0))) 2 (.d (.str a3))), (up (up (up (up (hB fun _ => 0) 649 ⟨0, some (.own 5 1 (eU8.cells p22))⟩) 64 ⟨0, some (.box ((.tup [.un, (.d (.int .i64 37))]) :: ((.r (.msl 649 0 0 p22.length)) :: [])))⟩) 40 ⟨0, some (.box (((eInt .u64).row 4 a2.Bits) ++ []))⟩) 32 ⟨0, some (.box ((eU8.row 19 (upd a1.Levels 14 2)) ++ ((eU8.row 19 (upd a1.Chars 14 22)) ++ [])))⟩)⟩
noncomputable def f3_j1 (a1 : GKeys) (a2 : GMask) (a3 : List UInt8) (p22 : List UInt8) : Option (Bool) := ((f8 (GEditor.mk ([]) false) (GKeys.mk (upd a1.Levels 14 2) (upd a1.Chars 14 22)) a2 p22).bind fun z20 => ((f10 (GKeys.mk (upd a1.Levels 14 2) (upd a1.Chars 14 22))).bind fun z21 => (bif (decide (z20.2.2.2 = z21)) then (bif (!decide (z20.2.2.2 = 0)) then (some true) else (bif (decide (z20.1.Buf = a3) && (decide (z20.1.Quote = false) && true)) then (bif (decide ((z20.2.1.length : Int) = 0)) then (bif (decide (z20.2.2.1 = a3)) then (some true) else (some false)) else (some false)) else (some false))) else (some false))))
theorem f3_j1_ok {d : Nat} (hd : 6 ≤ d) (a1 : GKeys) (a2 : GMask) (a3 : List UInt8) {r : Bool} {Q : PX → St → Prop} (hQ : ∀ e st', f3_Q r e st' → Q e st') (p22 : List UInt8) (hS : f3_j1 a1 a2 a3 p22 = some r) {st : St} (he : keepSt [2, 3, 4, 7] [(32, .id 32), (40, .id 40), (64, .id 64), (649, .id 649)] [] st = f3_j1_J a1 a2 a3 p22) : ZR (lev codes baseL (d - 1)) Q c3_1 [] st := by
  refine zrKeep he ?_
  unfold f3_j1 at hS
  refine zrSeq ?_
  refine zrRegD ?_
  refine zdRun (n := 3) (j := 3) (ts := [[], [(32, false)], [(40, false)]]) (acc' := [[], [(32, false)], [(40, false)]]) rfl (by kernel_rfl) (by kernel_rfl) (by kernel_rfl) ?_
  refine zdOp (d := some 47) (op := (.callr 9 [(.tmp 7)])) (g := none) (j := 4) (t1 := [(64, true), (649, true), (64, false), (384, true), (385, true), (386, true), (387, true), (388, true), (389, true), (390, true), (391, true)]) (acc' := [[], [(32, false)], [(40, false)], [(64, true), (649, true), (64, false), (384, true), (385, true), (386, true), (387, true), (388, true), (389, true), (390, true), (391, true)]]) (by kernel_rfl) (by kernel_rfl) rfl (by kernel_rfl) (by kernel_rfl) (ev_callrA (ids := [64, 649]) (by kernel_rfl) (by kernel_rfl) (by kernel_rfl) (libBS_ok (d - 1) (dpt hd rfl) p22) (by kernel_rfl)) ?_
  refine bindE hS (fun z20 hz20 hS => ?_)
  refine zdOp (d := some 48) (op := (.call 8 [(.tmp 44), (.tmp 45), (.tmp 46), (.tmp 47)])) (g := none) (j := 5) (t1 := [(392, true), (393, true), (394, true), (395, true), (396, true), (397, true), (398, true), (399, true)]) (acc' := [[], [(32, false)], [(40, false)], [(64, true), (649, true), (64, false), (384, true), (385, true), (386, true), (387, true), (388, true), (389, true), (390, true), (391, true)], [(392, true), (393, true), (394, true), (395, true), (396, true), (397, true), (398, true), (399, true)]]) (by kernel_rfl) (by kernel_rfl) rfl (by kernel_rfl) (by kernel_rfl) (ev_callA (by kernel_rfl) (f8_ok (d - 1) (dpt hd rfl) (GEditor.mk ([]) false) (GKeys.mk (upd a1.Levels 14 2) (upd a1.Chars 14 22)) a2 p22 z20 hz20) (by kernel_rfl) (by kernel_rfl)) ?_
  refine zdRun (n := 10) (j := 15) (ts := [[], [], [], [], [], [(80, true)], [(80, true)], [], [], []]) (acc' := [[], [(32, false)], [(40, false)], [(64, true), (649, true), (64, false), (384, true), (385, true), (386, true), (387, true), (388, true), (389, true), (390, true), (391, true)], [(392, true), (393, true), (394, true), (395, true), (396, true), (397, true), (398, true), (399, true)], [], [], [], [], [], [(80, true)], [(80, true)], [], [], []]) rfl (by kernel_rfl) (by kernel_rfl) (by kernel_rfl) ?_
  refine zdEnd (by kernel_rfl) (by kernel_rfl) ?_
  refine zkSeq ?_
  refine zrSeq ?_
  refine zrReg ?_
  refine zlRun (n := 2) (j := 2) rfl (by kernel_rfl) ?_
  refine bindE hS (fun z21 hz21 hS => ?_)
  refine zlOp (d := some 55) (op := (.call 10 [(.tmp 54)])) (g := none) (j := 3) rfl (by kernel_rfl) (by kernel_rfl) (ev_callA (by kernel_rfl) (f10_ok (d - 1) (dpt hd rfl) (GKeys.mk (upd a1.Levels 14 2) (upd a1.Chars 14 22)) z21 hz21) (by kernel_rfl) (by kernel_rfl)) ?_
  refine zlBool (d := 56) (op := (.cmpI .eql (.tmp 53) (.tmp 55))) (g := none) (j := 4) (decide (z20.2.2.2 = z21)) rfl (by kernel_rfl) (by kernel_rfl) (by kernel_rfl) (fun hc => ?_) (fun hc => ?_)
  · replace hS := cond_t hc hS
    refine zlRun (n := 2) (j := 6) rfl (by kernel_rfl) ?_
    refine zlBool (d := 59) (op := (.cmpI .neq (.tmp 58) (.const (.int .i64 0)))) (g := (some (57, true))) (j := 7) (!decide (z20.2.2.2 = 0)) rfl (by kernel_rfl) (by kernel_rfl) (by kernel_rfl) (fun hc => ?_) (fun hc => ?_)
    · replace hS := cond_t hc hS
      refine zlRun (n := 18) (j := 25) rfl (by kernel_rfl) ?_
      refine zlEnd (by kernel_rfl) ?_
      refine zkSeq ?_
      refine zrRet ?_
      refine zkNil ?_
      exact endQ hS hQ (fRet (by kernel_rfl) ((congrArg (fun s => outR s 0 c3.res) (by kernel_rfl : finSt c3.fin _ = f3_fin true)).trans (f3_out true)))
    · replace hS := cond_f hc hS
      refine zlRun (n := 4) (j := 11) rfl (by kernel_rfl) ?_
      refine zlBool (d := 64) (op := (.eqA .false [(1, .str), (1, .bool)] (.tmp 61) (.tmp 63))) (g := (some (60, false))) (j := 12) (decide (z20.1.Buf = a3) && (decide (z20.1.Quote = false) && true)) rfl (by kernel_rfl) (by kernel_rfl) (by kernel_rfl) (fun hc => ?_) (fun hc => ?_)
      · replace hS := cond_t hc hS
        refine zlRun (n := 3) (j := 15) rfl (by kernel_rfl) ?_
        refine zlBool (d := 68) (op := (.cmpI .eql (.tmp 67) (.const (.int .i64 0)))) (g := (some (65, true))) (j := 16) (decide ((z20.2.1.length : Int) = 0)) rfl (by kernel_rfl) (by kernel_rfl) (by kernel_rfl) (fun hc => ?_) (fun hc => ?_)
        · replace hS := cond_t hc hS
          refine zlRun (n := 4) (j := 20) rfl (by kernel_rfl) ?_
          refine zlBool (d := 73) (op := (.strO .eql (.tmp 71) (.tmp 72))) (g := (some (70, true))) (j := 21) (decide (z20.2.2.1 = a3)) rfl (by kernel_rfl) (by kernel_rfl) (by kernel_rfl) (fun hc => ?_) (fun hc => ?_)
          · replace hS := cond_t hc hS
            refine zlRun (n := 4) (j := 25) rfl (by kernel_rfl) ?_
            refine zlEnd (by kernel_rfl) ?_
            refine zkSeq ?_
            refine zrRet ?_
            refine zkNil ?_
            exact endQ hS hQ (fRet (by kernel_rfl) ((congrArg (fun s => outR s 0 c3.res) (by kernel_rfl : finSt c3.fin _ = f3_fin true)).trans (f3_out true)))
          · replace hS := cond_f hc hS
            refine zlRun (n := 4) (j := 25) rfl (by kernel_rfl) ?_
            refine zlEnd (by kernel_rfl) ?_
            refine zkSeq ?_
            refine zrRet ?_
            refine zkNil ?_
            exact endQ hS hQ (fRet (by kernel_rfl) ((congrArg (fun s => outR s 0 c3.res) (by kernel_rfl : finSt c3.fin _ = f3_fin false)).trans (f3_out false)))
        · replace hS := cond_f hc hS
          refine zlRun (n := 9) (j := 25) rfl (by kernel_rfl) ?_
          refine zlEnd (by kernel_rfl) ?_
          refine zkSeq ?_
          refine zrRet ?_
          refine zkNil ?_
          exact endQ hS hQ (fRet (by kernel_rfl) ((congrArg (fun s => outR s 0 c3.res) (by kernel_rfl : finSt c3.fin _ = f3_fin false)).trans (f3_out false)))
      · replace hS := cond_f hc hS
        refine zlRun (n := 13) (j := 25) rfl (by kernel_rfl) ?_
        refine zlEnd (by kernel_rfl) ?_
        refine zkSeq ?_
        refine zrRet ?_
        refine zkNil ?_
        exact endQ hS hQ (fRet (by kernel_rfl) ((congrArg (fun s => outR s 0 c3.res) (by kernel_rfl : finSt c3.fin _ = f3_fin false)).trans (f3_out false)))
  · replace hS := cond_f hc hS
    refine zlRun (n := 21) (j := 25) rfl (by kernel_rfl) ?_
    refine zlEnd (by kernel_rfl) ?_
    refine zkSeq ?_
    refine zrRet ?_
    refine zkNil ?_
    exact endQ hS hQ (fRet (by kernel_rfl) ((congrArg (fun s => outR s 0 c3.res) (by kernel_rfl : finSt c3.fin _ = f3_fin false)).trans (f3_out false)))
def f3_l2_J (a1 : GKeys) (a2 : GMask) (a3 : List UInt8) (x : (List UInt8) × Int) : St := ⟨(up (up (up (up (up (up (fun _ => .un) 32 (.d (.int .i64 x.2))) 31 (.d (.int .i64 (a3.length : Int)))) 7 (.r (.ptr 64 0 0))) 4 (.r (.ptr 40 0 0))) 3 (.r (.ptr 32 0 0))) 2 (.d (.str a3))), (up (up (up (up (hB fun _ => 0) 649 ⟨0, some (.own 5 1 (eU8.cells x.1))⟩) 64 ⟨0, some (.box ((.tup [.un, (.d (.int .i64 37))]) :: ((.r (.msl 649 0 0 x.1.length)) :: [])))⟩) 40 ⟨0, some (.box (((eInt .u64).row 4 a2.Bits) ++ []))⟩) 32 ⟨0, some (.box ((eU8.row 19 (upd a1.Levels 14 2)) ++ ((eU8.row 19 (upd a1.Chars 14 22)) ++ [])))⟩)⟩
def f3_l2_H (a1 : GKeys) (a2 : GMask) (a3 : List UInt8) (x : (List UInt8) × Int) (st : St) : Prop := keepSt [2, 3, 4, 7, 31, 32] [(32, .id 32), (40, .id 40), (64, .id 64), (649, (.cell 64 1))] [.cell 64 1 649 5 1] st = f3_l2_J a1 a2 a3 x
def f3_l2_e0_J (a1 : GKeys) (a2 : GMask) (a3 : List UInt8) (p15 : List UInt8) : St := ⟨(up (up (up (up (fun _ => .un) 7 (.r (.ptr 64 0 0))) 4 (.r (.ptr 40 0 0))) 3 (.r (.ptr 32 0 0))) 2 (.d (.str a3))), (up (up (up (up (hB fun _ => 0) 649 ⟨0, some (.own 5 1 (eU8.cells p15))⟩) 64 ⟨0, some (.box ((.tup [.un, (.d (.int .i64 37))]) :: ((.r (.msl 649 0 0 p15.length)) :: [])))⟩) 40 ⟨0, some (.box (((eInt .u64).row 4 a2.Bits) ++ []))⟩) 32 ⟨0, some (.box ((eU8.row 19 (upd a1.Levels 14 2)) ++ ((eU8.row 19 (upd a1.Chars 14 22)) ++ [])))⟩)⟩
def f3_l2_X (a1 : GKeys) (a2 : GMask) (a3 : List UInt8) (z : ((List UInt8))) (e : PX) (st : St) : Prop := e = .exit 0 ∧ st = f3_l2_e0_J a1 a2 a3 z
def f3_l2_j4_J (a1 : GKeys) (a2 : GMask) (a3 : List UInt8) (p29 : List UInt8) (p30 : Int) : St := ⟨(up (up (up (up (up (up (fun _ => .un) 32 (.d (.int .i64 p30))) 31 (.d (.int .i64 (a3.length : Int)))) 7 (.r (.ptr 64 0 0))) 4 (.r (.ptr 40 0 0))) 3 (.r (.ptr 32 0 0))) 2 (.d (.str a3))), (up (up (up (up (hB fun _ => 0) 649 ⟨0, some (.own 5 1 (eU8.cells p29))⟩) 64 ⟨0, some (.box ((.tup [.un, (.d (.int .i64 37))]) :: ((.r (.msl 649 0 0 p29.length)) :: [])))⟩) 40 ⟨0, some (.box (((eInt .u64).row 4 a2.Bits) ++ []))⟩) 32 ⟨0, some (.box ((eU8.row 19 (upd a1.Levels 14 2)) ++ ((eU8.row 19 (upd a1.Chars 14 22)) ++ [])))⟩)⟩
noncomputable def f3_l2_j4 (a1 : GKeys) (a2 : GMask) (a3 : List UInt8) (p29 : List UInt8) (p30 : Int) : Option (((List UInt8) × Int) ⊕ (((List UInt8)))) := ((sub? a3 p30 (IntKind.i64.wrap (p30 + 1))).bind fun z22 => ((cat? ([22] : List UInt8) z22).bind fun z23 => ((blw? p29 z23).bind fun z24 => (some (.inl (z24, (IntKind.i64.wrap (p30 + 1))))))))
theorem f3_l2_j4_ok {d : Nat} (hd : 6 ≤ d) (a1 : GKeys) (a2 : GMask) (a3 : List UInt8) {r : ((List UInt8) × Int) ⊕ (((List UInt8)))} {Q : PX → St → Prop} (hQ : ∀ e st', finL (f3_l2_H a1 a2 a3) (f3_l2_X a1 a2 a3) r e st' → Q e st') (p29 : List UInt8) (p30 : Int) (hS : f3_l2_j4 a1 a2 a3 p29 p30 = some r) {st : St} (he : keepSt [2, 3, 4, 7, 31, 32] [(32, .id 32), (40, .id 40), (64, .id 64), (649, .id 649)] [] st = f3_l2_j4_J a1 a2 a3 p29 p30) : ZR (lev codes baseL (d - 1)) Q c3_2 [] st := by
  refine zrKeep he ?_
  unfold f3_l2_j4 at hS
  refine zrSeq ?_
  refine zrBlk ?_
  refine zrSeq ?_
  refine zrReg ?_
  refine zlRun (n := 2) (j := 2) rfl (by kernel_rfl) ?_
  refine zlEnd (by kernel_rfl) ?_
  refine zkSeq ?_
  refine zrReg ?_
  refine zlRun (n := 4) (j := 4) rfl (by kernel_rfl) ?_
  refine bindE hS (fun z22 hz22 hS => ?_)
  refine zlOp (d := some 39) (op := (.slStr (.tmp 35) (.some (.tmp 36)) (.some (.tmp 38)))) (g := none) (v := (.d (.str z22))) (ups := []) (j := 5) rfl (by kernel_rfl) (by kernel_rfl) (ev_slStr (s := a3) (a := p30) (c := (IntKind.i64.wrap (p30 + 1))) (by kernel_rfl) (bnd_s _ (kk := .i64) (j := p30) (by kernel_rfl)) (bnd_s _ (kk := .i64) (j := (IntKind.i64.wrap (p30 + 1))) (by kernel_rfl)) hz22) ?_
  refine bindE hS (fun z23 hz23 hS => ?_)
  refine zlOp (d := some 40) (op := (.strO .add (.const (.string ⟨#[22]⟩)) (.tmp 39))) (g := none) (v := (.d (.str z23))) (ups := []) (j := 6) rfl (by kernel_rfl) (by kernel_rfl) (ev_cat (a := [22]) (c := z22) (by kernel_rfl) (by kernel_rfl) hz23) ?_
  refine bindE hS (fun z24 hz24 hS => ?_)
  refine zlOp (d := some 41) (op := (.callr 7 [(.tmp 7), (.tmp 40)])) (g := none) (j := 7) rfl (by kernel_rfl) (by kernel_rfl) (ev_callrA (ids := [64, 649]) (by kernel_rfl) (by kernel_rfl) (by kernel_rfl) (libBW_ok (d - 1) (dpt hd rfl) p29 z23 z24 hz24) (by kernel_rfl)) ?_
  refine zlEnd (by kernel_rfl) ?_
  refine zkBlk ?_
  refine zkSeq ?_
  refine zrReg ?_
  refine zlRun (n := 2) (j := 2) rfl (by kernel_rfl) ?_
  refine zlEnd (by kernel_rfl) ?_
  refine zkNil ?_
  exact endQ hS hQ (finL_n (by show keepSt _ _ _ _ = _; kernel_rfl))
def f3_l2_j3_J (a1 : GKeys) (a2 : GMask) (a3 : List UInt8) (p26 : List UInt8) (p27 : Int) (p28 : Bool) : St := ⟨(up (up (up (up (up (up (up (fun _ => .un) 33 (.d (.bool p28))) 32 (.d (.int .i64 p27))) 31 (.d (.int .i64 (a3.length : Int)))) 7 (.r (.ptr 64 0 0))) 4 (.r (.ptr 40 0 0))) 3 (.r (.ptr 32 0 0))) 2 (.d (.str a3))), (up (up (up (up (hB fun _ => 0) 649 ⟨0, some (.own 5 1 (eU8.cells p26))⟩) 64 ⟨0, some (.box ((.tup [.un, (.d (.int .i64 37))]) :: ((.r (.msl 649 0 0 p26.length)) :: [])))⟩) 40 ⟨0, some (.box (((eInt .u64).row 4 a2.Bits) ++ []))⟩) 32 ⟨0, some (.box ((eU8.row 19 (upd a1.Levels 14 2)) ++ ((eU8.row 19 (upd a1.Chars 14 22)) ++ [])))⟩)⟩
noncomputable def f3_l2_j3 (a1 : GKeys) (a2 : GMask) (a3 : List UInt8) (p26 : List UInt8) (p27 : Int) (p28 : Bool) : Option (((List UInt8) × Int) ⊕ (((List UInt8)))) := (bif p28 then (f3_l2_j4 a1 a2 a3 p26 p27) else (some (.inr p26)))
theorem f3_l2_j3_ok {d : Nat} (hd : 6 ≤ d) (a1 : GKeys) (a2 : GMask) (a3 : List UInt8) {r : ((List UInt8) × Int) ⊕ (((List UInt8)))} {Q : PX → St → Prop} (hQ : ∀ e st', finL (f3_l2_H a1 a2 a3) (f3_l2_X a1 a2 a3) r e st' → Q e st') (p26 : List UInt8) (p27 : Int) (p28 : Bool) (hS : f3_l2_j3 a1 a2 a3 p26 p27 p28 = some r) {st : St} (he : keepSt [2, 3, 4, 7, 31, 32, 33] [(32, .id 32), (40, .id 40), (64, .id 64), (649, .id 649)] [] st = f3_l2_j3_J a1 a2 a3 p26 p27 p28) : ZR (lev codes baseL (d - 1)) Q c3_3 [] st := by
  refine zrKeep he ?_
  unfold f3_l2_j3 at hS
  refine zrSeq ?_
  refine zrSplit 33 p28 (by kernel_rfl) (fun hc => ?_) (fun hc => ?_)
  · replace hS := cond_t hc hS
    refine zrCondT (by kernel_rfl) ?_
    refine zrSkip ?_
    refine zkSeq ?_
    exact f3_l2_j4_ok hd a1 a2 a3 hQ p26 p27 hS (by kernel_rfl)
  · replace hS := cond_f hc hS
    refine zrCondF (by kernel_rfl) ?_
    refine zrKeep (J := f3_l2_e0_J a1 a2 a3 p26) (by kernel_rfl) ?_
    refine zrExit ?_
    refine zkSeqX ?_
    refine zkNil ?_
    exact endQ hS hQ (finL_x (by intro h; cases h) (by show _ = _ ∧ _ = _; exact ⟨rfl, rfl⟩))
noncomputable def f3_l2 (a1 : GKeys) (a2 : GMask) (a3 : List UInt8) (x : (List UInt8) × Int) : Option (((List UInt8) × Int) ⊕ (((List UInt8)))) := (bif (decide (x.2 < (a3.length : Int))) then (f3_l2_j3 a1 a2 a3 x.1 x.2 true) else (f3_l2_j3 a1 a2 a3 x.1 x.2 false))
theorem f3_l2_ok {d : Nat} (hd : 6 ≤ d) (a1 : GKeys) (a2 : GMask) (a3 : List UInt8) {r : ((List UInt8) × Int) ⊕ (((List UInt8)))} {Q : PX → St → Prop} (hQ : ∀ e st', finL (f3_l2_H a1 a2 a3) (f3_l2_X a1 a2 a3) r e st' → Q e st') {x : (List UInt8) × Int} (hS : f3_l2 a1 a2 a3 x = some r) {st : St} (he : f3_l2_H a1 a2 a3 x st) : ZR (lev codes baseL (d - 1)) Q c3_4 [] st := by
  refine zrKeep he ?_
  unfold f3_l2 at hS
  refine zrSeq ?_
  refine zrReg ?_
  refine zlBool (d := 33) (op := (.cmpI .lss (.tmp 32) (.tmp 31))) (g := none) (j := 1) (decide (x.2 < (a3.length : Int))) rfl (by kernel_rfl) (by kernel_rfl) (by kernel_rfl) (fun hc => ?_) (fun hc => ?_)
  · replace hS := cond_t hc hS
    refine zlEnd (by kernel_rfl) ?_
    refine zkSeq ?_
    exact f3_l2_j3_ok hd a1 a2 a3 hQ x.1 x.2 true hS (by kernel_rfl)
  · replace hS := cond_f hc hS
    refine zlEnd (by kernel_rfl) ?_
    refine zkSeq ?_
    exact f3_l2_j3_ok hd a1 a2 a3 hQ x.1 x.2 false hS (by kernel_rfl)
def f3_j0_J (a1 : GKeys) (a2 : GMask) (a3 : List UInt8) : St := ⟨(up (up (up (fun _ => .un) 4 (.r (.ptr 40 0 0))) 3 (.r (.ptr 32 0 0))) 2 (.d (.str a3))), (up (up (hB fun _ => 0) 40 ⟨0, some (.box (((eInt .u64).row 4 a2.Bits) ++ []))⟩) 32 ⟨0, some (.box ((eU8.row 19 (upd a1.Levels 14 2)) ++ ((eU8.row 19 (upd a1.Chars 14 22)) ++ [])))⟩)⟩
noncomputable def f3_j0 (a1 : GKeys) (a2 : GMask) (a3 : List UInt8) : Option (Bool) := ((loopO (f3_l2 a1 a2 a3) ([], 0)).bind fun z25 => (f3_j1 a1 a2 a3 z25))
theorem f3_j0_ok {d : Nat} (hd : 6 ≤ d) (a1 : GKeys) (a2 : GMask) (a3 : List UInt8) {r : Bool} {Q : PX → St → Prop} (hQ : ∀ e st', f3_Q r e st' → Q e st')  (hS : f3_j0 a1 a2 a3 = some r) {st : St} (he : keepSt [2, 3, 4] [(32, .id 32), (40, .id 40)] [] st = f3_j0_J a1 a2 a3) : ZR (lev codes baseL (d - 1)) Q c3_5 [] st := by
  refine zrKeep he ?_
  unfold f3_j0 at hS
  refine zrSeq ?_
  refine zrReg ?_
  refine zlRun (n := 1) (j := 1) rfl (by kernel_rfl) ?_
  refine zlEnd (by kernel_rfl) ?_
  refine zkSeq ?_
  refine zrSeq ?_
  refine zrSeq ?_
  refine zrReg ?_
  refine zlRun (n := 3) (j := 3) rfl (by kernel_rfl) ?_
  refine zlEnd (by kernel_rfl) ?_
  refine zkSeq ?_
  refine zrBlk ?_
  refine bindE hS (fun z25 hz25 hS => ?_)
  refine zrLoop (f3_l2_H a1 a2 a3) (f3_l2_X a1 a2 a3) (fun x st r Q h0 hS hQ => f3_l2_ok hd a1 a2 a3 hQ hS h0) (x := ([], 0)) (z := z25) (by show keepSt _ _ _ _ = _; kernel_rfl) hz25 ?_
  intro e st' _ hX
  obtain ⟨rfl, rfl⟩ : _ ∧ _ := hX
  refine zkBlkX ?_
  refine zkSeq ?_
  exact f3_j1_ok hd a1 a2 a3 hQ z25 hS (by kernel_rfl)
noncomputable def f3 (a1 : GKeys) (a2 : GMask) (a3 : List UInt8) : Option (Bool) := (f5.bind fun z26 => (bif (!z26) then (f5.bind fun z27 => (some z27)) else (bif (decide (1000 < (a3.length : Int))) then (f5.bind fun z28 => (some z28)) else ((f6 (GEditor.mk ([]) false)).bind fun z29 => (bif (!decide (z29 = 0)) then (f5.bind fun z30 => (some z30)) else (f3_j0 a1 a2 a3 ))))))
theorem f3_ok (d : Nat) (hd : 6 ≤ d) (a1 : GKeys) (a2 : GMask) (a3 : List UInt8) (r : Bool) (hS : f3 a1 a2 a3 = some r) : lev codes baseL d 3 [(.agg ((eU8.row 19 a1.Levels) ++ ((eU8.row 19 a1.Chars) ++ []))), (.agg (((eInt .u64).row 4 a2.Bits) ++ [])), (.d (.str a3))] [] = some ((.d (.bool r)), []) := by
  refine lev_go codes3 rfl rfl (Nat.le_trans (Nat.le_of_ble_eq_true rfl) hd) fun Q hQ => ?_
  unfold f3 at hS
  show ZR _ Q c3_b [] _
  replace hQ : ∀ e st', f3_Q r e st' → Q e st' := hQ
  refine zrSeq ?_
  refine zrReg ?_
  refine zlRun (n := 3) (j := 3) rfl (by kernel_rfl) ?_
  refine zlEnd (by kernel_rfl) ?_
  refine zkSeq ?_
  refine zrSeq ?_
  refine zrReg ?_
  refine zlRun (n := 6) (j := 6) rfl (by kernel_rfl) ?_
  refine zlEnd (by kernel_rfl) ?_
  refine zkSeq ?_
  refine zrSeq ?_
  refine zrSeq ?_
  refine zrReg ?_
  refine bindE hS (fun z26 hz26 hS => ?_)
  refine zlOp (d := some 17) (op := (.call 5 [])) (g := none) (j := 1) rfl (by kernel_rfl) (by kernel_rfl) (ev_callA (by kernel_rfl) (f5_ok (d - 1) (dpt hd rfl)  z26 hz26) (by kernel_rfl) (by kernel_rfl)) ?_
  refine zlRun (n := 2) (j := 3) rfl (by kernel_rfl) ?_
  refine zlSplit 19 (!z26) (by kernel_rfl) (fun hc => ?_) (fun hc => ?_)
  · replace hS := cond_t hc hS
    refine zlRun (n := 9) (j := 12) rfl (by kernel_rfl) ?_
    refine zlEnd (by kernel_rfl) ?_
    refine zkSeq ?_
    refine zrCondT (by kernel_rfl) ?_
    refine zrSeq ?_
    refine zrReg ?_
    refine bindE hS (fun z27 hz27 hS => ?_)
    refine zlOp (d := some 29) (op := (.call 5 [])) (g := none) (j := 1) rfl (by kernel_rfl) (by kernel_rfl) (ev_callA (by kernel_rfl) (f5_ok (d - 1) (dpt hd rfl)  z27 hz27) (by kernel_rfl) (by kernel_rfl)) ?_
    refine zlRun (n := 1) (j := 2) rfl (by kernel_rfl) ?_
    refine zlEnd (by kernel_rfl) ?_
    refine zkSeq ?_
    refine zrRet ?_
    refine zkSeqR ?_
    refine zkNil ?_
    exact endQ hS hQ (fRet (by kernel_rfl) ((congrArg (fun s => outR s 0 c3.res) (by kernel_rfl : finSt c3.fin _ = f3_fin z27)).trans (f3_out z27)))
  · replace hS := cond_f hc hS
    refine zlRun (n := 2) (j := 5) rfl (by kernel_rfl) ?_
    refine zlBool (d := 22) (op := (.cmpI .gtr (.tmp 21) (.const (.int .i64 1000)))) (g := (some (19, false))) (j := 6) (decide (1000 < (a3.length : Int))) rfl (by kernel_rfl) (by kernel_rfl) (by kernel_rfl) (fun hc => ?_) (fun hc => ?_)
    · replace hS := cond_t hc hS
      refine zlRun (n := 6) (j := 12) rfl (by kernel_rfl) ?_
      refine zlEnd (by kernel_rfl) ?_
      refine zkSeq ?_
      refine zrCondT (by kernel_rfl) ?_
      refine zrSeq ?_
      refine zrReg ?_
      refine bindE hS (fun z28 hz28 hS => ?_)
      refine zlOp (d := some 29) (op := (.call 5 [])) (g := none) (j := 1) rfl (by kernel_rfl) (by kernel_rfl) (ev_callA (by kernel_rfl) (f5_ok (d - 1) (dpt hd rfl)  z28 hz28) (by kernel_rfl) (by kernel_rfl)) ?_
      refine zlRun (n := 1) (j := 2) rfl (by kernel_rfl) ?_
      refine zlEnd (by kernel_rfl) ?_
      refine zkSeq ?_
      refine zrRet ?_
      refine zkSeqR ?_
      refine zkNil ?_
      exact endQ hS hQ (fRet (by kernel_rfl) ((congrArg (fun s => outR s 0 c3.res) (by kernel_rfl : finSt c3.fin _ = f3_fin z28)).trans (f3_out z28)))
    · replace hS := cond_f hc hS
      refine zlRun (n := 3) (j := 9) rfl (by kernel_rfl) ?_
      refine bindE hS (fun z29 hz29 hS => ?_)
      refine zlOp (d := some 26) (op := (.call 6 [(.tmp 25)])) (g := (some (24, false))) (j := 10) rfl (by kernel_rfl) (by kernel_rfl) (ev_callA (by kernel_rfl) (f6_ok (d - 1) (dpt hd rfl) (GEditor.mk ([]) false) z29 hz29) (by kernel_rfl) (by kernel_rfl)) ?_
      refine zlBool (d := 27) (op := (.cmpI .neq (.tmp 26) (.const (.int .i64 0)))) (g := (some (24, false))) (j := 11) (!decide (z29 = 0)) rfl (by kernel_rfl) (by kernel_rfl) (by kernel_rfl) (fun hc => ?_) (fun hc => ?_)
      · replace hS := cond_t hc hS
        refine zlRun (n := 1) (j := 12) rfl (by kernel_rfl) ?_
        refine zlEnd (by kernel_rfl) ?_
        refine zkSeq ?_
        refine zrCondT (by kernel_rfl) ?_
        refine zrSeq ?_
        refine zrReg ?_
        refine bindE hS (fun z30 hz30 hS => ?_)
        refine zlOp (d := some 29) (op := (.call 5 [])) (g := none) (j := 1) rfl (by kernel_rfl) (by kernel_rfl) (ev_callA (by kernel_rfl) (f5_ok (d - 1) (dpt hd rfl)  z30 hz30) (by kernel_rfl) (by kernel_rfl)) ?_
        refine zlRun (n := 1) (j := 2) rfl (by kernel_rfl) ?_
        refine zlEnd (by kernel_rfl) ?_
        refine zkSeq ?_
        refine zrRet ?_
        refine zkSeqR ?_
        refine zkNil ?_
        exact endQ hS hQ (fRet (by kernel_rfl) ((congrArg (fun s => outR s 0 c3.res) (by kernel_rfl : finSt c3.fin _ = f3_fin z30)).trans (f3_out z30)))
      · replace hS := cond_f hc hS
        refine zlRun (n := 1) (j := 12) rfl (by kernel_rfl) ?_
        refine zlEnd (by kernel_rfl) ?_
        refine zkSeq ?_
        refine zrCondF (by kernel_rfl) ?_
        refine zrSkip ?_
        refine zkSeq ?_
        exact f3_j0_ok hd a1 a2 a3 hQ  hS (by kernel_rfl)
end Go.Proofs.YthblnlmpfgfgcaaDoor.Pm
