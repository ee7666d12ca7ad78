/- Typed functions, and that the codes are these. Printed by dec.py. -/
import Derived.Test.YtjoccdgmcdkbkaaGreatDoorDSzE
namespace Go.Proofs.YtjoccdgmcdkbkaaGreatDoor.Pm
set_option maxRecDepth 1000000
set_option maxHeartbeats 20000000
set_option linter.unusedVariables false
/- farwriter/farref.Width -/
def f71_fin (p28 : Int) : St := ⟨(up (fun _ => .un) 2 (.d (.int .i64 p28))), (hB fun _ => 0)⟩
theorem f71_out (p28 : Int) : outR (f71_fin p28) 0 c71.res = some ((.d (.int .i64 p28)), []) := by
  kernel_rfl
def f71_Q (r : Int) (e : PX) (st : St) : Prop := DoneF c71 0 ((.d (.int .i64 r)), []) e st
def f71_l1_J (a1 : Int) (x : Int × Int) : St := ⟨(up (up (up (up (up (fun _ => .un) 45 (.d (.int .i64 x.2))) 44 (.d (.int .i64 ((([(0, 0), (32, 1), (127, 0), (160, 1), (768, 0), (880, 1), (4352, 2), (4448, 1), (8203, 0), (8208, 1), (11904, 2), (12351, 1), (12353, 2), (19904, 1), (19968, 2), (42192, 1), (44032, 2), (55204, 1), (63744, 2), (64256, 1), (65024, 0), (65040, 1), (65072, 2), (65136, 1), (65280, 2), (65377, 1), (65504, 2), (65511, 1), (127744, 2), (128592, 1), (129280, 2), (129536, 1), (131072, 2), (262142, 1)] : List (Int × Int)).length) : Int)))) 43 (.r (.msl 352 0 0 (([(0, 0), (32, 1), (127, 0), (160, 1), (768, 0), (880, 1), (4352, 2), (4448, 1), (8203, 0), (8208, 1), (11904, 2), (12351, 1), (12353, 2), (19904, 1), (19968, 2), (42192, 1), (44032, 2), (55204, 1), (63744, 2), (64256, 1), (65024, 0), (65040, 1), (65072, 2), (65136, 1), (65280, 2), (65377, 1), (65504, 2), (65511, 1), (127744, 2), (128592, 1), (129280, 2), (129536, 1), (131072, 2), (262142, 1)] : List (Int × Int)).length)))) 3 (.d (.int .i64 x.1))) 0 (.d (.int .i64 a1))), (up (hB fun _ => 0) 352 ⟨0, some (.own 31 2 (e_A31.cells ([(0, 0), (32, 1), (127, 0), (160, 1), (768, 0), (880, 1), (4352, 2), (4448, 1), (8203, 0), (8208, 1), (11904, 2), (12351, 1), (12353, 2), (19904, 1), (19968, 2), (42192, 1), (44032, 2), (55204, 1), (63744, 2), (64256, 1), (65024, 0), (65040, 1), (65072, 2), (65136, 1), (65280, 2), (65377, 1), (65504, 2), (65511, 1), (127744, 2), (128592, 1), (129280, 2), (129536, 1), (131072, 2), (262142, 1)])))⟩)⟩
def f71_l1_H (a1 : Int) (x : Int × Int) (st : St) : Prop := keepSt [0, 3, 43, 44, 45] [(352, .id 352)] [] st = f71_l1_J a1 x
def f71_l1_e0_J (a1 : Int) (p27 : Int) : St := ⟨(up (fun _ => .un) 3 (.d (.int .i64 p27))), (hB fun _ => 0)⟩
def f71_l1_X (a1 : Int) (z : Int) (e : PX) (st : St) : Prop := e = .exit 0 ∧ st = f71_l1_e0_J a1 z
def f71_l1_j3_J (a1 : Int) (p35 : Int) (p36 : Int) : St := ⟨(up (up (up (up (up (fun _ => .un) 45 (.d (.int .i64 p36))) 44 (.d (.int .i64 ((([(0, 0), (32, 1), (127, 0), (160, 1), (768, 0), (880, 1), (4352, 2), (4448, 1), (8203, 0), (8208, 1), (11904, 2), (12351, 1), (12353, 2), (19904, 1), (19968, 2), (42192, 1), (44032, 2), (55204, 1), (63744, 2), (64256, 1), (65024, 0), (65040, 1), (65072, 2), (65136, 1), (65280, 2), (65377, 1), (65504, 2), (65511, 1), (127744, 2), (128592, 1), (129280, 2), (129536, 1), (131072, 2), (262142, 1)] : List (Int × Int)).length) : Int)))) 43 (.r (.msl 352 0 0 (([(0, 0), (32, 1), (127, 0), (160, 1), (768, 0), (880, 1), (4352, 2), (4448, 1), (8203, 0), (8208, 1), (11904, 2), (12351, 1), (12353, 2), (19904, 1), (19968, 2), (42192, 1), (44032, 2), (55204, 1), (63744, 2), (64256, 1), (65024, 0), (65040, 1), (65072, 2), (65136, 1), (65280, 2), (65377, 1), (65504, 2), (65511, 1), (127744, 2), (128592, 1), (129280, 2), (129536, 1), (131072, 2), (262142, 1)] : List (Int × Int)).length)))) 3 (.d (.int .i64 p35))) 0 (.d (.int .i64 a1))), (up (hB fun _ => 0) 352 ⟨0, some (.own 31 2 (e_A31.cells ([(0, 0), (32, 1), (127, 0), (160, 1), (768, 0), (880, 1), (4352, 2), (4448, 1), (8203, 0), (8208, 1), (11904, 2), (12351, 1), (12353, 2), (19904, 1), (19968, 2), (42192, 1), (44032, 2), (55204, 1), (63744, 2), (64256, 1), (65024, 0), (65040, 1), (65072, 2), (65136, 1), (65280, 2), (65377, 1), (65504, 2), (65511, 1), (127744, 2), (128592, 1), (129280, 2), (129536, 1), (131072, 2), (262142, 1)])))⟩)⟩
noncomputable def f71_l1_j3 (a1 : Int) (p35 : Int) (p36 : Int) : Option ((Int × Int) ⊕ Int) := ((inR p36 (([(0, 0), (32, 1), (127, 0), (160, 1), (768, 0), (880, 1), (4352, 2), (4448, 1), (8203, 0), (8208, 1), (11904, 2), (12351, 1), (12353, 2), (19904, 1), (19968, 2), (42192, 1), (44032, 2), (55204, 1), (63744, 2), (64256, 1), (65024, 0), (65040, 1), (65072, 2), (65136, 1), (65280, 2), (65377, 1), (65504, 2), (65511, 1), (127744, 2), (128592, 1), (129280, 2), (129536, 1), (131072, 2), (262142, 1)] : List (Int × Int)).length)).bind fun m9 => ((([(0, 0), (32, 1), (127, 0), (160, 1), (768, 0), (880, 1), (4352, 2), (4448, 1), (8203, 0), (8208, 1), (11904, 2), (12351, 1), (12353, 2), (19904, 1), (19968, 2), (42192, 1), (44032, 2), (55204, 1), (63744, 2), (64256, 1), (65024, 0), (65040, 1), (65072, 2), (65136, 1), (65280, 2), (65377, 1), (65504, 2), (65511, 1), (127744, 2), (128592, 1), (129280, 2), (129536, 1), (131072, 2), (262142, 1)])[m9]?).bind fun z10 => (bif (decide (z10.1 ≤ a1)) then (some (.inl (z10.2, (IntKind.i64.wrap (p36 + 1))))) else (some (.inl (p35, (IntKind.i64.wrap (p36 + 1))))))))
theorem f71_l1_j3_ok {d : Nat} (hd : 3 ≤ d) (a1 : Int) {r : (Int × Int) ⊕ Int} {Q : PX → St → Prop} (hQ : ∀ e st', finL (f71_l1_H a1) (f71_l1_X a1) r e st' → Q e st') (p35 : Int) (p36 : Int) (hS : f71_l1_j3 a1 p35 p36 = some r) {st : St} (he : keepSt [0, 3, 43, 44, 45] [(352, .id 352)] [] st = f71_l1_j3_J a1 p35 p36) : ZR (lev codes baseL (d - 1)) Q c71_1 [] st := by
  refine zrKeep he ?_
  unfold f71_l1_j3 at hS
  refine zrSeq ?_
  refine zrBlk ?_
  refine zrSeq ?_
  refine zrReg ?_
  refine bindE hS (fun m9 hm9 hS => ?_)
  refine zlOp (d := some 47) (op := (.ixS 31 2 (.tmp 43) (.tmp 45))) (g := none) (v := (.r (.ptr 352 0 ((0 + m9) * 2)))) (ups := []) (j := 1) rfl (by kernel_rfl) (by kernel_rfl) (ev_ixM (kk := .i64) (b := 352) (g := 0) (l := 0) (n := ([(0, 0), (32, 1), (127, 0), (160, 1), (768, 0), (880, 1), (4352, 2), (4448, 1), (8203, 0), (8208, 1), (11904, 2), (12351, 1), (12353, 2), (19904, 1), (19968, 2), (42192, 1), (44032, 2), (55204, 1), (63744, 2), (64256, 1), (65024, 0), (65040, 1), (65072, 2), (65136, 1), (65280, 2), (65377, 1), (65504, 2), (65511, 1), (127744, 2), (128592, 1), (129280, 2), (129536, 1), (131072, 2), (262142, 1)] : List (Int × Int)).length) (j := p36) (cs := e_A31.cells ([(0, 0), (32, 1), (127, 0), (160, 1), (768, 0), (880, 1), (4352, 2), (4448, 1), (8203, 0), (8208, 1), (11904, 2), (12351, 1), (12353, 2), (19904, 1), (19968, 2), (42192, 1), (44032, 2), (55204, 1), (63744, 2), (64256, 1), (65024, 0), (65040, 1), (65072, 2), (65136, 1), (65280, 2), (65377, 1), (65504, 2), (65511, 1), (127744, 2), (128592, 1), (129280, 2), (129536, 1), (131072, 2), (262142, 1)])) (by kernel_rfl) (by kernel_rfl) (by kernel_rfl) hm9) ?_
  refine bindE hS (fun z10 hz10 hS => ?_)
  refine zlOp (d := some 48) (op := (.load .true 2 (.tmp 47))) (g := none) (v := (.agg ((.d (.int .i64 z10.1)) :: ((.d (.int .i64 z10.2)) :: [])))) (ups := []) (j := 2) rfl (by kernel_rfl) (by kernel_rfl) (ev_loadM e_A31 (b := 352) (g := 0) (o := (0 + m9) * 2) (e := 31) (k := 2) (m := m9) (fo := 0) (xs := [(0, 0), (32, 1), (127, 0), (160, 1), (768, 0), (880, 1), (4352, 2), (4448, 1), (8203, 0), (8208, 1), (11904, 2), (12351, 1), (12353, 2), (19904, 1), (19968, 2), (42192, 1), (44032, 2), (55204, 1), (63744, 2), (64256, 1), (65024, 0), (65040, 1), (65072, 2), (65136, 1), (65280, 2), (65377, 1), (65504, 2), (65511, 1), (127744, 2), (128592, 1), (129280, 2), (129536, 1), (131072, 2), (262142, 1)]) (by kernel_rfl) (by kernel_rfl) (by rw [Nat.zero_add]; rfl) hz10 (by kernel_rfl) (by kernel_rfl) (by kernel_rfl)) ?_
  refine zlRun (n := 2) (j := 4) rfl (by kernel_rfl) ?_
  refine zlEnd (by kernel_rfl) ?_
  refine zkSeq ?_
  refine zrSeq ?_
  refine zrReg ?_
  refine zlRun (n := 3) (j := 3) rfl (by kernel_rfl) ?_
  refine zlBool (d := 52) (op := (.cmpI .geq (.tmp 49) (.tmp 51))) (g := none) (j := 4) (decide (z10.1 ≤ a1)) rfl (by kernel_rfl) (by kernel_rfl) (by kernel_rfl) (fun hc => ?_) (fun hc => ?_)
  · replace hS := cond_t hc hS
    refine zlEnd (by kernel_rfl) ?_
    refine zkSeq ?_
    refine zrCondT (by kernel_rfl) ?_
    refine zrReg ?_
    refine zlRun (n := 3) (j := 3) rfl (by kernel_rfl) ?_
    refine zlEnd (by kernel_rfl) ?_
    refine zkBlk ?_
    refine zkSeq ?_
    refine zrReg ?_
    refine zlRun (n := 2) (j := 2) rfl (by kernel_rfl) ?_
    refine zlEnd (by kernel_rfl) ?_
    refine zkNil ?_
    exact endQ hS hQ (finL_n (by show keepSt _ _ _ _ = _; kernel_rfl))
  · replace hS := cond_f hc hS
    refine zlEnd (by kernel_rfl) ?_
    refine zkSeq ?_
    refine zrCondF (by kernel_rfl) ?_
    refine zrSkip ?_
    refine zkBlk ?_
    refine zkSeq ?_
    refine zrReg ?_
    refine zlRun (n := 2) (j := 2) rfl (by kernel_rfl) ?_
    refine zlEnd (by kernel_rfl) ?_
    refine zkNil ?_
    exact endQ hS hQ (finL_n (by show keepSt _ _ _ _ = _; kernel_rfl))
def f71_l1_j2_J (a1 : Int) (p32 : Int) (p33 : Int) (p34 : Bool) : St := ⟨(up (up (up (up (up (up (fun _ => .un) 46 (.d (.bool p34))) 45 (.d (.int .i64 p33))) 44 (.d (.int .i64 ((([(0, 0), (32, 1), (127, 0), (160, 1), (768, 0), (880, 1), (4352, 2), (4448, 1), (8203, 0), (8208, 1), (11904, 2), (12351, 1), (12353, 2), (19904, 1), (19968, 2), (42192, 1), (44032, 2), (55204, 1), (63744, 2), (64256, 1), (65024, 0), (65040, 1), (65072, 2), (65136, 1), (65280, 2), (65377, 1), (65504, 2), (65511, 1), (127744, 2), (128592, 1), (129280, 2), (129536, 1), (131072, 2), (262142, 1)] : List (Int × Int)).length) : Int)))) 43 (.r (.msl 352 0 0 (([(0, 0), (32, 1), (127, 0), (160, 1), (768, 0), (880, 1), (4352, 2), (4448, 1), (8203, 0), (8208, 1), (11904, 2), (12351, 1), (12353, 2), (19904, 1), (19968, 2), (42192, 1), (44032, 2), (55204, 1), (63744, 2), (64256, 1), (65024, 0), (65040, 1), (65072, 2), (65136, 1), (65280, 2), (65377, 1), (65504, 2), (65511, 1), (127744, 2), (128592, 1), (129280, 2), (129536, 1), (131072, 2), (262142, 1)] : List (Int × Int)).length)))) 3 (.d (.int .i64 p32))) 0 (.d (.int .i64 a1))), (up (hB fun _ => 0) 352 ⟨0, some (.own 31 2 (e_A31.cells ([(0, 0), (32, 1), (127, 0), (160, 1), (768, 0), (880, 1), (4352, 2), (4448, 1), (8203, 0), (8208, 1), (11904, 2), (12351, 1), (12353, 2), (19904, 1), (19968, 2), (42192, 1), (44032, 2), (55204, 1), (63744, 2), (64256, 1), (65024, 0), (65040, 1), (65072, 2), (65136, 1), (65280, 2), (65377, 1), (65504, 2), (65511, 1), (127744, 2), (128592, 1), (129280, 2), (129536, 1), (131072, 2), (262142, 1)])))⟩)⟩
noncomputable def f71_l1_j2 (a1 : Int) (p32 : Int) (p33 : Int) (p34 : Bool) : Option ((Int × Int) ⊕ Int) := (bif p34 then (f71_l1_j3 a1 p32 p33) else (some (.inr p32)))
theorem f71_l1_j2_ok {d : Nat} (hd : 3 ≤ d) (a1 : Int) {r : (Int × Int) ⊕ Int} {Q : PX → St → Prop} (hQ : ∀ e st', finL (f71_l1_H a1) (f71_l1_X a1) r e st' → Q e st') (p32 : Int) (p33 : Int) (p34 : Bool) (hS : f71_l1_j2 a1 p32 p33 p34 = some r) {st : St} (he : keepSt [0, 3, 43, 44, 45, 46] [(352, .id 352)] [] st = f71_l1_j2_J a1 p32 p33 p34) : ZR (lev codes baseL (d - 1)) Q c71_2 [] st := by
  refine zrKeep he ?_
  unfold f71_l1_j2 at hS
  refine zrSeq ?_
  refine zrSplit 46 p34 (by kernel_rfl) (fun hc => ?_) (fun hc => ?_)
  · replace hS := cond_t hc hS
    refine zrCondT (by kernel_rfl) ?_
    refine zrSkip ?_
    refine zkSeq ?_
    exact f71_l1_j3_ok hd a1 hQ p32 p33 hS (by kernel_rfl)
  · replace hS := cond_f hc hS
    refine zrCondF (by kernel_rfl) ?_
    refine zrKeep (J := f71_l1_e0_J a1 p32) (by kernel_rfl) ?_
    refine zrExit ?_
    refine zkSeqX ?_
    refine zkNil ?_
    exact endQ hS hQ (finL_x (by intro h; cases h) (by show _ = _ ∧ _ = _; exact ⟨rfl, rfl⟩))
noncomputable def f71_l1 (a1 : Int) (x : Int × Int) : Option ((Int × Int) ⊕ Int) := (bif (decide (x.2 < ((([(0, 0), (32, 1), (127, 0), (160, 1), (768, 0), (880, 1), (4352, 2), (4448, 1), (8203, 0), (8208, 1), (11904, 2), (12351, 1), (12353, 2), (19904, 1), (19968, 2), (42192, 1), (44032, 2), (55204, 1), (63744, 2), (64256, 1), (65024, 0), (65040, 1), (65072, 2), (65136, 1), (65280, 2), (65377, 1), (65504, 2), (65511, 1), (127744, 2), (128592, 1), (129280, 2), (129536, 1), (131072, 2), (262142, 1)] : List (Int × Int)).length) : Int))) then (f71_l1_j2 a1 x.1 x.2 true) else (f71_l1_j2 a1 x.1 x.2 false))
theorem f71_l1_ok {d : Nat} (hd : 3 ≤ d) (a1 : Int) {r : (Int × Int) ⊕ Int} {Q : PX → St → Prop} (hQ : ∀ e st', finL (f71_l1_H a1) (f71_l1_X a1) r e st' → Q e st') {x : Int × Int} (hS : f71_l1 a1 x = some r) {st : St} (he : f71_l1_H a1 x st) : ZR (lev codes baseL (d - 1)) Q c71_3 [] st := by
  refine zrKeep he ?_
  unfold f71_l1 at hS
  refine zrSeq ?_
  refine zrReg ?_
  refine zlBool (d := 46) (op := (.cmpI .lss (.tmp 45) (.tmp 44))) (g := none) (j := 1) (decide (x.2 < ((([(0, 0), (32, 1), (127, 0), (160, 1), (768, 0), (880, 1), (4352, 2), (4448, 1), (8203, 0), (8208, 1), (11904, 2), (12351, 1), (12353, 2), (19904, 1), (19968, 2), (42192, 1), (44032, 2), (55204, 1), (63744, 2), (64256, 1), (65024, 0), (65040, 1), (65072, 2), (65136, 1), (65280, 2), (65377, 1), (65504, 2), (65511, 1), (127744, 2), (128592, 1), (129280, 2), (129536, 1), (131072, 2), (262142, 1)] : List (Int × Int)).length) : Int))) rfl (by kernel_rfl) (by kernel_rfl) (by kernel_rfl) (fun hc => ?_) (fun hc => ?_)
  · replace hS := cond_t hc hS
    refine zlEnd (by kernel_rfl) ?_
    refine zkSeq ?_
    exact f71_l1_j2_ok hd a1 hQ x.1 x.2 true hS (by kernel_rfl)
  · replace hS := cond_f hc hS
    refine zlEnd (by kernel_rfl) ?_
    refine zkSeq ?_
    exact f71_l1_j2_ok hd a1 hQ x.1 x.2 false hS (by kernel_rfl)
def f71_j0_J (a1 : Int) : St := ⟨(up (fun _ => .un) 0 (.d (.int .i64 a1))), (hB fun _ => 0)⟩
noncomputable def f71_j0 (a1 : Int) : Option (Int) := ((loopO (f71_l1 a1) (0, 0)).bind fun z11 => (some z11))
theorem f71_j0_ok {d : Nat} (hd : 3 ≤ d) (a1 : Int) {r : Int} {Q : PX → St → Prop} (hQ : ∀ e st', f71_Q r e st' → Q e st')  (hS : f71_j0 a1 = some r) {st : St} (he : keepSt [0] [] [] st = f71_j0_J a1) : ZR (lev codes baseL (d - 1)) Q c71_4 [] st := by
  refine zrKeep he ?_
  unfold f71_j0 at hS
  refine zrSeq ?_
  refine zrReg ?_
  refine zlRun (n := 1) (j := 1) rfl (by kernel_rfl) ?_
  refine zlEnd (by kernel_rfl) ?_
  refine zkSeq ?_
  refine zrSeq ?_
  refine zrSeq ?_
  refine zrReg ?_
  refine zlRun (n := 37) (j := 37) rfl (by kernel_rfl) ?_
  refine zlEnd (by kernel_rfl) ?_
  refine zkSeq ?_
  refine zrBlk ?_
  refine bindE hS (fun z11 hz11 hS => ?_)
  refine zrLoop (f71_l1_H a1) (f71_l1_X a1) (fun x st r Q h0 hS hQ => f71_l1_ok hd a1 hQ hS h0) (x := (0, 0)) (z := z11) (by show keepSt _ _ _ _ = _; kernel_rfl) hz11 ?_
  intro e st' _ hX
  obtain ⟨rfl, rfl⟩ : _ ∧ _ := hX
  refine zkBlkX ?_
  refine zkSeq ?_
  refine zrSeq ?_
  refine zrReg ?_
  refine zlRun (n := 2) (j := 2) rfl (by kernel_rfl) ?_
  refine zlEnd (by kernel_rfl) ?_
  refine zkSeq ?_
  refine zrRet ?_
  refine zkNil ?_
  exact endQ hS hQ (fRet (by kernel_rfl) ((congrArg (fun s => outR s 0 c71.res) (by kernel_rfl : finSt c71.fin _ = f71_fin z11)).trans (f71_out z11)))
noncomputable def f71 (a1 : Int) : Option (Int) := ((f106 a1).bind fun z12 => (bif (!z12) then (some 0) else (f71_j0 a1 )))
theorem f71_ok (d : Nat) (hd : 3 ≤ d) (a1 : Int) (r : Int) (hS : f71 a1 = some r) : lev codes baseL d 71 [(.d (.int .i64 a1))] [] = some ((.d (.int .i64 r)), []) := by
  refine lev_go codes71 rfl rfl (Nat.le_trans (Nat.le_of_ble_eq_true rfl) hd) fun Q hQ => ?_
  unfold f71 at hS
  show ZR _ Q c71_b [] _
  replace hQ : ∀ e st', f71_Q r e st' → Q e st' := hQ
  refine zrSeq ?_
  refine zrReg ?_
  refine zlRun (n := 1) (j := 1) rfl (by kernel_rfl) ?_
  refine zlEnd (by kernel_rfl) ?_
  refine zkSeq ?_
  refine zrSeq ?_
  refine zrSeq ?_
  refine zrReg ?_
  refine zlRun (n := 1) (j := 1) rfl (by kernel_rfl) ?_
  refine bindE hS (fun z12 hz12 hS => ?_)
  refine zlOp (d := some 7) (op := (.call 106 [(.tmp 6)])) (g := none) (j := 2) rfl (by kernel_rfl) (by kernel_rfl) (ev_callA (by kernel_rfl) (f106_ok (d - 1) (dpt hd rfl) a1 z12 hz12) (by kernel_rfl) (by kernel_rfl)) ?_
  refine zlRun (n := 1) (j := 3) rfl (by kernel_rfl) ?_
  refine zlEnd (by kernel_rfl) ?_
  refine zkSeq ?_
  refine zrSplit 8 (!z12) (by kernel_rfl) (fun hc => ?_) (fun hc => ?_)
  · replace hS := cond_t hc hS
    refine zrCondT (by kernel_rfl) ?_
    refine zrSeq ?_
    refine zrReg ?_
    refine zlRun (n := 1) (j := 1) rfl (by kernel_rfl) ?_
    refine zlEnd (by kernel_rfl) ?_
    refine zkSeq ?_
    refine zrRet ?_
    refine zkSeqR ?_
    refine zkNil ?_
    exact endQ hS hQ (fRet (by kernel_rfl) ((congrArg (fun s => outR s 0 c71.res) (by kernel_rfl : finSt c71.fin _ = f71_fin 0)).trans (f71_out 0)))
  · replace hS := cond_f hc hS
    refine zrCondF (by kernel_rfl) ?_
    refine zrSkip ?_
    refine zkSeq ?_
    exact f71_j0_ok hd a1 hQ  hS (by kernel_rfl)
/- farwriter/farref.wholeCell -/
def f72_fin (p8 : Bool) : St := ⟨(up (fun _ => .un) 4 (.d (.bool p8))), (hB fun _ => 0)⟩
theorem f72_out (p8 : Bool) : outR (f72_fin p8) 0 c72.res = some ((.d (.bool p8)), []) := by
  kernel_rfl
def f72_Q (r : Bool) (e : PX) (st : St) : Prop := DoneF c72 0 ((.d (.bool r)), []) e st
def f72_j0_J (a1 : List GCell) (a2 : Int) : St := ⟨(up (up (fun _ => .un) 1 (.d (.int .i64 a2))) 0 (.d (.sl a1.length (e_GCell.cells a1)))), (hB fun _ => 0)⟩
noncomputable def f72_j0 (a1 : List GCell) (a2 : Int) : Option (Bool) := ((idx a1 a2).bind fun z16 => ((f71 z16.Rune).bind fun z17 => (bif (!decide (z17 = 2)) then (some true) else (bif (decide ((IntKind.i64.wrap (a2 + 1)) < (a1.length : Int))) then ((idx a1 (IntKind.i64.wrap (a2 + 1))).bind fun z18 => (bif (decide (z18.Rune = 0)) then ((idx a1 (IntKind.i64.wrap (a2 + 1))).bind fun z19 => ((idx a1 a2).bind fun z20 => (bif (decide (z19.Pen.Flags = z20.Pen.Flags) && (decide (z19.Pen.Fore = z20.Pen.Fore) && (decide (z19.Pen.Back = z20.Pen.Back) && true))) then (some true) else (some false)))) else (some false))) else (some false)))))
theorem f72_j0_ok {d : Nat} (hd : 4 ≤ d) (a1 : List GCell) (a2 : Int) {r : Bool} {Q : PX → St → Prop} (hQ : ∀ e st', f72_Q r e st' → Q e st')  (hS : f72_j0 a1 a2 = some r) {st : St} (he : keepSt [0, 1] [] [] st = f72_j0_J a1 a2) : ZR (lev codes baseL (d - 1)) Q c72_1 [] st := by
  refine zrKeep he ?_
  unfold f72_j0 at hS
  refine zrSeq ?_
  refine zrRegD ?_
  refine zdRun (n := 2) (j := 2) (ts := [[], []]) (acc' := [[], []]) rfl (by kernel_rfl) (by kernel_rfl) (by kernel_rfl) ?_
  refine bindE hS (fun z16 hz16 hS => ?_)
  refine zdOp (d := some 39) (op := (.ixS 58 4 (.tmp 37) (.tmp 38))) (g := none) (v := (.rptr (e_GCell.enc z16 ++ (e_GCell.cells (a1.drop ((a2 : Int).toNat + 1)))))) (ups := []) (j := 3) (t1 := []) (acc' := [[], [], []]) (by kernel_rfl) (by kernel_rfl) rfl (by kernel_rfl) (by kernel_rfl) (ev_ixS e_GCell (kk := .i64) (xs := a1) (j := a2) (by kernel_rfl) (by kernel_rfl) hz16 rfl (by intro h; cases h)) ?_
  refine zdRun (n := 2) (j := 5) (ts := [[], []]) (acc' := [[], [], [], [], []]) rfl (by kernel_rfl) (by kernel_rfl) (by kernel_rfl) ?_
  refine bindE hS (fun z17 hz17 hS => ?_)
  refine zdOp (d := some 42) (op := (.call 71 [(.tmp 41)])) (g := none) (j := 6) (t1 := [(344, true), (345, true), (346, true), (347, true), (348, true), (349, true), (350, true), (351, true)]) (acc' := [[], [], [], [], [], [(344, true), (345, true), (346, true), (347, true), (348, true), (349, true), (350, true), (351, true)]]) (by kernel_rfl) (by kernel_rfl) rfl (by kernel_rfl) (by kernel_rfl) (ev_callA (by kernel_rfl) (f71_ok (d - 1) (dpt hd rfl) z16.Rune z17 hz17) (by kernel_rfl) (by kernel_rfl)) ?_
  refine zdBool (d := 43) (op := (.cmpI .neq (.tmp 42) (.const (.int .i64 2)))) (g := none) (j := 7) (t1 := []) (acc' := [[], [], [], [], [], [(344, true), (345, true), (346, true), (347, true), (348, true), (349, true), (350, true), (351, true)], []]) (!decide (z17 = 2)) (by kernel_rfl) (by kernel_rfl) rfl (by kernel_rfl) (by kernel_rfl) (by kernel_rfl) (fun hc => ?_) (fun hc => ?_)
  · replace hS := cond_t hc hS
    refine zdRun (n := 31) (j := 38) (ts := [[], [], [], [], [], [], [], [], [], [], [], [], [], [], [], [], [], [], [], [], [], [], [], [], [], [], [], [], [], [], []]) (acc' := [[], [], [], [], [], [(344, true), (345, true), (346, true), (347, true), (348, true), (349, true), (350, true), (351, true)], [], [], [], [], [], [], [], [], [], [], [], [], [], [], [], [], [], [], [], [], [], [], [], [], [], [], [], [], [], [], [], []]) rfl (by kernel_rfl) (by kernel_rfl) (by kernel_rfl) ?_
    refine zdEnd (by kernel_rfl) (by kernel_rfl) ?_
    refine zkSeq ?_
    refine zrRet ?_
    refine zkNil ?_
    exact endQ hS hQ (fRet (by kernel_rfl) ((congrArg (fun s => outR s 0 c72.res) (by kernel_rfl : finSt c72.fin _ = f72_fin true)).trans (f72_out true)))
  · replace hS := cond_f hc hS
    refine zdRun (n := 5) (j := 12) (ts := [[], [], [], [], []]) (acc' := [[], [], [], [], [], [(344, true), (345, true), (346, true), (347, true), (348, true), (349, true), (350, true), (351, true)], [], [], [], [], [], []]) rfl (by kernel_rfl) (by kernel_rfl) (by kernel_rfl) ?_
    refine zdBool (d := 49) (op := (.cmpI .lss (.tmp 46) (.tmp 48))) (g := (some (44, false))) (j := 13) (t1 := []) (acc' := [[], [], [], [], [], [(344, true), (345, true), (346, true), (347, true), (348, true), (349, true), (350, true), (351, true)], [], [], [], [], [], [], []]) (decide ((IntKind.i64.wrap (a2 + 1)) < (a1.length : Int))) (by kernel_rfl) (by kernel_rfl) rfl (by kernel_rfl) (by kernel_rfl) (by kernel_rfl) (fun hc => ?_) (fun hc => ?_)
    · replace hS := cond_t hc hS
      refine zdRun (n := 4) (j := 17) (ts := [[], [], [], []]) (acc' := [[], [], [], [], [], [(344, true), (345, true), (346, true), (347, true), (348, true), (349, true), (350, true), (351, true)], [], [], [], [], [], [], [], [], [], [], []]) rfl (by kernel_rfl) (by kernel_rfl) (by kernel_rfl) ?_
      refine bindE hS (fun z18 hz18 hS => ?_)
      refine zdOp (d := some 54) (op := (.ixS 58 4 (.tmp 51) (.tmp 53))) (g := (some (50, true))) (v := (.rptr (e_GCell.enc z18 ++ (e_GCell.cells (a1.drop (((IntKind.i64.wrap (a2 + 1)) : Int).toNat + 1)))))) (ups := []) (j := 18) (t1 := []) (acc' := [[], [], [], [], [], [(344, true), (345, true), (346, true), (347, true), (348, true), (349, true), (350, true), (351, true)], [], [], [], [], [], [], [], [], [], [], [], []]) (by kernel_rfl) (by kernel_rfl) rfl (by kernel_rfl) (by kernel_rfl) (ev_ixS e_GCell (kk := .i64) (xs := a1) (j := (IntKind.i64.wrap (a2 + 1))) (by kernel_rfl) (by kernel_rfl) hz18 rfl (by intro h; cases h)) ?_
      refine zdRun (n := 2) (j := 20) (ts := [[], []]) (acc' := [[], [], [], [], [], [(344, true), (345, true), (346, true), (347, true), (348, true), (349, true), (350, true), (351, true)], [], [], [], [], [], [], [], [], [], [], [], [], [], []]) rfl (by kernel_rfl) (by kernel_rfl) (by kernel_rfl) ?_
      refine zdBool (d := 57) (op := (.cmpI .eql (.tmp 56) (.const (.int .i64 0)))) (g := (some (50, true))) (j := 21) (t1 := []) (acc' := [[], [], [], [], [], [(344, true), (345, true), (346, true), (347, true), (348, true), (349, true), (350, true), (351, true)], [], [], [], [], [], [], [], [], [], [], [], [], [], [], []]) (decide (z18.Rune = 0)) (by kernel_rfl) (by kernel_rfl) rfl (by kernel_rfl) (by kernel_rfl) (by kernel_rfl) (fun hc => ?_) (fun hc => ?_)
      · replace hS := cond_t hc hS
        refine zdRun (n := 5) (j := 26) (ts := [[], [], [], [], []]) (acc' := [[], [], [], [], [], [(344, true), (345, true), (346, true), (347, true), (348, true), (349, true), (350, true), (351, true)], [], [], [], [], [], [], [], [], [], [], [], [], [], [], [], [], [], [], [], []]) rfl (by kernel_rfl) (by kernel_rfl) (by kernel_rfl) ?_
        refine bindE hS (fun z19 hz19 hS => ?_)
        refine zdOp (d := some 63) (op := (.ixS 58 4 (.tmp 60) (.tmp 62))) (g := (some (59, true))) (v := (.rptr (e_GCell.enc z19 ++ (e_GCell.cells (a1.drop (((IntKind.i64.wrap (a2 + 1)) : Int).toNat + 1)))))) (ups := []) (j := 27) (t1 := []) (acc' := [[], [], [], [], [], [(344, true), (345, true), (346, true), (347, true), (348, true), (349, true), (350, true), (351, true)], [], [], [], [], [], [], [], [], [], [], [], [], [], [], [], [], [], [], [], [], []]) (by kernel_rfl) (by kernel_rfl) rfl (by kernel_rfl) (by kernel_rfl) (ev_ixS e_GCell (kk := .i64) (xs := a1) (j := (IntKind.i64.wrap (a2 + 1))) (by kernel_rfl) (by kernel_rfl) hz19 rfl (by intro h; cases h)) ?_
        refine zdRun (n := 4) (j := 31) (ts := [[], [], [], []]) (acc' := [[], [], [], [], [], [(344, true), (345, true), (346, true), (347, true), (348, true), (349, true), (350, true), (351, true)], [], [], [], [], [], [], [], [], [], [], [], [], [], [], [], [], [], [], [], [], [], [], [], [], []]) rfl (by kernel_rfl) (by kernel_rfl) (by kernel_rfl) ?_
        refine bindE hS (fun z20 hz20 hS => ?_)
        refine zdOp (d := some 68) (op := (.ixS 58 4 (.tmp 66) (.tmp 67))) (g := (some (59, true))) (v := (.rptr (e_GCell.enc z20 ++ (e_GCell.cells (a1.drop ((a2 : Int).toNat + 1)))))) (ups := []) (j := 32) (t1 := []) (acc' := [[], [], [], [], [], [(344, true), (345, true), (346, true), (347, true), (348, true), (349, true), (350, true), (351, true)], [], [], [], [], [], [], [], [], [], [], [], [], [], [], [], [], [], [], [], [], [], [], [], [], [], []]) (by kernel_rfl) (by kernel_rfl) rfl (by kernel_rfl) (by kernel_rfl) (ev_ixS e_GCell (kk := .i64) (xs := a1) (j := a2) (by kernel_rfl) (by kernel_rfl) hz20 rfl (by intro h; cases h)) ?_
        refine zdRun (n := 2) (j := 34) (ts := [[], []]) (acc' := [[], [], [], [], [], [(344, true), (345, true), (346, true), (347, true), (348, true), (349, true), (350, true), (351, true)], [], [], [], [], [], [], [], [], [], [], [], [], [], [], [], [], [], [], [], [], [], [], [], [], [], [], [], []]) rfl (by kernel_rfl) (by kernel_rfl) (by kernel_rfl) ?_
        refine zdBool (d := 71) (op := (.eqA .false [(3, .int)] (.tmp 65) (.tmp 70))) (g := (some (59, true))) (j := 35) (t1 := []) (acc' := [[], [], [], [], [], [(344, true), (345, true), (346, true), (347, true), (348, true), (349, true), (350, true), (351, true)], [], [], [], [], [], [], [], [], [], [], [], [], [], [], [], [], [], [], [], [], [], [], [], [], [], [], [], [], []]) (decide (z19.Pen.Flags = z20.Pen.Flags) && (decide (z19.Pen.Fore = z20.Pen.Fore) && (decide (z19.Pen.Back = z20.Pen.Back) && true))) (by kernel_rfl) (by kernel_rfl) rfl (by kernel_rfl) (by kernel_rfl) (by kernel_rfl) (fun hc => ?_) (fun hc => ?_)
        · replace hS := cond_t hc hS
          refine zdRun (n := 3) (j := 38) (ts := [[], [], []]) (acc' := [[], [], [], [], [], [(344, true), (345, true), (346, true), (347, true), (348, true), (349, true), (350, true), (351, true)], [], [], [], [], [], [], [], [], [], [], [], [], [], [], [], [], [], [], [], [], [], [], [], [], [], [], [], [], [], [], [], []]) rfl (by kernel_rfl) (by kernel_rfl) (by kernel_rfl) ?_
          refine zdEnd (by kernel_rfl) (by kernel_rfl) ?_
          refine zkSeq ?_
          refine zrRet ?_
          refine zkNil ?_
          exact endQ hS hQ (fRet (by kernel_rfl) ((congrArg (fun s => outR s 0 c72.res) (by kernel_rfl : finSt c72.fin _ = f72_fin true)).trans (f72_out true)))
        · replace hS := cond_f hc hS
          refine zdRun (n := 3) (j := 38) (ts := [[], [], []]) (acc' := [[], [], [], [], [], [(344, true), (345, true), (346, true), (347, true), (348, true), (349, true), (350, true), (351, true)], [], [], [], [], [], [], [], [], [], [], [], [], [], [], [], [], [], [], [], [], [], [], [], [], [], [], [], [], [], [], [], []]) rfl (by kernel_rfl) (by kernel_rfl) (by kernel_rfl) ?_
          refine zdEnd (by kernel_rfl) (by kernel_rfl) ?_
          refine zkSeq ?_
          refine zrRet ?_
          refine zkNil ?_
          exact endQ hS hQ (fRet (by kernel_rfl) ((congrArg (fun s => outR s 0 c72.res) (by kernel_rfl : finSt c72.fin _ = f72_fin false)).trans (f72_out false)))
      · replace hS := cond_f hc hS
        refine zdRun (n := 17) (j := 38) (ts := [[], [], [], [], [], [], [], [], [], [], [], [], [], [], [], [], []]) (acc' := [[], [], [], [], [], [(344, true), (345, true), (346, true), (347, true), (348, true), (349, true), (350, true), (351, true)], [], [], [], [], [], [], [], [], [], [], [], [], [], [], [], [], [], [], [], [], [], [], [], [], [], [], [], [], [], [], [], []]) rfl (by kernel_rfl) (by kernel_rfl) (by kernel_rfl) ?_
        refine zdEnd (by kernel_rfl) (by kernel_rfl) ?_
        refine zkSeq ?_
        refine zrRet ?_
        refine zkNil ?_
        exact endQ hS hQ (fRet (by kernel_rfl) ((congrArg (fun s => outR s 0 c72.res) (by kernel_rfl : finSt c72.fin _ = f72_fin false)).trans (f72_out false)))
    · replace hS := cond_f hc hS
      refine zdRun (n := 25) (j := 38) (ts := [[], [], [], [], [], [], [], [], [], [], [], [], [], [], [], [], [], [], [], [], [], [], [], [], []]) (acc' := [[], [], [], [], [], [(344, true), (345, true), (346, true), (347, true), (348, true), (349, true), (350, true), (351, true)], [], [], [], [], [], [], [], [], [], [], [], [], [], [], [], [], [], [], [], [], [], [], [], [], [], [], [], [], [], [], [], []]) rfl (by kernel_rfl) (by kernel_rfl) (by kernel_rfl) ?_
      refine zdEnd (by kernel_rfl) (by kernel_rfl) ?_
      refine zkSeq ?_
      refine zrRet ?_
      refine zkNil ?_
      exact endQ hS hQ (fRet (by kernel_rfl) ((congrArg (fun s => outR s 0 c72.res) (by kernel_rfl : finSt c72.fin _ = f72_fin false)).trans (f72_out false)))
noncomputable def f72 (a1 : List GCell) (a2 : Int) : Option (Bool) := ((idx a1 a2).bind fun z22 => (bif (decide (z22.Rune = 0)) then (bif (decide (0 < a2)) then ((idx a1 (IntKind.i64.wrap (a2 - 1))).bind fun z23 => ((f71 z23.Rune).bind fun z24 => (bif (decide (z24 = 2)) then ((idx a1 (IntKind.i64.wrap (a2 - 1))).bind fun z25 => ((idx a1 a2).bind fun z26 => (bif (decide (z25.Pen.Flags = z26.Pen.Flags) && (decide (z25.Pen.Fore = z26.Pen.Fore) && (decide (z25.Pen.Back = z26.Pen.Back) && true))) then (some true) else (some false)))) else (some false)))) else (some false)) else (f72_j0 a1 a2 )))
theorem f72_ok (d : Nat) (hd : 4 ≤ d) (a1 : List GCell) (a2 : Int) (r : Bool) (hS : f72 a1 a2 = some r) : lev codes baseL d 72 [(.d (.sl a1.length (e_GCell.cells a1))), (.d (.int .i64 a2))] [] = some ((.d (.bool r)), []) := by
  refine lev_go codes72 rfl rfl (Nat.le_trans (Nat.le_of_ble_eq_true rfl) hd) fun Q hQ => ?_
  unfold f72 at hS
  show ZR _ Q c72_b [] _
  replace hQ : ∀ e st', f72_Q r e st' → Q e st' := hQ
  refine zrSeq ?_
  refine zrReg ?_
  refine zlRun (n := 1) (j := 1) rfl (by kernel_rfl) ?_
  refine zlEnd (by kernel_rfl) ?_
  refine zkSeq ?_
  refine zrSeq ?_
  refine zrSeq ?_
  refine zrReg ?_
  refine zlRun (n := 2) (j := 2) rfl (by kernel_rfl) ?_
  refine bindE hS (fun z22 hz22 hS => ?_)
  refine zlOp (d := some 7) (op := (.ixS 58 4 (.tmp 5) (.tmp 6))) (g := none) (v := (.rptr (e_GCell.enc z22 ++ (e_GCell.cells (a1.drop ((a2 : Int).toNat + 1)))))) (ups := []) (j := 3) rfl (by kernel_rfl) (by kernel_rfl) (ev_ixS e_GCell (kk := .i64) (xs := a1) (j := a2) (by kernel_rfl) (by kernel_rfl) hz22 rfl (by intro h; cases h)) ?_
  refine zlRun (n := 2) (j := 5) rfl (by kernel_rfl) ?_
  refine zlBool (d := 10) (op := (.cmpI .eql (.tmp 9) (.const (.int .i64 0)))) (g := none) (j := 6) (decide (z22.Rune = 0)) rfl (by kernel_rfl) (by kernel_rfl) (by kernel_rfl) (fun hc => ?_) (fun hc => ?_)
  · replace hS := cond_t hc hS
    refine zlEnd (by kernel_rfl) ?_
    refine zkSeq ?_
    refine zrCondT (by kernel_rfl) ?_
    refine zrSeq ?_
    refine zrRegD ?_
    refine zdRun (n := 1) (j := 1) (ts := [[]]) (acc' := [[]]) rfl (by kernel_rfl) (by kernel_rfl) (by kernel_rfl) ?_
    refine zdBool (d := 12) (op := (.cmpI .gtr (.tmp 11) (.const (.int .i64 0)))) (g := none) (j := 2) (t1 := []) (acc' := [[], []]) (decide (0 < a2)) (by kernel_rfl) (by kernel_rfl) rfl (by kernel_rfl) (by kernel_rfl) (by kernel_rfl) (fun hc => ?_) (fun hc => ?_)
    · replace hS := cond_t hc hS
      refine zdRun (n := 4) (j := 6) (ts := [[], [], [], []]) (acc' := [[], [], [], [], [], []]) rfl (by kernel_rfl) (by kernel_rfl) (by kernel_rfl) ?_
      refine bindE hS (fun z23 hz23 hS => ?_)
      refine zdOp (d := some 17) (op := (.ixS 58 4 (.tmp 14) (.tmp 16))) (g := (some (13, true))) (v := (.rptr (e_GCell.enc z23 ++ (e_GCell.cells (a1.drop (((IntKind.i64.wrap (a2 - 1)) : Int).toNat + 1)))))) (ups := []) (j := 7) (t1 := []) (acc' := [[], [], [], [], [], [], []]) (by kernel_rfl) (by kernel_rfl) rfl (by kernel_rfl) (by kernel_rfl) (ev_ixS e_GCell (kk := .i64) (xs := a1) (j := (IntKind.i64.wrap (a2 - 1))) (by kernel_rfl) (by kernel_rfl) hz23 rfl (by intro h; cases h)) ?_
      refine zdRun (n := 2) (j := 9) (ts := [[], []]) (acc' := [[], [], [], [], [], [], [], [], []]) rfl (by kernel_rfl) (by kernel_rfl) (by kernel_rfl) ?_
      refine bindE hS (fun z24 hz24 hS => ?_)
      refine zdOp (d := some 20) (op := (.call 71 [(.tmp 19)])) (g := (some (13, true))) (j := 10) (t1 := [(168, true), (169, true), (170, true), (171, true), (172, true), (173, true), (174, true), (175, true)]) (acc' := [[], [], [], [], [], [], [], [], [], [(168, true), (169, true), (170, true), (171, true), (172, true), (173, true), (174, true), (175, true)]]) (by kernel_rfl) (by kernel_rfl) rfl (by kernel_rfl) (by kernel_rfl) (ev_callA (by kernel_rfl) (f71_ok (d - 1) (dpt hd rfl) z23.Rune z24 hz24) (by kernel_rfl) (by kernel_rfl)) ?_
      refine zdBool (d := 21) (op := (.cmpI .eql (.tmp 20) (.const (.int .i64 2)))) (g := (some (13, true))) (j := 11) (t1 := []) (acc' := [[], [], [], [], [], [], [], [], [], [(168, true), (169, true), (170, true), (171, true), (172, true), (173, true), (174, true), (175, true)], []]) (decide (z24 = 2)) (by kernel_rfl) (by kernel_rfl) rfl (by kernel_rfl) (by kernel_rfl) (by kernel_rfl) (fun hc => ?_) (fun hc => ?_)
      · replace hS := cond_t hc hS
        refine zdRun (n := 5) (j := 16) (ts := [[], [], [], [], []]) (acc' := [[], [], [], [], [], [], [], [], [], [(168, true), (169, true), (170, true), (171, true), (172, true), (173, true), (174, true), (175, true)], [], [], [], [], [], []]) rfl (by kernel_rfl) (by kernel_rfl) (by kernel_rfl) ?_
        refine bindE hS (fun z25 hz25 hS => ?_)
        refine zdOp (d := some 27) (op := (.ixS 58 4 (.tmp 24) (.tmp 26))) (g := (some (23, true))) (v := (.rptr (e_GCell.enc z25 ++ (e_GCell.cells (a1.drop (((IntKind.i64.wrap (a2 - 1)) : Int).toNat + 1)))))) (ups := []) (j := 17) (t1 := []) (acc' := [[], [], [], [], [], [], [], [], [], [(168, true), (169, true), (170, true), (171, true), (172, true), (173, true), (174, true), (175, true)], [], [], [], [], [], [], []]) (by kernel_rfl) (by kernel_rfl) rfl (by kernel_rfl) (by kernel_rfl) (ev_ixS e_GCell (kk := .i64) (xs := a1) (j := (IntKind.i64.wrap (a2 - 1))) (by kernel_rfl) (by kernel_rfl) hz25 rfl (by intro h; cases h)) ?_
        refine zdRun (n := 4) (j := 21) (ts := [[], [], [], []]) (acc' := [[], [], [], [], [], [], [], [], [], [(168, true), (169, true), (170, true), (171, true), (172, true), (173, true), (174, true), (175, true)], [], [], [], [], [], [], [], [], [], [], []]) rfl (by kernel_rfl) (by kernel_rfl) (by kernel_rfl) ?_
        refine bindE hS (fun z26 hz26 hS => ?_)
        refine zdOp (d := some 32) (op := (.ixS 58 4 (.tmp 30) (.tmp 31))) (g := (some (23, true))) (v := (.rptr (e_GCell.enc z26 ++ (e_GCell.cells (a1.drop ((a2 : Int).toNat + 1)))))) (ups := []) (j := 22) (t1 := []) (acc' := [[], [], [], [], [], [], [], [], [], [(168, true), (169, true), (170, true), (171, true), (172, true), (173, true), (174, true), (175, true)], [], [], [], [], [], [], [], [], [], [], [], []]) (by kernel_rfl) (by kernel_rfl) rfl (by kernel_rfl) (by kernel_rfl) (ev_ixS e_GCell (kk := .i64) (xs := a1) (j := a2) (by kernel_rfl) (by kernel_rfl) hz26 rfl (by intro h; cases h)) ?_
        refine zdRun (n := 2) (j := 24) (ts := [[], []]) (acc' := [[], [], [], [], [], [], [], [], [], [(168, true), (169, true), (170, true), (171, true), (172, true), (173, true), (174, true), (175, true)], [], [], [], [], [], [], [], [], [], [], [], [], [], []]) rfl (by kernel_rfl) (by kernel_rfl) (by kernel_rfl) ?_
        refine zdBool (d := 35) (op := (.eqA .false [(3, .int)] (.tmp 29) (.tmp 34))) (g := (some (23, true))) (j := 25) (t1 := []) (acc' := [[], [], [], [], [], [], [], [], [], [(168, true), (169, true), (170, true), (171, true), (172, true), (173, true), (174, true), (175, true)], [], [], [], [], [], [], [], [], [], [], [], [], [], [], []]) (decide (z25.Pen.Flags = z26.Pen.Flags) && (decide (z25.Pen.Fore = z26.Pen.Fore) && (decide (z25.Pen.Back = z26.Pen.Back) && true))) (by kernel_rfl) (by kernel_rfl) rfl (by kernel_rfl) (by kernel_rfl) (by kernel_rfl) (fun hc => ?_) (fun hc => ?_)
        · replace hS := cond_t hc hS
          refine zdRun (n := 2) (j := 27) (ts := [[], []]) (acc' := [[], [], [], [], [], [], [], [], [], [(168, true), (169, true), (170, true), (171, true), (172, true), (173, true), (174, true), (175, true)], [], [], [], [], [], [], [], [], [], [], [], [], [], [], [], [], []]) rfl (by kernel_rfl) (by kernel_rfl) (by kernel_rfl) ?_
          refine zdEnd (by kernel_rfl) (by kernel_rfl) ?_
          refine zkSeq ?_
          refine zrRet ?_
          refine zkSeqR ?_
          refine zkNil ?_
          exact endQ hS hQ (fRet (by kernel_rfl) ((congrArg (fun s => outR s 0 c72.res) (by kernel_rfl : finSt c72.fin _ = f72_fin true)).trans (f72_out true)))
        · replace hS := cond_f hc hS
          refine zdRun (n := 2) (j := 27) (ts := [[], []]) (acc' := [[], [], [], [], [], [], [], [], [], [(168, true), (169, true), (170, true), (171, true), (172, true), (173, true), (174, true), (175, true)], [], [], [], [], [], [], [], [], [], [], [], [], [], [], [], [], []]) rfl (by kernel_rfl) (by kernel_rfl) (by kernel_rfl) ?_
          refine zdEnd (by kernel_rfl) (by kernel_rfl) ?_
          refine zkSeq ?_
          refine zrRet ?_
          refine zkSeqR ?_
          refine zkNil ?_
          exact endQ hS hQ (fRet (by kernel_rfl) ((congrArg (fun s => outR s 0 c72.res) (by kernel_rfl : finSt c72.fin _ = f72_fin false)).trans (f72_out false)))
      · replace hS := cond_f hc hS
        refine zdRun (n := 16) (j := 27) (ts := [[], [], [], [], [], [], [], [], [], [], [], [], [], [], [], []]) (acc' := [[], [], [], [], [], [], [], [], [], [(168, true), (169, true), (170, true), (171, true), (172, true), (173, true), (174, true), (175, true)], [], [], [], [], [], [], [], [], [], [], [], [], [], [], [], [], []]) rfl (by kernel_rfl) (by kernel_rfl) (by kernel_rfl) ?_
        refine zdEnd (by kernel_rfl) (by kernel_rfl) ?_
        refine zkSeq ?_
        refine zrRet ?_
        refine zkSeqR ?_
        refine zkNil ?_
        exact endQ hS hQ (fRet (by kernel_rfl) ((congrArg (fun s => outR s 0 c72.res) (by kernel_rfl : finSt c72.fin _ = f72_fin false)).trans (f72_out false)))
    · replace hS := cond_f hc hS
      refine zdRun (n := 25) (j := 27) (ts := [[], [], [], [], [], [], [], [], [], [], [], [], [], [], [], [], [], [], [], [], [], [], [], [], []]) (acc' := [[], [], [], [], [], [], [], [], [], [], [], [], [], [], [], [], [], [], [], [], [], [], [], [], [], [], []]) rfl (by kernel_rfl) (by kernel_rfl) (by kernel_rfl) ?_
      refine zdEnd (by kernel_rfl) (by kernel_rfl) ?_
      refine zkSeq ?_
      refine zrRet ?_
      refine zkSeqR ?_
      refine zkNil ?_
      exact endQ hS hQ (fRet (by kernel_rfl) ((congrArg (fun s => outR s 0 c72.res) (by kernel_rfl : finSt c72.fin _ = f72_fin false)).trans (f72_out false)))
  · replace hS := cond_f hc hS
    refine zlEnd (by kernel_rfl) ?_
    refine zkSeq ?_
    refine zrCondF (by kernel_rfl) ?_
    refine zrSkip ?_
    refine zkSeq ?_
    exact f72_j0_ok hd a1 a2 hQ  hS (by kernel_rfl)
/- farwriter/farref.GridRight -/
def f45_fin (p341 : Int) : St := ⟨(up (fun _ => .un) 2 (.d (.int .i64 p341))), (hB fun _ => 0)⟩
theorem f45_out (p341 : Int) : outR (f45_fin p341) 0 c45.res = some ((.d (.int .i64 p341)), []) := by
  kernel_rfl
def f45_Q (r : Int) (e : PX) (st : St) : Prop := DoneF c45 0 ((.d (.int .i64 r)), []) e st
def f45_l2_J (a1 : GGrid) (x : (List (List GCell)) × Int × Int) : St := ⟨(up (up (up (fun _ => .un) 25 (.d (.int .i64 x.2.2))) 24 (.d (.int .i64 x.2.1))) 23 (.r (.msl 192 0 0 x.1.length))), (up (hB fun _ => 0) 192 ⟨0, some (.own 22 1 ((eSl e_GCell).cells x.1))⟩)⟩
def f45_l2_H (a1 : GGrid) (x : (List (List GCell)) × Int × Int) (st : St) : Prop := keepSt [23, 24, 25] [(192, .id 192)] [] st = f45_l2_J a1 x
def f45_l2_e0_J (a1 : GGrid) : St := ⟨(fun _ => .un), (hB fun _ => 0)⟩
def f45_l2_X (a1 : GGrid) (z : Unit ⊕ Int) (e : PX) (st : St) : Prop := (match z with | .inl z => e = .exit 0 ∧ st = f45_l2_e0_J a1 | .inr z => e = .ret ∧ finSt c45.fin st = f45_fin z)
def f45_l2_l5_J (a1 : GGrid) (x : (List GCell) × (List (List GCell)) × Int × Int × (List GCell) × Int × Int) : St := ⟨(up (up (up (up (up (up (up (fun _ => .un) 31 (.d (.int .i64 x.2.2.2.2.2.2))) 30 (.d (.int .i64 x.2.2.2.2.2.1))) 29 (.d (.sl x.2.2.2.2.1.length (e_GCell.cells x.2.2.2.2.1)))) 25 (.d (.int .i64 x.2.2.2.1))) 24 (.d (.int .i64 x.2.2.1))) 23 (.r (.msl 192 0 0 x.2.1.length))) 4 (.d (.sl x.1.length (e_GCell.cells x.1)))), (up (hB fun _ => 0) 192 ⟨0, some (.own 22 1 ((eSl e_GCell).cells x.2.1))⟩)⟩
def f45_l2_l5_H (a1 : GGrid) (x : (List GCell) × (List (List GCell)) × Int × Int × (List GCell) × Int × Int) (st : St) : Prop := keepSt [4, 23, 24, 25, 29, 30, 31] [(192, .id 192)] [] st = f45_l2_l5_J a1 x
def f45_l2_l5_e2_J (a1 : GGrid) (p802 : List (List GCell)) (p803 : Int) (p804 : Int) : St := ⟨(up (up (up (fun _ => .un) 25 (.d (.int .i64 p804))) 24 (.d (.int .i64 p803))) 23 (.r (.msl 192 0 0 p802.length))), (up (hB fun _ => 0) 192 ⟨0, some (.own 22 1 ((eSl e_GCell).cells p802))⟩)⟩
def f45_l2_l5_X (a1 : GGrid) (z : ((List (List GCell)) × Int × Int) ⊕ Int) (e : PX) (st : St) : Prop := (match z with | .inl z => e = .exit 2 ∧ st = f45_l2_l5_e2_J a1 z.1 z.2.1 z.2.2 | .inr z => e = .ret ∧ finSt c45.fin st = f45_fin z)
def f45_l2_l5_j7_J (a1 : GGrid) (p821 : List GCell) (p822 : List (List GCell)) (p823 : Int) (p824 : Int) (p825 : List GCell) (p826 : Int) (p827 : Int) : St := ⟨(up (up (up (up (up (up (up (fun _ => .un) 31 (.d (.int .i64 p827))) 30 (.d (.int .i64 p826))) 29 (.d (.sl p825.length (e_GCell.cells p825)))) 25 (.d (.int .i64 p824))) 24 (.d (.int .i64 p823))) 23 (.r (.msl 192 0 0 p822.length))) 4 (.d (.sl p821.length (e_GCell.cells p821)))), (up (hB fun _ => 0) 192 ⟨0, some (.own 22 1 ((eSl e_GCell).cells p822))⟩)⟩
noncomputable def f45_l2_l5_j7 (a1 : GGrid) (p821 : List GCell) (p822 : List (List GCell)) (p823 : Int) (p824 : Int) (p825 : List GCell) (p826 : Int) (p827 : Int) : Option (((List GCell) × (List (List GCell)) × Int × Int × (List GCell) × Int × Int) ⊕ (((List (List GCell)) × Int × Int) ⊕ Int)) := ((idx p825 p827).bind fun z124 => ((f47 z124.Pen).bind fun z125 => (bif (!decide (z125 = 0)) then (some (.inr (.inr 4))) else (bif (!decide (z124.Rune = 0)) then ((f71 z124.Rune).bind fun z126 => (bif (decide (z126 = 0)) then (some (.inr (.inr 4))) else ((f72 p821 p827).bind fun z127 => (bif (!z127) then (some (.inr (.inr 4))) else (some (.inl (p821, p822, p823, p824, p825, p826, (IntKind.i64.wrap (p827 + 1))))))))) else ((f72 p821 p827).bind fun z128 => (bif (!z128) then (some (.inr (.inr 4))) else (some (.inl (p821, p822, p823, p824, p825, p826, (IntKind.i64.wrap (p827 + 1)))))))))))
theorem f45_l2_l5_j7_ok {d : Nat} (hd : 5 ≤ d) (a1 : GGrid) {r : ((List GCell) × (List (List GCell)) × Int × Int × (List GCell) × Int × Int) ⊕ (((List (List GCell)) × Int × Int) ⊕ Int)} {Q : PX → St → Prop} (hQ : ∀ e st', finL (f45_l2_l5_H a1) (f45_l2_l5_X a1) r e st' → Q e st') (p821 : List GCell) (p822 : List (List GCell)) (p823 : Int) (p824 : Int) (p825 : List GCell) (p826 : Int) (p827 : Int) (hS : f45_l2_l5_j7 a1 p821 p822 p823 p824 p825 p826 p827 = some r) {st : St} (he : keepSt [4, 23, 24, 25, 29, 30, 31] [(192, .id 192)] [] st = f45_l2_l5_j7_J a1 p821 p822 p823 p824 p825 p826 p827) : ZR (lev codes baseL (d - 1)) Q c45_1 [] st := by
  refine zrKeep he ?_
  unfold f45_l2_l5_j7 at hS
  refine zrSeq ?_
  refine zrBlk ?_
  refine zrSeq ?_
  refine zrReg ?_
  refine zlRun (n := 1) (j := 1) rfl (by kernel_rfl) ?_
  refine bindE hS (fun z124 hz124 hS => ?_)
  refine zlOp (d := some 34) (op := (.ixS 58 4 (.tmp 29) (.tmp 31))) (g := none) (v := (.rptr (e_GCell.enc z124 ++ (e_GCell.cells (p825.drop ((p827 : Int).toNat + 1)))))) (ups := []) (j := 2) rfl (by kernel_rfl) (by kernel_rfl) (ev_ixS e_GCell (kk := .i64) (xs := p825) (j := p827) (by kernel_rfl) (by kernel_rfl) hz124 rfl (by intro h; cases h)) ?_
  refine zlRun (n := 4) (j := 6) rfl (by kernel_rfl) ?_
  refine zlEnd (by kernel_rfl) ?_
  refine zkSeq ?_
  refine zrSeq ?_
  refine zrReg ?_
  refine zlRun (n := 2) (j := 2) rfl (by kernel_rfl) ?_
  refine bindE hS (fun z125 hz125 hS => ?_)
  refine zlOp (d := some 38) (op := (.call 47 [(.tmp 37)])) (g := none) (j := 3) rfl (by kernel_rfl) (by kernel_rfl) (ev_callA (by kernel_rfl) (f47_ok (d - 1) (dpt hd rfl) z124.Pen z125 hz125) (by kernel_rfl) (by kernel_rfl)) ?_
  refine zlBool (d := 39) (op := (.cmpI .neq (.tmp 38) (.const (.int .i64 0)))) (g := none) (j := 4) (!decide (z125 = 0)) rfl (by kernel_rfl) (by kernel_rfl) (by kernel_rfl) (fun hc => ?_) (fun hc => ?_)
  · replace hS := cond_t hc hS
    refine zlRun (n := 17) (j := 21) rfl (by kernel_rfl) ?_
    refine zlEnd (by kernel_rfl) ?_
    refine zkSeq ?_
    refine zrCondT (by kernel_rfl) ?_
    refine zrSeq ?_
    refine zrReg ?_
    refine zlRun (n := 1) (j := 1) rfl (by kernel_rfl) ?_
    refine zlEnd (by kernel_rfl) ?_
    refine zkSeq ?_
    refine zrRet ?_
    refine zkBlkR ?_
    refine zkSeqR ?_
    refine zkNil ?_
    exact endQ hS hQ (finL_x (by intro h; cases h) (by show _ = _ ∧ _ = _; exact ⟨rfl, by kernel_rfl⟩))
  · replace hS := cond_f hc hS
    refine zlRun (n := 3) (j := 7) rfl (by kernel_rfl) ?_
    refine zlBool (d := 43) (op := (.cmpI .neq (.tmp 42) (.const (.int .i64 0)))) (g := (some (40, false))) (j := 8) (!decide (z124.Rune = 0)) rfl (by kernel_rfl) (by kernel_rfl) (by kernel_rfl) (fun hc => ?_) (fun hc => ?_)
    · replace hS := cond_t hc hS
      refine zlRun (n := 3) (j := 11) rfl (by kernel_rfl) ?_
      refine bindE hS (fun z126 hz126 hS => ?_)
      refine zlOp (d := some 47) (op := (.call 71 [(.tmp 46)])) (g := (some (44, true))) (j := 12) rfl (by kernel_rfl) (by kernel_rfl) (ev_callA (by kernel_rfl) (f71_ok (d - 1) (dpt hd rfl) z124.Rune z126 hz126) (by kernel_rfl) (by kernel_rfl)) ?_
      refine zlBool (d := 48) (op := (.cmpI .eql (.tmp 47) (.const (.int .i64 0)))) (g := (some (44, true))) (j := 13) (decide (z126 = 0)) rfl (by kernel_rfl) (by kernel_rfl) (by kernel_rfl) (fun hc => ?_) (fun hc => ?_)
      · replace hS := cond_t hc hS
        refine zlRun (n := 8) (j := 21) rfl (by kernel_rfl) ?_
        refine zlEnd (by kernel_rfl) ?_
        refine zkSeq ?_
        refine zrCondT (by kernel_rfl) ?_
        refine zrSeq ?_
        refine zrReg ?_
        refine zlRun (n := 1) (j := 1) rfl (by kernel_rfl) ?_
        refine zlEnd (by kernel_rfl) ?_
        refine zkSeq ?_
        refine zrRet ?_
        refine zkBlkR ?_
        refine zkSeqR ?_
        refine zkNil ?_
        exact endQ hS hQ (finL_x (by intro h; cases h) (by show _ = _ ∧ _ = _; exact ⟨rfl, by kernel_rfl⟩))
      · replace hS := cond_f hc hS
        refine zlRun (n := 5) (j := 18) rfl (by kernel_rfl) ?_
        refine bindE hS (fun z127 hz127 hS => ?_)
        refine zlOp (d := some 54) (op := (.call 72 [(.tmp 52), (.tmp 53)])) (g := (some (51, false))) (j := 19) rfl (by kernel_rfl) (by kernel_rfl) (ev_callA (by kernel_rfl) (f72_ok (d - 1) (dpt hd rfl) p821 p827 z127 hz127) (by kernel_rfl) (by kernel_rfl)) ?_
        refine zlRun (n := 2) (j := 21) rfl (by kernel_rfl) ?_
        refine zlEnd (by kernel_rfl) ?_
        refine zkSeq ?_
        refine zrSplit 56 (!z127) (by kernel_rfl) (fun hc => ?_) (fun hc => ?_)
        · replace hS := cond_t hc hS
          refine zrCondT (by kernel_rfl) ?_
          refine zrSeq ?_
          refine zrReg ?_
          refine zlRun (n := 1) (j := 1) rfl (by kernel_rfl) ?_
          refine zlEnd (by kernel_rfl) ?_
          refine zkSeq ?_
          refine zrRet ?_
          refine zkBlkR ?_
          refine zkSeqR ?_
          refine zkNil ?_
          exact endQ hS hQ (finL_x (by intro h; cases h) (by show _ = _ ∧ _ = _; exact ⟨rfl, by kernel_rfl⟩))
        · replace hS := cond_f hc hS
          refine zrCondF (by kernel_rfl) ?_
          refine zrSkip ?_
          refine zkBlk ?_
          refine zkSeq ?_
          refine zrReg ?_
          refine zlRun (n := 2) (j := 2) rfl (by kernel_rfl) ?_
          refine zlEnd (by kernel_rfl) ?_
          refine zkNil ?_
          exact endQ hS hQ (finL_n (by show keepSt _ _ _ _ = _; kernel_rfl))
    · replace hS := cond_f hc hS
      refine zlRun (n := 10) (j := 18) rfl (by kernel_rfl) ?_
      refine bindE hS (fun z128 hz128 hS => ?_)
      refine zlOp (d := some 54) (op := (.call 72 [(.tmp 52), (.tmp 53)])) (g := (some (51, false))) (j := 19) rfl (by kernel_rfl) (by kernel_rfl) (ev_callA (by kernel_rfl) (f72_ok (d - 1) (dpt hd rfl) p821 p827 z128 hz128) (by kernel_rfl) (by kernel_rfl)) ?_
      refine zlRun (n := 2) (j := 21) rfl (by kernel_rfl) ?_
      refine zlEnd (by kernel_rfl) ?_
      refine zkSeq ?_
      refine zrSplit 56 (!z128) (by kernel_rfl) (fun hc => ?_) (fun hc => ?_)
      · replace hS := cond_t hc hS
        refine zrCondT (by kernel_rfl) ?_
        refine zrSeq ?_
        refine zrReg ?_
        refine zlRun (n := 1) (j := 1) rfl (by kernel_rfl) ?_
        refine zlEnd (by kernel_rfl) ?_
        refine zkSeq ?_
        refine zrRet ?_
        refine zkBlkR ?_
        refine zkSeqR ?_
        refine zkNil ?_
        exact endQ hS hQ (finL_x (by intro h; cases h) (by show _ = _ ∧ _ = _; exact ⟨rfl, by kernel_rfl⟩))
      · replace hS := cond_f hc hS
        refine zrCondF (by kernel_rfl) ?_
        refine zrSkip ?_
        refine zkBlk ?_
        refine zkSeq ?_
        refine zrReg ?_
        refine zlRun (n := 2) (j := 2) rfl (by kernel_rfl) ?_
        refine zlEnd (by kernel_rfl) ?_
        refine zkNil ?_
        exact endQ hS hQ (finL_n (by show keepSt _ _ _ _ = _; kernel_rfl))
def f45_l2_l5_j6_J (a1 : GGrid) (p813 : List GCell) (p814 : List (List GCell)) (p815 : Int) (p816 : Int) (p817 : List GCell) (p818 : Int) (p819 : Int) (p820 : Bool) : St := ⟨(up (up (up (up (up (up (up (up (fun _ => .un) 32 (.d (.bool p820))) 31 (.d (.int .i64 p819))) 30 (.d (.int .i64 p818))) 29 (.d (.sl p817.length (e_GCell.cells p817)))) 25 (.d (.int .i64 p816))) 24 (.d (.int .i64 p815))) 23 (.r (.msl 192 0 0 p814.length))) 4 (.d (.sl p813.length (e_GCell.cells p813)))), (up (hB fun _ => 0) 192 ⟨0, some (.own 22 1 ((eSl e_GCell).cells p814))⟩)⟩
noncomputable def f45_l2_l5_j6 (a1 : GGrid) (p813 : List GCell) (p814 : List (List GCell)) (p815 : Int) (p816 : Int) (p817 : List GCell) (p818 : Int) (p819 : Int) (p820 : Bool) : Option (((List GCell) × (List (List GCell)) × Int × Int × (List GCell) × Int × Int) ⊕ (((List (List GCell)) × Int × Int) ⊕ Int)) := (bif p820 then (f45_l2_l5_j7 a1 p813 p814 p815 p816 p817 p818 p819) else (some (.inr (.inl (p814, p815, p816)))))
theorem f45_l2_l5_j6_ok {d : Nat} (hd : 5 ≤ d) (a1 : GGrid) {r : ((List GCell) × (List (List GCell)) × Int × Int × (List GCell) × Int × Int) ⊕ (((List (List GCell)) × Int × Int) ⊕ Int)} {Q : PX → St → Prop} (hQ : ∀ e st', finL (f45_l2_l5_H a1) (f45_l2_l5_X a1) r e st' → Q e st') (p813 : List GCell) (p814 : List (List GCell)) (p815 : Int) (p816 : Int) (p817 : List GCell) (p818 : Int) (p819 : Int) (p820 : Bool) (hS : f45_l2_l5_j6 a1 p813 p814 p815 p816 p817 p818 p819 p820 = some r) {st : St} (he : keepSt [4, 23, 24, 25, 29, 30, 31, 32] [(192, .id 192)] [] st = f45_l2_l5_j6_J a1 p813 p814 p815 p816 p817 p818 p819 p820) : ZR (lev codes baseL (d - 1)) Q c45_2 [] st := by
  refine zrKeep he ?_
  unfold f45_l2_l5_j6 at hS
  refine zrSeq ?_
  refine zrSplit 32 p820 (by kernel_rfl) (fun hc => ?_) (fun hc => ?_)
  · replace hS := cond_t hc hS
    refine zrCondT (by kernel_rfl) ?_
    refine zrSkip ?_
    refine zkSeq ?_
    exact f45_l2_l5_j7_ok hd a1 hQ p813 p814 p815 p816 p817 p818 p819 hS (by kernel_rfl)
  · replace hS := cond_f hc hS
    refine zrCondF (by kernel_rfl) ?_
    refine zrKeep (J := f45_l2_l5_e2_J a1 p814 p815 p816) (by kernel_rfl) ?_
    refine zrExit ?_
    refine zkSeqX ?_
    refine zkNil ?_
    exact endQ hS hQ (finL_x (by intro h; cases h) (by show _ = _ ∧ _ = _; exact ⟨rfl, rfl⟩))
noncomputable def f45_l2_l5 (a1 : GGrid) (x : (List GCell) × (List (List GCell)) × Int × Int × (List GCell) × Int × Int) : Option (((List GCell) × (List (List GCell)) × Int × Int × (List GCell) × Int × Int) ⊕ (((List (List GCell)) × Int × Int) ⊕ Int)) := (bif (decide (x.2.2.2.2.2.2 < x.2.2.2.2.2.1)) then (f45_l2_l5_j6 a1 x.1 x.2.1 x.2.2.1 x.2.2.2.1 x.2.2.2.2.1 x.2.2.2.2.2.1 x.2.2.2.2.2.2 true) else (f45_l2_l5_j6 a1 x.1 x.2.1 x.2.2.1 x.2.2.2.1 x.2.2.2.2.1 x.2.2.2.2.2.1 x.2.2.2.2.2.2 false))
theorem f45_l2_l5_ok {d : Nat} (hd : 5 ≤ d) (a1 : GGrid) {r : ((List GCell) × (List (List GCell)) × Int × Int × (List GCell) × Int × Int) ⊕ (((List (List GCell)) × Int × Int) ⊕ Int)} {Q : PX → St → Prop} (hQ : ∀ e st', finL (f45_l2_l5_H a1) (f45_l2_l5_X a1) r e st' → Q e st') {x : (List GCell) × (List (List GCell)) × Int × Int × (List GCell) × Int × Int} (hS : f45_l2_l5 a1 x = some r) {st : St} (he : f45_l2_l5_H a1 x st) : ZR (lev codes baseL (d - 1)) Q c45_3 [] st := by
  refine zrKeep he ?_
  unfold f45_l2_l5 at hS
  refine zrSeq ?_
  refine zrReg ?_
  refine zlBool (d := 32) (op := (.cmpI .lss (.tmp 31) (.tmp 30))) (g := none) (j := 1) (decide (x.2.2.2.2.2.2 < x.2.2.2.2.2.1)) rfl (by kernel_rfl) (by kernel_rfl) (by kernel_rfl) (fun hc => ?_) (fun hc => ?_)
  · replace hS := cond_t hc hS
    refine zlEnd (by kernel_rfl) ?_
    refine zkSeq ?_
    exact f45_l2_l5_j6_ok hd a1 hQ x.1 x.2.1 x.2.2.1 x.2.2.2.1 x.2.2.2.2.1 x.2.2.2.2.2.1 x.2.2.2.2.2.2 true hS (by kernel_rfl)
  · replace hS := cond_f hc hS
    refine zlEnd (by kernel_rfl) ?_
    refine zkSeq ?_
    exact f45_l2_l5_j6_ok hd a1 hQ x.1 x.2.1 x.2.2.1 x.2.2.2.1 x.2.2.2.2.1 x.2.2.2.2.2.1 x.2.2.2.2.2.2 false hS (by kernel_rfl)
def f45_l2_j4_J (a1 : GGrid) (p690 : List (List GCell)) (p691 : Int) (p692 : Int) : St := ⟨(up (up (up (fun _ => .un) 25 (.d (.int .i64 p692))) 24 (.d (.int .i64 p691))) 23 (.r (.msl 192 0 0 p690.length))), (up (hB fun _ => 0) 192 ⟨0, some (.own 22 1 ((eSl e_GCell).cells p690))⟩)⟩
noncomputable def f45_l2_j4 (a1 : GGrid) (p690 : List (List GCell)) (p691 : Int) (p692 : Int) : Option (((List (List GCell)) × Int × Int) ⊕ (Unit ⊕ Int)) := ((inR p692 p690.length).bind fun m107 => ((p690[m107]?).bind fun z108 => ((loopO (f45_l2_l5 a1) (z108, p690, p691, p692, z108, (z108.length : Int), 0)).bind fun z129 => (Sum.elim (fun z130 => (some (.inl (z130.1, z130.2.1, (IntKind.i64.wrap (z130.2.2 + 1)))))) (fun z131 => (some (.inr (.inr z131)))) z129))))
theorem f45_l2_j4_ok {d : Nat} (hd : 5 ≤ d) (a1 : GGrid) {r : ((List (List GCell)) × Int × Int) ⊕ (Unit ⊕ Int)} {Q : PX → St → Prop} (hQ : ∀ e st', finL (f45_l2_H a1) (f45_l2_X a1) r e st' → Q e st') (p690 : List (List GCell)) (p691 : Int) (p692 : Int) (hS : f45_l2_j4 a1 p690 p691 p692 = some r) {st : St} (he : keepSt [23, 24, 25] [(192, .id 192)] [] st = f45_l2_j4_J a1 p690 p691 p692) : ZR (lev codes baseL (d - 1)) Q c45_4 [] st := by
  refine zrKeep he ?_
  unfold f45_l2_j4 at hS
  refine zrSeq ?_
  refine zrBlk ?_
  refine zrSeq ?_
  refine zrReg ?_
  refine bindE hS (fun m107 hm107 hS => ?_)
  refine zlOp (d := some 27) (op := (.ixS 22 1 (.tmp 23) (.tmp 25))) (g := none) (v := (.r (.ptr 192 0 ((0 + m107) * 1)))) (ups := []) (j := 1) rfl (by kernel_rfl) (by kernel_rfl) (ev_ixM (kk := .i64) (b := 192) (g := 0) (l := 0) (n := p690.length) (j := p692) (cs := (eSl e_GCell).cells p690) (by kernel_rfl) (by kernel_rfl) (by kernel_rfl) hm107) ?_
  refine bindE hS (fun z108 hz108 hS => ?_)
  refine zlOp (d := some 28) (op := (.load .false 1 (.tmp 27))) (g := none) (v := (.d (.sl z108.length (e_GCell.cells z108)))) (ups := []) (j := 2) rfl (by kernel_rfl) (by kernel_rfl) (ev_loadM (eSl e_GCell) (b := 192) (g := 0) (o := (0 + m107) * 1) (e := 22) (k := 1) (m := m107) (fo := 0) (xs := p690) (by kernel_rfl) (by kernel_rfl) (by rw [Nat.zero_add]; rfl) hz108 (by kernel_rfl) (by kernel_rfl) (by kernel_rfl)) ?_
  refine zlRun (n := 1) (j := 3) rfl (by kernel_rfl) ?_
  refine zlEnd (by kernel_rfl) ?_
  refine zkSeq ?_
  refine zrSeq ?_
  refine zrReg ?_
  refine zlRun (n := 3) (j := 3) rfl (by kernel_rfl) ?_
  refine zlEnd (by kernel_rfl) ?_
  refine zkSeq ?_
  refine zrBlk ?_
  refine bindE hS (fun z129 hz129 hS => ?_)
  refine zrLoop (f45_l2_l5_H a1) (f45_l2_l5_X a1) (fun x st r Q h0 hS hQ => f45_l2_l5_ok hd a1 hQ hS h0) (x := (z108, p690, p691, p692, z108, (z108.length : Int), 0)) (z := z129) (by show keepSt _ _ _ _ = _; kernel_rfl) hz129 ?_
  rcases z129 with z130 | z131
  · replace hS := (show _ = _ from hS)
    simp only [Sum.elim_inl] at hS
    intro e st' _ hX
    obtain ⟨rfl, rfl⟩ : _ ∧ _ := hX
    refine zkBlkX ?_
    refine zkBlk ?_
    refine zkSeq ?_
    refine zrReg ?_
    refine zlRun (n := 2) (j := 2) rfl (by kernel_rfl) ?_
    refine zlEnd (by kernel_rfl) ?_
    refine zkNil ?_
    exact endQ hS hQ (finL_n (by show keepSt _ _ _ _ = _; kernel_rfl))
  · simp only [Sum.elim_inr] at hS
    intro e st' _ hX
    obtain ⟨rfl, hX⟩ : _ ∧ _ := hX
    refine zkBlkR ?_
    refine zkBlkR ?_
    refine zkSeqR ?_
    refine zkNil ?_
    exact endQ hS hQ (finL_x (by intro h; cases h) (by show _ = _ ∧ _ = _; exact ⟨rfl, hX⟩))
def f45_l2_j3_J (a1 : GGrid) (p686 : List (List GCell)) (p687 : Int) (p688 : Int) (p689 : Bool) : St := ⟨(up (up (up (up (fun _ => .un) 26 (.d (.bool p689))) 25 (.d (.int .i64 p688))) 24 (.d (.int .i64 p687))) 23 (.r (.msl 192 0 0 p686.length))), (up (hB fun _ => 0) 192 ⟨0, some (.own 22 1 ((eSl e_GCell).cells p686))⟩)⟩
noncomputable def f45_l2_j3 (a1 : GGrid) (p686 : List (List GCell)) (p687 : Int) (p688 : Int) (p689 : Bool) : Option (((List (List GCell)) × Int × Int) ⊕ (Unit ⊕ Int)) := (bif p689 then (f45_l2_j4 a1 p686 p687 p688) else (some (.inr (.inl ()))))
theorem f45_l2_j3_ok {d : Nat} (hd : 5 ≤ d) (a1 : GGrid) {r : ((List (List GCell)) × Int × Int) ⊕ (Unit ⊕ Int)} {Q : PX → St → Prop} (hQ : ∀ e st', finL (f45_l2_H a1) (f45_l2_X a1) r e st' → Q e st') (p686 : List (List GCell)) (p687 : Int) (p688 : Int) (p689 : Bool) (hS : f45_l2_j3 a1 p686 p687 p688 p689 = some r) {st : St} (he : keepSt [23, 24, 25, 26] [(192, .id 192)] [] st = f45_l2_j3_J a1 p686 p687 p688 p689) : ZR (lev codes baseL (d - 1)) Q c45_5 [] st := by
  refine zrKeep he ?_
  unfold f45_l2_j3 at hS
  refine zrSeq ?_
  refine zrSplit 26 p689 (by kernel_rfl) (fun hc => ?_) (fun hc => ?_)
  · replace hS := cond_t hc hS
    refine zrCondT (by kernel_rfl) ?_
    refine zrSkip ?_
    refine zkSeq ?_
    exact f45_l2_j4_ok hd a1 hQ p686 p687 p688 hS (by kernel_rfl)
  · replace hS := cond_f hc hS
    refine zrCondF (by kernel_rfl) ?_
    refine zrKeep (J := f45_l2_e0_J a1) (by kernel_rfl) ?_
    refine zrExit ?_
    refine zkSeqX ?_
    refine zkNil ?_
    exact endQ hS hQ (finL_x (by intro h; cases h) (by show _ = _ ∧ _ = _; exact ⟨rfl, rfl⟩))
noncomputable def f45_l2 (a1 : GGrid) (x : (List (List GCell)) × Int × Int) : Option (((List (List GCell)) × Int × Int) ⊕ (Unit ⊕ Int)) := (bif (decide (x.2.2 < x.2.1)) then (f45_l2_j3 a1 x.1 x.2.1 x.2.2 true) else (f45_l2_j3 a1 x.1 x.2.1 x.2.2 false))
theorem f45_l2_ok {d : Nat} (hd : 5 ≤ d) (a1 : GGrid) {r : ((List (List GCell)) × Int × Int) ⊕ (Unit ⊕ Int)} {Q : PX → St → Prop} (hQ : ∀ e st', finL (f45_l2_H a1) (f45_l2_X a1) r e st' → Q e st') {x : (List (List GCell)) × Int × Int} (hS : f45_l2 a1 x = some r) {st : St} (he : f45_l2_H a1 x st) : ZR (lev codes baseL (d - 1)) Q c45_6 [] st := by
  refine zrKeep he ?_
  unfold f45_l2 at hS
  refine zrSeq ?_
  refine zrReg ?_
  refine zlBool (d := 26) (op := (.cmpI .lss (.tmp 25) (.tmp 24))) (g := none) (j := 1) (decide (x.2.2 < x.2.1)) rfl (by kernel_rfl) (by kernel_rfl) (by kernel_rfl) (fun hc => ?_) (fun hc => ?_)
  · replace hS := cond_t hc hS
    refine zlEnd (by kernel_rfl) ?_
    refine zkSeq ?_
    exact f45_l2_j3_ok hd a1 hQ x.1 x.2.1 x.2.2 true hS (by kernel_rfl)
  · replace hS := cond_f hc hS
    refine zlEnd (by kernel_rfl) ?_
    refine zkSeq ?_
    exact f45_l2_j3_ok hd a1 hQ x.1 x.2.1 x.2.2 false hS (by kernel_rfl)
def f45_j1_J (a1 : GGrid) : St := ⟨(up (fun _ => .un) 1 (.r (.ptr 16 0 0))), (up (hB fun _ => 0) 16 ⟨0, some (.box ((.d (.int .i64 a1.Wide)) :: ((.d (.int .i64 a1.High)) :: ((.d (.sl a1.Cells.length (e_GCell.cells a1.Cells))) :: []))))⟩)⟩
noncomputable def f45_j1 (a1 : GGrid) : Option (Int) := ((f70 a1).bind fun z55 => ((loopO (f45_l2 a1) (z55, (z55.length : Int), 0)).bind fun z132 => (Sum.elim (fun z133 => (some 0)) (fun z134 => (some z134)) z132)))
theorem f45_j1_ok {d : Nat} (hd : 5 ≤ d) (a1 : GGrid) {r : Int} {Q : PX → St → Prop} (hQ : ∀ e st', f45_Q r e st' → Q e st')  (hS : f45_j1 a1 = some r) {st : St} (he : keepSt [1] [(16, .id 16)] [] st = f45_j1_J a1) : ZR (lev codes baseL (d - 1)) Q c45_7 [] st := by
  refine zrKeep he ?_
  unfold f45_j1 at hS
  refine zrSeq ?_
  refine zrSeq ?_
  refine zrReg ?_
  refine zlRun (n := 1) (j := 1) rfl (by kernel_rfl) ?_
  refine bindE hS (fun z55 hz55 hS => ?_)
  refine zlOp (d := some 23) (op := (.callf 70 [(.tmp 22)])) (g := none) (v := (.r (.msl 192 1 0 z55.length))) (ups := [(192, ⟨1, some (.own 22 1 ((eSl e_GCell).cells z55))⟩)]) (j := 2) rfl (by kernel_rfl) (by kernel_rfl) (ev_callF (args := [(.agg ((.d (.int .i64 a1.Wide)) :: ((.d (.int .i64 a1.High)) :: ((.d (.sl a1.Cells.length (e_GCell.cells a1.Cells))) :: []))))]) (args' := [(.agg ((.d (.int .i64 a1.Wide)) :: ((.d (.int .i64 a1.High)) :: ((.d (.sl a1.Cells.length (e_GCell.cells a1.Cells))) :: []))))]) (l := [(.agg ((.d (.int .i64 a1.Wide)) :: ((.d (.int .i64 a1.High)) :: ((.d (.sl a1.Cells.length (e_GCell.cells a1.Cells))) :: []))))]) (refs := []) (r := (.r (.own 0 22 1 z55.length ((eSl e_GCell).cells z55)))) (v := (.r (.msl 192 1 0 z55.length))) (ups' := [(192, ⟨1, some (.own 22 1 ((eSl e_GCell).cells z55))⟩)]) (by kernel_rfl) (by kernel_rfl) (by kernel_rfl) (fz_cons rfl fz_nil) (by kernel_rfl) (f70_ok (d - 1) (dpt hd rfl) a1 z55 hz55) (by kernel_rfl) (by kernel_rfl) (by kernel_rfl) (by kernel_rfl)) ?_
  refine zlRun (n := 2) (j := 4) rfl (by kernel_rfl) ?_
  refine zlEnd (by kernel_rfl) ?_
  refine zkSeq ?_
  refine zrBlk ?_
  refine bindE hS (fun z132 hz132 hS => ?_)
  refine zrLoop (f45_l2_H a1) (f45_l2_X a1) (fun x st r Q h0 hS hQ => f45_l2_ok hd a1 hQ hS h0) (x := (z55, (z55.length : Int), 0)) (z := z132) (by show keepSt _ _ _ _ = _; kernel_rfl) hz132 ?_
  rcases z132 with z133 | z134
  · replace hS := (show _ = _ from hS)
    simp only [Sum.elim_inl] at hS
    intro e st' _ hX
    obtain ⟨rfl, rfl⟩ : _ ∧ _ := hX
    refine zkBlkX ?_
    refine zkSeq ?_
    refine zrSeq ?_
    refine zrReg ?_
    refine zlRun (n := 1) (j := 1) rfl (by kernel_rfl) ?_
    refine zlEnd (by kernel_rfl) ?_
    refine zkSeq ?_
    refine zrRet ?_
    refine zkNil ?_
    exact endQ hS hQ (fRet (by kernel_rfl) ((congrArg (fun s => outR s 0 c45.res) (by kernel_rfl : finSt c45.fin _ = f45_fin 0)).trans (f45_out 0)))
  · simp only [Sum.elim_inr] at hS
    intro e st' _ hX
    obtain ⟨rfl, hX⟩ : _ ∧ _ := hX
    refine zkBlkR ?_
    refine zkSeqR ?_
    refine zkNil ?_
    exact endQ hS hQ (fRet (by kernel_rfl) ((congrArg (fun s => outR s 0 c45.res) hX).trans (f45_out z134)))
def f45_j0_J (a1 : GGrid) : St := ⟨(up (fun _ => .un) 1 (.r (.ptr 16 0 0))), (up (hB fun _ => 0) 16 ⟨0, some (.box ((.d (.int .i64 a1.Wide)) :: ((.d (.int .i64 a1.High)) :: ((.d (.sl a1.Cells.length (e_GCell.cells a1.Cells))) :: []))))⟩)⟩
noncomputable def f45_j0 (a1 : GGrid) : Option (Int) := (bif (!decide ((a1.Cells.length : Int) = (IntKind.i64.wrap (a1.Wide * a1.High)))) then (some 4) else (f45_j1 a1 ))
theorem f45_j0_ok {d : Nat} (hd : 5 ≤ d) (a1 : GGrid) {r : Int} {Q : PX → St → Prop} (hQ : ∀ e st', f45_Q r e st' → Q e st')  (hS : f45_j0 a1 = some r) {st : St} (he : keepSt [1] [(16, .id 16)] [] st = f45_j0_J a1) : ZR (lev codes baseL (d - 1)) Q c45_8 [] st := by
  refine zrKeep he ?_
  unfold f45_j0 at hS
  refine zrSeq ?_
  refine zrSeq ?_
  refine zrReg ?_
  refine zlRun (n := 8) (j := 8) rfl (by kernel_rfl) ?_
  refine zlBool (d := 21) (op := (.cmpI .neq (.tmp 15) (.tmp 20))) (g := none) (j := 9) (!decide ((a1.Cells.length : Int) = (IntKind.i64.wrap (a1.Wide * a1.High)))) rfl (by kernel_rfl) (by kernel_rfl) (by kernel_rfl) (fun hc => ?_) (fun hc => ?_)
  · replace hS := cond_t hc hS
    refine zlEnd (by kernel_rfl) ?_
    refine zkSeq ?_
    refine zrCondT (by kernel_rfl) ?_
    refine zrSeq ?_
    refine zrReg ?_
    refine zlRun (n := 1) (j := 1) rfl (by kernel_rfl) ?_
    refine zlEnd (by kernel_rfl) ?_
    refine zkSeq ?_
    refine zrRet ?_
    refine zkSeqR ?_
    refine zkNil ?_
    exact endQ hS hQ (fRet (by kernel_rfl) ((congrArg (fun s => outR s 0 c45.res) (by kernel_rfl : finSt c45.fin _ = f45_fin 4)).trans (f45_out 4)))
  · replace hS := cond_f hc hS
    refine zlEnd (by kernel_rfl) ?_
    refine zkSeq ?_
    refine zrCondF (by kernel_rfl) ?_
    refine zrSkip ?_
    refine zkSeq ?_
    exact f45_j1_ok hd a1 hQ  hS (by kernel_rfl)
noncomputable def f45 (a1 : GGrid) : Option (Int) := ((f69 a1.Wide a1.High).bind fun z135 => (bif (!z135) then (some 1) else (f45_j0 a1 )))
theorem f45_ok (d : Nat) (hd : 5 ≤ d) (a1 : GGrid) (r : Int) (hS : f45 a1 = some r) : lev codes baseL d 45 [(.agg ((.d (.int .i64 a1.Wide)) :: ((.d (.int .i64 a1.High)) :: ((.d (.sl a1.Cells.length (e_GCell.cells a1.Cells))) :: []))))] [] = some ((.d (.int .i64 r)), []) := by
  refine lev_go codes45 rfl rfl (Nat.le_trans (Nat.le_of_ble_eq_true rfl) hd) fun Q hQ => ?_
  unfold f45 at hS
  show ZR _ Q c45_b [] _
  replace hQ : ∀ e st', f45_Q r e st' → Q e st' := hQ
  refine zrSeq ?_
  refine zrReg ?_
  refine zlRun (n := 2) (j := 2) rfl (by kernel_rfl) ?_
  refine zlEnd (by kernel_rfl) ?_
  refine zkSeq ?_
  refine zrSeq ?_
  refine zrSeq ?_
  refine zrReg ?_
  refine zlRun (n := 4) (j := 4) rfl (by kernel_rfl) ?_
  refine bindE hS (fun z135 hz135 hS => ?_)
  refine zlOp (d := some 11) (op := (.call 69 [(.tmp 8), (.tmp 10)])) (g := none) (j := 5) rfl (by kernel_rfl) (by kernel_rfl) (ev_callA (by kernel_rfl) (f69_ok (d - 1) (dpt hd rfl) a1.Wide a1.High z135 hz135) (by kernel_rfl) (by kernel_rfl)) ?_
  refine zlRun (n := 1) (j := 6) rfl (by kernel_rfl) ?_
  refine zlEnd (by kernel_rfl) ?_
  refine zkSeq ?_
  refine zrSplit 12 (!z135) (by kernel_rfl) (fun hc => ?_) (fun hc => ?_)
  · replace hS := cond_t hc hS
    refine zrCondT (by kernel_rfl) ?_
    refine zrSeq ?_
    refine zrReg ?_
    refine zlRun (n := 1) (j := 1) rfl (by kernel_rfl) ?_
    refine zlEnd (by kernel_rfl) ?_
    refine zkSeq ?_
    refine zrRet ?_
    refine zkSeqR ?_
    refine zkNil ?_
    exact endQ hS hQ (fRet (by kernel_rfl) ((congrArg (fun s => outR s 0 c45.res) (by kernel_rfl : finSt c45.fin _ = f45_fin 1)).trans (f45_out 1)))
  · replace hS := cond_f hc hS
    refine zrCondF (by kernel_rfl) ?_
    refine zrSkip ?_
    refine zkSeq ?_
    exact f45_j0_ok hd a1 hQ  hS (by kernel_rfl)
/- farwriter/farref.ScreenRight -/
def f27_fin (p85 : Int) : St := ⟨(up (fun _ => .un) 2 (.d (.int .i64 p85))), (hB fun _ => 0)⟩
theorem f27_out (p85 : Int) : outR (f27_fin p85) 0 c27.res = some ((.d (.int .i64 p85)), []) := by
  kernel_rfl
def f27_Q (r : Int) (e : PX) (st : St) : Prop := DoneF c27 0 ((.d (.int .i64 r)), []) e st
def f27_l6_J (a1 : GScreen) (x : Bool × Int) : St := ⟨(up (up (up (up (fun _ => .un) 163 (.d (.int .i64 x.2))) 162 (.d (.int .i64 (a1.Past.length : Int)))) 161 (.d (.sl a1.Past.length (e_GLine.cells a1.Past)))) 5 (.d (.bool x.1))), (hB fun _ => 0)⟩
def f27_l6_H (a1 : GScreen) (x : Bool × Int) (st : St) : Prop := keepSt [5, 161, 162, 163] [] [] st = f27_l6_J a1 x
def f27_l6_e2_J (a1 : GScreen) (p175 : Bool) : St := ⟨(up (fun _ => .un) 5 (.d (.bool p175))), (hB fun _ => 0)⟩
def f27_l6_X (a1 : GScreen) (z : Bool) (e : PX) (st : St) : Prop := e = .exit 2 ∧ st = f27_l6_e2_J a1 z
def f27_l6_j8_J (a1 : GScreen) (p182 : Bool) (p183 : Int) : St := ⟨(up (up (up (up (fun _ => .un) 163 (.d (.int .i64 p183))) 162 (.d (.int .i64 (a1.Past.length : Int)))) 161 (.d (.sl a1.Past.length (e_GLine.cells a1.Past)))) 5 (.d (.bool p182))), (hB fun _ => 0)⟩
noncomputable def f27_l6_j8 (a1 : GScreen) (p182 : Bool) (p183 : Int) : Option ((Bool × Int) ⊕ Bool) := ((idx a1.Past p183).bind fun z57 => (bif p182 then ((f45 (GGrid.mk (z57.Cells.length : Int) 1 z57.Cells)).bind fun z58 => (bif (decide (z58 = 0)) then (some (.inl (true, (IntKind.i64.wrap (p183 + 1))))) else (some (.inl (false, (IntKind.i64.wrap (p183 + 1))))))) else (some (.inl (false, (IntKind.i64.wrap (p183 + 1)))))))
theorem f27_l6_j8_ok {d : Nat} (hd : 6 ≤ d) (a1 : GScreen) {r : (Bool × Int) ⊕ Bool} {Q : PX → St → Prop} (hQ : ∀ e st', finL (f27_l6_H a1) (f27_l6_X a1) r e st' → Q e st') (p182 : Bool) (p183 : Int) (hS : f27_l6_j8 a1 p182 p183 = some r) {st : St} (he : keepSt [5, 161, 162, 163] [] [] st = f27_l6_j8_J a1 p182 p183) : ZR (lev codes baseL (d - 1)) Q c27_1 [] st := by
  refine zrKeep he ?_
  unfold f27_l6_j8 at hS
  refine zrSeq ?_
  refine zrBlk ?_
  refine zrSeq ?_
  refine zrReg ?_
  refine bindE hS (fun z57 hz57 hS => ?_)
  refine zlOp (d := some 165) (op := (.ixS 87 1 (.tmp 161) (.tmp 163))) (g := none) (v := (.rptr (e_GLine.enc z57 ++ (e_GLine.cells (a1.Past.drop ((p183 : Int).toNat + 1)))))) (ups := []) (j := 1) rfl (by kernel_rfl) (by kernel_rfl) (ev_ixS e_GLine (kk := .i64) (xs := a1.Past) (j := p183) (by kernel_rfl) (by kernel_rfl) hz57 rfl (by intro h; cases h)) ?_
  refine zlRun (n := 3) (j := 4) rfl (by kernel_rfl) ?_
  refine zlEnd (by kernel_rfl) ?_
  refine zkSeq ?_
  refine zrReg ?_
  refine zlRun (n := 2) (j := 2) rfl (by kernel_rfl) ?_
  refine zlSplit 168 p182 (by kernel_rfl) (fun hc => ?_) (fun hc => ?_)
  · replace hS := cond_t hc hS
    refine zlRun (n := 6) (j := 8) rfl (by kernel_rfl) ?_
    refine bindE hS (fun z58 hz58 hS => ?_)
    refine zlOp (d := some 175) (op := (.call 45 [(.tmp 174)])) (g := (some (168, true))) (j := 9) rfl (by kernel_rfl) (by kernel_rfl) (ev_callA (by kernel_rfl) (f45_ok (d - 1) (dpt hd rfl) (GGrid.mk (z57.Cells.length : Int) 1 z57.Cells) z58 hz58) (by kernel_rfl) (by kernel_rfl)) ?_
    refine zlBool (d := 176) (op := (.cmpI .eql (.tmp 175) (.const (.int .i64 0)))) (g := (some (168, true))) (j := 10) (decide (z58 = 0)) rfl (by kernel_rfl) (by kernel_rfl) (by kernel_rfl) (fun hc => ?_) (fun hc => ?_)
    · replace hS := cond_t hc hS
      refine zlRun (n := 2) (j := 12) rfl (by kernel_rfl) ?_
      refine zlEnd (by kernel_rfl) ?_
      refine zkBlk ?_
      refine zkSeq ?_
      refine zrReg ?_
      refine zlRun (n := 2) (j := 2) rfl (by kernel_rfl) ?_
      refine zlEnd (by kernel_rfl) ?_
      refine zkNil ?_
      exact endQ hS hQ (finL_n (by show keepSt _ _ _ _ = _; kernel_rfl))
    · replace hS := cond_f hc hS
      refine zlRun (n := 2) (j := 12) rfl (by kernel_rfl) ?_
      refine zlEnd (by kernel_rfl) ?_
      refine zkBlk ?_
      refine zkSeq ?_
      refine zrReg ?_
      refine zlRun (n := 2) (j := 2) rfl (by kernel_rfl) ?_
      refine zlEnd (by kernel_rfl) ?_
      refine zkNil ?_
      exact endQ hS hQ (finL_n (by show keepSt _ _ _ _ = _; kernel_rfl))
  · replace hS := cond_f hc hS
    refine zlRun (n := 10) (j := 12) rfl (by kernel_rfl) ?_
    refine zlEnd (by kernel_rfl) ?_
    refine zkBlk ?_
    refine zkSeq ?_
    refine zrReg ?_
    refine zlRun (n := 2) (j := 2) rfl (by kernel_rfl) ?_
    refine zlEnd (by kernel_rfl) ?_
    refine zkNil ?_
    exact endQ hS hQ (finL_n (by show keepSt _ _ _ _ = _; kernel_rfl))
def f27_l6_j7_J (a1 : GScreen) (p179 : Bool) (p180 : Int) (p181 : Bool) : St := ⟨(up (up (up (up (up (fun _ => .un) 164 (.d (.bool p181))) 163 (.d (.int .i64 p180))) 162 (.d (.int .i64 (a1.Past.length : Int)))) 161 (.d (.sl a1.Past.length (e_GLine.cells a1.Past)))) 5 (.d (.bool p179))), (hB fun _ => 0)⟩
noncomputable def f27_l6_j7 (a1 : GScreen) (p179 : Bool) (p180 : Int) (p181 : Bool) : Option ((Bool × Int) ⊕ Bool) := (bif p181 then (f27_l6_j8 a1 p179 p180) else (some (.inr p179)))
theorem f27_l6_j7_ok {d : Nat} (hd : 6 ≤ d) (a1 : GScreen) {r : (Bool × Int) ⊕ Bool} {Q : PX → St → Prop} (hQ : ∀ e st', finL (f27_l6_H a1) (f27_l6_X a1) r e st' → Q e st') (p179 : Bool) (p180 : Int) (p181 : Bool) (hS : f27_l6_j7 a1 p179 p180 p181 = some r) {st : St} (he : keepSt [5, 161, 162, 163, 164] [] [] st = f27_l6_j7_J a1 p179 p180 p181) : ZR (lev codes baseL (d - 1)) Q c27_2 [] st := by
  refine zrKeep he ?_
  unfold f27_l6_j7 at hS
  refine zrSeq ?_
  refine zrSplit 164 p181 (by kernel_rfl) (fun hc => ?_) (fun hc => ?_)
  · replace hS := cond_t hc hS
    refine zrCondT (by kernel_rfl) ?_
    refine zrSkip ?_
    refine zkSeq ?_
    exact f27_l6_j8_ok hd a1 hQ p179 p180 hS (by kernel_rfl)
  · replace hS := cond_f hc hS
    refine zrCondF (by kernel_rfl) ?_
    refine zrKeep (J := f27_l6_e2_J a1 p179) (by kernel_rfl) ?_
    refine zrExit ?_
    refine zkSeqX ?_
    refine zkNil ?_
    exact endQ hS hQ (finL_x (by intro h; cases h) (by show _ = _ ∧ _ = _; exact ⟨rfl, rfl⟩))
noncomputable def f27_l6 (a1 : GScreen) (x : Bool × Int) : Option ((Bool × Int) ⊕ Bool) := (bif (decide (x.2 < (a1.Past.length : Int))) then (f27_l6_j7 a1 x.1 x.2 true) else (f27_l6_j7 a1 x.1 x.2 false))
theorem f27_l6_ok {d : Nat} (hd : 6 ≤ d) (a1 : GScreen) {r : (Bool × Int) ⊕ Bool} {Q : PX → St → Prop} (hQ : ∀ e st', finL (f27_l6_H a1) (f27_l6_X a1) r e st' → Q e st') {x : Bool × Int} (hS : f27_l6 a1 x = some r) {st : St} (he : f27_l6_H a1 x st) : ZR (lev codes baseL (d - 1)) Q c27_3 [] st := by
  refine zrKeep he ?_
  unfold f27_l6 at hS
  refine zrSeq ?_
  refine zrReg ?_
  refine zlBool (d := 164) (op := (.cmpI .lss (.tmp 163) (.tmp 162))) (g := none) (j := 1) (decide (x.2 < (a1.Past.length : Int))) rfl (by kernel_rfl) (by kernel_rfl) (by kernel_rfl) (fun hc => ?_) (fun hc => ?_)
  · replace hS := cond_t hc hS
    refine zlEnd (by kernel_rfl) ?_
    refine zkSeq ?_
    exact f27_l6_j7_ok hd a1 hQ x.1 x.2 true hS (by kernel_rfl)
  · replace hS := cond_f hc hS
    refine zlEnd (by kernel_rfl) ?_
    refine zkSeq ?_
    exact f27_l6_j7_ok hd a1 hQ x.1 x.2 false hS (by kernel_rfl)
def f27_j5_J (a1 : GScreen) (p130 : Bool) : St := ⟨(up (up (fun _ => .un) 5 (.d (.bool p130))) 1 (.r (.ptr 16 0 0))), (up (hB fun _ => 0) 16 ⟨0, some (.box ((.d (.int .i64 a1.Grid.Wide)) :: ((.d (.int .i64 a1.Grid.High)) :: ((.d (.sl a1.Grid.Cells.length (e_GCell.cells a1.Grid.Cells))) :: ((.d (.int .i64 a1.Row)) :: ((.d (.int .i64 a1.Col)) :: ((.d (.bool a1.Late)) :: ((.d (.int .i64 a1.Top)) :: ((.d (.int .i64 a1.Bottom)) :: ((.d (.int .i64 a1.Pen.Flags)) :: ((.d (.int .i64 a1.Pen.Fore)) :: ((.d (.int .i64 a1.Pen.Back)) :: ((.d (.int .i64 a1.Modes)) :: (((eInt .u64).row 4 a1.Stops.Bits) ++ ((.d (.int .i64 a1.Pages.1)) :: ((.d (.int .i64 a1.Pages.2)) :: ((.d (.int .i64 a1.Shift)) :: ((.d (.int .i64 a1.Saved.Row)) :: ((.d (.int .i64 a1.Saved.Col)) :: ((.d (.int .i64 a1.Saved.Pen.Flags)) :: ((.d (.int .i64 a1.Saved.Pen.Fore)) :: ((.d (.int .i64 a1.Saved.Pen.Back)) :: ((.d (.bool a1.Saved.Origin)) :: ((.d (.int .i64 a1.Saved.Pages.1)) :: ((.d (.int .i64 a1.Saved.Pages.2)) :: ((.d (.int .i64 a1.Saved.Shift)) :: ((.d (.int .i64 a1.Other.Wide)) :: ((.d (.int .i64 a1.Other.High)) :: ((.d (.sl a1.Other.Cells.length (e_GCell.cells a1.Other.Cells))) :: ((.d (.str a1.Title)) :: ((.d (.sl a1.Past.length (e_GLine.cells a1.Past))) :: [])))))))))))))))))))))))))))))))⟩)⟩
noncomputable def f27_j5 (a1 : GScreen) (p130 : Bool) : Option (Int) := ((loopO (f27_l6 a1) (p130, 0)).bind fun z59 => (bif (!z59) then (some 4) else (some 0)))
theorem f27_j5_ok {d : Nat} (hd : 6 ≤ d) (a1 : GScreen) {r : Int} {Q : PX → St → Prop} (hQ : ∀ e st', f27_Q r e st' → Q e st') (p130 : Bool) (hS : f27_j5 a1 p130 = some r) {st : St} (he : keepSt [1, 5] [(16, .id 16)] [] st = f27_j5_J a1 p130) : ZR (lev codes baseL (d - 1)) Q c27_4 [] st := by
  refine zrKeep he ?_
  unfold f27_j5 at hS
  refine zrSeq ?_
  refine zrSeq ?_
  refine zrReg ?_
  refine zlRun (n := 4) (j := 4) rfl (by kernel_rfl) ?_
  refine zlEnd (by kernel_rfl) ?_
  refine zkSeq ?_
  refine zrBlk ?_
  refine bindE hS (fun z59 hz59 hS => ?_)
  refine zrLoop (f27_l6_H a1) (f27_l6_X a1) (fun x st r Q h0 hS hQ => f27_l6_ok hd a1 hQ hS h0) (x := (p130, 0)) (z := z59) (by show keepSt _ _ _ _ = _; kernel_rfl) hz59 ?_
  intro e st' _ hX
  obtain ⟨rfl, rfl⟩ : _ ∧ _ := hX
  refine zkBlkX ?_
  refine zkSeq ?_
  refine zrSeq ?_
  refine zrSeq ?_
  refine zrReg ?_
  refine zlRun (n := 2) (j := 2) rfl (by kernel_rfl) ?_
  refine zlEnd (by kernel_rfl) ?_
  refine zkSeq ?_
  refine zrSplit 180 (!z59) (by kernel_rfl) (fun hc => ?_) (fun hc => ?_)
  · replace hS := cond_t hc hS
    refine zrCondT (by kernel_rfl) ?_
    refine zrSeq ?_
    refine zrReg ?_
    refine zlRun (n := 1) (j := 1) rfl (by kernel_rfl) ?_
    refine zlEnd (by kernel_rfl) ?_
    refine zkSeq ?_
    refine zrRet ?_
    refine zkSeqR ?_
    refine zkNil ?_
    exact endQ hS hQ (fRet (by kernel_rfl) ((congrArg (fun s => outR s 0 c27.res) (by kernel_rfl : finSt c27.fin _ = f27_fin 4)).trans (f27_out 4)))
  · replace hS := cond_f hc hS
    refine zrCondF (by kernel_rfl) ?_
    refine zrSkip ?_
    refine zkSeq ?_
    refine zrSeq ?_
    refine zrReg ?_
    refine zlRun (n := 1) (j := 1) rfl (by kernel_rfl) ?_
    refine zlEnd (by kernel_rfl) ?_
    refine zkSeq ?_
    refine zrRet ?_
    refine zkNil ?_
    exact endQ hS hQ (fRet (by kernel_rfl) ((congrArg (fun s => outR s 0 c27.res) (by kernel_rfl : finSt c27.fin _ = f27_fin 0)).trans (f27_out 0)))
def f27_j4_J (a1 : GScreen) (p124 : Bool) : St := ⟨(up (up (up (fun _ => .un) 5 (.d (.bool p124))) 4 (.r (.ptr 40 0 0))) 1 (.r (.ptr 16 0 0))), (up (up (hB fun _ => 0) 40 ⟨0, some (.box ((.d (.int .i64 a1.Saved.Row)) :: ((.d (.int .i64 a1.Saved.Col)) :: ((.d (.int .i64 a1.Saved.Pen.Flags)) :: ((.d (.int .i64 a1.Saved.Pen.Fore)) :: ((.d (.int .i64 a1.Saved.Pen.Back)) :: ((.d (.bool a1.Saved.Origin)) :: ((.d (.int .i64 a1.Saved.Pages.1)) :: ((.d (.int .i64 a1.Saved.Pages.2)) :: ((.d (.int .i64 a1.Saved.Shift)) :: []))))))))))⟩) 16 ⟨0, some (.box ((.d (.int .i64 a1.Grid.Wide)) :: ((.d (.int .i64 a1.Grid.High)) :: ((.d (.sl a1.Grid.Cells.length (e_GCell.cells a1.Grid.Cells))) :: ((.d (.int .i64 a1.Row)) :: ((.d (.int .i64 a1.Col)) :: ((.d (.bool a1.Late)) :: ((.d (.int .i64 a1.Top)) :: ((.d (.int .i64 a1.Bottom)) :: ((.d (.int .i64 a1.Pen.Flags)) :: ((.d (.int .i64 a1.Pen.Fore)) :: ((.d (.int .i64 a1.Pen.Back)) :: ((.d (.int .i64 a1.Modes)) :: (((eInt .u64).row 4 a1.Stops.Bits) ++ ((.d (.int .i64 a1.Pages.1)) :: ((.d (.int .i64 a1.Pages.2)) :: ((.d (.int .i64 a1.Shift)) :: ((.d (.int .i64 a1.Saved.Row)) :: ((.d (.int .i64 a1.Saved.Col)) :: ((.d (.int .i64 a1.Saved.Pen.Flags)) :: ((.d (.int .i64 a1.Saved.Pen.Fore)) :: ((.d (.int .i64 a1.Saved.Pen.Back)) :: ((.d (.bool a1.Saved.Origin)) :: ((.d (.int .i64 a1.Saved.Pages.1)) :: ((.d (.int .i64 a1.Saved.Pages.2)) :: ((.d (.int .i64 a1.Saved.Shift)) :: ((.d (.int .i64 a1.Other.Wide)) :: ((.d (.int .i64 a1.Other.High)) :: ((.d (.sl a1.Other.Cells.length (e_GCell.cells a1.Other.Cells))) :: ((.d (.str a1.Title)) :: ((.d (.sl a1.Past.length (e_GLine.cells a1.Past))) :: [])))))))))))))))))))))))))))))))⟩)⟩
noncomputable def f27_j4 (a1 : GScreen) (p124 : Bool) : Option (Int) := (bif p124 then ((f46 a1.Shift 0 1).bind fun z60 => (bif z60 then ((f46 a1.Saved.Shift 0 1).bind fun z61 => (bif z61 then (bif (decide ((a1.Title.length : Int) ≤ 256)) then (bif (decide ((a1.Past.length : Int) ≤ 40)) then (f27_j5 a1 true) else (f27_j5 a1 false)) else (f27_j5 a1 false)) else (f27_j5 a1 false))) else (f27_j5 a1 false))) else (f27_j5 a1 false))
theorem f27_j4_ok {d : Nat} (hd : 6 ≤ d) (a1 : GScreen) {r : Int} {Q : PX → St → Prop} (hQ : ∀ e st', f27_Q r e st' → Q e st') (p124 : Bool) (hS : f27_j4 a1 p124 = some r) {st : St} (he : keepSt [1, 4, 5] [(16, .id 16), (40, .id 40)] [] st = f27_j4_J a1 p124) : ZR (lev codes baseL (d - 1)) Q c27_5 [] st := by
  refine zrKeep he ?_
  unfold f27_j4 at hS
  refine zrSeq ?_
  refine zrReg ?_
  refine zlRun (n := 2) (j := 2) rfl (by kernel_rfl) ?_
  refine zlSplit 138 p124 (by kernel_rfl) (fun hc => ?_) (fun hc => ?_)
  · replace hS := cond_t hc hS
    refine zlRun (n := 2) (j := 4) rfl (by kernel_rfl) ?_
    refine bindE hS (fun z60 hz60 hS => ?_)
    refine zlOp (d := some 141) (op := (.call 46 [(.tmp 140), (.const (.int .i64 0)), (.const (.int .i64 1))])) (g := (some (138, true))) (j := 5) rfl (by kernel_rfl) (by kernel_rfl) (ev_callA (by kernel_rfl) (f46_ok (d - 1) (dpt hd rfl) a1.Shift 0 1 z60 hz60) (by kernel_rfl) (by kernel_rfl)) ?_
    refine zlRun (n := 2) (j := 7) rfl (by kernel_rfl) ?_
    refine zlSplit 143 z60 (by kernel_rfl) (fun hc => ?_) (fun hc => ?_)
    · replace hS := cond_t hc hS
      refine zlRun (n := 2) (j := 9) rfl (by kernel_rfl) ?_
      refine bindE hS (fun z61 hz61 hS => ?_)
      refine zlOp (d := some 146) (op := (.call 46 [(.tmp 145), (.const (.int .i64 0)), (.const (.int .i64 1))])) (g := (some (143, true))) (j := 10) rfl (by kernel_rfl) (by kernel_rfl) (ev_callA (by kernel_rfl) (f46_ok (d - 1) (dpt hd rfl) a1.Saved.Shift 0 1 z61 hz61) (by kernel_rfl) (by kernel_rfl)) ?_
      refine zlRun (n := 2) (j := 12) rfl (by kernel_rfl) ?_
      refine zlSplit 148 z61 (by kernel_rfl) (fun hc => ?_) (fun hc => ?_)
      · replace hS := cond_t hc hS
        refine zlRun (n := 3) (j := 15) rfl (by kernel_rfl) ?_
        refine zlBool (d := 152) (op := (.cmpI .leq (.tmp 151) (.const (.int .i64 256)))) (g := (some (148, true))) (j := 16) (decide ((a1.Title.length : Int) ≤ 256)) rfl (by kernel_rfl) (by kernel_rfl) (by kernel_rfl) (fun hc => ?_) (fun hc => ?_)
        · replace hS := cond_t hc hS
          refine zlRun (n := 5) (j := 21) rfl (by kernel_rfl) ?_
          refine zlBool (d := 158) (op := (.cmpI .leq (.tmp 157) (.const (.int .i64 40)))) (g := (some (154, true))) (j := 22) (decide ((a1.Past.length : Int) ≤ 40)) rfl (by kernel_rfl) (by kernel_rfl) (by kernel_rfl) (fun hc => ?_) (fun hc => ?_)
          · replace hS := cond_t hc hS
            refine zlRun (n := 2) (j := 24) rfl (by kernel_rfl) ?_
            refine zlEnd (by kernel_rfl) ?_
            refine zkSeq ?_
            exact f27_j5_ok hd a1 hQ true hS (by kernel_rfl)
          · replace hS := cond_f hc hS
            refine zlRun (n := 2) (j := 24) rfl (by kernel_rfl) ?_
            refine zlEnd (by kernel_rfl) ?_
            refine zkSeq ?_
            exact f27_j5_ok hd a1 hQ false hS (by kernel_rfl)
        · replace hS := cond_f hc hS
          refine zlRun (n := 8) (j := 24) rfl (by kernel_rfl) ?_
          refine zlEnd (by kernel_rfl) ?_
          refine zkSeq ?_
          exact f27_j5_ok hd a1 hQ false hS (by kernel_rfl)
      · replace hS := cond_f hc hS
        refine zlRun (n := 12) (j := 24) rfl (by kernel_rfl) ?_
        refine zlEnd (by kernel_rfl) ?_
        refine zkSeq ?_
        exact f27_j5_ok hd a1 hQ false hS (by kernel_rfl)
    · replace hS := cond_f hc hS
      refine zlRun (n := 17) (j := 24) rfl (by kernel_rfl) ?_
      refine zlEnd (by kernel_rfl) ?_
      refine zkSeq ?_
      exact f27_j5_ok hd a1 hQ false hS (by kernel_rfl)
  · replace hS := cond_f hc hS
    refine zlRun (n := 22) (j := 24) rfl (by kernel_rfl) ?_
    refine zlEnd (by kernel_rfl) ?_
    refine zkSeq ?_
    exact f27_j5_ok hd a1 hQ false hS (by kernel_rfl)
def f27_l9_J (a1 : GScreen) (x : Bool × Int) : St := ⟨(up (up (up (up (up (up (fun _ => .un) 127 (.d (.int .i64 x.2))) 126 (.d (.int .i64 ((([a1.Pages.1, a1.Pages.2, a1.Saved.Pages.1, a1.Saved.Pages.2] : List Int).length) : Int)))) 125 (.r (.msl 1008 0 0 (([a1.Pages.1, a1.Pages.2, a1.Saved.Pages.1, a1.Saved.Pages.2] : List Int).length)))) 5 (.d (.bool x.1))) 4 (.r (.ptr 40 0 0))) 1 (.r (.ptr 16 0 0))), (up (up (up (hB fun _ => 0) 1008 ⟨0, some (.own 3 1 ((eInt .i64).cells ([a1.Pages.1, a1.Pages.2, a1.Saved.Pages.1, a1.Saved.Pages.2])))⟩) 40 ⟨0, some (.box ((.d (.int .i64 a1.Saved.Row)) :: ((.d (.int .i64 a1.Saved.Col)) :: ((.d (.int .i64 a1.Saved.Pen.Flags)) :: ((.d (.int .i64 a1.Saved.Pen.Fore)) :: ((.d (.int .i64 a1.Saved.Pen.Back)) :: ((.d (.bool a1.Saved.Origin)) :: ((.d (.int .i64 a1.Saved.Pages.1)) :: ((.d (.int .i64 a1.Saved.Pages.2)) :: ((.d (.int .i64 a1.Saved.Shift)) :: []))))))))))⟩) 16 ⟨0, some (.box ((.d (.int .i64 a1.Grid.Wide)) :: ((.d (.int .i64 a1.Grid.High)) :: ((.d (.sl a1.Grid.Cells.length (e_GCell.cells a1.Grid.Cells))) :: ((.d (.int .i64 a1.Row)) :: ((.d (.int .i64 a1.Col)) :: ((.d (.bool a1.Late)) :: ((.d (.int .i64 a1.Top)) :: ((.d (.int .i64 a1.Bottom)) :: ((.d (.int .i64 a1.Pen.Flags)) :: ((.d (.int .i64 a1.Pen.Fore)) :: ((.d (.int .i64 a1.Pen.Back)) :: ((.d (.int .i64 a1.Modes)) :: (((eInt .u64).row 4 a1.Stops.Bits) ++ ((.d (.int .i64 a1.Pages.1)) :: ((.d (.int .i64 a1.Pages.2)) :: ((.d (.int .i64 a1.Shift)) :: ((.d (.int .i64 a1.Saved.Row)) :: ((.d (.int .i64 a1.Saved.Col)) :: ((.d (.int .i64 a1.Saved.Pen.Flags)) :: ((.d (.int .i64 a1.Saved.Pen.Fore)) :: ((.d (.int .i64 a1.Saved.Pen.Back)) :: ((.d (.bool a1.Saved.Origin)) :: ((.d (.int .i64 a1.Saved.Pages.1)) :: ((.d (.int .i64 a1.Saved.Pages.2)) :: ((.d (.int .i64 a1.Saved.Shift)) :: ((.d (.int .i64 a1.Other.Wide)) :: ((.d (.int .i64 a1.Other.High)) :: ((.d (.sl a1.Other.Cells.length (e_GCell.cells a1.Other.Cells))) :: ((.d (.str a1.Title)) :: ((.d (.sl a1.Past.length (e_GLine.cells a1.Past))) :: [])))))))))))))))))))))))))))))))⟩)⟩
def f27_l9_H (a1 : GScreen) (x : Bool × Int) (st : St) : Prop := keepSt [1, 4, 5, 125, 126, 127] [(16, .id 16), (40, .id 40), (1008, .id 1008)] [] st = f27_l9_J a1 x
def f27_l9_e0_J (a1 : GScreen) (p123 : Bool) : St := ⟨(up (up (up (fun _ => .un) 5 (.d (.bool p123))) 4 (.r (.ptr 40 0 0))) 1 (.r (.ptr 16 0 0))), (up (up (hB fun _ => 0) 40 ⟨0, some (.box ((.d (.int .i64 a1.Saved.Row)) :: ((.d (.int .i64 a1.Saved.Col)) :: ((.d (.int .i64 a1.Saved.Pen.Flags)) :: ((.d (.int .i64 a1.Saved.Pen.Fore)) :: ((.d (.int .i64 a1.Saved.Pen.Back)) :: ((.d (.bool a1.Saved.Origin)) :: ((.d (.int .i64 a1.Saved.Pages.1)) :: ((.d (.int .i64 a1.Saved.Pages.2)) :: ((.d (.int .i64 a1.Saved.Shift)) :: []))))))))))⟩) 16 ⟨0, some (.box ((.d (.int .i64 a1.Grid.Wide)) :: ((.d (.int .i64 a1.Grid.High)) :: ((.d (.sl a1.Grid.Cells.length (e_GCell.cells a1.Grid.Cells))) :: ((.d (.int .i64 a1.Row)) :: ((.d (.int .i64 a1.Col)) :: ((.d (.bool a1.Late)) :: ((.d (.int .i64 a1.Top)) :: ((.d (.int .i64 a1.Bottom)) :: ((.d (.int .i64 a1.Pen.Flags)) :: ((.d (.int .i64 a1.Pen.Fore)) :: ((.d (.int .i64 a1.Pen.Back)) :: ((.d (.int .i64 a1.Modes)) :: (((eInt .u64).row 4 a1.Stops.Bits) ++ ((.d (.int .i64 a1.Pages.1)) :: ((.d (.int .i64 a1.Pages.2)) :: ((.d (.int .i64 a1.Shift)) :: ((.d (.int .i64 a1.Saved.Row)) :: ((.d (.int .i64 a1.Saved.Col)) :: ((.d (.int .i64 a1.Saved.Pen.Flags)) :: ((.d (.int .i64 a1.Saved.Pen.Fore)) :: ((.d (.int .i64 a1.Saved.Pen.Back)) :: ((.d (.bool a1.Saved.Origin)) :: ((.d (.int .i64 a1.Saved.Pages.1)) :: ((.d (.int .i64 a1.Saved.Pages.2)) :: ((.d (.int .i64 a1.Saved.Shift)) :: ((.d (.int .i64 a1.Other.Wide)) :: ((.d (.int .i64 a1.Other.High)) :: ((.d (.sl a1.Other.Cells.length (e_GCell.cells a1.Other.Cells))) :: ((.d (.str a1.Title)) :: ((.d (.sl a1.Past.length (e_GLine.cells a1.Past))) :: [])))))))))))))))))))))))))))))))⟩)⟩
def f27_l9_X (a1 : GScreen) (z : Bool) (e : PX) (st : St) : Prop := e = .exit 0 ∧ st = f27_l9_e0_J a1 z
def f27_l9_j11_J (a1 : GScreen) (p190 : Bool) (p191 : Int) : St := ⟨(up (up (up (up (up (up (fun _ => .un) 127 (.d (.int .i64 p191))) 126 (.d (.int .i64 ((([a1.Pages.1, a1.Pages.2, a1.Saved.Pages.1, a1.Saved.Pages.2] : List Int).length) : Int)))) 125 (.r (.msl 1008 0 0 (([a1.Pages.1, a1.Pages.2, a1.Saved.Pages.1, a1.Saved.Pages.2] : List Int).length)))) 5 (.d (.bool p190))) 4 (.r (.ptr 40 0 0))) 1 (.r (.ptr 16 0 0))), (up (up (up (hB fun _ => 0) 1008 ⟨0, some (.own 3 1 ((eInt .i64).cells ([a1.Pages.1, a1.Pages.2, a1.Saved.Pages.1, a1.Saved.Pages.2])))⟩) 40 ⟨0, some (.box ((.d (.int .i64 a1.Saved.Row)) :: ((.d (.int .i64 a1.Saved.Col)) :: ((.d (.int .i64 a1.Saved.Pen.Flags)) :: ((.d (.int .i64 a1.Saved.Pen.Fore)) :: ((.d (.int .i64 a1.Saved.Pen.Back)) :: ((.d (.bool a1.Saved.Origin)) :: ((.d (.int .i64 a1.Saved.Pages.1)) :: ((.d (.int .i64 a1.Saved.Pages.2)) :: ((.d (.int .i64 a1.Saved.Shift)) :: []))))))))))⟩) 16 ⟨0, some (.box ((.d (.int .i64 a1.Grid.Wide)) :: ((.d (.int .i64 a1.Grid.High)) :: ((.d (.sl a1.Grid.Cells.length (e_GCell.cells a1.Grid.Cells))) :: ((.d (.int .i64 a1.Row)) :: ((.d (.int .i64 a1.Col)) :: ((.d (.bool a1.Late)) :: ((.d (.int .i64 a1.Top)) :: ((.d (.int .i64 a1.Bottom)) :: ((.d (.int .i64 a1.Pen.Flags)) :: ((.d (.int .i64 a1.Pen.Fore)) :: ((.d (.int .i64 a1.Pen.Back)) :: ((.d (.int .i64 a1.Modes)) :: (((eInt .u64).row 4 a1.Stops.Bits) ++ ((.d (.int .i64 a1.Pages.1)) :: ((.d (.int .i64 a1.Pages.2)) :: ((.d (.int .i64 a1.Shift)) :: ((.d (.int .i64 a1.Saved.Row)) :: ((.d (.int .i64 a1.Saved.Col)) :: ((.d (.int .i64 a1.Saved.Pen.Flags)) :: ((.d (.int .i64 a1.Saved.Pen.Fore)) :: ((.d (.int .i64 a1.Saved.Pen.Back)) :: ((.d (.bool a1.Saved.Origin)) :: ((.d (.int .i64 a1.Saved.Pages.1)) :: ((.d (.int .i64 a1.Saved.Pages.2)) :: ((.d (.int .i64 a1.Saved.Shift)) :: ((.d (.int .i64 a1.Other.Wide)) :: ((.d (.int .i64 a1.Other.High)) :: ((.d (.sl a1.Other.Cells.length (e_GCell.cells a1.Other.Cells))) :: ((.d (.str a1.Title)) :: ((.d (.sl a1.Past.length (e_GLine.cells a1.Past))) :: [])))))))))))))))))))))))))))))))⟩)⟩
noncomputable def f27_l9_j11 (a1 : GScreen) (p190 : Bool) (p191 : Int) : Option ((Bool × Int) ⊕ Bool) := ((inR p191 (([a1.Pages.1, a1.Pages.2, a1.Saved.Pages.1, a1.Saved.Pages.2] : List Int).length)).bind fun m62 => ((([a1.Pages.1, a1.Pages.2, a1.Saved.Pages.1, a1.Saved.Pages.2])[m62]?).bind fun z63 => (bif p190 then ((f46 z63 1 4).bind fun z64 => (some (.inl (z64, (IntKind.i64.wrap (p191 + 1)))))) else (some (.inl (false, (IntKind.i64.wrap (p191 + 1))))))))
theorem f27_l9_j11_ok {d : Nat} (hd : 6 ≤ d) (a1 : GScreen) {r : (Bool × Int) ⊕ Bool} {Q : PX → St → Prop} (hQ : ∀ e st', finL (f27_l9_H a1) (f27_l9_X a1) r e st' → Q e st') (p190 : Bool) (p191 : Int) (hS : f27_l9_j11 a1 p190 p191 = some r) {st : St} (he : keepSt [1, 4, 5, 125, 126, 127] [(16, .id 16), (40, .id 40), (1008, .id 1008)] [] st = f27_l9_j11_J a1 p190 p191) : ZR (lev codes baseL (d - 1)) Q c27_6 [] st := by
  refine zrKeep he ?_
  unfold f27_l9_j11 at hS
  refine zrSeq ?_
  refine zrBlk ?_
  refine zrSeq ?_
  refine zrReg ?_
  refine bindE hS (fun m62 hm62 hS => ?_)
  refine zlOp (d := some 129) (op := (.ixS 3 1 (.tmp 125) (.tmp 127))) (g := none) (v := (.r (.ptr 1008 0 ((0 + m62) * 1)))) (ups := []) (j := 1) rfl (by kernel_rfl) (by kernel_rfl) (ev_ixM (kk := .i64) (b := 1008) (g := 0) (l := 0) (n := ([a1.Pages.1, a1.Pages.2, a1.Saved.Pages.1, a1.Saved.Pages.2] : List Int).length) (j := p191) (cs := (eInt .i64).cells ([a1.Pages.1, a1.Pages.2, a1.Saved.Pages.1, a1.Saved.Pages.2])) (by kernel_rfl) (by kernel_rfl) (by kernel_rfl) hm62) ?_
  refine bindE hS (fun z63 hz63 hS => ?_)
  refine zlOp (d := some 130) (op := (.load .false 1 (.tmp 129))) (g := none) (v := (.d (.int .i64 z63))) (ups := []) (j := 2) rfl (by kernel_rfl) (by kernel_rfl) (ev_loadM (eInt .i64) (b := 1008) (g := 0) (o := (0 + m62) * 1) (e := 3) (k := 1) (m := m62) (fo := 0) (xs := [a1.Pages.1, a1.Pages.2, a1.Saved.Pages.1, a1.Saved.Pages.2]) (by kernel_rfl) (by kernel_rfl) (by rw [Nat.zero_add]; rfl) hz63 (by kernel_rfl) (by kernel_rfl) (by kernel_rfl)) ?_
  refine zlRun (n := 1) (j := 3) rfl (by kernel_rfl) ?_
  refine zlEnd (by kernel_rfl) ?_
  refine zkSeq ?_
  refine zrReg ?_
  refine zlRun (n := 2) (j := 2) rfl (by kernel_rfl) ?_
  refine zlSplit 132 p190 (by kernel_rfl) (fun hc => ?_) (fun hc => ?_)
  · replace hS := cond_t hc hS
    refine zlRun (n := 1) (j := 3) rfl (by kernel_rfl) ?_
    refine bindE hS (fun z64 hz64 hS => ?_)
    refine zlOp (d := some 134) (op := (.call 46 [(.tmp 133), (.const (.int .i64 1)), (.const (.int .i64 4))])) (g := (some (132, true))) (j := 4) rfl (by kernel_rfl) (by kernel_rfl) (ev_callA (by kernel_rfl) (f46_ok (d - 1) (dpt hd rfl) z63 1 4 z64 hz64) (by kernel_rfl) (by kernel_rfl)) ?_
    refine zlRun (n := 2) (j := 6) rfl (by kernel_rfl) ?_
    refine zlEnd (by kernel_rfl) ?_
    refine zkBlk ?_
    refine zkSeq ?_
    refine zrReg ?_
    refine zlRun (n := 2) (j := 2) rfl (by kernel_rfl) ?_
    refine zlEnd (by kernel_rfl) ?_
    refine zkNil ?_
    exact endQ hS hQ (finL_n (by show keepSt _ _ _ _ = _; kernel_rfl))
  · replace hS := cond_f hc hS
    refine zlRun (n := 4) (j := 6) rfl (by kernel_rfl) ?_
    refine zlEnd (by kernel_rfl) ?_
    refine zkBlk ?_
    refine zkSeq ?_
    refine zrReg ?_
    refine zlRun (n := 2) (j := 2) rfl (by kernel_rfl) ?_
    refine zlEnd (by kernel_rfl) ?_
    refine zkNil ?_
    exact endQ hS hQ (finL_n (by show keepSt _ _ _ _ = _; kernel_rfl))
def f27_l9_j10_J (a1 : GScreen) (p187 : Bool) (p188 : Int) (p189 : Bool) : St := ⟨(up (up (up (up (up (up (up (fun _ => .un) 128 (.d (.bool p189))) 127 (.d (.int .i64 p188))) 126 (.d (.int .i64 ((([a1.Pages.1, a1.Pages.2, a1.Saved.Pages.1, a1.Saved.Pages.2] : List Int).length) : Int)))) 125 (.r (.msl 1008 0 0 (([a1.Pages.1, a1.Pages.2, a1.Saved.Pages.1, a1.Saved.Pages.2] : List Int).length)))) 5 (.d (.bool p187))) 4 (.r (.ptr 40 0 0))) 1 (.r (.ptr 16 0 0))), (up (up (up (hB fun _ => 0) 1008 ⟨0, some (.own 3 1 ((eInt .i64).cells ([a1.Pages.1, a1.Pages.2, a1.Saved.Pages.1, a1.Saved.Pages.2])))⟩) 40 ⟨0, some (.box ((.d (.int .i64 a1.Saved.Row)) :: ((.d (.int .i64 a1.Saved.Col)) :: ((.d (.int .i64 a1.Saved.Pen.Flags)) :: ((.d (.int .i64 a1.Saved.Pen.Fore)) :: ((.d (.int .i64 a1.Saved.Pen.Back)) :: ((.d (.bool a1.Saved.Origin)) :: ((.d (.int .i64 a1.Saved.Pages.1)) :: ((.d (.int .i64 a1.Saved.Pages.2)) :: ((.d (.int .i64 a1.Saved.Shift)) :: []))))))))))⟩) 16 ⟨0, some (.box ((.d (.int .i64 a1.Grid.Wide)) :: ((.d (.int .i64 a1.Grid.High)) :: ((.d (.sl a1.Grid.Cells.length (e_GCell.cells a1.Grid.Cells))) :: ((.d (.int .i64 a1.Row)) :: ((.d (.int .i64 a1.Col)) :: ((.d (.bool a1.Late)) :: ((.d (.int .i64 a1.Top)) :: ((.d (.int .i64 a1.Bottom)) :: ((.d (.int .i64 a1.Pen.Flags)) :: ((.d (.int .i64 a1.Pen.Fore)) :: ((.d (.int .i64 a1.Pen.Back)) :: ((.d (.int .i64 a1.Modes)) :: (((eInt .u64).row 4 a1.Stops.Bits) ++ ((.d (.int .i64 a1.Pages.1)) :: ((.d (.int .i64 a1.Pages.2)) :: ((.d (.int .i64 a1.Shift)) :: ((.d (.int .i64 a1.Saved.Row)) :: ((.d (.int .i64 a1.Saved.Col)) :: ((.d (.int .i64 a1.Saved.Pen.Flags)) :: ((.d (.int .i64 a1.Saved.Pen.Fore)) :: ((.d (.int .i64 a1.Saved.Pen.Back)) :: ((.d (.bool a1.Saved.Origin)) :: ((.d (.int .i64 a1.Saved.Pages.1)) :: ((.d (.int .i64 a1.Saved.Pages.2)) :: ((.d (.int .i64 a1.Saved.Shift)) :: ((.d (.int .i64 a1.Other.Wide)) :: ((.d (.int .i64 a1.Other.High)) :: ((.d (.sl a1.Other.Cells.length (e_GCell.cells a1.Other.Cells))) :: ((.d (.str a1.Title)) :: ((.d (.sl a1.Past.length (e_GLine.cells a1.Past))) :: [])))))))))))))))))))))))))))))))⟩)⟩
noncomputable def f27_l9_j10 (a1 : GScreen) (p187 : Bool) (p188 : Int) (p189 : Bool) : Option ((Bool × Int) ⊕ Bool) := (bif p189 then (f27_l9_j11 a1 p187 p188) else (some (.inr p187)))
theorem f27_l9_j10_ok {d : Nat} (hd : 6 ≤ d) (a1 : GScreen) {r : (Bool × Int) ⊕ Bool} {Q : PX → St → Prop} (hQ : ∀ e st', finL (f27_l9_H a1) (f27_l9_X a1) r e st' → Q e st') (p187 : Bool) (p188 : Int) (p189 : Bool) (hS : f27_l9_j10 a1 p187 p188 p189 = some r) {st : St} (he : keepSt [1, 4, 5, 125, 126, 127, 128] [(16, .id 16), (40, .id 40), (1008, .id 1008)] [] st = f27_l9_j10_J a1 p187 p188 p189) : ZR (lev codes baseL (d - 1)) Q c27_7 [] st := by
  refine zrKeep he ?_
  unfold f27_l9_j10 at hS
  refine zrSeq ?_
  refine zrSplit 128 p189 (by kernel_rfl) (fun hc => ?_) (fun hc => ?_)
  · replace hS := cond_t hc hS
    refine zrCondT (by kernel_rfl) ?_
    refine zrSkip ?_
    refine zkSeq ?_
    exact f27_l9_j11_ok hd a1 hQ p187 p188 hS (by kernel_rfl)
  · replace hS := cond_f hc hS
    refine zrCondF (by kernel_rfl) ?_
    refine zrKeep (J := f27_l9_e0_J a1 p187) (by kernel_rfl) ?_
    refine zrExit ?_
    refine zkSeqX ?_
    refine zkNil ?_
    exact endQ hS hQ (finL_x (by intro h; cases h) (by show _ = _ ∧ _ = _; exact ⟨rfl, rfl⟩))
noncomputable def f27_l9 (a1 : GScreen) (x : Bool × Int) : Option ((Bool × Int) ⊕ Bool) := (bif (decide (x.2 < ((([a1.Pages.1, a1.Pages.2, a1.Saved.Pages.1, a1.Saved.Pages.2] : List Int).length) : Int))) then (f27_l9_j10 a1 x.1 x.2 true) else (f27_l9_j10 a1 x.1 x.2 false))
theorem f27_l9_ok {d : Nat} (hd : 6 ≤ d) (a1 : GScreen) {r : (Bool × Int) ⊕ Bool} {Q : PX → St → Prop} (hQ : ∀ e st', finL (f27_l9_H a1) (f27_l9_X a1) r e st' → Q e st') {x : Bool × Int} (hS : f27_l9 a1 x = some r) {st : St} (he : f27_l9_H a1 x st) : ZR (lev codes baseL (d - 1)) Q c27_8 [] st := by
  refine zrKeep he ?_
  unfold f27_l9 at hS
  refine zrSeq ?_
  refine zrReg ?_
  refine zlBool (d := 128) (op := (.cmpI .lss (.tmp 127) (.tmp 126))) (g := none) (j := 1) (decide (x.2 < ((([a1.Pages.1, a1.Pages.2, a1.Saved.Pages.1, a1.Saved.Pages.2] : List Int).length) : Int))) rfl (by kernel_rfl) (by kernel_rfl) (by kernel_rfl) (fun hc => ?_) (fun hc => ?_)
  · replace hS := cond_t hc hS
    refine zlEnd (by kernel_rfl) ?_
    refine zkSeq ?_
    exact f27_l9_j10_ok hd a1 hQ x.1 x.2 true hS (by kernel_rfl)
  · replace hS := cond_f hc hS
    refine zlEnd (by kernel_rfl) ?_
    refine zkSeq ?_
    exact f27_l9_j10_ok hd a1 hQ x.1 x.2 false hS (by kernel_rfl)
def f27_j3_J (a1 : GScreen) (p104 : Bool) : St := ⟨(up (up (up (fun _ => .un) 5 (.d (.bool p104))) 4 (.r (.ptr 40 0 0))) 1 (.r (.ptr 16 0 0))), (up (up (hB fun _ => 0) 40 ⟨0, some (.box ((.d (.int .i64 a1.Saved.Row)) :: ((.d (.int .i64 a1.Saved.Col)) :: ((.d (.int .i64 a1.Saved.Pen.Flags)) :: ((.d (.int .i64 a1.Saved.Pen.Fore)) :: ((.d (.int .i64 a1.Saved.Pen.Back)) :: ((.d (.bool a1.Saved.Origin)) :: ((.d (.int .i64 a1.Saved.Pages.1)) :: ((.d (.int .i64 a1.Saved.Pages.2)) :: ((.d (.int .i64 a1.Saved.Shift)) :: []))))))))))⟩) 16 ⟨0, some (.box ((.d (.int .i64 a1.Grid.Wide)) :: ((.d (.int .i64 a1.Grid.High)) :: ((.d (.sl a1.Grid.Cells.length (e_GCell.cells a1.Grid.Cells))) :: ((.d (.int .i64 a1.Row)) :: ((.d (.int .i64 a1.Col)) :: ((.d (.bool a1.Late)) :: ((.d (.int .i64 a1.Top)) :: ((.d (.int .i64 a1.Bottom)) :: ((.d (.int .i64 a1.Pen.Flags)) :: ((.d (.int .i64 a1.Pen.Fore)) :: ((.d (.int .i64 a1.Pen.Back)) :: ((.d (.int .i64 a1.Modes)) :: (((eInt .u64).row 4 a1.Stops.Bits) ++ ((.d (.int .i64 a1.Pages.1)) :: ((.d (.int .i64 a1.Pages.2)) :: ((.d (.int .i64 a1.Shift)) :: ((.d (.int .i64 a1.Saved.Row)) :: ((.d (.int .i64 a1.Saved.Col)) :: ((.d (.int .i64 a1.Saved.Pen.Flags)) :: ((.d (.int .i64 a1.Saved.Pen.Fore)) :: ((.d (.int .i64 a1.Saved.Pen.Back)) :: ((.d (.bool a1.Saved.Origin)) :: ((.d (.int .i64 a1.Saved.Pages.1)) :: ((.d (.int .i64 a1.Saved.Pages.2)) :: ((.d (.int .i64 a1.Saved.Shift)) :: ((.d (.int .i64 a1.Other.Wide)) :: ((.d (.int .i64 a1.Other.High)) :: ((.d (.sl a1.Other.Cells.length (e_GCell.cells a1.Other.Cells))) :: ((.d (.str a1.Title)) :: ((.d (.sl a1.Past.length (e_GLine.cells a1.Past))) :: [])))))))))))))))))))))))))))))))⟩)⟩
noncomputable def f27_j3 (a1 : GScreen) (p104 : Bool) : Option (Int) := ((loopO (f27_l9 a1) (p104, 0)).bind fun z65 => (f27_j4 a1 z65))
theorem f27_j3_ok {d : Nat} (hd : 6 ≤ d) (a1 : GScreen) {r : Int} {Q : PX → St → Prop} (hQ : ∀ e st', f27_Q r e st' → Q e st') (p104 : Bool) (hS : f27_j3 a1 p104 = some r) {st : St} (he : keepSt [1, 4, 5] [(16, .id 16), (40, .id 40)] [] st = f27_j3_J a1 p104) : ZR (lev codes baseL (d - 1)) Q c27_9 [] st := by
  refine zrKeep he ?_
  unfold f27_j3 at hS
  refine zrSeq ?_
  refine zrSeq ?_
  refine zrReg ?_
  refine zlRun (n := 15) (j := 15) rfl (by kernel_rfl) ?_
  refine zlEnd (by kernel_rfl) ?_
  refine zkSeq ?_
  refine zrBlk ?_
  refine bindE hS (fun z65 hz65 hS => ?_)
  refine zrLoop (f27_l9_H a1) (f27_l9_X a1) (fun x st r Q h0 hS hQ => f27_l9_ok hd a1 hQ hS h0) (x := (p104, 0)) (z := z65) (by show keepSt _ _ _ _ = _; kernel_rfl) hz65 ?_
  intro e st' _ hX
  obtain ⟨rfl, rfl⟩ : _ ∧ _ := hX
  refine zkBlkX ?_
  refine zkSeq ?_
  exact f27_j4_ok hd a1 hQ z65 hS (by kernel_rfl)
def f27_j2_J (a1 : GScreen) (p99 : Bool) : St := ⟨(up (up (up (fun _ => .un) 5 (.d (.bool p99))) 4 (.r (.ptr 40 0 0))) 1 (.r (.ptr 16 0 0))), (up (up (hB fun _ => 0) 40 ⟨0, some (.box ((.d (.int .i64 a1.Saved.Row)) :: ((.d (.int .i64 a1.Saved.Col)) :: ((.d (.int .i64 a1.Saved.Pen.Flags)) :: ((.d (.int .i64 a1.Saved.Pen.Fore)) :: ((.d (.int .i64 a1.Saved.Pen.Back)) :: ((.d (.bool a1.Saved.Origin)) :: ((.d (.int .i64 a1.Saved.Pages.1)) :: ((.d (.int .i64 a1.Saved.Pages.2)) :: ((.d (.int .i64 a1.Saved.Shift)) :: []))))))))))⟩) 16 ⟨0, some (.box ((.d (.int .i64 a1.Grid.Wide)) :: ((.d (.int .i64 a1.Grid.High)) :: ((.d (.sl a1.Grid.Cells.length (e_GCell.cells a1.Grid.Cells))) :: ((.d (.int .i64 a1.Row)) :: ((.d (.int .i64 a1.Col)) :: ((.d (.bool a1.Late)) :: ((.d (.int .i64 a1.Top)) :: ((.d (.int .i64 a1.Bottom)) :: ((.d (.int .i64 a1.Pen.Flags)) :: ((.d (.int .i64 a1.Pen.Fore)) :: ((.d (.int .i64 a1.Pen.Back)) :: ((.d (.int .i64 a1.Modes)) :: (((eInt .u64).row 4 a1.Stops.Bits) ++ ((.d (.int .i64 a1.Pages.1)) :: ((.d (.int .i64 a1.Pages.2)) :: ((.d (.int .i64 a1.Shift)) :: ((.d (.int .i64 a1.Saved.Row)) :: ((.d (.int .i64 a1.Saved.Col)) :: ((.d (.int .i64 a1.Saved.Pen.Flags)) :: ((.d (.int .i64 a1.Saved.Pen.Fore)) :: ((.d (.int .i64 a1.Saved.Pen.Back)) :: ((.d (.bool a1.Saved.Origin)) :: ((.d (.int .i64 a1.Saved.Pages.1)) :: ((.d (.int .i64 a1.Saved.Pages.2)) :: ((.d (.int .i64 a1.Saved.Shift)) :: ((.d (.int .i64 a1.Other.Wide)) :: ((.d (.int .i64 a1.Other.High)) :: ((.d (.sl a1.Other.Cells.length (e_GCell.cells a1.Other.Cells))) :: ((.d (.str a1.Title)) :: ((.d (.sl a1.Past.length (e_GLine.cells a1.Past))) :: [])))))))))))))))))))))))))))))))⟩)⟩
noncomputable def f27_j2 (a1 : GScreen) (p99 : Bool) : Option (Int) := (bif p99 then ((f47 a1.Pen).bind fun z66 => (bif (decide (z66 = 0)) then ((f47 a1.Saved.Pen).bind fun z67 => (bif (decide (z67 = 0)) then ((f46 a1.Saved.Row 0 59).bind fun z68 => (bif z68 then ((f46 a1.Saved.Col 0 159).bind fun z69 => (f27_j3 a1 z69)) else (f27_j3 a1 false))) else (f27_j3 a1 false))) else (f27_j3 a1 false))) else (f27_j3 a1 false))
theorem f27_j2_ok {d : Nat} (hd : 6 ≤ d) (a1 : GScreen) {r : Int} {Q : PX → St → Prop} (hQ : ∀ e st', f27_Q r e st' → Q e st') (p99 : Bool) (hS : f27_j2 a1 p99 = some r) {st : St} (he : keepSt [1, 4, 5] [(16, .id 16), (40, .id 40)] [] st = f27_j2_J a1 p99) : ZR (lev codes baseL (d - 1)) Q c27_10 [] st := by
  refine zrKeep he ?_
  unfold f27_j2 at hS
  refine zrSeq ?_
  refine zrReg ?_
  refine zlRun (n := 2) (j := 2) rfl (by kernel_rfl) ?_
  refine zlSplit 91 p99 (by kernel_rfl) (fun hc => ?_) (fun hc => ?_)
  · replace hS := cond_t hc hS
    refine zlRun (n := 2) (j := 4) rfl (by kernel_rfl) ?_
    refine bindE hS (fun z66 hz66 hS => ?_)
    refine zlOp (d := some 94) (op := (.call 47 [(.tmp 93)])) (g := (some (91, true))) (j := 5) rfl (by kernel_rfl) (by kernel_rfl) (ev_callA (by kernel_rfl) (f47_ok (d - 1) (dpt hd rfl) a1.Pen z66 hz66) (by kernel_rfl) (by kernel_rfl)) ?_
    refine zlBool (d := 95) (op := (.cmpI .eql (.tmp 94) (.const (.int .i64 0)))) (g := (some (91, true))) (j := 6) (decide (z66 = 0)) rfl (by kernel_rfl) (by kernel_rfl) (by kernel_rfl) (fun hc => ?_) (fun hc => ?_)
    · replace hS := cond_t hc hS
      refine zlRun (n := 4) (j := 10) rfl (by kernel_rfl) ?_
      refine bindE hS (fun z67 hz67 hS => ?_)
      refine zlOp (d := some 100) (op := (.call 47 [(.tmp 99)])) (g := (some (97, true))) (j := 11) rfl (by kernel_rfl) (by kernel_rfl) (ev_callA (by kernel_rfl) (f47_ok (d - 1) (dpt hd rfl) a1.Saved.Pen z67 hz67) (by kernel_rfl) (by kernel_rfl)) ?_
      refine zlBool (d := 101) (op := (.cmpI .eql (.tmp 100) (.const (.int .i64 0)))) (g := (some (97, true))) (j := 12) (decide (z67 = 0)) rfl (by kernel_rfl) (by kernel_rfl) (by kernel_rfl) (fun hc => ?_) (fun hc => ?_)
      · replace hS := cond_t hc hS
        refine zlRun (n := 4) (j := 16) rfl (by kernel_rfl) ?_
        refine bindE hS (fun z68 hz68 hS => ?_)
        refine zlOp (d := some 106) (op := (.call 46 [(.tmp 105), (.const (.int .i64 0)), (.const (.int .i64 59))])) (g := (some (103, true))) (j := 17) rfl (by kernel_rfl) (by kernel_rfl) (ev_callA (by kernel_rfl) (f46_ok (d - 1) (dpt hd rfl) a1.Saved.Row 0 59 z68 hz68) (by kernel_rfl) (by kernel_rfl)) ?_
        refine zlRun (n := 2) (j := 19) rfl (by kernel_rfl) ?_
        refine zlSplit 108 z68 (by kernel_rfl) (fun hc => ?_) (fun hc => ?_)
        · replace hS := cond_t hc hS
          refine zlRun (n := 2) (j := 21) rfl (by kernel_rfl) ?_
          refine bindE hS (fun z69 hz69 hS => ?_)
          refine zlOp (d := some 111) (op := (.call 46 [(.tmp 110), (.const (.int .i64 0)), (.const (.int .i64 159))])) (g := (some (108, true))) (j := 22) rfl (by kernel_rfl) (by kernel_rfl) (ev_callA (by kernel_rfl) (f46_ok (d - 1) (dpt hd rfl) a1.Saved.Col 0 159 z69 hz69) (by kernel_rfl) (by kernel_rfl)) ?_
          refine zlRun (n := 2) (j := 24) rfl (by kernel_rfl) ?_
          refine zlEnd (by kernel_rfl) ?_
          refine zkSeq ?_
          exact f27_j3_ok hd a1 hQ z69 hS (by kernel_rfl)
        · replace hS := cond_f hc hS
          refine zlRun (n := 5) (j := 24) rfl (by kernel_rfl) ?_
          refine zlEnd (by kernel_rfl) ?_
          refine zkSeq ?_
          exact f27_j3_ok hd a1 hQ false hS (by kernel_rfl)
      · replace hS := cond_f hc hS
        refine zlRun (n := 12) (j := 24) rfl (by kernel_rfl) ?_
        refine zlEnd (by kernel_rfl) ?_
        refine zkSeq ?_
        exact f27_j3_ok hd a1 hQ false hS (by kernel_rfl)
    · replace hS := cond_f hc hS
      refine zlRun (n := 18) (j := 24) rfl (by kernel_rfl) ?_
      refine zlEnd (by kernel_rfl) ?_
      refine zkSeq ?_
      exact f27_j3_ok hd a1 hQ false hS (by kernel_rfl)
  · replace hS := cond_f hc hS
    refine zlRun (n := 22) (j := 24) rfl (by kernel_rfl) ?_
    refine zlEnd (by kernel_rfl) ?_
    refine zkSeq ?_
    exact f27_j3_ok hd a1 hQ false hS (by kernel_rfl)
def f27_j1_J (a1 : GScreen) (p95 : Bool) : St := ⟨(up (up (up (up (fun _ => .un) 5 (.d (.bool p95))) 4 (.r (.ptr 40 0 0))) 3 (.r (.ptr 32 0 0))) 1 (.r (.ptr 16 0 0))), (up (up (up (hB fun _ => 0) 40 ⟨0, some (.box ((.d (.int .i64 a1.Saved.Row)) :: ((.d (.int .i64 a1.Saved.Col)) :: ((.d (.int .i64 a1.Saved.Pen.Flags)) :: ((.d (.int .i64 a1.Saved.Pen.Fore)) :: ((.d (.int .i64 a1.Saved.Pen.Back)) :: ((.d (.bool a1.Saved.Origin)) :: ((.d (.int .i64 a1.Saved.Pages.1)) :: ((.d (.int .i64 a1.Saved.Pages.2)) :: ((.d (.int .i64 a1.Saved.Shift)) :: []))))))))))⟩) 32 ⟨0, some (.box ((.d (.int .i64 a1.Grid.Wide)) :: ((.d (.int .i64 a1.Grid.High)) :: ((.d (.sl a1.Grid.Cells.length (e_GCell.cells a1.Grid.Cells))) :: []))))⟩) 16 ⟨0, some (.box ((.d (.int .i64 a1.Grid.Wide)) :: ((.d (.int .i64 a1.Grid.High)) :: ((.d (.sl a1.Grid.Cells.length (e_GCell.cells a1.Grid.Cells))) :: ((.d (.int .i64 a1.Row)) :: ((.d (.int .i64 a1.Col)) :: ((.d (.bool a1.Late)) :: ((.d (.int .i64 a1.Top)) :: ((.d (.int .i64 a1.Bottom)) :: ((.d (.int .i64 a1.Pen.Flags)) :: ((.d (.int .i64 a1.Pen.Fore)) :: ((.d (.int .i64 a1.Pen.Back)) :: ((.d (.int .i64 a1.Modes)) :: (((eInt .u64).row 4 a1.Stops.Bits) ++ ((.d (.int .i64 a1.Pages.1)) :: ((.d (.int .i64 a1.Pages.2)) :: ((.d (.int .i64 a1.Shift)) :: ((.d (.int .i64 a1.Saved.Row)) :: ((.d (.int .i64 a1.Saved.Col)) :: ((.d (.int .i64 a1.Saved.Pen.Flags)) :: ((.d (.int .i64 a1.Saved.Pen.Fore)) :: ((.d (.int .i64 a1.Saved.Pen.Back)) :: ((.d (.bool a1.Saved.Origin)) :: ((.d (.int .i64 a1.Saved.Pages.1)) :: ((.d (.int .i64 a1.Saved.Pages.2)) :: ((.d (.int .i64 a1.Saved.Shift)) :: ((.d (.int .i64 a1.Other.Wide)) :: ((.d (.int .i64 a1.Other.High)) :: ((.d (.sl a1.Other.Cells.length (e_GCell.cells a1.Other.Cells))) :: ((.d (.str a1.Title)) :: ((.d (.sl a1.Past.length (e_GLine.cells a1.Past))) :: [])))))))))))))))))))))))))))))))⟩)⟩
noncomputable def f27_j1 (a1 : GScreen) (p95 : Bool) : Option (Int) := (bif p95 then ((f46 a1.Bottom 1 a1.Grid.High).bind fun z70 => (bif z70 then ((f46 a1.Top 0 (IntKind.i64.wrap (a1.Bottom - 1))).bind fun z71 => (bif z71 then ((f46 a1.Modes 0 2047).bind fun z72 => (f27_j2 a1 z72)) else (f27_j2 a1 false))) else (f27_j2 a1 false))) else (f27_j2 a1 false))
theorem f27_j1_ok {d : Nat} (hd : 6 ≤ d) (a1 : GScreen) {r : Int} {Q : PX → St → Prop} (hQ : ∀ e st', f27_Q r e st' → Q e st') (p95 : Bool) (hS : f27_j1 a1 p95 = some r) {st : St} (he : keepSt [1, 3, 4, 5] [(16, .id 16), (32, .id 32), (40, .id 40)] [] st = f27_j1_J a1 p95) : ZR (lev codes baseL (d - 1)) Q c27_11 [] st := by
  refine zrKeep he ?_
  unfold f27_j1 at hS
  refine zrSeq ?_
  refine zrReg ?_
  refine zlRun (n := 2) (j := 2) rfl (by kernel_rfl) ?_
  refine zlSplit 70 p95 (by kernel_rfl) (fun hc => ?_) (fun hc => ?_)
  · replace hS := cond_t hc hS
    refine zlRun (n := 4) (j := 6) rfl (by kernel_rfl) ?_
    refine bindE hS (fun z70 hz70 hS => ?_)
    refine zlOp (d := some 75) (op := (.call 46 [(.tmp 72), (.const (.int .i64 1)), (.tmp 74)])) (g := (some (70, true))) (j := 7) rfl (by kernel_rfl) (by kernel_rfl) (ev_callA (by kernel_rfl) (f46_ok (d - 1) (dpt hd rfl) a1.Bottom 1 a1.Grid.High z70 hz70) (by kernel_rfl) (by kernel_rfl)) ?_
    refine zlRun (n := 2) (j := 9) rfl (by kernel_rfl) ?_
    refine zlSplit 77 z70 (by kernel_rfl) (fun hc => ?_) (fun hc => ?_)
    · replace hS := cond_t hc hS
      refine zlRun (n := 5) (j := 14) rfl (by kernel_rfl) ?_
      refine bindE hS (fun z71 hz71 hS => ?_)
      refine zlOp (d := some 83) (op := (.call 46 [(.tmp 79), (.const (.int .i64 0)), (.tmp 82)])) (g := (some (77, true))) (j := 15) rfl (by kernel_rfl) (by kernel_rfl) (ev_callA (by kernel_rfl) (f46_ok (d - 1) (dpt hd rfl) a1.Top 0 (IntKind.i64.wrap (a1.Bottom - 1)) z71 hz71) (by kernel_rfl) (by kernel_rfl)) ?_
      refine zlRun (n := 2) (j := 17) rfl (by kernel_rfl) ?_
      refine zlSplit 85 z71 (by kernel_rfl) (fun hc => ?_) (fun hc => ?_)
      · replace hS := cond_t hc hS
        refine zlRun (n := 2) (j := 19) rfl (by kernel_rfl) ?_
        refine bindE hS (fun z72 hz72 hS => ?_)
        refine zlOp (d := some 88) (op := (.call 46 [(.tmp 87), (.const (.int .i64 0)), (.const (.int .i64 2047))])) (g := (some (85, true))) (j := 20) rfl (by kernel_rfl) (by kernel_rfl) (ev_callA (by kernel_rfl) (f46_ok (d - 1) (dpt hd rfl) a1.Modes 0 2047 z72 hz72) (by kernel_rfl) (by kernel_rfl)) ?_
        refine zlRun (n := 2) (j := 22) rfl (by kernel_rfl) ?_
        refine zlEnd (by kernel_rfl) ?_
        refine zkSeq ?_
        exact f27_j2_ok hd a1 hQ z72 hS (by kernel_rfl)
      · replace hS := cond_f hc hS
        refine zlRun (n := 5) (j := 22) rfl (by kernel_rfl) ?_
        refine zlEnd (by kernel_rfl) ?_
        refine zkSeq ?_
        exact f27_j2_ok hd a1 hQ false hS (by kernel_rfl)
    · replace hS := cond_f hc hS
      refine zlRun (n := 13) (j := 22) rfl (by kernel_rfl) ?_
      refine zlEnd (by kernel_rfl) ?_
      refine zkSeq ?_
      exact f27_j2_ok hd a1 hQ false hS (by kernel_rfl)
  · replace hS := cond_f hc hS
    refine zlRun (n := 20) (j := 22) rfl (by kernel_rfl) ?_
    refine zlEnd (by kernel_rfl) ?_
    refine zkSeq ?_
    exact f27_j2_ok hd a1 hQ false hS (by kernel_rfl)
def f27_j0_J (a1 : GScreen) (p90 : Bool) : St := ⟨(up (up (up (up (fun _ => .un) 5 (.d (.bool p90))) 4 (.r (.ptr 40 0 0))) 3 (.r (.ptr 32 0 0))) 1 (.r (.ptr 16 0 0))), (up (up (up (hB fun _ => 0) 40 ⟨0, some (.box ((.d (.int .i64 a1.Saved.Row)) :: ((.d (.int .i64 a1.Saved.Col)) :: ((.d (.int .i64 a1.Saved.Pen.Flags)) :: ((.d (.int .i64 a1.Saved.Pen.Fore)) :: ((.d (.int .i64 a1.Saved.Pen.Back)) :: ((.d (.bool a1.Saved.Origin)) :: ((.d (.int .i64 a1.Saved.Pages.1)) :: ((.d (.int .i64 a1.Saved.Pages.2)) :: ((.d (.int .i64 a1.Saved.Shift)) :: []))))))))))⟩) 32 ⟨0, some (.box ((.d (.int .i64 a1.Grid.Wide)) :: ((.d (.int .i64 a1.Grid.High)) :: ((.d (.sl a1.Grid.Cells.length (e_GCell.cells a1.Grid.Cells))) :: []))))⟩) 16 ⟨0, some (.box ((.d (.int .i64 a1.Grid.Wide)) :: ((.d (.int .i64 a1.Grid.High)) :: ((.d (.sl a1.Grid.Cells.length (e_GCell.cells a1.Grid.Cells))) :: ((.d (.int .i64 a1.Row)) :: ((.d (.int .i64 a1.Col)) :: ((.d (.bool a1.Late)) :: ((.d (.int .i64 a1.Top)) :: ((.d (.int .i64 a1.Bottom)) :: ((.d (.int .i64 a1.Pen.Flags)) :: ((.d (.int .i64 a1.Pen.Fore)) :: ((.d (.int .i64 a1.Pen.Back)) :: ((.d (.int .i64 a1.Modes)) :: (((eInt .u64).row 4 a1.Stops.Bits) ++ ((.d (.int .i64 a1.Pages.1)) :: ((.d (.int .i64 a1.Pages.2)) :: ((.d (.int .i64 a1.Shift)) :: ((.d (.int .i64 a1.Saved.Row)) :: ((.d (.int .i64 a1.Saved.Col)) :: ((.d (.int .i64 a1.Saved.Pen.Flags)) :: ((.d (.int .i64 a1.Saved.Pen.Fore)) :: ((.d (.int .i64 a1.Saved.Pen.Back)) :: ((.d (.bool a1.Saved.Origin)) :: ((.d (.int .i64 a1.Saved.Pages.1)) :: ((.d (.int .i64 a1.Saved.Pages.2)) :: ((.d (.int .i64 a1.Saved.Shift)) :: ((.d (.int .i64 a1.Other.Wide)) :: ((.d (.int .i64 a1.Other.High)) :: ((.d (.sl a1.Other.Cells.length (e_GCell.cells a1.Other.Cells))) :: ((.d (.str a1.Title)) :: ((.d (.sl a1.Past.length (e_GLine.cells a1.Past))) :: [])))))))))))))))))))))))))))))))⟩)⟩
noncomputable def f27_j0 (a1 : GScreen) (p90 : Bool) : Option (Int) := (bif p90 then ((f46 a1.Row 0 (IntKind.i64.wrap (a1.Grid.High - 1))).bind fun z73 => (bif z73 then ((f46 a1.Col 0 (IntKind.i64.wrap (a1.Grid.Wide - 1))).bind fun z74 => (bif z74 then (bif (!a1.Late) then (f27_j1 a1 true) else (bif (decide ((IntKind.i64.wrap (a1.Col + 1)) = a1.Grid.Wide)) then (f27_j1 a1 true) else (f27_j1 a1 false))) else (f27_j1 a1 false))) else (f27_j1 a1 false))) else (f27_j1 a1 false))
theorem f27_j0_ok {d : Nat} (hd : 6 ≤ d) (a1 : GScreen) {r : Int} {Q : PX → St → Prop} (hQ : ∀ e st', f27_Q r e st' → Q e st') (p90 : Bool) (hS : f27_j0 a1 p90 = some r) {st : St} (he : keepSt [1, 3, 4, 5] [(16, .id 16), (32, .id 32), (40, .id 40)] [] st = f27_j0_J a1 p90) : ZR (lev codes baseL (d - 1)) Q c27_12 [] st := by
  refine zrKeep he ?_
  unfold f27_j0 at hS
  refine zrSeq ?_
  refine zrReg ?_
  refine zlRun (n := 2) (j := 2) rfl (by kernel_rfl) ?_
  refine zlSplit 40 p90 (by kernel_rfl) (fun hc => ?_) (fun hc => ?_)
  · replace hS := cond_t hc hS
    refine zlRun (n := 5) (j := 7) rfl (by kernel_rfl) ?_
    refine bindE hS (fun z73 hz73 hS => ?_)
    refine zlOp (d := some 46) (op := (.call 46 [(.tmp 42), (.const (.int .i64 0)), (.tmp 45)])) (g := (some (40, true))) (j := 8) rfl (by kernel_rfl) (by kernel_rfl) (ev_callA (by kernel_rfl) (f46_ok (d - 1) (dpt hd rfl) a1.Row 0 (IntKind.i64.wrap (a1.Grid.High - 1)) z73 hz73) (by kernel_rfl) (by kernel_rfl)) ?_
    refine zlRun (n := 2) (j := 10) rfl (by kernel_rfl) ?_
    refine zlSplit 48 z73 (by kernel_rfl) (fun hc => ?_) (fun hc => ?_)
    · replace hS := cond_t hc hS
      refine zlRun (n := 5) (j := 15) rfl (by kernel_rfl) ?_
      refine bindE hS (fun z74 hz74 hS => ?_)
      refine zlOp (d := some 54) (op := (.call 46 [(.tmp 50), (.const (.int .i64 0)), (.tmp 53)])) (g := (some (48, true))) (j := 16) rfl (by kernel_rfl) (by kernel_rfl) (ev_callA (by kernel_rfl) (f46_ok (d - 1) (dpt hd rfl) a1.Col 0 (IntKind.i64.wrap (a1.Grid.Wide - 1)) z74 hz74) (by kernel_rfl) (by kernel_rfl)) ?_
      refine zlRun (n := 2) (j := 18) rfl (by kernel_rfl) ?_
      refine zlSplit 56 z74 (by kernel_rfl) (fun hc => ?_) (fun hc => ?_)
      · replace hS := cond_t hc hS
        refine zlRun (n := 4) (j := 22) rfl (by kernel_rfl) ?_
        refine zlSplit 60 (!a1.Late) (by kernel_rfl) (fun hc => ?_) (fun hc => ?_)
        · replace hS := cond_t hc hS
          refine zlRun (n := 9) (j := 31) rfl (by kernel_rfl) ?_
          refine zlEnd (by kernel_rfl) ?_
          refine zkSeq ?_
          exact f27_j1_ok hd a1 hQ true hS (by kernel_rfl)
        · replace hS := cond_f hc hS
          refine zlRun (n := 5) (j := 27) rfl (by kernel_rfl) ?_
          refine zlBool (d := 66) (op := (.cmpI .eql (.tmp 63) (.tmp 65))) (g := (some (60, false))) (j := 28) (decide ((IntKind.i64.wrap (a1.Col + 1)) = a1.Grid.Wide)) rfl (by kernel_rfl) (by kernel_rfl) (by kernel_rfl) (fun hc => ?_) (fun hc => ?_)
          · replace hS := cond_t hc hS
            refine zlRun (n := 3) (j := 31) rfl (by kernel_rfl) ?_
            refine zlEnd (by kernel_rfl) ?_
            refine zkSeq ?_
            exact f27_j1_ok hd a1 hQ true hS (by kernel_rfl)
          · replace hS := cond_f hc hS
            refine zlRun (n := 3) (j := 31) rfl (by kernel_rfl) ?_
            refine zlEnd (by kernel_rfl) ?_
            refine zkSeq ?_
            exact f27_j1_ok hd a1 hQ false hS (by kernel_rfl)
      · replace hS := cond_f hc hS
        refine zlRun (n := 13) (j := 31) rfl (by kernel_rfl) ?_
        refine zlEnd (by kernel_rfl) ?_
        refine zkSeq ?_
        exact f27_j1_ok hd a1 hQ false hS (by kernel_rfl)
    · replace hS := cond_f hc hS
      refine zlRun (n := 21) (j := 31) rfl (by kernel_rfl) ?_
      refine zlEnd (by kernel_rfl) ?_
      refine zkSeq ?_
      exact f27_j1_ok hd a1 hQ false hS (by kernel_rfl)
  · replace hS := cond_f hc hS
    refine zlRun (n := 29) (j := 31) rfl (by kernel_rfl) ?_
    refine zlEnd (by kernel_rfl) ?_
    refine zkSeq ?_
    exact f27_j1_ok hd a1 hQ false hS (by kernel_rfl)
noncomputable def f27 (a1 : GScreen) : Option (Int) := ((f45 a1.Grid).bind fun z75 => (bif (decide (z75 = 0)) then ((f45 a1.Other).bind fun z76 => (bif (decide (z76 = 0)) then (bif (decide (a1.Grid.Wide = a1.Other.Wide)) then (bif (decide (a1.Grid.High = a1.Other.High)) then (f27_j0 a1 true) else (f27_j0 a1 false)) else (f27_j0 a1 false)) else (f27_j0 a1 false))) else (f27_j0 a1 false)))
theorem f27_ok (d : Nat) (hd : 6 ≤ d) (a1 : GScreen) (r : Int) (hS : f27 a1 = some r) : lev codes baseL d 27 [(.agg ((.d (.int .i64 a1.Grid.Wide)) :: ((.d (.int .i64 a1.Grid.High)) :: ((.d (.sl a1.Grid.Cells.length (e_GCell.cells a1.Grid.Cells))) :: ((.d (.int .i64 a1.Row)) :: ((.d (.int .i64 a1.Col)) :: ((.d (.bool a1.Late)) :: ((.d (.int .i64 a1.Top)) :: ((.d (.int .i64 a1.Bottom)) :: ((.d (.int .i64 a1.Pen.Flags)) :: ((.d (.int .i64 a1.Pen.Fore)) :: ((.d (.int .i64 a1.Pen.Back)) :: ((.d (.int .i64 a1.Modes)) :: (((eInt .u64).row 4 a1.Stops.Bits) ++ ((.d (.int .i64 a1.Pages.1)) :: ((.d (.int .i64 a1.Pages.2)) :: ((.d (.int .i64 a1.Shift)) :: ((.d (.int .i64 a1.Saved.Row)) :: ((.d (.int .i64 a1.Saved.Col)) :: ((.d (.int .i64 a1.Saved.Pen.Flags)) :: ((.d (.int .i64 a1.Saved.Pen.Fore)) :: ((.d (.int .i64 a1.Saved.Pen.Back)) :: ((.d (.bool a1.Saved.Origin)) :: ((.d (.int .i64 a1.Saved.Pages.1)) :: ((.d (.int .i64 a1.Saved.Pages.2)) :: ((.d (.int .i64 a1.Saved.Shift)) :: ((.d (.int .i64 a1.Other.Wide)) :: ((.d (.int .i64 a1.Other.High)) :: ((.d (.sl a1.Other.Cells.length (e_GCell.cells a1.Other.Cells))) :: ((.d (.str a1.Title)) :: ((.d (.sl a1.Past.length (e_GLine.cells a1.Past))) :: [])))))))))))))))))))))))))))))))] [] = some ((.d (.int .i64 r)), []) := by
  refine lev_go codes27 rfl rfl (Nat.le_trans (Nat.le_of_ble_eq_true rfl) hd) fun Q hQ => ?_
  unfold f27 at hS
  show ZR _ Q c27_b [] _
  replace hQ : ∀ e st', f27_Q r e st' → Q e st' := hQ
  refine zrSeq ?_
  refine zrReg ?_
  refine zlRun (n := 2) (j := 2) rfl (by kernel_rfl) ?_
  refine zlEnd (by kernel_rfl) ?_
  refine zkSeq ?_
  refine zrSeq ?_
  refine zrRegD ?_
  refine zdRun (n := 8) (j := 8) (ts := [[], [(16, false)], [], [(16, false)], [(32, true)], [(40, true)], [(32, true)], [(40, true)]]) (acc' := [[], [(16, false)], [], [(16, false)], [(32, true)], [(40, true)], [(32, true)], [(40, true)]]) rfl (by kernel_rfl) (by kernel_rfl) (by kernel_rfl) ?_
  refine zdEnd (by kernel_rfl) (by kernel_rfl) ?_
  refine zkSeq ?_
  refine zrSeq ?_
  refine zrReg ?_
  refine zlRun (n := 1) (j := 1) rfl (by kernel_rfl) ?_
  refine bindE hS (fun z75 hz75 hS => ?_)
  refine zlOp (d := some 15) (op := (.call 45 [(.tmp 14)])) (g := none) (j := 2) rfl (by kernel_rfl) (by kernel_rfl) (ev_callA (by kernel_rfl) (f45_ok (d - 1) (dpt hd rfl) a1.Grid z75 hz75) (by kernel_rfl) (by kernel_rfl)) ?_
  refine zlBool (d := 16) (op := (.cmpI .eql (.tmp 15) (.const (.int .i64 0)))) (g := none) (j := 3) (decide (z75 = 0)) rfl (by kernel_rfl) (by kernel_rfl) (by kernel_rfl) (fun hc => ?_) (fun hc => ?_)
  · replace hS := cond_t hc hS
    refine zlRun (n := 3) (j := 6) rfl (by kernel_rfl) ?_
    refine bindE hS (fun z76 hz76 hS => ?_)
    refine zlOp (d := some 20) (op := (.call 45 [(.tmp 19)])) (g := (some (17, true))) (j := 7) rfl (by kernel_rfl) (by kernel_rfl) (ev_callA (by kernel_rfl) (f45_ok (d - 1) (dpt hd rfl) a1.Other z76 hz76) (by kernel_rfl) (by kernel_rfl)) ?_
    refine zlBool (d := 21) (op := (.cmpI .eql (.tmp 20) (.const (.int .i64 0)))) (g := (some (17, true))) (j := 8) (decide (z76 = 0)) rfl (by kernel_rfl) (by kernel_rfl) (by kernel_rfl) (fun hc => ?_) (fun hc => ?_)
    · replace hS := cond_t hc hS
      refine zlRun (n := 7) (j := 15) rfl (by kernel_rfl) ?_
      refine zlBool (d := 29) (op := (.cmpI .eql (.tmp 25) (.tmp 28))) (g := (some (23, true))) (j := 16) (decide (a1.Grid.Wide = a1.Other.Wide)) rfl (by kernel_rfl) (by kernel_rfl) (by kernel_rfl) (fun hc => ?_) (fun hc => ?_)
      · replace hS := cond_t hc hS
        refine zlRun (n := 7) (j := 23) rfl (by kernel_rfl) ?_
        refine zlBool (d := 37) (op := (.cmpI .eql (.tmp 33) (.tmp 36))) (g := (some (31, true))) (j := 24) (decide (a1.Grid.High = a1.Other.High)) rfl (by kernel_rfl) (by kernel_rfl) (by kernel_rfl) (fun hc => ?_) (fun hc => ?_)
        · replace hS := cond_t hc hS
          refine zlRun (n := 2) (j := 26) rfl (by kernel_rfl) ?_
          refine zlEnd (by kernel_rfl) ?_
          refine zkSeq ?_
          exact f27_j0_ok hd a1 hQ true hS (by kernel_rfl)
        · replace hS := cond_f hc hS
          refine zlRun (n := 2) (j := 26) rfl (by kernel_rfl) ?_
          refine zlEnd (by kernel_rfl) ?_
          refine zkSeq ?_
          exact f27_j0_ok hd a1 hQ false hS (by kernel_rfl)
      · replace hS := cond_f hc hS
        refine zlRun (n := 10) (j := 26) rfl (by kernel_rfl) ?_
        refine zlEnd (by kernel_rfl) ?_
        refine zkSeq ?_
        exact f27_j0_ok hd a1 hQ false hS (by kernel_rfl)
    · replace hS := cond_f hc hS
      refine zlRun (n := 18) (j := 26) rfl (by kernel_rfl) ?_
      refine zlEnd (by kernel_rfl) ?_
      refine zkSeq ?_
      exact f27_j0_ok hd a1 hQ false hS (by kernel_rfl)
  · replace hS := cond_f hc hS
    refine zlRun (n := 23) (j := 26) rfl (by kernel_rfl) ?_
    refine zlEnd (by kernel_rfl) ?_
    refine zkSeq ?_
    exact f27_j0_ok hd a1 hQ false hS (by kernel_rfl)
/- farwriter/farref.Blank -/
def f29_fin (p1 : GCell) : St := ⟨(up (fun _ => .un) 2 (.r (.ptr 24 0 0))), (up (hB fun _ => 0) 24 ⟨0, some (.box ((.d (.int .i64 p1.Rune)) :: ((.d (.int .i64 p1.Pen.Flags)) :: ((.d (.int .i64 p1.Pen.Fore)) :: ((.d (.int .i64 p1.Pen.Back)) :: [])))))⟩)⟩
theorem f29_out (p1 : GCell) : outR (f29_fin p1) 0 c29.res = some ((.agg ((.d (.int .i64 p1.Rune)) :: ((.d (.int .i64 p1.Pen.Flags)) :: ((.d (.int .i64 p1.Pen.Fore)) :: ((.d (.int .i64 p1.Pen.Back)) :: []))))), []) := by
  kernel_rfl
def f29_Q (r : GCell) (e : PX) (st : St) : Prop := DoneF c29 0 ((.agg ((.d (.int .i64 r.Rune)) :: ((.d (.int .i64 r.Pen.Flags)) :: ((.d (.int .i64 r.Pen.Fore)) :: ((.d (.int .i64 r.Pen.Back)) :: []))))), []) e st
noncomputable def f29 (a1 : GPen) : Option (GCell) := (some (GCell.mk 32 a1))
theorem f29_ok (d : Nat) (hd : 1 ≤ d) (a1 : GPen) (r : GCell) (hS : f29 a1 = some r) : lev codes baseL d 29 [(.agg ((.d (.int .i64 a1.Flags)) :: ((.d (.int .i64 a1.Fore)) :: ((.d (.int .i64 a1.Back)) :: []))))] [] = some ((.agg ((.d (.int .i64 r.Rune)) :: ((.d (.int .i64 r.Pen.Flags)) :: ((.d (.int .i64 r.Pen.Fore)) :: ((.d (.int .i64 r.Pen.Back)) :: []))))), []) := by
  refine lev_go codes29 rfl rfl (Nat.le_trans (Nat.le_of_ble_eq_true rfl) hd) fun Q hQ => ?_
  unfold f29 at hS
  show ZR _ Q c29_b [] _
  replace hQ : ∀ e st', f29_Q r e st' → Q e st' := hQ
  refine zrSeq ?_
  refine zrReg ?_
  refine zlRun (n := 2) (j := 2) rfl (by kernel_rfl) ?_
  refine zlEnd (by kernel_rfl) ?_
  refine zkSeq ?_
  refine zrSeq ?_
  refine zrReg ?_
  refine zlRun (n := 3) (j := 3) rfl (by kernel_rfl) ?_
  refine zlEnd (by kernel_rfl) ?_
  refine zkSeq ?_
  refine zrRet ?_
  refine zkNil ?_
  exact endQ hS hQ (fRet (by kernel_rfl) ((congrArg (fun s => outR s 0 c29.res) (by kernel_rfl : finSt c29.fin _ = f29_fin (GCell.mk 32 a1))).trans (f29_out (GCell.mk 32 a1))))
end Go.Proofs.YtjoccdgmcdkbkaaGreatDoor.Pm
