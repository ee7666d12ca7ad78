/- Typed functions, and that the codes are these. Printed by dec.py. -/
import Derived.Test.YtanhpibphkblnaaDoorDMkC
namespace Go.Proofs.YtanhpibphkblnaaDoor.Pm
set_option maxRecDepth 1000000
set_option maxHeartbeats 20000000
set_option linter.unusedVariables false
/- farwriter/mask.Of -/
def f12_fin (p22 : GMask) : St := ⟨(up (fun _ => .un) 2 (.r (.ptr 24 0 0))), (up (hB fun _ => 0) 24 ⟨0, some (.box (((eInt .u64).row 4 p22.Bits) ++ []))⟩)⟩
theorem f12_out (p22 : GMask) : outR (f12_fin p22) 0 c12.res = some ((.agg (((eInt .u64).row 4 p22.Bits) ++ [])), []) := by
  kernel_rfl
def f12_Q (r : GMask) (e : PX) (st : St) : Prop := DoneF c12 0 ((.agg (((eInt .u64).row 4 r.Bits) ++ [])), []) e st
def f12_l0_J (a1 : List UInt8) (x : GMask × GMask × Int) : St := ⟨(up (up (up (up (up (fun _ => .un) 7 (.d (.int .i64 x.2.2))) 6 (.d (.int .i64 (a1.length : Int)))) 3 (.r (.ptr 32 0 0))) 2 (.r (.ptr 24 0 0))) 0 (.d (.str a1))), (up (up (hB fun _ => 0) 32 ⟨0, some (.box (((eInt .u64).row 4 x.2.1.Bits) ++ []))⟩) 24 ⟨0, some (.box (((eInt .u64).row 4 x.1.Bits) ++ []))⟩)⟩
def f12_l0_H (a1 : List UInt8) (x : GMask × GMask × Int) (st : St) : Prop := keepSt [0, 2, 3, 6, 7] [(24, .id 24), (32, .id 32)] [] st = f12_l0_J a1 x
def f12_l0_e0_J (a1 : List UInt8) (p20 : GMask) (p21 : GMask) : St := ⟨(up (up (fun _ => .un) 3 (.r (.ptr 32 0 0))) 2 (.r (.ptr 24 0 0))), (up (up (hB fun _ => 0) 32 ⟨0, some (.box (((eInt .u64).row 4 p21.Bits) ++ []))⟩) 24 ⟨0, some (.box (((eInt .u64).row 4 p20.Bits) ++ []))⟩)⟩
def f12_l0_X (a1 : List UInt8) (z : (GMask × GMask)) (e : PX) (st : St) : Prop := e = .exit 0 ∧ st = f12_l0_e0_J a1 z.1 z.2
def f12_l0_j2_J (a1 : List UInt8) (p31 : GMask) (p32 : GMask) (p33 : Int) : St := ⟨(up (up (up (up (up (fun _ => .un) 7 (.d (.int .i64 p33))) 6 (.d (.int .i64 (a1.length : Int)))) 3 (.r (.ptr 32 0 0))) 2 (.r (.ptr 24 0 0))) 0 (.d (.str a1))), (up (up (hB fun _ => 0) 32 ⟨0, some (.box (((eInt .u64).row 4 p32.Bits) ++ []))⟩) 24 ⟨0, some (.box (((eInt .u64).row 4 p31.Bits) ++ []))⟩)⟩
noncomputable def f12_l0_j2 (a1 : List UInt8) (p31 : GMask) (p32 : GMask) (p33 : Int) : Option ((GMask × GMask × Int) ⊕ ((GMask × GMask))) := ((idx a1 p33).bind fun z16 => ((inR ((z16 / (64 : UInt8)).toNat : Int) 4).bind fun m17 => ((idx a1 p33).bind fun z18 => ((chk (decide (0 ≤ ((z18 % (64 : UInt8)).toNat : Int)))).bind fun z19 => ((inR ((z16 / (64 : UInt8)).toNat : Int) 4).bind fun m20 => (some (.inl (p31, (GMask.mk (upd p32.Bits m20 (bitI .or .u64 (p32.Bits m17) (IntKind.u64.wrap (1 * 2 ^ (min (((z18 % (64 : UInt8)).toNat : Int) : Int).toNat 64)))))), (IntKind.i64.wrap (p33 + 1))))))))))
theorem f12_l0_j2_ok {d : Nat} (hd : 1 ≤ d) (a1 : List UInt8) {r : (GMask × GMask × Int) ⊕ ((GMask × GMask))} {Q : PX → St → Prop} (hQ : ∀ e st', finL (f12_l0_H a1) (f12_l0_X a1) r e st' → Q e st') (p31 : GMask) (p32 : GMask) (p33 : Int) (hS : f12_l0_j2 a1 p31 p32 p33 = some r) {st : St} (he : keepSt [0, 2, 3, 6, 7] [(24, .id 24), (32, .id 32)] [] st = f12_l0_j2_J a1 p31 p32 p33) : ZR (lev codes baseL (d - 1)) Q c12_1 [] st := by
  refine zrKeep he ?_
  unfold f12_l0_j2 at hS
  refine zrSeq ?_
  refine zrBlk ?_
  refine zrSeq ?_
  refine zrReg ?_
  refine zlRun (n := 2) (j := 2) rfl (by kernel_rfl) ?_
  refine zlEnd (by kernel_rfl) ?_
  refine zkSeq ?_
  refine zrRegD ?_
  refine zdRun (n := 2) (j := 2) (ts := [[], []]) (acc' := [[], []]) rfl (by kernel_rfl) (by kernel_rfl) (by kernel_rfl) ?_
  refine bindE hS (fun z16 hz16 hS => ?_)
  refine zdOp (d := some 12) (op := (.ixStr (.tmp 10) (.tmp 11))) (g := none) (v := (.d (.int .u8 (z16.toNat : Int)))) (ups := []) (j := 3) (t1 := []) (acc' := [[], [], []]) (by kernel_rfl) (by kernel_rfl) rfl (by kernel_rfl) (by kernel_rfl) (ev_ixStr (kk := .i64) (s := a1) (j := p33) (by kernel_rfl) (by kernel_rfl) hz16) ?_
  refine zdOp (d := some 13) (op := (.arI .quo (.tmp 12) (.const (.int .u8 64)))) (g := none) (v := (.d (.int .u8 ((z16 / (64 : UInt8)).toNat : Int)))) (ups := []) (j := 4) (t1 := []) (acc' := [[], [], [], []]) (by kernel_rfl) (by kernel_rfl) rfl (by kernel_rfl) (by kernel_rfl) (ev_arI (kk := .u8) (a := (z16.toNat : Int)) (c := ((64 : UInt8).toNat : Int)) (by kernel_rfl) (by kernel_rfl) (ar_quo8 z16 (64 : UInt8) (by kernel_rfl))) ?_
  refine zdRun (n := 1) (j := 5) (ts := [[]]) (acc' := [[], [], [], [], []]) rfl (by kernel_rfl) (by kernel_rfl) (by kernel_rfl) ?_
  refine bindE hS (fun m17 hm17 hS => ?_)
  refine zdOp (d := some 15) (op := (.ixA 4 1 (.tmp 14) (.tmp 13))) (g := none) (v := (.r (.ptr 32 0 (0 + m17 * 1)))) (ups := []) (j := 6) (t1 := []) (acc' := [[], [], [], [], [], []]) (by kernel_rfl) (by kernel_rfl) rfl (by kernel_rfl) (by kernel_rfl) (ev_ixA (kk := .u8) (b := 32) (g := 0) (o := 0) (j := ((z16 / (64 : UInt8)).toNat : Int)) (by kernel_rfl) (by kernel_rfl) hm17) ?_
  refine zdOp (d := some 16) (op := (.load .false 1 (.tmp 15))) (g := none) (v := (.d (.int .u64 (p32.Bits m17)))) (ups := []) (j := 7) (t1 := [(32, false)]) (acc' := [[], [], [], [], [], [], [(32, false)]]) (by kernel_rfl) (by kernel_rfl) rfl (by kernel_rfl) (by kernel_rfl) (ev_loadA (eInt .u64) (b := 32) (g := 0) (o := 0 + m17 * 1) (f := p32.Bits) (nn := 4) (m := m17) (fo := 0) (pre := []) (post := []) (by kernel_rfl) (by kernel_rfl) (by kernel_rfl) (inR_lt hm17) (by kernel_rfl) (by kernel_rfl) (by kernel_rfl)) ?_
  refine zdRun (n := 2) (j := 9) (ts := [[], []]) (acc' := [[], [], [], [], [], [], [(32, false)], [], []]) rfl (by kernel_rfl) (by kernel_rfl) (by kernel_rfl) ?_
  refine bindE hS (fun z18 hz18 hS => ?_)
  refine zdOp (d := some 19) (op := (.ixStr (.tmp 17) (.tmp 18))) (g := none) (v := (.d (.int .u8 (z18.toNat : Int)))) (ups := []) (j := 10) (t1 := []) (acc' := [[], [], [], [], [], [], [(32, false)], [], [], []]) (by kernel_rfl) (by kernel_rfl) rfl (by kernel_rfl) (by kernel_rfl) (ev_ixStr (kk := .i64) (s := a1) (j := p33) (by kernel_rfl) (by kernel_rfl) hz18) ?_
  refine zdOp (d := some 20) (op := (.arI .rem (.tmp 19) (.const (.int .u8 64)))) (g := none) (v := (.d (.int .u8 ((z18 % (64 : UInt8)).toNat : Int)))) (ups := []) (j := 11) (t1 := []) (acc' := [[], [], [], [], [], [], [(32, false)], [], [], [], []]) (by kernel_rfl) (by kernel_rfl) rfl (by kernel_rfl) (by kernel_rfl) (ev_arI (kk := .u8) (a := (z18.toNat : Int)) (c := ((64 : UInt8).toNat : Int)) (by kernel_rfl) (by kernel_rfl) (ar_rem8 z18 (64 : UInt8) (by kernel_rfl))) ?_
  refine bindE hS (fun z19 hz19 hS => ?_)
  refine zdOp (d := some 21) (op := (.sh .shl (.const (.int .u64 1)) (.tmp 20))) (g := none) (v := (.d (.int .u64 (IntKind.u64.wrap (1 * 2 ^ (min (((z18 % (64 : UInt8)).toNat : Int) : Int).toNat 64)))))) (ups := []) (j := 12) (t1 := []) (acc' := [[], [], [], [], [], [], [(32, false)], [], [], [], [], []]) (by kernel_rfl) (by kernel_rfl) rfl (by kernel_rfl) (by kernel_rfl) (ev_sh (kk := .u64) (k2 := .u8) (a := 1) (c := ((z18 % (64 : UInt8)).toNat : Int)) (by kernel_rfl) (by kernel_rfl) (sh_l hz19)) ?_
  refine zdRun (n := 2) (j := 14) (ts := [[], []]) (acc' := [[], [], [], [], [], [], [(32, false)], [], [], [], [], [], [], []]) rfl (by kernel_rfl) (by kernel_rfl) (by kernel_rfl) ?_
  refine bindE hS (fun m20 hm20 hS => ?_)
  refine zdOp (d := some 24) (op := (.ixA 4 1 (.tmp 23) (.tmp 13))) (g := none) (v := (.r (.ptr 32 0 (0 + m20 * 1)))) (ups := []) (j := 15) (t1 := []) (acc' := [[], [], [], [], [], [], [(32, false)], [], [], [], [], [], [], [], []]) (by kernel_rfl) (by kernel_rfl) rfl (by kernel_rfl) (by kernel_rfl) (ev_ixA (kk := .u8) (b := 32) (g := 0) (o := 0) (j := ((z16 / (64 : UInt8)).toNat : Int)) (by kernel_rfl) (by kernel_rfl) hm20) ?_
  refine zdOp (d := none) (op := (.store 1 (.tmp 24) (.tmp 22))) (g := none) (v := .un) (ups := [(32, ⟨0, some (.box (((eInt .u64).row 4 (upd p32.Bits m20 (bitI .or .u64 (p32.Bits m17) (IntKind.u64.wrap (1 * 2 ^ (min (((z18 % (64 : UInt8)).toNat : Int) : Int).toNat 64)))))) ++ []))⟩)]) (j := 16) (t1 := [(32, true)]) (acc' := [[], [], [], [], [], [], [(32, false)], [], [], [], [], [], [], [], [], [(32, true)]]) (by kernel_rfl) (by kernel_rfl) rfl (by kernel_rfl) (by kernel_rfl) (ev_storeA (eInt .u64) (b := 32) (g := 0) (o := 0 + m20 * 1) (f := p32.Bits) (nn := 4) (m := m20) (fo := 0) (pre := []) (post := []) (by kernel_rfl) (by kernel_rfl) (by kernel_rfl) (inR_lt hm20) (new := ((.d (.int .u64 (bitI .or .u64 (p32.Bits m17) (IntKind.u64.wrap (1 * 2 ^ (min (((z18 % (64 : UInt8)).toNat : Int) : Int).toNat 64)))))) :: [])) (ds := [.int .u64 (bitI .or .u64 (p32.Bits m17) (IntKind.u64.wrap (1 * 2 ^ (min (((z18 % (64 : UInt8)).toNat : Int) : Int).toNat 64))))]) (z' := (bitI .or .u64 (p32.Bits m17) (IntKind.u64.wrap (1 * 2 ^ (min (((z18 % (64 : UInt8)).toNat : Int) : Int).toNat 64))))) (by kernel_rfl) (by kernel_rfl) (by kernel_rfl) (by kernel_rfl) (by kernel_rfl)) ?_
  refine zdEnd (by kernel_rfl) (by kernel_rfl) ?_
  refine zkBlk ?_
  refine zkSeq ?_
  refine zrReg ?_
  refine zlRun (n := 2) (j := 2) rfl (by kernel_rfl) ?_
  refine zlEnd (by kernel_rfl) ?_
  refine zkNil ?_
  exact endQ hS hQ (finL_n (by show keepSt _ _ _ _ = _; kernel_rfl))
def f12_l0_j1_J (a1 : List UInt8) (p27 : GMask) (p28 : GMask) (p29 : Int) (p30 : Bool) : St := ⟨(up (up (up (up (up (up (fun _ => .un) 8 (.d (.bool p30))) 7 (.d (.int .i64 p29))) 6 (.d (.int .i64 (a1.length : Int)))) 3 (.r (.ptr 32 0 0))) 2 (.r (.ptr 24 0 0))) 0 (.d (.str a1))), (up (up (hB fun _ => 0) 32 ⟨0, some (.box (((eInt .u64).row 4 p28.Bits) ++ []))⟩) 24 ⟨0, some (.box (((eInt .u64).row 4 p27.Bits) ++ []))⟩)⟩
noncomputable def f12_l0_j1 (a1 : List UInt8) (p27 : GMask) (p28 : GMask) (p29 : Int) (p30 : Bool) : Option ((GMask × GMask × Int) ⊕ ((GMask × GMask))) := (bif p30 then (f12_l0_j2 a1 p27 p28 p29) else (some (.inr (p27, p28))))
theorem f12_l0_j1_ok {d : Nat} (hd : 1 ≤ d) (a1 : List UInt8) {r : (GMask × GMask × Int) ⊕ ((GMask × GMask))} {Q : PX → St → Prop} (hQ : ∀ e st', finL (f12_l0_H a1) (f12_l0_X a1) r e st' → Q e st') (p27 : GMask) (p28 : GMask) (p29 : Int) (p30 : Bool) (hS : f12_l0_j1 a1 p27 p28 p29 p30 = some r) {st : St} (he : keepSt [0, 2, 3, 6, 7, 8] [(24, .id 24), (32, .id 32)] [] st = f12_l0_j1_J a1 p27 p28 p29 p30) : ZR (lev codes baseL (d - 1)) Q c12_2 [] st := by
  refine zrKeep he ?_
  unfold f12_l0_j1 at hS
  refine zrSeq ?_
  refine zrSplit 8 p30 (by kernel_rfl) (fun hc => ?_) (fun hc => ?_)
  · replace hS := cond_t hc hS
    refine zrCondT (by kernel_rfl) ?_
    refine zrSkip ?_
    refine zkSeq ?_
    exact f12_l0_j2_ok hd a1 hQ p27 p28 p29 hS (by kernel_rfl)
  · replace hS := cond_f hc hS
    refine zrCondF (by kernel_rfl) ?_
    refine zrKeep (J := f12_l0_e0_J a1 p27 p28) (by kernel_rfl) ?_
    refine zrExit ?_
    refine zkSeqX ?_
    refine zkNil ?_
    exact endQ hS hQ (finL_x (by intro h; cases h) (by show _ = _ ∧ _ = _; exact ⟨rfl, rfl⟩))
noncomputable def f12_l0 (a1 : List UInt8) (x : GMask × GMask × Int) : Option ((GMask × GMask × Int) ⊕ ((GMask × GMask))) := (bif (decide (x.2.2 < (a1.length : Int))) then (f12_l0_j1 a1 x.1 x.2.1 x.2.2 true) else (f12_l0_j1 a1 x.1 x.2.1 x.2.2 false))
theorem f12_l0_ok {d : Nat} (hd : 1 ≤ d) (a1 : List UInt8) {r : (GMask × GMask × Int) ⊕ ((GMask × GMask))} {Q : PX → St → Prop} (hQ : ∀ e st', finL (f12_l0_H a1) (f12_l0_X a1) r e st' → Q e st') {x : GMask × GMask × Int} (hS : f12_l0 a1 x = some r) {st : St} (he : f12_l0_H a1 x st) : ZR (lev codes baseL (d - 1)) Q c12_3 [] st := by
  refine zrKeep he ?_
  unfold f12_l0 at hS
  refine zrSeq ?_
  refine zrReg ?_
  refine zlBool (d := 8) (op := (.cmpI .lss (.tmp 7) (.tmp 6))) (g := none) (j := 1) (decide (x.2.2 < (a1.length : Int))) rfl (by kernel_rfl) (by kernel_rfl) (by kernel_rfl) (fun hc => ?_) (fun hc => ?_)
  · replace hS := cond_t hc hS
    refine zlEnd (by kernel_rfl) ?_
    refine zkSeq ?_
    exact f12_l0_j1_ok hd a1 hQ x.1 x.2.1 x.2.2 true hS (by kernel_rfl)
  · replace hS := cond_f hc hS
    refine zlEnd (by kernel_rfl) ?_
    refine zkSeq ?_
    exact f12_l0_j1_ok hd a1 hQ x.1 x.2.1 x.2.2 false hS (by kernel_rfl)
noncomputable def f12 (a1 : List UInt8) : Option (GMask) := ((loopO (f12_l0 a1) ((GMask.mk (fun _ => 0)), (GMask.mk (fun _ => 0)), 0)).bind fun z21 => (some z21.2))
theorem f12_ok (d : Nat) (hd : 1 ≤ d) (a1 : List UInt8) (r : GMask) (hS : f12 a1 = some r) : lev codes baseL d 12 [(.d (.str a1))] [] = some ((.agg (((eInt .u64).row 4 r.Bits) ++ [])), []) := by
  refine lev_go codes12 rfl rfl (Nat.le_trans (Nat.le_of_ble_eq_true rfl) hd) fun Q hQ => ?_
  unfold f12 at hS
  show ZR _ Q c12_b [] _
  replace hQ : ∀ e st', f12_Q r e st' → Q e st' := hQ
  refine zrSeq ?_
  refine zrReg ?_
  refine zlRun (n := 1) (j := 1) rfl (by kernel_rfl) ?_
  refine zlEnd (by kernel_rfl) ?_
  refine zkSeq ?_
  refine zrSeq ?_
  refine zrReg ?_
  refine zlRun (n := 1) (j := 1) rfl (by kernel_rfl) ?_
  refine zlEnd (by kernel_rfl) ?_
  refine zkSeq ?_
  refine zrSeq ?_
  refine zrSeq ?_
  refine zrReg ?_
  refine zlRun (n := 3) (j := 3) rfl (by kernel_rfl) ?_
  refine zlEnd (by kernel_rfl) ?_
  refine zkSeq ?_
  refine zrBlk ?_
  refine bindE hS (fun z21 hz21 hS => ?_)
  refine zrLoop (f12_l0_H a1) (f12_l0_X a1) (fun x st r Q h0 hS hQ => f12_l0_ok hd a1 hQ hS h0) (x := ((GMask.mk (fun _ => 0)), (GMask.mk (fun _ => 0)), 0)) (z := z21) (by show keepSt _ _ _ _ = _; kernel_rfl) hz21 ?_
  intro e st' _ hX
  obtain ⟨rfl, rfl⟩ : _ ∧ _ := hX
  refine zkBlkX ?_
  refine zkSeq ?_
  refine zrSeq ?_
  refine zrReg ?_
  refine zlRun (n := 2) (j := 2) rfl (by kernel_rfl) ?_
  refine zlEnd (by kernel_rfl) ?_
  refine zkSeq ?_
  refine zrRet ?_
  refine zkNil ?_
  exact endQ hS hQ (fRet ((congrArg (fun s => outR s 0 c12.res) (by kernel_rfl : finSt c12.fin _ = f12_fin z21.2)).trans (f12_out z21.2)))
/- farwriter/mask.Has -/
def f15_fin (p2 : Bool) : St := ⟨(up (fun _ => .un) 4 (.d (.bool p2))), (hB fun _ => 0)⟩
theorem f15_out (p2 : Bool) : outR (f15_fin p2) 0 c15.res = some ((.d (.bool p2)), []) := by
  kernel_rfl
def f15_Q (r : Bool) (e : PX) (st : St) : Prop := DoneF c15 0 ((.d (.bool r)), []) e st
noncomputable def f15 (a1 : GMask) (a2 : UInt8) : Option (Bool) := ((inR ((a2 / (64 : UInt8)).toNat : Int) 4).bind fun m3 => ((chk (decide (0 ≤ ((a2 % (64 : UInt8)).toNat : Int)))).bind fun z4 => (bif (decide ((bitI .and .u64 (Int.fdiv (a1.Bits m3) (2 ^ (min (((a2 % (64 : UInt8)).toNat : Int) : Int).toNat 64))) 1) = 1)) then (some true) else (some false))))
theorem f15_ok (d : Nat) (hd : 1 ≤ d) (a1 : GMask) (a2 : UInt8) (r : Bool) (hS : f15 a1 a2 = some r) : lev codes baseL d 15 [(.agg (((eInt .u64).row 4 a1.Bits) ++ [])), (.d (.int .u8 (a2.toNat : Int)))] [] = some ((.d (.bool r)), []) := by
  refine lev_go codes15 rfl rfl (Nat.le_trans (Nat.le_of_ble_eq_true rfl) hd) fun Q hQ => ?_
  unfold f15 at hS
  show ZR _ Q c15_b [] _
  replace hQ : ∀ e st', f15_Q r e st' → Q e st' := hQ
  refine zrSeq ?_
  refine zrReg ?_
  refine zlRun (n := 2) (j := 2) rfl (by kernel_rfl) ?_
  refine zlEnd (by kernel_rfl) ?_
  refine zkSeq ?_
  refine zrSeq ?_
  refine zrReg ?_
  refine zlRun (n := 1) (j := 1) rfl (by kernel_rfl) ?_
  refine zlOp (d := some 6) (op := (.arI .quo (.tmp 5) (.const (.int .u8 64)))) (g := none) (v := (.d (.int .u8 ((a2 / (64 : UInt8)).toNat : Int)))) (ups := []) (j := 2) rfl (by kernel_rfl) (by kernel_rfl) (ev_arI (kk := .u8) (a := (a2.toNat : Int)) (c := ((64 : UInt8).toNat : Int)) (by kernel_rfl) (by kernel_rfl) (ar_quo8 a2 (64 : UInt8) (by kernel_rfl))) ?_
  refine zlRun (n := 1) (j := 3) rfl (by kernel_rfl) ?_
  refine bindE hS (fun m3 hm3 hS => ?_)
  refine zlOp (d := some 8) (op := (.ixA 4 1 (.tmp 7) (.tmp 6))) (g := none) (v := (.r (.ptr 24 1 (0 + m3 * 1)))) (ups := []) (j := 4) rfl (by kernel_rfl) (by kernel_rfl) (ev_ixA (kk := .u8) (b := 24) (g := 1) (o := 0) (j := ((a2 / (64 : UInt8)).toNat : Int)) (by kernel_rfl) (by kernel_rfl) hm3) ?_
  refine zlOp (d := some 9) (op := (.load .false 1 (.tmp 8))) (g := none) (v := (.d (.int .u64 (a1.Bits m3)))) (ups := []) (j := 5) rfl (by kernel_rfl) (by kernel_rfl) (ev_loadA (eInt .u64) (b := 24) (g := 1) (o := 0 + m3 * 1) (f := a1.Bits) (nn := 4) (m := m3) (fo := 0) (pre := []) (post := []) (by kernel_rfl) (by kernel_rfl) (by kernel_rfl) (inR_lt hm3) (by kernel_rfl) (by kernel_rfl) (by kernel_rfl)) ?_
  refine zlRun (n := 1) (j := 6) rfl (by kernel_rfl) ?_
  refine zlOp (d := some 11) (op := (.arI .rem (.tmp 10) (.const (.int .u8 64)))) (g := none) (v := (.d (.int .u8 ((a2 % (64 : UInt8)).toNat : Int)))) (ups := []) (j := 7) rfl (by kernel_rfl) (by kernel_rfl) (ev_arI (kk := .u8) (a := (a2.toNat : Int)) (c := ((64 : UInt8).toNat : Int)) (by kernel_rfl) (by kernel_rfl) (ar_rem8 a2 (64 : UInt8) (by kernel_rfl))) ?_
  refine bindE hS (fun z4 hz4 hS => ?_)
  refine zlOp (d := some 12) (op := (.sh .shr (.tmp 9) (.tmp 11))) (g := none) (v := (.d (.int .u64 (Int.fdiv (a1.Bits m3) (2 ^ (min (((a2 % (64 : UInt8)).toNat : Int) : Int).toNat 64)))))) (ups := []) (j := 8) rfl (by kernel_rfl) (by kernel_rfl) (ev_sh (kk := .u64) (k2 := .u8) (a := (a1.Bits m3)) (c := ((a2 % (64 : UInt8)).toNat : Int)) (by kernel_rfl) (by kernel_rfl) (sh_r hz4)) ?_
  refine zlRun (n := 1) (j := 9) rfl (by kernel_rfl) ?_
  refine zlBool (d := 14) (op := (.cmpI .eql (.tmp 13) (.const (.int .u64 1)))) (g := none) (j := 10) (decide ((bitI .and .u64 (Int.fdiv (a1.Bits m3) (2 ^ (min (((a2 % (64 : UInt8)).toNat : Int) : Int).toNat 64))) 1) = 1)) rfl (by kernel_rfl) (by kernel_rfl) (by kernel_rfl) (fun hc => ?_) (fun hc => ?_)
  · replace hS := cond_t hc hS
    refine zlRun (n := 1) (j := 11) rfl (by kernel_rfl) ?_
    refine zlEnd (by kernel_rfl) ?_
    refine zkSeq ?_
    refine zrRet ?_
    refine zkNil ?_
    exact endQ hS hQ (fRet ((congrArg (fun s => outR s 0 c15.res) (by kernel_rfl : finSt c15.fin _ = f15_fin true)).trans (f15_out true)))
  · replace hS := cond_f hc hS
    refine zlRun (n := 1) (j := 11) rfl (by kernel_rfl) ?_
    refine zlEnd (by kernel_rfl) ?_
    refine zkSeq ?_
    refine zrRet ?_
    refine zkNil ?_
    exact endQ hS hQ (fRet ((congrArg (fun s => outR s 0 c15.res) (by kernel_rfl : finSt c15.fin _ = f15_fin false)).trans (f15_out false)))
/- farwriter/mask.Bytes -/
def f13_fin (p21 : List UInt8) : St := ⟨(up (fun _ => .un) 2 (.d (.str p21))), (hB fun _ => 0)⟩
theorem f13_out (p21 : List UInt8) : outR (f13_fin p21) 0 c13.res = some ((.d (.str p21)), []) := by
  kernel_rfl
def f13_Q (r : (List UInt8)) (e : PX) (st : St) : Prop := DoneF c13 0 ((.d (.str r)), []) e st
def f13_l0_J (a1 : GMask) (x : (List UInt8) × Int) : St := ⟨(up (up (up (fun _ => .un) 5 (.d (.int .i64 x.2))) 3 (.r (.msl 32 0 0 x.1.length))) 1 (.r (.ptr 16 0 0))), (up (up (hB fun _ => 0) 32 ⟨0, some (.own 5 1 (eU8.cells x.1))⟩) 16 ⟨0, some (.box (((eInt .u64).row 4 a1.Bits) ++ []))⟩)⟩
def f13_l0_H (a1 : GMask) (x : (List UInt8) × Int) (st : St) : Prop := keepSt [1, 3, 5] [(16, .id 16), (32, .id 32)] [] st = f13_l0_J a1 x
def f13_l0_e0_J (a1 : GMask) (p20 : List UInt8) : St := ⟨(up (fun _ => .un) 3 (.r (.msl 32 0 0 p20.length))), (up (hB fun _ => 0) 32 ⟨0, some (.own 5 1 (eU8.cells p20))⟩)⟩
def f13_l0_X (a1 : GMask) (z : ((List UInt8))) (e : PX) (st : St) : Prop := e = .exit 0 ∧ st = f13_l0_e0_J a1 z
def f13_l0_j2_J (a1 : GMask) (p28 : List UInt8) (p29 : Int) : St := ⟨(up (up (up (fun _ => .un) 5 (.d (.int .i64 p29))) 3 (.r (.msl 32 0 0 p28.length))) 1 (.r (.ptr 16 0 0))), (up (up (hB fun _ => 0) 32 ⟨0, some (.own 5 1 (eU8.cells p28))⟩) 16 ⟨0, some (.box (((eInt .u64).row 4 a1.Bits) ++ []))⟩)⟩
noncomputable def f13_l0_j2 (a1 : GMask) (p28 : List UInt8) (p29 : Int) : Option (((List UInt8) × Int) ⊕ (((List UInt8)))) := ((f15 a1 (u8 p29)).bind fun z15 => (bif z15 then ((app? 1 p28 ([(u8 p29)] : List UInt8)).bind fun z16 => (some (.inl (z16, (IntKind.i64.wrap (p29 + 1)))))) else (some (.inl (p28, (IntKind.i64.wrap (p29 + 1)))))))
theorem f13_l0_j2_ok {d : Nat} (hd : 2 ≤ d) (a1 : GMask) {r : ((List UInt8) × Int) ⊕ (((List UInt8)))} {Q : PX → St → Prop} (hQ : ∀ e st', finL (f13_l0_H a1) (f13_l0_X a1) r e st' → Q e st') (p28 : List UInt8) (p29 : Int) (hS : f13_l0_j2 a1 p28 p29 = some r) {st : St} (he : keepSt [1, 3, 5] [(16, .id 16), (32, .id 32)] [] st = f13_l0_j2_J a1 p28 p29) : ZR (lev codes baseL (d - 1)) Q c13_1 [] st := by
  refine zrKeep he ?_
  unfold f13_l0_j2 at hS
  refine zrSeq ?_
  refine zrBlk ?_
  refine zrSeq ?_
  refine zrReg ?_
  refine zlRun (n := 2) (j := 2) rfl (by kernel_rfl) ?_
  refine zlEnd (by kernel_rfl) ?_
  refine zkSeq ?_
  refine zrSeq ?_
  refine zrReg ?_
  refine zlRun (n := 2) (j := 2) rfl (by kernel_rfl) ?_
  refine zlOp (d := some 10) (op := (.cvI .u8 (.tmp 9))) (g := none) (v := (.d (.int .u8 ((u8 p29).toNat : Int)))) (ups := []) (j := 3) rfl (by kernel_rfl) (by kernel_rfl) (ev_cv (kk := .i64) (a := p29) (by kernel_rfl) (u8_wrap _)) ?_
  refine bindE hS (fun z15 hz15 hS => ?_)
  refine zlOp (d := some 11) (op := (.call 15 [(.tmp 8), (.tmp 10)])) (g := none) (v := (.d (.bool z15))) (ups := []) (j := 4) rfl (by kernel_rfl) (by kernel_rfl) (ev_call (args := [(.agg (((eInt .u64).row 4 a1.Bits) ++ [])), (.d (.int .u8 ((u8 p29).toNat : Int)))]) (l := [(.agg (((eInt .u64).row 4 a1.Bits) ++ [])), (.d (.int .u8 ((u8 p29).toNat : Int)))]) (r := (.d (.bool z15))) (by kernel_rfl) (by kernel_rfl) (f15_ok (d - 1) (dpt hd rfl) a1 (u8 p29) z15 hz15) (by kernel_rfl) (by kernel_rfl) (by kernel_rfl)) ?_
  refine zlEnd (by kernel_rfl) ?_
  refine zkSeq ?_
  refine zrSplit 11 z15 (by kernel_rfl) (fun hc => ?_) (fun hc => ?_)
  · replace hS := cond_t hc hS
    refine zrCondT (by kernel_rfl) ?_
    refine zrReg ?_
    refine zlRun (n := 2) (j := 2) rfl (by kernel_rfl) ?_
    refine zlOp (d := some 14) (op := (.cvI .u8 (.tmp 13))) (g := none) (v := (.d (.int .u8 ((u8 p29).toNat : Int)))) (ups := []) (j := 3) rfl (by kernel_rfl) (by kernel_rfl) (ev_cv (kk := .i64) (a := p29) (by kernel_rfl) (u8_wrap _)) ?_
    refine zlRun (n := 1) (j := 4) rfl (by kernel_rfl) ?_
    refine bindE hS (fun z16 hz16 hS => ?_)
    refine zlOp (d := some 16) (op := (.app 5 1 1 (.tmp 12) (.tmp 15))) (g := none) (v := (.r (.msl 32 1 0 z16.length))) (ups := [(32, ⟨1, some (.own 5 1 (eU8.cells z16))⟩)]) (j := 5) rfl (by kernel_rfl) (by kernel_rfl) (ev_app eU8 (b := 32) (g := 0) (n := p28.length) (xs := p28) (ys := [(u8 p29)]) ((congrArg (asL _) (by kernel_rfl : ρof _ (.tmp 15) = (.r (.msl 128 1 0 (([(u8 p29)] : List UInt8).length))))).trans (as_whole eU8 (e := 5) (k := 1) (xs := [(u8 p29)]) (by kernel_rfl) rfl rfl)) rfl (by kernel_rfl) rfl (by kernel_rfl) rfl hz16) ?_
    refine zlRun (n := 1) (j := 6) rfl (by kernel_rfl) ?_
    refine zlEnd (by kernel_rfl) ?_
    refine zkBlk ?_
    refine zkSeq ?_
    refine zrReg ?_
    refine zlRun (n := 2) (j := 2) rfl (by kernel_rfl) ?_
    refine zlEnd (by kernel_rfl) ?_
    refine zkNil ?_
    exact endQ hS hQ (finL_n (by show keepSt _ _ _ _ = _; kernel_rfl))
  · replace hS := cond_f hc hS
    refine zrCondF (by kernel_rfl) ?_
    refine zrSkip ?_
    refine zkBlk ?_
    refine zkSeq ?_
    refine zrReg ?_
    refine zlRun (n := 2) (j := 2) rfl (by kernel_rfl) ?_
    refine zlEnd (by kernel_rfl) ?_
    refine zkNil ?_
    exact endQ hS hQ (finL_n (by show keepSt _ _ _ _ = _; kernel_rfl))
def f13_l0_j1_J (a1 : GMask) (p25 : List UInt8) (p26 : Int) (p27 : Bool) : St := ⟨(up (up (up (up (fun _ => .un) 6 (.d (.bool p27))) 5 (.d (.int .i64 p26))) 3 (.r (.msl 32 0 0 p25.length))) 1 (.r (.ptr 16 0 0))), (up (up (hB fun _ => 0) 32 ⟨0, some (.own 5 1 (eU8.cells p25))⟩) 16 ⟨0, some (.box (((eInt .u64).row 4 a1.Bits) ++ []))⟩)⟩
noncomputable def f13_l0_j1 (a1 : GMask) (p25 : List UInt8) (p26 : Int) (p27 : Bool) : Option (((List UInt8) × Int) ⊕ (((List UInt8)))) := (bif p27 then (f13_l0_j2 a1 p25 p26) else (some (.inr p25)))
theorem f13_l0_j1_ok {d : Nat} (hd : 2 ≤ d) (a1 : GMask) {r : ((List UInt8) × Int) ⊕ (((List UInt8)))} {Q : PX → St → Prop} (hQ : ∀ e st', finL (f13_l0_H a1) (f13_l0_X a1) r e st' → Q e st') (p25 : List UInt8) (p26 : Int) (p27 : Bool) (hS : f13_l0_j1 a1 p25 p26 p27 = some r) {st : St} (he : keepSt [1, 3, 5, 6] [(16, .id 16), (32, .id 32)] [] st = f13_l0_j1_J a1 p25 p26 p27) : ZR (lev codes baseL (d - 1)) Q c13_2 [] st := by
  refine zrKeep he ?_
  unfold f13_l0_j1 at hS
  refine zrSeq ?_
  refine zrSplit 6 p27 (by kernel_rfl) (fun hc => ?_) (fun hc => ?_)
  · replace hS := cond_t hc hS
    refine zrCondT (by kernel_rfl) ?_
    refine zrSkip ?_
    refine zkSeq ?_
    exact f13_l0_j2_ok hd a1 hQ p25 p26 hS (by kernel_rfl)
  · replace hS := cond_f hc hS
    refine zrCondF (by kernel_rfl) ?_
    refine zrKeep (J := f13_l0_e0_J a1 p25) (by kernel_rfl) ?_
    refine zrExit ?_
    refine zkSeqX ?_
    refine zkNil ?_
    exact endQ hS hQ (finL_x (by intro h; cases h) (by show _ = _ ∧ _ = _; exact ⟨rfl, rfl⟩))
noncomputable def f13_l0 (a1 : GMask) (x : (List UInt8) × Int) : Option (((List UInt8) × Int) ⊕ (((List UInt8)))) := (bif (decide (x.2 < 256)) then (f13_l0_j1 a1 x.1 x.2 true) else (f13_l0_j1 a1 x.1 x.2 false))
theorem f13_l0_ok {d : Nat} (hd : 2 ≤ d) (a1 : GMask) {r : ((List UInt8) × Int) ⊕ (((List UInt8)))} {Q : PX → St → Prop} (hQ : ∀ e st', finL (f13_l0_H a1) (f13_l0_X a1) r e st' → Q e st') {x : (List UInt8) × Int} (hS : f13_l0 a1 x = some r) {st : St} (he : f13_l0_H a1 x st) : ZR (lev codes baseL (d - 1)) Q c13_3 [] st := by
  refine zrKeep he ?_
  unfold f13_l0 at hS
  refine zrSeq ?_
  refine zrReg ?_
  refine zlBool (d := 6) (op := (.cmpI .lss (.tmp 5) (.const (.int .i64 256)))) (g := none) (j := 1) (decide (x.2 < 256)) rfl (by kernel_rfl) (by kernel_rfl) (by kernel_rfl) (fun hc => ?_) (fun hc => ?_)
  · replace hS := cond_t hc hS
    refine zlEnd (by kernel_rfl) ?_
    refine zkSeq ?_
    exact f13_l0_j1_ok hd a1 hQ x.1 x.2 true hS (by kernel_rfl)
  · replace hS := cond_f hc hS
    refine zlEnd (by kernel_rfl) ?_
    refine zkSeq ?_
    exact f13_l0_j1_ok hd a1 hQ x.1 x.2 false hS (by kernel_rfl)
noncomputable def f13 (a1 : GMask) : Option ((List UInt8)) := ((loopO (f13_l0 a1) ([], 0)).bind fun z17 => (some z17))
theorem f13_ok (d : Nat) (hd : 2 ≤ d) (a1 : GMask) (r : (List UInt8)) (hS : f13 a1 = some r) : lev codes baseL d 13 [(.agg (((eInt .u64).row 4 a1.Bits) ++ []))] [] = some ((.d (.str r)), []) := by
  refine lev_go codes13 rfl rfl (Nat.le_trans (Nat.le_of_ble_eq_true rfl) hd) fun Q hQ => ?_
  unfold f13 at hS
  show ZR _ Q c13_b [] _
  replace hQ : ∀ e st', f13_Q r e st' → Q e st' := hQ
  refine zrSeq ?_
  refine zrReg ?_
  refine zlRun (n := 2) (j := 2) rfl (by kernel_rfl) ?_
  refine zlEnd (by kernel_rfl) ?_
  refine zkSeq ?_
  refine zrSeq ?_
  refine zrReg ?_
  refine zlRun (n := 1) (j := 1) rfl (by kernel_rfl) ?_
  refine zlEnd (by kernel_rfl) ?_
  refine zkSeq ?_
  refine zrSeq ?_
  refine zrSeq ?_
  refine zrReg ?_
  refine zlRun (n := 1) (j := 1) rfl (by kernel_rfl) ?_
  refine zlEnd (by kernel_rfl) ?_
  refine zkSeq ?_
  refine zrBlk ?_
  refine bindE hS (fun z17 hz17 hS => ?_)
  refine zrLoop (f13_l0_H a1) (f13_l0_X a1) (fun x st r Q h0 hS hQ => f13_l0_ok hd a1 hQ hS h0) (x := ([], 0)) (z := z17) (by show keepSt _ _ _ _ = _; kernel_rfl) hz17 ?_
  intro e st' _ hX
  obtain ⟨rfl, rfl⟩ : _ ∧ _ := hX
  refine zkBlkX ?_
  refine zkSeq ?_
  refine zrSeq ?_
  refine zrReg ?_
  refine zlRun (n := 1) (j := 1) rfl (by kernel_rfl) ?_
  refine zlOp (d := some 19) (op := (.cvBS (.tmp 18))) (g := none) (v := (.d (.str z17))) (ups := []) (j := 2) rfl (by kernel_rfl) (by kernel_rfl) (ev_cvBS (s := z17) ((congrArg (asL _) (by kernel_rfl : ρof _ (.tmp 18) = (.r (.msl 32 0 0 z17.length)))).trans (as_whole eU8 (e := 5) (k := 1) (xs := z17) (by kernel_rfl) rfl rfl)) rfl) ?_
  refine zlRun (n := 1) (j := 3) rfl (by kernel_rfl) ?_
  refine zlEnd (by kernel_rfl) ?_
  refine zkSeq ?_
  refine zrRet ?_
  refine zkNil ?_
  exact endQ hS hQ (fRet ((congrArg (fun s => outR s 0 c13.res) (by kernel_rfl : finSt c13.fin _ = f13_fin z17)).trans (f13_out z17)))
/- strings.TrimRight -/
theorem libTrimRight_ok (d : Nat) (hd : 0 ≤ d) (a1 : List UInt8) (a2 : List UInt8) (r : List UInt8) (hS : libTrimRight a1 a2 = some r) : lev codes baseL d 21 [(.d (.str a1)), (.d (.str a2))] [] = some ((.d (.str r)), []) := lib_call (l := libs) rfl rfl (ossS_ hS) d
/- farwriter/mask.Write -/
def f17_fin (p22 : List UInt8) : St := ⟨(up (fun _ => .un) 2 (.d (.str p22))), (hB fun _ => 0)⟩
theorem f17_out (p22 : List UInt8) : outR (f17_fin p22) 0 c17.res = some ((.d (.str p22)), []) := by
  kernel_rfl
def f17_Q (r : (List UInt8)) (e : PX) (st : St) : Prop := DoneF c17 0 ((.d (.str r)), []) e st
def f17_l0_J (a1 : GMask) (x : (Nat → UInt8) × Int) : St := ⟨(up (up (up (fun _ => .un) 5 (.d (.int .i64 x.2))) 3 (.r (.ptr 32 0 0))) 1 (.r (.ptr 16 0 0))), (up (up (hB fun _ => 0) 32 ⟨0, some (.box ((eU8.row 32 x.1) ++ []))⟩) 16 ⟨0, some (.box (((eInt .u64).row 4 a1.Bits) ++ []))⟩)⟩
def f17_l0_H (a1 : GMask) (x : (Nat → UInt8) × Int) (st : St) : Prop := keepSt [1, 3, 5] [(16, .id 16), (32, .id 32)] [] st = f17_l0_J a1 x
def f17_l0_e0_J (a1 : GMask) (p21 : Nat → UInt8) : St := ⟨(up (fun _ => .un) 3 (.r (.ptr 32 0 0))), (up (hB fun _ => 0) 32 ⟨0, some (.box ((eU8.row 32 p21) ++ []))⟩)⟩
def f17_l0_X (a1 : GMask) (z : ((Nat → UInt8))) (e : PX) (st : St) : Prop := e = .exit 0 ∧ st = f17_l0_e0_J a1 z
def f17_l0_j2_J (a1 : GMask) (p29 : Nat → UInt8) (p30 : Int) : St := ⟨(up (up (up (fun _ => .un) 5 (.d (.int .i64 p30))) 3 (.r (.ptr 32 0 0))) 1 (.r (.ptr 16 0 0))), (up (up (hB fun _ => 0) 32 ⟨0, some (.box ((eU8.row 32 p29) ++ []))⟩) 16 ⟨0, some (.box (((eInt .u64).row 4 a1.Bits) ++ []))⟩)⟩
noncomputable def f17_l0_j2 (a1 : GMask) (p29 : Nat → UInt8) (p30 : Int) : Option (((Nat → UInt8) × Int) ⊕ (((Nat → UInt8)))) := ((f15 a1 (u8 p30)).bind fun z15 => (bif z15 then ((inR (IntKind.i64.wrap (Int.tdiv p30 8)) 32).bind fun m16 => ((chk (decide (0 ≤ (Int.tmod p30 8)))).bind fun z17 => ((inR (IntKind.i64.wrap (Int.tdiv p30 8)) 32).bind fun m18 => (some (.inl ((upd p29 m18 ((p29 m16) ||| (u8 (((128 : UInt8).toNat / 2 ^ (min ((Int.tmod p30 8) : Int).toNat 8) : Nat) : Int)))), (IntKind.i64.wrap (p30 + 1)))))))) else (some (.inl (p29, (IntKind.i64.wrap (p30 + 1)))))))
theorem f17_l0_j2_ok {d : Nat} (hd : 2 ≤ d) (a1 : GMask) {r : ((Nat → UInt8) × Int) ⊕ (((Nat → UInt8)))} {Q : PX → St → Prop} (hQ : ∀ e st', finL (f17_l0_H a1) (f17_l0_X a1) r e st' → Q e st') (p29 : Nat → UInt8) (p30 : Int) (hS : f17_l0_j2 a1 p29 p30 = some r) {st : St} (he : keepSt [1, 3, 5] [(16, .id 16), (32, .id 32)] [] st = f17_l0_j2_J a1 p29 p30) : ZR (lev codes baseL (d - 1)) Q c17_1 [] st := by
  refine zrKeep he ?_
  unfold f17_l0_j2 at hS
  refine zrSeq ?_
  refine zrBlk ?_
  refine zrSeq ?_
  refine zrReg ?_
  refine zlRun (n := 2) (j := 2) rfl (by kernel_rfl) ?_
  refine zlEnd (by kernel_rfl) ?_
  refine zkSeq ?_
  refine zrSeq ?_
  refine zrReg ?_
  refine zlRun (n := 2) (j := 2) rfl (by kernel_rfl) ?_
  refine zlOp (d := some 10) (op := (.cvI .u8 (.tmp 9))) (g := none) (v := (.d (.int .u8 ((u8 p30).toNat : Int)))) (ups := []) (j := 3) rfl (by kernel_rfl) (by kernel_rfl) (ev_cv (kk := .i64) (a := p30) (by kernel_rfl) (u8_wrap _)) ?_
  refine bindE hS (fun z15 hz15 hS => ?_)
  refine zlOp (d := some 11) (op := (.call 15 [(.tmp 8), (.tmp 10)])) (g := none) (v := (.d (.bool z15))) (ups := []) (j := 4) rfl (by kernel_rfl) (by kernel_rfl) (ev_call (args := [(.agg (((eInt .u64).row 4 a1.Bits) ++ [])), (.d (.int .u8 ((u8 p30).toNat : Int)))]) (l := [(.agg (((eInt .u64).row 4 a1.Bits) ++ [])), (.d (.int .u8 ((u8 p30).toNat : Int)))]) (r := (.d (.bool z15))) (by kernel_rfl) (by kernel_rfl) (f15_ok (d - 1) (dpt hd rfl) a1 (u8 p30) z15 hz15) (by kernel_rfl) (by kernel_rfl) (by kernel_rfl)) ?_
  refine zlEnd (by kernel_rfl) ?_
  refine zkSeq ?_
  refine zrSplit 11 z15 (by kernel_rfl) (fun hc => ?_) (fun hc => ?_)
  · replace hS := cond_t hc hS
    refine zrCondT (by kernel_rfl) ?_
    refine zrRegD ?_
    refine zdRun (n := 2) (j := 2) (ts := [[], []]) (acc' := [[], []]) rfl (by kernel_rfl) (by kernel_rfl) (by kernel_rfl) ?_
    refine bindE hS (fun m16 hm16 hS => ?_)
    refine zdOp (d := some 14) (op := (.ixA 32 1 (.tmp 3) (.tmp 13))) (g := none) (v := (.r (.ptr 32 0 (0 + m16 * 1)))) (ups := []) (j := 3) (t1 := []) (acc' := [[], [], []]) (by kernel_rfl) (by kernel_rfl) rfl (by kernel_rfl) (by kernel_rfl) (ev_ixA (kk := .i64) (b := 32) (g := 0) (o := 0) (j := (IntKind.i64.wrap (Int.tdiv p30 8))) (by kernel_rfl) (by kernel_rfl) hm16) ?_
    refine zdOp (d := some 15) (op := (.load .false 1 (.tmp 14))) (g := none) (v := (.d (.int .u8 ((p29 m16).toNat : Int)))) (ups := []) (j := 4) (t1 := [(32, false)]) (acc' := [[], [], [], [(32, false)]]) (by kernel_rfl) (by kernel_rfl) rfl (by kernel_rfl) (by kernel_rfl) (ev_loadA eU8 (b := 32) (g := 0) (o := 0 + m16 * 1) (f := p29) (nn := 32) (m := m16) (fo := 0) (pre := []) (post := []) (by kernel_rfl) (by kernel_rfl) (by kernel_rfl) (inR_lt hm16) (by kernel_rfl) (by kernel_rfl) (by kernel_rfl)) ?_
    refine zdRun (n := 2) (j := 6) (ts := [[], []]) (acc' := [[], [], [], [(32, false)], [], []]) rfl (by kernel_rfl) (by kernel_rfl) (by kernel_rfl) ?_
    refine bindE hS (fun z17 hz17 hS => ?_)
    refine zdOp (d := some 18) (op := (.sh .shr (.const (.int .u8 128)) (.tmp 17))) (g := none) (v := (.d (.int .u8 ((u8 (((128 : UInt8).toNat / 2 ^ (min ((Int.tmod p30 8) : Int).toNat 8) : Nat) : Int)).toNat : Int)))) (ups := []) (j := 7) (t1 := []) (acc' := [[], [], [], [(32, false)], [], [], []]) (by kernel_rfl) (by kernel_rfl) rfl (by kernel_rfl) (by kernel_rfl) (ev_sh (kk := .u8) (k2 := .i64) (a := ((128 : UInt8).toNat : Int)) (c := (Int.tmod p30 8)) (by kernel_rfl) (by kernel_rfl) (sh_r8 hz17)) ?_
    refine zdOp (d := some 19) (op := (.arI .or (.tmp 15) (.tmp 18))) (g := none) (v := (.d (.int .u8 (((p29 m16) ||| (u8 (((128 : UInt8).toNat / 2 ^ (min ((Int.tmod p30 8) : Int).toNat 8) : Nat) : Int))).toNat : Int)))) (ups := []) (j := 8) (t1 := []) (acc' := [[], [], [], [(32, false)], [], [], [], []]) (by kernel_rfl) (by kernel_rfl) rfl (by kernel_rfl) (by kernel_rfl) (ev_arI (kk := .u8) (a := ((p29 m16).toNat : Int)) (c := ((u8 (((128 : UInt8).toNat / 2 ^ (min ((Int.tmod p30 8) : Int).toNat 8) : Nat) : Int)).toNat : Int)) (by kernel_rfl) (by kernel_rfl) (ar_or8 (p29 m16) (u8 (((128 : UInt8).toNat / 2 ^ (min ((Int.tmod p30 8) : Int).toNat 8) : Nat) : Int)))) ?_
    refine bindE hS (fun m18 hm18 hS => ?_)
    refine zdOp (d := some 20) (op := (.ixA 32 1 (.tmp 3) (.tmp 13))) (g := none) (v := (.r (.ptr 32 0 (0 + m18 * 1)))) (ups := []) (j := 9) (t1 := []) (acc' := [[], [], [], [(32, false)], [], [], [], [], []]) (by kernel_rfl) (by kernel_rfl) rfl (by kernel_rfl) (by kernel_rfl) (ev_ixA (kk := .i64) (b := 32) (g := 0) (o := 0) (j := (IntKind.i64.wrap (Int.tdiv p30 8))) (by kernel_rfl) (by kernel_rfl) hm18) ?_
    refine zdOp (d := none) (op := (.store 1 (.tmp 20) (.tmp 19))) (g := none) (v := .un) (ups := [(32, ⟨0, some (.box ((eU8.row 32 (upd p29 m18 ((p29 m16) ||| (u8 (((128 : UInt8).toNat / 2 ^ (min ((Int.tmod p30 8) : Int).toNat 8) : Nat) : Int))))) ++ []))⟩)]) (j := 10) (t1 := [(32, true)]) (acc' := [[], [], [], [(32, false)], [], [], [], [], [], [(32, true)]]) (by kernel_rfl) (by kernel_rfl) rfl (by kernel_rfl) (by kernel_rfl) (ev_storeA eU8 (b := 32) (g := 0) (o := 0 + m18 * 1) (f := p29) (nn := 32) (m := m18) (fo := 0) (pre := []) (post := []) (by kernel_rfl) (by kernel_rfl) (by kernel_rfl) (inR_lt hm18) (new := ((.d (.int .u8 (((p29 m16) ||| (u8 (((128 : UInt8).toNat / 2 ^ (min ((Int.tmod p30 8) : Int).toNat 8) : Nat) : Int))).toNat : Int))) :: [])) (ds := [.int .u8 (((p29 m16) ||| (u8 (((128 : UInt8).toNat / 2 ^ (min ((Int.tmod p30 8) : Int).toNat 8) : Nat) : Int))).toNat : Int)]) (z' := ((p29 m16) ||| (u8 (((128 : UInt8).toNat / 2 ^ (min ((Int.tmod p30 8) : Int).toNat 8) : Nat) : Int)))) (by kernel_rfl) (by kernel_rfl) (by kernel_rfl) (by kernel_rfl) (by kernel_rfl)) ?_
    refine zdEnd (by kernel_rfl) (by kernel_rfl) ?_
    refine zkBlk ?_
    refine zkSeq ?_
    refine zrReg ?_
    refine zlRun (n := 2) (j := 2) rfl (by kernel_rfl) ?_
    refine zlEnd (by kernel_rfl) ?_
    refine zkNil ?_
    exact endQ hS hQ (finL_n (by show keepSt _ _ _ _ = _; kernel_rfl))
  · replace hS := cond_f hc hS
    refine zrCondF (by kernel_rfl) ?_
    refine zrSkip ?_
    refine zkBlk ?_
    refine zkSeq ?_
    refine zrReg ?_
    refine zlRun (n := 2) (j := 2) rfl (by kernel_rfl) ?_
    refine zlEnd (by kernel_rfl) ?_
    refine zkNil ?_
    exact endQ hS hQ (finL_n (by show keepSt _ _ _ _ = _; kernel_rfl))
def f17_l0_j1_J (a1 : GMask) (p26 : Nat → UInt8) (p27 : Int) (p28 : Bool) : St := ⟨(up (up (up (up (fun _ => .un) 6 (.d (.bool p28))) 5 (.d (.int .i64 p27))) 3 (.r (.ptr 32 0 0))) 1 (.r (.ptr 16 0 0))), (up (up (hB fun _ => 0) 32 ⟨0, some (.box ((eU8.row 32 p26) ++ []))⟩) 16 ⟨0, some (.box (((eInt .u64).row 4 a1.Bits) ++ []))⟩)⟩
noncomputable def f17_l0_j1 (a1 : GMask) (p26 : Nat → UInt8) (p27 : Int) (p28 : Bool) : Option (((Nat → UInt8) × Int) ⊕ (((Nat → UInt8)))) := (bif p28 then (f17_l0_j2 a1 p26 p27) else (some (.inr p26)))
theorem f17_l0_j1_ok {d : Nat} (hd : 2 ≤ d) (a1 : GMask) {r : ((Nat → UInt8) × Int) ⊕ (((Nat → UInt8)))} {Q : PX → St → Prop} (hQ : ∀ e st', finL (f17_l0_H a1) (f17_l0_X a1) r e st' → Q e st') (p26 : Nat → UInt8) (p27 : Int) (p28 : Bool) (hS : f17_l0_j1 a1 p26 p27 p28 = some r) {st : St} (he : keepSt [1, 3, 5, 6] [(16, .id 16), (32, .id 32)] [] st = f17_l0_j1_J a1 p26 p27 p28) : ZR (lev codes baseL (d - 1)) Q c17_2 [] st := by
  refine zrKeep he ?_
  unfold f17_l0_j1 at hS
  refine zrSeq ?_
  refine zrSplit 6 p28 (by kernel_rfl) (fun hc => ?_) (fun hc => ?_)
  · replace hS := cond_t hc hS
    refine zrCondT (by kernel_rfl) ?_
    refine zrSkip ?_
    refine zkSeq ?_
    exact f17_l0_j2_ok hd a1 hQ p26 p27 hS (by kernel_rfl)
  · replace hS := cond_f hc hS
    refine zrCondF (by kernel_rfl) ?_
    refine zrKeep (J := f17_l0_e0_J a1 p26) (by kernel_rfl) ?_
    refine zrExit ?_
    refine zkSeqX ?_
    refine zkNil ?_
    exact endQ hS hQ (finL_x (by intro h; cases h) (by show _ = _ ∧ _ = _; exact ⟨rfl, rfl⟩))
noncomputable def f17_l0 (a1 : GMask) (x : (Nat → UInt8) × Int) : Option (((Nat → UInt8) × Int) ⊕ (((Nat → UInt8)))) := (bif (decide (x.2 < 256)) then (f17_l0_j1 a1 x.1 x.2 true) else (f17_l0_j1 a1 x.1 x.2 false))
theorem f17_l0_ok {d : Nat} (hd : 2 ≤ d) (a1 : GMask) {r : ((Nat → UInt8) × Int) ⊕ (((Nat → UInt8)))} {Q : PX → St → Prop} (hQ : ∀ e st', finL (f17_l0_H a1) (f17_l0_X a1) r e st' → Q e st') {x : (Nat → UInt8) × Int} (hS : f17_l0 a1 x = some r) {st : St} (he : f17_l0_H a1 x st) : ZR (lev codes baseL (d - 1)) Q c17_3 [] st := by
  refine zrKeep he ?_
  unfold f17_l0 at hS
  refine zrSeq ?_
  refine zrReg ?_
  refine zlBool (d := 6) (op := (.cmpI .lss (.tmp 5) (.const (.int .i64 256)))) (g := none) (j := 1) (decide (x.2 < 256)) rfl (by kernel_rfl) (by kernel_rfl) (by kernel_rfl) (fun hc => ?_) (fun hc => ?_)
  · replace hS := cond_t hc hS
    refine zlEnd (by kernel_rfl) ?_
    refine zkSeq ?_
    exact f17_l0_j1_ok hd a1 hQ x.1 x.2 true hS (by kernel_rfl)
  · replace hS := cond_f hc hS
    refine zlEnd (by kernel_rfl) ?_
    refine zkSeq ?_
    exact f17_l0_j1_ok hd a1 hQ x.1 x.2 false hS (by kernel_rfl)
noncomputable def f17 (a1 : GMask) : Option ((List UInt8)) := ((loopO (f17_l0 a1) ((fun _ => 0), 0)).bind fun z19 => ((libTrimRight ((List.range 32).map z19) [0]).bind fun z20 => (some z20)))
theorem f17_ok (d : Nat) (hd : 2 ≤ d) (a1 : GMask) (r : (List UInt8)) (hS : f17 a1 = some r) : lev codes baseL d 17 [(.agg (((eInt .u64).row 4 a1.Bits) ++ []))] [] = some ((.d (.str r)), []) := by
  refine lev_go codes17 rfl rfl (Nat.le_trans (Nat.le_of_ble_eq_true rfl) hd) fun Q hQ => ?_
  unfold f17 at hS
  show ZR _ Q c17_b [] _
  replace hQ : ∀ e st', f17_Q r e st' → Q e st' := hQ
  refine zrSeq ?_
  refine zrReg ?_
  refine zlRun (n := 2) (j := 2) rfl (by kernel_rfl) ?_
  refine zlEnd (by kernel_rfl) ?_
  refine zkSeq ?_
  refine zrSeq ?_
  refine zrReg ?_
  refine zlRun (n := 1) (j := 1) rfl (by kernel_rfl) ?_
  refine zlEnd (by kernel_rfl) ?_
  refine zkSeq ?_
  refine zrSeq ?_
  refine zrSeq ?_
  refine zrReg ?_
  refine zlRun (n := 1) (j := 1) rfl (by kernel_rfl) ?_
  refine zlEnd (by kernel_rfl) ?_
  refine zkSeq ?_
  refine zrBlk ?_
  refine bindE hS (fun z19 hz19 hS => ?_)
  refine zrLoop (f17_l0_H a1) (f17_l0_X a1) (fun x st r Q h0 hS hQ => f17_l0_ok hd a1 hQ hS h0) (x := ((fun _ => 0), 0)) (z := z19) (by show keepSt _ _ _ _ = _; kernel_rfl) hz19 ?_
  intro e st' _ hX
  obtain ⟨rfl, rfl⟩ : _ ∧ _ := hX
  refine zkBlkX ?_
  refine zkSeq ?_
  refine zrSeq ?_
  refine zrReg ?_
  refine zlRun (n := 1) (j := 1) rfl (by kernel_rfl) ?_
  refine zlOp (d := some 23) (op := (.cvBS (.tmp 22))) (g := none) (v := (.d (.str ((List.range 32).map z19)))) (ups := []) (j := 2) rfl (by kernel_rfl) (by kernel_rfl) (ev_cvBS (s := ((List.range 32).map z19)) ((congrArg (asL _) (by kernel_rfl : ρof _ (.tmp 22) = (.d (.sl ((List.range 32).map z19).length (eU8.cells ((List.range 32).map z19)))))).trans (as_d _ _)) rfl) ?_
  refine bindE hS (fun z20 hz20 hS => ?_)
  refine zlOp (d := some 24) (op := (.call 21 [(.tmp 23), (.const (.string ⟨#[0]⟩))])) (g := none) (v := (.d (.str z20))) (ups := []) (j := 3) rfl (by kernel_rfl) (by kernel_rfl) (ev_call (args := [(.d (.str ((List.range 32).map z19))), (.d (.str ([0])))]) (l := [(.d (.str ((List.range 32).map z19))), (.d (.str ([0])))]) (r := (.d (.str z20))) (by kernel_rfl) (by kernel_rfl) (libTrimRight_ok (d - 1) (dpt hd rfl) ((List.range 32).map z19) [0] z20 hz20) (by kernel_rfl) (by kernel_rfl) (by kernel_rfl)) ?_
  refine zlRun (n := 1) (j := 4) rfl (by kernel_rfl) ?_
  refine zlEnd (by kernel_rfl) ?_
  refine zkSeq ?_
  refine zrRet ?_
  refine zkNil ?_
  exact endQ hS hQ (fRet ((congrArg (fun s => outR s 0 c17.res) (by kernel_rfl : finSt c17.fin _ = f17_fin z20)).trans (f17_out z20)))
/- farwriter/farkeep.maskLives -/
def f14_fin (p3 : Bool) : St := ⟨(up (fun _ => .un) 0 (.d (.bool p3))), (hB fun _ => 0)⟩
theorem f14_out (p3 : Bool) : outR (f14_fin p3) 0 c14.res = some ((.d (.bool p3)), []) := by
  kernel_rfl
def f14_Q (r : Bool) (e : PX) (st : St) : Prop := DoneF c14 0 ((.d (.bool r)), []) e st
noncomputable def f14  : Option (Bool) := ((f12 [1, 10]).bind fun z5 => ((f17 z5).bind fun z6 => (bif (decide (z6 = ([64, 32] : List UInt8))) then ((f15 z5 (10 : UInt8)).bind fun z7 => (bif z7 then ((f15 z5 (2 : UInt8)).bind fun z8 => (some (!z8))) else (some false))) else (some false))))
theorem f14_ok (d : Nat) (hd : 3 ≤ d)  (r : Bool) (hS : f14 = some r) : lev codes baseL d 14 [] [] = some ((.d (.bool r)), []) := by
  refine lev_go codes14 rfl rfl (Nat.le_trans (Nat.le_of_ble_eq_true rfl) hd) fun Q hQ => ?_
  unfold f14 at hS
  show ZR _ Q c14_b [] _
  replace hQ : ∀ e st', f14_Q r e st' → Q e st' := hQ
  refine zrSeq ?_
  refine zrReg ?_
  refine zlRun (n := 1) (j := 1) rfl (by kernel_rfl) ?_
  refine zlEnd (by kernel_rfl) ?_
  refine zkSeq ?_
  refine zrSeq ?_
  refine zrReg ?_
  refine bindE hS (fun z5 hz5 hS => ?_)
  refine zlOp (d := some 2) (op := (.call 12 [(.const (.string ⟨#[1, 10]⟩))])) (g := none) (v := (.agg (((eInt .u64).row 4 z5.Bits) ++ []))) (ups := []) (j := 1) rfl (by kernel_rfl) (by kernel_rfl) (ev_call (args := [(.d (.str ([1, 10])))]) (l := [(.d (.str ([1, 10])))]) (r := (.agg (((eInt .u64).row 4 z5.Bits) ++ []))) (by kernel_rfl) (by kernel_rfl) (f12_ok (d - 1) (dpt hd rfl) [1, 10] z5 hz5) (by kernel_rfl) (by kernel_rfl) (by kernel_rfl)) ?_
  refine zlRun (n := 2) (j := 3) rfl (by kernel_rfl) ?_
  refine zlEnd (by kernel_rfl) ?_
  refine zkSeq ?_
  refine zrSeq ?_
  refine zrReg ?_
  refine zlRun (n := 1) (j := 1) rfl (by kernel_rfl) ?_
  refine bindE hS (fun z6 hz6 hS => ?_)
  refine zlOp (d := some 4) (op := (.call 17 [(.tmp 3)])) (g := none) (v := (.d (.str z6))) (ups := []) (j := 2) rfl (by kernel_rfl) (by kernel_rfl) (ev_call (args := [(.agg (((eInt .u64).row 4 z5.Bits) ++ []))]) (l := [(.agg (((eInt .u64).row 4 z5.Bits) ++ []))]) (r := (.d (.str z6))) (by kernel_rfl) (by kernel_rfl) (f17_ok (d - 1) (dpt hd rfl) z5 z6 hz6) (by kernel_rfl) (by kernel_rfl) (by kernel_rfl)) ?_
  refine zlBool (d := 5) (op := (.strO .eql (.tmp 4) (.const (.string ⟨#[64, 32]⟩)))) (g := none) (j := 3) (decide (z6 = ([64, 32] : List UInt8))) rfl (by kernel_rfl) (by kernel_rfl) (by kernel_rfl) (fun hc => ?_) (fun hc => ?_)
  · replace hS := cond_t hc hS
    refine zlRun (n := 2) (j := 5) rfl (by kernel_rfl) ?_
    refine bindE hS (fun z7 hz7 hS => ?_)
    refine zlOp (d := some 8) (op := (.call 15 [(.tmp 7), (.const (.int .u8 10))])) (g := (some (6, true))) (v := (.d (.bool z7))) (ups := []) (j := 6) rfl (by kernel_rfl) (by kernel_rfl) (ev_call (args := [(.agg (((eInt .u64).row 4 z5.Bits) ++ [])), (.d (.int .u8 10))]) (l := [(.agg (((eInt .u64).row 4 z5.Bits) ++ [])), (.d (.int .u8 10))]) (r := (.d (.bool z7))) (by kernel_rfl) (by kernel_rfl) (f15_ok (d - 1) (dpt hd rfl) z5 (10 : UInt8) z7 hz7) (by kernel_rfl) (by kernel_rfl) (by kernel_rfl)) ?_
    refine zlRun (n := 2) (j := 8) rfl (by kernel_rfl) ?_
    refine zlSplit 10 z7 (by kernel_rfl) (fun hc => ?_) (fun hc => ?_)
    · replace hS := cond_t hc hS
      refine zlRun (n := 1) (j := 9) rfl (by kernel_rfl) ?_
      refine bindE hS (fun z8 hz8 hS => ?_)
      refine zlOp (d := some 12) (op := (.call 15 [(.tmp 11), (.const (.int .u8 2))])) (g := (some (10, true))) (v := (.d (.bool z8))) (ups := []) (j := 10) rfl (by kernel_rfl) (by kernel_rfl) (ev_call (args := [(.agg (((eInt .u64).row 4 z5.Bits) ++ [])), (.d (.int .u8 2))]) (l := [(.agg (((eInt .u64).row 4 z5.Bits) ++ [])), (.d (.int .u8 2))]) (r := (.d (.bool z8))) (by kernel_rfl) (by kernel_rfl) (f15_ok (d - 1) (dpt hd rfl) z5 (2 : UInt8) z8 hz8) (by kernel_rfl) (by kernel_rfl) (by kernel_rfl)) ?_
      refine zlRun (n := 3) (j := 13) rfl (by kernel_rfl) ?_
      refine zlEnd (by kernel_rfl) ?_
      refine zkSeq ?_
      refine zrRet ?_
      refine zkNil ?_
      exact endQ hS hQ (fRet ((congrArg (fun s => outR s 0 c14.res) (by kernel_rfl : finSt c14.fin _ = f14_fin (!z8))).trans (f14_out (!z8))))
    · replace hS := cond_f hc hS
      refine zlRun (n := 5) (j := 13) rfl (by kernel_rfl) ?_
      refine zlEnd (by kernel_rfl) ?_
      refine zkSeq ?_
      refine zrRet ?_
      refine zkNil ?_
      exact endQ hS hQ (fRet ((congrArg (fun s => outR s 0 c14.res) (by kernel_rfl : finSt c14.fin _ = f14_fin false)).trans (f14_out false)))
  · replace hS := cond_f hc hS
    refine zlRun (n := 10) (j := 13) rfl (by kernel_rfl) ?_
    refine zlEnd (by kernel_rfl) ?_
    refine zkSeq ?_
    refine zrRet ?_
    refine zkNil ?_
    exact endQ hS hQ (fRet ((congrArg (fun s => outR s 0 c14.res) (by kernel_rfl : finSt c14.fin _ = f14_fin false)).trans (f14_out false)))
/- strings.Contains -/
theorem libContains_ok (d : Nat) (hd : 0 ≤ d) (a1 : List UInt8) (a2 : List UInt8) (r : Bool) (hS : libContains a1 a2 = some r) : lev codes baseL d 16 [(.d (.str a1)), (.d (.str a2))] [] = some ((.d (.bool r)), []) := lib_call (l := libs) rfl rfl (ossB_ hS) d
/- farwriter/farkeep.MaskSets -/
def f3_fin (p39 : Bool) : St := ⟨(up (fun _ => .un) 6 (.d (.bool p39))), (hB fun _ => 0)⟩
theorem f3_out (p39 : Bool) : outR (f3_fin p39) 0 c3.res = some ((.d (.bool p39)), []) := by
  kernel_rfl
def f3_Q (r : Bool) (e : PX) (st : St) : Prop := DoneF c3 0 ((.d (.bool r)), []) e st
def f3_j0_J (a1 : List UInt8) (a2 : List UInt8) (a3 : UInt8) (p72 : GMask) (p73 : List UInt8) : St := ⟨(up (up (up (up (up (fun _ => .un) 8 (.d (.str p73))) 7 (.r (.ptr 64 0 0))) 2 (.d (.int .u8 (a3.toNat : Int)))) 1 (.d (.str a2))) 0 (.d (.str a1))), (up (hB fun _ => 0) 64 ⟨0, some (.box (((eInt .u64).row 4 p72.Bits) ++ []))⟩)⟩
noncomputable def f3_j0 (a1 : List UInt8) (a2 : List UInt8) (a3 : UInt8) (p72 : GMask) (p73 : List UInt8) : Option (Bool) := (f14.bind fun z31 => (bif z31 then ((f15 p72 a3).bind fun z32 => ((f12 a1).bind fun z33 => ((f15 z33 a3).bind fun z34 => (bif z34 then (bif (decide (z32 = true)) then ((f15 p72 a3).bind fun z35 => ((libContains p73 ([a3] : List UInt8)).bind fun z36 => (bif (decide (z35 = z36)) then (some true) else (some false)))) else (some false)) else ((f12 a2).bind fun z37 => ((f15 z37 a3).bind fun z38 => (bif (decide (z32 = z38)) then ((f15 p72 a3).bind fun z39 => ((libContains p73 ([a3] : List UInt8)).bind fun z40 => (bif (decide (z39 = z40)) then (some true) else (some false)))) else (some false)))))))) else (some false)))
theorem f3_j0_ok {d : Nat} (hd : 4 ≤ d) (a1 : List UInt8) (a2 : List UInt8) (a3 : UInt8) {r : Bool} {Q : PX → St → Prop} (hQ : ∀ e st', f3_Q r e st' → Q e st') (p72 : GMask) (p73 : List UInt8) (hS : f3_j0 a1 a2 a3 p72 p73 = some r) {st : St} (he : keepSt [0, 1, 2, 7, 8] [(64, .id 64)] [] st = f3_j0_J a1 a2 a3 p72 p73) : ZR (lev codes baseL (d - 1)) Q c3_1 [] st := by
  refine zrKeep he ?_
  unfold f3_j0 at hS
  refine zrSeq ?_
  refine zrRegD ?_
  refine bindE hS (fun z31 hz31 hS => ?_)
  refine zdOp (d := some 30) (op := (.call 14 [])) (g := none) (v := (.d (.bool z31))) (ups := []) (j := 1) (t1 := [(248, true), (249, true), (250, true), (251, true), (252, true), (253, true), (254, true), (255, true)]) (acc' := [[(248, true), (249, true), (250, true), (251, true), (252, true), (253, true), (254, true), (255, true)]]) (by kernel_rfl) (by kernel_rfl) rfl (by kernel_rfl) (by kernel_rfl) (ev_call (args := []) (l := []) (r := (.d (.bool z31))) (by kernel_rfl) (by kernel_rfl) (f14_ok (d - 1) (dpt hd rfl)  z31 hz31) (by kernel_rfl) (by kernel_rfl) (by kernel_rfl)) ?_
  refine zdRun (n := 1) (j := 2) (ts := [[]]) (acc' := [[(248, true), (249, true), (250, true), (251, true), (252, true), (253, true), (254, true), (255, true)], []]) rfl (by kernel_rfl) (by kernel_rfl) (by kernel_rfl) ?_
  refine zdSplit 31 z31 (by kernel_rfl) (fun hc => ?_) (fun hc => ?_)
  · replace hS := cond_t hc hS
    refine zdRun (n := 2) (j := 4) (ts := [[(64, false)], []]) (acc' := [[(248, true), (249, true), (250, true), (251, true), (252, true), (253, true), (254, true), (255, true)], [], [(64, false)], []]) rfl (by kernel_rfl) (by kernel_rfl) (by kernel_rfl) ?_
    refine bindE hS (fun z32 hz32 hS => ?_)
    refine zdOp (d := some 34) (op := (.call 15 [(.tmp 32), (.tmp 33)])) (g := (some (31, true))) (v := (.d (.bool z32))) (ups := []) (j := 5) (t1 := [(280, true), (281, true), (282, true), (283, true), (284, true), (285, true), (286, true), (287, true)]) (acc' := [[(248, true), (249, true), (250, true), (251, true), (252, true), (253, true), (254, true), (255, true)], [], [(64, false)], [], [(280, true), (281, true), (282, true), (283, true), (284, true), (285, true), (286, true), (287, true)]]) (by kernel_rfl) (by kernel_rfl) rfl (by kernel_rfl) (by kernel_rfl) (ev_call (args := [(.agg (((eInt .u64).row 4 p72.Bits) ++ [])), (.d (.int .u8 (a3.toNat : Int)))]) (l := [(.agg (((eInt .u64).row 4 p72.Bits) ++ [])), (.d (.int .u8 (a3.toNat : Int)))]) (r := (.d (.bool z32))) (by kernel_rfl) (by kernel_rfl) (f15_ok (d - 1) (dpt hd rfl) p72 a3 z32 hz32) (by kernel_rfl) (by kernel_rfl) (by kernel_rfl)) ?_
    refine zdRun (n := 1) (j := 6) (ts := [[]]) (acc' := [[(248, true), (249, true), (250, true), (251, true), (252, true), (253, true), (254, true), (255, true)], [], [(64, false)], [], [(280, true), (281, true), (282, true), (283, true), (284, true), (285, true), (286, true), (287, true)], []]) rfl (by kernel_rfl) (by kernel_rfl) (by kernel_rfl) ?_
    refine bindE hS (fun z33 hz33 hS => ?_)
    refine zdOp (d := some 36) (op := (.call 12 [(.tmp 35)])) (g := (some (31, true))) (v := (.agg (((eInt .u64).row 4 z33.Bits) ++ []))) (ups := []) (j := 7) (t1 := [(296, true), (297, true), (298, true), (299, true), (300, true), (301, true), (302, true), (303, true)]) (acc' := [[(248, true), (249, true), (250, true), (251, true), (252, true), (253, true), (254, true), (255, true)], [], [(64, false)], [], [(280, true), (281, true), (282, true), (283, true), (284, true), (285, true), (286, true), (287, true)], [], [(296, true), (297, true), (298, true), (299, true), (300, true), (301, true), (302, true), (303, true)]]) (by kernel_rfl) (by kernel_rfl) rfl (by kernel_rfl) (by kernel_rfl) (ev_call (args := [(.d (.str a1))]) (l := [(.d (.str a1))]) (r := (.agg (((eInt .u64).row 4 z33.Bits) ++ []))) (by kernel_rfl) (by kernel_rfl) (f12_ok (d - 1) (dpt hd rfl) a1 z33 hz33) (by kernel_rfl) (by kernel_rfl) (by kernel_rfl)) ?_
    refine zdRun (n := 1) (j := 8) (ts := [[]]) (acc' := [[(248, true), (249, true), (250, true), (251, true), (252, true), (253, true), (254, true), (255, true)], [], [(64, false)], [], [(280, true), (281, true), (282, true), (283, true), (284, true), (285, true), (286, true), (287, true)], [], [(296, true), (297, true), (298, true), (299, true), (300, true), (301, true), (302, true), (303, true)], []]) rfl (by kernel_rfl) (by kernel_rfl) (by kernel_rfl) ?_
    refine bindE hS (fun z34 hz34 hS => ?_)
    refine zdOp (d := some 38) (op := (.call 15 [(.tmp 36), (.tmp 37)])) (g := (some (31, true))) (v := (.d (.bool z34))) (ups := []) (j := 9) (t1 := [(312, true), (313, true), (314, true), (315, true), (316, true), (317, true), (318, true), (319, true)]) (acc' := [[(248, true), (249, true), (250, true), (251, true), (252, true), (253, true), (254, true), (255, true)], [], [(64, false)], [], [(280, true), (281, true), (282, true), (283, true), (284, true), (285, true), (286, true), (287, true)], [], [(296, true), (297, true), (298, true), (299, true), (300, true), (301, true), (302, true), (303, true)], [], [(312, true), (313, true), (314, true), (315, true), (316, true), (317, true), (318, true), (319, true)]]) (by kernel_rfl) (by kernel_rfl) rfl (by kernel_rfl) (by kernel_rfl) (ev_call (args := [(.agg (((eInt .u64).row 4 z33.Bits) ++ [])), (.d (.int .u8 (a3.toNat : Int)))]) (l := [(.agg (((eInt .u64).row 4 z33.Bits) ++ [])), (.d (.int .u8 (a3.toNat : Int)))]) (r := (.d (.bool z34))) (by kernel_rfl) (by kernel_rfl) (f15_ok (d - 1) (dpt hd rfl) z33 a3 z34 hz34) (by kernel_rfl) (by kernel_rfl) (by kernel_rfl)) ?_
    refine zdRun (n := 1) (j := 10) (ts := [[]]) (acc' := [[(248, true), (249, true), (250, true), (251, true), (252, true), (253, true), (254, true), (255, true)], [], [(64, false)], [], [(280, true), (281, true), (282, true), (283, true), (284, true), (285, true), (286, true), (287, true)], [], [(296, true), (297, true), (298, true), (299, true), (300, true), (301, true), (302, true), (303, true)], [], [(312, true), (313, true), (314, true), (315, true), (316, true), (317, true), (318, true), (319, true)], []]) rfl (by kernel_rfl) (by kernel_rfl) (by kernel_rfl) ?_
    refine zdSplit 39 z34 (by kernel_rfl) (fun hc => ?_) (fun hc => ?_)
    · replace hS := cond_t hc hS
      refine zdRun (n := 5) (j := 15) (ts := [[], [], [], [], []]) (acc' := [[(248, true), (249, true), (250, true), (251, true), (252, true), (253, true), (254, true), (255, true)], [], [(64, false)], [], [(280, true), (281, true), (282, true), (283, true), (284, true), (285, true), (286, true), (287, true)], [], [(296, true), (297, true), (298, true), (299, true), (300, true), (301, true), (302, true), (303, true)], [], [(312, true), (313, true), (314, true), (315, true), (316, true), (317, true), (318, true), (319, true)], [], [], [], [], [], []]) rfl (by kernel_rfl) (by kernel_rfl) (by kernel_rfl) ?_
      refine zdBool (d := 45) (op := (.eqB .false (.tmp 34) (.tmp 44))) (g := (some (31, true))) (j := 16) (t1 := []) (acc' := [[(248, true), (249, true), (250, true), (251, true), (252, true), (253, true), (254, true), (255, true)], [], [(64, false)], [], [(280, true), (281, true), (282, true), (283, true), (284, true), (285, true), (286, true), (287, true)], [], [(296, true), (297, true), (298, true), (299, true), (300, true), (301, true), (302, true), (303, true)], [], [(312, true), (313, true), (314, true), (315, true), (316, true), (317, true), (318, true), (319, true)], [], [], [], [], [], [], []]) (decide (z32 = true)) (by kernel_rfl) (by kernel_rfl) rfl (by kernel_rfl) (by kernel_rfl) (by kernel_rfl) (fun hc => ?_) (fun hc => ?_)
      · replace hS := cond_t hc hS
        refine zdRun (n := 4) (j := 20) (ts := [[], [], [(64, false)], []]) (acc' := [[(248, true), (249, true), (250, true), (251, true), (252, true), (253, true), (254, true), (255, true)], [], [(64, false)], [], [(280, true), (281, true), (282, true), (283, true), (284, true), (285, true), (286, true), (287, true)], [], [(296, true), (297, true), (298, true), (299, true), (300, true), (301, true), (302, true), (303, true)], [], [(312, true), (313, true), (314, true), (315, true), (316, true), (317, true), (318, true), (319, true)], [], [], [], [], [], [], [], [], [], [(64, false)], []]) rfl (by kernel_rfl) (by kernel_rfl) (by kernel_rfl) ?_
        refine bindE hS (fun z35 hz35 hS => ?_)
        refine zdOp (d := some 50) (op := (.call 15 [(.tmp 48), (.tmp 49)])) (g := (some (47, true))) (v := (.d (.bool z35))) (ups := []) (j := 21) (t1 := [(408, true), (409, true), (410, true), (411, true), (412, true), (413, true), (414, true), (415, true)]) (acc' := [[(248, true), (249, true), (250, true), (251, true), (252, true), (253, true), (254, true), (255, true)], [], [(64, false)], [], [(280, true), (281, true), (282, true), (283, true), (284, true), (285, true), (286, true), (287, true)], [], [(296, true), (297, true), (298, true), (299, true), (300, true), (301, true), (302, true), (303, true)], [], [(312, true), (313, true), (314, true), (315, true), (316, true), (317, true), (318, true), (319, true)], [], [], [], [], [], [], [], [], [], [(64, false)], [], [(408, true), (409, true), (410, true), (411, true), (412, true), (413, true), (414, true), (415, true)]]) (by kernel_rfl) (by kernel_rfl) rfl (by kernel_rfl) (by kernel_rfl) (ev_call (args := [(.agg (((eInt .u64).row 4 p72.Bits) ++ [])), (.d (.int .u8 (a3.toNat : Int)))]) (l := [(.agg (((eInt .u64).row 4 p72.Bits) ++ [])), (.d (.int .u8 (a3.toNat : Int)))]) (r := (.d (.bool z35))) (by kernel_rfl) (by kernel_rfl) (f15_ok (d - 1) (dpt hd rfl) p72 a3 z35 hz35) (by kernel_rfl) (by kernel_rfl) (by kernel_rfl)) ?_
        refine zdRun (n := 3) (j := 24) (ts := [[], [], [(432, true)]]) (acc' := [[(248, true), (249, true), (250, true), (251, true), (252, true), (253, true), (254, true), (255, true)], [], [(64, false)], [], [(280, true), (281, true), (282, true), (283, true), (284, true), (285, true), (286, true), (287, true)], [], [(296, true), (297, true), (298, true), (299, true), (300, true), (301, true), (302, true), (303, true)], [], [(312, true), (313, true), (314, true), (315, true), (316, true), (317, true), (318, true), (319, true)], [], [], [], [], [], [], [], [], [], [(64, false)], [], [(408, true), (409, true), (410, true), (411, true), (412, true), (413, true), (414, true), (415, true)], [], [], [(432, true)]]) rfl (by kernel_rfl) (by kernel_rfl) (by kernel_rfl) ?_
        refine zdOp (d := some 54) (op := (.cvBS (.tmp 53))) (g := (some (47, true))) (v := (.d (.str ([a3] : List UInt8)))) (ups := []) (j := 25) (t1 := [(432, false)]) (acc' := [[(248, true), (249, true), (250, true), (251, true), (252, true), (253, true), (254, true), (255, true)], [], [(64, false)], [], [(280, true), (281, true), (282, true), (283, true), (284, true), (285, true), (286, true), (287, true)], [], [(296, true), (297, true), (298, true), (299, true), (300, true), (301, true), (302, true), (303, true)], [], [(312, true), (313, true), (314, true), (315, true), (316, true), (317, true), (318, true), (319, true)], [], [], [], [], [], [], [], [], [], [(64, false)], [], [(408, true), (409, true), (410, true), (411, true), (412, true), (413, true), (414, true), (415, true)], [], [], [(432, true)], [(432, false)]]) (by kernel_rfl) (by kernel_rfl) rfl (by kernel_rfl) (by kernel_rfl) (ev_cvBS (s := [a3]) ((congrArg (asL _) (by kernel_rfl : ρof _ (.tmp 53) = (.r (.msl 432 1 0 (([a3] : List UInt8).length))))).trans (as_whole eU8 (e := 5) (k := 1) (xs := [a3]) (by kernel_rfl) rfl rfl)) rfl) ?_
        refine bindE hS (fun z36 hz36 hS => ?_)
        refine zdOp (d := some 55) (op := (.call 16 [(.tmp 51), (.tmp 54)])) (g := (some (47, true))) (v := (.d (.bool z36))) (ups := []) (j := 26) (t1 := [(448, true), (449, true), (450, true), (451, true), (452, true), (453, true), (454, true), (455, true)]) (acc' := [[(248, true), (249, true), (250, true), (251, true), (252, true), (253, true), (254, true), (255, true)], [], [(64, false)], [], [(280, true), (281, true), (282, true), (283, true), (284, true), (285, true), (286, true), (287, true)], [], [(296, true), (297, true), (298, true), (299, true), (300, true), (301, true), (302, true), (303, true)], [], [(312, true), (313, true), (314, true), (315, true), (316, true), (317, true), (318, true), (319, true)], [], [], [], [], [], [], [], [], [], [(64, false)], [], [(408, true), (409, true), (410, true), (411, true), (412, true), (413, true), (414, true), (415, true)], [], [], [(432, true)], [(432, false)], [(448, true), (449, true), (450, true), (451, true), (452, true), (453, true), (454, true), (455, true)]]) (by kernel_rfl) (by kernel_rfl) rfl (by kernel_rfl) (by kernel_rfl) (ev_call (args := [(.d (.str p73)), (.d (.str ([a3] : List UInt8)))]) (l := [(.d (.str p73)), (.d (.str ([a3] : List UInt8)))]) (r := (.d (.bool z36))) (by kernel_rfl) (by kernel_rfl) (libContains_ok (d - 1) (dpt hd rfl) p73 ([a3] : List UInt8) z36 hz36) (by kernel_rfl) (by kernel_rfl) (by kernel_rfl)) ?_
        refine zdBool (d := 56) (op := (.eqB .false (.tmp 50) (.tmp 55))) (g := (some (47, true))) (j := 27) (t1 := []) (acc' := [[(248, true), (249, true), (250, true), (251, true), (252, true), (253, true), (254, true), (255, true)], [], [(64, false)], [], [(280, true), (281, true), (282, true), (283, true), (284, true), (285, true), (286, true), (287, true)], [], [(296, true), (297, true), (298, true), (299, true), (300, true), (301, true), (302, true), (303, true)], [], [(312, true), (313, true), (314, true), (315, true), (316, true), (317, true), (318, true), (319, true)], [], [], [], [], [], [], [], [], [], [(64, false)], [], [(408, true), (409, true), (410, true), (411, true), (412, true), (413, true), (414, true), (415, true)], [], [], [(432, true)], [(432, false)], [(448, true), (449, true), (450, true), (451, true), (452, true), (453, true), (454, true), (455, true)], []]) (decide (z35 = z36)) (by kernel_rfl) (by kernel_rfl) rfl (by kernel_rfl) (by kernel_rfl) (by kernel_rfl) (fun hc => ?_) (fun hc => ?_)
        · replace hS := cond_t hc hS
          refine zdRun (n := 2) (j := 29) (ts := [[], []]) (acc' := [[(248, true), (249, true), (250, true), (251, true), (252, true), (253, true), (254, true), (255, true)], [], [(64, false)], [], [(280, true), (281, true), (282, true), (283, true), (284, true), (285, true), (286, true), (287, true)], [], [(296, true), (297, true), (298, true), (299, true), (300, true), (301, true), (302, true), (303, true)], [], [(312, true), (313, true), (314, true), (315, true), (316, true), (317, true), (318, true), (319, true)], [], [], [], [], [], [], [], [], [], [(64, false)], [], [(408, true), (409, true), (410, true), (411, true), (412, true), (413, true), (414, true), (415, true)], [], [], [(432, true)], [(432, false)], [(448, true), (449, true), (450, true), (451, true), (452, true), (453, true), (454, true), (455, true)], [], [], []]) rfl (by kernel_rfl) (by kernel_rfl) (by kernel_rfl) ?_
          refine zdEnd (by kernel_rfl) (by kernel_rfl) ?_
          refine zkSeq ?_
          refine zrRet ?_
          refine zkNil ?_
          exact endQ hS hQ (fRet ((congrArg (fun s => outR s 0 c3.res) (by kernel_rfl : finSt c3.fin _ = f3_fin true)).trans (f3_out true)))
        · replace hS := cond_f hc hS
          refine zdRun (n := 2) (j := 29) (ts := [[], []]) (acc' := [[(248, true), (249, true), (250, true), (251, true), (252, true), (253, true), (254, true), (255, true)], [], [(64, false)], [], [(280, true), (281, true), (282, true), (283, true), (284, true), (285, true), (286, true), (287, true)], [], [(296, true), (297, true), (298, true), (299, true), (300, true), (301, true), (302, true), (303, true)], [], [(312, true), (313, true), (314, true), (315, true), (316, true), (317, true), (318, true), (319, true)], [], [], [], [], [], [], [], [], [], [(64, false)], [], [(408, true), (409, true), (410, true), (411, true), (412, true), (413, true), (414, true), (415, true)], [], [], [(432, true)], [(432, false)], [(448, true), (449, true), (450, true), (451, true), (452, true), (453, true), (454, true), (455, true)], [], [], []]) rfl (by kernel_rfl) (by kernel_rfl) (by kernel_rfl) ?_
          refine zdEnd (by kernel_rfl) (by kernel_rfl) ?_
          refine zkSeq ?_
          refine zrRet ?_
          refine zkNil ?_
          exact endQ hS hQ (fRet ((congrArg (fun s => outR s 0 c3.res) (by kernel_rfl : finSt c3.fin _ = f3_fin false)).trans (f3_out false)))
      · replace hS := cond_f hc hS
        refine zdRun (n := 13) (j := 29) (ts := [[], [], [], [], [], [], [], [], [], [], [], [], []]) (acc' := [[(248, true), (249, true), (250, true), (251, true), (252, true), (253, true), (254, true), (255, true)], [], [(64, false)], [], [(280, true), (281, true), (282, true), (283, true), (284, true), (285, true), (286, true), (287, true)], [], [(296, true), (297, true), (298, true), (299, true), (300, true), (301, true), (302, true), (303, true)], [], [(312, true), (313, true), (314, true), (315, true), (316, true), (317, true), (318, true), (319, true)], [], [], [], [], [], [], [], [], [], [], [], [], [], [], [], [], [], [], [], []]) rfl (by kernel_rfl) (by kernel_rfl) (by kernel_rfl) ?_
        refine zdEnd (by kernel_rfl) (by kernel_rfl) ?_
        refine zkSeq ?_
        refine zrRet ?_
        refine zkNil ?_
        exact endQ hS hQ (fRet ((congrArg (fun s => outR s 0 c3.res) (by kernel_rfl : finSt c3.fin _ = f3_fin false)).trans (f3_out false)))
    · replace hS := cond_f hc hS
      refine zdRun (n := 1) (j := 11) (ts := [[]]) (acc' := [[(248, true), (249, true), (250, true), (251, true), (252, true), (253, true), (254, true), (255, true)], [], [(64, false)], [], [(280, true), (281, true), (282, true), (283, true), (284, true), (285, true), (286, true), (287, true)], [], [(296, true), (297, true), (298, true), (299, true), (300, true), (301, true), (302, true), (303, true)], [], [(312, true), (313, true), (314, true), (315, true), (316, true), (317, true), (318, true), (319, true)], [], []]) rfl (by kernel_rfl) (by kernel_rfl) (by kernel_rfl) ?_
      refine bindE hS (fun z37 hz37 hS => ?_)
      refine zdOp (d := some 41) (op := (.call 12 [(.tmp 40)])) (g := (some (39, false))) (v := (.agg (((eInt .u64).row 4 z37.Bits) ++ []))) (ups := []) (j := 12) (t1 := [(336, true), (337, true), (338, true), (339, true), (340, true), (341, true), (342, true), (343, true)]) (acc' := [[(248, true), (249, true), (250, true), (251, true), (252, true), (253, true), (254, true), (255, true)], [], [(64, false)], [], [(280, true), (281, true), (282, true), (283, true), (284, true), (285, true), (286, true), (287, true)], [], [(296, true), (297, true), (298, true), (299, true), (300, true), (301, true), (302, true), (303, true)], [], [(312, true), (313, true), (314, true), (315, true), (316, true), (317, true), (318, true), (319, true)], [], [], [(336, true), (337, true), (338, true), (339, true), (340, true), (341, true), (342, true), (343, true)]]) (by kernel_rfl) (by kernel_rfl) rfl (by kernel_rfl) (by kernel_rfl) (ev_call (args := [(.d (.str a2))]) (l := [(.d (.str a2))]) (r := (.agg (((eInt .u64).row 4 z37.Bits) ++ []))) (by kernel_rfl) (by kernel_rfl) (f12_ok (d - 1) (dpt hd rfl) a2 z37 hz37) (by kernel_rfl) (by kernel_rfl) (by kernel_rfl)) ?_
      refine zdRun (n := 1) (j := 13) (ts := [[]]) (acc' := [[(248, true), (249, true), (250, true), (251, true), (252, true), (253, true), (254, true), (255, true)], [], [(64, false)], [], [(280, true), (281, true), (282, true), (283, true), (284, true), (285, true), (286, true), (287, true)], [], [(296, true), (297, true), (298, true), (299, true), (300, true), (301, true), (302, true), (303, true)], [], [(312, true), (313, true), (314, true), (315, true), (316, true), (317, true), (318, true), (319, true)], [], [], [(336, true), (337, true), (338, true), (339, true), (340, true), (341, true), (342, true), (343, true)], []]) rfl (by kernel_rfl) (by kernel_rfl) (by kernel_rfl) ?_
      refine bindE hS (fun z38 hz38 hS => ?_)
      refine zdOp (d := some 43) (op := (.call 15 [(.tmp 41), (.tmp 42)])) (g := (some (39, false))) (v := (.d (.bool z38))) (ups := []) (j := 14) (t1 := [(352, true), (353, true), (354, true), (355, true), (356, true), (357, true), (358, true), (359, true)]) (acc' := [[(248, true), (249, true), (250, true), (251, true), (252, true), (253, true), (254, true), (255, true)], [], [(64, false)], [], [(280, true), (281, true), (282, true), (283, true), (284, true), (285, true), (286, true), (287, true)], [], [(296, true), (297, true), (298, true), (299, true), (300, true), (301, true), (302, true), (303, true)], [], [(312, true), (313, true), (314, true), (315, true), (316, true), (317, true), (318, true), (319, true)], [], [], [(336, true), (337, true), (338, true), (339, true), (340, true), (341, true), (342, true), (343, true)], [], [(352, true), (353, true), (354, true), (355, true), (356, true), (357, true), (358, true), (359, true)]]) (by kernel_rfl) (by kernel_rfl) rfl (by kernel_rfl) (by kernel_rfl) (ev_call (args := [(.agg (((eInt .u64).row 4 z37.Bits) ++ [])), (.d (.int .u8 (a3.toNat : Int)))]) (l := [(.agg (((eInt .u64).row 4 z37.Bits) ++ [])), (.d (.int .u8 (a3.toNat : Int)))]) (r := (.d (.bool z38))) (by kernel_rfl) (by kernel_rfl) (f15_ok (d - 1) (dpt hd rfl) z37 a3 z38 hz38) (by kernel_rfl) (by kernel_rfl) (by kernel_rfl)) ?_
      refine zdRun (n := 1) (j := 15) (ts := [[]]) (acc' := [[(248, true), (249, true), (250, true), (251, true), (252, true), (253, true), (254, true), (255, true)], [], [(64, false)], [], [(280, true), (281, true), (282, true), (283, true), (284, true), (285, true), (286, true), (287, true)], [], [(296, true), (297, true), (298, true), (299, true), (300, true), (301, true), (302, true), (303, true)], [], [(312, true), (313, true), (314, true), (315, true), (316, true), (317, true), (318, true), (319, true)], [], [], [(336, true), (337, true), (338, true), (339, true), (340, true), (341, true), (342, true), (343, true)], [], [(352, true), (353, true), (354, true), (355, true), (356, true), (357, true), (358, true), (359, true)], []]) rfl (by kernel_rfl) (by kernel_rfl) (by kernel_rfl) ?_
      refine zdBool (d := 45) (op := (.eqB .false (.tmp 34) (.tmp 44))) (g := (some (31, true))) (j := 16) (t1 := []) (acc' := [[(248, true), (249, true), (250, true), (251, true), (252, true), (253, true), (254, true), (255, true)], [], [(64, false)], [], [(280, true), (281, true), (282, true), (283, true), (284, true), (285, true), (286, true), (287, true)], [], [(296, true), (297, true), (298, true), (299, true), (300, true), (301, true), (302, true), (303, true)], [], [(312, true), (313, true), (314, true), (315, true), (316, true), (317, true), (318, true), (319, true)], [], [], [(336, true), (337, true), (338, true), (339, true), (340, true), (341, true), (342, true), (343, true)], [], [(352, true), (353, true), (354, true), (355, true), (356, true), (357, true), (358, true), (359, true)], [], []]) (decide (z32 = z38)) (by kernel_rfl) (by kernel_rfl) rfl (by kernel_rfl) (by kernel_rfl) (by kernel_rfl) (fun hc => ?_) (fun hc => ?_)
      · replace hS := cond_t hc hS
        refine zdRun (n := 4) (j := 20) (ts := [[], [], [(64, false)], []]) (acc' := [[(248, true), (249, true), (250, true), (251, true), (252, true), (253, true), (254, true), (255, true)], [], [(64, false)], [], [(280, true), (281, true), (282, true), (283, true), (284, true), (285, true), (286, true), (287, true)], [], [(296, true), (297, true), (298, true), (299, true), (300, true), (301, true), (302, true), (303, true)], [], [(312, true), (313, true), (314, true), (315, true), (316, true), (317, true), (318, true), (319, true)], [], [], [(336, true), (337, true), (338, true), (339, true), (340, true), (341, true), (342, true), (343, true)], [], [(352, true), (353, true), (354, true), (355, true), (356, true), (357, true), (358, true), (359, true)], [], [], [], [], [(64, false)], []]) rfl (by kernel_rfl) (by kernel_rfl) (by kernel_rfl) ?_
        refine bindE hS (fun z39 hz39 hS => ?_)
        refine zdOp (d := some 50) (op := (.call 15 [(.tmp 48), (.tmp 49)])) (g := (some (47, true))) (v := (.d (.bool z39))) (ups := []) (j := 21) (t1 := [(408, true), (409, true), (410, true), (411, true), (412, true), (413, true), (414, true), (415, true)]) (acc' := [[(248, true), (249, true), (250, true), (251, true), (252, true), (253, true), (254, true), (255, true)], [], [(64, false)], [], [(280, true), (281, true), (282, true), (283, true), (284, true), (285, true), (286, true), (287, true)], [], [(296, true), (297, true), (298, true), (299, true), (300, true), (301, true), (302, true), (303, true)], [], [(312, true), (313, true), (314, true), (315, true), (316, true), (317, true), (318, true), (319, true)], [], [], [(336, true), (337, true), (338, true), (339, true), (340, true), (341, true), (342, true), (343, true)], [], [(352, true), (353, true), (354, true), (355, true), (356, true), (357, true), (358, true), (359, true)], [], [], [], [], [(64, false)], [], [(408, true), (409, true), (410, true), (411, true), (412, true), (413, true), (414, true), (415, true)]]) (by kernel_rfl) (by kernel_rfl) rfl (by kernel_rfl) (by kernel_rfl) (ev_call (args := [(.agg (((eInt .u64).row 4 p72.Bits) ++ [])), (.d (.int .u8 (a3.toNat : Int)))]) (l := [(.agg (((eInt .u64).row 4 p72.Bits) ++ [])), (.d (.int .u8 (a3.toNat : Int)))]) (r := (.d (.bool z39))) (by kernel_rfl) (by kernel_rfl) (f15_ok (d - 1) (dpt hd rfl) p72 a3 z39 hz39) (by kernel_rfl) (by kernel_rfl) (by kernel_rfl)) ?_
        refine zdRun (n := 3) (j := 24) (ts := [[], [], [(432, true)]]) (acc' := [[(248, true), (249, true), (250, true), (251, true), (252, true), (253, true), (254, true), (255, true)], [], [(64, false)], [], [(280, true), (281, true), (282, true), (283, true), (284, true), (285, true), (286, true), (287, true)], [], [(296, true), (297, true), (298, true), (299, true), (300, true), (301, true), (302, true), (303, true)], [], [(312, true), (313, true), (314, true), (315, true), (316, true), (317, true), (318, true), (319, true)], [], [], [(336, true), (337, true), (338, true), (339, true), (340, true), (341, true), (342, true), (343, true)], [], [(352, true), (353, true), (354, true), (355, true), (356, true), (357, true), (358, true), (359, true)], [], [], [], [], [(64, false)], [], [(408, true), (409, true), (410, true), (411, true), (412, true), (413, true), (414, true), (415, true)], [], [], [(432, true)]]) rfl (by kernel_rfl) (by kernel_rfl) (by kernel_rfl) ?_
        refine zdOp (d := some 54) (op := (.cvBS (.tmp 53))) (g := (some (47, true))) (v := (.d (.str ([a3] : List UInt8)))) (ups := []) (j := 25) (t1 := [(432, false)]) (acc' := [[(248, true), (249, true), (250, true), (251, true), (252, true), (253, true), (254, true), (255, true)], [], [(64, false)], [], [(280, true), (281, true), (282, true), (283, true), (284, true), (285, true), (286, true), (287, true)], [], [(296, true), (297, true), (298, true), (299, true), (300, true), (301, true), (302, true), (303, true)], [], [(312, true), (313, true), (314, true), (315, true), (316, true), (317, true), (318, true), (319, true)], [], [], [(336, true), (337, true), (338, true), (339, true), (340, true), (341, true), (342, true), (343, true)], [], [(352, true), (353, true), (354, true), (355, true), (356, true), (357, true), (358, true), (359, true)], [], [], [], [], [(64, false)], [], [(408, true), (409, true), (410, true), (411, true), (412, true), (413, true), (414, true), (415, true)], [], [], [(432, true)], [(432, false)]]) (by kernel_rfl) (by kernel_rfl) rfl (by kernel_rfl) (by kernel_rfl) (ev_cvBS (s := [a3]) ((congrArg (asL _) (by kernel_rfl : ρof _ (.tmp 53) = (.r (.msl 432 1 0 (([a3] : List UInt8).length))))).trans (as_whole eU8 (e := 5) (k := 1) (xs := [a3]) (by kernel_rfl) rfl rfl)) rfl) ?_
        refine bindE hS (fun z40 hz40 hS => ?_)
        refine zdOp (d := some 55) (op := (.call 16 [(.tmp 51), (.tmp 54)])) (g := (some (47, true))) (v := (.d (.bool z40))) (ups := []) (j := 26) (t1 := [(448, true), (449, true), (450, true), (451, true), (452, true), (453, true), (454, true), (455, true)]) (acc' := [[(248, true), (249, true), (250, true), (251, true), (252, true), (253, true), (254, true), (255, true)], [], [(64, false)], [], [(280, true), (281, true), (282, true), (283, true), (284, true), (285, true), (286, true), (287, true)], [], [(296, true), (297, true), (298, true), (299, true), (300, true), (301, true), (302, true), (303, true)], [], [(312, true), (313, true), (314, true), (315, true), (316, true), (317, true), (318, true), (319, true)], [], [], [(336, true), (337, true), (338, true), (339, true), (340, true), (341, true), (342, true), (343, true)], [], [(352, true), (353, true), (354, true), (355, true), (356, true), (357, true), (358, true), (359, true)], [], [], [], [], [(64, false)], [], [(408, true), (409, true), (410, true), (411, true), (412, true), (413, true), (414, true), (415, true)], [], [], [(432, true)], [(432, false)], [(448, true), (449, true), (450, true), (451, true), (452, true), (453, true), (454, true), (455, true)]]) (by kernel_rfl) (by kernel_rfl) rfl (by kernel_rfl) (by kernel_rfl) (ev_call (args := [(.d (.str p73)), (.d (.str ([a3] : List UInt8)))]) (l := [(.d (.str p73)), (.d (.str ([a3] : List UInt8)))]) (r := (.d (.bool z40))) (by kernel_rfl) (by kernel_rfl) (libContains_ok (d - 1) (dpt hd rfl) p73 ([a3] : List UInt8) z40 hz40) (by kernel_rfl) (by kernel_rfl) (by kernel_rfl)) ?_
        refine zdBool (d := 56) (op := (.eqB .false (.tmp 50) (.tmp 55))) (g := (some (47, true))) (j := 27) (t1 := []) (acc' := [[(248, true), (249, true), (250, true), (251, true), (252, true), (253, true), (254, true), (255, true)], [], [(64, false)], [], [(280, true), (281, true), (282, true), (283, true), (284, true), (285, true), (286, true), (287, true)], [], [(296, true), (297, true), (298, true), (299, true), (300, true), (301, true), (302, true), (303, true)], [], [(312, true), (313, true), (314, true), (315, true), (316, true), (317, true), (318, true), (319, true)], [], [], [(336, true), (337, true), (338, true), (339, true), (340, true), (341, true), (342, true), (343, true)], [], [(352, true), (353, true), (354, true), (355, true), (356, true), (357, true), (358, true), (359, true)], [], [], [], [], [(64, false)], [], [(408, true), (409, true), (410, true), (411, true), (412, true), (413, true), (414, true), (415, true)], [], [], [(432, true)], [(432, false)], [(448, true), (449, true), (450, true), (451, true), (452, true), (453, true), (454, true), (455, true)], []]) (decide (z39 = z40)) (by kernel_rfl) (by kernel_rfl) rfl (by kernel_rfl) (by kernel_rfl) (by kernel_rfl) (fun hc => ?_) (fun hc => ?_)
        · replace hS := cond_t hc hS
          refine zdRun (n := 2) (j := 29) (ts := [[], []]) (acc' := [[(248, true), (249, true), (250, true), (251, true), (252, true), (253, true), (254, true), (255, true)], [], [(64, false)], [], [(280, true), (281, true), (282, true), (283, true), (284, true), (285, true), (286, true), (287, true)], [], [(296, true), (297, true), (298, true), (299, true), (300, true), (301, true), (302, true), (303, true)], [], [(312, true), (313, true), (314, true), (315, true), (316, true), (317, true), (318, true), (319, true)], [], [], [(336, true), (337, true), (338, true), (339, true), (340, true), (341, true), (342, true), (343, true)], [], [(352, true), (353, true), (354, true), (355, true), (356, true), (357, true), (358, true), (359, true)], [], [], [], [], [(64, false)], [], [(408, true), (409, true), (410, true), (411, true), (412, true), (413, true), (414, true), (415, true)], [], [], [(432, true)], [(432, false)], [(448, true), (449, true), (450, true), (451, true), (452, true), (453, true), (454, true), (455, true)], [], [], []]) rfl (by kernel_rfl) (by kernel_rfl) (by kernel_rfl) ?_
          refine zdEnd (by kernel_rfl) (by kernel_rfl) ?_
          refine zkSeq ?_
          refine zrRet ?_
          refine zkNil ?_
          exact endQ hS hQ (fRet ((congrArg (fun s => outR s 0 c3.res) (by kernel_rfl : finSt c3.fin _ = f3_fin true)).trans (f3_out true)))
        · replace hS := cond_f hc hS
          refine zdRun (n := 2) (j := 29) (ts := [[], []]) (acc' := [[(248, true), (249, true), (250, true), (251, true), (252, true), (253, true), (254, true), (255, true)], [], [(64, false)], [], [(280, true), (281, true), (282, true), (283, true), (284, true), (285, true), (286, true), (287, true)], [], [(296, true), (297, true), (298, true), (299, true), (300, true), (301, true), (302, true), (303, true)], [], [(312, true), (313, true), (314, true), (315, true), (316, true), (317, true), (318, true), (319, true)], [], [], [(336, true), (337, true), (338, true), (339, true), (340, true), (341, true), (342, true), (343, true)], [], [(352, true), (353, true), (354, true), (355, true), (356, true), (357, true), (358, true), (359, true)], [], [], [], [], [(64, false)], [], [(408, true), (409, true), (410, true), (411, true), (412, true), (413, true), (414, true), (415, true)], [], [], [(432, true)], [(432, false)], [(448, true), (449, true), (450, true), (451, true), (452, true), (453, true), (454, true), (455, true)], [], [], []]) rfl (by kernel_rfl) (by kernel_rfl) (by kernel_rfl) ?_
          refine zdEnd (by kernel_rfl) (by kernel_rfl) ?_
          refine zkSeq ?_
          refine zrRet ?_
          refine zkNil ?_
          exact endQ hS hQ (fRet ((congrArg (fun s => outR s 0 c3.res) (by kernel_rfl : finSt c3.fin _ = f3_fin false)).trans (f3_out false)))
      · replace hS := cond_f hc hS
        refine zdRun (n := 13) (j := 29) (ts := [[], [], [], [], [], [], [], [], [], [], [], [], []]) (acc' := [[(248, true), (249, true), (250, true), (251, true), (252, true), (253, true), (254, true), (255, true)], [], [(64, false)], [], [(280, true), (281, true), (282, true), (283, true), (284, true), (285, true), (286, true), (287, true)], [], [(296, true), (297, true), (298, true), (299, true), (300, true), (301, true), (302, true), (303, true)], [], [(312, true), (313, true), (314, true), (315, true), (316, true), (317, true), (318, true), (319, true)], [], [], [(336, true), (337, true), (338, true), (339, true), (340, true), (341, true), (342, true), (343, true)], [], [(352, true), (353, true), (354, true), (355, true), (356, true), (357, true), (358, true), (359, true)], [], [], [], [], [], [], [], [], [], [], [], [], [], [], []]) rfl (by kernel_rfl) (by kernel_rfl) (by kernel_rfl) ?_
        refine zdEnd (by kernel_rfl) (by kernel_rfl) ?_
        refine zkSeq ?_
        refine zrRet ?_
        refine zkNil ?_
        exact endQ hS hQ (fRet ((congrArg (fun s => outR s 0 c3.res) (by kernel_rfl : finSt c3.fin _ = f3_fin false)).trans (f3_out false)))
  · replace hS := cond_f hc hS
    refine zdRun (n := 27) (j := 29) (ts := [[], [], [], [], [], [], [], [], [], [], [], [], [], [], [], [], [], [], [], [], [], [], [], [], [], [], []]) (acc' := [[(248, true), (249, true), (250, true), (251, true), (252, true), (253, true), (254, true), (255, true)], [], [], [], [], [], [], [], [], [], [], [], [], [], [], [], [], [], [], [], [], [], [], [], [], [], [], [], []]) rfl (by kernel_rfl) (by kernel_rfl) (by kernel_rfl) ?_
    refine zdEnd (by kernel_rfl) (by kernel_rfl) ?_
    refine zkSeq ?_
    refine zrRet ?_
    refine zkNil ?_
    exact endQ hS hQ (fRet ((congrArg (fun s => outR s 0 c3.res) (by kernel_rfl : finSt c3.fin _ = f3_fin false)).trans (f3_out false)))
def f3_l1_J (a1 : List UInt8) (a2 : List UInt8) (a3 : UInt8) (x : GMask × (List UInt8) × Int) : St := ⟨(up (up (up (up (up (up (fun _ => .un) 9 (.d (.int .i64 x.2.2))) 8 (.d (.str x.2.1))) 7 (.r (.ptr 64 0 0))) 2 (.d (.int .u8 (a3.toNat : Int)))) 1 (.d (.str a2))) 0 (.d (.str a1))), (up (hB fun _ => 0) 64 ⟨0, some (.box (((eInt .u64).row 4 x.1.Bits) ++ []))⟩)⟩
def f3_l1_H (a1 : List UInt8) (a2 : List UInt8) (a3 : UInt8) (x : GMask × (List UInt8) × Int) (st : St) : Prop := keepSt [0, 1, 2, 7, 8, 9] [(64, .id 64)] [] st = f3_l1_J a1 a2 a3 x
def f3_l1_e0_J (a1 : List UInt8) (a2 : List UInt8) (a3 : UInt8) (p70 : GMask) (p71 : List UInt8) : St := ⟨(up (up (up (up (up (fun _ => .un) 8 (.d (.str p71))) 7 (.r (.ptr 64 0 0))) 2 (.d (.int .u8 (a3.toNat : Int)))) 1 (.d (.str a2))) 0 (.d (.str a1))), (up (hB fun _ => 0) 64 ⟨0, some (.box (((eInt .u64).row 4 p70.Bits) ++ []))⟩)⟩
def f3_l1_X (a1 : List UInt8) (a2 : List UInt8) (a3 : UInt8) (z : (GMask × (List UInt8)) ⊕ Bool) (e : PX) (st : St) : Prop := (match z with | .inl z => e = .exit 0 ∧ st = f3_l1_e0_J a1 a2 a3 z.1 z.2 | .inr z => e = .ret ∧ finSt c3.fin st = f3_fin z)
def f3_l1_j2_J (a1 : List UInt8) (a2 : List UInt8) (a3 : UInt8) (p78 : GMask) (p79 : List UInt8) (p80 : Int) : St := ⟨(up (up (up (up (up (up (fun _ => .un) 9 (.d (.int .i64 p80))) 8 (.d (.str p79))) 7 (.r (.ptr 64 0 0))) 2 (.d (.int .u8 (a3.toNat : Int)))) 1 (.d (.str a2))) 0 (.d (.str a1))), (up (hB fun _ => 0) 64 ⟨0, some (.box (((eInt .u64).row 4 p78.Bits) ++ []))⟩)⟩
noncomputable def f3_l1_j2 (a1 : List UInt8) (a2 : List UInt8) (a3 : UInt8) (p78 : GMask) (p79 : List UInt8) (p80 : Int) : Option ((GMask × (List UInt8) × Int) ⊕ ((GMask × (List UInt8)) ⊕ Bool)) := ((idx p79 p80).bind fun z41 => ((idx p79 (IntKind.i64.wrap (p80 - 1))).bind fun z42 => (bif (decide ((z41.toNat : Int) ≤ (z42.toNat : Int))) then (some (.inr (.inr false))) else (some (.inl (p78, p79, (IntKind.i64.wrap (p80 + 1))))))))
theorem f3_l1_j2_ok {d : Nat} (hd : 4 ≤ d) (a1 : List UInt8) (a2 : List UInt8) (a3 : UInt8) {r : (GMask × (List UInt8) × Int) ⊕ ((GMask × (List UInt8)) ⊕ Bool)} {Q : PX → St → Prop} (hQ : ∀ e st', finL (f3_l1_H a1 a2 a3) (f3_l1_X a1 a2 a3) r e st' → Q e st') (p78 : GMask) (p79 : List UInt8) (p80 : Int) (hS : f3_l1_j2 a1 a2 a3 p78 p79 p80 = some r) {st : St} (he : keepSt [0, 1, 2, 7, 8, 9] [(64, .id 64)] [] st = f3_l1_j2_J a1 a2 a3 p78 p79 p80) : ZR (lev codes baseL (d - 1)) Q c3_2 [] st := by
  refine zrKeep he ?_
  unfold f3_l1_j2 at hS
  refine zrSeq ?_
  refine zrBlk ?_
  refine zrSeq ?_
  refine zrRegD ?_
  refine zdRun (n := 2) (j := 2) (ts := [[], []]) (acc' := [[], []]) rfl (by kernel_rfl) (by kernel_rfl) (by kernel_rfl) ?_
  refine bindE hS (fun z41 hz41 hS => ?_)
  refine zdOp (d := some 24) (op := (.ixStr (.tmp 22) (.tmp 23))) (g := none) (v := (.d (.int .u8 (z41.toNat : Int)))) (ups := []) (j := 3) (t1 := []) (acc' := [[], [], []]) (by kernel_rfl) (by kernel_rfl) rfl (by kernel_rfl) (by kernel_rfl) (ev_ixStr (kk := .i64) (s := p79) (j := p80) (by kernel_rfl) (by kernel_rfl) hz41) ?_
  refine zdRun (n := 3) (j := 6) (ts := [[], [], []]) (acc' := [[], [], [], [], [], []]) rfl (by kernel_rfl) (by kernel_rfl) (by kernel_rfl) ?_
  refine bindE hS (fun z42 hz42 hS => ?_)
  refine zdOp (d := some 28) (op := (.ixStr (.tmp 25) (.tmp 27))) (g := none) (v := (.d (.int .u8 (z42.toNat : Int)))) (ups := []) (j := 7) (t1 := []) (acc' := [[], [], [], [], [], [], []]) (by kernel_rfl) (by kernel_rfl) rfl (by kernel_rfl) (by kernel_rfl) (ev_ixStr (kk := .i64) (s := p79) (j := (IntKind.i64.wrap (p80 - 1))) (by kernel_rfl) (by kernel_rfl) hz42) ?_
  refine zdBool (d := 29) (op := (.cmpI .leq (.tmp 24) (.tmp 28))) (g := none) (j := 8) (t1 := []) (acc' := [[], [], [], [], [], [], [], []]) (decide ((z41.toNat : Int) ≤ (z42.toNat : Int))) (by kernel_rfl) (by kernel_rfl) rfl (by kernel_rfl) (by kernel_rfl) (by kernel_rfl) (fun hc => ?_) (fun hc => ?_)
  · replace hS := cond_t hc hS
    refine zdEnd (by kernel_rfl) (by kernel_rfl) ?_
    refine zkSeq ?_
    refine zrCondT (by kernel_rfl) ?_
    refine zrSeq ?_
    refine zrReg ?_
    refine zlRun (n := 1) (j := 1) rfl (by kernel_rfl) ?_
    refine zlEnd (by kernel_rfl) ?_
    refine zkSeq ?_
    refine zrRet ?_
    refine zkBlkR ?_
    refine zkSeqR ?_
    refine zkNil ?_
    exact endQ hS hQ (finL_x (by intro h; cases h) (by show _ = _ ∧ _ = _; exact ⟨rfl, by kernel_rfl⟩))
  · replace hS := cond_f hc hS
    refine zdEnd (by kernel_rfl) (by kernel_rfl) ?_
    refine zkSeq ?_
    refine zrCondF (by kernel_rfl) ?_
    refine zrSkip ?_
    refine zkBlk ?_
    refine zkSeq ?_
    refine zrReg ?_
    refine zlRun (n := 3) (j := 3) rfl (by kernel_rfl) ?_
    refine zlEnd (by kernel_rfl) ?_
    refine zkNil ?_
    exact endQ hS hQ (finL_n (by show keepSt _ _ _ _ = _; kernel_rfl))
noncomputable def f3_l1 (a1 : List UInt8) (a2 : List UInt8) (a3 : UInt8) (x : GMask × (List UInt8) × Int) : Option ((GMask × (List UInt8) × Int) ⊕ ((GMask × (List UInt8)) ⊕ Bool)) := (bif (decide (x.2.2 < (x.2.1.length : Int))) then (f3_l1_j2 a1 a2 a3 x.1 x.2.1 x.2.2) else (some (.inr (.inl (x.1, x.2.1)))))
theorem f3_l1_ok {d : Nat} (hd : 4 ≤ d) (a1 : List UInt8) (a2 : List UInt8) (a3 : UInt8) {r : (GMask × (List UInt8) × Int) ⊕ ((GMask × (List UInt8)) ⊕ Bool)} {Q : PX → St → Prop} (hQ : ∀ e st', finL (f3_l1_H a1 a2 a3) (f3_l1_X a1 a2 a3) r e st' → Q e st') {x : GMask × (List UInt8) × Int} (hS : f3_l1 a1 a2 a3 x = some r) {st : St} (he : f3_l1_H a1 a2 a3 x st) : ZR (lev codes baseL (d - 1)) Q c3_3 [] st := by
  refine zrKeep he ?_
  unfold f3_l1 at hS
  refine zrSeq ?_
  refine zrSeq ?_
  refine zrReg ?_
  refine zlRun (n := 3) (j := 3) rfl (by kernel_rfl) ?_
  refine zlBool (d := 19) (op := (.cmpI .lss (.tmp 16) (.tmp 18))) (g := none) (j := 4) (decide (x.2.2 < (x.2.1.length : Int))) rfl (by kernel_rfl) (by kernel_rfl) (by kernel_rfl) (fun hc => ?_) (fun hc => ?_)
  · replace hS := cond_t hc hS
    refine zlEnd (by kernel_rfl) ?_
    refine zkSeq ?_
    refine zrCondT (by kernel_rfl) ?_
    refine zrSkip ?_
    refine zkSeq ?_
    exact f3_l1_j2_ok hd a1 a2 a3 hQ x.1 x.2.1 x.2.2 hS (by kernel_rfl)
  · replace hS := cond_f hc hS
    refine zlEnd (by kernel_rfl) ?_
    refine zkSeq ?_
    refine zrCondF (by kernel_rfl) ?_
    refine zrKeep (J := f3_l1_e0_J a1 a2 a3 x.1 x.2.1) (by kernel_rfl) ?_
    refine zrExit ?_
    refine zkSeqX ?_
    refine zkNil ?_
    exact endQ hS hQ (finL_x (by intro h; cases h) (by show _ = _ ∧ _ = _; exact ⟨rfl, rfl⟩))
noncomputable def f3 (a1 : List UInt8) (a2 : List UInt8) (a3 : UInt8) : Option (Bool) := ((cat? a1 a2).bind fun z22 => ((f12 z22).bind fun z23 => ((f13 z23).bind fun z24 => ((loopO (f3_l1 a1 a2 a3) (z23, z24, 1)).bind fun z43 => (Sum.elim (fun z44 => (f3_j0 a1 a2 a3 z44.1 z44.2)) (fun z45 => (some z45)) z43)))))
theorem f3_ok (d : Nat) (hd : 4 ≤ d) (a1 : List UInt8) (a2 : List UInt8) (a3 : UInt8) (r : Bool) (hS : f3 a1 a2 a3 = some r) : lev codes baseL d 3 [(.d (.str a1)), (.d (.str a2)), (.d (.int .u8 (a3.toNat : Int)))] [] = some ((.d (.bool r)), []) := by
  refine lev_go codes3 rfl rfl (Nat.le_trans (Nat.le_of_ble_eq_true rfl) hd) fun Q hQ => ?_
  unfold f3 at hS
  show ZR _ Q c3_b [] _
  replace hQ : ∀ e st', f3_Q r e st' → Q e st' := hQ
  refine zrSeq ?_
  refine zrReg ?_
  refine zlRun (n := 1) (j := 1) rfl (by kernel_rfl) ?_
  refine zlEnd (by kernel_rfl) ?_
  refine zkSeq ?_
  refine zrSeq ?_
  refine zrReg ?_
  refine zlRun (n := 2) (j := 2) rfl (by kernel_rfl) ?_
  refine bindE hS (fun z22 hz22 hS => ?_)
  refine zlOp (d := some 12) (op := (.strO .add (.tmp 10) (.tmp 11))) (g := none) (v := (.d (.str z22))) (ups := []) (j := 3) rfl (by kernel_rfl) (by kernel_rfl) (ev_cat (a := a1) (c := a2) (by kernel_rfl) (by kernel_rfl) hz22) ?_
  refine bindE hS (fun z23 hz23 hS => ?_)
  refine zlOp (d := some 13) (op := (.call 12 [(.tmp 12)])) (g := none) (v := (.agg (((eInt .u64).row 4 z23.Bits) ++ []))) (ups := []) (j := 4) rfl (by kernel_rfl) (by kernel_rfl) (ev_call (args := [(.d (.str z22))]) (l := [(.d (.str z22))]) (r := (.agg (((eInt .u64).row 4 z23.Bits) ++ []))) (by kernel_rfl) (by kernel_rfl) (f12_ok (d - 1) (dpt hd rfl) z22 z23 hz23) (by kernel_rfl) (by kernel_rfl) (by kernel_rfl)) ?_
  refine zlRun (n := 2) (j := 6) rfl (by kernel_rfl) ?_
  refine zlEnd (by kernel_rfl) ?_
  refine zkSeq ?_
  refine zrSeq ?_
  refine zrReg ?_
  refine zlRun (n := 1) (j := 1) rfl (by kernel_rfl) ?_
  refine bindE hS (fun z24 hz24 hS => ?_)
  refine zlOp (d := some 15) (op := (.call 13 [(.tmp 14)])) (g := none) (v := (.d (.str z24))) (ups := []) (j := 2) rfl (by kernel_rfl) (by kernel_rfl) (ev_call (args := [(.agg (((eInt .u64).row 4 z23.Bits) ++ []))]) (l := [(.agg (((eInt .u64).row 4 z23.Bits) ++ []))]) (r := (.d (.str z24))) (by kernel_rfl) (by kernel_rfl) (f13_ok (d - 1) (dpt hd rfl) z23 z24 hz24) (by kernel_rfl) (by kernel_rfl) (by kernel_rfl)) ?_
  refine zlRun (n := 1) (j := 3) rfl (by kernel_rfl) ?_
  refine zlEnd (by kernel_rfl) ?_
  refine zkSeq ?_
  refine zrSeq ?_
  refine zrSeq ?_
  refine zrReg ?_
  refine zlRun (n := 1) (j := 1) rfl (by kernel_rfl) ?_
  refine zlEnd (by kernel_rfl) ?_
  refine zkSeq ?_
  refine zrBlk ?_
  refine bindE hS (fun z43 hz43 hS => ?_)
  refine zrLoop (f3_l1_H a1 a2 a3) (f3_l1_X a1 a2 a3) (fun x st r Q h0 hS hQ => f3_l1_ok hd a1 a2 a3 hQ hS h0) (x := (z23, z24, 1)) (z := z43) (by show keepSt _ _ _ _ = _; kernel_rfl) hz43 ?_
  rcases z43 with z44 | z45
  · replace hS := (show _ = _ from hS)
    simp only [Sum.elim_inl] at hS
    intro e st' _ hX
    obtain ⟨rfl, rfl⟩ : _ ∧ _ := hX
    refine zkBlkX ?_
    refine zkSeq ?_
    exact f3_j0_ok hd a1 a2 a3 hQ z44.1 z44.2 hS (by kernel_rfl)
  · simp only [Sum.elim_inr] at hS
    intro e st' _ hX
    obtain ⟨rfl, hX⟩ : _ ∧ _ := hX
    refine zkBlkR ?_
    refine zkSeqR ?_
    refine zkNil ?_
    exact endQ hS hQ (fRet ((congrArg (fun s => outR s 0 c3.res) hX).trans (f3_out z45)))
/- farwriter/mask.Read -/
def f18_fin (p279 : GMask) (p280 : Int) : St := ⟨(up (up (fun _ => .un) 3 (.d (.int .i64 p280))) 2 (.r (.ptr 24 0 0))), (up (hB fun _ => 0) 24 ⟨0, some (.box (((eInt .u64).row 4 p279.Bits) ++ []))⟩)⟩
theorem f18_out (p279 : GMask) (p280 : Int) : outR (f18_fin p279 p280) 0 c18.res = some ((.tup [(.agg (((eInt .u64).row 4 p279.Bits) ++ [])), (.d (.int .i64 p280))]), []) := by
  kernel_rfl
def f18_Q (r : GMask × Int) (e : PX) (st : St) : Prop := DoneF c18 0 ((.tup [(.agg (((eInt .u64).row 4 r.1.Bits) ++ [])), (.d (.int .i64 r.2))]), []) e st
def f18_l1_J (a1 : List UInt8) (x : GMask × GMask × Int) : St := ⟨(up (up (up (up (up (fun _ => .un) 14 (.d (.int .i64 x.2.2))) 13 (.d (.int .i64 (a1.length : Int)))) 4 (.r (.ptr 40 0 0))) 2 (.r (.ptr 24 0 0))) 0 (.d (.str a1))), (up (up (hB fun _ => 0) 40 ⟨0, some (.box (((eInt .u64).row 4 x.2.1.Bits) ++ []))⟩) 24 ⟨0, some (.box (((eInt .u64).row 4 x.1.Bits) ++ []))⟩)⟩
def f18_l1_H (a1 : List UInt8) (x : GMask × GMask × Int) (st : St) : Prop := keepSt [0, 2, 4, 13, 14] [(24, .id 24), (40, .id 40)] [] st = f18_l1_J a1 x
def f18_l1_e0_J (a1 : List UInt8) (p558 : GMask) (p559 : GMask) : St := ⟨(up (up (fun _ => .un) 4 (.r (.ptr 40 0 0))) 2 (.r (.ptr 24 0 0))), (up (up (hB fun _ => 0) 40 ⟨0, some (.box (((eInt .u64).row 4 p559.Bits) ++ []))⟩) 24 ⟨0, some (.box (((eInt .u64).row 4 p558.Bits) ++ []))⟩)⟩
def f18_l1_X (a1 : List UInt8) (z : (GMask × GMask)) (e : PX) (st : St) : Prop := e = .exit 0 ∧ st = f18_l1_e0_J a1 z.1 z.2
def f18_l1_l4_J (a1 : List UInt8) (x : GMask × GMask × Int × Int × Int) : St := ⟨(up (up (up (up (up (up (up (fun _ => .un) 17 (.d (.int .i64 x.2.2.2.2))) 14 (.d (.int .i64 x.2.2.2.1))) 13 (.d (.int .i64 (a1.length : Int)))) 5 (.d (.int .i64 x.2.2.1))) 4 (.r (.ptr 40 0 0))) 2 (.r (.ptr 24 0 0))) 0 (.d (.str a1))), (up (up (hB fun _ => 0) 40 ⟨0, some (.box (((eInt .u64).row 4 x.2.1.Bits) ++ []))⟩) 24 ⟨0, some (.box (((eInt .u64).row 4 x.1.Bits) ++ []))⟩)⟩
def f18_l1_l4_H (a1 : List UInt8) (x : GMask × GMask × Int × Int × Int) (st : St) : Prop := keepSt [0, 2, 4, 5, 13, 14, 17] [(24, .id 24), (40, .id 40)] [] st = f18_l1_l4_J a1 x
def f18_l1_l4_e2_J (a1 : List UInt8) (p666 : GMask) (p667 : GMask) (p668 : Int) : St := ⟨(up (up (up (up (up (fun _ => .un) 14 (.d (.int .i64 p668))) 13 (.d (.int .i64 (a1.length : Int)))) 4 (.r (.ptr 40 0 0))) 2 (.r (.ptr 24 0 0))) 0 (.d (.str a1))), (up (up (hB fun _ => 0) 40 ⟨0, some (.box (((eInt .u64).row 4 p667.Bits) ++ []))⟩) 24 ⟨0, some (.box (((eInt .u64).row 4 p666.Bits) ++ []))⟩)⟩
def f18_l1_l4_X (a1 : List UInt8) (z : (GMask × GMask × Int)) (e : PX) (st : St) : Prop := e = .exit 2 ∧ st = f18_l1_l4_e2_J a1 z.1 z.2.1 z.2.2
def f18_l1_l4_j6_J (a1 : List UInt8) (p681 : GMask) (p682 : GMask) (p683 : Int) (p684 : Int) (p685 : Int) : St := ⟨(up (up (up (up (up (up (up (fun _ => .un) 17 (.d (.int .i64 p685))) 14 (.d (.int .i64 p684))) 13 (.d (.int .i64 (a1.length : Int)))) 5 (.d (.int .i64 p683))) 4 (.r (.ptr 40 0 0))) 2 (.r (.ptr 24 0 0))) 0 (.d (.str a1))), (up (up (hB fun _ => 0) 40 ⟨0, some (.box (((eInt .u64).row 4 p682.Bits) ++ []))⟩) 24 ⟨0, some (.box (((eInt .u64).row 4 p681.Bits) ++ []))⟩)⟩
noncomputable def f18_l1_l4_j6 (a1 : List UInt8) (p681 : GMask) (p682 : GMask) (p683 : Int) (p684 : Int) (p685 : Int) : Option ((GMask × GMask × Int × Int × Int) ⊕ ((GMask × GMask × Int))) := ((idx a1 p683).bind fun z183 => ((chk (decide (0 ≤ p685))).bind fun z184 => (bif (!decide (((z183 &&& (u8 (((128 : UInt8).toNat / 2 ^ (min (p685 : Int).toNat 8) : Nat) : Int))).toNat : Int) = 0)) then ((inR (IntKind.i64.wrap (Int.tdiv (IntKind.i64.wrap ((IntKind.i64.wrap (8 * p683)) + p685)) 64)) 4).bind fun m185 => ((chk (decide (0 ≤ (Int.tmod (IntKind.i64.wrap ((IntKind.i64.wrap (8 * p683)) + p685)) 64)))).bind fun z186 => ((inR (IntKind.i64.wrap (Int.tdiv (IntKind.i64.wrap ((IntKind.i64.wrap (8 * p683)) + p685)) 64)) 4).bind fun m187 => (some (.inl (p681, (GMask.mk (upd p682.Bits m187 (bitI .or .u64 (p682.Bits m185) (IntKind.u64.wrap (1 * 2 ^ (min ((Int.tmod (IntKind.i64.wrap ((IntKind.i64.wrap (8 * p683)) + p685)) 64) : Int).toNat 64)))))), p683, p684, (IntKind.i64.wrap (p685 + 1)))))))) else (some (.inl (p681, p682, p683, p684, (IntKind.i64.wrap (p685 + 1))))))))
theorem f18_l1_l4_j6_ok {d : Nat} (hd : 1 ≤ d) (a1 : List UInt8) {r : (GMask × GMask × Int × Int × Int) ⊕ ((GMask × GMask × Int))} {Q : PX → St → Prop} (hQ : ∀ e st', finL (f18_l1_l4_H a1) (f18_l1_l4_X a1) r e st' → Q e st') (p681 : GMask) (p682 : GMask) (p683 : Int) (p684 : Int) (p685 : Int) (hS : f18_l1_l4_j6 a1 p681 p682 p683 p684 p685 = some r) {st : St} (he : keepSt [0, 2, 4, 5, 13, 14, 17] [(24, .id 24), (40, .id 40)] [] st = f18_l1_l4_j6_J a1 p681 p682 p683 p684 p685) : ZR (lev codes baseL (d - 1)) Q c18_1 [] st := by
  refine zrKeep he ?_
  unfold f18_l1_l4_j6 at hS
  refine zrSeq ?_
  refine zrBlk ?_
  refine zrSeq ?_
  refine zrReg ?_
  refine zlRun (n := 2) (j := 2) rfl (by kernel_rfl) ?_
  refine zlEnd (by kernel_rfl) ?_
  refine zkSeq ?_
  refine zrSeq ?_
  refine zrRegD ?_
  refine zdRun (n := 2) (j := 2) (ts := [[], []]) (acc' := [[], []]) rfl (by kernel_rfl) (by kernel_rfl) (by kernel_rfl) ?_
  refine bindE hS (fun z183 hz183 hS => ?_)
  refine zdOp (d := some 22) (op := (.ixStr (.tmp 20) (.tmp 21))) (g := none) (v := (.d (.int .u8 (z183.toNat : Int)))) (ups := []) (j := 3) (t1 := []) (acc' := [[], [], []]) (by kernel_rfl) (by kernel_rfl) rfl (by kernel_rfl) (by kernel_rfl) (ev_ixStr (kk := .i64) (s := a1) (j := p683) (by kernel_rfl) (by kernel_rfl) hz183) ?_
  refine zdRun (n := 1) (j := 4) (ts := [[]]) (acc' := [[], [], [], []]) rfl (by kernel_rfl) (by kernel_rfl) (by kernel_rfl) ?_
  refine bindE hS (fun z184 hz184 hS => ?_)
  refine zdOp (d := some 24) (op := (.sh .shr (.const (.int .u8 128)) (.tmp 23))) (g := none) (v := (.d (.int .u8 ((u8 (((128 : UInt8).toNat / 2 ^ (min (p685 : Int).toNat 8) : Nat) : Int)).toNat : Int)))) (ups := []) (j := 5) (t1 := []) (acc' := [[], [], [], [], []]) (by kernel_rfl) (by kernel_rfl) rfl (by kernel_rfl) (by kernel_rfl) (ev_sh (kk := .u8) (k2 := .i64) (a := ((128 : UInt8).toNat : Int)) (c := p685) (by kernel_rfl) (by kernel_rfl) (sh_r8 hz184)) ?_
  refine zdOp (d := some 25) (op := (.arI .and (.tmp 22) (.tmp 24))) (g := none) (v := (.d (.int .u8 ((z183 &&& (u8 (((128 : UInt8).toNat / 2 ^ (min (p685 : Int).toNat 8) : Nat) : Int))).toNat : Int)))) (ups := []) (j := 6) (t1 := []) (acc' := [[], [], [], [], [], []]) (by kernel_rfl) (by kernel_rfl) rfl (by kernel_rfl) (by kernel_rfl) (ev_arI (kk := .u8) (a := (z183.toNat : Int)) (c := ((u8 (((128 : UInt8).toNat / 2 ^ (min (p685 : Int).toNat 8) : Nat) : Int)).toNat : Int)) (by kernel_rfl) (by kernel_rfl) (ar_and8 z183 (u8 (((128 : UInt8).toNat / 2 ^ (min (p685 : Int).toNat 8) : Nat) : Int)))) ?_
  refine zdBool (d := 26) (op := (.cmpI .neq (.tmp 25) (.const (.int .u8 0)))) (g := none) (j := 7) (t1 := []) (acc' := [[], [], [], [], [], [], []]) (!decide (((z183 &&& (u8 (((128 : UInt8).toNat / 2 ^ (min (p685 : Int).toNat 8) : Nat) : Int))).toNat : Int) = 0)) (by kernel_rfl) (by kernel_rfl) rfl (by kernel_rfl) (by kernel_rfl) (by kernel_rfl) (fun hc => ?_) (fun hc => ?_)
  · replace hS := cond_t hc hS
    refine zdEnd (by kernel_rfl) (by kernel_rfl) ?_
    refine zkSeq ?_
    refine zrCondT (by kernel_rfl) ?_
    refine zrSeq ?_
    refine zrReg ?_
    refine zlRun (n := 5) (j := 5) rfl (by kernel_rfl) ?_
    refine zlEnd (by kernel_rfl) ?_
    refine zkSeq ?_
    refine zrRegD ?_
    refine zdRun (n := 3) (j := 3) (ts := [[], [], []]) (acc' := [[], [], []]) rfl (by kernel_rfl) (by kernel_rfl) (by kernel_rfl) ?_
    refine bindE hS (fun m185 hm185 hS => ?_)
    refine zdOp (d := some 34) (op := (.ixA 4 1 (.tmp 33) (.tmp 32))) (g := none) (v := (.r (.ptr 40 0 (0 + m185 * 1)))) (ups := []) (j := 4) (t1 := []) (acc' := [[], [], [], []]) (by kernel_rfl) (by kernel_rfl) rfl (by kernel_rfl) (by kernel_rfl) (ev_ixA (kk := .i64) (b := 40) (g := 0) (o := 0) (j := (IntKind.i64.wrap (Int.tdiv (IntKind.i64.wrap ((IntKind.i64.wrap (8 * p683)) + p685)) 64))) (by kernel_rfl) (by kernel_rfl) hm185) ?_
    refine zdOp (d := some 35) (op := (.load .false 1 (.tmp 34))) (g := none) (v := (.d (.int .u64 (p682.Bits m185)))) (ups := []) (j := 5) (t1 := [(40, false)]) (acc' := [[], [], [], [], [(40, false)]]) (by kernel_rfl) (by kernel_rfl) rfl (by kernel_rfl) (by kernel_rfl) (ev_loadA (eInt .u64) (b := 40) (g := 0) (o := 0 + m185 * 1) (f := p682.Bits) (nn := 4) (m := m185) (fo := 0) (pre := []) (post := []) (by kernel_rfl) (by kernel_rfl) (by kernel_rfl) (inR_lt hm185) (by kernel_rfl) (by kernel_rfl) (by kernel_rfl)) ?_
    refine zdRun (n := 2) (j := 7) (ts := [[], []]) (acc' := [[], [], [], [], [(40, false)], [], []]) rfl (by kernel_rfl) (by kernel_rfl) (by kernel_rfl) ?_
    refine bindE hS (fun z186 hz186 hS => ?_)
    refine zdOp (d := some 38) (op := (.sh .shl (.const (.int .u64 1)) (.tmp 37))) (g := none) (v := (.d (.int .u64 (IntKind.u64.wrap (1 * 2 ^ (min ((Int.tmod (IntKind.i64.wrap ((IntKind.i64.wrap (8 * p683)) + p685)) 64) : Int).toNat 64)))))) (ups := []) (j := 8) (t1 := []) (acc' := [[], [], [], [], [(40, false)], [], [], []]) (by kernel_rfl) (by kernel_rfl) rfl (by kernel_rfl) (by kernel_rfl) (ev_sh (kk := .u64) (k2 := .i64) (a := 1) (c := (Int.tmod (IntKind.i64.wrap ((IntKind.i64.wrap (8 * p683)) + p685)) 64)) (by kernel_rfl) (by kernel_rfl) (sh_l hz186)) ?_
    refine zdRun (n := 2) (j := 10) (ts := [[], []]) (acc' := [[], [], [], [], [(40, false)], [], [], [], [], []]) rfl (by kernel_rfl) (by kernel_rfl) (by kernel_rfl) ?_
    refine bindE hS (fun m187 hm187 hS => ?_)
    refine zdOp (d := some 41) (op := (.ixA 4 1 (.tmp 40) (.tmp 32))) (g := none) (v := (.r (.ptr 40 0 (0 + m187 * 1)))) (ups := []) (j := 11) (t1 := []) (acc' := [[], [], [], [], [(40, false)], [], [], [], [], [], []]) (by kernel_rfl) (by kernel_rfl) rfl (by kernel_rfl) (by kernel_rfl) (ev_ixA (kk := .i64) (b := 40) (g := 0) (o := 0) (j := (IntKind.i64.wrap (Int.tdiv (IntKind.i64.wrap ((IntKind.i64.wrap (8 * p683)) + p685)) 64))) (by kernel_rfl) (by kernel_rfl) hm187) ?_
    refine zdOp (d := none) (op := (.store 1 (.tmp 41) (.tmp 39))) (g := none) (v := .un) (ups := [(40, ⟨0, some (.box (((eInt .u64).row 4 (upd p682.Bits m187 (bitI .or .u64 (p682.Bits m185) (IntKind.u64.wrap (1 * 2 ^ (min ((Int.tmod (IntKind.i64.wrap ((IntKind.i64.wrap (8 * p683)) + p685)) 64) : Int).toNat 64)))))) ++ []))⟩)]) (j := 12) (t1 := [(40, true)]) (acc' := [[], [], [], [], [(40, false)], [], [], [], [], [], [], [(40, true)]]) (by kernel_rfl) (by kernel_rfl) rfl (by kernel_rfl) (by kernel_rfl) (ev_storeA (eInt .u64) (b := 40) (g := 0) (o := 0 + m187 * 1) (f := p682.Bits) (nn := 4) (m := m187) (fo := 0) (pre := []) (post := []) (by kernel_rfl) (by kernel_rfl) (by kernel_rfl) (inR_lt hm187) (new := ((.d (.int .u64 (bitI .or .u64 (p682.Bits m185) (IntKind.u64.wrap (1 * 2 ^ (min ((Int.tmod (IntKind.i64.wrap ((IntKind.i64.wrap (8 * p683)) + p685)) 64) : Int).toNat 64)))))) :: [])) (ds := [.int .u64 (bitI .or .u64 (p682.Bits m185) (IntKind.u64.wrap (1 * 2 ^ (min ((Int.tmod (IntKind.i64.wrap ((IntKind.i64.wrap (8 * p683)) + p685)) 64) : Int).toNat 64))))]) (z' := (bitI .or .u64 (p682.Bits m185) (IntKind.u64.wrap (1 * 2 ^ (min ((Int.tmod (IntKind.i64.wrap ((IntKind.i64.wrap (8 * p683)) + p685)) 64) : Int).toNat 64))))) (by kernel_rfl) (by kernel_rfl) (by kernel_rfl) (by kernel_rfl) (by kernel_rfl)) ?_
    refine zdEnd (by kernel_rfl) (by kernel_rfl) ?_
    refine zkBlk ?_
    refine zkSeq ?_
    refine zrReg ?_
    refine zlRun (n := 2) (j := 2) rfl (by kernel_rfl) ?_
    refine zlEnd (by kernel_rfl) ?_
    refine zkNil ?_
    exact endQ hS hQ (finL_n (by show keepSt _ _ _ _ = _; kernel_rfl))
  · replace hS := cond_f hc hS
    refine zdEnd (by kernel_rfl) (by kernel_rfl) ?_
    refine zkSeq ?_
    refine zrCondF (by kernel_rfl) ?_
    refine zrSkip ?_
    refine zkBlk ?_
    refine zkSeq ?_
    refine zrReg ?_
    refine zlRun (n := 2) (j := 2) rfl (by kernel_rfl) ?_
    refine zlEnd (by kernel_rfl) ?_
    refine zkNil ?_
    exact endQ hS hQ (finL_n (by show keepSt _ _ _ _ = _; kernel_rfl))
def f18_l1_l4_j5_J (a1 : List UInt8) (p675 : GMask) (p676 : GMask) (p677 : Int) (p678 : Int) (p679 : Int) (p680 : Bool) : St := ⟨(up (up (up (up (up (up (up (up (fun _ => .un) 18 (.d (.bool p680))) 17 (.d (.int .i64 p679))) 14 (.d (.int .i64 p678))) 13 (.d (.int .i64 (a1.length : Int)))) 5 (.d (.int .i64 p677))) 4 (.r (.ptr 40 0 0))) 2 (.r (.ptr 24 0 0))) 0 (.d (.str a1))), (up (up (hB fun _ => 0) 40 ⟨0, some (.box (((eInt .u64).row 4 p676.Bits) ++ []))⟩) 24 ⟨0, some (.box (((eInt .u64).row 4 p675.Bits) ++ []))⟩)⟩
noncomputable def f18_l1_l4_j5 (a1 : List UInt8) (p675 : GMask) (p676 : GMask) (p677 : Int) (p678 : Int) (p679 : Int) (p680 : Bool) : Option ((GMask × GMask × Int × Int × Int) ⊕ ((GMask × GMask × Int))) := (bif p680 then (f18_l1_l4_j6 a1 p675 p676 p677 p678 p679) else (some (.inr (p675, p676, p678))))
theorem f18_l1_l4_j5_ok {d : Nat} (hd : 1 ≤ d) (a1 : List UInt8) {r : (GMask × GMask × Int × Int × Int) ⊕ ((GMask × GMask × Int))} {Q : PX → St → Prop} (hQ : ∀ e st', finL (f18_l1_l4_H a1) (f18_l1_l4_X a1) r e st' → Q e st') (p675 : GMask) (p676 : GMask) (p677 : Int) (p678 : Int) (p679 : Int) (p680 : Bool) (hS : f18_l1_l4_j5 a1 p675 p676 p677 p678 p679 p680 = some r) {st : St} (he : keepSt [0, 2, 4, 5, 13, 14, 17, 18] [(24, .id 24), (40, .id 40)] [] st = f18_l1_l4_j5_J a1 p675 p676 p677 p678 p679 p680) : ZR (lev codes baseL (d - 1)) Q c18_2 [] st := by
  refine zrKeep he ?_
  unfold f18_l1_l4_j5 at hS
  refine zrSeq ?_
  refine zrSplit 18 p680 (by kernel_rfl) (fun hc => ?_) (fun hc => ?_)
  · replace hS := cond_t hc hS
    refine zrCondT (by kernel_rfl) ?_
    refine zrSkip ?_
    refine zkSeq ?_
    exact f18_l1_l4_j6_ok hd a1 hQ p675 p676 p677 p678 p679 hS (by kernel_rfl)
  · replace hS := cond_f hc hS
    refine zrCondF (by kernel_rfl) ?_
    refine zrKeep (J := f18_l1_l4_e2_J a1 p675 p676 p678) (by kernel_rfl) ?_
    refine zrExit ?_
    refine zkSeqX ?_
    refine zkNil ?_
    exact endQ hS hQ (finL_x (by intro h; cases h) (by show _ = _ ∧ _ = _; exact ⟨rfl, rfl⟩))
noncomputable def f18_l1_l4 (a1 : List UInt8) (x : GMask × GMask × Int × Int × Int) : Option ((GMask × GMask × Int × Int × Int) ⊕ ((GMask × GMask × Int))) := (bif (decide (x.2.2.2.2 < 8)) then (f18_l1_l4_j5 a1 x.1 x.2.1 x.2.2.1 x.2.2.2.1 x.2.2.2.2 true) else (f18_l1_l4_j5 a1 x.1 x.2.1 x.2.2.1 x.2.2.2.1 x.2.2.2.2 false))
theorem f18_l1_l4_ok {d : Nat} (hd : 1 ≤ d) (a1 : List UInt8) {r : (GMask × GMask × Int × Int × Int) ⊕ ((GMask × GMask × Int))} {Q : PX → St → Prop} (hQ : ∀ e st', finL (f18_l1_l4_H a1) (f18_l1_l4_X a1) r e st' → Q e st') {x : GMask × GMask × Int × Int × Int} (hS : f18_l1_l4 a1 x = some r) {st : St} (he : f18_l1_l4_H a1 x st) : ZR (lev codes baseL (d - 1)) Q c18_3 [] st := by
  refine zrKeep he ?_
  unfold f18_l1_l4 at hS
  refine zrSeq ?_
  refine zrReg ?_
  refine zlBool (d := 18) (op := (.cmpI .lss (.tmp 17) (.const (.int .i64 8)))) (g := none) (j := 1) (decide (x.2.2.2.2 < 8)) rfl (by kernel_rfl) (by kernel_rfl) (by kernel_rfl) (fun hc => ?_) (fun hc => ?_)
  · replace hS := cond_t hc hS
    refine zlEnd (by kernel_rfl) ?_
    refine zkSeq ?_
    exact f18_l1_l4_j5_ok hd a1 hQ x.1 x.2.1 x.2.2.1 x.2.2.2.1 x.2.2.2.2 true hS (by kernel_rfl)
  · replace hS := cond_f hc hS
    refine zlEnd (by kernel_rfl) ?_
    refine zkSeq ?_
    exact f18_l1_l4_j5_ok hd a1 hQ x.1 x.2.1 x.2.2.1 x.2.2.2.1 x.2.2.2.2 false hS (by kernel_rfl)
def f18_l1_j3_J (a1 : List UInt8) (p568 : GMask) (p569 : GMask) (p570 : Int) : St := ⟨(up (up (up (up (up (fun _ => .un) 14 (.d (.int .i64 p570))) 13 (.d (.int .i64 (a1.length : Int)))) 4 (.r (.ptr 40 0 0))) 2 (.r (.ptr 24 0 0))) 0 (.d (.str a1))), (up (up (hB fun _ => 0) 40 ⟨0, some (.box (((eInt .u64).row 4 p569.Bits) ++ []))⟩) 24 ⟨0, some (.box (((eInt .u64).row 4 p568.Bits) ++ []))⟩)⟩
noncomputable def f18_l1_j3 (a1 : List UInt8) (p568 : GMask) (p569 : GMask) (p570 : Int) : Option ((GMask × GMask × Int) ⊕ ((GMask × GMask))) := ((loopO (f18_l1_l4 a1) (p568, p569, p570, p570, 0)).bind fun z188 => (some (.inl (z188.1, z188.2.1, (IntKind.i64.wrap (z188.2.2 + 1))))))
theorem f18_l1_j3_ok {d : Nat} (hd : 1 ≤ d) (a1 : List UInt8) {r : (GMask × GMask × Int) ⊕ ((GMask × GMask))} {Q : PX → St → Prop} (hQ : ∀ e st', finL (f18_l1_H a1) (f18_l1_X a1) r e st' → Q e st') (p568 : GMask) (p569 : GMask) (p570 : Int) (hS : f18_l1_j3 a1 p568 p569 p570 = some r) {st : St} (he : keepSt [0, 2, 4, 13, 14] [(24, .id 24), (40, .id 40)] [] st = f18_l1_j3_J a1 p568 p569 p570) : ZR (lev codes baseL (d - 1)) Q c18_4 [] st := by
  refine zrKeep he ?_
  unfold f18_l1_j3 at hS
  refine zrSeq ?_
  refine zrBlk ?_
  refine zrSeq ?_
  refine zrReg ?_
  refine zlRun (n := 2) (j := 2) rfl (by kernel_rfl) ?_
  refine zlEnd (by kernel_rfl) ?_
  refine zkSeq ?_
  refine zrSeq ?_
  refine zrReg ?_
  refine zlRun (n := 1) (j := 1) rfl (by kernel_rfl) ?_
  refine zlEnd (by kernel_rfl) ?_
  refine zkSeq ?_
  refine zrBlk ?_
  refine bindE hS (fun z188 hz188 hS => ?_)
  refine zrLoop (f18_l1_l4_H a1) (f18_l1_l4_X a1) (fun x st r Q h0 hS hQ => f18_l1_l4_ok hd a1 hQ hS h0) (x := (p568, p569, p570, p570, 0)) (z := z188) (by show keepSt _ _ _ _ = _; kernel_rfl) hz188 ?_
  intro e st' _ hX
  obtain ⟨rfl, rfl⟩ : _ ∧ _ := hX
  refine zkBlkX ?_
  refine zkBlk ?_
  refine zkSeq ?_
  refine zrReg ?_
  refine zlRun (n := 2) (j := 2) rfl (by kernel_rfl) ?_
  refine zlEnd (by kernel_rfl) ?_
  refine zkNil ?_
  exact endQ hS hQ (finL_n (by show keepSt _ _ _ _ = _; kernel_rfl))
def f18_l1_j2_J (a1 : List UInt8) (p564 : GMask) (p565 : GMask) (p566 : Int) (p567 : Bool) : St := ⟨(up (up (up (up (up (up (fun _ => .un) 15 (.d (.bool p567))) 14 (.d (.int .i64 p566))) 13 (.d (.int .i64 (a1.length : Int)))) 4 (.r (.ptr 40 0 0))) 2 (.r (.ptr 24 0 0))) 0 (.d (.str a1))), (up (up (hB fun _ => 0) 40 ⟨0, some (.box (((eInt .u64).row 4 p565.Bits) ++ []))⟩) 24 ⟨0, some (.box (((eInt .u64).row 4 p564.Bits) ++ []))⟩)⟩
noncomputable def f18_l1_j2 (a1 : List UInt8) (p564 : GMask) (p565 : GMask) (p566 : Int) (p567 : Bool) : Option ((GMask × GMask × Int) ⊕ ((GMask × GMask))) := (bif p567 then (f18_l1_j3 a1 p564 p565 p566) else (some (.inr (p564, p565))))
theorem f18_l1_j2_ok {d : Nat} (hd : 1 ≤ d) (a1 : List UInt8) {r : (GMask × GMask × Int) ⊕ ((GMask × GMask))} {Q : PX → St → Prop} (hQ : ∀ e st', finL (f18_l1_H a1) (f18_l1_X a1) r e st' → Q e st') (p564 : GMask) (p565 : GMask) (p566 : Int) (p567 : Bool) (hS : f18_l1_j2 a1 p564 p565 p566 p567 = some r) {st : St} (he : keepSt [0, 2, 4, 13, 14, 15] [(24, .id 24), (40, .id 40)] [] st = f18_l1_j2_J a1 p564 p565 p566 p567) : ZR (lev codes baseL (d - 1)) Q c18_5 [] st := by
  refine zrKeep he ?_
  unfold f18_l1_j2 at hS
  refine zrSeq ?_
  refine zrSplit 15 p567 (by kernel_rfl) (fun hc => ?_) (fun hc => ?_)
  · replace hS := cond_t hc hS
    refine zrCondT (by kernel_rfl) ?_
    refine zrSkip ?_
    refine zkSeq ?_
    exact f18_l1_j3_ok hd a1 hQ p564 p565 p566 hS (by kernel_rfl)
  · replace hS := cond_f hc hS
    refine zrCondF (by kernel_rfl) ?_
    refine zrKeep (J := f18_l1_e0_J a1 p564 p565) (by kernel_rfl) ?_
    refine zrExit ?_
    refine zkSeqX ?_
    refine zkNil ?_
    exact endQ hS hQ (finL_x (by intro h; cases h) (by show _ = _ ∧ _ = _; exact ⟨rfl, rfl⟩))
noncomputable def f18_l1 (a1 : List UInt8) (x : GMask × GMask × Int) : Option ((GMask × GMask × Int) ⊕ ((GMask × GMask))) := (bif (decide (x.2.2 < (a1.length : Int))) then (f18_l1_j2 a1 x.1 x.2.1 x.2.2 true) else (f18_l1_j2 a1 x.1 x.2.1 x.2.2 false))
theorem f18_l1_ok {d : Nat} (hd : 1 ≤ d) (a1 : List UInt8) {r : (GMask × GMask × Int) ⊕ ((GMask × GMask))} {Q : PX → St → Prop} (hQ : ∀ e st', finL (f18_l1_H a1) (f18_l1_X a1) r e st' → Q e st') {x : GMask × GMask × Int} (hS : f18_l1 a1 x = some r) {st : St} (he : f18_l1_H a1 x st) : ZR (lev codes baseL (d - 1)) Q c18_6 [] st := by
  refine zrKeep he ?_
  unfold f18_l1 at hS
  refine zrSeq ?_
  refine zrReg ?_
  refine zlBool (d := 15) (op := (.cmpI .lss (.tmp 14) (.tmp 13))) (g := none) (j := 1) (decide (x.2.2 < (a1.length : Int))) rfl (by kernel_rfl) (by kernel_rfl) (by kernel_rfl) (fun hc => ?_) (fun hc => ?_)
  · replace hS := cond_t hc hS
    refine zlEnd (by kernel_rfl) ?_
    refine zkSeq ?_
    exact f18_l1_j2_ok hd a1 hQ x.1 x.2.1 x.2.2 true hS (by kernel_rfl)
  · replace hS := cond_f hc hS
    refine zlEnd (by kernel_rfl) ?_
    refine zkSeq ?_
    exact f18_l1_j2_ok hd a1 hQ x.1 x.2.1 x.2.2 false hS (by kernel_rfl)
def f18_j0_J (a1 : List UInt8) (p283 : GMask) : St := ⟨(up (up (fun _ => .un) 2 (.r (.ptr 24 0 0))) 0 (.d (.str a1))), (up (hB fun _ => 0) 24 ⟨0, some (.box (((eInt .u64).row 4 p283.Bits) ++ []))⟩)⟩
noncomputable def f18_j0 (a1 : List UInt8) (p283 : GMask) : Option (GMask × Int) := ((loopO (f18_l1 a1) (p283, (GMask.mk (fun _ => 0)), 0)).bind fun z189 => (some (z189.2, 0)))
theorem f18_j0_ok {d : Nat} (hd : 1 ≤ d) (a1 : List UInt8) {r : GMask × Int} {Q : PX → St → Prop} (hQ : ∀ e st', f18_Q r e st' → Q e st') (p283 : GMask) (hS : f18_j0 a1 p283 = some r) {st : St} (he : keepSt [0, 2] [(24, .id 24)] [] st = f18_j0_J a1 p283) : ZR (lev codes baseL (d - 1)) Q c18_7 [] st := by
  refine zrKeep he ?_
  unfold f18_j0 at hS
  refine zrSeq ?_
  refine zrReg ?_
  refine zlRun (n := 1) (j := 1) rfl (by kernel_rfl) ?_
  refine zlEnd (by kernel_rfl) ?_
  refine zkSeq ?_
  refine zrSeq ?_
  refine zrSeq ?_
  refine zrReg ?_
  refine zlRun (n := 3) (j := 3) rfl (by kernel_rfl) ?_
  refine zlEnd (by kernel_rfl) ?_
  refine zkSeq ?_
  refine zrBlk ?_
  refine bindE hS (fun z189 hz189 hS => ?_)
  refine zrLoop (f18_l1_H a1) (f18_l1_X a1) (fun x st r Q h0 hS hQ => f18_l1_ok hd a1 hQ hS h0) (x := (p283, (GMask.mk (fun _ => 0)), 0)) (z := z189) (by show keepSt _ _ _ _ = _; kernel_rfl) hz189 ?_
  intro e st' _ hX
  obtain ⟨rfl, rfl⟩ : _ ∧ _ := hX
  refine zkBlkX ?_
  refine zkSeq ?_
  refine zrSeq ?_
  refine zrReg ?_
  refine zlRun (n := 3) (j := 3) rfl (by kernel_rfl) ?_
  refine zlEnd (by kernel_rfl) ?_
  refine zkSeq ?_
  refine zrRet ?_
  refine zkNil ?_
  exact endQ hS hQ (fRet ((congrArg (fun s => outR s 0 c18.res) (by kernel_rfl : finSt c18.fin _ = f18_fin z189.2 0)).trans (f18_out z189.2 0)))
noncomputable def f18 (a1 : List UInt8) : Option (GMask × Int) := (bif (decide (32 < (a1.length : Int))) then (some ((GMask.mk (fun _ => 0)), 2)) else (f18_j0 a1 (GMask.mk (fun _ => 0))))
theorem f18_ok (d : Nat) (hd : 1 ≤ d) (a1 : List UInt8) (r : GMask × Int) (hS : f18 a1 = some r) : lev codes baseL d 18 [(.d (.str a1))] [] = some ((.tup [(.agg (((eInt .u64).row 4 r.1.Bits) ++ [])), (.d (.int .i64 r.2))]), []) := by
  refine lev_go codes18 rfl rfl (Nat.le_trans (Nat.le_of_ble_eq_true rfl) hd) fun Q hQ => ?_
  unfold f18 at hS
  show ZR _ Q c18_b [] _
  replace hQ : ∀ e st', f18_Q r e st' → Q e st' := hQ
  refine zrSeq ?_
  refine zrReg ?_
  refine zlRun (n := 2) (j := 2) rfl (by kernel_rfl) ?_
  refine zlEnd (by kernel_rfl) ?_
  refine zkSeq ?_
  refine zrSeq ?_
  refine zrSeq ?_
  refine zrReg ?_
  refine zlRun (n := 2) (j := 2) rfl (by kernel_rfl) ?_
  refine zlBool (d := 10) (op := (.cmpI .gtr (.tmp 9) (.const (.int .i64 32)))) (g := none) (j := 3) (decide (32 < (a1.length : Int))) rfl (by kernel_rfl) (by kernel_rfl) (by kernel_rfl) (fun hc => ?_) (fun hc => ?_)
  · replace hS := cond_t hc hS
    refine zlEnd (by kernel_rfl) ?_
    refine zkSeq ?_
    refine zrCondT (by kernel_rfl) ?_
    refine zrSeq ?_
    refine zrReg ?_
    refine zlRun (n := 3) (j := 3) rfl (by kernel_rfl) ?_
    refine zlEnd (by kernel_rfl) ?_
    refine zkSeq ?_
    refine zrRet ?_
    refine zkSeqR ?_
    refine zkNil ?_
    exact endQ hS hQ (fRet ((congrArg (fun s => outR s 0 c18.res) (by kernel_rfl : finSt c18.fin _ = f18_fin (GMask.mk (fun _ => 0)) 2)).trans (f18_out (GMask.mk (fun _ => 0)) 2)))
  · replace hS := cond_f hc hS
    refine zlEnd (by kernel_rfl) ?_
    refine zkSeq ?_
    refine zrCondF (by kernel_rfl) ?_
    refine zrSkip ?_
    refine zkSeq ?_
    exact f18_j0_ok hd a1 hQ (GMask.mk (fun _ => 0)) hS (by kernel_rfl)
/- strings.HasSuffix -/
theorem libHasSuffix_ok (d : Nat) (hd : 0 ≤ d) (a1 : List UInt8) (a2 : List UInt8) (r : Bool) (hS : libHasSuffix a1 a2 = some r) : lev codes baseL d 19 [(.d (.str a1)), (.d (.str a2))] [] = some ((.d (.bool r)), []) := lib_call (l := libs) rfl rfl (ossB_ hS) d
/- strings.Repeat -/
theorem libRepeat_ok (d : Nat) (hd : 0 ≤ d) (a1 : List UInt8) (a2 : Int) (r : List UInt8) (hS : libRepeat a1 a2 = some r) : lev codes baseL d 20 [(.d (.str a1)), (.d (.int .i64 a2))] [] = some ((.d (.str r)), []) := lib_call (l := libs) rfl rfl (osiS_ hS) d
/- farwriter/farkeep.MaskBack -/
def f4_fin (p14 : Bool) : St := ⟨(up (fun _ => .un) 4 (.d (.bool p14))), (hB fun _ => 0)⟩
theorem f4_out (p14 : Bool) : outR (f4_fin p14) 0 c4.res = some ((.d (.bool p14)), []) := by
  kernel_rfl
def f4_Q (r : Bool) (e : PX) (st : St) : Prop := DoneF c4 0 ((.d (.bool r)), []) e st
def f4_j1_J (a1 : GMask) (a2 : List UInt8) : St := ⟨(up (fun _ => .un) 1 (.d (.str a2))), (hB fun _ => 0)⟩
noncomputable def f4_j1 (a1 : GMask) (a2 : List UInt8) : Option (Bool) := ((f18 a2).bind fun z27 => (bif (!decide (z27.2 = 0)) then (bif (decide (32 < (a2.length : Int))) then (some true) else (bif (decide (z27.2 = 0)) then ((f17 z27.1).bind fun z28 => ((libTrimRight a2 [0]).bind fun z29 => (bif (decide (z28 = z29)) then (some true) else (some false)))) else (some false))) else (bif (decide (z27.2 = 0)) then ((f17 z27.1).bind fun z30 => ((libTrimRight a2 [0]).bind fun z31 => (bif (decide (z30 = z31)) then (some true) else (some false)))) else (some false))))
theorem f4_j1_ok {d : Nat} (hd : 4 ≤ d) (a1 : GMask) (a2 : List UInt8) {r : Bool} {Q : PX → St → Prop} (hQ : ∀ e st', f4_Q r e st' → Q e st')  (hS : f4_j1 a1 a2 = some r) {st : St} (he : keepSt [1] [] [] st = f4_j1_J a1 a2) : ZR (lev codes baseL (d - 1)) Q c4_1 [] st := by
  refine zrKeep he ?_
  unfold f4_j1 at hS
  refine zrSeq ?_
  refine zrReg ?_
  refine zlRun (n := 1) (j := 1) rfl (by kernel_rfl) ?_
  refine bindE hS (fun z27 hz27 hS => ?_)
  refine zlOp (d := some 63) (op := (.call 18 [(.tmp 62)])) (g := none) (v := (.tup [(.agg (((eInt .u64).row 4 z27.1.Bits) ++ [])), (.d (.int .i64 z27.2))])) (ups := []) (j := 2) rfl (by kernel_rfl) (by kernel_rfl) (ev_call (args := [(.d (.str a2))]) (l := [(.d (.str a2))]) (r := (.tup [(.agg (((eInt .u64).row 4 z27.1.Bits) ++ [])), (.d (.int .i64 z27.2))])) (by kernel_rfl) (by kernel_rfl) (f18_ok (d - 1) (dpt hd rfl) a2 z27 hz27) (by kernel_rfl) (by kernel_rfl) (by kernel_rfl)) ?_
  refine zlRun (n := 6) (j := 8) rfl (by kernel_rfl) ?_
  refine zlEnd (by kernel_rfl) ?_
  refine zkSeq ?_
  refine zrSeq ?_
  refine zrReg ?_
  refine zlRun (n := 1) (j := 1) rfl (by kernel_rfl) ?_
  refine zlBool (d := 67) (op := (.cmpI .neq (.tmp 66) (.const (.int .i64 0)))) (g := none) (j := 2) (!decide (z27.2 = 0)) rfl (by kernel_rfl) (by kernel_rfl) (by kernel_rfl) (fun hc => ?_) (fun hc => ?_)
  · replace hS := cond_t hc hS
    refine zlRun (n := 3) (j := 5) rfl (by kernel_rfl) ?_
    refine zlBool (d := 71) (op := (.cmpI .gtr (.tmp 70) (.const (.int .i64 32)))) (g := (some (68, true))) (j := 6) (decide (32 < (a2.length : Int))) rfl (by kernel_rfl) (by kernel_rfl) (by kernel_rfl) (fun hc => ?_) (fun hc => ?_)
    · replace hS := cond_t hc hS
      refine zlRun (n := 13) (j := 19) rfl (by kernel_rfl) ?_
      refine zlEnd (by kernel_rfl) ?_
      refine zkSeq ?_
      refine zrRet ?_
      refine zkNil ?_
      exact endQ hS hQ (fRet ((congrArg (fun s => outR s 0 c4.res) (by kernel_rfl : finSt c4.fin _ = f4_fin true)).trans (f4_out true)))
    · replace hS := cond_f hc hS
      refine zlRun (n := 3) (j := 9) rfl (by kernel_rfl) ?_
      refine zlBool (d := 75) (op := (.cmpI .eql (.tmp 74) (.const (.int .i64 0)))) (g := (some (73, false))) (j := 10) (decide (z27.2 = 0)) rfl (by kernel_rfl) (by kernel_rfl) (by kernel_rfl) (fun hc => ?_) (fun hc => ?_)
      · replace hS := cond_t hc hS
        refine zlRun (n := 2) (j := 12) rfl (by kernel_rfl) ?_
        refine bindE hS (fun z28 hz28 hS => ?_)
        refine zlOp (d := some 78) (op := (.call 17 [(.tmp 77)])) (g := (some (76, true))) (v := (.d (.str z28))) (ups := []) (j := 13) rfl (by kernel_rfl) (by kernel_rfl) (ev_call (args := [(.agg (((eInt .u64).row 4 z27.1.Bits) ++ []))]) (l := [(.agg (((eInt .u64).row 4 z27.1.Bits) ++ []))]) (r := (.d (.str z28))) (by kernel_rfl) (by kernel_rfl) (f17_ok (d - 1) (dpt hd rfl) z27.1 z28 hz28) (by kernel_rfl) (by kernel_rfl) (by kernel_rfl)) ?_
        refine zlRun (n := 1) (j := 14) rfl (by kernel_rfl) ?_
        refine bindE hS (fun z29 hz29 hS => ?_)
        refine zlOp (d := some 80) (op := (.call 21 [(.tmp 79), (.const (.string ⟨#[0]⟩))])) (g := (some (76, true))) (v := (.d (.str z29))) (ups := []) (j := 15) rfl (by kernel_rfl) (by kernel_rfl) (ev_call (args := [(.d (.str a2)), (.d (.str ([0])))]) (l := [(.d (.str a2)), (.d (.str ([0])))]) (r := (.d (.str z29))) (by kernel_rfl) (by kernel_rfl) (libTrimRight_ok (d - 1) (dpt hd rfl) a2 [0] z29 hz29) (by kernel_rfl) (by kernel_rfl) (by kernel_rfl)) ?_
        refine zlBool (d := 81) (op := (.strO .eql (.tmp 78) (.tmp 80))) (g := (some (76, true))) (j := 16) (decide (z28 = z29)) rfl (by kernel_rfl) (by kernel_rfl) (by kernel_rfl) (fun hc => ?_) (fun hc => ?_)
        · replace hS := cond_t hc hS
          refine zlRun (n := 3) (j := 19) rfl (by kernel_rfl) ?_
          refine zlEnd (by kernel_rfl) ?_
          refine zkSeq ?_
          refine zrRet ?_
          refine zkNil ?_
          exact endQ hS hQ (fRet ((congrArg (fun s => outR s 0 c4.res) (by kernel_rfl : finSt c4.fin _ = f4_fin true)).trans (f4_out true)))
        · replace hS := cond_f hc hS
          refine zlRun (n := 3) (j := 19) rfl (by kernel_rfl) ?_
          refine zlEnd (by kernel_rfl) ?_
          refine zkSeq ?_
          refine zrRet ?_
          refine zkNil ?_
          exact endQ hS hQ (fRet ((congrArg (fun s => outR s 0 c4.res) (by kernel_rfl : finSt c4.fin _ = f4_fin false)).trans (f4_out false)))
      · replace hS := cond_f hc hS
        refine zlRun (n := 9) (j := 19) rfl (by kernel_rfl) ?_
        refine zlEnd (by kernel_rfl) ?_
        refine zkSeq ?_
        refine zrRet ?_
        refine zkNil ?_
        exact endQ hS hQ (fRet ((congrArg (fun s => outR s 0 c4.res) (by kernel_rfl : finSt c4.fin _ = f4_fin false)).trans (f4_out false)))
  · replace hS := cond_f hc hS
    refine zlRun (n := 7) (j := 9) rfl (by kernel_rfl) ?_
    refine zlBool (d := 75) (op := (.cmpI .eql (.tmp 74) (.const (.int .i64 0)))) (g := (some (73, false))) (j := 10) (decide (z27.2 = 0)) rfl (by kernel_rfl) (by kernel_rfl) (by kernel_rfl) (fun hc => ?_) (fun hc => ?_)
    · replace hS := cond_t hc hS
      refine zlRun (n := 2) (j := 12) rfl (by kernel_rfl) ?_
      refine bindE hS (fun z30 hz30 hS => ?_)
      refine zlOp (d := some 78) (op := (.call 17 [(.tmp 77)])) (g := (some (76, true))) (v := (.d (.str z30))) (ups := []) (j := 13) rfl (by kernel_rfl) (by kernel_rfl) (ev_call (args := [(.agg (((eInt .u64).row 4 z27.1.Bits) ++ []))]) (l := [(.agg (((eInt .u64).row 4 z27.1.Bits) ++ []))]) (r := (.d (.str z30))) (by kernel_rfl) (by kernel_rfl) (f17_ok (d - 1) (dpt hd rfl) z27.1 z30 hz30) (by kernel_rfl) (by kernel_rfl) (by kernel_rfl)) ?_
      refine zlRun (n := 1) (j := 14) rfl (by kernel_rfl) ?_
      refine bindE hS (fun z31 hz31 hS => ?_)
      refine zlOp (d := some 80) (op := (.call 21 [(.tmp 79), (.const (.string ⟨#[0]⟩))])) (g := (some (76, true))) (v := (.d (.str z31))) (ups := []) (j := 15) rfl (by kernel_rfl) (by kernel_rfl) (ev_call (args := [(.d (.str a2)), (.d (.str ([0])))]) (l := [(.d (.str a2)), (.d (.str ([0])))]) (r := (.d (.str z31))) (by kernel_rfl) (by kernel_rfl) (libTrimRight_ok (d - 1) (dpt hd rfl) a2 [0] z31 hz31) (by kernel_rfl) (by kernel_rfl) (by kernel_rfl)) ?_
      refine zlBool (d := 81) (op := (.strO .eql (.tmp 78) (.tmp 80))) (g := (some (76, true))) (j := 16) (decide (z30 = z31)) rfl (by kernel_rfl) (by kernel_rfl) (by kernel_rfl) (fun hc => ?_) (fun hc => ?_)
      · replace hS := cond_t hc hS
        refine zlRun (n := 3) (j := 19) rfl (by kernel_rfl) ?_
        refine zlEnd (by kernel_rfl) ?_
        refine zkSeq ?_
        refine zrRet ?_
        refine zkNil ?_
        exact endQ hS hQ (fRet ((congrArg (fun s => outR s 0 c4.res) (by kernel_rfl : finSt c4.fin _ = f4_fin true)).trans (f4_out true)))
      · replace hS := cond_f hc hS
        refine zlRun (n := 3) (j := 19) rfl (by kernel_rfl) ?_
        refine zlEnd (by kernel_rfl) ?_
        refine zkSeq ?_
        refine zrRet ?_
        refine zkNil ?_
        exact endQ hS hQ (fRet ((congrArg (fun s => outR s 0 c4.res) (by kernel_rfl : finSt c4.fin _ = f4_fin false)).trans (f4_out false)))
    · replace hS := cond_f hc hS
      refine zlRun (n := 9) (j := 19) rfl (by kernel_rfl) ?_
      refine zlEnd (by kernel_rfl) ?_
      refine zkSeq ?_
      refine zrRet ?_
      refine zkNil ?_
      exact endQ hS hQ (fRet ((congrArg (fun s => outR s 0 c4.res) (by kernel_rfl : finSt c4.fin _ = f4_fin false)).trans (f4_out false)))
def f4_j0_J (a1 : GMask) (a2 : List UInt8) (p22 : List UInt8) : St := ⟨(up (up (up (fun _ => .un) 5 (.d (.str p22))) 2 (.r (.ptr 24 0 0))) 1 (.d (.str a2))), (up (hB fun _ => 0) 24 ⟨0, some (.box (((eInt .u64).row 4 a1.Bits) ++ []))⟩)⟩
noncomputable def f4_j0 (a1 : GMask) (a2 : List UInt8) (p22 : List UInt8) : Option (Bool) := ((libRepeat [0] (IntKind.i64.wrap (32 - (p22.length : Int)))).bind fun z24 => ((cat? p22 z24).bind fun z25 => ((f18 z25).bind fun z26 => (bif (!decide (z26.2 = 0)) then (some false) else (bif (!(rowEq 4 z26.1.Bits a1.Bits && true)) then (some false) else (f4_j1 a1 a2 ))))))
theorem f4_j0_ok {d : Nat} (hd : 4 ≤ d) (a1 : GMask) (a2 : List UInt8) {r : Bool} {Q : PX → St → Prop} (hQ : ∀ e st', f4_Q r e st' → Q e st') (p22 : List UInt8) (hS : f4_j0 a1 a2 p22 = some r) {st : St} (he : keepSt [1, 2, 5] [(24, .id 24)] [] st = f4_j0_J a1 a2 p22) : ZR (lev codes baseL (d - 1)) Q c4_2 [] st := by
  refine zrKeep he ?_
  unfold f4_j0 at hS
  refine zrSeq ?_
  refine zrReg ?_
  refine zlRun (n := 4) (j := 4) rfl (by kernel_rfl) ?_
  refine bindE hS (fun z24 hz24 hS => ?_)
  refine zlOp (d := some 49) (op := (.call 20 [(.const (.string ⟨#[0]⟩)), (.tmp 48)])) (g := none) (v := (.d (.str z24))) (ups := []) (j := 5) rfl (by kernel_rfl) (by kernel_rfl) (ev_call (args := [(.d (.str ([0]))), (.d (.int .i64 (IntKind.i64.wrap (32 - (p22.length : Int)))))]) (l := [(.d (.str ([0]))), (.d (.int .i64 (IntKind.i64.wrap (32 - (p22.length : Int)))))]) (r := (.d (.str z24))) (by kernel_rfl) (by kernel_rfl) (libRepeat_ok (d - 1) (dpt hd rfl) [0] (IntKind.i64.wrap (32 - (p22.length : Int))) z24 hz24) (by kernel_rfl) (by kernel_rfl) (by kernel_rfl)) ?_
  refine bindE hS (fun z25 hz25 hS => ?_)
  refine zlOp (d := some 50) (op := (.strO .add (.tmp 45) (.tmp 49))) (g := none) (v := (.d (.str z25))) (ups := []) (j := 6) rfl (by kernel_rfl) (by kernel_rfl) (ev_cat (a := p22) (c := z24) (by kernel_rfl) (by kernel_rfl) hz25) ?_
  refine bindE hS (fun z26 hz26 hS => ?_)
  refine zlOp (d := some 51) (op := (.call 18 [(.tmp 50)])) (g := none) (v := (.tup [(.agg (((eInt .u64).row 4 z26.1.Bits) ++ [])), (.d (.int .i64 z26.2))])) (ups := []) (j := 7) rfl (by kernel_rfl) (by kernel_rfl) (ev_call (args := [(.d (.str z25))]) (l := [(.d (.str z25))]) (r := (.tup [(.agg (((eInt .u64).row 4 z26.1.Bits) ++ [])), (.d (.int .i64 z26.2))])) (by kernel_rfl) (by kernel_rfl) (f18_ok (d - 1) (dpt hd rfl) z25 z26 hz26) (by kernel_rfl) (by kernel_rfl) (by kernel_rfl)) ?_
  refine zlRun (n := 6) (j := 13) rfl (by kernel_rfl) ?_
  refine zlEnd (by kernel_rfl) ?_
  refine zkSeq ?_
  refine zrSeq ?_
  refine zrSeq ?_
  refine zrReg ?_
  refine zlRun (n := 1) (j := 1) rfl (by kernel_rfl) ?_
  refine zlBool (d := 55) (op := (.cmpI .neq (.tmp 54) (.const (.int .i64 0)))) (g := none) (j := 2) (!decide (z26.2 = 0)) rfl (by kernel_rfl) (by kernel_rfl) (by kernel_rfl) (fun hc => ?_) (fun hc => ?_)
  · replace hS := cond_t hc hS
    refine zlRun (n := 5) (j := 7) rfl (by kernel_rfl) ?_
    refine zlEnd (by kernel_rfl) ?_
    refine zkSeq ?_
    refine zrCondT (by kernel_rfl) ?_
    refine zrSeq ?_
    refine zrReg ?_
    refine zlRun (n := 1) (j := 1) rfl (by kernel_rfl) ?_
    refine zlEnd (by kernel_rfl) ?_
    refine zkSeq ?_
    refine zrRet ?_
    refine zkSeqR ?_
    refine zkNil ?_
    exact endQ hS hQ (fRet ((congrArg (fun s => outR s 0 c4.res) (by kernel_rfl : finSt c4.fin _ = f4_fin false)).trans (f4_out false)))
  · replace hS := cond_f hc hS
    refine zlRun (n := 3) (j := 5) rfl (by kernel_rfl) ?_
    refine zlBool (d := 59) (op := (.eqA .true [(4, .int)] (.tmp 57) (.tmp 58))) (g := (some (56, false))) (j := 6) (!(rowEq 4 z26.1.Bits a1.Bits && true)) rfl (by kernel_rfl) (by kernel_rfl) (ev_eqA (va := (((eInt .u64).row 4 z26.1.Bits) ++ [])) (vb := (((eInt .u64).row 4 a1.Bits) ++ [])) (ks := (List.replicate 4 .int ++ [])) (by kernel_rfl) (by kernel_rfl) (by kernel_rfl) (eq_rowI eq_nil)) (fun hc => ?_) (fun hc => ?_)
    · replace hS := cond_t hc hS
      refine zlRun (n := 1) (j := 7) rfl (by kernel_rfl) ?_
      refine zlEnd (by kernel_rfl) ?_
      refine zkSeq ?_
      refine zrCondT (by kernel_rfl) ?_
      refine zrSeq ?_
      refine zrReg ?_
      refine zlRun (n := 1) (j := 1) rfl (by kernel_rfl) ?_
      refine zlEnd (by kernel_rfl) ?_
      refine zkSeq ?_
      refine zrRet ?_
      refine zkSeqR ?_
      refine zkNil ?_
      exact endQ hS hQ (fRet ((congrArg (fun s => outR s 0 c4.res) (by kernel_rfl : finSt c4.fin _ = f4_fin false)).trans (f4_out false)))
    · replace hS := cond_f hc hS
      refine zlRun (n := 1) (j := 7) rfl (by kernel_rfl) ?_
      refine zlEnd (by kernel_rfl) ?_
      refine zkSeq ?_
      refine zrCondF (by kernel_rfl) ?_
      refine zrSkip ?_
      refine zkSeq ?_
      exact f4_j1_ok hd a1 a2 hQ  hS (by kernel_rfl)
noncomputable def f4 (a1 : GMask) (a2 : List UInt8) : Option (Bool) := ((f17 a1).bind fun z15 => ((f18 z15).bind fun z16 => (f14.bind fun z32 => (bif (!z32) then (some false) else (bif (!decide (z16.2 = 0)) then (some false) else (bif (!(rowEq 4 z16.1.Bits a1.Bits && true)) then (some false) else (bif (decide (32 < (z15.length : Int))) then (some false) else ((libHasSuffix z15 [0]).bind fun z33 => (bif z33 then (some false) else ((f13 a1).bind fun z34 => ((f12 z34).bind fun z35 => (bif (!(rowEq 4 z35.Bits a1.Bits && true)) then (some false) else (f4_j0 a1 a2 z15)))))))))))))
theorem f4_ok (d : Nat) (hd : 4 ≤ d) (a1 : GMask) (a2 : List UInt8) (r : Bool) (hS : f4 a1 a2 = some r) : lev codes baseL d 4 [(.agg (((eInt .u64).row 4 a1.Bits) ++ [])), (.d (.str a2))] [] = some ((.d (.bool r)), []) := by
  refine lev_go codes4 rfl rfl (Nat.le_trans (Nat.le_of_ble_eq_true rfl) hd) fun Q hQ => ?_
  unfold f4 at hS
  show ZR _ Q c4_b [] _
  replace hQ : ∀ e st', f4_Q r e st' → Q e st' := hQ
  refine zrSeq ?_
  refine zrReg ?_
  refine zlRun (n := 2) (j := 2) rfl (by kernel_rfl) ?_
  refine zlEnd (by kernel_rfl) ?_
  refine zkSeq ?_
  refine zrSeq ?_
  refine zrReg ?_
  refine zlRun (n := 1) (j := 1) rfl (by kernel_rfl) ?_
  refine bindE hS (fun z15 hz15 hS => ?_)
  refine zlOp (d := some 11) (op := (.call 17 [(.tmp 10)])) (g := none) (v := (.d (.str z15))) (ups := []) (j := 2) rfl (by kernel_rfl) (by kernel_rfl) (ev_call (args := [(.agg (((eInt .u64).row 4 a1.Bits) ++ []))]) (l := [(.agg (((eInt .u64).row 4 a1.Bits) ++ []))]) (r := (.d (.str z15))) (by kernel_rfl) (by kernel_rfl) (f17_ok (d - 1) (dpt hd rfl) a1 z15 hz15) (by kernel_rfl) (by kernel_rfl) (by kernel_rfl)) ?_
  refine zlRun (n := 1) (j := 3) rfl (by kernel_rfl) ?_
  refine zlEnd (by kernel_rfl) ?_
  refine zkSeq ?_
  refine zrSeq ?_
  refine zrReg ?_
  refine zlRun (n := 1) (j := 1) rfl (by kernel_rfl) ?_
  refine bindE hS (fun z16 hz16 hS => ?_)
  refine zlOp (d := some 14) (op := (.call 18 [(.tmp 13)])) (g := none) (v := (.tup [(.agg (((eInt .u64).row 4 z16.1.Bits) ++ [])), (.d (.int .i64 z16.2))])) (ups := []) (j := 2) rfl (by kernel_rfl) (by kernel_rfl) (ev_call (args := [(.d (.str z15))]) (l := [(.d (.str z15))]) (r := (.tup [(.agg (((eInt .u64).row 4 z16.1.Bits) ++ [])), (.d (.int .i64 z16.2))])) (by kernel_rfl) (by kernel_rfl) (f18_ok (d - 1) (dpt hd rfl) z15 z16 hz16) (by kernel_rfl) (by kernel_rfl) (by kernel_rfl)) ?_
  refine zlRun (n := 6) (j := 8) rfl (by kernel_rfl) ?_
  refine zlEnd (by kernel_rfl) ?_
  refine zkSeq ?_
  refine zrSeq ?_
  refine zrSeq ?_
  refine zrRegD ?_
  refine bindE hS (fun z32 hz32 hS => ?_)
  refine zdOp (d := some 17) (op := (.call 14 [])) (g := none) (v := (.d (.bool z32))) (ups := []) (j := 1) (t1 := [(144, true), (145, true), (146, true), (147, true), (148, true), (149, true), (150, true), (151, true)]) (acc' := [[(144, true), (145, true), (146, true), (147, true), (148, true), (149, true), (150, true), (151, true)]]) (by kernel_rfl) (by kernel_rfl) rfl (by kernel_rfl) (by kernel_rfl) (ev_call (args := []) (l := []) (r := (.d (.bool z32))) (by kernel_rfl) (by kernel_rfl) (f14_ok (d - 1) (dpt hd rfl)  z32 hz32) (by kernel_rfl) (by kernel_rfl) (by kernel_rfl)) ?_
  refine zdRun (n := 2) (j := 3) (ts := [[], []]) (acc' := [[(144, true), (145, true), (146, true), (147, true), (148, true), (149, true), (150, true), (151, true)], [], []]) rfl (by kernel_rfl) (by kernel_rfl) (by kernel_rfl) ?_
  refine zdSplit 19 (!z32) (by kernel_rfl) (fun hc => ?_) (fun hc => ?_)
  · replace hS := cond_t hc hS
    refine zdRun (n := 24) (j := 27) (ts := [[], [], [], [], [], [], [], [], [], [], [], [], [], [], [], [], [], [], [], [], [], [], [], []]) (acc' := [[(144, true), (145, true), (146, true), (147, true), (148, true), (149, true), (150, true), (151, true)], [], [], [], [], [], [], [], [], [], [], [], [], [], [], [], [], [], [], [], [], [], [], [], [], [], []]) rfl (by kernel_rfl) (by kernel_rfl) (by kernel_rfl) ?_
    refine zdEnd (by kernel_rfl) (by kernel_rfl) ?_
    refine zkSeq ?_
    refine zrCondT (by kernel_rfl) ?_
    refine zrSeq ?_
    refine zrReg ?_
    refine zlRun (n := 1) (j := 1) rfl (by kernel_rfl) ?_
    refine zlEnd (by kernel_rfl) ?_
    refine zkSeq ?_
    refine zrRet ?_
    refine zkSeqR ?_
    refine zkNil ?_
    exact endQ hS hQ (fRet ((congrArg (fun s => outR s 0 c4.res) (by kernel_rfl : finSt c4.fin _ = f4_fin false)).trans (f4_out false)))
  · replace hS := cond_f hc hS
    refine zdRun (n := 1) (j := 4) (ts := [[]]) (acc' := [[(144, true), (145, true), (146, true), (147, true), (148, true), (149, true), (150, true), (151, true)], [], [], []]) rfl (by kernel_rfl) (by kernel_rfl) (by kernel_rfl) ?_
    refine zdBool (d := 21) (op := (.cmpI .neq (.tmp 20) (.const (.int .i64 0)))) (g := (some (19, false))) (j := 5) (t1 := []) (acc' := [[(144, true), (145, true), (146, true), (147, true), (148, true), (149, true), (150, true), (151, true)], [], [], [], []]) (!decide (z16.2 = 0)) (by kernel_rfl) (by kernel_rfl) rfl (by kernel_rfl) (by kernel_rfl) (by kernel_rfl) (fun hc => ?_) (fun hc => ?_)
    · replace hS := cond_t hc hS
      refine zdRun (n := 22) (j := 27) (ts := [[], [], [], [], [], [], [], [], [], [], [], [], [], [], [], [], [], [], [], [], [], []]) (acc' := [[(144, true), (145, true), (146, true), (147, true), (148, true), (149, true), (150, true), (151, true)], [], [], [], [], [], [], [], [], [], [], [], [], [], [], [], [], [], [], [], [], [], [], [], [], [], []]) rfl (by kernel_rfl) (by kernel_rfl) (by kernel_rfl) ?_
      refine zdEnd (by kernel_rfl) (by kernel_rfl) ?_
      refine zkSeq ?_
      refine zrCondT (by kernel_rfl) ?_
      refine zrSeq ?_
      refine zrReg ?_
      refine zlRun (n := 1) (j := 1) rfl (by kernel_rfl) ?_
      refine zlEnd (by kernel_rfl) ?_
      refine zkSeq ?_
      refine zrRet ?_
      refine zkSeqR ?_
      refine zkNil ?_
      exact endQ hS hQ (fRet ((congrArg (fun s => outR s 0 c4.res) (by kernel_rfl : finSt c4.fin _ = f4_fin false)).trans (f4_out false)))
    · replace hS := cond_f hc hS
      refine zdRun (n := 4) (j := 9) (ts := [[], [], [(56, false)], [(24, false)]]) (acc' := [[(144, true), (145, true), (146, true), (147, true), (148, true), (149, true), (150, true), (151, true)], [], [], [], [], [], [], [(56, false)], [(24, false)]]) rfl (by kernel_rfl) (by kernel_rfl) (by kernel_rfl) ?_
      refine zdBool (d := 26) (op := (.eqA .true [(4, .int)] (.tmp 24) (.tmp 25))) (g := (some (23, false))) (j := 10) (t1 := []) (acc' := [[(144, true), (145, true), (146, true), (147, true), (148, true), (149, true), (150, true), (151, true)], [], [], [], [], [], [], [(56, false)], [(24, false)], []]) (!(rowEq 4 z16.1.Bits a1.Bits && true)) (by kernel_rfl) (by kernel_rfl) rfl (by kernel_rfl) (by kernel_rfl) (ev_eqA (va := (((eInt .u64).row 4 z16.1.Bits) ++ [])) (vb := (((eInt .u64).row 4 a1.Bits) ++ [])) (ks := (List.replicate 4 .int ++ [])) (by kernel_rfl) (by kernel_rfl) (by kernel_rfl) (eq_rowI eq_nil)) (fun hc => ?_) (fun hc => ?_)
      · replace hS := cond_t hc hS
        refine zdRun (n := 17) (j := 27) (ts := [[], [], [], [], [], [], [], [], [], [], [], [], [], [], [], [], []]) (acc' := [[(144, true), (145, true), (146, true), (147, true), (148, true), (149, true), (150, true), (151, true)], [], [], [], [], [], [], [(56, false)], [(24, false)], [], [], [], [], [], [], [], [], [], [], [], [], [], [], [], [], [], []]) rfl (by kernel_rfl) (by kernel_rfl) (by kernel_rfl) ?_
        refine zdEnd (by kernel_rfl) (by kernel_rfl) ?_
        refine zkSeq ?_
        refine zrCondT (by kernel_rfl) ?_
        refine zrSeq ?_
        refine zrReg ?_
        refine zlRun (n := 1) (j := 1) rfl (by kernel_rfl) ?_
        refine zlEnd (by kernel_rfl) ?_
        refine zkSeq ?_
        refine zrRet ?_
        refine zkSeqR ?_
        refine zkNil ?_
        exact endQ hS hQ (fRet ((congrArg (fun s => outR s 0 c4.res) (by kernel_rfl : finSt c4.fin _ = f4_fin false)).trans (f4_out false)))
      · replace hS := cond_f hc hS
        refine zdRun (n := 4) (j := 14) (ts := [[], [], [], []]) (acc' := [[(144, true), (145, true), (146, true), (147, true), (148, true), (149, true), (150, true), (151, true)], [], [], [], [], [], [], [(56, false)], [(24, false)], [], [], [], [], []]) rfl (by kernel_rfl) (by kernel_rfl) (by kernel_rfl) ?_
        refine zdBool (d := 31) (op := (.cmpI .gtr (.tmp 30) (.const (.int .i64 32)))) (g := (some (28, false))) (j := 15) (t1 := []) (acc' := [[(144, true), (145, true), (146, true), (147, true), (148, true), (149, true), (150, true), (151, true)], [], [], [], [], [], [], [(56, false)], [(24, false)], [], [], [], [], [], []]) (decide (32 < (z15.length : Int))) (by kernel_rfl) (by kernel_rfl) rfl (by kernel_rfl) (by kernel_rfl) (by kernel_rfl) (fun hc => ?_) (fun hc => ?_)
        · replace hS := cond_t hc hS
          refine zdRun (n := 12) (j := 27) (ts := [[], [], [], [], [], [], [], [], [], [], [], []]) (acc' := [[(144, true), (145, true), (146, true), (147, true), (148, true), (149, true), (150, true), (151, true)], [], [], [], [], [], [], [(56, false)], [(24, false)], [], [], [], [], [], [], [], [], [], [], [], [], [], [], [], [], [], []]) rfl (by kernel_rfl) (by kernel_rfl) (by kernel_rfl) ?_
          refine zdEnd (by kernel_rfl) (by kernel_rfl) ?_
          refine zkSeq ?_
          refine zrCondT (by kernel_rfl) ?_
          refine zrSeq ?_
          refine zrReg ?_
          refine zlRun (n := 1) (j := 1) rfl (by kernel_rfl) ?_
          refine zlEnd (by kernel_rfl) ?_
          refine zkSeq ?_
          refine zrRet ?_
          refine zkSeqR ?_
          refine zkNil ?_
          exact endQ hS hQ (fRet ((congrArg (fun s => outR s 0 c4.res) (by kernel_rfl : finSt c4.fin _ = f4_fin false)).trans (f4_out false)))
        · replace hS := cond_f hc hS
          refine zdRun (n := 3) (j := 18) (ts := [[], [], []]) (acc' := [[(144, true), (145, true), (146, true), (147, true), (148, true), (149, true), (150, true), (151, true)], [], [], [], [], [], [], [(56, false)], [(24, false)], [], [], [], [], [], [], [], [], []]) rfl (by kernel_rfl) (by kernel_rfl) (by kernel_rfl) ?_
          refine bindE hS (fun z33 hz33 hS => ?_)
          refine zdOp (d := some 35) (op := (.call 19 [(.tmp 34), (.const (.string ⟨#[0]⟩))])) (g := (some (33, false))) (v := (.d (.bool z33))) (ups := []) (j := 19) (t1 := [(288, true), (289, true), (290, true), (291, true), (292, true), (293, true), (294, true), (295, true)]) (acc' := [[(144, true), (145, true), (146, true), (147, true), (148, true), (149, true), (150, true), (151, true)], [], [], [], [], [], [], [(56, false)], [(24, false)], [], [], [], [], [], [], [], [], [], [(288, true), (289, true), (290, true), (291, true), (292, true), (293, true), (294, true), (295, true)]]) (by kernel_rfl) (by kernel_rfl) rfl (by kernel_rfl) (by kernel_rfl) (ev_call (args := [(.d (.str z15)), (.d (.str ([0])))]) (l := [(.d (.str z15)), (.d (.str ([0])))]) (r := (.d (.bool z33))) (by kernel_rfl) (by kernel_rfl) (libHasSuffix_ok (d - 1) (dpt hd rfl) z15 [0] z33 hz33) (by kernel_rfl) (by kernel_rfl) (by kernel_rfl)) ?_
          refine zdRun (n := 2) (j := 21) (ts := [[], []]) (acc' := [[(144, true), (145, true), (146, true), (147, true), (148, true), (149, true), (150, true), (151, true)], [], [], [], [], [], [], [(56, false)], [(24, false)], [], [], [], [], [], [], [], [], [], [(288, true), (289, true), (290, true), (291, true), (292, true), (293, true), (294, true), (295, true)], [], []]) rfl (by kernel_rfl) (by kernel_rfl) (by kernel_rfl) ?_
          refine zdSplit 37 z33 (by kernel_rfl) (fun hc => ?_) (fun hc => ?_)
          · replace hS := cond_t hc hS
            refine zdRun (n := 6) (j := 27) (ts := [[], [], [], [], [], []]) (acc' := [[(144, true), (145, true), (146, true), (147, true), (148, true), (149, true), (150, true), (151, true)], [], [], [], [], [], [], [(56, false)], [(24, false)], [], [], [], [], [], [], [], [], [], [(288, true), (289, true), (290, true), (291, true), (292, true), (293, true), (294, true), (295, true)], [], [], [], [], [], [], [], []]) rfl (by kernel_rfl) (by kernel_rfl) (by kernel_rfl) ?_
            refine zdEnd (by kernel_rfl) (by kernel_rfl) ?_
            refine zkSeq ?_
            refine zrCondT (by kernel_rfl) ?_
            refine zrSeq ?_
            refine zrReg ?_
            refine zlRun (n := 1) (j := 1) rfl (by kernel_rfl) ?_
            refine zlEnd (by kernel_rfl) ?_
            refine zkSeq ?_
            refine zrRet ?_
            refine zkSeqR ?_
            refine zkNil ?_
            exact endQ hS hQ (fRet ((congrArg (fun s => outR s 0 c4.res) (by kernel_rfl : finSt c4.fin _ = f4_fin false)).trans (f4_out false)))
          · replace hS := cond_f hc hS
            refine zdRun (n := 1) (j := 22) (ts := [[(24, false)]]) (acc' := [[(144, true), (145, true), (146, true), (147, true), (148, true), (149, true), (150, true), (151, true)], [], [], [], [], [], [], [(56, false)], [(24, false)], [], [], [], [], [], [], [], [], [], [(288, true), (289, true), (290, true), (291, true), (292, true), (293, true), (294, true), (295, true)], [], [], [(24, false)]]) rfl (by kernel_rfl) (by kernel_rfl) (by kernel_rfl) ?_
            refine bindE hS (fun z34 hz34 hS => ?_)
            refine zdOp (d := some 39) (op := (.call 13 [(.tmp 38)])) (g := (some (37, false))) (v := (.d (.str z34))) (ups := []) (j := 23) (t1 := [(320, true), (321, true), (322, true), (323, true), (324, true), (325, true), (326, true), (327, true)]) (acc' := [[(144, true), (145, true), (146, true), (147, true), (148, true), (149, true), (150, true), (151, true)], [], [], [], [], [], [], [(56, false)], [(24, false)], [], [], [], [], [], [], [], [], [], [(288, true), (289, true), (290, true), (291, true), (292, true), (293, true), (294, true), (295, true)], [], [], [(24, false)], [(320, true), (321, true), (322, true), (323, true), (324, true), (325, true), (326, true), (327, true)]]) (by kernel_rfl) (by kernel_rfl) rfl (by kernel_rfl) (by kernel_rfl) (ev_call (args := [(.agg (((eInt .u64).row 4 a1.Bits) ++ []))]) (l := [(.agg (((eInt .u64).row 4 a1.Bits) ++ []))]) (r := (.d (.str z34))) (by kernel_rfl) (by kernel_rfl) (f13_ok (d - 1) (dpt hd rfl) a1 z34 hz34) (by kernel_rfl) (by kernel_rfl) (by kernel_rfl)) ?_
            refine bindE hS (fun z35 hz35 hS => ?_)
            refine zdOp (d := some 40) (op := (.call 12 [(.tmp 39)])) (g := (some (37, false))) (v := (.agg (((eInt .u64).row 4 z35.Bits) ++ []))) (ups := []) (j := 24) (t1 := [(328, true), (329, true), (330, true), (331, true), (332, true), (333, true), (334, true), (335, true)]) (acc' := [[(144, true), (145, true), (146, true), (147, true), (148, true), (149, true), (150, true), (151, true)], [], [], [], [], [], [], [(56, false)], [(24, false)], [], [], [], [], [], [], [], [], [], [(288, true), (289, true), (290, true), (291, true), (292, true), (293, true), (294, true), (295, true)], [], [], [(24, false)], [(320, true), (321, true), (322, true), (323, true), (324, true), (325, true), (326, true), (327, true)], [(328, true), (329, true), (330, true), (331, true), (332, true), (333, true), (334, true), (335, true)]]) (by kernel_rfl) (by kernel_rfl) rfl (by kernel_rfl) (by kernel_rfl) (ev_call (args := [(.d (.str z34))]) (l := [(.d (.str z34))]) (r := (.agg (((eInt .u64).row 4 z35.Bits) ++ []))) (by kernel_rfl) (by kernel_rfl) (f12_ok (d - 1) (dpt hd rfl) z34 z35 hz35) (by kernel_rfl) (by kernel_rfl) (by kernel_rfl)) ?_
            refine zdRun (n := 1) (j := 25) (ts := [[(24, false)]]) (acc' := [[(144, true), (145, true), (146, true), (147, true), (148, true), (149, true), (150, true), (151, true)], [], [], [], [], [], [], [(56, false)], [(24, false)], [], [], [], [], [], [], [], [], [], [(288, true), (289, true), (290, true), (291, true), (292, true), (293, true), (294, true), (295, true)], [], [], [(24, false)], [(320, true), (321, true), (322, true), (323, true), (324, true), (325, true), (326, true), (327, true)], [(328, true), (329, true), (330, true), (331, true), (332, true), (333, true), (334, true), (335, true)], [(24, false)]]) rfl (by kernel_rfl) (by kernel_rfl) (by kernel_rfl) ?_
            refine zdBool (d := 42) (op := (.eqA .true [(4, .int)] (.tmp 40) (.tmp 41))) (g := (some (37, false))) (j := 26) (t1 := []) (acc' := [[(144, true), (145, true), (146, true), (147, true), (148, true), (149, true), (150, true), (151, true)], [], [], [], [], [], [], [(56, false)], [(24, false)], [], [], [], [], [], [], [], [], [], [(288, true), (289, true), (290, true), (291, true), (292, true), (293, true), (294, true), (295, true)], [], [], [(24, false)], [(320, true), (321, true), (322, true), (323, true), (324, true), (325, true), (326, true), (327, true)], [(328, true), (329, true), (330, true), (331, true), (332, true), (333, true), (334, true), (335, true)], [(24, false)], []]) (!(rowEq 4 z35.Bits a1.Bits && true)) (by kernel_rfl) (by kernel_rfl) rfl (by kernel_rfl) (by kernel_rfl) (ev_eqA (va := (((eInt .u64).row 4 z35.Bits) ++ [])) (vb := (((eInt .u64).row 4 a1.Bits) ++ [])) (ks := (List.replicate 4 .int ++ [])) (by kernel_rfl) (by kernel_rfl) (by kernel_rfl) (eq_rowI eq_nil)) (fun hc => ?_) (fun hc => ?_)
            · replace hS := cond_t hc hS
              refine zdRun (n := 1) (j := 27) (ts := [[]]) (acc' := [[(144, true), (145, true), (146, true), (147, true), (148, true), (149, true), (150, true), (151, true)], [], [], [], [], [], [], [(56, false)], [(24, false)], [], [], [], [], [], [], [], [], [], [(288, true), (289, true), (290, true), (291, true), (292, true), (293, true), (294, true), (295, true)], [], [], [(24, false)], [(320, true), (321, true), (322, true), (323, true), (324, true), (325, true), (326, true), (327, true)], [(328, true), (329, true), (330, true), (331, true), (332, true), (333, true), (334, true), (335, true)], [(24, false)], [], []]) rfl (by kernel_rfl) (by kernel_rfl) (by kernel_rfl) ?_
              refine zdEnd (by kernel_rfl) (by kernel_rfl) ?_
              refine zkSeq ?_
              refine zrCondT (by kernel_rfl) ?_
              refine zrSeq ?_
              refine zrReg ?_
              refine zlRun (n := 1) (j := 1) rfl (by kernel_rfl) ?_
              refine zlEnd (by kernel_rfl) ?_
              refine zkSeq ?_
              refine zrRet ?_
              refine zkSeqR ?_
              refine zkNil ?_
              exact endQ hS hQ (fRet ((congrArg (fun s => outR s 0 c4.res) (by kernel_rfl : finSt c4.fin _ = f4_fin false)).trans (f4_out false)))
            · replace hS := cond_f hc hS
              refine zdRun (n := 1) (j := 27) (ts := [[]]) (acc' := [[(144, true), (145, true), (146, true), (147, true), (148, true), (149, true), (150, true), (151, true)], [], [], [], [], [], [], [(56, false)], [(24, false)], [], [], [], [], [], [], [], [], [], [(288, true), (289, true), (290, true), (291, true), (292, true), (293, true), (294, true), (295, true)], [], [], [(24, false)], [(320, true), (321, true), (322, true), (323, true), (324, true), (325, true), (326, true), (327, true)], [(328, true), (329, true), (330, true), (331, true), (332, true), (333, true), (334, true), (335, true)], [(24, false)], [], []]) rfl (by kernel_rfl) (by kernel_rfl) (by kernel_rfl) ?_
              refine zdEnd (by kernel_rfl) (by kernel_rfl) ?_
              refine zkSeq ?_
              refine zrCondF (by kernel_rfl) ?_
              refine zrSkip ?_
              refine zkSeq ?_
              exact f4_j0_ok hd a1 a2 hQ z15 hS (by kernel_rfl)
end Go.Proofs.YtanhpibphkblnaaDoor.Pm
