/- Typed functions, and that the codes are these. Printed by dec.py. -/
import Derived.Test.YtdphimcpcclifaaDReC
namespace Go.Proofs.Ytdphimcpcclifaa.Re
open Go.Proofs.Ytdphimcpcclifaa.Pm
set_option maxRecDepth 1000000
set_option maxHeartbeats 20000000
set_option linter.unusedVariables false
/- farwriter/environ.word -/
def f14_fin (p83 : List UInt8) (p84 : List UInt8) : St := ⟨(up (up (fun _ => .un) 3 (.d (.str p84))) 2 (.d (.str p83))), (hB fun _ => 0)⟩
theorem f14_out (p83 : List UInt8) (p84 : List UInt8) : outR (f14_fin p83 p84) 0 c14.res = some ((.tup [(.d (.str p83)), (.d (.str p84))]), []) := by
  kernel_rfl
def f14_Q (r : (List UInt8) × (List UInt8)) (e : PX) (st : St) : Prop := DoneF c14 0 ((.tup [(.d (.str r.1)), (.d (.str r.2))]), []) e st
def f14_j0_J (a1 : List UInt8) (p85 : List UInt8) (p86 : Int) : St := ⟨(up (up (up (fun _ => .un) 5 (.d (.int .i64 p86))) 4 (.r (.msl 40 0 0 p85.length))) 0 (.d (.str a1))), (up (hB fun _ => 0) 40 ⟨0, some (.own 5 1 (eU8.cells p85))⟩)⟩
noncomputable def f14_j0 (a1 : List UInt8) (p85 : List UInt8) (p86 : Int) : Option ((List UInt8) × (List UInt8)) := ((sub? a1 p86 (a1.length : Int)).bind fun z19 => (some (p85, z19)))
theorem f14_j0_ok {base : Orc} {d : Nat} (hd : 1 ≤ d) (a1 : List UInt8) {r : (List UInt8) × (List UInt8)} {Q : PX → St → Prop} (hQ : ∀ e st', f14_Q r e st' → Q e st') (p85 : List UInt8) (p86 : Int) (hS : f14_j0 a1 p85 p86 = some r) {st : St} (he : keepSt [0, 4, 5] [(40, .id 40)] [] st = f14_j0_J a1 p85 p86) : ZR (lev codes base (d - 1)) Q c14_1 [] st := by
  refine zrKeep he ?_
  unfold f14_j0 at hS
  refine zrSeq ?_
  refine zrRegD ?_
  refine zdRun (n := 1) (j := 1) (ts := [[]]) (acc' := [[]]) rfl (by kernel_rfl) (by kernel_rfl) (by kernel_rfl) ?_
  refine zdOp (d := some 44) (op := (.cvBS (.tmp 43))) (g := none) (v := (.d (.str p85))) (ups := []) (j := 2) (t1 := [(40, false)]) (acc' := [[], [(40, false)]]) (by kernel_rfl) (by kernel_rfl) rfl (by kernel_rfl) (by kernel_rfl) (ev_cvBS (s := p85) ((congrArg (asL _) (by kernel_rfl : ρof _ (.tmp 43) = (.r (.msl 40 0 0 p85.length)))).trans (as_whole eU8 (e := 5) (k := 1) (xs := p85) (by kernel_rfl) rfl rfl)) rfl) ?_
  refine zdRun (n := 2) (j := 4) (ts := [[], []]) (acc' := [[], [(40, false)], [], []]) rfl (by kernel_rfl) (by kernel_rfl) (by kernel_rfl) ?_
  refine bindE hS (fun z19 hz19 hS => ?_)
  refine zdOp (d := some 47) (op := (.slStr (.tmp 45) (.some (.tmp 46)) .none)) (g := none) (v := (.d (.str z19))) (ups := []) (j := 5) (t1 := []) (acc' := [[], [(40, false)], [], [], []]) (by kernel_rfl) (by kernel_rfl) rfl (by kernel_rfl) (by kernel_rfl) (ev_slStr (s := a1) (a := p86) (c := (a1.length : Int)) (by kernel_rfl) (bnd_s _ (kk := .i64) (j := p86) (by kernel_rfl)) (bnd_n _) hz19) ?_
  refine zdRun (n := 2) (j := 7) (ts := [[], []]) (acc' := [[], [(40, false)], [], [], [], [], []]) rfl (by kernel_rfl) (by kernel_rfl) (by kernel_rfl) ?_
  refine zdEnd (by kernel_rfl) (by kernel_rfl) ?_
  refine zkSeq ?_
  refine zrRet ?_
  refine zkNil ?_
  exact endQ hS hQ (fRet (by kernel_rfl) ((congrArg (fun s => outR s 0 c14.res) (by kernel_rfl : finSt c14.fin _ = f14_fin p85 z19)).trans (f14_out p85 z19)))
def f14_l1_J (a1 : List UInt8) (x : (List UInt8) × Int) : St := ⟨(up (up (up (fun _ => .un) 5 (.d (.int .i64 x.2))) 4 (.r (.msl 40 0 0 x.1.length))) 0 (.d (.str a1))), (up (hB fun _ => 0) 40 ⟨0, some (.own 5 1 (eU8.cells x.1))⟩)⟩
def f14_l1_H (a1 : List UInt8) (x : (List UInt8) × Int) (st : St) : Prop := keepSt [0, 4, 5] [(40, .id 40)] [] st = f14_l1_J a1 x
def f14_l1_e0_J (a1 : List UInt8) (p81 : List UInt8) (p82 : Int) : St := ⟨(up (up (up (fun _ => .un) 5 (.d (.int .i64 p82))) 4 (.r (.msl 40 0 0 p81.length))) 0 (.d (.str a1))), (up (hB fun _ => 0) 40 ⟨0, some (.own 5 1 (eU8.cells p81))⟩)⟩
def f14_l1_X (a1 : List UInt8) (z : ((List UInt8) × Int)) (e : PX) (st : St) : Prop := e = .exit 0 ∧ st = f14_l1_e0_J a1 z.1 z.2
def f14_l1_j3_J (a1 : List UInt8) (p119 : List UInt8) (p120 : Int) : St := ⟨(up (up (up (fun _ => .un) 5 (.d (.int .i64 p120))) 4 (.r (.msl 40 0 0 p119.length))) 0 (.d (.str a1))), (up (hB fun _ => 0) 40 ⟨0, some (.own 5 1 (eU8.cells p119))⟩)⟩
noncomputable def f14_l1_j3 (a1 : List UInt8) (p119 : List UInt8) (p120 : Int) : Option (((List UInt8) × Int) ⊕ (((List UInt8) × Int))) := ((idx a1 p120).bind fun z23 => ((app? 1 p119 ([z23] : List UInt8)).bind fun z24 => (some (.inl (z24, (IntKind.i64.wrap (p120 + 1)))))))
theorem f14_l1_j3_ok {base : Orc} {d : Nat} (hd : 1 ≤ d) (a1 : List UInt8) {r : ((List UInt8) × Int) ⊕ (((List UInt8) × Int))} {Q : PX → St → Prop} (hQ : ∀ e st', finL (f14_l1_H a1) (f14_l1_X a1) r e st' → Q e st') (p119 : List UInt8) (p120 : Int) (hS : f14_l1_j3 a1 p119 p120 = some r) {st : St} (he : keepSt [0, 4, 5] [(40, .id 40)] [] st = f14_l1_j3_J a1 p119 p120) : ZR (lev codes base (d - 1)) Q c14_2 [.blk 1] st := by
  refine zrKeep he ?_
  unfold f14_l1_j3 at hS
  refine zrSeq ?_
  refine zrReg ?_
  refine zlRun (n := 3) (j := 3) rfl (by kernel_rfl) ?_
  refine bindE hS (fun z23 hz23 hS => ?_)
  refine zlOp (d := some 38) (op := (.ixStr (.tmp 36) (.tmp 37))) (g := none) (v := (.d (.int .u8 (z23.toNat : Int)))) (ups := []) (j := 4) rfl (by kernel_rfl) (by kernel_rfl) (ev_ixStr (kk := .i64) (s := a1) (j := p120) (by kernel_rfl) (by kernel_rfl) hz23) ?_
  refine zlRun (n := 1) (j := 5) rfl (by kernel_rfl) ?_
  refine bindE hS (fun z24 hz24 hS => ?_)
  refine zlOp (d := some 40) (op := (.app 5 1 1 (.tmp 35) (.tmp 39))) (g := none) (v := (.r (.msl 40 1 0 z24.length))) (ups := [(40, ⟨1, some (.own 5 1 (eU8.cells z24))⟩)]) (j := 6) rfl (by kernel_rfl) (by kernel_rfl) (ev_app eU8 (b := 40) (g := 0) (n := p119.length) (xs := p119) (ys := [z23]) ((congrArg (asL _) (by kernel_rfl : ρof _ (.tmp 39) = (.r (.msl 320 1 0 (([z23] : List UInt8).length))))).trans (as_whole eU8 (e := 5) (k := 1) (xs := [z23]) (by kernel_rfl) rfl rfl)) rfl (by kernel_rfl) rfl (by kernel_rfl) rfl hz24) ?_
  refine zlRun (n := 1) (j := 7) rfl (by kernel_rfl) ?_
  refine zlEnd (by kernel_rfl) ?_
  refine zkSeq ?_
  refine zrReg ?_
  refine zlRun (n := 3) (j := 3) rfl (by kernel_rfl) ?_
  refine zlEnd (by kernel_rfl) ?_
  refine zkBlk ?_
  refine zkNil ?_
  exact endQ hS hQ (finL_n (by show keepSt _ _ _ _ = _; kernel_rfl))
def f14_l1_j2_J (a1 : List UInt8) (p112 : List UInt8) (p113 : Int) : St := ⟨(up (up (up (fun _ => .un) 5 (.d (.int .i64 p113))) 4 (.r (.msl 40 0 0 p112.length))) 0 (.d (.str a1))), (up (hB fun _ => 0) 40 ⟨0, some (.own 5 1 (eU8.cells p112))⟩)⟩
noncomputable def f14_l1_j2 (a1 : List UInt8) (p112 : List UInt8) (p113 : Int) : Option (((List UInt8) × Int) ⊕ (((List UInt8) × Int))) := ((idx a1 p113).bind fun z25 => (bif (decide ((z25.toNat : Int) = 2)) then (f14_l1_j3 a1 p112 (IntKind.i64.wrap (p113 + 1))) else (f14_l1_j3 a1 p112 p113)))
theorem f14_l1_j2_ok {base : Orc} {d : Nat} (hd : 1 ≤ d) (a1 : List UInt8) {r : ((List UInt8) × Int) ⊕ (((List UInt8) × Int))} {Q : PX → St → Prop} (hQ : ∀ e st', finL (f14_l1_H a1) (f14_l1_X a1) r e st' → Q e st') (p112 : List UInt8) (p113 : Int) (hS : f14_l1_j2 a1 p112 p113 = some r) {st : St} (he : keepSt [0, 4, 5] [(40, .id 40)] [] st = f14_l1_j2_J a1 p112 p113) : ZR (lev codes base (d - 1)) Q c14_3 [] st := by
  refine zrKeep he ?_
  unfold f14_l1_j2 at hS
  refine zrBlk ?_
  refine zrSeq ?_
  refine zrSeq ?_
  refine zrReg ?_
  refine zlRun (n := 2) (j := 2) rfl (by kernel_rfl) ?_
  refine bindE hS (fun z25 hz25 hS => ?_)
  refine zlOp (d := some 31) (op := (.ixStr (.tmp 29) (.tmp 30))) (g := none) (v := (.d (.int .u8 (z25.toNat : Int)))) (ups := []) (j := 3) rfl (by kernel_rfl) (by kernel_rfl) (ev_ixStr (kk := .i64) (s := a1) (j := p113) (by kernel_rfl) (by kernel_rfl) hz25) ?_
  refine zlBool (d := 32) (op := (.cmpI .eql (.tmp 31) (.const (.int .u8 2)))) (g := none) (j := 4) (decide ((z25.toNat : Int) = 2)) rfl (by kernel_rfl) (by kernel_rfl) (by kernel_rfl) (fun hc => ?_) (fun hc => ?_)
  · replace hS := cond_t hc hS
    refine zlEnd (by kernel_rfl) ?_
    refine zkSeq ?_
    refine zrCondT (by kernel_rfl) ?_
    refine zrReg ?_
    refine zlRun (n := 3) (j := 3) rfl (by kernel_rfl) ?_
    refine zlEnd (by kernel_rfl) ?_
    refine zkSeq ?_
    exact f14_l1_j3_ok hd a1 hQ p112 (IntKind.i64.wrap (p113 + 1)) hS (by kernel_rfl)
  · replace hS := cond_f hc hS
    refine zlEnd (by kernel_rfl) ?_
    refine zkSeq ?_
    refine zrCondF (by kernel_rfl) ?_
    refine zrSkip ?_
    refine zkSeq ?_
    exact f14_l1_j3_ok hd a1 hQ p112 p113 hS (by kernel_rfl)
noncomputable def f14_l1 (a1 : List UInt8) (x : (List UInt8) × Int) : Option (((List UInt8) × Int) ⊕ (((List UInt8) × Int))) := (bif (decide (x.2 < (a1.length : Int))) then ((idx a1 x.2).bind fun z26 => (bif (decide (3 < (z26.toNat : Int))) then (f14_l1_j2 a1 x.1 x.2) else ((idx a1 x.2).bind fun z27 => (bif (decide ((z27.toNat : Int) = 2)) then (bif (decide ((IntKind.i64.wrap (x.2 + 1)) < (a1.length : Int))) then (f14_l1_j2 a1 x.1 x.2) else (some (.inr (x.1, x.2)))) else (some (.inr (x.1, x.2))))))) else (some (.inr (x.1, x.2))))
theorem f14_l1_ok {base : Orc} {d : Nat} (hd : 1 ≤ d) (a1 : List UInt8) {r : ((List UInt8) × Int) ⊕ (((List UInt8) × Int))} {Q : PX → St → Prop} (hQ : ∀ e st', finL (f14_l1_H a1) (f14_l1_X a1) r e st' → Q e st') {x : (List UInt8) × Int} (hS : f14_l1 a1 x = some r) {st : St} (he : f14_l1_H a1 x st) : ZR (lev codes base (d - 1)) Q c14_4 [] st := by
  refine zrKeep he ?_
  unfold f14_l1 at hS
  refine zrSeq ?_
  refine zrSeq ?_
  refine zrReg ?_
  refine zlRun (n := 3) (j := 3) rfl (by kernel_rfl) ?_
  refine zlBool (d := 9) (op := (.cmpI .lss (.tmp 6) (.tmp 8))) (g := none) (j := 4) (decide (x.2 < (a1.length : Int))) rfl (by kernel_rfl) (by kernel_rfl) (by kernel_rfl) (fun hc => ?_) (fun hc => ?_)
  · replace hS := cond_t hc hS
    refine zlRun (n := 3) (j := 7) rfl (by kernel_rfl) ?_
    refine bindE hS (fun z26 hz26 hS => ?_)
    refine zlOp (d := some 13) (op := (.ixStr (.tmp 11) (.tmp 12))) (g := (some (10, true))) (v := (.d (.int .u8 (z26.toNat : Int)))) (ups := []) (j := 8) rfl (by kernel_rfl) (by kernel_rfl) (ev_ixStr (kk := .i64) (s := a1) (j := x.2) (by kernel_rfl) (by kernel_rfl) hz26) ?_
    refine zlBool (d := 14) (op := (.cmpI .gtr (.tmp 13) (.const (.int .u8 3)))) (g := (some (10, true))) (j := 9) (decide (3 < (z26.toNat : Int))) rfl (by kernel_rfl) (by kernel_rfl) (by kernel_rfl) (fun hc => ?_) (fun hc => ?_)
    · replace hS := cond_t hc hS
      refine zlRun (n := 14) (j := 23) rfl (by kernel_rfl) ?_
      refine zlEnd (by kernel_rfl) ?_
      refine zkSeq ?_
      refine zrCondT (by kernel_rfl) ?_
      refine zrSkip ?_
      refine zkSeq ?_
      exact f14_l1_j2_ok hd a1 hQ x.1 x.2 hS (by kernel_rfl)
    · replace hS := cond_f hc hS
      refine zlRun (n := 3) (j := 12) rfl (by kernel_rfl) ?_
      refine bindE hS (fun z27 hz27 hS => ?_)
      refine zlOp (d := some 18) (op := (.ixStr (.tmp 16) (.tmp 17))) (g := (some (15, false))) (v := (.d (.int .u8 (z27.toNat : Int)))) (ups := []) (j := 13) rfl (by kernel_rfl) (by kernel_rfl) (ev_ixStr (kk := .i64) (s := a1) (j := x.2) (by kernel_rfl) (by kernel_rfl) hz27) ?_
      refine zlBool (d := 19) (op := (.cmpI .eql (.tmp 18) (.const (.int .u8 2)))) (g := (some (15, false))) (j := 14) (decide ((z27.toNat : Int) = 2)) rfl (by kernel_rfl) (by kernel_rfl) (by kernel_rfl) (fun hc => ?_) (fun hc => ?_)
      · replace hS := cond_t hc hS
        refine zlRun (n := 5) (j := 19) rfl (by kernel_rfl) ?_
        refine zlBool (d := 25) (op := (.cmpI .lss (.tmp 22) (.tmp 24))) (g := (some (20, true))) (j := 20) (decide ((IntKind.i64.wrap (x.2 + 1)) < (a1.length : Int))) rfl (by kernel_rfl) (by kernel_rfl) (by kernel_rfl) (fun hc => ?_) (fun hc => ?_)
        · replace hS := cond_t hc hS
          refine zlRun (n := 3) (j := 23) rfl (by kernel_rfl) ?_
          refine zlEnd (by kernel_rfl) ?_
          refine zkSeq ?_
          refine zrCondT (by kernel_rfl) ?_
          refine zrSkip ?_
          refine zkSeq ?_
          exact f14_l1_j2_ok hd a1 hQ x.1 x.2 hS (by kernel_rfl)
        · replace hS := cond_f hc hS
          refine zlRun (n := 3) (j := 23) rfl (by kernel_rfl) ?_
          refine zlEnd (by kernel_rfl) ?_
          refine zkSeq ?_
          refine zrCondF (by kernel_rfl) ?_
          refine zrKeep (J := f14_l1_e0_J a1 x.1 x.2) (by kernel_rfl) ?_
          refine zrExit ?_
          refine zkSeqX ?_
          refine zkNil ?_
          exact endQ hS hQ (finL_x (by intro h; cases h) (by show _ = _ ∧ _ = _; exact ⟨rfl, rfl⟩))
      · replace hS := cond_f hc hS
        refine zlRun (n := 9) (j := 23) rfl (by kernel_rfl) ?_
        refine zlEnd (by kernel_rfl) ?_
        refine zkSeq ?_
        refine zrCondF (by kernel_rfl) ?_
        refine zrKeep (J := f14_l1_e0_J a1 x.1 x.2) (by kernel_rfl) ?_
        refine zrExit ?_
        refine zkSeqX ?_
        refine zkNil ?_
        exact endQ hS hQ (finL_x (by intro h; cases h) (by show _ = _ ∧ _ = _; exact ⟨rfl, rfl⟩))
  · replace hS := cond_f hc hS
    refine zlRun (n := 19) (j := 23) rfl (by kernel_rfl) ?_
    refine zlEnd (by kernel_rfl) ?_
    refine zkSeq ?_
    refine zrCondF (by kernel_rfl) ?_
    refine zrKeep (J := f14_l1_e0_J a1 x.1 x.2) (by kernel_rfl) ?_
    refine zrExit ?_
    refine zkSeqX ?_
    refine zkNil ?_
    exact endQ hS hQ (finL_x (by intro h; cases h) (by show _ = _ ∧ _ = _; exact ⟨rfl, rfl⟩))
noncomputable def f14 (a1 : List UInt8) : Option ((List UInt8) × (List UInt8)) := ((loopO (f14_l1 a1) ([], 0)).bind fun z28 => (f14_j0 a1 z28.1 z28.2))
theorem f14_ok (base : Orc) (d : Nat) (hd : 1 ≤ d) (a1 : List UInt8) (r : (List UInt8) × (List UInt8)) (hS : f14 a1 = some r) : lev codes base d 14 [(.d (.str a1))] [] = some ((.tup [(.d (.str r.1)), (.d (.str r.2))]), []) := by
  refine lev_go codes14 rfl rfl (Nat.le_trans (Nat.le_of_ble_eq_true rfl) hd) fun Q hQ => ?_
  unfold f14 at hS
  show ZR _ Q c14_b [] _
  replace hQ : ∀ e st', f14_Q r e st' → Q e st' := hQ
  refine zrSeq ?_
  refine zrReg ?_
  refine zlRun (n := 2) (j := 2) rfl (by kernel_rfl) ?_
  refine zlEnd (by kernel_rfl) ?_
  refine zkSeq ?_
  refine zrSeq ?_
  refine zrReg ?_
  refine zlRun (n := 1) (j := 1) rfl (by kernel_rfl) ?_
  refine zlEnd (by kernel_rfl) ?_
  refine zkSeq ?_
  refine zrSeq ?_
  refine zrReg ?_
  refine zlRun (n := 1) (j := 1) rfl (by kernel_rfl) ?_
  refine zlEnd (by kernel_rfl) ?_
  refine zkSeq ?_
  refine zrSeq ?_
  refine zrBlk ?_
  refine bindE hS (fun z28 hz28 hS => ?_)
  refine zrLoop (f14_l1_H a1) (f14_l1_X a1) (fun x st r Q h0 hS hQ => f14_l1_ok hd a1 hQ hS h0) (x := ([], 0)) (z := z28) (by show keepSt _ _ _ _ = _; kernel_rfl) hz28 ?_
  intro e st' _ hX
  obtain ⟨rfl, rfl⟩ : _ ∧ _ := hX
  refine zkBlkX ?_
  refine zkSeq ?_
  exact f14_j0_ok hd a1 hQ z28.1 z28.2 hS (by kernel_rfl)
/- farwriter/environ.Write$1 -/
def f16_fin (p2 : Bool) : St := ⟨(up (fun _ => .un) 2 (.d (.bool p2))), (hB fun _ => 0)⟩
theorem f16_out (p2 : Bool) : outR (f16_fin p2) 0 c16.res = some ((.d (.bool p2)), []) := by
  kernel_rfl
def f16_Q (r : Bool) (e : PX) (st : St) : Prop := DoneF c16 0 ((.d (.bool r)), []) e st
noncomputable def f16 (a1 : GVar) : Option (Bool) := (bif (decide (200 < (a1.Name.length : Int))) then (some true) else (bif (decide (200 < (a1.Value.length : Int))) then (some true) else (some false)))
theorem f16_ok (base : Orc) (d : Nat) (hd : 1 ≤ d) (a1 : GVar) (r : Bool) (hS : f16 a1 = some r) : lev codes base d 16 [(.agg ((.d (.str a1.Name)) :: ((.d (.str a1.Value)) :: ((.d (.bool a1.User)) :: ((.d (.bool a1.Set)) :: [])))))] [] = some ((.d (.bool r)), []) := by
  refine lev_go codes16 rfl rfl (Nat.le_trans (Nat.le_of_ble_eq_true rfl) hd) fun Q hQ => ?_
  unfold f16 at hS
  show ZR _ Q c16_b [] _
  replace hQ : ∀ e st', f16_Q r e st' → Q e st' := hQ
  refine zrSeq ?_
  refine zrReg ?_
  refine zlRun (n := 2) (j := 2) rfl (by kernel_rfl) ?_
  refine zlEnd (by kernel_rfl) ?_
  refine zkSeq ?_
  refine zrSeq ?_
  refine zrReg ?_
  refine zlRun (n := 3) (j := 3) rfl (by kernel_rfl) ?_
  refine zlBool (d := 6) (op := (.cmpI .gtr (.tmp 5) (.const (.int .i64 200)))) (g := none) (j := 4) (decide (200 < (a1.Name.length : Int))) rfl (by kernel_rfl) (by kernel_rfl) (by kernel_rfl) (fun hc => ?_) (fun hc => ?_)
  · replace hS := cond_t hc hS
    refine zlRun (n := 7) (j := 11) rfl (by kernel_rfl) ?_
    refine zlEnd (by kernel_rfl) ?_
    refine zkSeq ?_
    refine zrRet ?_
    refine zkNil ?_
    exact endQ hS hQ (fRet (by kernel_rfl) ((congrArg (fun s => outR s 0 c16.res) (by kernel_rfl : finSt c16.fin _ = f16_fin true)).trans (f16_out true)))
  · replace hS := cond_f hc hS
    refine zlRun (n := 4) (j := 8) rfl (by kernel_rfl) ?_
    refine zlBool (d := 11) (op := (.cmpI .gtr (.tmp 10) (.const (.int .i64 200)))) (g := (some (7, false))) (j := 9) (decide (200 < (a1.Value.length : Int))) rfl (by kernel_rfl) (by kernel_rfl) (by kernel_rfl) (fun hc => ?_) (fun hc => ?_)
    · replace hS := cond_t hc hS
      refine zlRun (n := 2) (j := 11) rfl (by kernel_rfl) ?_
      refine zlEnd (by kernel_rfl) ?_
      refine zkSeq ?_
      refine zrRet ?_
      refine zkNil ?_
      exact endQ hS hQ (fRet (by kernel_rfl) ((congrArg (fun s => outR s 0 c16.res) (by kernel_rfl : finSt c16.fin _ = f16_fin true)).trans (f16_out true)))
    · replace hS := cond_f hc hS
      refine zlRun (n := 2) (j := 11) rfl (by kernel_rfl) ?_
      refine zlEnd (by kernel_rfl) ?_
      refine zkSeq ?_
      refine zrRet ?_
      refine zkNil ?_
      exact endQ hS hQ (fRet (by kernel_rfl) ((congrArg (fun s => outR s 0 c16.res) (by kernel_rfl : finSt c16.fin _ = f16_fin false)).trans (f16_out false)))
/- slices.IndexFunc[[]farwriter/api.Var,farwriter/api.Var] -/
def f21_fin (p8 : Int) : St := ⟨(up (fun _ => .un) 4 (.d (.int .i64 p8))), (hB fun _ => 0)⟩
theorem f21_out (p8 : Int) : outR (f21_fin p8) 0 c21.res = some ((.d (.int .i64 p8)), []) := by
  kernel_rfl
def f21_Q (r : Int) (e : PX) (st : St) : Prop := DoneF c21 0 ((.d (.int .i64 r)), []) e st
def f21_l0_J (a1 : List GVar) (x : Int) : St := ⟨(up (up (up (up (fun _ => .un) 8 (.d (.int .i64 x))) 7 (.d (.int .i64 (a1.length : Int)))) 1 (.fn 16 [])) 0 (.d (.sl a1.length (e_GVar.cells a1)))), (hB fun _ => 0)⟩
def f21_l0_H (a1 : List GVar) (x : Int) (st : St) : Prop := keepSt [0, 1, 7, 8] [] [] st = f21_l0_J a1 x
def f21_l0_e0_J (a1 : List GVar) : St := ⟨(fun _ => .un), (hB fun _ => 0)⟩
def f21_l0_X (a1 : List GVar) (z : Unit ⊕ Int) (e : PX) (st : St) : Prop := (match z with | .inl z => e = .exit 0 ∧ st = f21_l0_e0_J a1 | .inr z => e = .ret ∧ finSt c21.fin st = f21_fin z)
def f21_l0_j2_J (a1 : List GVar) (p13 : Int) : St := ⟨(up (up (up (up (fun _ => .un) 8 (.d (.int .i64 p13))) 7 (.d (.int .i64 (a1.length : Int)))) 1 (.fn 16 [])) 0 (.d (.sl a1.length (e_GVar.cells a1)))), (hB fun _ => 0)⟩
noncomputable def f21_l0_j2 (a1 : List GVar) (p13 : Int) : Option (Int ⊕ (Unit ⊕ Int)) := ((idx a1 p13).bind fun z7 => ((f16 z7).bind fun z8 => (bif z8 then (some (.inr (.inr p13))) else (some (.inl (IntKind.i64.wrap (p13 + 1)))))))
theorem f21_l0_j2_ok {base : Orc} {d : Nat} (hd : 2 ≤ d) (a1 : List GVar) {r : Int ⊕ (Unit ⊕ Int)} {Q : PX → St → Prop} (hQ : ∀ e st', finL (f21_l0_H a1) (f21_l0_X a1) r e st' → Q e st') (p13 : Int) (hS : f21_l0_j2 a1 p13 = some r) {st : St} (he : keepSt [0, 1, 7, 8] [] [] st = f21_l0_j2_J a1 p13) : ZR (lev codes base (d - 1)) Q c21_1 [] st := by
  refine zrKeep he ?_
  unfold f21_l0_j2 at hS
  refine zrSeq ?_
  refine zrBlk ?_
  refine zrSeq ?_
  refine zrReg ?_
  refine zlRun (n := 2) (j := 2) rfl (by kernel_rfl) ?_
  refine zlEnd (by kernel_rfl) ?_
  refine zkSeq ?_
  refine zrSeq ?_
  refine zrReg ?_
  refine zlRun (n := 3) (j := 3) rfl (by kernel_rfl) ?_
  refine bindE hS (fun z7 hz7 hS => ?_)
  refine zlOp (d := some 14) (op := (.ixS 25 4 (.tmp 12) (.tmp 13))) (g := none) (v := (.rptr (e_GVar.enc z7 ++ (e_GVar.cells (a1.drop ((p13 : Int).toNat + 1)))))) (ups := []) (j := 4) rfl (by kernel_rfl) (by kernel_rfl) (ev_ixS e_GVar (kk := .i64) (xs := a1) (j := p13) (by kernel_rfl) (by kernel_rfl) hz7 rfl (by intro h; cases h)) ?_
  refine zlRun (n := 1) (j := 5) rfl (by kernel_rfl) ?_
  refine bindE hS (fun z8 hz8 hS => ?_)
  refine zlOp (d := some 16) (op := (.callv (.tmp 11) [(.tmp 15)])) (g := none) (v := (.d (.bool z8))) (ups := []) (j := 6) rfl (by kernel_rfl) (by kernel_rfl) (ev_callv (f := 16) (cs := []) (by kernel_rfl) (args := [(.agg ((.d (.str z7.Name)) :: ((.d (.str z7.Value)) :: ((.d (.bool z7.User)) :: ((.d (.bool z7.Set)) :: [])))))]) (l := [(.agg ((.d (.str z7.Name)) :: ((.d (.str z7.Value)) :: ((.d (.bool z7.User)) :: ((.d (.bool z7.Set)) :: [])))))]) (r := (.d (.bool z8))) (by kernel_rfl) (by kernel_rfl) (f16_ok base (d - 1) (dpt hd rfl) z7 z8 hz8) (by kernel_rfl) (by kernel_rfl) (by kernel_rfl)) ?_
  refine zlEnd (by kernel_rfl) ?_
  refine zkSeq ?_
  refine zrSplit 16 z8 (by kernel_rfl) (fun hc => ?_) (fun hc => ?_)
  · replace hS := cond_t hc hS
    refine zrCondT (by kernel_rfl) ?_
    refine zrSeq ?_
    refine zrReg ?_
    refine zlRun (n := 2) (j := 2) rfl (by kernel_rfl) ?_
    refine zlEnd (by kernel_rfl) ?_
    refine zkSeq ?_
    refine zrRet ?_
    refine zkBlkR ?_
    refine zkSeqR ?_
    refine zkNil ?_
    exact endQ hS hQ (finL_x (by intro h; cases h) (by show _ = _ ∧ _ = _; exact ⟨rfl, by kernel_rfl⟩))
  · replace hS := cond_f hc hS
    refine zrCondF (by kernel_rfl) ?_
    refine zrSkip ?_
    refine zkBlk ?_
    refine zkSeq ?_
    refine zrReg ?_
    refine zlRun (n := 2) (j := 2) rfl (by kernel_rfl) ?_
    refine zlEnd (by kernel_rfl) ?_
    refine zkNil ?_
    exact endQ hS hQ (finL_n (by show keepSt _ _ _ _ = _; kernel_rfl))
def f21_l0_j1_J (a1 : List GVar) (p11 : Int) (p12 : Bool) : St := ⟨(up (up (up (up (up (fun _ => .un) 9 (.d (.bool p12))) 8 (.d (.int .i64 p11))) 7 (.d (.int .i64 (a1.length : Int)))) 1 (.fn 16 [])) 0 (.d (.sl a1.length (e_GVar.cells a1)))), (hB fun _ => 0)⟩
noncomputable def f21_l0_j1 (a1 : List GVar) (p11 : Int) (p12 : Bool) : Option (Int ⊕ (Unit ⊕ Int)) := (bif p12 then (f21_l0_j2 a1 p11) else (some (.inr (.inl ()))))
theorem f21_l0_j1_ok {base : Orc} {d : Nat} (hd : 2 ≤ d) (a1 : List GVar) {r : Int ⊕ (Unit ⊕ Int)} {Q : PX → St → Prop} (hQ : ∀ e st', finL (f21_l0_H a1) (f21_l0_X a1) r e st' → Q e st') (p11 : Int) (p12 : Bool) (hS : f21_l0_j1 a1 p11 p12 = some r) {st : St} (he : keepSt [0, 1, 7, 8, 9] [] [] st = f21_l0_j1_J a1 p11 p12) : ZR (lev codes base (d - 1)) Q c21_2 [] st := by
  refine zrKeep he ?_
  unfold f21_l0_j1 at hS
  refine zrSeq ?_
  refine zrSplit 9 p12 (by kernel_rfl) (fun hc => ?_) (fun hc => ?_)
  · replace hS := cond_t hc hS
    refine zrCondT (by kernel_rfl) ?_
    refine zrSkip ?_
    refine zkSeq ?_
    exact f21_l0_j2_ok hd a1 hQ p11 hS (by kernel_rfl)
  · replace hS := cond_f hc hS
    refine zrCondF (by kernel_rfl) ?_
    refine zrKeep (J := f21_l0_e0_J a1) (by kernel_rfl) ?_
    refine zrExit ?_
    refine zkSeqX ?_
    refine zkNil ?_
    exact endQ hS hQ (finL_x (by intro h; cases h) (by show _ = _ ∧ _ = _; exact ⟨rfl, rfl⟩))
noncomputable def f21_l0 (a1 : List GVar) (x : Int) : Option (Int ⊕ (Unit ⊕ Int)) := (bif (decide (x < (a1.length : Int))) then (f21_l0_j1 a1 x true) else (f21_l0_j1 a1 x false))
theorem f21_l0_ok {base : Orc} {d : Nat} (hd : 2 ≤ d) (a1 : List GVar) {r : Int ⊕ (Unit ⊕ Int)} {Q : PX → St → Prop} (hQ : ∀ e st', finL (f21_l0_H a1) (f21_l0_X a1) r e st' → Q e st') {x : Int} (hS : f21_l0 a1 x = some r) {st : St} (he : f21_l0_H a1 x st) : ZR (lev codes base (d - 1)) Q c21_3 [] st := by
  refine zrKeep he ?_
  unfold f21_l0 at hS
  refine zrSeq ?_
  refine zrReg ?_
  refine zlBool (d := 9) (op := (.cmpI .lss (.tmp 8) (.tmp 7))) (g := none) (j := 1) (decide (x < (a1.length : Int))) rfl (by kernel_rfl) (by kernel_rfl) (by kernel_rfl) (fun hc => ?_) (fun hc => ?_)
  · replace hS := cond_t hc hS
    refine zlEnd (by kernel_rfl) ?_
    refine zkSeq ?_
    exact f21_l0_j1_ok hd a1 hQ x true hS (by kernel_rfl)
  · replace hS := cond_f hc hS
    refine zlEnd (by kernel_rfl) ?_
    refine zkSeq ?_
    exact f21_l0_j1_ok hd a1 hQ x false hS (by kernel_rfl)
noncomputable def f21 (a1 : List GVar) : Option (Int) := ((loopO (f21_l0 a1) 0).bind fun z9 => (Sum.elim (fun z10 => (some (-1))) (fun z11 => (some z11)) z9))
theorem f21_ok (base : Orc) (d : Nat) (hd : 2 ≤ d) (a1 : List GVar) (r : Int) (hS : f21 a1 = some r) : lev codes base d 21 [(.d (.sl a1.length (e_GVar.cells a1))), (.fn 16 [])] [] = some ((.d (.int .i64 r)), []) := by
  refine lev_go codes21 rfl rfl (Nat.le_trans (Nat.le_of_ble_eq_true rfl) hd) fun Q hQ => ?_
  unfold f21 at hS
  show ZR _ Q c21_b [] _
  replace hQ : ∀ e st', f21_Q r e st' → Q e st' := hQ
  refine zrSeq ?_
  refine zrReg ?_
  refine zlRun (n := 1) (j := 1) rfl (by kernel_rfl) ?_
  refine zlEnd (by kernel_rfl) ?_
  refine zkSeq ?_
  refine zrSeq ?_
  refine zrSeq ?_
  refine zrReg ?_
  refine zlRun (n := 3) (j := 3) rfl (by kernel_rfl) ?_
  refine zlEnd (by kernel_rfl) ?_
  refine zkSeq ?_
  refine zrBlk ?_
  refine bindE hS (fun z9 hz9 hS => ?_)
  refine zrLoop (f21_l0_H a1) (f21_l0_X a1) (fun x st r Q h0 hS hQ => f21_l0_ok hd a1 hQ hS h0) (x := 0) (z := z9) (by show keepSt _ _ _ _ = _; kernel_rfl) hz9 ?_
  rcases z9 with z10 | z11
  · replace hS := (show _ = _ from hS)
    simp only [Sum.elim_inl] at hS
    intro e st' _ hX
    obtain ⟨rfl, rfl⟩ : _ ∧ _ := hX
    refine zkBlkX ?_
    refine zkSeq ?_
    refine zrSeq ?_
    refine zrReg ?_
    refine zlRun (n := 1) (j := 1) rfl (by kernel_rfl) ?_
    refine zlEnd (by kernel_rfl) ?_
    refine zkSeq ?_
    refine zrRet ?_
    refine zkNil ?_
    exact endQ hS hQ (fRet (by kernel_rfl) ((congrArg (fun s => outR s 0 c21.res) (by kernel_rfl : finSt c21.fin _ = f21_fin (-1))).trans (f21_out (-1))))
  · simp only [Sum.elim_inr] at hS
    intro e st' _ hX
    obtain ⟨rfl, hX⟩ : _ ∧ _ := hX
    refine zkBlkR ?_
    refine zkSeqR ?_
    refine zkNil ?_
    exact endQ hS hQ (fRet (by kernel_rfl) ((congrArg (fun s => outR s 0 c21.res) hX).trans (f21_out z11)))
/- slices.ContainsFunc[[]farwriter/api.Var,farwriter/api.Var] -/
def f15_fin (p2 : Bool) : St := ⟨(up (fun _ => .un) 4 (.d (.bool p2))), (hB fun _ => 0)⟩
theorem f15_out (p2 : Bool) : outR (f15_fin p2) 0 c15.res = some ((.d (.bool p2)), []) := by
  kernel_rfl
def f15_Q (r : Bool) (e : PX) (st : St) : Prop := DoneF c15 0 ((.d (.bool r)), []) e st
noncomputable def f15 (a1 : List GVar) : Option (Bool) := ((f21 a1).bind fun z2 => (bif (decide (0 ≤ z2)) then (some true) else (some false)))
theorem f15_ok (base : Orc) (d : Nat) (hd : 3 ≤ d) (a1 : List GVar) (r : Bool) (hS : f15 a1 = some r) : lev codes base d 15 [(.d (.sl a1.length (e_GVar.cells a1))), (.fn 16 [])] [] = some ((.d (.bool r)), []) := by
  refine lev_go codes15 rfl rfl (Nat.le_trans (Nat.le_of_ble_eq_true rfl) hd) fun Q hQ => ?_
  unfold f15 at hS
  show ZR _ Q c15_b [] _
  replace hQ : ∀ e st', f15_Q r e st' → Q e st' := hQ
  refine zrSeq ?_
  refine zrReg ?_
  refine zlRun (n := 1) (j := 1) rfl (by kernel_rfl) ?_
  refine zlEnd (by kernel_rfl) ?_
  refine zkSeq ?_
  refine zrSeq ?_
  refine zrReg ?_
  refine zlRun (n := 2) (j := 2) rfl (by kernel_rfl) ?_
  refine bindE hS (fun z2 hz2 hS => ?_)
  refine zlOp (d := some 7) (op := (.call 21 [(.tmp 5), (.tmp 6)])) (g := none) (j := 3) rfl (by kernel_rfl) (by kernel_rfl) (ev_callA (by kernel_rfl) (f21_ok base (d - 1) (dpt hd rfl) a1 z2 hz2) (by kernel_rfl) (by kernel_rfl)) ?_
  refine zlBool (d := 8) (op := (.cmpI .geq (.tmp 7) (.const (.int .i64 0)))) (g := none) (j := 4) (decide (0 ≤ z2)) rfl (by kernel_rfl) (by kernel_rfl) (by kernel_rfl) (fun hc => ?_) (fun hc => ?_)
  · replace hS := cond_t hc hS
    refine zlRun (n := 1) (j := 5) rfl (by kernel_rfl) ?_
    refine zlEnd (by kernel_rfl) ?_
    refine zkSeq ?_
    refine zrRet ?_
    refine zkNil ?_
    exact endQ hS hQ (fRet (by kernel_rfl) ((congrArg (fun s => outR s 0 c15.res) (by kernel_rfl : finSt c15.fin _ = f15_fin true)).trans (f15_out true)))
  · replace hS := cond_f hc hS
    refine zlRun (n := 1) (j := 5) rfl (by kernel_rfl) ?_
    refine zlEnd (by kernel_rfl) ?_
    refine zkSeq ?_
    refine zrRet ?_
    refine zkNil ?_
    exact endQ hS hQ (fRet (by kernel_rfl) ((congrArg (fun s => outR s 0 c15.res) (by kernel_rfl : finSt c15.fin _ = f15_fin false)).trans (f15_out false)))
/- farwriter/environ.escape -/
def f17_fin (p29 : List UInt8) : St := ⟨(up (up (fun _ => .un) 1000000 .un) 4 (.r (.msl 0 1 0 p29.length))), (up (hB fun _ => 0) 0 ⟨1, some (.own 5 1 (eU8.cells p29))⟩)⟩
theorem f17_out (p29 : List UInt8) : outR (f17_fin p29) 1 c17.res = some ((.r (.msl 0 0 0 p29.length)), [(.own 5 1 (eU8.cells p29))]) := by
  kernel_rfl
def f17_Q (r : (List UInt8)) (e : PX) (st : St) : Prop := DoneF c17 1 ((.r (.msl 0 0 0 r.length)), [(.own 5 1 (eU8.cells r))]) e st
def f17_l0_J (a1 : List UInt8) (a2 : List UInt8) (x : (List UInt8) × Int) : St := ⟨(up (up (up (up (up (fun _ => .un) 1000000 .un) 8 (.d (.int .i64 x.2))) 7 (.d (.int .i64 (a1.length : Int)))) 1 (.d (.str a1))) 0 (.r (.msl 0 1 0 x.1.length))), (up (hB fun _ => 0) 0 ⟨1, some (.own 5 1 (eU8.cells x.1))⟩)⟩
def f17_l0_H (a1 : List UInt8) (a2 : List UInt8) (x : (List UInt8) × Int) (st : St) : Prop := keepSt [0, 1, 7, 8, 1000000] [(0, .id 0)] [] st = f17_l0_J a1 a2 x
def f17_l0_e0_J (a1 : List UInt8) (a2 : List UInt8) (p28 : List UInt8) : St := ⟨(up (up (fun _ => .un) 1000000 .un) 0 (.r (.msl 0 1 0 p28.length))), (up (hB fun _ => 0) 0 ⟨1, some (.own 5 1 (eU8.cells p28))⟩)⟩
def f17_l0_X (a1 : List UInt8) (a2 : List UInt8) (z : ((List UInt8))) (e : PX) (st : St) : Prop := e = .exit 0 ∧ st = f17_l0_e0_J a1 a2 z
def f17_l0_j3_J (a1 : List UInt8) (a2 : List UInt8) (p45 : List UInt8) (p46 : Int) (p47 : Int) : St := ⟨(up (up (up (up (up (up (fun _ => .un) 1000000 .un) 8 (.d (.int .i64 p47))) 7 (.d (.int .i64 (a1.length : Int)))) 5 (.d (.int .i64 p46))) 1 (.d (.str a1))) 0 (.r (.msl 0 1 0 p45.length))), (up (hB fun _ => 0) 0 ⟨1, some (.own 5 1 (eU8.cells p45))⟩)⟩
noncomputable def f17_l0_j3 (a1 : List UInt8) (a2 : List UInt8) (p45 : List UInt8) (p46 : Int) (p47 : Int) : Option (((List UInt8) × Int) ⊕ (((List UInt8)))) := ((idx a1 p46).bind fun z15 => ((app? 1 p45 ([z15] : List UInt8)).bind fun z16 => (some (.inl (z16, (IntKind.i64.wrap (p47 + 1)))))))
theorem f17_l0_j3_ok {base : Orc} {d : Nat} (hd : 1 ≤ d) (a1 : List UInt8) (a2 : List UInt8) {r : ((List UInt8) × Int) ⊕ (((List UInt8)))} {Q : PX → St → Prop} (hQ : ∀ e st', finL (f17_l0_H a1 a2) (f17_l0_X a1 a2) r e st' → Q e st') (p45 : List UInt8) (p46 : Int) (p47 : Int) (hS : f17_l0_j3 a1 a2 p45 p46 p47 = some r) {st : St} (he : keepSt [0, 1, 5, 7, 8, 1000000] [(0, .id 0)] [] st = f17_l0_j3_J a1 a2 p45 p46 p47) : ZR (lev codes base (d - 1)) Q c17_1 [.blk 1, .seq c17_2] st := by
  refine zrKeep he ?_
  unfold f17_l0_j3 at hS
  refine zrReg ?_
  refine zlRun (n := 3) (j := 3) rfl (by kernel_rfl) ?_
  refine bindE hS (fun z15 hz15 hS => ?_)
  refine zlOp (d := some 21) (op := (.ixStr (.tmp 19) (.tmp 20))) (g := none) (v := (.d (.int .u8 (z15.toNat : Int)))) (ups := []) (j := 4) rfl (by kernel_rfl) (by kernel_rfl) (ev_ixStr (kk := .i64) (s := a1) (j := p46) (by kernel_rfl) (by kernel_rfl) hz15) ?_
  refine zlRun (n := 1) (j := 5) rfl (by kernel_rfl) ?_
  refine bindE hS (fun z16 hz16 hS => ?_)
  refine zlOp (d := some 23) (op := (.app 5 1 1 (.tmp 18) (.tmp 22))) (g := none) (v := (.r (.msl 0 2 0 z16.length))) (ups := [(0, ⟨2, some (.own 5 1 (eU8.cells z16))⟩)]) (j := 6) rfl (by kernel_rfl) (by kernel_rfl) (ev_app eU8 (b := 0) (g := 1) (n := p45.length) (xs := p45) (ys := [z15]) ((congrArg (asL _) (by kernel_rfl : ρof _ (.tmp 22) = (.r (.msl 184 1 0 (([z15] : List UInt8).length))))).trans (as_whole eU8 (e := 5) (k := 1) (xs := [z15]) (by kernel_rfl) rfl rfl)) rfl (by kernel_rfl) rfl (by kernel_rfl) rfl hz16) ?_
  refine zlRun (n := 1) (j := 7) rfl (by kernel_rfl) ?_
  refine zlEnd (by kernel_rfl) ?_
  refine zkBlk ?_
  refine zkSeq ?_
  refine zrReg ?_
  refine zlRun (n := 2) (j := 2) rfl (by kernel_rfl) ?_
  refine zlEnd (by kernel_rfl) ?_
  refine zkNil ?_
  exact endQ hS hQ (finL_n (by show keepSt _ _ _ _ = _; kernel_rfl))
def f17_l0_j2_J (a1 : List UInt8) (a2 : List UInt8) (p36 : List UInt8) (p37 : Int) : St := ⟨(up (up (up (up (up (fun _ => .un) 1000000 .un) 8 (.d (.int .i64 p37))) 7 (.d (.int .i64 (a1.length : Int)))) 1 (.d (.str a1))) 0 (.r (.msl 0 1 0 p36.length))), (up (hB fun _ => 0) 0 ⟨1, some (.own 5 1 (eU8.cells p36))⟩)⟩
noncomputable def f17_l0_j2 (a1 : List UInt8) (a2 : List UInt8) (p36 : List UInt8) (p37 : Int) : Option (((List UInt8) × Int) ⊕ (((List UInt8)))) := ((idx a1 p37).bind fun z17 => (bif (decide ((z17.toNat : Int) ≤ 3)) then ((app? 1 p36 ([2] : List UInt8)).bind fun z18 => (f17_l0_j3 a1 a2 z18 p37 p37)) else (f17_l0_j3 a1 a2 p36 p37 p37)))
theorem f17_l0_j2_ok {base : Orc} {d : Nat} (hd : 1 ≤ d) (a1 : List UInt8) (a2 : List UInt8) {r : ((List UInt8) × Int) ⊕ (((List UInt8)))} {Q : PX → St → Prop} (hQ : ∀ e st', finL (f17_l0_H a1 a2) (f17_l0_X a1 a2) r e st' → Q e st') (p36 : List UInt8) (p37 : Int) (hS : f17_l0_j2 a1 a2 p36 p37 = some r) {st : St} (he : keepSt [0, 1, 7, 8, 1000000] [(0, .id 0)] [] st = f17_l0_j2_J a1 a2 p36 p37) : ZR (lev codes base (d - 1)) Q c17_3 [] st := by
  refine zrKeep he ?_
  unfold f17_l0_j2 at hS
  refine zrSeq ?_
  refine zrBlk ?_
  refine zrSeq ?_
  refine zrReg ?_
  refine zlRun (n := 2) (j := 2) rfl (by kernel_rfl) ?_
  refine zlEnd (by kernel_rfl) ?_
  refine zkSeq ?_
  refine zrSeq ?_
  refine zrSeq ?_
  refine zrReg ?_
  refine zlRun (n := 2) (j := 2) rfl (by kernel_rfl) ?_
  refine bindE hS (fun z17 hz17 hS => ?_)
  refine zlOp (d := some 13) (op := (.ixStr (.tmp 11) (.tmp 12))) (g := none) (v := (.d (.int .u8 (z17.toNat : Int)))) (ups := []) (j := 3) rfl (by kernel_rfl) (by kernel_rfl) (ev_ixStr (kk := .i64) (s := a1) (j := p37) (by kernel_rfl) (by kernel_rfl) hz17) ?_
  refine zlBool (d := 14) (op := (.cmpI .leq (.tmp 13) (.const (.int .u8 3)))) (g := none) (j := 4) (decide ((z17.toNat : Int) ≤ 3)) rfl (by kernel_rfl) (by kernel_rfl) (by kernel_rfl) (fun hc => ?_) (fun hc => ?_)
  · replace hS := cond_t hc hS
    refine zlEnd (by kernel_rfl) ?_
    refine zkSeq ?_
    refine zrCondT (by kernel_rfl) ?_
    refine zrReg ?_
    refine zlRun (n := 2) (j := 2) rfl (by kernel_rfl) ?_
    refine bindE hS (fun z18 hz18 hS => ?_)
    refine zlOp (d := some 17) (op := (.app 5 1 1 (.tmp 15) (.tmp 16))) (g := none) (v := (.r (.msl 0 2 0 z18.length))) (ups := [(0, ⟨2, some (.own 5 1 (eU8.cells z18))⟩)]) (j := 3) rfl (by kernel_rfl) (by kernel_rfl) (ev_app eU8 (b := 0) (g := 1) (n := p36.length) (xs := p36) (ys := [2]) ((congrArg (asL _) (by kernel_rfl : ρof _ (.tmp 16) = (.r (.msl 136 1 0 (([2] : List UInt8).length))))).trans (as_whole eU8 (e := 5) (k := 1) (xs := [2]) (by kernel_rfl) rfl rfl)) rfl (by kernel_rfl) rfl (by kernel_rfl) rfl hz18) ?_
    refine zlRun (n := 1) (j := 4) rfl (by kernel_rfl) ?_
    refine zlEnd (by kernel_rfl) ?_
    refine zkSeq ?_
    exact f17_l0_j3_ok hd a1 a2 hQ z18 p37 p37 hS (by kernel_rfl)
  · replace hS := cond_f hc hS
    refine zlEnd (by kernel_rfl) ?_
    refine zkSeq ?_
    refine zrCondF (by kernel_rfl) ?_
    refine zrSkip ?_
    refine zkSeq ?_
    exact f17_l0_j3_ok hd a1 a2 hQ p36 p37 p37 hS (by kernel_rfl)
def f17_l0_j1_J (a1 : List UInt8) (a2 : List UInt8) (p33 : List UInt8) (p34 : Int) (p35 : Bool) : St := ⟨(up (up (up (up (up (up (fun _ => .un) 1000000 .un) 9 (.d (.bool p35))) 8 (.d (.int .i64 p34))) 7 (.d (.int .i64 (a1.length : Int)))) 1 (.d (.str a1))) 0 (.r (.msl 0 1 0 p33.length))), (up (hB fun _ => 0) 0 ⟨1, some (.own 5 1 (eU8.cells p33))⟩)⟩
noncomputable def f17_l0_j1 (a1 : List UInt8) (a2 : List UInt8) (p33 : List UInt8) (p34 : Int) (p35 : Bool) : Option (((List UInt8) × Int) ⊕ (((List UInt8)))) := (bif p35 then (f17_l0_j2 a1 a2 p33 p34) else (some (.inr p33)))
theorem f17_l0_j1_ok {base : Orc} {d : Nat} (hd : 1 ≤ d) (a1 : List UInt8) (a2 : List UInt8) {r : ((List UInt8) × Int) ⊕ (((List UInt8)))} {Q : PX → St → Prop} (hQ : ∀ e st', finL (f17_l0_H a1 a2) (f17_l0_X a1 a2) r e st' → Q e st') (p33 : List UInt8) (p34 : Int) (p35 : Bool) (hS : f17_l0_j1 a1 a2 p33 p34 p35 = some r) {st : St} (he : keepSt [0, 1, 7, 8, 9, 1000000] [(0, .id 0)] [] st = f17_l0_j1_J a1 a2 p33 p34 p35) : ZR (lev codes base (d - 1)) Q c17_4 [] st := by
  refine zrKeep he ?_
  unfold f17_l0_j1 at hS
  refine zrSeq ?_
  refine zrSplit 9 p35 (by kernel_rfl) (fun hc => ?_) (fun hc => ?_)
  · replace hS := cond_t hc hS
    refine zrCondT (by kernel_rfl) ?_
    refine zrSkip ?_
    refine zkSeq ?_
    exact f17_l0_j2_ok hd a1 a2 hQ p33 p34 hS (by kernel_rfl)
  · replace hS := cond_f hc hS
    refine zrCondF (by kernel_rfl) ?_
    refine zrKeep (J := f17_l0_e0_J a1 a2 p33) (by kernel_rfl) ?_
    refine zrExit ?_
    refine zkSeqX ?_
    refine zkNil ?_
    exact endQ hS hQ (finL_x (by intro h; cases h) (by show _ = _ ∧ _ = _; exact ⟨rfl, rfl⟩))
noncomputable def f17_l0 (a1 : List UInt8) (a2 : List UInt8) (x : (List UInt8) × Int) : Option (((List UInt8) × Int) ⊕ (((List UInt8)))) := (bif (decide (x.2 < (a1.length : Int))) then (f17_l0_j1 a1 a2 x.1 x.2 true) else (f17_l0_j1 a1 a2 x.1 x.2 false))
theorem f17_l0_ok {base : Orc} {d : Nat} (hd : 1 ≤ d) (a1 : List UInt8) (a2 : List UInt8) {r : ((List UInt8) × Int) ⊕ (((List UInt8)))} {Q : PX → St → Prop} (hQ : ∀ e st', finL (f17_l0_H a1 a2) (f17_l0_X a1 a2) r e st' → Q e st') {x : (List UInt8) × Int} (hS : f17_l0 a1 a2 x = some r) {st : St} (he : f17_l0_H a1 a2 x st) : ZR (lev codes base (d - 1)) Q c17_5 [] st := by
  refine zrKeep he ?_
  unfold f17_l0 at hS
  refine zrSeq ?_
  refine zrReg ?_
  refine zlBool (d := 9) (op := (.cmpI .lss (.tmp 8) (.tmp 7))) (g := none) (j := 1) (decide (x.2 < (a1.length : Int))) rfl (by kernel_rfl) (by kernel_rfl) (by kernel_rfl) (fun hc => ?_) (fun hc => ?_)
  · replace hS := cond_t hc hS
    refine zlEnd (by kernel_rfl) ?_
    refine zkSeq ?_
    exact f17_l0_j1_ok hd a1 a2 hQ x.1 x.2 true hS (by kernel_rfl)
  · replace hS := cond_f hc hS
    refine zlEnd (by kernel_rfl) ?_
    refine zkSeq ?_
    exact f17_l0_j1_ok hd a1 a2 hQ x.1 x.2 false hS (by kernel_rfl)
noncomputable def f17 (a1 : List UInt8) (a2 : List UInt8) : Option ((List UInt8)) := ((loopO (f17_l0 a1 a2) (a2, 0)).bind fun z19 => (some z19))
theorem f17_ok (base : Orc) (d : Nat) (hd : 1 ≤ d) (a1 : List UInt8) (a2 : List UInt8) (r : (List UInt8)) (hS : f17 a1 a2 = some r) : lev codes base d 17 [(.r (.msl 0 0 0 a2.length)), (.d (.str a1))] [(.own 5 1 (eU8.cells a2))] = some ((.r (.msl 0 0 0 r.length)), [(.own 5 1 (eU8.cells r))]) := by
  refine lev_go codes17 rfl rfl (Nat.le_trans (Nat.le_of_ble_eq_true rfl) hd) fun Q hQ => ?_
  unfold f17 at hS
  show ZR _ Q c17_b [] _
  replace hQ : ∀ e st', f17_Q r e st' → Q e st' := hQ
  refine zrSeq ?_
  refine zrReg ?_
  refine zlRun (n := 1) (j := 1) rfl (by kernel_rfl) ?_
  refine zlEnd (by kernel_rfl) ?_
  refine zkSeq ?_
  refine zrSeq ?_
  refine zrSeq ?_
  refine zrReg ?_
  refine zlRun (n := 3) (j := 3) rfl (by kernel_rfl) ?_
  refine zlEnd (by kernel_rfl) ?_
  refine zkSeq ?_
  refine zrBlk ?_
  refine bindE hS (fun z19 hz19 hS => ?_)
  refine zrLoop (f17_l0_H a1 a2) (f17_l0_X a1 a2) (fun x st r Q h0 hS hQ => f17_l0_ok hd a1 a2 hQ hS h0) (x := (a2, 0)) (z := z19) (by show keepSt _ _ _ _ = _; kernel_rfl) hz19 ?_
  intro e st' _ hX
  obtain ⟨rfl, rfl⟩ : _ ∧ _ := hX
  refine zkBlkX ?_
  refine zkSeq ?_
  refine zrSeq ?_
  refine zrReg ?_
  refine zlRun (n := 2) (j := 2) rfl (by kernel_rfl) ?_
  refine zlEnd (by kernel_rfl) ?_
  refine zkSeq ?_
  refine zrRet ?_
  refine zkNil ?_
  exact endQ hS hQ (fRet (by kernel_rfl) ((congrArg (fun s => outR s 1 c17.res) (by kernel_rfl : finSt c17.fin _ = f17_fin z19)).trans (f17_out z19)))
/- farwriter/environ.Write -/
def f10_fin (p55 : List UInt8) (p56 : Int) : St := ⟨(up (up (fun _ => .un) 3 (.d (.int .i64 p56))) 2 (.d (.str p55))), (hB fun _ => 0)⟩
theorem f10_out (p55 : List UInt8) (p56 : Int) : outR (f10_fin p55 p56) 0 c10.res = some ((.tup [(.d (.str p55)), (.d (.int .i64 p56))]), []) := by
  kernel_rfl
def f10_Q (r : (List UInt8) × Int) (e : PX) (st : St) : Prop := DoneF c10 0 ((.tup [(.d (.str r.1)), (.d (.int .i64 r.2))]), []) e st
def f10_l1_J (a1 : List GVar) (x : (List UInt8) × Int) : St := ⟨(up (up (up (up (fun _ => .un) 17 (.d (.int .i64 x.2))) 16 (.d (.int .i64 (a1.length : Int)))) 15 (.d (.sl a1.length (e_GVar.cells a1)))) 4 (.r (.msl 40 0 0 x.1.length))), (up (hB fun _ => 0) 40 ⟨0, some (.own 5 1 (eU8.cells x.1))⟩)⟩
def f10_l1_H (a1 : List GVar) (x : (List UInt8) × Int) (st : St) : Prop := keepSt [4, 15, 16, 17] [(40, .id 40)] [] st = f10_l1_J a1 x
def f10_l1_e0_J (a1 : List GVar) (p54 : List UInt8) : St := ⟨(up (fun _ => .un) 4 (.r (.msl 40 0 0 p54.length))), (up (hB fun _ => 0) 40 ⟨0, some (.own 5 1 (eU8.cells p54))⟩)⟩
def f10_l1_X (a1 : List GVar) (z : ((List UInt8)) ⊕ ((List UInt8) × Int)) (e : PX) (st : St) : Prop := (match z with | .inl z => e = .exit 0 ∧ st = f10_l1_e0_J a1 z | .inr z => e = .ret ∧ finSt c10.fin st = f10_fin z.1 z.2)
def f10_l1_j5_J (a1 : List GVar) (p83 : List UInt8) (p84 : GVar) (p85 : UInt8) (p86 : Int) : St := ⟨(up (up (up (up (up (up (fun _ => .un) 17 (.d (.int .i64 p86))) 16 (.d (.int .i64 (a1.length : Int)))) 15 (.d (.sl a1.length (e_GVar.cells a1)))) 7 (.d (.int .u8 (p85.toNat : Int)))) 6 (.r (.ptr 56 0 0))) 4 (.r (.msl 40 0 0 p83.length))), (up (up (hB fun _ => 0) 56 ⟨0, some (.box ((.d (.str p84.Name)) :: ((.d (.str p84.Value)) :: ((.d (.bool p84.User)) :: ((.d (.bool p84.Set)) :: [])))))⟩) 40 ⟨0, some (.own 5 1 (eU8.cells p83))⟩)⟩
noncomputable def f10_l1_j5 (a1 : List GVar) (p83 : List UInt8) (p84 : GVar) (p85 : UInt8) (p86 : Int) : Option (((List UInt8) × Int) ⊕ (((List UInt8)) ⊕ ((List UInt8) × Int))) := ((app? 1 p83 ([p85] : List UInt8)).bind fun z19 => ((f17 p84.Name z19).bind fun z20 => (bif p84.Set then ((app? 1 z20 ([1] : List UInt8)).bind fun z21 => ((f17 p84.Value z21).bind fun z22 => (some (.inl (z22, (IntKind.i64.wrap (p86 + 1))))))) else (some (.inl (z20, (IntKind.i64.wrap (p86 + 1))))))))
theorem f10_l1_j5_ok {base : Orc} {d : Nat} (hd : 4 ≤ d) (a1 : List GVar) {r : ((List UInt8) × Int) ⊕ (((List UInt8)) ⊕ ((List UInt8) × Int))} {Q : PX → St → Prop} (hQ : ∀ e st', finL (f10_l1_H a1) (f10_l1_X a1) r e st' → Q e st') (p83 : List UInt8) (p84 : GVar) (p85 : UInt8) (p86 : Int) (hS : f10_l1_j5 a1 p83 p84 p85 p86 = some r) {st : St} (he : keepSt [4, 6, 7, 15, 16, 17] [(40, .id 40), (56, .id 56)] [] st = f10_l1_j5_J a1 p83 p84 p85 p86) : ZR (lev codes base (d - 1)) Q c10_1 [.blk 1, .seq c10_2] st := by
  refine zrKeep he ?_
  unfold f10_l1_j5 at hS
  refine zrSeq ?_
  refine zrRegD ?_
  refine zdRun (n := 3) (j := 3) (ts := [[], [], [(272, true)]]) (acc' := [[], [], [(272, true)]]) rfl (by kernel_rfl) (by kernel_rfl) (by kernel_rfl) ?_
  refine bindE hS (fun z19 hz19 hS => ?_)
  refine zdOp (d := some 34) (op := (.app 5 1 1 (.tmp 31) (.tmp 33))) (g := none) (v := (.r (.msl 40 1 0 z19.length))) (ups := [(40, ⟨1, some (.own 5 1 (eU8.cells z19))⟩)]) (j := 4) (t1 := [(280, true), (40, true), (272, false)]) (acc' := [[], [], [(272, true)], [(280, true), (40, true), (272, false)]]) (by kernel_rfl) (by kernel_rfl) rfl (by kernel_rfl) (by kernel_rfl) (ev_app eU8 (b := 40) (g := 0) (n := p83.length) (xs := p83) (ys := [p85]) ((congrArg (asL _) (by kernel_rfl : ρof _ (.tmp 33) = (.r (.msl 272 1 0 (([p85] : List UInt8).length))))).trans (as_whole eU8 (e := 5) (k := 1) (xs := [p85]) (by kernel_rfl) rfl rfl)) rfl (by kernel_rfl) rfl (by kernel_rfl) rfl hz19) ?_
  refine zdRun (n := 2) (j := 6) (ts := [[], [(56, false)]]) (acc' := [[], [], [(272, true)], [(280, true), (40, true), (272, false)], [], [(56, false)]]) rfl (by kernel_rfl) (by kernel_rfl) (by kernel_rfl) ?_
  refine bindE hS (fun z20 hz20 hS => ?_)
  refine zdOp (d := some 37) (op := (.callr 17 [(.tmp 34), (.tmp 36)])) (g := none) (j := 7) (t1 := [(40, true), (40, false), (304, true), (305, true), (306, true), (307, true), (308, true), (309, true), (310, true), (311, true)]) (acc' := [[], [], [(272, true)], [(280, true), (40, true), (272, false)], [], [(56, false)], [(40, true), (40, false), (304, true), (305, true), (306, true), (307, true), (308, true), (309, true), (310, true), (311, true)]]) (by kernel_rfl) (by kernel_rfl) rfl (by kernel_rfl) (by kernel_rfl) (ev_callrA (ids := [40]) (by kernel_rfl) (by kernel_rfl) (by kernel_rfl) (f17_ok base (d - 1) (dpt hd rfl) p84.Name z19 z20 hz20) (by kernel_rfl)) ?_
  refine zdRun (n := 1) (j := 8) (ts := [[]]) (acc' := [[], [], [(272, true)], [(280, true), (40, true), (272, false)], [], [(56, false)], [(40, true), (40, false), (304, true), (305, true), (306, true), (307, true), (308, true), (309, true), (310, true), (311, true)], []]) rfl (by kernel_rfl) (by kernel_rfl) (by kernel_rfl) ?_
  refine zdEnd (by kernel_rfl) (by kernel_rfl) ?_
  refine zkSeq ?_
  refine zrSeq ?_
  refine zrReg ?_
  refine zlRun (n := 2) (j := 2) rfl (by kernel_rfl) ?_
  refine zlEnd (by kernel_rfl) ?_
  refine zkSeq ?_
  refine zrSplit 39 p84.Set (by kernel_rfl) (fun hc => ?_) (fun hc => ?_)
  · replace hS := cond_t hc hS
    refine zrCondT (by kernel_rfl) ?_
    refine zrRegD ?_
    refine zdRun (n := 2) (j := 2) (ts := [[], [(336, true)]]) (acc' := [[], [(336, true)]]) rfl (by kernel_rfl) (by kernel_rfl) (by kernel_rfl) ?_
    refine bindE hS (fun z21 hz21 hS => ?_)
    refine zdOp (d := some 42) (op := (.app 5 1 1 (.tmp 40) (.tmp 41))) (g := none) (v := (.r (.msl 40 3 0 z21.length))) (ups := [(40, ⟨3, some (.own 5 1 (eU8.cells z21))⟩)]) (j := 3) (t1 := [(344, true), (40, true), (336, false)]) (acc' := [[], [(336, true)], [(344, true), (40, true), (336, false)]]) (by kernel_rfl) (by kernel_rfl) rfl (by kernel_rfl) (by kernel_rfl) (ev_app eU8 (b := 40) (g := 2) (n := z20.length) (xs := z20) (ys := [1]) ((congrArg (asL _) (by kernel_rfl : ρof _ (.tmp 41) = (.r (.msl 336 1 0 (([1] : List UInt8).length))))).trans (as_whole eU8 (e := 5) (k := 1) (xs := [1]) (by kernel_rfl) rfl rfl)) rfl (by kernel_rfl) rfl (by kernel_rfl) rfl hz21) ?_
    refine zdRun (n := 2) (j := 5) (ts := [[], [(56, false)]]) (acc' := [[], [(336, true)], [(344, true), (40, true), (336, false)], [], [(56, false)]]) rfl (by kernel_rfl) (by kernel_rfl) (by kernel_rfl) ?_
    refine bindE hS (fun z22 hz22 hS => ?_)
    refine zdOp (d := some 45) (op := (.callr 17 [(.tmp 42), (.tmp 44)])) (g := none) (j := 6) (t1 := [(40, true), (40, false), (368, true), (369, true), (370, true), (371, true), (372, true), (373, true), (374, true), (375, true)]) (acc' := [[], [(336, true)], [(344, true), (40, true), (336, false)], [], [(56, false)], [(40, true), (40, false), (368, true), (369, true), (370, true), (371, true), (372, true), (373, true), (374, true), (375, true)]]) (by kernel_rfl) (by kernel_rfl) rfl (by kernel_rfl) (by kernel_rfl) (ev_callrA (ids := [40]) (by kernel_rfl) (by kernel_rfl) (by kernel_rfl) (f17_ok base (d - 1) (dpt hd rfl) p84.Value z21 z22 hz22) (by kernel_rfl)) ?_
    refine zdRun (n := 1) (j := 7) (ts := [[]]) (acc' := [[], [(336, true)], [(344, true), (40, true), (336, false)], [], [(56, false)], [(40, true), (40, false), (368, true), (369, true), (370, true), (371, true), (372, true), (373, true), (374, true), (375, true)], []]) rfl (by kernel_rfl) (by kernel_rfl) (by kernel_rfl) ?_
    refine zdEnd (by kernel_rfl) (by kernel_rfl) ?_
    refine zkBlk ?_
    refine zkSeq ?_
    refine zrReg ?_
    refine zlRun (n := 2) (j := 2) rfl (by kernel_rfl) ?_
    refine zlEnd (by kernel_rfl) ?_
    refine zkNil ?_
    exact endQ hS hQ (finL_n (by show keepSt _ _ _ _ = _; kernel_rfl))
  · replace hS := cond_f hc hS
    refine zrCondF (by kernel_rfl) ?_
    refine zrSkip ?_
    refine zkBlk ?_
    refine zkSeq ?_
    refine zrReg ?_
    refine zlRun (n := 2) (j := 2) rfl (by kernel_rfl) ?_
    refine zlEnd (by kernel_rfl) ?_
    refine zkNil ?_
    exact endQ hS hQ (finL_n (by show keepSt _ _ _ _ = _; kernel_rfl))
def f10_l1_j4_J (a1 : List GVar) (p76 : List UInt8) (p77 : GVar) (p78 : Int) : St := ⟨(up (up (up (up (up (fun _ => .un) 17 (.d (.int .i64 p78))) 16 (.d (.int .i64 (a1.length : Int)))) 15 (.d (.sl a1.length (e_GVar.cells a1)))) 6 (.r (.ptr 56 0 0))) 4 (.r (.msl 40 0 0 p76.length))), (up (up (hB fun _ => 0) 56 ⟨0, some (.box ((.d (.str p77.Name)) :: ((.d (.str p77.Value)) :: ((.d (.bool p77.User)) :: ((.d (.bool p77.Set)) :: [])))))⟩) 40 ⟨0, some (.own 5 1 (eU8.cells p76))⟩)⟩
noncomputable def f10_l1_j4 (a1 : List GVar) (p76 : List UInt8) (p77 : GVar) (p78 : Int) : Option (((List UInt8) × Int) ⊕ (((List UInt8)) ⊕ ((List UInt8) × Int))) := (bif p77.User then (f10_l1_j5 a1 p76 p77 (3 : UInt8) p78) else (f10_l1_j5 a1 p76 p77 (0 : UInt8) p78))
theorem f10_l1_j4_ok {base : Orc} {d : Nat} (hd : 4 ≤ d) (a1 : List GVar) {r : ((List UInt8) × Int) ⊕ (((List UInt8)) ⊕ ((List UInt8) × Int))} {Q : PX → St → Prop} (hQ : ∀ e st', finL (f10_l1_H a1) (f10_l1_X a1) r e st' → Q e st') (p76 : List UInt8) (p77 : GVar) (p78 : Int) (hS : f10_l1_j4 a1 p76 p77 p78 = some r) {st : St} (he : keepSt [4, 6, 15, 16, 17] [(40, .id 40), (56, .id 56)] [] st = f10_l1_j4_J a1 p76 p77 p78) : ZR (lev codes base (d - 1)) Q c10_3 [.blk 1, .seq c10_2] st := by
  refine zrKeep he ?_
  unfold f10_l1_j4 at hS
  refine zrSeq ?_
  refine zrReg ?_
  refine zlRun (n := 1) (j := 1) rfl (by kernel_rfl) ?_
  refine zlEnd (by kernel_rfl) ?_
  refine zkSeq ?_
  refine zrSeq ?_
  refine zrSeq ?_
  refine zrReg ?_
  refine zlRun (n := 2) (j := 2) rfl (by kernel_rfl) ?_
  refine zlEnd (by kernel_rfl) ?_
  refine zkSeq ?_
  refine zrSplit 30 p77.User (by kernel_rfl) (fun hc => ?_) (fun hc => ?_)
  · replace hS := cond_t hc hS
    refine zrCondT (by kernel_rfl) ?_
    refine zrReg ?_
    refine zlRun (n := 1) (j := 1) rfl (by kernel_rfl) ?_
    refine zlEnd (by kernel_rfl) ?_
    refine zkSeq ?_
    exact f10_l1_j5_ok hd a1 hQ p76 p77 (3 : UInt8) p78 hS (by kernel_rfl)
  · replace hS := cond_f hc hS
    refine zrCondF (by kernel_rfl) ?_
    refine zrSkip ?_
    refine zkSeq ?_
    exact f10_l1_j5_ok hd a1 hQ p76 p77 (0 : UInt8) p78 hS (by kernel_rfl)
def f10_l1_j3_J (a1 : List GVar) (p64 : List UInt8) (p65 : Int) : St := ⟨(up (up (up (up (fun _ => .un) 17 (.d (.int .i64 p65))) 16 (.d (.int .i64 (a1.length : Int)))) 15 (.d (.sl a1.length (e_GVar.cells a1)))) 4 (.r (.msl 40 0 0 p64.length))), (up (hB fun _ => 0) 40 ⟨0, some (.own 5 1 (eU8.cells p64))⟩)⟩
noncomputable def f10_l1_j3 (a1 : List GVar) (p64 : List UInt8) (p65 : Int) : Option (((List UInt8) × Int) ⊕ (((List UInt8)) ⊕ ((List UInt8) × Int))) := ((idx a1 p65).bind fun z18 => (bif (!z18.Set) then (bif (!decide (z18.Value = ([] : List UInt8))) then (some (.inr (.inr ([], 4)))) else (f10_l1_j4 a1 p64 z18 p65)) else (f10_l1_j4 a1 p64 z18 p65)))
theorem f10_l1_j3_ok {base : Orc} {d : Nat} (hd : 4 ≤ d) (a1 : List GVar) {r : ((List UInt8) × Int) ⊕ (((List UInt8)) ⊕ ((List UInt8) × Int))} {Q : PX → St → Prop} (hQ : ∀ e st', finL (f10_l1_H a1) (f10_l1_X a1) r e st' → Q e st') (p64 : List UInt8) (p65 : Int) (hS : f10_l1_j3 a1 p64 p65 = some r) {st : St} (he : keepSt [4, 15, 16, 17] [(40, .id 40)] [] st = f10_l1_j3_J a1 p64 p65) : ZR (lev codes base (d - 1)) Q c10_4 [] st := by
  refine zrKeep he ?_
  unfold f10_l1_j3 at hS
  refine zrSeq ?_
  refine zrBlk ?_
  refine zrSeq ?_
  refine zrReg ?_
  refine bindE hS (fun z18 hz18 hS => ?_)
  refine zlOp (d := some 19) (op := (.ixS 25 4 (.tmp 15) (.tmp 17))) (g := none) (v := (.rptr (e_GVar.enc z18 ++ (e_GVar.cells (a1.drop ((p65 : Int).toNat + 1)))))) (ups := []) (j := 1) rfl (by kernel_rfl) (by kernel_rfl) (ev_ixS e_GVar (kk := .i64) (xs := a1) (j := p65) (by kernel_rfl) (by kernel_rfl) hz18 rfl (by intro h; cases h)) ?_
  refine zlRun (n := 3) (j := 4) rfl (by kernel_rfl) ?_
  refine zlEnd (by kernel_rfl) ?_
  refine zkSeq ?_
  refine zrSeq ?_
  refine zrSeq ?_
  refine zrReg ?_
  refine zlRun (n := 4) (j := 4) rfl (by kernel_rfl) ?_
  refine zlSplit 24 (!z18.Set) (by kernel_rfl) (fun hc => ?_) (fun hc => ?_)
  · replace hS := cond_t hc hS
    refine zlRun (n := 2) (j := 6) rfl (by kernel_rfl) ?_
    refine zlBool (d := 27) (op := (.strO .neq (.tmp 26) (.const (.string ⟨#[]⟩)))) (g := (some (24, true))) (j := 7) (!decide (z18.Value = ([] : List UInt8))) rfl (by kernel_rfl) (by kernel_rfl) (by kernel_rfl) (fun hc => ?_) (fun hc => ?_)
    · replace hS := cond_t hc hS
      refine zlRun (n := 1) (j := 8) rfl (by kernel_rfl) ?_
      refine zlEnd (by kernel_rfl) ?_
      refine zkSeq ?_
      refine zrCondT (by kernel_rfl) ?_
      refine zrSeq ?_
      refine zrReg ?_
      refine zlRun (n := 2) (j := 2) rfl (by kernel_rfl) ?_
      refine zlEnd (by kernel_rfl) ?_
      refine zkSeq ?_
      refine zrRet ?_
      refine zkSeqR ?_
      refine zkBlkR ?_
      refine zkSeqR ?_
      refine zkNil ?_
      exact endQ hS hQ (finL_x (by intro h; cases h) (by show _ = _ ∧ _ = _; exact ⟨rfl, by kernel_rfl⟩))
    · replace hS := cond_f hc hS
      refine zlRun (n := 1) (j := 8) rfl (by kernel_rfl) ?_
      refine zlEnd (by kernel_rfl) ?_
      refine zkSeq ?_
      refine zrCondF (by kernel_rfl) ?_
      refine zrSkip ?_
      refine zkSeq ?_
      exact f10_l1_j4_ok hd a1 hQ p64 z18 p65 hS (by kernel_rfl)
  · replace hS := cond_f hc hS
    refine zlRun (n := 4) (j := 8) rfl (by kernel_rfl) ?_
    refine zlEnd (by kernel_rfl) ?_
    refine zkSeq ?_
    refine zrCondF (by kernel_rfl) ?_
    refine zrSkip ?_
    refine zkSeq ?_
    exact f10_l1_j4_ok hd a1 hQ p64 z18 p65 hS (by kernel_rfl)
def f10_l1_j2_J (a1 : List GVar) (p61 : List UInt8) (p62 : Int) (p63 : Bool) : St := ⟨(up (up (up (up (up (fun _ => .un) 18 (.d (.bool p63))) 17 (.d (.int .i64 p62))) 16 (.d (.int .i64 (a1.length : Int)))) 15 (.d (.sl a1.length (e_GVar.cells a1)))) 4 (.r (.msl 40 0 0 p61.length))), (up (hB fun _ => 0) 40 ⟨0, some (.own 5 1 (eU8.cells p61))⟩)⟩
noncomputable def f10_l1_j2 (a1 : List GVar) (p61 : List UInt8) (p62 : Int) (p63 : Bool) : Option (((List UInt8) × Int) ⊕ (((List UInt8)) ⊕ ((List UInt8) × Int))) := (bif p63 then (f10_l1_j3 a1 p61 p62) else (some (.inr (.inl p61))))
theorem f10_l1_j2_ok {base : Orc} {d : Nat} (hd : 4 ≤ d) (a1 : List GVar) {r : ((List UInt8) × Int) ⊕ (((List UInt8)) ⊕ ((List UInt8) × Int))} {Q : PX → St → Prop} (hQ : ∀ e st', finL (f10_l1_H a1) (f10_l1_X a1) r e st' → Q e st') (p61 : List UInt8) (p62 : Int) (p63 : Bool) (hS : f10_l1_j2 a1 p61 p62 p63 = some r) {st : St} (he : keepSt [4, 15, 16, 17, 18] [(40, .id 40)] [] st = f10_l1_j2_J a1 p61 p62 p63) : ZR (lev codes base (d - 1)) Q c10_5 [] st := by
  refine zrKeep he ?_
  unfold f10_l1_j2 at hS
  refine zrSeq ?_
  refine zrSplit 18 p63 (by kernel_rfl) (fun hc => ?_) (fun hc => ?_)
  · replace hS := cond_t hc hS
    refine zrCondT (by kernel_rfl) ?_
    refine zrSkip ?_
    refine zkSeq ?_
    exact f10_l1_j3_ok hd a1 hQ p61 p62 hS (by kernel_rfl)
  · replace hS := cond_f hc hS
    refine zrCondF (by kernel_rfl) ?_
    refine zrKeep (J := f10_l1_e0_J a1 p61) (by kernel_rfl) ?_
    refine zrExit ?_
    refine zkSeqX ?_
    refine zkNil ?_
    exact endQ hS hQ (finL_x (by intro h; cases h) (by show _ = _ ∧ _ = _; exact ⟨rfl, rfl⟩))
noncomputable def f10_l1 (a1 : List GVar) (x : (List UInt8) × Int) : Option (((List UInt8) × Int) ⊕ (((List UInt8)) ⊕ ((List UInt8) × Int))) := (bif (decide (x.2 < (a1.length : Int))) then (f10_l1_j2 a1 x.1 x.2 true) else (f10_l1_j2 a1 x.1 x.2 false))
theorem f10_l1_ok {base : Orc} {d : Nat} (hd : 4 ≤ d) (a1 : List GVar) {r : ((List UInt8) × Int) ⊕ (((List UInt8)) ⊕ ((List UInt8) × Int))} {Q : PX → St → Prop} (hQ : ∀ e st', finL (f10_l1_H a1) (f10_l1_X a1) r e st' → Q e st') {x : (List UInt8) × Int} (hS : f10_l1 a1 x = some r) {st : St} (he : f10_l1_H a1 x st) : ZR (lev codes base (d - 1)) Q c10_6 [] st := by
  refine zrKeep he ?_
  unfold f10_l1 at hS
  refine zrSeq ?_
  refine zrReg ?_
  refine zlBool (d := 18) (op := (.cmpI .lss (.tmp 17) (.tmp 16))) (g := none) (j := 1) (decide (x.2 < (a1.length : Int))) rfl (by kernel_rfl) (by kernel_rfl) (by kernel_rfl) (fun hc => ?_) (fun hc => ?_)
  · replace hS := cond_t hc hS
    refine zlEnd (by kernel_rfl) ?_
    refine zkSeq ?_
    exact f10_l1_j2_ok hd a1 hQ x.1 x.2 true hS (by kernel_rfl)
  · replace hS := cond_f hc hS
    refine zlEnd (by kernel_rfl) ?_
    refine zkSeq ?_
    exact f10_l1_j2_ok hd a1 hQ x.1 x.2 false hS (by kernel_rfl)
def f10_j0_J (a1 : List GVar) : St := ⟨(up (fun _ => .un) 0 (.d (.sl a1.length (e_GVar.cells a1)))), (hB fun _ => 0)⟩
noncomputable def f10_j0 (a1 : List GVar) : Option ((List UInt8) × Int) := ((loopO (f10_l1 a1) ([], 0)).bind fun z23 => (Sum.elim (fun z24 => (some (z24, 0))) (fun z25 => (some (z25.1, z25.2))) z23))
theorem f10_j0_ok {base : Orc} {d : Nat} (hd : 4 ≤ d) (a1 : List GVar) {r : (List UInt8) × Int} {Q : PX → St → Prop} (hQ : ∀ e st', f10_Q r e st' → Q e st')  (hS : f10_j0 a1 = some r) {st : St} (he : keepSt [0] [] [] st = f10_j0_J a1) : ZR (lev codes base (d - 1)) Q c10_7 [] st := by
  refine zrKeep he ?_
  unfold f10_j0 at hS
  refine zrSeq ?_
  refine zrReg ?_
  refine zlRun (n := 1) (j := 1) rfl (by kernel_rfl) ?_
  refine zlEnd (by kernel_rfl) ?_
  refine zkSeq ?_
  refine zrSeq ?_
  refine zrSeq ?_
  refine zrReg ?_
  refine zlRun (n := 3) (j := 3) rfl (by kernel_rfl) ?_
  refine zlEnd (by kernel_rfl) ?_
  refine zkSeq ?_
  refine zrBlk ?_
  refine bindE hS (fun z23 hz23 hS => ?_)
  refine zrLoop (f10_l1_H a1) (f10_l1_X a1) (fun x st r Q h0 hS hQ => f10_l1_ok hd a1 hQ hS h0) (x := ([], 0)) (z := z23) (by show keepSt _ _ _ _ = _; kernel_rfl) hz23 ?_
  rcases z23 with z24 | z25
  · replace hS := (show _ = _ from hS)
    simp only [Sum.elim_inl] at hS
    intro e st' _ hX
    obtain ⟨rfl, rfl⟩ : _ ∧ _ := hX
    refine zkBlkX ?_
    refine zkSeq ?_
    refine zrSeq ?_
    refine zrReg ?_
    refine zlRun (n := 1) (j := 1) rfl (by kernel_rfl) ?_
    refine zlOp (d := some 48) (op := (.cvBS (.tmp 47))) (g := none) (v := (.d (.str z24))) (ups := []) (j := 2) rfl (by kernel_rfl) (by kernel_rfl) (ev_cvBS (s := z24) ((congrArg (asL _) (by kernel_rfl : ρof _ (.tmp 47) = (.r (.msl 40 0 0 z24.length)))).trans (as_whole eU8 (e := 5) (k := 1) (xs := z24) (by kernel_rfl) rfl rfl)) rfl) ?_
    refine zlRun (n := 2) (j := 4) rfl (by kernel_rfl) ?_
    refine zlEnd (by kernel_rfl) ?_
    refine zkSeq ?_
    refine zrRet ?_
    refine zkNil ?_
    exact endQ hS hQ (fRet (by kernel_rfl) ((congrArg (fun s => outR s 0 c10.res) (by kernel_rfl : finSt c10.fin _ = f10_fin z24 0)).trans (f10_out z24 0)))
  · simp only [Sum.elim_inr] at hS
    intro e st' _ hX
    obtain ⟨rfl, hX⟩ : _ ∧ _ := hX
    refine zkBlkR ?_
    refine zkSeqR ?_
    refine zkNil ?_
    exact endQ hS hQ (fRet (by kernel_rfl) ((congrArg (fun s => outR s 0 c10.res) hX).trans (f10_out z25.1 z25.2)))
noncomputable def f10 (a1 : List GVar) : Option ((List UInt8) × Int) := (bif (decide (20 < (a1.length : Int))) then (some ([], 2)) else ((f15 a1).bind fun z26 => (bif z26 then (some ([], 2)) else (f10_j0 a1 ))))
theorem f10_ok (base : Orc) (d : Nat) (hd : 4 ≤ d) (a1 : List GVar) (r : (List UInt8) × Int) (hS : f10 a1 = some r) : lev codes base d 10 [(.d (.sl a1.length (e_GVar.cells a1)))] [] = some ((.tup [(.d (.str r.1)), (.d (.int .i64 r.2))]), []) := by
  refine lev_go codes10 rfl rfl (Nat.le_trans (Nat.le_of_ble_eq_true rfl) hd) fun Q hQ => ?_
  unfold f10 at hS
  show ZR _ Q c10_b [] _
  replace hQ : ∀ e st', f10_Q r e st' → Q e st' := hQ
  refine zrSeq ?_
  refine zrReg ?_
  refine zlRun (n := 2) (j := 2) rfl (by kernel_rfl) ?_
  refine zlEnd (by kernel_rfl) ?_
  refine zkSeq ?_
  refine zrSeq ?_
  refine zrSeq ?_
  refine zrReg ?_
  refine zlRun (n := 2) (j := 2) rfl (by kernel_rfl) ?_
  refine zlBool (d := 10) (op := (.cmpI .gtr (.tmp 9) (.const (.int .i64 20)))) (g := none) (j := 3) (decide (20 < (a1.length : Int))) rfl (by kernel_rfl) (by kernel_rfl) (by kernel_rfl) (fun hc => ?_) (fun hc => ?_)
  · replace hS := cond_t hc hS
    refine zlRun (n := 4) (j := 7) rfl (by kernel_rfl) ?_
    refine zlEnd (by kernel_rfl) ?_
    refine zkSeq ?_
    refine zrCondT (by kernel_rfl) ?_
    refine zrSeq ?_
    refine zrReg ?_
    refine zlRun (n := 2) (j := 2) rfl (by kernel_rfl) ?_
    refine zlEnd (by kernel_rfl) ?_
    refine zkSeq ?_
    refine zrRet ?_
    refine zkSeqR ?_
    refine zkNil ?_
    exact endQ hS hQ (fRet (by kernel_rfl) ((congrArg (fun s => outR s 0 c10.res) (by kernel_rfl : finSt c10.fin _ = f10_fin [] 2)).trans (f10_out [] 2)))
  · replace hS := cond_f hc hS
    refine zlRun (n := 2) (j := 5) rfl (by kernel_rfl) ?_
    refine bindE hS (fun z26 hz26 hS => ?_)
    refine zlOp (d := some 13) (op := (.call 15 [(.tmp 12), (.func 16)])) (g := (some (11, false))) (j := 6) rfl (by kernel_rfl) (by kernel_rfl) (ev_callA (by kernel_rfl) (f15_ok base (d - 1) (dpt hd rfl) a1 z26 hz26) (by kernel_rfl) (by kernel_rfl)) ?_
    refine zlRun (n := 1) (j := 7) rfl (by kernel_rfl) ?_
    refine zlEnd (by kernel_rfl) ?_
    refine zkSeq ?_
    refine zrSplit 14 z26 (by kernel_rfl) (fun hc => ?_) (fun hc => ?_)
    · replace hS := cond_t hc hS
      refine zrCondT (by kernel_rfl) ?_
      refine zrSeq ?_
      refine zrReg ?_
      refine zlRun (n := 2) (j := 2) rfl (by kernel_rfl) ?_
      refine zlEnd (by kernel_rfl) ?_
      refine zkSeq ?_
      refine zrRet ?_
      refine zkSeqR ?_
      refine zkNil ?_
      exact endQ hS hQ (fRet (by kernel_rfl) ((congrArg (fun s => outR s 0 c10.res) (by kernel_rfl : finSt c10.fin _ = f10_fin [] 2)).trans (f10_out [] 2)))
    · replace hS := cond_f hc hS
      refine zrCondF (by kernel_rfl) ?_
      refine zrSkip ?_
      refine zkSeq ?_
      exact f10_j0_ok hd a1 hQ  hS (by kernel_rfl)
/- farwriter/environ.Read -/
def f7_fin (p85 : List GVar) (p86 : Int) : St := ⟨(up (up (fun _ => .un) 3 (.d (.int .i64 p86))) 2 (.r (.msl 561 0 0 p85.length))), (up (hB fun _ => 0) 561 ⟨0, some (.own 25 4 (e_GVar.cells p85))⟩)⟩
theorem f7_out (p85 : List GVar) (p86 : Int) : outR (f7_fin p85 p86) 0 c7.res = some ((.tup [(.r (.own 0 25 4 p85.length (e_GVar.cells p85))), (.d (.int .i64 p86))]), []) := by
  exact out_of (ids := []) (ids' := [561]) (l := [(.r (.msl 561 0 0 p85.length)), (.d (.int .i64 p86))]) (by kernel_rfl) (by kernel_rfl) (o_tup (o_cons (o_own e_GVar (e := 25) (k := 4) (xs := p85) (by kernel_rfl) rfl rfl rfl rfl) (o_cons rfl o_nil)))
def f7_Q (r : (List GVar) × Int) (e : PX) (st : St) : Prop := DoneF c7 0 ((.tup [(.r (.own 0 25 4 r.1.length (e_GVar.cells r.1))), (.d (.int .i64 r.2))]), []) e st
def f7_j1_J (a1 : List UInt8) (p88 : List GVar) : St := ⟨(up (up (fun _ => .un) 4 (.r (.msl 40 0 0 p88.length))) 0 (.d (.str a1))), (up (hB fun _ => 0) 40 ⟨0, some (.own 25 4 (e_GVar.cells p88))⟩)⟩
noncomputable def f7_j1 (a1 : List UInt8) (p88 : List GVar) : Option ((List GVar) × Int) := ((f10 p88).bind fun z29 => (bif (!decide (z29.2 = 0)) then (some ([], 4)) else (bif (!decide (z29.1 = a1)) then (some ([], 4)) else (some (p88, 0)))))
theorem f7_j1_ok {base : Orc} {d : Nat} (hd : 5 ≤ d) (a1 : List UInt8) {r : (List GVar) × Int} {Q : PX → St → Prop} (hQ : ∀ e st', f7_Q r e st' → Q e st') (p88 : List GVar) (hS : f7_j1 a1 p88 = some r) {st : St} (he : keepSt [0, 4] [(40, .id 40)] [] st = f7_j1_J a1 p88) : ZR (lev codes base (d - 1)) Q c7_1 [] st := by
  refine zrKeep he ?_
  unfold f7_j1 at hS
  refine zrSeq ?_
  refine zrSeq ?_
  refine zrReg ?_
  refine zlRun (n := 1) (j := 1) rfl (by kernel_rfl) ?_
  refine bindE hS (fun z29 hz29 hS => ?_)
  refine zlOp (d := some 55) (op := (.call 10 [(.tmp 54)])) (g := none) (j := 2) rfl (by kernel_rfl) (by kernel_rfl) (ev_callB (args := [(.r (.msl 40 0 0 p88.length))]) (by kernel_rfl) (l_cons (l_own e_GVar (e := 25) (k := 4) (xs := p88) (by kernel_rfl) rfl rfl) l_nil) (f10_ok base (d - 1) (dpt hd rfl) p88 z29 hz29) (by kernel_rfl) (by kernel_rfl)) ?_
  refine zlRun (n := 5) (j := 7) rfl (by kernel_rfl) ?_
  refine zlEnd (by kernel_rfl) ?_
  refine zkSeq ?_
  refine zrSeq ?_
  refine zrReg ?_
  refine zlRun (n := 1) (j := 1) rfl (by kernel_rfl) ?_
  refine zlBool (d := 59) (op := (.cmpI .neq (.tmp 58) (.const (.int .i64 0)))) (g := none) (j := 2) (!decide (z29.2 = 0)) rfl (by kernel_rfl) (by kernel_rfl) (by kernel_rfl) (fun hc => ?_) (fun hc => ?_)
  · replace hS := cond_t hc hS
    refine zlRun (n := 5) (j := 7) rfl (by kernel_rfl) ?_
    refine zlEnd (by kernel_rfl) ?_
    refine zkSeq ?_
    refine zrCondT (by kernel_rfl) ?_
    refine zrSeq ?_
    refine zrReg ?_
    refine zlRun (n := 2) (j := 2) rfl (by kernel_rfl) ?_
    refine zlEnd (by kernel_rfl) ?_
    refine zkSeq ?_
    refine zrRet ?_
    refine zkSeqR ?_
    refine zkNil ?_
    exact endQ hS hQ (fRet (by kernel_rfl) ((congrArg (fun s => outR s 0 c7.res) (by kernel_rfl : finSt c7.fin _ = f7_fin [] 4)).trans (f7_out [] 4)))
  · replace hS := cond_f hc hS
    refine zlRun (n := 3) (j := 5) rfl (by kernel_rfl) ?_
    refine zlBool (d := 63) (op := (.strO .neq (.tmp 61) (.tmp 62))) (g := (some (60, false))) (j := 6) (!decide (z29.1 = a1)) rfl (by kernel_rfl) (by kernel_rfl) (by kernel_rfl) (fun hc => ?_) (fun hc => ?_)
    · replace hS := cond_t hc hS
      refine zlRun (n := 1) (j := 7) rfl (by kernel_rfl) ?_
      refine zlEnd (by kernel_rfl) ?_
      refine zkSeq ?_
      refine zrCondT (by kernel_rfl) ?_
      refine zrSeq ?_
      refine zrReg ?_
      refine zlRun (n := 2) (j := 2) rfl (by kernel_rfl) ?_
      refine zlEnd (by kernel_rfl) ?_
      refine zkSeq ?_
      refine zrRet ?_
      refine zkSeqR ?_
      refine zkNil ?_
      exact endQ hS hQ (fRet (by kernel_rfl) ((congrArg (fun s => outR s 0 c7.res) (by kernel_rfl : finSt c7.fin _ = f7_fin [] 4)).trans (f7_out [] 4)))
    · replace hS := cond_f hc hS
      refine zlRun (n := 1) (j := 7) rfl (by kernel_rfl) ?_
      refine zlEnd (by kernel_rfl) ?_
      refine zkSeq ?_
      refine zrCondF (by kernel_rfl) ?_
      refine zrSkip ?_
      refine zkSeq ?_
      refine zrSeq ?_
      refine zrReg ?_
      refine zlRun (n := 3) (j := 3) rfl (by kernel_rfl) ?_
      refine zlEnd (by kernel_rfl) ?_
      refine zkSeq ?_
      refine zrRet ?_
      refine zkNil ?_
      exact endQ hS hQ (fRet (by kernel_rfl) ((congrArg (fun s => outR s 0 c7.res) (by kernel_rfl : finSt c7.fin _ = f7_fin p88 0)).trans (f7_out p88 0)))
def f7_l2_J (a1 : List UInt8) (x : (List GVar) × (List UInt8)) : St := ⟨(up (up (up (fun _ => .un) 5 (.d (.str x.2))) 4 (.r (.msl 40 0 0 x.1.length))) 0 (.d (.str a1))), (up (hB fun _ => 0) 40 ⟨0, some (.own 25 4 (e_GVar.cells x.1))⟩)⟩
def f7_l2_H (a1 : List UInt8) (x : (List GVar) × (List UInt8)) (st : St) : Prop := keepSt [0, 4, 5] [(40, .id 40)] [] st = f7_l2_J a1 x
def f7_l2_e0_J (a1 : List UInt8) (p81 : List GVar) : St := ⟨(up (up (fun _ => .un) 4 (.r (.msl 40 0 0 p81.length))) 0 (.d (.str a1))), (up (hB fun _ => 0) 40 ⟨0, some (.own 25 4 (e_GVar.cells p81))⟩)⟩
def f7_l2_X (a1 : List UInt8) (z : ((List GVar)) ⊕ ((List GVar) × Int)) (e : PX) (st : St) : Prop := (match z with | .inl z => e = .exit 0 ∧ st = f7_l2_e0_J a1 z | .inr z => e = .ret ∧ finSt c7.fin st = f7_fin z.1 z.2)
def f7_l2_j5_J (a1 : List UInt8) (p108 : List GVar) (p109 : List UInt8) (p110 : GVar) : St := ⟨(up (up (up (up (fun _ => .un) 6 (.r (.ptr 56 0 0))) 5 (.d (.str p109))) 4 (.r (.msl 40 0 0 p108.length))) 0 (.d (.str a1))), (up (up (hB fun _ => 0) 56 ⟨0, some (.box ((.d (.str p110.Name)) :: ((.d (.str p110.Value)) :: ((.d (.bool p110.User)) :: ((.d (.bool p110.Set)) :: [])))))⟩) 40 ⟨0, some (.own 25 4 (e_GVar.cells p108))⟩)⟩
noncomputable def f7_l2_j5 (a1 : List UInt8) (p108 : List GVar) (p109 : List UInt8) (p110 : GVar) : Option (((List GVar) × (List UInt8)) ⊕ (((List GVar)) ⊕ ((List GVar) × Int))) := ((sub? p109 1 (p109.length : Int)).bind fun z33 => ((f14 z33).bind fun z34 => (bif (!decide (z34.2 = ([] : List UInt8))) then ((idx z34.2 0).bind fun z36 => (bif (decide ((z36.toNat : Int) = 1)) then ((sub? z34.2 1 (z34.2.length : Int)).bind fun z37 => ((f14 z37).bind fun z38 => ((app? 40 p108 ([(GVar.mk z34.1 z38.1 p110.User true)] : List GVar)).bind fun z39 => (some (.inl (z39, z38.2)))))) else ((app? 40 p108 ([{ p110 with Name := z34.1 }] : List GVar)).bind fun z40 => (some (.inl (z40, z34.2)))))) else ((app? 40 p108 ([{ p110 with Name := z34.1 }] : List GVar)).bind fun z41 => (some (.inl (z41, z34.2)))))))
theorem f7_l2_j5_ok {base : Orc} {d : Nat} (hd : 5 ≤ d) (a1 : List UInt8) {r : ((List GVar) × (List UInt8)) ⊕ (((List GVar)) ⊕ ((List GVar) × Int))} {Q : PX → St → Prop} (hQ : ∀ e st', finL (f7_l2_H a1) (f7_l2_X a1) r e st' → Q e st') (p108 : List GVar) (p109 : List UInt8) (p110 : GVar) (hS : f7_l2_j5 a1 p108 p109 p110 = some r) {st : St} (he : keepSt [0, 4, 5, 6] [(40, .id 40), (56, .id 56)] [] st = f7_l2_j5_J a1 p108 p109 p110) : ZR (lev codes base (d - 1)) Q c7_2 [.blk 1] st := by
  refine zrKeep he ?_
  unfold f7_l2_j5 at hS
  refine zrSeq ?_
  refine zrReg ?_
  refine zlRun (n := 1) (j := 1) rfl (by kernel_rfl) ?_
  refine bindE hS (fun z33 hz33 hS => ?_)
  refine zlOp (d := some 29) (op := (.slStr (.tmp 28) (.some (.const (.int .i64 1))) .none)) (g := none) (v := (.d (.str z33))) (ups := []) (j := 2) rfl (by kernel_rfl) (by kernel_rfl) (ev_slStr (s := p109) (a := 1) (c := (p109.length : Int)) (by kernel_rfl) (bnd_s _ (kk := .i64) (j := 1) (by kernel_rfl)) (bnd_n _) hz33) ?_
  refine bindE hS (fun z34 hz34 hS => ?_)
  refine zlOp (d := some 30) (op := (.call 14 [(.tmp 29)])) (g := none) (j := 3) rfl (by kernel_rfl) (by kernel_rfl) (ev_callA (by kernel_rfl) (f14_ok base (d - 1) (dpt hd rfl) z33 z34 hz34) (by kernel_rfl) (by kernel_rfl)) ?_
  refine zlRun (n := 6) (j := 9) rfl (by kernel_rfl) ?_
  refine zlEnd (by kernel_rfl) ?_
  refine zkSeq ?_
  refine zrSeq ?_
  refine zrSeq ?_
  refine zrReg ?_
  refine zlRun (n := 1) (j := 1) rfl (by kernel_rfl) ?_
  refine zlBool (d := 35) (op := (.strO .neq (.tmp 34) (.const (.string ⟨#[]⟩)))) (g := none) (j := 2) (!decide (z34.2 = ([] : List UInt8))) rfl (by kernel_rfl) (by kernel_rfl) (by kernel_rfl) (fun hc => ?_) (fun hc => ?_)
  · replace hS := cond_t hc hS
    refine zlRun (n := 2) (j := 4) rfl (by kernel_rfl) ?_
    refine bindE hS (fun z36 hz36 hS => ?_)
    refine zlOp (d := some 38) (op := (.ixStr (.tmp 37) (.const (.int .i64 0)))) (g := (some (36, true))) (v := (.d (.int .u8 (z36.toNat : Int)))) (ups := []) (j := 5) rfl (by kernel_rfl) (by kernel_rfl) (ev_ixStr (kk := .i64) (s := z34.2) (j := 0) (by kernel_rfl) (by kernel_rfl) hz36) ?_
    refine zlBool (d := 39) (op := (.cmpI .eql (.tmp 38) (.const (.int .u8 1)))) (g := (some (36, true))) (j := 6) (decide ((z36.toNat : Int) = 1)) rfl (by kernel_rfl) (by kernel_rfl) (by kernel_rfl) (fun hc => ?_) (fun hc => ?_)
    · replace hS := cond_t hc hS
      refine zlRun (n := 1) (j := 7) rfl (by kernel_rfl) ?_
      refine zlEnd (by kernel_rfl) ?_
      refine zkSeq ?_
      refine zrCondT (by kernel_rfl) ?_
      refine zrSeq ?_
      refine zrReg ?_
      refine zlRun (n := 2) (j := 2) rfl (by kernel_rfl) ?_
      refine zlEnd (by kernel_rfl) ?_
      refine zkSeq ?_
      refine zrReg ?_
      refine zlRun (n := 1) (j := 1) rfl (by kernel_rfl) ?_
      refine bindE hS (fun z37 hz37 hS => ?_)
      refine zlOp (d := some 44) (op := (.slStr (.tmp 43) (.some (.const (.int .i64 1))) .none)) (g := none) (v := (.d (.str z37))) (ups := []) (j := 2) rfl (by kernel_rfl) (by kernel_rfl) (ev_slStr (s := z34.2) (a := 1) (c := (z34.2.length : Int)) (by kernel_rfl) (bnd_s _ (kk := .i64) (j := 1) (by kernel_rfl)) (bnd_n _) hz37) ?_
      refine bindE hS (fun z38 hz38 hS => ?_)
      refine zlOp (d := some 45) (op := (.call 14 [(.tmp 44)])) (g := none) (j := 3) rfl (by kernel_rfl) (by kernel_rfl) (ev_callA (by kernel_rfl) (f14_ok base (d - 1) (dpt hd rfl) z37 z38 hz38) (by kernel_rfl) (by kernel_rfl)) ?_
      refine zlRun (n := 6) (j := 9) rfl (by kernel_rfl) ?_
      refine zlEnd (by kernel_rfl) ?_
      refine zkSeq ?_
      refine zrReg ?_
      refine zlRun (n := 3) (j := 3) rfl (by kernel_rfl) ?_
      refine bindE hS (fun z39 hz39 hS => ?_)
      refine zlOp (d := some 52) (op := (.app 25 4 40 (.tmp 49) (.tmp 51))) (g := none) (v := (.r (.msl 40 1 0 z39.length))) (ups := [(40, ⟨1, some (.own 25 4 (e_GVar.cells z39))⟩)]) (j := 4) rfl (by kernel_rfl) (by kernel_rfl) (ev_app e_GVar (b := 40) (g := 0) (n := p108.length) (xs := p108) (ys := [(GVar.mk z34.1 z38.1 p110.User true)]) ((congrArg (asL _) (by kernel_rfl : ρof _ (.tmp 51) = (.r (.msl 416 1 0 (([(GVar.mk z34.1 z38.1 p110.User true)] : List GVar).length))))).trans (as_whole e_GVar (e := 25) (k := 4) (xs := [(GVar.mk z34.1 z38.1 p110.User true)]) (by kernel_rfl) rfl rfl)) rfl (by kernel_rfl) rfl (by kernel_rfl) rfl hz39) ?_
      refine zlRun (n := 1) (j := 5) rfl (by kernel_rfl) ?_
      refine zlEnd (by kernel_rfl) ?_
      refine zkBlk ?_
      refine zkNil ?_
      exact endQ hS hQ (finL_n (by show keepSt _ _ _ _ = _; kernel_rfl))
    · replace hS := cond_f hc hS
      refine zlRun (n := 1) (j := 7) rfl (by kernel_rfl) ?_
      refine zlEnd (by kernel_rfl) ?_
      refine zkSeq ?_
      refine zrCondF (by kernel_rfl) ?_
      refine zrSkip ?_
      refine zkSeq ?_
      refine zrReg ?_
      refine zlRun (n := 3) (j := 3) rfl (by kernel_rfl) ?_
      refine bindE hS (fun z40 hz40 hS => ?_)
      refine zlOp (d := some 52) (op := (.app 25 4 40 (.tmp 49) (.tmp 51))) (g := none) (v := (.r (.msl 40 1 0 z40.length))) (ups := [(40, ⟨1, some (.own 25 4 (e_GVar.cells z40))⟩)]) (j := 4) rfl (by kernel_rfl) (by kernel_rfl) (ev_app e_GVar (b := 40) (g := 0) (n := p108.length) (xs := p108) (ys := [{ p110 with Name := z34.1 }]) ((congrArg (asL _) (by kernel_rfl : ρof _ (.tmp 51) = (.r (.msl 416 1 0 (([{ p110 with Name := z34.1 }] : List GVar).length))))).trans (as_whole e_GVar (e := 25) (k := 4) (xs := [{ p110 with Name := z34.1 }]) (by kernel_rfl) rfl rfl)) rfl (by kernel_rfl) rfl (by kernel_rfl) rfl hz40) ?_
      refine zlRun (n := 1) (j := 5) rfl (by kernel_rfl) ?_
      refine zlEnd (by kernel_rfl) ?_
      refine zkBlk ?_
      refine zkNil ?_
      exact endQ hS hQ (finL_n (by show keepSt _ _ _ _ = _; kernel_rfl))
  · replace hS := cond_f hc hS
    refine zlRun (n := 5) (j := 7) rfl (by kernel_rfl) ?_
    refine zlEnd (by kernel_rfl) ?_
    refine zkSeq ?_
    refine zrCondF (by kernel_rfl) ?_
    refine zrSkip ?_
    refine zkSeq ?_
    refine zrReg ?_
    refine zlRun (n := 3) (j := 3) rfl (by kernel_rfl) ?_
    refine bindE hS (fun z41 hz41 hS => ?_)
    refine zlOp (d := some 52) (op := (.app 25 4 40 (.tmp 49) (.tmp 51))) (g := none) (v := (.r (.msl 40 1 0 z41.length))) (ups := [(40, ⟨1, some (.own 25 4 (e_GVar.cells z41))⟩)]) (j := 4) rfl (by kernel_rfl) (by kernel_rfl) (ev_app e_GVar (b := 40) (g := 0) (n := p108.length) (xs := p108) (ys := [{ p110 with Name := z34.1 }]) ((congrArg (asL _) (by kernel_rfl : ρof _ (.tmp 51) = (.r (.msl 416 1 0 (([{ p110 with Name := z34.1 }] : List GVar).length))))).trans (as_whole e_GVar (e := 25) (k := 4) (xs := [{ p110 with Name := z34.1 }]) (by kernel_rfl) rfl rfl)) rfl (by kernel_rfl) rfl (by kernel_rfl) rfl hz41) ?_
    refine zlRun (n := 1) (j := 5) rfl (by kernel_rfl) ?_
    refine zlEnd (by kernel_rfl) ?_
    refine zkBlk ?_
    refine zkNil ?_
    exact endQ hS hQ (finL_n (by show keepSt _ _ _ _ = _; kernel_rfl))
def f7_l2_j4_J (a1 : List UInt8) (p103 : List GVar) (p104 : List UInt8) : St := ⟨(up (up (up (fun _ => .un) 5 (.d (.str p104))) 4 (.r (.msl 40 0 0 p103.length))) 0 (.d (.str a1))), (up (hB fun _ => 0) 40 ⟨0, some (.own 25 4 (e_GVar.cells p103))⟩)⟩
noncomputable def f7_l2_j4 (a1 : List UInt8) (p103 : List GVar) (p104 : List UInt8) : Option (((List GVar) × (List UInt8)) ⊕ (((List GVar)) ⊕ ((List GVar) × Int))) := ((idx p104 0).bind fun z42 => (bif (decide ((z42.toNat : Int) = 3)) then (f7_l2_j5 a1 p103 p104 (GVar.mk ([]) ([]) true false)) else (f7_l2_j5 a1 p103 p104 (GVar.mk ([]) ([]) false false))))
theorem f7_l2_j4_ok {base : Orc} {d : Nat} (hd : 5 ≤ d) (a1 : List UInt8) {r : ((List GVar) × (List UInt8)) ⊕ (((List GVar)) ⊕ ((List GVar) × Int))} {Q : PX → St → Prop} (hQ : ∀ e st', finL (f7_l2_H a1) (f7_l2_X a1) r e st' → Q e st') (p103 : List GVar) (p104 : List UInt8) (hS : f7_l2_j4 a1 p103 p104 = some r) {st : St} (he : keepSt [0, 4, 5] [(40, .id 40)] [] st = f7_l2_j4_J a1 p103 p104) : ZR (lev codes base (d - 1)) Q c7_3 [.blk 1] st := by
  refine zrKeep he ?_
  unfold f7_l2_j4 at hS
  refine zrSeq ?_
  refine zrReg ?_
  refine zlRun (n := 1) (j := 1) rfl (by kernel_rfl) ?_
  refine bindE hS (fun z42 hz42 hS => ?_)
  refine zlOp (d := some 24) (op := (.ixStr (.tmp 23) (.const (.int .i64 0)))) (g := none) (v := (.d (.int .u8 (z42.toNat : Int)))) (ups := []) (j := 2) rfl (by kernel_rfl) (by kernel_rfl) (ev_ixStr (kk := .i64) (s := p104) (j := 0) (by kernel_rfl) (by kernel_rfl) hz42) ?_
  refine zlBool (d := 25) (op := (.cmpI .eql (.tmp 24) (.const (.int .u8 3)))) (g := none) (j := 3) (decide ((z42.toNat : Int) = 3)) rfl (by kernel_rfl) (by kernel_rfl) (by kernel_rfl) (fun hc => ?_) (fun hc => ?_)
  · replace hS := cond_t hc hS
    refine zlRun (n := 3) (j := 6) rfl (by kernel_rfl) ?_
    refine zlEnd (by kernel_rfl) ?_
    refine zkSeq ?_
    exact f7_l2_j5_ok hd a1 hQ p103 p104 (GVar.mk ([]) ([]) true false) hS (by kernel_rfl)
  · replace hS := cond_f hc hS
    refine zlRun (n := 3) (j := 6) rfl (by kernel_rfl) ?_
    refine zlEnd (by kernel_rfl) ?_
    refine zkSeq ?_
    exact f7_l2_j5_ok hd a1 hQ p103 p104 (GVar.mk ([]) ([]) false false) hS (by kernel_rfl)
def f7_l2_j3_J (a1 : List UInt8) (p92 : List GVar) (p93 : List UInt8) : St := ⟨(up (up (up (fun _ => .un) 5 (.d (.str p93))) 4 (.r (.msl 40 0 0 p92.length))) 0 (.d (.str a1))), (up (hB fun _ => 0) 40 ⟨0, some (.own 25 4 (e_GVar.cells p92))⟩)⟩
noncomputable def f7_l2_j3 (a1 : List UInt8) (p92 : List GVar) (p93 : List UInt8) : Option (((List GVar) × (List UInt8)) ⊕ (((List GVar)) ⊕ ((List GVar) × Int))) := ((idx p93 0).bind fun z43 => (bif (!decide ((z43.toNat : Int) = 0)) then ((idx p93 0).bind fun z44 => (bif (!decide ((z44.toNat : Int) = 3)) then (some (.inr (.inr ([], 4)))) else (f7_l2_j4 a1 p92 p93))) else (f7_l2_j4 a1 p92 p93)))
theorem f7_l2_j3_ok {base : Orc} {d : Nat} (hd : 5 ≤ d) (a1 : List UInt8) {r : ((List GVar) × (List UInt8)) ⊕ (((List GVar)) ⊕ ((List GVar) × Int))} {Q : PX → St → Prop} (hQ : ∀ e st', finL (f7_l2_H a1) (f7_l2_X a1) r e st' → Q e st') (p92 : List GVar) (p93 : List UInt8) (hS : f7_l2_j3 a1 p92 p93 = some r) {st : St} (he : keepSt [0, 4, 5] [(40, .id 40)] [] st = f7_l2_j3_J a1 p92 p93) : ZR (lev codes base (d - 1)) Q c7_4 [] st := by
  refine zrKeep he ?_
  unfold f7_l2_j3 at hS
  refine zrBlk ?_
  refine zrSeq ?_
  refine zrSeq ?_
  refine zrReg ?_
  refine zlRun (n := 1) (j := 1) rfl (by kernel_rfl) ?_
  refine bindE hS (fun z43 hz43 hS => ?_)
  refine zlOp (d := some 16) (op := (.ixStr (.tmp 15) (.const (.int .i64 0)))) (g := none) (v := (.d (.int .u8 (z43.toNat : Int)))) (ups := []) (j := 2) rfl (by kernel_rfl) (by kernel_rfl) (ev_ixStr (kk := .i64) (s := p93) (j := 0) (by kernel_rfl) (by kernel_rfl) hz43) ?_
  refine zlBool (d := 17) (op := (.cmpI .neq (.tmp 16) (.const (.int .u8 0)))) (g := none) (j := 3) (!decide ((z43.toNat : Int) = 0)) rfl (by kernel_rfl) (by kernel_rfl) (by kernel_rfl) (fun hc => ?_) (fun hc => ?_)
  · replace hS := cond_t hc hS
    refine zlRun (n := 2) (j := 5) rfl (by kernel_rfl) ?_
    refine bindE hS (fun z44 hz44 hS => ?_)
    refine zlOp (d := some 20) (op := (.ixStr (.tmp 19) (.const (.int .i64 0)))) (g := (some (18, true))) (v := (.d (.int .u8 (z44.toNat : Int)))) (ups := []) (j := 6) rfl (by kernel_rfl) (by kernel_rfl) (ev_ixStr (kk := .i64) (s := p93) (j := 0) (by kernel_rfl) (by kernel_rfl) hz44) ?_
    refine zlBool (d := 21) (op := (.cmpI .neq (.tmp 20) (.const (.int .u8 3)))) (g := (some (18, true))) (j := 7) (!decide ((z44.toNat : Int) = 3)) rfl (by kernel_rfl) (by kernel_rfl) (by kernel_rfl) (fun hc => ?_) (fun hc => ?_)
    · replace hS := cond_t hc hS
      refine zlRun (n := 1) (j := 8) rfl (by kernel_rfl) ?_
      refine zlEnd (by kernel_rfl) ?_
      refine zkSeq ?_
      refine zrCondT (by kernel_rfl) ?_
      refine zrSeq ?_
      refine zrReg ?_
      refine zlRun (n := 2) (j := 2) rfl (by kernel_rfl) ?_
      refine zlEnd (by kernel_rfl) ?_
      refine zkSeq ?_
      refine zrRet ?_
      refine zkSeqR ?_
      refine zkBlkR ?_
      refine zkNil ?_
      exact endQ hS hQ (finL_x (by intro h; cases h) (by show _ = _ ∧ _ = _; exact ⟨rfl, by kernel_rfl⟩))
    · replace hS := cond_f hc hS
      refine zlRun (n := 1) (j := 8) rfl (by kernel_rfl) ?_
      refine zlEnd (by kernel_rfl) ?_
      refine zkSeq ?_
      refine zrCondF (by kernel_rfl) ?_
      refine zrSkip ?_
      refine zkSeq ?_
      exact f7_l2_j4_ok hd a1 hQ p92 p93 hS (by kernel_rfl)
  · replace hS := cond_f hc hS
    refine zlRun (n := 5) (j := 8) rfl (by kernel_rfl) ?_
    refine zlEnd (by kernel_rfl) ?_
    refine zkSeq ?_
    refine zrCondF (by kernel_rfl) ?_
    refine zrSkip ?_
    refine zkSeq ?_
    exact f7_l2_j4_ok hd a1 hQ p92 p93 hS (by kernel_rfl)
noncomputable def f7_l2 (a1 : List UInt8) (x : (List GVar) × (List UInt8)) : Option (((List GVar) × (List UInt8)) ⊕ (((List GVar)) ⊕ ((List GVar) × Int))) := (bif (!decide (x.2 = ([] : List UInt8))) then (f7_l2_j3 a1 x.1 x.2) else (some (.inr (.inl x.1))))
theorem f7_l2_ok {base : Orc} {d : Nat} (hd : 5 ≤ d) (a1 : List UInt8) {r : ((List GVar) × (List UInt8)) ⊕ (((List GVar)) ⊕ ((List GVar) × Int))} {Q : PX → St → Prop} (hQ : ∀ e st', finL (f7_l2_H a1) (f7_l2_X a1) r e st' → Q e st') {x : (List GVar) × (List UInt8)} (hS : f7_l2 a1 x = some r) {st : St} (he : f7_l2_H a1 x st) : ZR (lev codes base (d - 1)) Q c7_5 [] st := by
  refine zrKeep he ?_
  unfold f7_l2 at hS
  refine zrSeq ?_
  refine zrSeq ?_
  refine zrReg ?_
  refine zlRun (n := 1) (j := 1) rfl (by kernel_rfl) ?_
  refine zlBool (d := 14) (op := (.strO .neq (.tmp 13) (.const (.string ⟨#[]⟩)))) (g := none) (j := 2) (!decide (x.2 = ([] : List UInt8))) rfl (by kernel_rfl) (by kernel_rfl) (by kernel_rfl) (fun hc => ?_) (fun hc => ?_)
  · replace hS := cond_t hc hS
    refine zlEnd (by kernel_rfl) ?_
    refine zkSeq ?_
    refine zrCondT (by kernel_rfl) ?_
    refine zrSkip ?_
    refine zkSeq ?_
    exact f7_l2_j3_ok hd a1 hQ x.1 x.2 hS (by kernel_rfl)
  · replace hS := cond_f hc hS
    refine zlEnd (by kernel_rfl) ?_
    refine zkSeq ?_
    refine zrCondF (by kernel_rfl) ?_
    refine zrKeep (J := f7_l2_e0_J a1 x.1) (by kernel_rfl) ?_
    refine zrExit ?_
    refine zkSeqX ?_
    refine zkNil ?_
    exact endQ hS hQ (finL_x (by intro h; cases h) (by show _ = _ ∧ _ = _; exact ⟨rfl, rfl⟩))
def f7_j0_J (a1 : List UInt8) : St := ⟨(up (fun _ => .un) 0 (.d (.str a1))), (hB fun _ => 0)⟩
noncomputable def f7_j0 (a1 : List UInt8) : Option ((List GVar) × Int) := ((loopO (f7_l2 a1) ([], a1)).bind fun z45 => (Sum.elim (fun z46 => (f7_j1 a1 z46)) (fun z47 => (some (z47.1, z47.2))) z45))
theorem f7_j0_ok {base : Orc} {d : Nat} (hd : 5 ≤ d) (a1 : List UInt8) {r : (List GVar) × Int} {Q : PX → St → Prop} (hQ : ∀ e st', f7_Q r e st' → Q e st')  (hS : f7_j0 a1 = some r) {st : St} (he : keepSt [0] [] [] st = f7_j0_J a1) : ZR (lev codes base (d - 1)) Q c7_6 [] st := by
  refine zrKeep he ?_
  unfold f7_j0 at hS
  refine zrSeq ?_
  refine zrReg ?_
  refine zlRun (n := 1) (j := 1) rfl (by kernel_rfl) ?_
  refine zlEnd (by kernel_rfl) ?_
  refine zkSeq ?_
  refine zrSeq ?_
  refine zrSeq ?_
  refine zrReg ?_
  refine zlRun (n := 2) (j := 2) rfl (by kernel_rfl) ?_
  refine zlEnd (by kernel_rfl) ?_
  refine zkSeq ?_
  refine zrBlk ?_
  refine bindE hS (fun z45 hz45 hS => ?_)
  refine zrLoop (f7_l2_H a1) (f7_l2_X a1) (fun x st r Q h0 hS hQ => f7_l2_ok hd a1 hQ hS h0) (x := ([], a1)) (z := z45) (by show keepSt _ _ _ _ = _; kernel_rfl) hz45 ?_
  rcases z45 with z46 | z47
  · replace hS := (show _ = _ from hS)
    simp only [Sum.elim_inl] at hS
    intro e st' _ hX
    obtain ⟨rfl, rfl⟩ : _ ∧ _ := hX
    refine zkBlkX ?_
    refine zkSeq ?_
    exact f7_j1_ok hd a1 hQ z46 hS (by kernel_rfl)
  · simp only [Sum.elim_inr] at hS
    intro e st' _ hX
    obtain ⟨rfl, hX⟩ : _ ∧ _ := hX
    refine zkBlkR ?_
    refine zkSeqR ?_
    refine zkNil ?_
    exact endQ hS hQ (fRet (by kernel_rfl) ((congrArg (fun s => outR s 0 c7.res) hX).trans (f7_out z47.1 z47.2)))
noncomputable def f7 (a1 : List UInt8) : Option ((List GVar) × Int) := (bif (decide (4096 < (a1.length : Int))) then (some ([], 2)) else (f7_j0 a1 ))
theorem f7_ok (base : Orc) (d : Nat) (hd : 5 ≤ d) (a1 : List UInt8) (r : (List GVar) × Int) (hS : f7 a1 = some r) : lev codes base d 7 [(.d (.str a1))] [] = some ((.tup [(.r (.own 0 25 4 r.1.length (e_GVar.cells r.1))), (.d (.int .i64 r.2))]), []) := by
  refine lev_go codes7 rfl rfl (Nat.le_trans (Nat.le_of_ble_eq_true rfl) hd) fun Q hQ => ?_
  unfold f7 at hS
  show ZR _ Q c7_b [] _
  replace hQ : ∀ e st', f7_Q r e st' → Q e st' := hQ
  refine zrSeq ?_
  refine zrReg ?_
  refine zlRun (n := 2) (j := 2) rfl (by kernel_rfl) ?_
  refine zlEnd (by kernel_rfl) ?_
  refine zkSeq ?_
  refine zrSeq ?_
  refine zrSeq ?_
  refine zrReg ?_
  refine zlRun (n := 2) (j := 2) rfl (by kernel_rfl) ?_
  refine zlBool (d := 11) (op := (.cmpI .gtr (.tmp 10) (.const (.int .i64 4096)))) (g := none) (j := 3) (decide (4096 < (a1.length : Int))) rfl (by kernel_rfl) (by kernel_rfl) (by kernel_rfl) (fun hc => ?_) (fun hc => ?_)
  · replace hS := cond_t hc hS
    refine zlEnd (by kernel_rfl) ?_
    refine zkSeq ?_
    refine zrCondT (by kernel_rfl) ?_
    refine zrSeq ?_
    refine zrReg ?_
    refine zlRun (n := 2) (j := 2) rfl (by kernel_rfl) ?_
    refine zlEnd (by kernel_rfl) ?_
    refine zkSeq ?_
    refine zrRet ?_
    refine zkSeqR ?_
    refine zkNil ?_
    exact endQ hS hQ (fRet (by kernel_rfl) ((congrArg (fun s => outR s 0 c7.res) (by kernel_rfl : finSt c7.fin _ = f7_fin [] 2)).trans (f7_out [] 2)))
  · replace hS := cond_f hc hS
    refine zlEnd (by kernel_rfl) ?_
    refine zkSeq ?_
    refine zrCondF (by kernel_rfl) ?_
    refine zrSkip ?_
    refine zkSeq ?_
    exact f7_j0_ok hd a1 hQ  hS (by kernel_rfl)
/- farwriter/environ.Wanted$1 -/
def f19_fin (p1 : Bool) : St := ⟨(up (fun _ => .un) 2 (.d (.bool p1))), (hB fun _ => 0)⟩
theorem f19_out (p1 : Bool) : outR (f19_fin p1) 0 c19.res = some ((.d (.bool p1)), []) := by
  kernel_rfl
def f19_Q (r : Bool) (e : PX) (st : St) : Prop := DoneF c19 0 ((.d (.bool r)), []) e st
noncomputable def f19 (a1 : GVar) : Option (Bool) := (some a1.Set)
theorem f19_ok (base : Orc) (d : Nat) (hd : 1 ≤ d) (a1 : GVar) (r : Bool) (hS : f19 a1 = some r) : lev codes base d 19 [(.agg ((.d (.str a1.Name)) :: ((.d (.str a1.Value)) :: ((.d (.bool a1.User)) :: ((.d (.bool a1.Set)) :: [])))))] [] = some ((.d (.bool r)), []) := by
  refine lev_go codes19 rfl rfl (Nat.le_trans (Nat.le_of_ble_eq_true rfl) hd) fun Q hQ => ?_
  unfold f19 at hS
  show ZR _ Q c19_b [] _
  replace hQ : ∀ e st', f19_Q r e st' → Q e st' := hQ
  refine zrSeq ?_
  refine zrReg ?_
  refine zlRun (n := 2) (j := 2) rfl (by kernel_rfl) ?_
  refine zlEnd (by kernel_rfl) ?_
  refine zkSeq ?_
  refine zrSeq ?_
  refine zrReg ?_
  refine zlRun (n := 3) (j := 3) rfl (by kernel_rfl) ?_
  refine zlEnd (by kernel_rfl) ?_
  refine zkSeq ?_
  refine zrRet ?_
  refine zkNil ?_
  exact endQ hS hQ (fRet (by kernel_rfl) ((congrArg (fun s => outR s 0 c19.res) (by kernel_rfl : finSt c19.fin _ = f19_fin a1.Set)).trans (f19_out a1.Set)))
/- slices.IndexFunc[[]farwriter/api.Var,farwriter/api.Var] -/
def f21v1_fin (p8 : Int) : St := ⟨(up (fun _ => .un) 4 (.d (.int .i64 p8))), (hB fun _ => 0)⟩
theorem f21v1_out (p8 : Int) : outR (f21v1_fin p8) 0 c21.res = some ((.d (.int .i64 p8)), []) := by
  kernel_rfl
def f21v1_Q (r : Int) (e : PX) (st : St) : Prop := DoneF c21 0 ((.d (.int .i64 r)), []) e st
def f21v1_l0_J (a1 : List GVar) (x : Int) : St := ⟨(up (up (up (up (fun _ => .un) 8 (.d (.int .i64 x))) 7 (.d (.int .i64 (a1.length : Int)))) 1 (.fn 19 [])) 0 (.d (.sl a1.length (e_GVar.cells a1)))), (hB fun _ => 0)⟩
def f21v1_l0_H (a1 : List GVar) (x : Int) (st : St) : Prop := keepSt [0, 1, 7, 8] [] [] st = f21v1_l0_J a1 x
def f21v1_l0_e0_J (a1 : List GVar) : St := ⟨(fun _ => .un), (hB fun _ => 0)⟩
def f21v1_l0_X (a1 : List GVar) (z : Unit ⊕ Int) (e : PX) (st : St) : Prop := (match z with | .inl z => e = .exit 0 ∧ st = f21v1_l0_e0_J a1 | .inr z => e = .ret ∧ finSt c21.fin st = f21v1_fin z)
def f21v1_l0_j2_J (a1 : List GVar) (p13 : Int) : St := ⟨(up (up (up (up (fun _ => .un) 8 (.d (.int .i64 p13))) 7 (.d (.int .i64 (a1.length : Int)))) 1 (.fn 19 [])) 0 (.d (.sl a1.length (e_GVar.cells a1)))), (hB fun _ => 0)⟩
noncomputable def f21v1_l0_j2 (a1 : List GVar) (p13 : Int) : Option (Int ⊕ (Unit ⊕ Int)) := ((idx a1 p13).bind fun z7 => ((f19 z7).bind fun z8 => (bif z8 then (some (.inr (.inr p13))) else (some (.inl (IntKind.i64.wrap (p13 + 1)))))))
theorem f21v1_l0_j2_ok {base : Orc} {d : Nat} (hd : 2 ≤ d) (a1 : List GVar) {r : Int ⊕ (Unit ⊕ Int)} {Q : PX → St → Prop} (hQ : ∀ e st', finL (f21v1_l0_H a1) (f21v1_l0_X a1) r e st' → Q e st') (p13 : Int) (hS : f21v1_l0_j2 a1 p13 = some r) {st : St} (he : keepSt [0, 1, 7, 8] [] [] st = f21v1_l0_j2_J a1 p13) : ZR (lev codes base (d - 1)) Q c21_1 [] st := by
  refine zrKeep he ?_
  unfold f21v1_l0_j2 at hS
  refine zrSeq ?_
  refine zrBlk ?_
  refine zrSeq ?_
  refine zrReg ?_
  refine zlRun (n := 2) (j := 2) rfl (by kernel_rfl) ?_
  refine zlEnd (by kernel_rfl) ?_
  refine zkSeq ?_
  refine zrSeq ?_
  refine zrReg ?_
  refine zlRun (n := 3) (j := 3) rfl (by kernel_rfl) ?_
  refine bindE hS (fun z7 hz7 hS => ?_)
  refine zlOp (d := some 14) (op := (.ixS 25 4 (.tmp 12) (.tmp 13))) (g := none) (v := (.rptr (e_GVar.enc z7 ++ (e_GVar.cells (a1.drop ((p13 : Int).toNat + 1)))))) (ups := []) (j := 4) rfl (by kernel_rfl) (by kernel_rfl) (ev_ixS e_GVar (kk := .i64) (xs := a1) (j := p13) (by kernel_rfl) (by kernel_rfl) hz7 rfl (by intro h; cases h)) ?_
  refine zlRun (n := 1) (j := 5) rfl (by kernel_rfl) ?_
  refine bindE hS (fun z8 hz8 hS => ?_)
  refine zlOp (d := some 16) (op := (.callv (.tmp 11) [(.tmp 15)])) (g := none) (v := (.d (.bool z8))) (ups := []) (j := 6) rfl (by kernel_rfl) (by kernel_rfl) (ev_callv (f := 19) (cs := []) (by kernel_rfl) (args := [(.agg ((.d (.str z7.Name)) :: ((.d (.str z7.Value)) :: ((.d (.bool z7.User)) :: ((.d (.bool z7.Set)) :: [])))))]) (l := [(.agg ((.d (.str z7.Name)) :: ((.d (.str z7.Value)) :: ((.d (.bool z7.User)) :: ((.d (.bool z7.Set)) :: [])))))]) (r := (.d (.bool z8))) (by kernel_rfl) (by kernel_rfl) (f19_ok base (d - 1) (dpt hd rfl) z7 z8 hz8) (by kernel_rfl) (by kernel_rfl) (by kernel_rfl)) ?_
  refine zlEnd (by kernel_rfl) ?_
  refine zkSeq ?_
  refine zrSplit 16 z8 (by kernel_rfl) (fun hc => ?_) (fun hc => ?_)
  · replace hS := cond_t hc hS
    refine zrCondT (by kernel_rfl) ?_
    refine zrSeq ?_
    refine zrReg ?_
    refine zlRun (n := 2) (j := 2) rfl (by kernel_rfl) ?_
    refine zlEnd (by kernel_rfl) ?_
    refine zkSeq ?_
    refine zrRet ?_
    refine zkBlkR ?_
    refine zkSeqR ?_
    refine zkNil ?_
    exact endQ hS hQ (finL_x (by intro h; cases h) (by show _ = _ ∧ _ = _; exact ⟨rfl, by kernel_rfl⟩))
  · replace hS := cond_f hc hS
    refine zrCondF (by kernel_rfl) ?_
    refine zrSkip ?_
    refine zkBlk ?_
    refine zkSeq ?_
    refine zrReg ?_
    refine zlRun (n := 2) (j := 2) rfl (by kernel_rfl) ?_
    refine zlEnd (by kernel_rfl) ?_
    refine zkNil ?_
    exact endQ hS hQ (finL_n (by show keepSt _ _ _ _ = _; kernel_rfl))
def f21v1_l0_j1_J (a1 : List GVar) (p11 : Int) (p12 : Bool) : St := ⟨(up (up (up (up (up (fun _ => .un) 9 (.d (.bool p12))) 8 (.d (.int .i64 p11))) 7 (.d (.int .i64 (a1.length : Int)))) 1 (.fn 19 [])) 0 (.d (.sl a1.length (e_GVar.cells a1)))), (hB fun _ => 0)⟩
noncomputable def f21v1_l0_j1 (a1 : List GVar) (p11 : Int) (p12 : Bool) : Option (Int ⊕ (Unit ⊕ Int)) := (bif p12 then (f21v1_l0_j2 a1 p11) else (some (.inr (.inl ()))))
theorem f21v1_l0_j1_ok {base : Orc} {d : Nat} (hd : 2 ≤ d) (a1 : List GVar) {r : Int ⊕ (Unit ⊕ Int)} {Q : PX → St → Prop} (hQ : ∀ e st', finL (f21v1_l0_H a1) (f21v1_l0_X a1) r e st' → Q e st') (p11 : Int) (p12 : Bool) (hS : f21v1_l0_j1 a1 p11 p12 = some r) {st : St} (he : keepSt [0, 1, 7, 8, 9] [] [] st = f21v1_l0_j1_J a1 p11 p12) : ZR (lev codes base (d - 1)) Q c21_2 [] st := by
  refine zrKeep he ?_
  unfold f21v1_l0_j1 at hS
  refine zrSeq ?_
  refine zrSplit 9 p12 (by kernel_rfl) (fun hc => ?_) (fun hc => ?_)
  · replace hS := cond_t hc hS
    refine zrCondT (by kernel_rfl) ?_
    refine zrSkip ?_
    refine zkSeq ?_
    exact f21v1_l0_j2_ok hd a1 hQ p11 hS (by kernel_rfl)
  · replace hS := cond_f hc hS
    refine zrCondF (by kernel_rfl) ?_
    refine zrKeep (J := f21v1_l0_e0_J a1) (by kernel_rfl) ?_
    refine zrExit ?_
    refine zkSeqX ?_
    refine zkNil ?_
    exact endQ hS hQ (finL_x (by intro h; cases h) (by show _ = _ ∧ _ = _; exact ⟨rfl, rfl⟩))
noncomputable def f21v1_l0 (a1 : List GVar) (x : Int) : Option (Int ⊕ (Unit ⊕ Int)) := (bif (decide (x < (a1.length : Int))) then (f21v1_l0_j1 a1 x true) else (f21v1_l0_j1 a1 x false))
theorem f21v1_l0_ok {base : Orc} {d : Nat} (hd : 2 ≤ d) (a1 : List GVar) {r : Int ⊕ (Unit ⊕ Int)} {Q : PX → St → Prop} (hQ : ∀ e st', finL (f21v1_l0_H a1) (f21v1_l0_X a1) r e st' → Q e st') {x : Int} (hS : f21v1_l0 a1 x = some r) {st : St} (he : f21v1_l0_H a1 x st) : ZR (lev codes base (d - 1)) Q c21_3 [] st := by
  refine zrKeep he ?_
  unfold f21v1_l0 at hS
  refine zrSeq ?_
  refine zrReg ?_
  refine zlBool (d := 9) (op := (.cmpI .lss (.tmp 8) (.tmp 7))) (g := none) (j := 1) (decide (x < (a1.length : Int))) rfl (by kernel_rfl) (by kernel_rfl) (by kernel_rfl) (fun hc => ?_) (fun hc => ?_)
  · replace hS := cond_t hc hS
    refine zlEnd (by kernel_rfl) ?_
    refine zkSeq ?_
    exact f21v1_l0_j1_ok hd a1 hQ x true hS (by kernel_rfl)
  · replace hS := cond_f hc hS
    refine zlEnd (by kernel_rfl) ?_
    refine zkSeq ?_
    exact f21v1_l0_j1_ok hd a1 hQ x false hS (by kernel_rfl)
noncomputable def f21v1 (a1 : List GVar) : Option (Int) := ((loopO (f21v1_l0 a1) 0).bind fun z9 => (Sum.elim (fun z10 => (some (-1))) (fun z11 => (some z11)) z9))
theorem f21v1_ok (base : Orc) (d : Nat) (hd : 2 ≤ d) (a1 : List GVar) (r : Int) (hS : f21v1 a1 = some r) : lev codes base d 21 [(.d (.sl a1.length (e_GVar.cells a1))), (.fn 19 [])] [] = some ((.d (.int .i64 r)), []) := by
  refine lev_go codes21 rfl rfl (Nat.le_trans (Nat.le_of_ble_eq_true rfl) hd) fun Q hQ => ?_
  unfold f21v1 at hS
  show ZR _ Q c21_b [] _
  replace hQ : ∀ e st', f21v1_Q r e st' → Q e st' := hQ
  refine zrSeq ?_
  refine zrReg ?_
  refine zlRun (n := 1) (j := 1) rfl (by kernel_rfl) ?_
  refine zlEnd (by kernel_rfl) ?_
  refine zkSeq ?_
  refine zrSeq ?_
  refine zrSeq ?_
  refine zrReg ?_
  refine zlRun (n := 3) (j := 3) rfl (by kernel_rfl) ?_
  refine zlEnd (by kernel_rfl) ?_
  refine zkSeq ?_
  refine zrBlk ?_
  refine bindE hS (fun z9 hz9 hS => ?_)
  refine zrLoop (f21v1_l0_H a1) (f21v1_l0_X a1) (fun x st r Q h0 hS hQ => f21v1_l0_ok hd a1 hQ hS h0) (x := 0) (z := z9) (by show keepSt _ _ _ _ = _; kernel_rfl) hz9 ?_
  rcases z9 with z10 | z11
  · replace hS := (show _ = _ from hS)
    simp only [Sum.elim_inl] at hS
    intro e st' _ hX
    obtain ⟨rfl, rfl⟩ : _ ∧ _ := hX
    refine zkBlkX ?_
    refine zkSeq ?_
    refine zrSeq ?_
    refine zrReg ?_
    refine zlRun (n := 1) (j := 1) rfl (by kernel_rfl) ?_
    refine zlEnd (by kernel_rfl) ?_
    refine zkSeq ?_
    refine zrRet ?_
    refine zkNil ?_
    exact endQ hS hQ (fRet (by kernel_rfl) ((congrArg (fun s => outR s 0 c21.res) (by kernel_rfl : finSt c21.fin _ = f21v1_fin (-1))).trans (f21v1_out (-1))))
  · simp only [Sum.elim_inr] at hS
    intro e st' _ hX
    obtain ⟨rfl, hX⟩ : _ ∧ _ := hX
    refine zkBlkR ?_
    refine zkSeqR ?_
    refine zkNil ?_
    exact endQ hS hQ (fRet (by kernel_rfl) ((congrArg (fun s => outR s 0 c21.res) hX).trans (f21v1_out z11)))
/- slices.ContainsFunc[[]farwriter/api.Var,farwriter/api.Var] -/
def f15v1_fin (p2 : Bool) : St := ⟨(up (fun _ => .un) 4 (.d (.bool p2))), (hB fun _ => 0)⟩
theorem f15v1_out (p2 : Bool) : outR (f15v1_fin p2) 0 c15.res = some ((.d (.bool p2)), []) := by
  kernel_rfl
def f15v1_Q (r : Bool) (e : PX) (st : St) : Prop := DoneF c15 0 ((.d (.bool r)), []) e st
noncomputable def f15v1 (a1 : List GVar) : Option (Bool) := ((f21v1 a1).bind fun z2 => (bif (decide (0 ≤ z2)) then (some true) else (some false)))
theorem f15v1_ok (base : Orc) (d : Nat) (hd : 3 ≤ d) (a1 : List GVar) (r : Bool) (hS : f15v1 a1 = some r) : lev codes base d 15 [(.d (.sl a1.length (e_GVar.cells a1))), (.fn 19 [])] [] = some ((.d (.bool r)), []) := by
  refine lev_go codes15 rfl rfl (Nat.le_trans (Nat.le_of_ble_eq_true rfl) hd) fun Q hQ => ?_
  unfold f15v1 at hS
  show ZR _ Q c15_b [] _
  replace hQ : ∀ e st', f15v1_Q r e st' → Q e st' := hQ
  refine zrSeq ?_
  refine zrReg ?_
  refine zlRun (n := 1) (j := 1) rfl (by kernel_rfl) ?_
  refine zlEnd (by kernel_rfl) ?_
  refine zkSeq ?_
  refine zrSeq ?_
  refine zrReg ?_
  refine zlRun (n := 2) (j := 2) rfl (by kernel_rfl) ?_
  refine bindE hS (fun z2 hz2 hS => ?_)
  refine zlOp (d := some 7) (op := (.call 21 [(.tmp 5), (.tmp 6)])) (g := none) (j := 3) rfl (by kernel_rfl) (by kernel_rfl) (ev_callA (by kernel_rfl) (f21v1_ok base (d - 1) (dpt hd rfl) a1 z2 hz2) (by kernel_rfl) (by kernel_rfl)) ?_
  refine zlBool (d := 8) (op := (.cmpI .geq (.tmp 7) (.const (.int .i64 0)))) (g := none) (j := 4) (decide (0 ≤ z2)) rfl (by kernel_rfl) (by kernel_rfl) (by kernel_rfl) (fun hc => ?_) (fun hc => ?_)
  · replace hS := cond_t hc hS
    refine zlRun (n := 1) (j := 5) rfl (by kernel_rfl) ?_
    refine zlEnd (by kernel_rfl) ?_
    refine zkSeq ?_
    refine zrRet ?_
    refine zkNil ?_
    exact endQ hS hQ (fRet (by kernel_rfl) ((congrArg (fun s => outR s 0 c15.res) (by kernel_rfl : finSt c15.fin _ = f15v1_fin true)).trans (f15v1_out true)))
  · replace hS := cond_f hc hS
    refine zlRun (n := 1) (j := 5) rfl (by kernel_rfl) ?_
    refine zlEnd (by kernel_rfl) ?_
    refine zkSeq ?_
    refine zrRet ?_
    refine zkNil ?_
    exact endQ hS hQ (fRet (by kernel_rfl) ((congrArg (fun s => outR s 0 c15.res) (by kernel_rfl : finSt c15.fin _ = f15v1_fin false)).trans (f15v1_out false)))
/- farwriter/environ.Wanted -/
def f12_fin (p4 : List GVar) (p5 : Int) : St := ⟨(up (up (fun _ => .un) 3 (.d (.int .i64 p5))) 2 (.r (.msl 169 0 0 p4.length))), (up (hB fun _ => 0) 169 ⟨0, some (.own 25 4 (e_GVar.cells p4))⟩)⟩
theorem f12_out (p4 : List GVar) (p5 : Int) : outR (f12_fin p4 p5) 0 c12.res = some ((.tup [(.r (.own 0 25 4 p4.length (e_GVar.cells p4))), (.d (.int .i64 p5))]), []) := by
  exact out_of (ids := []) (ids' := [169]) (l := [(.r (.msl 169 0 0 p4.length)), (.d (.int .i64 p5))]) (by kernel_rfl) (by kernel_rfl) (o_tup (o_cons (o_own e_GVar (e := 25) (k := 4) (xs := p4) (by kernel_rfl) rfl rfl rfl rfl) (o_cons rfl o_nil)))
def f12_Q (r : (List GVar) × Int) (e : PX) (st : St) : Prop := DoneF c12 0 ((.tup [(.r (.own 0 25 4 r.1.length (e_GVar.cells r.1))), (.d (.int .i64 r.2))]), []) e st
def f12_j0_J (a1 : List UInt8) (p9 : List GVar) : St := ⟨(up (fun _ => .un) 4 (.r (.msl 72 0 0 p9.length))), (up (hB fun _ => 0) 72 ⟨0, some (.own 25 4 (e_GVar.cells p9))⟩)⟩
noncomputable def f12_j0 (a1 : List UInt8) (p9 : List GVar) : Option ((List GVar) × Int) := ((f15v1 p9).bind fun z4 => (bif z4 then (some ([], 4)) else (some (p9, 0))))
theorem f12_j0_ok {base : Orc} {d : Nat} (hd : 6 ≤ d) (a1 : List UInt8) {r : (List GVar) × Int} {Q : PX → St → Prop} (hQ : ∀ e st', f12_Q r e st' → Q e st') (p9 : List GVar) (hS : f12_j0 a1 p9 = some r) {st : St} (he : keepSt [4] [(72, .id 72)] [] st = f12_j0_J a1 p9) : ZR (lev codes base (d - 1)) Q c12_1 [] st := by
  refine zrKeep he ?_
  unfold f12_j0 at hS
  refine zrSeq ?_
  refine zrSeq ?_
  refine zrReg ?_
  refine zlRun (n := 1) (j := 1) rfl (by kernel_rfl) ?_
  refine bindE hS (fun z4 hz4 hS => ?_)
  refine zlOp (d := some 15) (op := (.call 15 [(.tmp 14), (.func 19)])) (g := none) (j := 2) rfl (by kernel_rfl) (by kernel_rfl) (ev_callB (args := [(.r (.msl 72 0 0 p9.length)), (.fn 19 [])]) (by kernel_rfl) (l_cons (l_own e_GVar (e := 25) (k := 4) (xs := p9) (by kernel_rfl) rfl rfl) (l_cons (by kernel_rfl) l_nil)) (f15v1_ok base (d - 1) (dpt hd rfl) p9 z4 hz4) (by kernel_rfl) (by kernel_rfl)) ?_
  refine zlEnd (by kernel_rfl) ?_
  refine zkSeq ?_
  refine zrSplit 15 z4 (by kernel_rfl) (fun hc => ?_) (fun hc => ?_)
  · replace hS := cond_t hc hS
    refine zrCondT (by kernel_rfl) ?_
    refine zrSeq ?_
    refine zrReg ?_
    refine zlRun (n := 2) (j := 2) rfl (by kernel_rfl) ?_
    refine zlEnd (by kernel_rfl) ?_
    refine zkSeq ?_
    refine zrRet ?_
    refine zkSeqR ?_
    refine zkNil ?_
    exact endQ hS hQ (fRet (by kernel_rfl) ((congrArg (fun s => outR s 0 c12.res) (by kernel_rfl : finSt c12.fin _ = f12_fin [] 4)).trans (f12_out [] 4)))
  · replace hS := cond_f hc hS
    refine zrCondF (by kernel_rfl) ?_
    refine zrSkip ?_
    refine zkSeq ?_
    refine zrSeq ?_
    refine zrReg ?_
    refine zlRun (n := 3) (j := 3) rfl (by kernel_rfl) ?_
    refine zlEnd (by kernel_rfl) ?_
    refine zkSeq ?_
    refine zrRet ?_
    refine zkNil ?_
    exact endQ hS hQ (fRet (by kernel_rfl) ((congrArg (fun s => outR s 0 c12.res) (by kernel_rfl : finSt c12.fin _ = f12_fin p9 0)).trans (f12_out p9 0)))
noncomputable def f12 (a1 : List UInt8) : Option ((List GVar) × Int) := ((f7 a1).bind fun z3 => (bif (!decide (z3.2 = 0)) then (some ([], z3.2)) else (f12_j0 a1 z3.1)))
theorem f12_ok (base : Orc) (d : Nat) (hd : 6 ≤ d) (a1 : List UInt8) (r : (List GVar) × Int) (hS : f12 a1 = some r) : lev codes base d 12 [(.d (.str a1))] [] = some ((.tup [(.r (.own 0 25 4 r.1.length (e_GVar.cells r.1))), (.d (.int .i64 r.2))]), []) := by
  refine lev_go codes12 rfl rfl (Nat.le_trans (Nat.le_of_ble_eq_true rfl) hd) fun Q hQ => ?_
  unfold f12 at hS
  show ZR _ Q c12_b [] _
  replace hQ : ∀ e st', f12_Q r e st' → Q e st' := hQ
  refine zrSeq ?_
  refine zrReg ?_
  refine zlRun (n := 2) (j := 2) rfl (by kernel_rfl) ?_
  refine zlEnd (by kernel_rfl) ?_
  refine zkSeq ?_
  refine zrSeq ?_
  refine zrReg ?_
  refine zlRun (n := 1) (j := 1) rfl (by kernel_rfl) ?_
  refine bindE hS (fun z3 hz3 hS => ?_)
  refine zlOp (d := some 8) (op := (.call 7 [(.tmp 7)])) (g := none) (j := 2) rfl (by kernel_rfl) (by kernel_rfl) (ev_callA (by kernel_rfl) (f7_ok base (d - 1) (dpt hd rfl) a1 z3 hz3) (by kernel_rfl) (by kernel_rfl)) ?_
  refine zlRun (n := 5) (j := 7) rfl (by kernel_rfl) ?_
  refine zlEnd (by kernel_rfl) ?_
  refine zkSeq ?_
  refine zrSeq ?_
  refine zrSeq ?_
  refine zrReg ?_
  refine zlRun (n := 1) (j := 1) rfl (by kernel_rfl) ?_
  refine zlBool (d := 12) (op := (.cmpI .neq (.tmp 11) (.const (.int .i64 0)))) (g := none) (j := 2) (!decide (z3.2 = 0)) rfl (by kernel_rfl) (by kernel_rfl) (by kernel_rfl) (fun hc => ?_) (fun hc => ?_)
  · replace hS := cond_t hc hS
    refine zlEnd (by kernel_rfl) ?_
    refine zkSeq ?_
    refine zrCondT (by kernel_rfl) ?_
    refine zrSeq ?_
    refine zrReg ?_
    refine zlRun (n := 3) (j := 3) rfl (by kernel_rfl) ?_
    refine zlEnd (by kernel_rfl) ?_
    refine zkSeq ?_
    refine zrRet ?_
    refine zkSeqR ?_
    refine zkNil ?_
    exact endQ hS hQ (fRet (by kernel_rfl) ((congrArg (fun s => outR s 0 c12.res) (by kernel_rfl : finSt c12.fin _ = f12_fin [] z3.2)).trans (f12_out [] z3.2)))
  · replace hS := cond_f hc hS
    refine zlEnd (by kernel_rfl) ?_
    refine zkSeq ?_
    refine zrCondF (by kernel_rfl) ?_
    refine zrSkip ?_
    refine zkSeq ?_
    exact f12_j0_ok hd a1 hQ z3.1 hS (by kernel_rfl)
end Go.Proofs.Ytdphimcpcclifaa.Re
