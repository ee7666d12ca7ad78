/- Typed functions, and that the codes are these. Printed by dec.py. -/
import Derived.Test.YtcbhpadficfnnaaDoorDPkD
namespace Go.Proofs.YtcbhpadficfnnaaDoor.Pm
set_option maxRecDepth 1000000
set_option maxHeartbeats 20000000
set_option linter.unusedVariables false
/- farwriter/press.Key -/
def f13_fin (p19 : List UInt8) (p20 : Int) : St := ⟨(up (up (fun _ => .un) 5 (.d (.int .i64 p20))) 4 (.d (.str p19))), (hB fun _ => 0)⟩
theorem f13_out (p19 : List UInt8) (p20 : Int) : outR (f13_fin p19 p20) 0 c13.res = some ((.tup [(.d (.str p19)), (.d (.int .i64 p20))]), []) := by
  kernel_rfl
def f13_Q (r : (List UInt8) × Int) (e : PX) (st : St) : Prop := DoneF c13 0 ((.tup [(.d (.str r.1)), (.d (.int .i64 r.2))]), []) e st
def f13_j1_J (a1 : GKey) (a2 : Int) : St := ⟨(up (fun _ => .un) 2 (.r (.ptr 24 0 0))), (up (hB fun _ => 0) 24 ⟨0, some (.box ((.d (.int .i64 a1.Name)) :: ((.d (.int .i64 a1.Rune)) :: ((.d (.int .i64 a1.Mods)) :: []))))⟩)⟩
noncomputable def f13_j1 (a1 : GKey) (a2 : Int) : Option ((List UInt8) × Int) := ((f27 a1).bind fun z21 => (bif (!decide ((bitI .and .i64 a1.Mods 2) = 0)) then ((cat? ([27] : List UInt8) z21).bind fun z22 => (some (z22, 0))) else (some (z21, 0))))
theorem f13_j1_ok {d : Nat} (hd : 6 ≤ d) (a1 : GKey) (a2 : Int) {r : (List UInt8) × Int} {Q : PX → St → Prop} (hQ : ∀ e st', f13_Q r e st' → Q e st')  (hS : f13_j1 a1 a2 = some r) {st : St} (he : keepSt [2] [(24, .id 24)] [] st = f13_j1_J a1 a2) : ZR (lev codes baseL (d - 1)) Q c13_1 [] st := by
  refine zrKeep he ?_
  unfold f13_j1 at hS
  refine zrSeq ?_
  refine zrReg ?_
  refine zlRun (n := 1) (j := 1) rfl (by kernel_rfl) ?_
  refine bindE hS (fun z21 hz21 hS => ?_)
  refine zlOp (d := some 110) (op := (.call 27 [(.tmp 109)])) (g := none) (j := 2) rfl (by kernel_rfl) (by kernel_rfl) (ev_callA (by kernel_rfl) (f27_ok (d - 1) (dpt hd rfl) a1 z21 hz21) (by kernel_rfl) (by kernel_rfl)) ?_
  refine zlRun (n := 1) (j := 3) rfl (by kernel_rfl) ?_
  refine zlEnd (by kernel_rfl) ?_
  refine zkSeq ?_
  refine zrSeq ?_
  refine zrSeq ?_
  refine zrReg ?_
  refine zlRun (n := 3) (j := 3) rfl (by kernel_rfl) ?_
  refine zlBool (d := 114) (op := (.cmpI .neq (.tmp 113) (.const (.int .i64 0)))) (g := none) (j := 4) (!decide ((bitI .and .i64 a1.Mods 2) = 0)) rfl (by kernel_rfl) (by kernel_rfl) (by kernel_rfl) (fun hc => ?_) (fun hc => ?_)
  · replace hS := cond_t hc hS
    refine zlEnd (by kernel_rfl) ?_
    refine zkSeq ?_
    refine zrCondT (by kernel_rfl) ?_
    refine zrReg ?_
    refine zlRun (n := 1) (j := 1) rfl (by kernel_rfl) ?_
    refine bindE hS (fun z22 hz22 hS => ?_)
    refine zlOp (d := some 116) (op := (.strO .add (.const (.string ⟨#[27]⟩)) (.tmp 115))) (g := none) (v := (.d (.str z22))) (ups := []) (j := 2) rfl (by kernel_rfl) (by kernel_rfl) (ev_cat (a := [27]) (c := z21) (by kernel_rfl) (by kernel_rfl) hz22) ?_
    refine zlRun (n := 1) (j := 3) rfl (by kernel_rfl) ?_
    refine zlEnd (by kernel_rfl) ?_
    refine zkSeq ?_
    refine zrSeq ?_
    refine zrReg ?_
    refine zlRun (n := 3) (j := 3) rfl (by kernel_rfl) ?_
    refine zlEnd (by kernel_rfl) ?_
    refine zkSeq ?_
    refine zrRet ?_
    refine zkNil ?_
    exact endQ hS hQ (fRet (by kernel_rfl) ((congrArg (fun s => outR s 0 c13.res) (by kernel_rfl : finSt c13.fin _ = f13_fin z22 0)).trans (f13_out z22 0)))
  · replace hS := cond_f hc hS
    refine zlEnd (by kernel_rfl) ?_
    refine zkSeq ?_
    refine zrCondF (by kernel_rfl) ?_
    refine zrSkip ?_
    refine zkSeq ?_
    refine zrSeq ?_
    refine zrReg ?_
    refine zlRun (n := 3) (j := 3) rfl (by kernel_rfl) ?_
    refine zlEnd (by kernel_rfl) ?_
    refine zkSeq ?_
    refine zrRet ?_
    refine zkNil ?_
    exact endQ hS hQ (fRet (by kernel_rfl) ((congrArg (fun s => outR s 0 c13.res) (by kernel_rfl : finSt c13.fin _ = f13_fin z21 0)).trans (f13_out z21 0)))
def f13_j5_J (a1 : GKey) (a2 : Int) : St := ⟨(up (fun _ => .un) 2 (.r (.ptr 24 0 0))), (up (hB fun _ => 0) 24 ⟨0, some (.box ((.d (.int .i64 a1.Name)) :: ((.d (.int .i64 a1.Rune)) :: ((.d (.int .i64 a1.Mods)) :: []))))⟩)⟩
noncomputable def f13_j5 (a1 : GKey) (a2 : Int) : Option ((List UInt8) × Int) := (f13_j1 a1 a2 )
theorem f13_j5_ok {d : Nat} (hd : 6 ≤ d) (a1 : GKey) (a2 : Int) {r : (List UInt8) × Int} {Q : PX → St → Prop} (hQ : ∀ e st', f13_Q r e st' → Q e st')  (hS : f13_j5 a1 a2 = some r) {st : St} (he : keepSt [2] [(24, .id 24)] [] st = f13_j5_J a1 a2) : ZR (lev codes baseL (d - 1)) Q c13_2 [.blk 0, .seq c13_1] st := by
  refine zrKeep he ?_
  unfold f13_j5 at hS
  refine zrSkip ?_
  refine zkBlk ?_
  refine zkSeq ?_
  exact f13_j1_ok hd a1 a2 hQ  hS (by kernel_rfl)
def f13_j4_J (a1 : GKey) (a2 : Int) : St := ⟨(up (up (fun _ => .un) 6 (.d (.int .i64 a1.Name))) 2 (.r (.ptr 24 0 0))), (up (hB fun _ => 0) 24 ⟨0, some (.box ((.d (.int .i64 a1.Name)) :: ((.d (.int .i64 a1.Rune)) :: ((.d (.int .i64 a1.Mods)) :: []))))⟩)⟩
noncomputable def f13_j4 (a1 : GKey) (a2 : Int) : Option ((List UInt8) × Int) := (bif (decide (14 < a1.Name)) then (bif (decide (a1.Name < 23)) then ((inR (IntKind.i64.wrap ((IntKind.i64.wrap (a1.Name - 11)) - 4)) 8).bind fun m23 => ((f26 (([15, 17, 18, 19, 20, 21, 23, 24] : List Int).getD m23 0) a1.Mods).bind fun z24 => (some (z24, 0)))) else (f13_j5 a1 a2 )) else (f13_j5 a1 a2 ))
theorem f13_j4_ok {d : Nat} (hd : 6 ≤ d) (a1 : GKey) (a2 : Int) {r : (List UInt8) × Int} {Q : PX → St → Prop} (hQ : ∀ e st', f13_Q r e st' → Q e st')  (hS : f13_j4 a1 a2 = some r) {st : St} (he : keepSt [2, 6] [(24, .id 24)] [] st = f13_j4_J a1 a2) : ZR (lev codes baseL (d - 1)) Q c13_3 [.blk 0, .seq c13_1] st := by
  refine zrKeep he ?_
  unfold f13_j4 at hS
  refine zrSeq ?_
  refine zrReg ?_
  refine zlRun (n := 1) (j := 1) rfl (by kernel_rfl) ?_
  refine zlBool (d := 96) (op := (.cmpI .gtr (.tmp 95) (.const (.int .i64 14)))) (g := none) (j := 2) (decide (14 < a1.Name)) rfl (by kernel_rfl) (by kernel_rfl) (by kernel_rfl) (fun hc => ?_) (fun hc => ?_)
  · replace hS := cond_t hc hS
    refine zlRun (n := 2) (j := 4) rfl (by kernel_rfl) ?_
    refine zlBool (d := 99) (op := (.cmpI .lss (.tmp 98) (.const (.int .i64 23)))) (g := (some (97, true))) (j := 5) (decide (a1.Name < 23)) rfl (by kernel_rfl) (by kernel_rfl) (by kernel_rfl) (fun hc => ?_) (fun hc => ?_)
    · replace hS := cond_t hc hS
      refine zlRun (n := 2) (j := 7) rfl (by kernel_rfl) ?_
      refine zlEnd (by kernel_rfl) ?_
      refine zkSeq ?_
      refine zrCondT (by kernel_rfl) ?_
      refine zrSeq ?_
      refine zrRegD ?_
      refine zdRun (n := 4) (j := 4) (ts := [[], [], [], []]) (acc' := [[], [], [], []]) rfl (by kernel_rfl) (by kernel_rfl) (by kernel_rfl) ?_
      refine bindE hS (fun m23 hm23 hS => ?_)
      refine zdOp (d := some 105) (op := (.ixV .false 8 1 (.tmp 101) (.tmp 104))) (g := none) (v := (.d (.int .i64 (([15, 17, 18, 19, 20, 21, 23, 24] : List Int).getD m23 0)))) (ups := []) (j := 5) (t1 := []) (acc' := [[], [], [], [], []]) (by kernel_rfl) (by kernel_rfl) rfl (by kernel_rfl) (by kernel_rfl) (ev_ixV (eInt .i64) (fun i => ([15, 17, 18, 19, 20, 21, 23, 24] : List Int).getD i 0) (kk := .i64) (j := (IntKind.i64.wrap ((IntKind.i64.wrap (a1.Name - 11)) - 4))) (by kernel_rfl) (by kernel_rfl) hm23 rfl (by kernel_rfl) (by kernel_rfl)) ?_
      refine zdRun (n := 2) (j := 7) (ts := [[], [(24, false)]]) (acc' := [[], [], [], [], [], [], [(24, false)]]) rfl (by kernel_rfl) (by kernel_rfl) (by kernel_rfl) ?_
      refine bindE hS (fun z24 hz24 hS => ?_)
      refine zdOp (d := some 108) (op := (.call 26 [(.tmp 105), (.tmp 107)])) (g := none) (j := 8) (t1 := [(872, true), (873, true), (874, true), (875, true), (876, true), (877, true), (878, true), (879, true)]) (acc' := [[], [], [], [], [], [], [(24, false)], [(872, true), (873, true), (874, true), (875, true), (876, true), (877, true), (878, true), (879, true)]]) (by kernel_rfl) (by kernel_rfl) rfl (by kernel_rfl) (by kernel_rfl) (ev_callA (by kernel_rfl) (f26_ok (d - 1) (dpt hd rfl) (([15, 17, 18, 19, 20, 21, 23, 24] : List Int).getD m23 0) a1.Mods z24 hz24) (by kernel_rfl) (by kernel_rfl)) ?_
      refine zdRun (n := 2) (j := 10) (ts := [[], []]) (acc' := [[], [], [], [], [], [], [(24, false)], [(872, true), (873, true), (874, true), (875, true), (876, true), (877, true), (878, true), (879, true)], [], []]) rfl (by kernel_rfl) (by kernel_rfl) (by kernel_rfl) ?_
      refine zdEnd (by kernel_rfl) (by kernel_rfl) ?_
      refine zkSeq ?_
      refine zrRet ?_
      refine zkBlkR ?_
      refine zkSeqR ?_
      refine zkNil ?_
      exact endQ hS hQ (fRet (by kernel_rfl) ((congrArg (fun s => outR s 0 c13.res) (by kernel_rfl : finSt c13.fin _ = f13_fin z24 0)).trans (f13_out z24 0)))
    · replace hS := cond_f hc hS
      refine zlRun (n := 2) (j := 7) rfl (by kernel_rfl) ?_
      refine zlEnd (by kernel_rfl) ?_
      refine zkSeq ?_
      refine zrCondF (by kernel_rfl) ?_
      exact f13_j5_ok hd a1 a2 hQ  hS (by kernel_rfl)
  · replace hS := cond_f hc hS
    refine zlRun (n := 5) (j := 7) rfl (by kernel_rfl) ?_
    refine zlEnd (by kernel_rfl) ?_
    refine zkSeq ?_
    refine zrCondF (by kernel_rfl) ?_
    exact f13_j5_ok hd a1 a2 hQ  hS (by kernel_rfl)
def f13_j3_J (a1 : GKey) (a2 : Int) : St := ⟨(up (up (fun _ => .un) 6 (.d (.int .i64 a1.Name))) 2 (.r (.ptr 24 0 0))), (up (hB fun _ => 0) 24 ⟨0, some (.box ((.d (.int .i64 a1.Name)) :: ((.d (.int .i64 a1.Rune)) :: ((.d (.int .i64 a1.Mods)) :: []))))⟩)⟩
noncomputable def f13_j3 (a1 : GKey) (a2 : Int) : Option ((List UInt8) × Int) := (bif (decide (11 ≤ a1.Name)) then (bif (decide (a1.Name ≤ 14)) then ((idx ([80, 81, 82, 83] : List UInt8) (IntKind.i64.wrap (a1.Name - 11))).bind fun z25 => ((f25 [79] z25 a1.Mods).bind fun z26 => (some (z26, 0)))) else (f13_j4 a1 a2 )) else (f13_j4 a1 a2 ))
theorem f13_j3_ok {d : Nat} (hd : 6 ≤ d) (a1 : GKey) (a2 : Int) {r : (List UInt8) × Int} {Q : PX → St → Prop} (hQ : ∀ e st', f13_Q r e st' → Q e st')  (hS : f13_j3 a1 a2 = some r) {st : St} (he : keepSt [2, 6] [(24, .id 24)] [] st = f13_j3_J a1 a2) : ZR (lev codes baseL (d - 1)) Q c13_4 [.blk 0, .seq c13_1] st := by
  refine zrKeep he ?_
  unfold f13_j3 at hS
  refine zrSeq ?_
  refine zrReg ?_
  refine zlRun (n := 1) (j := 1) rfl (by kernel_rfl) ?_
  refine zlBool (d := 83) (op := (.cmpI .geq (.tmp 82) (.const (.int .i64 11)))) (g := none) (j := 2) (decide (11 ≤ a1.Name)) rfl (by kernel_rfl) (by kernel_rfl) (by kernel_rfl) (fun hc => ?_) (fun hc => ?_)
  · replace hS := cond_t hc hS
    refine zlRun (n := 2) (j := 4) rfl (by kernel_rfl) ?_
    refine zlBool (d := 86) (op := (.cmpI .leq (.tmp 85) (.const (.int .i64 14)))) (g := (some (84, true))) (j := 5) (decide (a1.Name ≤ 14)) rfl (by kernel_rfl) (by kernel_rfl) (by kernel_rfl) (fun hc => ?_) (fun hc => ?_)
    · replace hS := cond_t hc hS
      refine zlRun (n := 2) (j := 7) rfl (by kernel_rfl) ?_
      refine zlEnd (by kernel_rfl) ?_
      refine zkSeq ?_
      refine zrCondT (by kernel_rfl) ?_
      refine zrSeq ?_
      refine zrRegD ?_
      refine zdRun (n := 2) (j := 2) (ts := [[], []]) (acc' := [[], []]) rfl (by kernel_rfl) (by kernel_rfl) (by kernel_rfl) ?_
      refine bindE hS (fun z25 hz25 hS => ?_)
      refine zdOp (d := some 90) (op := (.ixStr (.const (.string ⟨#[80, 81, 82, 83]⟩)) (.tmp 89))) (g := none) (v := (.d (.int .u8 (z25.toNat : Int)))) (ups := []) (j := 3) (t1 := []) (acc' := [[], [], []]) (by kernel_rfl) (by kernel_rfl) rfl (by kernel_rfl) (by kernel_rfl) (ev_ixStr (kk := .i64) (s := [80, 81, 82, 83]) (j := (IntKind.i64.wrap (a1.Name - 11))) (by kernel_rfl) (by kernel_rfl) hz25) ?_
      refine zdRun (n := 2) (j := 5) (ts := [[], [(24, false)]]) (acc' := [[], [], [], [], [(24, false)]]) rfl (by kernel_rfl) (by kernel_rfl) (by kernel_rfl) ?_
      refine bindE hS (fun z26 hz26 hS => ?_)
      refine zdOp (d := some 93) (op := (.call 25 [(.const (.string ⟨#[79]⟩)), (.tmp 90), (.tmp 92)])) (g := none) (j := 6) (t1 := [(752, true), (753, true), (754, true), (755, true), (756, true), (757, true), (758, true), (759, true)]) (acc' := [[], [], [], [], [(24, false)], [(752, true), (753, true), (754, true), (755, true), (756, true), (757, true), (758, true), (759, true)]]) (by kernel_rfl) (by kernel_rfl) rfl (by kernel_rfl) (by kernel_rfl) (ev_callA (by kernel_rfl) (f25_ok (d - 1) (dpt hd rfl) [79] z25 a1.Mods z26 hz26) (by kernel_rfl) (by kernel_rfl)) ?_
      refine zdRun (n := 2) (j := 8) (ts := [[], []]) (acc' := [[], [], [], [], [(24, false)], [(752, true), (753, true), (754, true), (755, true), (756, true), (757, true), (758, true), (759, true)], [], []]) rfl (by kernel_rfl) (by kernel_rfl) (by kernel_rfl) ?_
      refine zdEnd (by kernel_rfl) (by kernel_rfl) ?_
      refine zkSeq ?_
      refine zrRet ?_
      refine zkBlkR ?_
      refine zkSeqR ?_
      refine zkNil ?_
      exact endQ hS hQ (fRet (by kernel_rfl) ((congrArg (fun s => outR s 0 c13.res) (by kernel_rfl : finSt c13.fin _ = f13_fin z26 0)).trans (f13_out z26 0)))
    · replace hS := cond_f hc hS
      refine zlRun (n := 2) (j := 7) rfl (by kernel_rfl) ?_
      refine zlEnd (by kernel_rfl) ?_
      refine zkSeq ?_
      refine zrCondF (by kernel_rfl) ?_
      exact f13_j4_ok hd a1 a2 hQ  hS (by kernel_rfl)
  · replace hS := cond_f hc hS
    refine zlRun (n := 5) (j := 7) rfl (by kernel_rfl) ?_
    refine zlEnd (by kernel_rfl) ?_
    refine zkSeq ?_
    refine zrCondF (by kernel_rfl) ?_
    exact f13_j4_ok hd a1 a2 hQ  hS (by kernel_rfl)
def f13_j2_J (a1 : GKey) (a2 : Int) : St := ⟨(up (up (fun _ => .un) 6 (.d (.int .i64 a1.Name))) 2 (.r (.ptr 24 0 0))), (up (hB fun _ => 0) 24 ⟨0, some (.box ((.d (.int .i64 a1.Name)) :: ((.d (.int .i64 a1.Rune)) :: ((.d (.int .i64 a1.Mods)) :: []))))⟩)⟩
noncomputable def f13_j2 (a1 : GKey) (a2 : Int) : Option ((List UInt8) × Int) := (bif (decide (7 ≤ a1.Name)) then (bif (decide (a1.Name ≤ 10)) then ((inR (IntKind.i64.wrap (a1.Name - 7)) 4).bind fun m27 => ((f26 (([2, 3, 5, 6] : List Int).getD m27 0) a1.Mods).bind fun z28 => (some (z28, 0)))) else (f13_j3 a1 a2 )) else (f13_j3 a1 a2 ))
theorem f13_j2_ok {d : Nat} (hd : 6 ≤ d) (a1 : GKey) (a2 : Int) {r : (List UInt8) × Int} {Q : PX → St → Prop} (hQ : ∀ e st', f13_Q r e st' → Q e st')  (hS : f13_j2 a1 a2 = some r) {st : St} (he : keepSt [2, 6] [(24, .id 24)] [] st = f13_j2_J a1 a2) : ZR (lev codes baseL (d - 1)) Q c13_5 [.blk 0, .seq c13_1] st := by
  refine zrKeep he ?_
  unfold f13_j2 at hS
  refine zrSeq ?_
  refine zrReg ?_
  refine zlRun (n := 1) (j := 1) rfl (by kernel_rfl) ?_
  refine zlBool (d := 69) (op := (.cmpI .geq (.tmp 68) (.const (.int .i64 7)))) (g := none) (j := 2) (decide (7 ≤ a1.Name)) rfl (by kernel_rfl) (by kernel_rfl) (by kernel_rfl) (fun hc => ?_) (fun hc => ?_)
  · replace hS := cond_t hc hS
    refine zlRun (n := 2) (j := 4) rfl (by kernel_rfl) ?_
    refine zlBool (d := 72) (op := (.cmpI .leq (.tmp 71) (.const (.int .i64 10)))) (g := (some (70, true))) (j := 5) (decide (a1.Name ≤ 10)) rfl (by kernel_rfl) (by kernel_rfl) (by kernel_rfl) (fun hc => ?_) (fun hc => ?_)
    · replace hS := cond_t hc hS
      refine zlRun (n := 2) (j := 7) rfl (by kernel_rfl) ?_
      refine zlEnd (by kernel_rfl) ?_
      refine zkSeq ?_
      refine zrCondT (by kernel_rfl) ?_
      refine zrSeq ?_
      refine zrRegD ?_
      refine zdRun (n := 3) (j := 3) (ts := [[], [], []]) (acc' := [[], [], []]) rfl (by kernel_rfl) (by kernel_rfl) (by kernel_rfl) ?_
      refine bindE hS (fun m27 hm27 hS => ?_)
      refine zdOp (d := some 77) (op := (.ixV .false 4 1 (.tmp 74) (.tmp 76))) (g := none) (v := (.d (.int .i64 (([2, 3, 5, 6] : List Int).getD m27 0)))) (ups := []) (j := 4) (t1 := []) (acc' := [[], [], [], []]) (by kernel_rfl) (by kernel_rfl) rfl (by kernel_rfl) (by kernel_rfl) (ev_ixV (eInt .i64) (fun i => ([2, 3, 5, 6] : List Int).getD i 0) (kk := .i64) (j := (IntKind.i64.wrap (a1.Name - 7))) (by kernel_rfl) (by kernel_rfl) hm27 rfl (by kernel_rfl) (by kernel_rfl)) ?_
      refine zdRun (n := 2) (j := 6) (ts := [[], [(24, false)]]) (acc' := [[], [], [], [], [], [(24, false)]]) rfl (by kernel_rfl) (by kernel_rfl) (by kernel_rfl) ?_
      refine bindE hS (fun z28 hz28 hS => ?_)
      refine zdOp (d := some 80) (op := (.call 26 [(.tmp 77), (.tmp 79)])) (g := none) (j := 7) (t1 := [(648, true), (649, true), (650, true), (651, true), (652, true), (653, true), (654, true), (655, true)]) (acc' := [[], [], [], [], [], [(24, false)], [(648, true), (649, true), (650, true), (651, true), (652, true), (653, true), (654, true), (655, true)]]) (by kernel_rfl) (by kernel_rfl) rfl (by kernel_rfl) (by kernel_rfl) (ev_callA (by kernel_rfl) (f26_ok (d - 1) (dpt hd rfl) (([2, 3, 5, 6] : List Int).getD m27 0) a1.Mods z28 hz28) (by kernel_rfl) (by kernel_rfl)) ?_
      refine zdRun (n := 2) (j := 9) (ts := [[], []]) (acc' := [[], [], [], [], [], [(24, false)], [(648, true), (649, true), (650, true), (651, true), (652, true), (653, true), (654, true), (655, true)], [], []]) rfl (by kernel_rfl) (by kernel_rfl) (by kernel_rfl) ?_
      refine zdEnd (by kernel_rfl) (by kernel_rfl) ?_
      refine zkSeq ?_
      refine zrRet ?_
      refine zkBlkR ?_
      refine zkSeqR ?_
      refine zkNil ?_
      exact endQ hS hQ (fRet (by kernel_rfl) ((congrArg (fun s => outR s 0 c13.res) (by kernel_rfl : finSt c13.fin _ = f13_fin z28 0)).trans (f13_out z28 0)))
    · replace hS := cond_f hc hS
      refine zlRun (n := 2) (j := 7) rfl (by kernel_rfl) ?_
      refine zlEnd (by kernel_rfl) ?_
      refine zkSeq ?_
      refine zrCondF (by kernel_rfl) ?_
      exact f13_j3_ok hd a1 a2 hQ  hS (by kernel_rfl)
  · replace hS := cond_f hc hS
    refine zlRun (n := 5) (j := 7) rfl (by kernel_rfl) ?_
    refine zlEnd (by kernel_rfl) ?_
    refine zkSeq ?_
    refine zrCondF (by kernel_rfl) ?_
    exact f13_j3_ok hd a1 a2 hQ  hS (by kernel_rfl)
def f13_j6_J (a1 : GKey) (a2 : Int) (p38 : List UInt8) : St := ⟨(up (up (up (fun _ => .un) 7 (.d (.str p38))) 6 (.d (.int .i64 a1.Name))) 2 (.r (.ptr 24 0 0))), (up (hB fun _ => 0) 24 ⟨0, some (.box ((.d (.int .i64 a1.Name)) :: ((.d (.int .i64 a1.Rune)) :: ((.d (.int .i64 a1.Mods)) :: []))))⟩)⟩
noncomputable def f13_j6 (a1 : GKey) (a2 : Int) (p38 : List UInt8) : Option ((List UInt8) × Int) := ((idx ([65, 66, 67, 68, 72, 70] : List UInt8) (IntKind.i64.wrap (a1.Name - 1))).bind fun z29 => ((f25 p38 z29 a1.Mods).bind fun z30 => (some (z30, 0))))
theorem f13_j6_ok {d : Nat} (hd : 6 ≤ d) (a1 : GKey) (a2 : Int) {r : (List UInt8) × Int} {Q : PX → St → Prop} (hQ : ∀ e st', f13_Q r e st' → Q e st') (p38 : List UInt8) (hS : f13_j6 a1 a2 p38 = some r) {st : St} (he : keepSt [2, 6, 7] [(24, .id 24)] [] st = f13_j6_J a1 a2 p38) : ZR (lev codes baseL (d - 1)) Q c13_6 [.blk 0, .seq c13_1] st := by
  refine zrKeep he ?_
  unfold f13_j6 at hS
  refine zrSeq ?_
  refine zrRegD ?_
  refine zdRun (n := 3) (j := 3) (ts := [[], [], []]) (acc' := [[], [], []]) rfl (by kernel_rfl) (by kernel_rfl) (by kernel_rfl) ?_
  refine bindE hS (fun z29 hz29 hS => ?_)
  refine zdOp (d := some 63) (op := (.ixStr (.const (.string ⟨#[65, 66, 67, 68, 72, 70]⟩)) (.tmp 62))) (g := none) (v := (.d (.int .u8 (z29.toNat : Int)))) (ups := []) (j := 4) (t1 := []) (acc' := [[], [], [], []]) (by kernel_rfl) (by kernel_rfl) rfl (by kernel_rfl) (by kernel_rfl) (ev_ixStr (kk := .i64) (s := [65, 66, 67, 68, 72, 70]) (j := (IntKind.i64.wrap (a1.Name - 1))) (by kernel_rfl) (by kernel_rfl) hz29) ?_
  refine zdRun (n := 2) (j := 6) (ts := [[], [(24, false)]]) (acc' := [[], [], [], [], [], [(24, false)]]) rfl (by kernel_rfl) (by kernel_rfl) (by kernel_rfl) ?_
  refine bindE hS (fun z30 hz30 hS => ?_)
  refine zdOp (d := some 66) (op := (.call 25 [(.tmp 60), (.tmp 63), (.tmp 65)])) (g := none) (j := 7) (t1 := [(536, true), (537, true), (538, true), (539, true), (540, true), (541, true), (542, true), (543, true)]) (acc' := [[], [], [], [], [], [(24, false)], [(536, true), (537, true), (538, true), (539, true), (540, true), (541, true), (542, true), (543, true)]]) (by kernel_rfl) (by kernel_rfl) rfl (by kernel_rfl) (by kernel_rfl) (ev_callA (by kernel_rfl) (f25_ok (d - 1) (dpt hd rfl) p38 z29 a1.Mods z30 hz30) (by kernel_rfl) (by kernel_rfl)) ?_
  refine zdRun (n := 2) (j := 9) (ts := [[], []]) (acc' := [[], [], [], [], [], [(24, false)], [(536, true), (537, true), (538, true), (539, true), (540, true), (541, true), (542, true), (543, true)], [], []]) rfl (by kernel_rfl) (by kernel_rfl) (by kernel_rfl) ?_
  refine zdEnd (by kernel_rfl) (by kernel_rfl) ?_
  refine zkSeq ?_
  refine zrRet ?_
  refine zkBlkR ?_
  refine zkSeqR ?_
  refine zkNil ?_
  exact endQ hS hQ (fRet (by kernel_rfl) ((congrArg (fun s => outR s 0 c13.res) (by kernel_rfl : finSt c13.fin _ = f13_fin z30 0)).trans (f13_out z30 0)))
def f13_j0_J (a1 : GKey) (a2 : Int) : St := ⟨(up (up (fun _ => .un) 2 (.r (.ptr 24 0 0))) 1 (.d (.int .i64 a2))), (up (hB fun _ => 0) 24 ⟨0, some (.box ((.d (.int .i64 a1.Name)) :: ((.d (.int .i64 a1.Rune)) :: ((.d (.int .i64 a1.Mods)) :: []))))⟩)⟩
noncomputable def f13_j0 (a1 : GKey) (a2 : Int) : Option ((List UInt8) × Int) := (bif (decide (1 ≤ a1.Name)) then (bif (decide (a1.Name ≤ 6)) then (bif (!decide ((bitI .and .i64 a2 16) = 0)) then (f13_j6 a1 a2 [79]) else (f13_j6 a1 a2 [91])) else (f13_j2 a1 a2 )) else (f13_j2 a1 a2 ))
theorem f13_j0_ok {d : Nat} (hd : 6 ≤ d) (a1 : GKey) (a2 : Int) {r : (List UInt8) × Int} {Q : PX → St → Prop} (hQ : ∀ e st', f13_Q r e st' → Q e st')  (hS : f13_j0 a1 a2 = some r) {st : St} (he : keepSt [1, 2] [(24, .id 24)] [] st = f13_j0_J a1 a2) : ZR (lev codes baseL (d - 1)) Q c13_7 [] st := by
  refine zrKeep he ?_
  unfold f13_j0 at hS
  refine zrSeq ?_
  refine zrReg ?_
  refine zlRun (n := 3) (j := 3) rfl (by kernel_rfl) ?_
  refine zlEnd (by kernel_rfl) ?_
  refine zkSeq ?_
  refine zrSeq ?_
  refine zrBlk ?_
  refine zrSeq ?_
  refine zrReg ?_
  refine zlRun (n := 1) (j := 1) rfl (by kernel_rfl) ?_
  refine zlBool (d := 52) (op := (.cmpI .geq (.tmp 51) (.const (.int .i64 1)))) (g := none) (j := 2) (decide (1 ≤ a1.Name)) rfl (by kernel_rfl) (by kernel_rfl) (by kernel_rfl) (fun hc => ?_) (fun hc => ?_)
  · replace hS := cond_t hc hS
    refine zlRun (n := 2) (j := 4) rfl (by kernel_rfl) ?_
    refine zlBool (d := 55) (op := (.cmpI .leq (.tmp 54) (.const (.int .i64 6)))) (g := (some (53, true))) (j := 5) (decide (a1.Name ≤ 6)) rfl (by kernel_rfl) (by kernel_rfl) (by kernel_rfl) (fun hc => ?_) (fun hc => ?_)
    · replace hS := cond_t hc hS
      refine zlRun (n := 2) (j := 7) rfl (by kernel_rfl) ?_
      refine zlEnd (by kernel_rfl) ?_
      refine zkSeq ?_
      refine zrCondT (by kernel_rfl) ?_
      refine zrSeq ?_
      refine zrReg ?_
      refine zlRun (n := 1) (j := 1) rfl (by kernel_rfl) ?_
      refine zlEnd (by kernel_rfl) ?_
      refine zkSeq ?_
      refine zrSeq ?_
      refine zrSeq ?_
      refine zrReg ?_
      refine zlRun (n := 2) (j := 2) rfl (by kernel_rfl) ?_
      refine zlBool (d := 59) (op := (.cmpI .neq (.tmp 58) (.const (.int .i64 0)))) (g := none) (j := 3) (!decide ((bitI .and .i64 a2 16) = 0)) rfl (by kernel_rfl) (by kernel_rfl) (by kernel_rfl) (fun hc => ?_) (fun hc => ?_)
      · replace hS := cond_t hc hS
        refine zlEnd (by kernel_rfl) ?_
        refine zkSeq ?_
        refine zrCondT (by kernel_rfl) ?_
        refine zrReg ?_
        refine zlRun (n := 1) (j := 1) rfl (by kernel_rfl) ?_
        refine zlEnd (by kernel_rfl) ?_
        refine zkSeq ?_
        exact f13_j6_ok hd a1 a2 hQ [79] hS (by kernel_rfl)
      · replace hS := cond_f hc hS
        refine zlEnd (by kernel_rfl) ?_
        refine zkSeq ?_
        refine zrCondF (by kernel_rfl) ?_
        refine zrSkip ?_
        refine zkSeq ?_
        exact f13_j6_ok hd a1 a2 hQ [91] hS (by kernel_rfl)
    · replace hS := cond_f hc hS
      refine zlRun (n := 2) (j := 7) rfl (by kernel_rfl) ?_
      refine zlEnd (by kernel_rfl) ?_
      refine zkSeq ?_
      refine zrCondF (by kernel_rfl) ?_
      exact f13_j2_ok hd a1 a2 hQ  hS (by kernel_rfl)
  · replace hS := cond_f hc hS
    refine zlRun (n := 5) (j := 7) rfl (by kernel_rfl) ?_
    refine zlEnd (by kernel_rfl) ?_
    refine zkSeq ?_
    refine zrCondF (by kernel_rfl) ?_
    exact f13_j2_ok hd a1 a2 hQ  hS (by kernel_rfl)
noncomputable def f13 (a1 : GKey) (a2 : Int) : Option ((List UInt8) × Int) := (bif (decide (a1.Mods < 0)) then (some ([], 1)) else (bif (decide (7 < a1.Mods)) then (some ([], 1)) else (bif (decide (a1.Name < 0)) then (some ([], 1)) else (bif (decide (26 < a1.Name)) then (some ([], 1)) else (bif (decide (a1.Name = 0)) then ((f24 a1.Rune).bind fun z31 => (bif (!z31) then (some ([], 1)) else (bif (!decide (a1.Name = 0)) then (bif (!decide (a1.Rune = 0)) then (some ([], 1)) else (f13_j0 a1 a2 )) else (f13_j0 a1 a2 )))) else (bif (!decide (a1.Name = 0)) then (bif (!decide (a1.Rune = 0)) then (some ([], 1)) else (f13_j0 a1 a2 )) else (f13_j0 a1 a2 )))))))
theorem f13_ok (d : Nat) (hd : 6 ≤ d) (a1 : GKey) (a2 : Int) (r : (List UInt8) × Int) (hS : f13 a1 a2 = some r) : lev codes baseL d 13 [(.agg ((.d (.int .i64 a1.Name)) :: ((.d (.int .i64 a1.Rune)) :: ((.d (.int .i64 a1.Mods)) :: [])))), (.d (.int .i64 a2))] [] = some ((.tup [(.d (.str r.1)), (.d (.int .i64 r.2))]), []) := by
  refine lev_go codes13 rfl rfl (Nat.le_trans (Nat.le_of_ble_eq_true rfl) hd) fun Q hQ => ?_
  unfold f13 at hS
  show ZR _ Q c13_b [] _
  replace hQ : ∀ e st', f13_Q r e st' → Q e st' := hQ
  refine zrSeq ?_
  refine zrReg ?_
  refine zlRun (n := 3) (j := 3) rfl (by kernel_rfl) ?_
  refine zlEnd (by kernel_rfl) ?_
  refine zkSeq ?_
  refine zrSeq ?_
  refine zrSeq ?_
  refine zrReg ?_
  refine zlRun (n := 2) (j := 2) rfl (by kernel_rfl) ?_
  refine zlBool (d := 11) (op := (.cmpI .lss (.tmp 10) (.const (.int .i64 0)))) (g := none) (j := 3) (decide (a1.Mods < 0)) rfl (by kernel_rfl) (by kernel_rfl) (by kernel_rfl) (fun hc => ?_) (fun hc => ?_)
  · replace hS := cond_t hc hS
    refine zlRun (n := 36) (j := 39) rfl (by kernel_rfl) ?_
    refine zlEnd (by kernel_rfl) ?_
    refine zkSeq ?_
    refine zrCondT (by kernel_rfl) ?_
    refine zrSeq ?_
    refine zrReg ?_
    refine zlRun (n := 2) (j := 2) rfl (by kernel_rfl) ?_
    refine zlEnd (by kernel_rfl) ?_
    refine zkSeq ?_
    refine zrRet ?_
    refine zkSeqR ?_
    refine zkNil ?_
    exact endQ hS hQ (fRet (by kernel_rfl) ((congrArg (fun s => outR s 0 c13.res) (by kernel_rfl : finSt c13.fin _ = f13_fin [] 1)).trans (f13_out [] 1)))
  · replace hS := cond_f hc hS
    refine zlRun (n := 3) (j := 6) rfl (by kernel_rfl) ?_
    refine zlBool (d := 15) (op := (.cmpI .gtr (.tmp 14) (.const (.int .i64 7)))) (g := (some (12, false))) (j := 7) (decide (7 < a1.Mods)) rfl (by kernel_rfl) (by kernel_rfl) (by kernel_rfl) (fun hc => ?_) (fun hc => ?_)
    · replace hS := cond_t hc hS
      refine zlRun (n := 32) (j := 39) rfl (by kernel_rfl) ?_
      refine zlEnd (by kernel_rfl) ?_
      refine zkSeq ?_
      refine zrCondT (by kernel_rfl) ?_
      refine zrSeq ?_
      refine zrReg ?_
      refine zlRun (n := 2) (j := 2) rfl (by kernel_rfl) ?_
      refine zlEnd (by kernel_rfl) ?_
      refine zkSeq ?_
      refine zrRet ?_
      refine zkSeqR ?_
      refine zkNil ?_
      exact endQ hS hQ (fRet (by kernel_rfl) ((congrArg (fun s => outR s 0 c13.res) (by kernel_rfl : finSt c13.fin _ = f13_fin [] 1)).trans (f13_out [] 1)))
    · replace hS := cond_f hc hS
      refine zlRun (n := 4) (j := 11) rfl (by kernel_rfl) ?_
      refine zlBool (d := 20) (op := (.cmpI .lss (.tmp 19) (.const (.int .i64 0)))) (g := (some (17, false))) (j := 12) (decide (a1.Name < 0)) rfl (by kernel_rfl) (by kernel_rfl) (by kernel_rfl) (fun hc => ?_) (fun hc => ?_)
      · replace hS := cond_t hc hS
        refine zlRun (n := 27) (j := 39) rfl (by kernel_rfl) ?_
        refine zlEnd (by kernel_rfl) ?_
        refine zkSeq ?_
        refine zrCondT (by kernel_rfl) ?_
        refine zrSeq ?_
        refine zrReg ?_
        refine zlRun (n := 2) (j := 2) rfl (by kernel_rfl) ?_
        refine zlEnd (by kernel_rfl) ?_
        refine zkSeq ?_
        refine zrRet ?_
        refine zkSeqR ?_
        refine zkNil ?_
        exact endQ hS hQ (fRet (by kernel_rfl) ((congrArg (fun s => outR s 0 c13.res) (by kernel_rfl : finSt c13.fin _ = f13_fin [] 1)).trans (f13_out [] 1)))
      · replace hS := cond_f hc hS
        refine zlRun (n := 4) (j := 16) rfl (by kernel_rfl) ?_
        refine zlBool (d := 25) (op := (.cmpI .gtr (.tmp 24) (.const (.int .i64 26)))) (g := (some (22, false))) (j := 17) (decide (26 < a1.Name)) rfl (by kernel_rfl) (by kernel_rfl) (by kernel_rfl) (fun hc => ?_) (fun hc => ?_)
        · replace hS := cond_t hc hS
          refine zlRun (n := 22) (j := 39) rfl (by kernel_rfl) ?_
          refine zlEnd (by kernel_rfl) ?_
          refine zkSeq ?_
          refine zrCondT (by kernel_rfl) ?_
          refine zrSeq ?_
          refine zrReg ?_
          refine zlRun (n := 2) (j := 2) rfl (by kernel_rfl) ?_
          refine zlEnd (by kernel_rfl) ?_
          refine zkSeq ?_
          refine zrRet ?_
          refine zkSeqR ?_
          refine zkNil ?_
          exact endQ hS hQ (fRet (by kernel_rfl) ((congrArg (fun s => outR s 0 c13.res) (by kernel_rfl : finSt c13.fin _ = f13_fin [] 1)).trans (f13_out [] 1)))
        · replace hS := cond_f hc hS
          refine zlRun (n := 4) (j := 21) rfl (by kernel_rfl) ?_
          refine zlBool (d := 30) (op := (.cmpI .eql (.tmp 29) (.const (.int .i64 0)))) (g := (some (27, false))) (j := 22) (decide (a1.Name = 0)) rfl (by kernel_rfl) (by kernel_rfl) (by kernel_rfl) (fun hc => ?_) (fun hc => ?_)
          · replace hS := cond_t hc hS
            refine zlRun (n := 3) (j := 25) rfl (by kernel_rfl) ?_
            refine bindE hS (fun z31 hz31 hS => ?_)
            refine zlOp (d := some 34) (op := (.call 24 [(.tmp 33)])) (g := (some (31, true))) (j := 26) rfl (by kernel_rfl) (by kernel_rfl) (ev_callA (by kernel_rfl) (f24_ok (d - 1) (dpt hd rfl) a1.Rune z31 hz31) (by kernel_rfl) (by kernel_rfl)) ?_
            refine zlRun (n := 4) (j := 30) rfl (by kernel_rfl) ?_
            refine zlSplit 38 (!z31) (by kernel_rfl) (fun hc => ?_) (fun hc => ?_)
            · replace hS := cond_t hc hS
              refine zlRun (n := 9) (j := 39) rfl (by kernel_rfl) ?_
              refine zlEnd (by kernel_rfl) ?_
              refine zkSeq ?_
              refine zrCondT (by kernel_rfl) ?_
              refine zrSeq ?_
              refine zrReg ?_
              refine zlRun (n := 2) (j := 2) rfl (by kernel_rfl) ?_
              refine zlEnd (by kernel_rfl) ?_
              refine zkSeq ?_
              refine zrRet ?_
              refine zkSeqR ?_
              refine zkNil ?_
              exact endQ hS hQ (fRet (by kernel_rfl) ((congrArg (fun s => outR s 0 c13.res) (by kernel_rfl : finSt c13.fin _ = f13_fin [] 1)).trans (f13_out [] 1)))
            · replace hS := cond_f hc hS
              refine zlRun (n := 2) (j := 32) rfl (by kernel_rfl) ?_
              refine zlBool (d := 41) (op := (.cmpI .neq (.tmp 40) (.const (.int .i64 0)))) (g := (some (38, false))) (j := 33) (!decide (a1.Name = 0)) rfl (by kernel_rfl) (by kernel_rfl) (by kernel_rfl) (fun hc => ?_) (fun hc => ?_)
              · replace hS := cond_t hc hS
                refine zlRun (n := 3) (j := 36) rfl (by kernel_rfl) ?_
                refine zlBool (d := 45) (op := (.cmpI .neq (.tmp 44) (.const (.int .i64 0)))) (g := (some (42, true))) (j := 37) (!decide (a1.Rune = 0)) rfl (by kernel_rfl) (by kernel_rfl) (by kernel_rfl) (fun hc => ?_) (fun hc => ?_)
                · replace hS := cond_t hc hS
                  refine zlRun (n := 2) (j := 39) rfl (by kernel_rfl) ?_
                  refine zlEnd (by kernel_rfl) ?_
                  refine zkSeq ?_
                  refine zrCondT (by kernel_rfl) ?_
                  refine zrSeq ?_
                  refine zrReg ?_
                  refine zlRun (n := 2) (j := 2) rfl (by kernel_rfl) ?_
                  refine zlEnd (by kernel_rfl) ?_
                  refine zkSeq ?_
                  refine zrRet ?_
                  refine zkSeqR ?_
                  refine zkNil ?_
                  exact endQ hS hQ (fRet (by kernel_rfl) ((congrArg (fun s => outR s 0 c13.res) (by kernel_rfl : finSt c13.fin _ = f13_fin [] 1)).trans (f13_out [] 1)))
                · replace hS := cond_f hc hS
                  refine zlRun (n := 2) (j := 39) rfl (by kernel_rfl) ?_
                  refine zlEnd (by kernel_rfl) ?_
                  refine zkSeq ?_
                  refine zrCondF (by kernel_rfl) ?_
                  refine zrSkip ?_
                  refine zkSeq ?_
                  exact f13_j0_ok hd a1 a2 hQ  hS (by kernel_rfl)
              · replace hS := cond_f hc hS
                refine zlRun (n := 6) (j := 39) rfl (by kernel_rfl) ?_
                refine zlEnd (by kernel_rfl) ?_
                refine zkSeq ?_
                refine zrCondF (by kernel_rfl) ?_
                refine zrSkip ?_
                refine zkSeq ?_
                exact f13_j0_ok hd a1 a2 hQ  hS (by kernel_rfl)
          · replace hS := cond_f hc hS
            refine zlRun (n := 10) (j := 32) rfl (by kernel_rfl) ?_
            refine zlBool (d := 41) (op := (.cmpI .neq (.tmp 40) (.const (.int .i64 0)))) (g := (some (38, false))) (j := 33) (!decide (a1.Name = 0)) rfl (by kernel_rfl) (by kernel_rfl) (by kernel_rfl) (fun hc => ?_) (fun hc => ?_)
            · replace hS := cond_t hc hS
              refine zlRun (n := 3) (j := 36) rfl (by kernel_rfl) ?_
              refine zlBool (d := 45) (op := (.cmpI .neq (.tmp 44) (.const (.int .i64 0)))) (g := (some (42, true))) (j := 37) (!decide (a1.Rune = 0)) rfl (by kernel_rfl) (by kernel_rfl) (by kernel_rfl) (fun hc => ?_) (fun hc => ?_)
              · replace hS := cond_t hc hS
                refine zlRun (n := 2) (j := 39) rfl (by kernel_rfl) ?_
                refine zlEnd (by kernel_rfl) ?_
                refine zkSeq ?_
                refine zrCondT (by kernel_rfl) ?_
                refine zrSeq ?_
                refine zrReg ?_
                refine zlRun (n := 2) (j := 2) rfl (by kernel_rfl) ?_
                refine zlEnd (by kernel_rfl) ?_
                refine zkSeq ?_
                refine zrRet ?_
                refine zkSeqR ?_
                refine zkNil ?_
                exact endQ hS hQ (fRet (by kernel_rfl) ((congrArg (fun s => outR s 0 c13.res) (by kernel_rfl : finSt c13.fin _ = f13_fin [] 1)).trans (f13_out [] 1)))
              · replace hS := cond_f hc hS
                refine zlRun (n := 2) (j := 39) rfl (by kernel_rfl) ?_
                refine zlEnd (by kernel_rfl) ?_
                refine zkSeq ?_
                refine zrCondF (by kernel_rfl) ?_
                refine zrSkip ?_
                refine zkSeq ?_
                exact f13_j0_ok hd a1 a2 hQ  hS (by kernel_rfl)
            · replace hS := cond_f hc hS
              refine zlRun (n := 6) (j := 39) rfl (by kernel_rfl) ?_
              refine zlEnd (by kernel_rfl) ?_
              refine zkSeq ?_
              refine zrCondF (by kernel_rfl) ?_
              refine zrSkip ?_
              refine zkSeq ?_
              exact f13_j0_ok hd a1 a2 hQ  hS (by kernel_rfl)
/- farwriter/farkeep.pressLives -/
def f6_fin (p3 : Bool) : St := ⟨(up (fun _ => .un) 0 (.d (.bool p3))), (hB fun _ => 0)⟩
theorem f6_out (p3 : Bool) : outR (f6_fin p3) 0 c6.res = some ((.d (.bool p3)), []) := by
  kernel_rfl
def f6_Q (r : Bool) (e : PX) (st : St) : Prop := DoneF c6 0 ((.d (.bool r)), []) e st
noncomputable def f6  : Option (Bool) := ((f13 (GKey.mk 1 0 4) 0).bind fun z2 => (bif (decide (z2.2 = 0)) then (bif (decide (z2.1 = ([27, 91, 49, 59, 53, 65] : List UInt8))) then (some true) else (some false)) else (some false)))
theorem f6_ok (d : Nat) (hd : 7 ≤ d)  (r : Bool) (hS : f6 = some r) : lev codes baseL d 6 [] [] = some ((.d (.bool r)), []) := by
  refine lev_go codes6 rfl rfl (Nat.le_trans (Nat.le_of_ble_eq_true rfl) hd) fun Q hQ => ?_
  unfold f6 at hS
  show ZR _ Q c6_b [] _
  replace hQ : ∀ e st', f6_Q r e st' → Q e st' := hQ
  refine zrSeq ?_
  refine zrReg ?_
  refine zlRun (n := 1) (j := 1) rfl (by kernel_rfl) ?_
  refine zlEnd (by kernel_rfl) ?_
  refine zkSeq ?_
  refine zrSeq ?_
  refine zrReg ?_
  refine zlRun (n := 1) (j := 1) rfl (by kernel_rfl) ?_
  refine bindE hS (fun z2 hz2 hS => ?_)
  refine zlOp (d := some 5) (op := (.call 13 [(.tmp 4), (.const (.int .i64 0))])) (g := none) (j := 2) rfl (by kernel_rfl) (by kernel_rfl) (ev_callA (by kernel_rfl) (f13_ok (d - 1) (dpt hd rfl) (GKey.mk 1 0 4) 0 z2 hz2) (by kernel_rfl) (by kernel_rfl)) ?_
  refine zlRun (n := 5) (j := 7) rfl (by kernel_rfl) ?_
  refine zlEnd (by kernel_rfl) ?_
  refine zkSeq ?_
  refine zrSeq ?_
  refine zrReg ?_
  refine zlRun (n := 1) (j := 1) rfl (by kernel_rfl) ?_
  refine zlBool (d := 9) (op := (.cmpI .eql (.tmp 8) (.const (.int .i64 0)))) (g := none) (j := 2) (decide (z2.2 = 0)) rfl (by kernel_rfl) (by kernel_rfl) (by kernel_rfl) (fun hc => ?_) (fun hc => ?_)
  · replace hS := cond_t hc hS
    refine zlRun (n := 2) (j := 4) rfl (by kernel_rfl) ?_
    refine zlBool (d := 12) (op := (.strO .eql (.tmp 11) (.const (.string ⟨#[27, 91, 49, 59, 53, 65]⟩)))) (g := (some (10, true))) (j := 5) (decide (z2.1 = ([27, 91, 49, 59, 53, 65] : List UInt8))) rfl (by kernel_rfl) (by kernel_rfl) (by kernel_rfl) (fun hc => ?_) (fun hc => ?_)
    · replace hS := cond_t hc hS
      refine zlRun (n := 2) (j := 7) rfl (by kernel_rfl) ?_
      refine zlEnd (by kernel_rfl) ?_
      refine zkSeq ?_
      refine zrRet ?_
      refine zkNil ?_
      exact endQ hS hQ (fRet (by kernel_rfl) ((congrArg (fun s => outR s 0 c6.res) (by kernel_rfl : finSt c6.fin _ = f6_fin true)).trans (f6_out true)))
    · replace hS := cond_f hc hS
      refine zlRun (n := 2) (j := 7) rfl (by kernel_rfl) ?_
      refine zlEnd (by kernel_rfl) ?_
      refine zkSeq ?_
      refine zrRet ?_
      refine zkNil ?_
      exact endQ hS hQ (fRet (by kernel_rfl) ((congrArg (fun s => outR s 0 c6.res) (by kernel_rfl : finSt c6.fin _ = f6_fin false)).trans (f6_out false)))
  · replace hS := cond_f hc hS
    refine zlRun (n := 5) (j := 7) rfl (by kernel_rfl) ?_
    refine zlEnd (by kernel_rfl) ?_
    refine zkSeq ?_
    refine zrRet ?_
    refine zkNil ?_
    exact endQ hS hQ (fRet (by kernel_rfl) ((congrArg (fun s => outR s 0 c6.res) (by kernel_rfl : finSt c6.fin _ = f6_fin false)).trans (f6_out false)))
/- farwriter/farkeep.PressBack -/
def f3_fin (p12 : Bool) : St := ⟨(up (fun _ => .un) 4 (.d (.bool p12))), (hB fun _ => 0)⟩
theorem f3_out (p12 : Bool) : outR (f3_fin p12) 0 c3.res = some ((.d (.bool p12)), []) := by
  kernel_rfl
def f3_Q (r : Bool) (e : PX) (st : St) : Prop := DoneF c3 0 ((.d (.bool r)), []) e st
def f3_j0_J (a1 : GMouse) (a2 : List UInt8) : St := ⟨(up (fun _ => .un) 1 (.d (.str a2))), (hB fun _ => 0)⟩
noncomputable def f3_j0 (a1 : GMouse) (a2 : List UInt8) : Option (Bool) := ((f5 a2).bind fun z8 => ((f4 z8.1 1536).bind fun z9 => (f6.bind fun z10 => (bif z10 then (bif (!decide (z8.2 = 0)) then (bif (decide (z8.1.Button = 0) && (decide (z8.1.Col = 0) && (decide (z8.1.Row = 0) && (decide (z8.1.Mods = 0) && (decide (z8.1.Up = false) && true))))) then (some true) else (bif (decide (z8.2 = 0)) then (bif (decide (z9.2 = 0)) then (bif (decide (z9.1 = a2)) then (some true) else (some false)) else (some false)) else (some false))) else (bif (decide (z8.2 = 0)) then (bif (decide (z9.2 = 0)) then (bif (decide (z9.1 = a2)) then (some true) else (some false)) else (some false)) else (some false))) else (some false)))))
theorem f3_j0_ok {d : Nat} (hd : 8 ≤ d) (a1 : GMouse) (a2 : List UInt8) {r : Bool} {Q : PX → St → Prop} (hQ : ∀ e st', f3_Q r e st' → Q e st')  (hS : f3_j0 a1 a2 = some r) {st : St} (he : keepSt [1] [] [] st = f3_j0_J a1 a2) : ZR (lev codes baseL (d - 1)) Q c3_1 [] st := by
  refine zrKeep he ?_
  unfold f3_j0 at hS
  refine zrSeq ?_
  refine zrReg ?_
  refine zlRun (n := 1) (j := 1) rfl (by kernel_rfl) ?_
  refine bindE hS (fun z8 hz8 hS => ?_)
  refine zlOp (d := some 34) (op := (.call 5 [(.tmp 33)])) (g := none) (j := 2) rfl (by kernel_rfl) (by kernel_rfl) (ev_callA (by kernel_rfl) (f5_ok (d - 1) (dpt hd rfl) a2 z8 hz8) (by kernel_rfl) (by kernel_rfl)) ?_
  refine zlRun (n := 6) (j := 8) rfl (by kernel_rfl) ?_
  refine zlEnd (by kernel_rfl) ?_
  refine zkSeq ?_
  refine zrSeq ?_
  refine zrReg ?_
  refine zlRun (n := 1) (j := 1) rfl (by kernel_rfl) ?_
  refine bindE hS (fun z9 hz9 hS => ?_)
  refine zlOp (d := some 39) (op := (.call 4 [(.tmp 38), (.const (.int .i64 1536))])) (g := none) (j := 2) rfl (by kernel_rfl) (by kernel_rfl) (ev_callA (by kernel_rfl) (f4_ok (d - 1) (dpt hd rfl) z8.1 1536 z9 hz9) (by kernel_rfl) (by kernel_rfl)) ?_
  refine zlRun (n := 5) (j := 7) rfl (by kernel_rfl) ?_
  refine zlEnd (by kernel_rfl) ?_
  refine zkSeq ?_
  refine zrSeq ?_
  refine zrReg ?_
  refine bindE hS (fun z10 hz10 hS => ?_)
  refine zlOp (d := some 42) (op := (.call 6 [])) (g := none) (j := 1) rfl (by kernel_rfl) (by kernel_rfl) (ev_callA (by kernel_rfl) (f6_ok (d - 1) (dpt hd rfl)  z10 hz10) (by kernel_rfl) (by kernel_rfl)) ?_
  refine zlRun (n := 1) (j := 2) rfl (by kernel_rfl) ?_
  refine zlSplit 43 z10 (by kernel_rfl) (fun hc => ?_) (fun hc => ?_)
  · replace hS := cond_t hc hS
    refine zlRun (n := 1) (j := 3) rfl (by kernel_rfl) ?_
    refine zlBool (d := 45) (op := (.cmpI .neq (.tmp 44) (.const (.int .i64 0)))) (g := (some (43, true))) (j := 4) (!decide (z8.2 = 0)) rfl (by kernel_rfl) (by kernel_rfl) (by kernel_rfl) (fun hc => ?_) (fun hc => ?_)
    · replace hS := cond_t hc hS
      refine zlRun (n := 3) (j := 7) rfl (by kernel_rfl) ?_
      refine zlBool (d := 49) (op := (.eqA .false [(4, .int), (1, .bool)] (.tmp 47) (.tmp 48))) (g := (some (46, true))) (j := 8) (decide (z8.1.Button = 0) && (decide (z8.1.Col = 0) && (decide (z8.1.Row = 0) && (decide (z8.1.Mods = 0) && (decide (z8.1.Up = false) && true))))) rfl (by kernel_rfl) (by kernel_rfl) (by kernel_rfl) (fun hc => ?_) (fun hc => ?_)
      · replace hS := cond_t hc hS
        refine zlRun (n := 16) (j := 24) rfl (by kernel_rfl) ?_
        refine zlEnd (by kernel_rfl) ?_
        refine zkSeq ?_
        refine zrRet ?_
        refine zkNil ?_
        exact endQ hS hQ (fRet (by kernel_rfl) ((congrArg (fun s => outR s 0 c3.res) (by kernel_rfl : finSt c3.fin _ = f3_fin true)).trans (f3_out true)))
      · replace hS := cond_f hc hS
        refine zlRun (n := 3) (j := 11) rfl (by kernel_rfl) ?_
        refine zlBool (d := 53) (op := (.cmpI .eql (.tmp 52) (.const (.int .i64 0)))) (g := (some (51, false))) (j := 12) (decide (z8.2 = 0)) rfl (by kernel_rfl) (by kernel_rfl) (by kernel_rfl) (fun hc => ?_) (fun hc => ?_)
        · replace hS := cond_t hc hS
          refine zlRun (n := 2) (j := 14) rfl (by kernel_rfl) ?_
          refine zlBool (d := 56) (op := (.cmpI .eql (.tmp 55) (.const (.int .i64 0)))) (g := (some (54, true))) (j := 15) (decide (z9.2 = 0)) rfl (by kernel_rfl) (by kernel_rfl) (by kernel_rfl) (fun hc => ?_) (fun hc => ?_)
          · replace hS := cond_t hc hS
            refine zlRun (n := 4) (j := 19) rfl (by kernel_rfl) ?_
            refine zlBool (d := 61) (op := (.strO .eql (.tmp 59) (.tmp 60))) (g := (some (58, true))) (j := 20) (decide (z9.1 = a2)) rfl (by kernel_rfl) (by kernel_rfl) (by kernel_rfl) (fun hc => ?_) (fun hc => ?_)
            · replace hS := cond_t hc hS
              refine zlRun (n := 4) (j := 24) rfl (by kernel_rfl) ?_
              refine zlEnd (by kernel_rfl) ?_
              refine zkSeq ?_
              refine zrRet ?_
              refine zkNil ?_
              exact endQ hS hQ (fRet (by kernel_rfl) ((congrArg (fun s => outR s 0 c3.res) (by kernel_rfl : finSt c3.fin _ = f3_fin true)).trans (f3_out true)))
            · replace hS := cond_f hc hS
              refine zlRun (n := 4) (j := 24) rfl (by kernel_rfl) ?_
              refine zlEnd (by kernel_rfl) ?_
              refine zkSeq ?_
              refine zrRet ?_
              refine zkNil ?_
              exact endQ hS hQ (fRet (by kernel_rfl) ((congrArg (fun s => outR s 0 c3.res) (by kernel_rfl : finSt c3.fin _ = f3_fin false)).trans (f3_out false)))
          · replace hS := cond_f hc hS
            refine zlRun (n := 9) (j := 24) rfl (by kernel_rfl) ?_
            refine zlEnd (by kernel_rfl) ?_
            refine zkSeq ?_
            refine zrRet ?_
            refine zkNil ?_
            exact endQ hS hQ (fRet (by kernel_rfl) ((congrArg (fun s => outR s 0 c3.res) (by kernel_rfl : finSt c3.fin _ = f3_fin false)).trans (f3_out false)))
        · replace hS := cond_f hc hS
          refine zlRun (n := 12) (j := 24) rfl (by kernel_rfl) ?_
          refine zlEnd (by kernel_rfl) ?_
          refine zkSeq ?_
          refine zrRet ?_
          refine zkNil ?_
          exact endQ hS hQ (fRet (by kernel_rfl) ((congrArg (fun s => outR s 0 c3.res) (by kernel_rfl : finSt c3.fin _ = f3_fin false)).trans (f3_out false)))
    · replace hS := cond_f hc hS
      refine zlRun (n := 7) (j := 11) rfl (by kernel_rfl) ?_
      refine zlBool (d := 53) (op := (.cmpI .eql (.tmp 52) (.const (.int .i64 0)))) (g := (some (51, false))) (j := 12) (decide (z8.2 = 0)) rfl (by kernel_rfl) (by kernel_rfl) (by kernel_rfl) (fun hc => ?_) (fun hc => ?_)
      · replace hS := cond_t hc hS
        refine zlRun (n := 2) (j := 14) rfl (by kernel_rfl) ?_
        refine zlBool (d := 56) (op := (.cmpI .eql (.tmp 55) (.const (.int .i64 0)))) (g := (some (54, true))) (j := 15) (decide (z9.2 = 0)) rfl (by kernel_rfl) (by kernel_rfl) (by kernel_rfl) (fun hc => ?_) (fun hc => ?_)
        · replace hS := cond_t hc hS
          refine zlRun (n := 4) (j := 19) rfl (by kernel_rfl) ?_
          refine zlBool (d := 61) (op := (.strO .eql (.tmp 59) (.tmp 60))) (g := (some (58, true))) (j := 20) (decide (z9.1 = a2)) rfl (by kernel_rfl) (by kernel_rfl) (by kernel_rfl) (fun hc => ?_) (fun hc => ?_)
          · replace hS := cond_t hc hS
            refine zlRun (n := 4) (j := 24) rfl (by kernel_rfl) ?_
            refine zlEnd (by kernel_rfl) ?_
            refine zkSeq ?_
            refine zrRet ?_
            refine zkNil ?_
            exact endQ hS hQ (fRet (by kernel_rfl) ((congrArg (fun s => outR s 0 c3.res) (by kernel_rfl : finSt c3.fin _ = f3_fin true)).trans (f3_out true)))
          · replace hS := cond_f hc hS
            refine zlRun (n := 4) (j := 24) rfl (by kernel_rfl) ?_
            refine zlEnd (by kernel_rfl) ?_
            refine zkSeq ?_
            refine zrRet ?_
            refine zkNil ?_
            exact endQ hS hQ (fRet (by kernel_rfl) ((congrArg (fun s => outR s 0 c3.res) (by kernel_rfl : finSt c3.fin _ = f3_fin false)).trans (f3_out false)))
        · replace hS := cond_f hc hS
          refine zlRun (n := 9) (j := 24) rfl (by kernel_rfl) ?_
          refine zlEnd (by kernel_rfl) ?_
          refine zkSeq ?_
          refine zrRet ?_
          refine zkNil ?_
          exact endQ hS hQ (fRet (by kernel_rfl) ((congrArg (fun s => outR s 0 c3.res) (by kernel_rfl : finSt c3.fin _ = f3_fin false)).trans (f3_out false)))
      · replace hS := cond_f hc hS
        refine zlRun (n := 12) (j := 24) rfl (by kernel_rfl) ?_
        refine zlEnd (by kernel_rfl) ?_
        refine zkSeq ?_
        refine zrRet ?_
        refine zkNil ?_
        exact endQ hS hQ (fRet (by kernel_rfl) ((congrArg (fun s => outR s 0 c3.res) (by kernel_rfl : finSt c3.fin _ = f3_fin false)).trans (f3_out false)))
  · replace hS := cond_f hc hS
    refine zlRun (n := 22) (j := 24) rfl (by kernel_rfl) ?_
    refine zlEnd (by kernel_rfl) ?_
    refine zkSeq ?_
    refine zrRet ?_
    refine zkNil ?_
    exact endQ hS hQ (fRet (by kernel_rfl) ((congrArg (fun s => outR s 0 c3.res) (by kernel_rfl : finSt c3.fin _ = f3_fin false)).trans (f3_out false)))
noncomputable def f3 (a1 : GMouse) (a2 : List UInt8) : Option (Bool) := ((f4 a1 1536).bind fun z11 => (bif (decide (z11.2 = 0)) then ((f5 z11.1).bind fun z12 => (bif (!decide (z12.2 = 0)) then (some false) else (bif (!(decide (z12.1.Button = a1.Button) && (decide (z12.1.Col = a1.Col) && (decide (z12.1.Row = a1.Row) && (decide (z12.1.Mods = a1.Mods) && (decide (z12.1.Up = a1.Up) && true)))))) then (some false) else (f3_j0 a1 a2 )))) else (f3_j0 a1 a2 )))
theorem f3_ok (d : Nat) (hd : 8 ≤ d) (a1 : GMouse) (a2 : List UInt8) (r : Bool) (hS : f3 a1 a2 = some r) : lev codes baseL d 3 [(.agg ((.d (.int .i64 a1.Button)) :: ((.d (.int .i64 a1.Col)) :: ((.d (.int .i64 a1.Row)) :: ((.d (.int .i64 a1.Mods)) :: ((.d (.bool a1.Up)) :: [])))))), (.d (.str a2))] [] = some ((.d (.bool r)), []) := by
  refine lev_go codes3 rfl rfl (Nat.le_trans (Nat.le_of_ble_eq_true rfl) hd) fun Q hQ => ?_
  unfold f3 at hS
  show ZR _ Q c3_b [] _
  replace hQ : ∀ e st', f3_Q r e st' → Q e st' := hQ
  refine zrSeq ?_
  refine zrReg ?_
  refine zlRun (n := 2) (j := 2) rfl (by kernel_rfl) ?_
  refine zlEnd (by kernel_rfl) ?_
  refine zkSeq ?_
  refine zrSeq ?_
  refine zrSeq ?_
  refine zrReg ?_
  refine zlRun (n := 1) (j := 1) rfl (by kernel_rfl) ?_
  refine bindE hS (fun z11 hz11 hS => ?_)
  refine zlOp (d := some 15) (op := (.call 4 [(.tmp 14), (.const (.int .i64 1536))])) (g := none) (j := 2) rfl (by kernel_rfl) (by kernel_rfl) (ev_callA (by kernel_rfl) (f4_ok (d - 1) (dpt hd rfl) a1 1536 z11 hz11) (by kernel_rfl) (by kernel_rfl)) ?_
  refine zlRun (n := 5) (j := 7) rfl (by kernel_rfl) ?_
  refine zlEnd (by kernel_rfl) ?_
  refine zkSeq ?_
  refine zrSeq ?_
  refine zrReg ?_
  refine zlRun (n := 1) (j := 1) rfl (by kernel_rfl) ?_
  refine zlBool (d := 19) (op := (.cmpI .eql (.tmp 18) (.const (.int .i64 0)))) (g := none) (j := 2) (decide (z11.2 = 0)) rfl (by kernel_rfl) (by kernel_rfl) (by kernel_rfl) (fun hc => ?_) (fun hc => ?_)
  · replace hS := cond_t hc hS
    refine zlEnd (by kernel_rfl) ?_
    refine zkSeq ?_
    refine zrCondT (by kernel_rfl) ?_
    refine zrSeq ?_
    refine zrReg ?_
    refine zlRun (n := 1) (j := 1) rfl (by kernel_rfl) ?_
    refine bindE hS (fun z12 hz12 hS => ?_)
    refine zlOp (d := some 22) (op := (.call 5 [(.tmp 21)])) (g := none) (j := 2) rfl (by kernel_rfl) (by kernel_rfl) (ev_callA (by kernel_rfl) (f5_ok (d - 1) (dpt hd rfl) z11.1 z12 hz12) (by kernel_rfl) (by kernel_rfl)) ?_
    refine zlRun (n := 6) (j := 8) rfl (by kernel_rfl) ?_
    refine zlEnd (by kernel_rfl) ?_
    refine zkSeq ?_
    refine zrSeq ?_
    refine zrReg ?_
    refine zlRun (n := 1) (j := 1) rfl (by kernel_rfl) ?_
    refine zlBool (d := 26) (op := (.cmpI .neq (.tmp 25) (.const (.int .i64 0)))) (g := none) (j := 2) (!decide (z12.2 = 0)) rfl (by kernel_rfl) (by kernel_rfl) (by kernel_rfl) (fun hc => ?_) (fun hc => ?_)
    · replace hS := cond_t hc hS
      refine zlRun (n := 5) (j := 7) rfl (by kernel_rfl) ?_
      refine zlEnd (by kernel_rfl) ?_
      refine zkSeq ?_
      refine zrCondT (by kernel_rfl) ?_
      refine zrSeq ?_
      refine zrReg ?_
      refine zlRun (n := 1) (j := 1) rfl (by kernel_rfl) ?_
      refine zlEnd (by kernel_rfl) ?_
      refine zkSeq ?_
      refine zrRet ?_
      refine zkSeqR ?_
      refine zkNil ?_
      exact endQ hS hQ (fRet (by kernel_rfl) ((congrArg (fun s => outR s 0 c3.res) (by kernel_rfl : finSt c3.fin _ = f3_fin false)).trans (f3_out false)))
    · replace hS := cond_f hc hS
      refine zlRun (n := 3) (j := 5) rfl (by kernel_rfl) ?_
      refine zlBool (d := 30) (op := (.eqA .true [(4, .int), (1, .bool)] (.tmp 28) (.tmp 29))) (g := (some (27, false))) (j := 6) (!(decide (z12.1.Button = a1.Button) && (decide (z12.1.Col = a1.Col) && (decide (z12.1.Row = a1.Row) && (decide (z12.1.Mods = a1.Mods) && (decide (z12.1.Up = a1.Up) && true)))))) rfl (by kernel_rfl) (by kernel_rfl) (by kernel_rfl) (fun hc => ?_) (fun hc => ?_)
      · replace hS := cond_t hc hS
        refine zlRun (n := 1) (j := 7) rfl (by kernel_rfl) ?_
        refine zlEnd (by kernel_rfl) ?_
        refine zkSeq ?_
        refine zrCondT (by kernel_rfl) ?_
        refine zrSeq ?_
        refine zrReg ?_
        refine zlRun (n := 1) (j := 1) rfl (by kernel_rfl) ?_
        refine zlEnd (by kernel_rfl) ?_
        refine zkSeq ?_
        refine zrRet ?_
        refine zkSeqR ?_
        refine zkNil ?_
        exact endQ hS hQ (fRet (by kernel_rfl) ((congrArg (fun s => outR s 0 c3.res) (by kernel_rfl : finSt c3.fin _ = f3_fin false)).trans (f3_out false)))
      · replace hS := cond_f hc hS
        refine zlRun (n := 1) (j := 7) rfl (by kernel_rfl) ?_
        refine zlEnd (by kernel_rfl) ?_
        refine zkSeq ?_
        refine zrCondF (by kernel_rfl) ?_
        refine zrSkip ?_
        refine zkSeq ?_
        exact f3_j0_ok hd a1 a2 hQ  hS (by kernel_rfl)
  · replace hS := cond_f hc hS
    refine zlEnd (by kernel_rfl) ?_
    refine zkSeq ?_
    refine zrCondF (by kernel_rfl) ?_
    refine zrSkip ?_
    refine zkSeq ?_
    exact f3_j0_ok hd a1 a2 hQ  hS (by kernel_rfl)
end Go.Proofs.YtcbhpadficfnnaaDoor.Pm
