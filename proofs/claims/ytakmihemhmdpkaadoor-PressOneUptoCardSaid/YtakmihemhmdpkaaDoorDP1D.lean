/- Typed functions, and that the codes are these. Printed by dec.py. -/
import Derived.Test.YtakmihemhmdpkaaDoorDP1C
namespace Go.Proofs.YtakmihemhmdpkaaDoor.Pm
set_option maxRecDepth 1000000
set_option maxHeartbeats 20000000
set_option linter.unusedVariables false
/- farwriter/press.code -/
def f40_fin (p4 : Bool) : St := ⟨(up (fun _ => .un) 2 (.d (.bool p4))), (hB fun _ => 0)⟩
theorem f40_out (p4 : Bool) : outR (f40_fin p4) 0 c40.res = some ((.d (.bool p4)), []) := by
  kernel_rfl
def f40_Q (r : Bool) (e : PX) (st : St) : Prop := DoneF c40 0 ((.d (.bool r)), []) e st
noncomputable def f40 (a1 : Int) : Option (Bool) := (bif (decide (0 ≤ a1)) then (bif (decide (a1 ≤ 1114111)) then (bif (decide (a1 < 55296)) then (some true) else (bif (decide (57343 < a1)) then (some true) else (some false))) else (some false)) else (some false))
theorem f40_ok (d : Nat) (hd : 1 ≤ d) (a1 : Int) (r : Bool) (hS : f40 a1 = some r) : lev codes baseL d 40 [(.d (.int .i64 a1))] [] = some ((.d (.bool r)), []) := by
  refine lev_go codes40 rfl rfl (Nat.le_trans (Nat.le_of_ble_eq_true rfl) hd) fun Q hQ => ?_
  unfold f40 at hS
  show ZR _ Q c40_b [] _
  replace hQ : ∀ e st', f40_Q r e st' → Q e st' := hQ
  refine zrSeq ?_
  refine zrReg ?_
  refine zlRun (n := 1) (j := 1) rfl (by kernel_rfl) ?_
  refine zlEnd (by kernel_rfl) ?_
  refine zkSeq ?_
  refine zrSeq ?_
  refine zrReg ?_
  refine zlRun (n := 1) (j := 1) rfl (by kernel_rfl) ?_
  refine zlBool (d := 4) (op := (.cmpI .geq (.tmp 3) (.const (.int .i64 0)))) (g := none) (j := 2) (decide (0 ≤ a1)) rfl (by kernel_rfl) (by kernel_rfl) (by kernel_rfl) (fun hc => ?_) (fun hc => ?_)
  · replace hS := cond_t hc hS
    refine zlRun (n := 2) (j := 4) rfl (by kernel_rfl) ?_
    refine zlBool (d := 7) (op := (.cmpI .leq (.tmp 6) (.const (.int .i64 1114111)))) (g := (some (5, true))) (j := 5) (decide (a1 ≤ 1114111)) rfl (by kernel_rfl) (by kernel_rfl) (by kernel_rfl) (fun hc => ?_) (fun hc => ?_)
    · replace hS := cond_t hc hS
      refine zlRun (n := 3) (j := 8) rfl (by kernel_rfl) ?_
      refine zlBool (d := 11) (op := (.cmpI .lss (.tmp 10) (.const (.int .i64 55296)))) (g := (some (9, true))) (j := 9) (decide (a1 < 55296)) rfl (by kernel_rfl) (by kernel_rfl) (by kernel_rfl) (fun hc => ?_) (fun hc => ?_)
      · replace hS := cond_t hc hS
        refine zlRun (n := 6) (j := 15) rfl (by kernel_rfl) ?_
        refine zlEnd (by kernel_rfl) ?_
        refine zkSeq ?_
        refine zrRet ?_
        refine zkNil ?_
        exact endQ hS hQ (fRet ((congrArg (fun s => outR s 0 c40.res) (by kernel_rfl : finSt c40.fin _ = f40_fin true)).trans (f40_out true)))
      · replace hS := cond_f hc hS
        refine zlRun (n := 2) (j := 11) rfl (by kernel_rfl) ?_
        refine zlBool (d := 14) (op := (.cmpI .gtr (.tmp 13) (.const (.int .i64 57343)))) (g := (some (12, false))) (j := 12) (decide (57343 < a1)) rfl (by kernel_rfl) (by kernel_rfl) (by kernel_rfl) (fun hc => ?_) (fun hc => ?_)
        · replace hS := cond_t hc hS
          refine zlRun (n := 3) (j := 15) rfl (by kernel_rfl) ?_
          refine zlEnd (by kernel_rfl) ?_
          refine zkSeq ?_
          refine zrRet ?_
          refine zkNil ?_
          exact endQ hS hQ (fRet ((congrArg (fun s => outR s 0 c40.res) (by kernel_rfl : finSt c40.fin _ = f40_fin true)).trans (f40_out true)))
        · replace hS := cond_f hc hS
          refine zlRun (n := 3) (j := 15) rfl (by kernel_rfl) ?_
          refine zlEnd (by kernel_rfl) ?_
          refine zkSeq ?_
          refine zrRet ?_
          refine zkNil ?_
          exact endQ hS hQ (fRet ((congrArg (fun s => outR s 0 c40.res) (by kernel_rfl : finSt c40.fin _ = f40_fin false)).trans (f40_out false)))
    · replace hS := cond_f hc hS
      refine zlRun (n := 10) (j := 15) rfl (by kernel_rfl) ?_
      refine zlEnd (by kernel_rfl) ?_
      refine zkSeq ?_
      refine zrRet ?_
      refine zkNil ?_
      exact endQ hS hQ (fRet ((congrArg (fun s => outR s 0 c40.res) (by kernel_rfl : finSt c40.fin _ = f40_fin false)).trans (f40_out false)))
  · replace hS := cond_f hc hS
    refine zlRun (n := 13) (j := 15) rfl (by kernel_rfl) ?_
    refine zlEnd (by kernel_rfl) ?_
    refine zkSeq ?_
    refine zrRet ?_
    refine zkNil ?_
    exact endQ hS hQ (fRet ((congrArg (fun s => outR s 0 c40.res) (by kernel_rfl : finSt c40.fin _ = f40_fin false)).trans (f40_out false)))
/- strconv.Itoa -/
theorem libItoa_ok (d : Nat) (hd : 0 ≤ d) (a1 : Int) (r : List UInt8) (hS : libItoa a1 = some r) : lev codes baseL d 49 [(.d (.int .i64 a1))] [] = some ((.d (.str r)), []) := lib_call (l := libs) rfl rfl rfl (oiS_ hS) d
/- farwriter/press.letter -/
def f41_fin (p2 : List UInt8) : St := ⟨(up (fun _ => .un) 6 (.d (.str p2))), (hB fun _ => 0)⟩
theorem f41_out (p2 : List UInt8) : outR (f41_fin p2) 0 c41.res = some ((.d (.str p2)), []) := by
  kernel_rfl
def f41_Q (r : (List UInt8)) (e : PX) (st : St) : Prop := DoneF c41 0 ((.d (.str r)), []) e st
def f41_j0_J (a1 : List UInt8) (a2 : UInt8) (a3 : Int) : St := ⟨(up (up (fun _ => .un) 2 (.d (.int .i64 a3))) 1 (.d (.int .u8 (a2.toNat : Int)))), (hB fun _ => 0)⟩
noncomputable def f41_j0 (a1 : List UInt8) (a2 : UInt8) (a3 : Int) : Option ((List UInt8)) := ((libItoa (IntKind.i64.wrap (a3 + 1))).bind fun z8 => ((cat? ([27, 91, 49, 59] : List UInt8) z8).bind fun z9 => ((cat? z9 ((Utf8.encode (a2.toNat : Int)).data.toList)).bind fun z10 => (some z10))))
theorem f41_j0_ok {d : Nat} (hd : 1 ≤ d) (a1 : List UInt8) (a2 : UInt8) (a3 : Int) {r : (List UInt8)} {Q : PX → St → Prop} (hQ : ∀ e st', f41_Q r e st' → Q e st')  (hS : f41_j0 a1 a2 a3 = some r) {st : St} (he : keepSt [1, 2] [] [] st = f41_j0_J a1 a2 a3) : ZR (lev codes baseL (d - 1)) Q c41_1 [] st := by
  refine zrKeep he ?_
  unfold f41_j0 at hS
  refine zrSeq ?_
  refine zrReg ?_
  refine zlRun (n := 2) (j := 2) rfl (by kernel_rfl) ?_
  refine bindE hS (fun z8 hz8 hS => ?_)
  refine zlOp (d := some 17) (op := (.call 49 [(.tmp 16)])) (g := none) (v := (.d (.str z8))) (ups := []) (j := 3) rfl (by kernel_rfl) (by kernel_rfl) (ev_call (args := [(.d (.int .i64 (IntKind.i64.wrap (a3 + 1))))]) (l := [(.d (.int .i64 (IntKind.i64.wrap (a3 + 1))))]) (r := (.d (.str z8))) (by kernel_rfl) (by kernel_rfl) (libItoa_ok (d - 1) (dpt hd rfl) (IntKind.i64.wrap (a3 + 1)) z8 hz8) (by kernel_rfl) (by kernel_rfl) (by kernel_rfl)) ?_
  refine bindE hS (fun z9 hz9 hS => ?_)
  refine zlOp (d := some 18) (op := (.strO .add (.const (.string ⟨#[27, 91, 49, 59]⟩)) (.tmp 17))) (g := none) (v := (.d (.str z9))) (ups := []) (j := 4) rfl (by kernel_rfl) (by kernel_rfl) (ev_cat (a := [27, 91, 49, 59]) (c := z8) (by kernel_rfl) (by kernel_rfl) hz9) ?_
  refine zlRun (n := 1) (j := 5) rfl (by kernel_rfl) ?_
  refine zlOp (d := some 20) (op := (.cvI .i32 (.tmp 19))) (g := none) (v := (.d (.int .i32 (a2.toNat : Int)))) (ups := []) (j := 6) rfl (by kernel_rfl) (by kernel_rfl) (ev_cv (kk := .u8) (a := (a2.toNat : Int)) (by kernel_rfl) (cv_i32 _)) ?_
  refine zlRun (n := 1) (j := 7) rfl (by kernel_rfl) ?_
  refine bindE hS (fun z10 hz10 hS => ?_)
  refine zlOp (d := some 22) (op := (.strO .add (.tmp 18) (.tmp 21))) (g := none) (v := (.d (.str z10))) (ups := []) (j := 8) rfl (by kernel_rfl) (by kernel_rfl) (ev_cat (a := z9) (c := (Utf8.encode (a2.toNat : Int)).data.toList) (by kernel_rfl) (by kernel_rfl) hz10) ?_
  refine zlRun (n := 1) (j := 9) rfl (by kernel_rfl) ?_
  refine zlEnd (by kernel_rfl) ?_
  refine zkSeq ?_
  refine zrRet ?_
  refine zkNil ?_
  exact endQ hS hQ (fRet ((congrArg (fun s => outR s 0 c41.res) (by kernel_rfl : finSt c41.fin _ = f41_fin z10)).trans (f41_out z10)))
noncomputable def f41 (a1 : List UInt8) (a2 : UInt8) (a3 : Int) : Option ((List UInt8)) := (bif (decide (a3 = 0)) then ((cat? ([27] : List UInt8) a1).bind fun z11 => ((cat? z11 ((Utf8.encode (a2.toNat : Int)).data.toList)).bind fun z12 => (some z12))) else (f41_j0 a1 a2 a3 ))
theorem f41_ok (d : Nat) (hd : 1 ≤ d) (a1 : List UInt8) (a2 : UInt8) (a3 : Int) (r : (List UInt8)) (hS : f41 a1 a2 a3 = some r) : lev codes baseL d 41 [(.d (.str a1)), (.d (.int .u8 (a2.toNat : Int))), (.d (.int .i64 a3))] [] = some ((.d (.str r)), []) := by
  refine lev_go codes41 rfl rfl (Nat.le_trans (Nat.le_of_ble_eq_true rfl) hd) fun Q hQ => ?_
  unfold f41 at hS
  show ZR _ Q c41_b [] _
  replace hQ : ∀ e st', f41_Q r e st' → Q e st' := hQ
  refine zrSeq ?_
  refine zrReg ?_
  refine zlRun (n := 1) (j := 1) rfl (by kernel_rfl) ?_
  refine zlEnd (by kernel_rfl) ?_
  refine zkSeq ?_
  refine zrSeq ?_
  refine zrSeq ?_
  refine zrReg ?_
  refine zlRun (n := 1) (j := 1) rfl (by kernel_rfl) ?_
  refine zlBool (d := 8) (op := (.cmpI .eql (.tmp 7) (.const (.int .i64 0)))) (g := none) (j := 2) (decide (a3 = 0)) rfl (by kernel_rfl) (by kernel_rfl) (by kernel_rfl) (fun hc => ?_) (fun hc => ?_)
  · replace hS := cond_t hc hS
    refine zlEnd (by kernel_rfl) ?_
    refine zkSeq ?_
    refine zrCondT (by kernel_rfl) ?_
    refine zrSeq ?_
    refine zrReg ?_
    refine zlRun (n := 1) (j := 1) rfl (by kernel_rfl) ?_
    refine bindE hS (fun z11 hz11 hS => ?_)
    refine zlOp (d := some 10) (op := (.strO .add (.const (.string ⟨#[27]⟩)) (.tmp 9))) (g := none) (v := (.d (.str z11))) (ups := []) (j := 2) rfl (by kernel_rfl) (by kernel_rfl) (ev_cat (a := [27]) (c := a1) (by kernel_rfl) (by kernel_rfl) hz11) ?_
    refine zlRun (n := 1) (j := 3) rfl (by kernel_rfl) ?_
    refine zlOp (d := some 12) (op := (.cvI .i32 (.tmp 11))) (g := none) (v := (.d (.int .i32 (a2.toNat : Int)))) (ups := []) (j := 4) rfl (by kernel_rfl) (by kernel_rfl) (ev_cv (kk := .u8) (a := (a2.toNat : Int)) (by kernel_rfl) (cv_i32 _)) ?_
    refine zlRun (n := 1) (j := 5) rfl (by kernel_rfl) ?_
    refine bindE hS (fun z12 hz12 hS => ?_)
    refine zlOp (d := some 14) (op := (.strO .add (.tmp 10) (.tmp 13))) (g := none) (v := (.d (.str z12))) (ups := []) (j := 6) rfl (by kernel_rfl) (by kernel_rfl) (ev_cat (a := z11) (c := (Utf8.encode (a2.toNat : Int)).data.toList) (by kernel_rfl) (by kernel_rfl) hz12) ?_
    refine zlRun (n := 1) (j := 7) rfl (by kernel_rfl) ?_
    refine zlEnd (by kernel_rfl) ?_
    refine zkSeq ?_
    refine zrRet ?_
    refine zkSeqR ?_
    refine zkNil ?_
    exact endQ hS hQ (fRet ((congrArg (fun s => outR s 0 c41.res) (by kernel_rfl : finSt c41.fin _ = f41_fin z12)).trans (f41_out z12)))
  · replace hS := cond_f hc hS
    refine zlEnd (by kernel_rfl) ?_
    refine zkSeq ?_
    refine zrCondF (by kernel_rfl) ?_
    refine zrSkip ?_
    refine zkSeq ?_
    exact f41_j0_ok hd a1 a2 a3 hQ  hS (by kernel_rfl)
/- farwriter/press.numbered -/
def f42_fin (p4 : List UInt8) : St := ⟨(up (fun _ => .un) 4 (.d (.str p4))), (hB fun _ => 0)⟩
theorem f42_out (p4 : List UInt8) : outR (f42_fin p4) 0 c42.res = some ((.d (.str p4)), []) := by
  kernel_rfl
def f42_Q (r : (List UInt8)) (e : PX) (st : St) : Prop := DoneF c42 0 ((.d (.str r)), []) e st
noncomputable def f42 (a1 : Int) (a2 : Int) : Option ((List UInt8)) := ((libItoa a1).bind fun z9 => ((cat? ([27, 91] : List UInt8) z9).bind fun z10 => (bif (!decide (a2 = 0)) then ((libItoa (IntKind.i64.wrap (a2 + 1))).bind fun z11 => ((cat? ([59] : List UInt8) z11).bind fun z12 => ((cat? z10 z12).bind fun z13 => ((cat? z13 ([126] : List UInt8)).bind fun z14 => (some z14))))) else ((cat? z10 ([126] : List UInt8)).bind fun z15 => (some z15)))))
theorem f42_ok (d : Nat) (hd : 1 ≤ d) (a1 : Int) (a2 : Int) (r : (List UInt8)) (hS : f42 a1 a2 = some r) : lev codes baseL d 42 [(.d (.int .i64 a1)), (.d (.int .i64 a2))] [] = some ((.d (.str r)), []) := by
  refine lev_go codes42 rfl rfl (Nat.le_trans (Nat.le_of_ble_eq_true rfl) hd) fun Q hQ => ?_
  unfold f42 at hS
  show ZR _ Q c42_b [] _
  replace hQ : ∀ e st', f42_Q r e st' → Q e st' := hQ
  refine zrSeq ?_
  refine zrReg ?_
  refine zlRun (n := 1) (j := 1) rfl (by kernel_rfl) ?_
  refine zlEnd (by kernel_rfl) ?_
  refine zkSeq ?_
  refine zrSeq ?_
  refine zrReg ?_
  refine zlRun (n := 1) (j := 1) rfl (by kernel_rfl) ?_
  refine bindE hS (fun z9 hz9 hS => ?_)
  refine zlOp (d := some 7) (op := (.call 49 [(.tmp 6)])) (g := none) (v := (.d (.str z9))) (ups := []) (j := 2) rfl (by kernel_rfl) (by kernel_rfl) (ev_call (args := [(.d (.int .i64 a1))]) (l := [(.d (.int .i64 a1))]) (r := (.d (.str z9))) (by kernel_rfl) (by kernel_rfl) (libItoa_ok (d - 1) (dpt hd rfl) a1 z9 hz9) (by kernel_rfl) (by kernel_rfl) (by kernel_rfl)) ?_
  refine bindE hS (fun z10 hz10 hS => ?_)
  refine zlOp (d := some 8) (op := (.strO .add (.const (.string ⟨#[27, 91]⟩)) (.tmp 7))) (g := none) (v := (.d (.str z10))) (ups := []) (j := 3) rfl (by kernel_rfl) (by kernel_rfl) (ev_cat (a := [27, 91]) (c := z9) (by kernel_rfl) (by kernel_rfl) hz10) ?_
  refine zlRun (n := 1) (j := 4) rfl (by kernel_rfl) ?_
  refine zlEnd (by kernel_rfl) ?_
  refine zkSeq ?_
  refine zrSeq ?_
  refine zrSeq ?_
  refine zrReg ?_
  refine zlRun (n := 1) (j := 1) rfl (by kernel_rfl) ?_
  refine zlBool (d := 10) (op := (.cmpI .neq (.tmp 9) (.const (.int .i64 0)))) (g := none) (j := 2) (!decide (a2 = 0)) rfl (by kernel_rfl) (by kernel_rfl) (by kernel_rfl) (fun hc => ?_) (fun hc => ?_)
  · replace hS := cond_t hc hS
    refine zlEnd (by kernel_rfl) ?_
    refine zkSeq ?_
    refine zrCondT (by kernel_rfl) ?_
    refine zrReg ?_
    refine zlRun (n := 3) (j := 3) rfl (by kernel_rfl) ?_
    refine bindE hS (fun z11 hz11 hS => ?_)
    refine zlOp (d := some 14) (op := (.call 49 [(.tmp 13)])) (g := none) (v := (.d (.str z11))) (ups := []) (j := 4) rfl (by kernel_rfl) (by kernel_rfl) (ev_call (args := [(.d (.int .i64 (IntKind.i64.wrap (a2 + 1))))]) (l := [(.d (.int .i64 (IntKind.i64.wrap (a2 + 1))))]) (r := (.d (.str z11))) (by kernel_rfl) (by kernel_rfl) (libItoa_ok (d - 1) (dpt hd rfl) (IntKind.i64.wrap (a2 + 1)) z11 hz11) (by kernel_rfl) (by kernel_rfl) (by kernel_rfl)) ?_
    refine bindE hS (fun z12 hz12 hS => ?_)
    refine zlOp (d := some 15) (op := (.strO .add (.const (.string ⟨#[59]⟩)) (.tmp 14))) (g := none) (v := (.d (.str z12))) (ups := []) (j := 5) rfl (by kernel_rfl) (by kernel_rfl) (ev_cat (a := [59]) (c := z11) (by kernel_rfl) (by kernel_rfl) hz12) ?_
    refine bindE hS (fun z13 hz13 hS => ?_)
    refine zlOp (d := some 16) (op := (.strO .add (.tmp 11) (.tmp 15))) (g := none) (v := (.d (.str z13))) (ups := []) (j := 6) rfl (by kernel_rfl) (by kernel_rfl) (ev_cat (a := z10) (c := z12) (by kernel_rfl) (by kernel_rfl) hz13) ?_
    refine zlRun (n := 1) (j := 7) rfl (by kernel_rfl) ?_
    refine zlEnd (by kernel_rfl) ?_
    refine zkSeq ?_
    refine zrSeq ?_
    refine zrReg ?_
    refine zlRun (n := 1) (j := 1) rfl (by kernel_rfl) ?_
    refine bindE hS (fun z14 hz14 hS => ?_)
    refine zlOp (d := some 18) (op := (.strO .add (.tmp 17) (.const (.string ⟨#[126]⟩)))) (g := none) (v := (.d (.str z14))) (ups := []) (j := 2) rfl (by kernel_rfl) (by kernel_rfl) (ev_cat (a := z13) (c := [126]) (by kernel_rfl) (by kernel_rfl) hz14) ?_
    refine zlRun (n := 1) (j := 3) rfl (by kernel_rfl) ?_
    refine zlEnd (by kernel_rfl) ?_
    refine zkSeq ?_
    refine zrRet ?_
    refine zkNil ?_
    exact endQ hS hQ (fRet ((congrArg (fun s => outR s 0 c42.res) (by kernel_rfl : finSt c42.fin _ = f42_fin z14)).trans (f42_out z14)))
  · replace hS := cond_f hc hS
    refine zlEnd (by kernel_rfl) ?_
    refine zkSeq ?_
    refine zrCondF (by kernel_rfl) ?_
    refine zrSkip ?_
    refine zkSeq ?_
    refine zrSeq ?_
    refine zrReg ?_
    refine zlRun (n := 1) (j := 1) rfl (by kernel_rfl) ?_
    refine bindE hS (fun z15 hz15 hS => ?_)
    refine zlOp (d := some 18) (op := (.strO .add (.tmp 17) (.const (.string ⟨#[126]⟩)))) (g := none) (v := (.d (.str z15))) (ups := []) (j := 2) rfl (by kernel_rfl) (by kernel_rfl) (ev_cat (a := z10) (c := [126]) (by kernel_rfl) (by kernel_rfl) hz15) ?_
    refine zlRun (n := 1) (j := 3) rfl (by kernel_rfl) ?_
    refine zlEnd (by kernel_rfl) ?_
    refine zkSeq ?_
    refine zrRet ?_
    refine zkNil ?_
    exact endQ hS hQ (fRet ((congrArg (fun s => outR s 0 c42.res) (by kernel_rfl : finSt c42.fin _ = f42_fin z15)).trans (f42_out z15)))
/- unicode/utf8.appendRuneNonASCII -/
def f95_fin (p7 : List UInt8) : St := ⟨(up (fun _ => .un) 4 (.r (.msl 0 0 0 p7.length))), (up (hB fun _ => 0) 0 ⟨0, some (.own 5 1 (eU8.cells p7))⟩)⟩
theorem f95_out (p7 : List UInt8) : outR (f95_fin p7) 1 c95.res = some ((.r (.msl 0 0 0 p7.length)), [(.own 5 1 (eU8.cells p7))]) := by
  kernel_rfl
def f95_Q (r : (List UInt8)) (e : PX) (st : St) : Prop := DoneF c95 1 ((.r (.msl 0 0 0 r.length)), [(.own 5 1 (eU8.cells r))]) e st
def f95_j0_J (a1 : Int) (a2 : List UInt8) (p11 : Bool) : St := ⟨(up (up (up (up (fun _ => .un) 25 (.d (.bool p11))) 5 (.d (.int .u32 (IntKind.u32.wrap (a1))))) 1 (.d (.int .i32 a1))) 0 (.r (.msl 0 0 0 a2.length))), (up (hB fun _ => 0) 0 ⟨0, some (.own 5 1 (eU8.cells a2))⟩)⟩
noncomputable def f95_j0 (a1 : Int) (a2 : List UInt8) (p11 : Bool) : Option ((List UInt8)) := (bif p11 then ((app? 1 a2 ([((224 : UInt8) ||| (u8 (Int.fdiv a1 (2 ^ 12)))), ((128 : UInt8) ||| ((u8 (Int.fdiv a1 (2 ^ 6))) &&& (63 : UInt8))), ((128 : UInt8) ||| ((u8 a1) &&& (63 : UInt8)))] : List UInt8)).bind fun z6 => (some z6)) else (bif (decide (65535 < (IntKind.u32.wrap (a1)))) then (bif (decide ((IntKind.u32.wrap (a1)) ≤ 1114111)) then ((app? 1 a2 ([((240 : UInt8) ||| (u8 (Int.fdiv a1 (2 ^ 18)))), ((128 : UInt8) ||| ((u8 (Int.fdiv a1 (2 ^ 12))) &&& (63 : UInt8))), ((128 : UInt8) ||| ((u8 (Int.fdiv a1 (2 ^ 6))) &&& (63 : UInt8))), ((128 : UInt8) ||| ((u8 a1) &&& (63 : UInt8)))] : List UInt8)).bind fun z7 => (some z7)) else ((app? 1 a2 ([239, 191, 189] : List UInt8)).bind fun z8 => (some z8))) else ((app? 1 a2 ([239, 191, 189] : List UInt8)).bind fun z9 => (some z9))))
theorem f95_j0_ok {d : Nat} (hd : 1 ≤ d) (a1 : Int) (a2 : List UInt8) {r : (List UInt8)} {Q : PX → St → Prop} (hQ : ∀ e st', f95_Q r e st' → Q e st') (p11 : Bool) (hS : f95_j0 a1 a2 p11 = some r) {st : St} (he : keepSt [0, 1, 5, 25] [(0, .id 0)] [] st = f95_j0_J a1 a2 p11) : ZR (lev codes baseL (d - 1)) Q c95_1 [.blk 0] st := by
  refine zrKeep he ?_
  unfold f95_j0 at hS
  refine zrSplit 25 p11 (by kernel_rfl) (fun hc => ?_) (fun hc => ?_)
  · replace hS := cond_t hc hS
    refine zrCondT (by kernel_rfl) ?_
    refine zrSeq ?_
    refine zrReg ?_
    refine zlRun (n := 3) (j := 3) rfl (by kernel_rfl) ?_
    refine zlOp (d := some 37) (op := (.cvI .u8 (.tmp 36))) (g := none) (v := (.d (.int .u8 ((u8 (Int.fdiv a1 (2 ^ 12))).toNat : Int)))) (ups := []) (j := 4) rfl (by kernel_rfl) (by kernel_rfl) (ev_cv (kk := .i32) (a := (Int.fdiv a1 (2 ^ 12))) (by kernel_rfl) (u8_wrap _)) ?_
    refine zlOp (d := some 38) (op := (.arI .or (.const (.int .u8 224)) (.tmp 37))) (g := none) (v := (.d (.int .u8 (((224 : UInt8) ||| (u8 (Int.fdiv a1 (2 ^ 12)))).toNat : Int)))) (ups := []) (j := 5) rfl (by kernel_rfl) (by kernel_rfl) (ev_arI (kk := .u8) (a := ((224 : UInt8).toNat : Int)) (c := ((u8 (Int.fdiv a1 (2 ^ 12))).toNat : Int)) (by kernel_rfl) (by kernel_rfl) (ar_or8 (224 : UInt8) (u8 (Int.fdiv a1 (2 ^ 12))))) ?_
    refine zlRun (n := 2) (j := 7) rfl (by kernel_rfl) ?_
    refine zlOp (d := some 41) (op := (.cvI .u8 (.tmp 40))) (g := none) (v := (.d (.int .u8 ((u8 (Int.fdiv a1 (2 ^ 6))).toNat : Int)))) (ups := []) (j := 8) rfl (by kernel_rfl) (by kernel_rfl) (ev_cv (kk := .i32) (a := (Int.fdiv a1 (2 ^ 6))) (by kernel_rfl) (u8_wrap _)) ?_
    refine zlOp (d := some 42) (op := (.arI .and (.tmp 41) (.const (.int .u8 63)))) (g := none) (v := (.d (.int .u8 (((u8 (Int.fdiv a1 (2 ^ 6))) &&& (63 : UInt8)).toNat : Int)))) (ups := []) (j := 9) rfl (by kernel_rfl) (by kernel_rfl) (ev_arI (kk := .u8) (a := ((u8 (Int.fdiv a1 (2 ^ 6))).toNat : Int)) (c := ((63 : UInt8).toNat : Int)) (by kernel_rfl) (by kernel_rfl) (ar_and8 (u8 (Int.fdiv a1 (2 ^ 6))) (63 : UInt8))) ?_
    refine zlOp (d := some 43) (op := (.arI .or (.const (.int .u8 128)) (.tmp 42))) (g := none) (v := (.d (.int .u8 (((128 : UInt8) ||| ((u8 (Int.fdiv a1 (2 ^ 6))) &&& (63 : UInt8))).toNat : Int)))) (ups := []) (j := 10) rfl (by kernel_rfl) (by kernel_rfl) (ev_arI (kk := .u8) (a := ((128 : UInt8).toNat : Int)) (c := (((u8 (Int.fdiv a1 (2 ^ 6))) &&& (63 : UInt8)).toNat : Int)) (by kernel_rfl) (by kernel_rfl) (ar_or8 (128 : UInt8) ((u8 (Int.fdiv a1 (2 ^ 6))) &&& (63 : UInt8)))) ?_
    refine zlRun (n := 1) (j := 11) rfl (by kernel_rfl) ?_
    refine zlOp (d := some 45) (op := (.cvI .u8 (.tmp 44))) (g := none) (v := (.d (.int .u8 ((u8 a1).toNat : Int)))) (ups := []) (j := 12) rfl (by kernel_rfl) (by kernel_rfl) (ev_cv (kk := .i32) (a := a1) (by kernel_rfl) (u8_wrap _)) ?_
    refine zlOp (d := some 46) (op := (.arI .and (.tmp 45) (.const (.int .u8 63)))) (g := none) (v := (.d (.int .u8 (((u8 a1) &&& (63 : UInt8)).toNat : Int)))) (ups := []) (j := 13) rfl (by kernel_rfl) (by kernel_rfl) (ev_arI (kk := .u8) (a := ((u8 a1).toNat : Int)) (c := ((63 : UInt8).toNat : Int)) (by kernel_rfl) (by kernel_rfl) (ar_and8 (u8 a1) (63 : UInt8))) ?_
    refine zlOp (d := some 47) (op := (.arI .or (.const (.int .u8 128)) (.tmp 46))) (g := none) (v := (.d (.int .u8 (((128 : UInt8) ||| ((u8 a1) &&& (63 : UInt8))).toNat : Int)))) (ups := []) (j := 14) rfl (by kernel_rfl) (by kernel_rfl) (ev_arI (kk := .u8) (a := ((128 : UInt8).toNat : Int)) (c := (((u8 a1) &&& (63 : UInt8)).toNat : Int)) (by kernel_rfl) (by kernel_rfl) (ar_or8 (128 : UInt8) ((u8 a1) &&& (63 : UInt8)))) ?_
    refine zlRun (n := 1) (j := 15) rfl (by kernel_rfl) ?_
    refine bindE hS (fun z6 hz6 hS => ?_)
    refine zlOp (d := some 49) (op := (.app 5 1 1 (.tmp 34) (.tmp 48))) (g := none) (v := (.r (.msl 0 1 0 z6.length))) (ups := [(0, ⟨1, some (.own 5 1 (eU8.cells z6))⟩)]) (j := 16) rfl (by kernel_rfl) (by kernel_rfl) (ev_app eU8 (b := 0) (g := 0) (n := a2.length) (xs := a2) (ys := [((224 : UInt8) ||| (u8 (Int.fdiv a1 (2 ^ 12)))), ((128 : UInt8) ||| ((u8 (Int.fdiv a1 (2 ^ 6))) &&& (63 : UInt8))), ((128 : UInt8) ||| ((u8 a1) &&& (63 : UInt8)))]) ((congrArg (asL _) (by kernel_rfl : ρof _ (.tmp 48) = (.r (.msl 392 1 0 (([((224 : UInt8) ||| (u8 (Int.fdiv a1 (2 ^ 12)))), ((128 : UInt8) ||| ((u8 (Int.fdiv a1 (2 ^ 6))) &&& (63 : UInt8))), ((128 : UInt8) ||| ((u8 a1) &&& (63 : UInt8)))] : List UInt8).length))))).trans (as_whole eU8 (e := 5) (k := 1) (xs := [((224 : UInt8) ||| (u8 (Int.fdiv a1 (2 ^ 12)))), ((128 : UInt8) ||| ((u8 (Int.fdiv a1 (2 ^ 6))) &&& (63 : UInt8))), ((128 : UInt8) ||| ((u8 a1) &&& (63 : UInt8)))]) (by kernel_rfl) rfl rfl)) rfl (by kernel_rfl) rfl (by kernel_rfl) rfl hz6) ?_
    refine zlRun (n := 1) (j := 17) rfl (by kernel_rfl) ?_
    refine zlEnd (by kernel_rfl) ?_
    refine zkSeq ?_
    refine zrRet ?_
    refine zkBlkR ?_
    refine zkNil ?_
    exact endQ hS hQ (fRet ((congrArg (fun s => outR s 1 c95.res) (by kernel_rfl : finSt c95.fin _ = f95_fin z6)).trans (f95_out z6)))
  · replace hS := cond_f hc hS
    refine zrCondF (by kernel_rfl) ?_
    refine zrSeq ?_
    refine zrReg ?_
    refine zlRun (n := 1) (j := 1) rfl (by kernel_rfl) ?_
    refine zlBool (d := 52) (op := (.cmpI .gtr (.tmp 51) (.const (.int .u32 65535)))) (g := none) (j := 2) (decide (65535 < (IntKind.u32.wrap (a1)))) rfl (by kernel_rfl) (by kernel_rfl) (by kernel_rfl) (fun hc => ?_) (fun hc => ?_)
    · replace hS := cond_t hc hS
      refine zlRun (n := 2) (j := 4) rfl (by kernel_rfl) ?_
      refine zlBool (d := 55) (op := (.cmpI .leq (.tmp 54) (.const (.int .u32 1114111)))) (g := (some (53, true))) (j := 5) (decide ((IntKind.u32.wrap (a1)) ≤ 1114111)) rfl (by kernel_rfl) (by kernel_rfl) (by kernel_rfl) (fun hc => ?_) (fun hc => ?_)
      · replace hS := cond_t hc hS
        refine zlRun (n := 2) (j := 7) rfl (by kernel_rfl) ?_
        refine zlEnd (by kernel_rfl) ?_
        refine zkSeq ?_
        refine zrCondT (by kernel_rfl) ?_
        refine zrSeq ?_
        refine zrReg ?_
        refine zlRun (n := 3) (j := 3) rfl (by kernel_rfl) ?_
        refine zlOp (d := some 60) (op := (.cvI .u8 (.tmp 59))) (g := none) (v := (.d (.int .u8 ((u8 (Int.fdiv a1 (2 ^ 18))).toNat : Int)))) (ups := []) (j := 4) rfl (by kernel_rfl) (by kernel_rfl) (ev_cv (kk := .i32) (a := (Int.fdiv a1 (2 ^ 18))) (by kernel_rfl) (u8_wrap _)) ?_
        refine zlOp (d := some 61) (op := (.arI .or (.const (.int .u8 240)) (.tmp 60))) (g := none) (v := (.d (.int .u8 (((240 : UInt8) ||| (u8 (Int.fdiv a1 (2 ^ 18)))).toNat : Int)))) (ups := []) (j := 5) rfl (by kernel_rfl) (by kernel_rfl) (ev_arI (kk := .u8) (a := ((240 : UInt8).toNat : Int)) (c := ((u8 (Int.fdiv a1 (2 ^ 18))).toNat : Int)) (by kernel_rfl) (by kernel_rfl) (ar_or8 (240 : UInt8) (u8 (Int.fdiv a1 (2 ^ 18))))) ?_
        refine zlRun (n := 2) (j := 7) rfl (by kernel_rfl) ?_
        refine zlOp (d := some 64) (op := (.cvI .u8 (.tmp 63))) (g := none) (v := (.d (.int .u8 ((u8 (Int.fdiv a1 (2 ^ 12))).toNat : Int)))) (ups := []) (j := 8) rfl (by kernel_rfl) (by kernel_rfl) (ev_cv (kk := .i32) (a := (Int.fdiv a1 (2 ^ 12))) (by kernel_rfl) (u8_wrap _)) ?_
        refine zlOp (d := some 65) (op := (.arI .and (.tmp 64) (.const (.int .u8 63)))) (g := none) (v := (.d (.int .u8 (((u8 (Int.fdiv a1 (2 ^ 12))) &&& (63 : UInt8)).toNat : Int)))) (ups := []) (j := 9) rfl (by kernel_rfl) (by kernel_rfl) (ev_arI (kk := .u8) (a := ((u8 (Int.fdiv a1 (2 ^ 12))).toNat : Int)) (c := ((63 : UInt8).toNat : Int)) (by kernel_rfl) (by kernel_rfl) (ar_and8 (u8 (Int.fdiv a1 (2 ^ 12))) (63 : UInt8))) ?_
        refine zlOp (d := some 66) (op := (.arI .or (.const (.int .u8 128)) (.tmp 65))) (g := none) (v := (.d (.int .u8 (((128 : UInt8) ||| ((u8 (Int.fdiv a1 (2 ^ 12))) &&& (63 : UInt8))).toNat : Int)))) (ups := []) (j := 10) rfl (by kernel_rfl) (by kernel_rfl) (ev_arI (kk := .u8) (a := ((128 : UInt8).toNat : Int)) (c := (((u8 (Int.fdiv a1 (2 ^ 12))) &&& (63 : UInt8)).toNat : Int)) (by kernel_rfl) (by kernel_rfl) (ar_or8 (128 : UInt8) ((u8 (Int.fdiv a1 (2 ^ 12))) &&& (63 : UInt8)))) ?_
        refine zlRun (n := 2) (j := 12) rfl (by kernel_rfl) ?_
        refine zlOp (d := some 69) (op := (.cvI .u8 (.tmp 68))) (g := none) (v := (.d (.int .u8 ((u8 (Int.fdiv a1 (2 ^ 6))).toNat : Int)))) (ups := []) (j := 13) rfl (by kernel_rfl) (by kernel_rfl) (ev_cv (kk := .i32) (a := (Int.fdiv a1 (2 ^ 6))) (by kernel_rfl) (u8_wrap _)) ?_
        refine zlOp (d := some 70) (op := (.arI .and (.tmp 69) (.const (.int .u8 63)))) (g := none) (v := (.d (.int .u8 (((u8 (Int.fdiv a1 (2 ^ 6))) &&& (63 : UInt8)).toNat : Int)))) (ups := []) (j := 14) rfl (by kernel_rfl) (by kernel_rfl) (ev_arI (kk := .u8) (a := ((u8 (Int.fdiv a1 (2 ^ 6))).toNat : Int)) (c := ((63 : UInt8).toNat : Int)) (by kernel_rfl) (by kernel_rfl) (ar_and8 (u8 (Int.fdiv a1 (2 ^ 6))) (63 : UInt8))) ?_
        refine zlOp (d := some 71) (op := (.arI .or (.const (.int .u8 128)) (.tmp 70))) (g := none) (v := (.d (.int .u8 (((128 : UInt8) ||| ((u8 (Int.fdiv a1 (2 ^ 6))) &&& (63 : UInt8))).toNat : Int)))) (ups := []) (j := 15) rfl (by kernel_rfl) (by kernel_rfl) (ev_arI (kk := .u8) (a := ((128 : UInt8).toNat : Int)) (c := (((u8 (Int.fdiv a1 (2 ^ 6))) &&& (63 : UInt8)).toNat : Int)) (by kernel_rfl) (by kernel_rfl) (ar_or8 (128 : UInt8) ((u8 (Int.fdiv a1 (2 ^ 6))) &&& (63 : UInt8)))) ?_
        refine zlRun (n := 1) (j := 16) rfl (by kernel_rfl) ?_
        refine zlOp (d := some 73) (op := (.cvI .u8 (.tmp 72))) (g := none) (v := (.d (.int .u8 ((u8 a1).toNat : Int)))) (ups := []) (j := 17) rfl (by kernel_rfl) (by kernel_rfl) (ev_cv (kk := .i32) (a := a1) (by kernel_rfl) (u8_wrap _)) ?_
        refine zlOp (d := some 74) (op := (.arI .and (.tmp 73) (.const (.int .u8 63)))) (g := none) (v := (.d (.int .u8 (((u8 a1) &&& (63 : UInt8)).toNat : Int)))) (ups := []) (j := 18) rfl (by kernel_rfl) (by kernel_rfl) (ev_arI (kk := .u8) (a := ((u8 a1).toNat : Int)) (c := ((63 : UInt8).toNat : Int)) (by kernel_rfl) (by kernel_rfl) (ar_and8 (u8 a1) (63 : UInt8))) ?_
        refine zlOp (d := some 75) (op := (.arI .or (.const (.int .u8 128)) (.tmp 74))) (g := none) (v := (.d (.int .u8 (((128 : UInt8) ||| ((u8 a1) &&& (63 : UInt8))).toNat : Int)))) (ups := []) (j := 19) rfl (by kernel_rfl) (by kernel_rfl) (ev_arI (kk := .u8) (a := ((128 : UInt8).toNat : Int)) (c := (((u8 a1) &&& (63 : UInt8)).toNat : Int)) (by kernel_rfl) (by kernel_rfl) (ar_or8 (128 : UInt8) ((u8 a1) &&& (63 : UInt8)))) ?_
        refine zlRun (n := 1) (j := 20) rfl (by kernel_rfl) ?_
        refine bindE hS (fun z7 hz7 hS => ?_)
        refine zlOp (d := some 77) (op := (.app 5 1 1 (.tmp 57) (.tmp 76))) (g := none) (v := (.r (.msl 0 1 0 z7.length))) (ups := [(0, ⟨1, some (.own 5 1 (eU8.cells z7))⟩)]) (j := 21) rfl (by kernel_rfl) (by kernel_rfl) (ev_app eU8 (b := 0) (g := 0) (n := a2.length) (xs := a2) (ys := [((240 : UInt8) ||| (u8 (Int.fdiv a1 (2 ^ 18)))), ((128 : UInt8) ||| ((u8 (Int.fdiv a1 (2 ^ 12))) &&& (63 : UInt8))), ((128 : UInt8) ||| ((u8 (Int.fdiv a1 (2 ^ 6))) &&& (63 : UInt8))), ((128 : UInt8) ||| ((u8 a1) &&& (63 : UInt8)))]) ((congrArg (asL _) (by kernel_rfl : ρof _ (.tmp 76) = (.r (.msl 616 1 0 (([((240 : UInt8) ||| (u8 (Int.fdiv a1 (2 ^ 18)))), ((128 : UInt8) ||| ((u8 (Int.fdiv a1 (2 ^ 12))) &&& (63 : UInt8))), ((128 : UInt8) ||| ((u8 (Int.fdiv a1 (2 ^ 6))) &&& (63 : UInt8))), ((128 : UInt8) ||| ((u8 a1) &&& (63 : UInt8)))] : List UInt8).length))))).trans (as_whole eU8 (e := 5) (k := 1) (xs := [((240 : UInt8) ||| (u8 (Int.fdiv a1 (2 ^ 18)))), ((128 : UInt8) ||| ((u8 (Int.fdiv a1 (2 ^ 12))) &&& (63 : UInt8))), ((128 : UInt8) ||| ((u8 (Int.fdiv a1 (2 ^ 6))) &&& (63 : UInt8))), ((128 : UInt8) ||| ((u8 a1) &&& (63 : UInt8)))]) (by kernel_rfl) rfl rfl)) rfl (by kernel_rfl) rfl (by kernel_rfl) rfl hz7) ?_
        refine zlRun (n := 1) (j := 22) rfl (by kernel_rfl) ?_
        refine zlEnd (by kernel_rfl) ?_
        refine zkSeq ?_
        refine zrRet ?_
        refine zkBlkR ?_
        refine zkNil ?_
        exact endQ hS hQ (fRet ((congrArg (fun s => outR s 1 c95.res) (by kernel_rfl : finSt c95.fin _ = f95_fin z7)).trans (f95_out z7)))
      · replace hS := cond_f hc hS
        refine zlRun (n := 2) (j := 7) rfl (by kernel_rfl) ?_
        refine zlEnd (by kernel_rfl) ?_
        refine zkSeq ?_
        refine zrCondF (by kernel_rfl) ?_
        refine zrSeq ?_
        refine zrReg ?_
        refine zlRun (n := 2) (j := 2) rfl (by kernel_rfl) ?_
        refine bindE hS (fun z8 hz8 hS => ?_)
        refine zlOp (d := some 10) (op := (.app 5 1 1 (.tmp 8) (.tmp 9))) (g := none) (v := (.r (.msl 0 1 0 z8.length))) (ups := [(0, ⟨1, some (.own 5 1 (eU8.cells z8))⟩)]) (j := 3) rfl (by kernel_rfl) (by kernel_rfl) (ev_app eU8 (b := 0) (g := 0) (n := a2.length) (xs := a2) (ys := [239, 191, 189]) ((congrArg (asL _) (by kernel_rfl : ρof _ (.tmp 9) = (.r (.msl 80 1 0 (([239, 191, 189] : List UInt8).length))))).trans (as_whole eU8 (e := 5) (k := 1) (xs := [239, 191, 189]) (by kernel_rfl) rfl rfl)) rfl (by kernel_rfl) rfl (by kernel_rfl) rfl hz8) ?_
        refine zlRun (n := 1) (j := 4) rfl (by kernel_rfl) ?_
        refine zlEnd (by kernel_rfl) ?_
        refine zkSeq ?_
        refine zrRet ?_
        refine zkBlkR ?_
        refine zkNil ?_
        exact endQ hS hQ (fRet ((congrArg (fun s => outR s 1 c95.res) (by kernel_rfl : finSt c95.fin _ = f95_fin z8)).trans (f95_out z8)))
    · replace hS := cond_f hc hS
      refine zlRun (n := 5) (j := 7) rfl (by kernel_rfl) ?_
      refine zlEnd (by kernel_rfl) ?_
      refine zkSeq ?_
      refine zrCondF (by kernel_rfl) ?_
      refine zrSeq ?_
      refine zrReg ?_
      refine zlRun (n := 2) (j := 2) rfl (by kernel_rfl) ?_
      refine bindE hS (fun z9 hz9 hS => ?_)
      refine zlOp (d := some 10) (op := (.app 5 1 1 (.tmp 8) (.tmp 9))) (g := none) (v := (.r (.msl 0 1 0 z9.length))) (ups := [(0, ⟨1, some (.own 5 1 (eU8.cells z9))⟩)]) (j := 3) rfl (by kernel_rfl) (by kernel_rfl) (ev_app eU8 (b := 0) (g := 0) (n := a2.length) (xs := a2) (ys := [239, 191, 189]) ((congrArg (asL _) (by kernel_rfl : ρof _ (.tmp 9) = (.r (.msl 80 1 0 (([239, 191, 189] : List UInt8).length))))).trans (as_whole eU8 (e := 5) (k := 1) (xs := [239, 191, 189]) (by kernel_rfl) rfl rfl)) rfl (by kernel_rfl) rfl (by kernel_rfl) rfl hz9) ?_
      refine zlRun (n := 1) (j := 4) rfl (by kernel_rfl) ?_
      refine zlEnd (by kernel_rfl) ?_
      refine zkSeq ?_
      refine zrRet ?_
      refine zkBlkR ?_
      refine zkNil ?_
      exact endQ hS hQ (fRet ((congrArg (fun s => outR s 1 c95.res) (by kernel_rfl : finSt c95.fin _ = f95_fin z9)).trans (f95_out z9)))
noncomputable def f95 (a1 : Int) (a2 : List UInt8) : Option ((List UInt8)) := (bif (decide ((IntKind.u32.wrap (a1)) ≤ 2047)) then ((app? 1 a2 ([((192 : UInt8) ||| (u8 (Int.fdiv a1 (2 ^ 6)))), ((128 : UInt8) ||| ((u8 a1) &&& (63 : UInt8)))] : List UInt8)).bind fun z5 => (some z5)) else (bif (decide ((IntKind.u32.wrap (a1)) < 55296)) then (f95_j0 a1 a2 true) else (bif (decide (57343 < (IntKind.u32.wrap (a1)))) then (bif (decide ((IntKind.u32.wrap (a1)) ≤ 65535)) then (f95_j0 a1 a2 true) else (f95_j0 a1 a2 false)) else (f95_j0 a1 a2 false))))
theorem f95_ok (d : Nat) (hd : 1 ≤ d) (a1 : Int) (a2 : List UInt8) (r : (List UInt8)) (hS : f95 a1 a2 = some r) : lev codes baseL d 95 [(.r (.msl 0 0 0 a2.length)), (.d (.int .i32 a1))] [(.own 5 1 (eU8.cells a2))] = some ((.r (.msl 0 0 0 r.length)), [(.own 5 1 (eU8.cells r))]) := by
  refine lev_go codes95 rfl rfl (Nat.le_trans (Nat.le_of_ble_eq_true rfl) hd) fun Q hQ => ?_
  unfold f95 at hS
  show ZR _ Q c95_b [] _
  replace hQ : ∀ e st', f95_Q r e st' → Q e st' := hQ
  refine zrSeq ?_
  refine zrReg ?_
  refine zlRun (n := 1) (j := 1) rfl (by kernel_rfl) ?_
  refine zlEnd (by kernel_rfl) ?_
  refine zkSeq ?_
  refine zrSeq ?_
  refine zrReg ?_
  refine zlRun (n := 3) (j := 3) rfl (by kernel_rfl) ?_
  refine zlEnd (by kernel_rfl) ?_
  refine zkSeq ?_
  refine zrBlk ?_
  refine zrSeq ?_
  refine zrReg ?_
  refine zlRun (n := 1) (j := 1) rfl (by kernel_rfl) ?_
  refine zlBool (d := 13) (op := (.cmpI .leq (.tmp 12) (.const (.int .u32 2047)))) (g := none) (j := 2) (decide ((IntKind.u32.wrap (a1)) ≤ 2047)) rfl (by kernel_rfl) (by kernel_rfl) (by kernel_rfl) (fun hc => ?_) (fun hc => ?_)
  · replace hS := cond_t hc hS
    refine zlRun (n := 1) (j := 3) rfl (by kernel_rfl) ?_
    refine zlEnd (by kernel_rfl) ?_
    refine zkSeq ?_
    refine zrCondT (by kernel_rfl) ?_
    refine zrSeq ?_
    refine zrReg ?_
    refine zlRun (n := 3) (j := 3) rfl (by kernel_rfl) ?_
    refine zlOp (d := some 17) (op := (.cvI .u8 (.tmp 16))) (g := none) (v := (.d (.int .u8 ((u8 (Int.fdiv a1 (2 ^ 6))).toNat : Int)))) (ups := []) (j := 4) rfl (by kernel_rfl) (by kernel_rfl) (ev_cv (kk := .i32) (a := (Int.fdiv a1 (2 ^ 6))) (by kernel_rfl) (u8_wrap _)) ?_
    refine zlOp (d := some 18) (op := (.arI .or (.const (.int .u8 192)) (.tmp 17))) (g := none) (v := (.d (.int .u8 (((192 : UInt8) ||| (u8 (Int.fdiv a1 (2 ^ 6)))).toNat : Int)))) (ups := []) (j := 5) rfl (by kernel_rfl) (by kernel_rfl) (ev_arI (kk := .u8) (a := ((192 : UInt8).toNat : Int)) (c := ((u8 (Int.fdiv a1 (2 ^ 6))).toNat : Int)) (by kernel_rfl) (by kernel_rfl) (ar_or8 (192 : UInt8) (u8 (Int.fdiv a1 (2 ^ 6))))) ?_
    refine zlRun (n := 1) (j := 6) rfl (by kernel_rfl) ?_
    refine zlOp (d := some 20) (op := (.cvI .u8 (.tmp 19))) (g := none) (v := (.d (.int .u8 ((u8 a1).toNat : Int)))) (ups := []) (j := 7) rfl (by kernel_rfl) (by kernel_rfl) (ev_cv (kk := .i32) (a := a1) (by kernel_rfl) (u8_wrap _)) ?_
    refine zlOp (d := some 21) (op := (.arI .and (.tmp 20) (.const (.int .u8 63)))) (g := none) (v := (.d (.int .u8 (((u8 a1) &&& (63 : UInt8)).toNat : Int)))) (ups := []) (j := 8) rfl (by kernel_rfl) (by kernel_rfl) (ev_arI (kk := .u8) (a := ((u8 a1).toNat : Int)) (c := ((63 : UInt8).toNat : Int)) (by kernel_rfl) (by kernel_rfl) (ar_and8 (u8 a1) (63 : UInt8))) ?_
    refine zlOp (d := some 22) (op := (.arI .or (.const (.int .u8 128)) (.tmp 21))) (g := none) (v := (.d (.int .u8 (((128 : UInt8) ||| ((u8 a1) &&& (63 : UInt8))).toNat : Int)))) (ups := []) (j := 9) rfl (by kernel_rfl) (by kernel_rfl) (ev_arI (kk := .u8) (a := ((128 : UInt8).toNat : Int)) (c := (((u8 a1) &&& (63 : UInt8)).toNat : Int)) (by kernel_rfl) (by kernel_rfl) (ar_or8 (128 : UInt8) ((u8 a1) &&& (63 : UInt8)))) ?_
    refine zlRun (n := 1) (j := 10) rfl (by kernel_rfl) ?_
    refine bindE hS (fun z5 hz5 hS => ?_)
    refine zlOp (d := some 24) (op := (.app 5 1 1 (.tmp 14) (.tmp 23))) (g := none) (v := (.r (.msl 0 1 0 z5.length))) (ups := [(0, ⟨1, some (.own 5 1 (eU8.cells z5))⟩)]) (j := 11) rfl (by kernel_rfl) (by kernel_rfl) (ev_app eU8 (b := 0) (g := 0) (n := a2.length) (xs := a2) (ys := [((192 : UInt8) ||| (u8 (Int.fdiv a1 (2 ^ 6)))), ((128 : UInt8) ||| ((u8 a1) &&& (63 : UInt8)))]) ((congrArg (asL _) (by kernel_rfl : ρof _ (.tmp 23) = (.r (.msl 192 1 0 (([((192 : UInt8) ||| (u8 (Int.fdiv a1 (2 ^ 6)))), ((128 : UInt8) ||| ((u8 a1) &&& (63 : UInt8)))] : List UInt8).length))))).trans (as_whole eU8 (e := 5) (k := 1) (xs := [((192 : UInt8) ||| (u8 (Int.fdiv a1 (2 ^ 6)))), ((128 : UInt8) ||| ((u8 a1) &&& (63 : UInt8)))]) (by kernel_rfl) rfl rfl)) rfl (by kernel_rfl) rfl (by kernel_rfl) rfl hz5) ?_
    refine zlRun (n := 1) (j := 12) rfl (by kernel_rfl) ?_
    refine zlEnd (by kernel_rfl) ?_
    refine zkSeq ?_
    refine zrRet ?_
    refine zkBlkR ?_
    refine zkNil ?_
    exact endQ hS hQ (fRet ((congrArg (fun s => outR s 1 c95.res) (by kernel_rfl : finSt c95.fin _ = f95_fin z5)).trans (f95_out z5)))
  · replace hS := cond_f hc hS
    refine zlRun (n := 1) (j := 3) rfl (by kernel_rfl) ?_
    refine zlEnd (by kernel_rfl) ?_
    refine zkSeq ?_
    refine zrCondF (by kernel_rfl) ?_
    refine zrSeq ?_
    refine zrSeq ?_
    refine zrReg ?_
    refine zlRun (n := 1) (j := 1) rfl (by kernel_rfl) ?_
    refine zlBool (d := 27) (op := (.cmpI .lss (.tmp 26) (.const (.int .u32 55296)))) (g := none) (j := 2) (decide ((IntKind.u32.wrap (a1)) < 55296)) rfl (by kernel_rfl) (by kernel_rfl) (by kernel_rfl) (fun hc => ?_) (fun hc => ?_)
    · replace hS := cond_t hc hS
      refine zlRun (n := 1) (j := 3) rfl (by kernel_rfl) ?_
      refine zlEnd (by kernel_rfl) ?_
      refine zkSeq ?_
      refine zrCondT (by kernel_rfl) ?_
      refine zrSkip ?_
      refine zkSeq ?_
      exact f95_j0_ok hd a1 a2 hQ true hS (by kernel_rfl)
    · replace hS := cond_f hc hS
      refine zlRun (n := 1) (j := 3) rfl (by kernel_rfl) ?_
      refine zlEnd (by kernel_rfl) ?_
      refine zkSeq ?_
      refine zrCondF (by kernel_rfl) ?_
      refine zrReg ?_
      refine zlRun (n := 1) (j := 1) rfl (by kernel_rfl) ?_
      refine zlBool (d := 29) (op := (.cmpI .lss (.const (.int .u32 57343)) (.tmp 28))) (g := none) (j := 2) (decide (57343 < (IntKind.u32.wrap (a1)))) rfl (by kernel_rfl) (by kernel_rfl) (by kernel_rfl) (fun hc => ?_) (fun hc => ?_)
      · replace hS := cond_t hc hS
        refine zlRun (n := 2) (j := 4) rfl (by kernel_rfl) ?_
        refine zlBool (d := 32) (op := (.cmpI .leq (.tmp 31) (.const (.int .u32 65535)))) (g := (some (30, true))) (j := 5) (decide ((IntKind.u32.wrap (a1)) ≤ 65535)) rfl (by kernel_rfl) (by kernel_rfl) (by kernel_rfl) (fun hc => ?_) (fun hc => ?_)
        · replace hS := cond_t hc hS
          refine zlRun (n := 2) (j := 7) rfl (by kernel_rfl) ?_
          refine zlEnd (by kernel_rfl) ?_
          refine zkSeq ?_
          exact f95_j0_ok hd a1 a2 hQ true hS (by kernel_rfl)
        · replace hS := cond_f hc hS
          refine zlRun (n := 2) (j := 7) rfl (by kernel_rfl) ?_
          refine zlEnd (by kernel_rfl) ?_
          refine zkSeq ?_
          exact f95_j0_ok hd a1 a2 hQ false hS (by kernel_rfl)
      · replace hS := cond_f hc hS
        refine zlRun (n := 5) (j := 7) rfl (by kernel_rfl) ?_
        refine zlEnd (by kernel_rfl) ?_
        refine zkSeq ?_
        exact f95_j0_ok hd a1 a2 hQ false hS (by kernel_rfl)
/- unicode/utf8.AppendRune -/
def f72_fin (p2 : List UInt8) : St := ⟨(up (fun _ => .un) 4 (.r (.msl 0 0 0 p2.length))), (up (hB fun _ => 0) 0 ⟨0, some (.own 5 1 (eU8.cells p2))⟩)⟩
theorem f72_out (p2 : List UInt8) : outR (f72_fin p2) 1 c72.res = some ((.r (.msl 0 0 0 p2.length)), [(.own 5 1 (eU8.cells p2))]) := by
  kernel_rfl
def f72_Q (r : (List UInt8)) (e : PX) (st : St) : Prop := DoneF c72 1 ((.r (.msl 0 0 0 r.length)), [(.own 5 1 (eU8.cells r))]) e st
noncomputable def f72 (a1 : Int) (a2 : List UInt8) : Option ((List UInt8)) := (bif (decide ((IntKind.u32.wrap (a1)) ≤ 127)) then ((app? 1 a2 ([(u8 a1)] : List UInt8)).bind fun z3 => (some z3)) else ((f95 a1 a2).bind fun z4 => (some z4)))
theorem f72_ok (d : Nat) (hd : 2 ≤ d) (a1 : Int) (a2 : List UInt8) (r : (List UInt8)) (hS : f72 a1 a2 = some r) : lev codes baseL d 72 [(.r (.msl 0 0 0 a2.length)), (.d (.int .i32 a1))] [(.own 5 1 (eU8.cells a2))] = some ((.r (.msl 0 0 0 r.length)), [(.own 5 1 (eU8.cells r))]) := by
  refine lev_go codes72 rfl rfl (Nat.le_trans (Nat.le_of_ble_eq_true rfl) hd) fun Q hQ => ?_
  unfold f72 at hS
  show ZR _ Q c72_b [] _
  replace hQ : ∀ e st', f72_Q r e st' → Q e st' := hQ
  refine zrSeq ?_
  refine zrReg ?_
  refine zlRun (n := 1) (j := 1) rfl (by kernel_rfl) ?_
  refine zlEnd (by kernel_rfl) ?_
  refine zkSeq ?_
  refine zrSeq ?_
  refine zrSeq ?_
  refine zrReg ?_
  refine zlRun (n := 2) (j := 2) rfl (by kernel_rfl) ?_
  refine zlBool (d := 7) (op := (.cmpI .leq (.tmp 6) (.const (.int .u32 127)))) (g := none) (j := 3) (decide ((IntKind.u32.wrap (a1)) ≤ 127)) rfl (by kernel_rfl) (by kernel_rfl) (by kernel_rfl) (fun hc => ?_) (fun hc => ?_)
  · replace hS := cond_t hc hS
    refine zlEnd (by kernel_rfl) ?_
    refine zkSeq ?_
    refine zrCondT (by kernel_rfl) ?_
    refine zrSeq ?_
    refine zrReg ?_
    refine zlRun (n := 2) (j := 2) rfl (by kernel_rfl) ?_
    refine zlOp (d := some 10) (op := (.cvI .u8 (.tmp 9))) (g := none) (v := (.d (.int .u8 ((u8 a1).toNat : Int)))) (ups := []) (j := 3) rfl (by kernel_rfl) (by kernel_rfl) (ev_cv (kk := .i32) (a := a1) (by kernel_rfl) (u8_wrap _)) ?_
    refine zlRun (n := 1) (j := 4) rfl (by kernel_rfl) ?_
    refine bindE hS (fun z3 hz3 hS => ?_)
    refine zlOp (d := some 12) (op := (.app 5 1 1 (.tmp 8) (.tmp 11))) (g := none) (v := (.r (.msl 0 1 0 z3.length))) (ups := [(0, ⟨1, some (.own 5 1 (eU8.cells z3))⟩)]) (j := 5) rfl (by kernel_rfl) (by kernel_rfl) (ev_app eU8 (b := 0) (g := 0) (n := a2.length) (xs := a2) (ys := [(u8 a1)]) ((congrArg (asL _) (by kernel_rfl : ρof _ (.tmp 11) = (.r (.msl 96 1 0 (([(u8 a1)] : List UInt8).length))))).trans (as_whole eU8 (e := 5) (k := 1) (xs := [(u8 a1)]) (by kernel_rfl) rfl rfl)) rfl (by kernel_rfl) rfl (by kernel_rfl) rfl hz3) ?_
    refine zlRun (n := 1) (j := 6) rfl (by kernel_rfl) ?_
    refine zlEnd (by kernel_rfl) ?_
    refine zkSeq ?_
    refine zrRet ?_
    refine zkSeqR ?_
    refine zkNil ?_
    exact endQ hS hQ (fRet ((congrArg (fun s => outR s 1 c72.res) (by kernel_rfl : finSt c72.fin _ = f72_fin z3)).trans (f72_out z3)))
  · replace hS := cond_f hc hS
    refine zlEnd (by kernel_rfl) ?_
    refine zkSeq ?_
    refine zrCondF (by kernel_rfl) ?_
    refine zrSkip ?_
    refine zkSeq ?_
    refine zrSeq ?_
    refine zrReg ?_
    refine zlRun (n := 2) (j := 2) rfl (by kernel_rfl) ?_
    refine bindE hS (fun z4 hz4 hS => ?_)
    refine zlOp (d := some 15) (op := (.callr 95 [(.tmp 13), (.tmp 14)])) (g := none) (v := (.r (.msl 0 1 0 z4.length))) (ups := [(0, ⟨1, some (.own 5 1 (eU8.cells z4))⟩)]) (j := 3) rfl (by kernel_rfl) (by kernel_rfl) (ev_callr (args := [(.r (.msl 0 0 0 a2.length)), (.d (.int .i32 a1))]) (ids := [0]) (bs := [(.own 5 1 (eU8.cells a2))]) (l := [(.r (.msl 0 0 0 a2.length)), (.d (.int .i32 a1))]) (bt := [(.own 5 1 (eU8.cells a2))]) (r := (.r (.msl 0 0 0 z4.length))) (bs' := [(.own 5 1 (eU8.cells z4))]) (by kernel_rfl) (by kernel_rfl) (by kernel_rfl) (by kernel_rfl) (by kernel_rfl) (f95_ok (d - 1) (dpt hd rfl) a1 a2 z4 hz4) (by kernel_rfl) (by kernel_rfl)) ?_
    refine zlRun (n := 1) (j := 4) rfl (by kernel_rfl) ?_
    refine zlEnd (by kernel_rfl) ?_
    refine zkSeq ?_
    refine zrRet ?_
    refine zkNil ?_
    exact endQ hS hQ (fRet ((congrArg (fun s => outR s 1 c72.res) (by kernel_rfl : finSt c72.fin _ = f72_fin z4)).trans (f72_out z4)))
/- farwriter/utf.Encode -/
def f48_fin (p277 : List UInt8) : St := ⟨(up (fun _ => .un) 2 (.d (.str p277))), (hB fun _ => 0)⟩
theorem f48_out (p277 : List UInt8) : outR (f48_fin p277) 0 c48.res = some ((.d (.str p277)), []) := by
  kernel_rfl
def f48_Q (r : (List UInt8)) (e : PX) (st : St) : Prop := DoneF c48 0 ((.d (.str r)), []) e st
def f48_l0_J (a1 : List Int) (x : (List UInt8) × Int) : St := ⟨(up (up (up (up (fun _ => .un) 8 (.d (.int .i64 x.2))) 7 (.d (.int .i64 (a1.length : Int)))) 6 (.d (.sl a1.length ((eInt .i64).cells a1)))) 3 (.r (.msl 32 0 0 x.1.length))), (up (hB fun _ => 0) 32 ⟨0, some (.own 5 1 (eU8.cells x.1))⟩)⟩
def f48_l0_H (a1 : List Int) (x : (List UInt8) × Int) (st : St) : Prop := keepSt [3, 6, 7, 8] [(32, .id 32)] [] st = f48_l0_J a1 x
def f48_l0_e0_J (a1 : List Int) (p276 : List UInt8) : St := ⟨(up (fun _ => .un) 3 (.r (.msl 32 0 0 p276.length))), (up (hB fun _ => 0) 32 ⟨0, some (.own 5 1 (eU8.cells p276))⟩)⟩
def f48_l0_X (a1 : List Int) (z : ((List UInt8))) (e : PX) (st : St) : Prop := e = .exit 0 ∧ st = f48_l0_e0_J a1 z
def f48_l0_j2_J (a1 : List Int) (p284 : List UInt8) (p285 : Int) : St := ⟨(up (up (up (up (fun _ => .un) 8 (.d (.int .i64 p285))) 7 (.d (.int .i64 (a1.length : Int)))) 6 (.d (.sl a1.length ((eInt .i64).cells a1)))) 3 (.r (.msl 32 0 0 p284.length))), (up (hB fun _ => 0) 32 ⟨0, some (.own 5 1 (eU8.cells p284))⟩)⟩
noncomputable def f48_l0_j2 (a1 : List Int) (p284 : List UInt8) (p285 : Int) : Option (((List UInt8) × Int) ⊕ (((List UInt8)))) := ((idx a1 p285).bind fun z16 => (bif (decide (z16 < 0)) then ((f72 65533 p284).bind fun z17 => (some (.inl (z17, (IntKind.i64.wrap (p285 + 1)))))) else (bif (decide (1114111 < z16)) then ((f72 65533 p284).bind fun z18 => (some (.inl (z18, (IntKind.i64.wrap (p285 + 1)))))) else (bif (decide (55296 ≤ z16)) then (bif (decide (z16 ≤ 57343)) then ((f72 65533 p284).bind fun z19 => (some (.inl (z19, (IntKind.i64.wrap (p285 + 1)))))) else ((f72 (IntKind.i32.wrap (z16)) p284).bind fun z20 => (some (.inl (z20, (IntKind.i64.wrap (p285 + 1))))))) else ((f72 (IntKind.i32.wrap (z16)) p284).bind fun z21 => (some (.inl (z21, (IntKind.i64.wrap (p285 + 1))))))))))
theorem f48_l0_j2_ok {d : Nat} (hd : 3 ≤ d) (a1 : List Int) {r : ((List UInt8) × Int) ⊕ (((List UInt8)))} {Q : PX → St → Prop} (hQ : ∀ e st', finL (f48_l0_H a1) (f48_l0_X a1) r e st' → Q e st') (p284 : List UInt8) (p285 : Int) (hS : f48_l0_j2 a1 p284 p285 = some r) {st : St} (he : keepSt [3, 6, 7, 8] [(32, .id 32)] [] st = f48_l0_j2_J a1 p284 p285) : ZR (lev codes baseL (d - 1)) Q c48_1 [] st := by
  refine zrKeep he ?_
  unfold f48_l0_j2 at hS
  refine zrSeq ?_
  refine zrBlk ?_
  refine zrSeq ?_
  refine zrReg ?_
  refine bindE hS (fun z16 hz16 hS => ?_)
  refine zlOp (d := some 10) (op := (.ixS 3 1 (.tmp 6) (.tmp 8))) (g := none) (v := (.rptr ((eInt .i64).enc z16 ++ ((eInt .i64).cells (a1.drop ((p285 : Int).toNat + 1)))))) (ups := []) (j := 1) rfl (by kernel_rfl) (by kernel_rfl) (ev_ixS (eInt .i64) (kk := .i64) (xs := a1) (j := p285) (by kernel_rfl) (by kernel_rfl) hz16 rfl (by intro h; cases h)) ?_
  refine zlRun (n := 2) (j := 3) rfl (by kernel_rfl) ?_
  refine zlEnd (by kernel_rfl) ?_
  refine zkSeq ?_
  refine zrSeq ?_
  refine zrSeq ?_
  refine zrReg ?_
  refine zlRun (n := 1) (j := 1) rfl (by kernel_rfl) ?_
  refine zlBool (d := 13) (op := (.cmpI .lss (.tmp 12) (.const (.int .i64 0)))) (g := none) (j := 2) (decide (z16 < 0)) rfl (by kernel_rfl) (by kernel_rfl) (by kernel_rfl) (fun hc => ?_) (fun hc => ?_)
  · replace hS := cond_t hc hS
    refine zlRun (n := 12) (j := 14) rfl (by kernel_rfl) ?_
    refine zlEnd (by kernel_rfl) ?_
    refine zkSeq ?_
    refine zrCondT (by kernel_rfl) ?_
    refine zrReg ?_
    refine zlRun (n := 1) (j := 1) rfl (by kernel_rfl) ?_
    refine zlEnd (by kernel_rfl) ?_
    refine zkSeq ?_
    refine zrReg ?_
    refine zlRun (n := 3) (j := 3) rfl (by kernel_rfl) ?_
    refine bindE hS (fun z17 hz17 hS => ?_)
    refine zlOp (d := some 29) (op := (.callr 72 [(.tmp 26), (.tmp 28)])) (g := none) (v := (.r (.msl 32 1 0 z17.length))) (ups := [(32, ⟨1, some (.own 5 1 (eU8.cells z17))⟩)]) (j := 4) rfl (by kernel_rfl) (by kernel_rfl) (ev_callr (args := [(.r (.msl 32 0 0 p284.length)), (.d (.int .i32 65533))]) (ids := [32]) (bs := [(.own 5 1 (eU8.cells p284))]) (l := [(.r (.msl 0 0 0 p284.length)), (.d (.int .i32 65533))]) (bt := [(.own 5 1 (eU8.cells p284))]) (r := (.r (.msl 0 0 0 z17.length))) (bs' := [(.own 5 1 (eU8.cells z17))]) (by kernel_rfl) (by kernel_rfl) (by kernel_rfl) (by kernel_rfl) (by kernel_rfl) (f72_ok (d - 1) (dpt hd rfl) 65533 p284 z17 hz17) (by kernel_rfl) (by kernel_rfl)) ?_
    refine zlRun (n := 1) (j := 5) rfl (by kernel_rfl) ?_
    refine zlEnd (by kernel_rfl) ?_
    refine zkBlk ?_
    refine zkSeq ?_
    refine zrReg ?_
    refine zlRun (n := 2) (j := 2) rfl (by kernel_rfl) ?_
    refine zlEnd (by kernel_rfl) ?_
    refine zkNil ?_
    exact endQ hS hQ (finL_n (by show keepSt _ _ _ _ = _; kernel_rfl))
  · replace hS := cond_f hc hS
    refine zlRun (n := 2) (j := 4) rfl (by kernel_rfl) ?_
    refine zlBool (d := 16) (op := (.cmpI .gtr (.tmp 15) (.const (.int .i64 1114111)))) (g := (some (14, false))) (j := 5) (decide (1114111 < z16)) rfl (by kernel_rfl) (by kernel_rfl) (by kernel_rfl) (fun hc => ?_) (fun hc => ?_)
    · replace hS := cond_t hc hS
      refine zlRun (n := 9) (j := 14) rfl (by kernel_rfl) ?_
      refine zlEnd (by kernel_rfl) ?_
      refine zkSeq ?_
      refine zrCondT (by kernel_rfl) ?_
      refine zrReg ?_
      refine zlRun (n := 1) (j := 1) rfl (by kernel_rfl) ?_
      refine zlEnd (by kernel_rfl) ?_
      refine zkSeq ?_
      refine zrReg ?_
      refine zlRun (n := 3) (j := 3) rfl (by kernel_rfl) ?_
      refine bindE hS (fun z18 hz18 hS => ?_)
      refine zlOp (d := some 29) (op := (.callr 72 [(.tmp 26), (.tmp 28)])) (g := none) (v := (.r (.msl 32 1 0 z18.length))) (ups := [(32, ⟨1, some (.own 5 1 (eU8.cells z18))⟩)]) (j := 4) rfl (by kernel_rfl) (by kernel_rfl) (ev_callr (args := [(.r (.msl 32 0 0 p284.length)), (.d (.int .i32 65533))]) (ids := [32]) (bs := [(.own 5 1 (eU8.cells p284))]) (l := [(.r (.msl 0 0 0 p284.length)), (.d (.int .i32 65533))]) (bt := [(.own 5 1 (eU8.cells p284))]) (r := (.r (.msl 0 0 0 z18.length))) (bs' := [(.own 5 1 (eU8.cells z18))]) (by kernel_rfl) (by kernel_rfl) (by kernel_rfl) (by kernel_rfl) (by kernel_rfl) (f72_ok (d - 1) (dpt hd rfl) 65533 p284 z18 hz18) (by kernel_rfl) (by kernel_rfl)) ?_
      refine zlRun (n := 1) (j := 5) rfl (by kernel_rfl) ?_
      refine zlEnd (by kernel_rfl) ?_
      refine zkBlk ?_
      refine zkSeq ?_
      refine zrReg ?_
      refine zlRun (n := 2) (j := 2) rfl (by kernel_rfl) ?_
      refine zlEnd (by kernel_rfl) ?_
      refine zkNil ?_
      exact endQ hS hQ (finL_n (by show keepSt _ _ _ _ = _; kernel_rfl))
    · replace hS := cond_f hc hS
      refine zlRun (n := 3) (j := 8) rfl (by kernel_rfl) ?_
      refine zlBool (d := 20) (op := (.cmpI .geq (.tmp 19) (.const (.int .i64 55296)))) (g := (some (18, false))) (j := 9) (decide (55296 ≤ z16)) rfl (by kernel_rfl) (by kernel_rfl) (by kernel_rfl) (fun hc => ?_) (fun hc => ?_)
      · replace hS := cond_t hc hS
        refine zlRun (n := 2) (j := 11) rfl (by kernel_rfl) ?_
        refine zlBool (d := 23) (op := (.cmpI .leq (.tmp 22) (.const (.int .i64 57343)))) (g := (some (21, true))) (j := 12) (decide (z16 ≤ 57343)) rfl (by kernel_rfl) (by kernel_rfl) (by kernel_rfl) (fun hc => ?_) (fun hc => ?_)
        · replace hS := cond_t hc hS
          refine zlRun (n := 2) (j := 14) rfl (by kernel_rfl) ?_
          refine zlEnd (by kernel_rfl) ?_
          refine zkSeq ?_
          refine zrCondT (by kernel_rfl) ?_
          refine zrReg ?_
          refine zlRun (n := 1) (j := 1) rfl (by kernel_rfl) ?_
          refine zlEnd (by kernel_rfl) ?_
          refine zkSeq ?_
          refine zrReg ?_
          refine zlRun (n := 3) (j := 3) rfl (by kernel_rfl) ?_
          refine bindE hS (fun z19 hz19 hS => ?_)
          refine zlOp (d := some 29) (op := (.callr 72 [(.tmp 26), (.tmp 28)])) (g := none) (v := (.r (.msl 32 1 0 z19.length))) (ups := [(32, ⟨1, some (.own 5 1 (eU8.cells z19))⟩)]) (j := 4) rfl (by kernel_rfl) (by kernel_rfl) (ev_callr (args := [(.r (.msl 32 0 0 p284.length)), (.d (.int .i32 65533))]) (ids := [32]) (bs := [(.own 5 1 (eU8.cells p284))]) (l := [(.r (.msl 0 0 0 p284.length)), (.d (.int .i32 65533))]) (bt := [(.own 5 1 (eU8.cells p284))]) (r := (.r (.msl 0 0 0 z19.length))) (bs' := [(.own 5 1 (eU8.cells z19))]) (by kernel_rfl) (by kernel_rfl) (by kernel_rfl) (by kernel_rfl) (by kernel_rfl) (f72_ok (d - 1) (dpt hd rfl) 65533 p284 z19 hz19) (by kernel_rfl) (by kernel_rfl)) ?_
          refine zlRun (n := 1) (j := 5) rfl (by kernel_rfl) ?_
          refine zlEnd (by kernel_rfl) ?_
          refine zkBlk ?_
          refine zkSeq ?_
          refine zrReg ?_
          refine zlRun (n := 2) (j := 2) rfl (by kernel_rfl) ?_
          refine zlEnd (by kernel_rfl) ?_
          refine zkNil ?_
          exact endQ hS hQ (finL_n (by show keepSt _ _ _ _ = _; kernel_rfl))
        · replace hS := cond_f hc hS
          refine zlRun (n := 2) (j := 14) rfl (by kernel_rfl) ?_
          refine zlEnd (by kernel_rfl) ?_
          refine zkSeq ?_
          refine zrCondF (by kernel_rfl) ?_
          refine zrSkip ?_
          refine zkSeq ?_
          refine zrReg ?_
          refine zlRun (n := 3) (j := 3) rfl (by kernel_rfl) ?_
          refine bindE hS (fun z20 hz20 hS => ?_)
          refine zlOp (d := some 29) (op := (.callr 72 [(.tmp 26), (.tmp 28)])) (g := none) (v := (.r (.msl 32 1 0 z20.length))) (ups := [(32, ⟨1, some (.own 5 1 (eU8.cells z20))⟩)]) (j := 4) rfl (by kernel_rfl) (by kernel_rfl) (ev_callr (args := [(.r (.msl 32 0 0 p284.length)), (.d (.int .i32 (IntKind.i32.wrap (z16))))]) (ids := [32]) (bs := [(.own 5 1 (eU8.cells p284))]) (l := [(.r (.msl 0 0 0 p284.length)), (.d (.int .i32 (IntKind.i32.wrap (z16))))]) (bt := [(.own 5 1 (eU8.cells p284))]) (r := (.r (.msl 0 0 0 z20.length))) (bs' := [(.own 5 1 (eU8.cells z20))]) (by kernel_rfl) (by kernel_rfl) (by kernel_rfl) (by kernel_rfl) (by kernel_rfl) (f72_ok (d - 1) (dpt hd rfl) (IntKind.i32.wrap (z16)) p284 z20 hz20) (by kernel_rfl) (by kernel_rfl)) ?_
          refine zlRun (n := 1) (j := 5) rfl (by kernel_rfl) ?_
          refine zlEnd (by kernel_rfl) ?_
          refine zkBlk ?_
          refine zkSeq ?_
          refine zrReg ?_
          refine zlRun (n := 2) (j := 2) rfl (by kernel_rfl) ?_
          refine zlEnd (by kernel_rfl) ?_
          refine zkNil ?_
          exact endQ hS hQ (finL_n (by show keepSt _ _ _ _ = _; kernel_rfl))
      · replace hS := cond_f hc hS
        refine zlRun (n := 5) (j := 14) rfl (by kernel_rfl) ?_
        refine zlEnd (by kernel_rfl) ?_
        refine zkSeq ?_
        refine zrCondF (by kernel_rfl) ?_
        refine zrSkip ?_
        refine zkSeq ?_
        refine zrReg ?_
        refine zlRun (n := 3) (j := 3) rfl (by kernel_rfl) ?_
        refine bindE hS (fun z21 hz21 hS => ?_)
        refine zlOp (d := some 29) (op := (.callr 72 [(.tmp 26), (.tmp 28)])) (g := none) (v := (.r (.msl 32 1 0 z21.length))) (ups := [(32, ⟨1, some (.own 5 1 (eU8.cells z21))⟩)]) (j := 4) rfl (by kernel_rfl) (by kernel_rfl) (ev_callr (args := [(.r (.msl 32 0 0 p284.length)), (.d (.int .i32 (IntKind.i32.wrap (z16))))]) (ids := [32]) (bs := [(.own 5 1 (eU8.cells p284))]) (l := [(.r (.msl 0 0 0 p284.length)), (.d (.int .i32 (IntKind.i32.wrap (z16))))]) (bt := [(.own 5 1 (eU8.cells p284))]) (r := (.r (.msl 0 0 0 z21.length))) (bs' := [(.own 5 1 (eU8.cells z21))]) (by kernel_rfl) (by kernel_rfl) (by kernel_rfl) (by kernel_rfl) (by kernel_rfl) (f72_ok (d - 1) (dpt hd rfl) (IntKind.i32.wrap (z16)) p284 z21 hz21) (by kernel_rfl) (by kernel_rfl)) ?_
        refine zlRun (n := 1) (j := 5) rfl (by kernel_rfl) ?_
        refine zlEnd (by kernel_rfl) ?_
        refine zkBlk ?_
        refine zkSeq ?_
        refine zrReg ?_
        refine zlRun (n := 2) (j := 2) rfl (by kernel_rfl) ?_
        refine zlEnd (by kernel_rfl) ?_
        refine zkNil ?_
        exact endQ hS hQ (finL_n (by show keepSt _ _ _ _ = _; kernel_rfl))
def f48_l0_j1_J (a1 : List Int) (p281 : List UInt8) (p282 : Int) (p283 : Bool) : St := ⟨(up (up (up (up (up (fun _ => .un) 9 (.d (.bool p283))) 8 (.d (.int .i64 p282))) 7 (.d (.int .i64 (a1.length : Int)))) 6 (.d (.sl a1.length ((eInt .i64).cells a1)))) 3 (.r (.msl 32 0 0 p281.length))), (up (hB fun _ => 0) 32 ⟨0, some (.own 5 1 (eU8.cells p281))⟩)⟩
noncomputable def f48_l0_j1 (a1 : List Int) (p281 : List UInt8) (p282 : Int) (p283 : Bool) : Option (((List UInt8) × Int) ⊕ (((List UInt8)))) := (bif p283 then (f48_l0_j2 a1 p281 p282) else (some (.inr p281)))
theorem f48_l0_j1_ok {d : Nat} (hd : 3 ≤ d) (a1 : List Int) {r : ((List UInt8) × Int) ⊕ (((List UInt8)))} {Q : PX → St → Prop} (hQ : ∀ e st', finL (f48_l0_H a1) (f48_l0_X a1) r e st' → Q e st') (p281 : List UInt8) (p282 : Int) (p283 : Bool) (hS : f48_l0_j1 a1 p281 p282 p283 = some r) {st : St} (he : keepSt [3, 6, 7, 8, 9] [(32, .id 32)] [] st = f48_l0_j1_J a1 p281 p282 p283) : ZR (lev codes baseL (d - 1)) Q c48_2 [] st := by
  refine zrKeep he ?_
  unfold f48_l0_j1 at hS
  refine zrSeq ?_
  refine zrSplit 9 p283 (by kernel_rfl) (fun hc => ?_) (fun hc => ?_)
  · replace hS := cond_t hc hS
    refine zrCondT (by kernel_rfl) ?_
    refine zrSkip ?_
    refine zkSeq ?_
    exact f48_l0_j2_ok hd a1 hQ p281 p282 hS (by kernel_rfl)
  · replace hS := cond_f hc hS
    refine zrCondF (by kernel_rfl) ?_
    refine zrKeep (J := f48_l0_e0_J a1 p281) (by kernel_rfl) ?_
    refine zrExit ?_
    refine zkSeqX ?_
    refine zkNil ?_
    exact endQ hS hQ (finL_x (by intro h; cases h) (by show _ = _ ∧ _ = _; exact ⟨rfl, rfl⟩))
noncomputable def f48_l0 (a1 : List Int) (x : (List UInt8) × Int) : Option (((List UInt8) × Int) ⊕ (((List UInt8)))) := (bif (decide (x.2 < (a1.length : Int))) then (f48_l0_j1 a1 x.1 x.2 true) else (f48_l0_j1 a1 x.1 x.2 false))
theorem f48_l0_ok {d : Nat} (hd : 3 ≤ d) (a1 : List Int) {r : ((List UInt8) × Int) ⊕ (((List UInt8)))} {Q : PX → St → Prop} (hQ : ∀ e st', finL (f48_l0_H a1) (f48_l0_X a1) r e st' → Q e st') {x : (List UInt8) × Int} (hS : f48_l0 a1 x = some r) {st : St} (he : f48_l0_H a1 x st) : ZR (lev codes baseL (d - 1)) Q c48_3 [] st := by
  refine zrKeep he ?_
  unfold f48_l0 at hS
  refine zrSeq ?_
  refine zrReg ?_
  refine zlBool (d := 9) (op := (.cmpI .lss (.tmp 8) (.tmp 7))) (g := none) (j := 1) (decide (x.2 < (a1.length : Int))) rfl (by kernel_rfl) (by kernel_rfl) (by kernel_rfl) (fun hc => ?_) (fun hc => ?_)
  · replace hS := cond_t hc hS
    refine zlEnd (by kernel_rfl) ?_
    refine zkSeq ?_
    exact f48_l0_j1_ok hd a1 hQ x.1 x.2 true hS (by kernel_rfl)
  · replace hS := cond_f hc hS
    refine zlEnd (by kernel_rfl) ?_
    refine zkSeq ?_
    exact f48_l0_j1_ok hd a1 hQ x.1 x.2 false hS (by kernel_rfl)
noncomputable def f48 (a1 : List Int) : Option ((List UInt8)) := ((loopO (f48_l0 a1) ([], 0)).bind fun z22 => (some z22))
theorem f48_ok (d : Nat) (hd : 3 ≤ d) (a1 : List Int) (r : (List UInt8)) (hS : f48 a1 = some r) : lev codes baseL d 48 [(.d (.sl a1.length ((eInt .i64).cells a1)))] [] = some ((.d (.str r)), []) := by
  refine lev_go codes48 rfl rfl (Nat.le_trans (Nat.le_of_ble_eq_true rfl) hd) fun Q hQ => ?_
  unfold f48 at hS
  show ZR _ Q c48_b [] _
  replace hQ : ∀ e st', f48_Q r e st' → Q e st' := hQ
  refine zrSeq ?_
  refine zrReg ?_
  refine zlRun (n := 1) (j := 1) rfl (by kernel_rfl) ?_
  refine zlEnd (by kernel_rfl) ?_
  refine zkSeq ?_
  refine zrSeq ?_
  refine zrReg ?_
  refine zlRun (n := 1) (j := 1) rfl (by kernel_rfl) ?_
  refine zlEnd (by kernel_rfl) ?_
  refine zkSeq ?_
  refine zrSeq ?_
  refine zrSeq ?_
  refine zrReg ?_
  refine zlRun (n := 3) (j := 3) rfl (by kernel_rfl) ?_
  refine zlEnd (by kernel_rfl) ?_
  refine zkSeq ?_
  refine zrBlk ?_
  refine bindE hS (fun z22 hz22 hS => ?_)
  refine zrLoop (f48_l0_H a1) (f48_l0_X a1) (fun x st r Q h0 hS hQ => f48_l0_ok hd a1 hQ hS h0) (x := ([], 0)) (z := z22) (by show keepSt _ _ _ _ = _; kernel_rfl) hz22 ?_
  intro e st' _ hX
  obtain ⟨rfl, rfl⟩ : _ ∧ _ := hX
  refine zkBlkX ?_
  refine zkSeq ?_
  refine zrSeq ?_
  refine zrReg ?_
  refine zlRun (n := 1) (j := 1) rfl (by kernel_rfl) ?_
  refine zlOp (d := some 32) (op := (.cvBS (.tmp 31))) (g := none) (v := (.d (.str z22))) (ups := []) (j := 2) rfl (by kernel_rfl) (by kernel_rfl) (ev_cvBS (s := z22) ((congrArg (asL _) (by kernel_rfl : ρof _ (.tmp 31) = (.r (.msl 32 0 0 z22.length)))).trans (as_whole eU8 (e := 5) (k := 1) (xs := z22) (by kernel_rfl) rfl rfl)) rfl) ?_
  refine zlRun (n := 1) (j := 3) rfl (by kernel_rfl) ?_
  refine zlEnd (by kernel_rfl) ?_
  refine zkSeq ?_
  refine zrRet ?_
  refine zkNil ?_
  exact endQ hS hQ (fRet ((congrArg (fun s => outR s 0 c48.res) (by kernel_rfl : finSt c48.fin _ = f48_fin z22)).trans (f48_out z22)))
/- farwriter/press.character -/
def f69_fin (p13 : List UInt8) : St := ⟨(up (fun _ => .un) 4 (.d (.str p13))), (hB fun _ => 0)⟩
theorem f69_out (p13 : List UInt8) : outR (f69_fin p13) 0 c69.res = some ((.d (.str p13)), []) := by
  kernel_rfl
def f69_Q (r : (List UInt8)) (e : PX) (st : St) : Prop := DoneF c69 0 ((.d (.str r)), []) e st
def f69_j0_J (a1 : Int) (a2 : Int) : St := ⟨(up (fun _ => .un) 0 (.d (.int .i64 a1))), (hB fun _ => 0)⟩
noncomputable def f69_j0 (a1 : Int) (a2 : Int) : Option ((List UInt8)) := ((f48 [(bitI .and .i64 a1 31)]).bind fun z2 => (some z2))
theorem f69_j0_ok {d : Nat} (hd : 4 ≤ d) (a1 : Int) (a2 : Int) {r : (List UInt8)} {Q : PX → St → Prop} (hQ : ∀ e st', f69_Q r e st' → Q e st')  (hS : f69_j0 a1 a2 = some r) {st : St} (he : keepSt [0] [] [] st = f69_j0_J a1 a2) : ZR (lev codes baseL (d - 1)) Q c69_1 [.blk 0, .seq c69_2] st := by
  refine zrKeep he ?_
  unfold f69_j0 at hS
  refine zrReg ?_
  refine zlRun (n := 3) (j := 3) rfl (by kernel_rfl) ?_
  refine zlEnd (by kernel_rfl) ?_
  refine zkBlk ?_
  refine zkSeq ?_
  refine zrSeq ?_
  refine zrReg ?_
  refine zlRun (n := 2) (j := 2) rfl (by kernel_rfl) ?_
  refine bindE hS (fun z2 hz2 hS => ?_)
  refine zlOp (d := some 33) (op := (.call 48 [(.tmp 32)])) (g := none) (v := (.d (.str z2))) (ups := []) (j := 3) rfl (by kernel_rfl) (by kernel_rfl) (ev_call (args := [(.r (.msl 264 1 0 (([(bitI .and .i64 a1 31)] : List Int).length)))]) (l := [(.d (.sl ([(bitI .and .i64 a1 31)] : List Int).length ((eInt .i64).cells ([(bitI .and .i64 a1 31)]))))]) (r := (.d (.str z2))) (by kernel_rfl) (l_cons (l_own (eInt .i64) (e := 3) (k := 1) (xs := [(bitI .and .i64 a1 31)]) (by kernel_rfl) rfl rfl) l_nil) (f48_ok (d - 1) (dpt hd rfl) [(bitI .and .i64 a1 31)] z2 hz2) (by kernel_rfl) (by kernel_rfl) (by kernel_rfl)) ?_
  refine zlRun (n := 1) (j := 4) rfl (by kernel_rfl) ?_
  refine zlEnd (by kernel_rfl) ?_
  refine zkSeq ?_
  refine zrRet ?_
  refine zkNil ?_
  exact endQ hS hQ (fRet ((congrArg (fun s => outR s 0 c69.res) (by kernel_rfl : finSt c69.fin _ = f69_fin z2)).trans (f69_out z2)))
def f69_j1_J (a1 : Int) (a2 : Int) : St := ⟨(up (fun _ => .un) 0 (.d (.int .i64 a1))), (hB fun _ => 0)⟩
noncomputable def f69_j1 (a1 : Int) (a2 : Int) : Option ((List UInt8)) := (bif (decide (a1 = 32)) then ((f48 [0]).bind fun z3 => (some z3)) else (bif (decide (a1 = 63)) then ((f48 [127]).bind fun z4 => (some z4)) else ((f48 [a1]).bind fun z5 => (some z5))))
theorem f69_j1_ok {d : Nat} (hd : 4 ≤ d) (a1 : Int) (a2 : Int) {r : (List UInt8)} {Q : PX → St → Prop} (hQ : ∀ e st', f69_Q r e st' → Q e st')  (hS : f69_j1 a1 a2 = some r) {st : St} (he : keepSt [0] [] [] st = f69_j1_J a1 a2) : ZR (lev codes baseL (d - 1)) Q c69_3 [.blk 0, .seq c69_2] st := by
  refine zrKeep he ?_
  unfold f69_j1 at hS
  refine zrSeq ?_
  refine zrReg ?_
  refine zlRun (n := 1) (j := 1) rfl (by kernel_rfl) ?_
  refine zlBool (d := 27) (op := (.cmpI .eql (.tmp 26) (.const (.int .i64 32)))) (g := none) (j := 2) (decide (a1 = 32)) rfl (by kernel_rfl) (by kernel_rfl) (by kernel_rfl) (fun hc => ?_) (fun hc => ?_)
  · replace hS := cond_t hc hS
    refine zlRun (n := 1) (j := 3) rfl (by kernel_rfl) ?_
    refine zlEnd (by kernel_rfl) ?_
    refine zkSeq ?_
    refine zrCondT (by kernel_rfl) ?_
    refine zrReg ?_
    refine zlRun (n := 1) (j := 1) rfl (by kernel_rfl) ?_
    refine zlEnd (by kernel_rfl) ?_
    refine zkBlk ?_
    refine zkSeq ?_
    refine zrSeq ?_
    refine zrReg ?_
    refine zlRun (n := 2) (j := 2) rfl (by kernel_rfl) ?_
    refine bindE hS (fun z3 hz3 hS => ?_)
    refine zlOp (d := some 33) (op := (.call 48 [(.tmp 32)])) (g := none) (v := (.d (.str z3))) (ups := []) (j := 3) rfl (by kernel_rfl) (by kernel_rfl) (ev_call (args := [(.r (.msl 264 1 0 (([0] : List Int).length)))]) (l := [(.d (.sl ([0] : List Int).length ((eInt .i64).cells ([0]))))]) (r := (.d (.str z3))) (by kernel_rfl) (l_cons (l_own (eInt .i64) (e := 3) (k := 1) (xs := [0]) (by kernel_rfl) rfl rfl) l_nil) (f48_ok (d - 1) (dpt hd rfl) [0] z3 hz3) (by kernel_rfl) (by kernel_rfl) (by kernel_rfl)) ?_
    refine zlRun (n := 1) (j := 4) rfl (by kernel_rfl) ?_
    refine zlEnd (by kernel_rfl) ?_
    refine zkSeq ?_
    refine zrRet ?_
    refine zkNil ?_
    exact endQ hS hQ (fRet ((congrArg (fun s => outR s 0 c69.res) (by kernel_rfl : finSt c69.fin _ = f69_fin z3)).trans (f69_out z3)))
  · replace hS := cond_f hc hS
    refine zlRun (n := 1) (j := 3) rfl (by kernel_rfl) ?_
    refine zlEnd (by kernel_rfl) ?_
    refine zkSeq ?_
    refine zrCondF (by kernel_rfl) ?_
    refine zrSeq ?_
    refine zrReg ?_
    refine zlRun (n := 1) (j := 1) rfl (by kernel_rfl) ?_
    refine zlBool (d := 30) (op := (.cmpI .eql (.tmp 29) (.const (.int .i64 63)))) (g := none) (j := 2) (decide (a1 = 63)) rfl (by kernel_rfl) (by kernel_rfl) (by kernel_rfl) (fun hc => ?_) (fun hc => ?_)
    · replace hS := cond_t hc hS
      refine zlRun (n := 1) (j := 3) rfl (by kernel_rfl) ?_
      refine zlEnd (by kernel_rfl) ?_
      refine zkSeq ?_
      refine zrCondT (by kernel_rfl) ?_
      refine zrReg ?_
      refine zlRun (n := 1) (j := 1) rfl (by kernel_rfl) ?_
      refine zlEnd (by kernel_rfl) ?_
      refine zkBlk ?_
      refine zkSeq ?_
      refine zrSeq ?_
      refine zrReg ?_
      refine zlRun (n := 2) (j := 2) rfl (by kernel_rfl) ?_
      refine bindE hS (fun z4 hz4 hS => ?_)
      refine zlOp (d := some 33) (op := (.call 48 [(.tmp 32)])) (g := none) (v := (.d (.str z4))) (ups := []) (j := 3) rfl (by kernel_rfl) (by kernel_rfl) (ev_call (args := [(.r (.msl 264 1 0 (([127] : List Int).length)))]) (l := [(.d (.sl ([127] : List Int).length ((eInt .i64).cells ([127]))))]) (r := (.d (.str z4))) (by kernel_rfl) (l_cons (l_own (eInt .i64) (e := 3) (k := 1) (xs := [127]) (by kernel_rfl) rfl rfl) l_nil) (f48_ok (d - 1) (dpt hd rfl) [127] z4 hz4) (by kernel_rfl) (by kernel_rfl) (by kernel_rfl)) ?_
      refine zlRun (n := 1) (j := 4) rfl (by kernel_rfl) ?_
      refine zlEnd (by kernel_rfl) ?_
      refine zkSeq ?_
      refine zrRet ?_
      refine zkNil ?_
      exact endQ hS hQ (fRet ((congrArg (fun s => outR s 0 c69.res) (by kernel_rfl : finSt c69.fin _ = f69_fin z4)).trans (f69_out z4)))
    · replace hS := cond_f hc hS
      refine zlRun (n := 1) (j := 3) rfl (by kernel_rfl) ?_
      refine zlEnd (by kernel_rfl) ?_
      refine zkSeq ?_
      refine zrCondF (by kernel_rfl) ?_
      refine zrSkip ?_
      refine zkBlk ?_
      refine zkSeq ?_
      refine zrSeq ?_
      refine zrReg ?_
      refine zlRun (n := 2) (j := 2) rfl (by kernel_rfl) ?_
      refine bindE hS (fun z5 hz5 hS => ?_)
      refine zlOp (d := some 33) (op := (.call 48 [(.tmp 32)])) (g := none) (v := (.d (.str z5))) (ups := []) (j := 3) rfl (by kernel_rfl) (by kernel_rfl) (ev_call (args := [(.r (.msl 264 1 0 (([a1] : List Int).length)))]) (l := [(.d (.sl ([a1] : List Int).length ((eInt .i64).cells ([a1]))))]) (r := (.d (.str z5))) (by kernel_rfl) (l_cons (l_own (eInt .i64) (e := 3) (k := 1) (xs := [a1]) (by kernel_rfl) rfl rfl) l_nil) (f48_ok (d - 1) (dpt hd rfl) [a1] z5 hz5) (by kernel_rfl) (by kernel_rfl) (by kernel_rfl)) ?_
      refine zlRun (n := 1) (j := 4) rfl (by kernel_rfl) ?_
      refine zlEnd (by kernel_rfl) ?_
      refine zkSeq ?_
      refine zrRet ?_
      refine zkNil ?_
      exact endQ hS hQ (fRet ((congrArg (fun s => outR s 0 c69.res) (by kernel_rfl : finSt c69.fin _ = f69_fin z5)).trans (f69_out z5)))
noncomputable def f69 (a1 : Int) (a2 : Int) : Option ((List UInt8)) := (bif (!decide ((bitI .and .i64 a2 4) = 0)) then (bif (decide (64 ≤ a1)) then (bif (decide (a1 ≤ 95)) then (f69_j0 a1 a2 ) else (bif (decide (97 ≤ a1)) then (bif (decide (a1 ≤ 122)) then (f69_j0 a1 a2 ) else (f69_j1 a1 a2 )) else (f69_j1 a1 a2 ))) else (bif (decide (97 ≤ a1)) then (bif (decide (a1 ≤ 122)) then (f69_j0 a1 a2 ) else (f69_j1 a1 a2 )) else (f69_j1 a1 a2 ))) else ((f48 [a1]).bind fun z6 => (some z6)))
theorem f69_ok (d : Nat) (hd : 4 ≤ d) (a1 : Int) (a2 : Int) (r : (List UInt8)) (hS : f69 a1 a2 = some r) : lev codes baseL d 69 [(.d (.int .i64 a1)), (.d (.int .i64 a2))] [] = some ((.d (.str r)), []) := by
  refine lev_go codes69 rfl rfl (Nat.le_trans (Nat.le_of_ble_eq_true rfl) hd) fun Q hQ => ?_
  unfold f69 at hS
  show ZR _ Q c69_b [] _
  replace hQ : ∀ e st', f69_Q r e st' → Q e st' := hQ
  refine zrSeq ?_
  refine zrReg ?_
  refine zlRun (n := 1) (j := 1) rfl (by kernel_rfl) ?_
  refine zlEnd (by kernel_rfl) ?_
  refine zkSeq ?_
  refine zrSeq ?_
  refine zrSeq ?_
  refine zrReg ?_
  refine zlRun (n := 2) (j := 2) rfl (by kernel_rfl) ?_
  refine zlBool (d := 7) (op := (.cmpI .neq (.tmp 6) (.const (.int .i64 0)))) (g := none) (j := 3) (!decide ((bitI .and .i64 a2 4) = 0)) rfl (by kernel_rfl) (by kernel_rfl) (by kernel_rfl) (fun hc => ?_) (fun hc => ?_)
  · replace hS := cond_t hc hS
    refine zlEnd (by kernel_rfl) ?_
    refine zkSeq ?_
    refine zrCondT (by kernel_rfl) ?_
    refine zrBlk ?_
    refine zrSeq ?_
    refine zrReg ?_
    refine zlRun (n := 1) (j := 1) rfl (by kernel_rfl) ?_
    refine zlBool (d := 10) (op := (.cmpI .geq (.tmp 9) (.const (.int .i64 64)))) (g := none) (j := 2) (decide (64 ≤ a1)) rfl (by kernel_rfl) (by kernel_rfl) (by kernel_rfl) (fun hc => ?_) (fun hc => ?_)
    · replace hS := cond_t hc hS
      refine zlRun (n := 2) (j := 4) rfl (by kernel_rfl) ?_
      refine zlBool (d := 13) (op := (.cmpI .leq (.tmp 12) (.const (.int .i64 95)))) (g := (some (11, true))) (j := 5) (decide (a1 ≤ 95)) rfl (by kernel_rfl) (by kernel_rfl) (by kernel_rfl) (fun hc => ?_) (fun hc => ?_)
      · replace hS := cond_t hc hS
        refine zlRun (n := 10) (j := 15) rfl (by kernel_rfl) ?_
        refine zlEnd (by kernel_rfl) ?_
        refine zkSeq ?_
        refine zrCondT (by kernel_rfl) ?_
        exact f69_j0_ok hd a1 a2 hQ  hS (by kernel_rfl)
      · replace hS := cond_f hc hS
        refine zlRun (n := 3) (j := 8) rfl (by kernel_rfl) ?_
        refine zlBool (d := 17) (op := (.cmpI .geq (.tmp 16) (.const (.int .i64 97)))) (g := (some (15, false))) (j := 9) (decide (97 ≤ a1)) rfl (by kernel_rfl) (by kernel_rfl) (by kernel_rfl) (fun hc => ?_) (fun hc => ?_)
        · replace hS := cond_t hc hS
          refine zlRun (n := 2) (j := 11) rfl (by kernel_rfl) ?_
          refine zlBool (d := 20) (op := (.cmpI .leq (.tmp 19) (.const (.int .i64 122)))) (g := (some (18, true))) (j := 12) (decide (a1 ≤ 122)) rfl (by kernel_rfl) (by kernel_rfl) (by kernel_rfl) (fun hc => ?_) (fun hc => ?_)
          · replace hS := cond_t hc hS
            refine zlRun (n := 3) (j := 15) rfl (by kernel_rfl) ?_
            refine zlEnd (by kernel_rfl) ?_
            refine zkSeq ?_
            refine zrCondT (by kernel_rfl) ?_
            exact f69_j0_ok hd a1 a2 hQ  hS (by kernel_rfl)
          · replace hS := cond_f hc hS
            refine zlRun (n := 3) (j := 15) rfl (by kernel_rfl) ?_
            refine zlEnd (by kernel_rfl) ?_
            refine zkSeq ?_
            refine zrCondF (by kernel_rfl) ?_
            exact f69_j1_ok hd a1 a2 hQ  hS (by kernel_rfl)
        · replace hS := cond_f hc hS
          refine zlRun (n := 6) (j := 15) rfl (by kernel_rfl) ?_
          refine zlEnd (by kernel_rfl) ?_
          refine zkSeq ?_
          refine zrCondF (by kernel_rfl) ?_
          exact f69_j1_ok hd a1 a2 hQ  hS (by kernel_rfl)
    · replace hS := cond_f hc hS
      refine zlRun (n := 6) (j := 8) rfl (by kernel_rfl) ?_
      refine zlBool (d := 17) (op := (.cmpI .geq (.tmp 16) (.const (.int .i64 97)))) (g := (some (15, false))) (j := 9) (decide (97 ≤ a1)) rfl (by kernel_rfl) (by kernel_rfl) (by kernel_rfl) (fun hc => ?_) (fun hc => ?_)
      · replace hS := cond_t hc hS
        refine zlRun (n := 2) (j := 11) rfl (by kernel_rfl) ?_
        refine zlBool (d := 20) (op := (.cmpI .leq (.tmp 19) (.const (.int .i64 122)))) (g := (some (18, true))) (j := 12) (decide (a1 ≤ 122)) rfl (by kernel_rfl) (by kernel_rfl) (by kernel_rfl) (fun hc => ?_) (fun hc => ?_)
        · replace hS := cond_t hc hS
          refine zlRun (n := 3) (j := 15) rfl (by kernel_rfl) ?_
          refine zlEnd (by kernel_rfl) ?_
          refine zkSeq ?_
          refine zrCondT (by kernel_rfl) ?_
          exact f69_j0_ok hd a1 a2 hQ  hS (by kernel_rfl)
        · replace hS := cond_f hc hS
          refine zlRun (n := 3) (j := 15) rfl (by kernel_rfl) ?_
          refine zlEnd (by kernel_rfl) ?_
          refine zkSeq ?_
          refine zrCondF (by kernel_rfl) ?_
          exact f69_j1_ok hd a1 a2 hQ  hS (by kernel_rfl)
      · replace hS := cond_f hc hS
        refine zlRun (n := 6) (j := 15) rfl (by kernel_rfl) ?_
        refine zlEnd (by kernel_rfl) ?_
        refine zkSeq ?_
        refine zrCondF (by kernel_rfl) ?_
        exact f69_j1_ok hd a1 a2 hQ  hS (by kernel_rfl)
  · replace hS := cond_f hc hS
    refine zlEnd (by kernel_rfl) ?_
    refine zkSeq ?_
    refine zrCondF (by kernel_rfl) ?_
    refine zrSkip ?_
    refine zkSeq ?_
    refine zrSeq ?_
    refine zrReg ?_
    refine zlRun (n := 2) (j := 2) rfl (by kernel_rfl) ?_
    refine bindE hS (fun z6 hz6 hS => ?_)
    refine zlOp (d := some 33) (op := (.call 48 [(.tmp 32)])) (g := none) (v := (.d (.str z6))) (ups := []) (j := 3) rfl (by kernel_rfl) (by kernel_rfl) (ev_call (args := [(.r (.msl 264 1 0 (([a1] : List Int).length)))]) (l := [(.d (.sl ([a1] : List Int).length ((eInt .i64).cells ([a1]))))]) (r := (.d (.str z6))) (by kernel_rfl) (l_cons (l_own (eInt .i64) (e := 3) (k := 1) (xs := [a1]) (by kernel_rfl) rfl rfl) l_nil) (f48_ok (d - 1) (dpt hd rfl) [a1] z6 hz6) (by kernel_rfl) (by kernel_rfl) (by kernel_rfl)) ?_
    refine zlRun (n := 1) (j := 4) rfl (by kernel_rfl) ?_
    refine zlEnd (by kernel_rfl) ?_
    refine zkSeq ?_
    refine zrRet ?_
    refine zkNil ?_
    exact endQ hS hQ (fRet ((congrArg (fun s => outR s 0 c69.res) (by kernel_rfl : finSt c69.fin _ = f69_fin z6)).trans (f69_out z6)))
/- farwriter/press.plain -/
def f43_fin (p9 : List UInt8) : St := ⟨(up (fun _ => .un) 2 (.d (.str p9))), (hB fun _ => 0)⟩
theorem f43_out (p9 : List UInt8) : outR (f43_fin p9) 0 c43.res = some ((.d (.str p9)), []) := by
  kernel_rfl
def f43_Q (r : (List UInt8)) (e : PX) (st : St) : Prop := DoneF c43 0 ((.d (.str r)), []) e st
def f43_j1_J (a1 : GKey) : St := ⟨(up (fun _ => .un) 1 (.r (.ptr 16 0 0))), (up (hB fun _ => 0) 16 ⟨0, some (.box ((.d (.int .i64 a1.Name)) :: ((.d (.int .i64 a1.Rune)) :: ((.d (.int .i64 a1.Mods)) :: []))))⟩)⟩
noncomputable def f43_j1 (a1 : GKey) : Option ((List UInt8)) := (bif (decide (a1.Name = 25)) then (some [127]) else (bif (decide (a1.Name = 26)) then (some [27]) else ((f69 a1.Rune a1.Mods).bind fun z2 => (some z2))))
theorem f43_j1_ok {d : Nat} (hd : 5 ≤ d) (a1 : GKey) {r : (List UInt8)} {Q : PX → St → Prop} (hQ : ∀ e st', f43_Q r e st' → Q e st')  (hS : f43_j1 a1 = some r) {st : St} (he : keepSt [1] [(16, .id 16)] [] st = f43_j1_J a1) : ZR (lev codes baseL (d - 1)) Q c43_1 [.blk 0, .seq c43_2] st := by
  refine zrKeep he ?_
  unfold f43_j1 at hS
  refine zrSeq ?_
  refine zrReg ?_
  refine zlRun (n := 2) (j := 2) rfl (by kernel_rfl) ?_
  refine zlBool (d := 34) (op := (.cmpI .eql (.tmp 33) (.const (.int .i64 25)))) (g := none) (j := 3) (decide (a1.Name = 25)) rfl (by kernel_rfl) (by kernel_rfl) (by kernel_rfl) (fun hc => ?_) (fun hc => ?_)
  · replace hS := cond_t hc hS
    refine zlRun (n := 1) (j := 4) rfl (by kernel_rfl) ?_
    refine zlEnd (by kernel_rfl) ?_
    refine zkSeq ?_
    refine zrCondT (by kernel_rfl) ?_
    refine zrSeq ?_
    refine zrReg ?_
    refine zlRun (n := 1) (j := 1) rfl (by kernel_rfl) ?_
    refine zlEnd (by kernel_rfl) ?_
    refine zkSeq ?_
    refine zrRet ?_
    refine zkBlkR ?_
    refine zkSeqR ?_
    refine zkNil ?_
    exact endQ hS hQ (fRet ((congrArg (fun s => outR s 0 c43.res) (by kernel_rfl : finSt c43.fin _ = f43_fin [127])).trans (f43_out [127])))
  · replace hS := cond_f hc hS
    refine zlRun (n := 1) (j := 4) rfl (by kernel_rfl) ?_
    refine zlEnd (by kernel_rfl) ?_
    refine zkSeq ?_
    refine zrCondF (by kernel_rfl) ?_
    refine zrSeq ?_
    refine zrReg ?_
    refine zlRun (n := 2) (j := 2) rfl (by kernel_rfl) ?_
    refine zlBool (d := 38) (op := (.cmpI .eql (.tmp 37) (.const (.int .i64 26)))) (g := none) (j := 3) (decide (a1.Name = 26)) rfl (by kernel_rfl) (by kernel_rfl) (by kernel_rfl) (fun hc => ?_) (fun hc => ?_)
    · replace hS := cond_t hc hS
      refine zlRun (n := 1) (j := 4) rfl (by kernel_rfl) ?_
      refine zlEnd (by kernel_rfl) ?_
      refine zkSeq ?_
      refine zrCondT (by kernel_rfl) ?_
      refine zrSeq ?_
      refine zrReg ?_
      refine zlRun (n := 1) (j := 1) rfl (by kernel_rfl) ?_
      refine zlEnd (by kernel_rfl) ?_
      refine zkSeq ?_
      refine zrRet ?_
      refine zkBlkR ?_
      refine zkSeqR ?_
      refine zkNil ?_
      exact endQ hS hQ (fRet ((congrArg (fun s => outR s 0 c43.res) (by kernel_rfl : finSt c43.fin _ = f43_fin [27])).trans (f43_out [27])))
    · replace hS := cond_f hc hS
      refine zlRun (n := 1) (j := 4) rfl (by kernel_rfl) ?_
      refine zlEnd (by kernel_rfl) ?_
      refine zkSeq ?_
      refine zrCondF (by kernel_rfl) ?_
      refine zrSkip ?_
      refine zkBlk ?_
      refine zkSeq ?_
      refine zrSeq ?_
      refine zrReg ?_
      refine zlRun (n := 4) (j := 4) rfl (by kernel_rfl) ?_
      refine bindE hS (fun z2 hz2 hS => ?_)
      refine zlOp (d := some 43) (op := (.call 69 [(.tmp 40), (.tmp 42)])) (g := none) (v := (.d (.str z2))) (ups := []) (j := 5) rfl (by kernel_rfl) (by kernel_rfl) (ev_call (args := [(.d (.int .i64 a1.Rune)), (.d (.int .i64 a1.Mods))]) (l := [(.d (.int .i64 a1.Rune)), (.d (.int .i64 a1.Mods))]) (r := (.d (.str z2))) (by kernel_rfl) (by kernel_rfl) (f69_ok (d - 1) (dpt hd rfl) a1.Rune a1.Mods z2 hz2) (by kernel_rfl) (by kernel_rfl) (by kernel_rfl)) ?_
      refine zlRun (n := 1) (j := 6) rfl (by kernel_rfl) ?_
      refine zlEnd (by kernel_rfl) ?_
      refine zkSeq ?_
      refine zrRet ?_
      refine zkNil ?_
      exact endQ hS hQ (fRet ((congrArg (fun s => outR s 0 c43.res) (by kernel_rfl : finSt c43.fin _ = f43_fin z2)).trans (f43_out z2)))
def f43_j0_J (a1 : GKey) : St := ⟨(up (fun _ => .un) 1 (.r (.ptr 16 0 0))), (up (hB fun _ => 0) 16 ⟨0, some (.box ((.d (.int .i64 a1.Name)) :: ((.d (.int .i64 a1.Rune)) :: ((.d (.int .i64 a1.Mods)) :: []))))⟩)⟩
noncomputable def f43_j0 (a1 : GKey) : Option ((List UInt8)) := (bif (decide (a1.Name = 24)) then (some [9]) else (bif (decide (a1.Name = 25)) then (bif (!decide ((bitI .and .i64 a1.Mods 4) = 0)) then (some [8]) else (f43_j1 a1 )) else (f43_j1 a1 )))
theorem f43_j0_ok {d : Nat} (hd : 5 ≤ d) (a1 : GKey) {r : (List UInt8)} {Q : PX → St → Prop} (hQ : ∀ e st', f43_Q r e st' → Q e st')  (hS : f43_j0 a1 = some r) {st : St} (he : keepSt [1] [(16, .id 16)] [] st = f43_j0_J a1) : ZR (lev codes baseL (d - 1)) Q c43_3 [.blk 0, .seq c43_2] st := by
  refine zrKeep he ?_
  unfold f43_j0 at hS
  refine zrSeq ?_
  refine zrReg ?_
  refine zlRun (n := 2) (j := 2) rfl (by kernel_rfl) ?_
  refine zlBool (d := 20) (op := (.cmpI .eql (.tmp 19) (.const (.int .i64 24)))) (g := none) (j := 3) (decide (a1.Name = 24)) rfl (by kernel_rfl) (by kernel_rfl) (by kernel_rfl) (fun hc => ?_) (fun hc => ?_)
  · replace hS := cond_t hc hS
    refine zlRun (n := 1) (j := 4) rfl (by kernel_rfl) ?_
    refine zlEnd (by kernel_rfl) ?_
    refine zkSeq ?_
    refine zrCondT (by kernel_rfl) ?_
    refine zrSeq ?_
    refine zrReg ?_
    refine zlRun (n := 1) (j := 1) rfl (by kernel_rfl) ?_
    refine zlEnd (by kernel_rfl) ?_
    refine zkSeq ?_
    refine zrRet ?_
    refine zkBlkR ?_
    refine zkSeqR ?_
    refine zkNil ?_
    exact endQ hS hQ (fRet ((congrArg (fun s => outR s 0 c43.res) (by kernel_rfl : finSt c43.fin _ = f43_fin [9])).trans (f43_out [9])))
  · replace hS := cond_f hc hS
    refine zlRun (n := 1) (j := 4) rfl (by kernel_rfl) ?_
    refine zlEnd (by kernel_rfl) ?_
    refine zkSeq ?_
    refine zrCondF (by kernel_rfl) ?_
    refine zrSeq ?_
    refine zrReg ?_
    refine zlRun (n := 2) (j := 2) rfl (by kernel_rfl) ?_
    refine zlBool (d := 24) (op := (.cmpI .eql (.tmp 23) (.const (.int .i64 25)))) (g := none) (j := 3) (decide (a1.Name = 25)) rfl (by kernel_rfl) (by kernel_rfl) (by kernel_rfl) (fun hc => ?_) (fun hc => ?_)
    · replace hS := cond_t hc hS
      refine zlRun (n := 4) (j := 7) rfl (by kernel_rfl) ?_
      refine zlBool (d := 29) (op := (.cmpI .neq (.tmp 28) (.const (.int .i64 0)))) (g := (some (25, true))) (j := 8) (!decide ((bitI .and .i64 a1.Mods 4) = 0)) rfl (by kernel_rfl) (by kernel_rfl) (by kernel_rfl) (fun hc => ?_) (fun hc => ?_)
      · replace hS := cond_t hc hS
        refine zlRun (n := 2) (j := 10) rfl (by kernel_rfl) ?_
        refine zlEnd (by kernel_rfl) ?_
        refine zkSeq ?_
        refine zrCondT (by kernel_rfl) ?_
        refine zrSeq ?_
        refine zrReg ?_
        refine zlRun (n := 1) (j := 1) rfl (by kernel_rfl) ?_
        refine zlEnd (by kernel_rfl) ?_
        refine zkSeq ?_
        refine zrRet ?_
        refine zkBlkR ?_
        refine zkSeqR ?_
        refine zkNil ?_
        exact endQ hS hQ (fRet ((congrArg (fun s => outR s 0 c43.res) (by kernel_rfl : finSt c43.fin _ = f43_fin [8])).trans (f43_out [8])))
      · replace hS := cond_f hc hS
        refine zlRun (n := 2) (j := 10) rfl (by kernel_rfl) ?_
        refine zlEnd (by kernel_rfl) ?_
        refine zkSeq ?_
        refine zrCondF (by kernel_rfl) ?_
        exact f43_j1_ok hd a1 hQ  hS (by kernel_rfl)
    · replace hS := cond_f hc hS
      refine zlRun (n := 7) (j := 10) rfl (by kernel_rfl) ?_
      refine zlEnd (by kernel_rfl) ?_
      refine zkSeq ?_
      refine zrCondF (by kernel_rfl) ?_
      exact f43_j1_ok hd a1 hQ  hS (by kernel_rfl)
noncomputable def f43 (a1 : GKey) : Option ((List UInt8)) := (bif (decide (a1.Name = 23)) then (some [13]) else (bif (decide (a1.Name = 24)) then (bif (!decide ((bitI .and .i64 a1.Mods 1) = 0)) then (some [27, 91, 90]) else (f43_j0 a1 )) else (f43_j0 a1 )))
theorem f43_ok (d : Nat) (hd : 5 ≤ d) (a1 : GKey) (r : (List UInt8)) (hS : f43 a1 = some r) : lev codes baseL d 43 [(.agg ((.d (.int .i64 a1.Name)) :: ((.d (.int .i64 a1.Rune)) :: ((.d (.int .i64 a1.Mods)) :: []))))] [] = some ((.d (.str r)), []) := by
  refine lev_go codes43 rfl rfl (Nat.le_trans (Nat.le_of_ble_eq_true rfl) hd) fun Q hQ => ?_
  unfold f43 at hS
  show ZR _ Q c43_b [] _
  replace hQ : ∀ e st', f43_Q r e st' → Q e st' := hQ
  refine zrSeq ?_
  refine zrReg ?_
  refine zlRun (n := 2) (j := 2) rfl (by kernel_rfl) ?_
  refine zlEnd (by kernel_rfl) ?_
  refine zkSeq ?_
  refine zrSeq ?_
  refine zrBlk ?_
  refine zrSeq ?_
  refine zrReg ?_
  refine zlRun (n := 2) (j := 2) rfl (by kernel_rfl) ?_
  refine zlBool (d := 6) (op := (.cmpI .eql (.tmp 5) (.const (.int .i64 23)))) (g := none) (j := 3) (decide (a1.Name = 23)) rfl (by kernel_rfl) (by kernel_rfl) (by kernel_rfl) (fun hc => ?_) (fun hc => ?_)
  · replace hS := cond_t hc hS
    refine zlRun (n := 1) (j := 4) rfl (by kernel_rfl) ?_
    refine zlEnd (by kernel_rfl) ?_
    refine zkSeq ?_
    refine zrCondT (by kernel_rfl) ?_
    refine zrSeq ?_
    refine zrReg ?_
    refine zlRun (n := 1) (j := 1) rfl (by kernel_rfl) ?_
    refine zlEnd (by kernel_rfl) ?_
    refine zkSeq ?_
    refine zrRet ?_
    refine zkBlkR ?_
    refine zkSeqR ?_
    refine zkNil ?_
    exact endQ hS hQ (fRet ((congrArg (fun s => outR s 0 c43.res) (by kernel_rfl : finSt c43.fin _ = f43_fin [13])).trans (f43_out [13])))
  · replace hS := cond_f hc hS
    refine zlRun (n := 1) (j := 4) rfl (by kernel_rfl) ?_
    refine zlEnd (by kernel_rfl) ?_
    refine zkSeq ?_
    refine zrCondF (by kernel_rfl) ?_
    refine zrSeq ?_
    refine zrReg ?_
    refine zlRun (n := 2) (j := 2) rfl (by kernel_rfl) ?_
    refine zlBool (d := 10) (op := (.cmpI .eql (.tmp 9) (.const (.int .i64 24)))) (g := none) (j := 3) (decide (a1.Name = 24)) rfl (by kernel_rfl) (by kernel_rfl) (by kernel_rfl) (fun hc => ?_) (fun hc => ?_)
    · replace hS := cond_t hc hS
      refine zlRun (n := 4) (j := 7) rfl (by kernel_rfl) ?_
      refine zlBool (d := 15) (op := (.cmpI .neq (.tmp 14) (.const (.int .i64 0)))) (g := (some (11, true))) (j := 8) (!decide ((bitI .and .i64 a1.Mods 1) = 0)) rfl (by kernel_rfl) (by kernel_rfl) (by kernel_rfl) (fun hc => ?_) (fun hc => ?_)
      · replace hS := cond_t hc hS
        refine zlRun (n := 2) (j := 10) rfl (by kernel_rfl) ?_
        refine zlEnd (by kernel_rfl) ?_
        refine zkSeq ?_
        refine zrCondT (by kernel_rfl) ?_
        refine zrSeq ?_
        refine zrReg ?_
        refine zlRun (n := 1) (j := 1) rfl (by kernel_rfl) ?_
        refine zlEnd (by kernel_rfl) ?_
        refine zkSeq ?_
        refine zrRet ?_
        refine zkBlkR ?_
        refine zkSeqR ?_
        refine zkNil ?_
        exact endQ hS hQ (fRet ((congrArg (fun s => outR s 0 c43.res) (by kernel_rfl : finSt c43.fin _ = f43_fin [27, 91, 90])).trans (f43_out [27, 91, 90])))
      · replace hS := cond_f hc hS
        refine zlRun (n := 2) (j := 10) rfl (by kernel_rfl) ?_
        refine zlEnd (by kernel_rfl) ?_
        refine zkSeq ?_
        refine zrCondF (by kernel_rfl) ?_
        exact f43_j0_ok hd a1 hQ  hS (by kernel_rfl)
    · replace hS := cond_f hc hS
      refine zlRun (n := 7) (j := 10) rfl (by kernel_rfl) ?_
      refine zlEnd (by kernel_rfl) ?_
      refine zkSeq ?_
      refine zrCondF (by kernel_rfl) ?_
      exact f43_j0_ok hd a1 hQ  hS (by kernel_rfl)
/- farwriter/press.Key -/
def f19_fin (p19 : List UInt8) (p20 : Int) : St := ⟨(up (up (fun _ => .un) 5 (.d (.int .i64 p20))) 4 (.d (.str p19))), (hB fun _ => 0)⟩
theorem f19_out (p19 : List UInt8) (p20 : Int) : outR (f19_fin p19 p20) 0 c19.res = some ((.tup [(.d (.str p19)), (.d (.int .i64 p20))]), []) := by
  kernel_rfl
def f19_Q (r : (List UInt8) × Int) (e : PX) (st : St) : Prop := DoneF c19 0 ((.tup [(.d (.str r.1)), (.d (.int .i64 r.2))]), []) e st
def f19_j1_J (a1 : GKey) (a2 : Int) : St := ⟨(up (fun _ => .un) 2 (.r (.ptr 24 0 0))), (up (hB fun _ => 0) 24 ⟨0, some (.box ((.d (.int .i64 a1.Name)) :: ((.d (.int .i64 a1.Rune)) :: ((.d (.int .i64 a1.Mods)) :: []))))⟩)⟩
noncomputable def f19_j1 (a1 : GKey) (a2 : Int) : Option ((List UInt8) × Int) := ((f43 a1).bind fun z21 => (bif (!decide ((bitI .and .i64 a1.Mods 2) = 0)) then ((cat? ([27] : List UInt8) z21).bind fun z22 => (some (z22, 0))) else (some (z21, 0))))
theorem f19_j1_ok {d : Nat} (hd : 6 ≤ d) (a1 : GKey) (a2 : Int) {r : (List UInt8) × Int} {Q : PX → St → Prop} (hQ : ∀ e st', f19_Q r e st' → Q e st')  (hS : f19_j1 a1 a2 = some r) {st : St} (he : keepSt [2] [(24, .id 24)] [] st = f19_j1_J a1 a2) : ZR (lev codes baseL (d - 1)) Q c19_1 [] st := by
  refine zrKeep he ?_
  unfold f19_j1 at hS
  refine zrSeq ?_
  refine zrReg ?_
  refine zlRun (n := 1) (j := 1) rfl (by kernel_rfl) ?_
  refine bindE hS (fun z21 hz21 hS => ?_)
  refine zlOp (d := some 110) (op := (.call 43 [(.tmp 109)])) (g := none) (v := (.d (.str z21))) (ups := []) (j := 2) rfl (by kernel_rfl) (by kernel_rfl) (ev_call (args := [(.agg ((.d (.int .i64 a1.Name)) :: ((.d (.int .i64 a1.Rune)) :: ((.d (.int .i64 a1.Mods)) :: []))))]) (l := [(.agg ((.d (.int .i64 a1.Name)) :: ((.d (.int .i64 a1.Rune)) :: ((.d (.int .i64 a1.Mods)) :: []))))]) (r := (.d (.str z21))) (by kernel_rfl) (by kernel_rfl) (f43_ok (d - 1) (dpt hd rfl) a1 z21 hz21) (by kernel_rfl) (by kernel_rfl) (by kernel_rfl)) ?_
  refine zlRun (n := 1) (j := 3) rfl (by kernel_rfl) ?_
  refine zlEnd (by kernel_rfl) ?_
  refine zkSeq ?_
  refine zrSeq ?_
  refine zrSeq ?_
  refine zrReg ?_
  refine zlRun (n := 3) (j := 3) rfl (by kernel_rfl) ?_
  refine zlBool (d := 114) (op := (.cmpI .neq (.tmp 113) (.const (.int .i64 0)))) (g := none) (j := 4) (!decide ((bitI .and .i64 a1.Mods 2) = 0)) rfl (by kernel_rfl) (by kernel_rfl) (by kernel_rfl) (fun hc => ?_) (fun hc => ?_)
  · replace hS := cond_t hc hS
    refine zlEnd (by kernel_rfl) ?_
    refine zkSeq ?_
    refine zrCondT (by kernel_rfl) ?_
    refine zrReg ?_
    refine zlRun (n := 1) (j := 1) rfl (by kernel_rfl) ?_
    refine bindE hS (fun z22 hz22 hS => ?_)
    refine zlOp (d := some 116) (op := (.strO .add (.const (.string ⟨#[27]⟩)) (.tmp 115))) (g := none) (v := (.d (.str z22))) (ups := []) (j := 2) rfl (by kernel_rfl) (by kernel_rfl) (ev_cat (a := [27]) (c := z21) (by kernel_rfl) (by kernel_rfl) hz22) ?_
    refine zlRun (n := 1) (j := 3) rfl (by kernel_rfl) ?_
    refine zlEnd (by kernel_rfl) ?_
    refine zkSeq ?_
    refine zrSeq ?_
    refine zrReg ?_
    refine zlRun (n := 3) (j := 3) rfl (by kernel_rfl) ?_
    refine zlEnd (by kernel_rfl) ?_
    refine zkSeq ?_
    refine zrRet ?_
    refine zkNil ?_
    exact endQ hS hQ (fRet ((congrArg (fun s => outR s 0 c19.res) (by kernel_rfl : finSt c19.fin _ = f19_fin z22 0)).trans (f19_out z22 0)))
  · replace hS := cond_f hc hS
    refine zlEnd (by kernel_rfl) ?_
    refine zkSeq ?_
    refine zrCondF (by kernel_rfl) ?_
    refine zrSkip ?_
    refine zkSeq ?_
    refine zrSeq ?_
    refine zrReg ?_
    refine zlRun (n := 3) (j := 3) rfl (by kernel_rfl) ?_
    refine zlEnd (by kernel_rfl) ?_
    refine zkSeq ?_
    refine zrRet ?_
    refine zkNil ?_
    exact endQ hS hQ (fRet ((congrArg (fun s => outR s 0 c19.res) (by kernel_rfl : finSt c19.fin _ = f19_fin z21 0)).trans (f19_out z21 0)))
def f19_j5_J (a1 : GKey) (a2 : Int) : St := ⟨(up (fun _ => .un) 2 (.r (.ptr 24 0 0))), (up (hB fun _ => 0) 24 ⟨0, some (.box ((.d (.int .i64 a1.Name)) :: ((.d (.int .i64 a1.Rune)) :: ((.d (.int .i64 a1.Mods)) :: []))))⟩)⟩
noncomputable def f19_j5 (a1 : GKey) (a2 : Int) : Option ((List UInt8) × Int) := (f19_j1 a1 a2 )
theorem f19_j5_ok {d : Nat} (hd : 6 ≤ d) (a1 : GKey) (a2 : Int) {r : (List UInt8) × Int} {Q : PX → St → Prop} (hQ : ∀ e st', f19_Q r e st' → Q e st')  (hS : f19_j5 a1 a2 = some r) {st : St} (he : keepSt [2] [(24, .id 24)] [] st = f19_j5_J a1 a2) : ZR (lev codes baseL (d - 1)) Q c19_2 [.blk 0, .seq c19_1] st := by
  refine zrKeep he ?_
  unfold f19_j5 at hS
  refine zrSkip ?_
  refine zkBlk ?_
  refine zkSeq ?_
  exact f19_j1_ok hd a1 a2 hQ  hS (by kernel_rfl)
def f19_j4_J (a1 : GKey) (a2 : Int) : St := ⟨(up (up (fun _ => .un) 6 (.d (.int .i64 a1.Name))) 2 (.r (.ptr 24 0 0))), (up (hB fun _ => 0) 24 ⟨0, some (.box ((.d (.int .i64 a1.Name)) :: ((.d (.int .i64 a1.Rune)) :: ((.d (.int .i64 a1.Mods)) :: []))))⟩)⟩
noncomputable def f19_j4 (a1 : GKey) (a2 : Int) : Option ((List UInt8) × Int) := (bif (decide (14 < a1.Name)) then (bif (decide (a1.Name < 23)) then ((inR (IntKind.i64.wrap ((IntKind.i64.wrap (a1.Name - 11)) - 4)) 8).bind fun m23 => ((f42 (([15, 17, 18, 19, 20, 21, 23, 24] : List Int).getD m23 0) a1.Mods).bind fun z24 => (some (z24, 0)))) else (f19_j5 a1 a2 )) else (f19_j5 a1 a2 ))
theorem f19_j4_ok {d : Nat} (hd : 6 ≤ d) (a1 : GKey) (a2 : Int) {r : (List UInt8) × Int} {Q : PX → St → Prop} (hQ : ∀ e st', f19_Q r e st' → Q e st')  (hS : f19_j4 a1 a2 = some r) {st : St} (he : keepSt [2, 6] [(24, .id 24)] [] st = f19_j4_J a1 a2) : ZR (lev codes baseL (d - 1)) Q c19_3 [.blk 0, .seq c19_1] st := by
  refine zrKeep he ?_
  unfold f19_j4 at hS
  refine zrSeq ?_
  refine zrReg ?_
  refine zlRun (n := 1) (j := 1) rfl (by kernel_rfl) ?_
  refine zlBool (d := 96) (op := (.cmpI .gtr (.tmp 95) (.const (.int .i64 14)))) (g := none) (j := 2) (decide (14 < a1.Name)) rfl (by kernel_rfl) (by kernel_rfl) (by kernel_rfl) (fun hc => ?_) (fun hc => ?_)
  · replace hS := cond_t hc hS
    refine zlRun (n := 2) (j := 4) rfl (by kernel_rfl) ?_
    refine zlBool (d := 99) (op := (.cmpI .lss (.tmp 98) (.const (.int .i64 23)))) (g := (some (97, true))) (j := 5) (decide (a1.Name < 23)) rfl (by kernel_rfl) (by kernel_rfl) (by kernel_rfl) (fun hc => ?_) (fun hc => ?_)
    · replace hS := cond_t hc hS
      refine zlRun (n := 2) (j := 7) rfl (by kernel_rfl) ?_
      refine zlEnd (by kernel_rfl) ?_
      refine zkSeq ?_
      refine zrCondT (by kernel_rfl) ?_
      refine zrSeq ?_
      refine zrRegD ?_
      refine zdRun (n := 4) (j := 4) (ts := [[], [], [], []]) (acc' := [[], [], [], []]) rfl (by kernel_rfl) (by kernel_rfl) (by kernel_rfl) ?_
      refine bindE hS (fun m23 hm23 hS => ?_)
      refine zdOp (d := some 105) (op := (.ixV .false 8 1 (.tmp 101) (.tmp 104))) (g := none) (v := (.d (.int .i64 (([15, 17, 18, 19, 20, 21, 23, 24] : List Int).getD m23 0)))) (ups := []) (j := 5) (t1 := []) (acc' := [[], [], [], [], []]) (by kernel_rfl) (by kernel_rfl) rfl (by kernel_rfl) (by kernel_rfl) (ev_ixV (eInt .i64) (fun i => ([15, 17, 18, 19, 20, 21, 23, 24] : List Int).getD i 0) (kk := .i64) (j := (IntKind.i64.wrap ((IntKind.i64.wrap (a1.Name - 11)) - 4))) (by kernel_rfl) (by kernel_rfl) hm23 rfl (by kernel_rfl) (by kernel_rfl)) ?_
      refine zdRun (n := 2) (j := 7) (ts := [[], [(24, false)]]) (acc' := [[], [], [], [], [], [], [(24, false)]]) rfl (by kernel_rfl) (by kernel_rfl) (by kernel_rfl) ?_
      refine bindE hS (fun z24 hz24 hS => ?_)
      refine zdOp (d := some 108) (op := (.call 42 [(.tmp 105), (.tmp 107)])) (g := none) (v := (.d (.str z24))) (ups := []) (j := 8) (t1 := [(872, true), (873, true), (874, true), (875, true), (876, true), (877, true), (878, true), (879, true)]) (acc' := [[], [], [], [], [], [], [(24, false)], [(872, true), (873, true), (874, true), (875, true), (876, true), (877, true), (878, true), (879, true)]]) (by kernel_rfl) (by kernel_rfl) rfl (by kernel_rfl) (by kernel_rfl) (ev_call (args := [(.d (.int .i64 (([15, 17, 18, 19, 20, 21, 23, 24] : List Int).getD m23 0))), (.d (.int .i64 a1.Mods))]) (l := [(.d (.int .i64 (([15, 17, 18, 19, 20, 21, 23, 24] : List Int).getD m23 0))), (.d (.int .i64 a1.Mods))]) (r := (.d (.str z24))) (by kernel_rfl) (by kernel_rfl) (f42_ok (d - 1) (dpt hd rfl) (([15, 17, 18, 19, 20, 21, 23, 24] : List Int).getD m23 0) a1.Mods z24 hz24) (by kernel_rfl) (by kernel_rfl) (by kernel_rfl)) ?_
      refine zdRun (n := 2) (j := 10) (ts := [[], []]) (acc' := [[], [], [], [], [], [], [(24, false)], [(872, true), (873, true), (874, true), (875, true), (876, true), (877, true), (878, true), (879, true)], [], []]) rfl (by kernel_rfl) (by kernel_rfl) (by kernel_rfl) ?_
      refine zdEnd (by kernel_rfl) (by kernel_rfl) ?_
      refine zkSeq ?_
      refine zrRet ?_
      refine zkBlkR ?_
      refine zkSeqR ?_
      refine zkNil ?_
      exact endQ hS hQ (fRet ((congrArg (fun s => outR s 0 c19.res) (by kernel_rfl : finSt c19.fin _ = f19_fin z24 0)).trans (f19_out z24 0)))
    · replace hS := cond_f hc hS
      refine zlRun (n := 2) (j := 7) rfl (by kernel_rfl) ?_
      refine zlEnd (by kernel_rfl) ?_
      refine zkSeq ?_
      refine zrCondF (by kernel_rfl) ?_
      exact f19_j5_ok hd a1 a2 hQ  hS (by kernel_rfl)
  · replace hS := cond_f hc hS
    refine zlRun (n := 5) (j := 7) rfl (by kernel_rfl) ?_
    refine zlEnd (by kernel_rfl) ?_
    refine zkSeq ?_
    refine zrCondF (by kernel_rfl) ?_
    exact f19_j5_ok hd a1 a2 hQ  hS (by kernel_rfl)
def f19_j3_J (a1 : GKey) (a2 : Int) : St := ⟨(up (up (fun _ => .un) 6 (.d (.int .i64 a1.Name))) 2 (.r (.ptr 24 0 0))), (up (hB fun _ => 0) 24 ⟨0, some (.box ((.d (.int .i64 a1.Name)) :: ((.d (.int .i64 a1.Rune)) :: ((.d (.int .i64 a1.Mods)) :: []))))⟩)⟩
noncomputable def f19_j3 (a1 : GKey) (a2 : Int) : Option ((List UInt8) × Int) := (bif (decide (11 ≤ a1.Name)) then (bif (decide (a1.Name ≤ 14)) then ((idx ([80, 81, 82, 83] : List UInt8) (IntKind.i64.wrap (a1.Name - 11))).bind fun z25 => ((f41 [79] z25 a1.Mods).bind fun z26 => (some (z26, 0)))) else (f19_j4 a1 a2 )) else (f19_j4 a1 a2 ))
theorem f19_j3_ok {d : Nat} (hd : 6 ≤ d) (a1 : GKey) (a2 : Int) {r : (List UInt8) × Int} {Q : PX → St → Prop} (hQ : ∀ e st', f19_Q r e st' → Q e st')  (hS : f19_j3 a1 a2 = some r) {st : St} (he : keepSt [2, 6] [(24, .id 24)] [] st = f19_j3_J a1 a2) : ZR (lev codes baseL (d - 1)) Q c19_4 [.blk 0, .seq c19_1] st := by
  refine zrKeep he ?_
  unfold f19_j3 at hS
  refine zrSeq ?_
  refine zrReg ?_
  refine zlRun (n := 1) (j := 1) rfl (by kernel_rfl) ?_
  refine zlBool (d := 83) (op := (.cmpI .geq (.tmp 82) (.const (.int .i64 11)))) (g := none) (j := 2) (decide (11 ≤ a1.Name)) rfl (by kernel_rfl) (by kernel_rfl) (by kernel_rfl) (fun hc => ?_) (fun hc => ?_)
  · replace hS := cond_t hc hS
    refine zlRun (n := 2) (j := 4) rfl (by kernel_rfl) ?_
    refine zlBool (d := 86) (op := (.cmpI .leq (.tmp 85) (.const (.int .i64 14)))) (g := (some (84, true))) (j := 5) (decide (a1.Name ≤ 14)) rfl (by kernel_rfl) (by kernel_rfl) (by kernel_rfl) (fun hc => ?_) (fun hc => ?_)
    · replace hS := cond_t hc hS
      refine zlRun (n := 2) (j := 7) rfl (by kernel_rfl) ?_
      refine zlEnd (by kernel_rfl) ?_
      refine zkSeq ?_
      refine zrCondT (by kernel_rfl) ?_
      refine zrSeq ?_
      refine zrRegD ?_
      refine zdRun (n := 2) (j := 2) (ts := [[], []]) (acc' := [[], []]) rfl (by kernel_rfl) (by kernel_rfl) (by kernel_rfl) ?_
      refine bindE hS (fun z25 hz25 hS => ?_)
      refine zdOp (d := some 90) (op := (.ixStr (.const (.string ⟨#[80, 81, 82, 83]⟩)) (.tmp 89))) (g := none) (v := (.d (.int .u8 (z25.toNat : Int)))) (ups := []) (j := 3) (t1 := []) (acc' := [[], [], []]) (by kernel_rfl) (by kernel_rfl) rfl (by kernel_rfl) (by kernel_rfl) (ev_ixStr (kk := .i64) (s := [80, 81, 82, 83]) (j := (IntKind.i64.wrap (a1.Name - 11))) (by kernel_rfl) (by kernel_rfl) hz25) ?_
      refine zdRun (n := 2) (j := 5) (ts := [[], [(24, false)]]) (acc' := [[], [], [], [], [(24, false)]]) rfl (by kernel_rfl) (by kernel_rfl) (by kernel_rfl) ?_
      refine bindE hS (fun z26 hz26 hS => ?_)
      refine zdOp (d := some 93) (op := (.call 41 [(.const (.string ⟨#[79]⟩)), (.tmp 90), (.tmp 92)])) (g := none) (v := (.d (.str z26))) (ups := []) (j := 6) (t1 := [(752, true), (753, true), (754, true), (755, true), (756, true), (757, true), (758, true), (759, true)]) (acc' := [[], [], [], [], [(24, false)], [(752, true), (753, true), (754, true), (755, true), (756, true), (757, true), (758, true), (759, true)]]) (by kernel_rfl) (by kernel_rfl) rfl (by kernel_rfl) (by kernel_rfl) (ev_call (args := [(.d (.str ([79]))), (.d (.int .u8 (z25.toNat : Int))), (.d (.int .i64 a1.Mods))]) (l := [(.d (.str ([79]))), (.d (.int .u8 (z25.toNat : Int))), (.d (.int .i64 a1.Mods))]) (r := (.d (.str z26))) (by kernel_rfl) (by kernel_rfl) (f41_ok (d - 1) (dpt hd rfl) [79] z25 a1.Mods z26 hz26) (by kernel_rfl) (by kernel_rfl) (by kernel_rfl)) ?_
      refine zdRun (n := 2) (j := 8) (ts := [[], []]) (acc' := [[], [], [], [], [(24, false)], [(752, true), (753, true), (754, true), (755, true), (756, true), (757, true), (758, true), (759, true)], [], []]) rfl (by kernel_rfl) (by kernel_rfl) (by kernel_rfl) ?_
      refine zdEnd (by kernel_rfl) (by kernel_rfl) ?_
      refine zkSeq ?_
      refine zrRet ?_
      refine zkBlkR ?_
      refine zkSeqR ?_
      refine zkNil ?_
      exact endQ hS hQ (fRet ((congrArg (fun s => outR s 0 c19.res) (by kernel_rfl : finSt c19.fin _ = f19_fin z26 0)).trans (f19_out z26 0)))
    · replace hS := cond_f hc hS
      refine zlRun (n := 2) (j := 7) rfl (by kernel_rfl) ?_
      refine zlEnd (by kernel_rfl) ?_
      refine zkSeq ?_
      refine zrCondF (by kernel_rfl) ?_
      exact f19_j4_ok hd a1 a2 hQ  hS (by kernel_rfl)
  · replace hS := cond_f hc hS
    refine zlRun (n := 5) (j := 7) rfl (by kernel_rfl) ?_
    refine zlEnd (by kernel_rfl) ?_
    refine zkSeq ?_
    refine zrCondF (by kernel_rfl) ?_
    exact f19_j4_ok hd a1 a2 hQ  hS (by kernel_rfl)
def f19_j2_J (a1 : GKey) (a2 : Int) : St := ⟨(up (up (fun _ => .un) 6 (.d (.int .i64 a1.Name))) 2 (.r (.ptr 24 0 0))), (up (hB fun _ => 0) 24 ⟨0, some (.box ((.d (.int .i64 a1.Name)) :: ((.d (.int .i64 a1.Rune)) :: ((.d (.int .i64 a1.Mods)) :: []))))⟩)⟩
noncomputable def f19_j2 (a1 : GKey) (a2 : Int) : Option ((List UInt8) × Int) := (bif (decide (7 ≤ a1.Name)) then (bif (decide (a1.Name ≤ 10)) then ((inR (IntKind.i64.wrap (a1.Name - 7)) 4).bind fun m27 => ((f42 (([2, 3, 5, 6] : List Int).getD m27 0) a1.Mods).bind fun z28 => (some (z28, 0)))) else (f19_j3 a1 a2 )) else (f19_j3 a1 a2 ))
theorem f19_j2_ok {d : Nat} (hd : 6 ≤ d) (a1 : GKey) (a2 : Int) {r : (List UInt8) × Int} {Q : PX → St → Prop} (hQ : ∀ e st', f19_Q r e st' → Q e st')  (hS : f19_j2 a1 a2 = some r) {st : St} (he : keepSt [2, 6] [(24, .id 24)] [] st = f19_j2_J a1 a2) : ZR (lev codes baseL (d - 1)) Q c19_5 [.blk 0, .seq c19_1] st := by
  refine zrKeep he ?_
  unfold f19_j2 at hS
  refine zrSeq ?_
  refine zrReg ?_
  refine zlRun (n := 1) (j := 1) rfl (by kernel_rfl) ?_
  refine zlBool (d := 69) (op := (.cmpI .geq (.tmp 68) (.const (.int .i64 7)))) (g := none) (j := 2) (decide (7 ≤ a1.Name)) rfl (by kernel_rfl) (by kernel_rfl) (by kernel_rfl) (fun hc => ?_) (fun hc => ?_)
  · replace hS := cond_t hc hS
    refine zlRun (n := 2) (j := 4) rfl (by kernel_rfl) ?_
    refine zlBool (d := 72) (op := (.cmpI .leq (.tmp 71) (.const (.int .i64 10)))) (g := (some (70, true))) (j := 5) (decide (a1.Name ≤ 10)) rfl (by kernel_rfl) (by kernel_rfl) (by kernel_rfl) (fun hc => ?_) (fun hc => ?_)
    · replace hS := cond_t hc hS
      refine zlRun (n := 2) (j := 7) rfl (by kernel_rfl) ?_
      refine zlEnd (by kernel_rfl) ?_
      refine zkSeq ?_
      refine zrCondT (by kernel_rfl) ?_
      refine zrSeq ?_
      refine zrRegD ?_
      refine zdRun (n := 3) (j := 3) (ts := [[], [], []]) (acc' := [[], [], []]) rfl (by kernel_rfl) (by kernel_rfl) (by kernel_rfl) ?_
      refine bindE hS (fun m27 hm27 hS => ?_)
      refine zdOp (d := some 77) (op := (.ixV .false 4 1 (.tmp 74) (.tmp 76))) (g := none) (v := (.d (.int .i64 (([2, 3, 5, 6] : List Int).getD m27 0)))) (ups := []) (j := 4) (t1 := []) (acc' := [[], [], [], []]) (by kernel_rfl) (by kernel_rfl) rfl (by kernel_rfl) (by kernel_rfl) (ev_ixV (eInt .i64) (fun i => ([2, 3, 5, 6] : List Int).getD i 0) (kk := .i64) (j := (IntKind.i64.wrap (a1.Name - 7))) (by kernel_rfl) (by kernel_rfl) hm27 rfl (by kernel_rfl) (by kernel_rfl)) ?_
      refine zdRun (n := 2) (j := 6) (ts := [[], [(24, false)]]) (acc' := [[], [], [], [], [], [(24, false)]]) rfl (by kernel_rfl) (by kernel_rfl) (by kernel_rfl) ?_
      refine bindE hS (fun z28 hz28 hS => ?_)
      refine zdOp (d := some 80) (op := (.call 42 [(.tmp 77), (.tmp 79)])) (g := none) (v := (.d (.str z28))) (ups := []) (j := 7) (t1 := [(648, true), (649, true), (650, true), (651, true), (652, true), (653, true), (654, true), (655, true)]) (acc' := [[], [], [], [], [], [(24, false)], [(648, true), (649, true), (650, true), (651, true), (652, true), (653, true), (654, true), (655, true)]]) (by kernel_rfl) (by kernel_rfl) rfl (by kernel_rfl) (by kernel_rfl) (ev_call (args := [(.d (.int .i64 (([2, 3, 5, 6] : List Int).getD m27 0))), (.d (.int .i64 a1.Mods))]) (l := [(.d (.int .i64 (([2, 3, 5, 6] : List Int).getD m27 0))), (.d (.int .i64 a1.Mods))]) (r := (.d (.str z28))) (by kernel_rfl) (by kernel_rfl) (f42_ok (d - 1) (dpt hd rfl) (([2, 3, 5, 6] : List Int).getD m27 0) a1.Mods z28 hz28) (by kernel_rfl) (by kernel_rfl) (by kernel_rfl)) ?_
      refine zdRun (n := 2) (j := 9) (ts := [[], []]) (acc' := [[], [], [], [], [], [(24, false)], [(648, true), (649, true), (650, true), (651, true), (652, true), (653, true), (654, true), (655, true)], [], []]) rfl (by kernel_rfl) (by kernel_rfl) (by kernel_rfl) ?_
      refine zdEnd (by kernel_rfl) (by kernel_rfl) ?_
      refine zkSeq ?_
      refine zrRet ?_
      refine zkBlkR ?_
      refine zkSeqR ?_
      refine zkNil ?_
      exact endQ hS hQ (fRet ((congrArg (fun s => outR s 0 c19.res) (by kernel_rfl : finSt c19.fin _ = f19_fin z28 0)).trans (f19_out z28 0)))
    · replace hS := cond_f hc hS
      refine zlRun (n := 2) (j := 7) rfl (by kernel_rfl) ?_
      refine zlEnd (by kernel_rfl) ?_
      refine zkSeq ?_
      refine zrCondF (by kernel_rfl) ?_
      exact f19_j3_ok hd a1 a2 hQ  hS (by kernel_rfl)
  · replace hS := cond_f hc hS
    refine zlRun (n := 5) (j := 7) rfl (by kernel_rfl) ?_
    refine zlEnd (by kernel_rfl) ?_
    refine zkSeq ?_
    refine zrCondF (by kernel_rfl) ?_
    exact f19_j3_ok hd a1 a2 hQ  hS (by kernel_rfl)
def f19_j6_J (a1 : GKey) (a2 : Int) (p38 : List UInt8) : St := ⟨(up (up (up (fun _ => .un) 7 (.d (.str p38))) 6 (.d (.int .i64 a1.Name))) 2 (.r (.ptr 24 0 0))), (up (hB fun _ => 0) 24 ⟨0, some (.box ((.d (.int .i64 a1.Name)) :: ((.d (.int .i64 a1.Rune)) :: ((.d (.int .i64 a1.Mods)) :: []))))⟩)⟩
noncomputable def f19_j6 (a1 : GKey) (a2 : Int) (p38 : List UInt8) : Option ((List UInt8) × Int) := ((idx ([65, 66, 67, 68, 72, 70] : List UInt8) (IntKind.i64.wrap (a1.Name - 1))).bind fun z29 => ((f41 p38 z29 a1.Mods).bind fun z30 => (some (z30, 0))))
theorem f19_j6_ok {d : Nat} (hd : 6 ≤ d) (a1 : GKey) (a2 : Int) {r : (List UInt8) × Int} {Q : PX → St → Prop} (hQ : ∀ e st', f19_Q r e st' → Q e st') (p38 : List UInt8) (hS : f19_j6 a1 a2 p38 = some r) {st : St} (he : keepSt [2, 6, 7] [(24, .id 24)] [] st = f19_j6_J a1 a2 p38) : ZR (lev codes baseL (d - 1)) Q c19_6 [.blk 0, .seq c19_1] st := by
  refine zrKeep he ?_
  unfold f19_j6 at hS
  refine zrSeq ?_
  refine zrRegD ?_
  refine zdRun (n := 3) (j := 3) (ts := [[], [], []]) (acc' := [[], [], []]) rfl (by kernel_rfl) (by kernel_rfl) (by kernel_rfl) ?_
  refine bindE hS (fun z29 hz29 hS => ?_)
  refine zdOp (d := some 63) (op := (.ixStr (.const (.string ⟨#[65, 66, 67, 68, 72, 70]⟩)) (.tmp 62))) (g := none) (v := (.d (.int .u8 (z29.toNat : Int)))) (ups := []) (j := 4) (t1 := []) (acc' := [[], [], [], []]) (by kernel_rfl) (by kernel_rfl) rfl (by kernel_rfl) (by kernel_rfl) (ev_ixStr (kk := .i64) (s := [65, 66, 67, 68, 72, 70]) (j := (IntKind.i64.wrap (a1.Name - 1))) (by kernel_rfl) (by kernel_rfl) hz29) ?_
  refine zdRun (n := 2) (j := 6) (ts := [[], [(24, false)]]) (acc' := [[], [], [], [], [], [(24, false)]]) rfl (by kernel_rfl) (by kernel_rfl) (by kernel_rfl) ?_
  refine bindE hS (fun z30 hz30 hS => ?_)
  refine zdOp (d := some 66) (op := (.call 41 [(.tmp 60), (.tmp 63), (.tmp 65)])) (g := none) (v := (.d (.str z30))) (ups := []) (j := 7) (t1 := [(536, true), (537, true), (538, true), (539, true), (540, true), (541, true), (542, true), (543, true)]) (acc' := [[], [], [], [], [], [(24, false)], [(536, true), (537, true), (538, true), (539, true), (540, true), (541, true), (542, true), (543, true)]]) (by kernel_rfl) (by kernel_rfl) rfl (by kernel_rfl) (by kernel_rfl) (ev_call (args := [(.d (.str p38)), (.d (.int .u8 (z29.toNat : Int))), (.d (.int .i64 a1.Mods))]) (l := [(.d (.str p38)), (.d (.int .u8 (z29.toNat : Int))), (.d (.int .i64 a1.Mods))]) (r := (.d (.str z30))) (by kernel_rfl) (by kernel_rfl) (f41_ok (d - 1) (dpt hd rfl) p38 z29 a1.Mods z30 hz30) (by kernel_rfl) (by kernel_rfl) (by kernel_rfl)) ?_
  refine zdRun (n := 2) (j := 9) (ts := [[], []]) (acc' := [[], [], [], [], [], [(24, false)], [(536, true), (537, true), (538, true), (539, true), (540, true), (541, true), (542, true), (543, true)], [], []]) rfl (by kernel_rfl) (by kernel_rfl) (by kernel_rfl) ?_
  refine zdEnd (by kernel_rfl) (by kernel_rfl) ?_
  refine zkSeq ?_
  refine zrRet ?_
  refine zkBlkR ?_
  refine zkSeqR ?_
  refine zkNil ?_
  exact endQ hS hQ (fRet ((congrArg (fun s => outR s 0 c19.res) (by kernel_rfl : finSt c19.fin _ = f19_fin z30 0)).trans (f19_out z30 0)))
def f19_j0_J (a1 : GKey) (a2 : Int) : St := ⟨(up (up (fun _ => .un) 2 (.r (.ptr 24 0 0))) 1 (.d (.int .i64 a2))), (up (hB fun _ => 0) 24 ⟨0, some (.box ((.d (.int .i64 a1.Name)) :: ((.d (.int .i64 a1.Rune)) :: ((.d (.int .i64 a1.Mods)) :: []))))⟩)⟩
noncomputable def f19_j0 (a1 : GKey) (a2 : Int) : Option ((List UInt8) × Int) := (bif (decide (1 ≤ a1.Name)) then (bif (decide (a1.Name ≤ 6)) then (bif (!decide ((bitI .and .i64 a2 16) = 0)) then (f19_j6 a1 a2 [79]) else (f19_j6 a1 a2 [91])) else (f19_j2 a1 a2 )) else (f19_j2 a1 a2 ))
theorem f19_j0_ok {d : Nat} (hd : 6 ≤ d) (a1 : GKey) (a2 : Int) {r : (List UInt8) × Int} {Q : PX → St → Prop} (hQ : ∀ e st', f19_Q r e st' → Q e st')  (hS : f19_j0 a1 a2 = some r) {st : St} (he : keepSt [1, 2] [(24, .id 24)] [] st = f19_j0_J a1 a2) : ZR (lev codes baseL (d - 1)) Q c19_7 [] st := by
  refine zrKeep he ?_
  unfold f19_j0 at hS
  refine zrSeq ?_
  refine zrReg ?_
  refine zlRun (n := 3) (j := 3) rfl (by kernel_rfl) ?_
  refine zlEnd (by kernel_rfl) ?_
  refine zkSeq ?_
  refine zrSeq ?_
  refine zrBlk ?_
  refine zrSeq ?_
  refine zrReg ?_
  refine zlRun (n := 1) (j := 1) rfl (by kernel_rfl) ?_
  refine zlBool (d := 52) (op := (.cmpI .geq (.tmp 51) (.const (.int .i64 1)))) (g := none) (j := 2) (decide (1 ≤ a1.Name)) rfl (by kernel_rfl) (by kernel_rfl) (by kernel_rfl) (fun hc => ?_) (fun hc => ?_)
  · replace hS := cond_t hc hS
    refine zlRun (n := 2) (j := 4) rfl (by kernel_rfl) ?_
    refine zlBool (d := 55) (op := (.cmpI .leq (.tmp 54) (.const (.int .i64 6)))) (g := (some (53, true))) (j := 5) (decide (a1.Name ≤ 6)) rfl (by kernel_rfl) (by kernel_rfl) (by kernel_rfl) (fun hc => ?_) (fun hc => ?_)
    · replace hS := cond_t hc hS
      refine zlRun (n := 2) (j := 7) rfl (by kernel_rfl) ?_
      refine zlEnd (by kernel_rfl) ?_
      refine zkSeq ?_
      refine zrCondT (by kernel_rfl) ?_
      refine zrSeq ?_
      refine zrReg ?_
      refine zlRun (n := 1) (j := 1) rfl (by kernel_rfl) ?_
      refine zlEnd (by kernel_rfl) ?_
      refine zkSeq ?_
      refine zrSeq ?_
      refine zrSeq ?_
      refine zrReg ?_
      refine zlRun (n := 2) (j := 2) rfl (by kernel_rfl) ?_
      refine zlBool (d := 59) (op := (.cmpI .neq (.tmp 58) (.const (.int .i64 0)))) (g := none) (j := 3) (!decide ((bitI .and .i64 a2 16) = 0)) rfl (by kernel_rfl) (by kernel_rfl) (by kernel_rfl) (fun hc => ?_) (fun hc => ?_)
      · replace hS := cond_t hc hS
        refine zlEnd (by kernel_rfl) ?_
        refine zkSeq ?_
        refine zrCondT (by kernel_rfl) ?_
        refine zrReg ?_
        refine zlRun (n := 1) (j := 1) rfl (by kernel_rfl) ?_
        refine zlEnd (by kernel_rfl) ?_
        refine zkSeq ?_
        exact f19_j6_ok hd a1 a2 hQ [79] hS (by kernel_rfl)
      · replace hS := cond_f hc hS
        refine zlEnd (by kernel_rfl) ?_
        refine zkSeq ?_
        refine zrCondF (by kernel_rfl) ?_
        refine zrSkip ?_
        refine zkSeq ?_
        exact f19_j6_ok hd a1 a2 hQ [91] hS (by kernel_rfl)
    · replace hS := cond_f hc hS
      refine zlRun (n := 2) (j := 7) rfl (by kernel_rfl) ?_
      refine zlEnd (by kernel_rfl) ?_
      refine zkSeq ?_
      refine zrCondF (by kernel_rfl) ?_
      exact f19_j2_ok hd a1 a2 hQ  hS (by kernel_rfl)
  · replace hS := cond_f hc hS
    refine zlRun (n := 5) (j := 7) rfl (by kernel_rfl) ?_
    refine zlEnd (by kernel_rfl) ?_
    refine zkSeq ?_
    refine zrCondF (by kernel_rfl) ?_
    exact f19_j2_ok hd a1 a2 hQ  hS (by kernel_rfl)
noncomputable def f19 (a1 : GKey) (a2 : Int) : Option ((List UInt8) × Int) := (bif (decide (a1.Mods < 0)) then (some ([], 1)) else (bif (decide (7 < a1.Mods)) then (some ([], 1)) else (bif (decide (a1.Name < 0)) then (some ([], 1)) else (bif (decide (26 < a1.Name)) then (some ([], 1)) else (bif (decide (a1.Name = 0)) then ((f40 a1.Rune).bind fun z31 => (bif (!z31) then (some ([], 1)) else (bif (!decide (a1.Name = 0)) then (bif (!decide (a1.Rune = 0)) then (some ([], 1)) else (f19_j0 a1 a2 )) else (f19_j0 a1 a2 )))) else (bif (!decide (a1.Name = 0)) then (bif (!decide (a1.Rune = 0)) then (some ([], 1)) else (f19_j0 a1 a2 )) else (f19_j0 a1 a2 )))))))
theorem f19_ok (d : Nat) (hd : 6 ≤ d) (a1 : GKey) (a2 : Int) (r : (List UInt8) × Int) (hS : f19 a1 a2 = some r) : lev codes baseL d 19 [(.agg ((.d (.int .i64 a1.Name)) :: ((.d (.int .i64 a1.Rune)) :: ((.d (.int .i64 a1.Mods)) :: [])))), (.d (.int .i64 a2))] [] = some ((.tup [(.d (.str r.1)), (.d (.int .i64 r.2))]), []) := by
  refine lev_go codes19 rfl rfl (Nat.le_trans (Nat.le_of_ble_eq_true rfl) hd) fun Q hQ => ?_
  unfold f19 at hS
  show ZR _ Q c19_b [] _
  replace hQ : ∀ e st', f19_Q r e st' → Q e st' := hQ
  refine zrSeq ?_
  refine zrReg ?_
  refine zlRun (n := 3) (j := 3) rfl (by kernel_rfl) ?_
  refine zlEnd (by kernel_rfl) ?_
  refine zkSeq ?_
  refine zrSeq ?_
  refine zrSeq ?_
  refine zrReg ?_
  refine zlRun (n := 2) (j := 2) rfl (by kernel_rfl) ?_
  refine zlBool (d := 11) (op := (.cmpI .lss (.tmp 10) (.const (.int .i64 0)))) (g := none) (j := 3) (decide (a1.Mods < 0)) rfl (by kernel_rfl) (by kernel_rfl) (by kernel_rfl) (fun hc => ?_) (fun hc => ?_)
  · replace hS := cond_t hc hS
    refine zlRun (n := 36) (j := 39) rfl (by kernel_rfl) ?_
    refine zlEnd (by kernel_rfl) ?_
    refine zkSeq ?_
    refine zrCondT (by kernel_rfl) ?_
    refine zrSeq ?_
    refine zrReg ?_
    refine zlRun (n := 2) (j := 2) rfl (by kernel_rfl) ?_
    refine zlEnd (by kernel_rfl) ?_
    refine zkSeq ?_
    refine zrRet ?_
    refine zkSeqR ?_
    refine zkNil ?_
    exact endQ hS hQ (fRet ((congrArg (fun s => outR s 0 c19.res) (by kernel_rfl : finSt c19.fin _ = f19_fin [] 1)).trans (f19_out [] 1)))
  · replace hS := cond_f hc hS
    refine zlRun (n := 3) (j := 6) rfl (by kernel_rfl) ?_
    refine zlBool (d := 15) (op := (.cmpI .gtr (.tmp 14) (.const (.int .i64 7)))) (g := (some (12, false))) (j := 7) (decide (7 < a1.Mods)) rfl (by kernel_rfl) (by kernel_rfl) (by kernel_rfl) (fun hc => ?_) (fun hc => ?_)
    · replace hS := cond_t hc hS
      refine zlRun (n := 32) (j := 39) rfl (by kernel_rfl) ?_
      refine zlEnd (by kernel_rfl) ?_
      refine zkSeq ?_
      refine zrCondT (by kernel_rfl) ?_
      refine zrSeq ?_
      refine zrReg ?_
      refine zlRun (n := 2) (j := 2) rfl (by kernel_rfl) ?_
      refine zlEnd (by kernel_rfl) ?_
      refine zkSeq ?_
      refine zrRet ?_
      refine zkSeqR ?_
      refine zkNil ?_
      exact endQ hS hQ (fRet ((congrArg (fun s => outR s 0 c19.res) (by kernel_rfl : finSt c19.fin _ = f19_fin [] 1)).trans (f19_out [] 1)))
    · replace hS := cond_f hc hS
      refine zlRun (n := 4) (j := 11) rfl (by kernel_rfl) ?_
      refine zlBool (d := 20) (op := (.cmpI .lss (.tmp 19) (.const (.int .i64 0)))) (g := (some (17, false))) (j := 12) (decide (a1.Name < 0)) rfl (by kernel_rfl) (by kernel_rfl) (by kernel_rfl) (fun hc => ?_) (fun hc => ?_)
      · replace hS := cond_t hc hS
        refine zlRun (n := 27) (j := 39) rfl (by kernel_rfl) ?_
        refine zlEnd (by kernel_rfl) ?_
        refine zkSeq ?_
        refine zrCondT (by kernel_rfl) ?_
        refine zrSeq ?_
        refine zrReg ?_
        refine zlRun (n := 2) (j := 2) rfl (by kernel_rfl) ?_
        refine zlEnd (by kernel_rfl) ?_
        refine zkSeq ?_
        refine zrRet ?_
        refine zkSeqR ?_
        refine zkNil ?_
        exact endQ hS hQ (fRet ((congrArg (fun s => outR s 0 c19.res) (by kernel_rfl : finSt c19.fin _ = f19_fin [] 1)).trans (f19_out [] 1)))
      · replace hS := cond_f hc hS
        refine zlRun (n := 4) (j := 16) rfl (by kernel_rfl) ?_
        refine zlBool (d := 25) (op := (.cmpI .gtr (.tmp 24) (.const (.int .i64 26)))) (g := (some (22, false))) (j := 17) (decide (26 < a1.Name)) rfl (by kernel_rfl) (by kernel_rfl) (by kernel_rfl) (fun hc => ?_) (fun hc => ?_)
        · replace hS := cond_t hc hS
          refine zlRun (n := 22) (j := 39) rfl (by kernel_rfl) ?_
          refine zlEnd (by kernel_rfl) ?_
          refine zkSeq ?_
          refine zrCondT (by kernel_rfl) ?_
          refine zrSeq ?_
          refine zrReg ?_
          refine zlRun (n := 2) (j := 2) rfl (by kernel_rfl) ?_
          refine zlEnd (by kernel_rfl) ?_
          refine zkSeq ?_
          refine zrRet ?_
          refine zkSeqR ?_
          refine zkNil ?_
          exact endQ hS hQ (fRet ((congrArg (fun s => outR s 0 c19.res) (by kernel_rfl : finSt c19.fin _ = f19_fin [] 1)).trans (f19_out [] 1)))
        · replace hS := cond_f hc hS
          refine zlRun (n := 4) (j := 21) rfl (by kernel_rfl) ?_
          refine zlBool (d := 30) (op := (.cmpI .eql (.tmp 29) (.const (.int .i64 0)))) (g := (some (27, false))) (j := 22) (decide (a1.Name = 0)) rfl (by kernel_rfl) (by kernel_rfl) (by kernel_rfl) (fun hc => ?_) (fun hc => ?_)
          · replace hS := cond_t hc hS
            refine zlRun (n := 3) (j := 25) rfl (by kernel_rfl) ?_
            refine bindE hS (fun z31 hz31 hS => ?_)
            refine zlOp (d := some 34) (op := (.call 40 [(.tmp 33)])) (g := (some (31, true))) (v := (.d (.bool z31))) (ups := []) (j := 26) rfl (by kernel_rfl) (by kernel_rfl) (ev_call (args := [(.d (.int .i64 a1.Rune))]) (l := [(.d (.int .i64 a1.Rune))]) (r := (.d (.bool z31))) (by kernel_rfl) (by kernel_rfl) (f40_ok (d - 1) (dpt hd rfl) a1.Rune z31 hz31) (by kernel_rfl) (by kernel_rfl) (by kernel_rfl)) ?_
            refine zlRun (n := 4) (j := 30) rfl (by kernel_rfl) ?_
            refine zlSplit 38 (!z31) (by kernel_rfl) (fun hc => ?_) (fun hc => ?_)
            · replace hS := cond_t hc hS
              refine zlRun (n := 9) (j := 39) rfl (by kernel_rfl) ?_
              refine zlEnd (by kernel_rfl) ?_
              refine zkSeq ?_
              refine zrCondT (by kernel_rfl) ?_
              refine zrSeq ?_
              refine zrReg ?_
              refine zlRun (n := 2) (j := 2) rfl (by kernel_rfl) ?_
              refine zlEnd (by kernel_rfl) ?_
              refine zkSeq ?_
              refine zrRet ?_
              refine zkSeqR ?_
              refine zkNil ?_
              exact endQ hS hQ (fRet ((congrArg (fun s => outR s 0 c19.res) (by kernel_rfl : finSt c19.fin _ = f19_fin [] 1)).trans (f19_out [] 1)))
            · replace hS := cond_f hc hS
              refine zlRun (n := 2) (j := 32) rfl (by kernel_rfl) ?_
              refine zlBool (d := 41) (op := (.cmpI .neq (.tmp 40) (.const (.int .i64 0)))) (g := (some (38, false))) (j := 33) (!decide (a1.Name = 0)) rfl (by kernel_rfl) (by kernel_rfl) (by kernel_rfl) (fun hc => ?_) (fun hc => ?_)
              · replace hS := cond_t hc hS
                refine zlRun (n := 3) (j := 36) rfl (by kernel_rfl) ?_
                refine zlBool (d := 45) (op := (.cmpI .neq (.tmp 44) (.const (.int .i64 0)))) (g := (some (42, true))) (j := 37) (!decide (a1.Rune = 0)) rfl (by kernel_rfl) (by kernel_rfl) (by kernel_rfl) (fun hc => ?_) (fun hc => ?_)
                · replace hS := cond_t hc hS
                  refine zlRun (n := 2) (j := 39) rfl (by kernel_rfl) ?_
                  refine zlEnd (by kernel_rfl) ?_
                  refine zkSeq ?_
                  refine zrCondT (by kernel_rfl) ?_
                  refine zrSeq ?_
                  refine zrReg ?_
                  refine zlRun (n := 2) (j := 2) rfl (by kernel_rfl) ?_
                  refine zlEnd (by kernel_rfl) ?_
                  refine zkSeq ?_
                  refine zrRet ?_
                  refine zkSeqR ?_
                  refine zkNil ?_
                  exact endQ hS hQ (fRet ((congrArg (fun s => outR s 0 c19.res) (by kernel_rfl : finSt c19.fin _ = f19_fin [] 1)).trans (f19_out [] 1)))
                · replace hS := cond_f hc hS
                  refine zlRun (n := 2) (j := 39) rfl (by kernel_rfl) ?_
                  refine zlEnd (by kernel_rfl) ?_
                  refine zkSeq ?_
                  refine zrCondF (by kernel_rfl) ?_
                  refine zrSkip ?_
                  refine zkSeq ?_
                  exact f19_j0_ok hd a1 a2 hQ  hS (by kernel_rfl)
              · replace hS := cond_f hc hS
                refine zlRun (n := 6) (j := 39) rfl (by kernel_rfl) ?_
                refine zlEnd (by kernel_rfl) ?_
                refine zkSeq ?_
                refine zrCondF (by kernel_rfl) ?_
                refine zrSkip ?_
                refine zkSeq ?_
                exact f19_j0_ok hd a1 a2 hQ  hS (by kernel_rfl)
          · replace hS := cond_f hc hS
            refine zlRun (n := 10) (j := 32) rfl (by kernel_rfl) ?_
            refine zlBool (d := 41) (op := (.cmpI .neq (.tmp 40) (.const (.int .i64 0)))) (g := (some (38, false))) (j := 33) (!decide (a1.Name = 0)) rfl (by kernel_rfl) (by kernel_rfl) (by kernel_rfl) (fun hc => ?_) (fun hc => ?_)
            · replace hS := cond_t hc hS
              refine zlRun (n := 3) (j := 36) rfl (by kernel_rfl) ?_
              refine zlBool (d := 45) (op := (.cmpI .neq (.tmp 44) (.const (.int .i64 0)))) (g := (some (42, true))) (j := 37) (!decide (a1.Rune = 0)) rfl (by kernel_rfl) (by kernel_rfl) (by kernel_rfl) (fun hc => ?_) (fun hc => ?_)
              · replace hS := cond_t hc hS
                refine zlRun (n := 2) (j := 39) rfl (by kernel_rfl) ?_
                refine zlEnd (by kernel_rfl) ?_
                refine zkSeq ?_
                refine zrCondT (by kernel_rfl) ?_
                refine zrSeq ?_
                refine zrReg ?_
                refine zlRun (n := 2) (j := 2) rfl (by kernel_rfl) ?_
                refine zlEnd (by kernel_rfl) ?_
                refine zkSeq ?_
                refine zrRet ?_
                refine zkSeqR ?_
                refine zkNil ?_
                exact endQ hS hQ (fRet ((congrArg (fun s => outR s 0 c19.res) (by kernel_rfl : finSt c19.fin _ = f19_fin [] 1)).trans (f19_out [] 1)))
              · replace hS := cond_f hc hS
                refine zlRun (n := 2) (j := 39) rfl (by kernel_rfl) ?_
                refine zlEnd (by kernel_rfl) ?_
                refine zkSeq ?_
                refine zrCondF (by kernel_rfl) ?_
                refine zrSkip ?_
                refine zkSeq ?_
                exact f19_j0_ok hd a1 a2 hQ  hS (by kernel_rfl)
            · replace hS := cond_f hc hS
              refine zlRun (n := 6) (j := 39) rfl (by kernel_rfl) ?_
              refine zlEnd (by kernel_rfl) ?_
              refine zkSeq ?_
              refine zrCondF (by kernel_rfl) ?_
              refine zrSkip ?_
              refine zkSeq ?_
              exact f19_j0_ok hd a1 a2 hQ  hS (by kernel_rfl)
/- farwriter/farkeep.pressLives -/
def f20_fin (p3 : Bool) : St := ⟨(up (fun _ => .un) 0 (.d (.bool p3))), (hB fun _ => 0)⟩
theorem f20_out (p3 : Bool) : outR (f20_fin p3) 0 c20.res = some ((.d (.bool p3)), []) := by
  kernel_rfl
def f20_Q (r : Bool) (e : PX) (st : St) : Prop := DoneF c20 0 ((.d (.bool r)), []) e st
noncomputable def f20  : Option (Bool) := ((f19 (GKey.mk 1 0 4) 0).bind fun z2 => (bif (decide (z2.2 = 0)) then (bif (decide (z2.1 = ([27, 91, 49, 59, 53, 65] : List UInt8))) then (some true) else (some false)) else (some false)))
theorem f20_ok (d : Nat) (hd : 7 ≤ d)  (r : Bool) (hS : f20 = some r) : lev codes baseL d 20 [] [] = some ((.d (.bool r)), []) := by
  refine lev_go codes20 rfl rfl (Nat.le_trans (Nat.le_of_ble_eq_true rfl) hd) fun Q hQ => ?_
  unfold f20 at hS
  show ZR _ Q c20_b [] _
  replace hQ : ∀ e st', f20_Q r e st' → Q e st' := hQ
  refine zrSeq ?_
  refine zrReg ?_
  refine zlRun (n := 1) (j := 1) rfl (by kernel_rfl) ?_
  refine zlEnd (by kernel_rfl) ?_
  refine zkSeq ?_
  refine zrSeq ?_
  refine zrReg ?_
  refine zlRun (n := 1) (j := 1) rfl (by kernel_rfl) ?_
  refine bindE hS (fun z2 hz2 hS => ?_)
  refine zlOp (d := some 5) (op := (.call 19 [(.tmp 4), (.const (.int .i64 0))])) (g := none) (v := (.tup [(.d (.str z2.1)), (.d (.int .i64 z2.2))])) (ups := []) (j := 2) rfl (by kernel_rfl) (by kernel_rfl) (ev_call (args := [(.agg ((.d (.int .i64 1)) :: ((.d (.int .i64 0)) :: ((.d (.int .i64 4)) :: [])))), (.d (.int .i64 0))]) (l := [(.agg ((.d (.int .i64 1)) :: ((.d (.int .i64 0)) :: ((.d (.int .i64 4)) :: [])))), (.d (.int .i64 0))]) (r := (.tup [(.d (.str z2.1)), (.d (.int .i64 z2.2))])) (by kernel_rfl) (by kernel_rfl) (f19_ok (d - 1) (dpt hd rfl) (GKey.mk 1 0 4) 0 z2 hz2) (by kernel_rfl) (by kernel_rfl) (by kernel_rfl)) ?_
  refine zlRun (n := 5) (j := 7) rfl (by kernel_rfl) ?_
  refine zlEnd (by kernel_rfl) ?_
  refine zkSeq ?_
  refine zrSeq ?_
  refine zrReg ?_
  refine zlRun (n := 1) (j := 1) rfl (by kernel_rfl) ?_
  refine zlBool (d := 9) (op := (.cmpI .eql (.tmp 8) (.const (.int .i64 0)))) (g := none) (j := 2) (decide (z2.2 = 0)) rfl (by kernel_rfl) (by kernel_rfl) (by kernel_rfl) (fun hc => ?_) (fun hc => ?_)
  · replace hS := cond_t hc hS
    refine zlRun (n := 2) (j := 4) rfl (by kernel_rfl) ?_
    refine zlBool (d := 12) (op := (.strO .eql (.tmp 11) (.const (.string ⟨#[27, 91, 49, 59, 53, 65]⟩)))) (g := (some (10, true))) (j := 5) (decide (z2.1 = ([27, 91, 49, 59, 53, 65] : List UInt8))) rfl (by kernel_rfl) (by kernel_rfl) (by kernel_rfl) (fun hc => ?_) (fun hc => ?_)
    · replace hS := cond_t hc hS
      refine zlRun (n := 2) (j := 7) rfl (by kernel_rfl) ?_
      refine zlEnd (by kernel_rfl) ?_
      refine zkSeq ?_
      refine zrRet ?_
      refine zkNil ?_
      exact endQ hS hQ (fRet ((congrArg (fun s => outR s 0 c20.res) (by kernel_rfl : finSt c20.fin _ = f20_fin true)).trans (f20_out true)))
    · replace hS := cond_f hc hS
      refine zlRun (n := 2) (j := 7) rfl (by kernel_rfl) ?_
      refine zlEnd (by kernel_rfl) ?_
      refine zkSeq ?_
      refine zrRet ?_
      refine zkNil ?_
      exact endQ hS hQ (fRet ((congrArg (fun s => outR s 0 c20.res) (by kernel_rfl : finSt c20.fin _ = f20_fin false)).trans (f20_out false)))
  · replace hS := cond_f hc hS
    refine zlRun (n := 5) (j := 7) rfl (by kernel_rfl) ?_
    refine zlEnd (by kernel_rfl) ?_
    refine zkSeq ?_
    refine zrRet ?_
    refine zkNil ?_
    exact endQ hS hQ (fRet ((congrArg (fun s => outR s 0 c20.res) (by kernel_rfl : finSt c20.fin _ = f20_fin false)).trans (f20_out false)))
/- farwriter/utf.need -/
def f70_fin (p11 : Int) (p12 : UInt8) (p13 : UInt8) : St := ⟨(up (up (up (fun _ => .un) 4 (.d (.int .u8 (p13.toNat : Int)))) 3 (.d (.int .u8 (p12.toNat : Int)))) 2 (.d (.int .i64 p11))), (hB fun _ => 0)⟩
theorem f70_out (p11 : Int) (p12 : UInt8) (p13 : UInt8) : outR (f70_fin p11 p12 p13) 0 c70.res = some ((.tup [(.d (.int .i64 p11)), (.d (.int .u8 (p12.toNat : Int))), (.d (.int .u8 (p13.toNat : Int)))]), []) := by
  kernel_rfl
def f70_Q (r : Int × UInt8 × UInt8) (e : PX) (st : St) : Prop := DoneF c70 0 ((.tup [(.d (.int .i64 r.1)), (.d (.int .u8 (r.2.1.toNat : Int))), (.d (.int .u8 (r.2.2.toNat : Int)))]), []) e st
def f70_j1_J (a1 : UInt8) : St := ⟨(up (fun _ => .un) 0 (.d (.int .u8 (a1.toNat : Int)))), (hB fun _ => 0)⟩
noncomputable def f70_j1 (a1 : UInt8) : Option (Int × UInt8 × UInt8) := (bif (decide ((a1.toNat : Int) = 240)) then (some (3, (144 : UInt8), (191 : UInt8))) else (bif (decide ((a1.toNat : Int) = 244)) then (some (3, (128 : UInt8), (143 : UInt8))) else (bif (decide (241 ≤ (a1.toNat : Int))) then (bif (decide ((a1.toNat : Int) ≤ 243)) then (some (3, (128 : UInt8), (191 : UInt8))) else (some (0, (0 : UInt8), (0 : UInt8)))) else (some (0, (0 : UInt8), (0 : UInt8))))))
theorem f70_j1_ok {d : Nat} (hd : 1 ≤ d) (a1 : UInt8) {r : Int × UInt8 × UInt8} {Q : PX → St → Prop} (hQ : ∀ e st', f70_Q r e st' → Q e st')  (hS : f70_j1 a1 = some r) {st : St} (he : keepSt [0] [] [] st = f70_j1_J a1) : ZR (lev codes baseL (d - 1)) Q c70_1 [.blk 0, .seq c70_2] st := by
  refine zrKeep he ?_
  unfold f70_j1 at hS
  refine zrSeq ?_
  refine zrReg ?_
  refine zlRun (n := 1) (j := 1) rfl (by kernel_rfl) ?_
  refine zlBool (d := 27) (op := (.cmpI .eql (.tmp 26) (.const (.int .u8 240)))) (g := none) (j := 2) (decide ((a1.toNat : Int) = 240)) rfl (by kernel_rfl) (by kernel_rfl) (by kernel_rfl) (fun hc => ?_) (fun hc => ?_)
  · replace hS := cond_t hc hS
    refine zlRun (n := 1) (j := 3) rfl (by kernel_rfl) ?_
    refine zlEnd (by kernel_rfl) ?_
    refine zkSeq ?_
    refine zrCondT (by kernel_rfl) ?_
    refine zrSeq ?_
    refine zrReg ?_
    refine zlRun (n := 3) (j := 3) rfl (by kernel_rfl) ?_
    refine zlEnd (by kernel_rfl) ?_
    refine zkSeq ?_
    refine zrRet ?_
    refine zkBlkR ?_
    refine zkSeqR ?_
    refine zkNil ?_
    exact endQ hS hQ (fRet ((congrArg (fun s => outR s 0 c70.res) (by kernel_rfl : finSt c70.fin _ = f70_fin 3 (144 : UInt8) (191 : UInt8))).trans (f70_out 3 (144 : UInt8) (191 : UInt8))))
  · replace hS := cond_f hc hS
    refine zlRun (n := 1) (j := 3) rfl (by kernel_rfl) ?_
    refine zlEnd (by kernel_rfl) ?_
    refine zkSeq ?_
    refine zrCondF (by kernel_rfl) ?_
    refine zrSeq ?_
    refine zrReg ?_
    refine zlRun (n := 1) (j := 1) rfl (by kernel_rfl) ?_
    refine zlBool (d := 30) (op := (.cmpI .eql (.tmp 29) (.const (.int .u8 244)))) (g := none) (j := 2) (decide ((a1.toNat : Int) = 244)) rfl (by kernel_rfl) (by kernel_rfl) (by kernel_rfl) (fun hc => ?_) (fun hc => ?_)
    · replace hS := cond_t hc hS
      refine zlRun (n := 1) (j := 3) rfl (by kernel_rfl) ?_
      refine zlEnd (by kernel_rfl) ?_
      refine zkSeq ?_
      refine zrCondT (by kernel_rfl) ?_
      refine zrSeq ?_
      refine zrReg ?_
      refine zlRun (n := 3) (j := 3) rfl (by kernel_rfl) ?_
      refine zlEnd (by kernel_rfl) ?_
      refine zkSeq ?_
      refine zrRet ?_
      refine zkBlkR ?_
      refine zkSeqR ?_
      refine zkNil ?_
      exact endQ hS hQ (fRet ((congrArg (fun s => outR s 0 c70.res) (by kernel_rfl : finSt c70.fin _ = f70_fin 3 (128 : UInt8) (143 : UInt8))).trans (f70_out 3 (128 : UInt8) (143 : UInt8))))
    · replace hS := cond_f hc hS
      refine zlRun (n := 1) (j := 3) rfl (by kernel_rfl) ?_
      refine zlEnd (by kernel_rfl) ?_
      refine zkSeq ?_
      refine zrCondF (by kernel_rfl) ?_
      refine zrSeq ?_
      refine zrReg ?_
      refine zlRun (n := 1) (j := 1) rfl (by kernel_rfl) ?_
      refine zlBool (d := 33) (op := (.cmpI .geq (.tmp 32) (.const (.int .u8 241)))) (g := none) (j := 2) (decide (241 ≤ (a1.toNat : Int))) rfl (by kernel_rfl) (by kernel_rfl) (by kernel_rfl) (fun hc => ?_) (fun hc => ?_)
      · replace hS := cond_t hc hS
        refine zlRun (n := 2) (j := 4) rfl (by kernel_rfl) ?_
        refine zlBool (d := 36) (op := (.cmpI .leq (.tmp 35) (.const (.int .u8 243)))) (g := (some (34, true))) (j := 5) (decide ((a1.toNat : Int) ≤ 243)) rfl (by kernel_rfl) (by kernel_rfl) (by kernel_rfl) (fun hc => ?_) (fun hc => ?_)
        · replace hS := cond_t hc hS
          refine zlRun (n := 2) (j := 7) rfl (by kernel_rfl) ?_
          refine zlEnd (by kernel_rfl) ?_
          refine zkSeq ?_
          refine zrCondT (by kernel_rfl) ?_
          refine zrSeq ?_
          refine zrReg ?_
          refine zlRun (n := 3) (j := 3) rfl (by kernel_rfl) ?_
          refine zlEnd (by kernel_rfl) ?_
          refine zkSeq ?_
          refine zrRet ?_
          refine zkBlkR ?_
          refine zkSeqR ?_
          refine zkNil ?_
          exact endQ hS hQ (fRet ((congrArg (fun s => outR s 0 c70.res) (by kernel_rfl : finSt c70.fin _ = f70_fin 3 (128 : UInt8) (191 : UInt8))).trans (f70_out 3 (128 : UInt8) (191 : UInt8))))
        · replace hS := cond_f hc hS
          refine zlRun (n := 2) (j := 7) rfl (by kernel_rfl) ?_
          refine zlEnd (by kernel_rfl) ?_
          refine zkSeq ?_
          refine zrCondF (by kernel_rfl) ?_
          refine zrSkip ?_
          refine zkBlk ?_
          refine zkSeq ?_
          refine zrSeq ?_
          refine zrReg ?_
          refine zlRun (n := 3) (j := 3) rfl (by kernel_rfl) ?_
          refine zlEnd (by kernel_rfl) ?_
          refine zkSeq ?_
          refine zrRet ?_
          refine zkNil ?_
          exact endQ hS hQ (fRet ((congrArg (fun s => outR s 0 c70.res) (by kernel_rfl : finSt c70.fin _ = f70_fin 0 (0 : UInt8) (0 : UInt8))).trans (f70_out 0 (0 : UInt8) (0 : UInt8))))
      · replace hS := cond_f hc hS
        refine zlRun (n := 5) (j := 7) rfl (by kernel_rfl) ?_
        refine zlEnd (by kernel_rfl) ?_
        refine zkSeq ?_
        refine zrCondF (by kernel_rfl) ?_
        refine zrSkip ?_
        refine zkBlk ?_
        refine zkSeq ?_
        refine zrSeq ?_
        refine zrReg ?_
        refine zlRun (n := 3) (j := 3) rfl (by kernel_rfl) ?_
        refine zlEnd (by kernel_rfl) ?_
        refine zkSeq ?_
        refine zrRet ?_
        refine zkNil ?_
        exact endQ hS hQ (fRet ((congrArg (fun s => outR s 0 c70.res) (by kernel_rfl : finSt c70.fin _ = f70_fin 0 (0 : UInt8) (0 : UInt8))).trans (f70_out 0 (0 : UInt8) (0 : UInt8))))
def f70_j0_J (a1 : UInt8) : St := ⟨(up (fun _ => .un) 0 (.d (.int .u8 (a1.toNat : Int)))), (hB fun _ => 0)⟩
noncomputable def f70_j0 (a1 : UInt8) : Option (Int × UInt8 × UInt8) := (bif (decide ((a1.toNat : Int) = 224)) then (some (2, (160 : UInt8), (191 : UInt8))) else (bif (decide ((a1.toNat : Int) = 237)) then (some (2, (128 : UInt8), (159 : UInt8))) else (bif (decide (225 ≤ (a1.toNat : Int))) then (bif (decide ((a1.toNat : Int) ≤ 239)) then (some (2, (128 : UInt8), (191 : UInt8))) else (f70_j1 a1 )) else (f70_j1 a1 ))))
theorem f70_j0_ok {d : Nat} (hd : 1 ≤ d) (a1 : UInt8) {r : Int × UInt8 × UInt8} {Q : PX → St → Prop} (hQ : ∀ e st', f70_Q r e st' → Q e st')  (hS : f70_j0 a1 = some r) {st : St} (he : keepSt [0] [] [] st = f70_j0_J a1) : ZR (lev codes baseL (d - 1)) Q c70_3 [.blk 0, .seq c70_2] st := by
  refine zrKeep he ?_
  unfold f70_j0 at hS
  refine zrSeq ?_
  refine zrReg ?_
  refine zlRun (n := 1) (j := 1) rfl (by kernel_rfl) ?_
  refine zlBool (d := 14) (op := (.cmpI .eql (.tmp 13) (.const (.int .u8 224)))) (g := none) (j := 2) (decide ((a1.toNat : Int) = 224)) rfl (by kernel_rfl) (by kernel_rfl) (by kernel_rfl) (fun hc => ?_) (fun hc => ?_)
  · replace hS := cond_t hc hS
    refine zlRun (n := 1) (j := 3) rfl (by kernel_rfl) ?_
    refine zlEnd (by kernel_rfl) ?_
    refine zkSeq ?_
    refine zrCondT (by kernel_rfl) ?_
    refine zrSeq ?_
    refine zrReg ?_
    refine zlRun (n := 3) (j := 3) rfl (by kernel_rfl) ?_
    refine zlEnd (by kernel_rfl) ?_
    refine zkSeq ?_
    refine zrRet ?_
    refine zkBlkR ?_
    refine zkSeqR ?_
    refine zkNil ?_
    exact endQ hS hQ (fRet ((congrArg (fun s => outR s 0 c70.res) (by kernel_rfl : finSt c70.fin _ = f70_fin 2 (160 : UInt8) (191 : UInt8))).trans (f70_out 2 (160 : UInt8) (191 : UInt8))))
  · replace hS := cond_f hc hS
    refine zlRun (n := 1) (j := 3) rfl (by kernel_rfl) ?_
    refine zlEnd (by kernel_rfl) ?_
    refine zkSeq ?_
    refine zrCondF (by kernel_rfl) ?_
    refine zrSeq ?_
    refine zrReg ?_
    refine zlRun (n := 1) (j := 1) rfl (by kernel_rfl) ?_
    refine zlBool (d := 17) (op := (.cmpI .eql (.tmp 16) (.const (.int .u8 237)))) (g := none) (j := 2) (decide ((a1.toNat : Int) = 237)) rfl (by kernel_rfl) (by kernel_rfl) (by kernel_rfl) (fun hc => ?_) (fun hc => ?_)
    · replace hS := cond_t hc hS
      refine zlRun (n := 1) (j := 3) rfl (by kernel_rfl) ?_
      refine zlEnd (by kernel_rfl) ?_
      refine zkSeq ?_
      refine zrCondT (by kernel_rfl) ?_
      refine zrSeq ?_
      refine zrReg ?_
      refine zlRun (n := 3) (j := 3) rfl (by kernel_rfl) ?_
      refine zlEnd (by kernel_rfl) ?_
      refine zkSeq ?_
      refine zrRet ?_
      refine zkBlkR ?_
      refine zkSeqR ?_
      refine zkNil ?_
      exact endQ hS hQ (fRet ((congrArg (fun s => outR s 0 c70.res) (by kernel_rfl : finSt c70.fin _ = f70_fin 2 (128 : UInt8) (159 : UInt8))).trans (f70_out 2 (128 : UInt8) (159 : UInt8))))
    · replace hS := cond_f hc hS
      refine zlRun (n := 1) (j := 3) rfl (by kernel_rfl) ?_
      refine zlEnd (by kernel_rfl) ?_
      refine zkSeq ?_
      refine zrCondF (by kernel_rfl) ?_
      refine zrSeq ?_
      refine zrReg ?_
      refine zlRun (n := 1) (j := 1) rfl (by kernel_rfl) ?_
      refine zlBool (d := 20) (op := (.cmpI .geq (.tmp 19) (.const (.int .u8 225)))) (g := none) (j := 2) (decide (225 ≤ (a1.toNat : Int))) rfl (by kernel_rfl) (by kernel_rfl) (by kernel_rfl) (fun hc => ?_) (fun hc => ?_)
      · replace hS := cond_t hc hS
        refine zlRun (n := 2) (j := 4) rfl (by kernel_rfl) ?_
        refine zlBool (d := 23) (op := (.cmpI .leq (.tmp 22) (.const (.int .u8 239)))) (g := (some (21, true))) (j := 5) (decide ((a1.toNat : Int) ≤ 239)) rfl (by kernel_rfl) (by kernel_rfl) (by kernel_rfl) (fun hc => ?_) (fun hc => ?_)
        · replace hS := cond_t hc hS
          refine zlRun (n := 2) (j := 7) rfl (by kernel_rfl) ?_
          refine zlEnd (by kernel_rfl) ?_
          refine zkSeq ?_
          refine zrCondT (by kernel_rfl) ?_
          refine zrSeq ?_
          refine zrReg ?_
          refine zlRun (n := 3) (j := 3) rfl (by kernel_rfl) ?_
          refine zlEnd (by kernel_rfl) ?_
          refine zkSeq ?_
          refine zrRet ?_
          refine zkBlkR ?_
          refine zkSeqR ?_
          refine zkNil ?_
          exact endQ hS hQ (fRet ((congrArg (fun s => outR s 0 c70.res) (by kernel_rfl : finSt c70.fin _ = f70_fin 2 (128 : UInt8) (191 : UInt8))).trans (f70_out 2 (128 : UInt8) (191 : UInt8))))
        · replace hS := cond_f hc hS
          refine zlRun (n := 2) (j := 7) rfl (by kernel_rfl) ?_
          refine zlEnd (by kernel_rfl) ?_
          refine zkSeq ?_
          refine zrCondF (by kernel_rfl) ?_
          exact f70_j1_ok hd a1 hQ  hS (by kernel_rfl)
      · replace hS := cond_f hc hS
        refine zlRun (n := 5) (j := 7) rfl (by kernel_rfl) ?_
        refine zlEnd (by kernel_rfl) ?_
        refine zkSeq ?_
        refine zrCondF (by kernel_rfl) ?_
        exact f70_j1_ok hd a1 hQ  hS (by kernel_rfl)
noncomputable def f70 (a1 : UInt8) : Option (Int × UInt8 × UInt8) := (bif (decide (194 ≤ (a1.toNat : Int))) then (bif (decide ((a1.toNat : Int) ≤ 223)) then (some (1, (128 : UInt8), (191 : UInt8))) else (f70_j0 a1 )) else (f70_j0 a1 ))
theorem f70_ok (d : Nat) (hd : 1 ≤ d) (a1 : UInt8) (r : Int × UInt8 × UInt8) (hS : f70 a1 = some r) : lev codes baseL d 70 [(.d (.int .u8 (a1.toNat : Int)))] [] = some ((.tup [(.d (.int .i64 r.1)), (.d (.int .u8 (r.2.1.toNat : Int))), (.d (.int .u8 (r.2.2.toNat : Int)))]), []) := by
  refine lev_go codes70 rfl rfl (Nat.le_trans (Nat.le_of_ble_eq_true rfl) hd) fun Q hQ => ?_
  unfold f70 at hS
  show ZR _ Q c70_b [] _
  replace hQ : ∀ e st', f70_Q r e st' → Q e st' := hQ
  refine zrSeq ?_
  refine zrReg ?_
  refine zlRun (n := 3) (j := 3) rfl (by kernel_rfl) ?_
  refine zlEnd (by kernel_rfl) ?_
  refine zkSeq ?_
  refine zrSeq ?_
  refine zrBlk ?_
  refine zrSeq ?_
  refine zrReg ?_
  refine zlRun (n := 1) (j := 1) rfl (by kernel_rfl) ?_
  refine zlBool (d := 7) (op := (.cmpI .geq (.tmp 6) (.const (.int .u8 194)))) (g := none) (j := 2) (decide (194 ≤ (a1.toNat : Int))) rfl (by kernel_rfl) (by kernel_rfl) (by kernel_rfl) (fun hc => ?_) (fun hc => ?_)
  · replace hS := cond_t hc hS
    refine zlRun (n := 2) (j := 4) rfl (by kernel_rfl) ?_
    refine zlBool (d := 10) (op := (.cmpI .leq (.tmp 9) (.const (.int .u8 223)))) (g := (some (8, true))) (j := 5) (decide ((a1.toNat : Int) ≤ 223)) rfl (by kernel_rfl) (by kernel_rfl) (by kernel_rfl) (fun hc => ?_) (fun hc => ?_)
    · replace hS := cond_t hc hS
      refine zlRun (n := 2) (j := 7) rfl (by kernel_rfl) ?_
      refine zlEnd (by kernel_rfl) ?_
      refine zkSeq ?_
      refine zrCondT (by kernel_rfl) ?_
      refine zrSeq ?_
      refine zrReg ?_
      refine zlRun (n := 3) (j := 3) rfl (by kernel_rfl) ?_
      refine zlEnd (by kernel_rfl) ?_
      refine zkSeq ?_
      refine zrRet ?_
      refine zkBlkR ?_
      refine zkSeqR ?_
      refine zkNil ?_
      exact endQ hS hQ (fRet ((congrArg (fun s => outR s 0 c70.res) (by kernel_rfl : finSt c70.fin _ = f70_fin 1 (128 : UInt8) (191 : UInt8))).trans (f70_out 1 (128 : UInt8) (191 : UInt8))))
    · replace hS := cond_f hc hS
      refine zlRun (n := 2) (j := 7) rfl (by kernel_rfl) ?_
      refine zlEnd (by kernel_rfl) ?_
      refine zkSeq ?_
      refine zrCondF (by kernel_rfl) ?_
      exact f70_j0_ok hd a1 hQ  hS (by kernel_rfl)
  · replace hS := cond_f hc hS
    refine zlRun (n := 5) (j := 7) rfl (by kernel_rfl) ?_
    refine zlEnd (by kernel_rfl) ?_
    refine zkSeq ?_
    refine zrCondF (by kernel_rfl) ?_
    exact f70_j0_ok hd a1 hQ  hS (by kernel_rfl)
/- farwriter/utf.longest -/
def f45_fin (p102 : Int) (p103 : Bool) : St := ⟨(up (up (fun _ => .un) 3 (.d (.bool p103))) 2 (.d (.int .i64 p102))), (hB fun _ => 0)⟩
theorem f45_out (p102 : Int) (p103 : Bool) : outR (f45_fin p102 p103) 0 c45.res = some ((.tup [(.d (.int .i64 p102)), (.d (.bool p103))]), []) := by
  kernel_rfl
def f45_Q (r : Int × Bool) (e : PX) (st : St) : Prop := DoneF c45 0 ((.tup [(.d (.int .i64 r.1)), (.d (.bool r.2))]), []) e st
def f45_l1_J (a1 : List UInt8) (x : Int × UInt8 × UInt8 × Int) : St := ⟨(up (up (up (up (up (fun _ => .un) 7 (.d (.int .i64 x.2.2.2))) 6 (.d (.int .u8 (x.2.2.1.toNat : Int)))) 5 (.d (.int .u8 (x.2.1.toNat : Int)))) 4 (.d (.int .i64 x.1))) 0 (.d (.str a1))), (hB fun _ => 0)⟩
def f45_l1_H (a1 : List UInt8) (x : Int × UInt8 × UInt8 × Int) (st : St) : Prop := keepSt [0, 4, 5, 6, 7] [] [] st = f45_l1_J a1 x
def f45_l1_e0_J (a1 : List UInt8) (p204 : Int) (p205 : Int) : St := ⟨(up (up (fun _ => .un) 7 (.d (.int .i64 p205))) 4 (.d (.int .i64 p204))), (hB fun _ => 0)⟩
def f45_l1_X (a1 : List UInt8) (z : (Int × Int)) (e : PX) (st : St) : Prop := e = .exit 0 ∧ st = f45_l1_e0_J a1 z.1 z.2
noncomputable def f45_l1 (a1 : List UInt8) (x : Int × UInt8 × UInt8 × Int) : Option ((Int × UInt8 × UInt8 × Int) ⊕ ((Int × Int))) := (bif (decide (x.2.2.2 ≤ x.1)) then (bif (decide (x.2.2.2 < (a1.length : Int))) then ((idx a1 x.2.2.2).bind fun z21 => (bif (decide ((x.2.1.toNat : Int) ≤ (z21.toNat : Int))) then ((idx a1 x.2.2.2).bind fun z22 => (bif (decide ((z22.toNat : Int) ≤ (x.2.2.1.toNat : Int))) then (some (.inl (x.1, (128 : UInt8), (191 : UInt8), (IntKind.i64.wrap (x.2.2.2 + 1))))) else (some (.inr (x.1, x.2.2.2))))) else (some (.inr (x.1, x.2.2.2))))) else (some (.inr (x.1, x.2.2.2)))) else (some (.inr (x.1, x.2.2.2))))
theorem f45_l1_ok {d : Nat} (hd : 2 ≤ d) (a1 : List UInt8) {r : (Int × UInt8 × UInt8 × Int) ⊕ ((Int × Int))} {Q : PX → St → Prop} (hQ : ∀ e st', finL (f45_l1_H a1) (f45_l1_X a1) r e st' → Q e st') {x : Int × UInt8 × UInt8 × Int} (hS : f45_l1 a1 x = some r) {st : St} (he : f45_l1_H a1 x st) : ZR (lev codes baseL (d - 1)) Q c45_1 [] st := by
  refine zrKeep he ?_
  unfold f45_l1 at hS
  refine zrSeq ?_
  refine zrSeq ?_
  refine zrReg ?_
  refine zlRun (n := 2) (j := 2) rfl (by kernel_rfl) ?_
  refine zlBool (d := 19) (op := (.cmpI .leq (.tmp 17) (.tmp 18))) (g := none) (j := 3) (decide (x.2.2.2 ≤ x.1)) rfl (by kernel_rfl) (by kernel_rfl) (by kernel_rfl) (fun hc => ?_) (fun hc => ?_)
  · replace hS := cond_t hc hS
    refine zlRun (n := 4) (j := 7) rfl (by kernel_rfl) ?_
    refine zlBool (d := 24) (op := (.cmpI .lss (.tmp 21) (.tmp 23))) (g := (some (20, true))) (j := 8) (decide (x.2.2.2 < (a1.length : Int))) rfl (by kernel_rfl) (by kernel_rfl) (by kernel_rfl) (fun hc => ?_) (fun hc => ?_)
    · replace hS := cond_t hc hS
      refine zlRun (n := 4) (j := 12) rfl (by kernel_rfl) ?_
      refine bindE hS (fun z21 hz21 hS => ?_)
      refine zlOp (d := some 29) (op := (.ixStr (.tmp 27) (.tmp 28))) (g := (some (26, true))) (v := (.d (.int .u8 (z21.toNat : Int)))) (ups := []) (j := 13) rfl (by kernel_rfl) (by kernel_rfl) (ev_ixStr (kk := .i64) (s := a1) (j := x.2.2.2) (by kernel_rfl) (by kernel_rfl) hz21) ?_
      refine zlRun (n := 1) (j := 14) rfl (by kernel_rfl) ?_
      refine zlBool (d := 31) (op := (.cmpI .geq (.tmp 29) (.tmp 30))) (g := (some (26, true))) (j := 15) (decide ((x.2.1.toNat : Int) ≤ (z21.toNat : Int))) rfl (by kernel_rfl) (by kernel_rfl) (by kernel_rfl) (fun hc => ?_) (fun hc => ?_)
      · replace hS := cond_t hc hS
        refine zlRun (n := 4) (j := 19) rfl (by kernel_rfl) ?_
        refine bindE hS (fun z22 hz22 hS => ?_)
        refine zlOp (d := some 36) (op := (.ixStr (.tmp 34) (.tmp 35))) (g := (some (33, true))) (v := (.d (.int .u8 (z22.toNat : Int)))) (ups := []) (j := 20) rfl (by kernel_rfl) (by kernel_rfl) (ev_ixStr (kk := .i64) (s := a1) (j := x.2.2.2) (by kernel_rfl) (by kernel_rfl) hz22) ?_
        refine zlRun (n := 1) (j := 21) rfl (by kernel_rfl) ?_
        refine zlBool (d := 38) (op := (.cmpI .leq (.tmp 36) (.tmp 37))) (g := (some (33, true))) (j := 22) (decide ((z22.toNat : Int) ≤ (x.2.2.1.toNat : Int))) rfl (by kernel_rfl) (by kernel_rfl) (by kernel_rfl) (fun hc => ?_) (fun hc => ?_)
        · replace hS := cond_t hc hS
          refine zlRun (n := 1) (j := 23) rfl (by kernel_rfl) ?_
          refine zlEnd (by kernel_rfl) ?_
          refine zkSeq ?_
          refine zrCondT (by kernel_rfl) ?_
          refine zrSkip ?_
          refine zkSeq ?_
          refine zrBlk ?_
          refine zrSeq ?_
          refine zrReg ?_
          refine zlRun (n := 2) (j := 2) rfl (by kernel_rfl) ?_
          refine zlEnd (by kernel_rfl) ?_
          refine zkSeq ?_
          refine zrReg ?_
          refine zlRun (n := 3) (j := 3) rfl (by kernel_rfl) ?_
          refine zlEnd (by kernel_rfl) ?_
          refine zkBlk ?_
          refine zkNil ?_
          exact endQ hS hQ (finL_n (by show keepSt _ _ _ _ = _; kernel_rfl))
        · replace hS := cond_f hc hS
          refine zlRun (n := 1) (j := 23) rfl (by kernel_rfl) ?_
          refine zlEnd (by kernel_rfl) ?_
          refine zkSeq ?_
          refine zrCondF (by kernel_rfl) ?_
          refine zrKeep (J := f45_l1_e0_J a1 x.1 x.2.2.2) (by kernel_rfl) ?_
          refine zrExit ?_
          refine zkSeqX ?_
          refine zkNil ?_
          exact endQ hS hQ (finL_x (by intro h; cases h) (by show _ = _ ∧ _ = _; exact ⟨rfl, rfl⟩))
      · replace hS := cond_f hc hS
        refine zlRun (n := 8) (j := 23) rfl (by kernel_rfl) ?_
        refine zlEnd (by kernel_rfl) ?_
        refine zkSeq ?_
        refine zrCondF (by kernel_rfl) ?_
        refine zrKeep (J := f45_l1_e0_J a1 x.1 x.2.2.2) (by kernel_rfl) ?_
        refine zrExit ?_
        refine zkSeqX ?_
        refine zkNil ?_
        exact endQ hS hQ (finL_x (by intro h; cases h) (by show _ = _ ∧ _ = _; exact ⟨rfl, rfl⟩))
    · replace hS := cond_f hc hS
      refine zlRun (n := 15) (j := 23) rfl (by kernel_rfl) ?_
      refine zlEnd (by kernel_rfl) ?_
      refine zkSeq ?_
      refine zrCondF (by kernel_rfl) ?_
      refine zrKeep (J := f45_l1_e0_J a1 x.1 x.2.2.2) (by kernel_rfl) ?_
      refine zrExit ?_
      refine zkSeqX ?_
      refine zkNil ?_
      exact endQ hS hQ (finL_x (by intro h; cases h) (by show _ = _ ∧ _ = _; exact ⟨rfl, rfl⟩))
  · replace hS := cond_f hc hS
    refine zlRun (n := 20) (j := 23) rfl (by kernel_rfl) ?_
    refine zlEnd (by kernel_rfl) ?_
    refine zkSeq ?_
    refine zrCondF (by kernel_rfl) ?_
    refine zrKeep (J := f45_l1_e0_J a1 x.1 x.2.2.2) (by kernel_rfl) ?_
    refine zrExit ?_
    refine zkSeqX ?_
    refine zkNil ?_
    exact endQ hS hQ (finL_x (by intro h; cases h) (by show _ = _ ∧ _ = _; exact ⟨rfl, rfl⟩))
def f45_j0_J (a1 : List UInt8) (p108 : Int) (p109 : UInt8) (p110 : UInt8) : St := ⟨(up (up (up (up (fun _ => .un) 6 (.d (.int .u8 (p110.toNat : Int)))) 5 (.d (.int .u8 (p109.toNat : Int)))) 4 (.d (.int .i64 p108))) 0 (.d (.str a1))), (hB fun _ => 0)⟩
noncomputable def f45_j0 (a1 : List UInt8) (p108 : Int) (p109 : UInt8) (p110 : UInt8) : Option (Int × Bool) := ((loopO (f45_l1 a1) (p108, p109, p110, 1)).bind fun z23 => (bif (decide (z23.1 < z23.2)) then (some (z23.2, true)) else (some (z23.2, false))))
theorem f45_j0_ok {d : Nat} (hd : 2 ≤ d) (a1 : List UInt8) {r : Int × Bool} {Q : PX → St → Prop} (hQ : ∀ e st', f45_Q r e st' → Q e st') (p108 : Int) (p109 : UInt8) (p110 : UInt8) (hS : f45_j0 a1 p108 p109 p110 = some r) {st : St} (he : keepSt [0, 4, 5, 6] [] [] st = f45_j0_J a1 p108 p109 p110) : ZR (lev codes baseL (d - 1)) Q c45_2 [] st := by
  refine zrKeep he ?_
  unfold f45_j0 at hS
  refine zrSeq ?_
  refine zrReg ?_
  refine zlRun (n := 1) (j := 1) rfl (by kernel_rfl) ?_
  refine zlEnd (by kernel_rfl) ?_
  refine zkSeq ?_
  refine zrSeq ?_
  refine zrBlk ?_
  refine bindE hS (fun z23 hz23 hS => ?_)
  refine zrLoop (f45_l1_H a1) (f45_l1_X a1) (fun x st r Q h0 hS hQ => f45_l1_ok hd a1 hQ hS h0) (x := (p108, p109, p110, 1)) (z := z23) (by show keepSt _ _ _ _ = _; kernel_rfl) hz23 ?_
  intro e st' _ hX
  obtain ⟨rfl, rfl⟩ : _ ∧ _ := hX
  refine zkBlkX ?_
  refine zkSeq ?_
  refine zrSeq ?_
  refine zrReg ?_
  refine zlRun (n := 3) (j := 3) rfl (by kernel_rfl) ?_
  refine zlBool (d := 45) (op := (.cmpI .gtr (.tmp 43) (.tmp 44))) (g := none) (j := 4) (decide (z23.1 < z23.2)) rfl (by kernel_rfl) (by kernel_rfl) (by kernel_rfl) (fun hc => ?_) (fun hc => ?_)
  · replace hS := cond_t hc hS
    refine zlRun (n := 2) (j := 6) rfl (by kernel_rfl) ?_
    refine zlEnd (by kernel_rfl) ?_
    refine zkSeq ?_
    refine zrRet ?_
    refine zkNil ?_
    exact endQ hS hQ (fRet ((congrArg (fun s => outR s 0 c45.res) (by kernel_rfl : finSt c45.fin _ = f45_fin z23.2 true)).trans (f45_out z23.2 true)))
  · replace hS := cond_f hc hS
    refine zlRun (n := 2) (j := 6) rfl (by kernel_rfl) ?_
    refine zlEnd (by kernel_rfl) ?_
    refine zkSeq ?_
    refine zrRet ?_
    refine zkNil ?_
    exact endQ hS hQ (fRet ((congrArg (fun s => outR s 0 c45.res) (by kernel_rfl : finSt c45.fin _ = f45_fin z23.2 false)).trans (f45_out z23.2 false)))
noncomputable def f45 (a1 : List UInt8) : Option (Int × Bool) := ((idx a1 0).bind fun z11 => ((f70 z11).bind fun z12 => (bif (decide (z12.1 = 0)) then (some (0, false)) else (f45_j0 a1 z12.1 z12.2.1 z12.2.2))))
theorem f45_ok (d : Nat) (hd : 2 ≤ d) (a1 : List UInt8) (r : Int × Bool) (hS : f45 a1 = some r) : lev codes baseL d 45 [(.d (.str a1))] [] = some ((.tup [(.d (.int .i64 r.1)), (.d (.bool r.2))]), []) := by
  refine lev_go codes45 rfl rfl (Nat.le_trans (Nat.le_of_ble_eq_true rfl) hd) fun Q hQ => ?_
  unfold f45 at hS
  show ZR _ Q c45_b [] _
  replace hQ : ∀ e st', f45_Q r e st' → Q e st' := hQ
  refine zrSeq ?_
  refine zrReg ?_
  refine zlRun (n := 2) (j := 2) rfl (by kernel_rfl) ?_
  refine zlEnd (by kernel_rfl) ?_
  refine zkSeq ?_
  refine zrSeq ?_
  refine zrReg ?_
  refine zlRun (n := 1) (j := 1) rfl (by kernel_rfl) ?_
  refine bindE hS (fun z11 hz11 hS => ?_)
  refine zlOp (d := some 10) (op := (.ixStr (.tmp 9) (.const (.int .i64 0)))) (g := none) (v := (.d (.int .u8 (z11.toNat : Int)))) (ups := []) (j := 2) rfl (by kernel_rfl) (by kernel_rfl) (ev_ixStr (kk := .i64) (s := a1) (j := 0) (by kernel_rfl) (by kernel_rfl) hz11) ?_
  refine bindE hS (fun z12 hz12 hS => ?_)
  refine zlOp (d := some 11) (op := (.call 70 [(.tmp 10)])) (g := none) (v := (.tup [(.d (.int .i64 z12.1)), (.d (.int .u8 (z12.2.1.toNat : Int))), (.d (.int .u8 (z12.2.2.toNat : Int)))])) (ups := []) (j := 3) rfl (by kernel_rfl) (by kernel_rfl) (ev_call (args := [(.d (.int .u8 (z11.toNat : Int)))]) (l := [(.d (.int .u8 (z11.toNat : Int)))]) (r := (.tup [(.d (.int .i64 z12.1)), (.d (.int .u8 (z12.2.1.toNat : Int))), (.d (.int .u8 (z12.2.2.toNat : Int)))])) (by kernel_rfl) (by kernel_rfl) (f70_ok (d - 1) (dpt hd rfl) z11 z12 hz12) (by kernel_rfl) (by kernel_rfl) (by kernel_rfl)) ?_
  refine zlRun (n := 7) (j := 10) rfl (by kernel_rfl) ?_
  refine zlEnd (by kernel_rfl) ?_
  refine zkSeq ?_
  refine zrSeq ?_
  refine zrSeq ?_
  refine zrReg ?_
  refine zlRun (n := 1) (j := 1) rfl (by kernel_rfl) ?_
  refine zlBool (d := 16) (op := (.cmpI .eql (.tmp 15) (.const (.int .i64 0)))) (g := none) (j := 2) (decide (z12.1 = 0)) rfl (by kernel_rfl) (by kernel_rfl) (by kernel_rfl) (fun hc => ?_) (fun hc => ?_)
  · replace hS := cond_t hc hS
    refine zlEnd (by kernel_rfl) ?_
    refine zkSeq ?_
    refine zrCondT (by kernel_rfl) ?_
    refine zrSeq ?_
    refine zrReg ?_
    refine zlRun (n := 2) (j := 2) rfl (by kernel_rfl) ?_
    refine zlEnd (by kernel_rfl) ?_
    refine zkSeq ?_
    refine zrRet ?_
    refine zkSeqR ?_
    refine zkNil ?_
    exact endQ hS hQ (fRet ((congrArg (fun s => outR s 0 c45.res) (by kernel_rfl : finSt c45.fin _ = f45_fin 0 false)).trans (f45_out 0 false)))
  · replace hS := cond_f hc hS
    refine zlEnd (by kernel_rfl) ?_
    refine zkSeq ?_
    refine zrCondF (by kernel_rfl) ?_
    refine zrSkip ?_
    refine zkSeq ?_
    exact f45_j0_ok hd a1 hQ z12.1 z12.2.1 z12.2.2 hS (by kernel_rfl)
/- farwriter/utf.Check -/
def f44_fin (p3 : Int) : St := ⟨(up (fun _ => .un) 2 (.d (.int .i64 p3))), (hB fun _ => 0)⟩
theorem f44_out (p3 : Int) : outR (f44_fin p3) 0 c44.res = some ((.d (.int .i64 p3)), []) := by
  kernel_rfl
def f44_Q (r : Int) (e : PX) (st : St) : Prop := DoneF c44 0 ((.d (.int .i64 r)), []) e st
def f44_j0_J (a1 : List UInt8) : St := ⟨(up (fun _ => .un) 0 (.d (.str a1))), (hB fun _ => 0)⟩
noncomputable def f44_j0 (a1 : List UInt8) : Option (Int) := ((f45 a1).bind fun z2 => (bif z2.2 then (some 4) else (bif (!decide (z2.1 = (a1.length : Int))) then (some 4) else (some 0))))
theorem f44_j0_ok {d : Nat} (hd : 3 ≤ d) (a1 : List UInt8) {r : Int} {Q : PX → St → Prop} (hQ : ∀ e st', f44_Q r e st' → Q e st')  (hS : f44_j0 a1 = some r) {st : St} (he : keepSt [0] [] [] st = f44_j0_J a1) : ZR (lev codes baseL (d - 1)) Q c44_1 [] st := by
  refine zrKeep he ?_
  unfold f44_j0 at hS
  refine zrSeq ?_
  refine zrSeq ?_
  refine zrReg ?_
  refine zlRun (n := 1) (j := 1) rfl (by kernel_rfl) ?_
  refine bindE hS (fun z2 hz2 hS => ?_)
  refine zlOp (d := some 9) (op := (.call 45 [(.tmp 8)])) (g := none) (v := (.tup [(.d (.int .i64 z2.1)), (.d (.bool z2.2))])) (ups := []) (j := 2) rfl (by kernel_rfl) (by kernel_rfl) (ev_call (args := [(.d (.str a1))]) (l := [(.d (.str a1))]) (r := (.tup [(.d (.int .i64 z2.1)), (.d (.bool z2.2))])) (by kernel_rfl) (by kernel_rfl) (f45_ok (d - 1) (dpt hd rfl) a1 z2 hz2) (by kernel_rfl) (by kernel_rfl) (by kernel_rfl)) ?_
  refine zlRun (n := 5) (j := 7) rfl (by kernel_rfl) ?_
  refine zlEnd (by kernel_rfl) ?_
  refine zkSeq ?_
  refine zrSeq ?_
  refine zrReg ?_
  refine zlRun (n := 2) (j := 2) rfl (by kernel_rfl) ?_
  refine zlSplit 13 z2.2 (by kernel_rfl) (fun hc => ?_) (fun hc => ?_)
  · replace hS := cond_t hc hS
    refine zlRun (n := 5) (j := 7) rfl (by kernel_rfl) ?_
    refine zlEnd (by kernel_rfl) ?_
    refine zkSeq ?_
    refine zrCondT (by kernel_rfl) ?_
    refine zrSeq ?_
    refine zrReg ?_
    refine zlRun (n := 1) (j := 1) rfl (by kernel_rfl) ?_
    refine zlEnd (by kernel_rfl) ?_
    refine zkSeq ?_
    refine zrRet ?_
    refine zkSeqR ?_
    refine zkNil ?_
    exact endQ hS hQ (fRet ((congrArg (fun s => outR s 0 c44.res) (by kernel_rfl : finSt c44.fin _ = f44_fin 4)).trans (f44_out 4)))
  · replace hS := cond_f hc hS
    refine zlRun (n := 3) (j := 5) rfl (by kernel_rfl) ?_
    refine zlBool (d := 17) (op := (.cmpI .neq (.tmp 14) (.tmp 16))) (g := (some (13, false))) (j := 6) (!decide (z2.1 = (a1.length : Int))) rfl (by kernel_rfl) (by kernel_rfl) (by kernel_rfl) (fun hc => ?_) (fun hc => ?_)
    · replace hS := cond_t hc hS
      refine zlRun (n := 1) (j := 7) rfl (by kernel_rfl) ?_
      refine zlEnd (by kernel_rfl) ?_
      refine zkSeq ?_
      refine zrCondT (by kernel_rfl) ?_
      refine zrSeq ?_
      refine zrReg ?_
      refine zlRun (n := 1) (j := 1) rfl (by kernel_rfl) ?_
      refine zlEnd (by kernel_rfl) ?_
      refine zkSeq ?_
      refine zrRet ?_
      refine zkSeqR ?_
      refine zkNil ?_
      exact endQ hS hQ (fRet ((congrArg (fun s => outR s 0 c44.res) (by kernel_rfl : finSt c44.fin _ = f44_fin 4)).trans (f44_out 4)))
    · replace hS := cond_f hc hS
      refine zlRun (n := 1) (j := 7) rfl (by kernel_rfl) ?_
      refine zlEnd (by kernel_rfl) ?_
      refine zkSeq ?_
      refine zrCondF (by kernel_rfl) ?_
      refine zrSkip ?_
      refine zkSeq ?_
      refine zrSeq ?_
      refine zrReg ?_
      refine zlRun (n := 1) (j := 1) rfl (by kernel_rfl) ?_
      refine zlEnd (by kernel_rfl) ?_
      refine zkSeq ?_
      refine zrRet ?_
      refine zkNil ?_
      exact endQ hS hQ (fRet ((congrArg (fun s => outR s 0 c44.res) (by kernel_rfl : finSt c44.fin _ = f44_fin 0)).trans (f44_out 0)))
noncomputable def f44 (a1 : List UInt8) : Option (Int) := (bif (decide (a1 = ([] : List UInt8))) then (some 0) else (f44_j0 a1 ))
theorem f44_ok (d : Nat) (hd : 3 ≤ d) (a1 : List UInt8) (r : Int) (hS : f44 a1 = some r) : lev codes baseL d 44 [(.d (.str a1))] [] = some ((.d (.int .i64 r)), []) := by
  refine lev_go codes44 rfl rfl (Nat.le_trans (Nat.le_of_ble_eq_true rfl) hd) fun Q hQ => ?_
  unfold f44 at hS
  show ZR _ Q c44_b [] _
  replace hQ : ∀ e st', f44_Q r e st' → Q e st' := hQ
  refine zrSeq ?_
  refine zrReg ?_
  refine zlRun (n := 1) (j := 1) rfl (by kernel_rfl) ?_
  refine zlEnd (by kernel_rfl) ?_
  refine zkSeq ?_
  refine zrSeq ?_
  refine zrSeq ?_
  refine zrReg ?_
  refine zlRun (n := 1) (j := 1) rfl (by kernel_rfl) ?_
  refine zlBool (d := 6) (op := (.strO .eql (.tmp 5) (.const (.string ⟨#[]⟩)))) (g := none) (j := 2) (decide (a1 = ([] : List UInt8))) rfl (by kernel_rfl) (by kernel_rfl) (by kernel_rfl) (fun hc => ?_) (fun hc => ?_)
  · replace hS := cond_t hc hS
    refine zlEnd (by kernel_rfl) ?_
    refine zkSeq ?_
    refine zrCondT (by kernel_rfl) ?_
    refine zrSeq ?_
    refine zrReg ?_
    refine zlRun (n := 1) (j := 1) rfl (by kernel_rfl) ?_
    refine zlEnd (by kernel_rfl) ?_
    refine zkSeq ?_
    refine zrRet ?_
    refine zkSeqR ?_
    refine zkNil ?_
    exact endQ hS hQ (fRet ((congrArg (fun s => outR s 0 c44.res) (by kernel_rfl : finSt c44.fin _ = f44_fin 0)).trans (f44_out 0)))
  · replace hS := cond_f hc hS
    refine zlEnd (by kernel_rfl) ?_
    refine zkSeq ?_
    refine zrCondF (by kernel_rfl) ?_
    refine zrSkip ?_
    refine zkSeq ?_
    exact f44_j0_ok hd a1 hQ  hS (by kernel_rfl)
/- unicode/utf8.DecodeRuneInString -/
theorem libDecodeRune_ok (d : Nat) (hd : 0 ≤ d) (a1 : List UInt8) (r : (Int × Int)) (hS : libDecodeRune a1 = some r) : lev codes baseL d 46 [(.d (.str a1))] [] = some ((.tup [.d (.int .i32 r.1), .d (.int .i64 r.2)]), []) := lib_call (l := libs) rfl rfl rfl (osT_ hS) d
end Go.Proofs.YtakmihemhmdpkaaDoor.Pm
