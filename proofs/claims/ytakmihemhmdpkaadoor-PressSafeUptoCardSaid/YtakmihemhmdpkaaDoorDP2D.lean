/- Typed functions, and that the codes are these. Printed by dec.py. -/
import Derived.Test.YtakmihemhmdpkaaDoorDP2C
namespace Go.Proofs.YtakmihemhmdpkaaDoor.Pm
set_option maxRecDepth 1000000
set_option maxHeartbeats 20000000
set_option linter.unusedVariables false
/- farwriter/press.code -/
def f40_fin (p4 : Bool) : St := ⟨(up (fun _ => .un) 2 (.d (.bool p4))), (hB fun _ => 0)⟩
theorem f40_out (p4 : Bool) : outR (f40_fin p4) 0 c40.res = some ((.d (.bool p4)), []) := by
  kernel_rfl
def f40_Q (r : Bool) (e : PX) (st : St) : Prop := DoneF c40 0 ((.d (.bool r)), []) e st
noncomputable def f40 (a1 : Int) : Option (Bool) := (bif (decide (0 ≤ a1)) then (bif (decide (a1 ≤ 1114111)) then (bif (decide (a1 < 55296)) then (some true) else (bif (decide (57343 < a1)) then (some true) else (some false))) else (some false)) else (some false))
theorem f40_ok (d : Nat) (hd : 1 ≤ d) (a1 : Int) (r : Bool) (hS : f40 a1 = some r) : lev codes baseL d 40 [(.d (.int .i64 a1))] [] = some ((.d (.bool r)), []) := by
  refine lev_go codes40 rfl rfl (Nat.le_trans (Nat.le_of_ble_eq_true rfl) hd) fun Q hQ => ?_
  unfold f40 at hS
  show ZR _ Q c40_b [] _
  replace hQ : ∀ e st', f40_Q r e st' → Q e st' := hQ
  refine zrSeq ?_
  refine zrReg ?_
  refine zlRun (n := 1) (j := 1) rfl (by kernel_rfl) ?_
  refine zlEnd (by kernel_rfl) ?_
  refine zkSeq ?_
  refine zrSeq ?_
  refine zrReg ?_
  refine zlRun (n := 1) (j := 1) rfl (by kernel_rfl) ?_
  refine zlBool (d := 4) (op := (.cmpI .geq (.tmp 3) (.const (.int .i64 0)))) (g := none) (j := 2) (decide (0 ≤ a1)) rfl (by kernel_rfl) (by kernel_rfl) (by kernel_rfl) (fun hc => ?_) (fun hc => ?_)
  · replace hS := cond_t hc hS
    refine zlRun (n := 2) (j := 4) rfl (by kernel_rfl) ?_
    refine zlBool (d := 7) (op := (.cmpI .leq (.tmp 6) (.const (.int .i64 1114111)))) (g := (some (5, true))) (j := 5) (decide (a1 ≤ 1114111)) rfl (by kernel_rfl) (by kernel_rfl) (by kernel_rfl) (fun hc => ?_) (fun hc => ?_)
    · replace hS := cond_t hc hS
      refine zlRun (n := 3) (j := 8) rfl (by kernel_rfl) ?_
      refine zlBool (d := 11) (op := (.cmpI .lss (.tmp 10) (.const (.int .i64 55296)))) (g := (some (9, true))) (j := 9) (decide (a1 < 55296)) rfl (by kernel_rfl) (by kernel_rfl) (by kernel_rfl) (fun hc => ?_) (fun hc => ?_)
      · replace hS := cond_t hc hS
        refine zlRun (n := 6) (j := 15) rfl (by kernel_rfl) ?_
        refine zlEnd (by kernel_rfl) ?_
        refine zkSeq ?_
        refine zrRet ?_
        refine zkNil ?_
        exact endQ hS hQ (fRet ((congrArg (fun s => outR s 0 c40.res) (by kernel_rfl : finSt c40.fin _ = f40_fin true)).trans (f40_out true)))
      · replace hS := cond_f hc hS
        refine zlRun (n := 2) (j := 11) rfl (by kernel_rfl) ?_
        refine zlBool (d := 14) (op := (.cmpI .gtr (.tmp 13) (.const (.int .i64 57343)))) (g := (some (12, false))) (j := 12) (decide (57343 < a1)) rfl (by kernel_rfl) (by kernel_rfl) (by kernel_rfl) (fun hc => ?_) (fun hc => ?_)
        · replace hS := cond_t hc hS
          refine zlRun (n := 3) (j := 15) rfl (by kernel_rfl) ?_
          refine zlEnd (by kernel_rfl) ?_
          refine zkSeq ?_
          refine zrRet ?_
          refine zkNil ?_
          exact endQ hS hQ (fRet ((congrArg (fun s => outR s 0 c40.res) (by kernel_rfl : finSt c40.fin _ = f40_fin true)).trans (f40_out true)))
        · replace hS := cond_f hc hS
          refine zlRun (n := 3) (j := 15) rfl (by kernel_rfl) ?_
          refine zlEnd (by kernel_rfl) ?_
          refine zkSeq ?_
          refine zrRet ?_
          refine zkNil ?_
          exact endQ hS hQ (fRet ((congrArg (fun s => outR s 0 c40.res) (by kernel_rfl : finSt c40.fin _ = f40_fin false)).trans (f40_out false)))
    · replace hS := cond_f hc hS
      refine zlRun (n := 10) (j := 15) rfl (by kernel_rfl) ?_
      refine zlEnd (by kernel_rfl) ?_
      refine zkSeq ?_
      refine zrRet ?_
      refine zkNil ?_
      exact endQ hS hQ (fRet ((congrArg (fun s => outR s 0 c40.res) (by kernel_rfl : finSt c40.fin _ = f40_fin false)).trans (f40_out false)))
  · replace hS := cond_f hc hS
    refine zlRun (n := 13) (j := 15) rfl (by kernel_rfl) ?_
    refine zlEnd (by kernel_rfl) ?_
    refine zkSeq ?_
    refine zrRet ?_
    refine zkNil ?_
    exact endQ hS hQ (fRet ((congrArg (fun s => outR s 0 c40.res) (by kernel_rfl : finSt c40.fin _ = f40_fin false)).trans (f40_out false)))
/- unicode/utf8.appendRuneNonASCII -/
def f95_fin (p7 : List UInt8) : St := ⟨(up (fun _ => .un) 4 (.r (.msl 0 0 0 p7.length))), (up (hB fun _ => 0) 0 ⟨0, some (.own 5 1 (eU8.cells p7))⟩)⟩
theorem f95_out (p7 : List UInt8) : outR (f95_fin p7) 1 c95.res = some ((.r (.msl 0 0 0 p7.length)), [(.own 5 1 (eU8.cells p7))]) := by
  kernel_rfl
def f95_Q (r : (List UInt8)) (e : PX) (st : St) : Prop := DoneF c95 1 ((.r (.msl 0 0 0 r.length)), [(.own 5 1 (eU8.cells r))]) e st
def f95_j0_J (a1 : Int) (a2 : List UInt8) (p11 : Bool) : St := ⟨(up (up (up (up (fun _ => .un) 25 (.d (.bool p11))) 5 (.d (.int .u32 (IntKind.u32.wrap (a1))))) 1 (.d (.int .i32 a1))) 0 (.r (.msl 0 0 0 a2.length))), (up (hB fun _ => 0) 0 ⟨0, some (.own 5 1 (eU8.cells a2))⟩)⟩
noncomputable def f95_j0 (a1 : Int) (a2 : List UInt8) (p11 : Bool) : Option ((List UInt8)) := (bif p11 then ((app? 1 a2 ([((224 : UInt8) ||| (u8 (Int.fdiv a1 (2 ^ 12)))), ((128 : UInt8) ||| ((u8 (Int.fdiv a1 (2 ^ 6))) &&& (63 : UInt8))), ((128 : UInt8) ||| ((u8 a1) &&& (63 : UInt8)))] : List UInt8)).bind fun z6 => (some z6)) else (bif (decide (65535 < (IntKind.u32.wrap (a1)))) then (bif (decide ((IntKind.u32.wrap (a1)) ≤ 1114111)) then ((app? 1 a2 ([((240 : UInt8) ||| (u8 (Int.fdiv a1 (2 ^ 18)))), ((128 : UInt8) ||| ((u8 (Int.fdiv a1 (2 ^ 12))) &&& (63 : UInt8))), ((128 : UInt8) ||| ((u8 (Int.fdiv a1 (2 ^ 6))) &&& (63 : UInt8))), ((128 : UInt8) ||| ((u8 a1) &&& (63 : UInt8)))] : List UInt8)).bind fun z7 => (some z7)) else ((app? 1 a2 ([239, 191, 189] : List UInt8)).bind fun z8 => (some z8))) else ((app? 1 a2 ([239, 191, 189] : List UInt8)).bind fun z9 => (some z9))))
theorem f95_j0_ok {d : Nat} (hd : 1 ≤ d) (a1 : Int) (a2 : List UInt8) {r : (List UInt8)} {Q : PX → St → Prop} (hQ : ∀ e st', f95_Q r e st' → Q e st') (p11 : Bool) (hS : f95_j0 a1 a2 p11 = some r) {st : St} (he : keepSt [0, 1, 5, 25] [(0, .id 0)] [] st = f95_j0_J a1 a2 p11) : ZR (lev codes baseL (d - 1)) Q c95_1 [.blk 0] st := by
  refine zrKeep he ?_
  unfold f95_j0 at hS
  refine zrSplit 25 p11 (by kernel_rfl) (fun hc => ?_) (fun hc => ?_)
  · replace hS := cond_t hc hS
    refine zrCondT (by kernel_rfl) ?_
    refine zrSeq ?_
    refine zrReg ?_
    refine zlRun (n := 3) (j := 3) rfl (by kernel_rfl) ?_
    refine zlOp (d := some 37) (op := (.cvI .u8 (.tmp 36))) (g := none) (v := (.d (.int .u8 ((u8 (Int.fdiv a1 (2 ^ 12))).toNat : Int)))) (ups := []) (j := 4) rfl (by kernel_rfl) (by kernel_rfl) (ev_cv (kk := .i32) (a := (Int.fdiv a1 (2 ^ 12))) (by kernel_rfl) (u8_wrap _)) ?_
    refine zlOp (d := some 38) (op := (.arI .or (.const (.int .u8 224)) (.tmp 37))) (g := none) (v := (.d (.int .u8 (((224 : UInt8) ||| (u8 (Int.fdiv a1 (2 ^ 12)))).toNat : Int)))) (ups := []) (j := 5) rfl (by kernel_rfl) (by kernel_rfl) (ev_arI (kk := .u8) (a := ((224 : UInt8).toNat : Int)) (c := ((u8 (Int.fdiv a1 (2 ^ 12))).toNat : Int)) (by kernel_rfl) (by kernel_rfl) (ar_or8 (224 : UInt8) (u8 (Int.fdiv a1 (2 ^ 12))))) ?_
    refine zlRun (n := 2) (j := 7) rfl (by kernel_rfl) ?_
    refine zlOp (d := some 41) (op := (.cvI .u8 (.tmp 40))) (g := none) (v := (.d (.int .u8 ((u8 (Int.fdiv a1 (2 ^ 6))).toNat : Int)))) (ups := []) (j := 8) rfl (by kernel_rfl) (by kernel_rfl) (ev_cv (kk := .i32) (a := (Int.fdiv a1 (2 ^ 6))) (by kernel_rfl) (u8_wrap _)) ?_
    refine zlOp (d := some 42) (op := (.arI .and (.tmp 41) (.const (.int .u8 63)))) (g := none) (v := (.d (.int .u8 (((u8 (Int.fdiv a1 (2 ^ 6))) &&& (63 : UInt8)).toNat : Int)))) (ups := []) (j := 9) rfl (by kernel_rfl) (by kernel_rfl) (ev_arI (kk := .u8) (a := ((u8 (Int.fdiv a1 (2 ^ 6))).toNat : Int)) (c := ((63 : UInt8).toNat : Int)) (by kernel_rfl) (by kernel_rfl) (ar_and8 (u8 (Int.fdiv a1 (2 ^ 6))) (63 : UInt8))) ?_
    refine zlOp (d := some 43) (op := (.arI .or (.const (.int .u8 128)) (.tmp 42))) (g := none) (v := (.d (.int .u8 (((128 : UInt8) ||| ((u8 (Int.fdiv a1 (2 ^ 6))) &&& (63 : UInt8))).toNat : Int)))) (ups := []) (j := 10) rfl (by kernel_rfl) (by kernel_rfl) (ev_arI (kk := .u8) (a := ((128 : UInt8).toNat : Int)) (c := (((u8 (Int.fdiv a1 (2 ^ 6))) &&& (63 : UInt8)).toNat : Int)) (by kernel_rfl) (by kernel_rfl) (ar_or8 (128 : UInt8) ((u8 (Int.fdiv a1 (2 ^ 6))) &&& (63 : UInt8)))) ?_
    refine zlRun (n := 1) (j := 11) rfl (by kernel_rfl) ?_
    refine zlOp (d := some 45) (op := (.cvI .u8 (.tmp 44))) (g := none) (v := (.d (.int .u8 ((u8 a1).toNat : Int)))) (ups := []) (j := 12) rfl (by kernel_rfl) (by kernel_rfl) (ev_cv (kk := .i32) (a := a1) (by kernel_rfl) (u8_wrap _)) ?_
    refine zlOp (d := some 46) (op := (.arI .and (.tmp 45) (.const (.int .u8 63)))) (g := none) (v := (.d (.int .u8 (((u8 a1) &&& (63 : UInt8)).toNat : Int)))) (ups := []) (j := 13) rfl (by kernel_rfl) (by kernel_rfl) (ev_arI (kk := .u8) (a := ((u8 a1).toNat : Int)) (c := ((63 : UInt8).toNat : Int)) (by kernel_rfl) (by kernel_rfl) (ar_and8 (u8 a1) (63 : UInt8))) ?_
    refine zlOp (d := some 47) (op := (.arI .or (.const (.int .u8 128)) (.tmp 46))) (g := none) (v := (.d (.int .u8 (((128 : UInt8) ||| ((u8 a1) &&& (63 : UInt8))).toNat : Int)))) (ups := []) (j := 14) rfl (by kernel_rfl) (by kernel_rfl) (ev_arI (kk := .u8) (a := ((128 : UInt8).toNat : Int)) (c := (((u8 a1) &&& (63 : UInt8)).toNat : Int)) (by kernel_rfl) (by kernel_rfl) (ar_or8 (128 : UInt8) ((u8 a1) &&& (63 : UInt8)))) ?_
    refine zlRun (n := 1) (j := 15) rfl (by kernel_rfl) ?_
    refine bindE hS (fun z6 hz6 hS => ?_)
    refine zlOp (d := some 49) (op := (.app 5 1 1 (.tmp 34) (.tmp 48))) (g := none) (v := (.r (.msl 0 1 0 z6.length))) (ups := [(0, ⟨1, some (.own 5 1 (eU8.cells z6))⟩)]) (j := 16) rfl (by kernel_rfl) (by kernel_rfl) (ev_app eU8 (b := 0) (g := 0) (n := a2.length) (xs := a2) (ys := [((224 : UInt8) ||| (u8 (Int.fdiv a1 (2 ^ 12)))), ((128 : UInt8) ||| ((u8 (Int.fdiv a1 (2 ^ 6))) &&& (63 : UInt8))), ((128 : UInt8) ||| ((u8 a1) &&& (63 : UInt8)))]) ((congrArg (asL _) (by kernel_rfl : ρof _ (.tmp 48) = (.r (.msl 392 1 0 (([((224 : UInt8) ||| (u8 (Int.fdiv a1 (2 ^ 12)))), ((128 : UInt8) ||| ((u8 (Int.fdiv a1 (2 ^ 6))) &&& (63 : UInt8))), ((128 : UInt8) ||| ((u8 a1) &&& (63 : UInt8)))] : List UInt8).length))))).trans (as_whole eU8 (e := 5) (k := 1) (xs := [((224 : UInt8) ||| (u8 (Int.fdiv a1 (2 ^ 12)))), ((128 : UInt8) ||| ((u8 (Int.fdiv a1 (2 ^ 6))) &&& (63 : UInt8))), ((128 : UInt8) ||| ((u8 a1) &&& (63 : UInt8)))]) (by kernel_rfl) rfl rfl)) rfl (by kernel_rfl) rfl (by kernel_rfl) rfl hz6) ?_
    refine zlRun (n := 1) (j := 17) rfl (by kernel_rfl) ?_
    refine zlEnd (by kernel_rfl) ?_
    refine zkSeq ?_
    refine zrRet ?_
    refine zkBlkR ?_
    refine zkNil ?_
    exact endQ hS hQ (fRet ((congrArg (fun s => outR s 1 c95.res) (by kernel_rfl : finSt c95.fin _ = f95_fin z6)).trans (f95_out z6)))
  · replace hS := cond_f hc hS
    refine zrCondF (by kernel_rfl) ?_
    refine zrSeq ?_
    refine zrReg ?_
    refine zlRun (n := 1) (j := 1) rfl (by kernel_rfl) ?_
    refine zlBool (d := 52) (op := (.cmpI .gtr (.tmp 51) (.const (.int .u32 65535)))) (g := none) (j := 2) (decide (65535 < (IntKind.u32.wrap (a1)))) rfl (by kernel_rfl) (by kernel_rfl) (by kernel_rfl) (fun hc => ?_) (fun hc => ?_)
    · replace hS := cond_t hc hS
      refine zlRun (n := 2) (j := 4) rfl (by kernel_rfl) ?_
      refine zlBool (d := 55) (op := (.cmpI .leq (.tmp 54) (.const (.int .u32 1114111)))) (g := (some (53, true))) (j := 5) (decide ((IntKind.u32.wrap (a1)) ≤ 1114111)) rfl (by kernel_rfl) (by kernel_rfl) (by kernel_rfl) (fun hc => ?_) (fun hc => ?_)
      · replace hS := cond_t hc hS
        refine zlRun (n := 2) (j := 7) rfl (by kernel_rfl) ?_
        refine zlEnd (by kernel_rfl) ?_
        refine zkSeq ?_
        refine zrCondT (by kernel_rfl) ?_
        refine zrSeq ?_
        refine zrReg ?_
        refine zlRun (n := 3) (j := 3) rfl (by kernel_rfl) ?_
        refine zlOp (d := some 60) (op := (.cvI .u8 (.tmp 59))) (g := none) (v := (.d (.int .u8 ((u8 (Int.fdiv a1 (2 ^ 18))).toNat : Int)))) (ups := []) (j := 4) rfl (by kernel_rfl) (by kernel_rfl) (ev_cv (kk := .i32) (a := (Int.fdiv a1 (2 ^ 18))) (by kernel_rfl) (u8_wrap _)) ?_
        refine zlOp (d := some 61) (op := (.arI .or (.const (.int .u8 240)) (.tmp 60))) (g := none) (v := (.d (.int .u8 (((240 : UInt8) ||| (u8 (Int.fdiv a1 (2 ^ 18)))).toNat : Int)))) (ups := []) (j := 5) rfl (by kernel_rfl) (by kernel_rfl) (ev_arI (kk := .u8) (a := ((240 : UInt8).toNat : Int)) (c := ((u8 (Int.fdiv a1 (2 ^ 18))).toNat : Int)) (by kernel_rfl) (by kernel_rfl) (ar_or8 (240 : UInt8) (u8 (Int.fdiv a1 (2 ^ 18))))) ?_
        refine zlRun (n := 2) (j := 7) rfl (by kernel_rfl) ?_
        refine zlOp (d := some 64) (op := (.cvI .u8 (.tmp 63))) (g := none) (v := (.d (.int .u8 ((u8 (Int.fdiv a1 (2 ^ 12))).toNat : Int)))) (ups := []) (j := 8) rfl (by kernel_rfl) (by kernel_rfl) (ev_cv (kk := .i32) (a := (Int.fdiv a1 (2 ^ 12))) (by kernel_rfl) (u8_wrap _)) ?_
        refine zlOp (d := some 65) (op := (.arI .and (.tmp 64) (.const (.int .u8 63)))) (g := none) (v := (.d (.int .u8 (((u8 (Int.fdiv a1 (2 ^ 12))) &&& (63 : UInt8)).toNat : Int)))) (ups := []) (j := 9) rfl (by kernel_rfl) (by kernel_rfl) (ev_arI (kk := .u8) (a := ((u8 (Int.fdiv a1 (2 ^ 12))).toNat : Int)) (c := ((63 : UInt8).toNat : Int)) (by kernel_rfl) (by kernel_rfl) (ar_and8 (u8 (Int.fdiv a1 (2 ^ 12))) (63 : UInt8))) ?_
        refine zlOp (d := some 66) (op := (.arI .or (.const (.int .u8 128)) (.tmp 65))) (g := none) (v := (.d (.int .u8 (((128 : UInt8) ||| ((u8 (Int.fdiv a1 (2 ^ 12))) &&& (63 : UInt8))).toNat : Int)))) (ups := []) (j := 10) rfl (by kernel_rfl) (by kernel_rfl) (ev_arI (kk := .u8) (a := ((128 : UInt8).toNat : Int)) (c := (((u8 (Int.fdiv a1 (2 ^ 12))) &&& (63 : UInt8)).toNat : Int)) (by kernel_rfl) (by kernel_rfl) (ar_or8 (128 : UInt8) ((u8 (Int.fdiv a1 (2 ^ 12))) &&& (63 : UInt8)))) ?_
        refine zlRun (n := 2) (j := 12) rfl (by kernel_rfl) ?_
        refine zlOp (d := some 69) (op := (.cvI .u8 (.tmp 68))) (g := none) (v := (.d (.int .u8 ((u8 (Int.fdiv a1 (2 ^ 6))).toNat : Int)))) (ups := []) (j := 13) rfl (by kernel_rfl) (by kernel_rfl) (ev_cv (kk := .i32) (a := (Int.fdiv a1 (2 ^ 6))) (by kernel_rfl) (u8_wrap _)) ?_
        refine zlOp (d := some 70) (op := (.arI .and (.tmp 69) (.const (.int .u8 63)))) (g := none) (v := (.d (.int .u8 (((u8 (Int.fdiv a1 (2 ^ 6))) &&& (63 : UInt8)).toNat : Int)))) (ups := []) (j := 14) rfl (by kernel_rfl) (by kernel_rfl) (ev_arI (kk := .u8) (a := ((u8 (Int.fdiv a1 (2 ^ 6))).toNat : Int)) (c := ((63 : UInt8).toNat : Int)) (by kernel_rfl) (by kernel_rfl) (ar_and8 (u8 (Int.fdiv a1 (2 ^ 6))) (63 : UInt8))) ?_
        refine zlOp (d := some 71) (op := (.arI .or (.const (.int .u8 128)) (.tmp 70))) (g := none) (v := (.d (.int .u8 (((128 : UInt8) ||| ((u8 (Int.fdiv a1 (2 ^ 6))) &&& (63 : UInt8))).toNat : Int)))) (ups := []) (j := 15) rfl (by kernel_rfl) (by kernel_rfl) (ev_arI (kk := .u8) (a := ((128 : UInt8).toNat : Int)) (c := (((u8 (Int.fdiv a1 (2 ^ 6))) &&& (63 : UInt8)).toNat : Int)) (by kernel_rfl) (by kernel_rfl) (ar_or8 (128 : UInt8) ((u8 (Int.fdiv a1 (2 ^ 6))) &&& (63 : UInt8)))) ?_
        refine zlRun (n := 1) (j := 16) rfl (by kernel_rfl) ?_
        refine zlOp (d := some 73) (op := (.cvI .u8 (.tmp 72))) (g := none) (v := (.d (.int .u8 ((u8 a1).toNat : Int)))) (ups := []) (j := 17) rfl (by kernel_rfl) (by kernel_rfl) (ev_cv (kk := .i32) (a := a1) (by kernel_rfl) (u8_wrap _)) ?_
        refine zlOp (d := some 74) (op := (.arI .and (.tmp 73) (.const (.int .u8 63)))) (g := none) (v := (.d (.int .u8 (((u8 a1) &&& (63 : UInt8)).toNat : Int)))) (ups := []) (j := 18) rfl (by kernel_rfl) (by kernel_rfl) (ev_arI (kk := .u8) (a := ((u8 a1).toNat : Int)) (c := ((63 : UInt8).toNat : Int)) (by kernel_rfl) (by kernel_rfl) (ar_and8 (u8 a1) (63 : UInt8))) ?_
        refine zlOp (d := some 75) (op := (.arI .or (.const (.int .u8 128)) (.tmp 74))) (g := none) (v := (.d (.int .u8 (((128 : UInt8) ||| ((u8 a1) &&& (63 : UInt8))).toNat : Int)))) (ups := []) (j := 19) rfl (by kernel_rfl) (by kernel_rfl) (ev_arI (kk := .u8) (a := ((128 : UInt8).toNat : Int)) (c := (((u8 a1) &&& (63 : UInt8)).toNat : Int)) (by kernel_rfl) (by kernel_rfl) (ar_or8 (128 : UInt8) ((u8 a1) &&& (63 : UInt8)))) ?_
        refine zlRun (n := 1) (j := 20) rfl (by kernel_rfl) ?_
        refine bindE hS (fun z7 hz7 hS => ?_)
        refine zlOp (d := some 77) (op := (.app 5 1 1 (.tmp 57) (.tmp 76))) (g := none) (v := (.r (.msl 0 1 0 z7.length))) (ups := [(0, ⟨1, some (.own 5 1 (eU8.cells z7))⟩)]) (j := 21) rfl (by kernel_rfl) (by kernel_rfl) (ev_app eU8 (b := 0) (g := 0) (n := a2.length) (xs := a2) (ys := [((240 : UInt8) ||| (u8 (Int.fdiv a1 (2 ^ 18)))), ((128 : UInt8) ||| ((u8 (Int.fdiv a1 (2 ^ 12))) &&& (63 : UInt8))), ((128 : UInt8) ||| ((u8 (Int.fdiv a1 (2 ^ 6))) &&& (63 : UInt8))), ((128 : UInt8) ||| ((u8 a1) &&& (63 : UInt8)))]) ((congrArg (asL _) (by kernel_rfl : ρof _ (.tmp 76) = (.r (.msl 616 1 0 (([((240 : UInt8) ||| (u8 (Int.fdiv a1 (2 ^ 18)))), ((128 : UInt8) ||| ((u8 (Int.fdiv a1 (2 ^ 12))) &&& (63 : UInt8))), ((128 : UInt8) ||| ((u8 (Int.fdiv a1 (2 ^ 6))) &&& (63 : UInt8))), ((128 : UInt8) ||| ((u8 a1) &&& (63 : UInt8)))] : List UInt8).length))))).trans (as_whole eU8 (e := 5) (k := 1) (xs := [((240 : UInt8) ||| (u8 (Int.fdiv a1 (2 ^ 18)))), ((128 : UInt8) ||| ((u8 (Int.fdiv a1 (2 ^ 12))) &&& (63 : UInt8))), ((128 : UInt8) ||| ((u8 (Int.fdiv a1 (2 ^ 6))) &&& (63 : UInt8))), ((128 : UInt8) ||| ((u8 a1) &&& (63 : UInt8)))]) (by kernel_rfl) rfl rfl)) rfl (by kernel_rfl) rfl (by kernel_rfl) rfl hz7) ?_
        refine zlRun (n := 1) (j := 22) rfl (by kernel_rfl) ?_
        refine zlEnd (by kernel_rfl) ?_
        refine zkSeq ?_
        refine zrRet ?_
        refine zkBlkR ?_
        refine zkNil ?_
        exact endQ hS hQ (fRet ((congrArg (fun s => outR s 1 c95.res) (by kernel_rfl : finSt c95.fin _ = f95_fin z7)).trans (f95_out z7)))
      · replace hS := cond_f hc hS
        refine zlRun (n := 2) (j := 7) rfl (by kernel_rfl) ?_
        refine zlEnd (by kernel_rfl) ?_
        refine zkSeq ?_
        refine zrCondF (by kernel_rfl) ?_
        refine zrSeq ?_
        refine zrReg ?_
        refine zlRun (n := 2) (j := 2) rfl (by kernel_rfl) ?_
        refine bindE hS (fun z8 hz8 hS => ?_)
        refine zlOp (d := some 10) (op := (.app 5 1 1 (.tmp 8) (.tmp 9))) (g := none) (v := (.r (.msl 0 1 0 z8.length))) (ups := [(0, ⟨1, some (.own 5 1 (eU8.cells z8))⟩)]) (j := 3) rfl (by kernel_rfl) (by kernel_rfl) (ev_app eU8 (b := 0) (g := 0) (n := a2.length) (xs := a2) (ys := [239, 191, 189]) ((congrArg (asL _) (by kernel_rfl : ρof _ (.tmp 9) = (.r (.msl 80 1 0 (([239, 191, 189] : List UInt8).length))))).trans (as_whole eU8 (e := 5) (k := 1) (xs := [239, 191, 189]) (by kernel_rfl) rfl rfl)) rfl (by kernel_rfl) rfl (by kernel_rfl) rfl hz8) ?_
        refine zlRun (n := 1) (j := 4) rfl (by kernel_rfl) ?_
        refine zlEnd (by kernel_rfl) ?_
        refine zkSeq ?_
        refine zrRet ?_
        refine zkBlkR ?_
        refine zkNil ?_
        exact endQ hS hQ (fRet ((congrArg (fun s => outR s 1 c95.res) (by kernel_rfl : finSt c95.fin _ = f95_fin z8)).trans (f95_out z8)))
    · replace hS := cond_f hc hS
      refine zlRun (n := 5) (j := 7) rfl (by kernel_rfl) ?_
      refine zlEnd (by kernel_rfl) ?_
      refine zkSeq ?_
      refine zrCondF (by kernel_rfl) ?_
      refine zrSeq ?_
      refine zrReg ?_
      refine zlRun (n := 2) (j := 2) rfl (by kernel_rfl) ?_
      refine bindE hS (fun z9 hz9 hS => ?_)
      refine zlOp (d := some 10) (op := (.app 5 1 1 (.tmp 8) (.tmp 9))) (g := none) (v := (.r (.msl 0 1 0 z9.length))) (ups := [(0, ⟨1, some (.own 5 1 (eU8.cells z9))⟩)]) (j := 3) rfl (by kernel_rfl) (by kernel_rfl) (ev_app eU8 (b := 0) (g := 0) (n := a2.length) (xs := a2) (ys := [239, 191, 189]) ((congrArg (asL _) (by kernel_rfl : ρof _ (.tmp 9) = (.r (.msl 80 1 0 (([239, 191, 189] : List UInt8).length))))).trans (as_whole eU8 (e := 5) (k := 1) (xs := [239, 191, 189]) (by kernel_rfl) rfl rfl)) rfl (by kernel_rfl) rfl (by kernel_rfl) rfl hz9) ?_
      refine zlRun (n := 1) (j := 4) rfl (by kernel_rfl) ?_
      refine zlEnd (by kernel_rfl) ?_
      refine zkSeq ?_
      refine zrRet ?_
      refine zkBlkR ?_
      refine zkNil ?_
      exact endQ hS hQ (fRet ((congrArg (fun s => outR s 1 c95.res) (by kernel_rfl : finSt c95.fin _ = f95_fin z9)).trans (f95_out z9)))
noncomputable def f95 (a1 : Int) (a2 : List UInt8) : Option ((List UInt8)) := (bif (decide ((IntKind.u32.wrap (a1)) ≤ 2047)) then ((app? 1 a2 ([((192 : UInt8) ||| (u8 (Int.fdiv a1 (2 ^ 6)))), ((128 : UInt8) ||| ((u8 a1) &&& (63 : UInt8)))] : List UInt8)).bind fun z5 => (some z5)) else (bif (decide ((IntKind.u32.wrap (a1)) < 55296)) then (f95_j0 a1 a2 true) else (bif (decide (57343 < (IntKind.u32.wrap (a1)))) then (bif (decide ((IntKind.u32.wrap (a1)) ≤ 65535)) then (f95_j0 a1 a2 true) else (f95_j0 a1 a2 false)) else (f95_j0 a1 a2 false))))
theorem f95_ok (d : Nat) (hd : 1 ≤ d) (a1 : Int) (a2 : List UInt8) (r : (List UInt8)) (hS : f95 a1 a2 = some r) : lev codes baseL d 95 [(.r (.msl 0 0 0 a2.length)), (.d (.int .i32 a1))] [(.own 5 1 (eU8.cells a2))] = some ((.r (.msl 0 0 0 r.length)), [(.own 5 1 (eU8.cells r))]) := by
  refine lev_go codes95 rfl rfl (Nat.le_trans (Nat.le_of_ble_eq_true rfl) hd) fun Q hQ => ?_
  unfold f95 at hS
  show ZR _ Q c95_b [] _
  replace hQ : ∀ e st', f95_Q r e st' → Q e st' := hQ
  refine zrSeq ?_
  refine zrReg ?_
  refine zlRun (n := 1) (j := 1) rfl (by kernel_rfl) ?_
  refine zlEnd (by kernel_rfl) ?_
  refine zkSeq ?_
  refine zrSeq ?_
  refine zrReg ?_
  refine zlRun (n := 3) (j := 3) rfl (by kernel_rfl) ?_
  refine zlEnd (by kernel_rfl) ?_
  refine zkSeq ?_
  refine zrBlk ?_
  refine zrSeq ?_
  refine zrReg ?_
  refine zlRun (n := 1) (j := 1) rfl (by kernel_rfl) ?_
  refine zlBool (d := 13) (op := (.cmpI .leq (.tmp 12) (.const (.int .u32 2047)))) (g := none) (j := 2) (decide ((IntKind.u32.wrap (a1)) ≤ 2047)) rfl (by kernel_rfl) (by kernel_rfl) (by kernel_rfl) (fun hc => ?_) (fun hc => ?_)
  · replace hS := cond_t hc hS
    refine zlRun (n := 1) (j := 3) rfl (by kernel_rfl) ?_
    refine zlEnd (by kernel_rfl) ?_
    refine zkSeq ?_
    refine zrCondT (by kernel_rfl) ?_
    refine zrSeq ?_
    refine zrReg ?_
    refine zlRun (n := 3) (j := 3) rfl (by kernel_rfl) ?_
    refine zlOp (d := some 17) (op := (.cvI .u8 (.tmp 16))) (g := none) (v := (.d (.int .u8 ((u8 (Int.fdiv a1 (2 ^ 6))).toNat : Int)))) (ups := []) (j := 4) rfl (by kernel_rfl) (by kernel_rfl) (ev_cv (kk := .i32) (a := (Int.fdiv a1 (2 ^ 6))) (by kernel_rfl) (u8_wrap _)) ?_
    refine zlOp (d := some 18) (op := (.arI .or (.const (.int .u8 192)) (.tmp 17))) (g := none) (v := (.d (.int .u8 (((192 : UInt8) ||| (u8 (Int.fdiv a1 (2 ^ 6)))).toNat : Int)))) (ups := []) (j := 5) rfl (by kernel_rfl) (by kernel_rfl) (ev_arI (kk := .u8) (a := ((192 : UInt8).toNat : Int)) (c := ((u8 (Int.fdiv a1 (2 ^ 6))).toNat : Int)) (by kernel_rfl) (by kernel_rfl) (ar_or8 (192 : UInt8) (u8 (Int.fdiv a1 (2 ^ 6))))) ?_
    refine zlRun (n := 1) (j := 6) rfl (by kernel_rfl) ?_
    refine zlOp (d := some 20) (op := (.cvI .u8 (.tmp 19))) (g := none) (v := (.d (.int .u8 ((u8 a1).toNat : Int)))) (ups := []) (j := 7) rfl (by kernel_rfl) (by kernel_rfl) (ev_cv (kk := .i32) (a := a1) (by kernel_rfl) (u8_wrap _)) ?_
    refine zlOp (d := some 21) (op := (.arI .and (.tmp 20) (.const (.int .u8 63)))) (g := none) (v := (.d (.int .u8 (((u8 a1) &&& (63 : UInt8)).toNat : Int)))) (ups := []) (j := 8) rfl (by kernel_rfl) (by kernel_rfl) (ev_arI (kk := .u8) (a := ((u8 a1).toNat : Int)) (c := ((63 : UInt8).toNat : Int)) (by kernel_rfl) (by kernel_rfl) (ar_and8 (u8 a1) (63 : UInt8))) ?_
    refine zlOp (d := some 22) (op := (.arI .or (.const (.int .u8 128)) (.tmp 21))) (g := none) (v := (.d (.int .u8 (((128 : UInt8) ||| ((u8 a1) &&& (63 : UInt8))).toNat : Int)))) (ups := []) (j := 9) rfl (by kernel_rfl) (by kernel_rfl) (ev_arI (kk := .u8) (a := ((128 : UInt8).toNat : Int)) (c := (((u8 a1) &&& (63 : UInt8)).toNat : Int)) (by kernel_rfl) (by kernel_rfl) (ar_or8 (128 : UInt8) ((u8 a1) &&& (63 : UInt8)))) ?_
    refine zlRun (n := 1) (j := 10) rfl (by kernel_rfl) ?_
    refine bindE hS (fun z5 hz5 hS => ?_)
    refine zlOp (d := some 24) (op := (.app 5 1 1 (.tmp 14) (.tmp 23))) (g := none) (v := (.r (.msl 0 1 0 z5.length))) (ups := [(0, ⟨1, some (.own 5 1 (eU8.cells z5))⟩)]) (j := 11) rfl (by kernel_rfl) (by kernel_rfl) (ev_app eU8 (b := 0) (g := 0) (n := a2.length) (xs := a2) (ys := [((192 : UInt8) ||| (u8 (Int.fdiv a1 (2 ^ 6)))), ((128 : UInt8) ||| ((u8 a1) &&& (63 : UInt8)))]) ((congrArg (asL _) (by kernel_rfl : ρof _ (.tmp 23) = (.r (.msl 192 1 0 (([((192 : UInt8) ||| (u8 (Int.fdiv a1 (2 ^ 6)))), ((128 : UInt8) ||| ((u8 a1) &&& (63 : UInt8)))] : List UInt8).length))))).trans (as_whole eU8 (e := 5) (k := 1) (xs := [((192 : UInt8) ||| (u8 (Int.fdiv a1 (2 ^ 6)))), ((128 : UInt8) ||| ((u8 a1) &&& (63 : UInt8)))]) (by kernel_rfl) rfl rfl)) rfl (by kernel_rfl) rfl (by kernel_rfl) rfl hz5) ?_
    refine zlRun (n := 1) (j := 12) rfl (by kernel_rfl) ?_
    refine zlEnd (by kernel_rfl) ?_
    refine zkSeq ?_
    refine zrRet ?_
    refine zkBlkR ?_
    refine zkNil ?_
    exact endQ hS hQ (fRet ((congrArg (fun s => outR s 1 c95.res) (by kernel_rfl : finSt c95.fin _ = f95_fin z5)).trans (f95_out z5)))
  · replace hS := cond_f hc hS
    refine zlRun (n := 1) (j := 3) rfl (by kernel_rfl) ?_
    refine zlEnd (by kernel_rfl) ?_
    refine zkSeq ?_
    refine zrCondF (by kernel_rfl) ?_
    refine zrSeq ?_
    refine zrSeq ?_
    refine zrReg ?_
    refine zlRun (n := 1) (j := 1) rfl (by kernel_rfl) ?_
    refine zlBool (d := 27) (op := (.cmpI .lss (.tmp 26) (.const (.int .u32 55296)))) (g := none) (j := 2) (decide ((IntKind.u32.wrap (a1)) < 55296)) rfl (by kernel_rfl) (by kernel_rfl) (by kernel_rfl) (fun hc => ?_) (fun hc => ?_)
    · replace hS := cond_t hc hS
      refine zlRun (n := 1) (j := 3) rfl (by kernel_rfl) ?_
      refine zlEnd (by kernel_rfl) ?_
      refine zkSeq ?_
      refine zrCondT (by kernel_rfl) ?_
      refine zrSkip ?_
      refine zkSeq ?_
      exact f95_j0_ok hd a1 a2 hQ true hS (by kernel_rfl)
    · replace hS := cond_f hc hS
      refine zlRun (n := 1) (j := 3) rfl (by kernel_rfl) ?_
      refine zlEnd (by kernel_rfl) ?_
      refine zkSeq ?_
      refine zrCondF (by kernel_rfl) ?_
      refine zrReg ?_
      refine zlRun (n := 1) (j := 1) rfl (by kernel_rfl) ?_
      refine zlBool (d := 29) (op := (.cmpI .lss (.const (.int .u32 57343)) (.tmp 28))) (g := none) (j := 2) (decide (57343 < (IntKind.u32.wrap (a1)))) rfl (by kernel_rfl) (by kernel_rfl) (by kernel_rfl) (fun hc => ?_) (fun hc => ?_)
      · replace hS := cond_t hc hS
        refine zlRun (n := 2) (j := 4) rfl (by kernel_rfl) ?_
        refine zlBool (d := 32) (op := (.cmpI .leq (.tmp 31) (.const (.int .u32 65535)))) (g := (some (30, true))) (j := 5) (decide ((IntKind.u32.wrap (a1)) ≤ 65535)) rfl (by kernel_rfl) (by kernel_rfl) (by kernel_rfl) (fun hc => ?_) (fun hc => ?_)
        · replace hS := cond_t hc hS
          refine zlRun (n := 2) (j := 7) rfl (by kernel_rfl) ?_
          refine zlEnd (by kernel_rfl) ?_
          refine zkSeq ?_
          exact f95_j0_ok hd a1 a2 hQ true hS (by kernel_rfl)
        · replace hS := cond_f hc hS
          refine zlRun (n := 2) (j := 7) rfl (by kernel_rfl) ?_
          refine zlEnd (by kernel_rfl) ?_
          refine zkSeq ?_
          exact f95_j0_ok hd a1 a2 hQ false hS (by kernel_rfl)
      · replace hS := cond_f hc hS
        refine zlRun (n := 5) (j := 7) rfl (by kernel_rfl) ?_
        refine zlEnd (by kernel_rfl) ?_
        refine zkSeq ?_
        exact f95_j0_ok hd a1 a2 hQ false hS (by kernel_rfl)
/- unicode/utf8.AppendRune -/
def f72_fin (p2 : List UInt8) : St := ⟨(up (fun _ => .un) 4 (.r (.msl 0 0 0 p2.length))), (up (hB fun _ => 0) 0 ⟨0, some (.own 5 1 (eU8.cells p2))⟩)⟩
theorem f72_out (p2 : List UInt8) : outR (f72_fin p2) 1 c72.res = some ((.r (.msl 0 0 0 p2.length)), [(.own 5 1 (eU8.cells p2))]) := by
  kernel_rfl
def f72_Q (r : (List UInt8)) (e : PX) (st : St) : Prop := DoneF c72 1 ((.r (.msl 0 0 0 r.length)), [(.own 5 1 (eU8.cells r))]) e st
noncomputable def f72 (a1 : Int) (a2 : List UInt8) : Option ((List UInt8)) := (bif (decide ((IntKind.u32.wrap (a1)) ≤ 127)) then ((app? 1 a2 ([(u8 a1)] : List UInt8)).bind fun z3 => (some z3)) else ((f95 a1 a2).bind fun z4 => (some z4)))
theorem f72_ok (d : Nat) (hd : 2 ≤ d) (a1 : Int) (a2 : List UInt8) (r : (List UInt8)) (hS : f72 a1 a2 = some r) : lev codes baseL d 72 [(.r (.msl 0 0 0 a2.length)), (.d (.int .i32 a1))] [(.own 5 1 (eU8.cells a2))] = some ((.r (.msl 0 0 0 r.length)), [(.own 5 1 (eU8.cells r))]) := by
  refine lev_go codes72 rfl rfl (Nat.le_trans (Nat.le_of_ble_eq_true rfl) hd) fun Q hQ => ?_
  unfold f72 at hS
  show ZR _ Q c72_b [] _
  replace hQ : ∀ e st', f72_Q r e st' → Q e st' := hQ
  refine zrSeq ?_
  refine zrReg ?_
  refine zlRun (n := 1) (j := 1) rfl (by kernel_rfl) ?_
  refine zlEnd (by kernel_rfl) ?_
  refine zkSeq ?_
  refine zrSeq ?_
  refine zrSeq ?_
  refine zrReg ?_
  refine zlRun (n := 2) (j := 2) rfl (by kernel_rfl) ?_
  refine zlBool (d := 7) (op := (.cmpI .leq (.tmp 6) (.const (.int .u32 127)))) (g := none) (j := 3) (decide ((IntKind.u32.wrap (a1)) ≤ 127)) rfl (by kernel_rfl) (by kernel_rfl) (by kernel_rfl) (fun hc => ?_) (fun hc => ?_)
  · replace hS := cond_t hc hS
    refine zlEnd (by kernel_rfl) ?_
    refine zkSeq ?_
    refine zrCondT (by kernel_rfl) ?_
    refine zrSeq ?_
    refine zrReg ?_
    refine zlRun (n := 2) (j := 2) rfl (by kernel_rfl) ?_
    refine zlOp (d := some 10) (op := (.cvI .u8 (.tmp 9))) (g := none) (v := (.d (.int .u8 ((u8 a1).toNat : Int)))) (ups := []) (j := 3) rfl (by kernel_rfl) (by kernel_rfl) (ev_cv (kk := .i32) (a := a1) (by kernel_rfl) (u8_wrap _)) ?_
    refine zlRun (n := 1) (j := 4) rfl (by kernel_rfl) ?_
    refine bindE hS (fun z3 hz3 hS => ?_)
    refine zlOp (d := some 12) (op := (.app 5 1 1 (.tmp 8) (.tmp 11))) (g := none) (v := (.r (.msl 0 1 0 z3.length))) (ups := [(0, ⟨1, some (.own 5 1 (eU8.cells z3))⟩)]) (j := 5) rfl (by kernel_rfl) (by kernel_rfl) (ev_app eU8 (b := 0) (g := 0) (n := a2.length) (xs := a2) (ys := [(u8 a1)]) ((congrArg (asL _) (by kernel_rfl : ρof _ (.tmp 11) = (.r (.msl 96 1 0 (([(u8 a1)] : List UInt8).length))))).trans (as_whole eU8 (e := 5) (k := 1) (xs := [(u8 a1)]) (by kernel_rfl) rfl rfl)) rfl (by kernel_rfl) rfl (by kernel_rfl) rfl hz3) ?_
    refine zlRun (n := 1) (j := 6) rfl (by kernel_rfl) ?_
    refine zlEnd (by kernel_rfl) ?_
    refine zkSeq ?_
    refine zrRet ?_
    refine zkSeqR ?_
    refine zkNil ?_
    exact endQ hS hQ (fRet ((congrArg (fun s => outR s 1 c72.res) (by kernel_rfl : finSt c72.fin _ = f72_fin z3)).trans (f72_out z3)))
  · replace hS := cond_f hc hS
    refine zlEnd (by kernel_rfl) ?_
    refine zkSeq ?_
    refine zrCondF (by kernel_rfl) ?_
    refine zrSkip ?_
    refine zkSeq ?_
    refine zrSeq ?_
    refine zrReg ?_
    refine zlRun (n := 2) (j := 2) rfl (by kernel_rfl) ?_
    refine bindE hS (fun z4 hz4 hS => ?_)
    refine zlOp (d := some 15) (op := (.callr 95 [(.tmp 13), (.tmp 14)])) (g := none) (v := (.r (.msl 0 1 0 z4.length))) (ups := [(0, ⟨1, some (.own 5 1 (eU8.cells z4))⟩)]) (j := 3) rfl (by kernel_rfl) (by kernel_rfl) (ev_callr (args := [(.r (.msl 0 0 0 a2.length)), (.d (.int .i32 a1))]) (ids := [0]) (bs := [(.own 5 1 (eU8.cells a2))]) (l := [(.r (.msl 0 0 0 a2.length)), (.d (.int .i32 a1))]) (bt := [(.own 5 1 (eU8.cells a2))]) (r := (.r (.msl 0 0 0 z4.length))) (bs' := [(.own 5 1 (eU8.cells z4))]) (by kernel_rfl) (by kernel_rfl) (by kernel_rfl) (by kernel_rfl) (by kernel_rfl) (f95_ok (d - 1) (dpt hd rfl) a1 a2 z4 hz4) (by kernel_rfl) (by kernel_rfl)) ?_
    refine zlRun (n := 1) (j := 4) rfl (by kernel_rfl) ?_
    refine zlEnd (by kernel_rfl) ?_
    refine zkSeq ?_
    refine zrRet ?_
    refine zkNil ?_
    exact endQ hS hQ (fRet ((congrArg (fun s => outR s 1 c72.res) (by kernel_rfl : finSt c72.fin _ = f72_fin z4)).trans (f72_out z4)))
/- farwriter/utf.Encode -/
def f48_fin (p277 : List UInt8) : St := ⟨(up (fun _ => .un) 2 (.d (.str p277))), (hB fun _ => 0)⟩
theorem f48_out (p277 : List UInt8) : outR (f48_fin p277) 0 c48.res = some ((.d (.str p277)), []) := by
  kernel_rfl
def f48_Q (r : (List UInt8)) (e : PX) (st : St) : Prop := DoneF c48 0 ((.d (.str r)), []) e st
def f48_l0_J (a1 : List Int) (x : (List UInt8) × Int) : St := ⟨(up (up (up (up (fun _ => .un) 8 (.d (.int .i64 x.2))) 7 (.d (.int .i64 (a1.length : Int)))) 6 (.d (.sl a1.length ((eInt .i64).cells a1)))) 3 (.r (.msl 32 0 0 x.1.length))), (up (hB fun _ => 0) 32 ⟨0, some (.own 5 1 (eU8.cells x.1))⟩)⟩
def f48_l0_H (a1 : List Int) (x : (List UInt8) × Int) (st : St) : Prop := keepSt [3, 6, 7, 8] [(32, .id 32)] [] st = f48_l0_J a1 x
def f48_l0_e0_J (a1 : List Int) (p276 : List UInt8) : St := ⟨(up (fun _ => .un) 3 (.r (.msl 32 0 0 p276.length))), (up (hB fun _ => 0) 32 ⟨0, some (.own 5 1 (eU8.cells p276))⟩)⟩
def f48_l0_X (a1 : List Int) (z : ((List UInt8))) (e : PX) (st : St) : Prop := e = .exit 0 ∧ st = f48_l0_e0_J a1 z
def f48_l0_j2_J (a1 : List Int) (p284 : List UInt8) (p285 : Int) : St := ⟨(up (up (up (up (fun _ => .un) 8 (.d (.int .i64 p285))) 7 (.d (.int .i64 (a1.length : Int)))) 6 (.d (.sl a1.length ((eInt .i64).cells a1)))) 3 (.r (.msl 32 0 0 p284.length))), (up (hB fun _ => 0) 32 ⟨0, some (.own 5 1 (eU8.cells p284))⟩)⟩
noncomputable def f48_l0_j2 (a1 : List Int) (p284 : List UInt8) (p285 : Int) : Option (((List UInt8) × Int) ⊕ (((List UInt8)))) := ((idx a1 p285).bind fun z16 => (bif (decide (z16 < 0)) then ((f72 65533 p284).bind fun z17 => (some (.inl (z17, (IntKind.i64.wrap (p285 + 1)))))) else (bif (decide (1114111 < z16)) then ((f72 65533 p284).bind fun z18 => (some (.inl (z18, (IntKind.i64.wrap (p285 + 1)))))) else (bif (decide (55296 ≤ z16)) then (bif (decide (z16 ≤ 57343)) then ((f72 65533 p284).bind fun z19 => (some (.inl (z19, (IntKind.i64.wrap (p285 + 1)))))) else ((f72 (IntKind.i32.wrap (z16)) p284).bind fun z20 => (some (.inl (z20, (IntKind.i64.wrap (p285 + 1))))))) else ((f72 (IntKind.i32.wrap (z16)) p284).bind fun z21 => (some (.inl (z21, (IntKind.i64.wrap (p285 + 1))))))))))
theorem f48_l0_j2_ok {d : Nat} (hd : 3 ≤ d) (a1 : List Int) {r : ((List UInt8) × Int) ⊕ (((List UInt8)))} {Q : PX → St → Prop} (hQ : ∀ e st', finL (f48_l0_H a1) (f48_l0_X a1) r e st' → Q e st') (p284 : List UInt8) (p285 : Int) (hS : f48_l0_j2 a1 p284 p285 = some r) {st : St} (he : keepSt [3, 6, 7, 8] [(32, .id 32)] [] st = f48_l0_j2_J a1 p284 p285) : ZR (lev codes baseL (d - 1)) Q c48_1 [] st := by
  refine zrKeep he ?_
  unfold f48_l0_j2 at hS
  refine zrSeq ?_
  refine zrBlk ?_
  refine zrSeq ?_
  refine zrReg ?_
  refine bindE hS (fun z16 hz16 hS => ?_)
  refine zlOp (d := some 10) (op := (.ixS 3 1 (.tmp 6) (.tmp 8))) (g := none) (v := (.rptr ((eInt .i64).enc z16 ++ ((eInt .i64).cells (a1.drop ((p285 : Int).toNat + 1)))))) (ups := []) (j := 1) rfl (by kernel_rfl) (by kernel_rfl) (ev_ixS (eInt .i64) (kk := .i64) (xs := a1) (j := p285) (by kernel_rfl) (by kernel_rfl) hz16 rfl (by intro h; cases h)) ?_
  refine zlRun (n := 2) (j := 3) rfl (by kernel_rfl) ?_
  refine zlEnd (by kernel_rfl) ?_
  refine zkSeq ?_
  refine zrSeq ?_
  refine zrSeq ?_
  refine zrReg ?_
  refine zlRun (n := 1) (j := 1) rfl (by kernel_rfl) ?_
  refine zlBool (d := 13) (op := (.cmpI .lss (.tmp 12) (.const (.int .i64 0)))) (g := none) (j := 2) (decide (z16 < 0)) rfl (by kernel_rfl) (by kernel_rfl) (by kernel_rfl) (fun hc => ?_) (fun hc => ?_)
  · replace hS := cond_t hc hS
    refine zlRun (n := 12) (j := 14) rfl (by kernel_rfl) ?_
    refine zlEnd (by kernel_rfl) ?_
    refine zkSeq ?_
    refine zrCondT (by kernel_rfl) ?_
    refine zrReg ?_
    refine zlRun (n := 1) (j := 1) rfl (by kernel_rfl) ?_
    refine zlEnd (by kernel_rfl) ?_
    refine zkSeq ?_
    refine zrReg ?_
    refine zlRun (n := 3) (j := 3) rfl (by kernel_rfl) ?_
    refine bindE hS (fun z17 hz17 hS => ?_)
    refine zlOp (d := some 29) (op := (.callr 72 [(.tmp 26), (.tmp 28)])) (g := none) (v := (.r (.msl 32 1 0 z17.length))) (ups := [(32, ⟨1, some (.own 5 1 (eU8.cells z17))⟩)]) (j := 4) rfl (by kernel_rfl) (by kernel_rfl) (ev_callr (args := [(.r (.msl 32 0 0 p284.length)), (.d (.int .i32 65533))]) (ids := [32]) (bs := [(.own 5 1 (eU8.cells p284))]) (l := [(.r (.msl 0 0 0 p284.length)), (.d (.int .i32 65533))]) (bt := [(.own 5 1 (eU8.cells p284))]) (r := (.r (.msl 0 0 0 z17.length))) (bs' := [(.own 5 1 (eU8.cells z17))]) (by kernel_rfl) (by kernel_rfl) (by kernel_rfl) (by kernel_rfl) (by kernel_rfl) (f72_ok (d - 1) (dpt hd rfl) 65533 p284 z17 hz17) (by kernel_rfl) (by kernel_rfl)) ?_
    refine zlRun (n := 1) (j := 5) rfl (by kernel_rfl) ?_
    refine zlEnd (by kernel_rfl) ?_
    refine zkBlk ?_
    refine zkSeq ?_
    refine zrReg ?_
    refine zlRun (n := 2) (j := 2) rfl (by kernel_rfl) ?_
    refine zlEnd (by kernel_rfl) ?_
    refine zkNil ?_
    exact endQ hS hQ (finL_n (by show keepSt _ _ _ _ = _; kernel_rfl))
  · replace hS := cond_f hc hS
    refine zlRun (n := 2) (j := 4) rfl (by kernel_rfl) ?_
    refine zlBool (d := 16) (op := (.cmpI .gtr (.tmp 15) (.const (.int .i64 1114111)))) (g := (some (14, false))) (j := 5) (decide (1114111 < z16)) rfl (by kernel_rfl) (by kernel_rfl) (by kernel_rfl) (fun hc => ?_) (fun hc => ?_)
    · replace hS := cond_t hc hS
      refine zlRun (n := 9) (j := 14) rfl (by kernel_rfl) ?_
      refine zlEnd (by kernel_rfl) ?_
      refine zkSeq ?_
      refine zrCondT (by kernel_rfl) ?_
      refine zrReg ?_
      refine zlRun (n := 1) (j := 1) rfl (by kernel_rfl) ?_
      refine zlEnd (by kernel_rfl) ?_
      refine zkSeq ?_
      refine zrReg ?_
      refine zlRun (n := 3) (j := 3) rfl (by kernel_rfl) ?_
      refine bindE hS (fun z18 hz18 hS => ?_)
      refine zlOp (d := some 29) (op := (.callr 72 [(.tmp 26), (.tmp 28)])) (g := none) (v := (.r (.msl 32 1 0 z18.length))) (ups := [(32, ⟨1, some (.own 5 1 (eU8.cells z18))⟩)]) (j := 4) rfl (by kernel_rfl) (by kernel_rfl) (ev_callr (args := [(.r (.msl 32 0 0 p284.length)), (.d (.int .i32 65533))]) (ids := [32]) (bs := [(.own 5 1 (eU8.cells p284))]) (l := [(.r (.msl 0 0 0 p284.length)), (.d (.int .i32 65533))]) (bt := [(.own 5 1 (eU8.cells p284))]) (r := (.r (.msl 0 0 0 z18.length))) (bs' := [(.own 5 1 (eU8.cells z18))]) (by kernel_rfl) (by kernel_rfl) (by kernel_rfl) (by kernel_rfl) (by kernel_rfl) (f72_ok (d - 1) (dpt hd rfl) 65533 p284 z18 hz18) (by kernel_rfl) (by kernel_rfl)) ?_
      refine zlRun (n := 1) (j := 5) rfl (by kernel_rfl) ?_
      refine zlEnd (by kernel_rfl) ?_
      refine zkBlk ?_
      refine zkSeq ?_
      refine zrReg ?_
      refine zlRun (n := 2) (j := 2) rfl (by kernel_rfl) ?_
      refine zlEnd (by kernel_rfl) ?_
      refine zkNil ?_
      exact endQ hS hQ (finL_n (by show keepSt _ _ _ _ = _; kernel_rfl))
    · replace hS := cond_f hc hS
      refine zlRun (n := 3) (j := 8) rfl (by kernel_rfl) ?_
      refine zlBool (d := 20) (op := (.cmpI .geq (.tmp 19) (.const (.int .i64 55296)))) (g := (some (18, false))) (j := 9) (decide (55296 ≤ z16)) rfl (by kernel_rfl) (by kernel_rfl) (by kernel_rfl) (fun hc => ?_) (fun hc => ?_)
      · replace hS := cond_t hc hS
        refine zlRun (n := 2) (j := 11) rfl (by kernel_rfl) ?_
        refine zlBool (d := 23) (op := (.cmpI .leq (.tmp 22) (.const (.int .i64 57343)))) (g := (some (21, true))) (j := 12) (decide (z16 ≤ 57343)) rfl (by kernel_rfl) (by kernel_rfl) (by kernel_rfl) (fun hc => ?_) (fun hc => ?_)
        · replace hS := cond_t hc hS
          refine zlRun (n := 2) (j := 14) rfl (by kernel_rfl) ?_
          refine zlEnd (by kernel_rfl) ?_
          refine zkSeq ?_
          refine zrCondT (by kernel_rfl) ?_
          refine zrReg ?_
          refine zlRun (n := 1) (j := 1) rfl (by kernel_rfl) ?_
          refine zlEnd (by kernel_rfl) ?_
          refine zkSeq ?_
          refine zrReg ?_
          refine zlRun (n := 3) (j := 3) rfl (by kernel_rfl) ?_
          refine bindE hS (fun z19 hz19 hS => ?_)
          refine zlOp (d := some 29) (op := (.callr 72 [(.tmp 26), (.tmp 28)])) (g := none) (v := (.r (.msl 32 1 0 z19.length))) (ups := [(32, ⟨1, some (.own 5 1 (eU8.cells z19))⟩)]) (j := 4) rfl (by kernel_rfl) (by kernel_rfl) (ev_callr (args := [(.r (.msl 32 0 0 p284.length)), (.d (.int .i32 65533))]) (ids := [32]) (bs := [(.own 5 1 (eU8.cells p284))]) (l := [(.r (.msl 0 0 0 p284.length)), (.d (.int .i32 65533))]) (bt := [(.own 5 1 (eU8.cells p284))]) (r := (.r (.msl 0 0 0 z19.length))) (bs' := [(.own 5 1 (eU8.cells z19))]) (by kernel_rfl) (by kernel_rfl) (by kernel_rfl) (by kernel_rfl) (by kernel_rfl) (f72_ok (d - 1) (dpt hd rfl) 65533 p284 z19 hz19) (by kernel_rfl) (by kernel_rfl)) ?_
          refine zlRun (n := 1) (j := 5) rfl (by kernel_rfl) ?_
          refine zlEnd (by kernel_rfl) ?_
          refine zkBlk ?_
          refine zkSeq ?_
          refine zrReg ?_
          refine zlRun (n := 2) (j := 2) rfl (by kernel_rfl) ?_
          refine zlEnd (by kernel_rfl) ?_
          refine zkNil ?_
          exact endQ hS hQ (finL_n (by show keepSt _ _ _ _ = _; kernel_rfl))
        · replace hS := cond_f hc hS
          refine zlRun (n := 2) (j := 14) rfl (by kernel_rfl) ?_
          refine zlEnd (by kernel_rfl) ?_
          refine zkSeq ?_
          refine zrCondF (by kernel_rfl) ?_
          refine zrSkip ?_
          refine zkSeq ?_
          refine zrReg ?_
          refine zlRun (n := 3) (j := 3) rfl (by kernel_rfl) ?_
          refine bindE hS (fun z20 hz20 hS => ?_)
          refine zlOp (d := some 29) (op := (.callr 72 [(.tmp 26), (.tmp 28)])) (g := none) (v := (.r (.msl 32 1 0 z20.length))) (ups := [(32, ⟨1, some (.own 5 1 (eU8.cells z20))⟩)]) (j := 4) rfl (by kernel_rfl) (by kernel_rfl) (ev_callr (args := [(.r (.msl 32 0 0 p284.length)), (.d (.int .i32 (IntKind.i32.wrap (z16))))]) (ids := [32]) (bs := [(.own 5 1 (eU8.cells p284))]) (l := [(.r (.msl 0 0 0 p284.length)), (.d (.int .i32 (IntKind.i32.wrap (z16))))]) (bt := [(.own 5 1 (eU8.cells p284))]) (r := (.r (.msl 0 0 0 z20.length))) (bs' := [(.own 5 1 (eU8.cells z20))]) (by kernel_rfl) (by kernel_rfl) (by kernel_rfl) (by kernel_rfl) (by kernel_rfl) (f72_ok (d - 1) (dpt hd rfl) (IntKind.i32.wrap (z16)) p284 z20 hz20) (by kernel_rfl) (by kernel_rfl)) ?_
          refine zlRun (n := 1) (j := 5) rfl (by kernel_rfl) ?_
          refine zlEnd (by kernel_rfl) ?_
          refine zkBlk ?_
          refine zkSeq ?_
          refine zrReg ?_
          refine zlRun (n := 2) (j := 2) rfl (by kernel_rfl) ?_
          refine zlEnd (by kernel_rfl) ?_
          refine zkNil ?_
          exact endQ hS hQ (finL_n (by show keepSt _ _ _ _ = _; kernel_rfl))
      · replace hS := cond_f hc hS
        refine zlRun (n := 5) (j := 14) rfl (by kernel_rfl) ?_
        refine zlEnd (by kernel_rfl) ?_
        refine zkSeq ?_
        refine zrCondF (by kernel_rfl) ?_
        refine zrSkip ?_
        refine zkSeq ?_
        refine zrReg ?_
        refine zlRun (n := 3) (j := 3) rfl (by kernel_rfl) ?_
        refine bindE hS (fun z21 hz21 hS => ?_)
        refine zlOp (d := some 29) (op := (.callr 72 [(.tmp 26), (.tmp 28)])) (g := none) (v := (.r (.msl 32 1 0 z21.length))) (ups := [(32, ⟨1, some (.own 5 1 (eU8.cells z21))⟩)]) (j := 4) rfl (by kernel_rfl) (by kernel_rfl) (ev_callr (args := [(.r (.msl 32 0 0 p284.length)), (.d (.int .i32 (IntKind.i32.wrap (z16))))]) (ids := [32]) (bs := [(.own 5 1 (eU8.cells p284))]) (l := [(.r (.msl 0 0 0 p284.length)), (.d (.int .i32 (IntKind.i32.wrap (z16))))]) (bt := [(.own 5 1 (eU8.cells p284))]) (r := (.r (.msl 0 0 0 z21.length))) (bs' := [(.own 5 1 (eU8.cells z21))]) (by kernel_rfl) (by kernel_rfl) (by kernel_rfl) (by kernel_rfl) (by kernel_rfl) (f72_ok (d - 1) (dpt hd rfl) (IntKind.i32.wrap (z16)) p284 z21 hz21) (by kernel_rfl) (by kernel_rfl)) ?_
        refine zlRun (n := 1) (j := 5) rfl (by kernel_rfl) ?_
        refine zlEnd (by kernel_rfl) ?_
        refine zkBlk ?_
        refine zkSeq ?_
        refine zrReg ?_
        refine zlRun (n := 2) (j := 2) rfl (by kernel_rfl) ?_
        refine zlEnd (by kernel_rfl) ?_
        refine zkNil ?_
        exact endQ hS hQ (finL_n (by show keepSt _ _ _ _ = _; kernel_rfl))
def f48_l0_j1_J (a1 : List Int) (p281 : List UInt8) (p282 : Int) (p283 : Bool) : St := ⟨(up (up (up (up (up (fun _ => .un) 9 (.d (.bool p283))) 8 (.d (.int .i64 p282))) 7 (.d (.int .i64 (a1.length : Int)))) 6 (.d (.sl a1.length ((eInt .i64).cells a1)))) 3 (.r (.msl 32 0 0 p281.length))), (up (hB fun _ => 0) 32 ⟨0, some (.own 5 1 (eU8.cells p281))⟩)⟩
noncomputable def f48_l0_j1 (a1 : List Int) (p281 : List UInt8) (p282 : Int) (p283 : Bool) : Option (((List UInt8) × Int) ⊕ (((List UInt8)))) := (bif p283 then (f48_l0_j2 a1 p281 p282) else (some (.inr p281)))
theorem f48_l0_j1_ok {d : Nat} (hd : 3 ≤ d) (a1 : List Int) {r : ((List UInt8) × Int) ⊕ (((List UInt8)))} {Q : PX → St → Prop} (hQ : ∀ e st', finL (f48_l0_H a1) (f48_l0_X a1) r e st' → Q e st') (p281 : List UInt8) (p282 : Int) (p283 : Bool) (hS : f48_l0_j1 a1 p281 p282 p283 = some r) {st : St} (he : keepSt [3, 6, 7, 8, 9] [(32, .id 32)] [] st = f48_l0_j1_J a1 p281 p282 p283) : ZR (lev codes baseL (d - 1)) Q c48_2 [] st := by
  refine zrKeep he ?_
  unfold f48_l0_j1 at hS
  refine zrSeq ?_
  refine zrSplit 9 p283 (by kernel_rfl) (fun hc => ?_) (fun hc => ?_)
  · replace hS := cond_t hc hS
    refine zrCondT (by kernel_rfl) ?_
    refine zrSkip ?_
    refine zkSeq ?_
    exact f48_l0_j2_ok hd a1 hQ p281 p282 hS (by kernel_rfl)
  · replace hS := cond_f hc hS
    refine zrCondF (by kernel_rfl) ?_
    refine zrKeep (J := f48_l0_e0_J a1 p281) (by kernel_rfl) ?_
    refine zrExit ?_
    refine zkSeqX ?_
    refine zkNil ?_
    exact endQ hS hQ (finL_x (by intro h; cases h) (by show _ = _ ∧ _ = _; exact ⟨rfl, rfl⟩))
noncomputable def f48_l0 (a1 : List Int) (x : (List UInt8) × Int) : Option (((List UInt8) × Int) ⊕ (((List UInt8)))) := (bif (decide (x.2 < (a1.length : Int))) then (f48_l0_j1 a1 x.1 x.2 true) else (f48_l0_j1 a1 x.1 x.2 false))
theorem f48_l0_ok {d : Nat} (hd : 3 ≤ d) (a1 : List Int) {r : ((List UInt8) × Int) ⊕ (((List UInt8)))} {Q : PX → St → Prop} (hQ : ∀ e st', finL (f48_l0_H a1) (f48_l0_X a1) r e st' → Q e st') {x : (List UInt8) × Int} (hS : f48_l0 a1 x = some r) {st : St} (he : f48_l0_H a1 x st) : ZR (lev codes baseL (d - 1)) Q c48_3 [] st := by
  refine zrKeep he ?_
  unfold f48_l0 at hS
  refine zrSeq ?_
  refine zrReg ?_
  refine zlBool (d := 9) (op := (.cmpI .lss (.tmp 8) (.tmp 7))) (g := none) (j := 1) (decide (x.2 < (a1.length : Int))) rfl (by kernel_rfl) (by kernel_rfl) (by kernel_rfl) (fun hc => ?_) (fun hc => ?_)
  · replace hS := cond_t hc hS
    refine zlEnd (by kernel_rfl) ?_
    refine zkSeq ?_
    exact f48_l0_j1_ok hd a1 hQ x.1 x.2 true hS (by kernel_rfl)
  · replace hS := cond_f hc hS
    refine zlEnd (by kernel_rfl) ?_
    refine zkSeq ?_
    exact f48_l0_j1_ok hd a1 hQ x.1 x.2 false hS (by kernel_rfl)
noncomputable def f48 (a1 : List Int) : Option ((List UInt8)) := ((loopO (f48_l0 a1) ([], 0)).bind fun z22 => (some z22))
theorem f48_ok (d : Nat) (hd : 3 ≤ d) (a1 : List Int) (r : (List UInt8)) (hS : f48 a1 = some r) : lev codes baseL d 48 [(.d (.sl a1.length ((eInt .i64).cells a1)))] [] = some ((.d (.str r)), []) := by
  refine lev_go codes48 rfl rfl (Nat.le_trans (Nat.le_of_ble_eq_true rfl) hd) fun Q hQ => ?_
  unfold f48 at hS
  show ZR _ Q c48_b [] _
  replace hQ : ∀ e st', f48_Q r e st' → Q e st' := hQ
  refine zrSeq ?_
  refine zrReg ?_
  refine zlRun (n := 1) (j := 1) rfl (by kernel_rfl) ?_
  refine zlEnd (by kernel_rfl) ?_
  refine zkSeq ?_
  refine zrSeq ?_
  refine zrReg ?_
  refine zlRun (n := 1) (j := 1) rfl (by kernel_rfl) ?_
  refine zlEnd (by kernel_rfl) ?_
  refine zkSeq ?_
  refine zrSeq ?_
  refine zrSeq ?_
  refine zrReg ?_
  refine zlRun (n := 3) (j := 3) rfl (by kernel_rfl) ?_
  refine zlEnd (by kernel_rfl) ?_
  refine zkSeq ?_
  refine zrBlk ?_
  refine bindE hS (fun z22 hz22 hS => ?_)
  refine zrLoop (f48_l0_H a1) (f48_l0_X a1) (fun x st r Q h0 hS hQ => f48_l0_ok hd a1 hQ hS h0) (x := ([], 0)) (z := z22) (by show keepSt _ _ _ _ = _; kernel_rfl) hz22 ?_
  intro e st' _ hX
  obtain ⟨rfl, rfl⟩ : _ ∧ _ := hX
  refine zkBlkX ?_
  refine zkSeq ?_
  refine zrSeq ?_
  refine zrReg ?_
  refine zlRun (n := 1) (j := 1) rfl (by kernel_rfl) ?_
  refine zlOp (d := some 32) (op := (.cvBS (.tmp 31))) (g := none) (v := (.d (.str z22))) (ups := []) (j := 2) rfl (by kernel_rfl) (by kernel_rfl) (ev_cvBS (s := z22) ((congrArg (asL _) (by kernel_rfl : ρof _ (.tmp 31) = (.r (.msl 32 0 0 z22.length)))).trans (as_whole eU8 (e := 5) (k := 1) (xs := z22) (by kernel_rfl) rfl rfl)) rfl) ?_
  refine zlRun (n := 1) (j := 3) rfl (by kernel_rfl) ?_
  refine zlEnd (by kernel_rfl) ?_
  refine zkSeq ?_
  refine zrRet ?_
  refine zkNil ?_
  exact endQ hS hQ (fRet ((congrArg (fun s => outR s 0 c48.res) (by kernel_rfl : finSt c48.fin _ = f48_fin z22)).trans (f48_out z22)))
/- farwriter/press.Paste -/
def f23_fin (p755 : List UInt8) (p756 : Int) : St := ⟨(up (up (fun _ => .un) 5 (.d (.int .i64 p756))) 4 (.d (.str p755))), (hB fun _ => 0)⟩
theorem f23_out (p755 : List UInt8) (p756 : Int) : outR (f23_fin p755 p756) 0 c23.res = some ((.tup [(.d (.str p755)), (.d (.int .i64 p756))]), []) := by
  kernel_rfl
def f23_Q (r : (List UInt8) × Int) (e : PX) (st : St) : Prop := DoneF c23 0 ((.tup [(.d (.str r.1)), (.d (.int .i64 r.2))]), []) e st
def f23_j1_J (a1 : List Int) (a2 : Int) (p758 : List Int) : St := ⟨(up (up (fun _ => .un) 6 (.r (.msl 56 0 0 p758.length))) 1 (.d (.int .i64 a2))), (up (hB fun _ => 0) 56 ⟨0, some (.own 3 1 ((eInt .i64).cells p758))⟩)⟩
noncomputable def f23_j1 (a1 : List Int) (a2 : Int) (p758 : List Int) : Option ((List UInt8) × Int) := ((f48 p758).bind fun z46 => (bif (!decide ((bitI .and .i64 a2 64) = 0)) then ((cat? ([27, 91, 50, 48, 48, 126] : List UInt8) z46).bind fun z47 => ((cat? z47 ([27, 91, 50, 48, 49, 126] : List UInt8)).bind fun z48 => (some (z48, 0)))) else (some (z46, 0))))
theorem f23_j1_ok {d : Nat} (hd : 4 ≤ d) (a1 : List Int) (a2 : Int) {r : (List UInt8) × Int} {Q : PX → St → Prop} (hQ : ∀ e st', f23_Q r e st' → Q e st') (p758 : List Int) (hS : f23_j1 a1 a2 p758 = some r) {st : St} (he : keepSt [1, 6] [(56, .id 56)] [] st = f23_j1_J a1 a2 p758) : ZR (lev codes baseL (d - 1)) Q c23_1 [] st := by
  refine zrKeep he ?_
  unfold f23_j1 at hS
  refine zrSeq ?_
  refine zrReg ?_
  refine zlRun (n := 1) (j := 1) rfl (by kernel_rfl) ?_
  refine bindE hS (fun z46 hz46 hS => ?_)
  refine zlOp (d := some 55) (op := (.call 48 [(.tmp 54)])) (g := none) (v := (.d (.str z46))) (ups := []) (j := 2) rfl (by kernel_rfl) (by kernel_rfl) (ev_call (args := [(.r (.msl 56 0 0 p758.length))]) (l := [(.d (.sl p758.length ((eInt .i64).cells p758)))]) (r := (.d (.str z46))) (by kernel_rfl) (l_cons (l_own (eInt .i64) (e := 3) (k := 1) (xs := p758) (by kernel_rfl) rfl rfl) l_nil) (f48_ok (d - 1) (dpt hd rfl) p758 z46 hz46) (by kernel_rfl) (by kernel_rfl) (by kernel_rfl)) ?_
  refine zlRun (n := 1) (j := 3) rfl (by kernel_rfl) ?_
  refine zlEnd (by kernel_rfl) ?_
  refine zkSeq ?_
  refine zrSeq ?_
  refine zrSeq ?_
  refine zrReg ?_
  refine zlRun (n := 2) (j := 2) rfl (by kernel_rfl) ?_
  refine zlBool (d := 58) (op := (.cmpI .neq (.tmp 57) (.const (.int .i64 0)))) (g := none) (j := 3) (!decide ((bitI .and .i64 a2 64) = 0)) rfl (by kernel_rfl) (by kernel_rfl) (by kernel_rfl) (fun hc => ?_) (fun hc => ?_)
  · replace hS := cond_t hc hS
    refine zlEnd (by kernel_rfl) ?_
    refine zkSeq ?_
    refine zrCondT (by kernel_rfl) ?_
    refine zrReg ?_
    refine zlRun (n := 1) (j := 1) rfl (by kernel_rfl) ?_
    refine bindE hS (fun z47 hz47 hS => ?_)
    refine zlOp (d := some 60) (op := (.strO .add (.const (.string ⟨#[27, 91, 50, 48, 48, 126]⟩)) (.tmp 59))) (g := none) (v := (.d (.str z47))) (ups := []) (j := 2) rfl (by kernel_rfl) (by kernel_rfl) (ev_cat (a := [27, 91, 50, 48, 48, 126]) (c := z46) (by kernel_rfl) (by kernel_rfl) hz47) ?_
    refine bindE hS (fun z48 hz48 hS => ?_)
    refine zlOp (d := some 61) (op := (.strO .add (.tmp 60) (.const (.string ⟨#[27, 91, 50, 48, 49, 126]⟩)))) (g := none) (v := (.d (.str z48))) (ups := []) (j := 3) rfl (by kernel_rfl) (by kernel_rfl) (ev_cat (a := z47) (c := [27, 91, 50, 48, 49, 126]) (by kernel_rfl) (by kernel_rfl) hz48) ?_
    refine zlRun (n := 1) (j := 4) rfl (by kernel_rfl) ?_
    refine zlEnd (by kernel_rfl) ?_
    refine zkSeq ?_
    refine zrSeq ?_
    refine zrReg ?_
    refine zlRun (n := 3) (j := 3) rfl (by kernel_rfl) ?_
    refine zlEnd (by kernel_rfl) ?_
    refine zkSeq ?_
    refine zrRet ?_
    refine zkNil ?_
    exact endQ hS hQ (fRet ((congrArg (fun s => outR s 0 c23.res) (by kernel_rfl : finSt c23.fin _ = f23_fin z48 0)).trans (f23_out z48 0)))
  · replace hS := cond_f hc hS
    refine zlEnd (by kernel_rfl) ?_
    refine zkSeq ?_
    refine zrCondF (by kernel_rfl) ?_
    refine zrSkip ?_
    refine zkSeq ?_
    refine zrSeq ?_
    refine zrReg ?_
    refine zlRun (n := 3) (j := 3) rfl (by kernel_rfl) ?_
    refine zlEnd (by kernel_rfl) ?_
    refine zkSeq ?_
    refine zrRet ?_
    refine zkNil ?_
    exact endQ hS hQ (fRet ((congrArg (fun s => outR s 0 c23.res) (by kernel_rfl : finSt c23.fin _ = f23_fin z46 0)).trans (f23_out z46 0)))
def f23_l2_J (a1 : List Int) (a2 : Int) (x : (List Int) × Int) : St := ⟨(up (up (up (up (up (fun _ => .un) 15 (.d (.int .i64 x.2))) 14 (.d (.int .i64 (a1.length : Int)))) 13 (.d (.sl a1.length ((eInt .i64).cells a1)))) 6 (.r (.msl 56 0 0 x.1.length))) 1 (.d (.int .i64 a2))), (up (hB fun _ => 0) 56 ⟨0, some (.own 3 1 ((eInt .i64).cells x.1))⟩)⟩
def f23_l2_H (a1 : List Int) (a2 : Int) (x : (List Int) × Int) (st : St) : Prop := keepSt [1, 6, 13, 14, 15] [(56, .id 56)] [] st = f23_l2_J a1 a2 x
def f23_l2_e0_J (a1 : List Int) (a2 : Int) (p751 : List Int) : St := ⟨(up (up (fun _ => .un) 6 (.r (.msl 56 0 0 p751.length))) 1 (.d (.int .i64 a2))), (up (hB fun _ => 0) 56 ⟨0, some (.own 3 1 ((eInt .i64).cells p751))⟩)⟩
def f23_l2_X (a1 : List Int) (a2 : Int) (z : ((List Int))) (e : PX) (st : St) : Prop := e = .exit 0 ∧ st = f23_l2_e0_J a1 a2 z
def f23_l2_j5_J (a1 : List Int) (a2 : Int) (p1013 : List Int) (p1014 : Int) (p1015 : Int) (p1016 : Int) (p1017 : Int) : St := ⟨(up (up (up (up (up (up (up (up (up (up (up (up (up (up (up (up (up (up (up (up (fun _ => .un) 51 (.tup [])) 50 (.tup [])) 49 (.tup [])) 46 (.tup [])) 45 (.tup [])) 44 (.tup [])) 43 (.tup [])) 42 (.tup [])) 41 (.tup [])) 38 (.d (.bool true))) 37 (.d (.int .i64 p1017))) 34 (.d (.bool true))) 33 (.d (.int .i64 p1016))) 29 (.d (.bool true))) 15 (.d (.int .i64 p1015))) 14 (.d (.int .i64 (a1.length : Int)))) 13 (.d (.sl a1.length ((eInt .i64).cells a1)))) 8 (.d (.int .i64 p1014))) 6 (.r (.msl 56 0 0 p1013.length))) 1 (.d (.int .i64 a2))), (up (hB fun _ => 0) 56 ⟨0, some (.own 3 1 ((eInt .i64).cells p1013))⟩)⟩
noncomputable def f23_l2_j5 (a1 : List Int) (a2 : Int) (p1013 : List Int) (p1014 : Int) (p1015 : Int) (p1016 : Int) (p1017 : Int) : Option (((List Int) × Int) ⊕ (((List Int)))) := (some (.inl (p1013, (IntKind.i64.wrap (p1015 + 1)))))
theorem f23_l2_j5_ok {d : Nat} (hd : 4 ≤ d) (a1 : List Int) (a2 : Int) {r : ((List Int) × Int) ⊕ (((List Int)))} {Q : PX → St → Prop} (hQ : ∀ e st', finL (f23_l2_H a1 a2) (f23_l2_X a1 a2) r e st' → Q e st') (p1013 : List Int) (p1014 : Int) (p1015 : Int) (p1016 : Int) (p1017 : Int) (hS : f23_l2_j5 a1 a2 p1013 p1014 p1015 p1016 p1017 = some r) {st : St} (he : keepSt [1, 6, 8, 13, 14, 15, 29, 33, 34, 37, 38, 41, 42, 43, 44, 45, 46, 49, 50, 51] [(56, .id 56)] [] st = f23_l2_j5_J a1 a2 p1013 p1014 p1015 p1016 p1017) : ZR (lev codes baseL (d - 1)) Q c23_2 [.blk 2, .blk 1, .seq c23_3] st := by
  refine zrKeep he ?_
  unfold f23_l2_j5 at hS
  refine zrCondT (by kernel_rfl) ?_
  refine zrSkip ?_
  refine zkBlk ?_
  refine zkBlk ?_
  refine zkSeq ?_
  refine zrReg ?_
  refine zlRun (n := 2) (j := 2) rfl (by kernel_rfl) ?_
  refine zlEnd (by kernel_rfl) ?_
  refine zkNil ?_
  exact endQ hS hQ (finL_n (by show keepSt _ _ _ _ = _; kernel_rfl))
def f23_l2_j6_J (a1 : List Int) (a2 : Int) (p1018 : List Int) (p1019 : Int) (p1020 : Int) (p1021 : Int) (p1022 : Int) (p1023 : Int) (p1024 : Int) : St := ⟨(up (up (up (up (up (up (up (up (up (up (up (up (up (up (up (up (up (up (up (up (fun _ => .un) 51 (.tup [])) 50 (.tup [])) 49 (.tup [])) 46 (.d (.bool true))) 45 (.d (.bool true))) 44 (.d (.int .i64 p1024))) 43 (.d (.bool true))) 42 (.d (.bool true))) 41 (.d (.int .i64 p1023))) 38 (.d (.bool false))) 37 (.d (.int .i64 p1022))) 34 (.d (.bool true))) 33 (.d (.int .i64 p1021))) 29 (.d (.bool true))) 15 (.d (.int .i64 p1020))) 14 (.d (.int .i64 (a1.length : Int)))) 13 (.d (.sl a1.length ((eInt .i64).cells a1)))) 8 (.d (.int .i64 p1019))) 6 (.r (.msl 56 0 0 p1018.length))) 1 (.d (.int .i64 a2))), (up (hB fun _ => 0) 56 ⟨0, some (.own 3 1 ((eInt .i64).cells p1018))⟩)⟩
noncomputable def f23_l2_j6 (a1 : List Int) (a2 : Int) (p1018 : List Int) (p1019 : Int) (p1020 : Int) (p1021 : Int) (p1022 : Int) (p1023 : Int) (p1024 : Int) : Option (((List Int) × Int) ⊕ (((List Int)))) := (some (.inl (p1018, (IntKind.i64.wrap (p1020 + 1)))))
theorem f23_l2_j6_ok {d : Nat} (hd : 4 ≤ d) (a1 : List Int) (a2 : Int) {r : ((List Int) × Int) ⊕ (((List Int)))} {Q : PX → St → Prop} (hQ : ∀ e st', finL (f23_l2_H a1 a2) (f23_l2_X a1 a2) r e st' → Q e st') (p1018 : List Int) (p1019 : Int) (p1020 : Int) (p1021 : Int) (p1022 : Int) (p1023 : Int) (p1024 : Int) (hS : f23_l2_j6 a1 a2 p1018 p1019 p1020 p1021 p1022 p1023 p1024 = some r) {st : St} (he : keepSt [1, 6, 8, 13, 14, 15, 29, 33, 34, 37, 38, 41, 42, 43, 44, 45, 46, 49, 50, 51] [(56, .id 56)] [] st = f23_l2_j6_J a1 a2 p1018 p1019 p1020 p1021 p1022 p1023 p1024) : ZR (lev codes baseL (d - 1)) Q c23_2 [.blk 2, .blk 1, .seq c23_3] st := by
  refine zrKeep he ?_
  unfold f23_l2_j6 at hS
  refine zrCondT (by kernel_rfl) ?_
  refine zrSkip ?_
  refine zkBlk ?_
  refine zkBlk ?_
  refine zkSeq ?_
  refine zrReg ?_
  refine zlRun (n := 2) (j := 2) rfl (by kernel_rfl) ?_
  refine zlEnd (by kernel_rfl) ?_
  refine zkNil ?_
  exact endQ hS hQ (finL_n (by show keepSt _ _ _ _ = _; kernel_rfl))
def f23_l2_j7_J (a1 : List Int) (a2 : Int) (p1025 : List Int) (p1026 : Int) (p1027 : Int) (p1028 : Bool) (p1029 : Int) (p1030 : Int) (p1031 : Int) (p1032 : Int) (p1033 : Int) (p1034 : Bool) (p1035 : Bool) : St := ⟨(up (up (up (up (up (up (up (up (up (up (up (up (up (up (up (up (up (up (up (up (fun _ => .un) 51 (.d (.bool p1035))) 50 (.d (.bool p1034))) 49 (.d (.int .i64 p1033))) 46 (.d (.bool false))) 45 (.d (.bool false))) 44 (.d (.int .i64 p1032))) 43 (.d (.bool true))) 42 (.d (.bool true))) 41 (.d (.int .i64 p1031))) 38 (.d (.bool false))) 37 (.d (.int .i64 p1030))) 34 (.d (.bool true))) 33 (.d (.int .i64 p1029))) 29 (.d (.bool p1028))) 15 (.d (.int .i64 p1027))) 14 (.d (.int .i64 (a1.length : Int)))) 13 (.d (.sl a1.length ((eInt .i64).cells a1)))) 8 (.d (.int .i64 p1026))) 6 (.r (.msl 56 0 0 p1025.length))) 1 (.d (.int .i64 a2))), (up (hB fun _ => 0) 56 ⟨0, some (.own 3 1 ((eInt .i64).cells p1025))⟩)⟩
noncomputable def f23_l2_j7 (a1 : List Int) (a2 : Int) (p1025 : List Int) (p1026 : Int) (p1027 : Int) (p1028 : Bool) (p1029 : Int) (p1030 : Int) (p1031 : Int) (p1032 : Int) (p1033 : Int) (p1034 : Bool) (p1035 : Bool) : Option (((List Int) × Int) ⊕ (((List Int)))) := (bif p1028 then (some (.inl (p1025, (IntKind.i64.wrap (p1027 + 1))))) else ((app? 8 p1025 ([p1026] : List Int)).bind fun z57 => (some (.inl (z57, (IntKind.i64.wrap (p1027 + 1)))))))
theorem f23_l2_j7_ok {d : Nat} (hd : 4 ≤ d) (a1 : List Int) (a2 : Int) {r : ((List Int) × Int) ⊕ (((List Int)))} {Q : PX → St → Prop} (hQ : ∀ e st', finL (f23_l2_H a1 a2) (f23_l2_X a1 a2) r e st' → Q e st') (p1025 : List Int) (p1026 : Int) (p1027 : Int) (p1028 : Bool) (p1029 : Int) (p1030 : Int) (p1031 : Int) (p1032 : Int) (p1033 : Int) (p1034 : Bool) (p1035 : Bool) (hS : f23_l2_j7 a1 a2 p1025 p1026 p1027 p1028 p1029 p1030 p1031 p1032 p1033 p1034 p1035 = some r) {st : St} (he : keepSt [1, 6, 8, 13, 14, 15, 29, 33, 34, 37, 38, 41, 42, 43, 44, 45, 46, 49, 50, 51] [(56, .id 56)] [] st = f23_l2_j7_J a1 a2 p1025 p1026 p1027 p1028 p1029 p1030 p1031 p1032 p1033 p1034 p1035) : ZR (lev codes baseL (d - 1)) Q c23_2 [.blk 2, .blk 1, .seq c23_3] st := by
  refine zrKeep he ?_
  unfold f23_l2_j7 at hS
  refine zrSplit 29 p1028 (by kernel_rfl) (fun hc => ?_) (fun hc => ?_)
  · replace hS := cond_t hc hS
    refine zrCondT (by kernel_rfl) ?_
    refine zrSkip ?_
    refine zkBlk ?_
    refine zkBlk ?_
    refine zkSeq ?_
    refine zrReg ?_
    refine zlRun (n := 2) (j := 2) rfl (by kernel_rfl) ?_
    refine zlEnd (by kernel_rfl) ?_
    refine zkNil ?_
    exact endQ hS hQ (finL_n (by show keepSt _ _ _ _ = _; kernel_rfl))
  · replace hS := cond_f hc hS
    refine zrCondF (by kernel_rfl) ?_
    refine zrReg ?_
    refine zlRun (n := 3) (j := 3) rfl (by kernel_rfl) ?_
    refine bindE hS (fun z57 hz57 hS => ?_)
    refine zlOp (d := some 22) (op := (.app 3 1 8 (.tmp 19) (.tmp 21))) (g := none) (v := (.r (.msl 56 1 0 z57.length))) (ups := [(56, ⟨1, some (.own 3 1 ((eInt .i64).cells z57))⟩)]) (j := 4) rfl (by kernel_rfl) (by kernel_rfl) (ev_app (eInt .i64) (b := 56) (g := 0) (n := p1025.length) (xs := p1025) (ys := [p1026]) ((congrArg (asL _) (by kernel_rfl : ρof _ (.tmp 21) = (.r (.msl 176 1 0 (([p1026] : List Int).length))))).trans (as_whole (eInt .i64) (e := 3) (k := 1) (xs := [p1026]) (by kernel_rfl) rfl rfl)) rfl (by kernel_rfl) rfl (by kernel_rfl) rfl hz57) ?_
    refine zlRun (n := 1) (j := 5) rfl (by kernel_rfl) ?_
    refine zlEnd (by kernel_rfl) ?_
    refine zkBlk ?_
    refine zkBlk ?_
    refine zkSeq ?_
    refine zrReg ?_
    refine zlRun (n := 2) (j := 2) rfl (by kernel_rfl) ?_
    refine zlEnd (by kernel_rfl) ?_
    refine zkNil ?_
    exact endQ hS hQ (finL_n (by show keepSt _ _ _ _ = _; kernel_rfl))
def f23_l2_j8_J (a1 : List Int) (a2 : Int) (p1036 : List Int) (p1037 : Int) (p1038 : Int) (p1039 : Bool) (p1040 : Int) (p1041 : Int) (p1042 : Int) (p1043 : Int) (p1044 : Bool) (p1045 : Bool) : St := ⟨(up (up (up (up (up (up (up (up (up (up (up (up (up (up (up (up (up (up (up (up (fun _ => .un) 51 (.d (.bool p1045))) 50 (.d (.bool p1044))) 49 (.d (.int .i64 p1043))) 46 (.d (.bool false))) 45 (.tup [])) 44 (.tup [])) 43 (.d (.bool false))) 42 (.d (.bool false))) 41 (.d (.int .i64 p1042))) 38 (.d (.bool false))) 37 (.d (.int .i64 p1041))) 34 (.d (.bool true))) 33 (.d (.int .i64 p1040))) 29 (.d (.bool p1039))) 15 (.d (.int .i64 p1038))) 14 (.d (.int .i64 (a1.length : Int)))) 13 (.d (.sl a1.length ((eInt .i64).cells a1)))) 8 (.d (.int .i64 p1037))) 6 (.r (.msl 56 0 0 p1036.length))) 1 (.d (.int .i64 a2))), (up (hB fun _ => 0) 56 ⟨0, some (.own 3 1 ((eInt .i64).cells p1036))⟩)⟩
noncomputable def f23_l2_j8 (a1 : List Int) (a2 : Int) (p1036 : List Int) (p1037 : Int) (p1038 : Int) (p1039 : Bool) (p1040 : Int) (p1041 : Int) (p1042 : Int) (p1043 : Int) (p1044 : Bool) (p1045 : Bool) : Option (((List Int) × Int) ⊕ (((List Int)))) := (bif p1039 then (some (.inl (p1036, (IntKind.i64.wrap (p1038 + 1))))) else ((app? 8 p1036 ([p1037] : List Int)).bind fun z58 => (some (.inl (z58, (IntKind.i64.wrap (p1038 + 1)))))))
theorem f23_l2_j8_ok {d : Nat} (hd : 4 ≤ d) (a1 : List Int) (a2 : Int) {r : ((List Int) × Int) ⊕ (((List Int)))} {Q : PX → St → Prop} (hQ : ∀ e st', finL (f23_l2_H a1 a2) (f23_l2_X a1 a2) r e st' → Q e st') (p1036 : List Int) (p1037 : Int) (p1038 : Int) (p1039 : Bool) (p1040 : Int) (p1041 : Int) (p1042 : Int) (p1043 : Int) (p1044 : Bool) (p1045 : Bool) (hS : f23_l2_j8 a1 a2 p1036 p1037 p1038 p1039 p1040 p1041 p1042 p1043 p1044 p1045 = some r) {st : St} (he : keepSt [1, 6, 8, 13, 14, 15, 29, 33, 34, 37, 38, 41, 42, 43, 44, 45, 46, 49, 50, 51] [(56, .id 56)] [] st = f23_l2_j8_J a1 a2 p1036 p1037 p1038 p1039 p1040 p1041 p1042 p1043 p1044 p1045) : ZR (lev codes baseL (d - 1)) Q c23_2 [.blk 2, .blk 1, .seq c23_3] st := by
  refine zrKeep he ?_
  unfold f23_l2_j8 at hS
  refine zrSplit 29 p1039 (by kernel_rfl) (fun hc => ?_) (fun hc => ?_)
  · replace hS := cond_t hc hS
    refine zrCondT (by kernel_rfl) ?_
    refine zrSkip ?_
    refine zkBlk ?_
    refine zkBlk ?_
    refine zkSeq ?_
    refine zrReg ?_
    refine zlRun (n := 2) (j := 2) rfl (by kernel_rfl) ?_
    refine zlEnd (by kernel_rfl) ?_
    refine zkNil ?_
    exact endQ hS hQ (finL_n (by show keepSt _ _ _ _ = _; kernel_rfl))
  · replace hS := cond_f hc hS
    refine zrCondF (by kernel_rfl) ?_
    refine zrReg ?_
    refine zlRun (n := 3) (j := 3) rfl (by kernel_rfl) ?_
    refine bindE hS (fun z58 hz58 hS => ?_)
    refine zlOp (d := some 22) (op := (.app 3 1 8 (.tmp 19) (.tmp 21))) (g := none) (v := (.r (.msl 56 1 0 z58.length))) (ups := [(56, ⟨1, some (.own 3 1 ((eInt .i64).cells z58))⟩)]) (j := 4) rfl (by kernel_rfl) (by kernel_rfl) (ev_app (eInt .i64) (b := 56) (g := 0) (n := p1036.length) (xs := p1036) (ys := [p1037]) ((congrArg (asL _) (by kernel_rfl : ρof _ (.tmp 21) = (.r (.msl 176 1 0 (([p1037] : List Int).length))))).trans (as_whole (eInt .i64) (e := 3) (k := 1) (xs := [p1037]) (by kernel_rfl) rfl rfl)) rfl (by kernel_rfl) rfl (by kernel_rfl) rfl hz58) ?_
    refine zlRun (n := 1) (j := 5) rfl (by kernel_rfl) ?_
    refine zlEnd (by kernel_rfl) ?_
    refine zkBlk ?_
    refine zkBlk ?_
    refine zkSeq ?_
    refine zrReg ?_
    refine zlRun (n := 2) (j := 2) rfl (by kernel_rfl) ?_
    refine zlEnd (by kernel_rfl) ?_
    refine zkNil ?_
    exact endQ hS hQ (finL_n (by show keepSt _ _ _ _ = _; kernel_rfl))
def f23_l2_j9_J (a1 : List Int) (a2 : Int) (p1046 : List Int) (p1047 : Int) (p1048 : Int) (p1049 : Int) (p1050 : Int) (p1051 : Int) : St := ⟨(up (up (up (up (up (up (up (up (up (up (up (up (up (up (up (up (up (up (up (up (fun _ => .un) 51 (.tup [])) 50 (.tup [])) 49 (.tup [])) 46 (.d (.bool true))) 45 (.d (.bool true))) 44 (.d (.int .i64 p1051))) 43 (.d (.bool true))) 42 (.d (.bool true))) 41 (.d (.int .i64 p1050))) 38 (.tup [])) 37 (.tup [])) 34 (.d (.bool false))) 33 (.d (.int .i64 p1049))) 29 (.d (.bool true))) 15 (.d (.int .i64 p1048))) 14 (.d (.int .i64 (a1.length : Int)))) 13 (.d (.sl a1.length ((eInt .i64).cells a1)))) 8 (.d (.int .i64 p1047))) 6 (.r (.msl 56 0 0 p1046.length))) 1 (.d (.int .i64 a2))), (up (hB fun _ => 0) 56 ⟨0, some (.own 3 1 ((eInt .i64).cells p1046))⟩)⟩
noncomputable def f23_l2_j9 (a1 : List Int) (a2 : Int) (p1046 : List Int) (p1047 : Int) (p1048 : Int) (p1049 : Int) (p1050 : Int) (p1051 : Int) : Option (((List Int) × Int) ⊕ (((List Int)))) := (some (.inl (p1046, (IntKind.i64.wrap (p1048 + 1)))))
theorem f23_l2_j9_ok {d : Nat} (hd : 4 ≤ d) (a1 : List Int) (a2 : Int) {r : ((List Int) × Int) ⊕ (((List Int)))} {Q : PX → St → Prop} (hQ : ∀ e st', finL (f23_l2_H a1 a2) (f23_l2_X a1 a2) r e st' → Q e st') (p1046 : List Int) (p1047 : Int) (p1048 : Int) (p1049 : Int) (p1050 : Int) (p1051 : Int) (hS : f23_l2_j9 a1 a2 p1046 p1047 p1048 p1049 p1050 p1051 = some r) {st : St} (he : keepSt [1, 6, 8, 13, 14, 15, 29, 33, 34, 37, 38, 41, 42, 43, 44, 45, 46, 49, 50, 51] [(56, .id 56)] [] st = f23_l2_j9_J a1 a2 p1046 p1047 p1048 p1049 p1050 p1051) : ZR (lev codes baseL (d - 1)) Q c23_2 [.blk 2, .blk 1, .seq c23_3] st := by
  refine zrKeep he ?_
  unfold f23_l2_j9 at hS
  refine zrCondT (by kernel_rfl) ?_
  refine zrSkip ?_
  refine zkBlk ?_
  refine zkBlk ?_
  refine zkSeq ?_
  refine zrReg ?_
  refine zlRun (n := 2) (j := 2) rfl (by kernel_rfl) ?_
  refine zlEnd (by kernel_rfl) ?_
  refine zkNil ?_
  exact endQ hS hQ (finL_n (by show keepSt _ _ _ _ = _; kernel_rfl))
def f23_l2_j10_J (a1 : List Int) (a2 : Int) (p1052 : List Int) (p1053 : Int) (p1054 : Int) (p1055 : Bool) (p1056 : Int) (p1057 : Int) (p1058 : Int) (p1059 : Int) (p1060 : Bool) (p1061 : Bool) : St := ⟨(up (up (up (up (up (up (up (up (up (up (up (up (up (up (up (up (up (up (up (up (fun _ => .un) 51 (.d (.bool p1061))) 50 (.d (.bool p1060))) 49 (.d (.int .i64 p1059))) 46 (.d (.bool false))) 45 (.d (.bool false))) 44 (.d (.int .i64 p1058))) 43 (.d (.bool true))) 42 (.d (.bool true))) 41 (.d (.int .i64 p1057))) 38 (.tup [])) 37 (.tup [])) 34 (.d (.bool false))) 33 (.d (.int .i64 p1056))) 29 (.d (.bool p1055))) 15 (.d (.int .i64 p1054))) 14 (.d (.int .i64 (a1.length : Int)))) 13 (.d (.sl a1.length ((eInt .i64).cells a1)))) 8 (.d (.int .i64 p1053))) 6 (.r (.msl 56 0 0 p1052.length))) 1 (.d (.int .i64 a2))), (up (hB fun _ => 0) 56 ⟨0, some (.own 3 1 ((eInt .i64).cells p1052))⟩)⟩
noncomputable def f23_l2_j10 (a1 : List Int) (a2 : Int) (p1052 : List Int) (p1053 : Int) (p1054 : Int) (p1055 : Bool) (p1056 : Int) (p1057 : Int) (p1058 : Int) (p1059 : Int) (p1060 : Bool) (p1061 : Bool) : Option (((List Int) × Int) ⊕ (((List Int)))) := (bif p1055 then (some (.inl (p1052, (IntKind.i64.wrap (p1054 + 1))))) else ((app? 8 p1052 ([p1053] : List Int)).bind fun z59 => (some (.inl (z59, (IntKind.i64.wrap (p1054 + 1)))))))
theorem f23_l2_j10_ok {d : Nat} (hd : 4 ≤ d) (a1 : List Int) (a2 : Int) {r : ((List Int) × Int) ⊕ (((List Int)))} {Q : PX → St → Prop} (hQ : ∀ e st', finL (f23_l2_H a1 a2) (f23_l2_X a1 a2) r e st' → Q e st') (p1052 : List Int) (p1053 : Int) (p1054 : Int) (p1055 : Bool) (p1056 : Int) (p1057 : Int) (p1058 : Int) (p1059 : Int) (p1060 : Bool) (p1061 : Bool) (hS : f23_l2_j10 a1 a2 p1052 p1053 p1054 p1055 p1056 p1057 p1058 p1059 p1060 p1061 = some r) {st : St} (he : keepSt [1, 6, 8, 13, 14, 15, 29, 33, 34, 37, 38, 41, 42, 43, 44, 45, 46, 49, 50, 51] [(56, .id 56)] [] st = f23_l2_j10_J a1 a2 p1052 p1053 p1054 p1055 p1056 p1057 p1058 p1059 p1060 p1061) : ZR (lev codes baseL (d - 1)) Q c23_2 [.blk 2, .blk 1, .seq c23_3] st := by
  refine zrKeep he ?_
  unfold f23_l2_j10 at hS
  refine zrSplit 29 p1055 (by kernel_rfl) (fun hc => ?_) (fun hc => ?_)
  · replace hS := cond_t hc hS
    refine zrCondT (by kernel_rfl) ?_
    refine zrSkip ?_
    refine zkBlk ?_
    refine zkBlk ?_
    refine zkSeq ?_
    refine zrReg ?_
    refine zlRun (n := 2) (j := 2) rfl (by kernel_rfl) ?_
    refine zlEnd (by kernel_rfl) ?_
    refine zkNil ?_
    exact endQ hS hQ (finL_n (by show keepSt _ _ _ _ = _; kernel_rfl))
  · replace hS := cond_f hc hS
    refine zrCondF (by kernel_rfl) ?_
    refine zrReg ?_
    refine zlRun (n := 3) (j := 3) rfl (by kernel_rfl) ?_
    refine bindE hS (fun z59 hz59 hS => ?_)
    refine zlOp (d := some 22) (op := (.app 3 1 8 (.tmp 19) (.tmp 21))) (g := none) (v := (.r (.msl 56 1 0 z59.length))) (ups := [(56, ⟨1, some (.own 3 1 ((eInt .i64).cells z59))⟩)]) (j := 4) rfl (by kernel_rfl) (by kernel_rfl) (ev_app (eInt .i64) (b := 56) (g := 0) (n := p1052.length) (xs := p1052) (ys := [p1053]) ((congrArg (asL _) (by kernel_rfl : ρof _ (.tmp 21) = (.r (.msl 176 1 0 (([p1053] : List Int).length))))).trans (as_whole (eInt .i64) (e := 3) (k := 1) (xs := [p1053]) (by kernel_rfl) rfl rfl)) rfl (by kernel_rfl) rfl (by kernel_rfl) rfl hz59) ?_
    refine zlRun (n := 1) (j := 5) rfl (by kernel_rfl) ?_
    refine zlEnd (by kernel_rfl) ?_
    refine zkBlk ?_
    refine zkBlk ?_
    refine zkSeq ?_
    refine zrReg ?_
    refine zlRun (n := 2) (j := 2) rfl (by kernel_rfl) ?_
    refine zlEnd (by kernel_rfl) ?_
    refine zkNil ?_
    exact endQ hS hQ (finL_n (by show keepSt _ _ _ _ = _; kernel_rfl))
def f23_l2_j11_J (a1 : List Int) (a2 : Int) (p1062 : List Int) (p1063 : Int) (p1064 : Int) (p1065 : Bool) (p1066 : Int) (p1067 : Int) (p1068 : Int) (p1069 : Bool) (p1070 : Bool) : St := ⟨(up (up (up (up (up (up (up (up (up (up (up (up (up (up (up (up (up (up (up (up (fun _ => .un) 51 (.d (.bool p1070))) 50 (.d (.bool p1069))) 49 (.d (.int .i64 p1068))) 46 (.d (.bool false))) 45 (.tup [])) 44 (.tup [])) 43 (.d (.bool false))) 42 (.d (.bool false))) 41 (.d (.int .i64 p1067))) 38 (.tup [])) 37 (.tup [])) 34 (.d (.bool false))) 33 (.d (.int .i64 p1066))) 29 (.d (.bool p1065))) 15 (.d (.int .i64 p1064))) 14 (.d (.int .i64 (a1.length : Int)))) 13 (.d (.sl a1.length ((eInt .i64).cells a1)))) 8 (.d (.int .i64 p1063))) 6 (.r (.msl 56 0 0 p1062.length))) 1 (.d (.int .i64 a2))), (up (hB fun _ => 0) 56 ⟨0, some (.own 3 1 ((eInt .i64).cells p1062))⟩)⟩
noncomputable def f23_l2_j11 (a1 : List Int) (a2 : Int) (p1062 : List Int) (p1063 : Int) (p1064 : Int) (p1065 : Bool) (p1066 : Int) (p1067 : Int) (p1068 : Int) (p1069 : Bool) (p1070 : Bool) : Option (((List Int) × Int) ⊕ (((List Int)))) := (bif p1065 then (some (.inl (p1062, (IntKind.i64.wrap (p1064 + 1))))) else ((app? 8 p1062 ([p1063] : List Int)).bind fun z60 => (some (.inl (z60, (IntKind.i64.wrap (p1064 + 1)))))))
theorem f23_l2_j11_ok {d : Nat} (hd : 4 ≤ d) (a1 : List Int) (a2 : Int) {r : ((List Int) × Int) ⊕ (((List Int)))} {Q : PX → St → Prop} (hQ : ∀ e st', finL (f23_l2_H a1 a2) (f23_l2_X a1 a2) r e st' → Q e st') (p1062 : List Int) (p1063 : Int) (p1064 : Int) (p1065 : Bool) (p1066 : Int) (p1067 : Int) (p1068 : Int) (p1069 : Bool) (p1070 : Bool) (hS : f23_l2_j11 a1 a2 p1062 p1063 p1064 p1065 p1066 p1067 p1068 p1069 p1070 = some r) {st : St} (he : keepSt [1, 6, 8, 13, 14, 15, 29, 33, 34, 37, 38, 41, 42, 43, 44, 45, 46, 49, 50, 51] [(56, .id 56)] [] st = f23_l2_j11_J a1 a2 p1062 p1063 p1064 p1065 p1066 p1067 p1068 p1069 p1070) : ZR (lev codes baseL (d - 1)) Q c23_2 [.blk 2, .blk 1, .seq c23_3] st := by
  refine zrKeep he ?_
  unfold f23_l2_j11 at hS
  refine zrSplit 29 p1065 (by kernel_rfl) (fun hc => ?_) (fun hc => ?_)
  · replace hS := cond_t hc hS
    refine zrCondT (by kernel_rfl) ?_
    refine zrSkip ?_
    refine zkBlk ?_
    refine zkBlk ?_
    refine zkSeq ?_
    refine zrReg ?_
    refine zlRun (n := 2) (j := 2) rfl (by kernel_rfl) ?_
    refine zlEnd (by kernel_rfl) ?_
    refine zkNil ?_
    exact endQ hS hQ (finL_n (by show keepSt _ _ _ _ = _; kernel_rfl))
  · replace hS := cond_f hc hS
    refine zrCondF (by kernel_rfl) ?_
    refine zrReg ?_
    refine zlRun (n := 3) (j := 3) rfl (by kernel_rfl) ?_
    refine bindE hS (fun z60 hz60 hS => ?_)
    refine zlOp (d := some 22) (op := (.app 3 1 8 (.tmp 19) (.tmp 21))) (g := none) (v := (.r (.msl 56 1 0 z60.length))) (ups := [(56, ⟨1, some (.own 3 1 ((eInt .i64).cells z60))⟩)]) (j := 4) rfl (by kernel_rfl) (by kernel_rfl) (ev_app (eInt .i64) (b := 56) (g := 0) (n := p1062.length) (xs := p1062) (ys := [p1063]) ((congrArg (asL _) (by kernel_rfl : ρof _ (.tmp 21) = (.r (.msl 176 1 0 (([p1063] : List Int).length))))).trans (as_whole (eInt .i64) (e := 3) (k := 1) (xs := [p1063]) (by kernel_rfl) rfl rfl)) rfl (by kernel_rfl) rfl (by kernel_rfl) rfl hz60) ?_
    refine zlRun (n := 1) (j := 5) rfl (by kernel_rfl) ?_
    refine zlEnd (by kernel_rfl) ?_
    refine zkBlk ?_
    refine zkBlk ?_
    refine zkSeq ?_
    refine zrReg ?_
    refine zlRun (n := 2) (j := 2) rfl (by kernel_rfl) ?_
    refine zlEnd (by kernel_rfl) ?_
    refine zkNil ?_
    exact endQ hS hQ (finL_n (by show keepSt _ _ _ _ = _; kernel_rfl))
def f23_l2_j12_J (a1 : List Int) (a2 : Int) (p1071 : List Int) (p1072 : Int) (p1073 : Int) (p1074 : Int) (p1075 : Int) : St := ⟨(up (up (up (up (up (up (up (up (up (up (up (up (up (up (up (up (up (up (up (up (fun _ => .un) 51 (.tup [])) 50 (.tup [])) 49 (.tup [])) 46 (.d (.bool true))) 45 (.d (.bool true))) 44 (.d (.int .i64 p1075))) 43 (.d (.bool true))) 42 (.d (.bool true))) 41 (.d (.int .i64 p1074))) 38 (.tup [])) 37 (.tup [])) 34 (.tup [])) 33 (.tup [])) 29 (.d (.bool true))) 15 (.d (.int .i64 p1073))) 14 (.d (.int .i64 (a1.length : Int)))) 13 (.d (.sl a1.length ((eInt .i64).cells a1)))) 8 (.d (.int .i64 p1072))) 6 (.r (.msl 56 0 0 p1071.length))) 1 (.d (.int .i64 a2))), (up (hB fun _ => 0) 56 ⟨0, some (.own 3 1 ((eInt .i64).cells p1071))⟩)⟩
noncomputable def f23_l2_j12 (a1 : List Int) (a2 : Int) (p1071 : List Int) (p1072 : Int) (p1073 : Int) (p1074 : Int) (p1075 : Int) : Option (((List Int) × Int) ⊕ (((List Int)))) := (some (.inl (p1071, (IntKind.i64.wrap (p1073 + 1)))))
theorem f23_l2_j12_ok {d : Nat} (hd : 4 ≤ d) (a1 : List Int) (a2 : Int) {r : ((List Int) × Int) ⊕ (((List Int)))} {Q : PX → St → Prop} (hQ : ∀ e st', finL (f23_l2_H a1 a2) (f23_l2_X a1 a2) r e st' → Q e st') (p1071 : List Int) (p1072 : Int) (p1073 : Int) (p1074 : Int) (p1075 : Int) (hS : f23_l2_j12 a1 a2 p1071 p1072 p1073 p1074 p1075 = some r) {st : St} (he : keepSt [1, 6, 8, 13, 14, 15, 29, 33, 34, 37, 38, 41, 42, 43, 44, 45, 46, 49, 50, 51] [(56, .id 56)] [] st = f23_l2_j12_J a1 a2 p1071 p1072 p1073 p1074 p1075) : ZR (lev codes baseL (d - 1)) Q c23_2 [.blk 2, .blk 1, .seq c23_3] st := by
  refine zrKeep he ?_
  unfold f23_l2_j12 at hS
  refine zrCondT (by kernel_rfl) ?_
  refine zrSkip ?_
  refine zkBlk ?_
  refine zkBlk ?_
  refine zkSeq ?_
  refine zrReg ?_
  refine zlRun (n := 2) (j := 2) rfl (by kernel_rfl) ?_
  refine zlEnd (by kernel_rfl) ?_
  refine zkNil ?_
  exact endQ hS hQ (finL_n (by show keepSt _ _ _ _ = _; kernel_rfl))
def f23_l2_j13_J (a1 : List Int) (a2 : Int) (p1076 : List Int) (p1077 : Int) (p1078 : Int) (p1079 : Bool) (p1080 : Int) (p1081 : Int) (p1082 : Int) (p1083 : Bool) (p1084 : Bool) : St := ⟨(up (up (up (up (up (up (up (up (up (up (up (up (up (up (up (up (up (up (up (up (fun _ => .un) 51 (.d (.bool p1084))) 50 (.d (.bool p1083))) 49 (.d (.int .i64 p1082))) 46 (.d (.bool false))) 45 (.d (.bool false))) 44 (.d (.int .i64 p1081))) 43 (.d (.bool true))) 42 (.d (.bool true))) 41 (.d (.int .i64 p1080))) 38 (.tup [])) 37 (.tup [])) 34 (.tup [])) 33 (.tup [])) 29 (.d (.bool p1079))) 15 (.d (.int .i64 p1078))) 14 (.d (.int .i64 (a1.length : Int)))) 13 (.d (.sl a1.length ((eInt .i64).cells a1)))) 8 (.d (.int .i64 p1077))) 6 (.r (.msl 56 0 0 p1076.length))) 1 (.d (.int .i64 a2))), (up (hB fun _ => 0) 56 ⟨0, some (.own 3 1 ((eInt .i64).cells p1076))⟩)⟩
noncomputable def f23_l2_j13 (a1 : List Int) (a2 : Int) (p1076 : List Int) (p1077 : Int) (p1078 : Int) (p1079 : Bool) (p1080 : Int) (p1081 : Int) (p1082 : Int) (p1083 : Bool) (p1084 : Bool) : Option (((List Int) × Int) ⊕ (((List Int)))) := (bif p1079 then (some (.inl (p1076, (IntKind.i64.wrap (p1078 + 1))))) else ((app? 8 p1076 ([p1077] : List Int)).bind fun z61 => (some (.inl (z61, (IntKind.i64.wrap (p1078 + 1)))))))
theorem f23_l2_j13_ok {d : Nat} (hd : 4 ≤ d) (a1 : List Int) (a2 : Int) {r : ((List Int) × Int) ⊕ (((List Int)))} {Q : PX → St → Prop} (hQ : ∀ e st', finL (f23_l2_H a1 a2) (f23_l2_X a1 a2) r e st' → Q e st') (p1076 : List Int) (p1077 : Int) (p1078 : Int) (p1079 : Bool) (p1080 : Int) (p1081 : Int) (p1082 : Int) (p1083 : Bool) (p1084 : Bool) (hS : f23_l2_j13 a1 a2 p1076 p1077 p1078 p1079 p1080 p1081 p1082 p1083 p1084 = some r) {st : St} (he : keepSt [1, 6, 8, 13, 14, 15, 29, 33, 34, 37, 38, 41, 42, 43, 44, 45, 46, 49, 50, 51] [(56, .id 56)] [] st = f23_l2_j13_J a1 a2 p1076 p1077 p1078 p1079 p1080 p1081 p1082 p1083 p1084) : ZR (lev codes baseL (d - 1)) Q c23_2 [.blk 2, .blk 1, .seq c23_3] st := by
  refine zrKeep he ?_
  unfold f23_l2_j13 at hS
  refine zrSplit 29 p1079 (by kernel_rfl) (fun hc => ?_) (fun hc => ?_)
  · replace hS := cond_t hc hS
    refine zrCondT (by kernel_rfl) ?_
    refine zrSkip ?_
    refine zkBlk ?_
    refine zkBlk ?_
    refine zkSeq ?_
    refine zrReg ?_
    refine zlRun (n := 2) (j := 2) rfl (by kernel_rfl) ?_
    refine zlEnd (by kernel_rfl) ?_
    refine zkNil ?_
    exact endQ hS hQ (finL_n (by show keepSt _ _ _ _ = _; kernel_rfl))
  · replace hS := cond_f hc hS
    refine zrCondF (by kernel_rfl) ?_
    refine zrReg ?_
    refine zlRun (n := 3) (j := 3) rfl (by kernel_rfl) ?_
    refine bindE hS (fun z61 hz61 hS => ?_)
    refine zlOp (d := some 22) (op := (.app 3 1 8 (.tmp 19) (.tmp 21))) (g := none) (v := (.r (.msl 56 1 0 z61.length))) (ups := [(56, ⟨1, some (.own 3 1 ((eInt .i64).cells z61))⟩)]) (j := 4) rfl (by kernel_rfl) (by kernel_rfl) (ev_app (eInt .i64) (b := 56) (g := 0) (n := p1076.length) (xs := p1076) (ys := [p1077]) ((congrArg (asL _) (by kernel_rfl : ρof _ (.tmp 21) = (.r (.msl 176 1 0 (([p1077] : List Int).length))))).trans (as_whole (eInt .i64) (e := 3) (k := 1) (xs := [p1077]) (by kernel_rfl) rfl rfl)) rfl (by kernel_rfl) rfl (by kernel_rfl) rfl hz61) ?_
    refine zlRun (n := 1) (j := 5) rfl (by kernel_rfl) ?_
    refine zlEnd (by kernel_rfl) ?_
    refine zkBlk ?_
    refine zkBlk ?_
    refine zkSeq ?_
    refine zrReg ?_
    refine zlRun (n := 2) (j := 2) rfl (by kernel_rfl) ?_
    refine zlEnd (by kernel_rfl) ?_
    refine zkNil ?_
    exact endQ hS hQ (finL_n (by show keepSt _ _ _ _ = _; kernel_rfl))
def f23_l2_j14_J (a1 : List Int) (a2 : Int) (p1085 : List Int) (p1086 : Int) (p1087 : Int) (p1088 : Bool) (p1089 : Int) (p1090 : Int) (p1091 : Bool) (p1092 : Bool) : St := ⟨(up (up (up (up (up (up (up (up (up (up (up (up (up (up (up (up (up (up (up (up (fun _ => .un) 51 (.d (.bool p1092))) 50 (.d (.bool p1091))) 49 (.d (.int .i64 p1090))) 46 (.d (.bool false))) 45 (.tup [])) 44 (.tup [])) 43 (.d (.bool false))) 42 (.d (.bool false))) 41 (.d (.int .i64 p1089))) 38 (.tup [])) 37 (.tup [])) 34 (.tup [])) 33 (.tup [])) 29 (.d (.bool p1088))) 15 (.d (.int .i64 p1087))) 14 (.d (.int .i64 (a1.length : Int)))) 13 (.d (.sl a1.length ((eInt .i64).cells a1)))) 8 (.d (.int .i64 p1086))) 6 (.r (.msl 56 0 0 p1085.length))) 1 (.d (.int .i64 a2))), (up (hB fun _ => 0) 56 ⟨0, some (.own 3 1 ((eInt .i64).cells p1085))⟩)⟩
noncomputable def f23_l2_j14 (a1 : List Int) (a2 : Int) (p1085 : List Int) (p1086 : Int) (p1087 : Int) (p1088 : Bool) (p1089 : Int) (p1090 : Int) (p1091 : Bool) (p1092 : Bool) : Option (((List Int) × Int) ⊕ (((List Int)))) := (bif p1088 then (some (.inl (p1085, (IntKind.i64.wrap (p1087 + 1))))) else ((app? 8 p1085 ([p1086] : List Int)).bind fun z62 => (some (.inl (z62, (IntKind.i64.wrap (p1087 + 1)))))))
theorem f23_l2_j14_ok {d : Nat} (hd : 4 ≤ d) (a1 : List Int) (a2 : Int) {r : ((List Int) × Int) ⊕ (((List Int)))} {Q : PX → St → Prop} (hQ : ∀ e st', finL (f23_l2_H a1 a2) (f23_l2_X a1 a2) r e st' → Q e st') (p1085 : List Int) (p1086 : Int) (p1087 : Int) (p1088 : Bool) (p1089 : Int) (p1090 : Int) (p1091 : Bool) (p1092 : Bool) (hS : f23_l2_j14 a1 a2 p1085 p1086 p1087 p1088 p1089 p1090 p1091 p1092 = some r) {st : St} (he : keepSt [1, 6, 8, 13, 14, 15, 29, 33, 34, 37, 38, 41, 42, 43, 44, 45, 46, 49, 50, 51] [(56, .id 56)] [] st = f23_l2_j14_J a1 a2 p1085 p1086 p1087 p1088 p1089 p1090 p1091 p1092) : ZR (lev codes baseL (d - 1)) Q c23_2 [.blk 2, .blk 1, .seq c23_3] st := by
  refine zrKeep he ?_
  unfold f23_l2_j14 at hS
  refine zrSplit 29 p1088 (by kernel_rfl) (fun hc => ?_) (fun hc => ?_)
  · replace hS := cond_t hc hS
    refine zrCondT (by kernel_rfl) ?_
    refine zrSkip ?_
    refine zkBlk ?_
    refine zkBlk ?_
    refine zkSeq ?_
    refine zrReg ?_
    refine zlRun (n := 2) (j := 2) rfl (by kernel_rfl) ?_
    refine zlEnd (by kernel_rfl) ?_
    refine zkNil ?_
    exact endQ hS hQ (finL_n (by show keepSt _ _ _ _ = _; kernel_rfl))
  · replace hS := cond_f hc hS
    refine zrCondF (by kernel_rfl) ?_
    refine zrReg ?_
    refine zlRun (n := 3) (j := 3) rfl (by kernel_rfl) ?_
    refine bindE hS (fun z62 hz62 hS => ?_)
    refine zlOp (d := some 22) (op := (.app 3 1 8 (.tmp 19) (.tmp 21))) (g := none) (v := (.r (.msl 56 1 0 z62.length))) (ups := [(56, ⟨1, some (.own 3 1 ((eInt .i64).cells z62))⟩)]) (j := 4) rfl (by kernel_rfl) (by kernel_rfl) (ev_app (eInt .i64) (b := 56) (g := 0) (n := p1085.length) (xs := p1085) (ys := [p1086]) ((congrArg (asL _) (by kernel_rfl : ρof _ (.tmp 21) = (.r (.msl 176 1 0 (([p1086] : List Int).length))))).trans (as_whole (eInt .i64) (e := 3) (k := 1) (xs := [p1086]) (by kernel_rfl) rfl rfl)) rfl (by kernel_rfl) rfl (by kernel_rfl) rfl hz62) ?_
    refine zlRun (n := 1) (j := 5) rfl (by kernel_rfl) ?_
    refine zlEnd (by kernel_rfl) ?_
    refine zkBlk ?_
    refine zkBlk ?_
    refine zkSeq ?_
    refine zrReg ?_
    refine zlRun (n := 2) (j := 2) rfl (by kernel_rfl) ?_
    refine zlEnd (by kernel_rfl) ?_
    refine zkNil ?_
    exact endQ hS hQ (finL_n (by show keepSt _ _ _ _ = _; kernel_rfl))
def f23_l2_j4_J (a1 : List Int) (a2 : Int) (p765 : List Int) (p766 : Int) : St := ⟨(up (up (up (up (up (fun _ => .un) 15 (.d (.int .i64 p766))) 14 (.d (.int .i64 (a1.length : Int)))) 13 (.d (.sl a1.length ((eInt .i64).cells a1)))) 6 (.r (.msl 56 0 0 p765.length))) 1 (.d (.int .i64 a2))), (up (hB fun _ => 0) 56 ⟨0, some (.own 3 1 ((eInt .i64).cells p765))⟩)⟩
noncomputable def f23_l2_j4 (a1 : List Int) (a2 : Int) (p765 : List Int) (p766 : Int) : Option (((List Int) × Int) ⊕ (((List Int)))) := ((idx a1 p766).bind fun z49 => (bif (decide (z49 = 10)) then ((app? 8 p765 ([13] : List Int)).bind fun z50 => (some (.inl (z50, (IntKind.i64.wrap (p766 + 1)))))) else (bif (decide (z49 < 32)) then (bif (!decide (z49 = 9)) then (bif (!decide (z49 = 13)) then (f23_l2_j5 a1 a2 p765 z49 p766 z49 z49) else (bif (decide (127 ≤ z49)) then (bif (decide (z49 ≤ 159)) then (f23_l2_j6 a1 a2 p765 z49 p766 z49 z49 z49 z49) else ((f40 z49).bind fun z63 => (f23_l2_j7 a1 a2 p765 z49 p766 (!z63) z49 z49 z49 z49 z49 z63 (!z63)))) else ((f40 z49).bind fun z64 => (f23_l2_j8 a1 a2 p765 z49 p766 (!z64) z49 z49 z49 z49 z64 (!z64))))) else (bif (decide (127 ≤ z49)) then (bif (decide (z49 ≤ 159)) then (f23_l2_j9 a1 a2 p765 z49 p766 z49 z49 z49) else ((f40 z49).bind fun z65 => (f23_l2_j10 a1 a2 p765 z49 p766 (!z65) z49 z49 z49 z49 z65 (!z65)))) else ((f40 z49).bind fun z66 => (f23_l2_j11 a1 a2 p765 z49 p766 (!z66) z49 z49 z49 z66 (!z66))))) else (bif (decide (127 ≤ z49)) then (bif (decide (z49 ≤ 159)) then (f23_l2_j12 a1 a2 p765 z49 p766 z49 z49) else ((f40 z49).bind fun z67 => (f23_l2_j13 a1 a2 p765 z49 p766 (!z67) z49 z49 z49 z67 (!z67)))) else ((f40 z49).bind fun z68 => (f23_l2_j14 a1 a2 p765 z49 p766 (!z68) z49 z49 z68 (!z68)))))))
theorem f23_l2_j4_ok {d : Nat} (hd : 4 ≤ d) (a1 : List Int) (a2 : Int) {r : ((List Int) × Int) ⊕ (((List Int)))} {Q : PX → St → Prop} (hQ : ∀ e st', finL (f23_l2_H a1 a2) (f23_l2_X a1 a2) r e st' → Q e st') (p765 : List Int) (p766 : Int) (hS : f23_l2_j4 a1 a2 p765 p766 = some r) {st : St} (he : keepSt [1, 6, 13, 14, 15] [(56, .id 56)] [] st = f23_l2_j4_J a1 a2 p765 p766) : ZR (lev codes baseL (d - 1)) Q c23_4 [] st := by
  refine zrKeep he ?_
  unfold f23_l2_j4 at hS
  refine zrSeq ?_
  refine zrBlk ?_
  refine zrSeq ?_
  refine zrReg ?_
  refine bindE hS (fun z49 hz49 hS => ?_)
  refine zlOp (d := some 17) (op := (.ixS 3 1 (.tmp 13) (.tmp 15))) (g := none) (v := (.rptr ((eInt .i64).enc z49 ++ ((eInt .i64).cells (a1.drop ((p766 : Int).toNat + 1)))))) (ups := []) (j := 1) rfl (by kernel_rfl) (by kernel_rfl) (ev_ixS (eInt .i64) (kk := .i64) (xs := a1) (j := p766) (by kernel_rfl) (by kernel_rfl) hz49 rfl (by intro h; cases h)) ?_
  refine zlRun (n := 2) (j := 3) rfl (by kernel_rfl) ?_
  refine zlEnd (by kernel_rfl) ?_
  refine zkSeq ?_
  refine zrBlk ?_
  refine zrSeq ?_
  refine zrReg ?_
  refine zlRun (n := 1) (j := 1) rfl (by kernel_rfl) ?_
  refine zlBool (d := 25) (op := (.cmpI .eql (.tmp 24) (.const (.int .i64 10)))) (g := none) (j := 2) (decide (z49 = 10)) rfl (by kernel_rfl) (by kernel_rfl) (by kernel_rfl) (fun hc => ?_) (fun hc => ?_)
  · replace hS := cond_t hc hS
    refine zlRun (n := 1) (j := 3) rfl (by kernel_rfl) ?_
    refine zlEnd (by kernel_rfl) ?_
    refine zkSeq ?_
    refine zrCondT (by kernel_rfl) ?_
    refine zrReg ?_
    refine zlRun (n := 2) (j := 2) rfl (by kernel_rfl) ?_
    refine bindE hS (fun z50 hz50 hS => ?_)
    refine zlOp (d := some 28) (op := (.app 3 1 8 (.tmp 26) (.tmp 27))) (g := none) (v := (.r (.msl 56 1 0 z50.length))) (ups := [(56, ⟨1, some (.own 3 1 ((eInt .i64).cells z50))⟩)]) (j := 3) rfl (by kernel_rfl) (by kernel_rfl) (ev_app (eInt .i64) (b := 56) (g := 0) (n := p765.length) (xs := p765) (ys := [13]) ((congrArg (asL _) (by kernel_rfl : ρof _ (.tmp 27) = (.r (.msl 224 1 0 (([13] : List Int).length))))).trans (as_whole (eInt .i64) (e := 3) (k := 1) (xs := [13]) (by kernel_rfl) rfl rfl)) rfl (by kernel_rfl) rfl (by kernel_rfl) rfl hz50) ?_
    refine zlRun (n := 1) (j := 4) rfl (by kernel_rfl) ?_
    refine zlEnd (by kernel_rfl) ?_
    refine zkBlk ?_
    refine zkBlk ?_
    refine zkSeq ?_
    refine zrReg ?_
    refine zlRun (n := 2) (j := 2) rfl (by kernel_rfl) ?_
    refine zlEnd (by kernel_rfl) ?_
    refine zkNil ?_
    exact endQ hS hQ (finL_n (by show keepSt _ _ _ _ = _; kernel_rfl))
  · replace hS := cond_f hc hS
    refine zlRun (n := 1) (j := 3) rfl (by kernel_rfl) ?_
    refine zlEnd (by kernel_rfl) ?_
    refine zkSeq ?_
    refine zrCondF (by kernel_rfl) ?_
    refine zrSeq ?_
    refine zrReg ?_
    refine zlRun (n := 1) (j := 1) rfl (by kernel_rfl) ?_
    refine zlBool (d := 31) (op := (.cmpI .lss (.tmp 30) (.const (.int .i64 32)))) (g := none) (j := 2) (decide (z49 < 32)) rfl (by kernel_rfl) (by kernel_rfl) (by kernel_rfl) (fun hc => ?_) (fun hc => ?_)
    · replace hS := cond_t hc hS
      refine zlRun (n := 2) (j := 4) rfl (by kernel_rfl) ?_
      refine zlBool (d := 34) (op := (.cmpI .neq (.tmp 33) (.const (.int .i64 9)))) (g := (some (32, true))) (j := 5) (!decide (z49 = 9)) rfl (by kernel_rfl) (by kernel_rfl) (by kernel_rfl) (fun hc => ?_) (fun hc => ?_)
      · replace hS := cond_t hc hS
        refine zlRun (n := 3) (j := 8) rfl (by kernel_rfl) ?_
        refine zlBool (d := 38) (op := (.cmpI .neq (.tmp 37) (.const (.int .i64 13)))) (g := (some (36, true))) (j := 9) (!decide (z49 = 13)) rfl (by kernel_rfl) (by kernel_rfl) (by kernel_rfl) (fun hc => ?_) (fun hc => ?_)
        · replace hS := cond_t hc hS
          refine zlRun (n := 15) (j := 24) rfl (by kernel_rfl) ?_
          refine zlEnd (by kernel_rfl) ?_
          refine zkSeq ?_
          exact f23_l2_j5_ok hd a1 a2 hQ p765 z49 p766 z49 z49 hS (by kernel_rfl)
        · replace hS := cond_f hc hS
          refine zlRun (n := 3) (j := 12) rfl (by kernel_rfl) ?_
          refine zlBool (d := 42) (op := (.cmpI .geq (.tmp 41) (.const (.int .i64 127)))) (g := (some (40, false))) (j := 13) (decide (127 ≤ z49)) rfl (by kernel_rfl) (by kernel_rfl) (by kernel_rfl) (fun hc => ?_) (fun hc => ?_)
          · replace hS := cond_t hc hS
            refine zlRun (n := 2) (j := 15) rfl (by kernel_rfl) ?_
            refine zlBool (d := 45) (op := (.cmpI .leq (.tmp 44) (.const (.int .i64 159)))) (g := (some (43, true))) (j := 16) (decide (z49 ≤ 159)) rfl (by kernel_rfl) (by kernel_rfl) (by kernel_rfl) (fun hc => ?_) (fun hc => ?_)
            · replace hS := cond_t hc hS
              refine zlRun (n := 8) (j := 24) rfl (by kernel_rfl) ?_
              refine zlEnd (by kernel_rfl) ?_
              refine zkSeq ?_
              exact f23_l2_j6_ok hd a1 a2 hQ p765 z49 p766 z49 z49 z49 z49 hS (by kernel_rfl)
            · replace hS := cond_f hc hS
              refine zlRun (n := 4) (j := 20) rfl (by kernel_rfl) ?_
              refine bindE hS (fun z63 hz63 hS => ?_)
              refine zlOp (d := some 50) (op := (.call 40 [(.tmp 49)])) (g := (some (48, false))) (v := (.d (.bool z63))) (ups := []) (j := 21) rfl (by kernel_rfl) (by kernel_rfl) (ev_call (args := [(.d (.int .i64 z49))]) (l := [(.d (.int .i64 z49))]) (r := (.d (.bool z63))) (by kernel_rfl) (by kernel_rfl) (f40_ok (d - 1) (dpt hd rfl) z49 z63 hz63) (by kernel_rfl) (by kernel_rfl) (by kernel_rfl)) ?_
              refine zlRun (n := 3) (j := 24) rfl (by kernel_rfl) ?_
              refine zlEnd (by kernel_rfl) ?_
              refine zkSeq ?_
              exact f23_l2_j7_ok hd a1 a2 hQ p765 z49 p766 (!z63) z49 z49 z49 z49 z49 z63 (!z63) hS (by kernel_rfl)
          · replace hS := cond_f hc hS
            refine zlRun (n := 7) (j := 20) rfl (by kernel_rfl) ?_
            refine bindE hS (fun z64 hz64 hS => ?_)
            refine zlOp (d := some 50) (op := (.call 40 [(.tmp 49)])) (g := (some (48, false))) (v := (.d (.bool z64))) (ups := []) (j := 21) rfl (by kernel_rfl) (by kernel_rfl) (ev_call (args := [(.d (.int .i64 z49))]) (l := [(.d (.int .i64 z49))]) (r := (.d (.bool z64))) (by kernel_rfl) (by kernel_rfl) (f40_ok (d - 1) (dpt hd rfl) z49 z64 hz64) (by kernel_rfl) (by kernel_rfl) (by kernel_rfl)) ?_
            refine zlRun (n := 3) (j := 24) rfl (by kernel_rfl) ?_
            refine zlEnd (by kernel_rfl) ?_
            refine zkSeq ?_
            exact f23_l2_j8_ok hd a1 a2 hQ p765 z49 p766 (!z64) z49 z49 z49 z49 z64 (!z64) hS (by kernel_rfl)
      · replace hS := cond_f hc hS
        refine zlRun (n := 7) (j := 12) rfl (by kernel_rfl) ?_
        refine zlBool (d := 42) (op := (.cmpI .geq (.tmp 41) (.const (.int .i64 127)))) (g := (some (40, false))) (j := 13) (decide (127 ≤ z49)) rfl (by kernel_rfl) (by kernel_rfl) (by kernel_rfl) (fun hc => ?_) (fun hc => ?_)
        · replace hS := cond_t hc hS
          refine zlRun (n := 2) (j := 15) rfl (by kernel_rfl) ?_
          refine zlBool (d := 45) (op := (.cmpI .leq (.tmp 44) (.const (.int .i64 159)))) (g := (some (43, true))) (j := 16) (decide (z49 ≤ 159)) rfl (by kernel_rfl) (by kernel_rfl) (by kernel_rfl) (fun hc => ?_) (fun hc => ?_)
          · replace hS := cond_t hc hS
            refine zlRun (n := 8) (j := 24) rfl (by kernel_rfl) ?_
            refine zlEnd (by kernel_rfl) ?_
            refine zkSeq ?_
            exact f23_l2_j9_ok hd a1 a2 hQ p765 z49 p766 z49 z49 z49 hS (by kernel_rfl)
          · replace hS := cond_f hc hS
            refine zlRun (n := 4) (j := 20) rfl (by kernel_rfl) ?_
            refine bindE hS (fun z65 hz65 hS => ?_)
            refine zlOp (d := some 50) (op := (.call 40 [(.tmp 49)])) (g := (some (48, false))) (v := (.d (.bool z65))) (ups := []) (j := 21) rfl (by kernel_rfl) (by kernel_rfl) (ev_call (args := [(.d (.int .i64 z49))]) (l := [(.d (.int .i64 z49))]) (r := (.d (.bool z65))) (by kernel_rfl) (by kernel_rfl) (f40_ok (d - 1) (dpt hd rfl) z49 z65 hz65) (by kernel_rfl) (by kernel_rfl) (by kernel_rfl)) ?_
            refine zlRun (n := 3) (j := 24) rfl (by kernel_rfl) ?_
            refine zlEnd (by kernel_rfl) ?_
            refine zkSeq ?_
            exact f23_l2_j10_ok hd a1 a2 hQ p765 z49 p766 (!z65) z49 z49 z49 z49 z65 (!z65) hS (by kernel_rfl)
        · replace hS := cond_f hc hS
          refine zlRun (n := 7) (j := 20) rfl (by kernel_rfl) ?_
          refine bindE hS (fun z66 hz66 hS => ?_)
          refine zlOp (d := some 50) (op := (.call 40 [(.tmp 49)])) (g := (some (48, false))) (v := (.d (.bool z66))) (ups := []) (j := 21) rfl (by kernel_rfl) (by kernel_rfl) (ev_call (args := [(.d (.int .i64 z49))]) (l := [(.d (.int .i64 z49))]) (r := (.d (.bool z66))) (by kernel_rfl) (by kernel_rfl) (f40_ok (d - 1) (dpt hd rfl) z49 z66 hz66) (by kernel_rfl) (by kernel_rfl) (by kernel_rfl)) ?_
          refine zlRun (n := 3) (j := 24) rfl (by kernel_rfl) ?_
          refine zlEnd (by kernel_rfl) ?_
          refine zkSeq ?_
          exact f23_l2_j11_ok hd a1 a2 hQ p765 z49 p766 (!z66) z49 z49 z49 z66 (!z66) hS (by kernel_rfl)
    · replace hS := cond_f hc hS
      refine zlRun (n := 10) (j := 12) rfl (by kernel_rfl) ?_
      refine zlBool (d := 42) (op := (.cmpI .geq (.tmp 41) (.const (.int .i64 127)))) (g := (some (40, false))) (j := 13) (decide (127 ≤ z49)) rfl (by kernel_rfl) (by kernel_rfl) (by kernel_rfl) (fun hc => ?_) (fun hc => ?_)
      · replace hS := cond_t hc hS
        refine zlRun (n := 2) (j := 15) rfl (by kernel_rfl) ?_
        refine zlBool (d := 45) (op := (.cmpI .leq (.tmp 44) (.const (.int .i64 159)))) (g := (some (43, true))) (j := 16) (decide (z49 ≤ 159)) rfl (by kernel_rfl) (by kernel_rfl) (by kernel_rfl) (fun hc => ?_) (fun hc => ?_)
        · replace hS := cond_t hc hS
          refine zlRun (n := 8) (j := 24) rfl (by kernel_rfl) ?_
          refine zlEnd (by kernel_rfl) ?_
          refine zkSeq ?_
          exact f23_l2_j12_ok hd a1 a2 hQ p765 z49 p766 z49 z49 hS (by kernel_rfl)
        · replace hS := cond_f hc hS
          refine zlRun (n := 4) (j := 20) rfl (by kernel_rfl) ?_
          refine bindE hS (fun z67 hz67 hS => ?_)
          refine zlOp (d := some 50) (op := (.call 40 [(.tmp 49)])) (g := (some (48, false))) (v := (.d (.bool z67))) (ups := []) (j := 21) rfl (by kernel_rfl) (by kernel_rfl) (ev_call (args := [(.d (.int .i64 z49))]) (l := [(.d (.int .i64 z49))]) (r := (.d (.bool z67))) (by kernel_rfl) (by kernel_rfl) (f40_ok (d - 1) (dpt hd rfl) z49 z67 hz67) (by kernel_rfl) (by kernel_rfl) (by kernel_rfl)) ?_
          refine zlRun (n := 3) (j := 24) rfl (by kernel_rfl) ?_
          refine zlEnd (by kernel_rfl) ?_
          refine zkSeq ?_
          exact f23_l2_j13_ok hd a1 a2 hQ p765 z49 p766 (!z67) z49 z49 z49 z67 (!z67) hS (by kernel_rfl)
      · replace hS := cond_f hc hS
        refine zlRun (n := 7) (j := 20) rfl (by kernel_rfl) ?_
        refine bindE hS (fun z68 hz68 hS => ?_)
        refine zlOp (d := some 50) (op := (.call 40 [(.tmp 49)])) (g := (some (48, false))) (v := (.d (.bool z68))) (ups := []) (j := 21) rfl (by kernel_rfl) (by kernel_rfl) (ev_call (args := [(.d (.int .i64 z49))]) (l := [(.d (.int .i64 z49))]) (r := (.d (.bool z68))) (by kernel_rfl) (by kernel_rfl) (f40_ok (d - 1) (dpt hd rfl) z49 z68 hz68) (by kernel_rfl) (by kernel_rfl) (by kernel_rfl)) ?_
        refine zlRun (n := 3) (j := 24) rfl (by kernel_rfl) ?_
        refine zlEnd (by kernel_rfl) ?_
        refine zkSeq ?_
        exact f23_l2_j14_ok hd a1 a2 hQ p765 z49 p766 (!z68) z49 z49 z68 (!z68) hS (by kernel_rfl)
def f23_l2_j3_J (a1 : List Int) (a2 : Int) (p762 : List Int) (p763 : Int) (p764 : Bool) : St := ⟨(up (up (up (up (up (up (fun _ => .un) 16 (.d (.bool p764))) 15 (.d (.int .i64 p763))) 14 (.d (.int .i64 (a1.length : Int)))) 13 (.d (.sl a1.length ((eInt .i64).cells a1)))) 6 (.r (.msl 56 0 0 p762.length))) 1 (.d (.int .i64 a2))), (up (hB fun _ => 0) 56 ⟨0, some (.own 3 1 ((eInt .i64).cells p762))⟩)⟩
noncomputable def f23_l2_j3 (a1 : List Int) (a2 : Int) (p762 : List Int) (p763 : Int) (p764 : Bool) : Option (((List Int) × Int) ⊕ (((List Int)))) := (bif p764 then (f23_l2_j4 a1 a2 p762 p763) else (some (.inr p762)))
theorem f23_l2_j3_ok {d : Nat} (hd : 4 ≤ d) (a1 : List Int) (a2 : Int) {r : ((List Int) × Int) ⊕ (((List Int)))} {Q : PX → St → Prop} (hQ : ∀ e st', finL (f23_l2_H a1 a2) (f23_l2_X a1 a2) r e st' → Q e st') (p762 : List Int) (p763 : Int) (p764 : Bool) (hS : f23_l2_j3 a1 a2 p762 p763 p764 = some r) {st : St} (he : keepSt [1, 6, 13, 14, 15, 16] [(56, .id 56)] [] st = f23_l2_j3_J a1 a2 p762 p763 p764) : ZR (lev codes baseL (d - 1)) Q c23_5 [] st := by
  refine zrKeep he ?_
  unfold f23_l2_j3 at hS
  refine zrSeq ?_
  refine zrSplit 16 p764 (by kernel_rfl) (fun hc => ?_) (fun hc => ?_)
  · replace hS := cond_t hc hS
    refine zrCondT (by kernel_rfl) ?_
    refine zrSkip ?_
    refine zkSeq ?_
    exact f23_l2_j4_ok hd a1 a2 hQ p762 p763 hS (by kernel_rfl)
  · replace hS := cond_f hc hS
    refine zrCondF (by kernel_rfl) ?_
    refine zrKeep (J := f23_l2_e0_J a1 a2 p762) (by kernel_rfl) ?_
    refine zrExit ?_
    refine zkSeqX ?_
    refine zkNil ?_
    exact endQ hS hQ (finL_x (by intro h; cases h) (by show _ = _ ∧ _ = _; exact ⟨rfl, rfl⟩))
noncomputable def f23_l2 (a1 : List Int) (a2 : Int) (x : (List Int) × Int) : Option (((List Int) × Int) ⊕ (((List Int)))) := (bif (decide (x.2 < (a1.length : Int))) then (f23_l2_j3 a1 a2 x.1 x.2 true) else (f23_l2_j3 a1 a2 x.1 x.2 false))
theorem f23_l2_ok {d : Nat} (hd : 4 ≤ d) (a1 : List Int) (a2 : Int) {r : ((List Int) × Int) ⊕ (((List Int)))} {Q : PX → St → Prop} (hQ : ∀ e st', finL (f23_l2_H a1 a2) (f23_l2_X a1 a2) r e st' → Q e st') {x : (List Int) × Int} (hS : f23_l2 a1 a2 x = some r) {st : St} (he : f23_l2_H a1 a2 x st) : ZR (lev codes baseL (d - 1)) Q c23_6 [] st := by
  refine zrKeep he ?_
  unfold f23_l2 at hS
  refine zrSeq ?_
  refine zrReg ?_
  refine zlBool (d := 16) (op := (.cmpI .lss (.tmp 15) (.tmp 14))) (g := none) (j := 1) (decide (x.2 < (a1.length : Int))) rfl (by kernel_rfl) (by kernel_rfl) (by kernel_rfl) (fun hc => ?_) (fun hc => ?_)
  · replace hS := cond_t hc hS
    refine zlEnd (by kernel_rfl) ?_
    refine zkSeq ?_
    exact f23_l2_j3_ok hd a1 a2 hQ x.1 x.2 true hS (by kernel_rfl)
  · replace hS := cond_f hc hS
    refine zlEnd (by kernel_rfl) ?_
    refine zkSeq ?_
    exact f23_l2_j3_ok hd a1 a2 hQ x.1 x.2 false hS (by kernel_rfl)
def f23_j0_J (a1 : List Int) (a2 : Int) : St := ⟨(up (up (fun _ => .un) 1 (.d (.int .i64 a2))) 0 (.d (.sl a1.length ((eInt .i64).cells a1)))), (hB fun _ => 0)⟩
noncomputable def f23_j0 (a1 : List Int) (a2 : Int) : Option ((List UInt8) × Int) := ((loopO (f23_l2 a1 a2) ([], 0)).bind fun z69 => (f23_j1 a1 a2 z69))
theorem f23_j0_ok {d : Nat} (hd : 4 ≤ d) (a1 : List Int) (a2 : Int) {r : (List UInt8) × Int} {Q : PX → St → Prop} (hQ : ∀ e st', f23_Q r e st' → Q e st')  (hS : f23_j0 a1 a2 = some r) {st : St} (he : keepSt [0, 1] [] [] st = f23_j0_J a1 a2) : ZR (lev codes baseL (d - 1)) Q c23_7 [] st := by
  refine zrKeep he ?_
  unfold f23_j0 at hS
  refine zrSeq ?_
  refine zrReg ?_
  refine zlRun (n := 1) (j := 1) rfl (by kernel_rfl) ?_
  refine zlEnd (by kernel_rfl) ?_
  refine zkSeq ?_
  refine zrSeq ?_
  refine zrSeq ?_
  refine zrReg ?_
  refine zlRun (n := 3) (j := 3) rfl (by kernel_rfl) ?_
  refine zlEnd (by kernel_rfl) ?_
  refine zkSeq ?_
  refine zrBlk ?_
  refine bindE hS (fun z69 hz69 hS => ?_)
  refine zrLoop (f23_l2_H a1 a2) (f23_l2_X a1 a2) (fun x st r Q h0 hS hQ => f23_l2_ok hd a1 a2 hQ hS h0) (x := ([], 0)) (z := z69) (by show keepSt _ _ _ _ = _; kernel_rfl) hz69 ?_
  intro e st' _ hX
  obtain ⟨rfl, rfl⟩ : _ ∧ _ := hX
  refine zkBlkX ?_
  refine zkSeq ?_
  exact f23_j1_ok hd a1 a2 hQ z69 hS (by kernel_rfl)
noncomputable def f23 (a1 : List Int) (a2 : Int) : Option ((List UInt8) × Int) := (bif (decide (4000 < (a1.length : Int))) then (some ([], 2)) else (f23_j0 a1 a2 ))
theorem f23_ok (d : Nat) (hd : 4 ≤ d) (a1 : List Int) (a2 : Int) (r : (List UInt8) × Int) (hS : f23 a1 a2 = some r) : lev codes baseL d 23 [(.d (.sl a1.length ((eInt .i64).cells a1))), (.d (.int .i64 a2))] [] = some ((.tup [(.d (.str r.1)), (.d (.int .i64 r.2))]), []) := by
  refine lev_go codes23 rfl rfl (Nat.le_trans (Nat.le_of_ble_eq_true rfl) hd) fun Q hQ => ?_
  unfold f23 at hS
  show ZR _ Q c23_b [] _
  replace hQ : ∀ e st', f23_Q r e st' → Q e st' := hQ
  refine zrSeq ?_
  refine zrReg ?_
  refine zlRun (n := 2) (j := 2) rfl (by kernel_rfl) ?_
  refine zlEnd (by kernel_rfl) ?_
  refine zkSeq ?_
  refine zrSeq ?_
  refine zrSeq ?_
  refine zrReg ?_
  refine zlRun (n := 2) (j := 2) rfl (by kernel_rfl) ?_
  refine zlBool (d := 12) (op := (.cmpI .gtr (.tmp 11) (.const (.int .i64 4000)))) (g := none) (j := 3) (decide (4000 < (a1.length : Int))) rfl (by kernel_rfl) (by kernel_rfl) (by kernel_rfl) (fun hc => ?_) (fun hc => ?_)
  · replace hS := cond_t hc hS
    refine zlEnd (by kernel_rfl) ?_
    refine zkSeq ?_
    refine zrCondT (by kernel_rfl) ?_
    refine zrSeq ?_
    refine zrReg ?_
    refine zlRun (n := 2) (j := 2) rfl (by kernel_rfl) ?_
    refine zlEnd (by kernel_rfl) ?_
    refine zkSeq ?_
    refine zrRet ?_
    refine zkSeqR ?_
    refine zkNil ?_
    exact endQ hS hQ (fRet ((congrArg (fun s => outR s 0 c23.res) (by kernel_rfl : finSt c23.fin _ = f23_fin [] 2)).trans (f23_out [] 2)))
  · replace hS := cond_f hc hS
    refine zlEnd (by kernel_rfl) ?_
    refine zkSeq ?_
    refine zrCondF (by kernel_rfl) ?_
    refine zrSkip ?_
    refine zkSeq ?_
    exact f23_j0_ok hd a1 a2 hQ  hS (by kernel_rfl)
/- strconv.Itoa -/
theorem libItoa_ok (d : Nat) (hd : 0 ≤ d) (a1 : Int) (r : List UInt8) (hS : libItoa a1 = some r) : lev codes baseL d 49 [(.d (.int .i64 a1))] [] = some ((.d (.str r)), []) := lib_call (l := libs) rfl rfl rfl (oiS_ hS) d
/- farwriter/press.letter -/
def f41_fin (p2 : List UInt8) : St := ⟨(up (fun _ => .un) 6 (.d (.str p2))), (hB fun _ => 0)⟩
theorem f41_out (p2 : List UInt8) : outR (f41_fin p2) 0 c41.res = some ((.d (.str p2)), []) := by
  kernel_rfl
def f41_Q (r : (List UInt8)) (e : PX) (st : St) : Prop := DoneF c41 0 ((.d (.str r)), []) e st
def f41_j0_J (a1 : List UInt8) (a2 : UInt8) (a3 : Int) : St := ⟨(up (up (fun _ => .un) 2 (.d (.int .i64 a3))) 1 (.d (.int .u8 (a2.toNat : Int)))), (hB fun _ => 0)⟩
noncomputable def f41_j0 (a1 : List UInt8) (a2 : UInt8) (a3 : Int) : Option ((List UInt8)) := ((libItoa (IntKind.i64.wrap (a3 + 1))).bind fun z8 => ((cat? ([27, 91, 49, 59] : List UInt8) z8).bind fun z9 => ((cat? z9 ((Utf8.encode (a2.toNat : Int)).data.toList)).bind fun z10 => (some z10))))
theorem f41_j0_ok {d : Nat} (hd : 1 ≤ d) (a1 : List UInt8) (a2 : UInt8) (a3 : Int) {r : (List UInt8)} {Q : PX → St → Prop} (hQ : ∀ e st', f41_Q r e st' → Q e st')  (hS : f41_j0 a1 a2 a3 = some r) {st : St} (he : keepSt [1, 2] [] [] st = f41_j0_J a1 a2 a3) : ZR (lev codes baseL (d - 1)) Q c41_1 [] st := by
  refine zrKeep he ?_
  unfold f41_j0 at hS
  refine zrSeq ?_
  refine zrReg ?_
  refine zlRun (n := 2) (j := 2) rfl (by kernel_rfl) ?_
  refine bindE hS (fun z8 hz8 hS => ?_)
  refine zlOp (d := some 17) (op := (.call 49 [(.tmp 16)])) (g := none) (v := (.d (.str z8))) (ups := []) (j := 3) rfl (by kernel_rfl) (by kernel_rfl) (ev_call (args := [(.d (.int .i64 (IntKind.i64.wrap (a3 + 1))))]) (l := [(.d (.int .i64 (IntKind.i64.wrap (a3 + 1))))]) (r := (.d (.str z8))) (by kernel_rfl) (by kernel_rfl) (libItoa_ok (d - 1) (dpt hd rfl) (IntKind.i64.wrap (a3 + 1)) z8 hz8) (by kernel_rfl) (by kernel_rfl) (by kernel_rfl)) ?_
  refine bindE hS (fun z9 hz9 hS => ?_)
  refine zlOp (d := some 18) (op := (.strO .add (.const (.string ⟨#[27, 91, 49, 59]⟩)) (.tmp 17))) (g := none) (v := (.d (.str z9))) (ups := []) (j := 4) rfl (by kernel_rfl) (by kernel_rfl) (ev_cat (a := [27, 91, 49, 59]) (c := z8) (by kernel_rfl) (by kernel_rfl) hz9) ?_
  refine zlRun (n := 1) (j := 5) rfl (by kernel_rfl) ?_
  refine zlOp (d := some 20) (op := (.cvI .i32 (.tmp 19))) (g := none) (v := (.d (.int .i32 (a2.toNat : Int)))) (ups := []) (j := 6) rfl (by kernel_rfl) (by kernel_rfl) (ev_cv (kk := .u8) (a := (a2.toNat : Int)) (by kernel_rfl) (cv_i32 _)) ?_
  refine zlRun (n := 1) (j := 7) rfl (by kernel_rfl) ?_
  refine bindE hS (fun z10 hz10 hS => ?_)
  refine zlOp (d := some 22) (op := (.strO .add (.tmp 18) (.tmp 21))) (g := none) (v := (.d (.str z10))) (ups := []) (j := 8) rfl (by kernel_rfl) (by kernel_rfl) (ev_cat (a := z9) (c := (Utf8.encode (a2.toNat : Int)).data.toList) (by kernel_rfl) (by kernel_rfl) hz10) ?_
  refine zlRun (n := 1) (j := 9) rfl (by kernel_rfl) ?_
  refine zlEnd (by kernel_rfl) ?_
  refine zkSeq ?_
  refine zrRet ?_
  refine zkNil ?_
  exact endQ hS hQ (fRet ((congrArg (fun s => outR s 0 c41.res) (by kernel_rfl : finSt c41.fin _ = f41_fin z10)).trans (f41_out z10)))
noncomputable def f41 (a1 : List UInt8) (a2 : UInt8) (a3 : Int) : Option ((List UInt8)) := (bif (decide (a3 = 0)) then ((cat? ([27] : List UInt8) a1).bind fun z11 => ((cat? z11 ((Utf8.encode (a2.toNat : Int)).data.toList)).bind fun z12 => (some z12))) else (f41_j0 a1 a2 a3 ))
theorem f41_ok (d : Nat) (hd : 1 ≤ d) (a1 : List UInt8) (a2 : UInt8) (a3 : Int) (r : (List UInt8)) (hS : f41 a1 a2 a3 = some r) : lev codes baseL d 41 [(.d (.str a1)), (.d (.int .u8 (a2.toNat : Int))), (.d (.int .i64 a3))] [] = some ((.d (.str r)), []) := by
  refine lev_go codes41 rfl rfl (Nat.le_trans (Nat.le_of_ble_eq_true rfl) hd) fun Q hQ => ?_
  unfold f41 at hS
  show ZR _ Q c41_b [] _
  replace hQ : ∀ e st', f41_Q r e st' → Q e st' := hQ
  refine zrSeq ?_
  refine zrReg ?_
  refine zlRun (n := 1) (j := 1) rfl (by kernel_rfl) ?_
  refine zlEnd (by kernel_rfl) ?_
  refine zkSeq ?_
  refine zrSeq ?_
  refine zrSeq ?_
  refine zrReg ?_
  refine zlRun (n := 1) (j := 1) rfl (by kernel_rfl) ?_
  refine zlBool (d := 8) (op := (.cmpI .eql (.tmp 7) (.const (.int .i64 0)))) (g := none) (j := 2) (decide (a3 = 0)) rfl (by kernel_rfl) (by kernel_rfl) (by kernel_rfl) (fun hc => ?_) (fun hc => ?_)
  · replace hS := cond_t hc hS
    refine zlEnd (by kernel_rfl) ?_
    refine zkSeq ?_
    refine zrCondT (by kernel_rfl) ?_
    refine zrSeq ?_
    refine zrReg ?_
    refine zlRun (n := 1) (j := 1) rfl (by kernel_rfl) ?_
    refine bindE hS (fun z11 hz11 hS => ?_)
    refine zlOp (d := some 10) (op := (.strO .add (.const (.string ⟨#[27]⟩)) (.tmp 9))) (g := none) (v := (.d (.str z11))) (ups := []) (j := 2) rfl (by kernel_rfl) (by kernel_rfl) (ev_cat (a := [27]) (c := a1) (by kernel_rfl) (by kernel_rfl) hz11) ?_
    refine zlRun (n := 1) (j := 3) rfl (by kernel_rfl) ?_
    refine zlOp (d := some 12) (op := (.cvI .i32 (.tmp 11))) (g := none) (v := (.d (.int .i32 (a2.toNat : Int)))) (ups := []) (j := 4) rfl (by kernel_rfl) (by kernel_rfl) (ev_cv (kk := .u8) (a := (a2.toNat : Int)) (by kernel_rfl) (cv_i32 _)) ?_
    refine zlRun (n := 1) (j := 5) rfl (by kernel_rfl) ?_
    refine bindE hS (fun z12 hz12 hS => ?_)
    refine zlOp (d := some 14) (op := (.strO .add (.tmp 10) (.tmp 13))) (g := none) (v := (.d (.str z12))) (ups := []) (j := 6) rfl (by kernel_rfl) (by kernel_rfl) (ev_cat (a := z11) (c := (Utf8.encode (a2.toNat : Int)).data.toList) (by kernel_rfl) (by kernel_rfl) hz12) ?_
    refine zlRun (n := 1) (j := 7) rfl (by kernel_rfl) ?_
    refine zlEnd (by kernel_rfl) ?_
    refine zkSeq ?_
    refine zrRet ?_
    refine zkSeqR ?_
    refine zkNil ?_
    exact endQ hS hQ (fRet ((congrArg (fun s => outR s 0 c41.res) (by kernel_rfl : finSt c41.fin _ = f41_fin z12)).trans (f41_out z12)))
  · replace hS := cond_f hc hS
    refine zlEnd (by kernel_rfl) ?_
    refine zkSeq ?_
    refine zrCondF (by kernel_rfl) ?_
    refine zrSkip ?_
    refine zkSeq ?_
    exact f41_j0_ok hd a1 a2 a3 hQ  hS (by kernel_rfl)
/- farwriter/press.numbered -/
def f42_fin (p4 : List UInt8) : St := ⟨(up (fun _ => .un) 4 (.d (.str p4))), (hB fun _ => 0)⟩
theorem f42_out (p4 : List UInt8) : outR (f42_fin p4) 0 c42.res = some ((.d (.str p4)), []) := by
  kernel_rfl
def f42_Q (r : (List UInt8)) (e : PX) (st : St) : Prop := DoneF c42 0 ((.d (.str r)), []) e st
noncomputable def f42 (a1 : Int) (a2 : Int) : Option ((List UInt8)) := ((libItoa a1).bind fun z9 => ((cat? ([27, 91] : List UInt8) z9).bind fun z10 => (bif (!decide (a2 = 0)) then ((libItoa (IntKind.i64.wrap (a2 + 1))).bind fun z11 => ((cat? ([59] : List UInt8) z11).bind fun z12 => ((cat? z10 z12).bind fun z13 => ((cat? z13 ([126] : List UInt8)).bind fun z14 => (some z14))))) else ((cat? z10 ([126] : List UInt8)).bind fun z15 => (some z15)))))
theorem f42_ok (d : Nat) (hd : 1 ≤ d) (a1 : Int) (a2 : Int) (r : (List UInt8)) (hS : f42 a1 a2 = some r) : lev codes baseL d 42 [(.d (.int .i64 a1)), (.d (.int .i64 a2))] [] = some ((.d (.str r)), []) := by
  refine lev_go codes42 rfl rfl (Nat.le_trans (Nat.le_of_ble_eq_true rfl) hd) fun Q hQ => ?_
  unfold f42 at hS
  show ZR _ Q c42_b [] _
  replace hQ : ∀ e st', f42_Q r e st' → Q e st' := hQ
  refine zrSeq ?_
  refine zrReg ?_
  refine zlRun (n := 1) (j := 1) rfl (by kernel_rfl) ?_
  refine zlEnd (by kernel_rfl) ?_
  refine zkSeq ?_
  refine zrSeq ?_
  refine zrReg ?_
  refine zlRun (n := 1) (j := 1) rfl (by kernel_rfl) ?_
  refine bindE hS (fun z9 hz9 hS => ?_)
  refine zlOp (d := some 7) (op := (.call 49 [(.tmp 6)])) (g := none) (v := (.d (.str z9))) (ups := []) (j := 2) rfl (by kernel_rfl) (by kernel_rfl) (ev_call (args := [(.d (.int .i64 a1))]) (l := [(.d (.int .i64 a1))]) (r := (.d (.str z9))) (by kernel_rfl) (by kernel_rfl) (libItoa_ok (d - 1) (dpt hd rfl) a1 z9 hz9) (by kernel_rfl) (by kernel_rfl) (by kernel_rfl)) ?_
  refine bindE hS (fun z10 hz10 hS => ?_)
  refine zlOp (d := some 8) (op := (.strO .add (.const (.string ⟨#[27, 91]⟩)) (.tmp 7))) (g := none) (v := (.d (.str z10))) (ups := []) (j := 3) rfl (by kernel_rfl) (by kernel_rfl) (ev_cat (a := [27, 91]) (c := z9) (by kernel_rfl) (by kernel_rfl) hz10) ?_
  refine zlRun (n := 1) (j := 4) rfl (by kernel_rfl) ?_
  refine zlEnd (by kernel_rfl) ?_
  refine zkSeq ?_
  refine zrSeq ?_
  refine zrSeq ?_
  refine zrReg ?_
  refine zlRun (n := 1) (j := 1) rfl (by kernel_rfl) ?_
  refine zlBool (d := 10) (op := (.cmpI .neq (.tmp 9) (.const (.int .i64 0)))) (g := none) (j := 2) (!decide (a2 = 0)) rfl (by kernel_rfl) (by kernel_rfl) (by kernel_rfl) (fun hc => ?_) (fun hc => ?_)
  · replace hS := cond_t hc hS
    refine zlEnd (by kernel_rfl) ?_
    refine zkSeq ?_
    refine zrCondT (by kernel_rfl) ?_
    refine zrReg ?_
    refine zlRun (n := 3) (j := 3) rfl (by kernel_rfl) ?_
    refine bindE hS (fun z11 hz11 hS => ?_)
    refine zlOp (d := some 14) (op := (.call 49 [(.tmp 13)])) (g := none) (v := (.d (.str z11))) (ups := []) (j := 4) rfl (by kernel_rfl) (by kernel_rfl) (ev_call (args := [(.d (.int .i64 (IntKind.i64.wrap (a2 + 1))))]) (l := [(.d (.int .i64 (IntKind.i64.wrap (a2 + 1))))]) (r := (.d (.str z11))) (by kernel_rfl) (by kernel_rfl) (libItoa_ok (d - 1) (dpt hd rfl) (IntKind.i64.wrap (a2 + 1)) z11 hz11) (by kernel_rfl) (by kernel_rfl) (by kernel_rfl)) ?_
    refine bindE hS (fun z12 hz12 hS => ?_)
    refine zlOp (d := some 15) (op := (.strO .add (.const (.string ⟨#[59]⟩)) (.tmp 14))) (g := none) (v := (.d (.str z12))) (ups := []) (j := 5) rfl (by kernel_rfl) (by kernel_rfl) (ev_cat (a := [59]) (c := z11) (by kernel_rfl) (by kernel_rfl) hz12) ?_
    refine bindE hS (fun z13 hz13 hS => ?_)
    refine zlOp (d := some 16) (op := (.strO .add (.tmp 11) (.tmp 15))) (g := none) (v := (.d (.str z13))) (ups := []) (j := 6) rfl (by kernel_rfl) (by kernel_rfl) (ev_cat (a := z10) (c := z12) (by kernel_rfl) (by kernel_rfl) hz13) ?_
    refine zlRun (n := 1) (j := 7) rfl (by kernel_rfl) ?_
    refine zlEnd (by kernel_rfl) ?_
    refine zkSeq ?_
    refine zrSeq ?_
    refine zrReg ?_
    refine zlRun (n := 1) (j := 1) rfl (by kernel_rfl) ?_
    refine bindE hS (fun z14 hz14 hS => ?_)
    refine zlOp (d := some 18) (op := (.strO .add (.tmp 17) (.const (.string ⟨#[126]⟩)))) (g := none) (v := (.d (.str z14))) (ups := []) (j := 2) rfl (by kernel_rfl) (by kernel_rfl) (ev_cat (a := z13) (c := [126]) (by kernel_rfl) (by kernel_rfl) hz14) ?_
    refine zlRun (n := 1) (j := 3) rfl (by kernel_rfl) ?_
    refine zlEnd (by kernel_rfl) ?_
    refine zkSeq ?_
    refine zrRet ?_
    refine zkNil ?_
    exact endQ hS hQ (fRet ((congrArg (fun s => outR s 0 c42.res) (by kernel_rfl : finSt c42.fin _ = f42_fin z14)).trans (f42_out z14)))
  · replace hS := cond_f hc hS
    refine zlEnd (by kernel_rfl) ?_
    refine zkSeq ?_
    refine zrCondF (by kernel_rfl) ?_
    refine zrSkip ?_
    refine zkSeq ?_
    refine zrSeq ?_
    refine zrReg ?_
    refine zlRun (n := 1) (j := 1) rfl (by kernel_rfl) ?_
    refine bindE hS (fun z15 hz15 hS => ?_)
    refine zlOp (d := some 18) (op := (.strO .add (.tmp 17) (.const (.string ⟨#[126]⟩)))) (g := none) (v := (.d (.str z15))) (ups := []) (j := 2) rfl (by kernel_rfl) (by kernel_rfl) (ev_cat (a := z10) (c := [126]) (by kernel_rfl) (by kernel_rfl) hz15) ?_
    refine zlRun (n := 1) (j := 3) rfl (by kernel_rfl) ?_
    refine zlEnd (by kernel_rfl) ?_
    refine zkSeq ?_
    refine zrRet ?_
    refine zkNil ?_
    exact endQ hS hQ (fRet ((congrArg (fun s => outR s 0 c42.res) (by kernel_rfl : finSt c42.fin _ = f42_fin z15)).trans (f42_out z15)))
/- farwriter/press.character -/
def f69_fin (p13 : List UInt8) : St := ⟨(up (fun _ => .un) 4 (.d (.str p13))), (hB fun _ => 0)⟩
theorem f69_out (p13 : List UInt8) : outR (f69_fin p13) 0 c69.res = some ((.d (.str p13)), []) := by
  kernel_rfl
def f69_Q (r : (List UInt8)) (e : PX) (st : St) : Prop := DoneF c69 0 ((.d (.str r)), []) e st
def f69_j0_J (a1 : Int) (a2 : Int) : St := ⟨(up (fun _ => .un) 0 (.d (.int .i64 a1))), (hB fun _ => 0)⟩
noncomputable def f69_j0 (a1 : Int) (a2 : Int) : Option ((List UInt8)) := ((f48 [(bitI .and .i64 a1 31)]).bind fun z2 => (some z2))
theorem f69_j0_ok {d : Nat} (hd : 4 ≤ d) (a1 : Int) (a2 : Int) {r : (List UInt8)} {Q : PX → St → Prop} (hQ : ∀ e st', f69_Q r e st' → Q e st')  (hS : f69_j0 a1 a2 = some r) {st : St} (he : keepSt [0] [] [] st = f69_j0_J a1 a2) : ZR (lev codes baseL (d - 1)) Q c69_1 [.blk 0, .seq c69_2] st := by
  refine zrKeep he ?_
  unfold f69_j0 at hS
  refine zrReg ?_
  refine zlRun (n := 3) (j := 3) rfl (by kernel_rfl) ?_
  refine zlEnd (by kernel_rfl) ?_
  refine zkBlk ?_
  refine zkSeq ?_
  refine zrSeq ?_
  refine zrReg ?_
  refine zlRun (n := 2) (j := 2) rfl (by kernel_rfl) ?_
  refine bindE hS (fun z2 hz2 hS => ?_)
  refine zlOp (d := some 33) (op := (.call 48 [(.tmp 32)])) (g := none) (v := (.d (.str z2))) (ups := []) (j := 3) rfl (by kernel_rfl) (by kernel_rfl) (ev_call (args := [(.r (.msl 264 1 0 (([(bitI .and .i64 a1 31)] : List Int).length)))]) (l := [(.d (.sl ([(bitI .and .i64 a1 31)] : List Int).length ((eInt .i64).cells ([(bitI .and .i64 a1 31)]))))]) (r := (.d (.str z2))) (by kernel_rfl) (l_cons (l_own (eInt .i64) (e := 3) (k := 1) (xs := [(bitI .and .i64 a1 31)]) (by kernel_rfl) rfl rfl) l_nil) (f48_ok (d - 1) (dpt hd rfl) [(bitI .and .i64 a1 31)] z2 hz2) (by kernel_rfl) (by kernel_rfl) (by kernel_rfl)) ?_
  refine zlRun (n := 1) (j := 4) rfl (by kernel_rfl) ?_
  refine zlEnd (by kernel_rfl) ?_
  refine zkSeq ?_
  refine zrRet ?_
  refine zkNil ?_
  exact endQ hS hQ (fRet ((congrArg (fun s => outR s 0 c69.res) (by kernel_rfl : finSt c69.fin _ = f69_fin z2)).trans (f69_out z2)))
def f69_j1_J (a1 : Int) (a2 : Int) : St := ⟨(up (fun _ => .un) 0 (.d (.int .i64 a1))), (hB fun _ => 0)⟩
noncomputable def f69_j1 (a1 : Int) (a2 : Int) : Option ((List UInt8)) := (bif (decide (a1 = 32)) then ((f48 [0]).bind fun z3 => (some z3)) else (bif (decide (a1 = 63)) then ((f48 [127]).bind fun z4 => (some z4)) else ((f48 [a1]).bind fun z5 => (some z5))))
theorem f69_j1_ok {d : Nat} (hd : 4 ≤ d) (a1 : Int) (a2 : Int) {r : (List UInt8)} {Q : PX → St → Prop} (hQ : ∀ e st', f69_Q r e st' → Q e st')  (hS : f69_j1 a1 a2 = some r) {st : St} (he : keepSt [0] [] [] st = f69_j1_J a1 a2) : ZR (lev codes baseL (d - 1)) Q c69_3 [.blk 0, .seq c69_2] st := by
  refine zrKeep he ?_
  unfold f69_j1 at hS
  refine zrSeq ?_
  refine zrReg ?_
  refine zlRun (n := 1) (j := 1) rfl (by kernel_rfl) ?_
  refine zlBool (d := 27) (op := (.cmpI .eql (.tmp 26) (.const (.int .i64 32)))) (g := none) (j := 2) (decide (a1 = 32)) rfl (by kernel_rfl) (by kernel_rfl) (by kernel_rfl) (fun hc => ?_) (fun hc => ?_)
  · replace hS := cond_t hc hS
    refine zlRun (n := 1) (j := 3) rfl (by kernel_rfl) ?_
    refine zlEnd (by kernel_rfl) ?_
    refine zkSeq ?_
    refine zrCondT (by kernel_rfl) ?_
    refine zrReg ?_
    refine zlRun (n := 1) (j := 1) rfl (by kernel_rfl) ?_
    refine zlEnd (by kernel_rfl) ?_
    refine zkBlk ?_
    refine zkSeq ?_
    refine zrSeq ?_
    refine zrReg ?_
    refine zlRun (n := 2) (j := 2) rfl (by kernel_rfl) ?_
    refine bindE hS (fun z3 hz3 hS => ?_)
    refine zlOp (d := some 33) (op := (.call 48 [(.tmp 32)])) (g := none) (v := (.d (.str z3))) (ups := []) (j := 3) rfl (by kernel_rfl) (by kernel_rfl) (ev_call (args := [(.r (.msl 264 1 0 (([0] : List Int).length)))]) (l := [(.d (.sl ([0] : List Int).length ((eInt .i64).cells ([0]))))]) (r := (.d (.str z3))) (by kernel_rfl) (l_cons (l_own (eInt .i64) (e := 3) (k := 1) (xs := [0]) (by kernel_rfl) rfl rfl) l_nil) (f48_ok (d - 1) (dpt hd rfl) [0] z3 hz3) (by kernel_rfl) (by kernel_rfl) (by kernel_rfl)) ?_
    refine zlRun (n := 1) (j := 4) rfl (by kernel_rfl) ?_
    refine zlEnd (by kernel_rfl) ?_
    refine zkSeq ?_
    refine zrRet ?_
    refine zkNil ?_
    exact endQ hS hQ (fRet ((congrArg (fun s => outR s 0 c69.res) (by kernel_rfl : finSt c69.fin _ = f69_fin z3)).trans (f69_out z3)))
  · replace hS := cond_f hc hS
    refine zlRun (n := 1) (j := 3) rfl (by kernel_rfl) ?_
    refine zlEnd (by kernel_rfl) ?_
    refine zkSeq ?_
    refine zrCondF (by kernel_rfl) ?_
    refine zrSeq ?_
    refine zrReg ?_
    refine zlRun (n := 1) (j := 1) rfl (by kernel_rfl) ?_
    refine zlBool (d := 30) (op := (.cmpI .eql (.tmp 29) (.const (.int .i64 63)))) (g := none) (j := 2) (decide (a1 = 63)) rfl (by kernel_rfl) (by kernel_rfl) (by kernel_rfl) (fun hc => ?_) (fun hc => ?_)
    · replace hS := cond_t hc hS
      refine zlRun (n := 1) (j := 3) rfl (by kernel_rfl) ?_
      refine zlEnd (by kernel_rfl) ?_
      refine zkSeq ?_
      refine zrCondT (by kernel_rfl) ?_
      refine zrReg ?_
      refine zlRun (n := 1) (j := 1) rfl (by kernel_rfl) ?_
      refine zlEnd (by kernel_rfl) ?_
      refine zkBlk ?_
      refine zkSeq ?_
      refine zrSeq ?_
      refine zrReg ?_
      refine zlRun (n := 2) (j := 2) rfl (by kernel_rfl) ?_
      refine bindE hS (fun z4 hz4 hS => ?_)
      refine zlOp (d := some 33) (op := (.call 48 [(.tmp 32)])) (g := none) (v := (.d (.str z4))) (ups := []) (j := 3) rfl (by kernel_rfl) (by kernel_rfl) (ev_call (args := [(.r (.msl 264 1 0 (([127] : List Int).length)))]) (l := [(.d (.sl ([127] : List Int).length ((eInt .i64).cells ([127]))))]) (r := (.d (.str z4))) (by kernel_rfl) (l_cons (l_own (eInt .i64) (e := 3) (k := 1) (xs := [127]) (by kernel_rfl) rfl rfl) l_nil) (f48_ok (d - 1) (dpt hd rfl) [127] z4 hz4) (by kernel_rfl) (by kernel_rfl) (by kernel_rfl)) ?_
      refine zlRun (n := 1) (j := 4) rfl (by kernel_rfl) ?_
      refine zlEnd (by kernel_rfl) ?_
      refine zkSeq ?_
      refine zrRet ?_
      refine zkNil ?_
      exact endQ hS hQ (fRet ((congrArg (fun s => outR s 0 c69.res) (by kernel_rfl : finSt c69.fin _ = f69_fin z4)).trans (f69_out z4)))
    · replace hS := cond_f hc hS
      refine zlRun (n := 1) (j := 3) rfl (by kernel_rfl) ?_
      refine zlEnd (by kernel_rfl) ?_
      refine zkSeq ?_
      refine zrCondF (by kernel_rfl) ?_
      refine zrSkip ?_
      refine zkBlk ?_
      refine zkSeq ?_
      refine zrSeq ?_
      refine zrReg ?_
      refine zlRun (n := 2) (j := 2) rfl (by kernel_rfl) ?_
      refine bindE hS (fun z5 hz5 hS => ?_)
      refine zlOp (d := some 33) (op := (.call 48 [(.tmp 32)])) (g := none) (v := (.d (.str z5))) (ups := []) (j := 3) rfl (by kernel_rfl) (by kernel_rfl) (ev_call (args := [(.r (.msl 264 1 0 (([a1] : List Int).length)))]) (l := [(.d (.sl ([a1] : List Int).length ((eInt .i64).cells ([a1]))))]) (r := (.d (.str z5))) (by kernel_rfl) (l_cons (l_own (eInt .i64) (e := 3) (k := 1) (xs := [a1]) (by kernel_rfl) rfl rfl) l_nil) (f48_ok (d - 1) (dpt hd rfl) [a1] z5 hz5) (by kernel_rfl) (by kernel_rfl) (by kernel_rfl)) ?_
      refine zlRun (n := 1) (j := 4) rfl (by kernel_rfl) ?_
      refine zlEnd (by kernel_rfl) ?_
      refine zkSeq ?_
      refine zrRet ?_
      refine zkNil ?_
      exact endQ hS hQ (fRet ((congrArg (fun s => outR s 0 c69.res) (by kernel_rfl : finSt c69.fin _ = f69_fin z5)).trans (f69_out z5)))
noncomputable def f69 (a1 : Int) (a2 : Int) : Option ((List UInt8)) := (bif (!decide ((bitI .and .i64 a2 4) = 0)) then (bif (decide (64 ≤ a1)) then (bif (decide (a1 ≤ 95)) then (f69_j0 a1 a2 ) else (bif (decide (97 ≤ a1)) then (bif (decide (a1 ≤ 122)) then (f69_j0 a1 a2 ) else (f69_j1 a1 a2 )) else (f69_j1 a1 a2 ))) else (bif (decide (97 ≤ a1)) then (bif (decide (a1 ≤ 122)) then (f69_j0 a1 a2 ) else (f69_j1 a1 a2 )) else (f69_j1 a1 a2 ))) else ((f48 [a1]).bind fun z6 => (some z6)))
theorem f69_ok (d : Nat) (hd : 4 ≤ d) (a1 : Int) (a2 : Int) (r : (List UInt8)) (hS : f69 a1 a2 = some r) : lev codes baseL d 69 [(.d (.int .i64 a1)), (.d (.int .i64 a2))] [] = some ((.d (.str r)), []) := by
  refine lev_go codes69 rfl rfl (Nat.le_trans (Nat.le_of_ble_eq_true rfl) hd) fun Q hQ => ?_
  unfold f69 at hS
  show ZR _ Q c69_b [] _
  replace hQ : ∀ e st', f69_Q r e st' → Q e st' := hQ
  refine zrSeq ?_
  refine zrReg ?_
  refine zlRun (n := 1) (j := 1) rfl (by kernel_rfl) ?_
  refine zlEnd (by kernel_rfl) ?_
  refine zkSeq ?_
  refine zrSeq ?_
  refine zrSeq ?_
  refine zrReg ?_
  refine zlRun (n := 2) (j := 2) rfl (by kernel_rfl) ?_
  refine zlBool (d := 7) (op := (.cmpI .neq (.tmp 6) (.const (.int .i64 0)))) (g := none) (j := 3) (!decide ((bitI .and .i64 a2 4) = 0)) rfl (by kernel_rfl) (by kernel_rfl) (by kernel_rfl) (fun hc => ?_) (fun hc => ?_)
  · replace hS := cond_t hc hS
    refine zlEnd (by kernel_rfl) ?_
    refine zkSeq ?_
    refine zrCondT (by kernel_rfl) ?_
    refine zrBlk ?_
    refine zrSeq ?_
    refine zrReg ?_
    refine zlRun (n := 1) (j := 1) rfl (by kernel_rfl) ?_
    refine zlBool (d := 10) (op := (.cmpI .geq (.tmp 9) (.const (.int .i64 64)))) (g := none) (j := 2) (decide (64 ≤ a1)) rfl (by kernel_rfl) (by kernel_rfl) (by kernel_rfl) (fun hc => ?_) (fun hc => ?_)
    · replace hS := cond_t hc hS
      refine zlRun (n := 2) (j := 4) rfl (by kernel_rfl) ?_
      refine zlBool (d := 13) (op := (.cmpI .leq (.tmp 12) (.const (.int .i64 95)))) (g := (some (11, true))) (j := 5) (decide (a1 ≤ 95)) rfl (by kernel_rfl) (by kernel_rfl) (by kernel_rfl) (fun hc => ?_) (fun hc => ?_)
      · replace hS := cond_t hc hS
        refine zlRun (n := 10) (j := 15) rfl (by kernel_rfl) ?_
        refine zlEnd (by kernel_rfl) ?_
        refine zkSeq ?_
        refine zrCondT (by kernel_rfl) ?_
        exact f69_j0_ok hd a1 a2 hQ  hS (by kernel_rfl)
      · replace hS := cond_f hc hS
        refine zlRun (n := 3) (j := 8) rfl (by kernel_rfl) ?_
        refine zlBool (d := 17) (op := (.cmpI .geq (.tmp 16) (.const (.int .i64 97)))) (g := (some (15, false))) (j := 9) (decide (97 ≤ a1)) rfl (by kernel_rfl) (by kernel_rfl) (by kernel_rfl) (fun hc => ?_) (fun hc => ?_)
        · replace hS := cond_t hc hS
          refine zlRun (n := 2) (j := 11) rfl (by kernel_rfl) ?_
          refine zlBool (d := 20) (op := (.cmpI .leq (.tmp 19) (.const (.int .i64 122)))) (g := (some (18, true))) (j := 12) (decide (a1 ≤ 122)) rfl (by kernel_rfl) (by kernel_rfl) (by kernel_rfl) (fun hc => ?_) (fun hc => ?_)
          · replace hS := cond_t hc hS
            refine zlRun (n := 3) (j := 15) rfl (by kernel_rfl) ?_
            refine zlEnd (by kernel_rfl) ?_
            refine zkSeq ?_
            refine zrCondT (by kernel_rfl) ?_
            exact f69_j0_ok hd a1 a2 hQ  hS (by kernel_rfl)
          · replace hS := cond_f hc hS
            refine zlRun (n := 3) (j := 15) rfl (by kernel_rfl) ?_
            refine zlEnd (by kernel_rfl) ?_
            refine zkSeq ?_
            refine zrCondF (by kernel_rfl) ?_
            exact f69_j1_ok hd a1 a2 hQ  hS (by kernel_rfl)
        · replace hS := cond_f hc hS
          refine zlRun (n := 6) (j := 15) rfl (by kernel_rfl) ?_
          refine zlEnd (by kernel_rfl) ?_
          refine zkSeq ?_
          refine zrCondF (by kernel_rfl) ?_
          exact f69_j1_ok hd a1 a2 hQ  hS (by kernel_rfl)
    · replace hS := cond_f hc hS
      refine zlRun (n := 6) (j := 8) rfl (by kernel_rfl) ?_
      refine zlBool (d := 17) (op := (.cmpI .geq (.tmp 16) (.const (.int .i64 97)))) (g := (some (15, false))) (j := 9) (decide (97 ≤ a1)) rfl (by kernel_rfl) (by kernel_rfl) (by kernel_rfl) (fun hc => ?_) (fun hc => ?_)
      · replace hS := cond_t hc hS
        refine zlRun (n := 2) (j := 11) rfl (by kernel_rfl) ?_
        refine zlBool (d := 20) (op := (.cmpI .leq (.tmp 19) (.const (.int .i64 122)))) (g := (some (18, true))) (j := 12) (decide (a1 ≤ 122)) rfl (by kernel_rfl) (by kernel_rfl) (by kernel_rfl) (fun hc => ?_) (fun hc => ?_)
        · replace hS := cond_t hc hS
          refine zlRun (n := 3) (j := 15) rfl (by kernel_rfl) ?_
          refine zlEnd (by kernel_rfl) ?_
          refine zkSeq ?_
          refine zrCondT (by kernel_rfl) ?_
          exact f69_j0_ok hd a1 a2 hQ  hS (by kernel_rfl)
        · replace hS := cond_f hc hS
          refine zlRun (n := 3) (j := 15) rfl (by kernel_rfl) ?_
          refine zlEnd (by kernel_rfl) ?_
          refine zkSeq ?_
          refine zrCondF (by kernel_rfl) ?_
          exact f69_j1_ok hd a1 a2 hQ  hS (by kernel_rfl)
      · replace hS := cond_f hc hS
        refine zlRun (n := 6) (j := 15) rfl (by kernel_rfl) ?_
        refine zlEnd (by kernel_rfl) ?_
        refine zkSeq ?_
        refine zrCondF (by kernel_rfl) ?_
        exact f69_j1_ok hd a1 a2 hQ  hS (by kernel_rfl)
  · replace hS := cond_f hc hS
    refine zlEnd (by kernel_rfl) ?_
    refine zkSeq ?_
    refine zrCondF (by kernel_rfl) ?_
    refine zrSkip ?_
    refine zkSeq ?_
    refine zrSeq ?_
    refine zrReg ?_
    refine zlRun (n := 2) (j := 2) rfl (by kernel_rfl) ?_
    refine bindE hS (fun z6 hz6 hS => ?_)
    refine zlOp (d := some 33) (op := (.call 48 [(.tmp 32)])) (g := none) (v := (.d (.str z6))) (ups := []) (j := 3) rfl (by kernel_rfl) (by kernel_rfl) (ev_call (args := [(.r (.msl 264 1 0 (([a1] : List Int).length)))]) (l := [(.d (.sl ([a1] : List Int).length ((eInt .i64).cells ([a1]))))]) (r := (.d (.str z6))) (by kernel_rfl) (l_cons (l_own (eInt .i64) (e := 3) (k := 1) (xs := [a1]) (by kernel_rfl) rfl rfl) l_nil) (f48_ok (d - 1) (dpt hd rfl) [a1] z6 hz6) (by kernel_rfl) (by kernel_rfl) (by kernel_rfl)) ?_
    refine zlRun (n := 1) (j := 4) rfl (by kernel_rfl) ?_
    refine zlEnd (by kernel_rfl) ?_
    refine zkSeq ?_
    refine zrRet ?_
    refine zkNil ?_
    exact endQ hS hQ (fRet ((congrArg (fun s => outR s 0 c69.res) (by kernel_rfl : finSt c69.fin _ = f69_fin z6)).trans (f69_out z6)))
/- farwriter/press.plain -/
def f43_fin (p9 : List UInt8) : St := ⟨(up (fun _ => .un) 2 (.d (.str p9))), (hB fun _ => 0)⟩
theorem f43_out (p9 : List UInt8) : outR (f43_fin p9) 0 c43.res = some ((.d (.str p9)), []) := by
  kernel_rfl
def f43_Q (r : (List UInt8)) (e : PX) (st : St) : Prop := DoneF c43 0 ((.d (.str r)), []) e st
def f43_j1_J (a1 : GKey) : St := ⟨(up (fun _ => .un) 1 (.r (.ptr 16 0 0))), (up (hB fun _ => 0) 16 ⟨0, some (.box ((.d (.int .i64 a1.Name)) :: ((.d (.int .i64 a1.Rune)) :: ((.d (.int .i64 a1.Mods)) :: []))))⟩)⟩
noncomputable def f43_j1 (a1 : GKey) : Option ((List UInt8)) := (bif (decide (a1.Name = 25)) then (some [127]) else (bif (decide (a1.Name = 26)) then (some [27]) else ((f69 a1.Rune a1.Mods).bind fun z2 => (some z2))))
theorem f43_j1_ok {d : Nat} (hd : 5 ≤ d) (a1 : GKey) {r : (List UInt8)} {Q : PX → St → Prop} (hQ : ∀ e st', f43_Q r e st' → Q e st')  (hS : f43_j1 a1 = some r) {st : St} (he : keepSt [1] [(16, .id 16)] [] st = f43_j1_J a1) : ZR (lev codes baseL (d - 1)) Q c43_1 [.blk 0, .seq c43_2] st := by
  refine zrKeep he ?_
  unfold f43_j1 at hS
  refine zrSeq ?_
  refine zrReg ?_
  refine zlRun (n := 2) (j := 2) rfl (by kernel_rfl) ?_
  refine zlBool (d := 34) (op := (.cmpI .eql (.tmp 33) (.const (.int .i64 25)))) (g := none) (j := 3) (decide (a1.Name = 25)) rfl (by kernel_rfl) (by kernel_rfl) (by kernel_rfl) (fun hc => ?_) (fun hc => ?_)
  · replace hS := cond_t hc hS
    refine zlRun (n := 1) (j := 4) rfl (by kernel_rfl) ?_
    refine zlEnd (by kernel_rfl) ?_
    refine zkSeq ?_
    refine zrCondT (by kernel_rfl) ?_
    refine zrSeq ?_
    refine zrReg ?_
    refine zlRun (n := 1) (j := 1) rfl (by kernel_rfl) ?_
    refine zlEnd (by kernel_rfl) ?_
    refine zkSeq ?_
    refine zrRet ?_
    refine zkBlkR ?_
    refine zkSeqR ?_
    refine zkNil ?_
    exact endQ hS hQ (fRet ((congrArg (fun s => outR s 0 c43.res) (by kernel_rfl : finSt c43.fin _ = f43_fin [127])).trans (f43_out [127])))
  · replace hS := cond_f hc hS
    refine zlRun (n := 1) (j := 4) rfl (by kernel_rfl) ?_
    refine zlEnd (by kernel_rfl) ?_
    refine zkSeq ?_
    refine zrCondF (by kernel_rfl) ?_
    refine zrSeq ?_
    refine zrReg ?_
    refine zlRun (n := 2) (j := 2) rfl (by kernel_rfl) ?_
    refine zlBool (d := 38) (op := (.cmpI .eql (.tmp 37) (.const (.int .i64 26)))) (g := none) (j := 3) (decide (a1.Name = 26)) rfl (by kernel_rfl) (by kernel_rfl) (by kernel_rfl) (fun hc => ?_) (fun hc => ?_)
    · replace hS := cond_t hc hS
      refine zlRun (n := 1) (j := 4) rfl (by kernel_rfl) ?_
      refine zlEnd (by kernel_rfl) ?_
      refine zkSeq ?_
      refine zrCondT (by kernel_rfl) ?_
      refine zrSeq ?_
      refine zrReg ?_
      refine zlRun (n := 1) (j := 1) rfl (by kernel_rfl) ?_
      refine zlEnd (by kernel_rfl) ?_
      refine zkSeq ?_
      refine zrRet ?_
      refine zkBlkR ?_
      refine zkSeqR ?_
      refine zkNil ?_
      exact endQ hS hQ (fRet ((congrArg (fun s => outR s 0 c43.res) (by kernel_rfl : finSt c43.fin _ = f43_fin [27])).trans (f43_out [27])))
    · replace hS := cond_f hc hS
      refine zlRun (n := 1) (j := 4) rfl (by kernel_rfl) ?_
      refine zlEnd (by kernel_rfl) ?_
      refine zkSeq ?_
      refine zrCondF (by kernel_rfl) ?_
      refine zrSkip ?_
      refine zkBlk ?_
      refine zkSeq ?_
      refine zrSeq ?_
      refine zrReg ?_
      refine zlRun (n := 4) (j := 4) rfl (by kernel_rfl) ?_
      refine bindE hS (fun z2 hz2 hS => ?_)
      refine zlOp (d := some 43) (op := (.call 69 [(.tmp 40), (.tmp 42)])) (g := none) (v := (.d (.str z2))) (ups := []) (j := 5) rfl (by kernel_rfl) (by kernel_rfl) (ev_call (args := [(.d (.int .i64 a1.Rune)), (.d (.int .i64 a1.Mods))]) (l := [(.d (.int .i64 a1.Rune)), (.d (.int .i64 a1.Mods))]) (r := (.d (.str z2))) (by kernel_rfl) (by kernel_rfl) (f69_ok (d - 1) (dpt hd rfl) a1.Rune a1.Mods z2 hz2) (by kernel_rfl) (by kernel_rfl) (by kernel_rfl)) ?_
      refine zlRun (n := 1) (j := 6) rfl (by kernel_rfl) ?_
      refine zlEnd (by kernel_rfl) ?_
      refine zkSeq ?_
      refine zrRet ?_
      refine zkNil ?_
      exact endQ hS hQ (fRet ((congrArg (fun s => outR s 0 c43.res) (by kernel_rfl : finSt c43.fin _ = f43_fin z2)).trans (f43_out z2)))
def f43_j0_J (a1 : GKey) : St := ⟨(up (fun _ => .un) 1 (.r (.ptr 16 0 0))), (up (hB fun _ => 0) 16 ⟨0, some (.box ((.d (.int .i64 a1.Name)) :: ((.d (.int .i64 a1.Rune)) :: ((.d (.int .i64 a1.Mods)) :: []))))⟩)⟩
noncomputable def f43_j0 (a1 : GKey) : Option ((List UInt8)) := (bif (decide (a1.Name = 24)) then (some [9]) else (bif (decide (a1.Name = 25)) then (bif (!decide ((bitI .and .i64 a1.Mods 4) = 0)) then (some [8]) else (f43_j1 a1 )) else (f43_j1 a1 )))
theorem f43_j0_ok {d : Nat} (hd : 5 ≤ d) (a1 : GKey) {r : (List UInt8)} {Q : PX → St → Prop} (hQ : ∀ e st', f43_Q r e st' → Q e st')  (hS : f43_j0 a1 = some r) {st : St} (he : keepSt [1] [(16, .id 16)] [] st = f43_j0_J a1) : ZR (lev codes baseL (d - 1)) Q c43_3 [.blk 0, .seq c43_2] st := by
  refine zrKeep he ?_
  unfold f43_j0 at hS
  refine zrSeq ?_
  refine zrReg ?_
  refine zlRun (n := 2) (j := 2) rfl (by kernel_rfl) ?_
  refine zlBool (d := 20) (op := (.cmpI .eql (.tmp 19) (.const (.int .i64 24)))) (g := none) (j := 3) (decide (a1.Name = 24)) rfl (by kernel_rfl) (by kernel_rfl) (by kernel_rfl) (fun hc => ?_) (fun hc => ?_)
  · replace hS := cond_t hc hS
    refine zlRun (n := 1) (j := 4) rfl (by kernel_rfl) ?_
    refine zlEnd (by kernel_rfl) ?_
    refine zkSeq ?_
    refine zrCondT (by kernel_rfl) ?_
    refine zrSeq ?_
    refine zrReg ?_
    refine zlRun (n := 1) (j := 1) rfl (by kernel_rfl) ?_
    refine zlEnd (by kernel_rfl) ?_
    refine zkSeq ?_
    refine zrRet ?_
    refine zkBlkR ?_
    refine zkSeqR ?_
    refine zkNil ?_
    exact endQ hS hQ (fRet ((congrArg (fun s => outR s 0 c43.res) (by kernel_rfl : finSt c43.fin _ = f43_fin [9])).trans (f43_out [9])))
  · replace hS := cond_f hc hS
    refine zlRun (n := 1) (j := 4) rfl (by kernel_rfl) ?_
    refine zlEnd (by kernel_rfl) ?_
    refine zkSeq ?_
    refine zrCondF (by kernel_rfl) ?_
    refine zrSeq ?_
    refine zrReg ?_
    refine zlRun (n := 2) (j := 2) rfl (by kernel_rfl) ?_
    refine zlBool (d := 24) (op := (.cmpI .eql (.tmp 23) (.const (.int .i64 25)))) (g := none) (j := 3) (decide (a1.Name = 25)) rfl (by kernel_rfl) (by kernel_rfl) (by kernel_rfl) (fun hc => ?_) (fun hc => ?_)
    · replace hS := cond_t hc hS
      refine zlRun (n := 4) (j := 7) rfl (by kernel_rfl) ?_
      refine zlBool (d := 29) (op := (.cmpI .neq (.tmp 28) (.const (.int .i64 0)))) (g := (some (25, true))) (j := 8) (!decide ((bitI .and .i64 a1.Mods 4) = 0)) rfl (by kernel_rfl) (by kernel_rfl) (by kernel_rfl) (fun hc => ?_) (fun hc => ?_)
      · replace hS := cond_t hc hS
        refine zlRun (n := 2) (j := 10) rfl (by kernel_rfl) ?_
        refine zlEnd (by kernel_rfl) ?_
        refine zkSeq ?_
        refine zrCondT (by kernel_rfl) ?_
        refine zrSeq ?_
        refine zrReg ?_
        refine zlRun (n := 1) (j := 1) rfl (by kernel_rfl) ?_
        refine zlEnd (by kernel_rfl) ?_
        refine zkSeq ?_
        refine zrRet ?_
        refine zkBlkR ?_
        refine zkSeqR ?_
        refine zkNil ?_
        exact endQ hS hQ (fRet ((congrArg (fun s => outR s 0 c43.res) (by kernel_rfl : finSt c43.fin _ = f43_fin [8])).trans (f43_out [8])))
      · replace hS := cond_f hc hS
        refine zlRun (n := 2) (j := 10) rfl (by kernel_rfl) ?_
        refine zlEnd (by kernel_rfl) ?_
        refine zkSeq ?_
        refine zrCondF (by kernel_rfl) ?_
        exact f43_j1_ok hd a1 hQ  hS (by kernel_rfl)
    · replace hS := cond_f hc hS
      refine zlRun (n := 7) (j := 10) rfl (by kernel_rfl) ?_
      refine zlEnd (by kernel_rfl) ?_
      refine zkSeq ?_
      refine zrCondF (by kernel_rfl) ?_
      exact f43_j1_ok hd a1 hQ  hS (by kernel_rfl)
noncomputable def f43 (a1 : GKey) : Option ((List UInt8)) := (bif (decide (a1.Name = 23)) then (some [13]) else (bif (decide (a1.Name = 24)) then (bif (!decide ((bitI .and .i64 a1.Mods 1) = 0)) then (some [27, 91, 90]) else (f43_j0 a1 )) else (f43_j0 a1 )))
theorem f43_ok (d : Nat) (hd : 5 ≤ d) (a1 : GKey) (r : (List UInt8)) (hS : f43 a1 = some r) : lev codes baseL d 43 [(.agg ((.d (.int .i64 a1.Name)) :: ((.d (.int .i64 a1.Rune)) :: ((.d (.int .i64 a1.Mods)) :: []))))] [] = some ((.d (.str r)), []) := by
  refine lev_go codes43 rfl rfl (Nat.le_trans (Nat.le_of_ble_eq_true rfl) hd) fun Q hQ => ?_
  unfold f43 at hS
  show ZR _ Q c43_b [] _
  replace hQ : ∀ e st', f43_Q r e st' → Q e st' := hQ
  refine zrSeq ?_
  refine zrReg ?_
  refine zlRun (n := 2) (j := 2) rfl (by kernel_rfl) ?_
  refine zlEnd (by kernel_rfl) ?_
  refine zkSeq ?_
  refine zrSeq ?_
  refine zrBlk ?_
  refine zrSeq ?_
  refine zrReg ?_
  refine zlRun (n := 2) (j := 2) rfl (by kernel_rfl) ?_
  refine zlBool (d := 6) (op := (.cmpI .eql (.tmp 5) (.const (.int .i64 23)))) (g := none) (j := 3) (decide (a1.Name = 23)) rfl (by kernel_rfl) (by kernel_rfl) (by kernel_rfl) (fun hc => ?_) (fun hc => ?_)
  · replace hS := cond_t hc hS
    refine zlRun (n := 1) (j := 4) rfl (by kernel_rfl) ?_
    refine zlEnd (by kernel_rfl) ?_
    refine zkSeq ?_
    refine zrCondT (by kernel_rfl) ?_
    refine zrSeq ?_
    refine zrReg ?_
    refine zlRun (n := 1) (j := 1) rfl (by kernel_rfl) ?_
    refine zlEnd (by kernel_rfl) ?_
    refine zkSeq ?_
    refine zrRet ?_
    refine zkBlkR ?_
    refine zkSeqR ?_
    refine zkNil ?_
    exact endQ hS hQ (fRet ((congrArg (fun s => outR s 0 c43.res) (by kernel_rfl : finSt c43.fin _ = f43_fin [13])).trans (f43_out [13])))
  · replace hS := cond_f hc hS
    refine zlRun (n := 1) (j := 4) rfl (by kernel_rfl) ?_
    refine zlEnd (by kernel_rfl) ?_
    refine zkSeq ?_
    refine zrCondF (by kernel_rfl) ?_
    refine zrSeq ?_
    refine zrReg ?_
    refine zlRun (n := 2) (j := 2) rfl (by kernel_rfl) ?_
    refine zlBool (d := 10) (op := (.cmpI .eql (.tmp 9) (.const (.int .i64 24)))) (g := none) (j := 3) (decide (a1.Name = 24)) rfl (by kernel_rfl) (by kernel_rfl) (by kernel_rfl) (fun hc => ?_) (fun hc => ?_)
    · replace hS := cond_t hc hS
      refine zlRun (n := 4) (j := 7) rfl (by kernel_rfl) ?_
      refine zlBool (d := 15) (op := (.cmpI .neq (.tmp 14) (.const (.int .i64 0)))) (g := (some (11, true))) (j := 8) (!decide ((bitI .and .i64 a1.Mods 1) = 0)) rfl (by kernel_rfl) (by kernel_rfl) (by kernel_rfl) (fun hc => ?_) (fun hc => ?_)
      · replace hS := cond_t hc hS
        refine zlRun (n := 2) (j := 10) rfl (by kernel_rfl) ?_
        refine zlEnd (by kernel_rfl) ?_
        refine zkSeq ?_
        refine zrCondT (by kernel_rfl) ?_
        refine zrSeq ?_
        refine zrReg ?_
        refine zlRun (n := 1) (j := 1) rfl (by kernel_rfl) ?_
        refine zlEnd (by kernel_rfl) ?_
        refine zkSeq ?_
        refine zrRet ?_
        refine zkBlkR ?_
        refine zkSeqR ?_
        refine zkNil ?_
        exact endQ hS hQ (fRet ((congrArg (fun s => outR s 0 c43.res) (by kernel_rfl : finSt c43.fin _ = f43_fin [27, 91, 90])).trans (f43_out [27, 91, 90])))
      · replace hS := cond_f hc hS
        refine zlRun (n := 2) (j := 10) rfl (by kernel_rfl) ?_
        refine zlEnd (by kernel_rfl) ?_
        refine zkSeq ?_
        refine zrCondF (by kernel_rfl) ?_
        exact f43_j0_ok hd a1 hQ  hS (by kernel_rfl)
    · replace hS := cond_f hc hS
      refine zlRun (n := 7) (j := 10) rfl (by kernel_rfl) ?_
      refine zlEnd (by kernel_rfl) ?_
      refine zkSeq ?_
      refine zrCondF (by kernel_rfl) ?_
      exact f43_j0_ok hd a1 hQ  hS (by kernel_rfl)
/- farwriter/press.Key -/
def f19_fin (p19 : List UInt8) (p20 : Int) : St := ⟨(up (up (fun _ => .un) 5 (.d (.int .i64 p20))) 4 (.d (.str p19))), (hB fun _ => 0)⟩
theorem f19_out (p19 : List UInt8) (p20 : Int) : outR (f19_fin p19 p20) 0 c19.res = some ((.tup [(.d (.str p19)), (.d (.int .i64 p20))]), []) := by
  kernel_rfl
def f19_Q (r : (List UInt8) × Int) (e : PX) (st : St) : Prop := DoneF c19 0 ((.tup [(.d (.str r.1)), (.d (.int .i64 r.2))]), []) e st
def f19_j1_J (a1 : GKey) (a2 : Int) : St := ⟨(up (fun _ => .un) 2 (.r (.ptr 24 0 0))), (up (hB fun _ => 0) 24 ⟨0, some (.box ((.d (.int .i64 a1.Name)) :: ((.d (.int .i64 a1.Rune)) :: ((.d (.int .i64 a1.Mods)) :: []))))⟩)⟩
noncomputable def f19_j1 (a1 : GKey) (a2 : Int) : Option ((List UInt8) × Int) := ((f43 a1).bind fun z21 => (bif (!decide ((bitI .and .i64 a1.Mods 2) = 0)) then ((cat? ([27] : List UInt8) z21).bind fun z22 => (some (z22, 0))) else (some (z21, 0))))
theorem f19_j1_ok {d : Nat} (hd : 6 ≤ d) (a1 : GKey) (a2 : Int) {r : (List UInt8) × Int} {Q : PX → St → Prop} (hQ : ∀ e st', f19_Q r e st' → Q e st')  (hS : f19_j1 a1 a2 = some r) {st : St} (he : keepSt [2] [(24, .id 24)] [] st = f19_j1_J a1 a2) : ZR (lev codes baseL (d - 1)) Q c19_1 [] st := by
  refine zrKeep he ?_
  unfold f19_j1 at hS
  refine zrSeq ?_
  refine zrReg ?_
  refine zlRun (n := 1) (j := 1) rfl (by kernel_rfl) ?_
  refine bindE hS (fun z21 hz21 hS => ?_)
  refine zlOp (d := some 110) (op := (.call 43 [(.tmp 109)])) (g := none) (v := (.d (.str z21))) (ups := []) (j := 2) rfl (by kernel_rfl) (by kernel_rfl) (ev_call (args := [(.agg ((.d (.int .i64 a1.Name)) :: ((.d (.int .i64 a1.Rune)) :: ((.d (.int .i64 a1.Mods)) :: []))))]) (l := [(.agg ((.d (.int .i64 a1.Name)) :: ((.d (.int .i64 a1.Rune)) :: ((.d (.int .i64 a1.Mods)) :: []))))]) (r := (.d (.str z21))) (by kernel_rfl) (by kernel_rfl) (f43_ok (d - 1) (dpt hd rfl) a1 z21 hz21) (by kernel_rfl) (by kernel_rfl) (by kernel_rfl)) ?_
  refine zlRun (n := 1) (j := 3) rfl (by kernel_rfl) ?_
  refine zlEnd (by kernel_rfl) ?_
  refine zkSeq ?_
  refine zrSeq ?_
  refine zrSeq ?_
  refine zrReg ?_
  refine zlRun (n := 3) (j := 3) rfl (by kernel_rfl) ?_
  refine zlBool (d := 114) (op := (.cmpI .neq (.tmp 113) (.const (.int .i64 0)))) (g := none) (j := 4) (!decide ((bitI .and .i64 a1.Mods 2) = 0)) rfl (by kernel_rfl) (by kernel_rfl) (by kernel_rfl) (fun hc => ?_) (fun hc => ?_)
  · replace hS := cond_t hc hS
    refine zlEnd (by kernel_rfl) ?_
    refine zkSeq ?_
    refine zrCondT (by kernel_rfl) ?_
    refine zrReg ?_
    refine zlRun (n := 1) (j := 1) rfl (by kernel_rfl) ?_
    refine bindE hS (fun z22 hz22 hS => ?_)
    refine zlOp (d := some 116) (op := (.strO .add (.const (.string ⟨#[27]⟩)) (.tmp 115))) (g := none) (v := (.d (.str z22))) (ups := []) (j := 2) rfl (by kernel_rfl) (by kernel_rfl) (ev_cat (a := [27]) (c := z21) (by kernel_rfl) (by kernel_rfl) hz22) ?_
    refine zlRun (n := 1) (j := 3) rfl (by kernel_rfl) ?_
    refine zlEnd (by kernel_rfl) ?_
    refine zkSeq ?_
    refine zrSeq ?_
    refine zrReg ?_
    refine zlRun (n := 3) (j := 3) rfl (by kernel_rfl) ?_
    refine zlEnd (by kernel_rfl) ?_
    refine zkSeq ?_
    refine zrRet ?_
    refine zkNil ?_
    exact endQ hS hQ (fRet ((congrArg (fun s => outR s 0 c19.res) (by kernel_rfl : finSt c19.fin _ = f19_fin z22 0)).trans (f19_out z22 0)))
  · replace hS := cond_f hc hS
    refine zlEnd (by kernel_rfl) ?_
    refine zkSeq ?_
    refine zrCondF (by kernel_rfl) ?_
    refine zrSkip ?_
    refine zkSeq ?_
    refine zrSeq ?_
    refine zrReg ?_
    refine zlRun (n := 3) (j := 3) rfl (by kernel_rfl) ?_
    refine zlEnd (by kernel_rfl) ?_
    refine zkSeq ?_
    refine zrRet ?_
    refine zkNil ?_
    exact endQ hS hQ (fRet ((congrArg (fun s => outR s 0 c19.res) (by kernel_rfl : finSt c19.fin _ = f19_fin z21 0)).trans (f19_out z21 0)))
def f19_j5_J (a1 : GKey) (a2 : Int) : St := ⟨(up (fun _ => .un) 2 (.r (.ptr 24 0 0))), (up (hB fun _ => 0) 24 ⟨0, some (.box ((.d (.int .i64 a1.Name)) :: ((.d (.int .i64 a1.Rune)) :: ((.d (.int .i64 a1.Mods)) :: []))))⟩)⟩
noncomputable def f19_j5 (a1 : GKey) (a2 : Int) : Option ((List UInt8) × Int) := (f19_j1 a1 a2 )
theorem f19_j5_ok {d : Nat} (hd : 6 ≤ d) (a1 : GKey) (a2 : Int) {r : (List UInt8) × Int} {Q : PX → St → Prop} (hQ : ∀ e st', f19_Q r e st' → Q e st')  (hS : f19_j5 a1 a2 = some r) {st : St} (he : keepSt [2] [(24, .id 24)] [] st = f19_j5_J a1 a2) : ZR (lev codes baseL (d - 1)) Q c19_2 [.blk 0, .seq c19_1] st := by
  refine zrKeep he ?_
  unfold f19_j5 at hS
  refine zrSkip ?_
  refine zkBlk ?_
  refine zkSeq ?_
  exact f19_j1_ok hd a1 a2 hQ  hS (by kernel_rfl)
def f19_j4_J (a1 : GKey) (a2 : Int) : St := ⟨(up (up (fun _ => .un) 6 (.d (.int .i64 a1.Name))) 2 (.r (.ptr 24 0 0))), (up (hB fun _ => 0) 24 ⟨0, some (.box ((.d (.int .i64 a1.Name)) :: ((.d (.int .i64 a1.Rune)) :: ((.d (.int .i64 a1.Mods)) :: []))))⟩)⟩
noncomputable def f19_j4 (a1 : GKey) (a2 : Int) : Option ((List UInt8) × Int) := (bif (decide (14 < a1.Name)) then (bif (decide (a1.Name < 23)) then ((inR (IntKind.i64.wrap ((IntKind.i64.wrap (a1.Name - 11)) - 4)) 8).bind fun m23 => ((f42 (([15, 17, 18, 19, 20, 21, 23, 24] : List Int).getD m23 0) a1.Mods).bind fun z24 => (some (z24, 0)))) else (f19_j5 a1 a2 )) else (f19_j5 a1 a2 ))
theorem f19_j4_ok {d : Nat} (hd : 6 ≤ d) (a1 : GKey) (a2 : Int) {r : (List UInt8) × Int} {Q : PX → St → Prop} (hQ : ∀ e st', f19_Q r e st' → Q e st')  (hS : f19_j4 a1 a2 = some r) {st : St} (he : keepSt [2, 6] [(24, .id 24)] [] st = f19_j4_J a1 a2) : ZR (lev codes baseL (d - 1)) Q c19_3 [.blk 0, .seq c19_1] st := by
  refine zrKeep he ?_
  unfold f19_j4 at hS
  refine zrSeq ?_
  refine zrReg ?_
  refine zlRun (n := 1) (j := 1) rfl (by kernel_rfl) ?_
  refine zlBool (d := 96) (op := (.cmpI .gtr (.tmp 95) (.const (.int .i64 14)))) (g := none) (j := 2) (decide (14 < a1.Name)) rfl (by kernel_rfl) (by kernel_rfl) (by kernel_rfl) (fun hc => ?_) (fun hc => ?_)
  · replace hS := cond_t hc hS
    refine zlRun (n := 2) (j := 4) rfl (by kernel_rfl) ?_
    refine zlBool (d := 99) (op := (.cmpI .lss (.tmp 98) (.const (.int .i64 23)))) (g := (some (97, true))) (j := 5) (decide (a1.Name < 23)) rfl (by kernel_rfl) (by kernel_rfl) (by kernel_rfl) (fun hc => ?_) (fun hc => ?_)
    · replace hS := cond_t hc hS
      refine zlRun (n := 2) (j := 7) rfl (by kernel_rfl) ?_
      refine zlEnd (by kernel_rfl) ?_
      refine zkSeq ?_
      refine zrCondT (by kernel_rfl) ?_
      refine zrSeq ?_
      refine zrRegD ?_
      refine zdRun (n := 4) (j := 4) (ts := [[], [], [], []]) (acc' := [[], [], [], []]) rfl (by kernel_rfl) (by kernel_rfl) (by kernel_rfl) ?_
      refine bindE hS (fun m23 hm23 hS => ?_)
      refine zdOp (d := some 105) (op := (.ixV .false 8 1 (.tmp 101) (.tmp 104))) (g := none) (v := (.d (.int .i64 (([15, 17, 18, 19, 20, 21, 23, 24] : List Int).getD m23 0)))) (ups := []) (j := 5) (t1 := []) (acc' := [[], [], [], [], []]) (by kernel_rfl) (by kernel_rfl) rfl (by kernel_rfl) (by kernel_rfl) (ev_ixV (eInt .i64) (fun i => ([15, 17, 18, 19, 20, 21, 23, 24] : List Int).getD i 0) (kk := .i64) (j := (IntKind.i64.wrap ((IntKind.i64.wrap (a1.Name - 11)) - 4))) (by kernel_rfl) (by kernel_rfl) hm23 rfl (by kernel_rfl) (by kernel_rfl)) ?_
      refine zdRun (n := 2) (j := 7) (ts := [[], [(24, false)]]) (acc' := [[], [], [], [], [], [], [(24, false)]]) rfl (by kernel_rfl) (by kernel_rfl) (by kernel_rfl) ?_
      refine bindE hS (fun z24 hz24 hS => ?_)
      refine zdOp (d := some 108) (op := (.call 42 [(.tmp 105), (.tmp 107)])) (g := none) (v := (.d (.str z24))) (ups := []) (j := 8) (t1 := [(872, true), (873, true), (874, true), (875, true), (876, true), (877, true), (878, true), (879, true)]) (acc' := [[], [], [], [], [], [], [(24, false)], [(872, true), (873, true), (874, true), (875, true), (876, true), (877, true), (878, true), (879, true)]]) (by kernel_rfl) (by kernel_rfl) rfl (by kernel_rfl) (by kernel_rfl) (ev_call (args := [(.d (.int .i64 (([15, 17, 18, 19, 20, 21, 23, 24] : List Int).getD m23 0))), (.d (.int .i64 a1.Mods))]) (l := [(.d (.int .i64 (([15, 17, 18, 19, 20, 21, 23, 24] : List Int).getD m23 0))), (.d (.int .i64 a1.Mods))]) (r := (.d (.str z24))) (by kernel_rfl) (by kernel_rfl) (f42_ok (d - 1) (dpt hd rfl) (([15, 17, 18, 19, 20, 21, 23, 24] : List Int).getD m23 0) a1.Mods z24 hz24) (by kernel_rfl) (by kernel_rfl) (by kernel_rfl)) ?_
      refine zdRun (n := 2) (j := 10) (ts := [[], []]) (acc' := [[], [], [], [], [], [], [(24, false)], [(872, true), (873, true), (874, true), (875, true), (876, true), (877, true), (878, true), (879, true)], [], []]) rfl (by kernel_rfl) (by kernel_rfl) (by kernel_rfl) ?_
      refine zdEnd (by kernel_rfl) (by kernel_rfl) ?_
      refine zkSeq ?_
      refine zrRet ?_
      refine zkBlkR ?_
      refine zkSeqR ?_
      refine zkNil ?_
      exact endQ hS hQ (fRet ((congrArg (fun s => outR s 0 c19.res) (by kernel_rfl : finSt c19.fin _ = f19_fin z24 0)).trans (f19_out z24 0)))
    · replace hS := cond_f hc hS
      refine zlRun (n := 2) (j := 7) rfl (by kernel_rfl) ?_
      refine zlEnd (by kernel_rfl) ?_
      refine zkSeq ?_
      refine zrCondF (by kernel_rfl) ?_
      exact f19_j5_ok hd a1 a2 hQ  hS (by kernel_rfl)
  · replace hS := cond_f hc hS
    refine zlRun (n := 5) (j := 7) rfl (by kernel_rfl) ?_
    refine zlEnd (by kernel_rfl) ?_
    refine zkSeq ?_
    refine zrCondF (by kernel_rfl) ?_
    exact f19_j5_ok hd a1 a2 hQ  hS (by kernel_rfl)
def f19_j3_J (a1 : GKey) (a2 : Int) : St := ⟨(up (up (fun _ => .un) 6 (.d (.int .i64 a1.Name))) 2 (.r (.ptr 24 0 0))), (up (hB fun _ => 0) 24 ⟨0, some (.box ((.d (.int .i64 a1.Name)) :: ((.d (.int .i64 a1.Rune)) :: ((.d (.int .i64 a1.Mods)) :: []))))⟩)⟩
noncomputable def f19_j3 (a1 : GKey) (a2 : Int) : Option ((List UInt8) × Int) := (bif (decide (11 ≤ a1.Name)) then (bif (decide (a1.Name ≤ 14)) then ((idx ([80, 81, 82, 83] : List UInt8) (IntKind.i64.wrap (a1.Name - 11))).bind fun z25 => ((f41 [79] z25 a1.Mods).bind fun z26 => (some (z26, 0)))) else (f19_j4 a1 a2 )) else (f19_j4 a1 a2 ))
theorem f19_j3_ok {d : Nat} (hd : 6 ≤ d) (a1 : GKey) (a2 : Int) {r : (List UInt8) × Int} {Q : PX → St → Prop} (hQ : ∀ e st', f19_Q r e st' → Q e st')  (hS : f19_j3 a1 a2 = some r) {st : St} (he : keepSt [2, 6] [(24, .id 24)] [] st = f19_j3_J a1 a2) : ZR (lev codes baseL (d - 1)) Q c19_4 [.blk 0, .seq c19_1] st := by
  refine zrKeep he ?_
  unfold f19_j3 at hS
  refine zrSeq ?_
  refine zrReg ?_
  refine zlRun (n := 1) (j := 1) rfl (by kernel_rfl) ?_
  refine zlBool (d := 83) (op := (.cmpI .geq (.tmp 82) (.const (.int .i64 11)))) (g := none) (j := 2) (decide (11 ≤ a1.Name)) rfl (by kernel_rfl) (by kernel_rfl) (by kernel_rfl) (fun hc => ?_) (fun hc => ?_)
  · replace hS := cond_t hc hS
    refine zlRun (n := 2) (j := 4) rfl (by kernel_rfl) ?_
    refine zlBool (d := 86) (op := (.cmpI .leq (.tmp 85) (.const (.int .i64 14)))) (g := (some (84, true))) (j := 5) (decide (a1.Name ≤ 14)) rfl (by kernel_rfl) (by kernel_rfl) (by kernel_rfl) (fun hc => ?_) (fun hc => ?_)
    · replace hS := cond_t hc hS
      refine zlRun (n := 2) (j := 7) rfl (by kernel_rfl) ?_
      refine zlEnd (by kernel_rfl) ?_
      refine zkSeq ?_
      refine zrCondT (by kernel_rfl) ?_
      refine zrSeq ?_
      refine zrRegD ?_
      refine zdRun (n := 2) (j := 2) (ts := [[], []]) (acc' := [[], []]) rfl (by kernel_rfl) (by kernel_rfl) (by kernel_rfl) ?_
      refine bindE hS (fun z25 hz25 hS => ?_)
      refine zdOp (d := some 90) (op := (.ixStr (.const (.string ⟨#[80, 81, 82, 83]⟩)) (.tmp 89))) (g := none) (v := (.d (.int .u8 (z25.toNat : Int)))) (ups := []) (j := 3) (t1 := []) (acc' := [[], [], []]) (by kernel_rfl) (by kernel_rfl) rfl (by kernel_rfl) (by kernel_rfl) (ev_ixStr (kk := .i64) (s := [80, 81, 82, 83]) (j := (IntKind.i64.wrap (a1.Name - 11))) (by kernel_rfl) (by kernel_rfl) hz25) ?_
      refine zdRun (n := 2) (j := 5) (ts := [[], [(24, false)]]) (acc' := [[], [], [], [], [(24, false)]]) rfl (by kernel_rfl) (by kernel_rfl) (by kernel_rfl) ?_
      refine bindE hS (fun z26 hz26 hS => ?_)
      refine zdOp (d := some 93) (op := (.call 41 [(.const (.string ⟨#[79]⟩)), (.tmp 90), (.tmp 92)])) (g := none) (v := (.d (.str z26))) (ups := []) (j := 6) (t1 := [(752, true), (753, true), (754, true), (755, true), (756, true), (757, true), (758, true), (759, true)]) (acc' := [[], [], [], [], [(24, false)], [(752, true), (753, true), (754, true), (755, true), (756, true), (757, true), (758, true), (759, true)]]) (by kernel_rfl) (by kernel_rfl) rfl (by kernel_rfl) (by kernel_rfl) (ev_call (args := [(.d (.str ([79]))), (.d (.int .u8 (z25.toNat : Int))), (.d (.int .i64 a1.Mods))]) (l := [(.d (.str ([79]))), (.d (.int .u8 (z25.toNat : Int))), (.d (.int .i64 a1.Mods))]) (r := (.d (.str z26))) (by kernel_rfl) (by kernel_rfl) (f41_ok (d - 1) (dpt hd rfl) [79] z25 a1.Mods z26 hz26) (by kernel_rfl) (by kernel_rfl) (by kernel_rfl)) ?_
      refine zdRun (n := 2) (j := 8) (ts := [[], []]) (acc' := [[], [], [], [], [(24, false)], [(752, true), (753, true), (754, true), (755, true), (756, true), (757, true), (758, true), (759, true)], [], []]) rfl (by kernel_rfl) (by kernel_rfl) (by kernel_rfl) ?_
      refine zdEnd (by kernel_rfl) (by kernel_rfl) ?_
      refine zkSeq ?_
      refine zrRet ?_
      refine zkBlkR ?_
      refine zkSeqR ?_
      refine zkNil ?_
      exact endQ hS hQ (fRet ((congrArg (fun s => outR s 0 c19.res) (by kernel_rfl : finSt c19.fin _ = f19_fin z26 0)).trans (f19_out z26 0)))
    · replace hS := cond_f hc hS
      refine zlRun (n := 2) (j := 7) rfl (by kernel_rfl) ?_
      refine zlEnd (by kernel_rfl) ?_
      refine zkSeq ?_
      refine zrCondF (by kernel_rfl) ?_
      exact f19_j4_ok hd a1 a2 hQ  hS (by kernel_rfl)
  · replace hS := cond_f hc hS
    refine zlRun (n := 5) (j := 7) rfl (by kernel_rfl) ?_
    refine zlEnd (by kernel_rfl) ?_
    refine zkSeq ?_
    refine zrCondF (by kernel_rfl) ?_
    exact f19_j4_ok hd a1 a2 hQ  hS (by kernel_rfl)
def f19_j2_J (a1 : GKey) (a2 : Int) : St := ⟨(up (up (fun _ => .un) 6 (.d (.int .i64 a1.Name))) 2 (.r (.ptr 24 0 0))), (up (hB fun _ => 0) 24 ⟨0, some (.box ((.d (.int .i64 a1.Name)) :: ((.d (.int .i64 a1.Rune)) :: ((.d (.int .i64 a1.Mods)) :: []))))⟩)⟩
noncomputable def f19_j2 (a1 : GKey) (a2 : Int) : Option ((List UInt8) × Int) := (bif (decide (7 ≤ a1.Name)) then (bif (decide (a1.Name ≤ 10)) then ((inR (IntKind.i64.wrap (a1.Name - 7)) 4).bind fun m27 => ((f42 (([2, 3, 5, 6] : List Int).getD m27 0) a1.Mods).bind fun z28 => (some (z28, 0)))) else (f19_j3 a1 a2 )) else (f19_j3 a1 a2 ))
theorem f19_j2_ok {d : Nat} (hd : 6 ≤ d) (a1 : GKey) (a2 : Int) {r : (List UInt8) × Int} {Q : PX → St → Prop} (hQ : ∀ e st', f19_Q r e st' → Q e st')  (hS : f19_j2 a1 a2 = some r) {st : St} (he : keepSt [2, 6] [(24, .id 24)] [] st = f19_j2_J a1 a2) : ZR (lev codes baseL (d - 1)) Q c19_5 [.blk 0, .seq c19_1] st := by
  refine zrKeep he ?_
  unfold f19_j2 at hS
  refine zrSeq ?_
  refine zrReg ?_
  refine zlRun (n := 1) (j := 1) rfl (by kernel_rfl) ?_
  refine zlBool (d := 69) (op := (.cmpI .geq (.tmp 68) (.const (.int .i64 7)))) (g := none) (j := 2) (decide (7 ≤ a1.Name)) rfl (by kernel_rfl) (by kernel_rfl) (by kernel_rfl) (fun hc => ?_) (fun hc => ?_)
  · replace hS := cond_t hc hS
    refine zlRun (n := 2) (j := 4) rfl (by kernel_rfl) ?_
    refine zlBool (d := 72) (op := (.cmpI .leq (.tmp 71) (.const (.int .i64 10)))) (g := (some (70, true))) (j := 5) (decide (a1.Name ≤ 10)) rfl (by kernel_rfl) (by kernel_rfl) (by kernel_rfl) (fun hc => ?_) (fun hc => ?_)
    · replace hS := cond_t hc hS
      refine zlRun (n := 2) (j := 7) rfl (by kernel_rfl) ?_
      refine zlEnd (by kernel_rfl) ?_
      refine zkSeq ?_
      refine zrCondT (by kernel_rfl) ?_
      refine zrSeq ?_
      refine zrRegD ?_
      refine zdRun (n := 3) (j := 3) (ts := [[], [], []]) (acc' := [[], [], []]) rfl (by kernel_rfl) (by kernel_rfl) (by kernel_rfl) ?_
      refine bindE hS (fun m27 hm27 hS => ?_)
      refine zdOp (d := some 77) (op := (.ixV .false 4 1 (.tmp 74) (.tmp 76))) (g := none) (v := (.d (.int .i64 (([2, 3, 5, 6] : List Int).getD m27 0)))) (ups := []) (j := 4) (t1 := []) (acc' := [[], [], [], []]) (by kernel_rfl) (by kernel_rfl) rfl (by kernel_rfl) (by kernel_rfl) (ev_ixV (eInt .i64) (fun i => ([2, 3, 5, 6] : List Int).getD i 0) (kk := .i64) (j := (IntKind.i64.wrap (a1.Name - 7))) (by kernel_rfl) (by kernel_rfl) hm27 rfl (by kernel_rfl) (by kernel_rfl)) ?_
      refine zdRun (n := 2) (j := 6) (ts := [[], [(24, false)]]) (acc' := [[], [], [], [], [], [(24, false)]]) rfl (by kernel_rfl) (by kernel_rfl) (by kernel_rfl) ?_
      refine bindE hS (fun z28 hz28 hS => ?_)
      refine zdOp (d := some 80) (op := (.call 42 [(.tmp 77), (.tmp 79)])) (g := none) (v := (.d (.str z28))) (ups := []) (j := 7) (t1 := [(648, true), (649, true), (650, true), (651, true), (652, true), (653, true), (654, true), (655, true)]) (acc' := [[], [], [], [], [], [(24, false)], [(648, true), (649, true), (650, true), (651, true), (652, true), (653, true), (654, true), (655, true)]]) (by kernel_rfl) (by kernel_rfl) rfl (by kernel_rfl) (by kernel_rfl) (ev_call (args := [(.d (.int .i64 (([2, 3, 5, 6] : List Int).getD m27 0))), (.d (.int .i64 a1.Mods))]) (l := [(.d (.int .i64 (([2, 3, 5, 6] : List Int).getD m27 0))), (.d (.int .i64 a1.Mods))]) (r := (.d (.str z28))) (by kernel_rfl) (by kernel_rfl) (f42_ok (d - 1) (dpt hd rfl) (([2, 3, 5, 6] : List Int).getD m27 0) a1.Mods z28 hz28) (by kernel_rfl) (by kernel_rfl) (by kernel_rfl)) ?_
      refine zdRun (n := 2) (j := 9) (ts := [[], []]) (acc' := [[], [], [], [], [], [(24, false)], [(648, true), (649, true), (650, true), (651, true), (652, true), (653, true), (654, true), (655, true)], [], []]) rfl (by kernel_rfl) (by kernel_rfl) (by kernel_rfl) ?_
      refine zdEnd (by kernel_rfl) (by kernel_rfl) ?_
      refine zkSeq ?_
      refine zrRet ?_
      refine zkBlkR ?_
      refine zkSeqR ?_
      refine zkNil ?_
      exact endQ hS hQ (fRet ((congrArg (fun s => outR s 0 c19.res) (by kernel_rfl : finSt c19.fin _ = f19_fin z28 0)).trans (f19_out z28 0)))
    · replace hS := cond_f hc hS
      refine zlRun (n := 2) (j := 7) rfl (by kernel_rfl) ?_
      refine zlEnd (by kernel_rfl) ?_
      refine zkSeq ?_
      refine zrCondF (by kernel_rfl) ?_
      exact f19_j3_ok hd a1 a2 hQ  hS (by kernel_rfl)
  · replace hS := cond_f hc hS
    refine zlRun (n := 5) (j := 7) rfl (by kernel_rfl) ?_
    refine zlEnd (by kernel_rfl) ?_
    refine zkSeq ?_
    refine zrCondF (by kernel_rfl) ?_
    exact f19_j3_ok hd a1 a2 hQ  hS (by kernel_rfl)
def f19_j6_J (a1 : GKey) (a2 : Int) (p38 : List UInt8) : St := ⟨(up (up (up (fun _ => .un) 7 (.d (.str p38))) 6 (.d (.int .i64 a1.Name))) 2 (.r (.ptr 24 0 0))), (up (hB fun _ => 0) 24 ⟨0, some (.box ((.d (.int .i64 a1.Name)) :: ((.d (.int .i64 a1.Rune)) :: ((.d (.int .i64 a1.Mods)) :: []))))⟩)⟩
noncomputable def f19_j6 (a1 : GKey) (a2 : Int) (p38 : List UInt8) : Option ((List UInt8) × Int) := ((idx ([65, 66, 67, 68, 72, 70] : List UInt8) (IntKind.i64.wrap (a1.Name - 1))).bind fun z29 => ((f41 p38 z29 a1.Mods).bind fun z30 => (some (z30, 0))))
theorem f19_j6_ok {d : Nat} (hd : 6 ≤ d) (a1 : GKey) (a2 : Int) {r : (List UInt8) × Int} {Q : PX → St → Prop} (hQ : ∀ e st', f19_Q r e st' → Q e st') (p38 : List UInt8) (hS : f19_j6 a1 a2 p38 = some r) {st : St} (he : keepSt [2, 6, 7] [(24, .id 24)] [] st = f19_j6_J a1 a2 p38) : ZR (lev codes baseL (d - 1)) Q c19_6 [.blk 0, .seq c19_1] st := by
  refine zrKeep he ?_
  unfold f19_j6 at hS
  refine zrSeq ?_
  refine zrRegD ?_
  refine zdRun (n := 3) (j := 3) (ts := [[], [], []]) (acc' := [[], [], []]) rfl (by kernel_rfl) (by kernel_rfl) (by kernel_rfl) ?_
  refine bindE hS (fun z29 hz29 hS => ?_)
  refine zdOp (d := some 63) (op := (.ixStr (.const (.string ⟨#[65, 66, 67, 68, 72, 70]⟩)) (.tmp 62))) (g := none) (v := (.d (.int .u8 (z29.toNat : Int)))) (ups := []) (j := 4) (t1 := []) (acc' := [[], [], [], []]) (by kernel_rfl) (by kernel_rfl) rfl (by kernel_rfl) (by kernel_rfl) (ev_ixStr (kk := .i64) (s := [65, 66, 67, 68, 72, 70]) (j := (IntKind.i64.wrap (a1.Name - 1))) (by kernel_rfl) (by kernel_rfl) hz29) ?_
  refine zdRun (n := 2) (j := 6) (ts := [[], [(24, false)]]) (acc' := [[], [], [], [], [], [(24, false)]]) rfl (by kernel_rfl) (by kernel_rfl) (by kernel_rfl) ?_
  refine bindE hS (fun z30 hz30 hS => ?_)
  refine zdOp (d := some 66) (op := (.call 41 [(.tmp 60), (.tmp 63), (.tmp 65)])) (g := none) (v := (.d (.str z30))) (ups := []) (j := 7) (t1 := [(536, true), (537, true), (538, true), (539, true), (540, true), (541, true), (542, true), (543, true)]) (acc' := [[], [], [], [], [], [(24, false)], [(536, true), (537, true), (538, true), (539, true), (540, true), (541, true), (542, true), (543, true)]]) (by kernel_rfl) (by kernel_rfl) rfl (by kernel_rfl) (by kernel_rfl) (ev_call (args := [(.d (.str p38)), (.d (.int .u8 (z29.toNat : Int))), (.d (.int .i64 a1.Mods))]) (l := [(.d (.str p38)), (.d (.int .u8 (z29.toNat : Int))), (.d (.int .i64 a1.Mods))]) (r := (.d (.str z30))) (by kernel_rfl) (by kernel_rfl) (f41_ok (d - 1) (dpt hd rfl) p38 z29 a1.Mods z30 hz30) (by kernel_rfl) (by kernel_rfl) (by kernel_rfl)) ?_
  refine zdRun (n := 2) (j := 9) (ts := [[], []]) (acc' := [[], [], [], [], [], [(24, false)], [(536, true), (537, true), (538, true), (539, true), (540, true), (541, true), (542, true), (543, true)], [], []]) rfl (by kernel_rfl) (by kernel_rfl) (by kernel_rfl) ?_
  refine zdEnd (by kernel_rfl) (by kernel_rfl) ?_
  refine zkSeq ?_
  refine zrRet ?_
  refine zkBlkR ?_
  refine zkSeqR ?_
  refine zkNil ?_
  exact endQ hS hQ (fRet ((congrArg (fun s => outR s 0 c19.res) (by kernel_rfl : finSt c19.fin _ = f19_fin z30 0)).trans (f19_out z30 0)))
def f19_j0_J (a1 : GKey) (a2 : Int) : St := ⟨(up (up (fun _ => .un) 2 (.r (.ptr 24 0 0))) 1 (.d (.int .i64 a2))), (up (hB fun _ => 0) 24 ⟨0, some (.box ((.d (.int .i64 a1.Name)) :: ((.d (.int .i64 a1.Rune)) :: ((.d (.int .i64 a1.Mods)) :: []))))⟩)⟩
noncomputable def f19_j0 (a1 : GKey) (a2 : Int) : Option ((List UInt8) × Int) := (bif (decide (1 ≤ a1.Name)) then (bif (decide (a1.Name ≤ 6)) then (bif (!decide ((bitI .and .i64 a2 16) = 0)) then (f19_j6 a1 a2 [79]) else (f19_j6 a1 a2 [91])) else (f19_j2 a1 a2 )) else (f19_j2 a1 a2 ))
theorem f19_j0_ok {d : Nat} (hd : 6 ≤ d) (a1 : GKey) (a2 : Int) {r : (List UInt8) × Int} {Q : PX → St → Prop} (hQ : ∀ e st', f19_Q r e st' → Q e st')  (hS : f19_j0 a1 a2 = some r) {st : St} (he : keepSt [1, 2] [(24, .id 24)] [] st = f19_j0_J a1 a2) : ZR (lev codes baseL (d - 1)) Q c19_7 [] st := by
  refine zrKeep he ?_
  unfold f19_j0 at hS
  refine zrSeq ?_
  refine zrReg ?_
  refine zlRun (n := 3) (j := 3) rfl (by kernel_rfl) ?_
  refine zlEnd (by kernel_rfl) ?_
  refine zkSeq ?_
  refine zrSeq ?_
  refine zrBlk ?_
  refine zrSeq ?_
  refine zrReg ?_
  refine zlRun (n := 1) (j := 1) rfl (by kernel_rfl) ?_
  refine zlBool (d := 52) (op := (.cmpI .geq (.tmp 51) (.const (.int .i64 1)))) (g := none) (j := 2) (decide (1 ≤ a1.Name)) rfl (by kernel_rfl) (by kernel_rfl) (by kernel_rfl) (fun hc => ?_) (fun hc => ?_)
  · replace hS := cond_t hc hS
    refine zlRun (n := 2) (j := 4) rfl (by kernel_rfl) ?_
    refine zlBool (d := 55) (op := (.cmpI .leq (.tmp 54) (.const (.int .i64 6)))) (g := (some (53, true))) (j := 5) (decide (a1.Name ≤ 6)) rfl (by kernel_rfl) (by kernel_rfl) (by kernel_rfl) (fun hc => ?_) (fun hc => ?_)
    · replace hS := cond_t hc hS
      refine zlRun (n := 2) (j := 7) rfl (by kernel_rfl) ?_
      refine zlEnd (by kernel_rfl) ?_
      refine zkSeq ?_
      refine zrCondT (by kernel_rfl) ?_
      refine zrSeq ?_
      refine zrReg ?_
      refine zlRun (n := 1) (j := 1) rfl (by kernel_rfl) ?_
      refine zlEnd (by kernel_rfl) ?_
      refine zkSeq ?_
      refine zrSeq ?_
      refine zrSeq ?_
      refine zrReg ?_
      refine zlRun (n := 2) (j := 2) rfl (by kernel_rfl) ?_
      refine zlBool (d := 59) (op := (.cmpI .neq (.tmp 58) (.const (.int .i64 0)))) (g := none) (j := 3) (!decide ((bitI .and .i64 a2 16) = 0)) rfl (by kernel_rfl) (by kernel_rfl) (by kernel_rfl) (fun hc => ?_) (fun hc => ?_)
      · replace hS := cond_t hc hS
        refine zlEnd (by kernel_rfl) ?_
        refine zkSeq ?_
        refine zrCondT (by kernel_rfl) ?_
        refine zrReg ?_
        refine zlRun (n := 1) (j := 1) rfl (by kernel_rfl) ?_
        refine zlEnd (by kernel_rfl) ?_
        refine zkSeq ?_
        exact f19_j6_ok hd a1 a2 hQ [79] hS (by kernel_rfl)
      · replace hS := cond_f hc hS
        refine zlEnd (by kernel_rfl) ?_
        refine zkSeq ?_
        refine zrCondF (by kernel_rfl) ?_
        refine zrSkip ?_
        refine zkSeq ?_
        exact f19_j6_ok hd a1 a2 hQ [91] hS (by kernel_rfl)
    · replace hS := cond_f hc hS
      refine zlRun (n := 2) (j := 7) rfl (by kernel_rfl) ?_
      refine zlEnd (by kernel_rfl) ?_
      refine zkSeq ?_
      refine zrCondF (by kernel_rfl) ?_
      exact f19_j2_ok hd a1 a2 hQ  hS (by kernel_rfl)
  · replace hS := cond_f hc hS
    refine zlRun (n := 5) (j := 7) rfl (by kernel_rfl) ?_
    refine zlEnd (by kernel_rfl) ?_
    refine zkSeq ?_
    refine zrCondF (by kernel_rfl) ?_
    exact f19_j2_ok hd a1 a2 hQ  hS (by kernel_rfl)
noncomputable def f19 (a1 : GKey) (a2 : Int) : Option ((List UInt8) × Int) := (bif (decide (a1.Mods < 0)) then (some ([], 1)) else (bif (decide (7 < a1.Mods)) then (some ([], 1)) else (bif (decide (a1.Name < 0)) then (some ([], 1)) else (bif (decide (26 < a1.Name)) then (some ([], 1)) else (bif (decide (a1.Name = 0)) then ((f40 a1.Rune).bind fun z31 => (bif (!z31) then (some ([], 1)) else (bif (!decide (a1.Name = 0)) then (bif (!decide (a1.Rune = 0)) then (some ([], 1)) else (f19_j0 a1 a2 )) else (f19_j0 a1 a2 )))) else (bif (!decide (a1.Name = 0)) then (bif (!decide (a1.Rune = 0)) then (some ([], 1)) else (f19_j0 a1 a2 )) else (f19_j0 a1 a2 )))))))
theorem f19_ok (d : Nat) (hd : 6 ≤ d) (a1 : GKey) (a2 : Int) (r : (List UInt8) × Int) (hS : f19 a1 a2 = some r) : lev codes baseL d 19 [(.agg ((.d (.int .i64 a1.Name)) :: ((.d (.int .i64 a1.Rune)) :: ((.d (.int .i64 a1.Mods)) :: [])))), (.d (.int .i64 a2))] [] = some ((.tup [(.d (.str r.1)), (.d (.int .i64 r.2))]), []) := by
  refine lev_go codes19 rfl rfl (Nat.le_trans (Nat.le_of_ble_eq_true rfl) hd) fun Q hQ => ?_
  unfold f19 at hS
  show ZR _ Q c19_b [] _
  replace hQ : ∀ e st', f19_Q r e st' → Q e st' := hQ
  refine zrSeq ?_
  refine zrReg ?_
  refine zlRun (n := 3) (j := 3) rfl (by kernel_rfl) ?_
  refine zlEnd (by kernel_rfl) ?_
  refine zkSeq ?_
  refine zrSeq ?_
  refine zrSeq ?_
  refine zrReg ?_
  refine zlRun (n := 2) (j := 2) rfl (by kernel_rfl) ?_
  refine zlBool (d := 11) (op := (.cmpI .lss (.tmp 10) (.const (.int .i64 0)))) (g := none) (j := 3) (decide (a1.Mods < 0)) rfl (by kernel_rfl) (by kernel_rfl) (by kernel_rfl) (fun hc => ?_) (fun hc => ?_)
  · replace hS := cond_t hc hS
    refine zlRun (n := 36) (j := 39) rfl (by kernel_rfl) ?_
    refine zlEnd (by kernel_rfl) ?_
    refine zkSeq ?_
    refine zrCondT (by kernel_rfl) ?_
    refine zrSeq ?_
    refine zrReg ?_
    refine zlRun (n := 2) (j := 2) rfl (by kernel_rfl) ?_
    refine zlEnd (by kernel_rfl) ?_
    refine zkSeq ?_
    refine zrRet ?_
    refine zkSeqR ?_
    refine zkNil ?_
    exact endQ hS hQ (fRet ((congrArg (fun s => outR s 0 c19.res) (by kernel_rfl : finSt c19.fin _ = f19_fin [] 1)).trans (f19_out [] 1)))
  · replace hS := cond_f hc hS
    refine zlRun (n := 3) (j := 6) rfl (by kernel_rfl) ?_
    refine zlBool (d := 15) (op := (.cmpI .gtr (.tmp 14) (.const (.int .i64 7)))) (g := (some (12, false))) (j := 7) (decide (7 < a1.Mods)) rfl (by kernel_rfl) (by kernel_rfl) (by kernel_rfl) (fun hc => ?_) (fun hc => ?_)
    · replace hS := cond_t hc hS
      refine zlRun (n := 32) (j := 39) rfl (by kernel_rfl) ?_
      refine zlEnd (by kernel_rfl) ?_
      refine zkSeq ?_
      refine zrCondT (by kernel_rfl) ?_
      refine zrSeq ?_
      refine zrReg ?_
      refine zlRun (n := 2) (j := 2) rfl (by kernel_rfl) ?_
      refine zlEnd (by kernel_rfl) ?_
      refine zkSeq ?_
      refine zrRet ?_
      refine zkSeqR ?_
      refine zkNil ?_
      exact endQ hS hQ (fRet ((congrArg (fun s => outR s 0 c19.res) (by kernel_rfl : finSt c19.fin _ = f19_fin [] 1)).trans (f19_out [] 1)))
    · replace hS := cond_f hc hS
      refine zlRun (n := 4) (j := 11) rfl (by kernel_rfl) ?_
      refine zlBool (d := 20) (op := (.cmpI .lss (.tmp 19) (.const (.int .i64 0)))) (g := (some (17, false))) (j := 12) (decide (a1.Name < 0)) rfl (by kernel_rfl) (by kernel_rfl) (by kernel_rfl) (fun hc => ?_) (fun hc => ?_)
      · replace hS := cond_t hc hS
        refine zlRun (n := 27) (j := 39) rfl (by kernel_rfl) ?_
        refine zlEnd (by kernel_rfl) ?_
        refine zkSeq ?_
        refine zrCondT (by kernel_rfl) ?_
        refine zrSeq ?_
        refine zrReg ?_
        refine zlRun (n := 2) (j := 2) rfl (by kernel_rfl) ?_
        refine zlEnd (by kernel_rfl) ?_
        refine zkSeq ?_
        refine zrRet ?_
        refine zkSeqR ?_
        refine zkNil ?_
        exact endQ hS hQ (fRet ((congrArg (fun s => outR s 0 c19.res) (by kernel_rfl : finSt c19.fin _ = f19_fin [] 1)).trans (f19_out [] 1)))
      · replace hS := cond_f hc hS
        refine zlRun (n := 4) (j := 16) rfl (by kernel_rfl) ?_
        refine zlBool (d := 25) (op := (.cmpI .gtr (.tmp 24) (.const (.int .i64 26)))) (g := (some (22, false))) (j := 17) (decide (26 < a1.Name)) rfl (by kernel_rfl) (by kernel_rfl) (by kernel_rfl) (fun hc => ?_) (fun hc => ?_)
        · replace hS := cond_t hc hS
          refine zlRun (n := 22) (j := 39) rfl (by kernel_rfl) ?_
          refine zlEnd (by kernel_rfl) ?_
          refine zkSeq ?_
          refine zrCondT (by kernel_rfl) ?_
          refine zrSeq ?_
          refine zrReg ?_
          refine zlRun (n := 2) (j := 2) rfl (by kernel_rfl) ?_
          refine zlEnd (by kernel_rfl) ?_
          refine zkSeq ?_
          refine zrRet ?_
          refine zkSeqR ?_
          refine zkNil ?_
          exact endQ hS hQ (fRet ((congrArg (fun s => outR s 0 c19.res) (by kernel_rfl : finSt c19.fin _ = f19_fin [] 1)).trans (f19_out [] 1)))
        · replace hS := cond_f hc hS
          refine zlRun (n := 4) (j := 21) rfl (by kernel_rfl) ?_
          refine zlBool (d := 30) (op := (.cmpI .eql (.tmp 29) (.const (.int .i64 0)))) (g := (some (27, false))) (j := 22) (decide (a1.Name = 0)) rfl (by kernel_rfl) (by kernel_rfl) (by kernel_rfl) (fun hc => ?_) (fun hc => ?_)
          · replace hS := cond_t hc hS
            refine zlRun (n := 3) (j := 25) rfl (by kernel_rfl) ?_
            refine bindE hS (fun z31 hz31 hS => ?_)
            refine zlOp (d := some 34) (op := (.call 40 [(.tmp 33)])) (g := (some (31, true))) (v := (.d (.bool z31))) (ups := []) (j := 26) rfl (by kernel_rfl) (by kernel_rfl) (ev_call (args := [(.d (.int .i64 a1.Rune))]) (l := [(.d (.int .i64 a1.Rune))]) (r := (.d (.bool z31))) (by kernel_rfl) (by kernel_rfl) (f40_ok (d - 1) (dpt hd rfl) a1.Rune z31 hz31) (by kernel_rfl) (by kernel_rfl) (by kernel_rfl)) ?_
            refine zlRun (n := 4) (j := 30) rfl (by kernel_rfl) ?_
            refine zlSplit 38 (!z31) (by kernel_rfl) (fun hc => ?_) (fun hc => ?_)
            · replace hS := cond_t hc hS
              refine zlRun (n := 9) (j := 39) rfl (by kernel_rfl) ?_
              refine zlEnd (by kernel_rfl) ?_
              refine zkSeq ?_
              refine zrCondT (by kernel_rfl) ?_
              refine zrSeq ?_
              refine zrReg ?_
              refine zlRun (n := 2) (j := 2) rfl (by kernel_rfl) ?_
              refine zlEnd (by kernel_rfl) ?_
              refine zkSeq ?_
              refine zrRet ?_
              refine zkSeqR ?_
              refine zkNil ?_
              exact endQ hS hQ (fRet ((congrArg (fun s => outR s 0 c19.res) (by kernel_rfl : finSt c19.fin _ = f19_fin [] 1)).trans (f19_out [] 1)))
            · replace hS := cond_f hc hS
              refine zlRun (n := 2) (j := 32) rfl (by kernel_rfl) ?_
              refine zlBool (d := 41) (op := (.cmpI .neq (.tmp 40) (.const (.int .i64 0)))) (g := (some (38, false))) (j := 33) (!decide (a1.Name = 0)) rfl (by kernel_rfl) (by kernel_rfl) (by kernel_rfl) (fun hc => ?_) (fun hc => ?_)
              · replace hS := cond_t hc hS
                refine zlRun (n := 3) (j := 36) rfl (by kernel_rfl) ?_
                refine zlBool (d := 45) (op := (.cmpI .neq (.tmp 44) (.const (.int .i64 0)))) (g := (some (42, true))) (j := 37) (!decide (a1.Rune = 0)) rfl (by kernel_rfl) (by kernel_rfl) (by kernel_rfl) (fun hc => ?_) (fun hc => ?_)
                · replace hS := cond_t hc hS
                  refine zlRun (n := 2) (j := 39) rfl (by kernel_rfl) ?_
                  refine zlEnd (by kernel_rfl) ?_
                  refine zkSeq ?_
                  refine zrCondT (by kernel_rfl) ?_
                  refine zrSeq ?_
                  refine zrReg ?_
                  refine zlRun (n := 2) (j := 2) rfl (by kernel_rfl) ?_
                  refine zlEnd (by kernel_rfl) ?_
                  refine zkSeq ?_
                  refine zrRet ?_
                  refine zkSeqR ?_
                  refine zkNil ?_
                  exact endQ hS hQ (fRet ((congrArg (fun s => outR s 0 c19.res) (by kernel_rfl : finSt c19.fin _ = f19_fin [] 1)).trans (f19_out [] 1)))
                · replace hS := cond_f hc hS
                  refine zlRun (n := 2) (j := 39) rfl (by kernel_rfl) ?_
                  refine zlEnd (by kernel_rfl) ?_
                  refine zkSeq ?_
                  refine zrCondF (by kernel_rfl) ?_
                  refine zrSkip ?_
                  refine zkSeq ?_
                  exact f19_j0_ok hd a1 a2 hQ  hS (by kernel_rfl)
              · replace hS := cond_f hc hS
                refine zlRun (n := 6) (j := 39) rfl (by kernel_rfl) ?_
                refine zlEnd (by kernel_rfl) ?_
                refine zkSeq ?_
                refine zrCondF (by kernel_rfl) ?_
                refine zrSkip ?_
                refine zkSeq ?_
                exact f19_j0_ok hd a1 a2 hQ  hS (by kernel_rfl)
          · replace hS := cond_f hc hS
            refine zlRun (n := 10) (j := 32) rfl (by kernel_rfl) ?_
            refine zlBool (d := 41) (op := (.cmpI .neq (.tmp 40) (.const (.int .i64 0)))) (g := (some (38, false))) (j := 33) (!decide (a1.Name = 0)) rfl (by kernel_rfl) (by kernel_rfl) (by kernel_rfl) (fun hc => ?_) (fun hc => ?_)
            · replace hS := cond_t hc hS
              refine zlRun (n := 3) (j := 36) rfl (by kernel_rfl) ?_
              refine zlBool (d := 45) (op := (.cmpI .neq (.tmp 44) (.const (.int .i64 0)))) (g := (some (42, true))) (j := 37) (!decide (a1.Rune = 0)) rfl (by kernel_rfl) (by kernel_rfl) (by kernel_rfl) (fun hc => ?_) (fun hc => ?_)
              · replace hS := cond_t hc hS
                refine zlRun (n := 2) (j := 39) rfl (by kernel_rfl) ?_
                refine zlEnd (by kernel_rfl) ?_
                refine zkSeq ?_
                refine zrCondT (by kernel_rfl) ?_
                refine zrSeq ?_
                refine zrReg ?_
                refine zlRun (n := 2) (j := 2) rfl (by kernel_rfl) ?_
                refine zlEnd (by kernel_rfl) ?_
                refine zkSeq ?_
                refine zrRet ?_
                refine zkSeqR ?_
                refine zkNil ?_
                exact endQ hS hQ (fRet ((congrArg (fun s => outR s 0 c19.res) (by kernel_rfl : finSt c19.fin _ = f19_fin [] 1)).trans (f19_out [] 1)))
              · replace hS := cond_f hc hS
                refine zlRun (n := 2) (j := 39) rfl (by kernel_rfl) ?_
                refine zlEnd (by kernel_rfl) ?_
                refine zkSeq ?_
                refine zrCondF (by kernel_rfl) ?_
                refine zrSkip ?_
                refine zkSeq ?_
                exact f19_j0_ok hd a1 a2 hQ  hS (by kernel_rfl)
            · replace hS := cond_f hc hS
              refine zlRun (n := 6) (j := 39) rfl (by kernel_rfl) ?_
              refine zlEnd (by kernel_rfl) ?_
              refine zkSeq ?_
              refine zrCondF (by kernel_rfl) ?_
              refine zrSkip ?_
              refine zkSeq ?_
              exact f19_j0_ok hd a1 a2 hQ  hS (by kernel_rfl)
/- farwriter/farkeep.pressLives -/
def f20_fin (p3 : Bool) : St := ⟨(up (fun _ => .un) 0 (.d (.bool p3))), (hB fun _ => 0)⟩
theorem f20_out (p3 : Bool) : outR (f20_fin p3) 0 c20.res = some ((.d (.bool p3)), []) := by
  kernel_rfl
def f20_Q (r : Bool) (e : PX) (st : St) : Prop := DoneF c20 0 ((.d (.bool r)), []) e st
noncomputable def f20  : Option (Bool) := ((f19 (GKey.mk 1 0 4) 0).bind fun z2 => (bif (decide (z2.2 = 0)) then (bif (decide (z2.1 = ([27, 91, 49, 59, 53, 65] : List UInt8))) then (some true) else (some false)) else (some false)))
theorem f20_ok (d : Nat) (hd : 7 ≤ d)  (r : Bool) (hS : f20 = some r) : lev codes baseL d 20 [] [] = some ((.d (.bool r)), []) := by
  refine lev_go codes20 rfl rfl (Nat.le_trans (Nat.le_of_ble_eq_true rfl) hd) fun Q hQ => ?_
  unfold f20 at hS
  show ZR _ Q c20_b [] _
  replace hQ : ∀ e st', f20_Q r e st' → Q e st' := hQ
  refine zrSeq ?_
  refine zrReg ?_
  refine zlRun (n := 1) (j := 1) rfl (by kernel_rfl) ?_
  refine zlEnd (by kernel_rfl) ?_
  refine zkSeq ?_
  refine zrSeq ?_
  refine zrReg ?_
  refine zlRun (n := 1) (j := 1) rfl (by kernel_rfl) ?_
  refine bindE hS (fun z2 hz2 hS => ?_)
  refine zlOp (d := some 5) (op := (.call 19 [(.tmp 4), (.const (.int .i64 0))])) (g := none) (v := (.tup [(.d (.str z2.1)), (.d (.int .i64 z2.2))])) (ups := []) (j := 2) rfl (by kernel_rfl) (by kernel_rfl) (ev_call (args := [(.agg ((.d (.int .i64 1)) :: ((.d (.int .i64 0)) :: ((.d (.int .i64 4)) :: [])))), (.d (.int .i64 0))]) (l := [(.agg ((.d (.int .i64 1)) :: ((.d (.int .i64 0)) :: ((.d (.int .i64 4)) :: [])))), (.d (.int .i64 0))]) (r := (.tup [(.d (.str z2.1)), (.d (.int .i64 z2.2))])) (by kernel_rfl) (by kernel_rfl) (f19_ok (d - 1) (dpt hd rfl) (GKey.mk 1 0 4) 0 z2 hz2) (by kernel_rfl) (by kernel_rfl) (by kernel_rfl)) ?_
  refine zlRun (n := 5) (j := 7) rfl (by kernel_rfl) ?_
  refine zlEnd (by kernel_rfl) ?_
  refine zkSeq ?_
  refine zrSeq ?_
  refine zrReg ?_
  refine zlRun (n := 1) (j := 1) rfl (by kernel_rfl) ?_
  refine zlBool (d := 9) (op := (.cmpI .eql (.tmp 8) (.const (.int .i64 0)))) (g := none) (j := 2) (decide (z2.2 = 0)) rfl (by kernel_rfl) (by kernel_rfl) (by kernel_rfl) (fun hc => ?_) (fun hc => ?_)
  · replace hS := cond_t hc hS
    refine zlRun (n := 2) (j := 4) rfl (by kernel_rfl) ?_
    refine zlBool (d := 12) (op := (.strO .eql (.tmp 11) (.const (.string ⟨#[27, 91, 49, 59, 53, 65]⟩)))) (g := (some (10, true))) (j := 5) (decide (z2.1 = ([27, 91, 49, 59, 53, 65] : List UInt8))) rfl (by kernel_rfl) (by kernel_rfl) (by kernel_rfl) (fun hc => ?_) (fun hc => ?_)
    · replace hS := cond_t hc hS
      refine zlRun (n := 2) (j := 7) rfl (by kernel_rfl) ?_
      refine zlEnd (by kernel_rfl) ?_
      refine zkSeq ?_
      refine zrRet ?_
      refine zkNil ?_
      exact endQ hS hQ (fRet ((congrArg (fun s => outR s 0 c20.res) (by kernel_rfl : finSt c20.fin _ = f20_fin true)).trans (f20_out true)))
    · replace hS := cond_f hc hS
      refine zlRun (n := 2) (j := 7) rfl (by kernel_rfl) ?_
      refine zlEnd (by kernel_rfl) ?_
      refine zkSeq ?_
      refine zrRet ?_
      refine zkNil ?_
      exact endQ hS hQ (fRet ((congrArg (fun s => outR s 0 c20.res) (by kernel_rfl : finSt c20.fin _ = f20_fin false)).trans (f20_out false)))
  · replace hS := cond_f hc hS
    refine zlRun (n := 5) (j := 7) rfl (by kernel_rfl) ?_
    refine zlEnd (by kernel_rfl) ?_
    refine zkSeq ?_
    refine zrRet ?_
    refine zkNil ?_
    exact endQ hS hQ (fRet ((congrArg (fun s => outR s 0 c20.res) (by kernel_rfl : finSt c20.fin _ = f20_fin false)).trans (f20_out false)))
end Go.Proofs.YtakmihemhmdpkaaDoor.Pm
