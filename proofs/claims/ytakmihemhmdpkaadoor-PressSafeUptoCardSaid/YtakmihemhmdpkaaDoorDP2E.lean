/- Typed functions, and that the codes are these. Printed by dec.py. -/
import Derived.Test.YtakmihemhmdpkaaDoorDP2D
namespace Go.Proofs.YtakmihemhmdpkaaDoor.Pm
set_option maxRecDepth 1000000
set_option maxHeartbeats 20000000
set_option linter.unusedVariables false
/- farwriter/utf.need -/
def f70_fin (p11 : Int) (p12 : UInt8) (p13 : UInt8) : St := ⟨(up (up (up (fun _ => .un) 4 (.d (.int .u8 (p13.toNat : Int)))) 3 (.d (.int .u8 (p12.toNat : Int)))) 2 (.d (.int .i64 p11))), (hB fun _ => 0)⟩
theorem f70_out (p11 : Int) (p12 : UInt8) (p13 : UInt8) : outR (f70_fin p11 p12 p13) 0 c70.res = some ((.tup [(.d (.int .i64 p11)), (.d (.int .u8 (p12.toNat : Int))), (.d (.int .u8 (p13.toNat : Int)))]), []) := by
  kernel_rfl
def f70_Q (r : Int × UInt8 × UInt8) (e : PX) (st : St) : Prop := DoneF c70 0 ((.tup [(.d (.int .i64 r.1)), (.d (.int .u8 (r.2.1.toNat : Int))), (.d (.int .u8 (r.2.2.toNat : Int)))]), []) e st
def f70_j1_J (a1 : UInt8) : St := ⟨(up (fun _ => .un) 0 (.d (.int .u8 (a1.toNat : Int)))), (hB fun _ => 0)⟩
noncomputable def f70_j1 (a1 : UInt8) : Option (Int × UInt8 × UInt8) := (bif (decide ((a1.toNat : Int) = 240)) then (some (3, (144 : UInt8), (191 : UInt8))) else (bif (decide ((a1.toNat : Int) = 244)) then (some (3, (128 : UInt8), (143 : UInt8))) else (bif (decide (241 ≤ (a1.toNat : Int))) then (bif (decide ((a1.toNat : Int) ≤ 243)) then (some (3, (128 : UInt8), (191 : UInt8))) else (some (0, (0 : UInt8), (0 : UInt8)))) else (some (0, (0 : UInt8), (0 : UInt8))))))
theorem f70_j1_ok {d : Nat} (hd : 1 ≤ d) (a1 : UInt8) {r : Int × UInt8 × UInt8} {Q : PX → St → Prop} (hQ : ∀ e st', f70_Q r e st' → Q e st')  (hS : f70_j1 a1 = some r) {st : St} (he : keepSt [0] [] [] st = f70_j1_J a1) : ZR (lev codes baseL (d - 1)) Q c70_1 [.blk 0, .seq c70_2] st := by
  refine zrKeep he ?_
  unfold f70_j1 at hS
  refine zrSeq ?_
  refine zrReg ?_
  refine zlRun (n := 1) (j := 1) rfl (by kernel_rfl) ?_
  refine zlBool (d := 27) (op := (.cmpI .eql (.tmp 26) (.const (.int .u8 240)))) (g := none) (j := 2) (decide ((a1.toNat : Int) = 240)) rfl (by kernel_rfl) (by kernel_rfl) (by kernel_rfl) (fun hc => ?_) (fun hc => ?_)
  · replace hS := cond_t hc hS
    refine zlRun (n := 1) (j := 3) rfl (by kernel_rfl) ?_
    refine zlEnd (by kernel_rfl) ?_
    refine zkSeq ?_
    refine zrCondT (by kernel_rfl) ?_
    refine zrSeq ?_
    refine zrReg ?_
    refine zlRun (n := 3) (j := 3) rfl (by kernel_rfl) ?_
    refine zlEnd (by kernel_rfl) ?_
    refine zkSeq ?_
    refine zrRet ?_
    refine zkBlkR ?_
    refine zkSeqR ?_
    refine zkNil ?_
    exact endQ hS hQ (fRet ((congrArg (fun s => outR s 0 c70.res) (by kernel_rfl : finSt c70.fin _ = f70_fin 3 (144 : UInt8) (191 : UInt8))).trans (f70_out 3 (144 : UInt8) (191 : UInt8))))
  · replace hS := cond_f hc hS
    refine zlRun (n := 1) (j := 3) rfl (by kernel_rfl) ?_
    refine zlEnd (by kernel_rfl) ?_
    refine zkSeq ?_
    refine zrCondF (by kernel_rfl) ?_
    refine zrSeq ?_
    refine zrReg ?_
    refine zlRun (n := 1) (j := 1) rfl (by kernel_rfl) ?_
    refine zlBool (d := 30) (op := (.cmpI .eql (.tmp 29) (.const (.int .u8 244)))) (g := none) (j := 2) (decide ((a1.toNat : Int) = 244)) rfl (by kernel_rfl) (by kernel_rfl) (by kernel_rfl) (fun hc => ?_) (fun hc => ?_)
    · replace hS := cond_t hc hS
      refine zlRun (n := 1) (j := 3) rfl (by kernel_rfl) ?_
      refine zlEnd (by kernel_rfl) ?_
      refine zkSeq ?_
      refine zrCondT (by kernel_rfl) ?_
      refine zrSeq ?_
      refine zrReg ?_
      refine zlRun (n := 3) (j := 3) rfl (by kernel_rfl) ?_
      refine zlEnd (by kernel_rfl) ?_
      refine zkSeq ?_
      refine zrRet ?_
      refine zkBlkR ?_
      refine zkSeqR ?_
      refine zkNil ?_
      exact endQ hS hQ (fRet ((congrArg (fun s => outR s 0 c70.res) (by kernel_rfl : finSt c70.fin _ = f70_fin 3 (128 : UInt8) (143 : UInt8))).trans (f70_out 3 (128 : UInt8) (143 : UInt8))))
    · replace hS := cond_f hc hS
      refine zlRun (n := 1) (j := 3) rfl (by kernel_rfl) ?_
      refine zlEnd (by kernel_rfl) ?_
      refine zkSeq ?_
      refine zrCondF (by kernel_rfl) ?_
      refine zrSeq ?_
      refine zrReg ?_
      refine zlRun (n := 1) (j := 1) rfl (by kernel_rfl) ?_
      refine zlBool (d := 33) (op := (.cmpI .geq (.tmp 32) (.const (.int .u8 241)))) (g := none) (j := 2) (decide (241 ≤ (a1.toNat : Int))) rfl (by kernel_rfl) (by kernel_rfl) (by kernel_rfl) (fun hc => ?_) (fun hc => ?_)
      · replace hS := cond_t hc hS
        refine zlRun (n := 2) (j := 4) rfl (by kernel_rfl) ?_
        refine zlBool (d := 36) (op := (.cmpI .leq (.tmp 35) (.const (.int .u8 243)))) (g := (some (34, true))) (j := 5) (decide ((a1.toNat : Int) ≤ 243)) rfl (by kernel_rfl) (by kernel_rfl) (by kernel_rfl) (fun hc => ?_) (fun hc => ?_)
        · replace hS := cond_t hc hS
          refine zlRun (n := 2) (j := 7) rfl (by kernel_rfl) ?_
          refine zlEnd (by kernel_rfl) ?_
          refine zkSeq ?_
          refine zrCondT (by kernel_rfl) ?_
          refine zrSeq ?_
          refine zrReg ?_
          refine zlRun (n := 3) (j := 3) rfl (by kernel_rfl) ?_
          refine zlEnd (by kernel_rfl) ?_
          refine zkSeq ?_
          refine zrRet ?_
          refine zkBlkR ?_
          refine zkSeqR ?_
          refine zkNil ?_
          exact endQ hS hQ (fRet ((congrArg (fun s => outR s 0 c70.res) (by kernel_rfl : finSt c70.fin _ = f70_fin 3 (128 : UInt8) (191 : UInt8))).trans (f70_out 3 (128 : UInt8) (191 : UInt8))))
        · replace hS := cond_f hc hS
          refine zlRun (n := 2) (j := 7) rfl (by kernel_rfl) ?_
          refine zlEnd (by kernel_rfl) ?_
          refine zkSeq ?_
          refine zrCondF (by kernel_rfl) ?_
          refine zrSkip ?_
          refine zkBlk ?_
          refine zkSeq ?_
          refine zrSeq ?_
          refine zrReg ?_
          refine zlRun (n := 3) (j := 3) rfl (by kernel_rfl) ?_
          refine zlEnd (by kernel_rfl) ?_
          refine zkSeq ?_
          refine zrRet ?_
          refine zkNil ?_
          exact endQ hS hQ (fRet ((congrArg (fun s => outR s 0 c70.res) (by kernel_rfl : finSt c70.fin _ = f70_fin 0 (0 : UInt8) (0 : UInt8))).trans (f70_out 0 (0 : UInt8) (0 : UInt8))))
      · replace hS := cond_f hc hS
        refine zlRun (n := 5) (j := 7) rfl (by kernel_rfl) ?_
        refine zlEnd (by kernel_rfl) ?_
        refine zkSeq ?_
        refine zrCondF (by kernel_rfl) ?_
        refine zrSkip ?_
        refine zkBlk ?_
        refine zkSeq ?_
        refine zrSeq ?_
        refine zrReg ?_
        refine zlRun (n := 3) (j := 3) rfl (by kernel_rfl) ?_
        refine zlEnd (by kernel_rfl) ?_
        refine zkSeq ?_
        refine zrRet ?_
        refine zkNil ?_
        exact endQ hS hQ (fRet ((congrArg (fun s => outR s 0 c70.res) (by kernel_rfl : finSt c70.fin _ = f70_fin 0 (0 : UInt8) (0 : UInt8))).trans (f70_out 0 (0 : UInt8) (0 : UInt8))))
def f70_j0_J (a1 : UInt8) : St := ⟨(up (fun _ => .un) 0 (.d (.int .u8 (a1.toNat : Int)))), (hB fun _ => 0)⟩
noncomputable def f70_j0 (a1 : UInt8) : Option (Int × UInt8 × UInt8) := (bif (decide ((a1.toNat : Int) = 224)) then (some (2, (160 : UInt8), (191 : UInt8))) else (bif (decide ((a1.toNat : Int) = 237)) then (some (2, (128 : UInt8), (159 : UInt8))) else (bif (decide (225 ≤ (a1.toNat : Int))) then (bif (decide ((a1.toNat : Int) ≤ 239)) then (some (2, (128 : UInt8), (191 : UInt8))) else (f70_j1 a1 )) else (f70_j1 a1 ))))
theorem f70_j0_ok {d : Nat} (hd : 1 ≤ d) (a1 : UInt8) {r : Int × UInt8 × UInt8} {Q : PX → St → Prop} (hQ : ∀ e st', f70_Q r e st' → Q e st')  (hS : f70_j0 a1 = some r) {st : St} (he : keepSt [0] [] [] st = f70_j0_J a1) : ZR (lev codes baseL (d - 1)) Q c70_3 [.blk 0, .seq c70_2] st := by
  refine zrKeep he ?_
  unfold f70_j0 at hS
  refine zrSeq ?_
  refine zrReg ?_
  refine zlRun (n := 1) (j := 1) rfl (by kernel_rfl) ?_
  refine zlBool (d := 14) (op := (.cmpI .eql (.tmp 13) (.const (.int .u8 224)))) (g := none) (j := 2) (decide ((a1.toNat : Int) = 224)) rfl (by kernel_rfl) (by kernel_rfl) (by kernel_rfl) (fun hc => ?_) (fun hc => ?_)
  · replace hS := cond_t hc hS
    refine zlRun (n := 1) (j := 3) rfl (by kernel_rfl) ?_
    refine zlEnd (by kernel_rfl) ?_
    refine zkSeq ?_
    refine zrCondT (by kernel_rfl) ?_
    refine zrSeq ?_
    refine zrReg ?_
    refine zlRun (n := 3) (j := 3) rfl (by kernel_rfl) ?_
    refine zlEnd (by kernel_rfl) ?_
    refine zkSeq ?_
    refine zrRet ?_
    refine zkBlkR ?_
    refine zkSeqR ?_
    refine zkNil ?_
    exact endQ hS hQ (fRet ((congrArg (fun s => outR s 0 c70.res) (by kernel_rfl : finSt c70.fin _ = f70_fin 2 (160 : UInt8) (191 : UInt8))).trans (f70_out 2 (160 : UInt8) (191 : UInt8))))
  · replace hS := cond_f hc hS
    refine zlRun (n := 1) (j := 3) rfl (by kernel_rfl) ?_
    refine zlEnd (by kernel_rfl) ?_
    refine zkSeq ?_
    refine zrCondF (by kernel_rfl) ?_
    refine zrSeq ?_
    refine zrReg ?_
    refine zlRun (n := 1) (j := 1) rfl (by kernel_rfl) ?_
    refine zlBool (d := 17) (op := (.cmpI .eql (.tmp 16) (.const (.int .u8 237)))) (g := none) (j := 2) (decide ((a1.toNat : Int) = 237)) rfl (by kernel_rfl) (by kernel_rfl) (by kernel_rfl) (fun hc => ?_) (fun hc => ?_)
    · replace hS := cond_t hc hS
      refine zlRun (n := 1) (j := 3) rfl (by kernel_rfl) ?_
      refine zlEnd (by kernel_rfl) ?_
      refine zkSeq ?_
      refine zrCondT (by kernel_rfl) ?_
      refine zrSeq ?_
      refine zrReg ?_
      refine zlRun (n := 3) (j := 3) rfl (by kernel_rfl) ?_
      refine zlEnd (by kernel_rfl) ?_
      refine zkSeq ?_
      refine zrRet ?_
      refine zkBlkR ?_
      refine zkSeqR ?_
      refine zkNil ?_
      exact endQ hS hQ (fRet ((congrArg (fun s => outR s 0 c70.res) (by kernel_rfl : finSt c70.fin _ = f70_fin 2 (128 : UInt8) (159 : UInt8))).trans (f70_out 2 (128 : UInt8) (159 : UInt8))))
    · replace hS := cond_f hc hS
      refine zlRun (n := 1) (j := 3) rfl (by kernel_rfl) ?_
      refine zlEnd (by kernel_rfl) ?_
      refine zkSeq ?_
      refine zrCondF (by kernel_rfl) ?_
      refine zrSeq ?_
      refine zrReg ?_
      refine zlRun (n := 1) (j := 1) rfl (by kernel_rfl) ?_
      refine zlBool (d := 20) (op := (.cmpI .geq (.tmp 19) (.const (.int .u8 225)))) (g := none) (j := 2) (decide (225 ≤ (a1.toNat : Int))) rfl (by kernel_rfl) (by kernel_rfl) (by kernel_rfl) (fun hc => ?_) (fun hc => ?_)
      · replace hS := cond_t hc hS
        refine zlRun (n := 2) (j := 4) rfl (by kernel_rfl) ?_
        refine zlBool (d := 23) (op := (.cmpI .leq (.tmp 22) (.const (.int .u8 239)))) (g := (some (21, true))) (j := 5) (decide ((a1.toNat : Int) ≤ 239)) rfl (by kernel_rfl) (by kernel_rfl) (by kernel_rfl) (fun hc => ?_) (fun hc => ?_)
        · replace hS := cond_t hc hS
          refine zlRun (n := 2) (j := 7) rfl (by kernel_rfl) ?_
          refine zlEnd (by kernel_rfl) ?_
          refine zkSeq ?_
          refine zrCondT (by kernel_rfl) ?_
          refine zrSeq ?_
          refine zrReg ?_
          refine zlRun (n := 3) (j := 3) rfl (by kernel_rfl) ?_
          refine zlEnd (by kernel_rfl) ?_
          refine zkSeq ?_
          refine zrRet ?_
          refine zkBlkR ?_
          refine zkSeqR ?_
          refine zkNil ?_
          exact endQ hS hQ (fRet ((congrArg (fun s => outR s 0 c70.res) (by kernel_rfl : finSt c70.fin _ = f70_fin 2 (128 : UInt8) (191 : UInt8))).trans (f70_out 2 (128 : UInt8) (191 : UInt8))))
        · replace hS := cond_f hc hS
          refine zlRun (n := 2) (j := 7) rfl (by kernel_rfl) ?_
          refine zlEnd (by kernel_rfl) ?_
          refine zkSeq ?_
          refine zrCondF (by kernel_rfl) ?_
          exact f70_j1_ok hd a1 hQ  hS (by kernel_rfl)
      · replace hS := cond_f hc hS
        refine zlRun (n := 5) (j := 7) rfl (by kernel_rfl) ?_
        refine zlEnd (by kernel_rfl) ?_
        refine zkSeq ?_
        refine zrCondF (by kernel_rfl) ?_
        exact f70_j1_ok hd a1 hQ  hS (by kernel_rfl)
noncomputable def f70 (a1 : UInt8) : Option (Int × UInt8 × UInt8) := (bif (decide (194 ≤ (a1.toNat : Int))) then (bif (decide ((a1.toNat : Int) ≤ 223)) then (some (1, (128 : UInt8), (191 : UInt8))) else (f70_j0 a1 )) else (f70_j0 a1 ))
theorem f70_ok (d : Nat) (hd : 1 ≤ d) (a1 : UInt8) (r : Int × UInt8 × UInt8) (hS : f70 a1 = some r) : lev codes baseL d 70 [(.d (.int .u8 (a1.toNat : Int)))] [] = some ((.tup [(.d (.int .i64 r.1)), (.d (.int .u8 (r.2.1.toNat : Int))), (.d (.int .u8 (r.2.2.toNat : Int)))]), []) := by
  refine lev_go codes70 rfl rfl (Nat.le_trans (Nat.le_of_ble_eq_true rfl) hd) fun Q hQ => ?_
  unfold f70 at hS
  show ZR _ Q c70_b [] _
  replace hQ : ∀ e st', f70_Q r e st' → Q e st' := hQ
  refine zrSeq ?_
  refine zrReg ?_
  refine zlRun (n := 3) (j := 3) rfl (by kernel_rfl) ?_
  refine zlEnd (by kernel_rfl) ?_
  refine zkSeq ?_
  refine zrSeq ?_
  refine zrBlk ?_
  refine zrSeq ?_
  refine zrReg ?_
  refine zlRun (n := 1) (j := 1) rfl (by kernel_rfl) ?_
  refine zlBool (d := 7) (op := (.cmpI .geq (.tmp 6) (.const (.int .u8 194)))) (g := none) (j := 2) (decide (194 ≤ (a1.toNat : Int))) rfl (by kernel_rfl) (by kernel_rfl) (by kernel_rfl) (fun hc => ?_) (fun hc => ?_)
  · replace hS := cond_t hc hS
    refine zlRun (n := 2) (j := 4) rfl (by kernel_rfl) ?_
    refine zlBool (d := 10) (op := (.cmpI .leq (.tmp 9) (.const (.int .u8 223)))) (g := (some (8, true))) (j := 5) (decide ((a1.toNat : Int) ≤ 223)) rfl (by kernel_rfl) (by kernel_rfl) (by kernel_rfl) (fun hc => ?_) (fun hc => ?_)
    · replace hS := cond_t hc hS
      refine zlRun (n := 2) (j := 7) rfl (by kernel_rfl) ?_
      refine zlEnd (by kernel_rfl) ?_
      refine zkSeq ?_
      refine zrCondT (by kernel_rfl) ?_
      refine zrSeq ?_
      refine zrReg ?_
      refine zlRun (n := 3) (j := 3) rfl (by kernel_rfl) ?_
      refine zlEnd (by kernel_rfl) ?_
      refine zkSeq ?_
      refine zrRet ?_
      refine zkBlkR ?_
      refine zkSeqR ?_
      refine zkNil ?_
      exact endQ hS hQ (fRet ((congrArg (fun s => outR s 0 c70.res) (by kernel_rfl : finSt c70.fin _ = f70_fin 1 (128 : UInt8) (191 : UInt8))).trans (f70_out 1 (128 : UInt8) (191 : UInt8))))
    · replace hS := cond_f hc hS
      refine zlRun (n := 2) (j := 7) rfl (by kernel_rfl) ?_
      refine zlEnd (by kernel_rfl) ?_
      refine zkSeq ?_
      refine zrCondF (by kernel_rfl) ?_
      exact f70_j0_ok hd a1 hQ  hS (by kernel_rfl)
  · replace hS := cond_f hc hS
    refine zlRun (n := 5) (j := 7) rfl (by kernel_rfl) ?_
    refine zlEnd (by kernel_rfl) ?_
    refine zkSeq ?_
    refine zrCondF (by kernel_rfl) ?_
    exact f70_j0_ok hd a1 hQ  hS (by kernel_rfl)
/- farwriter/utf.longest -/
def f45_fin (p102 : Int) (p103 : Bool) : St := ⟨(up (up (fun _ => .un) 3 (.d (.bool p103))) 2 (.d (.int .i64 p102))), (hB fun _ => 0)⟩
theorem f45_out (p102 : Int) (p103 : Bool) : outR (f45_fin p102 p103) 0 c45.res = some ((.tup [(.d (.int .i64 p102)), (.d (.bool p103))]), []) := by
  kernel_rfl
def f45_Q (r : Int × Bool) (e : PX) (st : St) : Prop := DoneF c45 0 ((.tup [(.d (.int .i64 r.1)), (.d (.bool r.2))]), []) e st
def f45_l1_J (a1 : List UInt8) (x : Int × UInt8 × UInt8 × Int) : St := ⟨(up (up (up (up (up (fun _ => .un) 7 (.d (.int .i64 x.2.2.2))) 6 (.d (.int .u8 (x.2.2.1.toNat : Int)))) 5 (.d (.int .u8 (x.2.1.toNat : Int)))) 4 (.d (.int .i64 x.1))) 0 (.d (.str a1))), (hB fun _ => 0)⟩
def f45_l1_H (a1 : List UInt8) (x : Int × UInt8 × UInt8 × Int) (st : St) : Prop := keepSt [0, 4, 5, 6, 7] [] [] st = f45_l1_J a1 x
def f45_l1_e0_J (a1 : List UInt8) (p204 : Int) (p205 : Int) : St := ⟨(up (up (fun _ => .un) 7 (.d (.int .i64 p205))) 4 (.d (.int .i64 p204))), (hB fun _ => 0)⟩
def f45_l1_X (a1 : List UInt8) (z : (Int × Int)) (e : PX) (st : St) : Prop := e = .exit 0 ∧ st = f45_l1_e0_J a1 z.1 z.2
noncomputable def f45_l1 (a1 : List UInt8) (x : Int × UInt8 × UInt8 × Int) : Option ((Int × UInt8 × UInt8 × Int) ⊕ ((Int × Int))) := (bif (decide (x.2.2.2 ≤ x.1)) then (bif (decide (x.2.2.2 < (a1.length : Int))) then ((idx a1 x.2.2.2).bind fun z21 => (bif (decide ((x.2.1.toNat : Int) ≤ (z21.toNat : Int))) then ((idx a1 x.2.2.2).bind fun z22 => (bif (decide ((z22.toNat : Int) ≤ (x.2.2.1.toNat : Int))) then (some (.inl (x.1, (128 : UInt8), (191 : UInt8), (IntKind.i64.wrap (x.2.2.2 + 1))))) else (some (.inr (x.1, x.2.2.2))))) else (some (.inr (x.1, x.2.2.2))))) else (some (.inr (x.1, x.2.2.2)))) else (some (.inr (x.1, x.2.2.2))))
theorem f45_l1_ok {d : Nat} (hd : 2 ≤ d) (a1 : List UInt8) {r : (Int × UInt8 × UInt8 × Int) ⊕ ((Int × Int))} {Q : PX → St → Prop} (hQ : ∀ e st', finL (f45_l1_H a1) (f45_l1_X a1) r e st' → Q e st') {x : Int × UInt8 × UInt8 × Int} (hS : f45_l1 a1 x = some r) {st : St} (he : f45_l1_H a1 x st) : ZR (lev codes baseL (d - 1)) Q c45_1 [] st := by
  refine zrKeep he ?_
  unfold f45_l1 at hS
  refine zrSeq ?_
  refine zrSeq ?_
  refine zrReg ?_
  refine zlRun (n := 2) (j := 2) rfl (by kernel_rfl) ?_
  refine zlBool (d := 19) (op := (.cmpI .leq (.tmp 17) (.tmp 18))) (g := none) (j := 3) (decide (x.2.2.2 ≤ x.1)) rfl (by kernel_rfl) (by kernel_rfl) (by kernel_rfl) (fun hc => ?_) (fun hc => ?_)
  · replace hS := cond_t hc hS
    refine zlRun (n := 4) (j := 7) rfl (by kernel_rfl) ?_
    refine zlBool (d := 24) (op := (.cmpI .lss (.tmp 21) (.tmp 23))) (g := (some (20, true))) (j := 8) (decide (x.2.2.2 < (a1.length : Int))) rfl (by kernel_rfl) (by kernel_rfl) (by kernel_rfl) (fun hc => ?_) (fun hc => ?_)
    · replace hS := cond_t hc hS
      refine zlRun (n := 4) (j := 12) rfl (by kernel_rfl) ?_
      refine bindE hS (fun z21 hz21 hS => ?_)
      refine zlOp (d := some 29) (op := (.ixStr (.tmp 27) (.tmp 28))) (g := (some (26, true))) (v := (.d (.int .u8 (z21.toNat : Int)))) (ups := []) (j := 13) rfl (by kernel_rfl) (by kernel_rfl) (ev_ixStr (kk := .i64) (s := a1) (j := x.2.2.2) (by kernel_rfl) (by kernel_rfl) hz21) ?_
      refine zlRun (n := 1) (j := 14) rfl (by kernel_rfl) ?_
      refine zlBool (d := 31) (op := (.cmpI .geq (.tmp 29) (.tmp 30))) (g := (some (26, true))) (j := 15) (decide ((x.2.1.toNat : Int) ≤ (z21.toNat : Int))) rfl (by kernel_rfl) (by kernel_rfl) (by kernel_rfl) (fun hc => ?_) (fun hc => ?_)
      · replace hS := cond_t hc hS
        refine zlRun (n := 4) (j := 19) rfl (by kernel_rfl) ?_
        refine bindE hS (fun z22 hz22 hS => ?_)
        refine zlOp (d := some 36) (op := (.ixStr (.tmp 34) (.tmp 35))) (g := (some (33, true))) (v := (.d (.int .u8 (z22.toNat : Int)))) (ups := []) (j := 20) rfl (by kernel_rfl) (by kernel_rfl) (ev_ixStr (kk := .i64) (s := a1) (j := x.2.2.2) (by kernel_rfl) (by kernel_rfl) hz22) ?_
        refine zlRun (n := 1) (j := 21) rfl (by kernel_rfl) ?_
        refine zlBool (d := 38) (op := (.cmpI .leq (.tmp 36) (.tmp 37))) (g := (some (33, true))) (j := 22) (decide ((z22.toNat : Int) ≤ (x.2.2.1.toNat : Int))) rfl (by kernel_rfl) (by kernel_rfl) (by kernel_rfl) (fun hc => ?_) (fun hc => ?_)
        · replace hS := cond_t hc hS
          refine zlRun (n := 1) (j := 23) rfl (by kernel_rfl) ?_
          refine zlEnd (by kernel_rfl) ?_
          refine zkSeq ?_
          refine zrCondT (by kernel_rfl) ?_
          refine zrSkip ?_
          refine zkSeq ?_
          refine zrBlk ?_
          refine zrSeq ?_
          refine zrReg ?_
          refine zlRun (n := 2) (j := 2) rfl (by kernel_rfl) ?_
          refine zlEnd (by kernel_rfl) ?_
          refine zkSeq ?_
          refine zrReg ?_
          refine zlRun (n := 3) (j := 3) rfl (by kernel_rfl) ?_
          refine zlEnd (by kernel_rfl) ?_
          refine zkBlk ?_
          refine zkNil ?_
          exact endQ hS hQ (finL_n (by show keepSt _ _ _ _ = _; kernel_rfl))
        · replace hS := cond_f hc hS
          refine zlRun (n := 1) (j := 23) rfl (by kernel_rfl) ?_
          refine zlEnd (by kernel_rfl) ?_
          refine zkSeq ?_
          refine zrCondF (by kernel_rfl) ?_
          refine zrKeep (J := f45_l1_e0_J a1 x.1 x.2.2.2) (by kernel_rfl) ?_
          refine zrExit ?_
          refine zkSeqX ?_
          refine zkNil ?_
          exact endQ hS hQ (finL_x (by intro h; cases h) (by show _ = _ ∧ _ = _; exact ⟨rfl, rfl⟩))
      · replace hS := cond_f hc hS
        refine zlRun (n := 8) (j := 23) rfl (by kernel_rfl) ?_
        refine zlEnd (by kernel_rfl) ?_
        refine zkSeq ?_
        refine zrCondF (by kernel_rfl) ?_
        refine zrKeep (J := f45_l1_e0_J a1 x.1 x.2.2.2) (by kernel_rfl) ?_
        refine zrExit ?_
        refine zkSeqX ?_
        refine zkNil ?_
        exact endQ hS hQ (finL_x (by intro h; cases h) (by show _ = _ ∧ _ = _; exact ⟨rfl, rfl⟩))
    · replace hS := cond_f hc hS
      refine zlRun (n := 15) (j := 23) rfl (by kernel_rfl) ?_
      refine zlEnd (by kernel_rfl) ?_
      refine zkSeq ?_
      refine zrCondF (by kernel_rfl) ?_
      refine zrKeep (J := f45_l1_e0_J a1 x.1 x.2.2.2) (by kernel_rfl) ?_
      refine zrExit ?_
      refine zkSeqX ?_
      refine zkNil ?_
      exact endQ hS hQ (finL_x (by intro h; cases h) (by show _ = _ ∧ _ = _; exact ⟨rfl, rfl⟩))
  · replace hS := cond_f hc hS
    refine zlRun (n := 20) (j := 23) rfl (by kernel_rfl) ?_
    refine zlEnd (by kernel_rfl) ?_
    refine zkSeq ?_
    refine zrCondF (by kernel_rfl) ?_
    refine zrKeep (J := f45_l1_e0_J a1 x.1 x.2.2.2) (by kernel_rfl) ?_
    refine zrExit ?_
    refine zkSeqX ?_
    refine zkNil ?_
    exact endQ hS hQ (finL_x (by intro h; cases h) (by show _ = _ ∧ _ = _; exact ⟨rfl, rfl⟩))
def f45_j0_J (a1 : List UInt8) (p108 : Int) (p109 : UInt8) (p110 : UInt8) : St := ⟨(up (up (up (up (fun _ => .un) 6 (.d (.int .u8 (p110.toNat : Int)))) 5 (.d (.int .u8 (p109.toNat : Int)))) 4 (.d (.int .i64 p108))) 0 (.d (.str a1))), (hB fun _ => 0)⟩
noncomputable def f45_j0 (a1 : List UInt8) (p108 : Int) (p109 : UInt8) (p110 : UInt8) : Option (Int × Bool) := ((loopO (f45_l1 a1) (p108, p109, p110, 1)).bind fun z23 => (bif (decide (z23.1 < z23.2)) then (some (z23.2, true)) else (some (z23.2, false))))
theorem f45_j0_ok {d : Nat} (hd : 2 ≤ d) (a1 : List UInt8) {r : Int × Bool} {Q : PX → St → Prop} (hQ : ∀ e st', f45_Q r e st' → Q e st') (p108 : Int) (p109 : UInt8) (p110 : UInt8) (hS : f45_j0 a1 p108 p109 p110 = some r) {st : St} (he : keepSt [0, 4, 5, 6] [] [] st = f45_j0_J a1 p108 p109 p110) : ZR (lev codes baseL (d - 1)) Q c45_2 [] st := by
  refine zrKeep he ?_
  unfold f45_j0 at hS
  refine zrSeq ?_
  refine zrReg ?_
  refine zlRun (n := 1) (j := 1) rfl (by kernel_rfl) ?_
  refine zlEnd (by kernel_rfl) ?_
  refine zkSeq ?_
  refine zrSeq ?_
  refine zrBlk ?_
  refine bindE hS (fun z23 hz23 hS => ?_)
  refine zrLoop (f45_l1_H a1) (f45_l1_X a1) (fun x st r Q h0 hS hQ => f45_l1_ok hd a1 hQ hS h0) (x := (p108, p109, p110, 1)) (z := z23) (by show keepSt _ _ _ _ = _; kernel_rfl) hz23 ?_
  intro e st' _ hX
  obtain ⟨rfl, rfl⟩ : _ ∧ _ := hX
  refine zkBlkX ?_
  refine zkSeq ?_
  refine zrSeq ?_
  refine zrReg ?_
  refine zlRun (n := 3) (j := 3) rfl (by kernel_rfl) ?_
  refine zlBool (d := 45) (op := (.cmpI .gtr (.tmp 43) (.tmp 44))) (g := none) (j := 4) (decide (z23.1 < z23.2)) rfl (by kernel_rfl) (by kernel_rfl) (by kernel_rfl) (fun hc => ?_) (fun hc => ?_)
  · replace hS := cond_t hc hS
    refine zlRun (n := 2) (j := 6) rfl (by kernel_rfl) ?_
    refine zlEnd (by kernel_rfl) ?_
    refine zkSeq ?_
    refine zrRet ?_
    refine zkNil ?_
    exact endQ hS hQ (fRet ((congrArg (fun s => outR s 0 c45.res) (by kernel_rfl : finSt c45.fin _ = f45_fin z23.2 true)).trans (f45_out z23.2 true)))
  · replace hS := cond_f hc hS
    refine zlRun (n := 2) (j := 6) rfl (by kernel_rfl) ?_
    refine zlEnd (by kernel_rfl) ?_
    refine zkSeq ?_
    refine zrRet ?_
    refine zkNil ?_
    exact endQ hS hQ (fRet ((congrArg (fun s => outR s 0 c45.res) (by kernel_rfl : finSt c45.fin _ = f45_fin z23.2 false)).trans (f45_out z23.2 false)))
noncomputable def f45 (a1 : List UInt8) : Option (Int × Bool) := ((idx a1 0).bind fun z11 => ((f70 z11).bind fun z12 => (bif (decide (z12.1 = 0)) then (some (0, false)) else (f45_j0 a1 z12.1 z12.2.1 z12.2.2))))
theorem f45_ok (d : Nat) (hd : 2 ≤ d) (a1 : List UInt8) (r : Int × Bool) (hS : f45 a1 = some r) : lev codes baseL d 45 [(.d (.str a1))] [] = some ((.tup [(.d (.int .i64 r.1)), (.d (.bool r.2))]), []) := by
  refine lev_go codes45 rfl rfl (Nat.le_trans (Nat.le_of_ble_eq_true rfl) hd) fun Q hQ => ?_
  unfold f45 at hS
  show ZR _ Q c45_b [] _
  replace hQ : ∀ e st', f45_Q r e st' → Q e st' := hQ
  refine zrSeq ?_
  refine zrReg ?_
  refine zlRun (n := 2) (j := 2) rfl (by kernel_rfl) ?_
  refine zlEnd (by kernel_rfl) ?_
  refine zkSeq ?_
  refine zrSeq ?_
  refine zrReg ?_
  refine zlRun (n := 1) (j := 1) rfl (by kernel_rfl) ?_
  refine bindE hS (fun z11 hz11 hS => ?_)
  refine zlOp (d := some 10) (op := (.ixStr (.tmp 9) (.const (.int .i64 0)))) (g := none) (v := (.d (.int .u8 (z11.toNat : Int)))) (ups := []) (j := 2) rfl (by kernel_rfl) (by kernel_rfl) (ev_ixStr (kk := .i64) (s := a1) (j := 0) (by kernel_rfl) (by kernel_rfl) hz11) ?_
  refine bindE hS (fun z12 hz12 hS => ?_)
  refine zlOp (d := some 11) (op := (.call 70 [(.tmp 10)])) (g := none) (v := (.tup [(.d (.int .i64 z12.1)), (.d (.int .u8 (z12.2.1.toNat : Int))), (.d (.int .u8 (z12.2.2.toNat : Int)))])) (ups := []) (j := 3) rfl (by kernel_rfl) (by kernel_rfl) (ev_call (args := [(.d (.int .u8 (z11.toNat : Int)))]) (l := [(.d (.int .u8 (z11.toNat : Int)))]) (r := (.tup [(.d (.int .i64 z12.1)), (.d (.int .u8 (z12.2.1.toNat : Int))), (.d (.int .u8 (z12.2.2.toNat : Int)))])) (by kernel_rfl) (by kernel_rfl) (f70_ok (d - 1) (dpt hd rfl) z11 z12 hz12) (by kernel_rfl) (by kernel_rfl) (by kernel_rfl)) ?_
  refine zlRun (n := 7) (j := 10) rfl (by kernel_rfl) ?_
  refine zlEnd (by kernel_rfl) ?_
  refine zkSeq ?_
  refine zrSeq ?_
  refine zrSeq ?_
  refine zrReg ?_
  refine zlRun (n := 1) (j := 1) rfl (by kernel_rfl) ?_
  refine zlBool (d := 16) (op := (.cmpI .eql (.tmp 15) (.const (.int .i64 0)))) (g := none) (j := 2) (decide (z12.1 = 0)) rfl (by kernel_rfl) (by kernel_rfl) (by kernel_rfl) (fun hc => ?_) (fun hc => ?_)
  · replace hS := cond_t hc hS
    refine zlEnd (by kernel_rfl) ?_
    refine zkSeq ?_
    refine zrCondT (by kernel_rfl) ?_
    refine zrSeq ?_
    refine zrReg ?_
    refine zlRun (n := 2) (j := 2) rfl (by kernel_rfl) ?_
    refine zlEnd (by kernel_rfl) ?_
    refine zkSeq ?_
    refine zrRet ?_
    refine zkSeqR ?_
    refine zkNil ?_
    exact endQ hS hQ (fRet ((congrArg (fun s => outR s 0 c45.res) (by kernel_rfl : finSt c45.fin _ = f45_fin 0 false)).trans (f45_out 0 false)))
  · replace hS := cond_f hc hS
    refine zlEnd (by kernel_rfl) ?_
    refine zkSeq ?_
    refine zrCondF (by kernel_rfl) ?_
    refine zrSkip ?_
    refine zkSeq ?_
    exact f45_j0_ok hd a1 hQ z12.1 z12.2.1 z12.2.2 hS (by kernel_rfl)
/- farwriter/utf.Check -/
def f44_fin (p3 : Int) : St := ⟨(up (fun _ => .un) 2 (.d (.int .i64 p3))), (hB fun _ => 0)⟩
theorem f44_out (p3 : Int) : outR (f44_fin p3) 0 c44.res = some ((.d (.int .i64 p3)), []) := by
  kernel_rfl
def f44_Q (r : Int) (e : PX) (st : St) : Prop := DoneF c44 0 ((.d (.int .i64 r)), []) e st
def f44_j0_J (a1 : List UInt8) : St := ⟨(up (fun _ => .un) 0 (.d (.str a1))), (hB fun _ => 0)⟩
noncomputable def f44_j0 (a1 : List UInt8) : Option (Int) := ((f45 a1).bind fun z2 => (bif z2.2 then (some 4) else (bif (!decide (z2.1 = (a1.length : Int))) then (some 4) else (some 0))))
theorem f44_j0_ok {d : Nat} (hd : 3 ≤ d) (a1 : List UInt8) {r : Int} {Q : PX → St → Prop} (hQ : ∀ e st', f44_Q r e st' → Q e st')  (hS : f44_j0 a1 = some r) {st : St} (he : keepSt [0] [] [] st = f44_j0_J a1) : ZR (lev codes baseL (d - 1)) Q c44_1 [] st := by
  refine zrKeep he ?_
  unfold f44_j0 at hS
  refine zrSeq ?_
  refine zrSeq ?_
  refine zrReg ?_
  refine zlRun (n := 1) (j := 1) rfl (by kernel_rfl) ?_
  refine bindE hS (fun z2 hz2 hS => ?_)
  refine zlOp (d := some 9) (op := (.call 45 [(.tmp 8)])) (g := none) (v := (.tup [(.d (.int .i64 z2.1)), (.d (.bool z2.2))])) (ups := []) (j := 2) rfl (by kernel_rfl) (by kernel_rfl) (ev_call (args := [(.d (.str a1))]) (l := [(.d (.str a1))]) (r := (.tup [(.d (.int .i64 z2.1)), (.d (.bool z2.2))])) (by kernel_rfl) (by kernel_rfl) (f45_ok (d - 1) (dpt hd rfl) a1 z2 hz2) (by kernel_rfl) (by kernel_rfl) (by kernel_rfl)) ?_
  refine zlRun (n := 5) (j := 7) rfl (by kernel_rfl) ?_
  refine zlEnd (by kernel_rfl) ?_
  refine zkSeq ?_
  refine zrSeq ?_
  refine zrReg ?_
  refine zlRun (n := 2) (j := 2) rfl (by kernel_rfl) ?_
  refine zlSplit 13 z2.2 (by kernel_rfl) (fun hc => ?_) (fun hc => ?_)
  · replace hS := cond_t hc hS
    refine zlRun (n := 5) (j := 7) rfl (by kernel_rfl) ?_
    refine zlEnd (by kernel_rfl) ?_
    refine zkSeq ?_
    refine zrCondT (by kernel_rfl) ?_
    refine zrSeq ?_
    refine zrReg ?_
    refine zlRun (n := 1) (j := 1) rfl (by kernel_rfl) ?_
    refine zlEnd (by kernel_rfl) ?_
    refine zkSeq ?_
    refine zrRet ?_
    refine zkSeqR ?_
    refine zkNil ?_
    exact endQ hS hQ (fRet ((congrArg (fun s => outR s 0 c44.res) (by kernel_rfl : finSt c44.fin _ = f44_fin 4)).trans (f44_out 4)))
  · replace hS := cond_f hc hS
    refine zlRun (n := 3) (j := 5) rfl (by kernel_rfl) ?_
    refine zlBool (d := 17) (op := (.cmpI .neq (.tmp 14) (.tmp 16))) (g := (some (13, false))) (j := 6) (!decide (z2.1 = (a1.length : Int))) rfl (by kernel_rfl) (by kernel_rfl) (by kernel_rfl) (fun hc => ?_) (fun hc => ?_)
    · replace hS := cond_t hc hS
      refine zlRun (n := 1) (j := 7) rfl (by kernel_rfl) ?_
      refine zlEnd (by kernel_rfl) ?_
      refine zkSeq ?_
      refine zrCondT (by kernel_rfl) ?_
      refine zrSeq ?_
      refine zrReg ?_
      refine zlRun (n := 1) (j := 1) rfl (by kernel_rfl) ?_
      refine zlEnd (by kernel_rfl) ?_
      refine zkSeq ?_
      refine zrRet ?_
      refine zkSeqR ?_
      refine zkNil ?_
      exact endQ hS hQ (fRet ((congrArg (fun s => outR s 0 c44.res) (by kernel_rfl : finSt c44.fin _ = f44_fin 4)).trans (f44_out 4)))
    · replace hS := cond_f hc hS
      refine zlRun (n := 1) (j := 7) rfl (by kernel_rfl) ?_
      refine zlEnd (by kernel_rfl) ?_
      refine zkSeq ?_
      refine zrCondF (by kernel_rfl) ?_
      refine zrSkip ?_
      refine zkSeq ?_
      refine zrSeq ?_
      refine zrReg ?_
      refine zlRun (n := 1) (j := 1) rfl (by kernel_rfl) ?_
      refine zlEnd (by kernel_rfl) ?_
      refine zkSeq ?_
      refine zrRet ?_
      refine zkNil ?_
      exact endQ hS hQ (fRet ((congrArg (fun s => outR s 0 c44.res) (by kernel_rfl : finSt c44.fin _ = f44_fin 0)).trans (f44_out 0)))
noncomputable def f44 (a1 : List UInt8) : Option (Int) := (bif (decide (a1 = ([] : List UInt8))) then (some 0) else (f44_j0 a1 ))
theorem f44_ok (d : Nat) (hd : 3 ≤ d) (a1 : List UInt8) (r : Int) (hS : f44 a1 = some r) : lev codes baseL d 44 [(.d (.str a1))] [] = some ((.d (.int .i64 r)), []) := by
  refine lev_go codes44 rfl rfl (Nat.le_trans (Nat.le_of_ble_eq_true rfl) hd) fun Q hQ => ?_
  unfold f44 at hS
  show ZR _ Q c44_b [] _
  replace hQ : ∀ e st', f44_Q r e st' → Q e st' := hQ
  refine zrSeq ?_
  refine zrReg ?_
  refine zlRun (n := 1) (j := 1) rfl (by kernel_rfl) ?_
  refine zlEnd (by kernel_rfl) ?_
  refine zkSeq ?_
  refine zrSeq ?_
  refine zrSeq ?_
  refine zrReg ?_
  refine zlRun (n := 1) (j := 1) rfl (by kernel_rfl) ?_
  refine zlBool (d := 6) (op := (.strO .eql (.tmp 5) (.const (.string ⟨#[]⟩)))) (g := none) (j := 2) (decide (a1 = ([] : List UInt8))) rfl (by kernel_rfl) (by kernel_rfl) (by kernel_rfl) (fun hc => ?_) (fun hc => ?_)
  · replace hS := cond_t hc hS
    refine zlEnd (by kernel_rfl) ?_
    refine zkSeq ?_
    refine zrCondT (by kernel_rfl) ?_
    refine zrSeq ?_
    refine zrReg ?_
    refine zlRun (n := 1) (j := 1) rfl (by kernel_rfl) ?_
    refine zlEnd (by kernel_rfl) ?_
    refine zkSeq ?_
    refine zrRet ?_
    refine zkSeqR ?_
    refine zkNil ?_
    exact endQ hS hQ (fRet ((congrArg (fun s => outR s 0 c44.res) (by kernel_rfl : finSt c44.fin _ = f44_fin 0)).trans (f44_out 0)))
  · replace hS := cond_f hc hS
    refine zlEnd (by kernel_rfl) ?_
    refine zkSeq ?_
    refine zrCondF (by kernel_rfl) ?_
    refine zrSkip ?_
    refine zkSeq ?_
    exact f44_j0_ok hd a1 hQ  hS (by kernel_rfl)
/- unicode/utf8.DecodeRuneInString -/
theorem libDecodeRune_ok (d : Nat) (hd : 0 ≤ d) (a1 : List UInt8) (r : (Int × Int)) (hS : libDecodeRune a1 = some r) : lev codes baseL d 46 [(.d (.str a1))] [] = some ((.tup [.d (.int .i32 r.1), .d (.int .i64 r.2)]), []) := lib_call (l := libs) rfl rfl rfl (osT_ hS) d
/- farwriter/utf.Feed -/
def f21_fin (p77 : List UInt8) (p78 : List Int) (p79 : Int) : St := ⟨(up (up (up (fun _ => .un) 6 (.d (.int .i64 p79))) 5 (.r (.msl 593 0 0 p78.length))) 4 (.d (.str p77))), (up (hB fun _ => 0) 593 ⟨0, some (.own 3 1 ((eInt .i64).cells p78))⟩)⟩
theorem f21_out (p77 : List UInt8) (p78 : List Int) (p79 : Int) : outR (f21_fin p77 p78 p79) 0 c21.res = some ((.tup [(.d (.str p77)), (.r (.own 0 3 1 p78.length ((eInt .i64).cells p78))), (.d (.int .i64 p79))]), []) := by
  exact out_of (ids := []) (ids' := [593]) (l := [(.d (.str p77)), (.r (.msl 593 0 0 p78.length)), (.d (.int .i64 p79))]) (by kernel_rfl) (by kernel_rfl) (o_tup (o_cons rfl (o_cons (o_own (eInt .i64) (e := 3) (k := 1) (xs := p78) (by kernel_rfl) rfl rfl rfl rfl) (o_cons rfl o_nil))))
def f21_Q (r : (List UInt8) × (List Int) × Int) (e : PX) (st : St) : Prop := DoneF c21 0 ((.tup [(.d (.str r.1)), (.r (.own 0 3 1 r.2.1.length ((eInt .i64).cells r.2.1))), (.d (.int .i64 r.2.2))]), []) e st
def f21_l1_J (a1 : List UInt8) (a2 : List UInt8) (x : (List UInt8) × (List Int)) : St := ⟨(up (up (fun _ => .un) 8 (.r (.msl 72 0 0 x.2.length))) 1 (.d (.str x.1))), (up (hB fun _ => 0) 72 ⟨0, some (.own 3 1 ((eInt .i64).cells x.2))⟩)⟩
def f21_l1_H (a1 : List UInt8) (a2 : List UInt8) (x : (List UInt8) × (List Int)) (st : St) : Prop := keepSt [1, 8] [(72, .id 72)] [] st = f21_l1_J a1 a2 x
def f21_l1_e0_J (a1 : List UInt8) (a2 : List UInt8) (p155 : List Int) : St := ⟨(up (fun _ => .un) 8 (.r (.msl 72 0 0 p155.length))), (up (hB fun _ => 0) 72 ⟨0, some (.own 3 1 ((eInt .i64).cells p155))⟩)⟩
def f21_l1_X (a1 : List UInt8) (a2 : List UInt8) (z : ((List Int)) ⊕ ((List UInt8) × (List Int) × Int)) (e : PX) (st : St) : Prop := (match z with | .inl z => e = .exit 0 ∧ st = f21_l1_e0_J a1 a2 z | .inr z => e = .ret ∧ finSt c21.fin st = f21_fin z.1 z.2.1 z.2.2)
def f21_l1_j4_J (a1 : List UInt8) (a2 : List UInt8) (p169 : List UInt8) (p170 : List Int) (p171 : Int) (p172 : Int) (p173 : List UInt8) (p174 : Int) : St := ⟨(up (up (up (up (up (up (up (fun _ => .un) 61 (.d (.bool false))) 60 (.d (.int .i64 p174))) 59 (.d (.str p173))) 58 (.d (.int .i64 p172))) 9 (.d (.int .i64 p171))) 8 (.r (.msl 72 0 0 p170.length))) 1 (.d (.str p169))), (up (hB fun _ => 0) 72 ⟨0, some (.own 3 1 ((eInt .i64).cells p170))⟩)⟩
noncomputable def f21_l1_j4 (a1 : List UInt8) (a2 : List UInt8) (p169 : List UInt8) (p170 : List Int) (p171 : Int) (p172 : Int) (p173 : List UInt8) (p174 : Int) : Option (((List UInt8) × (List Int)) ⊕ (((List Int)) ⊕ ((List UInt8) × (List Int) × Int))) := ((app? 8 p170 ([65533] : List Int)).bind fun z74 => ((sub? p169 (if 1 > p171 then 1 else p171) (p169.length : Int)).bind fun z75 => (some (.inl (z75, z74)))))
theorem f21_l1_j4_ok {d : Nat} (hd : 4 ≤ d) (a1 : List UInt8) (a2 : List UInt8) {r : ((List UInt8) × (List Int)) ⊕ (((List Int)) ⊕ ((List UInt8) × (List Int) × Int))} {Q : PX → St → Prop} (hQ : ∀ e st', finL (f21_l1_H a1 a2) (f21_l1_X a1 a2) r e st' → Q e st') (p169 : List UInt8) (p170 : List Int) (p171 : Int) (p172 : Int) (p173 : List UInt8) (p174 : Int) (hS : f21_l1_j4 a1 a2 p169 p170 p171 p172 p173 p174 = some r) {st : St} (he : keepSt [1, 8, 9, 58, 59, 60, 61] [(72, .id 72)] [] st = f21_l1_j4_J a1 a2 p169 p170 p171 p172 p173 p174) : ZR (lev codes baseL (d - 1)) Q c21_1 [.blk 2, .seq c21_2, .blk 1] st := by
  refine zrKeep he ?_
  unfold f21_l1_j4 at hS
  refine zrReg ?_
  refine zlRun (n := 2) (j := 2) rfl (by kernel_rfl) ?_
  refine bindE hS (fun z74 hz74 hS => ?_)
  refine zlOp (d := some 41) (op := (.app 3 1 8 (.tmp 39) (.tmp 40))) (g := none) (v := (.r (.msl 72 1 0 z74.length))) (ups := [(72, ⟨1, some (.own 3 1 ((eInt .i64).cells z74))⟩)]) (j := 3) rfl (by kernel_rfl) (by kernel_rfl) (ev_app (eInt .i64) (b := 72) (g := 0) (n := p170.length) (xs := p170) (ys := [65533]) ((congrArg (asL _) (by kernel_rfl : ρof _ (.tmp 40) = (.r (.msl 328 1 0 (([65533] : List Int).length))))).trans (as_whole (eInt .i64) (e := 3) (k := 1) (xs := [65533]) (by kernel_rfl) rfl rfl)) rfl (by kernel_rfl) rfl (by kernel_rfl) rfl hz74) ?_
  refine zlRun (n := 1) (j := 4) rfl (by kernel_rfl) ?_
  refine zlEnd (by kernel_rfl) ?_
  refine zkBlk ?_
  refine zkSeq ?_
  refine zrReg ?_
  refine zlRun (n := 3) (j := 3) rfl (by kernel_rfl) ?_
  refine bindE hS (fun z75 hz75 hS => ?_)
  refine zlOp (d := some 68) (op := (.slStr (.tmp 65) (.some (.tmp 67)) .none)) (g := none) (v := (.d (.str z75))) (ups := []) (j := 4) rfl (by kernel_rfl) (by kernel_rfl) (ev_slStr (s := p169) (a := (if 1 > p171 then 1 else p171)) (c := (p169.length : Int)) (by kernel_rfl) (bnd_s _ (kk := .i64) (j := (if 1 > p171 then 1 else p171)) (by kernel_rfl)) (bnd_n _) hz75) ?_
  refine zlRun (n := 1) (j := 5) rfl (by kernel_rfl) ?_
  refine zlEnd (by kernel_rfl) ?_
  refine zkBlk ?_
  refine zkNil ?_
  exact endQ hS hQ (finL_n (by show keepSt _ _ _ _ = _; kernel_rfl))
def f21_l1_j5_J (a1 : List UInt8) (a2 : List UInt8) (p175 : List UInt8) (p176 : List Int) (p177 : Int) : St := ⟨(up (up (up (up (up (up (up (fun _ => .un) 61 (.tup [])) 60 (.tup [])) 59 (.tup [])) 58 (.tup [])) 9 (.d (.int .i64 p177))) 8 (.r (.msl 72 0 0 p176.length))) 1 (.d (.str p175))), (up (hB fun _ => 0) 72 ⟨0, some (.own 3 1 ((eInt .i64).cells p176))⟩)⟩
noncomputable def f21_l1_j5 (a1 : List UInt8) (a2 : List UInt8) (p175 : List UInt8) (p176 : List Int) (p177 : Int) : Option (((List UInt8) × (List Int)) ⊕ (((List Int)) ⊕ ((List UInt8) × (List Int) × Int))) := ((app? 8 p176 ([65533] : List Int)).bind fun z76 => ((sub? p175 (if 1 > p177 then 1 else p177) (p175.length : Int)).bind fun z77 => (some (.inl (z77, z76)))))
theorem f21_l1_j5_ok {d : Nat} (hd : 4 ≤ d) (a1 : List UInt8) (a2 : List UInt8) {r : ((List UInt8) × (List Int)) ⊕ (((List Int)) ⊕ ((List UInt8) × (List Int) × Int))} {Q : PX → St → Prop} (hQ : ∀ e st', finL (f21_l1_H a1 a2) (f21_l1_X a1 a2) r e st' → Q e st') (p175 : List UInt8) (p176 : List Int) (p177 : Int) (hS : f21_l1_j5 a1 a2 p175 p176 p177 = some r) {st : St} (he : keepSt [1, 8, 9, 58, 59, 60, 61] [(72, .id 72)] [] st = f21_l1_j5_J a1 a2 p175 p176 p177) : ZR (lev codes baseL (d - 1)) Q c21_1 [.blk 2, .seq c21_2, .blk 1] st := by
  refine zrKeep he ?_
  unfold f21_l1_j5 at hS
  refine zrReg ?_
  refine zlRun (n := 2) (j := 2) rfl (by kernel_rfl) ?_
  refine bindE hS (fun z76 hz76 hS => ?_)
  refine zlOp (d := some 41) (op := (.app 3 1 8 (.tmp 39) (.tmp 40))) (g := none) (v := (.r (.msl 72 1 0 z76.length))) (ups := [(72, ⟨1, some (.own 3 1 ((eInt .i64).cells z76))⟩)]) (j := 3) rfl (by kernel_rfl) (by kernel_rfl) (ev_app (eInt .i64) (b := 72) (g := 0) (n := p176.length) (xs := p176) (ys := [65533]) ((congrArg (asL _) (by kernel_rfl : ρof _ (.tmp 40) = (.r (.msl 328 1 0 (([65533] : List Int).length))))).trans (as_whole (eInt .i64) (e := 3) (k := 1) (xs := [65533]) (by kernel_rfl) rfl rfl)) rfl (by kernel_rfl) rfl (by kernel_rfl) rfl hz76) ?_
  refine zlRun (n := 1) (j := 4) rfl (by kernel_rfl) ?_
  refine zlEnd (by kernel_rfl) ?_
  refine zkBlk ?_
  refine zkSeq ?_
  refine zrReg ?_
  refine zlRun (n := 3) (j := 3) rfl (by kernel_rfl) ?_
  refine bindE hS (fun z77 hz77 hS => ?_)
  refine zlOp (d := some 68) (op := (.slStr (.tmp 65) (.some (.tmp 67)) .none)) (g := none) (v := (.d (.str z77))) (ups := []) (j := 4) rfl (by kernel_rfl) (by kernel_rfl) (ev_slStr (s := p175) (a := (if 1 > p177 then 1 else p177)) (c := (p175.length : Int)) (by kernel_rfl) (bnd_s _ (kk := .i64) (j := (if 1 > p177 then 1 else p177)) (by kernel_rfl)) (bnd_n _) hz77) ?_
  refine zlRun (n := 1) (j := 5) rfl (by kernel_rfl) ?_
  refine zlEnd (by kernel_rfl) ?_
  refine zkBlk ?_
  refine zkNil ?_
  exact endQ hS hQ (finL_n (by show keepSt _ _ _ _ = _; kernel_rfl))
def f21_l1_j3_J (a1 : List UInt8) (a2 : List UInt8) (p164 : List UInt8) (p165 : List Int) : St := ⟨(up (up (fun _ => .un) 8 (.r (.msl 72 0 0 p165.length))) 1 (.d (.str p164))), (up (hB fun _ => 0) 72 ⟨0, some (.own 3 1 ((eInt .i64).cells p165))⟩)⟩
noncomputable def f21_l1_j3 (a1 : List UInt8) (a2 : List UInt8) (p164 : List UInt8) (p165 : List Int) : Option (((List UInt8) × (List Int)) ⊕ (((List Int)) ⊕ ((List UInt8) × (List Int) × Int))) := ((f45 p164).bind fun z70 => (bif z70.2 then ((libDecodeRune p164).bind fun z71 => ((app? 8 p165 ([(IntKind.i64.wrap (z71.1))] : List Int)).bind fun z72 => ((sub? p164 (if 1 > z70.1 then 1 else z70.1) (p164.length : Int)).bind fun z73 => (some (.inl (z73, z72)))))) else (bif (decide (0 < z70.1)) then (bif (decide (z70.1 = (p164.length : Int))) then (some (.inr (.inr (p164, p165, 0)))) else (f21_l1_j4 a1 a2 p164 p165 z70.1 z70.1 p164 (p164.length : Int))) else (f21_l1_j5 a1 a2 p164 p165 z70.1))))
theorem f21_l1_j3_ok {d : Nat} (hd : 4 ≤ d) (a1 : List UInt8) (a2 : List UInt8) {r : ((List UInt8) × (List Int)) ⊕ (((List Int)) ⊕ ((List UInt8) × (List Int) × Int))} {Q : PX → St → Prop} (hQ : ∀ e st', finL (f21_l1_H a1 a2) (f21_l1_X a1 a2) r e st' → Q e st') (p164 : List UInt8) (p165 : List Int) (hS : f21_l1_j3 a1 a2 p164 p165 = some r) {st : St} (he : keepSt [1, 8] [(72, .id 72)] [] st = f21_l1_j3_J a1 a2 p164 p165) : ZR (lev codes baseL (d - 1)) Q c21_3 [.blk 1] st := by
  refine zrKeep he ?_
  unfold f21_l1_j3 at hS
  refine zrSeq ?_
  refine zrReg ?_
  refine zlRun (n := 1) (j := 1) rfl (by kernel_rfl) ?_
  refine bindE hS (fun z70 hz70 hS => ?_)
  refine zlOp (d := some 36) (op := (.call 45 [(.tmp 35)])) (g := none) (v := (.tup [(.d (.int .i64 z70.1)), (.d (.bool z70.2))])) (ups := []) (j := 2) rfl (by kernel_rfl) (by kernel_rfl) (ev_call (args := [(.d (.str p164))]) (l := [(.d (.str p164))]) (r := (.tup [(.d (.int .i64 z70.1)), (.d (.bool z70.2))])) (by kernel_rfl) (by kernel_rfl) (f45_ok (d - 1) (dpt hd rfl) p164 z70 hz70) (by kernel_rfl) (by kernel_rfl) (by kernel_rfl)) ?_
  refine zlRun (n := 5) (j := 7) rfl (by kernel_rfl) ?_
  refine zlEnd (by kernel_rfl) ?_
  refine zkSeq ?_
  refine zrSeq ?_
  refine zrBlk ?_
  refine zrSeq ?_
  refine zrReg ?_
  refine zlRun (n := 2) (j := 2) rfl (by kernel_rfl) ?_
  refine zlEnd (by kernel_rfl) ?_
  refine zkSeq ?_
  refine zrSplit 42 z70.2 (by kernel_rfl) (fun hc => ?_) (fun hc => ?_)
  · replace hS := cond_t hc hS
    refine zrCondT (by kernel_rfl) ?_
    refine zrSeq ?_
    refine zrReg ?_
    refine zlRun (n := 1) (j := 1) rfl (by kernel_rfl) ?_
    refine bindE hS (fun z71 hz71 hS => ?_)
    refine zlOp (d := some 46) (op := (.call 46 [(.tmp 45)])) (g := none) (v := (.tup [(.d (.int .i32 z71.1)), (.d (.int .i64 z71.2))])) (ups := []) (j := 2) rfl (by kernel_rfl) (by kernel_rfl) (ev_call (args := [(.d (.str p164))]) (l := [(.d (.str p164))]) (r := (.tup [(.d (.int .i32 z71.1)), (.d (.int .i64 z71.2))])) (by kernel_rfl) (by kernel_rfl) (libDecodeRune_ok (d - 1) (dpt hd rfl) p164 z71 hz71) (by kernel_rfl) (by kernel_rfl) (by kernel_rfl)) ?_
    refine zlRun (n := 5) (j := 7) rfl (by kernel_rfl) ?_
    refine zlEnd (by kernel_rfl) ?_
    refine zkSeq ?_
    refine zrReg ?_
    refine zlRun (n := 4) (j := 4) rfl (by kernel_rfl) ?_
    refine bindE hS (fun z72 hz72 hS => ?_)
    refine zlOp (d := some 53) (op := (.app 3 1 8 (.tmp 49) (.tmp 52))) (g := none) (v := (.r (.msl 72 1 0 z72.length))) (ups := [(72, ⟨1, some (.own 3 1 ((eInt .i64).cells z72))⟩)]) (j := 5) rfl (by kernel_rfl) (by kernel_rfl) (ev_app (eInt .i64) (b := 72) (g := 0) (n := p165.length) (xs := p165) (ys := [(IntKind.i64.wrap (z71.1))]) ((congrArg (asL _) (by kernel_rfl : ρof _ (.tmp 52) = (.r (.msl 424 1 0 (([(IntKind.i64.wrap (z71.1))] : List Int).length))))).trans (as_whole (eInt .i64) (e := 3) (k := 1) (xs := [(IntKind.i64.wrap (z71.1))]) (by kernel_rfl) rfl rfl)) rfl (by kernel_rfl) rfl (by kernel_rfl) rfl hz72) ?_
    refine zlRun (n := 1) (j := 6) rfl (by kernel_rfl) ?_
    refine zlEnd (by kernel_rfl) ?_
    refine zkBlk ?_
    refine zkSeq ?_
    refine zrReg ?_
    refine zlRun (n := 3) (j := 3) rfl (by kernel_rfl) ?_
    refine bindE hS (fun z73 hz73 hS => ?_)
    refine zlOp (d := some 68) (op := (.slStr (.tmp 65) (.some (.tmp 67)) .none)) (g := none) (v := (.d (.str z73))) (ups := []) (j := 4) rfl (by kernel_rfl) (by kernel_rfl) (ev_slStr (s := p164) (a := (if 1 > z70.1 then 1 else z70.1)) (c := (p164.length : Int)) (by kernel_rfl) (bnd_s _ (kk := .i64) (j := (if 1 > z70.1 then 1 else z70.1)) (by kernel_rfl)) (bnd_n _) hz73) ?_
    refine zlRun (n := 1) (j := 5) rfl (by kernel_rfl) ?_
    refine zlEnd (by kernel_rfl) ?_
    refine zkBlk ?_
    refine zkNil ?_
    exact endQ hS hQ (finL_n (by show keepSt _ _ _ _ = _; kernel_rfl))
  · replace hS := cond_f hc hS
    refine zrCondF (by kernel_rfl) ?_
    refine zrSeq ?_
    refine zrReg ?_
    refine zlRun (n := 1) (j := 1) rfl (by kernel_rfl) ?_
    refine zlBool (d := 56) (op := (.cmpI .gtr (.tmp 55) (.const (.int .i64 0)))) (g := none) (j := 2) (decide (0 < z70.1)) rfl (by kernel_rfl) (by kernel_rfl) (by kernel_rfl) (fun hc => ?_) (fun hc => ?_)
    · replace hS := cond_t hc hS
      refine zlRun (n := 4) (j := 6) rfl (by kernel_rfl) ?_
      refine zlBool (d := 61) (op := (.cmpI .eql (.tmp 58) (.tmp 60))) (g := (some (57, true))) (j := 7) (decide (z70.1 = (p164.length : Int))) rfl (by kernel_rfl) (by kernel_rfl) (by kernel_rfl) (fun hc => ?_) (fun hc => ?_)
      · replace hS := cond_t hc hS
        refine zlRun (n := 2) (j := 9) rfl (by kernel_rfl) ?_
        refine zlEnd (by kernel_rfl) ?_
        refine zkSeq ?_
        refine zrCondT (by kernel_rfl) ?_
        refine zrSeq ?_
        refine zrReg ?_
        refine zlRun (n := 5) (j := 5) rfl (by kernel_rfl) ?_
        refine zlEnd (by kernel_rfl) ?_
        refine zkSeq ?_
        refine zrRet ?_
        refine zkBlkR ?_
        refine zkSeqR ?_
        refine zkBlkR ?_
        refine zkNil ?_
        exact endQ hS hQ (finL_x (by intro h; cases h) (by show _ = _ ∧ _ = _; exact ⟨rfl, by kernel_rfl⟩))
      · replace hS := cond_f hc hS
        refine zlRun (n := 2) (j := 9) rfl (by kernel_rfl) ?_
        refine zlEnd (by kernel_rfl) ?_
        refine zkSeq ?_
        refine zrCondF (by kernel_rfl) ?_
        exact f21_l1_j4_ok hd a1 a2 hQ p164 p165 z70.1 z70.1 p164 (p164.length : Int) hS (by kernel_rfl)
    · replace hS := cond_f hc hS
      refine zlRun (n := 7) (j := 9) rfl (by kernel_rfl) ?_
      refine zlEnd (by kernel_rfl) ?_
      refine zkSeq ?_
      refine zrCondF (by kernel_rfl) ?_
      exact f21_l1_j5_ok hd a1 a2 hQ p164 p165 z70.1 hS (by kernel_rfl)
def f21_l1_j2_J (a1 : List UInt8) (a2 : List UInt8) (p159 : List UInt8) (p160 : List Int) : St := ⟨(up (up (fun _ => .un) 8 (.r (.msl 72 0 0 p160.length))) 1 (.d (.str p159))), (up (hB fun _ => 0) 72 ⟨0, some (.own 3 1 ((eInt .i64).cells p160))⟩)⟩
noncomputable def f21_l1_j2 (a1 : List UInt8) (a2 : List UInt8) (p159 : List UInt8) (p160 : List Int) : Option (((List UInt8) × (List Int)) ⊕ (((List Int)) ⊕ ((List UInt8) × (List Int) × Int))) := ((idx p159 0).bind fun z79 => (bif (decide ((z79.toNat : Int) < 128)) then ((idx p159 0).bind fun z80 => ((app? 8 p160 ([(z80.toNat : Int)] : List Int)).bind fun z81 => ((sub? p159 1 (p159.length : Int)).bind fun z82 => (some (.inl (z82, z81)))))) else (f21_l1_j3 a1 a2 p159 p160)))
theorem f21_l1_j2_ok {d : Nat} (hd : 4 ≤ d) (a1 : List UInt8) (a2 : List UInt8) {r : ((List UInt8) × (List Int)) ⊕ (((List Int)) ⊕ ((List UInt8) × (List Int) × Int))} {Q : PX → St → Prop} (hQ : ∀ e st', finL (f21_l1_H a1 a2) (f21_l1_X a1 a2) r e st' → Q e st') (p159 : List UInt8) (p160 : List Int) (hS : f21_l1_j2 a1 a2 p159 p160 = some r) {st : St} (he : keepSt [1, 8] [(72, .id 72)] [] st = f21_l1_j2_J a1 a2 p159 p160) : ZR (lev codes baseL (d - 1)) Q c21_4 [] st := by
  refine zrKeep he ?_
  unfold f21_l1_j2 at hS
  refine zrBlk ?_
  refine zrSeq ?_
  refine zrSeq ?_
  refine zrReg ?_
  refine zlRun (n := 1) (j := 1) rfl (by kernel_rfl) ?_
  refine bindE hS (fun z79 hz79 hS => ?_)
  refine zlOp (d := some 24) (op := (.ixStr (.tmp 23) (.const (.int .i64 0)))) (g := none) (v := (.d (.int .u8 (z79.toNat : Int)))) (ups := []) (j := 2) rfl (by kernel_rfl) (by kernel_rfl) (ev_ixStr (kk := .i64) (s := p159) (j := 0) (by kernel_rfl) (by kernel_rfl) hz79) ?_
  refine zlBool (d := 25) (op := (.cmpI .lss (.tmp 24) (.const (.int .u8 128)))) (g := none) (j := 3) (decide ((z79.toNat : Int) < 128)) rfl (by kernel_rfl) (by kernel_rfl) (by kernel_rfl) (fun hc => ?_) (fun hc => ?_)
  · replace hS := cond_t hc hS
    refine zlEnd (by kernel_rfl) ?_
    refine zkSeq ?_
    refine zrCondT (by kernel_rfl) ?_
    refine zrSeq ?_
    refine zrRegD ?_
    refine zdRun (n := 2) (j := 2) (ts := [[], []]) (acc' := [[], []]) rfl (by kernel_rfl) (by kernel_rfl) (by kernel_rfl) ?_
    refine bindE hS (fun z80 hz80 hS => ?_)
    refine zdOp (d := some 28) (op := (.ixStr (.tmp 27) (.const (.int .i64 0)))) (g := none) (v := (.d (.int .u8 (z80.toNat : Int)))) (ups := []) (j := 3) (t1 := []) (acc' := [[], [], []]) (by kernel_rfl) (by kernel_rfl) rfl (by kernel_rfl) (by kernel_rfl) (ev_ixStr (kk := .i64) (s := p159) (j := 0) (by kernel_rfl) (by kernel_rfl) hz80) ?_
    refine zdOp (d := some 29) (op := (.cvI .i64 (.tmp 28))) (g := none) (v := (.d (.int .i64 (z80.toNat : Int)))) (ups := []) (j := 4) (t1 := []) (acc' := [[], [], [], []]) (by kernel_rfl) (by kernel_rfl) rfl (by kernel_rfl) (by kernel_rfl) (ev_cv (kk := .u8) (a := (z80.toNat : Int)) (by kernel_rfl) (cv_i64 _)) ?_
    refine zdRun (n := 1) (j := 5) (ts := [[(248, true)]]) (acc' := [[], [], [], [], [(248, true)]]) rfl (by kernel_rfl) (by kernel_rfl) (by kernel_rfl) ?_
    refine bindE hS (fun z81 hz81 hS => ?_)
    refine zdOp (d := some 31) (op := (.app 3 1 8 (.tmp 26) (.tmp 30))) (g := none) (v := (.r (.msl 72 1 0 z81.length))) (ups := [(72, ⟨1, some (.own 3 1 ((eInt .i64).cells z81))⟩)]) (j := 6) (t1 := [(256, true), (72, true), (248, false)]) (acc' := [[], [], [], [], [(248, true)], [(256, true), (72, true), (248, false)]]) (by kernel_rfl) (by kernel_rfl) rfl (by kernel_rfl) (by kernel_rfl) (ev_app (eInt .i64) (b := 72) (g := 0) (n := p160.length) (xs := p160) (ys := [(z80.toNat : Int)]) ((congrArg (asL _) (by kernel_rfl : ρof _ (.tmp 30) = (.r (.msl 248 1 0 (([(z80.toNat : Int)] : List Int).length))))).trans (as_whole (eInt .i64) (e := 3) (k := 1) (xs := [(z80.toNat : Int)]) (by kernel_rfl) rfl rfl)) rfl (by kernel_rfl) rfl (by kernel_rfl) rfl hz81) ?_
    refine zdRun (n := 1) (j := 7) (ts := [[]]) (acc' := [[], [], [], [], [(248, true)], [(256, true), (72, true), (248, false)], []]) rfl (by kernel_rfl) (by kernel_rfl) (by kernel_rfl) ?_
    refine bindE hS (fun z82 hz82 hS => ?_)
    refine zdOp (d := some 33) (op := (.slStr (.tmp 32) (.some (.const (.int .i64 1))) .none)) (g := none) (v := (.d (.str z82))) (ups := []) (j := 8) (t1 := []) (acc' := [[], [], [], [], [(248, true)], [(256, true), (72, true), (248, false)], [], []]) (by kernel_rfl) (by kernel_rfl) rfl (by kernel_rfl) (by kernel_rfl) (ev_slStr (s := p159) (a := 1) (c := (p159.length : Int)) (by kernel_rfl) (bnd_s _ (kk := .i64) (j := 1) (by kernel_rfl)) (bnd_n _) hz82) ?_
    refine zdRun (n := 2) (j := 10) (ts := [[], []]) (acc' := [[], [], [], [], [(248, true)], [(256, true), (72, true), (248, false)], [], [], [], []]) rfl (by kernel_rfl) (by kernel_rfl) (by kernel_rfl) ?_
    refine zdEnd (by kernel_rfl) (by kernel_rfl) ?_
    refine zkSeq ?_
    refine zrExit ?_
    refine zkSeqX ?_
    refine zkBlkX ?_
    refine zkNil ?_
    exact endQ hS hQ (finL_n (by show keepSt _ _ _ _ = _; kernel_rfl))
  · replace hS := cond_f hc hS
    refine zlEnd (by kernel_rfl) ?_
    refine zkSeq ?_
    refine zrCondF (by kernel_rfl) ?_
    refine zrSkip ?_
    refine zkSeq ?_
    exact f21_l1_j3_ok hd a1 a2 hQ p159 p160 hS (by kernel_rfl)
noncomputable def f21_l1 (a1 : List UInt8) (a2 : List UInt8) (x : (List UInt8) × (List Int)) : Option (((List UInt8) × (List Int)) ⊕ (((List Int)) ⊕ ((List UInt8) × (List Int) × Int))) := (bif (!decide (x.1 = ([] : List UInt8))) then (f21_l1_j2 a1 a2 x.1 x.2) else (some (.inr (.inl x.2))))
theorem f21_l1_ok {d : Nat} (hd : 4 ≤ d) (a1 : List UInt8) (a2 : List UInt8) {r : ((List UInt8) × (List Int)) ⊕ (((List Int)) ⊕ ((List UInt8) × (List Int) × Int))} {Q : PX → St → Prop} (hQ : ∀ e st', finL (f21_l1_H a1 a2) (f21_l1_X a1 a2) r e st' → Q e st') {x : (List UInt8) × (List Int)} (hS : f21_l1 a1 a2 x = some r) {st : St} (he : f21_l1_H a1 a2 x st) : ZR (lev codes baseL (d - 1)) Q c21_5 [] st := by
  refine zrKeep he ?_
  unfold f21_l1 at hS
  refine zrSeq ?_
  refine zrSeq ?_
  refine zrReg ?_
  refine zlRun (n := 1) (j := 1) rfl (by kernel_rfl) ?_
  refine zlBool (d := 22) (op := (.strO .neq (.tmp 21) (.const (.string ⟨#[]⟩)))) (g := none) (j := 2) (!decide (x.1 = ([] : List UInt8))) rfl (by kernel_rfl) (by kernel_rfl) (by kernel_rfl) (fun hc => ?_) (fun hc => ?_)
  · replace hS := cond_t hc hS
    refine zlEnd (by kernel_rfl) ?_
    refine zkSeq ?_
    refine zrCondT (by kernel_rfl) ?_
    refine zrSkip ?_
    refine zkSeq ?_
    exact f21_l1_j2_ok hd a1 a2 hQ x.1 x.2 hS (by kernel_rfl)
  · replace hS := cond_f hc hS
    refine zlEnd (by kernel_rfl) ?_
    refine zkSeq ?_
    refine zrCondF (by kernel_rfl) ?_
    refine zrKeep (J := f21_l1_e0_J a1 a2 x.2) (by kernel_rfl) ?_
    refine zrExit ?_
    refine zkSeqX ?_
    refine zkNil ?_
    exact endQ hS hQ (finL_x (by intro h; cases h) (by show _ = _ ∧ _ = _; exact ⟨rfl, rfl⟩))
def f21_j0_J (a1 : List UInt8) (a2 : List UInt8) : St := ⟨(up (up (fun _ => .un) 1 (.d (.str a2))) 0 (.d (.str a1))), (hB fun _ => 0)⟩
noncomputable def f21_j0 (a1 : List UInt8) (a2 : List UInt8) : Option ((List UInt8) × (List Int) × Int) := ((cat? a1 a2).bind fun z35 => ((loopO (f21_l1 a1 a2) (z35, [])).bind fun z83 => (Sum.elim (fun z84 => (some ([], z84, 0))) (fun z85 => (some (z85.1, z85.2.1, z85.2.2))) z83)))
theorem f21_j0_ok {d : Nat} (hd : 4 ≤ d) (a1 : List UInt8) (a2 : List UInt8) {r : (List UInt8) × (List Int) × Int} {Q : PX → St → Prop} (hQ : ∀ e st', f21_Q r e st' → Q e st')  (hS : f21_j0 a1 a2 = some r) {st : St} (he : keepSt [0, 1] [] [] st = f21_j0_J a1 a2) : ZR (lev codes baseL (d - 1)) Q c21_6 [] st := by
  refine zrKeep he ?_
  unfold f21_j0 at hS
  refine zrSeq ?_
  refine zrReg ?_
  refine zlRun (n := 1) (j := 1) rfl (by kernel_rfl) ?_
  refine zlEnd (by kernel_rfl) ?_
  refine zkSeq ?_
  refine zrSeq ?_
  refine zrSeq ?_
  refine zrReg ?_
  refine zlRun (n := 2) (j := 2) rfl (by kernel_rfl) ?_
  refine bindE hS (fun z35 hz35 hS => ?_)
  refine zlOp (d := some 20) (op := (.strO .add (.tmp 18) (.tmp 19))) (g := none) (v := (.d (.str z35))) (ups := []) (j := 3) rfl (by kernel_rfl) (by kernel_rfl) (ev_cat (a := a1) (c := a2) (by kernel_rfl) (by kernel_rfl) hz35) ?_
  refine zlRun (n := 1) (j := 4) rfl (by kernel_rfl) ?_
  refine zlEnd (by kernel_rfl) ?_
  refine zkSeq ?_
  refine zrBlk ?_
  refine bindE hS (fun z83 hz83 hS => ?_)
  refine zrLoop (f21_l1_H a1 a2) (f21_l1_X a1 a2) (fun x st r Q h0 hS hQ => f21_l1_ok hd a1 a2 hQ hS h0) (x := (z35, [])) (z := z83) (by show keepSt _ _ _ _ = _; kernel_rfl) hz83 ?_
  rcases z83 with z84 | z85
  · replace hS := (show _ = _ from hS)
    simp only [Sum.elim_inl] at hS
    intro e st' _ hX
    obtain ⟨rfl, rfl⟩ : _ ∧ _ := hX
    refine zkBlkX ?_
    refine zkSeq ?_
    refine zrSeq ?_
    refine zrReg ?_
    refine zlRun (n := 4) (j := 4) rfl (by kernel_rfl) ?_
    refine zlEnd (by kernel_rfl) ?_
    refine zkSeq ?_
    refine zrRet ?_
    refine zkNil ?_
    exact endQ hS hQ (fRet ((congrArg (fun s => outR s 0 c21.res) (by kernel_rfl : finSt c21.fin _ = f21_fin [] z84 0)).trans (f21_out [] z84 0)))
  · simp only [Sum.elim_inr] at hS
    intro e st' _ hX
    obtain ⟨rfl, hX⟩ : _ ∧ _ := hX
    refine zkBlkR ?_
    refine zkSeqR ?_
    refine zkNil ?_
    exact endQ hS hQ (fRet ((congrArg (fun s => outR s 0 c21.res) hX).trans (f21_out z85.1 z85.2.1 z85.2.2)))
noncomputable def f21 (a1 : List UInt8) (a2 : List UInt8) : Option ((List UInt8) × (List Int) × Int) := ((f44 a1).bind fun z86 => (bif (!decide (z86 = 0)) then (some ([], [], z86)) else (f21_j0 a1 a2 )))
theorem f21_ok (d : Nat) (hd : 4 ≤ d) (a1 : List UInt8) (a2 : List UInt8) (r : (List UInt8) × (List Int) × Int) (hS : f21 a1 a2 = some r) : lev codes baseL d 21 [(.d (.str a1)), (.d (.str a2))] [] = some ((.tup [(.d (.str r.1)), (.r (.own 0 3 1 r.2.1.length ((eInt .i64).cells r.2.1))), (.d (.int .i64 r.2.2))]), []) := by
  refine lev_go codes21 rfl rfl (Nat.le_trans (Nat.le_of_ble_eq_true rfl) hd) fun Q hQ => ?_
  unfold f21 at hS
  show ZR _ Q c21_b [] _
  replace hQ : ∀ e st', f21_Q r e st' → Q e st' := hQ
  refine zrSeq ?_
  refine zrReg ?_
  refine zlRun (n := 3) (j := 3) rfl (by kernel_rfl) ?_
  refine zlEnd (by kernel_rfl) ?_
  refine zkSeq ?_
  refine zrSeq ?_
  refine zrSeq ?_
  refine zrReg ?_
  refine zlRun (n := 1) (j := 1) rfl (by kernel_rfl) ?_
  refine bindE hS (fun z86 hz86 hS => ?_)
  refine zlOp (d := some 14) (op := (.call 44 [(.tmp 13)])) (g := none) (v := (.d (.int .i64 z86))) (ups := []) (j := 2) rfl (by kernel_rfl) (by kernel_rfl) (ev_call (args := [(.d (.str a1))]) (l := [(.d (.str a1))]) (r := (.d (.int .i64 z86))) (by kernel_rfl) (by kernel_rfl) (f44_ok (d - 1) (dpt hd rfl) a1 z86 hz86) (by kernel_rfl) (by kernel_rfl) (by kernel_rfl)) ?_
  refine zlRun (n := 1) (j := 3) rfl (by kernel_rfl) ?_
  refine zlEnd (by kernel_rfl) ?_
  refine zkSeq ?_
  refine zrSeq ?_
  refine zrReg ?_
  refine zlRun (n := 1) (j := 1) rfl (by kernel_rfl) ?_
  refine zlBool (d := 16) (op := (.cmpI .neq (.tmp 15) (.const (.int .i64 0)))) (g := none) (j := 2) (!decide (z86 = 0)) rfl (by kernel_rfl) (by kernel_rfl) (by kernel_rfl) (fun hc => ?_) (fun hc => ?_)
  · replace hS := cond_t hc hS
    refine zlEnd (by kernel_rfl) ?_
    refine zkSeq ?_
    refine zrCondT (by kernel_rfl) ?_
    refine zrSeq ?_
    refine zrReg ?_
    refine zlRun (n := 4) (j := 4) rfl (by kernel_rfl) ?_
    refine zlEnd (by kernel_rfl) ?_
    refine zkSeq ?_
    refine zrRet ?_
    refine zkSeqR ?_
    refine zkNil ?_
    exact endQ hS hQ (fRet ((congrArg (fun s => outR s 0 c21.res) (by kernel_rfl : finSt c21.fin _ = f21_fin [] [] z86)).trans (f21_out [] [] z86)))
  · replace hS := cond_f hc hS
    refine zlEnd (by kernel_rfl) ?_
    refine zkSeq ?_
    refine zrCondF (by kernel_rfl) ?_
    refine zrSkip ?_
    refine zkSeq ?_
    exact f21_j0_ok hd a1 a2 hQ  hS (by kernel_rfl)
/- strings.Trim -/
theorem libTrim_ok (d : Nat) (hd : 0 ≤ d) (a1 : List UInt8) (a2 : List UInt8) (r : List UInt8) (hS : libTrim a1 a2 = some r) : lev codes baseL d 63 [(.d (.str a1)), (.d (.str a2))] [] = some ((.d (.str r)), []) := lib_call (l := libs) rfl rfl rfl (ossS_ hS) d
/- strings.Split -/
theorem libSplit_ok (d : Nat) (hd : 0 ≤ d) (a1 : List UInt8) (a2 : List UInt8) (r : List (List UInt8)) (hS : libSplit a1 a2 = some r) : lev codes baseL d 50 [(.d (.str a1)), (.d (.str a2))] [] = some ((.d (.sl r.length (eStr.cells r))), []) := lib_call (l := libs) rfl rfl rfl (ossL_ hS) d
/- farwriter/args.Read -/
def f31_fin (p244 : List Int) (p245 : Int) : St := ⟨(up (up (fun _ => .un) 3 (.d (.int .i64 p245))) 2 (.r (.msl 569 0 0 p244.length))), (up (hB fun _ => 0) 569 ⟨0, some (.own 3 1 ((eInt .i64).cells p244))⟩)⟩
theorem f31_out (p244 : List Int) (p245 : Int) : outR (f31_fin p244 p245) 0 c31.res = some ((.tup [(.r (.own 0 3 1 p244.length ((eInt .i64).cells p244))), (.d (.int .i64 p245))]), []) := by
  exact out_of (ids := []) (ids' := [569]) (l := [(.r (.msl 569 0 0 p244.length)), (.d (.int .i64 p245))]) (by kernel_rfl) (by kernel_rfl) (o_tup (o_cons (o_own (eInt .i64) (e := 3) (k := 1) (xs := p244) (by kernel_rfl) rfl rfl rfl rfl) (o_cons rfl o_nil)))
def f31_Q (r : (List Int) × Int) (e : PX) (st : St) : Prop := DoneF c31 0 ((.tup [(.r (.own 0 3 1 r.1.length ((eInt .i64).cells r.1))), (.d (.int .i64 r.2))]), []) e st
def f31_l2_J (a1 : List UInt8) (x : (List Int) × (List (List UInt8)) × Int × Int) : St := ⟨(up (up (up (up (fun _ => .un) 38 (.d (.int .i64 x.2.2.2))) 37 (.d (.int .i64 x.2.2.1))) 36 (.d (.sl x.2.1.length (eStr.cells x.2.1)))) 5 (.r (.msl 48 0 0 x.1.length))), (up (hB fun _ => 0) 48 ⟨0, some (.own 3 1 ((eInt .i64).cells x.1))⟩)⟩
def f31_l2_H (a1 : List UInt8) (x : (List Int) × (List (List UInt8)) × Int × Int) (st : St) : Prop := keepSt [5, 36, 37, 38] [(48, .id 48)] [] st = f31_l2_J a1 x
def f31_l2_e2_J (a1 : List UInt8) (p428 : List Int) : St := ⟨(up (fun _ => .un) 5 (.r (.msl 48 0 0 p428.length))), (up (hB fun _ => 0) 48 ⟨0, some (.own 3 1 ((eInt .i64).cells p428))⟩)⟩
def f31_l2_X (a1 : List UInt8) (z : ((List Int))) (e : PX) (st : St) : Prop := e = .exit 2 ∧ st = f31_l2_e2_J a1 z
def f31_l2_l6_J (a1 : List UInt8) (x : (List Int) × (List UInt8) × Int × (List (List UInt8)) × Int × Int × Int × Int) : St := ⟨(up (up (up (up (up (up (up (up (fun _ => .un) 47 (.d (.int .i64 x.2.2.2.2.2.2.2))) 46 (.d (.int .i64 x.2.2.2.2.2.2.1))) 38 (.d (.int .i64 x.2.2.2.2.2.1))) 37 (.d (.int .i64 x.2.2.2.2.1))) 36 (.d (.sl x.2.2.2.1.length (eStr.cells x.2.2.2.1)))) 8 (.d (.int .i64 x.2.2.1))) 7 (.d (.str x.2.1))) 5 (.r (.msl 48 0 0 x.1.length))), (up (hB fun _ => 0) 48 ⟨0, some (.own 3 1 ((eInt .i64).cells x.1))⟩)⟩
def f31_l2_l6_H (a1 : List UInt8) (x : (List Int) × (List UInt8) × Int × (List (List UInt8)) × Int × Int × Int × Int) (st : St) : Prop := keepSt [5, 7, 8, 36, 37, 38, 46, 47] [(48, .id 48)] [] st = f31_l2_l6_J a1 x
def f31_l2_l6_e4_J (a1 : List UInt8) (p501 : List Int) (p502 : Int) (p503 : List (List UInt8)) (p504 : Int) (p505 : Int) : St := ⟨(up (up (up (up (up (fun _ => .un) 38 (.d (.int .i64 p505))) 37 (.d (.int .i64 p504))) 36 (.d (.sl p503.length (eStr.cells p503)))) 8 (.d (.int .i64 p502))) 5 (.r (.msl 48 0 0 p501.length))), (up (hB fun _ => 0) 48 ⟨0, some (.own 3 1 ((eInt .i64).cells p501))⟩)⟩
def f31_l2_l6_X (a1 : List UInt8) (z : ((List Int) × Int × (List (List UInt8)) × Int × Int)) (e : PX) (st : St) : Prop := e = .exit 4 ∧ st = f31_l2_l6_e4_J a1 z.1 z.2.1 z.2.2.1 z.2.2.2.1 z.2.2.2.2
def f31_l2_l6_j8_J (a1 : List UInt8) (p524 : List Int) (p525 : List UInt8) (p526 : Int) (p527 : List (List UInt8)) (p528 : Int) (p529 : Int) (p530 : Int) (p531 : Int) : St := ⟨(up (up (up (up (up (up (up (up (fun _ => .un) 47 (.d (.int .i64 p531))) 46 (.d (.int .i64 p530))) 38 (.d (.int .i64 p529))) 37 (.d (.int .i64 p528))) 36 (.d (.sl p527.length (eStr.cells p527)))) 8 (.d (.int .i64 p526))) 7 (.d (.str p525))) 5 (.r (.msl 48 0 0 p524.length))), (up (hB fun _ => 0) 48 ⟨0, some (.own 3 1 ((eInt .i64).cells p524))⟩)⟩
noncomputable def f31_l2_l6_j8 (a1 : List UInt8) (p524 : List Int) (p525 : List UInt8) (p526 : Int) (p527 : List (List UInt8)) (p528 : Int) (p529 : Int) (p530 : Int) (p531 : Int) : Option (((List Int) × (List UInt8) × Int × (List (List UInt8)) × Int × Int × Int × Int) ⊕ (((List Int) × Int × (List (List UInt8)) × Int × Int))) := ((idx p525 p531).bind fun z48 => (some (.inl (p524, p525, (if 16383 < (IntKind.i64.wrap ((IntKind.i64.wrap ((if 0 > p526 then 0 else p526) * 10)) + ((z48 - (48 : UInt8)).toNat : Int))) then 16383 else (IntKind.i64.wrap ((IntKind.i64.wrap ((if 0 > p526 then 0 else p526) * 10)) + ((z48 - (48 : UInt8)).toNat : Int)))), p527, p528, p529, p530, (IntKind.i64.wrap (p531 + 1))))))
theorem f31_l2_l6_j8_ok {d : Nat} (hd : 1 ≤ d) (a1 : List UInt8) {r : ((List Int) × (List UInt8) × Int × (List (List UInt8)) × Int × Int × Int × Int) ⊕ (((List Int) × Int × (List (List UInt8)) × Int × Int))} {Q : PX → St → Prop} (hQ : ∀ e st', finL (f31_l2_l6_H a1) (f31_l2_l6_X a1) r e st' → Q e st') (p524 : List Int) (p525 : List UInt8) (p526 : Int) (p527 : List (List UInt8)) (p528 : Int) (p529 : Int) (p530 : Int) (p531 : Int) (hS : f31_l2_l6_j8 a1 p524 p525 p526 p527 p528 p529 p530 p531 = some r) {st : St} (he : keepSt [5, 7, 8, 36, 37, 38, 46, 47] [(48, .id 48)] [] st = f31_l2_l6_j8_J a1 p524 p525 p526 p527 p528 p529 p530 p531) : ZR (lev codes baseL (d - 1)) Q c31_1 [] st := by
  refine zrKeep he ?_
  unfold f31_l2_l6_j8 at hS
  refine zrSeq ?_
  refine zrBlk ?_
  refine zrSeq ?_
  refine zrReg ?_
  refine zlRun (n := 2) (j := 2) rfl (by kernel_rfl) ?_
  refine zlEnd (by kernel_rfl) ?_
  refine zkSeq ?_
  refine zrReg ?_
  refine zlRun (n := 5) (j := 5) rfl (by kernel_rfl) ?_
  refine bindE hS (fun z48 hz48 hS => ?_)
  refine zlOp (d := some 55) (op := (.ixStr (.tmp 53) (.tmp 54))) (g := none) (v := (.d (.int .u8 (z48.toNat : Int)))) (ups := []) (j := 6) rfl (by kernel_rfl) (by kernel_rfl) (ev_ixStr (kk := .i64) (s := p525) (j := p531) (by kernel_rfl) (by kernel_rfl) hz48) ?_
  refine zlOp (d := some 56) (op := (.arI .sub (.tmp 55) (.const (.int .u8 48)))) (g := none) (v := (.d (.int .u8 ((z48 - (48 : UInt8)).toNat : Int)))) (ups := []) (j := 7) rfl (by kernel_rfl) (by kernel_rfl) (ev_arI (kk := .u8) (a := (z48.toNat : Int)) (c := ((48 : UInt8).toNat : Int)) (by kernel_rfl) (by kernel_rfl) (ar_sub8 z48 (48 : UInt8))) ?_
  refine zlOp (d := some 57) (op := (.cvI .i64 (.tmp 56))) (g := none) (v := (.d (.int .i64 ((z48 - (48 : UInt8)).toNat : Int)))) (ups := []) (j := 8) rfl (by kernel_rfl) (by kernel_rfl) (ev_cv (kk := .u8) (a := ((z48 - (48 : UInt8)).toNat : Int)) (by kernel_rfl) (cv_i64 _)) ?_
  refine zlRun (n := 3) (j := 11) rfl (by kernel_rfl) ?_
  refine zlEnd (by kernel_rfl) ?_
  refine zkBlk ?_
  refine zkSeq ?_
  refine zrReg ?_
  refine zlRun (n := 2) (j := 2) rfl (by kernel_rfl) ?_
  refine zlEnd (by kernel_rfl) ?_
  refine zkNil ?_
  exact endQ hS hQ (finL_n (by show keepSt _ _ _ _ = _; kernel_rfl))
def f31_l2_l6_j7_J (a1 : List UInt8) (p515 : List Int) (p516 : List UInt8) (p517 : Int) (p518 : List (List UInt8)) (p519 : Int) (p520 : Int) (p521 : Int) (p522 : Int) (p523 : Bool) : St := ⟨(up (up (up (up (up (up (up (up (up (fun _ => .un) 48 (.d (.bool p523))) 47 (.d (.int .i64 p522))) 46 (.d (.int .i64 p521))) 38 (.d (.int .i64 p520))) 37 (.d (.int .i64 p519))) 36 (.d (.sl p518.length (eStr.cells p518)))) 8 (.d (.int .i64 p517))) 7 (.d (.str p516))) 5 (.r (.msl 48 0 0 p515.length))), (up (hB fun _ => 0) 48 ⟨0, some (.own 3 1 ((eInt .i64).cells p515))⟩)⟩
noncomputable def f31_l2_l6_j7 (a1 : List UInt8) (p515 : List Int) (p516 : List UInt8) (p517 : Int) (p518 : List (List UInt8)) (p519 : Int) (p520 : Int) (p521 : Int) (p522 : Int) (p523 : Bool) : Option (((List Int) × (List UInt8) × Int × (List (List UInt8)) × Int × Int × Int × Int) ⊕ (((List Int) × Int × (List (List UInt8)) × Int × Int))) := (bif p523 then (f31_l2_l6_j8 a1 p515 p516 p517 p518 p519 p520 p521 p522) else (some (.inr (p515, p517, p518, p519, p520))))
theorem f31_l2_l6_j7_ok {d : Nat} (hd : 1 ≤ d) (a1 : List UInt8) {r : ((List Int) × (List UInt8) × Int × (List (List UInt8)) × Int × Int × Int × Int) ⊕ (((List Int) × Int × (List (List UInt8)) × Int × Int))} {Q : PX → St → Prop} (hQ : ∀ e st', finL (f31_l2_l6_H a1) (f31_l2_l6_X a1) r e st' → Q e st') (p515 : List Int) (p516 : List UInt8) (p517 : Int) (p518 : List (List UInt8)) (p519 : Int) (p520 : Int) (p521 : Int) (p522 : Int) (p523 : Bool) (hS : f31_l2_l6_j7 a1 p515 p516 p517 p518 p519 p520 p521 p522 p523 = some r) {st : St} (he : keepSt [5, 7, 8, 36, 37, 38, 46, 47, 48] [(48, .id 48)] [] st = f31_l2_l6_j7_J a1 p515 p516 p517 p518 p519 p520 p521 p522 p523) : ZR (lev codes baseL (d - 1)) Q c31_2 [] st := by
  refine zrKeep he ?_
  unfold f31_l2_l6_j7 at hS
  refine zrSeq ?_
  refine zrSplit 48 p523 (by kernel_rfl) (fun hc => ?_) (fun hc => ?_)
  · replace hS := cond_t hc hS
    refine zrCondT (by kernel_rfl) ?_
    refine zrSkip ?_
    refine zkSeq ?_
    exact f31_l2_l6_j8_ok hd a1 hQ p515 p516 p517 p518 p519 p520 p521 p522 hS (by kernel_rfl)
  · replace hS := cond_f hc hS
    refine zrCondF (by kernel_rfl) ?_
    refine zrKeep (J := f31_l2_l6_e4_J a1 p515 p517 p518 p519 p520) (by kernel_rfl) ?_
    refine zrExit ?_
    refine zkSeqX ?_
    refine zkNil ?_
    exact endQ hS hQ (finL_x (by intro h; cases h) (by show _ = _ ∧ _ = _; exact ⟨rfl, rfl⟩))
noncomputable def f31_l2_l6 (a1 : List UInt8) (x : (List Int) × (List UInt8) × Int × (List (List UInt8)) × Int × Int × Int × Int) : Option (((List Int) × (List UInt8) × Int × (List (List UInt8)) × Int × Int × Int × Int) ⊕ (((List Int) × Int × (List (List UInt8)) × Int × Int))) := (bif (decide (x.2.2.2.2.2.2.2 < x.2.2.2.2.2.2.1)) then (f31_l2_l6_j7 a1 x.1 x.2.1 x.2.2.1 x.2.2.2.1 x.2.2.2.2.1 x.2.2.2.2.2.1 x.2.2.2.2.2.2.1 x.2.2.2.2.2.2.2 true) else (f31_l2_l6_j7 a1 x.1 x.2.1 x.2.2.1 x.2.2.2.1 x.2.2.2.2.1 x.2.2.2.2.2.1 x.2.2.2.2.2.2.1 x.2.2.2.2.2.2.2 false))
theorem f31_l2_l6_ok {d : Nat} (hd : 1 ≤ d) (a1 : List UInt8) {r : ((List Int) × (List UInt8) × Int × (List (List UInt8)) × Int × Int × Int × Int) ⊕ (((List Int) × Int × (List (List UInt8)) × Int × Int))} {Q : PX → St → Prop} (hQ : ∀ e st', finL (f31_l2_l6_H a1) (f31_l2_l6_X a1) r e st' → Q e st') {x : (List Int) × (List UInt8) × Int × (List (List UInt8)) × Int × Int × Int × Int} (hS : f31_l2_l6 a1 x = some r) {st : St} (he : f31_l2_l6_H a1 x st) : ZR (lev codes baseL (d - 1)) Q c31_3 [] st := by
  refine zrKeep he ?_
  unfold f31_l2_l6 at hS
  refine zrSeq ?_
  refine zrReg ?_
  refine zlBool (d := 48) (op := (.cmpI .lss (.tmp 47) (.tmp 46))) (g := none) (j := 1) (decide (x.2.2.2.2.2.2.2 < x.2.2.2.2.2.2.1)) rfl (by kernel_rfl) (by kernel_rfl) (by kernel_rfl) (fun hc => ?_) (fun hc => ?_)
  · replace hS := cond_t hc hS
    refine zlEnd (by kernel_rfl) ?_
    refine zkSeq ?_
    exact f31_l2_l6_j7_ok hd a1 hQ x.1 x.2.1 x.2.2.1 x.2.2.2.1 x.2.2.2.2.1 x.2.2.2.2.2.1 x.2.2.2.2.2.2.1 x.2.2.2.2.2.2.2 true hS (by kernel_rfl)
  · replace hS := cond_f hc hS
    refine zlEnd (by kernel_rfl) ?_
    refine zkSeq ?_
    exact f31_l2_l6_j7_ok hd a1 hQ x.1 x.2.1 x.2.2.1 x.2.2.2.1 x.2.2.2.2.1 x.2.2.2.2.2.1 x.2.2.2.2.2.2.1 x.2.2.2.2.2.2.2 false hS (by kernel_rfl)
def f31_l2_j5_J (a1 : List UInt8) (p449 : List Int) (p450 : List UInt8) (p451 : List (List UInt8)) (p452 : Int) (p453 : Int) : St := ⟨(up (up (up (up (up (fun _ => .un) 38 (.d (.int .i64 p453))) 37 (.d (.int .i64 p452))) 36 (.d (.sl p451.length (eStr.cells p451)))) 7 (.d (.str p450))) 5 (.r (.msl 48 0 0 p449.length))), (up (hB fun _ => 0) 48 ⟨0, some (.own 3 1 ((eInt .i64).cells p449))⟩)⟩
noncomputable def f31_l2_j5 (a1 : List UInt8) (p449 : List Int) (p450 : List UInt8) (p451 : List (List UInt8)) (p452 : Int) (p453 : Int) : Option (((List Int) × (List (List UInt8)) × Int × Int) ⊕ (((List Int)))) := ((loopO (f31_l2_l6 a1) (p449, p450, (-1), p451, p452, p453, (p450.length : Int), 0)).bind fun z49 => ((app? 8 z49.1 ([z49.2.1] : List Int)).bind fun z50 => (some (.inl (z50, z49.2.2.1, z49.2.2.2.1, (IntKind.i64.wrap (z49.2.2.2.2 + 1)))))))
theorem f31_l2_j5_ok {d : Nat} (hd : 1 ≤ d) (a1 : List UInt8) {r : ((List Int) × (List (List UInt8)) × Int × Int) ⊕ (((List Int)))} {Q : PX → St → Prop} (hQ : ∀ e st', finL (f31_l2_H a1) (f31_l2_X a1) r e st' → Q e st') (p449 : List Int) (p450 : List UInt8) (p451 : List (List UInt8)) (p452 : Int) (p453 : Int) (hS : f31_l2_j5 a1 p449 p450 p451 p452 p453 = some r) {st : St} (he : keepSt [5, 7, 36, 37, 38] [(48, .id 48)] [] st = f31_l2_j5_J a1 p449 p450 p451 p452 p453) : ZR (lev codes baseL (d - 1)) Q c31_4 [.blk 3, .seq c31_5] st := by
  refine zrKeep he ?_
  unfold f31_l2_j5 at hS
  refine zrSeq ?_
  refine zrReg ?_
  refine zlRun (n := 1) (j := 1) rfl (by kernel_rfl) ?_
  refine zlEnd (by kernel_rfl) ?_
  refine zkSeq ?_
  refine zrSeq ?_
  refine zrSeq ?_
  refine zrReg ?_
  refine zlRun (n := 3) (j := 3) rfl (by kernel_rfl) ?_
  refine zlEnd (by kernel_rfl) ?_
  refine zkSeq ?_
  refine zrBlk ?_
  refine bindE hS (fun z49 hz49 hS => ?_)
  refine zrLoop (f31_l2_l6_H a1) (f31_l2_l6_X a1) (fun x st r Q h0 hS hQ => f31_l2_l6_ok hd a1 hQ hS h0) (x := (p449, p450, (-1), p451, p452, p453, (p450.length : Int), 0)) (z := z49) (by show keepSt _ _ _ _ = _; kernel_rfl) hz49 ?_
  intro e st' _ hX
  obtain ⟨rfl, rfl⟩ : _ ∧ _ := hX
  refine zkBlkX ?_
  refine zkSeq ?_
  refine zrReg ?_
  refine zlRun (n := 3) (j := 3) rfl (by kernel_rfl) ?_
  refine bindE hS (fun z50 hz50 hS => ?_)
  refine zlOp (d := some 64) (op := (.app 3 1 8 (.tmp 61) (.tmp 63))) (g := none) (v := (.r (.msl 48 1 0 z50.length))) (ups := [(48, ⟨1, some (.own 3 1 ((eInt .i64).cells z50))⟩)]) (j := 4) rfl (by kernel_rfl) (by kernel_rfl) (ev_app (eInt .i64) (b := 48) (g := 0) (n := z49.1.length) (xs := z49.1) (ys := [z49.2.1]) ((congrArg (asL _) (by kernel_rfl : ρof _ (.tmp 63) = (.r (.msl 512 1 0 (([z49.2.1] : List Int).length))))).trans (as_whole (eInt .i64) (e := 3) (k := 1) (xs := [z49.2.1]) (by kernel_rfl) rfl rfl)) rfl (by kernel_rfl) rfl (by kernel_rfl) rfl hz50) ?_
  refine zlRun (n := 1) (j := 5) rfl (by kernel_rfl) ?_
  refine zlEnd (by kernel_rfl) ?_
  refine zkBlk ?_
  refine zkSeq ?_
  refine zrReg ?_
  refine zlRun (n := 2) (j := 2) rfl (by kernel_rfl) ?_
  refine zlEnd (by kernel_rfl) ?_
  refine zkNil ?_
  exact endQ hS hQ (finL_n (by show keepSt _ _ _ _ = _; kernel_rfl))
def f31_l2_j4_J (a1 : List UInt8) (p439 : List Int) (p440 : List (List UInt8)) (p441 : Int) (p442 : Int) : St := ⟨(up (up (up (up (fun _ => .un) 38 (.d (.int .i64 p442))) 37 (.d (.int .i64 p441))) 36 (.d (.sl p440.length (eStr.cells p440)))) 5 (.r (.msl 48 0 0 p439.length))), (up (hB fun _ => 0) 48 ⟨0, some (.own 3 1 ((eInt .i64).cells p439))⟩)⟩
noncomputable def f31_l2_j4 (a1 : List UInt8) (p439 : List Int) (p440 : List (List UInt8)) (p441 : Int) (p442 : Int) : Option (((List Int) × (List (List UInt8)) × Int × Int) ⊕ (((List Int)))) := ((idx p440 p442).bind fun z44 => (bif (decide ((p439.length : Int) = 32)) then (some (.inr p439)) else (f31_l2_j5 a1 p439 z44 p440 p441 p442)))
theorem f31_l2_j4_ok {d : Nat} (hd : 1 ≤ d) (a1 : List UInt8) {r : ((List Int) × (List (List UInt8)) × Int × Int) ⊕ (((List Int)))} {Q : PX → St → Prop} (hQ : ∀ e st', finL (f31_l2_H a1) (f31_l2_X a1) r e st' → Q e st') (p439 : List Int) (p440 : List (List UInt8)) (p441 : Int) (p442 : Int) (hS : f31_l2_j4 a1 p439 p440 p441 p442 = some r) {st : St} (he : keepSt [5, 36, 37, 38] [(48, .id 48)] [] st = f31_l2_j4_J a1 p439 p440 p441 p442) : ZR (lev codes baseL (d - 1)) Q c31_6 [] st := by
  refine zrKeep he ?_
  unfold f31_l2_j4 at hS
  refine zrSeq ?_
  refine zrBlk ?_
  refine zrSeq ?_
  refine zrReg ?_
  refine bindE hS (fun z44 hz44 hS => ?_)
  refine zlOp (d := some 40) (op := (.ixS 9 1 (.tmp 36) (.tmp 38))) (g := none) (v := (.rptr (eStr.enc z44 ++ (eStr.cells (p440.drop ((p442 : Int).toNat + 1)))))) (ups := []) (j := 1) rfl (by kernel_rfl) (by kernel_rfl) (ev_ixS eStr (kk := .i64) (xs := p440) (j := p442) (by kernel_rfl) (by kernel_rfl) hz44 rfl (by intro h; cases h)) ?_
  refine zlRun (n := 2) (j := 3) rfl (by kernel_rfl) ?_
  refine zlEnd (by kernel_rfl) ?_
  refine zkSeq ?_
  refine zrSeq ?_
  refine zrSeq ?_
  refine zrReg ?_
  refine zlRun (n := 2) (j := 2) rfl (by kernel_rfl) ?_
  refine zlBool (d := 44) (op := (.cmpI .eql (.tmp 43) (.const (.int .i64 32)))) (g := none) (j := 3) (decide ((p439.length : Int) = 32)) rfl (by kernel_rfl) (by kernel_rfl) (by kernel_rfl) (fun hc => ?_) (fun hc => ?_)
  · replace hS := cond_t hc hS
    refine zlEnd (by kernel_rfl) ?_
    refine zkSeq ?_
    refine zrCondT (by kernel_rfl) ?_
    refine zrKeep (J := f31_l2_e2_J a1 p439) (by kernel_rfl) ?_
    refine zrExit ?_
    refine zkSeqX ?_
    refine zkBlkY rfl ?_
    refine zkSeqX ?_
    refine zkNil ?_
    exact endQ hS hQ (finL_x (by intro h; cases h) (by show _ = _ ∧ _ = _; exact ⟨rfl, rfl⟩))
  · replace hS := cond_f hc hS
    refine zlEnd (by kernel_rfl) ?_
    refine zkSeq ?_
    refine zrCondF (by kernel_rfl) ?_
    refine zrSkip ?_
    refine zkSeq ?_
    exact f31_l2_j5_ok hd a1 hQ p439 z44 p440 p441 p442 hS (by kernel_rfl)
def f31_l2_j3_J (a1 : List UInt8) (p434 : List Int) (p435 : List (List UInt8)) (p436 : Int) (p437 : Int) (p438 : Bool) : St := ⟨(up (up (up (up (up (fun _ => .un) 39 (.d (.bool p438))) 38 (.d (.int .i64 p437))) 37 (.d (.int .i64 p436))) 36 (.d (.sl p435.length (eStr.cells p435)))) 5 (.r (.msl 48 0 0 p434.length))), (up (hB fun _ => 0) 48 ⟨0, some (.own 3 1 ((eInt .i64).cells p434))⟩)⟩
noncomputable def f31_l2_j3 (a1 : List UInt8) (p434 : List Int) (p435 : List (List UInt8)) (p436 : Int) (p437 : Int) (p438 : Bool) : Option (((List Int) × (List (List UInt8)) × Int × Int) ⊕ (((List Int)))) := (bif p438 then (f31_l2_j4 a1 p434 p435 p436 p437) else (some (.inr p434)))
theorem f31_l2_j3_ok {d : Nat} (hd : 1 ≤ d) (a1 : List UInt8) {r : ((List Int) × (List (List UInt8)) × Int × Int) ⊕ (((List Int)))} {Q : PX → St → Prop} (hQ : ∀ e st', finL (f31_l2_H a1) (f31_l2_X a1) r e st' → Q e st') (p434 : List Int) (p435 : List (List UInt8)) (p436 : Int) (p437 : Int) (p438 : Bool) (hS : f31_l2_j3 a1 p434 p435 p436 p437 p438 = some r) {st : St} (he : keepSt [5, 36, 37, 38, 39] [(48, .id 48)] [] st = f31_l2_j3_J a1 p434 p435 p436 p437 p438) : ZR (lev codes baseL (d - 1)) Q c31_7 [] st := by
  refine zrKeep he ?_
  unfold f31_l2_j3 at hS
  refine zrSeq ?_
  refine zrSplit 39 p438 (by kernel_rfl) (fun hc => ?_) (fun hc => ?_)
  · replace hS := cond_t hc hS
    refine zrCondT (by kernel_rfl) ?_
    refine zrSkip ?_
    refine zkSeq ?_
    exact f31_l2_j4_ok hd a1 hQ p434 p435 p436 p437 hS (by kernel_rfl)
  · replace hS := cond_f hc hS
    refine zrCondF (by kernel_rfl) ?_
    refine zrKeep (J := f31_l2_e2_J a1 p434) (by kernel_rfl) ?_
    refine zrExit ?_
    refine zkSeqX ?_
    refine zkNil ?_
    exact endQ hS hQ (finL_x (by intro h; cases h) (by show _ = _ ∧ _ = _; exact ⟨rfl, rfl⟩))
noncomputable def f31_l2 (a1 : List UInt8) (x : (List Int) × (List (List UInt8)) × Int × Int) : Option (((List Int) × (List (List UInt8)) × Int × Int) ⊕ (((List Int)))) := (bif (decide (x.2.2.2 < x.2.2.1)) then (f31_l2_j3 a1 x.1 x.2.1 x.2.2.1 x.2.2.2 true) else (f31_l2_j3 a1 x.1 x.2.1 x.2.2.1 x.2.2.2 false))
theorem f31_l2_ok {d : Nat} (hd : 1 ≤ d) (a1 : List UInt8) {r : ((List Int) × (List (List UInt8)) × Int × Int) ⊕ (((List Int)))} {Q : PX → St → Prop} (hQ : ∀ e st', finL (f31_l2_H a1) (f31_l2_X a1) r e st' → Q e st') {x : (List Int) × (List (List UInt8)) × Int × Int} (hS : f31_l2 a1 x = some r) {st : St} (he : f31_l2_H a1 x st) : ZR (lev codes baseL (d - 1)) Q c31_8 [] st := by
  refine zrKeep he ?_
  unfold f31_l2 at hS
  refine zrSeq ?_
  refine zrReg ?_
  refine zlBool (d := 39) (op := (.cmpI .lss (.tmp 38) (.tmp 37))) (g := none) (j := 1) (decide (x.2.2.2 < x.2.2.1)) rfl (by kernel_rfl) (by kernel_rfl) (by kernel_rfl) (fun hc => ?_) (fun hc => ?_)
  · replace hS := cond_t hc hS
    refine zlEnd (by kernel_rfl) ?_
    refine zkSeq ?_
    exact f31_l2_j3_ok hd a1 hQ x.1 x.2.1 x.2.2.1 x.2.2.2 true hS (by kernel_rfl)
  · replace hS := cond_f hc hS
    refine zlEnd (by kernel_rfl) ?_
    refine zkSeq ?_
    exact f31_l2_j3_ok hd a1 hQ x.1 x.2.1 x.2.2.1 x.2.2.2 false hS (by kernel_rfl)
def f31_j1_J (a1 : List UInt8) : St := ⟨(up (fun _ => .un) 0 (.d (.str a1))), (hB fun _ => 0)⟩
noncomputable def f31_j1 (a1 : List UInt8) : Option ((List Int) × Int) := ((libSplit a1 [59]).bind fun z28 => ((loopO (f31_l2 a1) ([], z28, (z28.length : Int), 0)).bind fun z51 => (some (z51, 0))))
theorem f31_j1_ok {d : Nat} (hd : 1 ≤ d) (a1 : List UInt8) {r : (List Int) × Int} {Q : PX → St → Prop} (hQ : ∀ e st', f31_Q r e st' → Q e st')  (hS : f31_j1 a1 = some r) {st : St} (he : keepSt [0] [] [] st = f31_j1_J a1) : ZR (lev codes baseL (d - 1)) Q c31_9 [] st := by
  refine zrKeep he ?_
  unfold f31_j1 at hS
  refine zrSeq ?_
  refine zrReg ?_
  refine zlRun (n := 1) (j := 1) rfl (by kernel_rfl) ?_
  refine zlEnd (by kernel_rfl) ?_
  refine zkSeq ?_
  refine zrSeq ?_
  refine zrSeq ?_
  refine zrReg ?_
  refine zlRun (n := 1) (j := 1) rfl (by kernel_rfl) ?_
  refine bindE hS (fun z28 hz28 hS => ?_)
  refine zlOp (d := some 36) (op := (.call 50 [(.tmp 35), (.const (.string ⟨#[59]⟩))])) (g := none) (v := (.d (.sl z28.length (eStr.cells z28)))) (ups := []) (j := 2) rfl (by kernel_rfl) (by kernel_rfl) (ev_call (args := [(.d (.str a1)), (.d (.str ([59])))]) (l := [(.d (.str a1)), (.d (.str ([59])))]) (r := (.d (.sl z28.length (eStr.cells z28)))) (by kernel_rfl) (by kernel_rfl) (libSplit_ok (d - 1) (dpt hd rfl) a1 [59] z28 hz28) (by kernel_rfl) (by kernel_rfl) (by kernel_rfl)) ?_
  refine zlRun (n := 2) (j := 4) rfl (by kernel_rfl) ?_
  refine zlEnd (by kernel_rfl) ?_
  refine zkSeq ?_
  refine zrBlk ?_
  refine bindE hS (fun z51 hz51 hS => ?_)
  refine zrLoop (f31_l2_H a1) (f31_l2_X a1) (fun x st r Q h0 hS hQ => f31_l2_ok hd a1 hQ hS h0) (x := ([], z28, (z28.length : Int), 0)) (z := z51) (by show keepSt _ _ _ _ = _; kernel_rfl) hz51 ?_
  intro e st' _ hX
  obtain ⟨rfl, rfl⟩ : _ ∧ _ := hX
  refine zkBlkX ?_
  refine zkSeq ?_
  refine zrSeq ?_
  refine zrReg ?_
  refine zlRun (n := 3) (j := 3) rfl (by kernel_rfl) ?_
  refine zlEnd (by kernel_rfl) ?_
  refine zkSeq ?_
  refine zrRet ?_
  refine zkNil ?_
  exact endQ hS hQ (fRet ((congrArg (fun s => outR s 0 c31.res) (by kernel_rfl : finSt c31.fin _ = f31_fin z51 0)).trans (f31_out z51 0)))
def f31_l9_J (a1 : List UInt8) (x : Int) : St := ⟨(up (up (up (fun _ => .un) 15 (.d (.int .i64 x))) 14 (.d (.int .i64 (a1.length : Int)))) 0 (.d (.str a1))), (hB fun _ => 0)⟩
def f31_l9_H (a1 : List UInt8) (x : Int) (st : St) : Prop := keepSt [0, 14, 15] [] [] st = f31_l9_J a1 x
def f31_l9_e0_J (a1 : List UInt8) : St := ⟨(up (fun _ => .un) 0 (.d (.str a1))), (hB fun _ => 0)⟩
def f31_l9_X (a1 : List UInt8) (z : Unit ⊕ ((List Int) × Int)) (e : PX) (st : St) : Prop := (match z with | .inl z => e = .exit 0 ∧ st = f31_l9_e0_J a1 | .inr z => e = .ret ∧ finSt c31.fin st = f31_fin z.1 z.2)
def f31_l9_j11_J (a1 : List UInt8) (p536 : Int) : St := ⟨(up (up (up (fun _ => .un) 15 (.d (.int .i64 p536))) 14 (.d (.int .i64 (a1.length : Int)))) 0 (.d (.str a1))), (hB fun _ => 0)⟩
noncomputable def f31_l9_j11 (a1 : List UInt8) (p536 : Int) : Option (Int ⊕ (Unit ⊕ ((List Int) × Int))) := ((idx a1 p536).bind fun z52 => (bif (!decide ((z52.toNat : Int) = 59)) then ((idx a1 p536).bind fun z53 => (bif (decide ((z53.toNat : Int) < 48)) then (some (.inr (.inr ([], 4)))) else ((idx a1 p536).bind fun z54 => (bif (decide (57 < (z54.toNat : Int))) then (some (.inr (.inr ([], 4)))) else (some (.inl (IntKind.i64.wrap (p536 + 1)))))))) else (some (.inl (IntKind.i64.wrap (p536 + 1))))))
theorem f31_l9_j11_ok {d : Nat} (hd : 1 ≤ d) (a1 : List UInt8) {r : Int ⊕ (Unit ⊕ ((List Int) × Int))} {Q : PX → St → Prop} (hQ : ∀ e st', finL (f31_l9_H a1) (f31_l9_X a1) r e st' → Q e st') (p536 : Int) (hS : f31_l9_j11 a1 p536 = some r) {st : St} (he : keepSt [0, 14, 15] [] [] st = f31_l9_j11_J a1 p536) : ZR (lev codes baseL (d - 1)) Q c31_10 [] st := by
  refine zrKeep he ?_
  unfold f31_l9_j11 at hS
  refine zrSeq ?_
  refine zrBlk ?_
  refine zrSeq ?_
  refine zrReg ?_
  refine zlRun (n := 2) (j := 2) rfl (by kernel_rfl) ?_
  refine zlEnd (by kernel_rfl) ?_
  refine zkSeq ?_
  refine zrSeq ?_
  refine zrReg ?_
  refine zlRun (n := 2) (j := 2) rfl (by kernel_rfl) ?_
  refine bindE hS (fun z52 hz52 hS => ?_)
  refine zlOp (d := some 20) (op := (.ixStr (.tmp 18) (.tmp 19))) (g := none) (v := (.d (.int .u8 (z52.toNat : Int)))) (ups := []) (j := 3) rfl (by kernel_rfl) (by kernel_rfl) (ev_ixStr (kk := .i64) (s := a1) (j := p536) (by kernel_rfl) (by kernel_rfl) hz52) ?_
  refine zlBool (d := 21) (op := (.cmpI .neq (.tmp 20) (.const (.int .u8 59)))) (g := none) (j := 4) (!decide ((z52.toNat : Int) = 59)) rfl (by kernel_rfl) (by kernel_rfl) (by kernel_rfl) (fun hc => ?_) (fun hc => ?_)
  · replace hS := cond_t hc hS
    refine zlRun (n := 3) (j := 7) rfl (by kernel_rfl) ?_
    refine bindE hS (fun z53 hz53 hS => ?_)
    refine zlOp (d := some 25) (op := (.ixStr (.tmp 23) (.tmp 24))) (g := (some (22, true))) (v := (.d (.int .u8 (z53.toNat : Int)))) (ups := []) (j := 8) rfl (by kernel_rfl) (by kernel_rfl) (ev_ixStr (kk := .i64) (s := a1) (j := p536) (by kernel_rfl) (by kernel_rfl) hz53) ?_
    refine zlBool (d := 26) (op := (.cmpI .lss (.tmp 25) (.const (.int .u8 48)))) (g := (some (22, true))) (j := 9) (decide ((z53.toNat : Int) < 48)) rfl (by kernel_rfl) (by kernel_rfl) (by kernel_rfl) (fun hc => ?_) (fun hc => ?_)
    · replace hS := cond_t hc hS
      refine zlRun (n := 7) (j := 16) rfl (by kernel_rfl) ?_
      refine zlEnd (by kernel_rfl) ?_
      refine zkSeq ?_
      refine zrCondT (by kernel_rfl) ?_
      refine zrSeq ?_
      refine zrReg ?_
      refine zlRun (n := 2) (j := 2) rfl (by kernel_rfl) ?_
      refine zlEnd (by kernel_rfl) ?_
      refine zkSeq ?_
      refine zrRet ?_
      refine zkBlkR ?_
      refine zkSeqR ?_
      refine zkNil ?_
      exact endQ hS hQ (finL_x (by intro h; cases h) (by show _ = _ ∧ _ = _; exact ⟨rfl, by kernel_rfl⟩))
    · replace hS := cond_f hc hS
      refine zlRun (n := 3) (j := 12) rfl (by kernel_rfl) ?_
      refine bindE hS (fun z54 hz54 hS => ?_)
      refine zlOp (d := some 30) (op := (.ixStr (.tmp 28) (.tmp 29))) (g := (some (27, false))) (v := (.d (.int .u8 (z54.toNat : Int)))) (ups := []) (j := 13) rfl (by kernel_rfl) (by kernel_rfl) (ev_ixStr (kk := .i64) (s := a1) (j := p536) (by kernel_rfl) (by kernel_rfl) hz54) ?_
      refine zlBool (d := 31) (op := (.cmpI .gtr (.tmp 30) (.const (.int .u8 57)))) (g := (some (27, false))) (j := 14) (decide (57 < (z54.toNat : Int))) rfl (by kernel_rfl) (by kernel_rfl) (by kernel_rfl) (fun hc => ?_) (fun hc => ?_)
      · replace hS := cond_t hc hS
        refine zlRun (n := 2) (j := 16) rfl (by kernel_rfl) ?_
        refine zlEnd (by kernel_rfl) ?_
        refine zkSeq ?_
        refine zrCondT (by kernel_rfl) ?_
        refine zrSeq ?_
        refine zrReg ?_
        refine zlRun (n := 2) (j := 2) rfl (by kernel_rfl) ?_
        refine zlEnd (by kernel_rfl) ?_
        refine zkSeq ?_
        refine zrRet ?_
        refine zkBlkR ?_
        refine zkSeqR ?_
        refine zkNil ?_
        exact endQ hS hQ (finL_x (by intro h; cases h) (by show _ = _ ∧ _ = _; exact ⟨rfl, by kernel_rfl⟩))
      · replace hS := cond_f hc hS
        refine zlRun (n := 2) (j := 16) rfl (by kernel_rfl) ?_
        refine zlEnd (by kernel_rfl) ?_
        refine zkSeq ?_
        refine zrCondF (by kernel_rfl) ?_
        refine zrSkip ?_
        refine zkBlk ?_
        refine zkSeq ?_
        refine zrReg ?_
        refine zlRun (n := 2) (j := 2) rfl (by kernel_rfl) ?_
        refine zlEnd (by kernel_rfl) ?_
        refine zkNil ?_
        exact endQ hS hQ (finL_n (by show keepSt _ _ _ _ = _; kernel_rfl))
  · replace hS := cond_f hc hS
    refine zlRun (n := 12) (j := 16) rfl (by kernel_rfl) ?_
    refine zlEnd (by kernel_rfl) ?_
    refine zkSeq ?_
    refine zrCondF (by kernel_rfl) ?_
    refine zrSkip ?_
    refine zkBlk ?_
    refine zkSeq ?_
    refine zrReg ?_
    refine zlRun (n := 2) (j := 2) rfl (by kernel_rfl) ?_
    refine zlEnd (by kernel_rfl) ?_
    refine zkNil ?_
    exact endQ hS hQ (finL_n (by show keepSt _ _ _ _ = _; kernel_rfl))
def f31_l9_j10_J (a1 : List UInt8) (p534 : Int) (p535 : Bool) : St := ⟨(up (up (up (up (fun _ => .un) 16 (.d (.bool p535))) 15 (.d (.int .i64 p534))) 14 (.d (.int .i64 (a1.length : Int)))) 0 (.d (.str a1))), (hB fun _ => 0)⟩
noncomputable def f31_l9_j10 (a1 : List UInt8) (p534 : Int) (p535 : Bool) : Option (Int ⊕ (Unit ⊕ ((List Int) × Int))) := (bif p535 then (f31_l9_j11 a1 p534) else (some (.inr (.inl ()))))
theorem f31_l9_j10_ok {d : Nat} (hd : 1 ≤ d) (a1 : List UInt8) {r : Int ⊕ (Unit ⊕ ((List Int) × Int))} {Q : PX → St → Prop} (hQ : ∀ e st', finL (f31_l9_H a1) (f31_l9_X a1) r e st' → Q e st') (p534 : Int) (p535 : Bool) (hS : f31_l9_j10 a1 p534 p535 = some r) {st : St} (he : keepSt [0, 14, 15, 16] [] [] st = f31_l9_j10_J a1 p534 p535) : ZR (lev codes baseL (d - 1)) Q c31_11 [] st := by
  refine zrKeep he ?_
  unfold f31_l9_j10 at hS
  refine zrSeq ?_
  refine zrSplit 16 p535 (by kernel_rfl) (fun hc => ?_) (fun hc => ?_)
  · replace hS := cond_t hc hS
    refine zrCondT (by kernel_rfl) ?_
    refine zrSkip ?_
    refine zkSeq ?_
    exact f31_l9_j11_ok hd a1 hQ p534 hS (by kernel_rfl)
  · replace hS := cond_f hc hS
    refine zrCondF (by kernel_rfl) ?_
    refine zrKeep (J := f31_l9_e0_J a1) (by kernel_rfl) ?_
    refine zrExit ?_
    refine zkSeqX ?_
    refine zkNil ?_
    exact endQ hS hQ (finL_x (by intro h; cases h) (by show _ = _ ∧ _ = _; exact ⟨rfl, rfl⟩))
noncomputable def f31_l9 (a1 : List UInt8) (x : Int) : Option (Int ⊕ (Unit ⊕ ((List Int) × Int))) := (bif (decide (x < (a1.length : Int))) then (f31_l9_j10 a1 x true) else (f31_l9_j10 a1 x false))
theorem f31_l9_ok {d : Nat} (hd : 1 ≤ d) (a1 : List UInt8) {r : Int ⊕ (Unit ⊕ ((List Int) × Int))} {Q : PX → St → Prop} (hQ : ∀ e st', finL (f31_l9_H a1) (f31_l9_X a1) r e st' → Q e st') {x : Int} (hS : f31_l9 a1 x = some r) {st : St} (he : f31_l9_H a1 x st) : ZR (lev codes baseL (d - 1)) Q c31_12 [] st := by
  refine zrKeep he ?_
  unfold f31_l9 at hS
  refine zrSeq ?_
  refine zrReg ?_
  refine zlBool (d := 16) (op := (.cmpI .lss (.tmp 15) (.tmp 14))) (g := none) (j := 1) (decide (x < (a1.length : Int))) rfl (by kernel_rfl) (by kernel_rfl) (by kernel_rfl) (fun hc => ?_) (fun hc => ?_)
  · replace hS := cond_t hc hS
    refine zlEnd (by kernel_rfl) ?_
    refine zkSeq ?_
    exact f31_l9_j10_ok hd a1 hQ x true hS (by kernel_rfl)
  · replace hS := cond_f hc hS
    refine zlEnd (by kernel_rfl) ?_
    refine zkSeq ?_
    exact f31_l9_j10_ok hd a1 hQ x false hS (by kernel_rfl)
def f31_j0_J (a1 : List UInt8) : St := ⟨(up (fun _ => .un) 0 (.d (.str a1))), (hB fun _ => 0)⟩
noncomputable def f31_j0 (a1 : List UInt8) : Option ((List Int) × Int) := ((loopO (f31_l9 a1) 0).bind fun z55 => (Sum.elim (fun z56 => (f31_j1 a1 )) (fun z57 => (some (z57.1, z57.2))) z55))
theorem f31_j0_ok {d : Nat} (hd : 1 ≤ d) (a1 : List UInt8) {r : (List Int) × Int} {Q : PX → St → Prop} (hQ : ∀ e st', f31_Q r e st' → Q e st')  (hS : f31_j0 a1 = some r) {st : St} (he : keepSt [0] [] [] st = f31_j0_J a1) : ZR (lev codes baseL (d - 1)) Q c31_13 [] st := by
  refine zrKeep he ?_
  unfold f31_j0 at hS
  refine zrSeq ?_
  refine zrSeq ?_
  refine zrReg ?_
  refine zlRun (n := 3) (j := 3) rfl (by kernel_rfl) ?_
  refine zlEnd (by kernel_rfl) ?_
  refine zkSeq ?_
  refine zrBlk ?_
  refine bindE hS (fun z55 hz55 hS => ?_)
  refine zrLoop (f31_l9_H a1) (f31_l9_X a1) (fun x st r Q h0 hS hQ => f31_l9_ok hd a1 hQ hS h0) (x := 0) (z := z55) (by show keepSt _ _ _ _ = _; kernel_rfl) hz55 ?_
  rcases z55 with z56 | z57
  · replace hS := (show _ = _ from hS)
    simp only [Sum.elim_inl] at hS
    intro e st' _ hX
    obtain ⟨rfl, rfl⟩ : _ ∧ _ := hX
    refine zkBlkX ?_
    refine zkSeq ?_
    exact f31_j1_ok hd a1 hQ  hS (by kernel_rfl)
  · simp only [Sum.elim_inr] at hS
    intro e st' _ hX
    obtain ⟨rfl, hX⟩ : _ ∧ _ := hX
    refine zkBlkR ?_
    refine zkSeqR ?_
    refine zkNil ?_
    exact endQ hS hQ (fRet ((congrArg (fun s => outR s 0 c31.res) hX).trans (f31_out z57.1 z57.2)))
noncomputable def f31 (a1 : List UInt8) : Option ((List Int) × Int) := ((libTrim a1 [48, 49, 50, 51, 52, 53, 54, 55, 56, 57, 59]).bind fun z58 => (bif (!decide (z58 = ([] : List UInt8))) then (some ([], 4)) else (f31_j0 a1 )))
theorem f31_ok (d : Nat) (hd : 1 ≤ d) (a1 : List UInt8) (r : (List Int) × Int) (hS : f31 a1 = some r) : lev codes baseL d 31 [(.d (.str a1))] [] = some ((.tup [(.r (.own 0 3 1 r.1.length ((eInt .i64).cells r.1))), (.d (.int .i64 r.2))]), []) := by
  refine lev_go codes31 rfl rfl (Nat.le_trans (Nat.le_of_ble_eq_true rfl) hd) fun Q hQ => ?_
  unfold f31 at hS
  show ZR _ Q c31_b [] _
  replace hQ : ∀ e st', f31_Q r e st' → Q e st' := hQ
  refine zrSeq ?_
  refine zrReg ?_
  refine zlRun (n := 2) (j := 2) rfl (by kernel_rfl) ?_
  refine zlEnd (by kernel_rfl) ?_
  refine zkSeq ?_
  refine zrSeq ?_
  refine zrSeq ?_
  refine zrReg ?_
  refine zlRun (n := 1) (j := 1) rfl (by kernel_rfl) ?_
  refine bindE hS (fun z58 hz58 hS => ?_)
  refine zlOp (d := some 11) (op := (.call 63 [(.tmp 10), (.const (.string ⟨#[48, 49, 50, 51, 52, 53, 54, 55, 56, 57, 59]⟩))])) (g := none) (v := (.d (.str z58))) (ups := []) (j := 2) rfl (by kernel_rfl) (by kernel_rfl) (ev_call (args := [(.d (.str a1)), (.d (.str ([48, 49, 50, 51, 52, 53, 54, 55, 56, 57, 59])))]) (l := [(.d (.str a1)), (.d (.str ([48, 49, 50, 51, 52, 53, 54, 55, 56, 57, 59])))]) (r := (.d (.str z58))) (by kernel_rfl) (by kernel_rfl) (libTrim_ok (d - 1) (dpt hd rfl) a1 [48, 49, 50, 51, 52, 53, 54, 55, 56, 57, 59] z58 hz58) (by kernel_rfl) (by kernel_rfl) (by kernel_rfl)) ?_
  refine zlBool (d := 12) (op := (.strO .neq (.tmp 11) (.const (.string ⟨#[]⟩)))) (g := none) (j := 3) (!decide (z58 = ([] : List UInt8))) rfl (by kernel_rfl) (by kernel_rfl) (by kernel_rfl) (fun hc => ?_) (fun hc => ?_)
  · replace hS := cond_t hc hS
    refine zlEnd (by kernel_rfl) ?_
    refine zkSeq ?_
    refine zrCondT (by kernel_rfl) ?_
    refine zrSeq ?_
    refine zrReg ?_
    refine zlRun (n := 2) (j := 2) rfl (by kernel_rfl) ?_
    refine zlEnd (by kernel_rfl) ?_
    refine zkSeq ?_
    refine zrRet ?_
    refine zkSeqR ?_
    refine zkNil ?_
    exact endQ hS hQ (fRet ((congrArg (fun s => outR s 0 c31.res) (by kernel_rfl : finSt c31.fin _ = f31_fin [] 4)).trans (f31_out [] 4)))
  · replace hS := cond_f hc hS
    refine zlEnd (by kernel_rfl) ?_
    refine zkSeq ?_
    refine zrCondF (by kernel_rfl) ?_
    refine zrSkip ?_
    refine zkSeq ?_
    exact f31_j0_ok hd a1 hQ  hS (by kernel_rfl)
/- farwriter/parse.within -/
def f32_fin (p3 : Bool) : St := ⟨(up (fun _ => .un) 6 (.d (.bool p3))), (hB fun _ => 0)⟩
theorem f32_out (p3 : Bool) : outR (f32_fin p3) 0 c32.res = some ((.d (.bool p3)), []) := by
  kernel_rfl
def f32_Q (r : Bool) (e : PX) (st : St) : Prop := DoneF c32 0 ((.d (.bool r)), []) e st
noncomputable def f32 (a1 : Int) (a2 : Int) (a3 : Int) : Option (Bool) := (bif (decide (a2 ≤ a1)) then (bif (decide (a1 ≤ a3)) then (some true) else (some false)) else (some false))
theorem f32_ok (d : Nat) (hd : 1 ≤ d) (a1 : Int) (a2 : Int) (a3 : Int) (r : Bool) (hS : f32 a1 a2 a3 = some r) : lev codes baseL d 32 [(.d (.int .i64 a1)), (.d (.int .i64 a2)), (.d (.int .i64 a3))] [] = some ((.d (.bool r)), []) := by
  refine lev_go codes32 rfl rfl (Nat.le_trans (Nat.le_of_ble_eq_true rfl) hd) fun Q hQ => ?_
  unfold f32 at hS
  show ZR _ Q c32_b [] _
  replace hQ : ∀ e st', f32_Q r e st' → Q e st' := hQ
  refine zrSeq ?_
  refine zrReg ?_
  refine zlRun (n := 1) (j := 1) rfl (by kernel_rfl) ?_
  refine zlEnd (by kernel_rfl) ?_
  refine zkSeq ?_
  refine zrSeq ?_
  refine zrReg ?_
  refine zlRun (n := 2) (j := 2) rfl (by kernel_rfl) ?_
  refine zlBool (d := 9) (op := (.cmpI .geq (.tmp 7) (.tmp 8))) (g := none) (j := 3) (decide (a2 ≤ a1)) rfl (by kernel_rfl) (by kernel_rfl) (by kernel_rfl) (fun hc => ?_) (fun hc => ?_)
  · replace hS := cond_t hc hS
    refine zlRun (n := 3) (j := 6) rfl (by kernel_rfl) ?_
    refine zlBool (d := 13) (op := (.cmpI .leq (.tmp 11) (.tmp 12))) (g := (some (10, true))) (j := 7) (decide (a1 ≤ a3)) rfl (by kernel_rfl) (by kernel_rfl) (by kernel_rfl) (fun hc => ?_) (fun hc => ?_)
    · replace hS := cond_t hc hS
      refine zlRun (n := 2) (j := 9) rfl (by kernel_rfl) ?_
      refine zlEnd (by kernel_rfl) ?_
      refine zkSeq ?_
      refine zrRet ?_
      refine zkNil ?_
      exact endQ hS hQ (fRet ((congrArg (fun s => outR s 0 c32.res) (by kernel_rfl : finSt c32.fin _ = f32_fin true)).trans (f32_out true)))
    · replace hS := cond_f hc hS
      refine zlRun (n := 2) (j := 9) rfl (by kernel_rfl) ?_
      refine zlEnd (by kernel_rfl) ?_
      refine zkSeq ?_
      refine zrRet ?_
      refine zkNil ?_
      exact endQ hS hQ (fRet ((congrArg (fun s => outR s 0 c32.res) (by kernel_rfl : finSt c32.fin _ = f32_fin false)).trans (f32_out false)))
  · replace hS := cond_f hc hS
    refine zlRun (n := 6) (j := 9) rfl (by kernel_rfl) ?_
    refine zlEnd (by kernel_rfl) ?_
    refine zkSeq ?_
    refine zrRet ?_
    refine zkNil ?_
    exact endQ hS hQ (fRet ((congrArg (fun s => outR s 0 c32.res) (by kernel_rfl : finSt c32.fin _ = f32_fin false)).trans (f32_out false)))
/- farwriter/parse.inters -/
def f33_fin (p9 : Bool) : St := ⟨(up (fun _ => .un) 4 (.d (.bool p9))), (hB fun _ => 0)⟩
theorem f33_out (p9 : Bool) : outR (f33_fin p9) 0 c33.res = some ((.d (.bool p9)), []) := by
  kernel_rfl
def f33_Q (r : Bool) (e : PX) (st : St) : Prop := DoneF c33 0 ((.d (.bool r)), []) e st
def f33_l0_J (a1 : List UInt8) (a2 : Int) (x : Int) : St := ⟨(up (up (up (up (fun _ => .un) 8 (.d (.int .i64 x))) 7 (.d (.int .i64 (a1.length : Int)))) 1 (.d (.int .i64 a2))) 0 (.d (.str a1))), (hB fun _ => 0)⟩
def f33_l0_H (a1 : List UInt8) (a2 : Int) (x : Int) (st : St) : Prop := keepSt [0, 1, 7, 8] [] [] st = f33_l0_J a1 a2 x
def f33_l0_e0_J (a1 : List UInt8) (a2 : Int) : St := ⟨(up (up (fun _ => .un) 1 (.d (.int .i64 a2))) 0 (.d (.str a1))), (hB fun _ => 0)⟩
def f33_l0_X (a1 : List UInt8) (a2 : Int) (z : Unit ⊕ Bool) (e : PX) (st : St) : Prop := (match z with | .inl z => e = .exit 0 ∧ st = f33_l0_e0_J a1 a2 | .inr z => e = .ret ∧ finSt c33.fin st = f33_fin z)
def f33_l0_j2_J (a1 : List UInt8) (a2 : Int) (p14 : Int) : St := ⟨(up (up (up (up (fun _ => .un) 8 (.d (.int .i64 p14))) 7 (.d (.int .i64 (a1.length : Int)))) 1 (.d (.int .i64 a2))) 0 (.d (.str a1))), (hB fun _ => 0)⟩
noncomputable def f33_l0_j2 (a1 : List UInt8) (a2 : Int) (p14 : Int) : Option (Int ⊕ (Unit ⊕ Bool)) := ((idx a1 p14).bind fun z7 => ((f32 (z7.toNat : Int) 32 47).bind fun z8 => (bif (!z8) then (some (.inr (.inr false))) else (some (.inl (IntKind.i64.wrap (p14 + 1)))))))
theorem f33_l0_j2_ok {d : Nat} (hd : 2 ≤ d) (a1 : List UInt8) (a2 : Int) {r : Int ⊕ (Unit ⊕ Bool)} {Q : PX → St → Prop} (hQ : ∀ e st', finL (f33_l0_H a1 a2) (f33_l0_X a1 a2) r e st' → Q e st') (p14 : Int) (hS : f33_l0_j2 a1 a2 p14 = some r) {st : St} (he : keepSt [0, 1, 7, 8] [] [] st = f33_l0_j2_J a1 a2 p14) : ZR (lev codes baseL (d - 1)) Q c33_1 [] st := by
  refine zrKeep he ?_
  unfold f33_l0_j2 at hS
  refine zrSeq ?_
  refine zrBlk ?_
  refine zrSeq ?_
  refine zrReg ?_
  refine zlRun (n := 2) (j := 2) rfl (by kernel_rfl) ?_
  refine zlEnd (by kernel_rfl) ?_
  refine zkSeq ?_
  refine zrSeq ?_
  refine zrReg ?_
  refine zlRun (n := 2) (j := 2) rfl (by kernel_rfl) ?_
  refine bindE hS (fun z7 hz7 hS => ?_)
  refine zlOp (d := some 13) (op := (.ixStr (.tmp 11) (.tmp 12))) (g := none) (v := (.d (.int .u8 (z7.toNat : Int)))) (ups := []) (j := 3) rfl (by kernel_rfl) (by kernel_rfl) (ev_ixStr (kk := .i64) (s := a1) (j := p14) (by kernel_rfl) (by kernel_rfl) hz7) ?_
  refine zlOp (d := some 14) (op := (.cvI .i64 (.tmp 13))) (g := none) (v := (.d (.int .i64 (z7.toNat : Int)))) (ups := []) (j := 4) rfl (by kernel_rfl) (by kernel_rfl) (ev_cv (kk := .u8) (a := (z7.toNat : Int)) (by kernel_rfl) (cv_i64 _)) ?_
  refine bindE hS (fun z8 hz8 hS => ?_)
  refine zlOp (d := some 15) (op := (.call 32 [(.tmp 14), (.const (.int .i64 32)), (.const (.int .i64 47))])) (g := none) (v := (.d (.bool z8))) (ups := []) (j := 5) rfl (by kernel_rfl) (by kernel_rfl) (ev_call (args := [(.d (.int .i64 (z7.toNat : Int))), (.d (.int .i64 32)), (.d (.int .i64 47))]) (l := [(.d (.int .i64 (z7.toNat : Int))), (.d (.int .i64 32)), (.d (.int .i64 47))]) (r := (.d (.bool z8))) (by kernel_rfl) (by kernel_rfl) (f32_ok (d - 1) (dpt hd rfl) (z7.toNat : Int) 32 47 z8 hz8) (by kernel_rfl) (by kernel_rfl) (by kernel_rfl)) ?_
  refine zlRun (n := 1) (j := 6) rfl (by kernel_rfl) ?_
  refine zlEnd (by kernel_rfl) ?_
  refine zkSeq ?_
  refine zrSplit 16 (!z8) (by kernel_rfl) (fun hc => ?_) (fun hc => ?_)
  · replace hS := cond_t hc hS
    refine zrCondT (by kernel_rfl) ?_
    refine zrSeq ?_
    refine zrReg ?_
    refine zlRun (n := 1) (j := 1) rfl (by kernel_rfl) ?_
    refine zlEnd (by kernel_rfl) ?_
    refine zkSeq ?_
    refine zrRet ?_
    refine zkBlkR ?_
    refine zkSeqR ?_
    refine zkNil ?_
    exact endQ hS hQ (finL_x (by intro h; cases h) (by show _ = _ ∧ _ = _; exact ⟨rfl, by kernel_rfl⟩))
  · replace hS := cond_f hc hS
    refine zrCondF (by kernel_rfl) ?_
    refine zrSkip ?_
    refine zkBlk ?_
    refine zkSeq ?_
    refine zrReg ?_
    refine zlRun (n := 2) (j := 2) rfl (by kernel_rfl) ?_
    refine zlEnd (by kernel_rfl) ?_
    refine zkNil ?_
    exact endQ hS hQ (finL_n (by show keepSt _ _ _ _ = _; kernel_rfl))
def f33_l0_j1_J (a1 : List UInt8) (a2 : Int) (p12 : Int) (p13 : Bool) : St := ⟨(up (up (up (up (up (fun _ => .un) 9 (.d (.bool p13))) 8 (.d (.int .i64 p12))) 7 (.d (.int .i64 (a1.length : Int)))) 1 (.d (.int .i64 a2))) 0 (.d (.str a1))), (hB fun _ => 0)⟩
noncomputable def f33_l0_j1 (a1 : List UInt8) (a2 : Int) (p12 : Int) (p13 : Bool) : Option (Int ⊕ (Unit ⊕ Bool)) := (bif p13 then (f33_l0_j2 a1 a2 p12) else (some (.inr (.inl ()))))
theorem f33_l0_j1_ok {d : Nat} (hd : 2 ≤ d) (a1 : List UInt8) (a2 : Int) {r : Int ⊕ (Unit ⊕ Bool)} {Q : PX → St → Prop} (hQ : ∀ e st', finL (f33_l0_H a1 a2) (f33_l0_X a1 a2) r e st' → Q e st') (p12 : Int) (p13 : Bool) (hS : f33_l0_j1 a1 a2 p12 p13 = some r) {st : St} (he : keepSt [0, 1, 7, 8, 9] [] [] st = f33_l0_j1_J a1 a2 p12 p13) : ZR (lev codes baseL (d - 1)) Q c33_2 [] st := by
  refine zrKeep he ?_
  unfold f33_l0_j1 at hS
  refine zrSeq ?_
  refine zrSplit 9 p13 (by kernel_rfl) (fun hc => ?_) (fun hc => ?_)
  · replace hS := cond_t hc hS
    refine zrCondT (by kernel_rfl) ?_
    refine zrSkip ?_
    refine zkSeq ?_
    exact f33_l0_j2_ok hd a1 a2 hQ p12 hS (by kernel_rfl)
  · replace hS := cond_f hc hS
    refine zrCondF (by kernel_rfl) ?_
    refine zrKeep (J := f33_l0_e0_J a1 a2) (by kernel_rfl) ?_
    refine zrExit ?_
    refine zkSeqX ?_
    refine zkNil ?_
    exact endQ hS hQ (finL_x (by intro h; cases h) (by show _ = _ ∧ _ = _; exact ⟨rfl, rfl⟩))
noncomputable def f33_l0 (a1 : List UInt8) (a2 : Int) (x : Int) : Option (Int ⊕ (Unit ⊕ Bool)) := (bif (decide (x < (a1.length : Int))) then (f33_l0_j1 a1 a2 x true) else (f33_l0_j1 a1 a2 x false))
theorem f33_l0_ok {d : Nat} (hd : 2 ≤ d) (a1 : List UInt8) (a2 : Int) {r : Int ⊕ (Unit ⊕ Bool)} {Q : PX → St → Prop} (hQ : ∀ e st', finL (f33_l0_H a1 a2) (f33_l0_X a1 a2) r e st' → Q e st') {x : Int} (hS : f33_l0 a1 a2 x = some r) {st : St} (he : f33_l0_H a1 a2 x st) : ZR (lev codes baseL (d - 1)) Q c33_3 [] st := by
  refine zrKeep he ?_
  unfold f33_l0 at hS
  refine zrSeq ?_
  refine zrReg ?_
  refine zlBool (d := 9) (op := (.cmpI .lss (.tmp 8) (.tmp 7))) (g := none) (j := 1) (decide (x < (a1.length : Int))) rfl (by kernel_rfl) (by kernel_rfl) (by kernel_rfl) (fun hc => ?_) (fun hc => ?_)
  · replace hS := cond_t hc hS
    refine zlEnd (by kernel_rfl) ?_
    refine zkSeq ?_
    exact f33_l0_j1_ok hd a1 a2 hQ x true hS (by kernel_rfl)
  · replace hS := cond_f hc hS
    refine zlEnd (by kernel_rfl) ?_
    refine zkSeq ?_
    exact f33_l0_j1_ok hd a1 a2 hQ x false hS (by kernel_rfl)
noncomputable def f33 (a1 : List UInt8) (a2 : Int) : Option (Bool) := ((loopO (f33_l0 a1 a2) 0).bind fun z9 => (Sum.elim (fun z10 => (bif (decide ((a1.length : Int) ≤ a2)) then (some true) else (some false))) (fun z11 => (some z11)) z9))
theorem f33_ok (d : Nat) (hd : 2 ≤ d) (a1 : List UInt8) (a2 : Int) (r : Bool) (hS : f33 a1 a2 = some r) : lev codes baseL d 33 [(.d (.str a1)), (.d (.int .i64 a2))] [] = some ((.d (.bool r)), []) := by
  refine lev_go codes33 rfl rfl (Nat.le_trans (Nat.le_of_ble_eq_true rfl) hd) fun Q hQ => ?_
  unfold f33 at hS
  show ZR _ Q c33_b [] _
  replace hQ : ∀ e st', f33_Q r e st' → Q e st' := hQ
  refine zrSeq ?_
  refine zrReg ?_
  refine zlRun (n := 1) (j := 1) rfl (by kernel_rfl) ?_
  refine zlEnd (by kernel_rfl) ?_
  refine zkSeq ?_
  refine zrSeq ?_
  refine zrSeq ?_
  refine zrReg ?_
  refine zlRun (n := 3) (j := 3) rfl (by kernel_rfl) ?_
  refine zlEnd (by kernel_rfl) ?_
  refine zkSeq ?_
  refine zrBlk ?_
  refine bindE hS (fun z9 hz9 hS => ?_)
  refine zrLoop (f33_l0_H a1 a2) (f33_l0_X a1 a2) (fun x st r Q h0 hS hQ => f33_l0_ok hd a1 a2 hQ hS h0) (x := 0) (z := z9) (by show keepSt _ _ _ _ = _; kernel_rfl) hz9 ?_
  rcases z9 with z10 | z11
  · replace hS := (show _ = _ from hS)
    simp only [Sum.elim_inl] at hS
    intro e st' _ hX
    obtain ⟨rfl, rfl⟩ : _ ∧ _ := hX
    refine zkBlkX ?_
    refine zkSeq ?_
    refine zrSeq ?_
    refine zrReg ?_
    refine zlRun (n := 3) (j := 3) rfl (by kernel_rfl) ?_
    refine zlBool (d := 21) (op := (.cmpI .leq (.tmp 19) (.tmp 20))) (g := none) (j := 4) (decide ((a1.length : Int) ≤ a2)) rfl (by kernel_rfl) (by kernel_rfl) (by kernel_rfl) (fun hc => ?_) (fun hc => ?_)
    · replace hS := cond_t hc hS
      refine zlRun (n := 1) (j := 5) rfl (by kernel_rfl) ?_
      refine zlEnd (by kernel_rfl) ?_
      refine zkSeq ?_
      refine zrRet ?_
      refine zkNil ?_
      exact endQ hS hQ (fRet ((congrArg (fun s => outR s 0 c33.res) (by kernel_rfl : finSt c33.fin _ = f33_fin true)).trans (f33_out true)))
    · replace hS := cond_f hc hS
      refine zlRun (n := 1) (j := 5) rfl (by kernel_rfl) ?_
      refine zlEnd (by kernel_rfl) ?_
      refine zkSeq ?_
      refine zrRet ?_
      refine zkNil ?_
      exact endQ hS hQ (fRet ((congrArg (fun s => outR s 0 c33.res) (by kernel_rfl : finSt c33.fin _ = f33_fin false)).trans (f33_out false)))
  · simp only [Sum.elim_inr] at hS
    intro e st' _ hX
    obtain ⟨rfl, hX⟩ : _ ∧ _ := hX
    refine zkBlkR ?_
    refine zkSeqR ?_
    refine zkNil ?_
    exact endQ hS hQ (fRet ((congrArg (fun s => outR s 0 c33.res) hX).trans (f33_out z11)))
/- farwriter/parse.Check -/
def f15_fin (p32 : Int) : St := ⟨(up (fun _ => .un) 2 (.d (.int .i64 p32))), (hB fun _ => 0)⟩
theorem f15_out (p32 : Int) : outR (f15_fin p32) 0 c15.res = some ((.d (.int .i64 p32)), []) := by
  kernel_rfl
def f15_Q (r : Int) (e : PX) (st : St) : Prop := DoneF c15 0 ((.d (.int .i64 r)), []) e st
def f15_j3_J (a1 : GParser) (p67 : Bool) : St := ⟨(up (up (fun _ => .un) 6 (.d (.bool p67))) 1 (.r (.ptr 16 0 0))), (up (hB fun _ => 0) 16 ⟨0, some (.box ((.d (.int .i64 a1.State)) :: ((.d (.int .i64 a1.Mark)) :: ((.d (.str a1.Inter)) :: ((.d (.str a1.Args)) :: ((.d (.str a1.Text)) :: []))))))⟩)⟩
noncomputable def f15_j3 (a1 : GParser) (p67 : Bool) : Option (Int) := (bif p67 then (bif (decide ((a1.Text.length : Int) ≤ 256)) then (bif (decide (a1.Text = ([] : List UInt8))) then (some 0) else (bif (decide (a1.State = 7)) then (some 0) else (bif (decide (a1.State = 8)) then (some 0) else (some 4)))) else (some 4)) else (some 4))
theorem f15_j3_ok {d : Nat} (hd : 3 ≤ d) (a1 : GParser) {r : Int} {Q : PX → St → Prop} (hQ : ∀ e st', f15_Q r e st' → Q e st') (p67 : Bool) (hS : f15_j3 a1 p67 = some r) {st : St} (he : keepSt [1, 6] [(16, .id 16)] [] st = f15_j3_J a1 p67) : ZR (lev codes baseL (d - 1)) Q c15_1 [] st := by
  refine zrKeep he ?_
  unfold f15_j3 at hS
  refine zrSeq ?_
  refine zrReg ?_
  refine zlRun (n := 2) (j := 2) rfl (by kernel_rfl) ?_
  refine zlSplit 85 p67 (by kernel_rfl) (fun hc => ?_) (fun hc => ?_)
  · replace hS := cond_t hc hS
    refine zlRun (n := 3) (j := 5) rfl (by kernel_rfl) ?_
    refine zlBool (d := 89) (op := (.cmpI .leq (.tmp 88) (.const (.int .i64 256)))) (g := (some (85, true))) (j := 6) (decide ((a1.Text.length : Int) ≤ 256)) rfl (by kernel_rfl) (by kernel_rfl) (by kernel_rfl) (fun hc => ?_) (fun hc => ?_)
    · replace hS := cond_t hc hS
      refine zlRun (n := 4) (j := 10) rfl (by kernel_rfl) ?_
      refine zlBool (d := 94) (op := (.strO .eql (.tmp 93) (.const (.string ⟨#[]⟩)))) (g := (some (91, true))) (j := 11) (decide (a1.Text = ([] : List UInt8))) rfl (by kernel_rfl) (by kernel_rfl) (by kernel_rfl) (fun hc => ?_) (fun hc => ?_)
      · replace hS := cond_t hc hS
        refine zlRun (n := 12) (j := 23) rfl (by kernel_rfl) ?_
        refine zlEnd (by kernel_rfl) ?_
        refine zkSeq ?_
        refine zrSeq ?_
        refine zrSeq ?_
        refine zrReg ?_
        refine zlRun (n := 2) (j := 2) rfl (by kernel_rfl) ?_
        refine zlEnd (by kernel_rfl) ?_
        refine zkSeq ?_
        refine zrCondF (by kernel_rfl) ?_
        refine zrSkip ?_
        refine zkSeq ?_
        refine zrSeq ?_
        refine zrReg ?_
        refine zlRun (n := 1) (j := 1) rfl (by kernel_rfl) ?_
        refine zlEnd (by kernel_rfl) ?_
        refine zkSeq ?_
        refine zrRet ?_
        refine zkNil ?_
        exact endQ hS hQ (fRet ((congrArg (fun s => outR s 0 c15.res) (by kernel_rfl : finSt c15.fin _ = f15_fin 0)).trans (f15_out 0)))
      · replace hS := cond_f hc hS
        refine zlRun (n := 3) (j := 14) rfl (by kernel_rfl) ?_
        refine zlBool (d := 98) (op := (.cmpI .eql (.tmp 97) (.const (.int .i64 7)))) (g := (some (95, false))) (j := 15) (decide (a1.State = 7)) rfl (by kernel_rfl) (by kernel_rfl) (by kernel_rfl) (fun hc => ?_) (fun hc => ?_)
        · replace hS := cond_t hc hS
          refine zlRun (n := 8) (j := 23) rfl (by kernel_rfl) ?_
          refine zlEnd (by kernel_rfl) ?_
          refine zkSeq ?_
          refine zrSeq ?_
          refine zrSeq ?_
          refine zrReg ?_
          refine zlRun (n := 2) (j := 2) rfl (by kernel_rfl) ?_
          refine zlEnd (by kernel_rfl) ?_
          refine zkSeq ?_
          refine zrCondF (by kernel_rfl) ?_
          refine zrSkip ?_
          refine zkSeq ?_
          refine zrSeq ?_
          refine zrReg ?_
          refine zlRun (n := 1) (j := 1) rfl (by kernel_rfl) ?_
          refine zlEnd (by kernel_rfl) ?_
          refine zkSeq ?_
          refine zrRet ?_
          refine zkNil ?_
          exact endQ hS hQ (fRet ((congrArg (fun s => outR s 0 c15.res) (by kernel_rfl : finSt c15.fin _ = f15_fin 0)).trans (f15_out 0)))
        · replace hS := cond_f hc hS
          refine zlRun (n := 4) (j := 19) rfl (by kernel_rfl) ?_
          refine zlBool (d := 103) (op := (.cmpI .eql (.tmp 102) (.const (.int .i64 8)))) (g := (some (100, false))) (j := 20) (decide (a1.State = 8)) rfl (by kernel_rfl) (by kernel_rfl) (by kernel_rfl) (fun hc => ?_) (fun hc => ?_)
          · replace hS := cond_t hc hS
            refine zlRun (n := 3) (j := 23) rfl (by kernel_rfl) ?_
            refine zlEnd (by kernel_rfl) ?_
            refine zkSeq ?_
            refine zrSeq ?_
            refine zrSeq ?_
            refine zrReg ?_
            refine zlRun (n := 2) (j := 2) rfl (by kernel_rfl) ?_
            refine zlEnd (by kernel_rfl) ?_
            refine zkSeq ?_
            refine zrCondF (by kernel_rfl) ?_
            refine zrSkip ?_
            refine zkSeq ?_
            refine zrSeq ?_
            refine zrReg ?_
            refine zlRun (n := 1) (j := 1) rfl (by kernel_rfl) ?_
            refine zlEnd (by kernel_rfl) ?_
            refine zkSeq ?_
            refine zrRet ?_
            refine zkNil ?_
            exact endQ hS hQ (fRet ((congrArg (fun s => outR s 0 c15.res) (by kernel_rfl : finSt c15.fin _ = f15_fin 0)).trans (f15_out 0)))
          · replace hS := cond_f hc hS
            refine zlRun (n := 3) (j := 23) rfl (by kernel_rfl) ?_
            refine zlEnd (by kernel_rfl) ?_
            refine zkSeq ?_
            refine zrSeq ?_
            refine zrSeq ?_
            refine zrReg ?_
            refine zlRun (n := 2) (j := 2) rfl (by kernel_rfl) ?_
            refine zlEnd (by kernel_rfl) ?_
            refine zkSeq ?_
            refine zrCondT (by kernel_rfl) ?_
            refine zrSeq ?_
            refine zrReg ?_
            refine zlRun (n := 1) (j := 1) rfl (by kernel_rfl) ?_
            refine zlEnd (by kernel_rfl) ?_
            refine zkSeq ?_
            refine zrRet ?_
            refine zkSeqR ?_
            refine zkNil ?_
            exact endQ hS hQ (fRet ((congrArg (fun s => outR s 0 c15.res) (by kernel_rfl : finSt c15.fin _ = f15_fin 4)).trans (f15_out 4)))
    · replace hS := cond_f hc hS
      refine zlRun (n := 17) (j := 23) rfl (by kernel_rfl) ?_
      refine zlEnd (by kernel_rfl) ?_
      refine zkSeq ?_
      refine zrSeq ?_
      refine zrSeq ?_
      refine zrReg ?_
      refine zlRun (n := 2) (j := 2) rfl (by kernel_rfl) ?_
      refine zlEnd (by kernel_rfl) ?_
      refine zkSeq ?_
      refine zrCondT (by kernel_rfl) ?_
      refine zrSeq ?_
      refine zrReg ?_
      refine zlRun (n := 1) (j := 1) rfl (by kernel_rfl) ?_
      refine zlEnd (by kernel_rfl) ?_
      refine zkSeq ?_
      refine zrRet ?_
      refine zkSeqR ?_
      refine zkNil ?_
      exact endQ hS hQ (fRet ((congrArg (fun s => outR s 0 c15.res) (by kernel_rfl : finSt c15.fin _ = f15_fin 4)).trans (f15_out 4)))
  · replace hS := cond_f hc hS
    refine zlRun (n := 21) (j := 23) rfl (by kernel_rfl) ?_
    refine zlEnd (by kernel_rfl) ?_
    refine zkSeq ?_
    refine zrSeq ?_
    refine zrSeq ?_
    refine zrReg ?_
    refine zlRun (n := 2) (j := 2) rfl (by kernel_rfl) ?_
    refine zlEnd (by kernel_rfl) ?_
    refine zkSeq ?_
    refine zrCondT (by kernel_rfl) ?_
    refine zrSeq ?_
    refine zrReg ?_
    refine zlRun (n := 1) (j := 1) rfl (by kernel_rfl) ?_
    refine zlEnd (by kernel_rfl) ?_
    refine zkSeq ?_
    refine zrRet ?_
    refine zkSeqR ?_
    refine zkNil ?_
    exact endQ hS hQ (fRet ((congrArg (fun s => outR s 0 c15.res) (by kernel_rfl : finSt c15.fin _ = f15_fin 4)).trans (f15_out 4)))
def f15_j2_J (a1 : GParser) (p61 : Int) (p62 : Bool) : St := ⟨(up (up (up (fun _ => .un) 6 (.d (.bool p62))) 5 (.d (.int .i64 p61))) 1 (.r (.ptr 16 0 0))), (up (hB fun _ => 0) 16 ⟨0, some (.box ((.d (.int .i64 a1.State)) :: ((.d (.int .i64 a1.Mark)) :: ((.d (.str a1.Inter)) :: ((.d (.str a1.Args)) :: ((.d (.str a1.Text)) :: []))))))⟩)⟩
noncomputable def f15_j2 (a1 : GParser) (p61 : Int) (p62 : Bool) : Option (Int) := (bif p62 then (bif (decide (p61 = 0)) then (bif (decide ((a1.Args.length : Int) ≤ 100)) then (bif (decide (a1.Args = ([] : List UInt8))) then (f15_j3 a1 true) else (bif (decide (a1.State = 4)) then (f15_j3 a1 true) else (bif (decide (a1.State = 5)) then (f15_j3 a1 true) else (f15_j3 a1 false)))) else (f15_j3 a1 false)) else (f15_j3 a1 false)) else (f15_j3 a1 false))
theorem f15_j2_ok {d : Nat} (hd : 3 ≤ d) (a1 : GParser) {r : Int} {Q : PX → St → Prop} (hQ : ∀ e st', f15_Q r e st' → Q e st') (p61 : Int) (p62 : Bool) (hS : f15_j2 a1 p61 p62 = some r) {st : St} (he : keepSt [1, 5, 6] [(16, .id 16)] [] st = f15_j2_J a1 p61 p62) : ZR (lev codes baseL (d - 1)) Q c15_2 [] st := by
  refine zrKeep he ?_
  unfold f15_j2 at hS
  refine zrSeq ?_
  refine zrReg ?_
  refine zlRun (n := 2) (j := 2) rfl (by kernel_rfl) ?_
  refine zlSplit 59 p62 (by kernel_rfl) (fun hc => ?_) (fun hc => ?_)
  · replace hS := cond_t hc hS
    refine zlRun (n := 1) (j := 3) rfl (by kernel_rfl) ?_
    refine zlBool (d := 61) (op := (.cmpI .eql (.tmp 60) (.const (.int .i64 0)))) (g := (some (59, true))) (j := 4) (decide (p61 = 0)) rfl (by kernel_rfl) (by kernel_rfl) (by kernel_rfl) (fun hc => ?_) (fun hc => ?_)
    · replace hS := cond_t hc hS
      refine zlRun (n := 5) (j := 9) rfl (by kernel_rfl) ?_
      refine zlBool (d := 67) (op := (.cmpI .leq (.tmp 66) (.const (.int .i64 100)))) (g := (some (63, true))) (j := 10) (decide ((a1.Args.length : Int) ≤ 100)) rfl (by kernel_rfl) (by kernel_rfl) (by kernel_rfl) (fun hc => ?_) (fun hc => ?_)
      · replace hS := cond_t hc hS
        refine zlRun (n := 4) (j := 14) rfl (by kernel_rfl) ?_
        refine zlBool (d := 72) (op := (.strO .eql (.tmp 71) (.const (.string ⟨#[]⟩)))) (g := (some (69, true))) (j := 15) (decide (a1.Args = ([] : List UInt8))) rfl (by kernel_rfl) (by kernel_rfl) (by kernel_rfl) (fun hc => ?_) (fun hc => ?_)
        · replace hS := cond_t hc hS
          refine zlRun (n := 12) (j := 27) rfl (by kernel_rfl) ?_
          refine zlEnd (by kernel_rfl) ?_
          refine zkSeq ?_
          exact f15_j3_ok hd a1 hQ true hS (by kernel_rfl)
        · replace hS := cond_f hc hS
          refine zlRun (n := 3) (j := 18) rfl (by kernel_rfl) ?_
          refine zlBool (d := 76) (op := (.cmpI .eql (.tmp 75) (.const (.int .i64 4)))) (g := (some (73, false))) (j := 19) (decide (a1.State = 4)) rfl (by kernel_rfl) (by kernel_rfl) (by kernel_rfl) (fun hc => ?_) (fun hc => ?_)
          · replace hS := cond_t hc hS
            refine zlRun (n := 8) (j := 27) rfl (by kernel_rfl) ?_
            refine zlEnd (by kernel_rfl) ?_
            refine zkSeq ?_
            exact f15_j3_ok hd a1 hQ true hS (by kernel_rfl)
          · replace hS := cond_f hc hS
            refine zlRun (n := 4) (j := 23) rfl (by kernel_rfl) ?_
            refine zlBool (d := 81) (op := (.cmpI .eql (.tmp 80) (.const (.int .i64 5)))) (g := (some (78, false))) (j := 24) (decide (a1.State = 5)) rfl (by kernel_rfl) (by kernel_rfl) (by kernel_rfl) (fun hc => ?_) (fun hc => ?_)
            · replace hS := cond_t hc hS
              refine zlRun (n := 3) (j := 27) rfl (by kernel_rfl) ?_
              refine zlEnd (by kernel_rfl) ?_
              refine zkSeq ?_
              exact f15_j3_ok hd a1 hQ true hS (by kernel_rfl)
            · replace hS := cond_f hc hS
              refine zlRun (n := 3) (j := 27) rfl (by kernel_rfl) ?_
              refine zlEnd (by kernel_rfl) ?_
              refine zkSeq ?_
              exact f15_j3_ok hd a1 hQ false hS (by kernel_rfl)
      · replace hS := cond_f hc hS
        refine zlRun (n := 17) (j := 27) rfl (by kernel_rfl) ?_
        refine zlEnd (by kernel_rfl) ?_
        refine zkSeq ?_
        exact f15_j3_ok hd a1 hQ false hS (by kernel_rfl)
    · replace hS := cond_f hc hS
      refine zlRun (n := 23) (j := 27) rfl (by kernel_rfl) ?_
      refine zlEnd (by kernel_rfl) ?_
      refine zkSeq ?_
      exact f15_j3_ok hd a1 hQ false hS (by kernel_rfl)
  · replace hS := cond_f hc hS
    refine zlRun (n := 25) (j := 27) rfl (by kernel_rfl) ?_
    refine zlEnd (by kernel_rfl) ?_
    refine zkSeq ?_
    exact f15_j3_ok hd a1 hQ false hS (by kernel_rfl)
def f15_j1_J (a1 : GParser) (p48 : Bool) (p49 : Int) (p50 : Bool) : St := ⟨(up (up (up (up (fun _ => .un) 6 (.d (.bool p50))) 5 (.d (.int .i64 p49))) 3 (.d (.bool p48))) 1 (.r (.ptr 16 0 0))), (up (hB fun _ => 0) 16 ⟨0, some (.box ((.d (.int .i64 a1.State)) :: ((.d (.int .i64 a1.Mark)) :: ((.d (.str a1.Inter)) :: ((.d (.str a1.Args)) :: ((.d (.str a1.Text)) :: []))))))⟩)⟩
noncomputable def f15_j1 (a1 : GParser) (p48 : Bool) (p49 : Int) (p50 : Bool) : Option (Int) := (bif p50 then ((f33 a1.Inter 3).bind fun z9 => (bif z9 then (bif (!decide (a1.Inter = ([] : List UInt8))) then (bif (decide (true = p48)) then (f15_j2 a1 p49 true) else (f15_j2 a1 p49 false)) else (bif (decide (false = p48)) then (f15_j2 a1 p49 true) else (f15_j2 a1 p49 false))) else (f15_j2 a1 p49 false))) else (f15_j2 a1 p49 false))
theorem f15_j1_ok {d : Nat} (hd : 3 ≤ d) (a1 : GParser) {r : Int} {Q : PX → St → Prop} (hQ : ∀ e st', f15_Q r e st' → Q e st') (p48 : Bool) (p49 : Int) (p50 : Bool) (hS : f15_j1 a1 p48 p49 p50 = some r) {st : St} (he : keepSt [1, 3, 5, 6] [(16, .id 16)] [] st = f15_j1_J a1 p48 p49 p50) : ZR (lev codes baseL (d - 1)) Q c15_3 [] st := by
  refine zrKeep he ?_
  unfold f15_j1 at hS
  refine zrSeq ?_
  refine zrReg ?_
  refine zlRun (n := 2) (j := 2) rfl (by kernel_rfl) ?_
  refine zlSplit 46 p50 (by kernel_rfl) (fun hc => ?_) (fun hc => ?_)
  · replace hS := cond_t hc hS
    refine zlRun (n := 2) (j := 4) rfl (by kernel_rfl) ?_
    refine bindE hS (fun z9 hz9 hS => ?_)
    refine zlOp (d := some 49) (op := (.call 33 [(.tmp 48), (.const (.int .i64 3))])) (g := (some (46, true))) (v := (.d (.bool z9))) (ups := []) (j := 5) rfl (by kernel_rfl) (by kernel_rfl) (ev_call (args := [(.d (.str a1.Inter)), (.d (.int .i64 3))]) (l := [(.d (.str a1.Inter)), (.d (.int .i64 3))]) (r := (.d (.bool z9))) (by kernel_rfl) (by kernel_rfl) (f33_ok (d - 1) (dpt hd rfl) a1.Inter 3 z9 hz9) (by kernel_rfl) (by kernel_rfl) (by kernel_rfl)) ?_
    refine zlRun (n := 2) (j := 7) rfl (by kernel_rfl) ?_
    refine zlSplit 51 z9 (by kernel_rfl) (fun hc => ?_) (fun hc => ?_)
    · replace hS := cond_t hc hS
      refine zlRun (n := 2) (j := 9) rfl (by kernel_rfl) ?_
      refine zlBool (d := 54) (op := (.strO .neq (.tmp 53) (.const (.string ⟨#[]⟩)))) (g := (some (51, true))) (j := 10) (!decide (a1.Inter = ([] : List UInt8))) rfl (by kernel_rfl) (by kernel_rfl) (by kernel_rfl) (fun hc => ?_) (fun hc => ?_)
      · replace hS := cond_t hc hS
        refine zlRun (n := 1) (j := 11) rfl (by kernel_rfl) ?_
        refine zlBool (d := 56) (op := (.eqB .false (.tmp 54) (.tmp 55))) (g := (some (51, true))) (j := 12) (decide (true = p48)) rfl (by kernel_rfl) (by kernel_rfl) (by kernel_rfl) (fun hc => ?_) (fun hc => ?_)
        · replace hS := cond_t hc hS
          refine zlRun (n := 2) (j := 14) rfl (by kernel_rfl) ?_
          refine zlEnd (by kernel_rfl) ?_
          refine zkSeq ?_
          exact f15_j2_ok hd a1 hQ p49 true hS (by kernel_rfl)
        · replace hS := cond_f hc hS
          refine zlRun (n := 2) (j := 14) rfl (by kernel_rfl) ?_
          refine zlEnd (by kernel_rfl) ?_
          refine zkSeq ?_
          exact f15_j2_ok hd a1 hQ p49 false hS (by kernel_rfl)
      · replace hS := cond_f hc hS
        refine zlRun (n := 1) (j := 11) rfl (by kernel_rfl) ?_
        refine zlBool (d := 56) (op := (.eqB .false (.tmp 54) (.tmp 55))) (g := (some (51, true))) (j := 12) (decide (false = p48)) rfl (by kernel_rfl) (by kernel_rfl) (by kernel_rfl) (fun hc => ?_) (fun hc => ?_)
        · replace hS := cond_t hc hS
          refine zlRun (n := 2) (j := 14) rfl (by kernel_rfl) ?_
          refine zlEnd (by kernel_rfl) ?_
          refine zkSeq ?_
          exact f15_j2_ok hd a1 hQ p49 true hS (by kernel_rfl)
        · replace hS := cond_f hc hS
          refine zlRun (n := 2) (j := 14) rfl (by kernel_rfl) ?_
          refine zlEnd (by kernel_rfl) ?_
          refine zkSeq ?_
          exact f15_j2_ok hd a1 hQ p49 false hS (by kernel_rfl)
    · replace hS := cond_f hc hS
      refine zlRun (n := 7) (j := 14) rfl (by kernel_rfl) ?_
      refine zlEnd (by kernel_rfl) ?_
      refine zkSeq ?_
      exact f15_j2_ok hd a1 hQ p49 false hS (by kernel_rfl)
  · replace hS := cond_f hc hS
    refine zlRun (n := 12) (j := 14) rfl (by kernel_rfl) ?_
    refine zlEnd (by kernel_rfl) ?_
    refine zkSeq ?_
    exact f15_j2_ok hd a1 hQ p49 false hS (by kernel_rfl)
def f15_j0_J (a1 : GParser) (p34 : Bool) : St := ⟨(up (up (fun _ => .un) 3 (.d (.bool p34))) 1 (.r (.ptr 16 0 0))), (up (hB fun _ => 0) 16 ⟨0, some (.box ((.d (.int .i64 a1.State)) :: ((.d (.int .i64 a1.Mark)) :: ((.d (.str a1.Inter)) :: ((.d (.str a1.Args)) :: ((.d (.str a1.Text)) :: []))))))⟩)⟩
noncomputable def f15_j0 (a1 : GParser) (p34 : Bool) : Option (Int) := ((f31 a1.Args).bind fun z5 => ((f32 a1.State 0 10).bind fun z6 => (bif z6 then (bif (decide (a1.Mark = 0)) then (f15_j1 a1 p34 z5.2 true) else ((f32 a1.Mark 60 63).bind fun z10 => (bif z10 then (bif (decide (a1.State = 4)) then (f15_j1 a1 p34 z5.2 true) else (bif (decide (a1.State = 5)) then (f15_j1 a1 p34 z5.2 true) else (f15_j1 a1 p34 z5.2 false))) else (f15_j1 a1 p34 z5.2 false)))) else (f15_j1 a1 p34 z5.2 false))))
theorem f15_j0_ok {d : Nat} (hd : 3 ≤ d) (a1 : GParser) {r : Int} {Q : PX → St → Prop} (hQ : ∀ e st', f15_Q r e st' → Q e st') (p34 : Bool) (hS : f15_j0 a1 p34 = some r) {st : St} (he : keepSt [1, 3] [(16, .id 16)] [] st = f15_j0_J a1 p34) : ZR (lev codes baseL (d - 1)) Q c15_4 [] st := by
  refine zrKeep he ?_
  unfold f15_j0 at hS
  refine zrSeq ?_
  refine zrReg ?_
  refine zlRun (n := 2) (j := 2) rfl (by kernel_rfl) ?_
  refine bindE hS (fun z5 hz5 hS => ?_)
  refine zlOp (d := some 18) (op := (.call 31 [(.tmp 17)])) (g := none) (v := (.tup [(.r (.msl 152 1 0 z5.1.length)), (.d (.int .i64 z5.2))])) (ups := [(152, ⟨1, some (.own 3 1 ((eInt .i64).cells z5.1))⟩)]) (j := 3) rfl (by kernel_rfl) (by kernel_rfl) (ev_call (args := [(.d (.str a1.Args))]) (l := [(.d (.str a1.Args))]) (r := (.tup [(.r (.own 0 3 1 z5.1.length ((eInt .i64).cells z5.1))), (.d (.int .i64 z5.2))])) (by kernel_rfl) (by kernel_rfl) (f31_ok (d - 1) (dpt hd rfl) a1.Args z5 hz5) (by kernel_rfl) (by kernel_rfl) (by kernel_rfl)) ?_
  refine zlRun (n := 5) (j := 8) rfl (by kernel_rfl) ?_
  refine zlEnd (by kernel_rfl) ?_
  refine zkSeq ?_
  refine zrSeq ?_
  refine zrReg ?_
  refine zlRun (n := 2) (j := 2) rfl (by kernel_rfl) ?_
  refine bindE hS (fun z6 hz6 hS => ?_)
  refine zlOp (d := some 23) (op := (.call 32 [(.tmp 22), (.const (.int .i64 0)), (.const (.int .i64 10))])) (g := none) (v := (.d (.bool z6))) (ups := []) (j := 3) rfl (by kernel_rfl) (by kernel_rfl) (ev_call (args := [(.d (.int .i64 a1.State)), (.d (.int .i64 0)), (.d (.int .i64 10))]) (l := [(.d (.int .i64 a1.State)), (.d (.int .i64 0)), (.d (.int .i64 10))]) (r := (.d (.bool z6))) (by kernel_rfl) (by kernel_rfl) (f32_ok (d - 1) (dpt hd rfl) a1.State 0 10 z6 hz6) (by kernel_rfl) (by kernel_rfl) (by kernel_rfl)) ?_
  refine zlRun (n := 1) (j := 4) rfl (by kernel_rfl) ?_
  refine zlEnd (by kernel_rfl) ?_
  refine zkSeq ?_
  refine zrSeq ?_
  refine zrReg ?_
  refine zlRun (n := 2) (j := 2) rfl (by kernel_rfl) ?_
  refine zlSplit 25 z6 (by kernel_rfl) (fun hc => ?_) (fun hc => ?_)
  · replace hS := cond_t hc hS
    refine zlRun (n := 2) (j := 4) rfl (by kernel_rfl) ?_
    refine zlBool (d := 28) (op := (.cmpI .eql (.tmp 27) (.const (.int .i64 0)))) (g := (some (25, true))) (j := 5) (decide (a1.Mark = 0)) rfl (by kernel_rfl) (by kernel_rfl) (by kernel_rfl) (fun hc => ?_) (fun hc => ?_)
    · replace hS := cond_t hc hS
      refine zlRun (n := 17) (j := 22) rfl (by kernel_rfl) ?_
      refine zlEnd (by kernel_rfl) ?_
      refine zkSeq ?_
      exact f15_j1_ok hd a1 hQ p34 z5.2 true hS (by kernel_rfl)
    · replace hS := cond_f hc hS
      refine zlRun (n := 3) (j := 8) rfl (by kernel_rfl) ?_
      refine bindE hS (fun z10 hz10 hS => ?_)
      refine zlOp (d := some 32) (op := (.call 32 [(.tmp 31), (.const (.int .i64 60)), (.const (.int .i64 63))])) (g := (some (29, false))) (v := (.d (.bool z10))) (ups := []) (j := 9) rfl (by kernel_rfl) (by kernel_rfl) (ev_call (args := [(.d (.int .i64 a1.Mark)), (.d (.int .i64 60)), (.d (.int .i64 63))]) (l := [(.d (.int .i64 a1.Mark)), (.d (.int .i64 60)), (.d (.int .i64 63))]) (r := (.d (.bool z10))) (by kernel_rfl) (by kernel_rfl) (f32_ok (d - 1) (dpt hd rfl) a1.Mark 60 63 z10 hz10) (by kernel_rfl) (by kernel_rfl) (by kernel_rfl)) ?_
      refine zlRun (n := 1) (j := 10) rfl (by kernel_rfl) ?_
      refine zlSplit 33 z10 (by kernel_rfl) (fun hc => ?_) (fun hc => ?_)
      · replace hS := cond_t hc hS
        refine zlRun (n := 2) (j := 12) rfl (by kernel_rfl) ?_
        refine zlBool (d := 36) (op := (.cmpI .eql (.tmp 35) (.const (.int .i64 4)))) (g := (some (33, true))) (j := 13) (decide (a1.State = 4)) rfl (by kernel_rfl) (by kernel_rfl) (by kernel_rfl) (fun hc => ?_) (fun hc => ?_)
        · replace hS := cond_t hc hS
          refine zlRun (n := 9) (j := 22) rfl (by kernel_rfl) ?_
          refine zlEnd (by kernel_rfl) ?_
          refine zkSeq ?_
          exact f15_j1_ok hd a1 hQ p34 z5.2 true hS (by kernel_rfl)
        · replace hS := cond_f hc hS
          refine zlRun (n := 3) (j := 16) rfl (by kernel_rfl) ?_
          refine zlBool (d := 40) (op := (.cmpI .eql (.tmp 39) (.const (.int .i64 5)))) (g := (some (37, false))) (j := 17) (decide (a1.State = 5)) rfl (by kernel_rfl) (by kernel_rfl) (by kernel_rfl) (fun hc => ?_) (fun hc => ?_)
          · replace hS := cond_t hc hS
            refine zlRun (n := 5) (j := 22) rfl (by kernel_rfl) ?_
            refine zlEnd (by kernel_rfl) ?_
            refine zkSeq ?_
            exact f15_j1_ok hd a1 hQ p34 z5.2 true hS (by kernel_rfl)
          · replace hS := cond_f hc hS
            refine zlRun (n := 5) (j := 22) rfl (by kernel_rfl) ?_
            refine zlEnd (by kernel_rfl) ?_
            refine zkSeq ?_
            exact f15_j1_ok hd a1 hQ p34 z5.2 false hS (by kernel_rfl)
      · replace hS := cond_f hc hS
        refine zlRun (n := 12) (j := 22) rfl (by kernel_rfl) ?_
        refine zlEnd (by kernel_rfl) ?_
        refine zkSeq ?_
        exact f15_j1_ok hd a1 hQ p34 z5.2 false hS (by kernel_rfl)
  · replace hS := cond_f hc hS
    refine zlRun (n := 20) (j := 22) rfl (by kernel_rfl) ?_
    refine zlEnd (by kernel_rfl) ?_
    refine zkSeq ?_
    exact f15_j1_ok hd a1 hQ p34 z5.2 false hS (by kernel_rfl)
noncomputable def f15 (a1 : GParser) : Option (Int) := (bif (decide (a1.State = 2)) then (f15_j0 a1 true) else (bif (decide (a1.State = 5)) then (f15_j0 a1 true) else (f15_j0 a1 false)))
theorem f15_ok (d : Nat) (hd : 3 ≤ d) (a1 : GParser) (r : Int) (hS : f15 a1 = some r) : lev codes baseL d 15 [(.agg ((.d (.int .i64 a1.State)) :: ((.d (.int .i64 a1.Mark)) :: ((.d (.str a1.Inter)) :: ((.d (.str a1.Args)) :: ((.d (.str a1.Text)) :: []))))))] [] = some ((.d (.int .i64 r)), []) := by
  refine lev_go codes15 rfl rfl (Nat.le_trans (Nat.le_of_ble_eq_true rfl) hd) fun Q hQ => ?_
  unfold f15 at hS
  show ZR _ Q c15_b [] _
  replace hQ : ∀ e st', f15_Q r e st' → Q e st' := hQ
  refine zrSeq ?_
  refine zrReg ?_
  refine zlRun (n := 2) (j := 2) rfl (by kernel_rfl) ?_
  refine zlEnd (by kernel_rfl) ?_
  refine zkSeq ?_
  refine zrSeq ?_
  refine zrReg ?_
  refine zlRun (n := 2) (j := 2) rfl (by kernel_rfl) ?_
  refine zlBool (d := 9) (op := (.cmpI .eql (.tmp 8) (.const (.int .i64 2)))) (g := none) (j := 3) (decide (a1.State = 2)) rfl (by kernel_rfl) (by kernel_rfl) (by kernel_rfl) (fun hc => ?_) (fun hc => ?_)
  · replace hS := cond_t hc hS
    refine zlRun (n := 6) (j := 9) rfl (by kernel_rfl) ?_
    refine zlEnd (by kernel_rfl) ?_
    refine zkSeq ?_
    exact f15_j0_ok hd a1 hQ true hS (by kernel_rfl)
  · replace hS := cond_f hc hS
    refine zlRun (n := 3) (j := 6) rfl (by kernel_rfl) ?_
    refine zlBool (d := 13) (op := (.cmpI .eql (.tmp 12) (.const (.int .i64 5)))) (g := (some (10, false))) (j := 7) (decide (a1.State = 5)) rfl (by kernel_rfl) (by kernel_rfl) (by kernel_rfl) (fun hc => ?_) (fun hc => ?_)
    · replace hS := cond_t hc hS
      refine zlRun (n := 2) (j := 9) rfl (by kernel_rfl) ?_
      refine zlEnd (by kernel_rfl) ?_
      refine zkSeq ?_
      exact f15_j0_ok hd a1 hQ true hS (by kernel_rfl)
    · replace hS := cond_f hc hS
      refine zlRun (n := 2) (j := 9) rfl (by kernel_rfl) ?_
      refine zlEnd (by kernel_rfl) ?_
      refine zkSeq ?_
      exact f15_j0_ok hd a1 hQ false hS (by kernel_rfl)
/- (*farwriter/parse.machine).emit -/
def f56_fin (p1 : Int) (p2 : Int) (p3 : List UInt8) (p4 : List UInt8) (p5 : List UInt8) (p6 : List GAct) : St := ⟨(fun _ => .un), (up (up (hB fun _ => 0) 1 ⟨0, some (.own 31 6 (e_GAct.cells p6))⟩) 0 ⟨0, some (.box ((.d (.int .i64 p1)) :: ((.d (.int .i64 p2)) :: ((.d (.str p3)) :: ((.d (.str p4)) :: ((.d (.str p5)) :: ((.r (.msl 1 0 0 p6.length)) :: [])))))))⟩)⟩
theorem f56_out (p1 : Int) (p2 : Int) (p3 : List UInt8) (p4 : List UInt8) (p5 : List UInt8) (p6 : List GAct) : outR (f56_fin p1 p2 p3 p4 p5 p6) 2 c56.res = some ((.tup []), [(.box ((.d (.int .i64 p1)) :: ((.d (.int .i64 p2)) :: ((.d (.str p3)) :: ((.d (.str p4)) :: ((.d (.str p5)) :: ((.r (.msl 1 0 0 p6.length)) :: []))))))), (.own 31 6 (e_GAct.cells p6))]) := by
  kernel_rfl
def f56_Q (r : Int × Int × (List UInt8) × (List UInt8) × (List UInt8) × (List GAct)) (e : PX) (st : St) : Prop := DoneF c56 2 ((.tup []), [(.box ((.d (.int .i64 r.1)) :: ((.d (.int .i64 r.2.1)) :: ((.d (.str r.2.2.1)) :: ((.d (.str r.2.2.2.1)) :: ((.d (.str r.2.2.2.2.1)) :: ((.r (.msl 1 0 0 r.2.2.2.2.2.length)) :: []))))))), (.own 31 6 (e_GAct.cells r.2.2.2.2.2))]) e st
noncomputable def f56 (a1 : GAct) (a2 : Int) (a3 : Int) (a4 : List UInt8) (a5 : List UInt8) (a6 : List UInt8) (a7 : List GAct) : Option (Int × Int × (List UInt8) × (List UInt8) × (List UInt8) × (List GAct)) := ((app? 80 a7 ([a1] : List GAct)).bind fun z2 => (some (a2, a3, a4, a5, a6, z2)))
theorem f56_ok (d : Nat) (hd : 1 ≤ d) (a1 : GAct) (a2 : Int) (a3 : Int) (a4 : List UInt8) (a5 : List UInt8) (a6 : List UInt8) (a7 : List GAct) (r : Int × Int × (List UInt8) × (List UInt8) × (List UInt8) × (List GAct)) (hS : f56 a1 a2 a3 a4 a5 a6 a7 = some r) : lev codes baseL d 56 [(.r (.ptr 0 0 0)), (.agg ((.d (.int .i64 a1.Kind)) :: ((.d (.int .i64 a1.Code)) :: ((.d (.int .i64 a1.Mark)) :: ((.d (.str a1.Inter)) :: ((.d (.sl a1.Args.length ((eInt .i64).cells a1.Args))) :: ((.d (.str a1.Text)) :: [])))))))] [(.box ((.d (.int .i64 a2)) :: ((.d (.int .i64 a3)) :: ((.d (.str a4)) :: ((.d (.str a5)) :: ((.d (.str a6)) :: ((.r (.msl 1 0 0 a7.length)) :: []))))))), (.own 31 6 (e_GAct.cells a7))] = some ((.tup []), [(.box ((.d (.int .i64 r.1)) :: ((.d (.int .i64 r.2.1)) :: ((.d (.str r.2.2.1)) :: ((.d (.str r.2.2.2.1)) :: ((.d (.str r.2.2.2.2.1)) :: ((.r (.msl 1 0 0 r.2.2.2.2.2.length)) :: []))))))), (.own 31 6 (e_GAct.cells r.2.2.2.2.2))]) := by
  refine lev_go codes56 rfl rfl (Nat.le_trans (Nat.le_of_ble_eq_true rfl) hd) fun Q hQ => ?_
  unfold f56 at hS
  show ZR _ Q c56_b [] _
  replace hQ : ∀ e st', f56_Q r e st' → Q e st' := hQ
  refine zrSeq ?_
  refine zrReg ?_
  refine zlRun (n := 1) (j := 1) rfl (by kernel_rfl) ?_
  refine zlEnd (by kernel_rfl) ?_
  refine zkSeq ?_
  refine zrRegD ?_
  refine zdRun (n := 7) (j := 7) (ts := [[], [], [], [], [(0, false)], [(32, false)], [(88, true)]]) (acc' := [[], [], [], [], [(0, false)], [(32, false)], [(88, true)]]) rfl (by kernel_rfl) (by kernel_rfl) (by kernel_rfl) ?_
  refine bindE hS (fun z2 hz2 hS => ?_)
  refine zdOp (d := some 11) (op := (.app 31 6 80 (.tmp 8) (.tmp 10))) (g := none) (v := (.r (.msl 1 1 0 z2.length))) (ups := [(1, ⟨1, some (.own 31 6 (e_GAct.cells z2))⟩)]) (j := 8) (t1 := [(96, true), (1, true), (88, false)]) (acc' := [[], [], [], [], [(0, false)], [(32, false)], [(88, true)], [(96, true), (1, true), (88, false)]]) (by kernel_rfl) (by kernel_rfl) rfl (by kernel_rfl) (by kernel_rfl) (ev_app e_GAct (b := 1) (g := 0) (n := a7.length) (xs := a7) (ys := [a1]) ((congrArg (asL _) (by kernel_rfl : ρof _ (.tmp 10) = (.r (.msl 88 1 0 (([a1] : List GAct).length))))).trans (as_whole e_GAct (e := 31) (k := 6) (xs := [a1]) (by kernel_rfl) rfl rfl)) rfl (by kernel_rfl) rfl (by kernel_rfl) rfl hz2) ?_
  refine zdRun (n := 3) (j := 11) (ts := [[], [], [(0, true)]]) (acc' := [[], [], [], [], [(0, false)], [(32, false)], [(88, true)], [(96, true), (1, true), (88, false)], [], [], [(0, true)]]) rfl (by kernel_rfl) (by kernel_rfl) (by kernel_rfl) ?_
  refine zdEnd (by kernel_rfl) (by kernel_rfl) ?_
  refine zkNil ?_
  exact endQ hS hQ (fNorm ((congrArg (fun s => outR s 2 c56.res) (by kernel_rfl : finSt c56.fin _ = f56_fin a2 a3 a4 a5 a6 z2)).trans (f56_out a2 a3 a4 a5 a6 z2)))
/- (*farwriter/parse.machine).enter -/
def f57_fin (p1 : Int) (p2 : List GAct) : St := ⟨(fun _ => .un), (up (up (hB fun _ => 0) 1 ⟨0, some (.own 31 6 (e_GAct.cells p2))⟩) 0 ⟨0, some (.box ((.d (.int .i64 p1)) :: ((.d (.int .i64 0)) :: ((.d (.str ([]))) :: ((.d (.str ([]))) :: ((.d (.str ([]))) :: ((.r (.msl 1 0 0 p2.length)) :: [])))))))⟩)⟩
theorem f57_out (p1 : Int) (p2 : List GAct) : outR (f57_fin p1 p2) 2 c57.res = some ((.tup []), [(.box ((.d (.int .i64 p1)) :: ((.d (.int .i64 0)) :: ((.d (.str ([]))) :: ((.d (.str ([]))) :: ((.d (.str ([]))) :: ((.r (.msl 1 0 0 p2.length)) :: []))))))), (.own 31 6 (e_GAct.cells p2))]) := by
  kernel_rfl
def f57_Q (r : Int × (List GAct)) (e : PX) (st : St) : Prop := DoneF c57 2 ((.tup []), [(.box ((.d (.int .i64 r.1)) :: ((.d (.int .i64 0)) :: ((.d (.str ([]))) :: ((.d (.str ([]))) :: ((.d (.str ([]))) :: ((.r (.msl 1 0 0 r.2.length)) :: []))))))), (.own 31 6 (e_GAct.cells r.2))]) e st
noncomputable def f57 (a1 : Int) (a2 : Int) (a3 : Int) (a4 : List UInt8) (a5 : List UInt8) (a6 : List UInt8) (a7 : List GAct) : Option (Int × (List GAct)) := (some (a1, a7))
theorem f57_ok (d : Nat) (hd : 1 ≤ d) (a1 : Int) (a2 : Int) (a3 : Int) (a4 : List UInt8) (a5 : List UInt8) (a6 : List UInt8) (a7 : List GAct) (r : Int × (List GAct)) (hS : f57 a1 a2 a3 a4 a5 a6 a7 = some r) : lev codes baseL d 57 [(.r (.ptr 0 0 0)), (.d (.int .i64 a1))] [(.box ((.d (.int .i64 a2)) :: ((.d (.int .i64 a3)) :: ((.d (.str a4)) :: ((.d (.str a5)) :: ((.d (.str a6)) :: ((.r (.msl 1 0 0 a7.length)) :: []))))))), (.own 31 6 (e_GAct.cells a7))] = some ((.tup []), [(.box ((.d (.int .i64 r.1)) :: ((.d (.int .i64 0)) :: ((.d (.str ([]))) :: ((.d (.str ([]))) :: ((.d (.str ([]))) :: ((.r (.msl 1 0 0 r.2.length)) :: []))))))), (.own 31 6 (e_GAct.cells r.2))]) := by
  refine lev_go codes57 rfl rfl (Nat.le_trans (Nat.le_of_ble_eq_true rfl) hd) fun Q hQ => ?_
  unfold f57 at hS
  show ZR _ Q c57_b [] _
  replace hQ : ∀ e st', f57_Q r e st' → Q e st' := hQ
  refine zrReg ?_
  refine zlRun (n := 6) (j := 6) rfl (by kernel_rfl) ?_
  refine zlEnd (by kernel_rfl) ?_
  refine zkNil ?_
  exact endQ hS hQ (fNorm ((congrArg (fun s => outR s 2 c57.res) (by kernel_rfl : finSt c57.fin _ = f57_fin a1 a7)).trans (f57_out a1 a7)))
/- (*farwriter/parse.machine).drop -/
def f58_fin (p1 : Int) (p2 : List GAct) : St := ⟨(fun _ => .un), (up (up (hB fun _ => 0) 1 ⟨0, some (.own 31 6 (e_GAct.cells p2))⟩) 0 ⟨0, some (.box ((.d (.int .i64 p1)) :: ((.d (.int .i64 0)) :: ((.d (.str ([]))) :: ((.d (.str ([]))) :: ((.d (.str ([]))) :: ((.r (.msl 1 0 0 p2.length)) :: [])))))))⟩)⟩
theorem f58_out (p1 : Int) (p2 : List GAct) : outR (f58_fin p1 p2) 2 c58.res = some ((.tup []), [(.box ((.d (.int .i64 p1)) :: ((.d (.int .i64 0)) :: ((.d (.str ([]))) :: ((.d (.str ([]))) :: ((.d (.str ([]))) :: ((.r (.msl 1 0 0 p2.length)) :: []))))))), (.own 31 6 (e_GAct.cells p2))]) := by
  kernel_rfl
def f58_Q (r : Int × (List GAct)) (e : PX) (st : St) : Prop := DoneF c58 2 ((.tup []), [(.box ((.d (.int .i64 r.1)) :: ((.d (.int .i64 0)) :: ((.d (.str ([]))) :: ((.d (.str ([]))) :: ((.d (.str ([]))) :: ((.r (.msl 1 0 0 r.2.length)) :: []))))))), (.own 31 6 (e_GAct.cells r.2))]) e st
noncomputable def f58 (a1 : Int) (a2 : Int) (a3 : Int) (a4 : List UInt8) (a5 : List UInt8) (a6 : List UInt8) (a7 : List GAct) : Option (Int × (List GAct)) := ((f56 (GAct.mk 6 0 0 ([]) ([]) ([])) a2 a3 a4 a5 a6 a7).bind fun z3 => ((f57 a1 z3.1 z3.2.1 z3.2.2.1 z3.2.2.2.1 z3.2.2.2.2.1 z3.2.2.2.2.2).bind fun z4 => (some (z4.1, z4.2))))
theorem f58_ok (d : Nat) (hd : 2 ≤ d) (a1 : Int) (a2 : Int) (a3 : Int) (a4 : List UInt8) (a5 : List UInt8) (a6 : List UInt8) (a7 : List GAct) (r : Int × (List GAct)) (hS : f58 a1 a2 a3 a4 a5 a6 a7 = some r) : lev codes baseL d 58 [(.r (.ptr 0 0 0)), (.d (.int .i64 a1))] [(.box ((.d (.int .i64 a2)) :: ((.d (.int .i64 a3)) :: ((.d (.str a4)) :: ((.d (.str a5)) :: ((.d (.str a6)) :: ((.r (.msl 1 0 0 a7.length)) :: []))))))), (.own 31 6 (e_GAct.cells a7))] = some ((.tup []), [(.box ((.d (.int .i64 r.1)) :: ((.d (.int .i64 0)) :: ((.d (.str ([]))) :: ((.d (.str ([]))) :: ((.d (.str ([]))) :: ((.r (.msl 1 0 0 r.2.length)) :: []))))))), (.own 31 6 (e_GAct.cells r.2))]) := by
  refine lev_go codes58 rfl rfl (Nat.le_trans (Nat.le_of_ble_eq_true rfl) hd) fun Q hQ => ?_
  unfold f58 at hS
  show ZR _ Q c58_b [] _
  replace hQ : ∀ e st', f58_Q r e st' → Q e st' := hQ
  refine zrSeq ?_
  refine zrReg ?_
  refine zlRun (n := 2) (j := 2) rfl (by kernel_rfl) ?_
  refine bindE hS (fun z3 hz3 hS => ?_)
  refine zlOp (d := some 6) (op := (.callr 56 [(.tmp 4), (.tmp 5)])) (g := none) (v := (.tup [])) (ups := [(0, ⟨0, some (.box ((.d (.int .i64 z3.1)) :: ((.d (.int .i64 z3.2.1)) :: ((.d (.str z3.2.2.1)) :: ((.d (.str z3.2.2.2.1)) :: ((.d (.str z3.2.2.2.2.1)) :: ((.r (.msl 1 1 0 z3.2.2.2.2.2.length)) :: [])))))))⟩), (1, ⟨1, some (.own 31 6 (e_GAct.cells z3.2.2.2.2.2))⟩)]) (j := 3) rfl (by kernel_rfl) (by kernel_rfl) (ev_callr (args := [(.r (.ptr 0 0 0)), (.agg ((.d (.int .i64 6)) :: ((.d (.int .i64 0)) :: ((.d (.int .i64 0)) :: ((.d (.str ([]))) :: ((.d (.sl ([] : List Int).length ((eInt .i64).cells ([])))) :: ((.d (.str ([]))) :: [])))))))]) (ids := [0, 1]) (bs := [(.box ((.d (.int .i64 a2)) :: ((.d (.int .i64 a3)) :: ((.d (.str a4)) :: ((.d (.str a5)) :: ((.d (.str a6)) :: ((.r (.msl 1 0 0 a7.length)) :: []))))))), (.own 31 6 (e_GAct.cells a7))]) (l := [(.r (.ptr 0 0 0)), (.agg ((.d (.int .i64 6)) :: ((.d (.int .i64 0)) :: ((.d (.int .i64 0)) :: ((.d (.str ([]))) :: ((.d (.sl ([] : List Int).length ((eInt .i64).cells ([])))) :: ((.d (.str ([]))) :: [])))))))]) (bt := [(.box ((.d (.int .i64 a2)) :: ((.d (.int .i64 a3)) :: ((.d (.str a4)) :: ((.d (.str a5)) :: ((.d (.str a6)) :: ((.r (.msl 1 0 0 a7.length)) :: []))))))), (.own 31 6 (e_GAct.cells a7))]) (r := (.tup [])) (bs' := [(.box ((.d (.int .i64 z3.1)) :: ((.d (.int .i64 z3.2.1)) :: ((.d (.str z3.2.2.1)) :: ((.d (.str z3.2.2.2.1)) :: ((.d (.str z3.2.2.2.2.1)) :: ((.r (.msl 1 0 0 z3.2.2.2.2.2.length)) :: []))))))), (.own 31 6 (e_GAct.cells z3.2.2.2.2.2))]) (by kernel_rfl) (by kernel_rfl) (by kernel_rfl) (by kernel_rfl) (by kernel_rfl) (f56_ok (d - 1) (dpt hd rfl) (GAct.mk 6 0 0 ([]) ([]) ([])) a2 a3 a4 a5 a6 a7 z3 hz3) (by kernel_rfl) (by kernel_rfl)) ?_
  refine zlEnd (by kernel_rfl) ?_
  refine zkSeq ?_
  refine zrReg ?_
  refine zlRun (n := 2) (j := 2) rfl (by kernel_rfl) ?_
  refine bindE hS (fun z4 hz4 hS => ?_)
  refine zlOp (d := some 9) (op := (.callr 57 [(.tmp 7), (.tmp 8)])) (g := none) (v := (.tup [])) (ups := [(0, ⟨0, some (.box ((.d (.int .i64 z4.1)) :: ((.d (.int .i64 0)) :: ((.d (.str ([]))) :: ((.d (.str ([]))) :: ((.d (.str ([]))) :: ((.r (.msl 1 2 0 z4.2.length)) :: [])))))))⟩), (1, ⟨2, some (.own 31 6 (e_GAct.cells z4.2))⟩)]) (j := 3) rfl (by kernel_rfl) (by kernel_rfl) (ev_callr (args := [(.r (.ptr 0 0 0)), (.d (.int .i64 a1))]) (ids := [0, 1]) (bs := [(.box ((.d (.int .i64 z3.1)) :: ((.d (.int .i64 z3.2.1)) :: ((.d (.str z3.2.2.1)) :: ((.d (.str z3.2.2.2.1)) :: ((.d (.str z3.2.2.2.2.1)) :: ((.r (.msl 1 1 0 z3.2.2.2.2.2.length)) :: []))))))), (.own 31 6 (e_GAct.cells z3.2.2.2.2.2))]) (l := [(.r (.ptr 0 0 0)), (.d (.int .i64 a1))]) (bt := [(.box ((.d (.int .i64 z3.1)) :: ((.d (.int .i64 z3.2.1)) :: ((.d (.str z3.2.2.1)) :: ((.d (.str z3.2.2.2.1)) :: ((.d (.str z3.2.2.2.2.1)) :: ((.r (.msl 1 0 0 z3.2.2.2.2.2.length)) :: []))))))), (.own 31 6 (e_GAct.cells z3.2.2.2.2.2))]) (r := (.tup [])) (bs' := [(.box ((.d (.int .i64 z4.1)) :: ((.d (.int .i64 0)) :: ((.d (.str ([]))) :: ((.d (.str ([]))) :: ((.d (.str ([]))) :: ((.r (.msl 1 0 0 z4.2.length)) :: []))))))), (.own 31 6 (e_GAct.cells z4.2))]) (by kernel_rfl) (by kernel_rfl) (by kernel_rfl) (by kernel_rfl) (by kernel_rfl) (f57_ok (d - 1) (dpt hd rfl) a1 z3.1 z3.2.1 z3.2.2.1 z3.2.2.2.1 z3.2.2.2.2.1 z3.2.2.2.2.2 z4 hz4) (by kernel_rfl) (by kernel_rfl)) ?_
  refine zlEnd (by kernel_rfl) ?_
  refine zkNil ?_
  exact endQ hS hQ (fNorm ((congrArg (fun s => outR s 2 c58.res) (by kernel_rfl : finSt c58.fin _ = f58_fin z4.1 z4.2)).trans (f58_out z4.1 z4.2)))
/- (*farwriter/parse.machine).text -/
def f55_fin (p8 : Int) (p9 : Int) (p10 : List UInt8) (p11 : List UInt8) (p12 : List UInt8) (p13 : List GAct) : St := ⟨(fun _ => .un), (up (up (hB fun _ => 0) 1 ⟨0, some (.own 31 6 (e_GAct.cells p13))⟩) 0 ⟨0, some (.box ((.d (.int .i64 p8)) :: ((.d (.int .i64 p9)) :: ((.d (.str p10)) :: ((.d (.str p11)) :: ((.d (.str p12)) :: ((.r (.msl 1 0 0 p13.length)) :: [])))))))⟩)⟩
theorem f55_out (p8 : Int) (p9 : Int) (p10 : List UInt8) (p11 : List UInt8) (p12 : List UInt8) (p13 : List GAct) : outR (f55_fin p8 p9 p10 p11 p12 p13) 2 c55.res = some ((.tup []), [(.box ((.d (.int .i64 p8)) :: ((.d (.int .i64 p9)) :: ((.d (.str p10)) :: ((.d (.str p11)) :: ((.d (.str p12)) :: ((.r (.msl 1 0 0 p13.length)) :: []))))))), (.own 31 6 (e_GAct.cells p13))]) := by
  kernel_rfl
def f55_Q (r : Int × Int × (List UInt8) × (List UInt8) × (List UInt8) × (List GAct)) (e : PX) (st : St) : Prop := DoneF c55 2 ((.tup []), [(.box ((.d (.int .i64 r.1)) :: ((.d (.int .i64 r.2.1)) :: ((.d (.str r.2.2.1)) :: ((.d (.str r.2.2.2.1)) :: ((.d (.str r.2.2.2.2.1)) :: ((.r (.msl 1 0 0 r.2.2.2.2.2.length)) :: []))))))), (.own 31 6 (e_GAct.cells r.2.2.2.2.2))]) e st
noncomputable def f55 (a1 : Int) (a2 : Int) (a3 : Int) (a4 : List UInt8) (a5 : List UInt8) (a6 : List UInt8) (a7 : List GAct) : Option (Int × Int × (List UInt8) × (List UInt8) × (List UInt8) × (List GAct)) := (bif (decide (a1 = 27)) then (some ((IntKind.i64.wrap (a2 + 1)), a3, a4, a5, a6, a7)) else (bif (decide (a1 = 24)) then ((f58 0 a2 a3 a4 a5 a6 a7).bind fun z7 => (some (z7.1, 0, [], [], [], z7.2))) else (bif (decide (a1 = 26)) then ((f58 0 a2 a3 a4 a5 a6 a7).bind fun z8 => (some (z8.1, 0, [], [], [], z8.2))) else (bif (decide (a2 = 9)) then (some (a2, a3, a4, a5, a6, a7)) else (bif (decide (a1 = 7)) then ((f56 (GAct.mk 5 0 0 ([]) ([]) a6) a2 a3 a4 a5 a6 a7).bind fun z9 => ((f57 0 z9.1 z9.2.1 z9.2.2.1 z9.2.2.2.1 z9.2.2.2.2.1 z9.2.2.2.2.2).bind fun z10 => (some (z10.1, 0, [], [], [], z10.2)))) else (bif (decide (a1 < 32)) then (some (a2, a3, a4, a5, a6, a7)) else ((f32 a1 127 159).bind fun z12 => (bif z12 then (some (a2, a3, a4, a5, a6, a7)) else ((f48 [a1]).bind fun z15 => ((cat? a6 z15).bind fun z16 => (bif (decide ((z16.length : Int) ≤ 256)) then (some (a2, a3, a4, a5, z16, a7)) else (some (a2, a3, a4, a5, a6, a7)))))))))))))
theorem f55_ok (d : Nat) (hd : 4 ≤ d) (a1 : Int) (a2 : Int) (a3 : Int) (a4 : List UInt8) (a5 : List UInt8) (a6 : List UInt8) (a7 : List GAct) (r : Int × Int × (List UInt8) × (List UInt8) × (List UInt8) × (List GAct)) (hS : f55 a1 a2 a3 a4 a5 a6 a7 = some r) : lev codes baseL d 55 [(.r (.ptr 0 0 0)), (.d (.int .i64 a1))] [(.box ((.d (.int .i64 a2)) :: ((.d (.int .i64 a3)) :: ((.d (.str a4)) :: ((.d (.str a5)) :: ((.d (.str a6)) :: ((.r (.msl 1 0 0 a7.length)) :: []))))))), (.own 31 6 (e_GAct.cells a7))] = some ((.tup []), [(.box ((.d (.int .i64 r.1)) :: ((.d (.int .i64 r.2.1)) :: ((.d (.str r.2.2.1)) :: ((.d (.str r.2.2.2.1)) :: ((.d (.str r.2.2.2.2.1)) :: ((.r (.msl 1 0 0 r.2.2.2.2.2.length)) :: []))))))), (.own 31 6 (e_GAct.cells r.2.2.2.2.2))]) := by
  refine lev_go codes55 rfl rfl (Nat.le_trans (Nat.le_of_ble_eq_true rfl) hd) fun Q hQ => ?_
  unfold f55 at hS
  show ZR _ Q c55_b [] _
  replace hQ : ∀ e st', f55_Q r e st' → Q e st' := hQ
  refine zrBlk ?_
  refine zrSeq ?_
  refine zrReg ?_
  refine zlRun (n := 1) (j := 1) rfl (by kernel_rfl) ?_
  refine zlBool (d := 24) (op := (.cmpI .eql (.tmp 23) (.const (.int .i64 27)))) (g := none) (j := 2) (decide (a1 = 27)) rfl (by kernel_rfl) (by kernel_rfl) (by kernel_rfl) (fun hc => ?_) (fun hc => ?_)
  · replace hS := cond_t hc hS
    refine zlRun (n := 1) (j := 3) rfl (by kernel_rfl) ?_
    refine zlEnd (by kernel_rfl) ?_
    refine zkSeq ?_
    refine zrCondT (by kernel_rfl) ?_
    refine zrReg ?_
    refine zlRun (n := 10) (j := 10) rfl (by kernel_rfl) ?_
    refine zlEnd (by kernel_rfl) ?_
    refine zkBlk ?_
    refine zkNil ?_
    exact endQ hS hQ (fNorm ((congrArg (fun s => outR s 2 c55.res) (by kernel_rfl : finSt c55.fin _ = f55_fin (IntKind.i64.wrap (a2 + 1)) a3 a4 a5 a6 a7)).trans (f55_out (IntKind.i64.wrap (a2 + 1)) a3 a4 a5 a6 a7)))
  · replace hS := cond_f hc hS
    refine zlRun (n := 1) (j := 3) rfl (by kernel_rfl) ?_
    refine zlEnd (by kernel_rfl) ?_
    refine zkSeq ?_
    refine zrCondF (by kernel_rfl) ?_
    refine zrSeq ?_
    refine zrReg ?_
    refine zlRun (n := 1) (j := 1) rfl (by kernel_rfl) ?_
    refine zlBool (d := 36) (op := (.cmpI .eql (.tmp 35) (.const (.int .i64 24)))) (g := none) (j := 2) (decide (a1 = 24)) rfl (by kernel_rfl) (by kernel_rfl) (by kernel_rfl) (fun hc => ?_) (fun hc => ?_)
    · replace hS := cond_t hc hS
      refine zlRun (n := 5) (j := 7) rfl (by kernel_rfl) ?_
      refine zlEnd (by kernel_rfl) ?_
      refine zkSeq ?_
      refine zrCondT (by kernel_rfl) ?_
      refine zrReg ?_
      refine zlRun (n := 1) (j := 1) rfl (by kernel_rfl) ?_
      refine bindE hS (fun z7 hz7 hS => ?_)
      refine zlOp (d := some 42) (op := (.callr 58 [(.tmp 41), (.const (.int .i64 0))])) (g := none) (v := (.tup [])) (ups := [(0, ⟨0, some (.box ((.d (.int .i64 z7.1)) :: ((.d (.int .i64 0)) :: ((.d (.str ([]))) :: ((.d (.str ([]))) :: ((.d (.str ([]))) :: ((.r (.msl 1 1 0 z7.2.length)) :: [])))))))⟩), (1, ⟨1, some (.own 31 6 (e_GAct.cells z7.2))⟩)]) (j := 2) rfl (by kernel_rfl) (by kernel_rfl) (ev_callr (args := [(.r (.ptr 0 0 0)), (.d (.int .i64 0))]) (ids := [0, 1]) (bs := [(.box ((.d (.int .i64 a2)) :: ((.d (.int .i64 a3)) :: ((.d (.str a4)) :: ((.d (.str a5)) :: ((.d (.str a6)) :: ((.r (.msl 1 0 0 a7.length)) :: []))))))), (.own 31 6 (e_GAct.cells a7))]) (l := [(.r (.ptr 0 0 0)), (.d (.int .i64 0))]) (bt := [(.box ((.d (.int .i64 a2)) :: ((.d (.int .i64 a3)) :: ((.d (.str a4)) :: ((.d (.str a5)) :: ((.d (.str a6)) :: ((.r (.msl 1 0 0 a7.length)) :: []))))))), (.own 31 6 (e_GAct.cells a7))]) (r := (.tup [])) (bs' := [(.box ((.d (.int .i64 z7.1)) :: ((.d (.int .i64 0)) :: ((.d (.str ([]))) :: ((.d (.str ([]))) :: ((.d (.str ([]))) :: ((.r (.msl 1 0 0 z7.2.length)) :: []))))))), (.own 31 6 (e_GAct.cells z7.2))]) (by kernel_rfl) (by kernel_rfl) (by kernel_rfl) (by kernel_rfl) (by kernel_rfl) (f58_ok (d - 1) (dpt hd rfl) 0 a2 a3 a4 a5 a6 a7 z7 hz7) (by kernel_rfl) (by kernel_rfl)) ?_
      refine zlEnd (by kernel_rfl) ?_
      refine zkBlk ?_
      refine zkNil ?_
      exact endQ hS hQ (fNorm ((congrArg (fun s => outR s 2 c55.res) (by kernel_rfl : finSt c55.fin _ = f55_fin z7.1 0 [] [] [] z7.2)).trans (f55_out z7.1 0 [] [] [] z7.2)))
    · replace hS := cond_f hc hS
      refine zlRun (n := 2) (j := 4) rfl (by kernel_rfl) ?_
      refine zlBool (d := 39) (op := (.cmpI .eql (.tmp 38) (.const (.int .i64 26)))) (g := (some (37, false))) (j := 5) (decide (a1 = 26)) rfl (by kernel_rfl) (by kernel_rfl) (by kernel_rfl) (fun hc => ?_) (fun hc => ?_)
      · replace hS := cond_t hc hS
        refine zlRun (n := 2) (j := 7) rfl (by kernel_rfl) ?_
        refine zlEnd (by kernel_rfl) ?_
        refine zkSeq ?_
        refine zrCondT (by kernel_rfl) ?_
        refine zrReg ?_
        refine zlRun (n := 1) (j := 1) rfl (by kernel_rfl) ?_
        refine bindE hS (fun z8 hz8 hS => ?_)
        refine zlOp (d := some 42) (op := (.callr 58 [(.tmp 41), (.const (.int .i64 0))])) (g := none) (v := (.tup [])) (ups := [(0, ⟨0, some (.box ((.d (.int .i64 z8.1)) :: ((.d (.int .i64 0)) :: ((.d (.str ([]))) :: ((.d (.str ([]))) :: ((.d (.str ([]))) :: ((.r (.msl 1 1 0 z8.2.length)) :: [])))))))⟩), (1, ⟨1, some (.own 31 6 (e_GAct.cells z8.2))⟩)]) (j := 2) rfl (by kernel_rfl) (by kernel_rfl) (ev_callr (args := [(.r (.ptr 0 0 0)), (.d (.int .i64 0))]) (ids := [0, 1]) (bs := [(.box ((.d (.int .i64 a2)) :: ((.d (.int .i64 a3)) :: ((.d (.str a4)) :: ((.d (.str a5)) :: ((.d (.str a6)) :: ((.r (.msl 1 0 0 a7.length)) :: []))))))), (.own 31 6 (e_GAct.cells a7))]) (l := [(.r (.ptr 0 0 0)), (.d (.int .i64 0))]) (bt := [(.box ((.d (.int .i64 a2)) :: ((.d (.int .i64 a3)) :: ((.d (.str a4)) :: ((.d (.str a5)) :: ((.d (.str a6)) :: ((.r (.msl 1 0 0 a7.length)) :: []))))))), (.own 31 6 (e_GAct.cells a7))]) (r := (.tup [])) (bs' := [(.box ((.d (.int .i64 z8.1)) :: ((.d (.int .i64 0)) :: ((.d (.str ([]))) :: ((.d (.str ([]))) :: ((.d (.str ([]))) :: ((.r (.msl 1 0 0 z8.2.length)) :: []))))))), (.own 31 6 (e_GAct.cells z8.2))]) (by kernel_rfl) (by kernel_rfl) (by kernel_rfl) (by kernel_rfl) (by kernel_rfl) (f58_ok (d - 1) (dpt hd rfl) 0 a2 a3 a4 a5 a6 a7 z8 hz8) (by kernel_rfl) (by kernel_rfl)) ?_
        refine zlEnd (by kernel_rfl) ?_
        refine zkBlk ?_
        refine zkNil ?_
        exact endQ hS hQ (fNorm ((congrArg (fun s => outR s 2 c55.res) (by kernel_rfl : finSt c55.fin _ = f55_fin z8.1 0 [] [] [] z8.2)).trans (f55_out z8.1 0 [] [] [] z8.2)))
      · replace hS := cond_f hc hS
        refine zlRun (n := 2) (j := 7) rfl (by kernel_rfl) ?_
        refine zlEnd (by kernel_rfl) ?_
        refine zkSeq ?_
        refine zrCondF (by kernel_rfl) ?_
        refine zrSeq ?_
        refine zrReg ?_
        refine zlRun (n := 5) (j := 5) rfl (by kernel_rfl) ?_
        refine zlBool (d := 49) (op := (.cmpI .eql (.tmp 48) (.const (.int .i64 9)))) (g := none) (j := 6) (decide (a2 = 9)) rfl (by kernel_rfl) (by kernel_rfl) (by kernel_rfl) (fun hc => ?_) (fun hc => ?_)
        · replace hS := cond_t hc hS
          refine zlRun (n := 1) (j := 7) rfl (by kernel_rfl) ?_
          refine zlEnd (by kernel_rfl) ?_
          refine zkSeq ?_
          refine zrCondT (by kernel_rfl) ?_
          refine zrSkip ?_
          refine zkBlk ?_
          refine zkNil ?_
          exact endQ hS hQ (fNorm ((congrArg (fun s => outR s 2 c55.res) (by kernel_rfl : finSt c55.fin _ = f55_fin a2 a3 a4 a5 a6 a7)).trans (f55_out a2 a3 a4 a5 a6 a7)))
        · replace hS := cond_f hc hS
          refine zlRun (n := 1) (j := 7) rfl (by kernel_rfl) ?_
          refine zlEnd (by kernel_rfl) ?_
          refine zkSeq ?_
          refine zrCondF (by kernel_rfl) ?_
          refine zrSeq ?_
          refine zrReg ?_
          refine zlRun (n := 1) (j := 1) rfl (by kernel_rfl) ?_
          refine zlBool (d := 52) (op := (.cmpI .eql (.tmp 51) (.const (.int .i64 7)))) (g := none) (j := 2) (decide (a1 = 7)) rfl (by kernel_rfl) (by kernel_rfl) (by kernel_rfl) (fun hc => ?_) (fun hc => ?_)
          · replace hS := cond_t hc hS
            refine zlRun (n := 1) (j := 3) rfl (by kernel_rfl) ?_
            refine zlEnd (by kernel_rfl) ?_
            refine zkSeq ?_
            refine zrCondT (by kernel_rfl) ?_
            refine zrSeq ?_
            refine zrReg ?_
            refine zlRun (n := 7) (j := 7) rfl (by kernel_rfl) ?_
            refine bindE hS (fun z9 hz9 hS => ?_)
            refine zlOp (d := some 60) (op := (.callr 56 [(.tmp 53), (.tmp 59)])) (g := none) (v := (.tup [])) (ups := [(0, ⟨0, some (.box ((.d (.int .i64 z9.1)) :: ((.d (.int .i64 z9.2.1)) :: ((.d (.str z9.2.2.1)) :: ((.d (.str z9.2.2.2.1)) :: ((.d (.str z9.2.2.2.2.1)) :: ((.r (.msl 1 1 0 z9.2.2.2.2.2.length)) :: [])))))))⟩), (1, ⟨1, some (.own 31 6 (e_GAct.cells z9.2.2.2.2.2))⟩)]) (j := 8) rfl (by kernel_rfl) (by kernel_rfl) (ev_callr (args := [(.r (.ptr 0 0 0)), (.agg ((.d (.int .i64 5)) :: ((.d (.int .i64 0)) :: ((.d (.int .i64 0)) :: ((.d (.str ([]))) :: ((.d (.sl ([] : List Int).length ((eInt .i64).cells ([])))) :: ((.d (.str a6)) :: [])))))))]) (ids := [0, 1]) (bs := [(.box ((.d (.int .i64 a2)) :: ((.d (.int .i64 a3)) :: ((.d (.str a4)) :: ((.d (.str a5)) :: ((.d (.str a6)) :: ((.r (.msl 1 0 0 a7.length)) :: []))))))), (.own 31 6 (e_GAct.cells a7))]) (l := [(.r (.ptr 0 0 0)), (.agg ((.d (.int .i64 5)) :: ((.d (.int .i64 0)) :: ((.d (.int .i64 0)) :: ((.d (.str ([]))) :: ((.d (.sl ([] : List Int).length ((eInt .i64).cells ([])))) :: ((.d (.str a6)) :: [])))))))]) (bt := [(.box ((.d (.int .i64 a2)) :: ((.d (.int .i64 a3)) :: ((.d (.str a4)) :: ((.d (.str a5)) :: ((.d (.str a6)) :: ((.r (.msl 1 0 0 a7.length)) :: []))))))), (.own 31 6 (e_GAct.cells a7))]) (r := (.tup [])) (bs' := [(.box ((.d (.int .i64 z9.1)) :: ((.d (.int .i64 z9.2.1)) :: ((.d (.str z9.2.2.1)) :: ((.d (.str z9.2.2.2.1)) :: ((.d (.str z9.2.2.2.2.1)) :: ((.r (.msl 1 0 0 z9.2.2.2.2.2.length)) :: []))))))), (.own 31 6 (e_GAct.cells z9.2.2.2.2.2))]) (by kernel_rfl) (by kernel_rfl) (by kernel_rfl) (by kernel_rfl) (by kernel_rfl) (f56_ok (d - 1) (dpt hd rfl) (GAct.mk 5 0 0 ([]) ([]) a6) a2 a3 a4 a5 a6 a7 z9 hz9) (by kernel_rfl) (by kernel_rfl)) ?_
            refine zlEnd (by kernel_rfl) ?_
            refine zkSeq ?_
            refine zrReg ?_
            refine zlRun (n := 1) (j := 1) rfl (by kernel_rfl) ?_
            refine bindE hS (fun z10 hz10 hS => ?_)
            refine zlOp (d := some 62) (op := (.callr 57 [(.tmp 61), (.const (.int .i64 0))])) (g := none) (v := (.tup [])) (ups := [(0, ⟨0, some (.box ((.d (.int .i64 z10.1)) :: ((.d (.int .i64 0)) :: ((.d (.str ([]))) :: ((.d (.str ([]))) :: ((.d (.str ([]))) :: ((.r (.msl 1 2 0 z10.2.length)) :: [])))))))⟩), (1, ⟨2, some (.own 31 6 (e_GAct.cells z10.2))⟩)]) (j := 2) rfl (by kernel_rfl) (by kernel_rfl) (ev_callr (args := [(.r (.ptr 0 0 0)), (.d (.int .i64 0))]) (ids := [0, 1]) (bs := [(.box ((.d (.int .i64 z9.1)) :: ((.d (.int .i64 z9.2.1)) :: ((.d (.str z9.2.2.1)) :: ((.d (.str z9.2.2.2.1)) :: ((.d (.str z9.2.2.2.2.1)) :: ((.r (.msl 1 1 0 z9.2.2.2.2.2.length)) :: []))))))), (.own 31 6 (e_GAct.cells z9.2.2.2.2.2))]) (l := [(.r (.ptr 0 0 0)), (.d (.int .i64 0))]) (bt := [(.box ((.d (.int .i64 z9.1)) :: ((.d (.int .i64 z9.2.1)) :: ((.d (.str z9.2.2.1)) :: ((.d (.str z9.2.2.2.1)) :: ((.d (.str z9.2.2.2.2.1)) :: ((.r (.msl 1 0 0 z9.2.2.2.2.2.length)) :: []))))))), (.own 31 6 (e_GAct.cells z9.2.2.2.2.2))]) (r := (.tup [])) (bs' := [(.box ((.d (.int .i64 z10.1)) :: ((.d (.int .i64 0)) :: ((.d (.str ([]))) :: ((.d (.str ([]))) :: ((.d (.str ([]))) :: ((.r (.msl 1 0 0 z10.2.length)) :: []))))))), (.own 31 6 (e_GAct.cells z10.2))]) (by kernel_rfl) (by kernel_rfl) (by kernel_rfl) (by kernel_rfl) (by kernel_rfl) (f57_ok (d - 1) (dpt hd rfl) 0 z9.1 z9.2.1 z9.2.2.1 z9.2.2.2.1 z9.2.2.2.2.1 z9.2.2.2.2.2 z10 hz10) (by kernel_rfl) (by kernel_rfl)) ?_
            refine zlEnd (by kernel_rfl) ?_
            refine zkBlk ?_
            refine zkNil ?_
            exact endQ hS hQ (fNorm ((congrArg (fun s => outR s 2 c55.res) (by kernel_rfl : finSt c55.fin _ = f55_fin z10.1 0 [] [] [] z10.2)).trans (f55_out z10.1 0 [] [] [] z10.2)))
          · replace hS := cond_f hc hS
            refine zlRun (n := 1) (j := 3) rfl (by kernel_rfl) ?_
            refine zlEnd (by kernel_rfl) ?_
            refine zkSeq ?_
            refine zrCondF (by kernel_rfl) ?_
            refine zrSeq ?_
            refine zrReg ?_
            refine zlRun (n := 1) (j := 1) rfl (by kernel_rfl) ?_
            refine zlBool (d := 65) (op := (.cmpI .lss (.tmp 64) (.const (.int .i64 32)))) (g := none) (j := 2) (decide (a1 < 32)) rfl (by kernel_rfl) (by kernel_rfl) (by kernel_rfl) (fun hc => ?_) (fun hc => ?_)
            · replace hS := cond_t hc hS
              refine zlRun (n := 5) (j := 7) rfl (by kernel_rfl) ?_
              refine zlEnd (by kernel_rfl) ?_
              refine zkSeq ?_
              refine zrCondT (by kernel_rfl) ?_
              refine zrSkip ?_
              refine zkBlk ?_
              refine zkNil ?_
              exact endQ hS hQ (fNorm ((congrArg (fun s => outR s 2 c55.res) (by kernel_rfl : finSt c55.fin _ = f55_fin a2 a3 a4 a5 a6 a7)).trans (f55_out a2 a3 a4 a5 a6 a7)))
            · replace hS := cond_f hc hS
              refine zlRun (n := 2) (j := 4) rfl (by kernel_rfl) ?_
              refine bindE hS (fun z12 hz12 hS => ?_)
              refine zlOp (d := some 68) (op := (.call 32 [(.tmp 67), (.const (.int .i64 127)), (.const (.int .i64 159))])) (g := (some (66, false))) (v := (.d (.bool z12))) (ups := []) (j := 5) rfl (by kernel_rfl) (by kernel_rfl) (ev_call (args := [(.d (.int .i64 a1)), (.d (.int .i64 127)), (.d (.int .i64 159))]) (l := [(.d (.int .i64 a1)), (.d (.int .i64 127)), (.d (.int .i64 159))]) (r := (.d (.bool z12))) (by kernel_rfl) (by kernel_rfl) (f32_ok (d - 1) (dpt hd rfl) a1 127 159 z12 hz12) (by kernel_rfl) (by kernel_rfl) (by kernel_rfl)) ?_
              refine zlRun (n := 2) (j := 7) rfl (by kernel_rfl) ?_
              refine zlEnd (by kernel_rfl) ?_
              refine zkSeq ?_
              refine zrSplit 63 z12 (by kernel_rfl) (fun hc => ?_) (fun hc => ?_)
              · replace hS := cond_t hc hS
                refine zrCondT (by kernel_rfl) ?_
                refine zrSkip ?_
                refine zkBlk ?_
                refine zkNil ?_
                exact endQ hS hQ (fNorm ((congrArg (fun s => outR s 2 c55.res) (by kernel_rfl : finSt c55.fin _ = f55_fin a2 a3 a4 a5 a6 a7)).trans (f55_out a2 a3 a4 a5 a6 a7)))
              · replace hS := cond_f hc hS
                refine zrCondF (by kernel_rfl) ?_
                refine zrSeq ?_
                refine zrRegD ?_
                refine zdRun (n := 7) (j := 7) (ts := [[], [], [], [], [(0, false)], [], [(96, true)]]) (acc' := [[], [], [], [], [(0, false)], [], [(96, true)]]) rfl (by kernel_rfl) (by kernel_rfl) (by kernel_rfl) ?_
                refine bindE hS (fun z15 hz15 hS => ?_)
                refine zdOp (d := some 12) (op := (.call 48 [(.tmp 11)])) (g := none) (v := (.d (.str z15))) (ups := []) (j := 8) (t1 := [(96, false), (104, true), (105, true), (106, true), (107, true), (108, true), (109, true), (110, true), (111, true)]) (acc' := [[], [], [], [], [(0, false)], [], [(96, true)], [(96, false), (104, true), (105, true), (106, true), (107, true), (108, true), (109, true), (110, true), (111, true)]]) (by kernel_rfl) (by kernel_rfl) rfl (by kernel_rfl) (by kernel_rfl) (ev_call (args := [(.r (.msl 96 1 0 (([a1] : List Int).length)))]) (l := [(.d (.sl ([a1] : List Int).length ((eInt .i64).cells ([a1]))))]) (r := (.d (.str z15))) (by kernel_rfl) (l_cons (l_own (eInt .i64) (e := 3) (k := 1) (xs := [a1]) (by kernel_rfl) rfl rfl) l_nil) (f48_ok (d - 1) (dpt hd rfl) [a1] z15 hz15) (by kernel_rfl) (by kernel_rfl) (by kernel_rfl)) ?_
                refine bindE hS (fun z16 hz16 hS => ?_)
                refine zdOp (d := some 13) (op := (.strO .add (.tmp 9) (.tmp 12))) (g := none) (v := (.d (.str z16))) (ups := []) (j := 9) (t1 := []) (acc' := [[], [], [], [], [(0, false)], [], [(96, true)], [(96, false), (104, true), (105, true), (106, true), (107, true), (108, true), (109, true), (110, true), (111, true)], []]) (by kernel_rfl) (by kernel_rfl) rfl (by kernel_rfl) (by kernel_rfl) (ev_cat (a := a6) (c := z15) (by kernel_rfl) (by kernel_rfl) hz16) ?_
                refine zdRun (n := 1) (j := 10) (ts := [[]]) (acc' := [[], [], [], [], [(0, false)], [], [(96, true)], [(96, false), (104, true), (105, true), (106, true), (107, true), (108, true), (109, true), (110, true), (111, true)], [], []]) rfl (by kernel_rfl) (by kernel_rfl) (by kernel_rfl) ?_
                refine zdEnd (by kernel_rfl) (by kernel_rfl) ?_
                refine zkSeq ?_
                refine zrSeq ?_
                refine zrReg ?_
                refine zlRun (n := 2) (j := 2) rfl (by kernel_rfl) ?_
                refine zlBool (d := 16) (op := (.cmpI .leq (.tmp 15) (.const (.int .i64 256)))) (g := none) (j := 3) (decide ((z16.length : Int) ≤ 256)) rfl (by kernel_rfl) (by kernel_rfl) (by kernel_rfl) (fun hc => ?_) (fun hc => ?_)
                · replace hS := cond_t hc hS
                  refine zlEnd (by kernel_rfl) ?_
                  refine zkSeq ?_
                  refine zrCondT (by kernel_rfl) ?_
                  refine zrReg ?_
                  refine zlRun (n := 6) (j := 6) rfl (by kernel_rfl) ?_
                  refine zlEnd (by kernel_rfl) ?_
                  refine zkBlk ?_
                  refine zkNil ?_
                  exact endQ hS hQ (fNorm ((congrArg (fun s => outR s 2 c55.res) (by kernel_rfl : finSt c55.fin _ = f55_fin a2 a3 a4 a5 z16 a7)).trans (f55_out a2 a3 a4 a5 z16 a7)))
                · replace hS := cond_f hc hS
                  refine zlEnd (by kernel_rfl) ?_
                  refine zkSeq ?_
                  refine zrCondF (by kernel_rfl) ?_
                  refine zrSkip ?_
                  refine zkBlk ?_
                  refine zkNil ?_
                  exact endQ hS hQ (fNorm ((congrArg (fun s => outR s 2 c55.res) (by kernel_rfl : finSt c55.fin _ = f55_fin a2 a3 a4 a5 a6 a7)).trans (f55_out a2 a3 a4 a5 a6 a7)))
end Go.Proofs.YtakmihemhmdpkaaDoor.Pm
