/- Typed functions, and that the codes are these. Printed by dec.py. -/
import Derived.Test.YtohecbgpjpfncaaDoorDUaC
namespace Go.Proofs.YtohecbgpjpfncaaDoor.Pm
set_option maxRecDepth 1000000
set_option maxHeartbeats 20000000
set_option linter.unusedVariables false
/- farwriter/utf.need -/
def f22_fin (p11 : Int) (p12 : UInt8) (p13 : UInt8) : St := ⟨(up (up (up (fun _ => .un) 4 (.d (.int .u8 (p13.toNat : Int)))) 3 (.d (.int .u8 (p12.toNat : Int)))) 2 (.d (.int .i64 p11))), (hB fun _ => 0)⟩
theorem f22_out (p11 : Int) (p12 : UInt8) (p13 : UInt8) : outR (f22_fin p11 p12 p13) 0 c22.res = some ((.tup [(.d (.int .i64 p11)), (.d (.int .u8 (p12.toNat : Int))), (.d (.int .u8 (p13.toNat : Int)))]), []) := by
  kernel_rfl
def f22_Q (r : Int × UInt8 × UInt8) (e : PX) (st : St) : Prop := DoneF c22 0 ((.tup [(.d (.int .i64 r.1)), (.d (.int .u8 (r.2.1.toNat : Int))), (.d (.int .u8 (r.2.2.toNat : Int)))]), []) e st
def f22_j1_J (a1 : UInt8) : St := ⟨(up (fun _ => .un) 0 (.d (.int .u8 (a1.toNat : Int)))), (hB fun _ => 0)⟩
noncomputable def f22_j1 (a1 : UInt8) : Option (Int × UInt8 × UInt8) := (bif (decide ((a1.toNat : Int) = 240)) then (some (3, (144 : UInt8), (191 : UInt8))) else (bif (decide ((a1.toNat : Int) = 244)) then (some (3, (128 : UInt8), (143 : UInt8))) else (bif (decide (241 ≤ (a1.toNat : Int))) then (bif (decide ((a1.toNat : Int) ≤ 243)) then (some (3, (128 : UInt8), (191 : UInt8))) else (some (0, (0 : UInt8), (0 : UInt8)))) else (some (0, (0 : UInt8), (0 : UInt8))))))
theorem f22_j1_ok {d : Nat} (hd : 1 ≤ d) (a1 : UInt8) {r : Int × UInt8 × UInt8} {Q : PX → St → Prop} (hQ : ∀ e st', f22_Q r e st' → Q e st')  (hS : f22_j1 a1 = some r) {st : St} (he : keepSt [0] [] [] st = f22_j1_J a1) : ZR (lev codes baseL (d - 1)) Q c22_1 [.blk 0, .seq c22_2] st := by
  refine zrKeep he ?_
  unfold f22_j1 at hS
  refine zrSeq ?_
  refine zrReg ?_
  refine zlRun (n := 1) (j := 1) rfl (by kernel_rfl) ?_
  refine zlBool (d := 27) (op := (.cmpI .eql (.tmp 26) (.const (.int .u8 240)))) (g := none) (j := 2) (decide ((a1.toNat : Int) = 240)) rfl (by kernel_rfl) (by kernel_rfl) (by kernel_rfl) (fun hc => ?_) (fun hc => ?_)
  · replace hS := cond_t hc hS
    refine zlRun (n := 1) (j := 3) rfl (by kernel_rfl) ?_
    refine zlEnd (by kernel_rfl) ?_
    refine zkSeq ?_
    refine zrCondT (by kernel_rfl) ?_
    refine zrSeq ?_
    refine zrReg ?_
    refine zlRun (n := 3) (j := 3) rfl (by kernel_rfl) ?_
    refine zlEnd (by kernel_rfl) ?_
    refine zkSeq ?_
    refine zrRet ?_
    refine zkBlkR ?_
    refine zkSeqR ?_
    refine zkNil ?_
    exact endQ hS hQ (fRet ((congrArg (fun s => outR s 0 c22.res) (by kernel_rfl : finSt c22.fin _ = f22_fin 3 (144 : UInt8) (191 : UInt8))).trans (f22_out 3 (144 : UInt8) (191 : UInt8))))
  · replace hS := cond_f hc hS
    refine zlRun (n := 1) (j := 3) rfl (by kernel_rfl) ?_
    refine zlEnd (by kernel_rfl) ?_
    refine zkSeq ?_
    refine zrCondF (by kernel_rfl) ?_
    refine zrSeq ?_
    refine zrReg ?_
    refine zlRun (n := 1) (j := 1) rfl (by kernel_rfl) ?_
    refine zlBool (d := 30) (op := (.cmpI .eql (.tmp 29) (.const (.int .u8 244)))) (g := none) (j := 2) (decide ((a1.toNat : Int) = 244)) rfl (by kernel_rfl) (by kernel_rfl) (by kernel_rfl) (fun hc => ?_) (fun hc => ?_)
    · replace hS := cond_t hc hS
      refine zlRun (n := 1) (j := 3) rfl (by kernel_rfl) ?_
      refine zlEnd (by kernel_rfl) ?_
      refine zkSeq ?_
      refine zrCondT (by kernel_rfl) ?_
      refine zrSeq ?_
      refine zrReg ?_
      refine zlRun (n := 3) (j := 3) rfl (by kernel_rfl) ?_
      refine zlEnd (by kernel_rfl) ?_
      refine zkSeq ?_
      refine zrRet ?_
      refine zkBlkR ?_
      refine zkSeqR ?_
      refine zkNil ?_
      exact endQ hS hQ (fRet ((congrArg (fun s => outR s 0 c22.res) (by kernel_rfl : finSt c22.fin _ = f22_fin 3 (128 : UInt8) (143 : UInt8))).trans (f22_out 3 (128 : UInt8) (143 : UInt8))))
    · replace hS := cond_f hc hS
      refine zlRun (n := 1) (j := 3) rfl (by kernel_rfl) ?_
      refine zlEnd (by kernel_rfl) ?_
      refine zkSeq ?_
      refine zrCondF (by kernel_rfl) ?_
      refine zrSeq ?_
      refine zrReg ?_
      refine zlRun (n := 1) (j := 1) rfl (by kernel_rfl) ?_
      refine zlBool (d := 33) (op := (.cmpI .geq (.tmp 32) (.const (.int .u8 241)))) (g := none) (j := 2) (decide (241 ≤ (a1.toNat : Int))) rfl (by kernel_rfl) (by kernel_rfl) (by kernel_rfl) (fun hc => ?_) (fun hc => ?_)
      · replace hS := cond_t hc hS
        refine zlRun (n := 2) (j := 4) rfl (by kernel_rfl) ?_
        refine zlBool (d := 36) (op := (.cmpI .leq (.tmp 35) (.const (.int .u8 243)))) (g := (some (34, true))) (j := 5) (decide ((a1.toNat : Int) ≤ 243)) rfl (by kernel_rfl) (by kernel_rfl) (by kernel_rfl) (fun hc => ?_) (fun hc => ?_)
        · replace hS := cond_t hc hS
          refine zlRun (n := 2) (j := 7) rfl (by kernel_rfl) ?_
          refine zlEnd (by kernel_rfl) ?_
          refine zkSeq ?_
          refine zrCondT (by kernel_rfl) ?_
          refine zrSeq ?_
          refine zrReg ?_
          refine zlRun (n := 3) (j := 3) rfl (by kernel_rfl) ?_
          refine zlEnd (by kernel_rfl) ?_
          refine zkSeq ?_
          refine zrRet ?_
          refine zkBlkR ?_
          refine zkSeqR ?_
          refine zkNil ?_
          exact endQ hS hQ (fRet ((congrArg (fun s => outR s 0 c22.res) (by kernel_rfl : finSt c22.fin _ = f22_fin 3 (128 : UInt8) (191 : UInt8))).trans (f22_out 3 (128 : UInt8) (191 : UInt8))))
        · replace hS := cond_f hc hS
          refine zlRun (n := 2) (j := 7) rfl (by kernel_rfl) ?_
          refine zlEnd (by kernel_rfl) ?_
          refine zkSeq ?_
          refine zrCondF (by kernel_rfl) ?_
          refine zrSkip ?_
          refine zkBlk ?_
          refine zkSeq ?_
          refine zrSeq ?_
          refine zrReg ?_
          refine zlRun (n := 3) (j := 3) rfl (by kernel_rfl) ?_
          refine zlEnd (by kernel_rfl) ?_
          refine zkSeq ?_
          refine zrRet ?_
          refine zkNil ?_
          exact endQ hS hQ (fRet ((congrArg (fun s => outR s 0 c22.res) (by kernel_rfl : finSt c22.fin _ = f22_fin 0 (0 : UInt8) (0 : UInt8))).trans (f22_out 0 (0 : UInt8) (0 : UInt8))))
      · replace hS := cond_f hc hS
        refine zlRun (n := 5) (j := 7) rfl (by kernel_rfl) ?_
        refine zlEnd (by kernel_rfl) ?_
        refine zkSeq ?_
        refine zrCondF (by kernel_rfl) ?_
        refine zrSkip ?_
        refine zkBlk ?_
        refine zkSeq ?_
        refine zrSeq ?_
        refine zrReg ?_
        refine zlRun (n := 3) (j := 3) rfl (by kernel_rfl) ?_
        refine zlEnd (by kernel_rfl) ?_
        refine zkSeq ?_
        refine zrRet ?_
        refine zkNil ?_
        exact endQ hS hQ (fRet ((congrArg (fun s => outR s 0 c22.res) (by kernel_rfl : finSt c22.fin _ = f22_fin 0 (0 : UInt8) (0 : UInt8))).trans (f22_out 0 (0 : UInt8) (0 : UInt8))))
def f22_j0_J (a1 : UInt8) : St := ⟨(up (fun _ => .un) 0 (.d (.int .u8 (a1.toNat : Int)))), (hB fun _ => 0)⟩
noncomputable def f22_j0 (a1 : UInt8) : Option (Int × UInt8 × UInt8) := (bif (decide ((a1.toNat : Int) = 224)) then (some (2, (160 : UInt8), (191 : UInt8))) else (bif (decide ((a1.toNat : Int) = 237)) then (some (2, (128 : UInt8), (159 : UInt8))) else (bif (decide (225 ≤ (a1.toNat : Int))) then (bif (decide ((a1.toNat : Int) ≤ 239)) then (some (2, (128 : UInt8), (191 : UInt8))) else (f22_j1 a1 )) else (f22_j1 a1 ))))
theorem f22_j0_ok {d : Nat} (hd : 1 ≤ d) (a1 : UInt8) {r : Int × UInt8 × UInt8} {Q : PX → St → Prop} (hQ : ∀ e st', f22_Q r e st' → Q e st')  (hS : f22_j0 a1 = some r) {st : St} (he : keepSt [0] [] [] st = f22_j0_J a1) : ZR (lev codes baseL (d - 1)) Q c22_3 [.blk 0, .seq c22_2] st := by
  refine zrKeep he ?_
  unfold f22_j0 at hS
  refine zrSeq ?_
  refine zrReg ?_
  refine zlRun (n := 1) (j := 1) rfl (by kernel_rfl) ?_
  refine zlBool (d := 14) (op := (.cmpI .eql (.tmp 13) (.const (.int .u8 224)))) (g := none) (j := 2) (decide ((a1.toNat : Int) = 224)) rfl (by kernel_rfl) (by kernel_rfl) (by kernel_rfl) (fun hc => ?_) (fun hc => ?_)
  · replace hS := cond_t hc hS
    refine zlRun (n := 1) (j := 3) rfl (by kernel_rfl) ?_
    refine zlEnd (by kernel_rfl) ?_
    refine zkSeq ?_
    refine zrCondT (by kernel_rfl) ?_
    refine zrSeq ?_
    refine zrReg ?_
    refine zlRun (n := 3) (j := 3) rfl (by kernel_rfl) ?_
    refine zlEnd (by kernel_rfl) ?_
    refine zkSeq ?_
    refine zrRet ?_
    refine zkBlkR ?_
    refine zkSeqR ?_
    refine zkNil ?_
    exact endQ hS hQ (fRet ((congrArg (fun s => outR s 0 c22.res) (by kernel_rfl : finSt c22.fin _ = f22_fin 2 (160 : UInt8) (191 : UInt8))).trans (f22_out 2 (160 : UInt8) (191 : UInt8))))
  · replace hS := cond_f hc hS
    refine zlRun (n := 1) (j := 3) rfl (by kernel_rfl) ?_
    refine zlEnd (by kernel_rfl) ?_
    refine zkSeq ?_
    refine zrCondF (by kernel_rfl) ?_
    refine zrSeq ?_
    refine zrReg ?_
    refine zlRun (n := 1) (j := 1) rfl (by kernel_rfl) ?_
    refine zlBool (d := 17) (op := (.cmpI .eql (.tmp 16) (.const (.int .u8 237)))) (g := none) (j := 2) (decide ((a1.toNat : Int) = 237)) rfl (by kernel_rfl) (by kernel_rfl) (by kernel_rfl) (fun hc => ?_) (fun hc => ?_)
    · replace hS := cond_t hc hS
      refine zlRun (n := 1) (j := 3) rfl (by kernel_rfl) ?_
      refine zlEnd (by kernel_rfl) ?_
      refine zkSeq ?_
      refine zrCondT (by kernel_rfl) ?_
      refine zrSeq ?_
      refine zrReg ?_
      refine zlRun (n := 3) (j := 3) rfl (by kernel_rfl) ?_
      refine zlEnd (by kernel_rfl) ?_
      refine zkSeq ?_
      refine zrRet ?_
      refine zkBlkR ?_
      refine zkSeqR ?_
      refine zkNil ?_
      exact endQ hS hQ (fRet ((congrArg (fun s => outR s 0 c22.res) (by kernel_rfl : finSt c22.fin _ = f22_fin 2 (128 : UInt8) (159 : UInt8))).trans (f22_out 2 (128 : UInt8) (159 : UInt8))))
    · replace hS := cond_f hc hS
      refine zlRun (n := 1) (j := 3) rfl (by kernel_rfl) ?_
      refine zlEnd (by kernel_rfl) ?_
      refine zkSeq ?_
      refine zrCondF (by kernel_rfl) ?_
      refine zrSeq ?_
      refine zrReg ?_
      refine zlRun (n := 1) (j := 1) rfl (by kernel_rfl) ?_
      refine zlBool (d := 20) (op := (.cmpI .geq (.tmp 19) (.const (.int .u8 225)))) (g := none) (j := 2) (decide (225 ≤ (a1.toNat : Int))) rfl (by kernel_rfl) (by kernel_rfl) (by kernel_rfl) (fun hc => ?_) (fun hc => ?_)
      · replace hS := cond_t hc hS
        refine zlRun (n := 2) (j := 4) rfl (by kernel_rfl) ?_
        refine zlBool (d := 23) (op := (.cmpI .leq (.tmp 22) (.const (.int .u8 239)))) (g := (some (21, true))) (j := 5) (decide ((a1.toNat : Int) ≤ 239)) rfl (by kernel_rfl) (by kernel_rfl) (by kernel_rfl) (fun hc => ?_) (fun hc => ?_)
        · replace hS := cond_t hc hS
          refine zlRun (n := 2) (j := 7) rfl (by kernel_rfl) ?_
          refine zlEnd (by kernel_rfl) ?_
          refine zkSeq ?_
          refine zrCondT (by kernel_rfl) ?_
          refine zrSeq ?_
          refine zrReg ?_
          refine zlRun (n := 3) (j := 3) rfl (by kernel_rfl) ?_
          refine zlEnd (by kernel_rfl) ?_
          refine zkSeq ?_
          refine zrRet ?_
          refine zkBlkR ?_
          refine zkSeqR ?_
          refine zkNil ?_
          exact endQ hS hQ (fRet ((congrArg (fun s => outR s 0 c22.res) (by kernel_rfl : finSt c22.fin _ = f22_fin 2 (128 : UInt8) (191 : UInt8))).trans (f22_out 2 (128 : UInt8) (191 : UInt8))))
        · replace hS := cond_f hc hS
          refine zlRun (n := 2) (j := 7) rfl (by kernel_rfl) ?_
          refine zlEnd (by kernel_rfl) ?_
          refine zkSeq ?_
          refine zrCondF (by kernel_rfl) ?_
          exact f22_j1_ok hd a1 hQ  hS (by kernel_rfl)
      · replace hS := cond_f hc hS
        refine zlRun (n := 5) (j := 7) rfl (by kernel_rfl) ?_
        refine zlEnd (by kernel_rfl) ?_
        refine zkSeq ?_
        refine zrCondF (by kernel_rfl) ?_
        exact f22_j1_ok hd a1 hQ  hS (by kernel_rfl)
noncomputable def f22 (a1 : UInt8) : Option (Int × UInt8 × UInt8) := (bif (decide (194 ≤ (a1.toNat : Int))) then (bif (decide ((a1.toNat : Int) ≤ 223)) then (some (1, (128 : UInt8), (191 : UInt8))) else (f22_j0 a1 )) else (f22_j0 a1 ))
theorem f22_ok (d : Nat) (hd : 1 ≤ d) (a1 : UInt8) (r : Int × UInt8 × UInt8) (hS : f22 a1 = some r) : lev codes baseL d 22 [(.d (.int .u8 (a1.toNat : Int)))] [] = some ((.tup [(.d (.int .i64 r.1)), (.d (.int .u8 (r.2.1.toNat : Int))), (.d (.int .u8 (r.2.2.toNat : Int)))]), []) := by
  refine lev_go codes22 rfl rfl (Nat.le_trans (Nat.le_of_ble_eq_true rfl) hd) fun Q hQ => ?_
  unfold f22 at hS
  show ZR _ Q c22_b [] _
  replace hQ : ∀ e st', f22_Q r e st' → Q e st' := hQ
  refine zrSeq ?_
  refine zrReg ?_
  refine zlRun (n := 3) (j := 3) rfl (by kernel_rfl) ?_
  refine zlEnd (by kernel_rfl) ?_
  refine zkSeq ?_
  refine zrSeq ?_
  refine zrBlk ?_
  refine zrSeq ?_
  refine zrReg ?_
  refine zlRun (n := 1) (j := 1) rfl (by kernel_rfl) ?_
  refine zlBool (d := 7) (op := (.cmpI .geq (.tmp 6) (.const (.int .u8 194)))) (g := none) (j := 2) (decide (194 ≤ (a1.toNat : Int))) rfl (by kernel_rfl) (by kernel_rfl) (by kernel_rfl) (fun hc => ?_) (fun hc => ?_)
  · replace hS := cond_t hc hS
    refine zlRun (n := 2) (j := 4) rfl (by kernel_rfl) ?_
    refine zlBool (d := 10) (op := (.cmpI .leq (.tmp 9) (.const (.int .u8 223)))) (g := (some (8, true))) (j := 5) (decide ((a1.toNat : Int) ≤ 223)) rfl (by kernel_rfl) (by kernel_rfl) (by kernel_rfl) (fun hc => ?_) (fun hc => ?_)
    · replace hS := cond_t hc hS
      refine zlRun (n := 2) (j := 7) rfl (by kernel_rfl) ?_
      refine zlEnd (by kernel_rfl) ?_
      refine zkSeq ?_
      refine zrCondT (by kernel_rfl) ?_
      refine zrSeq ?_
      refine zrReg ?_
      refine zlRun (n := 3) (j := 3) rfl (by kernel_rfl) ?_
      refine zlEnd (by kernel_rfl) ?_
      refine zkSeq ?_
      refine zrRet ?_
      refine zkBlkR ?_
      refine zkSeqR ?_
      refine zkNil ?_
      exact endQ hS hQ (fRet ((congrArg (fun s => outR s 0 c22.res) (by kernel_rfl : finSt c22.fin _ = f22_fin 1 (128 : UInt8) (191 : UInt8))).trans (f22_out 1 (128 : UInt8) (191 : UInt8))))
    · replace hS := cond_f hc hS
      refine zlRun (n := 2) (j := 7) rfl (by kernel_rfl) ?_
      refine zlEnd (by kernel_rfl) ?_
      refine zkSeq ?_
      refine zrCondF (by kernel_rfl) ?_
      exact f22_j0_ok hd a1 hQ  hS (by kernel_rfl)
  · replace hS := cond_f hc hS
    refine zlRun (n := 5) (j := 7) rfl (by kernel_rfl) ?_
    refine zlEnd (by kernel_rfl) ?_
    refine zkSeq ?_
    refine zrCondF (by kernel_rfl) ?_
    exact f22_j0_ok hd a1 hQ  hS (by kernel_rfl)
/- farwriter/utf.longest -/
def f17_fin (p102 : Int) (p103 : Bool) : St := ⟨(up (up (fun _ => .un) 3 (.d (.bool p103))) 2 (.d (.int .i64 p102))), (hB fun _ => 0)⟩
theorem f17_out (p102 : Int) (p103 : Bool) : outR (f17_fin p102 p103) 0 c17.res = some ((.tup [(.d (.int .i64 p102)), (.d (.bool p103))]), []) := by
  kernel_rfl
def f17_Q (r : Int × Bool) (e : PX) (st : St) : Prop := DoneF c17 0 ((.tup [(.d (.int .i64 r.1)), (.d (.bool r.2))]), []) e st
def f17_l1_J (a1 : List UInt8) (x : Int × UInt8 × UInt8 × Int) : St := ⟨(up (up (up (up (up (fun _ => .un) 7 (.d (.int .i64 x.2.2.2))) 6 (.d (.int .u8 (x.2.2.1.toNat : Int)))) 5 (.d (.int .u8 (x.2.1.toNat : Int)))) 4 (.d (.int .i64 x.1))) 0 (.d (.str a1))), (hB fun _ => 0)⟩
def f17_l1_H (a1 : List UInt8) (x : Int × UInt8 × UInt8 × Int) (st : St) : Prop := keepSt [0, 4, 5, 6, 7] [] [] st = f17_l1_J a1 x
def f17_l1_e0_J (a1 : List UInt8) (p204 : Int) (p205 : Int) : St := ⟨(up (up (fun _ => .un) 7 (.d (.int .i64 p205))) 4 (.d (.int .i64 p204))), (hB fun _ => 0)⟩
def f17_l1_X (a1 : List UInt8) (z : (Int × Int)) (e : PX) (st : St) : Prop := e = .exit 0 ∧ st = f17_l1_e0_J a1 z.1 z.2
noncomputable def f17_l1 (a1 : List UInt8) (x : Int × UInt8 × UInt8 × Int) : Option ((Int × UInt8 × UInt8 × Int) ⊕ ((Int × Int))) := (bif (decide (x.2.2.2 ≤ x.1)) then (bif (decide (x.2.2.2 < (a1.length : Int))) then ((idx a1 x.2.2.2).bind fun z21 => (bif (decide ((x.2.1.toNat : Int) ≤ (z21.toNat : Int))) then ((idx a1 x.2.2.2).bind fun z22 => (bif (decide ((z22.toNat : Int) ≤ (x.2.2.1.toNat : Int))) then (some (.inl (x.1, (128 : UInt8), (191 : UInt8), (IntKind.i64.wrap (x.2.2.2 + 1))))) else (some (.inr (x.1, x.2.2.2))))) else (some (.inr (x.1, x.2.2.2))))) else (some (.inr (x.1, x.2.2.2)))) else (some (.inr (x.1, x.2.2.2))))
theorem f17_l1_ok {d : Nat} (hd : 2 ≤ d) (a1 : List UInt8) {r : (Int × UInt8 × UInt8 × Int) ⊕ ((Int × Int))} {Q : PX → St → Prop} (hQ : ∀ e st', finL (f17_l1_H a1) (f17_l1_X a1) r e st' → Q e st') {x : Int × UInt8 × UInt8 × Int} (hS : f17_l1 a1 x = some r) {st : St} (he : f17_l1_H a1 x st) : ZR (lev codes baseL (d - 1)) Q c17_1 [] st := by
  refine zrKeep he ?_
  unfold f17_l1 at hS
  refine zrSeq ?_
  refine zrSeq ?_
  refine zrReg ?_
  refine zlRun (n := 2) (j := 2) rfl (by kernel_rfl) ?_
  refine zlBool (d := 19) (op := (.cmpI .leq (.tmp 17) (.tmp 18))) (g := none) (j := 3) (decide (x.2.2.2 ≤ x.1)) rfl (by kernel_rfl) (by kernel_rfl) (by kernel_rfl) (fun hc => ?_) (fun hc => ?_)
  · replace hS := cond_t hc hS
    refine zlRun (n := 4) (j := 7) rfl (by kernel_rfl) ?_
    refine zlBool (d := 24) (op := (.cmpI .lss (.tmp 21) (.tmp 23))) (g := (some (20, true))) (j := 8) (decide (x.2.2.2 < (a1.length : Int))) rfl (by kernel_rfl) (by kernel_rfl) (by kernel_rfl) (fun hc => ?_) (fun hc => ?_)
    · replace hS := cond_t hc hS
      refine zlRun (n := 4) (j := 12) rfl (by kernel_rfl) ?_
      refine bindE hS (fun z21 hz21 hS => ?_)
      refine zlOp (d := some 29) (op := (.ixStr (.tmp 27) (.tmp 28))) (g := (some (26, true))) (v := (.d (.int .u8 (z21.toNat : Int)))) (ups := []) (j := 13) rfl (by kernel_rfl) (by kernel_rfl) (ev_ixStr (kk := .i64) (s := a1) (j := x.2.2.2) (by kernel_rfl) (by kernel_rfl) hz21) ?_
      refine zlRun (n := 1) (j := 14) rfl (by kernel_rfl) ?_
      refine zlBool (d := 31) (op := (.cmpI .geq (.tmp 29) (.tmp 30))) (g := (some (26, true))) (j := 15) (decide ((x.2.1.toNat : Int) ≤ (z21.toNat : Int))) rfl (by kernel_rfl) (by kernel_rfl) (by kernel_rfl) (fun hc => ?_) (fun hc => ?_)
      · replace hS := cond_t hc hS
        refine zlRun (n := 4) (j := 19) rfl (by kernel_rfl) ?_
        refine bindE hS (fun z22 hz22 hS => ?_)
        refine zlOp (d := some 36) (op := (.ixStr (.tmp 34) (.tmp 35))) (g := (some (33, true))) (v := (.d (.int .u8 (z22.toNat : Int)))) (ups := []) (j := 20) rfl (by kernel_rfl) (by kernel_rfl) (ev_ixStr (kk := .i64) (s := a1) (j := x.2.2.2) (by kernel_rfl) (by kernel_rfl) hz22) ?_
        refine zlRun (n := 1) (j := 21) rfl (by kernel_rfl) ?_
        refine zlBool (d := 38) (op := (.cmpI .leq (.tmp 36) (.tmp 37))) (g := (some (33, true))) (j := 22) (decide ((z22.toNat : Int) ≤ (x.2.2.1.toNat : Int))) rfl (by kernel_rfl) (by kernel_rfl) (by kernel_rfl) (fun hc => ?_) (fun hc => ?_)
        · replace hS := cond_t hc hS
          refine zlRun (n := 1) (j := 23) rfl (by kernel_rfl) ?_
          refine zlEnd (by kernel_rfl) ?_
          refine zkSeq ?_
          refine zrCondT (by kernel_rfl) ?_
          refine zrSkip ?_
          refine zkSeq ?_
          refine zrBlk ?_
          refine zrSeq ?_
          refine zrReg ?_
          refine zlRun (n := 2) (j := 2) rfl (by kernel_rfl) ?_
          refine zlEnd (by kernel_rfl) ?_
          refine zkSeq ?_
          refine zrReg ?_
          refine zlRun (n := 3) (j := 3) rfl (by kernel_rfl) ?_
          refine zlEnd (by kernel_rfl) ?_
          refine zkBlk ?_
          refine zkNil ?_
          exact endQ hS hQ (finL_n (by show keepSt _ _ _ _ = _; kernel_rfl))
        · replace hS := cond_f hc hS
          refine zlRun (n := 1) (j := 23) rfl (by kernel_rfl) ?_
          refine zlEnd (by kernel_rfl) ?_
          refine zkSeq ?_
          refine zrCondF (by kernel_rfl) ?_
          refine zrKeep (J := f17_l1_e0_J a1 x.1 x.2.2.2) (by kernel_rfl) ?_
          refine zrExit ?_
          refine zkSeqX ?_
          refine zkNil ?_
          exact endQ hS hQ (finL_x (by intro h; cases h) (by show _ = _ ∧ _ = _; exact ⟨rfl, rfl⟩))
      · replace hS := cond_f hc hS
        refine zlRun (n := 8) (j := 23) rfl (by kernel_rfl) ?_
        refine zlEnd (by kernel_rfl) ?_
        refine zkSeq ?_
        refine zrCondF (by kernel_rfl) ?_
        refine zrKeep (J := f17_l1_e0_J a1 x.1 x.2.2.2) (by kernel_rfl) ?_
        refine zrExit ?_
        refine zkSeqX ?_
        refine zkNil ?_
        exact endQ hS hQ (finL_x (by intro h; cases h) (by show _ = _ ∧ _ = _; exact ⟨rfl, rfl⟩))
    · replace hS := cond_f hc hS
      refine zlRun (n := 15) (j := 23) rfl (by kernel_rfl) ?_
      refine zlEnd (by kernel_rfl) ?_
      refine zkSeq ?_
      refine zrCondF (by kernel_rfl) ?_
      refine zrKeep (J := f17_l1_e0_J a1 x.1 x.2.2.2) (by kernel_rfl) ?_
      refine zrExit ?_
      refine zkSeqX ?_
      refine zkNil ?_
      exact endQ hS hQ (finL_x (by intro h; cases h) (by show _ = _ ∧ _ = _; exact ⟨rfl, rfl⟩))
  · replace hS := cond_f hc hS
    refine zlRun (n := 20) (j := 23) rfl (by kernel_rfl) ?_
    refine zlEnd (by kernel_rfl) ?_
    refine zkSeq ?_
    refine zrCondF (by kernel_rfl) ?_
    refine zrKeep (J := f17_l1_e0_J a1 x.1 x.2.2.2) (by kernel_rfl) ?_
    refine zrExit ?_
    refine zkSeqX ?_
    refine zkNil ?_
    exact endQ hS hQ (finL_x (by intro h; cases h) (by show _ = _ ∧ _ = _; exact ⟨rfl, rfl⟩))
def f17_j0_J (a1 : List UInt8) (p108 : Int) (p109 : UInt8) (p110 : UInt8) : St := ⟨(up (up (up (up (fun _ => .un) 6 (.d (.int .u8 (p110.toNat : Int)))) 5 (.d (.int .u8 (p109.toNat : Int)))) 4 (.d (.int .i64 p108))) 0 (.d (.str a1))), (hB fun _ => 0)⟩
noncomputable def f17_j0 (a1 : List UInt8) (p108 : Int) (p109 : UInt8) (p110 : UInt8) : Option (Int × Bool) := ((loopO (f17_l1 a1) (p108, p109, p110, 1)).bind fun z23 => (bif (decide (z23.1 < z23.2)) then (some (z23.2, true)) else (some (z23.2, false))))
theorem f17_j0_ok {d : Nat} (hd : 2 ≤ d) (a1 : List UInt8) {r : Int × Bool} {Q : PX → St → Prop} (hQ : ∀ e st', f17_Q r e st' → Q e st') (p108 : Int) (p109 : UInt8) (p110 : UInt8) (hS : f17_j0 a1 p108 p109 p110 = some r) {st : St} (he : keepSt [0, 4, 5, 6] [] [] st = f17_j0_J a1 p108 p109 p110) : ZR (lev codes baseL (d - 1)) Q c17_2 [] st := by
  refine zrKeep he ?_
  unfold f17_j0 at hS
  refine zrSeq ?_
  refine zrReg ?_
  refine zlRun (n := 1) (j := 1) rfl (by kernel_rfl) ?_
  refine zlEnd (by kernel_rfl) ?_
  refine zkSeq ?_
  refine zrSeq ?_
  refine zrBlk ?_
  refine bindE hS (fun z23 hz23 hS => ?_)
  refine zrLoop (f17_l1_H a1) (f17_l1_X a1) (fun x st r Q h0 hS hQ => f17_l1_ok hd a1 hQ hS h0) (x := (p108, p109, p110, 1)) (z := z23) (by show keepSt _ _ _ _ = _; kernel_rfl) hz23 ?_
  intro e st' _ hX
  obtain ⟨rfl, rfl⟩ : _ ∧ _ := hX
  refine zkBlkX ?_
  refine zkSeq ?_
  refine zrSeq ?_
  refine zrReg ?_
  refine zlRun (n := 3) (j := 3) rfl (by kernel_rfl) ?_
  refine zlBool (d := 45) (op := (.cmpI .gtr (.tmp 43) (.tmp 44))) (g := none) (j := 4) (decide (z23.1 < z23.2)) rfl (by kernel_rfl) (by kernel_rfl) (by kernel_rfl) (fun hc => ?_) (fun hc => ?_)
  · replace hS := cond_t hc hS
    refine zlRun (n := 2) (j := 6) rfl (by kernel_rfl) ?_
    refine zlEnd (by kernel_rfl) ?_
    refine zkSeq ?_
    refine zrRet ?_
    refine zkNil ?_
    exact endQ hS hQ (fRet ((congrArg (fun s => outR s 0 c17.res) (by kernel_rfl : finSt c17.fin _ = f17_fin z23.2 true)).trans (f17_out z23.2 true)))
  · replace hS := cond_f hc hS
    refine zlRun (n := 2) (j := 6) rfl (by kernel_rfl) ?_
    refine zlEnd (by kernel_rfl) ?_
    refine zkSeq ?_
    refine zrRet ?_
    refine zkNil ?_
    exact endQ hS hQ (fRet ((congrArg (fun s => outR s 0 c17.res) (by kernel_rfl : finSt c17.fin _ = f17_fin z23.2 false)).trans (f17_out z23.2 false)))
noncomputable def f17 (a1 : List UInt8) : Option (Int × Bool) := ((idx a1 0).bind fun z11 => ((f22 z11).bind fun z12 => (bif (decide (z12.1 = 0)) then (some (0, false)) else (f17_j0 a1 z12.1 z12.2.1 z12.2.2))))
theorem f17_ok (d : Nat) (hd : 2 ≤ d) (a1 : List UInt8) (r : Int × Bool) (hS : f17 a1 = some r) : lev codes baseL d 17 [(.d (.str a1))] [] = some ((.tup [(.d (.int .i64 r.1)), (.d (.bool r.2))]), []) := by
  refine lev_go codes17 rfl rfl (Nat.le_trans (Nat.le_of_ble_eq_true rfl) hd) fun Q hQ => ?_
  unfold f17 at hS
  show ZR _ Q c17_b [] _
  replace hQ : ∀ e st', f17_Q r e st' → Q e st' := hQ
  refine zrSeq ?_
  refine zrReg ?_
  refine zlRun (n := 2) (j := 2) rfl (by kernel_rfl) ?_
  refine zlEnd (by kernel_rfl) ?_
  refine zkSeq ?_
  refine zrSeq ?_
  refine zrReg ?_
  refine zlRun (n := 1) (j := 1) rfl (by kernel_rfl) ?_
  refine bindE hS (fun z11 hz11 hS => ?_)
  refine zlOp (d := some 10) (op := (.ixStr (.tmp 9) (.const (.int .i64 0)))) (g := none) (v := (.d (.int .u8 (z11.toNat : Int)))) (ups := []) (j := 2) rfl (by kernel_rfl) (by kernel_rfl) (ev_ixStr (kk := .i64) (s := a1) (j := 0) (by kernel_rfl) (by kernel_rfl) hz11) ?_
  refine bindE hS (fun z12 hz12 hS => ?_)
  refine zlOp (d := some 11) (op := (.call 22 [(.tmp 10)])) (g := none) (v := (.tup [(.d (.int .i64 z12.1)), (.d (.int .u8 (z12.2.1.toNat : Int))), (.d (.int .u8 (z12.2.2.toNat : Int)))])) (ups := []) (j := 3) rfl (by kernel_rfl) (by kernel_rfl) (ev_call (args := [(.d (.int .u8 (z11.toNat : Int)))]) (l := [(.d (.int .u8 (z11.toNat : Int)))]) (r := (.tup [(.d (.int .i64 z12.1)), (.d (.int .u8 (z12.2.1.toNat : Int))), (.d (.int .u8 (z12.2.2.toNat : Int)))])) (by kernel_rfl) (by kernel_rfl) (f22_ok (d - 1) (dpt hd rfl) z11 z12 hz12) (by kernel_rfl) (by kernel_rfl) (by kernel_rfl)) ?_
  refine zlRun (n := 7) (j := 10) rfl (by kernel_rfl) ?_
  refine zlEnd (by kernel_rfl) ?_
  refine zkSeq ?_
  refine zrSeq ?_
  refine zrSeq ?_
  refine zrReg ?_
  refine zlRun (n := 1) (j := 1) rfl (by kernel_rfl) ?_
  refine zlBool (d := 16) (op := (.cmpI .eql (.tmp 15) (.const (.int .i64 0)))) (g := none) (j := 2) (decide (z12.1 = 0)) rfl (by kernel_rfl) (by kernel_rfl) (by kernel_rfl) (fun hc => ?_) (fun hc => ?_)
  · replace hS := cond_t hc hS
    refine zlEnd (by kernel_rfl) ?_
    refine zkSeq ?_
    refine zrCondT (by kernel_rfl) ?_
    refine zrSeq ?_
    refine zrReg ?_
    refine zlRun (n := 2) (j := 2) rfl (by kernel_rfl) ?_
    refine zlEnd (by kernel_rfl) ?_
    refine zkSeq ?_
    refine zrRet ?_
    refine zkSeqR ?_
    refine zkNil ?_
    exact endQ hS hQ (fRet ((congrArg (fun s => outR s 0 c17.res) (by kernel_rfl : finSt c17.fin _ = f17_fin 0 false)).trans (f17_out 0 false)))
  · replace hS := cond_f hc hS
    refine zlEnd (by kernel_rfl) ?_
    refine zkSeq ?_
    refine zrCondF (by kernel_rfl) ?_
    refine zrSkip ?_
    refine zkSeq ?_
    exact f17_j0_ok hd a1 hQ z12.1 z12.2.1 z12.2.2 hS (by kernel_rfl)
/- farwriter/utf.Check -/
def f11_fin (p3 : Int) : St := ⟨(up (fun _ => .un) 2 (.d (.int .i64 p3))), (hB fun _ => 0)⟩
theorem f11_out (p3 : Int) : outR (f11_fin p3) 0 c11.res = some ((.d (.int .i64 p3)), []) := by
  kernel_rfl
def f11_Q (r : Int) (e : PX) (st : St) : Prop := DoneF c11 0 ((.d (.int .i64 r)), []) e st
def f11_j0_J (a1 : List UInt8) : St := ⟨(up (fun _ => .un) 0 (.d (.str a1))), (hB fun _ => 0)⟩
noncomputable def f11_j0 (a1 : List UInt8) : Option (Int) := ((f17 a1).bind fun z2 => (bif z2.2 then (some 4) else (bif (!decide (z2.1 = (a1.length : Int))) then (some 4) else (some 0))))
theorem f11_j0_ok {d : Nat} (hd : 3 ≤ d) (a1 : List UInt8) {r : Int} {Q : PX → St → Prop} (hQ : ∀ e st', f11_Q r e st' → Q e st')  (hS : f11_j0 a1 = some r) {st : St} (he : keepSt [0] [] [] st = f11_j0_J a1) : ZR (lev codes baseL (d - 1)) Q c11_1 [] st := by
  refine zrKeep he ?_
  unfold f11_j0 at hS
  refine zrSeq ?_
  refine zrSeq ?_
  refine zrReg ?_
  refine zlRun (n := 1) (j := 1) rfl (by kernel_rfl) ?_
  refine bindE hS (fun z2 hz2 hS => ?_)
  refine zlOp (d := some 9) (op := (.call 17 [(.tmp 8)])) (g := none) (v := (.tup [(.d (.int .i64 z2.1)), (.d (.bool z2.2))])) (ups := []) (j := 2) rfl (by kernel_rfl) (by kernel_rfl) (ev_call (args := [(.d (.str a1))]) (l := [(.d (.str a1))]) (r := (.tup [(.d (.int .i64 z2.1)), (.d (.bool z2.2))])) (by kernel_rfl) (by kernel_rfl) (f17_ok (d - 1) (dpt hd rfl) a1 z2 hz2) (by kernel_rfl) (by kernel_rfl) (by kernel_rfl)) ?_
  refine zlRun (n := 5) (j := 7) rfl (by kernel_rfl) ?_
  refine zlEnd (by kernel_rfl) ?_
  refine zkSeq ?_
  refine zrSeq ?_
  refine zrReg ?_
  refine zlRun (n := 2) (j := 2) rfl (by kernel_rfl) ?_
  refine zlSplit 13 z2.2 (by kernel_rfl) (fun hc => ?_) (fun hc => ?_)
  · replace hS := cond_t hc hS
    refine zlRun (n := 5) (j := 7) rfl (by kernel_rfl) ?_
    refine zlEnd (by kernel_rfl) ?_
    refine zkSeq ?_
    refine zrCondT (by kernel_rfl) ?_
    refine zrSeq ?_
    refine zrReg ?_
    refine zlRun (n := 1) (j := 1) rfl (by kernel_rfl) ?_
    refine zlEnd (by kernel_rfl) ?_
    refine zkSeq ?_
    refine zrRet ?_
    refine zkSeqR ?_
    refine zkNil ?_
    exact endQ hS hQ (fRet ((congrArg (fun s => outR s 0 c11.res) (by kernel_rfl : finSt c11.fin _ = f11_fin 4)).trans (f11_out 4)))
  · replace hS := cond_f hc hS
    refine zlRun (n := 3) (j := 5) rfl (by kernel_rfl) ?_
    refine zlBool (d := 17) (op := (.cmpI .neq (.tmp 14) (.tmp 16))) (g := (some (13, false))) (j := 6) (!decide (z2.1 = (a1.length : Int))) rfl (by kernel_rfl) (by kernel_rfl) (by kernel_rfl) (fun hc => ?_) (fun hc => ?_)
    · replace hS := cond_t hc hS
      refine zlRun (n := 1) (j := 7) rfl (by kernel_rfl) ?_
      refine zlEnd (by kernel_rfl) ?_
      refine zkSeq ?_
      refine zrCondT (by kernel_rfl) ?_
      refine zrSeq ?_
      refine zrReg ?_
      refine zlRun (n := 1) (j := 1) rfl (by kernel_rfl) ?_
      refine zlEnd (by kernel_rfl) ?_
      refine zkSeq ?_
      refine zrRet ?_
      refine zkSeqR ?_
      refine zkNil ?_
      exact endQ hS hQ (fRet ((congrArg (fun s => outR s 0 c11.res) (by kernel_rfl : finSt c11.fin _ = f11_fin 4)).trans (f11_out 4)))
    · replace hS := cond_f hc hS
      refine zlRun (n := 1) (j := 7) rfl (by kernel_rfl) ?_
      refine zlEnd (by kernel_rfl) ?_
      refine zkSeq ?_
      refine zrCondF (by kernel_rfl) ?_
      refine zrSkip ?_
      refine zkSeq ?_
      refine zrSeq ?_
      refine zrReg ?_
      refine zlRun (n := 1) (j := 1) rfl (by kernel_rfl) ?_
      refine zlEnd (by kernel_rfl) ?_
      refine zkSeq ?_
      refine zrRet ?_
      refine zkNil ?_
      exact endQ hS hQ (fRet ((congrArg (fun s => outR s 0 c11.res) (by kernel_rfl : finSt c11.fin _ = f11_fin 0)).trans (f11_out 0)))
noncomputable def f11 (a1 : List UInt8) : Option (Int) := (bif (decide (a1 = ([] : List UInt8))) then (some 0) else (f11_j0 a1 ))
theorem f11_ok (d : Nat) (hd : 3 ≤ d) (a1 : List UInt8) (r : Int) (hS : f11 a1 = some r) : lev codes baseL d 11 [(.d (.str a1))] [] = some ((.d (.int .i64 r)), []) := by
  refine lev_go codes11 rfl rfl (Nat.le_trans (Nat.le_of_ble_eq_true rfl) hd) fun Q hQ => ?_
  unfold f11 at hS
  show ZR _ Q c11_b [] _
  replace hQ : ∀ e st', f11_Q r e st' → Q e st' := hQ
  refine zrSeq ?_
  refine zrReg ?_
  refine zlRun (n := 1) (j := 1) rfl (by kernel_rfl) ?_
  refine zlEnd (by kernel_rfl) ?_
  refine zkSeq ?_
  refine zrSeq ?_
  refine zrSeq ?_
  refine zrReg ?_
  refine zlRun (n := 1) (j := 1) rfl (by kernel_rfl) ?_
  refine zlBool (d := 6) (op := (.strO .eql (.tmp 5) (.const (.string ⟨#[]⟩)))) (g := none) (j := 2) (decide (a1 = ([] : List UInt8))) rfl (by kernel_rfl) (by kernel_rfl) (by kernel_rfl) (fun hc => ?_) (fun hc => ?_)
  · replace hS := cond_t hc hS
    refine zlEnd (by kernel_rfl) ?_
    refine zkSeq ?_
    refine zrCondT (by kernel_rfl) ?_
    refine zrSeq ?_
    refine zrReg ?_
    refine zlRun (n := 1) (j := 1) rfl (by kernel_rfl) ?_
    refine zlEnd (by kernel_rfl) ?_
    refine zkSeq ?_
    refine zrRet ?_
    refine zkSeqR ?_
    refine zkNil ?_
    exact endQ hS hQ (fRet ((congrArg (fun s => outR s 0 c11.res) (by kernel_rfl : finSt c11.fin _ = f11_fin 0)).trans (f11_out 0)))
  · replace hS := cond_f hc hS
    refine zlEnd (by kernel_rfl) ?_
    refine zkSeq ?_
    refine zrCondF (by kernel_rfl) ?_
    refine zrSkip ?_
    refine zkSeq ?_
    exact f11_j0_ok hd a1 hQ  hS (by kernel_rfl)
/- unicode/utf8.DecodeRuneInString -/
theorem libDecodeRune_ok (d : Nat) (hd : 0 ≤ d) (a1 : List UInt8) (r : (Int × Int)) (hS : libDecodeRune a1 = some r) : lev codes baseL d 18 [(.d (.str a1))] [] = some ((.tup [.d (.int .i32 r.1), .d (.int .i64 r.2)]), []) := lib_call (l := libs) rfl rfl rfl (osT_ hS) d
/- farwriter/utf.Feed -/
def f7_fin (p77 : List UInt8) (p78 : List Int) (p79 : Int) : St := ⟨(up (up (up (fun _ => .un) 6 (.d (.int .i64 p79))) 5 (.r (.msl 593 0 0 p78.length))) 4 (.d (.str p77))), (up (hB fun _ => 0) 593 ⟨0, some (.own 3 1 ((eInt .i64).cells p78))⟩)⟩
theorem f7_out (p77 : List UInt8) (p78 : List Int) (p79 : Int) : outR (f7_fin p77 p78 p79) 0 c7.res = some ((.tup [(.d (.str p77)), (.r (.own 0 3 1 p78.length ((eInt .i64).cells p78))), (.d (.int .i64 p79))]), []) := by
  exact out_of (ids := []) (ids' := [593]) (l := [(.d (.str p77)), (.r (.msl 593 0 0 p78.length)), (.d (.int .i64 p79))]) (by kernel_rfl) (by kernel_rfl) (o_tup (o_cons rfl (o_cons (o_own (eInt .i64) (e := 3) (k := 1) (xs := p78) (by kernel_rfl) rfl rfl rfl rfl) (o_cons rfl o_nil))))
def f7_Q (r : (List UInt8) × (List Int) × Int) (e : PX) (st : St) : Prop := DoneF c7 0 ((.tup [(.d (.str r.1)), (.r (.own 0 3 1 r.2.1.length ((eInt .i64).cells r.2.1))), (.d (.int .i64 r.2.2))]), []) e st
def f7_l1_J (a1 : List UInt8) (a2 : List UInt8) (x : (List UInt8) × (List Int)) : St := ⟨(up (up (fun _ => .un) 8 (.r (.msl 72 0 0 x.2.length))) 1 (.d (.str x.1))), (up (hB fun _ => 0) 72 ⟨0, some (.own 3 1 ((eInt .i64).cells x.2))⟩)⟩
def f7_l1_H (a1 : List UInt8) (a2 : List UInt8) (x : (List UInt8) × (List Int)) (st : St) : Prop := keepSt [1, 8] [(72, .id 72)] [] st = f7_l1_J a1 a2 x
def f7_l1_e0_J (a1 : List UInt8) (a2 : List UInt8) (p155 : List Int) : St := ⟨(up (fun _ => .un) 8 (.r (.msl 72 0 0 p155.length))), (up (hB fun _ => 0) 72 ⟨0, some (.own 3 1 ((eInt .i64).cells p155))⟩)⟩
def f7_l1_X (a1 : List UInt8) (a2 : List UInt8) (z : ((List Int)) ⊕ ((List UInt8) × (List Int) × Int)) (e : PX) (st : St) : Prop := (match z with | .inl z => e = .exit 0 ∧ st = f7_l1_e0_J a1 a2 z | .inr z => e = .ret ∧ finSt c7.fin st = f7_fin z.1 z.2.1 z.2.2)
def f7_l1_j4_J (a1 : List UInt8) (a2 : List UInt8) (p169 : List UInt8) (p170 : List Int) (p171 : Int) (p172 : Int) (p173 : List UInt8) (p174 : Int) : St := ⟨(up (up (up (up (up (up (up (fun _ => .un) 61 (.d (.bool false))) 60 (.d (.int .i64 p174))) 59 (.d (.str p173))) 58 (.d (.int .i64 p172))) 9 (.d (.int .i64 p171))) 8 (.r (.msl 72 0 0 p170.length))) 1 (.d (.str p169))), (up (hB fun _ => 0) 72 ⟨0, some (.own 3 1 ((eInt .i64).cells p170))⟩)⟩
noncomputable def f7_l1_j4 (a1 : List UInt8) (a2 : List UInt8) (p169 : List UInt8) (p170 : List Int) (p171 : Int) (p172 : Int) (p173 : List UInt8) (p174 : Int) : Option (((List UInt8) × (List Int)) ⊕ (((List Int)) ⊕ ((List UInt8) × (List Int) × Int))) := ((app? 8 p170 ([65533] : List Int)).bind fun z74 => ((sub? p169 (if 1 > p171 then 1 else p171) (p169.length : Int)).bind fun z75 => (some (.inl (z75, z74)))))
theorem f7_l1_j4_ok {d : Nat} (hd : 4 ≤ d) (a1 : List UInt8) (a2 : List UInt8) {r : ((List UInt8) × (List Int)) ⊕ (((List Int)) ⊕ ((List UInt8) × (List Int) × Int))} {Q : PX → St → Prop} (hQ : ∀ e st', finL (f7_l1_H a1 a2) (f7_l1_X a1 a2) r e st' → Q e st') (p169 : List UInt8) (p170 : List Int) (p171 : Int) (p172 : Int) (p173 : List UInt8) (p174 : Int) (hS : f7_l1_j4 a1 a2 p169 p170 p171 p172 p173 p174 = some r) {st : St} (he : keepSt [1, 8, 9, 58, 59, 60, 61] [(72, .id 72)] [] st = f7_l1_j4_J a1 a2 p169 p170 p171 p172 p173 p174) : ZR (lev codes baseL (d - 1)) Q c7_1 [.blk 2, .seq c7_2, .blk 1] st := by
  refine zrKeep he ?_
  unfold f7_l1_j4 at hS
  refine zrReg ?_
  refine zlRun (n := 2) (j := 2) rfl (by kernel_rfl) ?_
  refine bindE hS (fun z74 hz74 hS => ?_)
  refine zlOp (d := some 41) (op := (.app 3 1 8 (.tmp 39) (.tmp 40))) (g := none) (v := (.r (.msl 72 1 0 z74.length))) (ups := [(72, ⟨1, some (.own 3 1 ((eInt .i64).cells z74))⟩)]) (j := 3) rfl (by kernel_rfl) (by kernel_rfl) (ev_app (eInt .i64) (b := 72) (g := 0) (n := p170.length) (xs := p170) (ys := [65533]) ((congrArg (asL _) (by kernel_rfl : ρof _ (.tmp 40) = (.r (.msl 328 1 0 (([65533] : List Int).length))))).trans (as_whole (eInt .i64) (e := 3) (k := 1) (xs := [65533]) (by kernel_rfl) rfl rfl)) rfl (by kernel_rfl) rfl (by kernel_rfl) rfl hz74) ?_
  refine zlRun (n := 1) (j := 4) rfl (by kernel_rfl) ?_
  refine zlEnd (by kernel_rfl) ?_
  refine zkBlk ?_
  refine zkSeq ?_
  refine zrReg ?_
  refine zlRun (n := 3) (j := 3) rfl (by kernel_rfl) ?_
  refine bindE hS (fun z75 hz75 hS => ?_)
  refine zlOp (d := some 68) (op := (.slStr (.tmp 65) (.some (.tmp 67)) .none)) (g := none) (v := (.d (.str z75))) (ups := []) (j := 4) rfl (by kernel_rfl) (by kernel_rfl) (ev_slStr (s := p169) (a := (if 1 > p171 then 1 else p171)) (c := (p169.length : Int)) (by kernel_rfl) (bnd_s _ (kk := .i64) (j := (if 1 > p171 then 1 else p171)) (by kernel_rfl)) (bnd_n _) hz75) ?_
  refine zlRun (n := 1) (j := 5) rfl (by kernel_rfl) ?_
  refine zlEnd (by kernel_rfl) ?_
  refine zkBlk ?_
  refine zkNil ?_
  exact endQ hS hQ (finL_n (by show keepSt _ _ _ _ = _; kernel_rfl))
def f7_l1_j5_J (a1 : List UInt8) (a2 : List UInt8) (p175 : List UInt8) (p176 : List Int) (p177 : Int) : St := ⟨(up (up (up (up (up (up (up (fun _ => .un) 61 (.tup [])) 60 (.tup [])) 59 (.tup [])) 58 (.tup [])) 9 (.d (.int .i64 p177))) 8 (.r (.msl 72 0 0 p176.length))) 1 (.d (.str p175))), (up (hB fun _ => 0) 72 ⟨0, some (.own 3 1 ((eInt .i64).cells p176))⟩)⟩
noncomputable def f7_l1_j5 (a1 : List UInt8) (a2 : List UInt8) (p175 : List UInt8) (p176 : List Int) (p177 : Int) : Option (((List UInt8) × (List Int)) ⊕ (((List Int)) ⊕ ((List UInt8) × (List Int) × Int))) := ((app? 8 p176 ([65533] : List Int)).bind fun z76 => ((sub? p175 (if 1 > p177 then 1 else p177) (p175.length : Int)).bind fun z77 => (some (.inl (z77, z76)))))
theorem f7_l1_j5_ok {d : Nat} (hd : 4 ≤ d) (a1 : List UInt8) (a2 : List UInt8) {r : ((List UInt8) × (List Int)) ⊕ (((List Int)) ⊕ ((List UInt8) × (List Int) × Int))} {Q : PX → St → Prop} (hQ : ∀ e st', finL (f7_l1_H a1 a2) (f7_l1_X a1 a2) r e st' → Q e st') (p175 : List UInt8) (p176 : List Int) (p177 : Int) (hS : f7_l1_j5 a1 a2 p175 p176 p177 = some r) {st : St} (he : keepSt [1, 8, 9, 58, 59, 60, 61] [(72, .id 72)] [] st = f7_l1_j5_J a1 a2 p175 p176 p177) : ZR (lev codes baseL (d - 1)) Q c7_1 [.blk 2, .seq c7_2, .blk 1] st := by
  refine zrKeep he ?_
  unfold f7_l1_j5 at hS
  refine zrReg ?_
  refine zlRun (n := 2) (j := 2) rfl (by kernel_rfl) ?_
  refine bindE hS (fun z76 hz76 hS => ?_)
  refine zlOp (d := some 41) (op := (.app 3 1 8 (.tmp 39) (.tmp 40))) (g := none) (v := (.r (.msl 72 1 0 z76.length))) (ups := [(72, ⟨1, some (.own 3 1 ((eInt .i64).cells z76))⟩)]) (j := 3) rfl (by kernel_rfl) (by kernel_rfl) (ev_app (eInt .i64) (b := 72) (g := 0) (n := p176.length) (xs := p176) (ys := [65533]) ((congrArg (asL _) (by kernel_rfl : ρof _ (.tmp 40) = (.r (.msl 328 1 0 (([65533] : List Int).length))))).trans (as_whole (eInt .i64) (e := 3) (k := 1) (xs := [65533]) (by kernel_rfl) rfl rfl)) rfl (by kernel_rfl) rfl (by kernel_rfl) rfl hz76) ?_
  refine zlRun (n := 1) (j := 4) rfl (by kernel_rfl) ?_
  refine zlEnd (by kernel_rfl) ?_
  refine zkBlk ?_
  refine zkSeq ?_
  refine zrReg ?_
  refine zlRun (n := 3) (j := 3) rfl (by kernel_rfl) ?_
  refine bindE hS (fun z77 hz77 hS => ?_)
  refine zlOp (d := some 68) (op := (.slStr (.tmp 65) (.some (.tmp 67)) .none)) (g := none) (v := (.d (.str z77))) (ups := []) (j := 4) rfl (by kernel_rfl) (by kernel_rfl) (ev_slStr (s := p175) (a := (if 1 > p177 then 1 else p177)) (c := (p175.length : Int)) (by kernel_rfl) (bnd_s _ (kk := .i64) (j := (if 1 > p177 then 1 else p177)) (by kernel_rfl)) (bnd_n _) hz77) ?_
  refine zlRun (n := 1) (j := 5) rfl (by kernel_rfl) ?_
  refine zlEnd (by kernel_rfl) ?_
  refine zkBlk ?_
  refine zkNil ?_
  exact endQ hS hQ (finL_n (by show keepSt _ _ _ _ = _; kernel_rfl))
def f7_l1_j3_J (a1 : List UInt8) (a2 : List UInt8) (p164 : List UInt8) (p165 : List Int) : St := ⟨(up (up (fun _ => .un) 8 (.r (.msl 72 0 0 p165.length))) 1 (.d (.str p164))), (up (hB fun _ => 0) 72 ⟨0, some (.own 3 1 ((eInt .i64).cells p165))⟩)⟩
noncomputable def f7_l1_j3 (a1 : List UInt8) (a2 : List UInt8) (p164 : List UInt8) (p165 : List Int) : Option (((List UInt8) × (List Int)) ⊕ (((List Int)) ⊕ ((List UInt8) × (List Int) × Int))) := ((f17 p164).bind fun z70 => (bif z70.2 then ((libDecodeRune p164).bind fun z71 => ((app? 8 p165 ([(IntKind.i64.wrap (z71.1))] : List Int)).bind fun z72 => ((sub? p164 (if 1 > z70.1 then 1 else z70.1) (p164.length : Int)).bind fun z73 => (some (.inl (z73, z72)))))) else (bif (decide (0 < z70.1)) then (bif (decide (z70.1 = (p164.length : Int))) then (some (.inr (.inr (p164, p165, 0)))) else (f7_l1_j4 a1 a2 p164 p165 z70.1 z70.1 p164 (p164.length : Int))) else (f7_l1_j5 a1 a2 p164 p165 z70.1))))
theorem f7_l1_j3_ok {d : Nat} (hd : 4 ≤ d) (a1 : List UInt8) (a2 : List UInt8) {r : ((List UInt8) × (List Int)) ⊕ (((List Int)) ⊕ ((List UInt8) × (List Int) × Int))} {Q : PX → St → Prop} (hQ : ∀ e st', finL (f7_l1_H a1 a2) (f7_l1_X a1 a2) r e st' → Q e st') (p164 : List UInt8) (p165 : List Int) (hS : f7_l1_j3 a1 a2 p164 p165 = some r) {st : St} (he : keepSt [1, 8] [(72, .id 72)] [] st = f7_l1_j3_J a1 a2 p164 p165) : ZR (lev codes baseL (d - 1)) Q c7_3 [.blk 1] st := by
  refine zrKeep he ?_
  unfold f7_l1_j3 at hS
  refine zrSeq ?_
  refine zrReg ?_
  refine zlRun (n := 1) (j := 1) rfl (by kernel_rfl) ?_
  refine bindE hS (fun z70 hz70 hS => ?_)
  refine zlOp (d := some 36) (op := (.call 17 [(.tmp 35)])) (g := none) (v := (.tup [(.d (.int .i64 z70.1)), (.d (.bool z70.2))])) (ups := []) (j := 2) rfl (by kernel_rfl) (by kernel_rfl) (ev_call (args := [(.d (.str p164))]) (l := [(.d (.str p164))]) (r := (.tup [(.d (.int .i64 z70.1)), (.d (.bool z70.2))])) (by kernel_rfl) (by kernel_rfl) (f17_ok (d - 1) (dpt hd rfl) p164 z70 hz70) (by kernel_rfl) (by kernel_rfl) (by kernel_rfl)) ?_
  refine zlRun (n := 5) (j := 7) rfl (by kernel_rfl) ?_
  refine zlEnd (by kernel_rfl) ?_
  refine zkSeq ?_
  refine zrSeq ?_
  refine zrBlk ?_
  refine zrSeq ?_
  refine zrReg ?_
  refine zlRun (n := 2) (j := 2) rfl (by kernel_rfl) ?_
  refine zlEnd (by kernel_rfl) ?_
  refine zkSeq ?_
  refine zrSplit 42 z70.2 (by kernel_rfl) (fun hc => ?_) (fun hc => ?_)
  · replace hS := cond_t hc hS
    refine zrCondT (by kernel_rfl) ?_
    refine zrSeq ?_
    refine zrReg ?_
    refine zlRun (n := 1) (j := 1) rfl (by kernel_rfl) ?_
    refine bindE hS (fun z71 hz71 hS => ?_)
    refine zlOp (d := some 46) (op := (.call 18 [(.tmp 45)])) (g := none) (v := (.tup [(.d (.int .i32 z71.1)), (.d (.int .i64 z71.2))])) (ups := []) (j := 2) rfl (by kernel_rfl) (by kernel_rfl) (ev_call (args := [(.d (.str p164))]) (l := [(.d (.str p164))]) (r := (.tup [(.d (.int .i32 z71.1)), (.d (.int .i64 z71.2))])) (by kernel_rfl) (by kernel_rfl) (libDecodeRune_ok (d - 1) (dpt hd rfl) p164 z71 hz71) (by kernel_rfl) (by kernel_rfl) (by kernel_rfl)) ?_
    refine zlRun (n := 5) (j := 7) rfl (by kernel_rfl) ?_
    refine zlEnd (by kernel_rfl) ?_
    refine zkSeq ?_
    refine zrReg ?_
    refine zlRun (n := 4) (j := 4) rfl (by kernel_rfl) ?_
    refine bindE hS (fun z72 hz72 hS => ?_)
    refine zlOp (d := some 53) (op := (.app 3 1 8 (.tmp 49) (.tmp 52))) (g := none) (v := (.r (.msl 72 1 0 z72.length))) (ups := [(72, ⟨1, some (.own 3 1 ((eInt .i64).cells z72))⟩)]) (j := 5) rfl (by kernel_rfl) (by kernel_rfl) (ev_app (eInt .i64) (b := 72) (g := 0) (n := p165.length) (xs := p165) (ys := [(IntKind.i64.wrap (z71.1))]) ((congrArg (asL _) (by kernel_rfl : ρof _ (.tmp 52) = (.r (.msl 424 1 0 (([(IntKind.i64.wrap (z71.1))] : List Int).length))))).trans (as_whole (eInt .i64) (e := 3) (k := 1) (xs := [(IntKind.i64.wrap (z71.1))]) (by kernel_rfl) rfl rfl)) rfl (by kernel_rfl) rfl (by kernel_rfl) rfl hz72) ?_
    refine zlRun (n := 1) (j := 6) rfl (by kernel_rfl) ?_
    refine zlEnd (by kernel_rfl) ?_
    refine zkBlk ?_
    refine zkSeq ?_
    refine zrReg ?_
    refine zlRun (n := 3) (j := 3) rfl (by kernel_rfl) ?_
    refine bindE hS (fun z73 hz73 hS => ?_)
    refine zlOp (d := some 68) (op := (.slStr (.tmp 65) (.some (.tmp 67)) .none)) (g := none) (v := (.d (.str z73))) (ups := []) (j := 4) rfl (by kernel_rfl) (by kernel_rfl) (ev_slStr (s := p164) (a := (if 1 > z70.1 then 1 else z70.1)) (c := (p164.length : Int)) (by kernel_rfl) (bnd_s _ (kk := .i64) (j := (if 1 > z70.1 then 1 else z70.1)) (by kernel_rfl)) (bnd_n _) hz73) ?_
    refine zlRun (n := 1) (j := 5) rfl (by kernel_rfl) ?_
    refine zlEnd (by kernel_rfl) ?_
    refine zkBlk ?_
    refine zkNil ?_
    exact endQ hS hQ (finL_n (by show keepSt _ _ _ _ = _; kernel_rfl))
  · replace hS := cond_f hc hS
    refine zrCondF (by kernel_rfl) ?_
    refine zrSeq ?_
    refine zrReg ?_
    refine zlRun (n := 1) (j := 1) rfl (by kernel_rfl) ?_
    refine zlBool (d := 56) (op := (.cmpI .gtr (.tmp 55) (.const (.int .i64 0)))) (g := none) (j := 2) (decide (0 < z70.1)) rfl (by kernel_rfl) (by kernel_rfl) (by kernel_rfl) (fun hc => ?_) (fun hc => ?_)
    · replace hS := cond_t hc hS
      refine zlRun (n := 4) (j := 6) rfl (by kernel_rfl) ?_
      refine zlBool (d := 61) (op := (.cmpI .eql (.tmp 58) (.tmp 60))) (g := (some (57, true))) (j := 7) (decide (z70.1 = (p164.length : Int))) rfl (by kernel_rfl) (by kernel_rfl) (by kernel_rfl) (fun hc => ?_) (fun hc => ?_)
      · replace hS := cond_t hc hS
        refine zlRun (n := 2) (j := 9) rfl (by kernel_rfl) ?_
        refine zlEnd (by kernel_rfl) ?_
        refine zkSeq ?_
        refine zrCondT (by kernel_rfl) ?_
        refine zrSeq ?_
        refine zrReg ?_
        refine zlRun (n := 5) (j := 5) rfl (by kernel_rfl) ?_
        refine zlEnd (by kernel_rfl) ?_
        refine zkSeq ?_
        refine zrRet ?_
        refine zkBlkR ?_
        refine zkSeqR ?_
        refine zkBlkR ?_
        refine zkNil ?_
        exact endQ hS hQ (finL_x (by intro h; cases h) (by show _ = _ ∧ _ = _; exact ⟨rfl, by kernel_rfl⟩))
      · replace hS := cond_f hc hS
        refine zlRun (n := 2) (j := 9) rfl (by kernel_rfl) ?_
        refine zlEnd (by kernel_rfl) ?_
        refine zkSeq ?_
        refine zrCondF (by kernel_rfl) ?_
        exact f7_l1_j4_ok hd a1 a2 hQ p164 p165 z70.1 z70.1 p164 (p164.length : Int) hS (by kernel_rfl)
    · replace hS := cond_f hc hS
      refine zlRun (n := 7) (j := 9) rfl (by kernel_rfl) ?_
      refine zlEnd (by kernel_rfl) ?_
      refine zkSeq ?_
      refine zrCondF (by kernel_rfl) ?_
      exact f7_l1_j5_ok hd a1 a2 hQ p164 p165 z70.1 hS (by kernel_rfl)
def f7_l1_j2_J (a1 : List UInt8) (a2 : List UInt8) (p159 : List UInt8) (p160 : List Int) : St := ⟨(up (up (fun _ => .un) 8 (.r (.msl 72 0 0 p160.length))) 1 (.d (.str p159))), (up (hB fun _ => 0) 72 ⟨0, some (.own 3 1 ((eInt .i64).cells p160))⟩)⟩
noncomputable def f7_l1_j2 (a1 : List UInt8) (a2 : List UInt8) (p159 : List UInt8) (p160 : List Int) : Option (((List UInt8) × (List Int)) ⊕ (((List Int)) ⊕ ((List UInt8) × (List Int) × Int))) := ((idx p159 0).bind fun z79 => (bif (decide ((z79.toNat : Int) < 128)) then ((idx p159 0).bind fun z80 => ((app? 8 p160 ([(z80.toNat : Int)] : List Int)).bind fun z81 => ((sub? p159 1 (p159.length : Int)).bind fun z82 => (some (.inl (z82, z81)))))) else (f7_l1_j3 a1 a2 p159 p160)))
theorem f7_l1_j2_ok {d : Nat} (hd : 4 ≤ d) (a1 : List UInt8) (a2 : List UInt8) {r : ((List UInt8) × (List Int)) ⊕ (((List Int)) ⊕ ((List UInt8) × (List Int) × Int))} {Q : PX → St → Prop} (hQ : ∀ e st', finL (f7_l1_H a1 a2) (f7_l1_X a1 a2) r e st' → Q e st') (p159 : List UInt8) (p160 : List Int) (hS : f7_l1_j2 a1 a2 p159 p160 = some r) {st : St} (he : keepSt [1, 8] [(72, .id 72)] [] st = f7_l1_j2_J a1 a2 p159 p160) : ZR (lev codes baseL (d - 1)) Q c7_4 [] st := by
  refine zrKeep he ?_
  unfold f7_l1_j2 at hS
  refine zrBlk ?_
  refine zrSeq ?_
  refine zrSeq ?_
  refine zrReg ?_
  refine zlRun (n := 1) (j := 1) rfl (by kernel_rfl) ?_
  refine bindE hS (fun z79 hz79 hS => ?_)
  refine zlOp (d := some 24) (op := (.ixStr (.tmp 23) (.const (.int .i64 0)))) (g := none) (v := (.d (.int .u8 (z79.toNat : Int)))) (ups := []) (j := 2) rfl (by kernel_rfl) (by kernel_rfl) (ev_ixStr (kk := .i64) (s := p159) (j := 0) (by kernel_rfl) (by kernel_rfl) hz79) ?_
  refine zlBool (d := 25) (op := (.cmpI .lss (.tmp 24) (.const (.int .u8 128)))) (g := none) (j := 3) (decide ((z79.toNat : Int) < 128)) rfl (by kernel_rfl) (by kernel_rfl) (by kernel_rfl) (fun hc => ?_) (fun hc => ?_)
  · replace hS := cond_t hc hS
    refine zlEnd (by kernel_rfl) ?_
    refine zkSeq ?_
    refine zrCondT (by kernel_rfl) ?_
    refine zrSeq ?_
    refine zrRegD ?_
    refine zdRun (n := 2) (j := 2) (ts := [[], []]) (acc' := [[], []]) rfl (by kernel_rfl) (by kernel_rfl) (by kernel_rfl) ?_
    refine bindE hS (fun z80 hz80 hS => ?_)
    refine zdOp (d := some 28) (op := (.ixStr (.tmp 27) (.const (.int .i64 0)))) (g := none) (v := (.d (.int .u8 (z80.toNat : Int)))) (ups := []) (j := 3) (t1 := []) (acc' := [[], [], []]) (by kernel_rfl) (by kernel_rfl) rfl (by kernel_rfl) (by kernel_rfl) (ev_ixStr (kk := .i64) (s := p159) (j := 0) (by kernel_rfl) (by kernel_rfl) hz80) ?_
    refine zdOp (d := some 29) (op := (.cvI .i64 (.tmp 28))) (g := none) (v := (.d (.int .i64 (z80.toNat : Int)))) (ups := []) (j := 4) (t1 := []) (acc' := [[], [], [], []]) (by kernel_rfl) (by kernel_rfl) rfl (by kernel_rfl) (by kernel_rfl) (ev_cv (kk := .u8) (a := (z80.toNat : Int)) (by kernel_rfl) (cv_i64 _)) ?_
    refine zdRun (n := 1) (j := 5) (ts := [[(248, true)]]) (acc' := [[], [], [], [], [(248, true)]]) rfl (by kernel_rfl) (by kernel_rfl) (by kernel_rfl) ?_
    refine bindE hS (fun z81 hz81 hS => ?_)
    refine zdOp (d := some 31) (op := (.app 3 1 8 (.tmp 26) (.tmp 30))) (g := none) (v := (.r (.msl 72 1 0 z81.length))) (ups := [(72, ⟨1, some (.own 3 1 ((eInt .i64).cells z81))⟩)]) (j := 6) (t1 := [(256, true), (72, true), (248, false)]) (acc' := [[], [], [], [], [(248, true)], [(256, true), (72, true), (248, false)]]) (by kernel_rfl) (by kernel_rfl) rfl (by kernel_rfl) (by kernel_rfl) (ev_app (eInt .i64) (b := 72) (g := 0) (n := p160.length) (xs := p160) (ys := [(z80.toNat : Int)]) ((congrArg (asL _) (by kernel_rfl : ρof _ (.tmp 30) = (.r (.msl 248 1 0 (([(z80.toNat : Int)] : List Int).length))))).trans (as_whole (eInt .i64) (e := 3) (k := 1) (xs := [(z80.toNat : Int)]) (by kernel_rfl) rfl rfl)) rfl (by kernel_rfl) rfl (by kernel_rfl) rfl hz81) ?_
    refine zdRun (n := 1) (j := 7) (ts := [[]]) (acc' := [[], [], [], [], [(248, true)], [(256, true), (72, true), (248, false)], []]) rfl (by kernel_rfl) (by kernel_rfl) (by kernel_rfl) ?_
    refine bindE hS (fun z82 hz82 hS => ?_)
    refine zdOp (d := some 33) (op := (.slStr (.tmp 32) (.some (.const (.int .i64 1))) .none)) (g := none) (v := (.d (.str z82))) (ups := []) (j := 8) (t1 := []) (acc' := [[], [], [], [], [(248, true)], [(256, true), (72, true), (248, false)], [], []]) (by kernel_rfl) (by kernel_rfl) rfl (by kernel_rfl) (by kernel_rfl) (ev_slStr (s := p159) (a := 1) (c := (p159.length : Int)) (by kernel_rfl) (bnd_s _ (kk := .i64) (j := 1) (by kernel_rfl)) (bnd_n _) hz82) ?_
    refine zdRun (n := 2) (j := 10) (ts := [[], []]) (acc' := [[], [], [], [], [(248, true)], [(256, true), (72, true), (248, false)], [], [], [], []]) rfl (by kernel_rfl) (by kernel_rfl) (by kernel_rfl) ?_
    refine zdEnd (by kernel_rfl) (by kernel_rfl) ?_
    refine zkSeq ?_
    refine zrExit ?_
    refine zkSeqX ?_
    refine zkBlkX ?_
    refine zkNil ?_
    exact endQ hS hQ (finL_n (by show keepSt _ _ _ _ = _; kernel_rfl))
  · replace hS := cond_f hc hS
    refine zlEnd (by kernel_rfl) ?_
    refine zkSeq ?_
    refine zrCondF (by kernel_rfl) ?_
    refine zrSkip ?_
    refine zkSeq ?_
    exact f7_l1_j3_ok hd a1 a2 hQ p159 p160 hS (by kernel_rfl)
noncomputable def f7_l1 (a1 : List UInt8) (a2 : List UInt8) (x : (List UInt8) × (List Int)) : Option (((List UInt8) × (List Int)) ⊕ (((List Int)) ⊕ ((List UInt8) × (List Int) × Int))) := (bif (!decide (x.1 = ([] : List UInt8))) then (f7_l1_j2 a1 a2 x.1 x.2) else (some (.inr (.inl x.2))))
theorem f7_l1_ok {d : Nat} (hd : 4 ≤ d) (a1 : List UInt8) (a2 : List UInt8) {r : ((List UInt8) × (List Int)) ⊕ (((List Int)) ⊕ ((List UInt8) × (List Int) × Int))} {Q : PX → St → Prop} (hQ : ∀ e st', finL (f7_l1_H a1 a2) (f7_l1_X a1 a2) r e st' → Q e st') {x : (List UInt8) × (List Int)} (hS : f7_l1 a1 a2 x = some r) {st : St} (he : f7_l1_H a1 a2 x st) : ZR (lev codes baseL (d - 1)) Q c7_5 [] st := by
  refine zrKeep he ?_
  unfold f7_l1 at hS
  refine zrSeq ?_
  refine zrSeq ?_
  refine zrReg ?_
  refine zlRun (n := 1) (j := 1) rfl (by kernel_rfl) ?_
  refine zlBool (d := 22) (op := (.strO .neq (.tmp 21) (.const (.string ⟨#[]⟩)))) (g := none) (j := 2) (!decide (x.1 = ([] : List UInt8))) rfl (by kernel_rfl) (by kernel_rfl) (by kernel_rfl) (fun hc => ?_) (fun hc => ?_)
  · replace hS := cond_t hc hS
    refine zlEnd (by kernel_rfl) ?_
    refine zkSeq ?_
    refine zrCondT (by kernel_rfl) ?_
    refine zrSkip ?_
    refine zkSeq ?_
    exact f7_l1_j2_ok hd a1 a2 hQ x.1 x.2 hS (by kernel_rfl)
  · replace hS := cond_f hc hS
    refine zlEnd (by kernel_rfl) ?_
    refine zkSeq ?_
    refine zrCondF (by kernel_rfl) ?_
    refine zrKeep (J := f7_l1_e0_J a1 a2 x.2) (by kernel_rfl) ?_
    refine zrExit ?_
    refine zkSeqX ?_
    refine zkNil ?_
    exact endQ hS hQ (finL_x (by intro h; cases h) (by show _ = _ ∧ _ = _; exact ⟨rfl, rfl⟩))
def f7_j0_J (a1 : List UInt8) (a2 : List UInt8) : St := ⟨(up (up (fun _ => .un) 1 (.d (.str a2))) 0 (.d (.str a1))), (hB fun _ => 0)⟩
noncomputable def f7_j0 (a1 : List UInt8) (a2 : List UInt8) : Option ((List UInt8) × (List Int) × Int) := ((cat? a1 a2).bind fun z35 => ((loopO (f7_l1 a1 a2) (z35, [])).bind fun z83 => (Sum.elim (fun z84 => (some ([], z84, 0))) (fun z85 => (some (z85.1, z85.2.1, z85.2.2))) z83)))
theorem f7_j0_ok {d : Nat} (hd : 4 ≤ d) (a1 : List UInt8) (a2 : List UInt8) {r : (List UInt8) × (List Int) × Int} {Q : PX → St → Prop} (hQ : ∀ e st', f7_Q r e st' → Q e st')  (hS : f7_j0 a1 a2 = some r) {st : St} (he : keepSt [0, 1] [] [] st = f7_j0_J a1 a2) : ZR (lev codes baseL (d - 1)) Q c7_6 [] st := by
  refine zrKeep he ?_
  unfold f7_j0 at hS
  refine zrSeq ?_
  refine zrReg ?_
  refine zlRun (n := 1) (j := 1) rfl (by kernel_rfl) ?_
  refine zlEnd (by kernel_rfl) ?_
  refine zkSeq ?_
  refine zrSeq ?_
  refine zrSeq ?_
  refine zrReg ?_
  refine zlRun (n := 2) (j := 2) rfl (by kernel_rfl) ?_
  refine bindE hS (fun z35 hz35 hS => ?_)
  refine zlOp (d := some 20) (op := (.strO .add (.tmp 18) (.tmp 19))) (g := none) (v := (.d (.str z35))) (ups := []) (j := 3) rfl (by kernel_rfl) (by kernel_rfl) (ev_cat (a := a1) (c := a2) (by kernel_rfl) (by kernel_rfl) hz35) ?_
  refine zlRun (n := 1) (j := 4) rfl (by kernel_rfl) ?_
  refine zlEnd (by kernel_rfl) ?_
  refine zkSeq ?_
  refine zrBlk ?_
  refine bindE hS (fun z83 hz83 hS => ?_)
  refine zrLoop (f7_l1_H a1 a2) (f7_l1_X a1 a2) (fun x st r Q h0 hS hQ => f7_l1_ok hd a1 a2 hQ hS h0) (x := (z35, [])) (z := z83) (by show keepSt _ _ _ _ = _; kernel_rfl) hz83 ?_
  rcases z83 with z84 | z85
  · replace hS := (show _ = _ from hS)
    simp only [Sum.elim_inl] at hS
    intro e st' _ hX
    obtain ⟨rfl, rfl⟩ : _ ∧ _ := hX
    refine zkBlkX ?_
    refine zkSeq ?_
    refine zrSeq ?_
    refine zrReg ?_
    refine zlRun (n := 4) (j := 4) rfl (by kernel_rfl) ?_
    refine zlEnd (by kernel_rfl) ?_
    refine zkSeq ?_
    refine zrRet ?_
    refine zkNil ?_
    exact endQ hS hQ (fRet ((congrArg (fun s => outR s 0 c7.res) (by kernel_rfl : finSt c7.fin _ = f7_fin [] z84 0)).trans (f7_out [] z84 0)))
  · simp only [Sum.elim_inr] at hS
    intro e st' _ hX
    obtain ⟨rfl, hX⟩ : _ ∧ _ := hX
    refine zkBlkR ?_
    refine zkSeqR ?_
    refine zkNil ?_
    exact endQ hS hQ (fRet ((congrArg (fun s => outR s 0 c7.res) hX).trans (f7_out z85.1 z85.2.1 z85.2.2)))
noncomputable def f7 (a1 : List UInt8) (a2 : List UInt8) : Option ((List UInt8) × (List Int) × Int) := ((f11 a1).bind fun z86 => (bif (!decide (z86 = 0)) then (some ([], [], z86)) else (f7_j0 a1 a2 )))
theorem f7_ok (d : Nat) (hd : 4 ≤ d) (a1 : List UInt8) (a2 : List UInt8) (r : (List UInt8) × (List Int) × Int) (hS : f7 a1 a2 = some r) : lev codes baseL d 7 [(.d (.str a1)), (.d (.str a2))] [] = some ((.tup [(.d (.str r.1)), (.r (.own 0 3 1 r.2.1.length ((eInt .i64).cells r.2.1))), (.d (.int .i64 r.2.2))]), []) := by
  refine lev_go codes7 rfl rfl (Nat.le_trans (Nat.le_of_ble_eq_true rfl) hd) fun Q hQ => ?_
  unfold f7 at hS
  show ZR _ Q c7_b [] _
  replace hQ : ∀ e st', f7_Q r e st' → Q e st' := hQ
  refine zrSeq ?_
  refine zrReg ?_
  refine zlRun (n := 3) (j := 3) rfl (by kernel_rfl) ?_
  refine zlEnd (by kernel_rfl) ?_
  refine zkSeq ?_
  refine zrSeq ?_
  refine zrSeq ?_
  refine zrReg ?_
  refine zlRun (n := 1) (j := 1) rfl (by kernel_rfl) ?_
  refine bindE hS (fun z86 hz86 hS => ?_)
  refine zlOp (d := some 14) (op := (.call 11 [(.tmp 13)])) (g := none) (v := (.d (.int .i64 z86))) (ups := []) (j := 2) rfl (by kernel_rfl) (by kernel_rfl) (ev_call (args := [(.d (.str a1))]) (l := [(.d (.str a1))]) (r := (.d (.int .i64 z86))) (by kernel_rfl) (by kernel_rfl) (f11_ok (d - 1) (dpt hd rfl) a1 z86 hz86) (by kernel_rfl) (by kernel_rfl) (by kernel_rfl)) ?_
  refine zlRun (n := 1) (j := 3) rfl (by kernel_rfl) ?_
  refine zlEnd (by kernel_rfl) ?_
  refine zkSeq ?_
  refine zrSeq ?_
  refine zrReg ?_
  refine zlRun (n := 1) (j := 1) rfl (by kernel_rfl) ?_
  refine zlBool (d := 16) (op := (.cmpI .neq (.tmp 15) (.const (.int .i64 0)))) (g := none) (j := 2) (!decide (z86 = 0)) rfl (by kernel_rfl) (by kernel_rfl) (by kernel_rfl) (fun hc => ?_) (fun hc => ?_)
  · replace hS := cond_t hc hS
    refine zlEnd (by kernel_rfl) ?_
    refine zkSeq ?_
    refine zrCondT (by kernel_rfl) ?_
    refine zrSeq ?_
    refine zrReg ?_
    refine zlRun (n := 4) (j := 4) rfl (by kernel_rfl) ?_
    refine zlEnd (by kernel_rfl) ?_
    refine zkSeq ?_
    refine zrRet ?_
    refine zkSeqR ?_
    refine zkNil ?_
    exact endQ hS hQ (fRet ((congrArg (fun s => outR s 0 c7.res) (by kernel_rfl : finSt c7.fin _ = f7_fin [] [] z86)).trans (f7_out [] [] z86)))
  · replace hS := cond_f hc hS
    refine zlEnd (by kernel_rfl) ?_
    refine zkSeq ?_
    refine zrCondF (by kernel_rfl) ?_
    refine zrSkip ?_
    refine zkSeq ?_
    exact f7_j0_ok hd a1 a2 hQ  hS (by kernel_rfl)
/- slices.Equal[[]int,int] -/
def f12_fin (p14 : Bool) : St := ⟨(up (fun _ => .un) 4 (.d (.bool p14))), (hB fun _ => 0)⟩
theorem f12_out (p14 : Bool) : outR (f12_fin p14) 0 c12.res = some ((.d (.bool p14)), []) := by
  kernel_rfl
def f12_Q (r : Bool) (e : PX) (st : St) : Prop := DoneF c12 0 ((.d (.bool r)), []) e st
def f12_l1_J (a1 : List Int) (a2 : List Int) (x : Int) : St := ⟨(up (up (up (up (fun _ => .un) 13 (.d (.int .i64 x))) 12 (.d (.int .i64 (a1.length : Int)))) 1 (.d (.sl a2.length ((eInt .i64).cells a2)))) 0 (.d (.sl a1.length ((eInt .i64).cells a1)))), (hB fun _ => 0)⟩
def f12_l1_H (a1 : List Int) (a2 : List Int) (x : Int) (st : St) : Prop := keepSt [0, 1, 12, 13] [] [] st = f12_l1_J a1 a2 x
def f12_l1_e0_J (a1 : List Int) (a2 : List Int) : St := ⟨(fun _ => .un), (hB fun _ => 0)⟩
def f12_l1_X (a1 : List Int) (a2 : List Int) (z : Unit ⊕ Bool) (e : PX) (st : St) : Prop := (match z with | .inl z => e = .exit 0 ∧ st = f12_l1_e0_J a1 a2 | .inr z => e = .ret ∧ finSt c12.fin st = f12_fin z)
def f12_l1_j3_J (a1 : List Int) (a2 : List Int) (p20 : Int) : St := ⟨(up (up (up (up (fun _ => .un) 13 (.d (.int .i64 p20))) 12 (.d (.int .i64 (a1.length : Int)))) 1 (.d (.sl a2.length ((eInt .i64).cells a2)))) 0 (.d (.sl a1.length ((eInt .i64).cells a1)))), (hB fun _ => 0)⟩
noncomputable def f12_l1_j3 (a1 : List Int) (a2 : List Int) (p20 : Int) : Option (Int ⊕ (Unit ⊕ Bool)) := ((idx a1 p20).bind fun z7 => ((idx a2 p20).bind fun z8 => (bif (!decide (z7 = z8)) then (some (.inr (.inr false))) else (some (.inl (IntKind.i64.wrap (p20 + 1)))))))
theorem f12_l1_j3_ok {d : Nat} (hd : 1 ≤ d) (a1 : List Int) (a2 : List Int) {r : Int ⊕ (Unit ⊕ Bool)} {Q : PX → St → Prop} (hQ : ∀ e st', finL (f12_l1_H a1 a2) (f12_l1_X a1 a2) r e st' → Q e st') (p20 : Int) (hS : f12_l1_j3 a1 a2 p20 = some r) {st : St} (he : keepSt [0, 1, 12, 13] [] [] st = f12_l1_j3_J a1 a2 p20) : ZR (lev codes baseL (d - 1)) Q c12_1 [] st := by
  refine zrKeep he ?_
  unfold f12_l1_j3 at hS
  refine zrSeq ?_
  refine zrBlk ?_
  refine zrSeq ?_
  refine zrReg ?_
  refine zlRun (n := 2) (j := 2) rfl (by kernel_rfl) ?_
  refine zlEnd (by kernel_rfl) ?_
  refine zkSeq ?_
  refine zrSeq ?_
  refine zrRegD ?_
  refine zdRun (n := 2) (j := 2) (ts := [[], []]) (acc' := [[], []]) rfl (by kernel_rfl) (by kernel_rfl) (by kernel_rfl) ?_
  refine bindE hS (fun z7 hz7 hS => ?_)
  refine zdOp (d := some 18) (op := (.ixS 3 1 (.tmp 16) (.tmp 17))) (g := none) (v := (.rptr ((eInt .i64).enc z7 ++ ((eInt .i64).cells (a1.drop ((p20 : Int).toNat + 1)))))) (ups := []) (j := 3) (t1 := []) (acc' := [[], [], []]) (by kernel_rfl) (by kernel_rfl) rfl (by kernel_rfl) (by kernel_rfl) (ev_ixS (eInt .i64) (kk := .i64) (xs := a1) (j := p20) (by kernel_rfl) (by kernel_rfl) hz7 rfl (by intro h; cases h)) ?_
  refine zdRun (n := 3) (j := 6) (ts := [[], [], []]) (acc' := [[], [], [], [], [], []]) rfl (by kernel_rfl) (by kernel_rfl) (by kernel_rfl) ?_
  refine bindE hS (fun z8 hz8 hS => ?_)
  refine zdOp (d := some 22) (op := (.ixS 3 1 (.tmp 20) (.tmp 21))) (g := none) (v := (.rptr ((eInt .i64).enc z8 ++ ((eInt .i64).cells (a2.drop ((p20 : Int).toNat + 1)))))) (ups := []) (j := 7) (t1 := []) (acc' := [[], [], [], [], [], [], []]) (by kernel_rfl) (by kernel_rfl) rfl (by kernel_rfl) (by kernel_rfl) (ev_ixS (eInt .i64) (kk := .i64) (xs := a2) (j := p20) (by kernel_rfl) (by kernel_rfl) hz8 rfl (by intro h; cases h)) ?_
  refine zdRun (n := 1) (j := 8) (ts := [[]]) (acc' := [[], [], [], [], [], [], [], []]) rfl (by kernel_rfl) (by kernel_rfl) (by kernel_rfl) ?_
  refine zdBool (d := 24) (op := (.cmpI .neq (.tmp 19) (.tmp 23))) (g := none) (j := 9) (t1 := []) (acc' := [[], [], [], [], [], [], [], [], []]) (!decide (z7 = z8)) (by kernel_rfl) (by kernel_rfl) rfl (by kernel_rfl) (by kernel_rfl) (by kernel_rfl) (fun hc => ?_) (fun hc => ?_)
  · replace hS := cond_t hc hS
    refine zdEnd (by kernel_rfl) (by kernel_rfl) ?_
    refine zkSeq ?_
    refine zrCondT (by kernel_rfl) ?_
    refine zrSeq ?_
    refine zrReg ?_
    refine zlRun (n := 1) (j := 1) rfl (by kernel_rfl) ?_
    refine zlEnd (by kernel_rfl) ?_
    refine zkSeq ?_
    refine zrRet ?_
    refine zkBlkR ?_
    refine zkSeqR ?_
    refine zkNil ?_
    exact endQ hS hQ (finL_x (by intro h; cases h) (by show _ = _ ∧ _ = _; exact ⟨rfl, by kernel_rfl⟩))
  · replace hS := cond_f hc hS
    refine zdEnd (by kernel_rfl) (by kernel_rfl) ?_
    refine zkSeq ?_
    refine zrCondF (by kernel_rfl) ?_
    refine zrSkip ?_
    refine zkBlk ?_
    refine zkSeq ?_
    refine zrReg ?_
    refine zlRun (n := 2) (j := 2) rfl (by kernel_rfl) ?_
    refine zlEnd (by kernel_rfl) ?_
    refine zkNil ?_
    exact endQ hS hQ (finL_n (by show keepSt _ _ _ _ = _; kernel_rfl))
def f12_l1_j2_J (a1 : List Int) (a2 : List Int) (p18 : Int) (p19 : Bool) : St := ⟨(up (up (up (up (up (fun _ => .un) 14 (.d (.bool p19))) 13 (.d (.int .i64 p18))) 12 (.d (.int .i64 (a1.length : Int)))) 1 (.d (.sl a2.length ((eInt .i64).cells a2)))) 0 (.d (.sl a1.length ((eInt .i64).cells a1)))), (hB fun _ => 0)⟩
noncomputable def f12_l1_j2 (a1 : List Int) (a2 : List Int) (p18 : Int) (p19 : Bool) : Option (Int ⊕ (Unit ⊕ Bool)) := (bif p19 then (f12_l1_j3 a1 a2 p18) else (some (.inr (.inl ()))))
theorem f12_l1_j2_ok {d : Nat} (hd : 1 ≤ d) (a1 : List Int) (a2 : List Int) {r : Int ⊕ (Unit ⊕ Bool)} {Q : PX → St → Prop} (hQ : ∀ e st', finL (f12_l1_H a1 a2) (f12_l1_X a1 a2) r e st' → Q e st') (p18 : Int) (p19 : Bool) (hS : f12_l1_j2 a1 a2 p18 p19 = some r) {st : St} (he : keepSt [0, 1, 12, 13, 14] [] [] st = f12_l1_j2_J a1 a2 p18 p19) : ZR (lev codes baseL (d - 1)) Q c12_2 [] st := by
  refine zrKeep he ?_
  unfold f12_l1_j2 at hS
  refine zrSeq ?_
  refine zrSplit 14 p19 (by kernel_rfl) (fun hc => ?_) (fun hc => ?_)
  · replace hS := cond_t hc hS
    refine zrCondT (by kernel_rfl) ?_
    refine zrSkip ?_
    refine zkSeq ?_
    exact f12_l1_j3_ok hd a1 a2 hQ p18 hS (by kernel_rfl)
  · replace hS := cond_f hc hS
    refine zrCondF (by kernel_rfl) ?_
    refine zrKeep (J := f12_l1_e0_J a1 a2) (by kernel_rfl) ?_
    refine zrExit ?_
    refine zkSeqX ?_
    refine zkNil ?_
    exact endQ hS hQ (finL_x (by intro h; cases h) (by show _ = _ ∧ _ = _; exact ⟨rfl, rfl⟩))
noncomputable def f12_l1 (a1 : List Int) (a2 : List Int) (x : Int) : Option (Int ⊕ (Unit ⊕ Bool)) := (bif (decide (x < (a1.length : Int))) then (f12_l1_j2 a1 a2 x true) else (f12_l1_j2 a1 a2 x false))
theorem f12_l1_ok {d : Nat} (hd : 1 ≤ d) (a1 : List Int) (a2 : List Int) {r : Int ⊕ (Unit ⊕ Bool)} {Q : PX → St → Prop} (hQ : ∀ e st', finL (f12_l1_H a1 a2) (f12_l1_X a1 a2) r e st' → Q e st') {x : Int} (hS : f12_l1 a1 a2 x = some r) {st : St} (he : f12_l1_H a1 a2 x st) : ZR (lev codes baseL (d - 1)) Q c12_3 [] st := by
  refine zrKeep he ?_
  unfold f12_l1 at hS
  refine zrSeq ?_
  refine zrReg ?_
  refine zlBool (d := 14) (op := (.cmpI .lss (.tmp 13) (.tmp 12))) (g := none) (j := 1) (decide (x < (a1.length : Int))) rfl (by kernel_rfl) (by kernel_rfl) (by kernel_rfl) (fun hc => ?_) (fun hc => ?_)
  · replace hS := cond_t hc hS
    refine zlEnd (by kernel_rfl) ?_
    refine zkSeq ?_
    exact f12_l1_j2_ok hd a1 a2 hQ x true hS (by kernel_rfl)
  · replace hS := cond_f hc hS
    refine zlEnd (by kernel_rfl) ?_
    refine zkSeq ?_
    exact f12_l1_j2_ok hd a1 a2 hQ x false hS (by kernel_rfl)
def f12_j0_J (a1 : List Int) (a2 : List Int) : St := ⟨(up (up (fun _ => .un) 1 (.d (.sl a2.length ((eInt .i64).cells a2)))) 0 (.d (.sl a1.length ((eInt .i64).cells a1)))), (hB fun _ => 0)⟩
noncomputable def f12_j0 (a1 : List Int) (a2 : List Int) : Option (Bool) := ((loopO (f12_l1 a1 a2) 0).bind fun z9 => (Sum.elim (fun z10 => (some true)) (fun z11 => (some z11)) z9))
theorem f12_j0_ok {d : Nat} (hd : 1 ≤ d) (a1 : List Int) (a2 : List Int) {r : Bool} {Q : PX → St → Prop} (hQ : ∀ e st', f12_Q r e st' → Q e st')  (hS : f12_j0 a1 a2 = some r) {st : St} (he : keepSt [0, 1] [] [] st = f12_j0_J a1 a2) : ZR (lev codes baseL (d - 1)) Q c12_4 [] st := by
  refine zrKeep he ?_
  unfold f12_j0 at hS
  refine zrSeq ?_
  refine zrSeq ?_
  refine zrReg ?_
  refine zlRun (n := 3) (j := 3) rfl (by kernel_rfl) ?_
  refine zlEnd (by kernel_rfl) ?_
  refine zkSeq ?_
  refine zrBlk ?_
  refine bindE hS (fun z9 hz9 hS => ?_)
  refine zrLoop (f12_l1_H a1 a2) (f12_l1_X a1 a2) (fun x st r Q h0 hS hQ => f12_l1_ok hd a1 a2 hQ hS h0) (x := 0) (z := z9) (by show keepSt _ _ _ _ = _; kernel_rfl) hz9 ?_
  rcases z9 with z10 | z11
  · replace hS := (show _ = _ from hS)
    simp only [Sum.elim_inl] at hS
    intro e st' _ hX
    obtain ⟨rfl, rfl⟩ : _ ∧ _ := hX
    refine zkBlkX ?_
    refine zkSeq ?_
    refine zrSeq ?_
    refine zrReg ?_
    refine zlRun (n := 1) (j := 1) rfl (by kernel_rfl) ?_
    refine zlEnd (by kernel_rfl) ?_
    refine zkSeq ?_
    refine zrRet ?_
    refine zkNil ?_
    exact endQ hS hQ (fRet ((congrArg (fun s => outR s 0 c12.res) (by kernel_rfl : finSt c12.fin _ = f12_fin true)).trans (f12_out true)))
  · simp only [Sum.elim_inr] at hS
    intro e st' _ hX
    obtain ⟨rfl, hX⟩ : _ ∧ _ := hX
    refine zkBlkR ?_
    refine zkSeqR ?_
    refine zkNil ?_
    exact endQ hS hQ (fRet ((congrArg (fun s => outR s 0 c12.res) hX).trans (f12_out z11)))
noncomputable def f12 (a1 : List Int) (a2 : List Int) : Option (Bool) := (bif (!decide ((a1.length : Int) = (a2.length : Int))) then (some false) else (f12_j0 a1 a2 ))
theorem f12_ok (d : Nat) (hd : 1 ≤ d) (a1 : List Int) (a2 : List Int) (r : Bool) (hS : f12 a1 a2 = some r) : lev codes baseL d 12 [(.d (.sl a1.length ((eInt .i64).cells a1))), (.d (.sl a2.length ((eInt .i64).cells a2)))] [] = some ((.d (.bool r)), []) := by
  refine lev_go codes12 rfl rfl (Nat.le_trans (Nat.le_of_ble_eq_true rfl) hd) fun Q hQ => ?_
  unfold f12 at hS
  show ZR _ Q c12_b [] _
  replace hQ : ∀ e st', f12_Q r e st' → Q e st' := hQ
  refine zrSeq ?_
  refine zrReg ?_
  refine zlRun (n := 1) (j := 1) rfl (by kernel_rfl) ?_
  refine zlEnd (by kernel_rfl) ?_
  refine zkSeq ?_
  refine zrSeq ?_
  refine zrSeq ?_
  refine zrReg ?_
  refine zlRun (n := 4) (j := 4) rfl (by kernel_rfl) ?_
  refine zlBool (d := 10) (op := (.cmpI .neq (.tmp 7) (.tmp 9))) (g := none) (j := 5) (!decide ((a1.length : Int) = (a2.length : Int))) rfl (by kernel_rfl) (by kernel_rfl) (by kernel_rfl) (fun hc => ?_) (fun hc => ?_)
  · replace hS := cond_t hc hS
    refine zlEnd (by kernel_rfl) ?_
    refine zkSeq ?_
    refine zrCondT (by kernel_rfl) ?_
    refine zrSeq ?_
    refine zrReg ?_
    refine zlRun (n := 1) (j := 1) rfl (by kernel_rfl) ?_
    refine zlEnd (by kernel_rfl) ?_
    refine zkSeq ?_
    refine zrRet ?_
    refine zkSeqR ?_
    refine zkNil ?_
    exact endQ hS hQ (fRet ((congrArg (fun s => outR s 0 c12.res) (by kernel_rfl : finSt c12.fin _ = f12_fin false)).trans (f12_out false)))
  · replace hS := cond_f hc hS
    refine zlEnd (by kernel_rfl) ?_
    refine zkSeq ?_
    refine zrCondF (by kernel_rfl) ?_
    refine zrSkip ?_
    refine zkSeq ?_
    exact f12_j0_ok hd a1 a2 hQ  hS (by kernel_rfl)
/- unicode/utf8.appendRuneNonASCII -/
def f24_fin (p7 : List UInt8) : St := ⟨(up (fun _ => .un) 4 (.r (.msl 0 0 0 p7.length))), (up (hB fun _ => 0) 0 ⟨0, some (.own 5 1 (eU8.cells p7))⟩)⟩
theorem f24_out (p7 : List UInt8) : outR (f24_fin p7) 1 c24.res = some ((.r (.msl 0 0 0 p7.length)), [(.own 5 1 (eU8.cells p7))]) := by
  kernel_rfl
def f24_Q (r : (List UInt8)) (e : PX) (st : St) : Prop := DoneF c24 1 ((.r (.msl 0 0 0 r.length)), [(.own 5 1 (eU8.cells r))]) e st
def f24_j0_J (a1 : Int) (a2 : List UInt8) (p11 : Bool) : St := ⟨(up (up (up (up (fun _ => .un) 25 (.d (.bool p11))) 5 (.d (.int .u32 (IntKind.u32.wrap (a1))))) 1 (.d (.int .i32 a1))) 0 (.r (.msl 0 0 0 a2.length))), (up (hB fun _ => 0) 0 ⟨0, some (.own 5 1 (eU8.cells a2))⟩)⟩
noncomputable def f24_j0 (a1 : Int) (a2 : List UInt8) (p11 : Bool) : Option ((List UInt8)) := (bif p11 then ((app? 1 a2 ([((224 : UInt8) ||| (u8 (Int.fdiv a1 (2 ^ 12)))), ((128 : UInt8) ||| ((u8 (Int.fdiv a1 (2 ^ 6))) &&& (63 : UInt8))), ((128 : UInt8) ||| ((u8 a1) &&& (63 : UInt8)))] : List UInt8)).bind fun z6 => (some z6)) else (bif (decide (65535 < (IntKind.u32.wrap (a1)))) then (bif (decide ((IntKind.u32.wrap (a1)) ≤ 1114111)) then ((app? 1 a2 ([((240 : UInt8) ||| (u8 (Int.fdiv a1 (2 ^ 18)))), ((128 : UInt8) ||| ((u8 (Int.fdiv a1 (2 ^ 12))) &&& (63 : UInt8))), ((128 : UInt8) ||| ((u8 (Int.fdiv a1 (2 ^ 6))) &&& (63 : UInt8))), ((128 : UInt8) ||| ((u8 a1) &&& (63 : UInt8)))] : List UInt8)).bind fun z7 => (some z7)) else ((app? 1 a2 ([239, 191, 189] : List UInt8)).bind fun z8 => (some z8))) else ((app? 1 a2 ([239, 191, 189] : List UInt8)).bind fun z9 => (some z9))))
theorem f24_j0_ok {d : Nat} (hd : 1 ≤ d) (a1 : Int) (a2 : List UInt8) {r : (List UInt8)} {Q : PX → St → Prop} (hQ : ∀ e st', f24_Q r e st' → Q e st') (p11 : Bool) (hS : f24_j0 a1 a2 p11 = some r) {st : St} (he : keepSt [0, 1, 5, 25] [(0, .id 0)] [] st = f24_j0_J a1 a2 p11) : ZR (lev codes baseL (d - 1)) Q c24_1 [.blk 0] st := by
  refine zrKeep he ?_
  unfold f24_j0 at hS
  refine zrSplit 25 p11 (by kernel_rfl) (fun hc => ?_) (fun hc => ?_)
  · replace hS := cond_t hc hS
    refine zrCondT (by kernel_rfl) ?_
    refine zrSeq ?_
    refine zrReg ?_
    refine zlRun (n := 3) (j := 3) rfl (by kernel_rfl) ?_
    refine zlOp (d := some 37) (op := (.cvI .u8 (.tmp 36))) (g := none) (v := (.d (.int .u8 ((u8 (Int.fdiv a1 (2 ^ 12))).toNat : Int)))) (ups := []) (j := 4) rfl (by kernel_rfl) (by kernel_rfl) (ev_cv (kk := .i32) (a := (Int.fdiv a1 (2 ^ 12))) (by kernel_rfl) (u8_wrap _)) ?_
    refine zlOp (d := some 38) (op := (.arI .or (.const (.int .u8 224)) (.tmp 37))) (g := none) (v := (.d (.int .u8 (((224 : UInt8) ||| (u8 (Int.fdiv a1 (2 ^ 12)))).toNat : Int)))) (ups := []) (j := 5) rfl (by kernel_rfl) (by kernel_rfl) (ev_arI (kk := .u8) (a := ((224 : UInt8).toNat : Int)) (c := ((u8 (Int.fdiv a1 (2 ^ 12))).toNat : Int)) (by kernel_rfl) (by kernel_rfl) (ar_or8 (224 : UInt8) (u8 (Int.fdiv a1 (2 ^ 12))))) ?_
    refine zlRun (n := 2) (j := 7) rfl (by kernel_rfl) ?_
    refine zlOp (d := some 41) (op := (.cvI .u8 (.tmp 40))) (g := none) (v := (.d (.int .u8 ((u8 (Int.fdiv a1 (2 ^ 6))).toNat : Int)))) (ups := []) (j := 8) rfl (by kernel_rfl) (by kernel_rfl) (ev_cv (kk := .i32) (a := (Int.fdiv a1 (2 ^ 6))) (by kernel_rfl) (u8_wrap _)) ?_
    refine zlOp (d := some 42) (op := (.arI .and (.tmp 41) (.const (.int .u8 63)))) (g := none) (v := (.d (.int .u8 (((u8 (Int.fdiv a1 (2 ^ 6))) &&& (63 : UInt8)).toNat : Int)))) (ups := []) (j := 9) rfl (by kernel_rfl) (by kernel_rfl) (ev_arI (kk := .u8) (a := ((u8 (Int.fdiv a1 (2 ^ 6))).toNat : Int)) (c := ((63 : UInt8).toNat : Int)) (by kernel_rfl) (by kernel_rfl) (ar_and8 (u8 (Int.fdiv a1 (2 ^ 6))) (63 : UInt8))) ?_
    refine zlOp (d := some 43) (op := (.arI .or (.const (.int .u8 128)) (.tmp 42))) (g := none) (v := (.d (.int .u8 (((128 : UInt8) ||| ((u8 (Int.fdiv a1 (2 ^ 6))) &&& (63 : UInt8))).toNat : Int)))) (ups := []) (j := 10) rfl (by kernel_rfl) (by kernel_rfl) (ev_arI (kk := .u8) (a := ((128 : UInt8).toNat : Int)) (c := (((u8 (Int.fdiv a1 (2 ^ 6))) &&& (63 : UInt8)).toNat : Int)) (by kernel_rfl) (by kernel_rfl) (ar_or8 (128 : UInt8) ((u8 (Int.fdiv a1 (2 ^ 6))) &&& (63 : UInt8)))) ?_
    refine zlRun (n := 1) (j := 11) rfl (by kernel_rfl) ?_
    refine zlOp (d := some 45) (op := (.cvI .u8 (.tmp 44))) (g := none) (v := (.d (.int .u8 ((u8 a1).toNat : Int)))) (ups := []) (j := 12) rfl (by kernel_rfl) (by kernel_rfl) (ev_cv (kk := .i32) (a := a1) (by kernel_rfl) (u8_wrap _)) ?_
    refine zlOp (d := some 46) (op := (.arI .and (.tmp 45) (.const (.int .u8 63)))) (g := none) (v := (.d (.int .u8 (((u8 a1) &&& (63 : UInt8)).toNat : Int)))) (ups := []) (j := 13) rfl (by kernel_rfl) (by kernel_rfl) (ev_arI (kk := .u8) (a := ((u8 a1).toNat : Int)) (c := ((63 : UInt8).toNat : Int)) (by kernel_rfl) (by kernel_rfl) (ar_and8 (u8 a1) (63 : UInt8))) ?_
    refine zlOp (d := some 47) (op := (.arI .or (.const (.int .u8 128)) (.tmp 46))) (g := none) (v := (.d (.int .u8 (((128 : UInt8) ||| ((u8 a1) &&& (63 : UInt8))).toNat : Int)))) (ups := []) (j := 14) rfl (by kernel_rfl) (by kernel_rfl) (ev_arI (kk := .u8) (a := ((128 : UInt8).toNat : Int)) (c := (((u8 a1) &&& (63 : UInt8)).toNat : Int)) (by kernel_rfl) (by kernel_rfl) (ar_or8 (128 : UInt8) ((u8 a1) &&& (63 : UInt8)))) ?_
    refine zlRun (n := 1) (j := 15) rfl (by kernel_rfl) ?_
    refine bindE hS (fun z6 hz6 hS => ?_)
    refine zlOp (d := some 49) (op := (.app 5 1 1 (.tmp 34) (.tmp 48))) (g := none) (v := (.r (.msl 0 1 0 z6.length))) (ups := [(0, ⟨1, some (.own 5 1 (eU8.cells z6))⟩)]) (j := 16) rfl (by kernel_rfl) (by kernel_rfl) (ev_app eU8 (b := 0) (g := 0) (n := a2.length) (xs := a2) (ys := [((224 : UInt8) ||| (u8 (Int.fdiv a1 (2 ^ 12)))), ((128 : UInt8) ||| ((u8 (Int.fdiv a1 (2 ^ 6))) &&& (63 : UInt8))), ((128 : UInt8) ||| ((u8 a1) &&& (63 : UInt8)))]) ((congrArg (asL _) (by kernel_rfl : ρof _ (.tmp 48) = (.r (.msl 392 1 0 (([((224 : UInt8) ||| (u8 (Int.fdiv a1 (2 ^ 12)))), ((128 : UInt8) ||| ((u8 (Int.fdiv a1 (2 ^ 6))) &&& (63 : UInt8))), ((128 : UInt8) ||| ((u8 a1) &&& (63 : UInt8)))] : List UInt8).length))))).trans (as_whole eU8 (e := 5) (k := 1) (xs := [((224 : UInt8) ||| (u8 (Int.fdiv a1 (2 ^ 12)))), ((128 : UInt8) ||| ((u8 (Int.fdiv a1 (2 ^ 6))) &&& (63 : UInt8))), ((128 : UInt8) ||| ((u8 a1) &&& (63 : UInt8)))]) (by kernel_rfl) rfl rfl)) rfl (by kernel_rfl) rfl (by kernel_rfl) rfl hz6) ?_
    refine zlRun (n := 1) (j := 17) rfl (by kernel_rfl) ?_
    refine zlEnd (by kernel_rfl) ?_
    refine zkSeq ?_
    refine zrRet ?_
    refine zkBlkR ?_
    refine zkNil ?_
    exact endQ hS hQ (fRet ((congrArg (fun s => outR s 1 c24.res) (by kernel_rfl : finSt c24.fin _ = f24_fin z6)).trans (f24_out z6)))
  · replace hS := cond_f hc hS
    refine zrCondF (by kernel_rfl) ?_
    refine zrSeq ?_
    refine zrReg ?_
    refine zlRun (n := 1) (j := 1) rfl (by kernel_rfl) ?_
    refine zlBool (d := 52) (op := (.cmpI .gtr (.tmp 51) (.const (.int .u32 65535)))) (g := none) (j := 2) (decide (65535 < (IntKind.u32.wrap (a1)))) rfl (by kernel_rfl) (by kernel_rfl) (by kernel_rfl) (fun hc => ?_) (fun hc => ?_)
    · replace hS := cond_t hc hS
      refine zlRun (n := 2) (j := 4) rfl (by kernel_rfl) ?_
      refine zlBool (d := 55) (op := (.cmpI .leq (.tmp 54) (.const (.int .u32 1114111)))) (g := (some (53, true))) (j := 5) (decide ((IntKind.u32.wrap (a1)) ≤ 1114111)) rfl (by kernel_rfl) (by kernel_rfl) (by kernel_rfl) (fun hc => ?_) (fun hc => ?_)
      · replace hS := cond_t hc hS
        refine zlRun (n := 2) (j := 7) rfl (by kernel_rfl) ?_
        refine zlEnd (by kernel_rfl) ?_
        refine zkSeq ?_
        refine zrCondT (by kernel_rfl) ?_
        refine zrSeq ?_
        refine zrReg ?_
        refine zlRun (n := 3) (j := 3) rfl (by kernel_rfl) ?_
        refine zlOp (d := some 60) (op := (.cvI .u8 (.tmp 59))) (g := none) (v := (.d (.int .u8 ((u8 (Int.fdiv a1 (2 ^ 18))).toNat : Int)))) (ups := []) (j := 4) rfl (by kernel_rfl) (by kernel_rfl) (ev_cv (kk := .i32) (a := (Int.fdiv a1 (2 ^ 18))) (by kernel_rfl) (u8_wrap _)) ?_
        refine zlOp (d := some 61) (op := (.arI .or (.const (.int .u8 240)) (.tmp 60))) (g := none) (v := (.d (.int .u8 (((240 : UInt8) ||| (u8 (Int.fdiv a1 (2 ^ 18)))).toNat : Int)))) (ups := []) (j := 5) rfl (by kernel_rfl) (by kernel_rfl) (ev_arI (kk := .u8) (a := ((240 : UInt8).toNat : Int)) (c := ((u8 (Int.fdiv a1 (2 ^ 18))).toNat : Int)) (by kernel_rfl) (by kernel_rfl) (ar_or8 (240 : UInt8) (u8 (Int.fdiv a1 (2 ^ 18))))) ?_
        refine zlRun (n := 2) (j := 7) rfl (by kernel_rfl) ?_
        refine zlOp (d := some 64) (op := (.cvI .u8 (.tmp 63))) (g := none) (v := (.d (.int .u8 ((u8 (Int.fdiv a1 (2 ^ 12))).toNat : Int)))) (ups := []) (j := 8) rfl (by kernel_rfl) (by kernel_rfl) (ev_cv (kk := .i32) (a := (Int.fdiv a1 (2 ^ 12))) (by kernel_rfl) (u8_wrap _)) ?_
        refine zlOp (d := some 65) (op := (.arI .and (.tmp 64) (.const (.int .u8 63)))) (g := none) (v := (.d (.int .u8 (((u8 (Int.fdiv a1 (2 ^ 12))) &&& (63 : UInt8)).toNat : Int)))) (ups := []) (j := 9) rfl (by kernel_rfl) (by kernel_rfl) (ev_arI (kk := .u8) (a := ((u8 (Int.fdiv a1 (2 ^ 12))).toNat : Int)) (c := ((63 : UInt8).toNat : Int)) (by kernel_rfl) (by kernel_rfl) (ar_and8 (u8 (Int.fdiv a1 (2 ^ 12))) (63 : UInt8))) ?_
        refine zlOp (d := some 66) (op := (.arI .or (.const (.int .u8 128)) (.tmp 65))) (g := none) (v := (.d (.int .u8 (((128 : UInt8) ||| ((u8 (Int.fdiv a1 (2 ^ 12))) &&& (63 : UInt8))).toNat : Int)))) (ups := []) (j := 10) rfl (by kernel_rfl) (by kernel_rfl) (ev_arI (kk := .u8) (a := ((128 : UInt8).toNat : Int)) (c := (((u8 (Int.fdiv a1 (2 ^ 12))) &&& (63 : UInt8)).toNat : Int)) (by kernel_rfl) (by kernel_rfl) (ar_or8 (128 : UInt8) ((u8 (Int.fdiv a1 (2 ^ 12))) &&& (63 : UInt8)))) ?_
        refine zlRun (n := 2) (j := 12) rfl (by kernel_rfl) ?_
        refine zlOp (d := some 69) (op := (.cvI .u8 (.tmp 68))) (g := none) (v := (.d (.int .u8 ((u8 (Int.fdiv a1 (2 ^ 6))).toNat : Int)))) (ups := []) (j := 13) rfl (by kernel_rfl) (by kernel_rfl) (ev_cv (kk := .i32) (a := (Int.fdiv a1 (2 ^ 6))) (by kernel_rfl) (u8_wrap _)) ?_
        refine zlOp (d := some 70) (op := (.arI .and (.tmp 69) (.const (.int .u8 63)))) (g := none) (v := (.d (.int .u8 (((u8 (Int.fdiv a1 (2 ^ 6))) &&& (63 : UInt8)).toNat : Int)))) (ups := []) (j := 14) rfl (by kernel_rfl) (by kernel_rfl) (ev_arI (kk := .u8) (a := ((u8 (Int.fdiv a1 (2 ^ 6))).toNat : Int)) (c := ((63 : UInt8).toNat : Int)) (by kernel_rfl) (by kernel_rfl) (ar_and8 (u8 (Int.fdiv a1 (2 ^ 6))) (63 : UInt8))) ?_
        refine zlOp (d := some 71) (op := (.arI .or (.const (.int .u8 128)) (.tmp 70))) (g := none) (v := (.d (.int .u8 (((128 : UInt8) ||| ((u8 (Int.fdiv a1 (2 ^ 6))) &&& (63 : UInt8))).toNat : Int)))) (ups := []) (j := 15) rfl (by kernel_rfl) (by kernel_rfl) (ev_arI (kk := .u8) (a := ((128 : UInt8).toNat : Int)) (c := (((u8 (Int.fdiv a1 (2 ^ 6))) &&& (63 : UInt8)).toNat : Int)) (by kernel_rfl) (by kernel_rfl) (ar_or8 (128 : UInt8) ((u8 (Int.fdiv a1 (2 ^ 6))) &&& (63 : UInt8)))) ?_
        refine zlRun (n := 1) (j := 16) rfl (by kernel_rfl) ?_
        refine zlOp (d := some 73) (op := (.cvI .u8 (.tmp 72))) (g := none) (v := (.d (.int .u8 ((u8 a1).toNat : Int)))) (ups := []) (j := 17) rfl (by kernel_rfl) (by kernel_rfl) (ev_cv (kk := .i32) (a := a1) (by kernel_rfl) (u8_wrap _)) ?_
        refine zlOp (d := some 74) (op := (.arI .and (.tmp 73) (.const (.int .u8 63)))) (g := none) (v := (.d (.int .u8 (((u8 a1) &&& (63 : UInt8)).toNat : Int)))) (ups := []) (j := 18) rfl (by kernel_rfl) (by kernel_rfl) (ev_arI (kk := .u8) (a := ((u8 a1).toNat : Int)) (c := ((63 : UInt8).toNat : Int)) (by kernel_rfl) (by kernel_rfl) (ar_and8 (u8 a1) (63 : UInt8))) ?_
        refine zlOp (d := some 75) (op := (.arI .or (.const (.int .u8 128)) (.tmp 74))) (g := none) (v := (.d (.int .u8 (((128 : UInt8) ||| ((u8 a1) &&& (63 : UInt8))).toNat : Int)))) (ups := []) (j := 19) rfl (by kernel_rfl) (by kernel_rfl) (ev_arI (kk := .u8) (a := ((128 : UInt8).toNat : Int)) (c := (((u8 a1) &&& (63 : UInt8)).toNat : Int)) (by kernel_rfl) (by kernel_rfl) (ar_or8 (128 : UInt8) ((u8 a1) &&& (63 : UInt8)))) ?_
        refine zlRun (n := 1) (j := 20) rfl (by kernel_rfl) ?_
        refine bindE hS (fun z7 hz7 hS => ?_)
        refine zlOp (d := some 77) (op := (.app 5 1 1 (.tmp 57) (.tmp 76))) (g := none) (v := (.r (.msl 0 1 0 z7.length))) (ups := [(0, ⟨1, some (.own 5 1 (eU8.cells z7))⟩)]) (j := 21) rfl (by kernel_rfl) (by kernel_rfl) (ev_app eU8 (b := 0) (g := 0) (n := a2.length) (xs := a2) (ys := [((240 : UInt8) ||| (u8 (Int.fdiv a1 (2 ^ 18)))), ((128 : UInt8) ||| ((u8 (Int.fdiv a1 (2 ^ 12))) &&& (63 : UInt8))), ((128 : UInt8) ||| ((u8 (Int.fdiv a1 (2 ^ 6))) &&& (63 : UInt8))), ((128 : UInt8) ||| ((u8 a1) &&& (63 : UInt8)))]) ((congrArg (asL _) (by kernel_rfl : ρof _ (.tmp 76) = (.r (.msl 616 1 0 (([((240 : UInt8) ||| (u8 (Int.fdiv a1 (2 ^ 18)))), ((128 : UInt8) ||| ((u8 (Int.fdiv a1 (2 ^ 12))) &&& (63 : UInt8))), ((128 : UInt8) ||| ((u8 (Int.fdiv a1 (2 ^ 6))) &&& (63 : UInt8))), ((128 : UInt8) ||| ((u8 a1) &&& (63 : UInt8)))] : List UInt8).length))))).trans (as_whole eU8 (e := 5) (k := 1) (xs := [((240 : UInt8) ||| (u8 (Int.fdiv a1 (2 ^ 18)))), ((128 : UInt8) ||| ((u8 (Int.fdiv a1 (2 ^ 12))) &&& (63 : UInt8))), ((128 : UInt8) ||| ((u8 (Int.fdiv a1 (2 ^ 6))) &&& (63 : UInt8))), ((128 : UInt8) ||| ((u8 a1) &&& (63 : UInt8)))]) (by kernel_rfl) rfl rfl)) rfl (by kernel_rfl) rfl (by kernel_rfl) rfl hz7) ?_
        refine zlRun (n := 1) (j := 22) rfl (by kernel_rfl) ?_
        refine zlEnd (by kernel_rfl) ?_
        refine zkSeq ?_
        refine zrRet ?_
        refine zkBlkR ?_
        refine zkNil ?_
        exact endQ hS hQ (fRet ((congrArg (fun s => outR s 1 c24.res) (by kernel_rfl : finSt c24.fin _ = f24_fin z7)).trans (f24_out z7)))
      · replace hS := cond_f hc hS
        refine zlRun (n := 2) (j := 7) rfl (by kernel_rfl) ?_
        refine zlEnd (by kernel_rfl) ?_
        refine zkSeq ?_
        refine zrCondF (by kernel_rfl) ?_
        refine zrSeq ?_
        refine zrReg ?_
        refine zlRun (n := 2) (j := 2) rfl (by kernel_rfl) ?_
        refine bindE hS (fun z8 hz8 hS => ?_)
        refine zlOp (d := some 10) (op := (.app 5 1 1 (.tmp 8) (.tmp 9))) (g := none) (v := (.r (.msl 0 1 0 z8.length))) (ups := [(0, ⟨1, some (.own 5 1 (eU8.cells z8))⟩)]) (j := 3) rfl (by kernel_rfl) (by kernel_rfl) (ev_app eU8 (b := 0) (g := 0) (n := a2.length) (xs := a2) (ys := [239, 191, 189]) ((congrArg (asL _) (by kernel_rfl : ρof _ (.tmp 9) = (.r (.msl 80 1 0 (([239, 191, 189] : List UInt8).length))))).trans (as_whole eU8 (e := 5) (k := 1) (xs := [239, 191, 189]) (by kernel_rfl) rfl rfl)) rfl (by kernel_rfl) rfl (by kernel_rfl) rfl hz8) ?_
        refine zlRun (n := 1) (j := 4) rfl (by kernel_rfl) ?_
        refine zlEnd (by kernel_rfl) ?_
        refine zkSeq ?_
        refine zrRet ?_
        refine zkBlkR ?_
        refine zkNil ?_
        exact endQ hS hQ (fRet ((congrArg (fun s => outR s 1 c24.res) (by kernel_rfl : finSt c24.fin _ = f24_fin z8)).trans (f24_out z8)))
    · replace hS := cond_f hc hS
      refine zlRun (n := 5) (j := 7) rfl (by kernel_rfl) ?_
      refine zlEnd (by kernel_rfl) ?_
      refine zkSeq ?_
      refine zrCondF (by kernel_rfl) ?_
      refine zrSeq ?_
      refine zrReg ?_
      refine zlRun (n := 2) (j := 2) rfl (by kernel_rfl) ?_
      refine bindE hS (fun z9 hz9 hS => ?_)
      refine zlOp (d := some 10) (op := (.app 5 1 1 (.tmp 8) (.tmp 9))) (g := none) (v := (.r (.msl 0 1 0 z9.length))) (ups := [(0, ⟨1, some (.own 5 1 (eU8.cells z9))⟩)]) (j := 3) rfl (by kernel_rfl) (by kernel_rfl) (ev_app eU8 (b := 0) (g := 0) (n := a2.length) (xs := a2) (ys := [239, 191, 189]) ((congrArg (asL _) (by kernel_rfl : ρof _ (.tmp 9) = (.r (.msl 80 1 0 (([239, 191, 189] : List UInt8).length))))).trans (as_whole eU8 (e := 5) (k := 1) (xs := [239, 191, 189]) (by kernel_rfl) rfl rfl)) rfl (by kernel_rfl) rfl (by kernel_rfl) rfl hz9) ?_
      refine zlRun (n := 1) (j := 4) rfl (by kernel_rfl) ?_
      refine zlEnd (by kernel_rfl) ?_
      refine zkSeq ?_
      refine zrRet ?_
      refine zkBlkR ?_
      refine zkNil ?_
      exact endQ hS hQ (fRet ((congrArg (fun s => outR s 1 c24.res) (by kernel_rfl : finSt c24.fin _ = f24_fin z9)).trans (f24_out z9)))
noncomputable def f24 (a1 : Int) (a2 : List UInt8) : Option ((List UInt8)) := (bif (decide ((IntKind.u32.wrap (a1)) ≤ 2047)) then ((app? 1 a2 ([((192 : UInt8) ||| (u8 (Int.fdiv a1 (2 ^ 6)))), ((128 : UInt8) ||| ((u8 a1) &&& (63 : UInt8)))] : List UInt8)).bind fun z5 => (some z5)) else (bif (decide ((IntKind.u32.wrap (a1)) < 55296)) then (f24_j0 a1 a2 true) else (bif (decide (57343 < (IntKind.u32.wrap (a1)))) then (bif (decide ((IntKind.u32.wrap (a1)) ≤ 65535)) then (f24_j0 a1 a2 true) else (f24_j0 a1 a2 false)) else (f24_j0 a1 a2 false))))
theorem f24_ok (d : Nat) (hd : 1 ≤ d) (a1 : Int) (a2 : List UInt8) (r : (List UInt8)) (hS : f24 a1 a2 = some r) : lev codes baseL d 24 [(.r (.msl 0 0 0 a2.length)), (.d (.int .i32 a1))] [(.own 5 1 (eU8.cells a2))] = some ((.r (.msl 0 0 0 r.length)), [(.own 5 1 (eU8.cells r))]) := by
  refine lev_go codes24 rfl rfl (Nat.le_trans (Nat.le_of_ble_eq_true rfl) hd) fun Q hQ => ?_
  unfold f24 at hS
  show ZR _ Q c24_b [] _
  replace hQ : ∀ e st', f24_Q r e st' → Q e st' := hQ
  refine zrSeq ?_
  refine zrReg ?_
  refine zlRun (n := 1) (j := 1) rfl (by kernel_rfl) ?_
  refine zlEnd (by kernel_rfl) ?_
  refine zkSeq ?_
  refine zrSeq ?_
  refine zrReg ?_
  refine zlRun (n := 3) (j := 3) rfl (by kernel_rfl) ?_
  refine zlEnd (by kernel_rfl) ?_
  refine zkSeq ?_
  refine zrBlk ?_
  refine zrSeq ?_
  refine zrReg ?_
  refine zlRun (n := 1) (j := 1) rfl (by kernel_rfl) ?_
  refine zlBool (d := 13) (op := (.cmpI .leq (.tmp 12) (.const (.int .u32 2047)))) (g := none) (j := 2) (decide ((IntKind.u32.wrap (a1)) ≤ 2047)) rfl (by kernel_rfl) (by kernel_rfl) (by kernel_rfl) (fun hc => ?_) (fun hc => ?_)
  · replace hS := cond_t hc hS
    refine zlRun (n := 1) (j := 3) rfl (by kernel_rfl) ?_
    refine zlEnd (by kernel_rfl) ?_
    refine zkSeq ?_
    refine zrCondT (by kernel_rfl) ?_
    refine zrSeq ?_
    refine zrReg ?_
    refine zlRun (n := 3) (j := 3) rfl (by kernel_rfl) ?_
    refine zlOp (d := some 17) (op := (.cvI .u8 (.tmp 16))) (g := none) (v := (.d (.int .u8 ((u8 (Int.fdiv a1 (2 ^ 6))).toNat : Int)))) (ups := []) (j := 4) rfl (by kernel_rfl) (by kernel_rfl) (ev_cv (kk := .i32) (a := (Int.fdiv a1 (2 ^ 6))) (by kernel_rfl) (u8_wrap _)) ?_
    refine zlOp (d := some 18) (op := (.arI .or (.const (.int .u8 192)) (.tmp 17))) (g := none) (v := (.d (.int .u8 (((192 : UInt8) ||| (u8 (Int.fdiv a1 (2 ^ 6)))).toNat : Int)))) (ups := []) (j := 5) rfl (by kernel_rfl) (by kernel_rfl) (ev_arI (kk := .u8) (a := ((192 : UInt8).toNat : Int)) (c := ((u8 (Int.fdiv a1 (2 ^ 6))).toNat : Int)) (by kernel_rfl) (by kernel_rfl) (ar_or8 (192 : UInt8) (u8 (Int.fdiv a1 (2 ^ 6))))) ?_
    refine zlRun (n := 1) (j := 6) rfl (by kernel_rfl) ?_
    refine zlOp (d := some 20) (op := (.cvI .u8 (.tmp 19))) (g := none) (v := (.d (.int .u8 ((u8 a1).toNat : Int)))) (ups := []) (j := 7) rfl (by kernel_rfl) (by kernel_rfl) (ev_cv (kk := .i32) (a := a1) (by kernel_rfl) (u8_wrap _)) ?_
    refine zlOp (d := some 21) (op := (.arI .and (.tmp 20) (.const (.int .u8 63)))) (g := none) (v := (.d (.int .u8 (((u8 a1) &&& (63 : UInt8)).toNat : Int)))) (ups := []) (j := 8) rfl (by kernel_rfl) (by kernel_rfl) (ev_arI (kk := .u8) (a := ((u8 a1).toNat : Int)) (c := ((63 : UInt8).toNat : Int)) (by kernel_rfl) (by kernel_rfl) (ar_and8 (u8 a1) (63 : UInt8))) ?_
    refine zlOp (d := some 22) (op := (.arI .or (.const (.int .u8 128)) (.tmp 21))) (g := none) (v := (.d (.int .u8 (((128 : UInt8) ||| ((u8 a1) &&& (63 : UInt8))).toNat : Int)))) (ups := []) (j := 9) rfl (by kernel_rfl) (by kernel_rfl) (ev_arI (kk := .u8) (a := ((128 : UInt8).toNat : Int)) (c := (((u8 a1) &&& (63 : UInt8)).toNat : Int)) (by kernel_rfl) (by kernel_rfl) (ar_or8 (128 : UInt8) ((u8 a1) &&& (63 : UInt8)))) ?_
    refine zlRun (n := 1) (j := 10) rfl (by kernel_rfl) ?_
    refine bindE hS (fun z5 hz5 hS => ?_)
    refine zlOp (d := some 24) (op := (.app 5 1 1 (.tmp 14) (.tmp 23))) (g := none) (v := (.r (.msl 0 1 0 z5.length))) (ups := [(0, ⟨1, some (.own 5 1 (eU8.cells z5))⟩)]) (j := 11) rfl (by kernel_rfl) (by kernel_rfl) (ev_app eU8 (b := 0) (g := 0) (n := a2.length) (xs := a2) (ys := [((192 : UInt8) ||| (u8 (Int.fdiv a1 (2 ^ 6)))), ((128 : UInt8) ||| ((u8 a1) &&& (63 : UInt8)))]) ((congrArg (asL _) (by kernel_rfl : ρof _ (.tmp 23) = (.r (.msl 192 1 0 (([((192 : UInt8) ||| (u8 (Int.fdiv a1 (2 ^ 6)))), ((128 : UInt8) ||| ((u8 a1) &&& (63 : UInt8)))] : List UInt8).length))))).trans (as_whole eU8 (e := 5) (k := 1) (xs := [((192 : UInt8) ||| (u8 (Int.fdiv a1 (2 ^ 6)))), ((128 : UInt8) ||| ((u8 a1) &&& (63 : UInt8)))]) (by kernel_rfl) rfl rfl)) rfl (by kernel_rfl) rfl (by kernel_rfl) rfl hz5) ?_
    refine zlRun (n := 1) (j := 12) rfl (by kernel_rfl) ?_
    refine zlEnd (by kernel_rfl) ?_
    refine zkSeq ?_
    refine zrRet ?_
    refine zkBlkR ?_
    refine zkNil ?_
    exact endQ hS hQ (fRet ((congrArg (fun s => outR s 1 c24.res) (by kernel_rfl : finSt c24.fin _ = f24_fin z5)).trans (f24_out z5)))
  · replace hS := cond_f hc hS
    refine zlRun (n := 1) (j := 3) rfl (by kernel_rfl) ?_
    refine zlEnd (by kernel_rfl) ?_
    refine zkSeq ?_
    refine zrCondF (by kernel_rfl) ?_
    refine zrSeq ?_
    refine zrSeq ?_
    refine zrReg ?_
    refine zlRun (n := 1) (j := 1) rfl (by kernel_rfl) ?_
    refine zlBool (d := 27) (op := (.cmpI .lss (.tmp 26) (.const (.int .u32 55296)))) (g := none) (j := 2) (decide ((IntKind.u32.wrap (a1)) < 55296)) rfl (by kernel_rfl) (by kernel_rfl) (by kernel_rfl) (fun hc => ?_) (fun hc => ?_)
    · replace hS := cond_t hc hS
      refine zlRun (n := 1) (j := 3) rfl (by kernel_rfl) ?_
      refine zlEnd (by kernel_rfl) ?_
      refine zkSeq ?_
      refine zrCondT (by kernel_rfl) ?_
      refine zrSkip ?_
      refine zkSeq ?_
      exact f24_j0_ok hd a1 a2 hQ true hS (by kernel_rfl)
    · replace hS := cond_f hc hS
      refine zlRun (n := 1) (j := 3) rfl (by kernel_rfl) ?_
      refine zlEnd (by kernel_rfl) ?_
      refine zkSeq ?_
      refine zrCondF (by kernel_rfl) ?_
      refine zrReg ?_
      refine zlRun (n := 1) (j := 1) rfl (by kernel_rfl) ?_
      refine zlBool (d := 29) (op := (.cmpI .lss (.const (.int .u32 57343)) (.tmp 28))) (g := none) (j := 2) (decide (57343 < (IntKind.u32.wrap (a1)))) rfl (by kernel_rfl) (by kernel_rfl) (by kernel_rfl) (fun hc => ?_) (fun hc => ?_)
      · replace hS := cond_t hc hS
        refine zlRun (n := 2) (j := 4) rfl (by kernel_rfl) ?_
        refine zlBool (d := 32) (op := (.cmpI .leq (.tmp 31) (.const (.int .u32 65535)))) (g := (some (30, true))) (j := 5) (decide ((IntKind.u32.wrap (a1)) ≤ 65535)) rfl (by kernel_rfl) (by kernel_rfl) (by kernel_rfl) (fun hc => ?_) (fun hc => ?_)
        · replace hS := cond_t hc hS
          refine zlRun (n := 2) (j := 7) rfl (by kernel_rfl) ?_
          refine zlEnd (by kernel_rfl) ?_
          refine zkSeq ?_
          exact f24_j0_ok hd a1 a2 hQ true hS (by kernel_rfl)
        · replace hS := cond_f hc hS
          refine zlRun (n := 2) (j := 7) rfl (by kernel_rfl) ?_
          refine zlEnd (by kernel_rfl) ?_
          refine zkSeq ?_
          exact f24_j0_ok hd a1 a2 hQ false hS (by kernel_rfl)
      · replace hS := cond_f hc hS
        refine zlRun (n := 5) (j := 7) rfl (by kernel_rfl) ?_
        refine zlEnd (by kernel_rfl) ?_
        refine zkSeq ?_
        exact f24_j0_ok hd a1 a2 hQ false hS (by kernel_rfl)
/- unicode/utf8.AppendRune -/
def f20_fin (p2 : List UInt8) : St := ⟨(up (fun _ => .un) 4 (.r (.msl 0 0 0 p2.length))), (up (hB fun _ => 0) 0 ⟨0, some (.own 5 1 (eU8.cells p2))⟩)⟩
theorem f20_out (p2 : List UInt8) : outR (f20_fin p2) 1 c20.res = some ((.r (.msl 0 0 0 p2.length)), [(.own 5 1 (eU8.cells p2))]) := by
  kernel_rfl
def f20_Q (r : (List UInt8)) (e : PX) (st : St) : Prop := DoneF c20 1 ((.r (.msl 0 0 0 r.length)), [(.own 5 1 (eU8.cells r))]) e st
noncomputable def f20 (a1 : Int) (a2 : List UInt8) : Option ((List UInt8)) := (bif (decide ((IntKind.u32.wrap (a1)) ≤ 127)) then ((app? 1 a2 ([(u8 a1)] : List UInt8)).bind fun z3 => (some z3)) else ((f24 a1 a2).bind fun z4 => (some z4)))
theorem f20_ok (d : Nat) (hd : 2 ≤ d) (a1 : Int) (a2 : List UInt8) (r : (List UInt8)) (hS : f20 a1 a2 = some r) : lev codes baseL d 20 [(.r (.msl 0 0 0 a2.length)), (.d (.int .i32 a1))] [(.own 5 1 (eU8.cells a2))] = some ((.r (.msl 0 0 0 r.length)), [(.own 5 1 (eU8.cells r))]) := by
  refine lev_go codes20 rfl rfl (Nat.le_trans (Nat.le_of_ble_eq_true rfl) hd) fun Q hQ => ?_
  unfold f20 at hS
  show ZR _ Q c20_b [] _
  replace hQ : ∀ e st', f20_Q r e st' → Q e st' := hQ
  refine zrSeq ?_
  refine zrReg ?_
  refine zlRun (n := 1) (j := 1) rfl (by kernel_rfl) ?_
  refine zlEnd (by kernel_rfl) ?_
  refine zkSeq ?_
  refine zrSeq ?_
  refine zrSeq ?_
  refine zrReg ?_
  refine zlRun (n := 2) (j := 2) rfl (by kernel_rfl) ?_
  refine zlBool (d := 7) (op := (.cmpI .leq (.tmp 6) (.const (.int .u32 127)))) (g := none) (j := 3) (decide ((IntKind.u32.wrap (a1)) ≤ 127)) rfl (by kernel_rfl) (by kernel_rfl) (by kernel_rfl) (fun hc => ?_) (fun hc => ?_)
  · replace hS := cond_t hc hS
    refine zlEnd (by kernel_rfl) ?_
    refine zkSeq ?_
    refine zrCondT (by kernel_rfl) ?_
    refine zrSeq ?_
    refine zrReg ?_
    refine zlRun (n := 2) (j := 2) rfl (by kernel_rfl) ?_
    refine zlOp (d := some 10) (op := (.cvI .u8 (.tmp 9))) (g := none) (v := (.d (.int .u8 ((u8 a1).toNat : Int)))) (ups := []) (j := 3) rfl (by kernel_rfl) (by kernel_rfl) (ev_cv (kk := .i32) (a := a1) (by kernel_rfl) (u8_wrap _)) ?_
    refine zlRun (n := 1) (j := 4) rfl (by kernel_rfl) ?_
    refine bindE hS (fun z3 hz3 hS => ?_)
    refine zlOp (d := some 12) (op := (.app 5 1 1 (.tmp 8) (.tmp 11))) (g := none) (v := (.r (.msl 0 1 0 z3.length))) (ups := [(0, ⟨1, some (.own 5 1 (eU8.cells z3))⟩)]) (j := 5) rfl (by kernel_rfl) (by kernel_rfl) (ev_app eU8 (b := 0) (g := 0) (n := a2.length) (xs := a2) (ys := [(u8 a1)]) ((congrArg (asL _) (by kernel_rfl : ρof _ (.tmp 11) = (.r (.msl 96 1 0 (([(u8 a1)] : List UInt8).length))))).trans (as_whole eU8 (e := 5) (k := 1) (xs := [(u8 a1)]) (by kernel_rfl) rfl rfl)) rfl (by kernel_rfl) rfl (by kernel_rfl) rfl hz3) ?_
    refine zlRun (n := 1) (j := 6) rfl (by kernel_rfl) ?_
    refine zlEnd (by kernel_rfl) ?_
    refine zkSeq ?_
    refine zrRet ?_
    refine zkSeqR ?_
    refine zkNil ?_
    exact endQ hS hQ (fRet ((congrArg (fun s => outR s 1 c20.res) (by kernel_rfl : finSt c20.fin _ = f20_fin z3)).trans (f20_out z3)))
  · replace hS := cond_f hc hS
    refine zlEnd (by kernel_rfl) ?_
    refine zkSeq ?_
    refine zrCondF (by kernel_rfl) ?_
    refine zrSkip ?_
    refine zkSeq ?_
    refine zrSeq ?_
    refine zrReg ?_
    refine zlRun (n := 2) (j := 2) rfl (by kernel_rfl) ?_
    refine bindE hS (fun z4 hz4 hS => ?_)
    refine zlOp (d := some 15) (op := (.callr 24 [(.tmp 13), (.tmp 14)])) (g := none) (v := (.r (.msl 0 1 0 z4.length))) (ups := [(0, ⟨1, some (.own 5 1 (eU8.cells z4))⟩)]) (j := 3) rfl (by kernel_rfl) (by kernel_rfl) (ev_callr (args := [(.r (.msl 0 0 0 a2.length)), (.d (.int .i32 a1))]) (ids := [0]) (bs := [(.own 5 1 (eU8.cells a2))]) (l := [(.r (.msl 0 0 0 a2.length)), (.d (.int .i32 a1))]) (bt := [(.own 5 1 (eU8.cells a2))]) (r := (.r (.msl 0 0 0 z4.length))) (bs' := [(.own 5 1 (eU8.cells z4))]) (by kernel_rfl) (by kernel_rfl) (by kernel_rfl) (by kernel_rfl) (by kernel_rfl) (f24_ok (d - 1) (dpt hd rfl) a1 a2 z4 hz4) (by kernel_rfl) (by kernel_rfl)) ?_
    refine zlRun (n := 1) (j := 4) rfl (by kernel_rfl) ?_
    refine zlEnd (by kernel_rfl) ?_
    refine zkSeq ?_
    refine zrRet ?_
    refine zkNil ?_
    exact endQ hS hQ (fRet ((congrArg (fun s => outR s 1 c20.res) (by kernel_rfl : finSt c20.fin _ = f20_fin z4)).trans (f20_out z4)))
/- farwriter/utf.Encode -/
def f14_fin (p277 : List UInt8) : St := ⟨(up (fun _ => .un) 2 (.d (.str p277))), (hB fun _ => 0)⟩
theorem f14_out (p277 : List UInt8) : outR (f14_fin p277) 0 c14.res = some ((.d (.str p277)), []) := by
  kernel_rfl
def f14_Q (r : (List UInt8)) (e : PX) (st : St) : Prop := DoneF c14 0 ((.d (.str r)), []) e st
def f14_l0_J (a1 : List Int) (x : (List UInt8) × Int) : St := ⟨(up (up (up (up (fun _ => .un) 8 (.d (.int .i64 x.2))) 7 (.d (.int .i64 (a1.length : Int)))) 6 (.d (.sl a1.length ((eInt .i64).cells a1)))) 3 (.r (.msl 32 0 0 x.1.length))), (up (hB fun _ => 0) 32 ⟨0, some (.own 5 1 (eU8.cells x.1))⟩)⟩
def f14_l0_H (a1 : List Int) (x : (List UInt8) × Int) (st : St) : Prop := keepSt [3, 6, 7, 8] [(32, .id 32)] [] st = f14_l0_J a1 x
def f14_l0_e0_J (a1 : List Int) (p276 : List UInt8) : St := ⟨(up (fun _ => .un) 3 (.r (.msl 32 0 0 p276.length))), (up (hB fun _ => 0) 32 ⟨0, some (.own 5 1 (eU8.cells p276))⟩)⟩
def f14_l0_X (a1 : List Int) (z : ((List UInt8))) (e : PX) (st : St) : Prop := e = .exit 0 ∧ st = f14_l0_e0_J a1 z
def f14_l0_j2_J (a1 : List Int) (p284 : List UInt8) (p285 : Int) : St := ⟨(up (up (up (up (fun _ => .un) 8 (.d (.int .i64 p285))) 7 (.d (.int .i64 (a1.length : Int)))) 6 (.d (.sl a1.length ((eInt .i64).cells a1)))) 3 (.r (.msl 32 0 0 p284.length))), (up (hB fun _ => 0) 32 ⟨0, some (.own 5 1 (eU8.cells p284))⟩)⟩
noncomputable def f14_l0_j2 (a1 : List Int) (p284 : List UInt8) (p285 : Int) : Option (((List UInt8) × Int) ⊕ (((List UInt8)))) := ((idx a1 p285).bind fun z16 => (bif (decide (z16 < 0)) then ((f20 65533 p284).bind fun z17 => (some (.inl (z17, (IntKind.i64.wrap (p285 + 1)))))) else (bif (decide (1114111 < z16)) then ((f20 65533 p284).bind fun z18 => (some (.inl (z18, (IntKind.i64.wrap (p285 + 1)))))) else (bif (decide (55296 ≤ z16)) then (bif (decide (z16 ≤ 57343)) then ((f20 65533 p284).bind fun z19 => (some (.inl (z19, (IntKind.i64.wrap (p285 + 1)))))) else ((f20 (IntKind.i32.wrap (z16)) p284).bind fun z20 => (some (.inl (z20, (IntKind.i64.wrap (p285 + 1))))))) else ((f20 (IntKind.i32.wrap (z16)) p284).bind fun z21 => (some (.inl (z21, (IntKind.i64.wrap (p285 + 1))))))))))
theorem f14_l0_j2_ok {d : Nat} (hd : 3 ≤ d) (a1 : List Int) {r : ((List UInt8) × Int) ⊕ (((List UInt8)))} {Q : PX → St → Prop} (hQ : ∀ e st', finL (f14_l0_H a1) (f14_l0_X a1) r e st' → Q e st') (p284 : List UInt8) (p285 : Int) (hS : f14_l0_j2 a1 p284 p285 = some r) {st : St} (he : keepSt [3, 6, 7, 8] [(32, .id 32)] [] st = f14_l0_j2_J a1 p284 p285) : ZR (lev codes baseL (d - 1)) Q c14_1 [] st := by
  refine zrKeep he ?_
  unfold f14_l0_j2 at hS
  refine zrSeq ?_
  refine zrBlk ?_
  refine zrSeq ?_
  refine zrReg ?_
  refine bindE hS (fun z16 hz16 hS => ?_)
  refine zlOp (d := some 10) (op := (.ixS 3 1 (.tmp 6) (.tmp 8))) (g := none) (v := (.rptr ((eInt .i64).enc z16 ++ ((eInt .i64).cells (a1.drop ((p285 : Int).toNat + 1)))))) (ups := []) (j := 1) rfl (by kernel_rfl) (by kernel_rfl) (ev_ixS (eInt .i64) (kk := .i64) (xs := a1) (j := p285) (by kernel_rfl) (by kernel_rfl) hz16 rfl (by intro h; cases h)) ?_
  refine zlRun (n := 2) (j := 3) rfl (by kernel_rfl) ?_
  refine zlEnd (by kernel_rfl) ?_
  refine zkSeq ?_
  refine zrSeq ?_
  refine zrSeq ?_
  refine zrReg ?_
  refine zlRun (n := 1) (j := 1) rfl (by kernel_rfl) ?_
  refine zlBool (d := 13) (op := (.cmpI .lss (.tmp 12) (.const (.int .i64 0)))) (g := none) (j := 2) (decide (z16 < 0)) rfl (by kernel_rfl) (by kernel_rfl) (by kernel_rfl) (fun hc => ?_) (fun hc => ?_)
  · replace hS := cond_t hc hS
    refine zlRun (n := 12) (j := 14) rfl (by kernel_rfl) ?_
    refine zlEnd (by kernel_rfl) ?_
    refine zkSeq ?_
    refine zrCondT (by kernel_rfl) ?_
    refine zrReg ?_
    refine zlRun (n := 1) (j := 1) rfl (by kernel_rfl) ?_
    refine zlEnd (by kernel_rfl) ?_
    refine zkSeq ?_
    refine zrReg ?_
    refine zlRun (n := 3) (j := 3) rfl (by kernel_rfl) ?_
    refine bindE hS (fun z17 hz17 hS => ?_)
    refine zlOp (d := some 29) (op := (.callr 20 [(.tmp 26), (.tmp 28)])) (g := none) (v := (.r (.msl 32 1 0 z17.length))) (ups := [(32, ⟨1, some (.own 5 1 (eU8.cells z17))⟩)]) (j := 4) rfl (by kernel_rfl) (by kernel_rfl) (ev_callr (args := [(.r (.msl 32 0 0 p284.length)), (.d (.int .i32 65533))]) (ids := [32]) (bs := [(.own 5 1 (eU8.cells p284))]) (l := [(.r (.msl 0 0 0 p284.length)), (.d (.int .i32 65533))]) (bt := [(.own 5 1 (eU8.cells p284))]) (r := (.r (.msl 0 0 0 z17.length))) (bs' := [(.own 5 1 (eU8.cells z17))]) (by kernel_rfl) (by kernel_rfl) (by kernel_rfl) (by kernel_rfl) (by kernel_rfl) (f20_ok (d - 1) (dpt hd rfl) 65533 p284 z17 hz17) (by kernel_rfl) (by kernel_rfl)) ?_
    refine zlRun (n := 1) (j := 5) rfl (by kernel_rfl) ?_
    refine zlEnd (by kernel_rfl) ?_
    refine zkBlk ?_
    refine zkSeq ?_
    refine zrReg ?_
    refine zlRun (n := 2) (j := 2) rfl (by kernel_rfl) ?_
    refine zlEnd (by kernel_rfl) ?_
    refine zkNil ?_
    exact endQ hS hQ (finL_n (by show keepSt _ _ _ _ = _; kernel_rfl))
  · replace hS := cond_f hc hS
    refine zlRun (n := 2) (j := 4) rfl (by kernel_rfl) ?_
    refine zlBool (d := 16) (op := (.cmpI .gtr (.tmp 15) (.const (.int .i64 1114111)))) (g := (some (14, false))) (j := 5) (decide (1114111 < z16)) rfl (by kernel_rfl) (by kernel_rfl) (by kernel_rfl) (fun hc => ?_) (fun hc => ?_)
    · replace hS := cond_t hc hS
      refine zlRun (n := 9) (j := 14) rfl (by kernel_rfl) ?_
      refine zlEnd (by kernel_rfl) ?_
      refine zkSeq ?_
      refine zrCondT (by kernel_rfl) ?_
      refine zrReg ?_
      refine zlRun (n := 1) (j := 1) rfl (by kernel_rfl) ?_
      refine zlEnd (by kernel_rfl) ?_
      refine zkSeq ?_
      refine zrReg ?_
      refine zlRun (n := 3) (j := 3) rfl (by kernel_rfl) ?_
      refine bindE hS (fun z18 hz18 hS => ?_)
      refine zlOp (d := some 29) (op := (.callr 20 [(.tmp 26), (.tmp 28)])) (g := none) (v := (.r (.msl 32 1 0 z18.length))) (ups := [(32, ⟨1, some (.own 5 1 (eU8.cells z18))⟩)]) (j := 4) rfl (by kernel_rfl) (by kernel_rfl) (ev_callr (args := [(.r (.msl 32 0 0 p284.length)), (.d (.int .i32 65533))]) (ids := [32]) (bs := [(.own 5 1 (eU8.cells p284))]) (l := [(.r (.msl 0 0 0 p284.length)), (.d (.int .i32 65533))]) (bt := [(.own 5 1 (eU8.cells p284))]) (r := (.r (.msl 0 0 0 z18.length))) (bs' := [(.own 5 1 (eU8.cells z18))]) (by kernel_rfl) (by kernel_rfl) (by kernel_rfl) (by kernel_rfl) (by kernel_rfl) (f20_ok (d - 1) (dpt hd rfl) 65533 p284 z18 hz18) (by kernel_rfl) (by kernel_rfl)) ?_
      refine zlRun (n := 1) (j := 5) rfl (by kernel_rfl) ?_
      refine zlEnd (by kernel_rfl) ?_
      refine zkBlk ?_
      refine zkSeq ?_
      refine zrReg ?_
      refine zlRun (n := 2) (j := 2) rfl (by kernel_rfl) ?_
      refine zlEnd (by kernel_rfl) ?_
      refine zkNil ?_
      exact endQ hS hQ (finL_n (by show keepSt _ _ _ _ = _; kernel_rfl))
    · replace hS := cond_f hc hS
      refine zlRun (n := 3) (j := 8) rfl (by kernel_rfl) ?_
      refine zlBool (d := 20) (op := (.cmpI .geq (.tmp 19) (.const (.int .i64 55296)))) (g := (some (18, false))) (j := 9) (decide (55296 ≤ z16)) rfl (by kernel_rfl) (by kernel_rfl) (by kernel_rfl) (fun hc => ?_) (fun hc => ?_)
      · replace hS := cond_t hc hS
        refine zlRun (n := 2) (j := 11) rfl (by kernel_rfl) ?_
        refine zlBool (d := 23) (op := (.cmpI .leq (.tmp 22) (.const (.int .i64 57343)))) (g := (some (21, true))) (j := 12) (decide (z16 ≤ 57343)) rfl (by kernel_rfl) (by kernel_rfl) (by kernel_rfl) (fun hc => ?_) (fun hc => ?_)
        · replace hS := cond_t hc hS
          refine zlRun (n := 2) (j := 14) rfl (by kernel_rfl) ?_
          refine zlEnd (by kernel_rfl) ?_
          refine zkSeq ?_
          refine zrCondT (by kernel_rfl) ?_
          refine zrReg ?_
          refine zlRun (n := 1) (j := 1) rfl (by kernel_rfl) ?_
          refine zlEnd (by kernel_rfl) ?_
          refine zkSeq ?_
          refine zrReg ?_
          refine zlRun (n := 3) (j := 3) rfl (by kernel_rfl) ?_
          refine bindE hS (fun z19 hz19 hS => ?_)
          refine zlOp (d := some 29) (op := (.callr 20 [(.tmp 26), (.tmp 28)])) (g := none) (v := (.r (.msl 32 1 0 z19.length))) (ups := [(32, ⟨1, some (.own 5 1 (eU8.cells z19))⟩)]) (j := 4) rfl (by kernel_rfl) (by kernel_rfl) (ev_callr (args := [(.r (.msl 32 0 0 p284.length)), (.d (.int .i32 65533))]) (ids := [32]) (bs := [(.own 5 1 (eU8.cells p284))]) (l := [(.r (.msl 0 0 0 p284.length)), (.d (.int .i32 65533))]) (bt := [(.own 5 1 (eU8.cells p284))]) (r := (.r (.msl 0 0 0 z19.length))) (bs' := [(.own 5 1 (eU8.cells z19))]) (by kernel_rfl) (by kernel_rfl) (by kernel_rfl) (by kernel_rfl) (by kernel_rfl) (f20_ok (d - 1) (dpt hd rfl) 65533 p284 z19 hz19) (by kernel_rfl) (by kernel_rfl)) ?_
          refine zlRun (n := 1) (j := 5) rfl (by kernel_rfl) ?_
          refine zlEnd (by kernel_rfl) ?_
          refine zkBlk ?_
          refine zkSeq ?_
          refine zrReg ?_
          refine zlRun (n := 2) (j := 2) rfl (by kernel_rfl) ?_
          refine zlEnd (by kernel_rfl) ?_
          refine zkNil ?_
          exact endQ hS hQ (finL_n (by show keepSt _ _ _ _ = _; kernel_rfl))
        · replace hS := cond_f hc hS
          refine zlRun (n := 2) (j := 14) rfl (by kernel_rfl) ?_
          refine zlEnd (by kernel_rfl) ?_
          refine zkSeq ?_
          refine zrCondF (by kernel_rfl) ?_
          refine zrSkip ?_
          refine zkSeq ?_
          refine zrReg ?_
          refine zlRun (n := 3) (j := 3) rfl (by kernel_rfl) ?_
          refine bindE hS (fun z20 hz20 hS => ?_)
          refine zlOp (d := some 29) (op := (.callr 20 [(.tmp 26), (.tmp 28)])) (g := none) (v := (.r (.msl 32 1 0 z20.length))) (ups := [(32, ⟨1, some (.own 5 1 (eU8.cells z20))⟩)]) (j := 4) rfl (by kernel_rfl) (by kernel_rfl) (ev_callr (args := [(.r (.msl 32 0 0 p284.length)), (.d (.int .i32 (IntKind.i32.wrap (z16))))]) (ids := [32]) (bs := [(.own 5 1 (eU8.cells p284))]) (l := [(.r (.msl 0 0 0 p284.length)), (.d (.int .i32 (IntKind.i32.wrap (z16))))]) (bt := [(.own 5 1 (eU8.cells p284))]) (r := (.r (.msl 0 0 0 z20.length))) (bs' := [(.own 5 1 (eU8.cells z20))]) (by kernel_rfl) (by kernel_rfl) (by kernel_rfl) (by kernel_rfl) (by kernel_rfl) (f20_ok (d - 1) (dpt hd rfl) (IntKind.i32.wrap (z16)) p284 z20 hz20) (by kernel_rfl) (by kernel_rfl)) ?_
          refine zlRun (n := 1) (j := 5) rfl (by kernel_rfl) ?_
          refine zlEnd (by kernel_rfl) ?_
          refine zkBlk ?_
          refine zkSeq ?_
          refine zrReg ?_
          refine zlRun (n := 2) (j := 2) rfl (by kernel_rfl) ?_
          refine zlEnd (by kernel_rfl) ?_
          refine zkNil ?_
          exact endQ hS hQ (finL_n (by show keepSt _ _ _ _ = _; kernel_rfl))
      · replace hS := cond_f hc hS
        refine zlRun (n := 5) (j := 14) rfl (by kernel_rfl) ?_
        refine zlEnd (by kernel_rfl) ?_
        refine zkSeq ?_
        refine zrCondF (by kernel_rfl) ?_
        refine zrSkip ?_
        refine zkSeq ?_
        refine zrReg ?_
        refine zlRun (n := 3) (j := 3) rfl (by kernel_rfl) ?_
        refine bindE hS (fun z21 hz21 hS => ?_)
        refine zlOp (d := some 29) (op := (.callr 20 [(.tmp 26), (.tmp 28)])) (g := none) (v := (.r (.msl 32 1 0 z21.length))) (ups := [(32, ⟨1, some (.own 5 1 (eU8.cells z21))⟩)]) (j := 4) rfl (by kernel_rfl) (by kernel_rfl) (ev_callr (args := [(.r (.msl 32 0 0 p284.length)), (.d (.int .i32 (IntKind.i32.wrap (z16))))]) (ids := [32]) (bs := [(.own 5 1 (eU8.cells p284))]) (l := [(.r (.msl 0 0 0 p284.length)), (.d (.int .i32 (IntKind.i32.wrap (z16))))]) (bt := [(.own 5 1 (eU8.cells p284))]) (r := (.r (.msl 0 0 0 z21.length))) (bs' := [(.own 5 1 (eU8.cells z21))]) (by kernel_rfl) (by kernel_rfl) (by kernel_rfl) (by kernel_rfl) (by kernel_rfl) (f20_ok (d - 1) (dpt hd rfl) (IntKind.i32.wrap (z16)) p284 z21 hz21) (by kernel_rfl) (by kernel_rfl)) ?_
        refine zlRun (n := 1) (j := 5) rfl (by kernel_rfl) ?_
        refine zlEnd (by kernel_rfl) ?_
        refine zkBlk ?_
        refine zkSeq ?_
        refine zrReg ?_
        refine zlRun (n := 2) (j := 2) rfl (by kernel_rfl) ?_
        refine zlEnd (by kernel_rfl) ?_
        refine zkNil ?_
        exact endQ hS hQ (finL_n (by show keepSt _ _ _ _ = _; kernel_rfl))
def f14_l0_j1_J (a1 : List Int) (p281 : List UInt8) (p282 : Int) (p283 : Bool) : St := ⟨(up (up (up (up (up (fun _ => .un) 9 (.d (.bool p283))) 8 (.d (.int .i64 p282))) 7 (.d (.int .i64 (a1.length : Int)))) 6 (.d (.sl a1.length ((eInt .i64).cells a1)))) 3 (.r (.msl 32 0 0 p281.length))), (up (hB fun _ => 0) 32 ⟨0, some (.own 5 1 (eU8.cells p281))⟩)⟩
noncomputable def f14_l0_j1 (a1 : List Int) (p281 : List UInt8) (p282 : Int) (p283 : Bool) : Option (((List UInt8) × Int) ⊕ (((List UInt8)))) := (bif p283 then (f14_l0_j2 a1 p281 p282) else (some (.inr p281)))
theorem f14_l0_j1_ok {d : Nat} (hd : 3 ≤ d) (a1 : List Int) {r : ((List UInt8) × Int) ⊕ (((List UInt8)))} {Q : PX → St → Prop} (hQ : ∀ e st', finL (f14_l0_H a1) (f14_l0_X a1) r e st' → Q e st') (p281 : List UInt8) (p282 : Int) (p283 : Bool) (hS : f14_l0_j1 a1 p281 p282 p283 = some r) {st : St} (he : keepSt [3, 6, 7, 8, 9] [(32, .id 32)] [] st = f14_l0_j1_J a1 p281 p282 p283) : ZR (lev codes baseL (d - 1)) Q c14_2 [] st := by
  refine zrKeep he ?_
  unfold f14_l0_j1 at hS
  refine zrSeq ?_
  refine zrSplit 9 p283 (by kernel_rfl) (fun hc => ?_) (fun hc => ?_)
  · replace hS := cond_t hc hS
    refine zrCondT (by kernel_rfl) ?_
    refine zrSkip ?_
    refine zkSeq ?_
    exact f14_l0_j2_ok hd a1 hQ p281 p282 hS (by kernel_rfl)
  · replace hS := cond_f hc hS
    refine zrCondF (by kernel_rfl) ?_
    refine zrKeep (J := f14_l0_e0_J a1 p281) (by kernel_rfl) ?_
    refine zrExit ?_
    refine zkSeqX ?_
    refine zkNil ?_
    exact endQ hS hQ (finL_x (by intro h; cases h) (by show _ = _ ∧ _ = _; exact ⟨rfl, rfl⟩))
noncomputable def f14_l0 (a1 : List Int) (x : (List UInt8) × Int) : Option (((List UInt8) × Int) ⊕ (((List UInt8)))) := (bif (decide (x.2 < (a1.length : Int))) then (f14_l0_j1 a1 x.1 x.2 true) else (f14_l0_j1 a1 x.1 x.2 false))
theorem f14_l0_ok {d : Nat} (hd : 3 ≤ d) (a1 : List Int) {r : ((List UInt8) × Int) ⊕ (((List UInt8)))} {Q : PX → St → Prop} (hQ : ∀ e st', finL (f14_l0_H a1) (f14_l0_X a1) r e st' → Q e st') {x : (List UInt8) × Int} (hS : f14_l0 a1 x = some r) {st : St} (he : f14_l0_H a1 x st) : ZR (lev codes baseL (d - 1)) Q c14_3 [] st := by
  refine zrKeep he ?_
  unfold f14_l0 at hS
  refine zrSeq ?_
  refine zrReg ?_
  refine zlBool (d := 9) (op := (.cmpI .lss (.tmp 8) (.tmp 7))) (g := none) (j := 1) (decide (x.2 < (a1.length : Int))) rfl (by kernel_rfl) (by kernel_rfl) (by kernel_rfl) (fun hc => ?_) (fun hc => ?_)
  · replace hS := cond_t hc hS
    refine zlEnd (by kernel_rfl) ?_
    refine zkSeq ?_
    exact f14_l0_j1_ok hd a1 hQ x.1 x.2 true hS (by kernel_rfl)
  · replace hS := cond_f hc hS
    refine zlEnd (by kernel_rfl) ?_
    refine zkSeq ?_
    exact f14_l0_j1_ok hd a1 hQ x.1 x.2 false hS (by kernel_rfl)
noncomputable def f14 (a1 : List Int) : Option ((List UInt8)) := ((loopO (f14_l0 a1) ([], 0)).bind fun z22 => (some z22))
theorem f14_ok (d : Nat) (hd : 3 ≤ d) (a1 : List Int) (r : (List UInt8)) (hS : f14 a1 = some r) : lev codes baseL d 14 [(.d (.sl a1.length ((eInt .i64).cells a1)))] [] = some ((.d (.str r)), []) := by
  refine lev_go codes14 rfl rfl (Nat.le_trans (Nat.le_of_ble_eq_true rfl) hd) fun Q hQ => ?_
  unfold f14 at hS
  show ZR _ Q c14_b [] _
  replace hQ : ∀ e st', f14_Q r e st' → Q e st' := hQ
  refine zrSeq ?_
  refine zrReg ?_
  refine zlRun (n := 1) (j := 1) rfl (by kernel_rfl) ?_
  refine zlEnd (by kernel_rfl) ?_
  refine zkSeq ?_
  refine zrSeq ?_
  refine zrReg ?_
  refine zlRun (n := 1) (j := 1) rfl (by kernel_rfl) ?_
  refine zlEnd (by kernel_rfl) ?_
  refine zkSeq ?_
  refine zrSeq ?_
  refine zrSeq ?_
  refine zrReg ?_
  refine zlRun (n := 3) (j := 3) rfl (by kernel_rfl) ?_
  refine zlEnd (by kernel_rfl) ?_
  refine zkSeq ?_
  refine zrBlk ?_
  refine bindE hS (fun z22 hz22 hS => ?_)
  refine zrLoop (f14_l0_H a1) (f14_l0_X a1) (fun x st r Q h0 hS hQ => f14_l0_ok hd a1 hQ hS h0) (x := ([], 0)) (z := z22) (by show keepSt _ _ _ _ = _; kernel_rfl) hz22 ?_
  intro e st' _ hX
  obtain ⟨rfl, rfl⟩ : _ ∧ _ := hX
  refine zkBlkX ?_
  refine zkSeq ?_
  refine zrSeq ?_
  refine zrReg ?_
  refine zlRun (n := 1) (j := 1) rfl (by kernel_rfl) ?_
  refine zlOp (d := some 32) (op := (.cvBS (.tmp 31))) (g := none) (v := (.d (.str z22))) (ups := []) (j := 2) rfl (by kernel_rfl) (by kernel_rfl) (ev_cvBS (s := z22) ((congrArg (asL _) (by kernel_rfl : ρof _ (.tmp 31) = (.r (.msl 32 0 0 z22.length)))).trans (as_whole eU8 (e := 5) (k := 1) (xs := z22) (by kernel_rfl) rfl rfl)) rfl) ?_
  refine zlRun (n := 1) (j := 3) rfl (by kernel_rfl) ?_
  refine zlEnd (by kernel_rfl) ?_
  refine zkSeq ?_
  refine zrRet ?_
  refine zkNil ?_
  exact endQ hS hQ (fRet ((congrArg (fun s => outR s 0 c14.res) (by kernel_rfl : finSt c14.fin _ = f14_fin z22)).trans (f14_out z22)))
/- farwriter/farkeep.utfLives -/
def f8_fin (p5 : Bool) : St := ⟨(up (fun _ => .un) 0 (.d (.bool p5))), (hB fun _ => 0)⟩
theorem f8_out (p5 : Bool) : outR (f8_fin p5) 0 c8.res = some ((.d (.bool p5)), []) := by
  kernel_rfl
def f8_Q (r : Bool) (e : PX) (st : St) : Prop := DoneF c8 0 ((.d (.bool r)), []) e st
noncomputable def f8  : Option (Bool) := ((f7 [226] [130, 172, 226, 97, 240, 159]).bind fun z4 => (bif (decide (z4.2.2 = 0)) then (bif (decide (z4.1 = ([240, 159] : List UInt8))) then ((f12 z4.2.1 [8364, 65533, 97]).bind fun z5 => (bif z5 then ((f14 [8364]).bind fun z6 => (bif (decide (z6 = ([226, 130, 172] : List UInt8))) then (some true) else (some false))) else (some false))) else (some false)) else (some false)))
theorem f8_ok (d : Nat) (hd : 5 ≤ d)  (r : Bool) (hS : f8 = some r) : lev codes baseL d 8 [] [] = some ((.d (.bool r)), []) := by
  refine lev_go codes8 rfl rfl (Nat.le_trans (Nat.le_of_ble_eq_true rfl) hd) fun Q hQ => ?_
  unfold f8 at hS
  show ZR _ Q c8_b [] _
  replace hQ : ∀ e st', f8_Q r e st' → Q e st' := hQ
  refine zrSeq ?_
  refine zrReg ?_
  refine zlRun (n := 1) (j := 1) rfl (by kernel_rfl) ?_
  refine zlEnd (by kernel_rfl) ?_
  refine zkSeq ?_
  refine zrSeq ?_
  refine zrReg ?_
  refine bindE hS (fun z4 hz4 hS => ?_)
  refine zlOp (d := some 5) (op := (.call 7 [(.const (.string ⟨#[226]⟩)), (.const (.string ⟨#[130, 172, 226, 97, 240, 159]⟩))])) (g := none) (v := (.tup [(.d (.str z4.1)), (.r (.msl 48 1 0 z4.2.1.length)), (.d (.int .i64 z4.2.2))])) (ups := [(48, ⟨1, some (.own 3 1 ((eInt .i64).cells z4.2.1))⟩)]) (j := 1) rfl (by kernel_rfl) (by kernel_rfl) (ev_call (args := [(.d (.str ([226]))), (.d (.str ([130, 172, 226, 97, 240, 159])))]) (l := [(.d (.str ([226]))), (.d (.str ([130, 172, 226, 97, 240, 159])))]) (r := (.tup [(.d (.str z4.1)), (.r (.own 0 3 1 z4.2.1.length ((eInt .i64).cells z4.2.1))), (.d (.int .i64 z4.2.2))])) (by kernel_rfl) (by kernel_rfl) (f7_ok (d - 1) (dpt hd rfl) [226] [130, 172, 226, 97, 240, 159] z4 hz4) (by kernel_rfl) (by kernel_rfl) (by kernel_rfl)) ?_
  refine zlRun (n := 7) (j := 8) rfl (by kernel_rfl) ?_
  refine zlEnd (by kernel_rfl) ?_
  refine zkSeq ?_
  refine zrSeq ?_
  refine zrReg ?_
  refine zlRun (n := 1) (j := 1) rfl (by kernel_rfl) ?_
  refine zlBool (d := 10) (op := (.cmpI .eql (.tmp 9) (.const (.int .i64 0)))) (g := none) (j := 2) (decide (z4.2.2 = 0)) rfl (by kernel_rfl) (by kernel_rfl) (by kernel_rfl) (fun hc => ?_) (fun hc => ?_)
  · replace hS := cond_t hc hS
    refine zlRun (n := 2) (j := 4) rfl (by kernel_rfl) ?_
    refine zlBool (d := 13) (op := (.strO .eql (.tmp 12) (.const (.string ⟨#[240, 159]⟩)))) (g := (some (11, true))) (j := 5) (decide (z4.1 = ([240, 159] : List UInt8))) rfl (by kernel_rfl) (by kernel_rfl) (by kernel_rfl) (fun hc => ?_) (fun hc => ?_)
    · replace hS := cond_t hc hS
      refine zlRun (n := 4) (j := 9) rfl (by kernel_rfl) ?_
      refine bindE hS (fun z5 hz5 hS => ?_)
      refine zlOp (d := some 18) (op := (.call 12 [(.tmp 16), (.tmp 17)])) (g := (some (15, true))) (v := (.d (.bool z5))) (ups := []) (j := 10) rfl (by kernel_rfl) (by kernel_rfl) (ev_call (args := [(.r (.msl 48 1 0 z4.2.1.length)), (.r (.msl 144 1 0 (([8364, 65533, 97] : List Int).length)))]) (l := [(.d (.sl z4.2.1.length ((eInt .i64).cells z4.2.1))), (.d (.sl ([8364, 65533, 97] : List Int).length ((eInt .i64).cells ([8364, 65533, 97]))))]) (r := (.d (.bool z5))) (by kernel_rfl) (l_cons (l_own (eInt .i64) (e := 3) (k := 1) (xs := z4.2.1) (by kernel_rfl) rfl rfl) (l_cons (l_own (eInt .i64) (e := 3) (k := 1) (xs := [8364, 65533, 97]) (by kernel_rfl) rfl rfl) l_nil)) (f12_ok (d - 1) (dpt hd rfl) z4.2.1 [8364, 65533, 97] z5 hz5) (by kernel_rfl) (by kernel_rfl) (by kernel_rfl)) ?_
      refine zlRun (n := 2) (j := 12) rfl (by kernel_rfl) ?_
      refine zlSplit 20 z5 (by kernel_rfl) (fun hc => ?_) (fun hc => ?_)
      · replace hS := cond_t hc hS
        refine zlRun (n := 1) (j := 13) rfl (by kernel_rfl) ?_
        refine bindE hS (fun z6 hz6 hS => ?_)
        refine zlOp (d := some 22) (op := (.call 14 [(.tmp 21)])) (g := (some (20, true))) (v := (.d (.str z6))) (ups := []) (j := 14) rfl (by kernel_rfl) (by kernel_rfl) (ev_call (args := [(.r (.msl 176 1 0 (([8364] : List Int).length)))]) (l := [(.d (.sl ([8364] : List Int).length ((eInt .i64).cells ([8364]))))]) (r := (.d (.str z6))) (by kernel_rfl) (l_cons (l_own (eInt .i64) (e := 3) (k := 1) (xs := [8364]) (by kernel_rfl) rfl rfl) l_nil) (f14_ok (d - 1) (dpt hd rfl) [8364] z6 hz6) (by kernel_rfl) (by kernel_rfl) (by kernel_rfl)) ?_
        refine zlBool (d := 23) (op := (.strO .eql (.tmp 22) (.const (.string ⟨#[226, 130, 172]⟩)))) (g := (some (20, true))) (j := 15) (decide (z6 = ([226, 130, 172] : List UInt8))) rfl (by kernel_rfl) (by kernel_rfl) (by kernel_rfl) (fun hc => ?_) (fun hc => ?_)
        · replace hS := cond_t hc hS
          refine zlRun (n := 2) (j := 17) rfl (by kernel_rfl) ?_
          refine zlEnd (by kernel_rfl) ?_
          refine zkSeq ?_
          refine zrRet ?_
          refine zkNil ?_
          exact endQ hS hQ (fRet ((congrArg (fun s => outR s 0 c8.res) (by kernel_rfl : finSt c8.fin _ = f8_fin true)).trans (f8_out true)))
        · replace hS := cond_f hc hS
          refine zlRun (n := 2) (j := 17) rfl (by kernel_rfl) ?_
          refine zlEnd (by kernel_rfl) ?_
          refine zkSeq ?_
          refine zrRet ?_
          refine zkNil ?_
          exact endQ hS hQ (fRet ((congrArg (fun s => outR s 0 c8.res) (by kernel_rfl : finSt c8.fin _ = f8_fin false)).trans (f8_out false)))
      · replace hS := cond_f hc hS
        refine zlRun (n := 5) (j := 17) rfl (by kernel_rfl) ?_
        refine zlEnd (by kernel_rfl) ?_
        refine zkSeq ?_
        refine zrRet ?_
        refine zkNil ?_
        exact endQ hS hQ (fRet ((congrArg (fun s => outR s 0 c8.res) (by kernel_rfl : finSt c8.fin _ = f8_fin false)).trans (f8_out false)))
    · replace hS := cond_f hc hS
      refine zlRun (n := 12) (j := 17) rfl (by kernel_rfl) ?_
      refine zlEnd (by kernel_rfl) ?_
      refine zkSeq ?_
      refine zrRet ?_
      refine zkNil ?_
      exact endQ hS hQ (fRet ((congrArg (fun s => outR s 0 c8.res) (by kernel_rfl : finSt c8.fin _ = f8_fin false)).trans (f8_out false)))
  · replace hS := cond_f hc hS
    refine zlRun (n := 15) (j := 17) rfl (by kernel_rfl) ?_
    refine zlEnd (by kernel_rfl) ?_
    refine zkSeq ?_
    refine zrRet ?_
    refine zkNil ?_
    exact endQ hS hQ (fRet ((congrArg (fun s => outR s 0 c8.res) (by kernel_rfl : finSt c8.fin _ = f8_fin false)).trans (f8_out false)))
/- slices.Clone[[]int,int] -/
def f13_fin (p1 : List Int) : St := ⟨(up (fun _ => .un) 2 (.r (.msl 97 0 0 p1.length))), (up (hB fun _ => 0) 97 ⟨0, some (.own 3 1 ((eInt .i64).cells p1))⟩)⟩
theorem f13_out (p1 : List Int) : outR (f13_fin p1) 0 c13.res = some ((.r (.own 0 3 1 p1.length ((eInt .i64).cells p1))), []) := by
  exact out_of (ids := []) (ids' := [97]) (l := [(.r (.msl 97 0 0 p1.length))]) (by kernel_rfl) (by kernel_rfl) (o_own (eInt .i64) (e := 3) (k := 1) (xs := p1) (by kernel_rfl) rfl rfl rfl rfl)
def f13_Q (r : List Int) (e : PX) (st : St) : Prop := DoneF c13 0 ((.r (.own 0 3 1 r.length ((eInt .i64).cells r))), []) e st
noncomputable def f13 (a1 : List Int) : Option (List Int) := ((app? 8 ([] : List Int) a1).bind fun z2 => (some z2))
theorem f13_ok (d : Nat) (hd : 1 ≤ d) (a1 : List Int) (r : List Int) (hS : f13 a1 = some r) : lev codes baseL d 13 [(.d (.sl a1.length ((eInt .i64).cells a1)))] [] = some ((.r (.own 0 3 1 r.length ((eInt .i64).cells r))), []) := by
  refine lev_goZ codes13 rfl rfl (Nat.le_trans (Nat.le_of_ble_eq_true rfl) hd) (fun Q hQ => ?_) (fun h0 Q hQ => ?_)
  · unfold f13 at hS
    show ZR _ Q c13_b [] _
    refine zrSeq ?_
    refine zrReg ?_
    refine zlRun (n := 1) (j := 1) rfl (by kernel_rfl) ?_
    refine zlEnd (by kernel_rfl) ?_
    refine zkSeq ?_
    refine zrSeq ?_
    refine zrSeq ?_
    refine zrReg ?_
    refine zlRun (n := 2) (j := 2) rfl (by kernel_rfl) ?_
    refine zlEnd (by kernel_rfl) ?_
    refine zkSeq ?_
    refine zrCondF (by kernel_rfl) ?_
    refine zrSkip ?_
    refine zkSeq ?_
    refine zrSeq ?_
    refine zrReg ?_
    refine zlRun (n := 2) (j := 2) rfl (by kernel_rfl) ?_
    refine bindE hS (fun z2 hz2 hS => ?_)
    refine zlOp (d := some 7) (op := (.app 3 1 8 (.tmp 5) (.tmp 6))) (g := none) (v := (.r (.msl 48 2 0 z2.length))) (ups := [(48, ⟨2, some (.own 3 1 ((eInt .i64).cells z2))⟩)]) (j := 3) rfl (by kernel_rfl) (by kernel_rfl) (ev_app (eInt .i64) (b := 48) (g := 1) (n := ([] : List Int).length) (xs := []) (ys := a1) ((congrArg (asL _) (by kernel_rfl : ρof _ (.tmp 6) = (.slz false a1.length ((eInt .i64).cells a1)))).trans rfl) rfl (by kernel_rfl) rfl (by kernel_rfl) rfl hz2) ?_
    refine zlRun (n := 1) (j := 4) rfl (by kernel_rfl) ?_
    refine zlEnd (by kernel_rfl) ?_
    refine zkSeq ?_
    refine zrRet ?_
    refine zkNil ?_
    exact endQ (F := f13_Q) hS hQ (fRet ((congrArg (fun s => outR s 0 c13.res) (by kernel_rfl : finSt c13.fin _ = f13_fin z2)).trans (f13_out z2)))
  · have hS : (some []) = some r := by
      have hl := List.eq_nil_of_length_eq_zero h0
      subst hl
      simpa [f13, app?] using hS
    show ZR _ Q c13_b [] _
    refine zrSeq ?_
    refine zrReg ?_
    refine zlRun (n := 1) (j := 1) rfl (by kernel_rfl) ?_
    refine zlEnd (by kernel_rfl) ?_
    refine zkSeq ?_
    refine zrSeq ?_
    refine zrSeq ?_
    refine zrReg ?_
    refine zlRun (n := 2) (j := 2) rfl (by kernel_rfl) ?_
    refine zlEnd (by kernel_rfl) ?_
    refine zkSeq ?_
    refine zrCondT (by kernel_rfl) ?_
    refine zrSeq ?_
    refine zrReg ?_
    refine zlRun (n := 1) (j := 1) rfl (by kernel_rfl) ?_
    refine zlEnd (by kernel_rfl) ?_
    refine zkSeq ?_
    refine zrRet ?_
    refine zkSeqR ?_
    refine zkNil ?_
    exact endQ (F := f13_Q) hS hQ (fRet ((congrArg (fun s => outR s 0 c13.res) (by kernel_rfl : finSt c13.fin _ = f13_fin [])).trans (f13_out [])))
/- farwriter/farkeep.UtfAscii$1 -/
def f16_fin (p2 : Bool) : St := ⟨(up (fun _ => .un) 2 (.d (.bool p2))), (hB fun _ => 0)⟩
theorem f16_out (p2 : Bool) : outR (f16_fin p2) 0 c16.res = some ((.d (.bool p2)), []) := by
  kernel_rfl
def f16_Q (r : Bool) (e : PX) (st : St) : Prop := DoneF c16 0 ((.d (.bool r)), []) e st
noncomputable def f16 (a1 : Int) : Option (Bool) := (bif (decide (128 ≤ a1)) then (some true) else (some false))
theorem f16_ok (d : Nat) (hd : 1 ≤ d) (a1 : Int) (r : Bool) (hS : f16 a1 = some r) : lev codes baseL d 16 [(.d (.int .i64 a1))] [] = some ((.d (.bool r)), []) := by
  refine lev_go codes16 rfl rfl (Nat.le_trans (Nat.le_of_ble_eq_true rfl) hd) fun Q hQ => ?_
  unfold f16 at hS
  show ZR _ Q c16_b [] _
  replace hQ : ∀ e st', f16_Q r e st' → Q e st' := hQ
  refine zrSeq ?_
  refine zrReg ?_
  refine zlRun (n := 1) (j := 1) rfl (by kernel_rfl) ?_
  refine zlEnd (by kernel_rfl) ?_
  refine zkSeq ?_
  refine zrSeq ?_
  refine zrReg ?_
  refine zlRun (n := 1) (j := 1) rfl (by kernel_rfl) ?_
  refine zlBool (d := 4) (op := (.cmpI .geq (.tmp 3) (.const (.int .i64 128)))) (g := none) (j := 2) (decide (128 ≤ a1)) rfl (by kernel_rfl) (by kernel_rfl) (by kernel_rfl) (fun hc => ?_) (fun hc => ?_)
  · replace hS := cond_t hc hS
    refine zlRun (n := 1) (j := 3) rfl (by kernel_rfl) ?_
    refine zlEnd (by kernel_rfl) ?_
    refine zkSeq ?_
    refine zrRet ?_
    refine zkNil ?_
    exact endQ hS hQ (fRet ((congrArg (fun s => outR s 0 c16.res) (by kernel_rfl : finSt c16.fin _ = f16_fin true)).trans (f16_out true)))
  · replace hS := cond_f hc hS
    refine zlRun (n := 1) (j := 3) rfl (by kernel_rfl) ?_
    refine zlEnd (by kernel_rfl) ?_
    refine zkSeq ?_
    refine zrRet ?_
    refine zkNil ?_
    exact endQ hS hQ (fRet ((congrArg (fun s => outR s 0 c16.res) (by kernel_rfl : finSt c16.fin _ = f16_fin false)).trans (f16_out false)))
/- slices.IndexFunc[[]int,int] -/
def f21_fin (p8 : Int) : St := ⟨(up (fun _ => .un) 4 (.d (.int .i64 p8))), (hB fun _ => 0)⟩
theorem f21_out (p8 : Int) : outR (f21_fin p8) 0 c21.res = some ((.d (.int .i64 p8)), []) := by
  kernel_rfl
def f21_Q (r : Int) (e : PX) (st : St) : Prop := DoneF c21 0 ((.d (.int .i64 r)), []) e st
def f21_l0_J (a1 : List Int) (x : Int) : St := ⟨(up (up (up (up (fun _ => .un) 8 (.d (.int .i64 x))) 7 (.d (.int .i64 (a1.length : Int)))) 1 (.fn 16 [])) 0 (.d (.sl a1.length ((eInt .i64).cells a1)))), (hB fun _ => 0)⟩
def f21_l0_H (a1 : List Int) (x : Int) (st : St) : Prop := keepSt [0, 1, 7, 8] [] [] st = f21_l0_J a1 x
def f21_l0_e0_J (a1 : List Int) : St := ⟨(fun _ => .un), (hB fun _ => 0)⟩
def f21_l0_X (a1 : List Int) (z : Unit ⊕ Int) (e : PX) (st : St) : Prop := (match z with | .inl z => e = .exit 0 ∧ st = f21_l0_e0_J a1 | .inr z => e = .ret ∧ finSt c21.fin st = f21_fin z)
def f21_l0_j2_J (a1 : List Int) (p13 : Int) : St := ⟨(up (up (up (up (fun _ => .un) 8 (.d (.int .i64 p13))) 7 (.d (.int .i64 (a1.length : Int)))) 1 (.fn 16 [])) 0 (.d (.sl a1.length ((eInt .i64).cells a1)))), (hB fun _ => 0)⟩
noncomputable def f21_l0_j2 (a1 : List Int) (p13 : Int) : Option (Int ⊕ (Unit ⊕ Int)) := ((idx a1 p13).bind fun z7 => ((f16 z7).bind fun z8 => (bif z8 then (some (.inr (.inr p13))) else (some (.inl (IntKind.i64.wrap (p13 + 1)))))))
theorem f21_l0_j2_ok {d : Nat} (hd : 2 ≤ d) (a1 : List Int) {r : Int ⊕ (Unit ⊕ Int)} {Q : PX → St → Prop} (hQ : ∀ e st', finL (f21_l0_H a1) (f21_l0_X a1) r e st' → Q e st') (p13 : Int) (hS : f21_l0_j2 a1 p13 = some r) {st : St} (he : keepSt [0, 1, 7, 8] [] [] st = f21_l0_j2_J a1 p13) : ZR (lev codes baseL (d - 1)) Q c21_1 [] st := by
  refine zrKeep he ?_
  unfold f21_l0_j2 at hS
  refine zrSeq ?_
  refine zrBlk ?_
  refine zrSeq ?_
  refine zrReg ?_
  refine zlRun (n := 2) (j := 2) rfl (by kernel_rfl) ?_
  refine zlEnd (by kernel_rfl) ?_
  refine zkSeq ?_
  refine zrSeq ?_
  refine zrReg ?_
  refine zlRun (n := 3) (j := 3) rfl (by kernel_rfl) ?_
  refine bindE hS (fun z7 hz7 hS => ?_)
  refine zlOp (d := some 14) (op := (.ixS 3 1 (.tmp 12) (.tmp 13))) (g := none) (v := (.rptr ((eInt .i64).enc z7 ++ ((eInt .i64).cells (a1.drop ((p13 : Int).toNat + 1)))))) (ups := []) (j := 4) rfl (by kernel_rfl) (by kernel_rfl) (ev_ixS (eInt .i64) (kk := .i64) (xs := a1) (j := p13) (by kernel_rfl) (by kernel_rfl) hz7 rfl (by intro h; cases h)) ?_
  refine zlRun (n := 1) (j := 5) rfl (by kernel_rfl) ?_
  refine bindE hS (fun z8 hz8 hS => ?_)
  refine zlOp (d := some 16) (op := (.callv (.tmp 11) [(.tmp 15)])) (g := none) (v := (.d (.bool z8))) (ups := []) (j := 6) rfl (by kernel_rfl) (by kernel_rfl) (ev_callv (f := 16) (cs := []) (by kernel_rfl) (args := [(.d (.int .i64 z7))]) (l := [(.d (.int .i64 z7))]) (r := (.d (.bool z8))) (by kernel_rfl) (by kernel_rfl) (f16_ok (d - 1) (dpt hd rfl) z7 z8 hz8) (by kernel_rfl) (by kernel_rfl) (by kernel_rfl)) ?_
  refine zlEnd (by kernel_rfl) ?_
  refine zkSeq ?_
  refine zrSplit 16 z8 (by kernel_rfl) (fun hc => ?_) (fun hc => ?_)
  · replace hS := cond_t hc hS
    refine zrCondT (by kernel_rfl) ?_
    refine zrSeq ?_
    refine zrReg ?_
    refine zlRun (n := 2) (j := 2) rfl (by kernel_rfl) ?_
    refine zlEnd (by kernel_rfl) ?_
    refine zkSeq ?_
    refine zrRet ?_
    refine zkBlkR ?_
    refine zkSeqR ?_
    refine zkNil ?_
    exact endQ hS hQ (finL_x (by intro h; cases h) (by show _ = _ ∧ _ = _; exact ⟨rfl, by kernel_rfl⟩))
  · replace hS := cond_f hc hS
    refine zrCondF (by kernel_rfl) ?_
    refine zrSkip ?_
    refine zkBlk ?_
    refine zkSeq ?_
    refine zrReg ?_
    refine zlRun (n := 2) (j := 2) rfl (by kernel_rfl) ?_
    refine zlEnd (by kernel_rfl) ?_
    refine zkNil ?_
    exact endQ hS hQ (finL_n (by show keepSt _ _ _ _ = _; kernel_rfl))
def f21_l0_j1_J (a1 : List Int) (p11 : Int) (p12 : Bool) : St := ⟨(up (up (up (up (up (fun _ => .un) 9 (.d (.bool p12))) 8 (.d (.int .i64 p11))) 7 (.d (.int .i64 (a1.length : Int)))) 1 (.fn 16 [])) 0 (.d (.sl a1.length ((eInt .i64).cells a1)))), (hB fun _ => 0)⟩
noncomputable def f21_l0_j1 (a1 : List Int) (p11 : Int) (p12 : Bool) : Option (Int ⊕ (Unit ⊕ Int)) := (bif p12 then (f21_l0_j2 a1 p11) else (some (.inr (.inl ()))))
theorem f21_l0_j1_ok {d : Nat} (hd : 2 ≤ d) (a1 : List Int) {r : Int ⊕ (Unit ⊕ Int)} {Q : PX → St → Prop} (hQ : ∀ e st', finL (f21_l0_H a1) (f21_l0_X a1) r e st' → Q e st') (p11 : Int) (p12 : Bool) (hS : f21_l0_j1 a1 p11 p12 = some r) {st : St} (he : keepSt [0, 1, 7, 8, 9] [] [] st = f21_l0_j1_J a1 p11 p12) : ZR (lev codes baseL (d - 1)) Q c21_2 [] st := by
  refine zrKeep he ?_
  unfold f21_l0_j1 at hS
  refine zrSeq ?_
  refine zrSplit 9 p12 (by kernel_rfl) (fun hc => ?_) (fun hc => ?_)
  · replace hS := cond_t hc hS
    refine zrCondT (by kernel_rfl) ?_
    refine zrSkip ?_
    refine zkSeq ?_
    exact f21_l0_j2_ok hd a1 hQ p11 hS (by kernel_rfl)
  · replace hS := cond_f hc hS
    refine zrCondF (by kernel_rfl) ?_
    refine zrKeep (J := f21_l0_e0_J a1) (by kernel_rfl) ?_
    refine zrExit ?_
    refine zkSeqX ?_
    refine zkNil ?_
    exact endQ hS hQ (finL_x (by intro h; cases h) (by show _ = _ ∧ _ = _; exact ⟨rfl, rfl⟩))
noncomputable def f21_l0 (a1 : List Int) (x : Int) : Option (Int ⊕ (Unit ⊕ Int)) := (bif (decide (x < (a1.length : Int))) then (f21_l0_j1 a1 x true) else (f21_l0_j1 a1 x false))
theorem f21_l0_ok {d : Nat} (hd : 2 ≤ d) (a1 : List Int) {r : Int ⊕ (Unit ⊕ Int)} {Q : PX → St → Prop} (hQ : ∀ e st', finL (f21_l0_H a1) (f21_l0_X a1) r e st' → Q e st') {x : Int} (hS : f21_l0 a1 x = some r) {st : St} (he : f21_l0_H a1 x st) : ZR (lev codes baseL (d - 1)) Q c21_3 [] st := by
  refine zrKeep he ?_
  unfold f21_l0 at hS
  refine zrSeq ?_
  refine zrReg ?_
  refine zlBool (d := 9) (op := (.cmpI .lss (.tmp 8) (.tmp 7))) (g := none) (j := 1) (decide (x < (a1.length : Int))) rfl (by kernel_rfl) (by kernel_rfl) (by kernel_rfl) (fun hc => ?_) (fun hc => ?_)
  · replace hS := cond_t hc hS
    refine zlEnd (by kernel_rfl) ?_
    refine zkSeq ?_
    exact f21_l0_j1_ok hd a1 hQ x true hS (by kernel_rfl)
  · replace hS := cond_f hc hS
    refine zlEnd (by kernel_rfl) ?_
    refine zkSeq ?_
    exact f21_l0_j1_ok hd a1 hQ x false hS (by kernel_rfl)
noncomputable def f21 (a1 : List Int) : Option (Int) := ((loopO (f21_l0 a1) 0).bind fun z9 => (Sum.elim (fun z10 => (some (-1))) (fun z11 => (some z11)) z9))
theorem f21_ok (d : Nat) (hd : 2 ≤ d) (a1 : List Int) (r : Int) (hS : f21 a1 = some r) : lev codes baseL d 21 [(.d (.sl a1.length ((eInt .i64).cells a1))), (.fn 16 [])] [] = some ((.d (.int .i64 r)), []) := by
  refine lev_go codes21 rfl rfl (Nat.le_trans (Nat.le_of_ble_eq_true rfl) hd) fun Q hQ => ?_
  unfold f21 at hS
  show ZR _ Q c21_b [] _
  replace hQ : ∀ e st', f21_Q r e st' → Q e st' := hQ
  refine zrSeq ?_
  refine zrReg ?_
  refine zlRun (n := 1) (j := 1) rfl (by kernel_rfl) ?_
  refine zlEnd (by kernel_rfl) ?_
  refine zkSeq ?_
  refine zrSeq ?_
  refine zrSeq ?_
  refine zrReg ?_
  refine zlRun (n := 3) (j := 3) rfl (by kernel_rfl) ?_
  refine zlEnd (by kernel_rfl) ?_
  refine zkSeq ?_
  refine zrBlk ?_
  refine bindE hS (fun z9 hz9 hS => ?_)
  refine zrLoop (f21_l0_H a1) (f21_l0_X a1) (fun x st r Q h0 hS hQ => f21_l0_ok hd a1 hQ hS h0) (x := 0) (z := z9) (by show keepSt _ _ _ _ = _; kernel_rfl) hz9 ?_
  rcases z9 with z10 | z11
  · replace hS := (show _ = _ from hS)
    simp only [Sum.elim_inl] at hS
    intro e st' _ hX
    obtain ⟨rfl, rfl⟩ : _ ∧ _ := hX
    refine zkBlkX ?_
    refine zkSeq ?_
    refine zrSeq ?_
    refine zrReg ?_
    refine zlRun (n := 1) (j := 1) rfl (by kernel_rfl) ?_
    refine zlEnd (by kernel_rfl) ?_
    refine zkSeq ?_
    refine zrRet ?_
    refine zkNil ?_
    exact endQ hS hQ (fRet ((congrArg (fun s => outR s 0 c21.res) (by kernel_rfl : finSt c21.fin _ = f21_fin (-1))).trans (f21_out (-1))))
  · simp only [Sum.elim_inr] at hS
    intro e st' _ hX
    obtain ⟨rfl, hX⟩ : _ ∧ _ := hX
    refine zkBlkR ?_
    refine zkSeqR ?_
    refine zkNil ?_
    exact endQ hS hQ (fRet ((congrArg (fun s => outR s 0 c21.res) hX).trans (f21_out z11)))
/- slices.DeleteFunc[[]int,int] -/
def f15_fin (p33 : List Int) : St := ⟨(up (fun _ => .un) 4 (.r (.msl 0 0 0 p33.length))), (up (hB fun _ => 0) 0 ⟨0, some (.own 3 1 ((eInt .i64).cells p33))⟩)⟩
theorem f15_out (p33 : List Int) : outR (f15_fin p33) 1 c15.res = some ((.r (.msl 0 0 0 p33.length)), [(.own 3 1 ((eInt .i64).cells p33))]) := by
  kernel_rfl
def f15_Q (r : (List Int)) (e : PX) (st : St) : Prop := DoneF c15 1 ((.r (.msl 0 0 0 r.length)), [(.own 3 1 ((eInt .i64).cells r))]) e st
def f15_j1_J (a1 : List Int) (p67 : List Int) (p68 : Int) : St := ⟨(up (up (fun _ => .un) 5 (.d (.int .i64 p68))) 0 (.r (.msl 0 0 0 p67.length))), (up (hB fun _ => 0) 0 ⟨0, some (.own 3 1 ((eInt .i64).cells p67))⟩)⟩
noncomputable def f15_j1 (a1 : List Int) (p67 : List Int) (p68 : Int) : Option ((List Int)) := ((chk (decide (0 ≤ p68) && decide (p68 ≤ (p67.length : Int)) && decide ((p67.length : Int) ≤ (p67.length : Int)))).bind fun z43 => ((chk (decide (((p68 : Int).toNat) + (((p67.length : Int) : Int).toNat - (p68 : Int).toNat) ≤ p67.length))).bind fun z44 => ((some (clrL p67 ((p68 : Int).toNat) (((p67.length : Int) : Int).toNat - (p68 : Int).toNat) 0)).bind fun z45 => ((sub? z45 0 p68).bind fun z46 => (some z46)))))
theorem f15_j1_ok {d : Nat} (hd : 3 ≤ d) (a1 : List Int) {r : (List Int)} {Q : PX → St → Prop} (hQ : ∀ e st', f15_Q r e st' → Q e st') (p67 : List Int) (p68 : Int) (hS : f15_j1 a1 p67 p68 = some r) {st : St} (he : keepSt [0, 5] [(0, .id 0)] [] st = f15_j1_J a1 p67 p68) : ZR (lev codes baseL (d - 1)) Q c15_1 [] st := by
  refine zrKeep he ?_
  unfold f15_j1 at hS
  refine zrSeq ?_
  refine zrReg ?_
  refine zlRun (n := 2) (j := 2) rfl (by kernel_rfl) ?_
  refine bindE hS (fun z43 hz43 hS => ?_)
  refine zlOp (d := some 38) (op := (.slS 3 1 (.tmp 36) (.some (.tmp 37)) .none)) (g := none) (v := (.r (.msl 0 0 ((p68 : Int).toNat) (((p67.length : Int) : Int).toNat - (p68 : Int).toNat)))) (ups := []) (j := 3) rfl (by kernel_rfl) (by kernel_rfl) (ev_slM (b := 0) (g := 0) (e := 3) (a := p68) (c := (p67.length : Int)) (l := 0) (n := p67.length) (l' := ((p68 : Int).toNat)) (n' := (((p67.length : Int) : Int).toNat - (p68 : Int).toNat)) (cs := (eInt .i64).cells p67) (by kernel_rfl) (by kernel_rfl) (bnd_s _ (kk := .i64) (j := p68) (by kernel_rfl)) (bnd_n _) hz43 (by simp) rfl) ?_
  refine bindE hS (fun z44 hz44 hS => ?_)
  refine bindE hS (fun z45 hz45 hS => ?_)
  refine zlOp (d := none) (op := (.clr 1 [(1, (.int .i64 0))] (.tmp 38))) (g := none) (v := (.tup [])) (ups := [(0, ⟨0, some (.own 3 1 ((eInt .i64).cells (clrL p67 ((p68 : Int).toNat) (((p67.length : Int) : Int).toNat - (p68 : Int).toNat) 0)))⟩)]) (j := 4) rfl (by kernel_rfl) (by kernel_rfl) (ev_clr (eInt .i64) (b := 0) (g := 0) (l := ((p68 : Int).toNat)) (n := (((p67.length : Int) : Int).toNat - (p68 : Int).toNat)) (e := 3) (xs := p67) (z0 := 0) (by kernel_rfl) (by kernel_rfl) (by kernel_rfl) rfl hz44) ?_
  have ez45 := Option.some.inj hz45
  have lz45 : p67.length = z45.length := by rw [← ez45]; exact (clrL_len (of_decide_eq_true (chk_t hz44))).symm
  rw [ez45]
  try delta f15_j1_J
  try rw [lz45]
  refine zlEnd (by kernel_rfl) ?_
  refine zkSeq ?_
  refine zrSeq ?_
  refine zrReg ?_
  refine zlRun (n := 2) (j := 2) rfl (by kernel_rfl) ?_
  refine bindE hS (fun z46 hz46 hS => ?_)
  refine zlOp (d := some 41) (op := (.slC 3 1 (.tmp 39) .none (.some (.tmp 40)))) (g := none) (v := (.r (.msl 0 1 0 z46.length))) (ups := [(0, ⟨1, some (.own 3 1 ((eInt .i64).cells z46))⟩)]) (j := 3) rfl (by kernel_rfl) (by kernel_rfl) (ev_slC (eInt .i64) (b := 0) (g := 0) (n := z45.length) (c := p68) (xs := z45) (by kernel_rfl) rfl (by kernel_rfl) rfl (bnd_n 0) (bnd_s _ (kk := .i64) (j := p68) (by kernel_rfl)) hz46) ?_
  refine zlRun (n := 1) (j := 4) rfl (by kernel_rfl) ?_
  refine zlEnd (by kernel_rfl) ?_
  refine zkSeq ?_
  refine zrRet ?_
  refine zkNil ?_
  exact endQ hS hQ (fRet ((congrArg (fun s => outR s 1 c15.res) (by kernel_rfl : finSt c15.fin _ = f15_fin z46)).trans (f15_out z46)))
def f15_l2_J (a1 : List Int) (x : (List Int) × Int × Int) : St := ⟨(up (up (up (up (fun _ => .un) 6 (.d (.int .i64 x.2.2))) 5 (.d (.int .i64 x.2.1))) 1 (.fn 16 [])) 0 (.r (.msl 0 0 0 x.1.length))), (up (hB fun _ => 0) 0 ⟨0, some (.own 3 1 ((eInt .i64).cells x.1))⟩)⟩
def f15_l2_H (a1 : List Int) (x : (List Int) × Int × Int) (st : St) : Prop := keepSt [0, 1, 5, 6] [(0, .id 0)] [] st = f15_l2_J a1 x
def f15_l2_e0_J (a1 : List Int) (p65 : List Int) (p66 : Int) : St := ⟨(up (up (fun _ => .un) 5 (.d (.int .i64 p66))) 0 (.r (.msl 0 0 0 p65.length))), (up (hB fun _ => 0) 0 ⟨0, some (.own 3 1 ((eInt .i64).cells p65))⟩)⟩
def f15_l2_X (a1 : List Int) (z : ((List Int) × Int)) (e : PX) (st : St) : Prop := e = .exit 0 ∧ st = f15_l2_e0_J a1 z.1 z.2
def f15_l2_j3_J (a1 : List Int) (p73 : List Int) (p74 : Int) (p75 : Int) : St := ⟨(up (up (up (up (fun _ => .un) 6 (.d (.int .i64 p75))) 5 (.d (.int .i64 p74))) 1 (.fn 16 [])) 0 (.r (.msl 0 0 0 p73.length))), (up (hB fun _ => 0) 0 ⟨0, some (.own 3 1 ((eInt .i64).cells p73))⟩)⟩
noncomputable def f15_l2_j3 (a1 : List Int) (p73 : List Int) (p74 : Int) (p75 : Int) : Option (((List Int) × Int × Int) ⊕ (((List Int) × Int))) := ((inR p75 p73.length).bind fun m47 => ((p73[m47]?).bind fun z48 => ((f16 z48).bind fun z49 => (bif (!z49) then ((inR p74 p73.length).bind fun m50 => ((p73[m50]?).bind fun z51 => ((some (p73.set m50 z48)).bind fun z52 => (some (.inl (z52, (IntKind.i64.wrap (p74 + 1)), (IntKind.i64.wrap (p75 + 1)))))))) else (some (.inl (p73, p74, (IntKind.i64.wrap (p75 + 1)))))))))
theorem f15_l2_j3_ok {d : Nat} (hd : 3 ≤ d) (a1 : List Int) {r : ((List Int) × Int × Int) ⊕ (((List Int) × Int))} {Q : PX → St → Prop} (hQ : ∀ e st', finL (f15_l2_H a1) (f15_l2_X a1) r e st' → Q e st') (p73 : List Int) (p74 : Int) (p75 : Int) (hS : f15_l2_j3 a1 p73 p74 p75 = some r) {st : St} (he : keepSt [0, 1, 5, 6] [(0, .id 0)] [] st = f15_l2_j3_J a1 p73 p74 p75) : ZR (lev codes baseL (d - 1)) Q c15_2 [] st := by
  refine zrKeep he ?_
  unfold f15_l2_j3 at hS
  refine zrSeq ?_
  refine zrBlk ?_
  refine zrSeq ?_
  refine zrReg ?_
  refine zlRun (n := 2) (j := 2) rfl (by kernel_rfl) ?_
  refine bindE hS (fun m47 hm47 hS => ?_)
  refine zlOp (d := some 24) (op := (.ixS 3 1 (.tmp 22) (.tmp 23))) (g := none) (v := (.r (.ptr 0 0 ((0 + m47) * 1)))) (ups := []) (j := 3) rfl (by kernel_rfl) (by kernel_rfl) (ev_ixM (kk := .i64) (b := 0) (g := 0) (l := 0) (n := p73.length) (j := p75) (cs := (eInt .i64).cells p73) (by kernel_rfl) (by kernel_rfl) (by kernel_rfl) hm47) ?_
  refine bindE hS (fun z48 hz48 hS => ?_)
  refine zlOp (d := some 25) (op := (.load .false 1 (.tmp 24))) (g := none) (v := (.d (.int .i64 z48))) (ups := []) (j := 4) rfl (by kernel_rfl) (by kernel_rfl) (ev_loadM (eInt .i64) (b := 0) (g := 0) (o := (0 + m47) * 1) (e := 3) (k := 1) (m := m47) (fo := 0) (xs := p73) (by kernel_rfl) (by kernel_rfl) (by rw [Nat.zero_add]; rfl) hz48 (by kernel_rfl) (by kernel_rfl) (by kernel_rfl)) ?_
  refine zlRun (n := 1) (j := 5) rfl (by kernel_rfl) ?_
  refine zlEnd (by kernel_rfl) ?_
  refine zkSeq ?_
  refine zrSeq ?_
  refine zrReg ?_
  refine zlRun (n := 2) (j := 2) rfl (by kernel_rfl) ?_
  refine bindE hS (fun z49 hz49 hS => ?_)
  refine zlOp (d := some 28) (op := (.callv (.tmp 26) [(.tmp 27)])) (g := none) (v := (.d (.bool z49))) (ups := []) (j := 3) rfl (by kernel_rfl) (by kernel_rfl) (ev_callv (f := 16) (cs := []) (by kernel_rfl) (args := [(.d (.int .i64 z48))]) (l := [(.d (.int .i64 z48))]) (r := (.d (.bool z49))) (by kernel_rfl) (by kernel_rfl) (f16_ok (d - 1) (dpt hd rfl) z48 z49 hz49) (by kernel_rfl) (by kernel_rfl) (by kernel_rfl)) ?_
  refine zlRun (n := 1) (j := 4) rfl (by kernel_rfl) ?_
  refine zlEnd (by kernel_rfl) ?_
  refine zkSeq ?_
  refine zrSplit 29 (!z49) (by kernel_rfl) (fun hc => ?_) (fun hc => ?_)
  · replace hS := cond_t hc hS
    refine zrCondT (by kernel_rfl) ?_
    refine zrSeq ?_
    refine zrReg ?_
    refine zlRun (n := 3) (j := 3) rfl (by kernel_rfl) ?_
    refine bindE hS (fun m50 hm50 hS => ?_)
    refine zlOp (d := some 33) (op := (.ixS 3 1 (.tmp 30) (.tmp 31))) (g := none) (v := (.r (.ptr 0 0 ((0 + m50) * 1)))) (ups := []) (j := 4) rfl (by kernel_rfl) (by kernel_rfl) (ev_ixM (kk := .i64) (b := 0) (g := 0) (l := 0) (n := p73.length) (j := p74) (cs := (eInt .i64).cells p73) (by kernel_rfl) (by kernel_rfl) (by kernel_rfl) hm50) ?_
    refine bindE hS (fun z51 hz51 hS => ?_)
    refine bindE hS (fun z52 hz52 hS => ?_)
    refine zlOp (d := none) (op := (.store 1 (.tmp 33) (.tmp 32))) (g := none) (v := .un) (ups := [(0, ⟨0, some (.own 3 1 ((eInt .i64).cells (p73.set m50 z48)))⟩)]) (j := 5) rfl (by kernel_rfl) (by kernel_rfl) (ev_storeM (eInt .i64) (b := 0) (g := 0) (o := (0 + m50) * 1) (e := 3) (k := 1) (m := m50) (fo := 0) (xs := p73) (z := z51) (z' := z48) (by kernel_rfl) (new := ((.d (.int .i64 z48)) :: [])) (ds := [.int .i64 z48]) (by kernel_rfl) (by kernel_rfl) (by kernel_rfl) (by rw [Nat.zero_add]; rfl) hz51 (by kernel_rfl) (by kernel_rfl) (by kernel_rfl)) ?_
    have ez52 := Option.some.inj hz52
    have lz52 : p73.length = z52.length := by rw [← ez52, List.length_set]
    rw [ez52]
    try delta f15_l2_j3_J
    try rw [lz52]
    refine zlEnd (by kernel_rfl) ?_
    refine zkSeq ?_
    refine zrReg ?_
    refine zlRun (n := 3) (j := 3) rfl (by kernel_rfl) ?_
    refine zlEnd (by kernel_rfl) ?_
    refine zkBlk ?_
    refine zkSeq ?_
    refine zrReg ?_
    refine zlRun (n := 3) (j := 3) rfl (by kernel_rfl) ?_
    refine zlEnd (by kernel_rfl) ?_
    refine zkNil ?_
    exact endQ hS hQ (finL_n (by show keepSt _ _ _ _ = _; kernel_rfl))
  · replace hS := cond_f hc hS
    refine zrCondF (by kernel_rfl) ?_
    refine zrSkip ?_
    refine zkBlk ?_
    refine zkSeq ?_
    refine zrReg ?_
    refine zlRun (n := 3) (j := 3) rfl (by kernel_rfl) ?_
    refine zlEnd (by kernel_rfl) ?_
    refine zkNil ?_
    exact endQ hS hQ (finL_n (by show keepSt _ _ _ _ = _; kernel_rfl))
noncomputable def f15_l2 (a1 : List Int) (x : (List Int) × Int × Int) : Option (((List Int) × Int × Int) ⊕ (((List Int) × Int))) := (bif (decide (x.2.2 < (x.1.length : Int))) then (f15_l2_j3 a1 x.1 x.2.1 x.2.2) else (some (.inr (x.1, x.2.1))))
theorem f15_l2_ok {d : Nat} (hd : 3 ≤ d) (a1 : List Int) {r : ((List Int) × Int × Int) ⊕ (((List Int) × Int))} {Q : PX → St → Prop} (hQ : ∀ e st', finL (f15_l2_H a1) (f15_l2_X a1) r e st' → Q e st') {x : (List Int) × Int × Int} (hS : f15_l2 a1 x = some r) {st : St} (he : f15_l2_H a1 x st) : ZR (lev codes baseL (d - 1)) Q c15_3 [] st := by
  refine zrKeep he ?_
  unfold f15_l2 at hS
  refine zrSeq ?_
  refine zrSeq ?_
  refine zrReg ?_
  refine zlRun (n := 3) (j := 3) rfl (by kernel_rfl) ?_
  refine zlBool (d := 19) (op := (.cmpI .lss (.tmp 16) (.tmp 18))) (g := none) (j := 4) (decide (x.2.2 < (x.1.length : Int))) rfl (by kernel_rfl) (by kernel_rfl) (by kernel_rfl) (fun hc => ?_) (fun hc => ?_)
  · replace hS := cond_t hc hS
    refine zlEnd (by kernel_rfl) ?_
    refine zkSeq ?_
    refine zrCondT (by kernel_rfl) ?_
    refine zrSkip ?_
    refine zkSeq ?_
    exact f15_l2_j3_ok hd a1 hQ x.1 x.2.1 x.2.2 hS (by kernel_rfl)
  · replace hS := cond_f hc hS
    refine zlEnd (by kernel_rfl) ?_
    refine zkSeq ?_
    refine zrCondF (by kernel_rfl) ?_
    refine zrKeep (J := f15_l2_e0_J a1 x.1 x.2.1) (by kernel_rfl) ?_
    refine zrExit ?_
    refine zkSeqX ?_
    refine zkNil ?_
    exact endQ hS hQ (finL_x (by intro h; cases h) (by show _ = _ ∧ _ = _; exact ⟨rfl, rfl⟩))
def f15_j0_J (a1 : List Int) (p36 : Int) : St := ⟨(up (up (up (fun _ => .un) 5 (.d (.int .i64 p36))) 1 (.fn 16 [])) 0 (.r (.msl 0 0 0 a1.length))), (up (hB fun _ => 0) 0 ⟨0, some (.own 3 1 ((eInt .i64).cells a1))⟩)⟩
noncomputable def f15_j0 (a1 : List Int) (p36 : Int) : Option ((List Int)) := ((loopO (f15_l2 a1) (a1, p36, (IntKind.i64.wrap (p36 + 1)))).bind fun z53 => (f15_j1 a1 z53.1 z53.2))
theorem f15_j0_ok {d : Nat} (hd : 3 ≤ d) (a1 : List Int) {r : (List Int)} {Q : PX → St → Prop} (hQ : ∀ e st', f15_Q r e st' → Q e st') (p36 : Int) (hS : f15_j0 a1 p36 = some r) {st : St} (he : keepSt [0, 1, 5] [(0, .id 0)] [] st = f15_j0_J a1 p36) : ZR (lev codes baseL (d - 1)) Q c15_4 [] st := by
  refine zrKeep he ?_
  unfold f15_j0 at hS
  refine zrSeq ?_
  refine zrSeq ?_
  refine zrReg ?_
  refine zlRun (n := 3) (j := 3) rfl (by kernel_rfl) ?_
  refine zlEnd (by kernel_rfl) ?_
  refine zkSeq ?_
  refine zrBlk ?_
  refine bindE hS (fun z53 hz53 hS => ?_)
  refine zrLoop (f15_l2_H a1) (f15_l2_X a1) (fun x st r Q h0 hS hQ => f15_l2_ok hd a1 hQ hS h0) (x := (a1, p36, (IntKind.i64.wrap (p36 + 1)))) (z := z53) (by show keepSt _ _ _ _ = _; kernel_rfl) hz53 ?_
  intro e st' _ hX
  obtain ⟨rfl, rfl⟩ : _ ∧ _ := hX
  refine zkBlkX ?_
  refine zkSeq ?_
  exact f15_j1_ok hd a1 hQ z53.1 z53.2 hS (by kernel_rfl)
noncomputable def f15 (a1 : List Int) : Option ((List Int)) := ((f21 a1).bind fun z24 => (bif (decide (z24 = (-1))) then (some a1) else (f15_j0 a1 z24)))
theorem f15_ok (d : Nat) (hd : 3 ≤ d) (a1 : List Int) (r : (List Int)) (hS : f15 a1 = some r) : lev codes baseL d 15 [(.r (.msl 0 0 0 a1.length)), (.fn 16 [])] [(.own 3 1 ((eInt .i64).cells a1))] = some ((.r (.msl 0 0 0 r.length)), [(.own 3 1 ((eInt .i64).cells r))]) := by
  refine lev_go codes15 rfl rfl (Nat.le_trans (Nat.le_of_ble_eq_true rfl) hd) fun Q hQ => ?_
  unfold f15 at hS
  show ZR _ Q c15_b [] _
  replace hQ : ∀ e st', f15_Q r e st' → Q e st' := hQ
  refine zrSeq ?_
  refine zrReg ?_
  refine zlRun (n := 1) (j := 1) rfl (by kernel_rfl) ?_
  refine zlEnd (by kernel_rfl) ?_
  refine zkSeq ?_
  refine zrSeq ?_
  refine zrReg ?_
  refine zlRun (n := 2) (j := 2) rfl (by kernel_rfl) ?_
  refine bindE hS (fun z24 hz24 hS => ?_)
  refine zlOp (d := some 10) (op := (.call 21 [(.tmp 8), (.tmp 9)])) (g := none) (v := (.d (.int .i64 z24))) (ups := []) (j := 3) rfl (by kernel_rfl) (by kernel_rfl) (ev_call (args := [(.r (.msl 0 0 0 a1.length)), (.fn 16 [])]) (l := [(.d (.sl a1.length ((eInt .i64).cells a1))), (.fn 16 [])]) (r := (.d (.int .i64 z24))) (by kernel_rfl) (l_cons (l_own (eInt .i64) (e := 3) (k := 1) (xs := a1) (by kernel_rfl) rfl rfl) (l_cons (by kernel_rfl) l_nil)) (f21_ok (d - 1) (dpt hd rfl) a1 z24 hz24) (by kernel_rfl) (by kernel_rfl) (by kernel_rfl)) ?_
  refine zlRun (n := 1) (j := 4) rfl (by kernel_rfl) ?_
  refine zlEnd (by kernel_rfl) ?_
  refine zkSeq ?_
  refine zrSeq ?_
  refine zrSeq ?_
  refine zrReg ?_
  refine zlRun (n := 1) (j := 1) rfl (by kernel_rfl) ?_
  refine zlBool (d := 12) (op := (.cmpI .eql (.tmp 11) (.const (.int .i64 (-1))))) (g := none) (j := 2) (decide (z24 = (-1))) rfl (by kernel_rfl) (by kernel_rfl) (by kernel_rfl) (fun hc => ?_) (fun hc => ?_)
  · replace hS := cond_t hc hS
    refine zlEnd (by kernel_rfl) ?_
    refine zkSeq ?_
    refine zrCondT (by kernel_rfl) ?_
    refine zrSeq ?_
    refine zrReg ?_
    refine zlRun (n := 2) (j := 2) rfl (by kernel_rfl) ?_
    refine zlEnd (by kernel_rfl) ?_
    refine zkSeq ?_
    refine zrRet ?_
    refine zkSeqR ?_
    refine zkNil ?_
    exact endQ hS hQ (fRet ((congrArg (fun s => outR s 1 c15.res) (by kernel_rfl : finSt c15.fin _ = f15_fin a1)).trans (f15_out a1)))
  · replace hS := cond_f hc hS
    refine zlEnd (by kernel_rfl) ?_
    refine zkSeq ?_
    refine zrCondF (by kernel_rfl) ?_
    refine zrSkip ?_
    refine zkSeq ?_
    exact f15_j0_ok hd a1 hQ z24 hS (by kernel_rfl)
/- farwriter/farkeep.UtfAscii -/
def f6_fin (p43 : Bool) : St := ⟨(up (fun _ => .un) 4 (.d (.bool p43))), (hB fun _ => 0)⟩
theorem f6_out (p43 : Bool) : outR (f6_fin p43) 0 c6.res = some ((.d (.bool p43)), []) := by
  kernel_rfl
def f6_Q (r : Bool) (e : PX) (st : St) : Prop := DoneF c6 0 ((.d (.bool r)), []) e st
def f6_l1_J (a1 : List UInt8) (a2 : List UInt8) (x : (List Int) × (List Int) × Int) : St := ⟨(up (up (up (up (up (fun _ => .un) 26 (.d (.int .i64 x.2.2))) 25 (.d (.int .i64 (a2.length : Int)))) 8 (.r (.msl 72 0 0 x.2.1.length))) 6 (.r (.msl 112 0 0 x.1.length))) 1 (.d (.str a2))), (up (up (hB fun _ => 0) 72 ⟨0, some (.own 3 1 ((eInt .i64).cells x.2.1))⟩) 112 ⟨0, some (.own 3 1 ((eInt .i64).cells x.1))⟩)⟩
def f6_l1_H (a1 : List UInt8) (a2 : List UInt8) (x : (List Int) × (List Int) × Int) (st : St) : Prop := keepSt [1, 6, 8, 25, 26] [(112, .id 112), (72, .id 72)] [] st = f6_l1_J a1 a2 x
def f6_l1_e0_J (a1 : List UInt8) (a2 : List UInt8) (p85 : List Int) (p86 : List Int) : St := ⟨(up (up (fun _ => .un) 8 (.r (.msl 72 0 0 p86.length))) 6 (.r (.msl 112 0 0 p85.length))), (up (up (hB fun _ => 0) 72 ⟨0, some (.own 3 1 ((eInt .i64).cells p86))⟩) 112 ⟨0, some (.own 3 1 ((eInt .i64).cells p85))⟩)⟩
def f6_l1_X (a1 : List UInt8) (a2 : List UInt8) (z : ((List Int) × (List Int))) (e : PX) (st : St) : Prop := e = .exit 0 ∧ st = f6_l1_e0_J a1 a2 z.1 z.2
def f6_l1_j3_J (a1 : List UInt8) (a2 : List UInt8) (p95 : List Int) (p96 : List Int) (p97 : Int) : St := ⟨(up (up (up (up (up (fun _ => .un) 26 (.d (.int .i64 p97))) 25 (.d (.int .i64 (a2.length : Int)))) 8 (.r (.msl 72 0 0 p96.length))) 6 (.r (.msl 112 0 0 p95.length))) 1 (.d (.str a2))), (up (up (hB fun _ => 0) 72 ⟨0, some (.own 3 1 ((eInt .i64).cells p96))⟩) 112 ⟨0, some (.own 3 1 ((eInt .i64).cells p95))⟩)⟩
noncomputable def f6_l1_j3 (a1 : List UInt8) (a2 : List UInt8) (p95 : List Int) (p96 : List Int) (p97 : Int) : Option (((List Int) × (List Int) × Int) ⊕ (((List Int) × (List Int)))) := ((idx a2 p97).bind fun z29 => (bif (decide ((z29.toNat : Int) < 128)) then ((idx a2 p97).bind fun z30 => ((app? 8 p96 ([(z30.toNat : Int)] : List Int)).bind fun z31 => (some (.inl (p95, z31, (IntKind.i64.wrap (p97 + 1))))))) else (some (.inl (p95, p96, (IntKind.i64.wrap (p97 + 1)))))))
theorem f6_l1_j3_ok {d : Nat} (hd : 6 ≤ d) (a1 : List UInt8) (a2 : List UInt8) {r : ((List Int) × (List Int) × Int) ⊕ (((List Int) × (List Int)))} {Q : PX → St → Prop} (hQ : ∀ e st', finL (f6_l1_H a1 a2) (f6_l1_X a1 a2) r e st' → Q e st') (p95 : List Int) (p96 : List Int) (p97 : Int) (hS : f6_l1_j3 a1 a2 p95 p96 p97 = some r) {st : St} (he : keepSt [1, 6, 8, 25, 26] [(112, .id 112), (72, .id 72)] [] st = f6_l1_j3_J a1 a2 p95 p96 p97) : ZR (lev codes baseL (d - 1)) Q c6_1 [] st := by
  refine zrKeep he ?_
  unfold f6_l1_j3 at hS
  refine zrSeq ?_
  refine zrBlk ?_
  refine zrSeq ?_
  refine zrReg ?_
  refine zlRun (n := 2) (j := 2) rfl (by kernel_rfl) ?_
  refine zlEnd (by kernel_rfl) ?_
  refine zkSeq ?_
  refine zrSeq ?_
  refine zrReg ?_
  refine zlRun (n := 2) (j := 2) rfl (by kernel_rfl) ?_
  refine bindE hS (fun z29 hz29 hS => ?_)
  refine zlOp (d := some 31) (op := (.ixStr (.tmp 29) (.tmp 30))) (g := none) (v := (.d (.int .u8 (z29.toNat : Int)))) (ups := []) (j := 3) rfl (by kernel_rfl) (by kernel_rfl) (ev_ixStr (kk := .i64) (s := a2) (j := p97) (by kernel_rfl) (by kernel_rfl) hz29) ?_
  refine zlBool (d := 32) (op := (.cmpI .lss (.tmp 31) (.const (.int .u8 128)))) (g := none) (j := 4) (decide ((z29.toNat : Int) < 128)) rfl (by kernel_rfl) (by kernel_rfl) (by kernel_rfl) (fun hc => ?_) (fun hc => ?_)
  · replace hS := cond_t hc hS
    refine zlEnd (by kernel_rfl) ?_
    refine zkSeq ?_
    refine zrCondT (by kernel_rfl) ?_
    refine zrReg ?_
    refine zlRun (n := 3) (j := 3) rfl (by kernel_rfl) ?_
    refine bindE hS (fun z30 hz30 hS => ?_)
    refine zlOp (d := some 36) (op := (.ixStr (.tmp 34) (.tmp 35))) (g := none) (v := (.d (.int .u8 (z30.toNat : Int)))) (ups := []) (j := 4) rfl (by kernel_rfl) (by kernel_rfl) (ev_ixStr (kk := .i64) (s := a2) (j := p97) (by kernel_rfl) (by kernel_rfl) hz30) ?_
    refine zlOp (d := some 37) (op := (.cvI .i64 (.tmp 36))) (g := none) (v := (.d (.int .i64 (z30.toNat : Int)))) (ups := []) (j := 5) rfl (by kernel_rfl) (by kernel_rfl) (ev_cv (kk := .u8) (a := (z30.toNat : Int)) (by kernel_rfl) (cv_i64 _)) ?_
    refine zlRun (n := 1) (j := 6) rfl (by kernel_rfl) ?_
    refine bindE hS (fun z31 hz31 hS => ?_)
    refine zlOp (d := some 39) (op := (.app 3 1 8 (.tmp 33) (.tmp 38))) (g := none) (v := (.r (.msl 72 1 0 z31.length))) (ups := [(72, ⟨1, some (.own 3 1 ((eInt .i64).cells z31))⟩)]) (j := 7) rfl (by kernel_rfl) (by kernel_rfl) (ev_app (eInt .i64) (b := 72) (g := 0) (n := p96.length) (xs := p96) (ys := [(z30.toNat : Int)]) ((congrArg (asL _) (by kernel_rfl : ρof _ (.tmp 38) = (.r (.msl 312 1 0 (([(z30.toNat : Int)] : List Int).length))))).trans (as_whole (eInt .i64) (e := 3) (k := 1) (xs := [(z30.toNat : Int)]) (by kernel_rfl) rfl rfl)) rfl (by kernel_rfl) rfl (by kernel_rfl) rfl hz31) ?_
    refine zlRun (n := 1) (j := 8) rfl (by kernel_rfl) ?_
    refine zlEnd (by kernel_rfl) ?_
    refine zkBlk ?_
    refine zkSeq ?_
    refine zrReg ?_
    refine zlRun (n := 2) (j := 2) rfl (by kernel_rfl) ?_
    refine zlEnd (by kernel_rfl) ?_
    refine zkNil ?_
    exact endQ hS hQ (finL_n (by show keepSt _ _ _ _ = _; kernel_rfl))
  · replace hS := cond_f hc hS
    refine zlEnd (by kernel_rfl) ?_
    refine zkSeq ?_
    refine zrCondF (by kernel_rfl) ?_
    refine zrSkip ?_
    refine zkBlk ?_
    refine zkSeq ?_
    refine zrReg ?_
    refine zlRun (n := 2) (j := 2) rfl (by kernel_rfl) ?_
    refine zlEnd (by kernel_rfl) ?_
    refine zkNil ?_
    exact endQ hS hQ (finL_n (by show keepSt _ _ _ _ = _; kernel_rfl))
def f6_l1_j2_J (a1 : List UInt8) (a2 : List UInt8) (p91 : List Int) (p92 : List Int) (p93 : Int) (p94 : Bool) : St := ⟨(up (up (up (up (up (up (fun _ => .un) 27 (.d (.bool p94))) 26 (.d (.int .i64 p93))) 25 (.d (.int .i64 (a2.length : Int)))) 8 (.r (.msl 72 0 0 p92.length))) 6 (.r (.msl 112 0 0 p91.length))) 1 (.d (.str a2))), (up (up (hB fun _ => 0) 72 ⟨0, some (.own 3 1 ((eInt .i64).cells p92))⟩) 112 ⟨0, some (.own 3 1 ((eInt .i64).cells p91))⟩)⟩
noncomputable def f6_l1_j2 (a1 : List UInt8) (a2 : List UInt8) (p91 : List Int) (p92 : List Int) (p93 : Int) (p94 : Bool) : Option (((List Int) × (List Int) × Int) ⊕ (((List Int) × (List Int)))) := (bif p94 then (f6_l1_j3 a1 a2 p91 p92 p93) else (some (.inr (p91, p92))))
theorem f6_l1_j2_ok {d : Nat} (hd : 6 ≤ d) (a1 : List UInt8) (a2 : List UInt8) {r : ((List Int) × (List Int) × Int) ⊕ (((List Int) × (List Int)))} {Q : PX → St → Prop} (hQ : ∀ e st', finL (f6_l1_H a1 a2) (f6_l1_X a1 a2) r e st' → Q e st') (p91 : List Int) (p92 : List Int) (p93 : Int) (p94 : Bool) (hS : f6_l1_j2 a1 a2 p91 p92 p93 p94 = some r) {st : St} (he : keepSt [1, 6, 8, 25, 26, 27] [(112, .id 112), (72, .id 72)] [] st = f6_l1_j2_J a1 a2 p91 p92 p93 p94) : ZR (lev codes baseL (d - 1)) Q c6_2 [] st := by
  refine zrKeep he ?_
  unfold f6_l1_j2 at hS
  refine zrSeq ?_
  refine zrSplit 27 p94 (by kernel_rfl) (fun hc => ?_) (fun hc => ?_)
  · replace hS := cond_t hc hS
    refine zrCondT (by kernel_rfl) ?_
    refine zrSkip ?_
    refine zkSeq ?_
    exact f6_l1_j3_ok hd a1 a2 hQ p91 p92 p93 hS (by kernel_rfl)
  · replace hS := cond_f hc hS
    refine zrCondF (by kernel_rfl) ?_
    refine zrKeep (J := f6_l1_e0_J a1 a2 p91 p92) (by kernel_rfl) ?_
    refine zrExit ?_
    refine zkSeqX ?_
    refine zkNil ?_
    exact endQ hS hQ (finL_x (by intro h; cases h) (by show _ = _ ∧ _ = _; exact ⟨rfl, rfl⟩))
noncomputable def f6_l1 (a1 : List UInt8) (a2 : List UInt8) (x : (List Int) × (List Int) × Int) : Option (((List Int) × (List Int) × Int) ⊕ (((List Int) × (List Int)))) := (bif (decide (x.2.2 < (a2.length : Int))) then (f6_l1_j2 a1 a2 x.1 x.2.1 x.2.2 true) else (f6_l1_j2 a1 a2 x.1 x.2.1 x.2.2 false))
theorem f6_l1_ok {d : Nat} (hd : 6 ≤ d) (a1 : List UInt8) (a2 : List UInt8) {r : ((List Int) × (List Int) × Int) ⊕ (((List Int) × (List Int)))} {Q : PX → St → Prop} (hQ : ∀ e st', finL (f6_l1_H a1 a2) (f6_l1_X a1 a2) r e st' → Q e st') {x : (List Int) × (List Int) × Int} (hS : f6_l1 a1 a2 x = some r) {st : St} (he : f6_l1_H a1 a2 x st) : ZR (lev codes baseL (d - 1)) Q c6_3 [] st := by
  refine zrKeep he ?_
  unfold f6_l1 at hS
  refine zrSeq ?_
  refine zrReg ?_
  refine zlBool (d := 27) (op := (.cmpI .lss (.tmp 26) (.tmp 25))) (g := none) (j := 1) (decide (x.2.2 < (a2.length : Int))) rfl (by kernel_rfl) (by kernel_rfl) (by kernel_rfl) (fun hc => ?_) (fun hc => ?_)
  · replace hS := cond_t hc hS
    refine zlEnd (by kernel_rfl) ?_
    refine zkSeq ?_
    exact f6_l1_j2_ok hd a1 a2 hQ x.1 x.2.1 x.2.2 true hS (by kernel_rfl)
  · replace hS := cond_f hc hS
    refine zlEnd (by kernel_rfl) ?_
    refine zkSeq ?_
    exact f6_l1_j2_ok hd a1 a2 hQ x.1 x.2.1 x.2.2 false hS (by kernel_rfl)
def f6_j0_J (a1 : List UInt8) (a2 : List UInt8) (p47 : List Int) : St := ⟨(up (up (fun _ => .un) 6 (.r (.msl 112 0 0 p47.length))) 1 (.d (.str a2))), (up (hB fun _ => 0) 112 ⟨0, some (.own 3 1 ((eInt .i64).cells p47))⟩)⟩
noncomputable def f6_j0 (a1 : List UInt8) (a2 : List UInt8) (p47 : List Int) : Option (Bool) := ((loopO (f6_l1 a1 a2) (p47, [], 0)).bind fun z32 => ((f13 z32.1).bind fun z33 => ((f15 z33).bind fun z34 => ((f12 z34 z32.2).bind fun z35 => (some z35)))))
theorem f6_j0_ok {d : Nat} (hd : 6 ≤ d) (a1 : List UInt8) (a2 : List UInt8) {r : Bool} {Q : PX → St → Prop} (hQ : ∀ e st', f6_Q r e st' → Q e st') (p47 : List Int) (hS : f6_j0 a1 a2 p47 = some r) {st : St} (he : keepSt [1, 6] [(112, .id 112)] [] st = f6_j0_J a1 a2 p47) : ZR (lev codes baseL (d - 1)) Q c6_4 [] st := by
  refine zrKeep he ?_
  unfold f6_j0 at hS
  refine zrSeq ?_
  refine zrReg ?_
  refine zlRun (n := 1) (j := 1) rfl (by kernel_rfl) ?_
  refine zlEnd (by kernel_rfl) ?_
  refine zkSeq ?_
  refine zrSeq ?_
  refine zrSeq ?_
  refine zrReg ?_
  refine zlRun (n := 3) (j := 3) rfl (by kernel_rfl) ?_
  refine zlEnd (by kernel_rfl) ?_
  refine zkSeq ?_
  refine zrBlk ?_
  refine bindE hS (fun z32 hz32 hS => ?_)
  refine zrLoop (f6_l1_H a1 a2) (f6_l1_X a1 a2) (fun x st r Q h0 hS hQ => f6_l1_ok hd a1 a2 hQ hS h0) (x := (p47, [], 0)) (z := z32) (by show keepSt _ _ _ _ = _; kernel_rfl) hz32 ?_
  intro e st' _ hX
  obtain ⟨rfl, rfl⟩ : _ ∧ _ := hX
  refine zkBlkX ?_
  refine zkSeq ?_
  refine zrSeq ?_
  refine zrReg ?_
  refine zlRun (n := 1) (j := 1) rfl (by kernel_rfl) ?_
  refine bindE hS (fun z33 hz33 hS => ?_)
  refine zlOp (d := some 42) (op := (.call 13 [(.tmp 41)])) (g := none) (v := (.r (.msl 344 1 0 z33.length))) (ups := [(344, ⟨1, some (.own 3 1 ((eInt .i64).cells z33))⟩)]) (j := 2) rfl (by kernel_rfl) (by kernel_rfl) (ev_call (args := [(.r (.msl 112 0 0 z32.1.length))]) (l := [(.d (.sl z32.1.length ((eInt .i64).cells z32.1)))]) (r := (.r (.own 0 3 1 z33.length ((eInt .i64).cells z33)))) (by kernel_rfl) (l_cons (l_own (eInt .i64) (e := 3) (k := 1) (xs := z32.1) (by kernel_rfl) rfl rfl) l_nil) (f13_ok (d - 1) (dpt hd rfl) z32.1 z33 hz33) (by simp only [free_own (eInt .i64) (fun _ => rfl), free_tup, free_agg, free_nl, free_cs, free_int, free_bool, free_str, free_un, free_ni, free_s0, Bool.and_true, Bool.or_true, Bool.and_self]) (by kernel_rfl) (by kernel_rfl)) ?_
  refine bindE hS (fun z34 hz34 hS => ?_)
  refine zlOp (d := some 43) (op := (.callr 15 [(.tmp 42), (.func 16)])) (g := none) (v := (.r (.msl 344 2 0 z34.length))) (ups := [(344, ⟨2, some (.own 3 1 ((eInt .i64).cells z34))⟩)]) (j := 3) rfl (by kernel_rfl) (by kernel_rfl) (ev_callr (args := [(.r (.msl 344 1 0 z33.length)), (.fn 16 [])]) (ids := [344]) (bs := [(.own 3 1 ((eInt .i64).cells z33))]) (l := [(.r (.msl 0 0 0 z33.length)), (.fn 16 [])]) (bt := [(.own 3 1 ((eInt .i64).cells z33))]) (r := (.r (.msl 0 0 0 z34.length))) (bs' := [(.own 3 1 ((eInt .i64).cells z34))]) (by kernel_rfl) (by kernel_rfl) (by kernel_rfl) (by kernel_rfl) (by kernel_rfl) (f15_ok (d - 1) (dpt hd rfl) z33 z34 hz34) (by kernel_rfl) (by kernel_rfl)) ?_
  refine zlRun (n := 1) (j := 4) rfl (by kernel_rfl) ?_
  refine bindE hS (fun z35 hz35 hS => ?_)
  refine zlOp (d := some 45) (op := (.call 12 [(.tmp 43), (.tmp 44)])) (g := none) (v := (.d (.bool z35))) (ups := []) (j := 5) rfl (by kernel_rfl) (by kernel_rfl) (ev_call (args := [(.r (.msl 344 2 0 z34.length)), (.r (.msl 72 0 0 z32.2.length))]) (l := [(.d (.sl z34.length ((eInt .i64).cells z34))), (.d (.sl z32.2.length ((eInt .i64).cells z32.2)))]) (r := (.d (.bool z35))) (by kernel_rfl) (l_cons (l_own (eInt .i64) (e := 3) (k := 1) (xs := z34) (by kernel_rfl) rfl rfl) (l_cons (l_own (eInt .i64) (e := 3) (k := 1) (xs := z32.2) (by kernel_rfl) rfl rfl) l_nil)) (f12_ok (d - 1) (dpt hd rfl) z34 z32.2 z35 hz35) (by kernel_rfl) (by kernel_rfl) (by kernel_rfl)) ?_
  refine zlRun (n := 1) (j := 6) rfl (by kernel_rfl) ?_
  refine zlEnd (by kernel_rfl) ?_
  refine zkSeq ?_
  refine zrRet ?_
  refine zkNil ?_
  exact endQ hS hQ (fRet ((congrArg (fun s => outR s 0 c6.res) (by kernel_rfl : finSt c6.fin _ = f6_fin z35)).trans (f6_out z35)))
noncomputable def f6 (a1 : List UInt8) (a2 : List UInt8) : Option (Bool) := ((f7 a1 a2).bind fun z16 => (f8.bind fun z36 => (bif (!z36) then (f8.bind fun z37 => (some z37)) else (bif (!decide (z16.2.2 = 0)) then (f8.bind fun z38 => (some z38)) else (f6_j0 a1 a2 z16.2.1)))))
theorem f6_ok (d : Nat) (hd : 6 ≤ d) (a1 : List UInt8) (a2 : List UInt8) (r : Bool) (hS : f6 a1 a2 = some r) : lev codes baseL d 6 [(.d (.str a1)), (.d (.str a2))] [] = some ((.d (.bool r)), []) := by
  refine lev_go codes6 rfl rfl (Nat.le_trans (Nat.le_of_ble_eq_true rfl) hd) fun Q hQ => ?_
  unfold f6 at hS
  show ZR _ Q c6_b [] _
  replace hQ : ∀ e st', f6_Q r e st' → Q e st' := hQ
  refine zrSeq ?_
  refine zrReg ?_
  refine zlRun (n := 1) (j := 1) rfl (by kernel_rfl) ?_
  refine zlEnd (by kernel_rfl) ?_
  refine zkSeq ?_
  refine zrSeq ?_
  refine zrReg ?_
  refine zlRun (n := 2) (j := 2) rfl (by kernel_rfl) ?_
  refine bindE hS (fun z16 hz16 hS => ?_)
  refine zlOp (d := some 13) (op := (.call 7 [(.tmp 11), (.tmp 12)])) (g := none) (v := (.tup [(.d (.str z16.1)), (.r (.msl 112 1 0 z16.2.1.length)), (.d (.int .i64 z16.2.2))])) (ups := [(112, ⟨1, some (.own 3 1 ((eInt .i64).cells z16.2.1))⟩)]) (j := 3) rfl (by kernel_rfl) (by kernel_rfl) (ev_call (args := [(.d (.str a1)), (.d (.str a2))]) (l := [(.d (.str a1)), (.d (.str a2))]) (r := (.tup [(.d (.str z16.1)), (.r (.own 0 3 1 z16.2.1.length ((eInt .i64).cells z16.2.1))), (.d (.int .i64 z16.2.2))])) (by kernel_rfl) (by kernel_rfl) (f7_ok (d - 1) (dpt hd rfl) a1 a2 z16 hz16) (by kernel_rfl) (by kernel_rfl) (by kernel_rfl)) ?_
  refine zlRun (n := 7) (j := 10) rfl (by kernel_rfl) ?_
  refine zlEnd (by kernel_rfl) ?_
  refine zkSeq ?_
  refine zrSeq ?_
  refine zrSeq ?_
  refine zrReg ?_
  refine bindE hS (fun z36 hz36 hS => ?_)
  refine zlOp (d := some 17) (op := (.call 8 [])) (g := none) (v := (.d (.bool z36))) (ups := []) (j := 1) rfl (by kernel_rfl) (by kernel_rfl) (ev_call (args := []) (l := []) (r := (.d (.bool z36))) (by kernel_rfl) (by kernel_rfl) (f8_ok (d - 1) (dpt hd rfl)  z36 hz36) (by kernel_rfl) (by kernel_rfl) (by kernel_rfl)) ?_
  refine zlRun (n := 2) (j := 3) rfl (by kernel_rfl) ?_
  refine zlSplit 19 (!z36) (by kernel_rfl) (fun hc => ?_) (fun hc => ?_)
  · replace hS := cond_t hc hS
    refine zlRun (n := 3) (j := 6) rfl (by kernel_rfl) ?_
    refine zlEnd (by kernel_rfl) ?_
    refine zkSeq ?_
    refine zrCondT (by kernel_rfl) ?_
    refine zrSeq ?_
    refine zrReg ?_
    refine bindE hS (fun z37 hz37 hS => ?_)
    refine zlOp (d := some 23) (op := (.call 8 [])) (g := none) (v := (.d (.bool z37))) (ups := []) (j := 1) rfl (by kernel_rfl) (by kernel_rfl) (ev_call (args := []) (l := []) (r := (.d (.bool z37))) (by kernel_rfl) (by kernel_rfl) (f8_ok (d - 1) (dpt hd rfl)  z37 hz37) (by kernel_rfl) (by kernel_rfl) (by kernel_rfl)) ?_
    refine zlRun (n := 1) (j := 2) rfl (by kernel_rfl) ?_
    refine zlEnd (by kernel_rfl) ?_
    refine zkSeq ?_
    refine zrRet ?_
    refine zkSeqR ?_
    refine zkNil ?_
    exact endQ hS hQ (fRet ((congrArg (fun s => outR s 0 c6.res) (by kernel_rfl : finSt c6.fin _ = f6_fin z37)).trans (f6_out z37)))
  · replace hS := cond_f hc hS
    refine zlRun (n := 1) (j := 4) rfl (by kernel_rfl) ?_
    refine zlBool (d := 21) (op := (.cmpI .neq (.tmp 20) (.const (.int .i64 0)))) (g := (some (19, false))) (j := 5) (!decide (z16.2.2 = 0)) rfl (by kernel_rfl) (by kernel_rfl) (by kernel_rfl) (fun hc => ?_) (fun hc => ?_)
    · replace hS := cond_t hc hS
      refine zlRun (n := 1) (j := 6) rfl (by kernel_rfl) ?_
      refine zlEnd (by kernel_rfl) ?_
      refine zkSeq ?_
      refine zrCondT (by kernel_rfl) ?_
      refine zrSeq ?_
      refine zrReg ?_
      refine bindE hS (fun z38 hz38 hS => ?_)
      refine zlOp (d := some 23) (op := (.call 8 [])) (g := none) (v := (.d (.bool z38))) (ups := []) (j := 1) rfl (by kernel_rfl) (by kernel_rfl) (ev_call (args := []) (l := []) (r := (.d (.bool z38))) (by kernel_rfl) (by kernel_rfl) (f8_ok (d - 1) (dpt hd rfl)  z38 hz38) (by kernel_rfl) (by kernel_rfl) (by kernel_rfl)) ?_
      refine zlRun (n := 1) (j := 2) rfl (by kernel_rfl) ?_
      refine zlEnd (by kernel_rfl) ?_
      refine zkSeq ?_
      refine zrRet ?_
      refine zkSeqR ?_
      refine zkNil ?_
      exact endQ hS hQ (fRet ((congrArg (fun s => outR s 0 c6.res) (by kernel_rfl : finSt c6.fin _ = f6_fin z38)).trans (f6_out z38)))
    · replace hS := cond_f hc hS
      refine zlRun (n := 1) (j := 6) rfl (by kernel_rfl) ?_
      refine zlEnd (by kernel_rfl) ?_
      refine zkSeq ?_
      refine zrCondF (by kernel_rfl) ?_
      refine zrSkip ?_
      refine zkSeq ?_
      exact f6_j0_ok hd a1 a2 hQ z16.2.1 hS (by kernel_rfl)
end Go.Proofs.YtohecbgpjpfncaaDoor.Pm
