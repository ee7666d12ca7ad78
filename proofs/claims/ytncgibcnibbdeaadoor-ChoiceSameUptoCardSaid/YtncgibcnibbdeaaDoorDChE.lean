/- Typed functions, and that the codes are these. Printed by dec.py. -/
import Derived.Test.YtncgibcnibbdeaaDoorDChD
namespace Go.Proofs.YtncgibcnibbdeaaDoor.Pm
set_option maxRecDepth 1000000
set_option maxHeartbeats 20000000
set_option linter.unusedVariables false
/- farwriter/farkeep.ChoiceMeets -/
def f4_fin (p289 : Bool) : St := ⟨(up (fun _ => .un) 4 (.d (.bool p289))), (hB fun _ => 0)⟩
theorem f4_out (p289 : Bool) : outR (f4_fin p289) 0 c4.res = some ((.d (.bool p289)), []) := by
  kernel_rfl
def f4_Q (r : Bool) (e : PX) (st : St) : Prop := DoneF c4 0 ((.d (.bool r)), []) e st
def f4_j2_J (a1 : List (List UInt8)) (a2 : List (List UInt8)) (p579 : List UInt8) (p580 : List UInt8) (p581 : List UInt8) (p582 : Int) : St := ⟨(up (up (up (up (fun _ => .un) 11 (.d (.int .i64 p582))) 10 (.d (.str p581))) 8 (.d (.str p580))) 7 (.d (.str p579))), (hB fun _ => 0)⟩
noncomputable def f4_j2 (a1 : List (List UInt8)) (a2 : List (List UInt8)) (p579 : List UInt8) (p580 : List UInt8) (p581 : List UInt8) (p582 : Int) : Option (Bool) := (bif (decide (p582 = 6)) then (bif (decide (p581 = ([] : List UInt8))) then (bif (decide (p580 = ([] : List UInt8))) then (bif (decide (p579 = ([3] : List UInt8))) then (some true) else (some false)) else (some false)) else (some false)) else (some false))
theorem f4_j2_ok {d : Nat} (hd : 7 ≤ d) (a1 : List (List UInt8)) (a2 : List (List UInt8)) {r : Bool} {Q : PX → St → Prop} (hQ : ∀ e st', f4_Q r e st' → Q e st') (p579 : List UInt8) (p580 : List UInt8) (p581 : List UInt8) (p582 : Int) (hS : f4_j2 a1 a2 p579 p580 p581 p582 = some r) {st : St} (he : keepSt [7, 8, 10, 11] [] [] st = f4_j2_J a1 a2 p579 p580 p581 p582) : ZR (lev codes baseL (d - 1)) Q c4_1 [] st := by
  refine zrKeep he ?_
  unfold f4_j2 at hS
  refine zrSeq ?_
  refine zrReg ?_
  refine zlRun (n := 1) (j := 1) rfl (by kernel_rfl) ?_
  refine zlBool (d := 81) (op := (.cmpI .eql (.tmp 80) (.const (.int .i64 6)))) (g := none) (j := 2) (decide (p582 = 6)) rfl (by kernel_rfl) (by kernel_rfl) (by kernel_rfl) (fun hc => ?_) (fun hc => ?_)
  · replace hS := cond_t hc hS
    refine zlRun (n := 2) (j := 4) rfl (by kernel_rfl) ?_
    refine zlBool (d := 84) (op := (.strO .eql (.tmp 83) (.const (.string ⟨#[]⟩)))) (g := (some (82, true))) (j := 5) (decide (p581 = ([] : List UInt8))) rfl (by kernel_rfl) (by kernel_rfl) (by kernel_rfl) (fun hc => ?_) (fun hc => ?_)
    · replace hS := cond_t hc hS
      refine zlRun (n := 3) (j := 8) rfl (by kernel_rfl) ?_
      refine zlBool (d := 88) (op := (.strO .eql (.tmp 87) (.const (.string ⟨#[]⟩)))) (g := (some (86, true))) (j := 9) (decide (p580 = ([] : List UInt8))) rfl (by kernel_rfl) (by kernel_rfl) (by kernel_rfl) (fun hc => ?_) (fun hc => ?_)
      · replace hS := cond_t hc hS
        refine zlRun (n := 3) (j := 12) rfl (by kernel_rfl) ?_
        refine zlBool (d := 92) (op := (.strO .eql (.tmp 91) (.const (.string ⟨#[3]⟩)))) (g := (some (90, true))) (j := 13) (decide (p579 = ([3] : List UInt8))) rfl (by kernel_rfl) (by kernel_rfl) (by kernel_rfl) (fun hc => ?_) (fun hc => ?_)
        · replace hS := cond_t hc hS
          refine zlRun (n := 2) (j := 15) rfl (by kernel_rfl) ?_
          refine zlEnd (by kernel_rfl) ?_
          refine zkSeq ?_
          refine zrRet ?_
          refine zkNil ?_
          exact endQ hS hQ (fRet ((congrArg (fun s => outR s 0 c4.res) (by kernel_rfl : finSt c4.fin _ = f4_fin true)).trans (f4_out true)))
        · replace hS := cond_f hc hS
          refine zlRun (n := 2) (j := 15) rfl (by kernel_rfl) ?_
          refine zlEnd (by kernel_rfl) ?_
          refine zkSeq ?_
          refine zrRet ?_
          refine zkNil ?_
          exact endQ hS hQ (fRet ((congrArg (fun s => outR s 0 c4.res) (by kernel_rfl : finSt c4.fin _ = f4_fin false)).trans (f4_out false)))
      · replace hS := cond_f hc hS
        refine zlRun (n := 6) (j := 15) rfl (by kernel_rfl) ?_
        refine zlEnd (by kernel_rfl) ?_
        refine zkSeq ?_
        refine zrRet ?_
        refine zkNil ?_
        exact endQ hS hQ (fRet ((congrArg (fun s => outR s 0 c4.res) (by kernel_rfl : finSt c4.fin _ = f4_fin false)).trans (f4_out false)))
    · replace hS := cond_f hc hS
      refine zlRun (n := 10) (j := 15) rfl (by kernel_rfl) ?_
      refine zlEnd (by kernel_rfl) ?_
      refine zkSeq ?_
      refine zrRet ?_
      refine zkNil ?_
      exact endQ hS hQ (fRet ((congrArg (fun s => outR s 0 c4.res) (by kernel_rfl : finSt c4.fin _ = f4_fin false)).trans (f4_out false)))
  · replace hS := cond_f hc hS
    refine zlRun (n := 13) (j := 15) rfl (by kernel_rfl) ?_
    refine zlEnd (by kernel_rfl) ?_
    refine zkSeq ?_
    refine zrRet ?_
    refine zkNil ?_
    exact endQ hS hQ (fRet ((congrArg (fun s => outR s 0 c4.res) (by kernel_rfl : finSt c4.fin _ = f4_fin false)).trans (f4_out false)))
def f4_l3_J (a1 : List (List UInt8)) (a2 : List (List UInt8)) (x : (List UInt8) × (List UInt8) × (List UInt8) × Int × Int) : St := ⟨(up (up (up (up (up (up (up (up (fun _ => .un) 49 (.d (.int .i64 x.2.2.2.2))) 48 (.d (.int .i64 (a1.length : Int)))) 47 (.d (.sl a1.length (eStr.cells a1)))) 11 (.d (.int .i64 x.2.2.2.1))) 10 (.d (.str x.2.2.1))) 8 (.d (.str x.2.1))) 7 (.d (.str x.1))) 1 (.d (.sl a2.length (eStr.cells a2)))), (hB fun _ => 0)⟩
def f4_l3_H (a1 : List (List UInt8)) (a2 : List (List UInt8)) (x : (List UInt8) × (List UInt8) × (List UInt8) × Int × Int) (st : St) : Prop := keepSt [1, 7, 8, 10, 11, 47, 48, 49] [] [] st = f4_l3_J a1 a2 x
def f4_l3_e0_J (a1 : List (List UInt8)) (a2 : List (List UInt8)) (p575 : List UInt8) (p576 : List UInt8) (p577 : List UInt8) (p578 : Int) : St := ⟨(up (up (up (up (fun _ => .un) 11 (.d (.int .i64 p578))) 10 (.d (.str p577))) 8 (.d (.str p576))) 7 (.d (.str p575))), (hB fun _ => 0)⟩
def f4_l3_X (a1 : List (List UInt8)) (a2 : List (List UInt8)) (z : ((List UInt8) × (List UInt8) × (List UInt8) × Int) ⊕ Bool) (e : PX) (st : St) : Prop := (match z with | .inl z => e = .exit 0 ∧ st = f4_l3_e0_J a1 a2 z.1 z.2.1 z.2.2.1 z.2.2.2 | .inr z => e = .ret ∧ finSt c4.fin st = f4_fin z)
def f4_l3_l6_J (a1 : List (List UInt8)) (a2 : List (List UInt8)) (x : (List UInt8) × (List UInt8) × (List UInt8) × Int × (List UInt8) × Int × Int) : St := ⟨(up (up (up (up (up (up (up (up (up (up (up (up (fun _ => .un) 55 (.d (.int .i64 x.2.2.2.2.2.2))) 54 (.d (.int .i64 (a2.length : Int)))) 53 (.d (.sl a2.length (eStr.cells a2)))) 49 (.d (.int .i64 x.2.2.2.2.2.1))) 48 (.d (.int .i64 (a1.length : Int)))) 47 (.d (.sl a1.length (eStr.cells a1)))) 13 (.d (.str x.2.2.2.2.1))) 11 (.d (.int .i64 x.2.2.2.1))) 10 (.d (.str x.2.2.1))) 8 (.d (.str x.2.1))) 7 (.d (.str x.1))) 1 (.d (.sl a2.length (eStr.cells a2)))), (hB fun _ => 0)⟩
def f4_l3_l6_H (a1 : List (List UInt8)) (a2 : List (List UInt8)) (x : (List UInt8) × (List UInt8) × (List UInt8) × Int × (List UInt8) × Int × Int) (st : St) : Prop := keepSt [1, 7, 8, 10, 11, 13, 47, 48, 49, 53, 54, 55] [] [] st = f4_l3_l6_J a1 a2 x
def f4_l3_l6_e2_J (a1 : List (List UInt8)) (a2 : List (List UInt8)) (p678 : List UInt8) (p679 : List UInt8) (p680 : List UInt8) (p681 : Int) (p682 : Int) : St := ⟨(up (up (up (up (up (up (up (up (fun _ => .un) 49 (.d (.int .i64 p682))) 48 (.d (.int .i64 (a1.length : Int)))) 47 (.d (.sl a1.length (eStr.cells a1)))) 11 (.d (.int .i64 p681))) 10 (.d (.str p680))) 8 (.d (.str p679))) 7 (.d (.str p678))) 1 (.d (.sl a2.length (eStr.cells a2)))), (hB fun _ => 0)⟩
def f4_l3_l6_X (a1 : List (List UInt8)) (a2 : List (List UInt8)) (z : ((List UInt8) × (List UInt8) × (List UInt8) × Int × Int) ⊕ Bool) (e : PX) (st : St) : Prop := (match z with | .inl z => e = .exit 2 ∧ st = f4_l3_l6_e2_J a1 a2 z.1 z.2.1 z.2.2.1 z.2.2.2.1 z.2.2.2.2 | .inr z => e = .ret ∧ finSt c4.fin st = f4_fin z)
def f4_l3_l6_j8_J (a1 : List (List UInt8)) (a2 : List (List UInt8)) (p699 : List UInt8) (p700 : List UInt8) (p701 : List UInt8) (p702 : Int) (p703 : List UInt8) (p704 : Int) (p705 : Int) : St := ⟨(up (up (up (up (up (up (up (up (up (up (up (up (fun _ => .un) 55 (.d (.int .i64 p705))) 54 (.d (.int .i64 (a2.length : Int)))) 53 (.d (.sl a2.length (eStr.cells a2)))) 49 (.d (.int .i64 p704))) 48 (.d (.int .i64 (a1.length : Int)))) 47 (.d (.sl a1.length (eStr.cells a1)))) 13 (.d (.str p703))) 11 (.d (.int .i64 p702))) 10 (.d (.str p701))) 8 (.d (.str p700))) 7 (.d (.str p699))) 1 (.d (.sl a2.length (eStr.cells a2)))), (hB fun _ => 0)⟩
noncomputable def f4_l3_l6_j8 (a1 : List (List UInt8)) (a2 : List (List UInt8)) (p699 : List UInt8) (p700 : List UInt8) (p701 : List UInt8) (p702 : Int) (p703 : List UInt8) (p704 : Int) (p705 : Int) : Option (((List UInt8) × (List UInt8) × (List UInt8) × Int × (List UInt8) × Int × Int) ⊕ (((List UInt8) × (List UInt8) × (List UInt8) × Int × Int) ⊕ Bool)) := ((idx a2 p705).bind fun z123 => ((f16 p703).bind fun z126 => ((f16 z123).bind fun z127 => (bif (decide (z126 = z127)) then (bif (decide (p702 = 0)) then ((f16 p701).bind fun z128 => ((f16 p703).bind fun z129 => (bif (decide (z128 = z129)) then (bif (decide (p700 = z123)) then (some (.inr (.inr true))) else (some (.inr (.inr false)))) else (some (.inr (.inr false)))))) else (some (.inr (.inr false)))) else (some (.inl (p699, p700, p701, p702, p703, p704, (IntKind.i64.wrap (p705 + 1)))))))))
theorem f4_l3_l6_j8_ok {d : Nat} (hd : 7 ≤ d) (a1 : List (List UInt8)) (a2 : List (List UInt8)) {r : ((List UInt8) × (List UInt8) × (List UInt8) × Int × (List UInt8) × Int × Int) ⊕ (((List UInt8) × (List UInt8) × (List UInt8) × Int × Int) ⊕ Bool)} {Q : PX → St → Prop} (hQ : ∀ e st', finL (f4_l3_l6_H a1 a2) (f4_l3_l6_X a1 a2) r e st' → Q e st') (p699 : List UInt8) (p700 : List UInt8) (p701 : List UInt8) (p702 : Int) (p703 : List UInt8) (p704 : Int) (p705 : Int) (hS : f4_l3_l6_j8 a1 a2 p699 p700 p701 p702 p703 p704 p705 = some r) {st : St} (he : keepSt [1, 7, 8, 10, 11, 13, 47, 48, 49, 53, 54, 55] [] [] st = f4_l3_l6_j8_J a1 a2 p699 p700 p701 p702 p703 p704 p705) : ZR (lev codes baseL (d - 1)) Q c4_2 [] st := by
  refine zrKeep he ?_
  unfold f4_l3_l6_j8 at hS
  refine zrSeq ?_
  refine zrBlk ?_
  refine zrSeq ?_
  refine zrReg ?_
  refine bindE hS (fun z123 hz123 hS => ?_)
  refine zlOp (d := some 57) (op := (.ixS 9 1 (.tmp 53) (.tmp 55))) (g := none) (v := (.rptr (eStr.enc z123 ++ (eStr.cells (a2.drop ((p705 : Int).toNat + 1)))))) (ups := []) (j := 1) rfl (by kernel_rfl) (by kernel_rfl) (ev_ixS eStr (kk := .i64) (xs := a2) (j := p705) (by kernel_rfl) (by kernel_rfl) hz123 rfl (by intro h; cases h)) ?_
  refine zlRun (n := 2) (j := 3) rfl (by kernel_rfl) ?_
  refine zlEnd (by kernel_rfl) ?_
  refine zkSeq ?_
  refine zrSeq ?_
  refine zrReg ?_
  refine zlRun (n := 1) (j := 1) rfl (by kernel_rfl) ?_
  refine bindE hS (fun z126 hz126 hS => ?_)
  refine zlOp (d := some 60) (op := (.call 16 [(.tmp 59)])) (g := none) (v := (.d (.str z126))) (ups := []) (j := 2) rfl (by kernel_rfl) (by kernel_rfl) (ev_call (args := [(.d (.str p703))]) (l := [(.d (.str p703))]) (r := (.d (.str z126))) (by kernel_rfl) (by kernel_rfl) (f16_ok (d - 1) (dpt hd rfl) p703 z126 hz126) (by kernel_rfl) (by kernel_rfl) (by kernel_rfl)) ?_
  refine zlRun (n := 1) (j := 3) rfl (by kernel_rfl) ?_
  refine bindE hS (fun z127 hz127 hS => ?_)
  refine zlOp (d := some 62) (op := (.call 16 [(.tmp 61)])) (g := none) (v := (.d (.str z127))) (ups := []) (j := 4) rfl (by kernel_rfl) (by kernel_rfl) (ev_call (args := [(.d (.str z123))]) (l := [(.d (.str z123))]) (r := (.d (.str z127))) (by kernel_rfl) (by kernel_rfl) (f16_ok (d - 1) (dpt hd rfl) z123 z127 hz127) (by kernel_rfl) (by kernel_rfl) (by kernel_rfl)) ?_
  refine zlBool (d := 63) (op := (.strO .eql (.tmp 60) (.tmp 62))) (g := none) (j := 5) (decide (z126 = z127)) rfl (by kernel_rfl) (by kernel_rfl) (by kernel_rfl) (fun hc => ?_) (fun hc => ?_)
  · replace hS := cond_t hc hS
    refine zlEnd (by kernel_rfl) ?_
    refine zkSeq ?_
    refine zrCondT (by kernel_rfl) ?_
    refine zrSeq ?_
    refine zrReg ?_
    refine zlRun (n := 1) (j := 1) rfl (by kernel_rfl) ?_
    refine zlBool (d := 65) (op := (.cmpI .eql (.tmp 64) (.const (.int .i64 0)))) (g := none) (j := 2) (decide (p702 = 0)) rfl (by kernel_rfl) (by kernel_rfl) (by kernel_rfl) (fun hc => ?_) (fun hc => ?_)
    · replace hS := cond_t hc hS
      refine zlRun (n := 2) (j := 4) rfl (by kernel_rfl) ?_
      refine bindE hS (fun z128 hz128 hS => ?_)
      refine zlOp (d := some 68) (op := (.call 16 [(.tmp 67)])) (g := (some (66, true))) (v := (.d (.str z128))) (ups := []) (j := 5) rfl (by kernel_rfl) (by kernel_rfl) (ev_call (args := [(.d (.str p701))]) (l := [(.d (.str p701))]) (r := (.d (.str z128))) (by kernel_rfl) (by kernel_rfl) (f16_ok (d - 1) (dpt hd rfl) p701 z128 hz128) (by kernel_rfl) (by kernel_rfl) (by kernel_rfl)) ?_
      refine zlRun (n := 1) (j := 6) rfl (by kernel_rfl) ?_
      refine bindE hS (fun z129 hz129 hS => ?_)
      refine zlOp (d := some 70) (op := (.call 16 [(.tmp 69)])) (g := (some (66, true))) (v := (.d (.str z129))) (ups := []) (j := 7) rfl (by kernel_rfl) (by kernel_rfl) (ev_call (args := [(.d (.str p703))]) (l := [(.d (.str p703))]) (r := (.d (.str z129))) (by kernel_rfl) (by kernel_rfl) (f16_ok (d - 1) (dpt hd rfl) p703 z129 hz129) (by kernel_rfl) (by kernel_rfl) (by kernel_rfl)) ?_
      refine zlBool (d := 71) (op := (.strO .eql (.tmp 68) (.tmp 70))) (g := (some (66, true))) (j := 8) (decide (z128 = z129)) rfl (by kernel_rfl) (by kernel_rfl) (by kernel_rfl) (fun hc => ?_) (fun hc => ?_)
      · replace hS := cond_t hc hS
        refine zlRun (n := 4) (j := 12) rfl (by kernel_rfl) ?_
        refine zlBool (d := 76) (op := (.strO .eql (.tmp 74) (.tmp 75))) (g := (some (73, true))) (j := 13) (decide (p700 = z123)) rfl (by kernel_rfl) (by kernel_rfl) (by kernel_rfl) (fun hc => ?_) (fun hc => ?_)
        · replace hS := cond_t hc hS
          refine zlRun (n := 2) (j := 15) rfl (by kernel_rfl) ?_
          refine zlEnd (by kernel_rfl) ?_
          refine zkSeq ?_
          refine zrRet ?_
          refine zkBlkR ?_
          refine zkSeqR ?_
          refine zkNil ?_
          exact endQ hS hQ (finL_x (by intro h; cases h) (by show _ = _ ∧ _ = _; exact ⟨rfl, by kernel_rfl⟩))
        · replace hS := cond_f hc hS
          refine zlRun (n := 2) (j := 15) rfl (by kernel_rfl) ?_
          refine zlEnd (by kernel_rfl) ?_
          refine zkSeq ?_
          refine zrRet ?_
          refine zkBlkR ?_
          refine zkSeqR ?_
          refine zkNil ?_
          exact endQ hS hQ (finL_x (by intro h; cases h) (by show _ = _ ∧ _ = _; exact ⟨rfl, by kernel_rfl⟩))
      · replace hS := cond_f hc hS
        refine zlRun (n := 7) (j := 15) rfl (by kernel_rfl) ?_
        refine zlEnd (by kernel_rfl) ?_
        refine zkSeq ?_
        refine zrRet ?_
        refine zkBlkR ?_
        refine zkSeqR ?_
        refine zkNil ?_
        exact endQ hS hQ (finL_x (by intro h; cases h) (by show _ = _ ∧ _ = _; exact ⟨rfl, by kernel_rfl⟩))
    · replace hS := cond_f hc hS
      refine zlRun (n := 13) (j := 15) rfl (by kernel_rfl) ?_
      refine zlEnd (by kernel_rfl) ?_
      refine zkSeq ?_
      refine zrRet ?_
      refine zkBlkR ?_
      refine zkSeqR ?_
      refine zkNil ?_
      exact endQ hS hQ (finL_x (by intro h; cases h) (by show _ = _ ∧ _ = _; exact ⟨rfl, by kernel_rfl⟩))
  · replace hS := cond_f hc hS
    refine zlEnd (by kernel_rfl) ?_
    refine zkSeq ?_
    refine zrCondF (by kernel_rfl) ?_
    refine zrSkip ?_
    refine zkBlk ?_
    refine zkSeq ?_
    refine zrReg ?_
    refine zlRun (n := 2) (j := 2) rfl (by kernel_rfl) ?_
    refine zlEnd (by kernel_rfl) ?_
    refine zkNil ?_
    exact endQ hS hQ (finL_n (by show keepSt _ _ _ _ = _; kernel_rfl))
def f4_l3_l6_j7_J (a1 : List (List UInt8)) (a2 : List (List UInt8)) (p691 : List UInt8) (p692 : List UInt8) (p693 : List UInt8) (p694 : Int) (p695 : List UInt8) (p696 : Int) (p697 : Int) (p698 : Bool) : St := ⟨(up (up (up (up (up (up (up (up (up (up (up (up (up (fun _ => .un) 56 (.d (.bool p698))) 55 (.d (.int .i64 p697))) 54 (.d (.int .i64 (a2.length : Int)))) 53 (.d (.sl a2.length (eStr.cells a2)))) 49 (.d (.int .i64 p696))) 48 (.d (.int .i64 (a1.length : Int)))) 47 (.d (.sl a1.length (eStr.cells a1)))) 13 (.d (.str p695))) 11 (.d (.int .i64 p694))) 10 (.d (.str p693))) 8 (.d (.str p692))) 7 (.d (.str p691))) 1 (.d (.sl a2.length (eStr.cells a2)))), (hB fun _ => 0)⟩
noncomputable def f4_l3_l6_j7 (a1 : List (List UInt8)) (a2 : List (List UInt8)) (p691 : List UInt8) (p692 : List UInt8) (p693 : List UInt8) (p694 : Int) (p695 : List UInt8) (p696 : Int) (p697 : Int) (p698 : Bool) : Option (((List UInt8) × (List UInt8) × (List UInt8) × Int × (List UInt8) × Int × Int) ⊕ (((List UInt8) × (List UInt8) × (List UInt8) × Int × Int) ⊕ Bool)) := (bif p698 then (f4_l3_l6_j8 a1 a2 p691 p692 p693 p694 p695 p696 p697) else (some (.inr (.inl (p691, p692, p693, p694, p696)))))
theorem f4_l3_l6_j7_ok {d : Nat} (hd : 7 ≤ d) (a1 : List (List UInt8)) (a2 : List (List UInt8)) {r : ((List UInt8) × (List UInt8) × (List UInt8) × Int × (List UInt8) × Int × Int) ⊕ (((List UInt8) × (List UInt8) × (List UInt8) × Int × Int) ⊕ Bool)} {Q : PX → St → Prop} (hQ : ∀ e st', finL (f4_l3_l6_H a1 a2) (f4_l3_l6_X a1 a2) r e st' → Q e st') (p691 : List UInt8) (p692 : List UInt8) (p693 : List UInt8) (p694 : Int) (p695 : List UInt8) (p696 : Int) (p697 : Int) (p698 : Bool) (hS : f4_l3_l6_j7 a1 a2 p691 p692 p693 p694 p695 p696 p697 p698 = some r) {st : St} (he : keepSt [1, 7, 8, 10, 11, 13, 47, 48, 49, 53, 54, 55, 56] [] [] st = f4_l3_l6_j7_J a1 a2 p691 p692 p693 p694 p695 p696 p697 p698) : ZR (lev codes baseL (d - 1)) Q c4_3 [] st := by
  refine zrKeep he ?_
  unfold f4_l3_l6_j7 at hS
  refine zrSeq ?_
  refine zrSplit 56 p698 (by kernel_rfl) (fun hc => ?_) (fun hc => ?_)
  · replace hS := cond_t hc hS
    refine zrCondT (by kernel_rfl) ?_
    refine zrSkip ?_
    refine zkSeq ?_
    exact f4_l3_l6_j8_ok hd a1 a2 hQ p691 p692 p693 p694 p695 p696 p697 hS (by kernel_rfl)
  · replace hS := cond_f hc hS
    refine zrCondF (by kernel_rfl) ?_
    refine zrKeep (J := f4_l3_l6_e2_J a1 a2 p691 p692 p693 p694 p696) (by kernel_rfl) ?_
    refine zrExit ?_
    refine zkSeqX ?_
    refine zkNil ?_
    exact endQ hS hQ (finL_x (by intro h; cases h) (by show _ = _ ∧ _ = _; exact ⟨rfl, rfl⟩))
noncomputable def f4_l3_l6 (a1 : List (List UInt8)) (a2 : List (List UInt8)) (x : (List UInt8) × (List UInt8) × (List UInt8) × Int × (List UInt8) × Int × Int) : Option (((List UInt8) × (List UInt8) × (List UInt8) × Int × (List UInt8) × Int × Int) ⊕ (((List UInt8) × (List UInt8) × (List UInt8) × Int × Int) ⊕ Bool)) := (bif (decide (x.2.2.2.2.2.2 < (a2.length : Int))) then (f4_l3_l6_j7 a1 a2 x.1 x.2.1 x.2.2.1 x.2.2.2.1 x.2.2.2.2.1 x.2.2.2.2.2.1 x.2.2.2.2.2.2 true) else (f4_l3_l6_j7 a1 a2 x.1 x.2.1 x.2.2.1 x.2.2.2.1 x.2.2.2.2.1 x.2.2.2.2.2.1 x.2.2.2.2.2.2 false))
theorem f4_l3_l6_ok {d : Nat} (hd : 7 ≤ d) (a1 : List (List UInt8)) (a2 : List (List UInt8)) {r : ((List UInt8) × (List UInt8) × (List UInt8) × Int × (List UInt8) × Int × Int) ⊕ (((List UInt8) × (List UInt8) × (List UInt8) × Int × Int) ⊕ Bool)} {Q : PX → St → Prop} (hQ : ∀ e st', finL (f4_l3_l6_H a1 a2) (f4_l3_l6_X a1 a2) r e st' → Q e st') {x : (List UInt8) × (List UInt8) × (List UInt8) × Int × (List UInt8) × Int × Int} (hS : f4_l3_l6 a1 a2 x = some r) {st : St} (he : f4_l3_l6_H a1 a2 x st) : ZR (lev codes baseL (d - 1)) Q c4_4 [] st := by
  refine zrKeep he ?_
  unfold f4_l3_l6 at hS
  refine zrSeq ?_
  refine zrReg ?_
  refine zlBool (d := 56) (op := (.cmpI .lss (.tmp 55) (.tmp 54))) (g := none) (j := 1) (decide (x.2.2.2.2.2.2 < (a2.length : Int))) rfl (by kernel_rfl) (by kernel_rfl) (by kernel_rfl) (fun hc => ?_) (fun hc => ?_)
  · replace hS := cond_t hc hS
    refine zlEnd (by kernel_rfl) ?_
    refine zkSeq ?_
    exact f4_l3_l6_j7_ok hd a1 a2 hQ x.1 x.2.1 x.2.2.1 x.2.2.2.1 x.2.2.2.2.1 x.2.2.2.2.2.1 x.2.2.2.2.2.2 true hS (by kernel_rfl)
  · replace hS := cond_f hc hS
    refine zlEnd (by kernel_rfl) ?_
    refine zkSeq ?_
    exact f4_l3_l6_j7_ok hd a1 a2 hQ x.1 x.2.1 x.2.2.1 x.2.2.2.1 x.2.2.2.2.1 x.2.2.2.2.2.1 x.2.2.2.2.2.2 false hS (by kernel_rfl)
def f4_l3_j5_J (a1 : List (List UInt8)) (a2 : List (List UInt8)) (p595 : List UInt8) (p596 : List UInt8) (p597 : List UInt8) (p598 : Int) (p599 : Int) : St := ⟨(up (up (up (up (up (up (up (up (fun _ => .un) 49 (.d (.int .i64 p599))) 48 (.d (.int .i64 (a1.length : Int)))) 47 (.d (.sl a1.length (eStr.cells a1)))) 11 (.d (.int .i64 p598))) 10 (.d (.str p597))) 8 (.d (.str p596))) 7 (.d (.str p595))) 1 (.d (.sl a2.length (eStr.cells a2)))), (hB fun _ => 0)⟩
noncomputable def f4_l3_j5 (a1 : List (List UInt8)) (a2 : List (List UInt8)) (p595 : List UInt8) (p596 : List UInt8) (p597 : List UInt8) (p598 : Int) (p599 : Int) : Option (((List UInt8) × (List UInt8) × (List UInt8) × Int × Int) ⊕ (((List UInt8) × (List UInt8) × (List UInt8) × Int) ⊕ Bool)) := ((idx a1 p599).bind fun z107 => ((loopO (f4_l3_l6 a1 a2) (p595, p596, p597, p598, z107, p599, 0)).bind fun z130 => (Sum.elim (fun z131 => (some (.inl (z131.1, z131.2.1, z131.2.2.1, z131.2.2.2.1, (IntKind.i64.wrap (z131.2.2.2.2 + 1)))))) (fun z132 => (some (.inr (.inr z132)))) z130)))
theorem f4_l3_j5_ok {d : Nat} (hd : 7 ≤ d) (a1 : List (List UInt8)) (a2 : List (List UInt8)) {r : ((List UInt8) × (List UInt8) × (List UInt8) × Int × Int) ⊕ (((List UInt8) × (List UInt8) × (List UInt8) × Int) ⊕ Bool)} {Q : PX → St → Prop} (hQ : ∀ e st', finL (f4_l3_H a1 a2) (f4_l3_X a1 a2) r e st' → Q e st') (p595 : List UInt8) (p596 : List UInt8) (p597 : List UInt8) (p598 : Int) (p599 : Int) (hS : f4_l3_j5 a1 a2 p595 p596 p597 p598 p599 = some r) {st : St} (he : keepSt [1, 7, 8, 10, 11, 47, 48, 49] [] [] st = f4_l3_j5_J a1 a2 p595 p596 p597 p598 p599) : ZR (lev codes baseL (d - 1)) Q c4_5 [] st := by
  refine zrKeep he ?_
  unfold f4_l3_j5 at hS
  refine zrSeq ?_
  refine zrBlk ?_
  refine zrSeq ?_
  refine zrReg ?_
  refine bindE hS (fun z107 hz107 hS => ?_)
  refine zlOp (d := some 51) (op := (.ixS 9 1 (.tmp 47) (.tmp 49))) (g := none) (v := (.rptr (eStr.enc z107 ++ (eStr.cells (a1.drop ((p599 : Int).toNat + 1)))))) (ups := []) (j := 1) rfl (by kernel_rfl) (by kernel_rfl) (ev_ixS eStr (kk := .i64) (xs := a1) (j := p599) (by kernel_rfl) (by kernel_rfl) hz107 rfl (by intro h; cases h)) ?_
  refine zlRun (n := 2) (j := 3) rfl (by kernel_rfl) ?_
  refine zlEnd (by kernel_rfl) ?_
  refine zkSeq ?_
  refine zrSeq ?_
  refine zrReg ?_
  refine zlRun (n := 3) (j := 3) rfl (by kernel_rfl) ?_
  refine zlEnd (by kernel_rfl) ?_
  refine zkSeq ?_
  refine zrBlk ?_
  refine bindE hS (fun z130 hz130 hS => ?_)
  refine zrLoop (f4_l3_l6_H a1 a2) (f4_l3_l6_X a1 a2) (fun x st r Q h0 hS hQ => f4_l3_l6_ok hd a1 a2 hQ hS h0) (x := (p595, p596, p597, p598, z107, p599, 0)) (z := z130) (by show keepSt _ _ _ _ = _; kernel_rfl) hz130 ?_
  rcases z130 with z131 | z132
  · replace hS := (show _ = _ from hS)
    simp only [Sum.elim_inl] at hS
    intro e st' _ hX
    obtain ⟨rfl, rfl⟩ : _ ∧ _ := hX
    refine zkBlkX ?_
    refine zkBlk ?_
    refine zkSeq ?_
    refine zrReg ?_
    refine zlRun (n := 2) (j := 2) rfl (by kernel_rfl) ?_
    refine zlEnd (by kernel_rfl) ?_
    refine zkNil ?_
    exact endQ hS hQ (finL_n (by show keepSt _ _ _ _ = _; kernel_rfl))
  · simp only [Sum.elim_inr] at hS
    intro e st' _ hX
    obtain ⟨rfl, hX⟩ : _ ∧ _ := hX
    refine zkBlkR ?_
    refine zkBlkR ?_
    refine zkSeqR ?_
    refine zkNil ?_
    exact endQ hS hQ (finL_x (by intro h; cases h) (by show _ = _ ∧ _ = _; exact ⟨rfl, hX⟩))
def f4_l3_j4_J (a1 : List (List UInt8)) (a2 : List (List UInt8)) (p589 : List UInt8) (p590 : List UInt8) (p591 : List UInt8) (p592 : Int) (p593 : Int) (p594 : Bool) : St := ⟨(up (up (up (up (up (up (up (up (up (fun _ => .un) 50 (.d (.bool p594))) 49 (.d (.int .i64 p593))) 48 (.d (.int .i64 (a1.length : Int)))) 47 (.d (.sl a1.length (eStr.cells a1)))) 11 (.d (.int .i64 p592))) 10 (.d (.str p591))) 8 (.d (.str p590))) 7 (.d (.str p589))) 1 (.d (.sl a2.length (eStr.cells a2)))), (hB fun _ => 0)⟩
noncomputable def f4_l3_j4 (a1 : List (List UInt8)) (a2 : List (List UInt8)) (p589 : List UInt8) (p590 : List UInt8) (p591 : List UInt8) (p592 : Int) (p593 : Int) (p594 : Bool) : Option (((List UInt8) × (List UInt8) × (List UInt8) × Int × Int) ⊕ (((List UInt8) × (List UInt8) × (List UInt8) × Int) ⊕ Bool)) := (bif p594 then (f4_l3_j5 a1 a2 p589 p590 p591 p592 p593) else (some (.inr (.inl (p589, p590, p591, p592)))))
theorem f4_l3_j4_ok {d : Nat} (hd : 7 ≤ d) (a1 : List (List UInt8)) (a2 : List (List UInt8)) {r : ((List UInt8) × (List UInt8) × (List UInt8) × Int × Int) ⊕ (((List UInt8) × (List UInt8) × (List UInt8) × Int) ⊕ Bool)} {Q : PX → St → Prop} (hQ : ∀ e st', finL (f4_l3_H a1 a2) (f4_l3_X a1 a2) r e st' → Q e st') (p589 : List UInt8) (p590 : List UInt8) (p591 : List UInt8) (p592 : Int) (p593 : Int) (p594 : Bool) (hS : f4_l3_j4 a1 a2 p589 p590 p591 p592 p593 p594 = some r) {st : St} (he : keepSt [1, 7, 8, 10, 11, 47, 48, 49, 50] [] [] st = f4_l3_j4_J a1 a2 p589 p590 p591 p592 p593 p594) : ZR (lev codes baseL (d - 1)) Q c4_6 [] st := by
  refine zrKeep he ?_
  unfold f4_l3_j4 at hS
  refine zrSeq ?_
  refine zrSplit 50 p594 (by kernel_rfl) (fun hc => ?_) (fun hc => ?_)
  · replace hS := cond_t hc hS
    refine zrCondT (by kernel_rfl) ?_
    refine zrSkip ?_
    refine zkSeq ?_
    exact f4_l3_j5_ok hd a1 a2 hQ p589 p590 p591 p592 p593 hS (by kernel_rfl)
  · replace hS := cond_f hc hS
    refine zrCondF (by kernel_rfl) ?_
    refine zrKeep (J := f4_l3_e0_J a1 a2 p589 p590 p591 p592) (by kernel_rfl) ?_
    refine zrExit ?_
    refine zkSeqX ?_
    refine zkNil ?_
    exact endQ hS hQ (finL_x (by intro h; cases h) (by show _ = _ ∧ _ = _; exact ⟨rfl, rfl⟩))
noncomputable def f4_l3 (a1 : List (List UInt8)) (a2 : List (List UInt8)) (x : (List UInt8) × (List UInt8) × (List UInt8) × Int × Int) : Option (((List UInt8) × (List UInt8) × (List UInt8) × Int × Int) ⊕ (((List UInt8) × (List UInt8) × (List UInt8) × Int) ⊕ Bool)) := (bif (decide (x.2.2.2.2 < (a1.length : Int))) then (f4_l3_j4 a1 a2 x.1 x.2.1 x.2.2.1 x.2.2.2.1 x.2.2.2.2 true) else (f4_l3_j4 a1 a2 x.1 x.2.1 x.2.2.1 x.2.2.2.1 x.2.2.2.2 false))
theorem f4_l3_ok {d : Nat} (hd : 7 ≤ d) (a1 : List (List UInt8)) (a2 : List (List UInt8)) {r : ((List UInt8) × (List UInt8) × (List UInt8) × Int × Int) ⊕ (((List UInt8) × (List UInt8) × (List UInt8) × Int) ⊕ Bool)} {Q : PX → St → Prop} (hQ : ∀ e st', finL (f4_l3_H a1 a2) (f4_l3_X a1 a2) r e st' → Q e st') {x : (List UInt8) × (List UInt8) × (List UInt8) × Int × Int} (hS : f4_l3 a1 a2 x = some r) {st : St} (he : f4_l3_H a1 a2 x st) : ZR (lev codes baseL (d - 1)) Q c4_7 [] st := by
  refine zrKeep he ?_
  unfold f4_l3 at hS
  refine zrSeq ?_
  refine zrReg ?_
  refine zlBool (d := 50) (op := (.cmpI .lss (.tmp 49) (.tmp 48))) (g := none) (j := 1) (decide (x.2.2.2.2 < (a1.length : Int))) rfl (by kernel_rfl) (by kernel_rfl) (by kernel_rfl) (fun hc => ?_) (fun hc => ?_)
  · replace hS := cond_t hc hS
    refine zlEnd (by kernel_rfl) ?_
    refine zkSeq ?_
    exact f4_l3_j4_ok hd a1 a2 hQ x.1 x.2.1 x.2.2.1 x.2.2.2.1 x.2.2.2.2 true hS (by kernel_rfl)
  · replace hS := cond_f hc hS
    refine zlEnd (by kernel_rfl) ?_
    refine zkSeq ?_
    exact f4_l3_j4_ok hd a1 a2 hQ x.1 x.2.1 x.2.2.1 x.2.2.2.1 x.2.2.2.2 false hS (by kernel_rfl)
def f4_j1_J (a1 : List (List UInt8)) (a2 : List (List UInt8)) (p301 : List UInt8) (p302 : List UInt8) (p303 : List UInt8) (p304 : Int) : St := ⟨(up (up (up (up (up (up (fun _ => .un) 11 (.d (.int .i64 p304))) 10 (.d (.str p303))) 8 (.d (.str p302))) 7 (.d (.str p301))) 1 (.d (.sl a2.length (eStr.cells a2)))) 0 (.d (.sl a1.length (eStr.cells a1)))), (hB fun _ => 0)⟩
noncomputable def f4_j1 (a1 : List (List UInt8)) (a2 : List (List UInt8)) (p301 : List UInt8) (p302 : List UInt8) (p303 : List UInt8) (p304 : Int) : Option (Bool) := ((loopO (f4_l3 a1 a2) (p301, p302, p303, p304, 0)).bind fun z133 => (Sum.elim (fun z134 => (f4_j2 a1 a2 z134.1 z134.2.1 z134.2.2.1 z134.2.2.2)) (fun z135 => (some z135)) z133))
theorem f4_j1_ok {d : Nat} (hd : 7 ≤ d) (a1 : List (List UInt8)) (a2 : List (List UInt8)) {r : Bool} {Q : PX → St → Prop} (hQ : ∀ e st', f4_Q r e st' → Q e st') (p301 : List UInt8) (p302 : List UInt8) (p303 : List UInt8) (p304 : Int) (hS : f4_j1 a1 a2 p301 p302 p303 p304 = some r) {st : St} (he : keepSt [0, 1, 7, 8, 10, 11] [] [] st = f4_j1_J a1 a2 p301 p302 p303 p304) : ZR (lev codes baseL (d - 1)) Q c4_8 [] st := by
  refine zrKeep he ?_
  unfold f4_j1 at hS
  refine zrSeq ?_
  refine zrSeq ?_
  refine zrReg ?_
  refine zlRun (n := 3) (j := 3) rfl (by kernel_rfl) ?_
  refine zlEnd (by kernel_rfl) ?_
  refine zkSeq ?_
  refine zrBlk ?_
  refine bindE hS (fun z133 hz133 hS => ?_)
  refine zrLoop (f4_l3_H a1 a2) (f4_l3_X a1 a2) (fun x st r Q h0 hS hQ => f4_l3_ok hd a1 a2 hQ hS h0) (x := (p301, p302, p303, p304, 0)) (z := z133) (by show keepSt _ _ _ _ = _; kernel_rfl) hz133 ?_
  rcases z133 with z134 | z135
  · replace hS := (show _ = _ from hS)
    simp only [Sum.elim_inl] at hS
    intro e st' _ hX
    obtain ⟨rfl, rfl⟩ : _ ∧ _ := hX
    refine zkBlkX ?_
    refine zkSeq ?_
    exact f4_j2_ok hd a1 a2 hQ z134.1 z134.2.1 z134.2.2.1 z134.2.2.2 hS (by kernel_rfl)
  · simp only [Sum.elim_inr] at hS
    intro e st' _ hX
    obtain ⟨rfl, hX⟩ : _ ∧ _ := hX
    refine zkBlkR ?_
    refine zkSeqR ?_
    refine zkNil ?_
    exact endQ hS hQ (fRet ((congrArg (fun s => outR s 0 c4.res) hX).trans (f4_out z135)))
def f4_j0_J (a1 : List (List UInt8)) (a2 : List (List UInt8)) (p295 : List UInt8) : St := ⟨(up (up (up (fun _ => .un) 5 (.d (.str p295))) 1 (.d (.sl a2.length (eStr.cells a2)))) 0 (.d (.sl a1.length (eStr.cells a1)))), (hB fun _ => 0)⟩
noncomputable def f4_j0 (a1 : List (List UInt8)) (a2 : List (List UInt8)) (p295 : List UInt8) : Option (Bool) := ((f14 a2 p295).bind fun z57 => ((f15 a1 z57.1).bind fun z58 => (bif (!decide (z57.2.2 = 0)) then (some false) else (f4_j1 a1 a2 z57.1 z57.2.1 z58.1 z58.2))))
theorem f4_j0_ok {d : Nat} (hd : 7 ≤ d) (a1 : List (List UInt8)) (a2 : List (List UInt8)) {r : Bool} {Q : PX → St → Prop} (hQ : ∀ e st', f4_Q r e st' → Q e st') (p295 : List UInt8) (hS : f4_j0 a1 a2 p295 = some r) {st : St} (he : keepSt [0, 1, 5] [] [] st = f4_j0_J a1 a2 p295) : ZR (lev codes baseL (d - 1)) Q c4_9 [] st := by
  refine zrKeep he ?_
  unfold f4_j0 at hS
  refine zrSeq ?_
  refine zrReg ?_
  refine zlRun (n := 2) (j := 2) rfl (by kernel_rfl) ?_
  refine bindE hS (fun z57 hz57 hS => ?_)
  refine zlOp (d := some 35) (op := (.call 14 [(.tmp 33), (.tmp 34)])) (g := none) (v := (.tup [(.d (.str z57.1)), (.d (.str z57.2.1)), (.d (.int .i64 z57.2.2))])) (ups := []) (j := 3) rfl (by kernel_rfl) (by kernel_rfl) (ev_call (args := [(.d (.sl a2.length (eStr.cells a2))), (.d (.str p295))]) (l := [(.d (.sl a2.length (eStr.cells a2))), (.d (.str p295))]) (r := (.tup [(.d (.str z57.1)), (.d (.str z57.2.1)), (.d (.int .i64 z57.2.2))])) (by kernel_rfl) (by kernel_rfl) (f14_ok (d - 1) (dpt hd rfl) a2 p295 z57 hz57) (by kernel_rfl) (by kernel_rfl) (by kernel_rfl)) ?_
  refine zlRun (n := 7) (j := 10) rfl (by kernel_rfl) ?_
  refine zlEnd (by kernel_rfl) ?_
  refine zkSeq ?_
  refine zrSeq ?_
  refine zrReg ?_
  refine zlRun (n := 2) (j := 2) rfl (by kernel_rfl) ?_
  refine bindE hS (fun z58 hz58 hS => ?_)
  refine zlOp (d := some 42) (op := (.call 15 [(.tmp 40), (.tmp 41)])) (g := none) (v := (.tup [(.d (.str z58.1)), (.d (.int .i64 z58.2))])) (ups := []) (j := 3) rfl (by kernel_rfl) (by kernel_rfl) (ev_call (args := [(.d (.sl a1.length (eStr.cells a1))), (.d (.str z57.1))]) (l := [(.d (.sl a1.length (eStr.cells a1))), (.d (.str z57.1))]) (r := (.tup [(.d (.str z58.1)), (.d (.int .i64 z58.2))])) (by kernel_rfl) (by kernel_rfl) (f15_ok (d - 1) (dpt hd rfl) a1 z57.1 z58 hz58) (by kernel_rfl) (by kernel_rfl) (by kernel_rfl)) ?_
  refine zlRun (n := 5) (j := 8) rfl (by kernel_rfl) ?_
  refine zlEnd (by kernel_rfl) ?_
  refine zkSeq ?_
  refine zrSeq ?_
  refine zrSeq ?_
  refine zrReg ?_
  refine zlRun (n := 1) (j := 1) rfl (by kernel_rfl) ?_
  refine zlBool (d := 46) (op := (.cmpI .neq (.tmp 45) (.const (.int .i64 0)))) (g := none) (j := 2) (!decide (z57.2.2 = 0)) rfl (by kernel_rfl) (by kernel_rfl) (by kernel_rfl) (fun hc => ?_) (fun hc => ?_)
  · replace hS := cond_t hc hS
    refine zlEnd (by kernel_rfl) ?_
    refine zkSeq ?_
    refine zrCondT (by kernel_rfl) ?_
    refine zrSeq ?_
    refine zrReg ?_
    refine zlRun (n := 1) (j := 1) rfl (by kernel_rfl) ?_
    refine zlEnd (by kernel_rfl) ?_
    refine zkSeq ?_
    refine zrRet ?_
    refine zkSeqR ?_
    refine zkNil ?_
    exact endQ hS hQ (fRet ((congrArg (fun s => outR s 0 c4.res) (by kernel_rfl : finSt c4.fin _ = f4_fin false)).trans (f4_out false)))
  · replace hS := cond_f hc hS
    refine zlEnd (by kernel_rfl) ?_
    refine zkSeq ?_
    refine zrCondF (by kernel_rfl) ?_
    refine zrSkip ?_
    refine zkSeq ?_
    exact f4_j1_ok hd a1 a2 hQ z57.1 z57.2.1 z58.1 z58.2 hS (by kernel_rfl)
def f4_j9_J (a1 : List (List UInt8)) (a2 : List (List UInt8)) (p707 : List UInt8) : St := ⟨(up (fun _ => .un) 5 (.d (.str p707))), (hB fun _ => 0)⟩
noncomputable def f4_j9 (a1 : List (List UInt8)) (a2 : List (List UInt8)) (p707 : List UInt8) : Option (Bool) := (f9.bind fun z137 => (bif z137 then (bif (decide (p707 = ([] : List UInt8))) then (some true) else (some false)) else (some false)))
theorem f4_j9_ok {d : Nat} (hd : 7 ≤ d) (a1 : List (List UInt8)) (a2 : List (List UInt8)) {r : Bool} {Q : PX → St → Prop} (hQ : ∀ e st', f4_Q r e st' → Q e st') (p707 : List UInt8) (hS : f4_j9 a1 a2 p707 = some r) {st : St} (he : keepSt [5] [] [] st = f4_j9_J a1 a2 p707) : ZR (lev codes baseL (d - 1)) Q c4_10 [.seq c4_9] st := by
  refine zrKeep he ?_
  unfold f4_j9 at hS
  refine zrSeq ?_
  refine zrReg ?_
  refine bindE hS (fun z137 hz137 hS => ?_)
  refine zlOp (d := some 27) (op := (.call 9 [])) (g := none) (v := (.d (.bool z137))) (ups := []) (j := 1) rfl (by kernel_rfl) (by kernel_rfl) (ev_call (args := []) (l := []) (r := (.d (.bool z137))) (by kernel_rfl) (by kernel_rfl) (f9_ok (d - 1) (dpt hd rfl)  z137 hz137) (by kernel_rfl) (by kernel_rfl) (by kernel_rfl)) ?_
  refine zlRun (n := 1) (j := 2) rfl (by kernel_rfl) ?_
  refine zlSplit 28 z137 (by kernel_rfl) (fun hc => ?_) (fun hc => ?_)
  · replace hS := cond_t hc hS
    refine zlRun (n := 1) (j := 3) rfl (by kernel_rfl) ?_
    refine zlBool (d := 30) (op := (.strO .eql (.tmp 29) (.const (.string ⟨#[]⟩)))) (g := (some (28, true))) (j := 4) (decide (p707 = ([] : List UInt8))) rfl (by kernel_rfl) (by kernel_rfl) (by kernel_rfl) (fun hc => ?_) (fun hc => ?_)
    · replace hS := cond_t hc hS
      refine zlRun (n := 2) (j := 6) rfl (by kernel_rfl) ?_
      refine zlEnd (by kernel_rfl) ?_
      refine zkSeq ?_
      refine zrRet ?_
      refine zkSeqR ?_
      refine zkNil ?_
      exact endQ hS hQ (fRet ((congrArg (fun s => outR s 0 c4.res) (by kernel_rfl : finSt c4.fin _ = f4_fin true)).trans (f4_out true)))
    · replace hS := cond_f hc hS
      refine zlRun (n := 2) (j := 6) rfl (by kernel_rfl) ?_
      refine zlEnd (by kernel_rfl) ?_
      refine zkSeq ?_
      refine zrRet ?_
      refine zkSeqR ?_
      refine zkNil ?_
      exact endQ hS hQ (fRet ((congrArg (fun s => outR s 0 c4.res) (by kernel_rfl : finSt c4.fin _ = f4_fin false)).trans (f4_out false)))
  · replace hS := cond_f hc hS
    refine zlRun (n := 4) (j := 6) rfl (by kernel_rfl) ?_
    refine zlEnd (by kernel_rfl) ?_
    refine zkSeq ?_
    refine zrRet ?_
    refine zkSeqR ?_
    refine zkNil ?_
    exact endQ hS hQ (fRet ((congrArg (fun s => outR s 0 c4.res) (by kernel_rfl : finSt c4.fin _ = f4_fin false)).trans (f4_out false)))
noncomputable def f4 (a1 : List (List UInt8)) (a2 : List (List UInt8)) : Option (Bool) := ((f8 a1).bind fun z54 => (f9.bind fun z138 => (bif (!z138) then (f4_j9 a1 a2 z54.1) else (bif (!decide (z54.2 = 0)) then (f4_j9 a1 a2 z54.1) else (f4_j0 a1 a2 z54.1)))))
theorem f4_ok (d : Nat) (hd : 7 ≤ d) (a1 : List (List UInt8)) (a2 : List (List UInt8)) (r : Bool) (hS : f4 a1 a2 = some r) : lev codes baseL d 4 [(.d (.sl a1.length (eStr.cells a1))), (.d (.sl a2.length (eStr.cells a2)))] [] = some ((.d (.bool r)), []) := by
  refine lev_go codes4 rfl rfl (Nat.le_trans (Nat.le_of_ble_eq_true rfl) hd) fun Q hQ => ?_
  unfold f4 at hS
  show ZR _ Q c4_b [] _
  replace hQ : ∀ e st', f4_Q r e st' → Q e st' := hQ
  refine zrSeq ?_
  refine zrReg ?_
  refine zlRun (n := 1) (j := 1) rfl (by kernel_rfl) ?_
  refine zlEnd (by kernel_rfl) ?_
  refine zkSeq ?_
  refine zrSeq ?_
  refine zrReg ?_
  refine zlRun (n := 1) (j := 1) rfl (by kernel_rfl) ?_
  refine bindE hS (fun z54 hz54 hS => ?_)
  refine zlOp (d := some 18) (op := (.call 8 [(.tmp 17)])) (g := none) (v := (.tup [(.d (.str z54.1)), (.d (.int .i64 z54.2))])) (ups := []) (j := 2) rfl (by kernel_rfl) (by kernel_rfl) (ev_call (args := [(.d (.sl a1.length (eStr.cells a1)))]) (l := [(.d (.sl a1.length (eStr.cells a1)))]) (r := (.tup [(.d (.str z54.1)), (.d (.int .i64 z54.2))])) (by kernel_rfl) (by kernel_rfl) (f8_ok (d - 1) (dpt hd rfl) a1 z54 hz54) (by kernel_rfl) (by kernel_rfl) (by kernel_rfl)) ?_
  refine zlRun (n := 5) (j := 7) rfl (by kernel_rfl) ?_
  refine zlEnd (by kernel_rfl) ?_
  refine zkSeq ?_
  refine zrSeq ?_
  refine zrSeq ?_
  refine zrReg ?_
  refine bindE hS (fun z138 hz138 hS => ?_)
  refine zlOp (d := some 21) (op := (.call 9 [])) (g := none) (v := (.d (.bool z138))) (ups := []) (j := 1) rfl (by kernel_rfl) (by kernel_rfl) (ev_call (args := []) (l := []) (r := (.d (.bool z138))) (by kernel_rfl) (by kernel_rfl) (f9_ok (d - 1) (dpt hd rfl)  z138 hz138) (by kernel_rfl) (by kernel_rfl) (by kernel_rfl)) ?_
  refine zlRun (n := 2) (j := 3) rfl (by kernel_rfl) ?_
  refine zlSplit 23 (!z138) (by kernel_rfl) (fun hc => ?_) (fun hc => ?_)
  · replace hS := cond_t hc hS
    refine zlRun (n := 3) (j := 6) rfl (by kernel_rfl) ?_
    refine zlEnd (by kernel_rfl) ?_
    refine zkSeq ?_
    refine zrCondT (by kernel_rfl) ?_
    exact f4_j9_ok hd a1 a2 hQ z54.1 hS (by kernel_rfl)
  · replace hS := cond_f hc hS
    refine zlRun (n := 1) (j := 4) rfl (by kernel_rfl) ?_
    refine zlBool (d := 25) (op := (.cmpI .neq (.tmp 24) (.const (.int .i64 0)))) (g := (some (23, false))) (j := 5) (!decide (z54.2 = 0)) rfl (by kernel_rfl) (by kernel_rfl) (by kernel_rfl) (fun hc => ?_) (fun hc => ?_)
    · replace hS := cond_t hc hS
      refine zlRun (n := 1) (j := 6) rfl (by kernel_rfl) ?_
      refine zlEnd (by kernel_rfl) ?_
      refine zkSeq ?_
      refine zrCondT (by kernel_rfl) ?_
      exact f4_j9_ok hd a1 a2 hQ z54.1 hS (by kernel_rfl)
    · replace hS := cond_f hc hS
      refine zlRun (n := 1) (j := 6) rfl (by kernel_rfl) ?_
      refine zlEnd (by kernel_rfl) ?_
      refine zkSeq ?_
      refine zrCondF (by kernel_rfl) ?_
      refine zrSkip ?_
      refine zkSeq ?_
      exact f4_j0_ok hd a1 a2 hQ z54.1 hS (by kernel_rfl)
/- farwriter/farkeep.ChoiceSame -/
def f5_fin (p18 : Bool) : St := ⟨(up (fun _ => .un) 6 (.d (.bool p18))), (hB fun _ => 0)⟩
theorem f5_out (p18 : Bool) : outR (f5_fin p18) 0 c5.res = some ((.d (.bool p18)), []) := by
  kernel_rfl
def f5_Q (r : Bool) (e : PX) (st : St) : Prop := DoneF c5 0 ((.d (.bool r)), []) e st
def f5_j1_J (a1 : List (List UInt8)) (a2 : List UInt8) (a3 : Bool) (p35 : List UInt8) (p36 : List UInt8) (p37 : Int) (p38 : Int) : St := ⟨(up (up (up (up (up (fun _ => .un) 13 (.d (.int .i64 p38))) 9 (.d (.int .i64 p37))) 8 (.d (.str p36))) 7 (.d (.str p35))) 0 (.d (.sl a1.length (eStr.cells a1)))), (hB fun _ => 0)⟩
noncomputable def f5_j1 (a1 : List (List UInt8)) (a2 : List UInt8) (a3 : Bool) (p35 : List UInt8) (p36 : List UInt8) (p37 : Int) (p38 : Int) : Option (Bool) := ((f15 a1 p35).bind fun z16 => (bif (decide (p37 = p38)) then (bif (!decide (p37 = 0)) then (some true) else (bif (decide (z16.2 = 0)) then (bif (!decide (p36 = ([] : List UInt8))) then (some true) else (some false)) else (bif (!decide (p36 = ([] : List UInt8))) then (some false) else (some true)))) else (some false)))
theorem f5_j1_ok {d : Nat} (hd : 7 ≤ d) (a1 : List (List UInt8)) (a2 : List UInt8) (a3 : Bool) {r : Bool} {Q : PX → St → Prop} (hQ : ∀ e st', f5_Q r e st' → Q e st') (p35 : List UInt8) (p36 : List UInt8) (p37 : Int) (p38 : Int) (hS : f5_j1 a1 a2 a3 p35 p36 p37 p38 = some r) {st : St} (he : keepSt [0, 7, 8, 9, 13] [] [] st = f5_j1_J a1 a2 a3 p35 p36 p37 p38) : ZR (lev codes baseL (d - 1)) Q c5_1 [] st := by
  refine zrKeep he ?_
  unfold f5_j1 at hS
  refine zrSeq ?_
  refine zrReg ?_
  refine zlRun (n := 2) (j := 2) rfl (by kernel_rfl) ?_
  refine bindE hS (fun z16 hz16 hS => ?_)
  refine zlOp (d := some 63) (op := (.call 15 [(.tmp 61), (.tmp 62)])) (g := none) (v := (.tup [(.d (.str z16.1)), (.d (.int .i64 z16.2))])) (ups := []) (j := 3) rfl (by kernel_rfl) (by kernel_rfl) (ev_call (args := [(.d (.sl a1.length (eStr.cells a1))), (.d (.str p35))]) (l := [(.d (.sl a1.length (eStr.cells a1))), (.d (.str p35))]) (r := (.tup [(.d (.str z16.1)), (.d (.int .i64 z16.2))])) (by kernel_rfl) (by kernel_rfl) (f15_ok (d - 1) (dpt hd rfl) a1 p35 z16 hz16) (by kernel_rfl) (by kernel_rfl) (by kernel_rfl)) ?_
  refine zlRun (n := 5) (j := 8) rfl (by kernel_rfl) ?_
  refine zlEnd (by kernel_rfl) ?_
  refine zkSeq ?_
  refine zrSeq ?_
  refine zrReg ?_
  refine zlRun (n := 2) (j := 2) rfl (by kernel_rfl) ?_
  refine zlBool (d := 68) (op := (.cmpI .eql (.tmp 66) (.tmp 67))) (g := none) (j := 3) (decide (p37 = p38)) rfl (by kernel_rfl) (by kernel_rfl) (by kernel_rfl) (fun hc => ?_) (fun hc => ?_)
  · replace hS := cond_t hc hS
    refine zlRun (n := 2) (j := 5) rfl (by kernel_rfl) ?_
    refine zlBool (d := 71) (op := (.cmpI .neq (.tmp 70) (.const (.int .i64 0)))) (g := (some (69, true))) (j := 6) (!decide (p37 = 0)) rfl (by kernel_rfl) (by kernel_rfl) (by kernel_rfl) (fun hc => ?_) (fun hc => ?_)
    · replace hS := cond_t hc hS
      refine zlRun (n := 9) (j := 15) rfl (by kernel_rfl) ?_
      refine zlEnd (by kernel_rfl) ?_
      refine zkSeq ?_
      refine zrRet ?_
      refine zkNil ?_
      exact endQ hS hQ (fRet ((congrArg (fun s => outR s 0 c5.res) (by kernel_rfl : finSt c5.fin _ = f5_fin true)).trans (f5_out true)))
    · replace hS := cond_f hc hS
      refine zlRun (n := 2) (j := 8) rfl (by kernel_rfl) ?_
      refine zlBool (d := 74) (op := (.cmpI .eql (.tmp 73) (.const (.int .i64 0)))) (g := (some (72, false))) (j := 9) (decide (z16.2 = 0)) rfl (by kernel_rfl) (by kernel_rfl) (by kernel_rfl) (fun hc => ?_) (fun hc => ?_)
      · replace hS := cond_t hc hS
        refine zlRun (n := 1) (j := 10) rfl (by kernel_rfl) ?_
        refine zlBool (d := 76) (op := (.strO .neq (.tmp 75) (.const (.string ⟨#[]⟩)))) (g := (some (72, false))) (j := 11) (!decide (p36 = ([] : List UInt8))) rfl (by kernel_rfl) (by kernel_rfl) (by kernel_rfl) (fun hc => ?_) (fun hc => ?_)
        · replace hS := cond_t hc hS
          refine zlRun (n := 4) (j := 15) rfl (by kernel_rfl) ?_
          refine zlEnd (by kernel_rfl) ?_
          refine zkSeq ?_
          refine zrRet ?_
          refine zkNil ?_
          exact endQ hS hQ (fRet ((congrArg (fun s => outR s 0 c5.res) (by kernel_rfl : finSt c5.fin _ = f5_fin true)).trans (f5_out true)))
        · replace hS := cond_f hc hS
          refine zlRun (n := 4) (j := 15) rfl (by kernel_rfl) ?_
          refine zlEnd (by kernel_rfl) ?_
          refine zkSeq ?_
          refine zrRet ?_
          refine zkNil ?_
          exact endQ hS hQ (fRet ((congrArg (fun s => outR s 0 c5.res) (by kernel_rfl : finSt c5.fin _ = f5_fin false)).trans (f5_out false)))
      · replace hS := cond_f hc hS
        refine zlRun (n := 1) (j := 10) rfl (by kernel_rfl) ?_
        refine zlBool (d := 76) (op := (.strO .neq (.tmp 75) (.const (.string ⟨#[]⟩)))) (g := (some (72, false))) (j := 11) (!decide (p36 = ([] : List UInt8))) rfl (by kernel_rfl) (by kernel_rfl) (by kernel_rfl) (fun hc => ?_) (fun hc => ?_)
        · replace hS := cond_t hc hS
          refine zlRun (n := 4) (j := 15) rfl (by kernel_rfl) ?_
          refine zlEnd (by kernel_rfl) ?_
          refine zkSeq ?_
          refine zrRet ?_
          refine zkNil ?_
          exact endQ hS hQ (fRet ((congrArg (fun s => outR s 0 c5.res) (by kernel_rfl : finSt c5.fin _ = f5_fin false)).trans (f5_out false)))
        · replace hS := cond_f hc hS
          refine zlRun (n := 4) (j := 15) rfl (by kernel_rfl) ?_
          refine zlEnd (by kernel_rfl) ?_
          refine zkSeq ?_
          refine zrRet ?_
          refine zkNil ?_
          exact endQ hS hQ (fRet ((congrArg (fun s => outR s 0 c5.res) (by kernel_rfl : finSt c5.fin _ = f5_fin true)).trans (f5_out true)))
  · replace hS := cond_f hc hS
    refine zlRun (n := 12) (j := 15) rfl (by kernel_rfl) ?_
    refine zlEnd (by kernel_rfl) ?_
    refine zkSeq ?_
    refine zrRet ?_
    refine zkNil ?_
    exact endQ hS hQ (fRet ((congrArg (fun s => outR s 0 c5.res) (by kernel_rfl : finSt c5.fin _ = f5_fin false)).trans (f5_out false)))
def f5_j0_J (a1 : List (List UInt8)) (a2 : List UInt8) (a3 : Bool) (p29 : List UInt8) (p30 : List UInt8) (p31 : Int) : St := ⟨(up (up (up (up (up (up (fun _ => .un) 9 (.d (.int .i64 p31))) 8 (.d (.str p30))) 7 (.d (.str p29))) 2 (.d (.bool a3))) 1 (.d (.str a2))) 0 (.d (.sl a1.length (eStr.cells a1)))), (hB fun _ => 0)⟩
noncomputable def f5_j0 (a1 : List (List UInt8)) (a2 : List UInt8) (a3 : Bool) (p29 : List UInt8) (p30 : List UInt8) (p31 : Int) : Option (Bool) := ((f16 a2).bind fun z13 => ((f14 a1 z13).bind fun z14 => (bif a3 then (bif (decide (p31 = z14.2.2)) then (bif (decide (p30 = z14.2.1)) then ((f16 p29).bind fun z17 => (bif (decide (z17 = z14.1)) then (some true) else (some false))) else (some false)) else (some false)) else (f5_j1 a1 a2 a3 p29 p30 p31 z14.2.2))))
theorem f5_j0_ok {d : Nat} (hd : 7 ≤ d) (a1 : List (List UInt8)) (a2 : List UInt8) (a3 : Bool) {r : Bool} {Q : PX → St → Prop} (hQ : ∀ e st', f5_Q r e st' → Q e st') (p29 : List UInt8) (p30 : List UInt8) (p31 : Int) (hS : f5_j0 a1 a2 a3 p29 p30 p31 = some r) {st : St} (he : keepSt [0, 1, 2, 7, 8, 9] [] [] st = f5_j0_J a1 a2 a3 p29 p30 p31) : ZR (lev codes baseL (d - 1)) Q c5_2 [] st := by
  refine zrKeep he ?_
  unfold f5_j0 at hS
  refine zrSeq ?_
  refine zrReg ?_
  refine zlRun (n := 1) (j := 1) rfl (by kernel_rfl) ?_
  refine bindE hS (fun z13 hz13 hS => ?_)
  refine zlOp (d := some 37) (op := (.call 16 [(.tmp 36)])) (g := none) (v := (.d (.str z13))) (ups := []) (j := 2) rfl (by kernel_rfl) (by kernel_rfl) (ev_call (args := [(.d (.str a2))]) (l := [(.d (.str a2))]) (r := (.d (.str z13))) (by kernel_rfl) (by kernel_rfl) (f16_ok (d - 1) (dpt hd rfl) a2 z13 hz13) (by kernel_rfl) (by kernel_rfl) (by kernel_rfl)) ?_
  refine zlRun (n := 1) (j := 3) rfl (by kernel_rfl) ?_
  refine zlEnd (by kernel_rfl) ?_
  refine zkSeq ?_
  refine zrSeq ?_
  refine zrReg ?_
  refine zlRun (n := 2) (j := 2) rfl (by kernel_rfl) ?_
  refine bindE hS (fun z14 hz14 hS => ?_)
  refine zlOp (d := some 41) (op := (.call 14 [(.tmp 39), (.tmp 40)])) (g := none) (v := (.tup [(.d (.str z14.1)), (.d (.str z14.2.1)), (.d (.int .i64 z14.2.2))])) (ups := []) (j := 3) rfl (by kernel_rfl) (by kernel_rfl) (ev_call (args := [(.d (.sl a1.length (eStr.cells a1))), (.d (.str z13))]) (l := [(.d (.sl a1.length (eStr.cells a1))), (.d (.str z13))]) (r := (.tup [(.d (.str z14.1)), (.d (.str z14.2.1)), (.d (.int .i64 z14.2.2))])) (by kernel_rfl) (by kernel_rfl) (f14_ok (d - 1) (dpt hd rfl) a1 z13 z14 hz14) (by kernel_rfl) (by kernel_rfl) (by kernel_rfl)) ?_
  refine zlRun (n := 7) (j := 10) rfl (by kernel_rfl) ?_
  refine zlEnd (by kernel_rfl) ?_
  refine zkSeq ?_
  refine zrSeq ?_
  refine zrSeq ?_
  refine zrReg ?_
  refine zlRun (n := 1) (j := 1) rfl (by kernel_rfl) ?_
  refine zlEnd (by kernel_rfl) ?_
  refine zkSeq ?_
  refine zrSplit 45 a3 (by kernel_rfl) (fun hc => ?_) (fun hc => ?_)
  · replace hS := cond_t hc hS
    refine zrCondT (by kernel_rfl) ?_
    refine zrSeq ?_
    refine zrReg ?_
    refine zlRun (n := 2) (j := 2) rfl (by kernel_rfl) ?_
    refine zlBool (d := 48) (op := (.cmpI .eql (.tmp 46) (.tmp 47))) (g := none) (j := 3) (decide (p31 = z14.2.2)) rfl (by kernel_rfl) (by kernel_rfl) (by kernel_rfl) (fun hc => ?_) (fun hc => ?_)
    · replace hS := cond_t hc hS
      refine zlRun (n := 3) (j := 6) rfl (by kernel_rfl) ?_
      refine zlBool (d := 52) (op := (.strO .eql (.tmp 50) (.tmp 51))) (g := (some (49, true))) (j := 7) (decide (p30 = z14.2.1)) rfl (by kernel_rfl) (by kernel_rfl) (by kernel_rfl) (fun hc => ?_) (fun hc => ?_)
      · replace hS := cond_t hc hS
        refine zlRun (n := 3) (j := 10) rfl (by kernel_rfl) ?_
        refine bindE hS (fun z17 hz17 hS => ?_)
        refine zlOp (d := some 56) (op := (.call 16 [(.tmp 55)])) (g := (some (54, true))) (v := (.d (.str z17))) (ups := []) (j := 11) rfl (by kernel_rfl) (by kernel_rfl) (ev_call (args := [(.d (.str p29))]) (l := [(.d (.str p29))]) (r := (.d (.str z17))) (by kernel_rfl) (by kernel_rfl) (f16_ok (d - 1) (dpt hd rfl) p29 z17 hz17) (by kernel_rfl) (by kernel_rfl) (by kernel_rfl)) ?_
        refine zlRun (n := 1) (j := 12) rfl (by kernel_rfl) ?_
        refine zlBool (d := 58) (op := (.strO .eql (.tmp 56) (.tmp 57))) (g := (some (54, true))) (j := 13) (decide (z17 = z14.1)) rfl (by kernel_rfl) (by kernel_rfl) (by kernel_rfl) (fun hc => ?_) (fun hc => ?_)
        · replace hS := cond_t hc hS
          refine zlRun (n := 2) (j := 15) rfl (by kernel_rfl) ?_
          refine zlEnd (by kernel_rfl) ?_
          refine zkSeq ?_
          refine zrRet ?_
          refine zkSeqR ?_
          refine zkNil ?_
          exact endQ hS hQ (fRet ((congrArg (fun s => outR s 0 c5.res) (by kernel_rfl : finSt c5.fin _ = f5_fin true)).trans (f5_out true)))
        · replace hS := cond_f hc hS
          refine zlRun (n := 2) (j := 15) rfl (by kernel_rfl) ?_
          refine zlEnd (by kernel_rfl) ?_
          refine zkSeq ?_
          refine zrRet ?_
          refine zkSeqR ?_
          refine zkNil ?_
          exact endQ hS hQ (fRet ((congrArg (fun s => outR s 0 c5.res) (by kernel_rfl : finSt c5.fin _ = f5_fin false)).trans (f5_out false)))
      · replace hS := cond_f hc hS
        refine zlRun (n := 8) (j := 15) rfl (by kernel_rfl) ?_
        refine zlEnd (by kernel_rfl) ?_
        refine zkSeq ?_
        refine zrRet ?_
        refine zkSeqR ?_
        refine zkNil ?_
        exact endQ hS hQ (fRet ((congrArg (fun s => outR s 0 c5.res) (by kernel_rfl : finSt c5.fin _ = f5_fin false)).trans (f5_out false)))
    · replace hS := cond_f hc hS
      refine zlRun (n := 12) (j := 15) rfl (by kernel_rfl) ?_
      refine zlEnd (by kernel_rfl) ?_
      refine zkSeq ?_
      refine zrRet ?_
      refine zkSeqR ?_
      refine zkNil ?_
      exact endQ hS hQ (fRet ((congrArg (fun s => outR s 0 c5.res) (by kernel_rfl : finSt c5.fin _ = f5_fin false)).trans (f5_out false)))
  · replace hS := cond_f hc hS
    refine zrCondF (by kernel_rfl) ?_
    refine zrSkip ?_
    refine zkSeq ?_
    exact f5_j1_ok hd a1 a2 a3 hQ p29 p30 p31 z14.2.2 hS (by kernel_rfl)
noncomputable def f5 (a1 : List (List UInt8)) (a2 : List UInt8) (a3 : Bool) : Option (Bool) := ((f14 a1 a2).bind fun z9 => (f9.bind fun z18 => (bif (!z18) then (f9.bind fun z19 => (some z19)) else (bif (decide ((a2.length : Int) < 2)) then (f9.bind fun z20 => (some z20)) else ((idx a2 1).bind fun z21 => (bif (decide (65 ≤ (z21.toNat : Int))) then (f9.bind fun z22 => (some z22)) else (f5_j0 a1 a2 a3 z9.1 z9.2.1 z9.2.2)))))))
theorem f5_ok (d : Nat) (hd : 7 ≤ d) (a1 : List (List UInt8)) (a2 : List UInt8) (a3 : Bool) (r : Bool) (hS : f5 a1 a2 a3 = some r) : lev codes baseL d 5 [(.d (.sl a1.length (eStr.cells a1))), (.d (.str a2)), (.d (.bool a3))] [] = some ((.d (.bool r)), []) := by
  refine lev_go codes5 rfl rfl (Nat.le_trans (Nat.le_of_ble_eq_true rfl) hd) fun Q hQ => ?_
  unfold f5 at hS
  show ZR _ Q c5_b [] _
  replace hQ : ∀ e st', f5_Q r e st' → Q e st' := hQ
  refine zrSeq ?_
  refine zrReg ?_
  refine zlRun (n := 1) (j := 1) rfl (by kernel_rfl) ?_
  refine zlEnd (by kernel_rfl) ?_
  refine zkSeq ?_
  refine zrSeq ?_
  refine zrReg ?_
  refine zlRun (n := 2) (j := 2) rfl (by kernel_rfl) ?_
  refine bindE hS (fun z9 hz9 hS => ?_)
  refine zlOp (d := some 19) (op := (.call 14 [(.tmp 17), (.tmp 18)])) (g := none) (v := (.tup [(.d (.str z9.1)), (.d (.str z9.2.1)), (.d (.int .i64 z9.2.2))])) (ups := []) (j := 3) rfl (by kernel_rfl) (by kernel_rfl) (ev_call (args := [(.d (.sl a1.length (eStr.cells a1))), (.d (.str a2))]) (l := [(.d (.sl a1.length (eStr.cells a1))), (.d (.str a2))]) (r := (.tup [(.d (.str z9.1)), (.d (.str z9.2.1)), (.d (.int .i64 z9.2.2))])) (by kernel_rfl) (by kernel_rfl) (f14_ok (d - 1) (dpt hd rfl) a1 a2 z9 hz9) (by kernel_rfl) (by kernel_rfl) (by kernel_rfl)) ?_
  refine zlRun (n := 7) (j := 10) rfl (by kernel_rfl) ?_
  refine zlEnd (by kernel_rfl) ?_
  refine zkSeq ?_
  refine zrSeq ?_
  refine zrSeq ?_
  refine zrReg ?_
  refine bindE hS (fun z18 hz18 hS => ?_)
  refine zlOp (d := some 23) (op := (.call 9 [])) (g := none) (v := (.d (.bool z18))) (ups := []) (j := 1) rfl (by kernel_rfl) (by kernel_rfl) (ev_call (args := []) (l := []) (r := (.d (.bool z18))) (by kernel_rfl) (by kernel_rfl) (f9_ok (d - 1) (dpt hd rfl)  z18 hz18) (by kernel_rfl) (by kernel_rfl) (by kernel_rfl)) ?_
  refine zlRun (n := 2) (j := 3) rfl (by kernel_rfl) ?_
  refine zlSplit 25 (!z18) (by kernel_rfl) (fun hc => ?_) (fun hc => ?_)
  · replace hS := cond_t hc hS
    refine zlRun (n := 9) (j := 12) rfl (by kernel_rfl) ?_
    refine zlEnd (by kernel_rfl) ?_
    refine zkSeq ?_
    refine zrCondT (by kernel_rfl) ?_
    refine zrSeq ?_
    refine zrReg ?_
    refine bindE hS (fun z19 hz19 hS => ?_)
    refine zlOp (d := some 35) (op := (.call 9 [])) (g := none) (v := (.d (.bool z19))) (ups := []) (j := 1) rfl (by kernel_rfl) (by kernel_rfl) (ev_call (args := []) (l := []) (r := (.d (.bool z19))) (by kernel_rfl) (by kernel_rfl) (f9_ok (d - 1) (dpt hd rfl)  z19 hz19) (by kernel_rfl) (by kernel_rfl) (by kernel_rfl)) ?_
    refine zlRun (n := 1) (j := 2) rfl (by kernel_rfl) ?_
    refine zlEnd (by kernel_rfl) ?_
    refine zkSeq ?_
    refine zrRet ?_
    refine zkSeqR ?_
    refine zkNil ?_
    exact endQ hS hQ (fRet ((congrArg (fun s => outR s 0 c5.res) (by kernel_rfl : finSt c5.fin _ = f5_fin z19)).trans (f5_out z19)))
  · replace hS := cond_f hc hS
    refine zlRun (n := 2) (j := 5) rfl (by kernel_rfl) ?_
    refine zlBool (d := 28) (op := (.cmpI .lss (.tmp 27) (.const (.int .i64 2)))) (g := (some (25, false))) (j := 6) (decide ((a2.length : Int) < 2)) rfl (by kernel_rfl) (by kernel_rfl) (by kernel_rfl) (fun hc => ?_) (fun hc => ?_)
    · replace hS := cond_t hc hS
      refine zlRun (n := 6) (j := 12) rfl (by kernel_rfl) ?_
      refine zlEnd (by kernel_rfl) ?_
      refine zkSeq ?_
      refine zrCondT (by kernel_rfl) ?_
      refine zrSeq ?_
      refine zrReg ?_
      refine bindE hS (fun z20 hz20 hS => ?_)
      refine zlOp (d := some 35) (op := (.call 9 [])) (g := none) (v := (.d (.bool z20))) (ups := []) (j := 1) rfl (by kernel_rfl) (by kernel_rfl) (ev_call (args := []) (l := []) (r := (.d (.bool z20))) (by kernel_rfl) (by kernel_rfl) (f9_ok (d - 1) (dpt hd rfl)  z20 hz20) (by kernel_rfl) (by kernel_rfl) (by kernel_rfl)) ?_
      refine zlRun (n := 1) (j := 2) rfl (by kernel_rfl) ?_
      refine zlEnd (by kernel_rfl) ?_
      refine zkSeq ?_
      refine zrRet ?_
      refine zkSeqR ?_
      refine zkNil ?_
      exact endQ hS hQ (fRet ((congrArg (fun s => outR s 0 c5.res) (by kernel_rfl : finSt c5.fin _ = f5_fin z20)).trans (f5_out z20)))
    · replace hS := cond_f hc hS
      refine zlRun (n := 3) (j := 9) rfl (by kernel_rfl) ?_
      refine bindE hS (fun z21 hz21 hS => ?_)
      refine zlOp (d := some 32) (op := (.ixStr (.tmp 31) (.const (.int .i64 1)))) (g := (some (30, false))) (v := (.d (.int .u8 (z21.toNat : Int)))) (ups := []) (j := 10) rfl (by kernel_rfl) (by kernel_rfl) (ev_ixStr (kk := .i64) (s := a2) (j := 1) (by kernel_rfl) (by kernel_rfl) hz21) ?_
      refine zlBool (d := 33) (op := (.cmpI .geq (.tmp 32) (.const (.int .u8 65)))) (g := (some (30, false))) (j := 11) (decide (65 ≤ (z21.toNat : Int))) rfl (by kernel_rfl) (by kernel_rfl) (by kernel_rfl) (fun hc => ?_) (fun hc => ?_)
      · replace hS := cond_t hc hS
        refine zlRun (n := 1) (j := 12) rfl (by kernel_rfl) ?_
        refine zlEnd (by kernel_rfl) ?_
        refine zkSeq ?_
        refine zrCondT (by kernel_rfl) ?_
        refine zrSeq ?_
        refine zrReg ?_
        refine bindE hS (fun z22 hz22 hS => ?_)
        refine zlOp (d := some 35) (op := (.call 9 [])) (g := none) (v := (.d (.bool z22))) (ups := []) (j := 1) rfl (by kernel_rfl) (by kernel_rfl) (ev_call (args := []) (l := []) (r := (.d (.bool z22))) (by kernel_rfl) (by kernel_rfl) (f9_ok (d - 1) (dpt hd rfl)  z22 hz22) (by kernel_rfl) (by kernel_rfl) (by kernel_rfl)) ?_
        refine zlRun (n := 1) (j := 2) rfl (by kernel_rfl) ?_
        refine zlEnd (by kernel_rfl) ?_
        refine zkSeq ?_
        refine zrRet ?_
        refine zkSeqR ?_
        refine zkNil ?_
        exact endQ hS hQ (fRet ((congrArg (fun s => outR s 0 c5.res) (by kernel_rfl : finSt c5.fin _ = f5_fin z22)).trans (f5_out z22)))
      · replace hS := cond_f hc hS
        refine zlRun (n := 1) (j := 12) rfl (by kernel_rfl) ?_
        refine zlEnd (by kernel_rfl) ?_
        refine zkSeq ?_
        refine zrCondF (by kernel_rfl) ?_
        refine zrSkip ?_
        refine zkSeq ?_
        exact f5_j0_ok hd a1 a2 a3 hQ z9.1 z9.2.1 z9.2.2 hS (by kernel_rfl)
end Go.Proofs.YtncgibcnibbdeaaDoor.Pm
