/- Typed functions, and that the codes are these. Printed by dec.py. -/
import Derived.Test.YtjndlncimgoacaaDoorDIcD
namespace Go.Proofs.YtjndlncimgoacaaDoor.Pm
set_option maxRecDepth 1000000
set_option maxHeartbeats 20000000
set_option linter.unusedVariables false
/- farwriter/farref.WireRight -/
def f11_fin (p17 : Int) : St := ⟨(up (fun _ => .un) 2 (.d (.int .i64 p17))), (hB fun _ => 0)⟩
theorem f11_out (p17 : Int) : outR (f11_fin p17) 0 c11.res = some ((.d (.int .i64 p17)), []) := by
  kernel_rfl
def f11_Q (r : Int) (e : PX) (st : St) : Prop := DoneF c11 0 ((.d (.int .i64 r)), []) e st
noncomputable def f11 (a1 : GWire) : Option (Int) := ((f22 a1.Mode 0 5).bind fun z4 => (bif (decide (a1.Mode = 2)) then ((f22 a1.Cmd 251 254).bind fun z5 => (bif z5 then (bif (decide (a1.Mode = 2) && (decide (a1.Cmd = a1.Cmd) && (decide (a1.Opt = 0) && (decide (a1.Buf = ([] : List UInt8)) && (decide (a1.Over = false) && true))))) then (some 0) else (some 4)) else (some 4))) else (bif (decide (a1.Mode < 4)) then (bif z4 then (bif (decide (a1.Mode = a1.Mode) && (decide (a1.Cmd = 0) && (decide (a1.Opt = 0) && (decide (a1.Buf = ([] : List UInt8)) && (decide (a1.Over = false) && true))))) then (some 0) else (some 4)) else (some 4)) else (bif z4 then (bif (decide (a1.Cmd = 0)) then ((f22 a1.Opt 0 255).bind fun z6 => (bif z6 then (bif (decide ((a1.Buf.length : Int) ≤ 4096)) then (bif (!a1.Over) then (some 0) else (bif (decide (a1.Buf = ([] : List UInt8))) then (some 0) else (some 4))) else (some 4)) else (some 4))) else (some 4)) else (some 4)))))
theorem f11_ok (d : Nat) (hd : 2 ≤ d) (a1 : GWire) (r : Int) (hS : f11 a1 = some r) : lev codes baseL d 11 [(.agg ((.d (.int .i64 a1.Mode)) :: ((.d (.int .i64 a1.Cmd)) :: ((.d (.int .i64 a1.Opt)) :: ((.d (.str a1.Buf)) :: ((.d (.bool a1.Over)) :: []))))))] [] = some ((.d (.int .i64 r)), []) := by
  refine lev_go codes11 rfl rfl (Nat.le_trans (Nat.le_of_ble_eq_true rfl) hd) fun Q hQ => ?_
  unfold f11 at hS
  show ZR _ Q c11_b [] _
  replace hQ : ∀ e st', f11_Q r e st' → Q e st' := hQ
  refine zrSeq ?_
  refine zrReg ?_
  refine zlRun (n := 2) (j := 2) rfl (by kernel_rfl) ?_
  refine zlEnd (by kernel_rfl) ?_
  refine zkSeq ?_
  refine zrSeq ?_
  refine zrReg ?_
  refine zlRun (n := 2) (j := 2) rfl (by kernel_rfl) ?_
  refine bindE hS (fun z4 hz4 hS => ?_)
  refine zlOp (d := some 6) (op := (.call 22 [(.tmp 5), (.const (.int .i64 0)), (.const (.int .i64 5))])) (g := none) (v := (.d (.bool z4))) (ups := []) (j := 3) rfl (by kernel_rfl) (by kernel_rfl) (ev_call (args := [(.d (.int .i64 a1.Mode)), (.d (.int .i64 0)), (.d (.int .i64 5))]) (l := [(.d (.int .i64 a1.Mode)), (.d (.int .i64 0)), (.d (.int .i64 5))]) (r := (.d (.bool z4))) (by kernel_rfl) (by kernel_rfl) (f22_ok (d - 1) (dpt hd rfl) a1.Mode 0 5 z4 hz4) (by kernel_rfl) (by kernel_rfl) (by kernel_rfl)) ?_
  refine zlRun (n := 1) (j := 4) rfl (by kernel_rfl) ?_
  refine zlEnd (by kernel_rfl) ?_
  refine zkSeq ?_
  refine zrSeq ?_
  refine zrSeq ?_
  refine zrReg ?_
  refine zlRun (n := 2) (j := 2) rfl (by kernel_rfl) ?_
  refine zlBool (d := 9) (op := (.cmpI .eql (.tmp 8) (.const (.int .i64 2)))) (g := none) (j := 3) (decide (a1.Mode = 2)) rfl (by kernel_rfl) (by kernel_rfl) (by kernel_rfl) (fun hc => ?_) (fun hc => ?_)
  · replace hS := cond_t hc hS
    refine zlEnd (by kernel_rfl) ?_
    refine zkSeq ?_
    refine zrCondT (by kernel_rfl) ?_
    refine zrReg ?_
    refine zlRun (n := 2) (j := 2) rfl (by kernel_rfl) ?_
    refine bindE hS (fun z5 hz5 hS => ?_)
    refine zlOp (d := some 12) (op := (.call 22 [(.tmp 11), (.const (.int .i64 251)), (.const (.int .i64 254))])) (g := none) (v := (.d (.bool z5))) (ups := []) (j := 3) rfl (by kernel_rfl) (by kernel_rfl) (ev_call (args := [(.d (.int .i64 a1.Cmd)), (.d (.int .i64 251)), (.d (.int .i64 254))]) (l := [(.d (.int .i64 a1.Cmd)), (.d (.int .i64 251)), (.d (.int .i64 254))]) (r := (.d (.bool z5))) (by kernel_rfl) (by kernel_rfl) (f22_ok (d - 1) (dpt hd rfl) a1.Cmd 251 254 z5 hz5) (by kernel_rfl) (by kernel_rfl) (by kernel_rfl)) ?_
    refine zlRun (n := 1) (j := 4) rfl (by kernel_rfl) ?_
    refine zlSplit 13 z5 (by kernel_rfl) (fun hc => ?_) (fun hc => ?_)
    · replace hS := cond_t hc hS
      refine zlRun (n := 4) (j := 8) rfl (by kernel_rfl) ?_
      refine zlBool (d := 18) (op := (.eqA .false [(3, .int), (1, .str), (1, .bool)] (.tmp 14) (.tmp 17))) (g := (some (13, true))) (j := 9) (decide (a1.Mode = 2) && (decide (a1.Cmd = a1.Cmd) && (decide (a1.Opt = 0) && (decide (a1.Buf = ([] : List UInt8)) && (decide (a1.Over = false) && true))))) rfl (by kernel_rfl) (by kernel_rfl) (by kernel_rfl) (fun hc => ?_) (fun hc => ?_)
      · replace hS := cond_t hc hS
        refine zlRun (n := 2) (j := 11) rfl (by kernel_rfl) ?_
        refine zlEnd (by kernel_rfl) ?_
        refine zkSeq ?_
        refine zrSeq ?_
        refine zrSeq ?_
        refine zrReg ?_
        refine zlRun (n := 2) (j := 2) rfl (by kernel_rfl) ?_
        refine zlEnd (by kernel_rfl) ?_
        refine zkSeq ?_
        refine zrCondF (by kernel_rfl) ?_
        refine zrSkip ?_
        refine zkSeq ?_
        refine zrSeq ?_
        refine zrReg ?_
        refine zlRun (n := 1) (j := 1) rfl (by kernel_rfl) ?_
        refine zlEnd (by kernel_rfl) ?_
        refine zkSeq ?_
        refine zrRet ?_
        refine zkNil ?_
        exact endQ hS hQ (fRet ((congrArg (fun s => outR s 0 c11.res) (by kernel_rfl : finSt c11.fin _ = f11_fin 0)).trans (f11_out 0)))
      · replace hS := cond_f hc hS
        refine zlRun (n := 2) (j := 11) rfl (by kernel_rfl) ?_
        refine zlEnd (by kernel_rfl) ?_
        refine zkSeq ?_
        refine zrSeq ?_
        refine zrSeq ?_
        refine zrReg ?_
        refine zlRun (n := 2) (j := 2) rfl (by kernel_rfl) ?_
        refine zlEnd (by kernel_rfl) ?_
        refine zkSeq ?_
        refine zrCondT (by kernel_rfl) ?_
        refine zrSeq ?_
        refine zrReg ?_
        refine zlRun (n := 1) (j := 1) rfl (by kernel_rfl) ?_
        refine zlEnd (by kernel_rfl) ?_
        refine zkSeq ?_
        refine zrRet ?_
        refine zkSeqR ?_
        refine zkNil ?_
        exact endQ hS hQ (fRet ((congrArg (fun s => outR s 0 c11.res) (by kernel_rfl : finSt c11.fin _ = f11_fin 4)).trans (f11_out 4)))
    · replace hS := cond_f hc hS
      refine zlRun (n := 7) (j := 11) rfl (by kernel_rfl) ?_
      refine zlEnd (by kernel_rfl) ?_
      refine zkSeq ?_
      refine zrSeq ?_
      refine zrSeq ?_
      refine zrReg ?_
      refine zlRun (n := 2) (j := 2) rfl (by kernel_rfl) ?_
      refine zlEnd (by kernel_rfl) ?_
      refine zkSeq ?_
      refine zrCondT (by kernel_rfl) ?_
      refine zrSeq ?_
      refine zrReg ?_
      refine zlRun (n := 1) (j := 1) rfl (by kernel_rfl) ?_
      refine zlEnd (by kernel_rfl) ?_
      refine zkSeq ?_
      refine zrRet ?_
      refine zkSeqR ?_
      refine zkNil ?_
      exact endQ hS hQ (fRet ((congrArg (fun s => outR s 0 c11.res) (by kernel_rfl : finSt c11.fin _ = f11_fin 4)).trans (f11_out 4)))
  · replace hS := cond_f hc hS
    refine zlEnd (by kernel_rfl) ?_
    refine zkSeq ?_
    refine zrCondF (by kernel_rfl) ?_
    refine zrSeq ?_
    refine zrReg ?_
    refine zlRun (n := 2) (j := 2) rfl (by kernel_rfl) ?_
    refine zlBool (d := 22) (op := (.cmpI .lss (.tmp 21) (.const (.int .i64 4)))) (g := none) (j := 3) (decide (a1.Mode < 4)) rfl (by kernel_rfl) (by kernel_rfl) (by kernel_rfl) (fun hc => ?_) (fun hc => ?_)
    · replace hS := cond_t hc hS
      refine zlEnd (by kernel_rfl) ?_
      refine zkSeq ?_
      refine zrCondT (by kernel_rfl) ?_
      refine zrReg ?_
      refine zlRun (n := 2) (j := 2) rfl (by kernel_rfl) ?_
      refine zlSplit 24 z4 (by kernel_rfl) (fun hc => ?_) (fun hc => ?_)
      · replace hS := cond_t hc hS
        refine zlRun (n := 4) (j := 6) rfl (by kernel_rfl) ?_
        refine zlBool (d := 29) (op := (.eqA .false [(3, .int), (1, .str), (1, .bool)] (.tmp 25) (.tmp 28))) (g := (some (24, true))) (j := 7) (decide (a1.Mode = a1.Mode) && (decide (a1.Cmd = 0) && (decide (a1.Opt = 0) && (decide (a1.Buf = ([] : List UInt8)) && (decide (a1.Over = false) && true))))) rfl (by kernel_rfl) (by kernel_rfl) (by kernel_rfl) (fun hc => ?_) (fun hc => ?_)
        · replace hS := cond_t hc hS
          refine zlRun (n := 2) (j := 9) rfl (by kernel_rfl) ?_
          refine zlEnd (by kernel_rfl) ?_
          refine zkSeq ?_
          refine zrSeq ?_
          refine zrSeq ?_
          refine zrReg ?_
          refine zlRun (n := 2) (j := 2) rfl (by kernel_rfl) ?_
          refine zlEnd (by kernel_rfl) ?_
          refine zkSeq ?_
          refine zrCondF (by kernel_rfl) ?_
          refine zrSkip ?_
          refine zkSeq ?_
          refine zrSeq ?_
          refine zrReg ?_
          refine zlRun (n := 1) (j := 1) rfl (by kernel_rfl) ?_
          refine zlEnd (by kernel_rfl) ?_
          refine zkSeq ?_
          refine zrRet ?_
          refine zkNil ?_
          exact endQ hS hQ (fRet ((congrArg (fun s => outR s 0 c11.res) (by kernel_rfl : finSt c11.fin _ = f11_fin 0)).trans (f11_out 0)))
        · replace hS := cond_f hc hS
          refine zlRun (n := 2) (j := 9) rfl (by kernel_rfl) ?_
          refine zlEnd (by kernel_rfl) ?_
          refine zkSeq ?_
          refine zrSeq ?_
          refine zrSeq ?_
          refine zrReg ?_
          refine zlRun (n := 2) (j := 2) rfl (by kernel_rfl) ?_
          refine zlEnd (by kernel_rfl) ?_
          refine zkSeq ?_
          refine zrCondT (by kernel_rfl) ?_
          refine zrSeq ?_
          refine zrReg ?_
          refine zlRun (n := 1) (j := 1) rfl (by kernel_rfl) ?_
          refine zlEnd (by kernel_rfl) ?_
          refine zkSeq ?_
          refine zrRet ?_
          refine zkSeqR ?_
          refine zkNil ?_
          exact endQ hS hQ (fRet ((congrArg (fun s => outR s 0 c11.res) (by kernel_rfl : finSt c11.fin _ = f11_fin 4)).trans (f11_out 4)))
      · replace hS := cond_f hc hS
        refine zlRun (n := 7) (j := 9) rfl (by kernel_rfl) ?_
        refine zlEnd (by kernel_rfl) ?_
        refine zkSeq ?_
        refine zrSeq ?_
        refine zrSeq ?_
        refine zrReg ?_
        refine zlRun (n := 2) (j := 2) rfl (by kernel_rfl) ?_
        refine zlEnd (by kernel_rfl) ?_
        refine zkSeq ?_
        refine zrCondT (by kernel_rfl) ?_
        refine zrSeq ?_
        refine zrReg ?_
        refine zlRun (n := 1) (j := 1) rfl (by kernel_rfl) ?_
        refine zlEnd (by kernel_rfl) ?_
        refine zkSeq ?_
        refine zrRet ?_
        refine zkSeqR ?_
        refine zkNil ?_
        exact endQ hS hQ (fRet ((congrArg (fun s => outR s 0 c11.res) (by kernel_rfl : finSt c11.fin _ = f11_fin 4)).trans (f11_out 4)))
    · replace hS := cond_f hc hS
      refine zlEnd (by kernel_rfl) ?_
      refine zkSeq ?_
      refine zrCondF (by kernel_rfl) ?_
      refine zrReg ?_
      refine zlRun (n := 2) (j := 2) rfl (by kernel_rfl) ?_
      refine zlSplit 32 z4 (by kernel_rfl) (fun hc => ?_) (fun hc => ?_)
      · replace hS := cond_t hc hS
        refine zlRun (n := 2) (j := 4) rfl (by kernel_rfl) ?_
        refine zlBool (d := 35) (op := (.cmpI .eql (.tmp 34) (.const (.int .i64 0)))) (g := (some (32, true))) (j := 5) (decide (a1.Cmd = 0)) rfl (by kernel_rfl) (by kernel_rfl) (by kernel_rfl) (fun hc => ?_) (fun hc => ?_)
        · replace hS := cond_t hc hS
          refine zlRun (n := 4) (j := 9) rfl (by kernel_rfl) ?_
          refine bindE hS (fun z6 hz6 hS => ?_)
          refine zlOp (d := some 40) (op := (.call 22 [(.tmp 39), (.const (.int .i64 0)), (.const (.int .i64 255))])) (g := (some (37, true))) (v := (.d (.bool z6))) (ups := []) (j := 10) rfl (by kernel_rfl) (by kernel_rfl) (ev_call (args := [(.d (.int .i64 a1.Opt)), (.d (.int .i64 0)), (.d (.int .i64 255))]) (l := [(.d (.int .i64 a1.Opt)), (.d (.int .i64 0)), (.d (.int .i64 255))]) (r := (.d (.bool z6))) (by kernel_rfl) (by kernel_rfl) (f22_ok (d - 1) (dpt hd rfl) a1.Opt 0 255 z6 hz6) (by kernel_rfl) (by kernel_rfl) (by kernel_rfl)) ?_
          refine zlRun (n := 2) (j := 12) rfl (by kernel_rfl) ?_
          refine zlSplit 42 z6 (by kernel_rfl) (fun hc => ?_) (fun hc => ?_)
          · replace hS := cond_t hc hS
            refine zlRun (n := 3) (j := 15) rfl (by kernel_rfl) ?_
            refine zlBool (d := 46) (op := (.cmpI .leq (.tmp 45) (.const (.int .i64 4096)))) (g := (some (42, true))) (j := 16) (decide ((a1.Buf.length : Int) ≤ 4096)) rfl (by kernel_rfl) (by kernel_rfl) (by kernel_rfl) (fun hc => ?_) (fun hc => ?_)
            · replace hS := cond_t hc hS
              refine zlRun (n := 6) (j := 22) rfl (by kernel_rfl) ?_
              refine zlSplit 52 (!a1.Over) (by kernel_rfl) (fun hc => ?_) (fun hc => ?_)
              · replace hS := cond_t hc hS
                refine zlRun (n := 6) (j := 28) rfl (by kernel_rfl) ?_
                refine zlEnd (by kernel_rfl) ?_
                refine zkSeq ?_
                refine zrSeq ?_
                refine zrSeq ?_
                refine zrReg ?_
                refine zlRun (n := 2) (j := 2) rfl (by kernel_rfl) ?_
                refine zlEnd (by kernel_rfl) ?_
                refine zkSeq ?_
                refine zrCondF (by kernel_rfl) ?_
                refine zrSkip ?_
                refine zkSeq ?_
                refine zrSeq ?_
                refine zrReg ?_
                refine zlRun (n := 1) (j := 1) rfl (by kernel_rfl) ?_
                refine zlEnd (by kernel_rfl) ?_
                refine zkSeq ?_
                refine zrRet ?_
                refine zkNil ?_
                exact endQ hS hQ (fRet ((congrArg (fun s => outR s 0 c11.res) (by kernel_rfl : finSt c11.fin _ = f11_fin 0)).trans (f11_out 0)))
              · replace hS := cond_f hc hS
                refine zlRun (n := 2) (j := 24) rfl (by kernel_rfl) ?_
                refine zlBool (d := 55) (op := (.strO .eql (.tmp 54) (.const (.string ⟨#[]⟩)))) (g := (some (52, false))) (j := 25) (decide (a1.Buf = ([] : List UInt8))) rfl (by kernel_rfl) (by kernel_rfl) (by kernel_rfl) (fun hc => ?_) (fun hc => ?_)
                · replace hS := cond_t hc hS
                  refine zlRun (n := 3) (j := 28) rfl (by kernel_rfl) ?_
                  refine zlEnd (by kernel_rfl) ?_
                  refine zkSeq ?_
                  refine zrSeq ?_
                  refine zrSeq ?_
                  refine zrReg ?_
                  refine zlRun (n := 2) (j := 2) rfl (by kernel_rfl) ?_
                  refine zlEnd (by kernel_rfl) ?_
                  refine zkSeq ?_
                  refine zrCondF (by kernel_rfl) ?_
                  refine zrSkip ?_
                  refine zkSeq ?_
                  refine zrSeq ?_
                  refine zrReg ?_
                  refine zlRun (n := 1) (j := 1) rfl (by kernel_rfl) ?_
                  refine zlEnd (by kernel_rfl) ?_
                  refine zkSeq ?_
                  refine zrRet ?_
                  refine zkNil ?_
                  exact endQ hS hQ (fRet ((congrArg (fun s => outR s 0 c11.res) (by kernel_rfl : finSt c11.fin _ = f11_fin 0)).trans (f11_out 0)))
                · replace hS := cond_f hc hS
                  refine zlRun (n := 3) (j := 28) rfl (by kernel_rfl) ?_
                  refine zlEnd (by kernel_rfl) ?_
                  refine zkSeq ?_
                  refine zrSeq ?_
                  refine zrSeq ?_
                  refine zrReg ?_
                  refine zlRun (n := 2) (j := 2) rfl (by kernel_rfl) ?_
                  refine zlEnd (by kernel_rfl) ?_
                  refine zkSeq ?_
                  refine zrCondT (by kernel_rfl) ?_
                  refine zrSeq ?_
                  refine zrReg ?_
                  refine zlRun (n := 1) (j := 1) rfl (by kernel_rfl) ?_
                  refine zlEnd (by kernel_rfl) ?_
                  refine zkSeq ?_
                  refine zrRet ?_
                  refine zkSeqR ?_
                  refine zkNil ?_
                  exact endQ hS hQ (fRet ((congrArg (fun s => outR s 0 c11.res) (by kernel_rfl : finSt c11.fin _ = f11_fin 4)).trans (f11_out 4)))
            · replace hS := cond_f hc hS
              refine zlRun (n := 12) (j := 28) rfl (by kernel_rfl) ?_
              refine zlEnd (by kernel_rfl) ?_
              refine zkSeq ?_
              refine zrSeq ?_
              refine zrSeq ?_
              refine zrReg ?_
              refine zlRun (n := 2) (j := 2) rfl (by kernel_rfl) ?_
              refine zlEnd (by kernel_rfl) ?_
              refine zkSeq ?_
              refine zrCondT (by kernel_rfl) ?_
              refine zrSeq ?_
              refine zrReg ?_
              refine zlRun (n := 1) (j := 1) rfl (by kernel_rfl) ?_
              refine zlEnd (by kernel_rfl) ?_
              refine zkSeq ?_
              refine zrRet ?_
              refine zkSeqR ?_
              refine zkNil ?_
              exact endQ hS hQ (fRet ((congrArg (fun s => outR s 0 c11.res) (by kernel_rfl : finSt c11.fin _ = f11_fin 4)).trans (f11_out 4)))
          · replace hS := cond_f hc hS
            refine zlRun (n := 16) (j := 28) rfl (by kernel_rfl) ?_
            refine zlEnd (by kernel_rfl) ?_
            refine zkSeq ?_
            refine zrSeq ?_
            refine zrSeq ?_
            refine zrReg ?_
            refine zlRun (n := 2) (j := 2) rfl (by kernel_rfl) ?_
            refine zlEnd (by kernel_rfl) ?_
            refine zkSeq ?_
            refine zrCondT (by kernel_rfl) ?_
            refine zrSeq ?_
            refine zrReg ?_
            refine zlRun (n := 1) (j := 1) rfl (by kernel_rfl) ?_
            refine zlEnd (by kernel_rfl) ?_
            refine zkSeq ?_
            refine zrRet ?_
            refine zkSeqR ?_
            refine zkNil ?_
            exact endQ hS hQ (fRet ((congrArg (fun s => outR s 0 c11.res) (by kernel_rfl : finSt c11.fin _ = f11_fin 4)).trans (f11_out 4)))
        · replace hS := cond_f hc hS
          refine zlRun (n := 23) (j := 28) rfl (by kernel_rfl) ?_
          refine zlEnd (by kernel_rfl) ?_
          refine zkSeq ?_
          refine zrSeq ?_
          refine zrSeq ?_
          refine zrReg ?_
          refine zlRun (n := 2) (j := 2) rfl (by kernel_rfl) ?_
          refine zlEnd (by kernel_rfl) ?_
          refine zkSeq ?_
          refine zrCondT (by kernel_rfl) ?_
          refine zrSeq ?_
          refine zrReg ?_
          refine zlRun (n := 1) (j := 1) rfl (by kernel_rfl) ?_
          refine zlEnd (by kernel_rfl) ?_
          refine zkSeq ?_
          refine zrRet ?_
          refine zkSeqR ?_
          refine zkNil ?_
          exact endQ hS hQ (fRet ((congrArg (fun s => outR s 0 c11.res) (by kernel_rfl : finSt c11.fin _ = f11_fin 4)).trans (f11_out 4)))
      · replace hS := cond_f hc hS
        refine zlRun (n := 26) (j := 28) rfl (by kernel_rfl) ?_
        refine zlEnd (by kernel_rfl) ?_
        refine zkSeq ?_
        refine zrSeq ?_
        refine zrSeq ?_
        refine zrReg ?_
        refine zlRun (n := 2) (j := 2) rfl (by kernel_rfl) ?_
        refine zlEnd (by kernel_rfl) ?_
        refine zkSeq ?_
        refine zrCondT (by kernel_rfl) ?_
        refine zrSeq ?_
        refine zrReg ?_
        refine zlRun (n := 1) (j := 1) rfl (by kernel_rfl) ?_
        refine zlEnd (by kernel_rfl) ?_
        refine zkSeq ?_
        refine zrRet ?_
        refine zkSeqR ?_
        refine zkNil ?_
        exact endQ hS hQ (fRet ((congrArg (fun s => outR s 0 c11.res) (by kernel_rfl : finSt c11.fin _ = f11_fin 4)).trans (f11_out 4)))
/- farwriter/iac.Write -/
def f14_fin (p29 : List UInt8) (p30 : Int) : St := ⟨(up (up (fun _ => .un) 3 (.d (.int .i64 p30))) 2 (.d (.str p29))), (hB fun _ => 0)⟩
theorem f14_out (p29 : List UInt8) (p30 : Int) : outR (f14_fin p29 p30) 0 c14.res = some ((.tup [(.d (.str p29)), (.d (.int .i64 p30))]), []) := by
  kernel_rfl
def f14_Q (r : (List UInt8) × Int) (e : PX) (st : St) : Prop := DoneF c14 0 ((.tup [(.d (.str r.1)), (.d (.int .i64 r.2))]), []) e st
def f14_j5_J (a1 : GTok) : St := ⟨(up (fun _ => .un) 1 (.r (.ptr 16 0 0))), (up (hB fun _ => 0) 16 ⟨0, some (.box ((.d (.int .i64 a1.Kind)) :: ((.d (.int .i64 a1.Cmd)) :: ((.d (.int .i64 a1.Opt)) :: ((.d (.str a1.Data)) :: [])))))⟩)⟩
noncomputable def f14_j5 (a1 : GTok) : Option ((List UInt8) × Int) := ((f9 a1.Data).bind fun z5 => ((cat? ([255, 250, (u8 a1.Opt)] : List UInt8) z5).bind fun z6 => ((cat? z6 ([255, 240] : List UInt8)).bind fun z7 => (some (z7, 0)))))
theorem f14_j5_ok {d : Nat} (hd : 2 ≤ d) (a1 : GTok) {r : (List UInt8) × Int} {Q : PX → St → Prop} (hQ : ∀ e st', f14_Q r e st' → Q e st')  (hS : f14_j5 a1 = some r) {st : St} (he : keepSt [1] [(16, .id 16)] [] st = f14_j5_J a1) : ZR (lev codes baseL (d - 1)) Q c14_1 [.blk 0, .seq c14_2] st := by
  refine zrKeep he ?_
  unfold f14_j5 at hS
  refine zrSeq ?_
  refine zrRegD ?_
  refine zdRun (n := 2) (j := 2) (ts := [[], [(16, false)]]) (acc' := [[], [(16, false)]]) rfl (by kernel_rfl) (by kernel_rfl) (by kernel_rfl) ?_
  refine zdOp (d := some 107) (op := (.cvI .u8 (.tmp 106))) (g := none) (v := (.d (.int .u8 ((u8 a1.Opt).toNat : Int)))) (ups := []) (j := 3) (t1 := []) (acc' := [[], [(16, false)], []]) (by kernel_rfl) (by kernel_rfl) rfl (by kernel_rfl) (by kernel_rfl) (ev_cv (kk := .i64) (a := a1.Opt) (by kernel_rfl) (u8_wrap _)) ?_
  refine zdRun (n := 1) (j := 4) (ts := [[(872, true)]]) (acc' := [[], [(16, false)], [], [(872, true)]]) rfl (by kernel_rfl) (by kernel_rfl) (by kernel_rfl) ?_
  refine zdOp (d := some 109) (op := (.cvBS (.tmp 108))) (g := none) (v := (.d (.str ([255, 250, (u8 a1.Opt)] : List UInt8)))) (ups := []) (j := 5) (t1 := [(872, false)]) (acc' := [[], [(16, false)], [], [(872, true)], [(872, false)]]) (by kernel_rfl) (by kernel_rfl) rfl (by kernel_rfl) (by kernel_rfl) (ev_cvBS (s := [255, 250, (u8 a1.Opt)]) ((congrArg (asL _) (by kernel_rfl : ρof _ (.tmp 108) = (.r (.msl 872 1 0 (([255, 250, (u8 a1.Opt)] : List UInt8).length))))).trans (as_whole eU8 (e := 5) (k := 1) (xs := [255, 250, (u8 a1.Opt)]) (by kernel_rfl) rfl rfl)) rfl) ?_
  refine zdRun (n := 2) (j := 7) (ts := [[], [(16, false)]]) (acc' := [[], [(16, false)], [], [(872, true)], [(872, false)], [], [(16, false)]]) rfl (by kernel_rfl) (by kernel_rfl) (by kernel_rfl) ?_
  refine bindE hS (fun z5 hz5 hS => ?_)
  refine zdOp (d := some 112) (op := (.call 9 [(.tmp 111)])) (g := none) (v := (.d (.str z5))) (ups := []) (j := 8) (t1 := [(904, true), (905, true), (906, true), (907, true), (908, true), (909, true), (910, true), (911, true)]) (acc' := [[], [(16, false)], [], [(872, true)], [(872, false)], [], [(16, false)], [(904, true), (905, true), (906, true), (907, true), (908, true), (909, true), (910, true), (911, true)]]) (by kernel_rfl) (by kernel_rfl) rfl (by kernel_rfl) (by kernel_rfl) (ev_call (args := [(.d (.str a1.Data))]) (l := [(.d (.str a1.Data))]) (r := (.d (.str z5))) (by kernel_rfl) (by kernel_rfl) (f9_ok (d - 1) (dpt hd rfl) a1.Data z5 hz5) (by kernel_rfl) (by kernel_rfl) (by kernel_rfl)) ?_
  refine bindE hS (fun z6 hz6 hS => ?_)
  refine zdOp (d := some 113) (op := (.strO .add (.tmp 109) (.tmp 112))) (g := none) (v := (.d (.str z6))) (ups := []) (j := 9) (t1 := []) (acc' := [[], [(16, false)], [], [(872, true)], [(872, false)], [], [(16, false)], [(904, true), (905, true), (906, true), (907, true), (908, true), (909, true), (910, true), (911, true)], []]) (by kernel_rfl) (by kernel_rfl) rfl (by kernel_rfl) (by kernel_rfl) (ev_cat (a := ([255, 250, (u8 a1.Opt)] : List UInt8)) (c := z5) (by kernel_rfl) (by kernel_rfl) hz6) ?_
  refine bindE hS (fun z7 hz7 hS => ?_)
  refine zdOp (d := some 114) (op := (.strO .add (.tmp 113) (.const (.string ⟨#[255, 240]⟩)))) (g := none) (v := (.d (.str z7))) (ups := []) (j := 10) (t1 := []) (acc' := [[], [(16, false)], [], [(872, true)], [(872, false)], [], [(16, false)], [(904, true), (905, true), (906, true), (907, true), (908, true), (909, true), (910, true), (911, true)], [], []]) (by kernel_rfl) (by kernel_rfl) rfl (by kernel_rfl) (by kernel_rfl) (ev_cat (a := z6) (c := [255, 240]) (by kernel_rfl) (by kernel_rfl) hz7) ?_
  refine zdRun (n := 2) (j := 12) (ts := [[], []]) (acc' := [[], [(16, false)], [], [(872, true)], [(872, false)], [], [(16, false)], [(904, true), (905, true), (906, true), (907, true), (908, true), (909, true), (910, true), (911, true)], [], [], [], []]) rfl (by kernel_rfl) (by kernel_rfl) (by kernel_rfl) ?_
  refine zdEnd (by kernel_rfl) (by kernel_rfl) ?_
  refine zkSeq ?_
  refine zrRet ?_
  refine zkBlkR ?_
  refine zkSeqR ?_
  refine zkNil ?_
  exact endQ hS hQ (fRet ((congrArg (fun s => outR s 0 c14.res) (by kernel_rfl : finSt c14.fin _ = f14_fin z7 0)).trans (f14_out z7 0)))
def f14_j4_J (a1 : GTok) (p47 : Bool) : St := ⟨(up (up (fun _ => .un) 89 (.d (.bool p47))) 1 (.r (.ptr 16 0 0))), (up (hB fun _ => 0) 16 ⟨0, some (.box ((.d (.int .i64 a1.Kind)) :: ((.d (.int .i64 a1.Cmd)) :: ((.d (.int .i64 a1.Opt)) :: ((.d (.str a1.Data)) :: [])))))⟩)⟩
noncomputable def f14_j4 (a1 : GTok) (p47 : Bool) : Option ((List UInt8) × Int) := (bif p47 then (bif (decide (4096 < (a1.Data.length : Int))) then (some ([], 2)) else (f14_j5 a1 )) else (some ([], 1)))
theorem f14_j4_ok {d : Nat} (hd : 2 ≤ d) (a1 : GTok) {r : (List UInt8) × Int} {Q : PX → St → Prop} (hQ : ∀ e st', f14_Q r e st' → Q e st') (p47 : Bool) (hS : f14_j4 a1 p47 = some r) {st : St} (he : keepSt [1, 89] [(16, .id 16)] [] st = f14_j4_J a1 p47) : ZR (lev codes baseL (d - 1)) Q c14_3 [.blk 0, .seq c14_2] st := by
  refine zrKeep he ?_
  unfold f14_j4 at hS
  refine zrSplit 89 p47 (by kernel_rfl) (fun hc => ?_) (fun hc => ?_)
  · replace hS := cond_t hc hS
    refine zrCondT (by kernel_rfl) ?_
    refine zrSeq ?_
    refine zrSeq ?_
    refine zrReg ?_
    refine zlRun (n := 3) (j := 3) rfl (by kernel_rfl) ?_
    refine zlBool (d := 104) (op := (.cmpI .gtr (.tmp 103) (.const (.int .i64 4096)))) (g := none) (j := 4) (decide (4096 < (a1.Data.length : Int))) rfl (by kernel_rfl) (by kernel_rfl) (by kernel_rfl) (fun hc => ?_) (fun hc => ?_)
    · replace hS := cond_t hc hS
      refine zlEnd (by kernel_rfl) ?_
      refine zkSeq ?_
      refine zrCondT (by kernel_rfl) ?_
      refine zrSeq ?_
      refine zrReg ?_
      refine zlRun (n := 2) (j := 2) rfl (by kernel_rfl) ?_
      refine zlEnd (by kernel_rfl) ?_
      refine zkSeq ?_
      refine zrRet ?_
      refine zkSeqR ?_
      refine zkBlkR ?_
      refine zkSeqR ?_
      refine zkNil ?_
      exact endQ hS hQ (fRet ((congrArg (fun s => outR s 0 c14.res) (by kernel_rfl : finSt c14.fin _ = f14_fin [] 2)).trans (f14_out [] 2)))
    · replace hS := cond_f hc hS
      refine zlEnd (by kernel_rfl) ?_
      refine zkSeq ?_
      refine zrCondF (by kernel_rfl) ?_
      refine zrSkip ?_
      refine zkSeq ?_
      exact f14_j5_ok hd a1 hQ  hS (by kernel_rfl)
  · replace hS := cond_f hc hS
    refine zrCondF (by kernel_rfl) ?_
    refine zrSkip ?_
    refine zkBlk ?_
    refine zkSeq ?_
    refine zrSeq ?_
    refine zrReg ?_
    refine zlRun (n := 2) (j := 2) rfl (by kernel_rfl) ?_
    refine zlEnd (by kernel_rfl) ?_
    refine zkSeq ?_
    refine zrRet ?_
    refine zkNil ?_
    exact endQ hS hQ (fRet ((congrArg (fun s => outR s 0 c14.res) (by kernel_rfl : finSt c14.fin _ = f14_fin [] 1)).trans (f14_out [] 1)))
def f14_j3_J (a1 : GTok) (p44 : Bool) : St := ⟨(up (up (fun _ => .un) 5 (.d (.bool p44))) 1 (.r (.ptr 16 0 0))), (up (hB fun _ => 0) 16 ⟨0, some (.box ((.d (.int .i64 a1.Kind)) :: ((.d (.int .i64 a1.Cmd)) :: ((.d (.int .i64 a1.Opt)) :: ((.d (.str a1.Data)) :: [])))))⟩)⟩
noncomputable def f14_j3 (a1 : GTok) (p44 : Bool) : Option ((List UInt8) × Int) := (bif (decide (a1.Kind = 4)) then (bif (decide (a1.Cmd = 0)) then (f14_j4 a1 p44) else (f14_j4 a1 false)) else (f14_j4 a1 false))
theorem f14_j3_ok {d : Nat} (hd : 2 ≤ d) (a1 : GTok) {r : (List UInt8) × Int} {Q : PX → St → Prop} (hQ : ∀ e st', f14_Q r e st' → Q e st') (p44 : Bool) (hS : f14_j3 a1 p44 = some r) {st : St} (he : keepSt [1, 5] [(16, .id 16)] [] st = f14_j3_J a1 p44) : ZR (lev codes baseL (d - 1)) Q c14_4 [.blk 0, .seq c14_2] st := by
  refine zrKeep he ?_
  unfold f14_j3 at hS
  refine zrSeq ?_
  refine zrReg ?_
  refine zlRun (n := 2) (j := 2) rfl (by kernel_rfl) ?_
  refine zlBool (d := 92) (op := (.cmpI .eql (.tmp 91) (.const (.int .i64 4)))) (g := none) (j := 3) (decide (a1.Kind = 4)) rfl (by kernel_rfl) (by kernel_rfl) (by kernel_rfl) (fun hc => ?_) (fun hc => ?_)
  · replace hS := cond_t hc hS
    refine zlRun (n := 3) (j := 6) rfl (by kernel_rfl) ?_
    refine zlBool (d := 96) (op := (.cmpI .eql (.tmp 95) (.const (.int .i64 0)))) (g := (some (93, true))) (j := 7) (decide (a1.Cmd = 0)) rfl (by kernel_rfl) (by kernel_rfl) (by kernel_rfl) (fun hc => ?_) (fun hc => ?_)
    · replace hS := cond_t hc hS
      refine zlRun (n := 5) (j := 12) rfl (by kernel_rfl) ?_
      refine zlEnd (by kernel_rfl) ?_
      refine zkSeq ?_
      exact f14_j4_ok hd a1 hQ p44 hS (by kernel_rfl)
    · replace hS := cond_f hc hS
      refine zlRun (n := 5) (j := 12) rfl (by kernel_rfl) ?_
      refine zlEnd (by kernel_rfl) ?_
      refine zkSeq ?_
      exact f14_j4_ok hd a1 hQ false hS (by kernel_rfl)
  · replace hS := cond_f hc hS
    refine zlRun (n := 9) (j := 12) rfl (by kernel_rfl) ?_
    refine zlEnd (by kernel_rfl) ?_
    refine zkSeq ?_
    exact f14_j4_ok hd a1 hQ false hS (by kernel_rfl)
def f14_j2_J (a1 : GTok) (p39 : Bool) : St := ⟨(up (up (fun _ => .un) 5 (.d (.bool p39))) 1 (.r (.ptr 16 0 0))), (up (hB fun _ => 0) 16 ⟨0, some (.box ((.d (.int .i64 a1.Kind)) :: ((.d (.int .i64 a1.Cmd)) :: ((.d (.int .i64 a1.Opt)) :: ((.d (.str a1.Data)) :: [])))))⟩)⟩
noncomputable def f14_j2 (a1 : GTok) (p39 : Bool) : Option ((List UInt8) × Int) := (bif (decide (a1.Kind = 3)) then (bif (decide (251 ≤ a1.Cmd)) then (bif (decide (a1.Cmd ≤ 254)) then (bif p39 then (bif (decide (a1.Data = ([] : List UInt8))) then (some (([255, (u8 a1.Cmd), (u8 a1.Opt)] : List UInt8), 0)) else (f14_j3 a1 p39)) else (f14_j3 a1 p39)) else (f14_j3 a1 p39)) else (f14_j3 a1 p39)) else (f14_j3 a1 p39))
theorem f14_j2_ok {d : Nat} (hd : 2 ≤ d) (a1 : GTok) {r : (List UInt8) × Int} {Q : PX → St → Prop} (hQ : ∀ e st', f14_Q r e st' → Q e st') (p39 : Bool) (hS : f14_j2 a1 p39 = some r) {st : St} (he : keepSt [1, 5] [(16, .id 16)] [] st = f14_j2_J a1 p39) : ZR (lev codes baseL (d - 1)) Q c14_5 [.blk 0, .seq c14_2] st := by
  refine zrKeep he ?_
  unfold f14_j2 at hS
  refine zrSeq ?_
  refine zrReg ?_
  refine zlRun (n := 2) (j := 2) rfl (by kernel_rfl) ?_
  refine zlBool (d := 62) (op := (.cmpI .eql (.tmp 61) (.const (.int .i64 3)))) (g := none) (j := 3) (decide (a1.Kind = 3)) rfl (by kernel_rfl) (by kernel_rfl) (by kernel_rfl) (fun hc => ?_) (fun hc => ?_)
  · replace hS := cond_t hc hS
    refine zlRun (n := 3) (j := 6) rfl (by kernel_rfl) ?_
    refine zlBool (d := 66) (op := (.cmpI .geq (.tmp 65) (.const (.int .i64 251)))) (g := (some (63, true))) (j := 7) (decide (251 ≤ a1.Cmd)) rfl (by kernel_rfl) (by kernel_rfl) (by kernel_rfl) (fun hc => ?_) (fun hc => ?_)
    · replace hS := cond_t hc hS
      refine zlRun (n := 4) (j := 11) rfl (by kernel_rfl) ?_
      refine zlBool (d := 71) (op := (.cmpI .leq (.tmp 70) (.const (.int .i64 254)))) (g := (some (68, true))) (j := 12) (decide (a1.Cmd ≤ 254)) rfl (by kernel_rfl) (by kernel_rfl) (by kernel_rfl) (fun hc => ?_) (fun hc => ?_)
      · replace hS := cond_t hc hS
        refine zlRun (n := 5) (j := 17) rfl (by kernel_rfl) ?_
        refine zlSplit 76 p39 (by kernel_rfl) (fun hc => ?_) (fun hc => ?_)
        · replace hS := cond_t hc hS
          refine zlRun (n := 2) (j := 19) rfl (by kernel_rfl) ?_
          refine zlBool (d := 79) (op := (.strO .eql (.tmp 78) (.const (.string ⟨#[]⟩)))) (g := (some (76, true))) (j := 20) (decide (a1.Data = ([] : List UInt8))) rfl (by kernel_rfl) (by kernel_rfl) (by kernel_rfl) (fun hc => ?_) (fun hc => ?_)
          · replace hS := cond_t hc hS
            refine zlRun (n := 2) (j := 22) rfl (by kernel_rfl) ?_
            refine zlEnd (by kernel_rfl) ?_
            refine zkSeq ?_
            refine zrCondT (by kernel_rfl) ?_
            refine zrSeq ?_
            refine zrReg ?_
            refine zlRun (n := 2) (j := 2) rfl (by kernel_rfl) ?_
            refine zlOp (d := some 83) (op := (.cvI .u8 (.tmp 82))) (g := none) (v := (.d (.int .u8 ((u8 a1.Cmd).toNat : Int)))) (ups := []) (j := 3) rfl (by kernel_rfl) (by kernel_rfl) (ev_cv (kk := .i64) (a := a1.Cmd) (by kernel_rfl) (u8_wrap _)) ?_
            refine zlRun (n := 2) (j := 5) rfl (by kernel_rfl) ?_
            refine zlOp (d := some 86) (op := (.cvI .u8 (.tmp 85))) (g := none) (v := (.d (.int .u8 ((u8 a1.Opt).toNat : Int)))) (ups := []) (j := 6) rfl (by kernel_rfl) (by kernel_rfl) (ev_cv (kk := .i64) (a := a1.Opt) (by kernel_rfl) (u8_wrap _)) ?_
            refine zlRun (n := 1) (j := 7) rfl (by kernel_rfl) ?_
            refine zlOp (d := some 88) (op := (.cvBS (.tmp 87))) (g := none) (v := (.d (.str ([255, (u8 a1.Cmd), (u8 a1.Opt)] : List UInt8)))) (ups := []) (j := 8) rfl (by kernel_rfl) (by kernel_rfl) (ev_cvBS (s := [255, (u8 a1.Cmd), (u8 a1.Opt)]) ((congrArg (asL _) (by kernel_rfl : ρof _ (.tmp 87) = (.r (.msl 704 1 0 (([255, (u8 a1.Cmd), (u8 a1.Opt)] : List UInt8).length))))).trans (as_whole eU8 (e := 5) (k := 1) (xs := [255, (u8 a1.Cmd), (u8 a1.Opt)]) (by kernel_rfl) rfl rfl)) rfl) ?_
            refine zlRun (n := 2) (j := 10) rfl (by kernel_rfl) ?_
            refine zlEnd (by kernel_rfl) ?_
            refine zkSeq ?_
            refine zrRet ?_
            refine zkBlkR ?_
            refine zkSeqR ?_
            refine zkNil ?_
            exact endQ hS hQ (fRet ((congrArg (fun s => outR s 0 c14.res) (by kernel_rfl : finSt c14.fin _ = f14_fin ([255, (u8 a1.Cmd), (u8 a1.Opt)] : List UInt8) 0)).trans (f14_out ([255, (u8 a1.Cmd), (u8 a1.Opt)] : List UInt8) 0)))
          · replace hS := cond_f hc hS
            refine zlRun (n := 2) (j := 22) rfl (by kernel_rfl) ?_
            refine zlEnd (by kernel_rfl) ?_
            refine zkSeq ?_
            refine zrCondF (by kernel_rfl) ?_
            exact f14_j3_ok hd a1 hQ p39 hS (by kernel_rfl)
        · replace hS := cond_f hc hS
          refine zlRun (n := 5) (j := 22) rfl (by kernel_rfl) ?_
          refine zlEnd (by kernel_rfl) ?_
          refine zkSeq ?_
          refine zrCondF (by kernel_rfl) ?_
          exact f14_j3_ok hd a1 hQ p39 hS (by kernel_rfl)
      · replace hS := cond_f hc hS
        refine zlRun (n := 10) (j := 22) rfl (by kernel_rfl) ?_
        refine zlEnd (by kernel_rfl) ?_
        refine zkSeq ?_
        refine zrCondF (by kernel_rfl) ?_
        exact f14_j3_ok hd a1 hQ p39 hS (by kernel_rfl)
    · replace hS := cond_f hc hS
      refine zlRun (n := 15) (j := 22) rfl (by kernel_rfl) ?_
      refine zlEnd (by kernel_rfl) ?_
      refine zkSeq ?_
      refine zrCondF (by kernel_rfl) ?_
      exact f14_j3_ok hd a1 hQ p39 hS (by kernel_rfl)
  · replace hS := cond_f hc hS
    refine zlRun (n := 19) (j := 22) rfl (by kernel_rfl) ?_
    refine zlEnd (by kernel_rfl) ?_
    refine zkSeq ?_
    refine zrCondF (by kernel_rfl) ?_
    exact f14_j3_ok hd a1 hQ p39 hS (by kernel_rfl)
def f14_j1_J (a1 : GTok) (p36 : Bool) : St := ⟨(up (up (up (fun _ => .un) 5 (.d (.bool p36))) 4 (.r (.ptr 40 0 0))) 1 (.r (.ptr 16 0 0))), (up (up (hB fun _ => 0) 40 ⟨0, some (.box ((.d (.int .i64 a1.Kind)) :: ((.d (.int .i64 0)) :: ((.d (.int .i64 0)) :: ((.d (.str ([]))) :: [])))))⟩) 16 ⟨0, some (.box ((.d (.int .i64 a1.Kind)) :: ((.d (.int .i64 a1.Cmd)) :: ((.d (.int .i64 a1.Opt)) :: ((.d (.str a1.Data)) :: [])))))⟩)⟩
noncomputable def f14_j1 (a1 : GTok) (p36 : Bool) : Option ((List UInt8) × Int) := (bif (decide (a1.Kind = 2)) then (bif (decide (240 ≤ a1.Cmd)) then (bif (decide (a1.Cmd ≤ 249)) then (bif (decide (a1.Kind = a1.Kind) && (decide (a1.Cmd = a1.Cmd) && (decide (a1.Opt = 0) && (decide (a1.Data = ([] : List UInt8)) && true)))) then (some (([255, (u8 a1.Cmd)] : List UInt8), 0)) else (some ([], 1))) else (f14_j2 a1 p36)) else (f14_j2 a1 p36)) else (f14_j2 a1 p36))
theorem f14_j1_ok {d : Nat} (hd : 2 ≤ d) (a1 : GTok) {r : (List UInt8) × Int} {Q : PX → St → Prop} (hQ : ∀ e st', f14_Q r e st' → Q e st') (p36 : Bool) (hS : f14_j1 a1 p36 = some r) {st : St} (he : keepSt [1, 4, 5] [(16, .id 16), (40, .id 40)] [] st = f14_j1_J a1 p36) : ZR (lev codes baseL (d - 1)) Q c14_6 [.blk 0, .seq c14_2] st := by
  refine zrKeep he ?_
  unfold f14_j1 at hS
  refine zrSeq ?_
  refine zrReg ?_
  refine zlRun (n := 2) (j := 2) rfl (by kernel_rfl) ?_
  refine zlBool (d := 37) (op := (.cmpI .eql (.tmp 36) (.const (.int .i64 2)))) (g := none) (j := 3) (decide (a1.Kind = 2)) rfl (by kernel_rfl) (by kernel_rfl) (by kernel_rfl) (fun hc => ?_) (fun hc => ?_)
  · replace hS := cond_t hc hS
    refine zlRun (n := 3) (j := 6) rfl (by kernel_rfl) ?_
    refine zlBool (d := 41) (op := (.cmpI .geq (.tmp 40) (.const (.int .i64 240)))) (g := (some (38, true))) (j := 7) (decide (240 ≤ a1.Cmd)) rfl (by kernel_rfl) (by kernel_rfl) (by kernel_rfl) (fun hc => ?_) (fun hc => ?_)
    · replace hS := cond_t hc hS
      refine zlRun (n := 4) (j := 11) rfl (by kernel_rfl) ?_
      refine zlBool (d := 46) (op := (.cmpI .leq (.tmp 45) (.const (.int .i64 249)))) (g := (some (43, true))) (j := 12) (decide (a1.Cmd ≤ 249)) rfl (by kernel_rfl) (by kernel_rfl) (by kernel_rfl) (fun hc => ?_) (fun hc => ?_)
      · replace hS := cond_t hc hS
        refine zlRun (n := 2) (j := 14) rfl (by kernel_rfl) ?_
        refine zlEnd (by kernel_rfl) ?_
        refine zkSeq ?_
        refine zrCondT (by kernel_rfl) ?_
        refine zrSeq ?_
        refine zrReg ?_
        refine zlRun (n := 4) (j := 4) rfl (by kernel_rfl) ?_
        refine zlEnd (by kernel_rfl) ?_
        refine zkSeq ?_
        refine zrSeq ?_
        refine zrReg ?_
        refine zlRun (n := 2) (j := 2) rfl (by kernel_rfl) ?_
        refine zlBool (d := 53) (op := (.eqA .false [(3, .int), (1, .str)] (.tmp 51) (.tmp 52))) (g := none) (j := 3) (decide (a1.Kind = a1.Kind) && (decide (a1.Cmd = a1.Cmd) && (decide (a1.Opt = 0) && (decide (a1.Data = ([] : List UInt8)) && true)))) rfl (by kernel_rfl) (by kernel_rfl) (by kernel_rfl) (fun hc => ?_) (fun hc => ?_)
        · replace hS := cond_t hc hS
          refine zlEnd (by kernel_rfl) ?_
          refine zkSeq ?_
          refine zrCondT (by kernel_rfl) ?_
          refine zrSeq ?_
          refine zrReg ?_
          refine zlRun (n := 2) (j := 2) rfl (by kernel_rfl) ?_
          refine zlOp (d := some 56) (op := (.cvI .u8 (.tmp 55))) (g := none) (v := (.d (.int .u8 ((u8 a1.Cmd).toNat : Int)))) (ups := []) (j := 3) rfl (by kernel_rfl) (by kernel_rfl) (ev_cv (kk := .i64) (a := a1.Cmd) (by kernel_rfl) (u8_wrap _)) ?_
          refine zlRun (n := 1) (j := 4) rfl (by kernel_rfl) ?_
          refine zlOp (d := some 58) (op := (.cvBS (.tmp 57))) (g := none) (v := (.d (.str ([255, (u8 a1.Cmd)] : List UInt8)))) (ups := []) (j := 5) rfl (by kernel_rfl) (by kernel_rfl) (ev_cvBS (s := [255, (u8 a1.Cmd)]) ((congrArg (asL _) (by kernel_rfl : ρof _ (.tmp 57) = (.r (.msl 464 1 0 (([255, (u8 a1.Cmd)] : List UInt8).length))))).trans (as_whole eU8 (e := 5) (k := 1) (xs := [255, (u8 a1.Cmd)]) (by kernel_rfl) rfl rfl)) rfl) ?_
          refine zlRun (n := 2) (j := 7) rfl (by kernel_rfl) ?_
          refine zlEnd (by kernel_rfl) ?_
          refine zkSeq ?_
          refine zrRet ?_
          refine zkBlkR ?_
          refine zkSeqR ?_
          refine zkNil ?_
          exact endQ hS hQ (fRet ((congrArg (fun s => outR s 0 c14.res) (by kernel_rfl : finSt c14.fin _ = f14_fin ([255, (u8 a1.Cmd)] : List UInt8) 0)).trans (f14_out ([255, (u8 a1.Cmd)] : List UInt8) 0)))
        · replace hS := cond_f hc hS
          refine zlEnd (by kernel_rfl) ?_
          refine zkSeq ?_
          refine zrCondF (by kernel_rfl) ?_
          refine zrSkip ?_
          refine zkBlk ?_
          refine zkSeq ?_
          refine zrSeq ?_
          refine zrReg ?_
          refine zlRun (n := 2) (j := 2) rfl (by kernel_rfl) ?_
          refine zlEnd (by kernel_rfl) ?_
          refine zkSeq ?_
          refine zrRet ?_
          refine zkNil ?_
          exact endQ hS hQ (fRet ((congrArg (fun s => outR s 0 c14.res) (by kernel_rfl : finSt c14.fin _ = f14_fin [] 1)).trans (f14_out [] 1)))
      · replace hS := cond_f hc hS
        refine zlRun (n := 2) (j := 14) rfl (by kernel_rfl) ?_
        refine zlEnd (by kernel_rfl) ?_
        refine zkSeq ?_
        refine zrCondF (by kernel_rfl) ?_
        exact f14_j2_ok hd a1 hQ p36 hS (by kernel_rfl)
    · replace hS := cond_f hc hS
      refine zlRun (n := 7) (j := 14) rfl (by kernel_rfl) ?_
      refine zlEnd (by kernel_rfl) ?_
      refine zkSeq ?_
      refine zrCondF (by kernel_rfl) ?_
      exact f14_j2_ok hd a1 hQ p36 hS (by kernel_rfl)
  · replace hS := cond_f hc hS
    refine zlRun (n := 11) (j := 14) rfl (by kernel_rfl) ?_
    refine zlEnd (by kernel_rfl) ?_
    refine zkSeq ?_
    refine zrCondF (by kernel_rfl) ?_
    exact f14_j2_ok hd a1 hQ p36 hS (by kernel_rfl)
def f14_j0_J (a1 : GTok) (p33 : Bool) : St := ⟨(up (up (up (fun _ => .un) 5 (.d (.bool p33))) 4 (.r (.ptr 40 0 0))) 1 (.r (.ptr 16 0 0))), (up (up (hB fun _ => 0) 40 ⟨0, some (.box ((.d (.int .i64 a1.Kind)) :: ((.d (.int .i64 0)) :: ((.d (.int .i64 0)) :: ((.d (.str ([]))) :: [])))))⟩) 16 ⟨0, some (.box ((.d (.int .i64 a1.Kind)) :: ((.d (.int .i64 a1.Cmd)) :: ((.d (.int .i64 a1.Opt)) :: ((.d (.str a1.Data)) :: [])))))⟩)⟩
noncomputable def f14_j0 (a1 : GTok) (p33 : Bool) : Option ((List UInt8) × Int) := (bif (decide (a1.Kind = 1)) then (bif (decide (a1.Cmd = 0)) then (bif (decide (a1.Opt = 0)) then ((f9 a1.Data).bind fun z8 => (some (z8, 0))) else (f14_j1 a1 p33)) else (f14_j1 a1 p33)) else (f14_j1 a1 p33))
theorem f14_j0_ok {d : Nat} (hd : 2 ≤ d) (a1 : GTok) {r : (List UInt8) × Int} {Q : PX → St → Prop} (hQ : ∀ e st', f14_Q r e st' → Q e st') (p33 : Bool) (hS : f14_j0 a1 p33 = some r) {st : St} (he : keepSt [1, 4, 5] [(16, .id 16), (40, .id 40)] [] st = f14_j0_J a1 p33) : ZR (lev codes baseL (d - 1)) Q c14_7 [] st := by
  refine zrKeep he ?_
  unfold f14_j0 at hS
  refine zrSeq ?_
  refine zrBlk ?_
  refine zrSeq ?_
  refine zrReg ?_
  refine zlRun (n := 2) (j := 2) rfl (by kernel_rfl) ?_
  refine zlBool (d := 20) (op := (.cmpI .eql (.tmp 19) (.const (.int .i64 1)))) (g := none) (j := 3) (decide (a1.Kind = 1)) rfl (by kernel_rfl) (by kernel_rfl) (by kernel_rfl) (fun hc => ?_) (fun hc => ?_)
  · replace hS := cond_t hc hS
    refine zlRun (n := 3) (j := 6) rfl (by kernel_rfl) ?_
    refine zlBool (d := 24) (op := (.cmpI .eql (.tmp 23) (.const (.int .i64 0)))) (g := (some (21, true))) (j := 7) (decide (a1.Cmd = 0)) rfl (by kernel_rfl) (by kernel_rfl) (by kernel_rfl) (fun hc => ?_) (fun hc => ?_)
    · replace hS := cond_t hc hS
      refine zlRun (n := 4) (j := 11) rfl (by kernel_rfl) ?_
      refine zlBool (d := 29) (op := (.cmpI .eql (.tmp 28) (.const (.int .i64 0)))) (g := (some (26, true))) (j := 12) (decide (a1.Opt = 0)) rfl (by kernel_rfl) (by kernel_rfl) (by kernel_rfl) (fun hc => ?_) (fun hc => ?_)
      · replace hS := cond_t hc hS
        refine zlRun (n := 2) (j := 14) rfl (by kernel_rfl) ?_
        refine zlEnd (by kernel_rfl) ?_
        refine zkSeq ?_
        refine zrCondT (by kernel_rfl) ?_
        refine zrSeq ?_
        refine zrReg ?_
        refine zlRun (n := 2) (j := 2) rfl (by kernel_rfl) ?_
        refine bindE hS (fun z8 hz8 hS => ?_)
        refine zlOp (d := some 33) (op := (.call 9 [(.tmp 32)])) (g := none) (v := (.d (.str z8))) (ups := []) (j := 3) rfl (by kernel_rfl) (by kernel_rfl) (ev_call (args := [(.d (.str a1.Data))]) (l := [(.d (.str a1.Data))]) (r := (.d (.str z8))) (by kernel_rfl) (by kernel_rfl) (f9_ok (d - 1) (dpt hd rfl) a1.Data z8 hz8) (by kernel_rfl) (by kernel_rfl) (by kernel_rfl)) ?_
        refine zlRun (n := 2) (j := 5) rfl (by kernel_rfl) ?_
        refine zlEnd (by kernel_rfl) ?_
        refine zkSeq ?_
        refine zrRet ?_
        refine zkBlkR ?_
        refine zkSeqR ?_
        refine zkNil ?_
        exact endQ hS hQ (fRet ((congrArg (fun s => outR s 0 c14.res) (by kernel_rfl : finSt c14.fin _ = f14_fin z8 0)).trans (f14_out z8 0)))
      · replace hS := cond_f hc hS
        refine zlRun (n := 2) (j := 14) rfl (by kernel_rfl) ?_
        refine zlEnd (by kernel_rfl) ?_
        refine zkSeq ?_
        refine zrCondF (by kernel_rfl) ?_
        exact f14_j1_ok hd a1 hQ p33 hS (by kernel_rfl)
    · replace hS := cond_f hc hS
      refine zlRun (n := 7) (j := 14) rfl (by kernel_rfl) ?_
      refine zlEnd (by kernel_rfl) ?_
      refine zkSeq ?_
      refine zrCondF (by kernel_rfl) ?_
      exact f14_j1_ok hd a1 hQ p33 hS (by kernel_rfl)
  · replace hS := cond_f hc hS
    refine zlRun (n := 11) (j := 14) rfl (by kernel_rfl) ?_
    refine zlEnd (by kernel_rfl) ?_
    refine zkSeq ?_
    refine zrCondF (by kernel_rfl) ?_
    exact f14_j1_ok hd a1 hQ p33 hS (by kernel_rfl)
noncomputable def f14 (a1 : GTok) : Option ((List UInt8) × Int) := (bif (decide (0 ≤ a1.Opt)) then (bif (decide (a1.Opt ≤ 255)) then (f14_j0 a1 true) else (f14_j0 a1 false)) else (f14_j0 a1 false))
theorem f14_ok (d : Nat) (hd : 2 ≤ d) (a1 : GTok) (r : (List UInt8) × Int) (hS : f14 a1 = some r) : lev codes baseL d 14 [(.agg ((.d (.int .i64 a1.Kind)) :: ((.d (.int .i64 a1.Cmd)) :: ((.d (.int .i64 a1.Opt)) :: ((.d (.str a1.Data)) :: [])))))] [] = some ((.tup [(.d (.str r.1)), (.d (.int .i64 r.2))]), []) := by
  refine lev_go codes14 rfl rfl (Nat.le_trans (Nat.le_of_ble_eq_true rfl) hd) fun Q hQ => ?_
  unfold f14 at hS
  show ZR _ Q c14_b [] _
  replace hQ : ∀ e st', f14_Q r e st' → Q e st' := hQ
  refine zrSeq ?_
  refine zrReg ?_
  refine zlRun (n := 3) (j := 3) rfl (by kernel_rfl) ?_
  refine zlEnd (by kernel_rfl) ?_
  refine zkSeq ?_
  refine zrSeq ?_
  refine zrReg ?_
  refine zlRun (n := 5) (j := 5) rfl (by kernel_rfl) ?_
  refine zlEnd (by kernel_rfl) ?_
  refine zkSeq ?_
  refine zrSeq ?_
  refine zrReg ?_
  refine zlRun (n := 2) (j := 2) rfl (by kernel_rfl) ?_
  refine zlBool (d := 11) (op := (.cmpI .geq (.tmp 10) (.const (.int .i64 0)))) (g := none) (j := 3) (decide (0 ≤ a1.Opt)) rfl (by kernel_rfl) (by kernel_rfl) (by kernel_rfl) (fun hc => ?_) (fun hc => ?_)
  · replace hS := cond_t hc hS
    refine zlRun (n := 3) (j := 6) rfl (by kernel_rfl) ?_
    refine zlBool (d := 15) (op := (.cmpI .leq (.tmp 14) (.const (.int .i64 255)))) (g := (some (12, true))) (j := 7) (decide (a1.Opt ≤ 255)) rfl (by kernel_rfl) (by kernel_rfl) (by kernel_rfl) (fun hc => ?_) (fun hc => ?_)
    · replace hS := cond_t hc hS
      refine zlRun (n := 2) (j := 9) rfl (by kernel_rfl) ?_
      refine zlEnd (by kernel_rfl) ?_
      refine zkSeq ?_
      exact f14_j0_ok hd a1 hQ true hS (by kernel_rfl)
    · replace hS := cond_f hc hS
      refine zlRun (n := 2) (j := 9) rfl (by kernel_rfl) ?_
      refine zlEnd (by kernel_rfl) ?_
      refine zkSeq ?_
      exact f14_j0_ok hd a1 hQ false hS (by kernel_rfl)
  · replace hS := cond_f hc hS
    refine zlRun (n := 6) (j := 9) rfl (by kernel_rfl) ?_
    refine zlEnd (by kernel_rfl) ?_
    refine zkSeq ?_
    exact f14_j0_ok hd a1 hQ false hS (by kernel_rfl)
/- farwriter/farkeep.IacAgain -/
def f5_fin (p15 : Bool) : St := ⟨(up (fun _ => .un) 6 (.d (.bool p15))), (hB fun _ => 0)⟩
theorem f5_out (p15 : Bool) : outR (f5_fin p15) 0 c5.res = some ((.d (.bool p15)), []) := by
  kernel_rfl
def f5_Q (r : Bool) (e : PX) (st : St) : Prop := DoneF c5 0 ((.d (.bool r)), []) e st
def f5_j2_J (a1 : GWire) (a2 : List UInt8) (a3 : GTok) (p31 : List GTok) (p32 : Int) : St := ⟨(up (up (up (fun _ => .un) 11 (.d (.int .i64 p32))) 10 (.r (.msl 288 0 0 p31.length))) 5 (.r (.ptr 48 0 0))), (up (up (hB fun _ => 0) 288 ⟨0, some (.own 31 4 (e_GTok.cells p31))⟩) 48 ⟨0, some (.box ((.d (.int .i64 a3.Kind)) :: ((.d (.int .i64 a3.Cmd)) :: ((.d (.int .i64 a3.Opt)) :: ((.d (.str a3.Data)) :: [])))))⟩)⟩
noncomputable def f5_j2 (a1 : GWire) (a2 : List UInt8) (a3 : GTok) (p31 : List GTok) (p32 : Int) : Option (Bool) := (bif (decide (0 < p32)) then ((inR (IntKind.i64.wrap (p32 - 1)) p31.length).bind fun m20 => ((p31[m20]?).bind fun z21 => (bif (decide (z21.Kind = a3.Kind) && (decide (z21.Cmd = a3.Cmd) && (decide (z21.Opt = a3.Opt) && (decide (z21.Data = a3.Data) && true)))) then (some true) else (some false)))) else (some false))
theorem f5_j2_ok {d : Nat} (hd : 7 ≤ d) (a1 : GWire) (a2 : List UInt8) (a3 : GTok) {r : Bool} {Q : PX → St → Prop} (hQ : ∀ e st', f5_Q r e st' → Q e st') (p31 : List GTok) (p32 : Int) (hS : f5_j2 a1 a2 a3 p31 p32 = some r) {st : St} (he : keepSt [5, 10, 11] [(48, .id 48), (288, .id 288)] [] st = f5_j2_J a1 a2 a3 p31 p32) : ZR (lev codes baseL (d - 1)) Q c5_1 [] st := by
  refine zrKeep he ?_
  unfold f5_j2 at hS
  refine zrSeq ?_
  refine zrRegD ?_
  refine zdRun (n := 1) (j := 1) (ts := [[]]) (acc' := [[]]) rfl (by kernel_rfl) (by kernel_rfl) (by kernel_rfl) ?_
  refine zdBool (d := 51) (op := (.cmpI .gtr (.tmp 50) (.const (.int .i64 0)))) (g := none) (j := 2) (t1 := []) (acc' := [[], []]) (decide (0 < p32)) (by kernel_rfl) (by kernel_rfl) rfl (by kernel_rfl) (by kernel_rfl) (by kernel_rfl) (fun hc => ?_) (fun hc => ?_)
  · replace hS := cond_t hc hS
    refine zdRun (n := 4) (j := 6) (ts := [[], [], [], []]) (acc' := [[], [], [], [], [], []]) rfl (by kernel_rfl) (by kernel_rfl) (by kernel_rfl) ?_
    refine bindE hS (fun m20 hm20 hS => ?_)
    refine zdOp (d := some 56) (op := (.ixS 31 4 (.tmp 53) (.tmp 55))) (g := (some (52, true))) (v := (.r (.ptr 288 0 ((0 + m20) * 4)))) (ups := []) (j := 7) (t1 := [(288, false)]) (acc' := [[], [], [], [], [], [], [(288, false)]]) (by kernel_rfl) (by kernel_rfl) rfl (by kernel_rfl) (by kernel_rfl) (ev_ixM (kk := .i64) (b := 288) (g := 0) (l := 0) (n := p31.length) (j := (IntKind.i64.wrap (p32 - 1))) (cs := e_GTok.cells p31) (by kernel_rfl) (by kernel_rfl) (by kernel_rfl) hm20) ?_
    refine bindE hS (fun z21 hz21 hS => ?_)
    refine zdOp (d := some 57) (op := (.load .true 4 (.tmp 56))) (g := (some (52, true))) (v := (.agg ((.d (.int .i64 z21.Kind)) :: ((.d (.int .i64 z21.Cmd)) :: ((.d (.int .i64 z21.Opt)) :: ((.d (.str z21.Data)) :: [])))))) (ups := []) (j := 8) (t1 := [(288, false)]) (acc' := [[], [], [], [], [], [], [(288, false)], [(288, false)]]) (by kernel_rfl) (by kernel_rfl) rfl (by kernel_rfl) (by kernel_rfl) (ev_loadM e_GTok (b := 288) (g := 0) (o := (0 + m20) * 4) (e := 31) (k := 4) (m := m20) (fo := 0) (xs := p31) (by kernel_rfl) (by kernel_rfl) (by rw [Nat.zero_add]; rfl) hz21 (by kernel_rfl) (by kernel_rfl) (by kernel_rfl)) ?_
    refine zdRun (n := 1) (j := 9) (ts := [[(48, false)]]) (acc' := [[], [], [], [], [], [], [(288, false)], [(288, false)], [(48, false)]]) rfl (by kernel_rfl) (by kernel_rfl) (by kernel_rfl) ?_
    refine zdBool (d := 59) (op := (.eqA .false [(3, .int), (1, .str)] (.tmp 57) (.tmp 58))) (g := (some (52, true))) (j := 10) (t1 := []) (acc' := [[], [], [], [], [], [], [(288, false)], [(288, false)], [(48, false)], []]) (decide (z21.Kind = a3.Kind) && (decide (z21.Cmd = a3.Cmd) && (decide (z21.Opt = a3.Opt) && (decide (z21.Data = a3.Data) && true)))) (by kernel_rfl) (by kernel_rfl) rfl (by kernel_rfl) (by kernel_rfl) (by kernel_rfl) (fun hc => ?_) (fun hc => ?_)
    · replace hS := cond_t hc hS
      refine zdRun (n := 2) (j := 12) (ts := [[], []]) (acc' := [[], [], [], [], [], [], [(288, false)], [(288, false)], [(48, false)], [], [], []]) rfl (by kernel_rfl) (by kernel_rfl) (by kernel_rfl) ?_
      refine zdEnd (by kernel_rfl) (by kernel_rfl) ?_
      refine zkSeq ?_
      refine zrRet ?_
      refine zkNil ?_
      exact endQ hS hQ (fRet ((congrArg (fun s => outR s 0 c5.res) (by kernel_rfl : finSt c5.fin _ = f5_fin true)).trans (f5_out true)))
    · replace hS := cond_f hc hS
      refine zdRun (n := 2) (j := 12) (ts := [[], []]) (acc' := [[], [], [], [], [], [], [(288, false)], [(288, false)], [(48, false)], [], [], []]) rfl (by kernel_rfl) (by kernel_rfl) (by kernel_rfl) ?_
      refine zdEnd (by kernel_rfl) (by kernel_rfl) ?_
      refine zkSeq ?_
      refine zrRet ?_
      refine zkNil ?_
      exact endQ hS hQ (fRet ((congrArg (fun s => outR s 0 c5.res) (by kernel_rfl : finSt c5.fin _ = f5_fin false)).trans (f5_out false)))
  · replace hS := cond_f hc hS
    refine zdRun (n := 10) (j := 12) (ts := [[], [], [], [], [], [], [], [], [], []]) (acc' := [[], [], [], [], [], [], [], [], [], [], [], []]) rfl (by kernel_rfl) (by kernel_rfl) (by kernel_rfl) ?_
    refine zdEnd (by kernel_rfl) (by kernel_rfl) ?_
    refine zkSeq ?_
    refine zrRet ?_
    refine zkNil ?_
    exact endQ hS hQ (fRet ((congrArg (fun s => outR s 0 c5.res) (by kernel_rfl : finSt c5.fin _ = f5_fin false)).trans (f5_out false)))
def f5_j1_J (a1 : GWire) (a2 : List UInt8) (a3 : GTok) (p26 : List UInt8) (p27 : List GTok) : St := ⟨(up (up (up (fun _ => .un) 10 (.r (.msl 288 0 0 p27.length))) 7 (.d (.str p26))) 5 (.r (.ptr 48 0 0))), (up (up (hB fun _ => 0) 288 ⟨0, some (.own 31 4 (e_GTok.cells p27))⟩) 48 ⟨0, some (.box ((.d (.int .i64 a3.Kind)) :: ((.d (.int .i64 a3.Cmd)) :: ((.d (.int .i64 a3.Opt)) :: ((.d (.str a3.Data)) :: [])))))⟩)⟩
noncomputable def f5_j1 (a1 : GWire) (a2 : List UInt8) (a3 : GTok) (p26 : List UInt8) (p27 : List GTok) : Option (Bool) := (bif (decide (p26 = ([] : List UInt8))) then (some true) else (f5_j2 a1 a2 a3 p27 (p27.length : Int)))
theorem f5_j1_ok {d : Nat} (hd : 7 ≤ d) (a1 : GWire) (a2 : List UInt8) (a3 : GTok) {r : Bool} {Q : PX → St → Prop} (hQ : ∀ e st', f5_Q r e st' → Q e st') (p26 : List UInt8) (p27 : List GTok) (hS : f5_j1 a1 a2 a3 p26 p27 = some r) {st : St} (he : keepSt [5, 7, 10] [(48, .id 48), (288, .id 288)] [] st = f5_j1_J a1 a2 a3 p26 p27) : ZR (lev codes baseL (d - 1)) Q c5_2 [] st := by
  refine zrKeep he ?_
  unfold f5_j1 at hS
  refine zrSeq ?_
  refine zrReg ?_
  refine zlRun (n := 3) (j := 3) rfl (by kernel_rfl) ?_
  refine zlEnd (by kernel_rfl) ?_
  refine zkSeq ?_
  refine zrSeq ?_
  refine zrSeq ?_
  refine zrReg ?_
  refine zlRun (n := 1) (j := 1) rfl (by kernel_rfl) ?_
  refine zlBool (d := 49) (op := (.strO .eql (.tmp 48) (.const (.string ⟨#[]⟩)))) (g := none) (j := 2) (decide (p26 = ([] : List UInt8))) rfl (by kernel_rfl) (by kernel_rfl) (by kernel_rfl) (fun hc => ?_) (fun hc => ?_)
  · replace hS := cond_t hc hS
    refine zlEnd (by kernel_rfl) ?_
    refine zkSeq ?_
    refine zrCondT (by kernel_rfl) ?_
    refine zrSeq ?_
    refine zrReg ?_
    refine zlRun (n := 1) (j := 1) rfl (by kernel_rfl) ?_
    refine zlEnd (by kernel_rfl) ?_
    refine zkSeq ?_
    refine zrRet ?_
    refine zkSeqR ?_
    refine zkNil ?_
    exact endQ hS hQ (fRet ((congrArg (fun s => outR s 0 c5.res) (by kernel_rfl : finSt c5.fin _ = f5_fin true)).trans (f5_out true)))
  · replace hS := cond_f hc hS
    refine zlEnd (by kernel_rfl) ?_
    refine zkSeq ?_
    refine zrCondF (by kernel_rfl) ?_
    refine zrSkip ?_
    refine zkSeq ?_
    exact f5_j2_ok hd a1 a2 a3 hQ p27 (p27.length : Int) hS (by kernel_rfl)
def f5_j0_J (a1 : GWire) (a2 : List UInt8) (a3 : GTok) (p20 : List UInt8) : St := ⟨(up (up (up (up (fun _ => .un) 7 (.d (.str p20))) 5 (.r (.ptr 48 0 0))) 3 (.r (.ptr 32 0 0))) 1 (.d (.str a2))), (up (up (hB fun _ => 0) 48 ⟨0, some (.box ((.d (.int .i64 a3.Kind)) :: ((.d (.int .i64 a3.Cmd)) :: ((.d (.int .i64 a3.Opt)) :: ((.d (.str a3.Data)) :: [])))))⟩) 32 ⟨0, some (.box ((.d (.int .i64 a1.Mode)) :: ((.d (.int .i64 a1.Cmd)) :: ((.d (.int .i64 a1.Opt)) :: ((.d (.str a1.Buf)) :: ((.d (.bool a1.Over)) :: []))))))⟩)⟩
noncomputable def f5_j0 (a1 : GWire) (a2 : List UInt8) (a3 : GTok) (p20 : List UInt8) : Option (Bool) := ((cat? a2 ([255, 240, 255, 240, 255, 241] : List UInt8)).bind fun z17 => ((cat? z17 p20).bind fun z18 => ((f8 a1 z18).bind fun z19 => (bif (!decide (z19.2.2 = 0)) then (some false) else (bif (!(decide (z19.1.Mode = 0) && (decide (z19.1.Cmd = 0) && (decide (z19.1.Opt = 0) && (decide (z19.1.Buf = ([] : List UInt8)) && (decide (z19.1.Over = false) && true)))))) then (some false) else (f5_j1 a1 a2 a3 p20 z19.2.1))))))
theorem f5_j0_ok {d : Nat} (hd : 7 ≤ d) (a1 : GWire) (a2 : List UInt8) (a3 : GTok) {r : Bool} {Q : PX → St → Prop} (hQ : ∀ e st', f5_Q r e st' → Q e st') (p20 : List UInt8) (hS : f5_j0 a1 a2 a3 p20 = some r) {st : St} (he : keepSt [1, 3, 5, 7] [(32, .id 32), (48, .id 48)] [] st = f5_j0_J a1 a2 a3 p20) : ZR (lev codes baseL (d - 1)) Q c5_3 [] st := by
  refine zrKeep he ?_
  unfold f5_j0 at hS
  refine zrSeq ?_
  refine zrReg ?_
  refine zlRun (n := 2) (j := 2) rfl (by kernel_rfl) ?_
  refine bindE hS (fun z17 hz17 hS => ?_)
  refine zlOp (d := some 32) (op := (.strO .add (.tmp 31) (.const (.string ⟨#[255, 240, 255, 240, 255, 241]⟩)))) (g := none) (v := (.d (.str z17))) (ups := []) (j := 3) rfl (by kernel_rfl) (by kernel_rfl) (ev_cat (a := a2) (c := [255, 240, 255, 240, 255, 241]) (by kernel_rfl) (by kernel_rfl) hz17) ?_
  refine zlRun (n := 1) (j := 4) rfl (by kernel_rfl) ?_
  refine bindE hS (fun z18 hz18 hS => ?_)
  refine zlOp (d := some 34) (op := (.strO .add (.tmp 32) (.tmp 33))) (g := none) (v := (.d (.str z18))) (ups := []) (j := 5) rfl (by kernel_rfl) (by kernel_rfl) (ev_cat (a := z17) (c := p20) (by kernel_rfl) (by kernel_rfl) hz18) ?_
  refine bindE hS (fun z19 hz19 hS => ?_)
  refine zlOp (d := some 35) (op := (.call 8 [(.tmp 30), (.tmp 34)])) (g := none) (v := (.tup [(.agg ((.d (.int .i64 z19.1.Mode)) :: ((.d (.int .i64 z19.1.Cmd)) :: ((.d (.int .i64 z19.1.Opt)) :: ((.d (.str z19.1.Buf)) :: ((.d (.bool z19.1.Over)) :: [])))))), (.r (.msl 288 1 0 z19.2.1.length)), (.d (.int .i64 z19.2.2))])) (ups := [(288, ⟨1, some (.own 31 4 (e_GTok.cells z19.2.1))⟩)]) (j := 6) rfl (by kernel_rfl) (by kernel_rfl) (ev_call (args := [(.agg ((.d (.int .i64 a1.Mode)) :: ((.d (.int .i64 a1.Cmd)) :: ((.d (.int .i64 a1.Opt)) :: ((.d (.str a1.Buf)) :: ((.d (.bool a1.Over)) :: [])))))), (.d (.str z18))]) (l := [(.agg ((.d (.int .i64 a1.Mode)) :: ((.d (.int .i64 a1.Cmd)) :: ((.d (.int .i64 a1.Opt)) :: ((.d (.str a1.Buf)) :: ((.d (.bool a1.Over)) :: [])))))), (.d (.str z18))]) (r := (.tup [(.agg ((.d (.int .i64 z19.1.Mode)) :: ((.d (.int .i64 z19.1.Cmd)) :: ((.d (.int .i64 z19.1.Opt)) :: ((.d (.str z19.1.Buf)) :: ((.d (.bool z19.1.Over)) :: [])))))), (.r (.own 0 31 4 z19.2.1.length (e_GTok.cells z19.2.1))), (.d (.int .i64 z19.2.2))])) (by kernel_rfl) (by kernel_rfl) (f8_ok (d - 1) (dpt hd rfl) a1 z18 z19 hz19) (by kernel_rfl) (by kernel_rfl) (by kernel_rfl)) ?_
  refine zlRun (n := 8) (j := 14) rfl (by kernel_rfl) ?_
  refine zlEnd (by kernel_rfl) ?_
  refine zkSeq ?_
  refine zrSeq ?_
  refine zrSeq ?_
  refine zrReg ?_
  refine zlRun (n := 1) (j := 1) rfl (by kernel_rfl) ?_
  refine zlBool (d := 40) (op := (.cmpI .neq (.tmp 39) (.const (.int .i64 0)))) (g := none) (j := 2) (!decide (z19.2.2 = 0)) rfl (by kernel_rfl) (by kernel_rfl) (by kernel_rfl) (fun hc => ?_) (fun hc => ?_)
  · replace hS := cond_t hc hS
    refine zlRun (n := 5) (j := 7) rfl (by kernel_rfl) ?_
    refine zlEnd (by kernel_rfl) ?_
    refine zkSeq ?_
    refine zrCondT (by kernel_rfl) ?_
    refine zrSeq ?_
    refine zrReg ?_
    refine zlRun (n := 1) (j := 1) rfl (by kernel_rfl) ?_
    refine zlEnd (by kernel_rfl) ?_
    refine zkSeq ?_
    refine zrRet ?_
    refine zkSeqR ?_
    refine zkNil ?_
    exact endQ hS hQ (fRet ((congrArg (fun s => outR s 0 c5.res) (by kernel_rfl : finSt c5.fin _ = f5_fin false)).trans (f5_out false)))
  · replace hS := cond_f hc hS
    refine zlRun (n := 3) (j := 5) rfl (by kernel_rfl) ?_
    refine zlBool (d := 44) (op := (.eqA .true [(3, .int), (1, .str), (1, .bool)] (.tmp 42) (.tmp 43))) (g := (some (41, false))) (j := 6) (!(decide (z19.1.Mode = 0) && (decide (z19.1.Cmd = 0) && (decide (z19.1.Opt = 0) && (decide (z19.1.Buf = ([] : List UInt8)) && (decide (z19.1.Over = false) && true)))))) rfl (by kernel_rfl) (by kernel_rfl) (by kernel_rfl) (fun hc => ?_) (fun hc => ?_)
    · replace hS := cond_t hc hS
      refine zlRun (n := 1) (j := 7) rfl (by kernel_rfl) ?_
      refine zlEnd (by kernel_rfl) ?_
      refine zkSeq ?_
      refine zrCondT (by kernel_rfl) ?_
      refine zrSeq ?_
      refine zrReg ?_
      refine zlRun (n := 1) (j := 1) rfl (by kernel_rfl) ?_
      refine zlEnd (by kernel_rfl) ?_
      refine zkSeq ?_
      refine zrRet ?_
      refine zkSeqR ?_
      refine zkNil ?_
      exact endQ hS hQ (fRet ((congrArg (fun s => outR s 0 c5.res) (by kernel_rfl : finSt c5.fin _ = f5_fin false)).trans (f5_out false)))
    · replace hS := cond_f hc hS
      refine zlRun (n := 1) (j := 7) rfl (by kernel_rfl) ?_
      refine zlEnd (by kernel_rfl) ?_
      refine zkSeq ?_
      refine zrCondF (by kernel_rfl) ?_
      refine zrSkip ?_
      refine zkSeq ?_
      exact f5_j1_ok hd a1 a2 a3 hQ p20 z19.2.1 hS (by kernel_rfl)
noncomputable def f5 (a1 : GWire) (a2 : List UInt8) (a3 : GTok) : Option (Bool) := ((f14 a3).bind fun z10 => (f10.bind fun z22 => (bif (!z22) then (f10.bind fun z23 => (some z23)) else (bif (!decide (z10.2 = 0)) then (f10.bind fun z24 => (some z24)) else ((f15 a1).bind fun z25 => (bif (!decide (z25 = 0)) then (f10.bind fun z26 => (some z26)) else (f5_j0 a1 a2 a3 z10.1)))))))
theorem f5_ok (d : Nat) (hd : 7 ≤ d) (a1 : GWire) (a2 : List UInt8) (a3 : GTok) (r : Bool) (hS : f5 a1 a2 a3 = some r) : lev codes baseL d 5 [(.agg ((.d (.int .i64 a1.Mode)) :: ((.d (.int .i64 a1.Cmd)) :: ((.d (.int .i64 a1.Opt)) :: ((.d (.str a1.Buf)) :: ((.d (.bool a1.Over)) :: [])))))), (.d (.str a2)), (.agg ((.d (.int .i64 a3.Kind)) :: ((.d (.int .i64 a3.Cmd)) :: ((.d (.int .i64 a3.Opt)) :: ((.d (.str a3.Data)) :: [])))))] [] = some ((.d (.bool r)), []) := by
  refine lev_go codes5 rfl rfl (Nat.le_trans (Nat.le_of_ble_eq_true rfl) hd) fun Q hQ => ?_
  unfold f5 at hS
  show ZR _ Q c5_b [] _
  replace hQ : ∀ e st', f5_Q r e st' → Q e st' := hQ
  refine zrSeq ?_
  refine zrReg ?_
  refine zlRun (n := 3) (j := 3) rfl (by kernel_rfl) ?_
  refine zlEnd (by kernel_rfl) ?_
  refine zkSeq ?_
  refine zrSeq ?_
  refine zrReg ?_
  refine zlRun (n := 1) (j := 1) rfl (by kernel_rfl) ?_
  refine bindE hS (fun z10 hz10 hS => ?_)
  refine zlOp (d := some 14) (op := (.call 14 [(.tmp 13)])) (g := none) (v := (.tup [(.d (.str z10.1)), (.d (.int .i64 z10.2))])) (ups := []) (j := 2) rfl (by kernel_rfl) (by kernel_rfl) (ev_call (args := [(.agg ((.d (.int .i64 a3.Kind)) :: ((.d (.int .i64 a3.Cmd)) :: ((.d (.int .i64 a3.Opt)) :: ((.d (.str a3.Data)) :: [])))))]) (l := [(.agg ((.d (.int .i64 a3.Kind)) :: ((.d (.int .i64 a3.Cmd)) :: ((.d (.int .i64 a3.Opt)) :: ((.d (.str a3.Data)) :: [])))))]) (r := (.tup [(.d (.str z10.1)), (.d (.int .i64 z10.2))])) (by kernel_rfl) (by kernel_rfl) (f14_ok (d - 1) (dpt hd rfl) a3 z10 hz10) (by kernel_rfl) (by kernel_rfl) (by kernel_rfl)) ?_
  refine zlRun (n := 5) (j := 7) rfl (by kernel_rfl) ?_
  refine zlEnd (by kernel_rfl) ?_
  refine zkSeq ?_
  refine zrSeq ?_
  refine zrSeq ?_
  refine zrReg ?_
  refine bindE hS (fun z22 hz22 hS => ?_)
  refine zlOp (d := some 17) (op := (.call 10 [])) (g := none) (v := (.d (.bool z22))) (ups := []) (j := 1) rfl (by kernel_rfl) (by kernel_rfl) (ev_call (args := []) (l := []) (r := (.d (.bool z22))) (by kernel_rfl) (by kernel_rfl) (f10_ok (d - 1) (dpt hd rfl)  z22 hz22) (by kernel_rfl) (by kernel_rfl) (by kernel_rfl)) ?_
  refine zlRun (n := 2) (j := 3) rfl (by kernel_rfl) ?_
  refine zlSplit 19 (!z22) (by kernel_rfl) (fun hc => ?_) (fun hc => ?_)
  · replace hS := cond_t hc hS
    refine zlRun (n := 8) (j := 11) rfl (by kernel_rfl) ?_
    refine zlEnd (by kernel_rfl) ?_
    refine zkSeq ?_
    refine zrCondT (by kernel_rfl) ?_
    refine zrSeq ?_
    refine zrReg ?_
    refine bindE hS (fun z23 hz23 hS => ?_)
    refine zlOp (d := some 28) (op := (.call 10 [])) (g := none) (v := (.d (.bool z23))) (ups := []) (j := 1) rfl (by kernel_rfl) (by kernel_rfl) (ev_call (args := []) (l := []) (r := (.d (.bool z23))) (by kernel_rfl) (by kernel_rfl) (f10_ok (d - 1) (dpt hd rfl)  z23 hz23) (by kernel_rfl) (by kernel_rfl) (by kernel_rfl)) ?_
    refine zlRun (n := 1) (j := 2) rfl (by kernel_rfl) ?_
    refine zlEnd (by kernel_rfl) ?_
    refine zkSeq ?_
    refine zrRet ?_
    refine zkSeqR ?_
    refine zkNil ?_
    exact endQ hS hQ (fRet ((congrArg (fun s => outR s 0 c5.res) (by kernel_rfl : finSt c5.fin _ = f5_fin z23)).trans (f5_out z23)))
  · replace hS := cond_f hc hS
    refine zlRun (n := 1) (j := 4) rfl (by kernel_rfl) ?_
    refine zlBool (d := 21) (op := (.cmpI .neq (.tmp 20) (.const (.int .i64 0)))) (g := (some (19, false))) (j := 5) (!decide (z10.2 = 0)) rfl (by kernel_rfl) (by kernel_rfl) (by kernel_rfl) (fun hc => ?_) (fun hc => ?_)
    · replace hS := cond_t hc hS
      refine zlRun (n := 6) (j := 11) rfl (by kernel_rfl) ?_
      refine zlEnd (by kernel_rfl) ?_
      refine zkSeq ?_
      refine zrCondT (by kernel_rfl) ?_
      refine zrSeq ?_
      refine zrReg ?_
      refine bindE hS (fun z24 hz24 hS => ?_)
      refine zlOp (d := some 28) (op := (.call 10 [])) (g := none) (v := (.d (.bool z24))) (ups := []) (j := 1) rfl (by kernel_rfl) (by kernel_rfl) (ev_call (args := []) (l := []) (r := (.d (.bool z24))) (by kernel_rfl) (by kernel_rfl) (f10_ok (d - 1) (dpt hd rfl)  z24 hz24) (by kernel_rfl) (by kernel_rfl) (by kernel_rfl)) ?_
      refine zlRun (n := 1) (j := 2) rfl (by kernel_rfl) ?_
      refine zlEnd (by kernel_rfl) ?_
      refine zkSeq ?_
      refine zrRet ?_
      refine zkSeqR ?_
      refine zkNil ?_
      exact endQ hS hQ (fRet ((congrArg (fun s => outR s 0 c5.res) (by kernel_rfl : finSt c5.fin _ = f5_fin z24)).trans (f5_out z24)))
    · replace hS := cond_f hc hS
      refine zlRun (n := 3) (j := 8) rfl (by kernel_rfl) ?_
      refine bindE hS (fun z25 hz25 hS => ?_)
      refine zlOp (d := some 25) (op := (.call 15 [(.tmp 24)])) (g := (some (23, false))) (v := (.d (.int .i64 z25))) (ups := []) (j := 9) rfl (by kernel_rfl) (by kernel_rfl) (ev_call (args := [(.agg ((.d (.int .i64 a1.Mode)) :: ((.d (.int .i64 a1.Cmd)) :: ((.d (.int .i64 a1.Opt)) :: ((.d (.str a1.Buf)) :: ((.d (.bool a1.Over)) :: []))))))]) (l := [(.agg ((.d (.int .i64 a1.Mode)) :: ((.d (.int .i64 a1.Cmd)) :: ((.d (.int .i64 a1.Opt)) :: ((.d (.str a1.Buf)) :: ((.d (.bool a1.Over)) :: []))))))]) (r := (.d (.int .i64 z25))) (by kernel_rfl) (by kernel_rfl) (f15_ok (d - 1) (dpt hd rfl) a1 z25 hz25) (by kernel_rfl) (by kernel_rfl) (by kernel_rfl)) ?_
      refine zlBool (d := 26) (op := (.cmpI .neq (.tmp 25) (.const (.int .i64 0)))) (g := (some (23, false))) (j := 10) (!decide (z25 = 0)) rfl (by kernel_rfl) (by kernel_rfl) (by kernel_rfl) (fun hc => ?_) (fun hc => ?_)
      · replace hS := cond_t hc hS
        refine zlRun (n := 1) (j := 11) rfl (by kernel_rfl) ?_
        refine zlEnd (by kernel_rfl) ?_
        refine zkSeq ?_
        refine zrCondT (by kernel_rfl) ?_
        refine zrSeq ?_
        refine zrReg ?_
        refine bindE hS (fun z26 hz26 hS => ?_)
        refine zlOp (d := some 28) (op := (.call 10 [])) (g := none) (v := (.d (.bool z26))) (ups := []) (j := 1) rfl (by kernel_rfl) (by kernel_rfl) (ev_call (args := []) (l := []) (r := (.d (.bool z26))) (by kernel_rfl) (by kernel_rfl) (f10_ok (d - 1) (dpt hd rfl)  z26 hz26) (by kernel_rfl) (by kernel_rfl) (by kernel_rfl)) ?_
        refine zlRun (n := 1) (j := 2) rfl (by kernel_rfl) ?_
        refine zlEnd (by kernel_rfl) ?_
        refine zkSeq ?_
        refine zrRet ?_
        refine zkSeqR ?_
        refine zkNil ?_
        exact endQ hS hQ (fRet ((congrArg (fun s => outR s 0 c5.res) (by kernel_rfl : finSt c5.fin _ = f5_fin z26)).trans (f5_out z26)))
      · replace hS := cond_f hc hS
        refine zlRun (n := 1) (j := 11) rfl (by kernel_rfl) ?_
        refine zlEnd (by kernel_rfl) ?_
        refine zkSeq ?_
        refine zrCondF (by kernel_rfl) ?_
        refine zrSkip ?_
        refine zkSeq ?_
        exact f5_j0_ok hd a1 a2 a3 hQ z10.1 hS (by kernel_rfl)
/- slices.Clone[[]farwriter/api.Tok,farwriter/api.Tok] -/
def f16_fin (p1 : List GTok) : St := ⟨(up (fun _ => .un) 2 (.r (.msl 97 0 0 p1.length))), (up (hB fun _ => 0) 97 ⟨0, some (.own 31 4 (e_GTok.cells p1))⟩)⟩
theorem f16_out (p1 : List GTok) : outR (f16_fin p1) 0 c16.res = some ((.r (.own 0 31 4 p1.length (e_GTok.cells p1))), []) := by
  exact out_of (ids := []) (ids' := [97]) (l := [(.r (.msl 97 0 0 p1.length))]) (by kernel_rfl) (by kernel_rfl) (o_own e_GTok (e := 31) (k := 4) (xs := p1) (by kernel_rfl) rfl rfl rfl rfl)
def f16_Q (r : List GTok) (e : PX) (st : St) : Prop := DoneF c16 0 ((.r (.own 0 31 4 r.length (e_GTok.cells r))), []) e st
noncomputable def f16 (a1 : List GTok) : Option (List GTok) := ((app? 40 ([] : List GTok) a1).bind fun z2 => (some z2))
theorem f16_ok (d : Nat) (hd : 1 ≤ d) (a1 : List GTok) (r : List GTok) (hS : f16 a1 = some r) : lev codes baseL d 16 [(.d (.sl a1.length (e_GTok.cells a1)))] [] = some ((.r (.own 0 31 4 r.length (e_GTok.cells r))), []) := by
  refine lev_goZ codes16 rfl rfl (Nat.le_trans (Nat.le_of_ble_eq_true rfl) hd) (fun Q hQ => ?_) (fun h0 Q hQ => ?_)
  · unfold f16 at hS
    show ZR _ Q c16_b [] _
    refine zrSeq ?_
    refine zrReg ?_
    refine zlRun (n := 1) (j := 1) rfl (by kernel_rfl) ?_
    refine zlEnd (by kernel_rfl) ?_
    refine zkSeq ?_
    refine zrSeq ?_
    refine zrSeq ?_
    refine zrReg ?_
    refine zlRun (n := 2) (j := 2) rfl (by kernel_rfl) ?_
    refine zlEnd (by kernel_rfl) ?_
    refine zkSeq ?_
    refine zrCondF (by kernel_rfl) ?_
    refine zrSkip ?_
    refine zkSeq ?_
    refine zrSeq ?_
    refine zrReg ?_
    refine zlRun (n := 2) (j := 2) rfl (by kernel_rfl) ?_
    refine bindE hS (fun z2 hz2 hS => ?_)
    refine zlOp (d := some 7) (op := (.app 31 4 40 (.tmp 5) (.tmp 6))) (g := none) (v := (.r (.msl 48 2 0 z2.length))) (ups := [(48, ⟨2, some (.own 31 4 (e_GTok.cells z2))⟩)]) (j := 3) rfl (by kernel_rfl) (by kernel_rfl) (ev_app e_GTok (b := 48) (g := 1) (n := ([] : List GTok).length) (xs := []) (ys := a1) ((congrArg (asL _) (by kernel_rfl : ρof _ (.tmp 6) = (.slz false a1.length (e_GTok.cells a1)))).trans rfl) rfl (by kernel_rfl) rfl (by kernel_rfl) rfl hz2) ?_
    refine zlRun (n := 1) (j := 4) rfl (by kernel_rfl) ?_
    refine zlEnd (by kernel_rfl) ?_
    refine zkSeq ?_
    refine zrRet ?_
    refine zkNil ?_
    exact endQ (F := f16_Q) hS hQ (fRet ((congrArg (fun s => outR s 0 c16.res) (by kernel_rfl : finSt c16.fin _ = f16_fin z2)).trans (f16_out z2)))
  · have hS : (some []) = some r := by
      have hl := List.eq_nil_of_length_eq_zero h0
      subst hl
      simpa [f16, app?] using hS
    show ZR _ Q c16_b [] _
    refine zrSeq ?_
    refine zrReg ?_
    refine zlRun (n := 1) (j := 1) rfl (by kernel_rfl) ?_
    refine zlEnd (by kernel_rfl) ?_
    refine zkSeq ?_
    refine zrSeq ?_
    refine zrSeq ?_
    refine zrReg ?_
    refine zlRun (n := 2) (j := 2) rfl (by kernel_rfl) ?_
    refine zlEnd (by kernel_rfl) ?_
    refine zkSeq ?_
    refine zrCondT (by kernel_rfl) ?_
    refine zrSeq ?_
    refine zrReg ?_
    refine zlRun (n := 1) (j := 1) rfl (by kernel_rfl) ?_
    refine zlEnd (by kernel_rfl) ?_
    refine zkSeq ?_
    refine zrRet ?_
    refine zkSeqR ?_
    refine zkNil ?_
    exact endQ (F := f16_Q) hS hQ (fRet ((congrArg (fun s => outR s 0 c16.res) (by kernel_rfl : finSt c16.fin _ = f16_fin [])).trans (f16_out [])))
end Go.Proofs.YtjndlncimgoacaaDoor.Pm
