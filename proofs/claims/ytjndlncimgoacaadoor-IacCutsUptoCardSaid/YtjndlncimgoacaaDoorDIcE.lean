/- Typed functions, and that the codes are these. Printed by dec.py. -/
import Derived.Test.YtjndlncimgoacaaDoorDIcD
namespace Go.Proofs.YtjndlncimgoacaaDoor.Pm
set_option maxRecDepth 1000000
set_option maxHeartbeats 20000000
set_option linter.unusedVariables false
/- farwriter/farref.WireRight -/
def f11_fin (p17 : Int) : St := ⟨(up (fun _ => .un) 2 (.d (.int .i64 p17))), (hB fun _ => 0)⟩
theorem f11_out (p17 : Int) : outR (f11_fin p17) 0 c11.res = some ((.d (.int .i64 p17)), []) := by
  kernel_rfl
def f11_Q (r : Int) (e : PX) (st : St) : Prop := DoneF c11 0 ((.d (.int .i64 r)), []) e st
noncomputable def f11 (a1 : GWire) : Option (Int) := ((f22 a1.Mode 0 5).bind fun z4 => (bif (decide (a1.Mode = 2)) then ((f22 a1.Cmd 251 254).bind fun z5 => (bif z5 then (bif (decide (a1.Mode = 2) && (decide (a1.Cmd = a1.Cmd) && (decide (a1.Opt = 0) && (decide (a1.Buf = ([] : List UInt8)) && (decide (a1.Over = false) && true))))) then (some 0) else (some 4)) else (some 4))) else (bif (decide (a1.Mode < 4)) then (bif z4 then (bif (decide (a1.Mode = a1.Mode) && (decide (a1.Cmd = 0) && (decide (a1.Opt = 0) && (decide (a1.Buf = ([] : List UInt8)) && (decide (a1.Over = false) && true))))) then (some 0) else (some 4)) else (some 4)) else (bif z4 then (bif (decide (a1.Cmd = 0)) then ((f22 a1.Opt 0 255).bind fun z6 => (bif z6 then (bif (decide ((a1.Buf.length : Int) ≤ 4096)) then (bif (!a1.Over) then (some 0) else (bif (decide (a1.Buf = ([] : List UInt8))) then (some 0) else (some 4))) else (some 4)) else (some 4))) else (some 4)) else (some 4)))))
theorem f11_ok (d : Nat) (hd : 2 ≤ d) (a1 : GWire) (r : Int) (hS : f11 a1 = some r) : lev codes baseL d 11 [(.agg ((.d (.int .i64 a1.Mode)) :: ((.d (.int .i64 a1.Cmd)) :: ((.d (.int .i64 a1.Opt)) :: ((.d (.str a1.Buf)) :: ((.d (.bool a1.Over)) :: []))))))] [] = some ((.d (.int .i64 r)), []) := by
  refine lev_go codes11 rfl rfl (Nat.le_trans (Nat.le_of_ble_eq_true rfl) hd) fun Q hQ => ?_
  unfold f11 at hS
  show ZR _ Q c11_b [] _
  replace hQ : ∀ e st', f11_Q r e st' → Q e st' := hQ
  refine zrSeq ?_
  refine zrReg ?_
  refine zlRun (n := 2) (j := 2) rfl (by kernel_rfl) ?_
  refine zlEnd (by kernel_rfl) ?_
  refine zkSeq ?_
  refine zrSeq ?_
  refine zrReg ?_
  refine zlRun (n := 2) (j := 2) rfl (by kernel_rfl) ?_
  refine bindE hS (fun z4 hz4 hS => ?_)
  refine zlOp (d := some 6) (op := (.call 22 [(.tmp 5), (.const (.int .i64 0)), (.const (.int .i64 5))])) (g := none) (v := (.d (.bool z4))) (ups := []) (j := 3) rfl (by kernel_rfl) (by kernel_rfl) (ev_call (args := [(.d (.int .i64 a1.Mode)), (.d (.int .i64 0)), (.d (.int .i64 5))]) (l := [(.d (.int .i64 a1.Mode)), (.d (.int .i64 0)), (.d (.int .i64 5))]) (r := (.d (.bool z4))) (by kernel_rfl) (by kernel_rfl) (f22_ok (d - 1) (dpt hd rfl) a1.Mode 0 5 z4 hz4) (by kernel_rfl) (by kernel_rfl) (by kernel_rfl)) ?_
  refine zlRun (n := 1) (j := 4) rfl (by kernel_rfl) ?_
  refine zlEnd (by kernel_rfl) ?_
  refine zkSeq ?_
  refine zrSeq ?_
  refine zrSeq ?_
  refine zrReg ?_
  refine zlRun (n := 2) (j := 2) rfl (by kernel_rfl) ?_
  refine zlBool (d := 9) (op := (.cmpI .eql (.tmp 8) (.const (.int .i64 2)))) (g := none) (j := 3) (decide (a1.Mode = 2)) rfl (by kernel_rfl) (by kernel_rfl) (by kernel_rfl) (fun hc => ?_) (fun hc => ?_)
  · replace hS := cond_t hc hS
    refine zlEnd (by kernel_rfl) ?_
    refine zkSeq ?_
    refine zrCondT (by kernel_rfl) ?_
    refine zrReg ?_
    refine zlRun (n := 2) (j := 2) rfl (by kernel_rfl) ?_
    refine bindE hS (fun z5 hz5 hS => ?_)
    refine zlOp (d := some 12) (op := (.call 22 [(.tmp 11), (.const (.int .i64 251)), (.const (.int .i64 254))])) (g := none) (v := (.d (.bool z5))) (ups := []) (j := 3) rfl (by kernel_rfl) (by kernel_rfl) (ev_call (args := [(.d (.int .i64 a1.Cmd)), (.d (.int .i64 251)), (.d (.int .i64 254))]) (l := [(.d (.int .i64 a1.Cmd)), (.d (.int .i64 251)), (.d (.int .i64 254))]) (r := (.d (.bool z5))) (by kernel_rfl) (by kernel_rfl) (f22_ok (d - 1) (dpt hd rfl) a1.Cmd 251 254 z5 hz5) (by kernel_rfl) (by kernel_rfl) (by kernel_rfl)) ?_
    refine zlRun (n := 1) (j := 4) rfl (by kernel_rfl) ?_
    refine zlSplit 13 z5 (by kernel_rfl) (fun hc => ?_) (fun hc => ?_)
    · replace hS := cond_t hc hS
      refine zlRun (n := 4) (j := 8) rfl (by kernel_rfl) ?_
      refine zlBool (d := 18) (op := (.eqA .false [(3, .int), (1, .str), (1, .bool)] (.tmp 14) (.tmp 17))) (g := (some (13, true))) (j := 9) (decide (a1.Mode = 2) && (decide (a1.Cmd = a1.Cmd) && (decide (a1.Opt = 0) && (decide (a1.Buf = ([] : List UInt8)) && (decide (a1.Over = false) && true))))) rfl (by kernel_rfl) (by kernel_rfl) (by kernel_rfl) (fun hc => ?_) (fun hc => ?_)
      · replace hS := cond_t hc hS
        refine zlRun (n := 2) (j := 11) rfl (by kernel_rfl) ?_
        refine zlEnd (by kernel_rfl) ?_
        refine zkSeq ?_
        refine zrSeq ?_
        refine zrSeq ?_
        refine zrReg ?_
        refine zlRun (n := 2) (j := 2) rfl (by kernel_rfl) ?_
        refine zlEnd (by kernel_rfl) ?_
        refine zkSeq ?_
        refine zrCondF (by kernel_rfl) ?_
        refine zrSkip ?_
        refine zkSeq ?_
        refine zrSeq ?_
        refine zrReg ?_
        refine zlRun (n := 1) (j := 1) rfl (by kernel_rfl) ?_
        refine zlEnd (by kernel_rfl) ?_
        refine zkSeq ?_
        refine zrRet ?_
        refine zkNil ?_
        exact endQ hS hQ (fRet ((congrArg (fun s => outR s 0 c11.res) (by kernel_rfl : finSt c11.fin _ = f11_fin 0)).trans (f11_out 0)))
      · replace hS := cond_f hc hS
        refine zlRun (n := 2) (j := 11) rfl (by kernel_rfl) ?_
        refine zlEnd (by kernel_rfl) ?_
        refine zkSeq ?_
        refine zrSeq ?_
        refine zrSeq ?_
        refine zrReg ?_
        refine zlRun (n := 2) (j := 2) rfl (by kernel_rfl) ?_
        refine zlEnd (by kernel_rfl) ?_
        refine zkSeq ?_
        refine zrCondT (by kernel_rfl) ?_
        refine zrSeq ?_
        refine zrReg ?_
        refine zlRun (n := 1) (j := 1) rfl (by kernel_rfl) ?_
        refine zlEnd (by kernel_rfl) ?_
        refine zkSeq ?_
        refine zrRet ?_
        refine zkSeqR ?_
        refine zkNil ?_
        exact endQ hS hQ (fRet ((congrArg (fun s => outR s 0 c11.res) (by kernel_rfl : finSt c11.fin _ = f11_fin 4)).trans (f11_out 4)))
    · replace hS := cond_f hc hS
      refine zlRun (n := 7) (j := 11) rfl (by kernel_rfl) ?_
      refine zlEnd (by kernel_rfl) ?_
      refine zkSeq ?_
      refine zrSeq ?_
      refine zrSeq ?_
      refine zrReg ?_
      refine zlRun (n := 2) (j := 2) rfl (by kernel_rfl) ?_
      refine zlEnd (by kernel_rfl) ?_
      refine zkSeq ?_
      refine zrCondT (by kernel_rfl) ?_
      refine zrSeq ?_
      refine zrReg ?_
      refine zlRun (n := 1) (j := 1) rfl (by kernel_rfl) ?_
      refine zlEnd (by kernel_rfl) ?_
      refine zkSeq ?_
      refine zrRet ?_
      refine zkSeqR ?_
      refine zkNil ?_
      exact endQ hS hQ (fRet ((congrArg (fun s => outR s 0 c11.res) (by kernel_rfl : finSt c11.fin _ = f11_fin 4)).trans (f11_out 4)))
  · replace hS := cond_f hc hS
    refine zlEnd (by kernel_rfl) ?_
    refine zkSeq ?_
    refine zrCondF (by kernel_rfl) ?_
    refine zrSeq ?_
    refine zrReg ?_
    refine zlRun (n := 2) (j := 2) rfl (by kernel_rfl) ?_
    refine zlBool (d := 22) (op := (.cmpI .lss (.tmp 21) (.const (.int .i64 4)))) (g := none) (j := 3) (decide (a1.Mode < 4)) rfl (by kernel_rfl) (by kernel_rfl) (by kernel_rfl) (fun hc => ?_) (fun hc => ?_)
    · replace hS := cond_t hc hS
      refine zlEnd (by kernel_rfl) ?_
      refine zkSeq ?_
      refine zrCondT (by kernel_rfl) ?_
      refine zrReg ?_
      refine zlRun (n := 2) (j := 2) rfl (by kernel_rfl) ?_
      refine zlSplit 24 z4 (by kernel_rfl) (fun hc => ?_) (fun hc => ?_)
      · replace hS := cond_t hc hS
        refine zlRun (n := 4) (j := 6) rfl (by kernel_rfl) ?_
        refine zlBool (d := 29) (op := (.eqA .false [(3, .int), (1, .str), (1, .bool)] (.tmp 25) (.tmp 28))) (g := (some (24, true))) (j := 7) (decide (a1.Mode = a1.Mode) && (decide (a1.Cmd = 0) && (decide (a1.Opt = 0) && (decide (a1.Buf = ([] : List UInt8)) && (decide (a1.Over = false) && true))))) rfl (by kernel_rfl) (by kernel_rfl) (by kernel_rfl) (fun hc => ?_) (fun hc => ?_)
        · replace hS := cond_t hc hS
          refine zlRun (n := 2) (j := 9) rfl (by kernel_rfl) ?_
          refine zlEnd (by kernel_rfl) ?_
          refine zkSeq ?_
          refine zrSeq ?_
          refine zrSeq ?_
          refine zrReg ?_
          refine zlRun (n := 2) (j := 2) rfl (by kernel_rfl) ?_
          refine zlEnd (by kernel_rfl) ?_
          refine zkSeq ?_
          refine zrCondF (by kernel_rfl) ?_
          refine zrSkip ?_
          refine zkSeq ?_
          refine zrSeq ?_
          refine zrReg ?_
          refine zlRun (n := 1) (j := 1) rfl (by kernel_rfl) ?_
          refine zlEnd (by kernel_rfl) ?_
          refine zkSeq ?_
          refine zrRet ?_
          refine zkNil ?_
          exact endQ hS hQ (fRet ((congrArg (fun s => outR s 0 c11.res) (by kernel_rfl : finSt c11.fin _ = f11_fin 0)).trans (f11_out 0)))
        · replace hS := cond_f hc hS
          refine zlRun (n := 2) (j := 9) rfl (by kernel_rfl) ?_
          refine zlEnd (by kernel_rfl) ?_
          refine zkSeq ?_
          refine zrSeq ?_
          refine zrSeq ?_
          refine zrReg ?_
          refine zlRun (n := 2) (j := 2) rfl (by kernel_rfl) ?_
          refine zlEnd (by kernel_rfl) ?_
          refine zkSeq ?_
          refine zrCondT (by kernel_rfl) ?_
          refine zrSeq ?_
          refine zrReg ?_
          refine zlRun (n := 1) (j := 1) rfl (by kernel_rfl) ?_
          refine zlEnd (by kernel_rfl) ?_
          refine zkSeq ?_
          refine zrRet ?_
          refine zkSeqR ?_
          refine zkNil ?_
          exact endQ hS hQ (fRet ((congrArg (fun s => outR s 0 c11.res) (by kernel_rfl : finSt c11.fin _ = f11_fin 4)).trans (f11_out 4)))
      · replace hS := cond_f hc hS
        refine zlRun (n := 7) (j := 9) rfl (by kernel_rfl) ?_
        refine zlEnd (by kernel_rfl) ?_
        refine zkSeq ?_
        refine zrSeq ?_
        refine zrSeq ?_
        refine zrReg ?_
        refine zlRun (n := 2) (j := 2) rfl (by kernel_rfl) ?_
        refine zlEnd (by kernel_rfl) ?_
        refine zkSeq ?_
        refine zrCondT (by kernel_rfl) ?_
        refine zrSeq ?_
        refine zrReg ?_
        refine zlRun (n := 1) (j := 1) rfl (by kernel_rfl) ?_
        refine zlEnd (by kernel_rfl) ?_
        refine zkSeq ?_
        refine zrRet ?_
        refine zkSeqR ?_
        refine zkNil ?_
        exact endQ hS hQ (fRet ((congrArg (fun s => outR s 0 c11.res) (by kernel_rfl : finSt c11.fin _ = f11_fin 4)).trans (f11_out 4)))
    · replace hS := cond_f hc hS
      refine zlEnd (by kernel_rfl) ?_
      refine zkSeq ?_
      refine zrCondF (by kernel_rfl) ?_
      refine zrReg ?_
      refine zlRun (n := 2) (j := 2) rfl (by kernel_rfl) ?_
      refine zlSplit 32 z4 (by kernel_rfl) (fun hc => ?_) (fun hc => ?_)
      · replace hS := cond_t hc hS
        refine zlRun (n := 2) (j := 4) rfl (by kernel_rfl) ?_
        refine zlBool (d := 35) (op := (.cmpI .eql (.tmp 34) (.const (.int .i64 0)))) (g := (some (32, true))) (j := 5) (decide (a1.Cmd = 0)) rfl (by kernel_rfl) (by kernel_rfl) (by kernel_rfl) (fun hc => ?_) (fun hc => ?_)
        · replace hS := cond_t hc hS
          refine zlRun (n := 4) (j := 9) rfl (by kernel_rfl) ?_
          refine bindE hS (fun z6 hz6 hS => ?_)
          refine zlOp (d := some 40) (op := (.call 22 [(.tmp 39), (.const (.int .i64 0)), (.const (.int .i64 255))])) (g := (some (37, true))) (v := (.d (.bool z6))) (ups := []) (j := 10) rfl (by kernel_rfl) (by kernel_rfl) (ev_call (args := [(.d (.int .i64 a1.Opt)), (.d (.int .i64 0)), (.d (.int .i64 255))]) (l := [(.d (.int .i64 a1.Opt)), (.d (.int .i64 0)), (.d (.int .i64 255))]) (r := (.d (.bool z6))) (by kernel_rfl) (by kernel_rfl) (f22_ok (d - 1) (dpt hd rfl) a1.Opt 0 255 z6 hz6) (by kernel_rfl) (by kernel_rfl) (by kernel_rfl)) ?_
          refine zlRun (n := 2) (j := 12) rfl (by kernel_rfl) ?_
          refine zlSplit 42 z6 (by kernel_rfl) (fun hc => ?_) (fun hc => ?_)
          · replace hS := cond_t hc hS
            refine zlRun (n := 3) (j := 15) rfl (by kernel_rfl) ?_
            refine zlBool (d := 46) (op := (.cmpI .leq (.tmp 45) (.const (.int .i64 4096)))) (g := (some (42, true))) (j := 16) (decide ((a1.Buf.length : Int) ≤ 4096)) rfl (by kernel_rfl) (by kernel_rfl) (by kernel_rfl) (fun hc => ?_) (fun hc => ?_)
            · replace hS := cond_t hc hS
              refine zlRun (n := 6) (j := 22) rfl (by kernel_rfl) ?_
              refine zlSplit 52 (!a1.Over) (by kernel_rfl) (fun hc => ?_) (fun hc => ?_)
              · replace hS := cond_t hc hS
                refine zlRun (n := 6) (j := 28) rfl (by kernel_rfl) ?_
                refine zlEnd (by kernel_rfl) ?_
                refine zkSeq ?_
                refine zrSeq ?_
                refine zrSeq ?_
                refine zrReg ?_
                refine zlRun (n := 2) (j := 2) rfl (by kernel_rfl) ?_
                refine zlEnd (by kernel_rfl) ?_
                refine zkSeq ?_
                refine zrCondF (by kernel_rfl) ?_
                refine zrSkip ?_
                refine zkSeq ?_
                refine zrSeq ?_
                refine zrReg ?_
                refine zlRun (n := 1) (j := 1) rfl (by kernel_rfl) ?_
                refine zlEnd (by kernel_rfl) ?_
                refine zkSeq ?_
                refine zrRet ?_
                refine zkNil ?_
                exact endQ hS hQ (fRet ((congrArg (fun s => outR s 0 c11.res) (by kernel_rfl : finSt c11.fin _ = f11_fin 0)).trans (f11_out 0)))
              · replace hS := cond_f hc hS
                refine zlRun (n := 2) (j := 24) rfl (by kernel_rfl) ?_
                refine zlBool (d := 55) (op := (.strO .eql (.tmp 54) (.const (.string ⟨#[]⟩)))) (g := (some (52, false))) (j := 25) (decide (a1.Buf = ([] : List UInt8))) rfl (by kernel_rfl) (by kernel_rfl) (by kernel_rfl) (fun hc => ?_) (fun hc => ?_)
                · replace hS := cond_t hc hS
                  refine zlRun (n := 3) (j := 28) rfl (by kernel_rfl) ?_
                  refine zlEnd (by kernel_rfl) ?_
                  refine zkSeq ?_
                  refine zrSeq ?_
                  refine zrSeq ?_
                  refine zrReg ?_
                  refine zlRun (n := 2) (j := 2) rfl (by kernel_rfl) ?_
                  refine zlEnd (by kernel_rfl) ?_
                  refine zkSeq ?_
                  refine zrCondF (by kernel_rfl) ?_
                  refine zrSkip ?_
                  refine zkSeq ?_
                  refine zrSeq ?_
                  refine zrReg ?_
                  refine zlRun (n := 1) (j := 1) rfl (by kernel_rfl) ?_
                  refine zlEnd (by kernel_rfl) ?_
                  refine zkSeq ?_
                  refine zrRet ?_
                  refine zkNil ?_
                  exact endQ hS hQ (fRet ((congrArg (fun s => outR s 0 c11.res) (by kernel_rfl : finSt c11.fin _ = f11_fin 0)).trans (f11_out 0)))
                · replace hS := cond_f hc hS
                  refine zlRun (n := 3) (j := 28) rfl (by kernel_rfl) ?_
                  refine zlEnd (by kernel_rfl) ?_
                  refine zkSeq ?_
                  refine zrSeq ?_
                  refine zrSeq ?_
                  refine zrReg ?_
                  refine zlRun (n := 2) (j := 2) rfl (by kernel_rfl) ?_
                  refine zlEnd (by kernel_rfl) ?_
                  refine zkSeq ?_
                  refine zrCondT (by kernel_rfl) ?_
                  refine zrSeq ?_
                  refine zrReg ?_
                  refine zlRun (n := 1) (j := 1) rfl (by kernel_rfl) ?_
                  refine zlEnd (by kernel_rfl) ?_
                  refine zkSeq ?_
                  refine zrRet ?_
                  refine zkSeqR ?_
                  refine zkNil ?_
                  exact endQ hS hQ (fRet ((congrArg (fun s => outR s 0 c11.res) (by kernel_rfl : finSt c11.fin _ = f11_fin 4)).trans (f11_out 4)))
            · replace hS := cond_f hc hS
              refine zlRun (n := 12) (j := 28) rfl (by kernel_rfl) ?_
              refine zlEnd (by kernel_rfl) ?_
              refine zkSeq ?_
              refine zrSeq ?_
              refine zrSeq ?_
              refine zrReg ?_
              refine zlRun (n := 2) (j := 2) rfl (by kernel_rfl) ?_
              refine zlEnd (by kernel_rfl) ?_
              refine zkSeq ?_
              refine zrCondT (by kernel_rfl) ?_
              refine zrSeq ?_
              refine zrReg ?_
              refine zlRun (n := 1) (j := 1) rfl (by kernel_rfl) ?_
              refine zlEnd (by kernel_rfl) ?_
              refine zkSeq ?_
              refine zrRet ?_
              refine zkSeqR ?_
              refine zkNil ?_
              exact endQ hS hQ (fRet ((congrArg (fun s => outR s 0 c11.res) (by kernel_rfl : finSt c11.fin _ = f11_fin 4)).trans (f11_out 4)))
          · replace hS := cond_f hc hS
            refine zlRun (n := 16) (j := 28) rfl (by kernel_rfl) ?_
            refine zlEnd (by kernel_rfl) ?_
            refine zkSeq ?_
            refine zrSeq ?_
            refine zrSeq ?_
            refine zrReg ?_
            refine zlRun (n := 2) (j := 2) rfl (by kernel_rfl) ?_
            refine zlEnd (by kernel_rfl) ?_
            refine zkSeq ?_
            refine zrCondT (by kernel_rfl) ?_
            refine zrSeq ?_
            refine zrReg ?_
            refine zlRun (n := 1) (j := 1) rfl (by kernel_rfl) ?_
            refine zlEnd (by kernel_rfl) ?_
            refine zkSeq ?_
            refine zrRet ?_
            refine zkSeqR ?_
            refine zkNil ?_
            exact endQ hS hQ (fRet ((congrArg (fun s => outR s 0 c11.res) (by kernel_rfl : finSt c11.fin _ = f11_fin 4)).trans (f11_out 4)))
        · replace hS := cond_f hc hS
          refine zlRun (n := 23) (j := 28) rfl (by kernel_rfl) ?_
          refine zlEnd (by kernel_rfl) ?_
          refine zkSeq ?_
          refine zrSeq ?_
          refine zrSeq ?_
          refine zrReg ?_
          refine zlRun (n := 2) (j := 2) rfl (by kernel_rfl) ?_
          refine zlEnd (by kernel_rfl) ?_
          refine zkSeq ?_
          refine zrCondT (by kernel_rfl) ?_
          refine zrSeq ?_
          refine zrReg ?_
          refine zlRun (n := 1) (j := 1) rfl (by kernel_rfl) ?_
          refine zlEnd (by kernel_rfl) ?_
          refine zkSeq ?_
          refine zrRet ?_
          refine zkSeqR ?_
          refine zkNil ?_
          exact endQ hS hQ (fRet ((congrArg (fun s => outR s 0 c11.res) (by kernel_rfl : finSt c11.fin _ = f11_fin 4)).trans (f11_out 4)))
      · replace hS := cond_f hc hS
        refine zlRun (n := 26) (j := 28) rfl (by kernel_rfl) ?_
        refine zlEnd (by kernel_rfl) ?_
        refine zkSeq ?_
        refine zrSeq ?_
        refine zrSeq ?_
        refine zrReg ?_
        refine zlRun (n := 2) (j := 2) rfl (by kernel_rfl) ?_
        refine zlEnd (by kernel_rfl) ?_
        refine zkSeq ?_
        refine zrCondT (by kernel_rfl) ?_
        refine zrSeq ?_
        refine zrReg ?_
        refine zlRun (n := 1) (j := 1) rfl (by kernel_rfl) ?_
        refine zlEnd (by kernel_rfl) ?_
        refine zkSeq ?_
        refine zrRet ?_
        refine zkSeqR ?_
        refine zkNil ?_
        exact endQ hS hQ (fRet ((congrArg (fun s => outR s 0 c11.res) (by kernel_rfl : finSt c11.fin _ = f11_fin 4)).trans (f11_out 4)))
/- farwriter/iac.Merge -/
def f13_fin (p62 : List GTok) : St := ⟨(up (fun _ => .un) 2 (.r (.msl 32 0 0 p62.length))), (up (hB fun _ => 0) 32 ⟨0, some (.own 31 4 (e_GTok.cells p62))⟩)⟩
theorem f13_out (p62 : List GTok) : outR (f13_fin p62) 0 c13.res = some ((.r (.own 0 31 4 p62.length (e_GTok.cells p62))), []) := by
  exact out_of (ids := []) (ids' := [32]) (l := [(.r (.msl 32 0 0 p62.length))]) (by kernel_rfl) (by kernel_rfl) (o_own e_GTok (e := 31) (k := 4) (xs := p62) (by kernel_rfl) rfl rfl rfl rfl)
def f13_Q (r : (List GTok)) (e : PX) (st : St) : Prop := DoneF c13 0 ((.r (.own 0 31 4 r.length (e_GTok.cells r))), []) e st
def f13_l0_J (a1 : List GTok) (x : (List GTok) × Bool × Int) : St := ⟨(up (up (up (up (up (fun _ => .un) 9 (.d (.int .i64 x.2.2))) 8 (.d (.int .i64 (a1.length : Int)))) 7 (.d (.sl a1.length (e_GTok.cells a1)))) 4 (.d (.bool x.2.1))) 3 (.r (.msl 32 0 0 x.1.length))), (up (hB fun _ => 0) 32 ⟨0, some (.own 31 4 (e_GTok.cells x.1))⟩)⟩
def f13_l0_H (a1 : List GTok) (x : (List GTok) × Bool × Int) (st : St) : Prop := keepSt [3, 4, 7, 8, 9] [(32, .id 32)] [] st = f13_l0_J a1 x
def f13_l0_e0_J (a1 : List GTok) (p61 : List GTok) : St := ⟨(up (fun _ => .un) 3 (.r (.msl 32 0 0 p61.length))), (up (hB fun _ => 0) 32 ⟨0, some (.own 31 4 (e_GTok.cells p61))⟩)⟩
def f13_l0_X (a1 : List GTok) (z : ((List GTok))) (e : PX) (st : St) : Prop := e = .exit 0 ∧ st = f13_l0_e0_J a1 z
def f13_l0_j2_J (a1 : List GTok) (p71 : List GTok) (p72 : Bool) (p73 : Int) : St := ⟨(up (up (up (up (up (fun _ => .un) 9 (.d (.int .i64 p73))) 8 (.d (.int .i64 (a1.length : Int)))) 7 (.d (.sl a1.length (e_GTok.cells a1)))) 4 (.d (.bool p72))) 3 (.r (.msl 32 0 0 p71.length))), (up (hB fun _ => 0) 32 ⟨0, some (.own 31 4 (e_GTok.cells p71))⟩)⟩
noncomputable def f13_l0_j2 (a1 : List GTok) (p71 : List GTok) (p72 : Bool) (p73 : Int) : Option (((List GTok) × Bool × Int) ⊕ (((List GTok)))) := ((idx a1 p73).bind fun z22 => (bif (!decide (z22.Kind = 1)) then ((app? 40 p71 ([z22] : List GTok)).bind fun z23 => (some (.inl (z23, false, (IntKind.i64.wrap (p73 + 1)))))) else (bif (decide (z22.Data = ([] : List UInt8))) then (some (.inl (p71, p72, (IntKind.i64.wrap (p73 + 1))))) else (bif p72 then ((inR (IntKind.i64.wrap ((p71.length : Int) - 1)) p71.length).bind fun m24 => ((p71[m24]?).bind fun z25 => ((cat? z25.Data z22.Data).bind fun z26 => ((inR (IntKind.i64.wrap ((p71.length : Int) - 1)) p71.length).bind fun m27 => ((p71[m27]?).bind fun z28 => ((some (p71.set m27 (GTok.mk z28.Kind z28.Cmd z28.Opt z26))).bind fun z29 => (some (.inl (z29, p72, (IntKind.i64.wrap (p73 + 1))))))))))) else ((app? 40 p71 ([z22] : List GTok)).bind fun z30 => (some (.inl (z30, true, (IntKind.i64.wrap (p73 + 1))))))))))
theorem f13_l0_j2_ok {d : Nat} (hd : 1 ≤ d) (a1 : List GTok) {r : ((List GTok) × Bool × Int) ⊕ (((List GTok)))} {Q : PX → St → Prop} (hQ : ∀ e st', finL (f13_l0_H a1) (f13_l0_X a1) r e st' → Q e st') (p71 : List GTok) (p72 : Bool) (p73 : Int) (hS : f13_l0_j2 a1 p71 p72 p73 = some r) {st : St} (he : keepSt [3, 4, 7, 8, 9] [(32, .id 32)] [] st = f13_l0_j2_J a1 p71 p72 p73) : ZR (lev codes baseL (d - 1)) Q c13_1 [] st := by
  refine zrKeep he ?_
  unfold f13_l0_j2 at hS
  refine zrSeq ?_
  refine zrBlk ?_
  refine zrSeq ?_
  refine zrReg ?_
  refine bindE hS (fun z22 hz22 hS => ?_)
  refine zlOp (d := some 11) (op := (.ixS 31 4 (.tmp 7) (.tmp 9))) (g := none) (v := (.rptr (e_GTok.enc z22 ++ (e_GTok.cells (a1.drop ((p73 : Int).toNat + 1)))))) (ups := []) (j := 1) rfl (by kernel_rfl) (by kernel_rfl) (ev_ixS e_GTok (kk := .i64) (xs := a1) (j := p73) (by kernel_rfl) (by kernel_rfl) hz22 rfl (by intro h; cases h)) ?_
  refine zlRun (n := 3) (j := 4) rfl (by kernel_rfl) ?_
  refine zlEnd (by kernel_rfl) ?_
  refine zkSeq ?_
  refine zrBlk ?_
  refine zrSeq ?_
  refine zrReg ?_
  refine zlRun (n := 2) (j := 2) rfl (by kernel_rfl) ?_
  refine zlBool (d := 20) (op := (.cmpI .neq (.tmp 19) (.const (.int .i64 1)))) (g := none) (j := 3) (!decide (z22.Kind = 1)) rfl (by kernel_rfl) (by kernel_rfl) (by kernel_rfl) (fun hc => ?_) (fun hc => ?_)
  · replace hS := cond_t hc hS
    refine zlRun (n := 1) (j := 4) rfl (by kernel_rfl) ?_
    refine zlEnd (by kernel_rfl) ?_
    refine zkSeq ?_
    refine zrCondT (by kernel_rfl) ?_
    refine zrReg ?_
    refine zlRun (n := 3) (j := 3) rfl (by kernel_rfl) ?_
    refine bindE hS (fun z23 hz23 hS => ?_)
    refine zlOp (d := some 24) (op := (.app 31 4 40 (.tmp 21) (.tmp 23))) (g := none) (v := (.r (.msl 32 1 0 z23.length))) (ups := [(32, ⟨1, some (.own 31 4 (e_GTok.cells z23))⟩)]) (j := 4) rfl (by kernel_rfl) (by kernel_rfl) (ev_app e_GTok (b := 32) (g := 0) (n := p71.length) (xs := p71) (ys := [z22]) ((congrArg (asL _) (by kernel_rfl : ρof _ (.tmp 23) = (.r (.msl 192 1 0 (([z22] : List GTok).length))))).trans (as_whole e_GTok (e := 31) (k := 4) (xs := [z22]) (by kernel_rfl) rfl rfl)) rfl (by kernel_rfl) rfl (by kernel_rfl) rfl hz23) ?_
    refine zlRun (n := 2) (j := 6) rfl (by kernel_rfl) ?_
    refine zlEnd (by kernel_rfl) ?_
    refine zkBlk ?_
    refine zkBlk ?_
    refine zkSeq ?_
    refine zrReg ?_
    refine zlRun (n := 2) (j := 2) rfl (by kernel_rfl) ?_
    refine zlEnd (by kernel_rfl) ?_
    refine zkNil ?_
    exact endQ hS hQ (finL_n (by show keepSt _ _ _ _ = _; kernel_rfl))
  · replace hS := cond_f hc hS
    refine zlRun (n := 1) (j := 4) rfl (by kernel_rfl) ?_
    refine zlEnd (by kernel_rfl) ?_
    refine zkSeq ?_
    refine zrCondF (by kernel_rfl) ?_
    refine zrSeq ?_
    refine zrReg ?_
    refine zlRun (n := 2) (j := 2) rfl (by kernel_rfl) ?_
    refine zlBool (d := 28) (op := (.strO .eql (.tmp 27) (.const (.string ⟨#[]⟩)))) (g := none) (j := 3) (decide (z22.Data = ([] : List UInt8))) rfl (by kernel_rfl) (by kernel_rfl) (by kernel_rfl) (fun hc => ?_) (fun hc => ?_)
    · replace hS := cond_t hc hS
      refine zlRun (n := 1) (j := 4) rfl (by kernel_rfl) ?_
      refine zlEnd (by kernel_rfl) ?_
      refine zkSeq ?_
      refine zrCondT (by kernel_rfl) ?_
      refine zrSkip ?_
      refine zkBlk ?_
      refine zkBlk ?_
      refine zkSeq ?_
      refine zrReg ?_
      refine zlRun (n := 2) (j := 2) rfl (by kernel_rfl) ?_
      refine zlEnd (by kernel_rfl) ?_
      refine zkNil ?_
      exact endQ hS hQ (finL_n (by show keepSt _ _ _ _ = _; kernel_rfl))
    · replace hS := cond_f hc hS
      refine zlRun (n := 1) (j := 4) rfl (by kernel_rfl) ?_
      refine zlEnd (by kernel_rfl) ?_
      refine zkSeq ?_
      refine zrCondF (by kernel_rfl) ?_
      refine zrSeq ?_
      refine zrReg ?_
      refine zlRun (n := 2) (j := 2) rfl (by kernel_rfl) ?_
      refine zlEnd (by kernel_rfl) ?_
      refine zkSeq ?_
      refine zrSplit 29 p72 (by kernel_rfl) (fun hc => ?_) (fun hc => ?_)
      · replace hS := cond_t hc hS
        refine zrCondT (by kernel_rfl) ?_
        refine zrRegD ?_
        refine zdRun (n := 4) (j := 4) (ts := [[], [], [(32, false)], []]) (acc' := [[], [], [(32, false)], []]) rfl (by kernel_rfl) (by kernel_rfl) (by kernel_rfl) ?_
        refine bindE hS (fun m24 hm24 hS => ?_)
        refine zdOp (d := some 35) (op := (.ixS 31 4 (.tmp 31) (.tmp 34))) (g := none) (v := (.r (.ptr 32 0 ((0 + m24) * 4)))) (ups := []) (j := 5) (t1 := [(32, false)]) (acc' := [[], [], [(32, false)], [], [(32, false)]]) (by kernel_rfl) (by kernel_rfl) rfl (by kernel_rfl) (by kernel_rfl) (ev_ixM (kk := .i64) (b := 32) (g := 0) (l := 0) (n := p71.length) (j := (IntKind.i64.wrap ((p71.length : Int) - 1))) (cs := e_GTok.cells p71) (by kernel_rfl) (by kernel_rfl) (by kernel_rfl) hm24) ?_
        refine zdRun (n := 1) (j := 6) (ts := [[]]) (acc' := [[], [], [(32, false)], [], [(32, false)], []]) rfl (by kernel_rfl) (by kernel_rfl) (by kernel_rfl) ?_
        refine bindE hS (fun z25 hz25 hS => ?_)
        refine zdOp (d := some 37) (op := (.load .false 1 (.tmp 36))) (g := none) (v := (.d (.str z25.Data))) (ups := []) (j := 7) (t1 := [(32, false)]) (acc' := [[], [], [(32, false)], [], [(32, false)], [], [(32, false)]]) (by kernel_rfl) (by kernel_rfl) rfl (by kernel_rfl) (by kernel_rfl) (ev_loadM e_GTok (b := 32) (g := 0) (o := (0 + m24) * 4 + 3) (e := 31) (k := 4) (m := m24) (fo := 3) (xs := p71) (by kernel_rfl) (by kernel_rfl) (by rw [Nat.zero_add]; rfl) hz25 (by kernel_rfl) (by kernel_rfl) (by kernel_rfl)) ?_
        refine zdRun (n := 2) (j := 9) (ts := [[], [(56, false)]]) (acc' := [[], [], [(32, false)], [], [(32, false)], [], [(32, false)], [], [(56, false)]]) rfl (by kernel_rfl) (by kernel_rfl) (by kernel_rfl) ?_
        refine bindE hS (fun z26 hz26 hS => ?_)
        refine zdOp (d := some 40) (op := (.strO .add (.tmp 37) (.tmp 39))) (g := none) (v := (.d (.str z26))) (ups := []) (j := 10) (t1 := []) (acc' := [[], [], [(32, false)], [], [(32, false)], [], [(32, false)], [], [(56, false)], []]) (by kernel_rfl) (by kernel_rfl) rfl (by kernel_rfl) (by kernel_rfl) (ev_cat (a := z25.Data) (c := z22.Data) (by kernel_rfl) (by kernel_rfl) hz26) ?_
        refine bindE hS (fun m27 hm27 hS => ?_)
        refine zdOp (d := some 41) (op := (.ixS 31 4 (.tmp 31) (.tmp 34))) (g := none) (v := (.r (.ptr 32 0 ((0 + m27) * 4)))) (ups := []) (j := 11) (t1 := [(32, false)]) (acc' := [[], [], [(32, false)], [], [(32, false)], [], [(32, false)], [], [(56, false)], [], [(32, false)]]) (by kernel_rfl) (by kernel_rfl) rfl (by kernel_rfl) (by kernel_rfl) (ev_ixM (kk := .i64) (b := 32) (g := 0) (l := 0) (n := p71.length) (j := (IntKind.i64.wrap ((p71.length : Int) - 1))) (cs := e_GTok.cells p71) (by kernel_rfl) (by kernel_rfl) (by kernel_rfl) hm27) ?_
        refine zdRun (n := 1) (j := 12) (ts := [[]]) (acc' := [[], [], [(32, false)], [], [(32, false)], [], [(32, false)], [], [(56, false)], [], [(32, false)], []]) rfl (by kernel_rfl) (by kernel_rfl) (by kernel_rfl) ?_
        refine bindE hS (fun z28 hz28 hS => ?_)
        refine bindE hS (fun z29 hz29 hS => ?_)
        refine zdOp (d := none) (op := (.store 1 (.tmp 42) (.tmp 40))) (g := none) (v := .un) (ups := [(32, ⟨0, some (.own 31 4 (e_GTok.cells (p71.set m27 (GTok.mk z28.Kind z28.Cmd z28.Opt z26))))⟩)]) (j := 13) (t1 := [(32, true)]) (acc' := [[], [], [(32, false)], [], [(32, false)], [], [(32, false)], [], [(56, false)], [], [(32, false)], [], [(32, true)]]) (by kernel_rfl) (by kernel_rfl) rfl (by kernel_rfl) (by kernel_rfl) (ev_storeM e_GTok (b := 32) (g := 0) (o := (0 + m27) * 4 + 3) (e := 31) (k := 4) (m := m27) (fo := 3) (xs := p71) (z := z28) (z' := (GTok.mk z28.Kind z28.Cmd z28.Opt z26)) (by kernel_rfl) (new := ((.d (.str z26)) :: [])) (ds := [.str z26]) (by kernel_rfl) (by kernel_rfl) (by kernel_rfl) (by rw [Nat.zero_add]; rfl) hz28 (by kernel_rfl) (by kernel_rfl) (by kernel_rfl)) ?_
        have ez29 := Option.some.inj hz29
        have lz29 : p71.length = z29.length := by rw [← ez29, List.length_set]
        rw [ez29]
        try delta f13_l0_j2_J
        try rw [lz29]
        refine zdEnd (by kernel_rfl) (by kernel_rfl) ?_
        refine zkBlk ?_
        refine zkBlk ?_
        refine zkSeq ?_
        refine zrReg ?_
        refine zlRun (n := 2) (j := 2) rfl (by kernel_rfl) ?_
        refine zlEnd (by kernel_rfl) ?_
        refine zkNil ?_
        exact endQ hS hQ (finL_n (by show keepSt _ _ _ _ = _; kernel_rfl))
      · replace hS := cond_f hc hS
        refine zrCondF (by kernel_rfl) ?_
        refine zrReg ?_
        refine zlRun (n := 3) (j := 3) rfl (by kernel_rfl) ?_
        refine bindE hS (fun z30 hz30 hS => ?_)
        refine zlOp (d := some 16) (op := (.app 31 4 40 (.tmp 13) (.tmp 15))) (g := none) (v := (.r (.msl 32 1 0 z30.length))) (ups := [(32, ⟨1, some (.own 31 4 (e_GTok.cells z30))⟩)]) (j := 4) rfl (by kernel_rfl) (by kernel_rfl) (ev_app e_GTok (b := 32) (g := 0) (n := p71.length) (xs := p71) (ys := [z22]) ((congrArg (asL _) (by kernel_rfl : ρof _ (.tmp 15) = (.r (.msl 128 1 0 (([z22] : List GTok).length))))).trans (as_whole e_GTok (e := 31) (k := 4) (xs := [z22]) (by kernel_rfl) rfl rfl)) rfl (by kernel_rfl) rfl (by kernel_rfl) rfl hz30) ?_
        refine zlRun (n := 2) (j := 6) rfl (by kernel_rfl) ?_
        refine zlEnd (by kernel_rfl) ?_
        refine zkBlk ?_
        refine zkBlk ?_
        refine zkSeq ?_
        refine zrReg ?_
        refine zlRun (n := 2) (j := 2) rfl (by kernel_rfl) ?_
        refine zlEnd (by kernel_rfl) ?_
        refine zkNil ?_
        exact endQ hS hQ (finL_n (by show keepSt _ _ _ _ = _; kernel_rfl))
def f13_l0_j1_J (a1 : List GTok) (p67 : List GTok) (p68 : Bool) (p69 : Int) (p70 : Bool) : St := ⟨(up (up (up (up (up (up (fun _ => .un) 10 (.d (.bool p70))) 9 (.d (.int .i64 p69))) 8 (.d (.int .i64 (a1.length : Int)))) 7 (.d (.sl a1.length (e_GTok.cells a1)))) 4 (.d (.bool p68))) 3 (.r (.msl 32 0 0 p67.length))), (up (hB fun _ => 0) 32 ⟨0, some (.own 31 4 (e_GTok.cells p67))⟩)⟩
noncomputable def f13_l0_j1 (a1 : List GTok) (p67 : List GTok) (p68 : Bool) (p69 : Int) (p70 : Bool) : Option (((List GTok) × Bool × Int) ⊕ (((List GTok)))) := (bif p70 then (f13_l0_j2 a1 p67 p68 p69) else (some (.inr p67)))
theorem f13_l0_j1_ok {d : Nat} (hd : 1 ≤ d) (a1 : List GTok) {r : ((List GTok) × Bool × Int) ⊕ (((List GTok)))} {Q : PX → St → Prop} (hQ : ∀ e st', finL (f13_l0_H a1) (f13_l0_X a1) r e st' → Q e st') (p67 : List GTok) (p68 : Bool) (p69 : Int) (p70 : Bool) (hS : f13_l0_j1 a1 p67 p68 p69 p70 = some r) {st : St} (he : keepSt [3, 4, 7, 8, 9, 10] [(32, .id 32)] [] st = f13_l0_j1_J a1 p67 p68 p69 p70) : ZR (lev codes baseL (d - 1)) Q c13_2 [] st := by
  refine zrKeep he ?_
  unfold f13_l0_j1 at hS
  refine zrSeq ?_
  refine zrSplit 10 p70 (by kernel_rfl) (fun hc => ?_) (fun hc => ?_)
  · replace hS := cond_t hc hS
    refine zrCondT (by kernel_rfl) ?_
    refine zrSkip ?_
    refine zkSeq ?_
    exact f13_l0_j2_ok hd a1 hQ p67 p68 p69 hS (by kernel_rfl)
  · replace hS := cond_f hc hS
    refine zrCondF (by kernel_rfl) ?_
    refine zrKeep (J := f13_l0_e0_J a1 p67) (by kernel_rfl) ?_
    refine zrExit ?_
    refine zkSeqX ?_
    refine zkNil ?_
    exact endQ hS hQ (finL_x (by intro h; cases h) (by show _ = _ ∧ _ = _; exact ⟨rfl, rfl⟩))
noncomputable def f13_l0 (a1 : List GTok) (x : (List GTok) × Bool × Int) : Option (((List GTok) × Bool × Int) ⊕ (((List GTok)))) := (bif (decide (x.2.2 < (a1.length : Int))) then (f13_l0_j1 a1 x.1 x.2.1 x.2.2 true) else (f13_l0_j1 a1 x.1 x.2.1 x.2.2 false))
theorem f13_l0_ok {d : Nat} (hd : 1 ≤ d) (a1 : List GTok) {r : ((List GTok) × Bool × Int) ⊕ (((List GTok)))} {Q : PX → St → Prop} (hQ : ∀ e st', finL (f13_l0_H a1) (f13_l0_X a1) r e st' → Q e st') {x : (List GTok) × Bool × Int} (hS : f13_l0 a1 x = some r) {st : St} (he : f13_l0_H a1 x st) : ZR (lev codes baseL (d - 1)) Q c13_3 [] st := by
  refine zrKeep he ?_
  unfold f13_l0 at hS
  refine zrSeq ?_
  refine zrReg ?_
  refine zlBool (d := 10) (op := (.cmpI .lss (.tmp 9) (.tmp 8))) (g := none) (j := 1) (decide (x.2.2 < (a1.length : Int))) rfl (by kernel_rfl) (by kernel_rfl) (by kernel_rfl) (fun hc => ?_) (fun hc => ?_)
  · replace hS := cond_t hc hS
    refine zlEnd (by kernel_rfl) ?_
    refine zkSeq ?_
    exact f13_l0_j1_ok hd a1 hQ x.1 x.2.1 x.2.2 true hS (by kernel_rfl)
  · replace hS := cond_f hc hS
    refine zlEnd (by kernel_rfl) ?_
    refine zkSeq ?_
    exact f13_l0_j1_ok hd a1 hQ x.1 x.2.1 x.2.2 false hS (by kernel_rfl)
noncomputable def f13 (a1 : List GTok) : Option ((List GTok)) := ((loopO (f13_l0 a1) ([], false, 0)).bind fun z31 => (some z31))
theorem f13_ok (d : Nat) (hd : 1 ≤ d) (a1 : List GTok) (r : (List GTok)) (hS : f13 a1 = some r) : lev codes baseL d 13 [(.d (.sl a1.length (e_GTok.cells a1)))] [] = some ((.r (.own 0 31 4 r.length (e_GTok.cells r))), []) := by
  refine lev_go codes13 rfl rfl (Nat.le_trans (Nat.le_of_ble_eq_true rfl) hd) fun Q hQ => ?_
  unfold f13 at hS
  show ZR _ Q c13_b [] _
  replace hQ : ∀ e st', f13_Q r e st' → Q e st' := hQ
  refine zrSeq ?_
  refine zrReg ?_
  refine zlRun (n := 1) (j := 1) rfl (by kernel_rfl) ?_
  refine zlEnd (by kernel_rfl) ?_
  refine zkSeq ?_
  refine zrSeq ?_
  refine zrReg ?_
  refine zlRun (n := 1) (j := 1) rfl (by kernel_rfl) ?_
  refine zlEnd (by kernel_rfl) ?_
  refine zkSeq ?_
  refine zrSeq ?_
  refine zrReg ?_
  refine zlRun (n := 1) (j := 1) rfl (by kernel_rfl) ?_
  refine zlEnd (by kernel_rfl) ?_
  refine zkSeq ?_
  refine zrSeq ?_
  refine zrSeq ?_
  refine zrReg ?_
  refine zlRun (n := 3) (j := 3) rfl (by kernel_rfl) ?_
  refine zlEnd (by kernel_rfl) ?_
  refine zkSeq ?_
  refine zrBlk ?_
  refine bindE hS (fun z31 hz31 hS => ?_)
  refine zrLoop (f13_l0_H a1) (f13_l0_X a1) (fun x st r Q h0 hS hQ => f13_l0_ok hd a1 hQ hS h0) (x := ([], false, 0)) (z := z31) (by show keepSt _ _ _ _ = _; kernel_rfl) hz31 ?_
  intro e st' _ hX
  obtain ⟨rfl, rfl⟩ : _ ∧ _ := hX
  refine zkBlkX ?_
  refine zkSeq ?_
  refine zrSeq ?_
  refine zrReg ?_
  refine zlRun (n := 2) (j := 2) rfl (by kernel_rfl) ?_
  refine zlEnd (by kernel_rfl) ?_
  refine zkSeq ?_
  refine zrRet ?_
  refine zkNil ?_
  exact endQ hS hQ (fRet ((congrArg (fun s => outR s 0 c13.res) (by kernel_rfl : finSt c13.fin _ = f13_fin z31)).trans (f13_out z31)))
/- farwriter/farkeep.IacRight -/
def f4_fin (p1030 : Bool) : St := ⟨(up (fun _ => .un) 4 (.d (.bool p1030))), (hB fun _ => 0)⟩
theorem f4_out (p1030 : Bool) : outR (f4_fin p1030) 0 c4.res = some ((.d (.bool p1030)), []) := by
  kernel_rfl
def f4_Q (r : Bool) (e : PX) (st : St) : Prop := DoneF c4 0 ((.d (.bool r)), []) e st
def f4_j1_J (a1 : GWire) (a2 : List UInt8) (p2061 : GWire) (p2062 : List GTok) : St := ⟨(up (up (fun _ => .un) 6 (.r (.msl 112 0 0 p2062.length))) 5 (.r (.ptr 48 0 0))), (up (up (hB fun _ => 0) 112 ⟨0, some (.own 31 4 (e_GTok.cells p2062))⟩) 48 ⟨0, some (.box ((.d (.int .i64 p2061.Mode)) :: ((.d (.int .i64 p2061.Cmd)) :: ((.d (.int .i64 p2061.Opt)) :: ((.d (.str p2061.Buf)) :: ((.d (.bool p2061.Over)) :: []))))))⟩)⟩
noncomputable def f4_j1 (a1 : GWire) (a2 : List UInt8) (p2061 : GWire) (p2062 : List GTok) : Option (Bool) := ((f11 p2061).bind fun z38 => (bif (decide (z38 = 0)) then ((f13 p2062).bind fun z39 => ((f12 z39 p2062).bind fun z40 => (some z40))) else (some false)))
theorem f4_j1_ok {d : Nat} (hd : 7 ≤ d) (a1 : GWire) (a2 : List UInt8) {r : Bool} {Q : PX → St → Prop} (hQ : ∀ e st', f4_Q r e st' → Q e st') (p2061 : GWire) (p2062 : List GTok) (hS : f4_j1 a1 a2 p2061 p2062 = some r) {st : St} (he : keepSt [5, 6] [(48, .id 48), (112, .id 112)] [] st = f4_j1_J a1 a2 p2061 p2062) : ZR (lev codes baseL (d - 1)) Q c4_1 [] st := by
  refine zrKeep he ?_
  unfold f4_j1 at hS
  refine zrSeq ?_
  refine zrReg ?_
  refine zlRun (n := 1) (j := 1) rfl (by kernel_rfl) ?_
  refine bindE hS (fun z38 hz38 hS => ?_)
  refine zlOp (d := some 65) (op := (.call 11 [(.tmp 64)])) (g := none) (v := (.d (.int .i64 z38))) (ups := []) (j := 2) rfl (by kernel_rfl) (by kernel_rfl) (ev_call (args := [(.agg ((.d (.int .i64 p2061.Mode)) :: ((.d (.int .i64 p2061.Cmd)) :: ((.d (.int .i64 p2061.Opt)) :: ((.d (.str p2061.Buf)) :: ((.d (.bool p2061.Over)) :: []))))))]) (l := [(.agg ((.d (.int .i64 p2061.Mode)) :: ((.d (.int .i64 p2061.Cmd)) :: ((.d (.int .i64 p2061.Opt)) :: ((.d (.str p2061.Buf)) :: ((.d (.bool p2061.Over)) :: []))))))]) (r := (.d (.int .i64 z38))) (by kernel_rfl) (by kernel_rfl) (f11_ok (d - 1) (dpt hd rfl) p2061 z38 hz38) (by kernel_rfl) (by kernel_rfl) (by kernel_rfl)) ?_
  refine zlBool (d := 66) (op := (.cmpI .eql (.tmp 65) (.const (.int .i64 0)))) (g := none) (j := 3) (decide (z38 = 0)) rfl (by kernel_rfl) (by kernel_rfl) (by kernel_rfl) (fun hc => ?_) (fun hc => ?_)
  · replace hS := cond_t hc hS
    refine zlRun (n := 2) (j := 5) rfl (by kernel_rfl) ?_
    refine bindE hS (fun z39 hz39 hS => ?_)
    refine zlOp (d := some 69) (op := (.call 13 [(.tmp 68)])) (g := (some (67, true))) (v := (.r (.msl 560 1 0 z39.length))) (ups := [(560, ⟨1, some (.own 31 4 (e_GTok.cells z39))⟩)]) (j := 6) rfl (by kernel_rfl) (by kernel_rfl) (ev_call (args := [(.r (.msl 112 0 0 p2062.length))]) (l := [(.d (.sl p2062.length (e_GTok.cells p2062)))]) (r := (.r (.own 0 31 4 z39.length (e_GTok.cells z39)))) (by kernel_rfl) (l_cons (l_own e_GTok (e := 31) (k := 4) (xs := p2062) (by kernel_rfl) rfl rfl) l_nil) (f13_ok (d - 1) (dpt hd rfl) p2062 z39 hz39) (by simp only [free_own e_GTok (fun _ => rfl), free_tup, free_agg, free_nl, free_cs, free_int, free_bool, free_str, free_un, free_ni, free_s0, Bool.and_true, Bool.or_true, Bool.and_self]) (by kernel_rfl) (by kernel_rfl)) ?_
    refine zlRun (n := 1) (j := 7) rfl (by kernel_rfl) ?_
    refine bindE hS (fun z40 hz40 hS => ?_)
    refine zlOp (d := some 71) (op := (.call 12 [(.tmp 69), (.tmp 70)])) (g := (some (67, true))) (v := (.d (.bool z40))) (ups := []) (j := 8) rfl (by kernel_rfl) (by kernel_rfl) (ev_call (args := [(.r (.msl 560 1 0 z39.length)), (.r (.msl 112 0 0 p2062.length))]) (l := [(.d (.sl z39.length (e_GTok.cells z39))), (.d (.sl p2062.length (e_GTok.cells p2062)))]) (r := (.d (.bool z40))) (by kernel_rfl) (l_cons (l_own e_GTok (e := 31) (k := 4) (xs := z39) (by kernel_rfl) rfl rfl) (l_cons (l_own e_GTok (e := 31) (k := 4) (xs := p2062) (by kernel_rfl) rfl rfl) l_nil)) (f12_ok (d - 1) (dpt hd rfl) z39 p2062 z40 hz40) (by kernel_rfl) (by kernel_rfl) (by kernel_rfl)) ?_
    refine zlRun (n := 2) (j := 10) rfl (by kernel_rfl) ?_
    refine zlEnd (by kernel_rfl) ?_
    refine zkSeq ?_
    refine zrRet ?_
    refine zkNil ?_
    exact endQ hS hQ (fRet ((congrArg (fun s => outR s 0 c4.res) (by kernel_rfl : finSt c4.fin _ = f4_fin z40)).trans (f4_out z40)))
  · replace hS := cond_f hc hS
    refine zlRun (n := 7) (j := 10) rfl (by kernel_rfl) ?_
    refine zlEnd (by kernel_rfl) ?_
    refine zkSeq ?_
    refine zrRet ?_
    refine zkNil ?_
    exact endQ hS hQ (fRet ((congrArg (fun s => outR s 0 c4.res) (by kernel_rfl : finSt c4.fin _ = f4_fin false)).trans (f4_out false)))
def f4_l2_J (a1 : GWire) (a2 : List UInt8) (x : GWire × (List GTok) × Int × Int) : St := ⟨(up (up (up (up (up (fun _ => .un) 26 (.d (.int .i64 x.2.2.2))) 25 (.d (.int .i64 x.2.2.1))) 24 (.r (.msl 112 0 0 x.2.1.length))) 6 (.r (.msl 112 0 0 x.2.1.length))) 5 (.r (.ptr 48 0 0))), (up (up (hB fun _ => 0) 112 ⟨0, some (.own 31 4 (e_GTok.cells x.2.1))⟩) 48 ⟨0, some (.box ((.d (.int .i64 x.1.Mode)) :: ((.d (.int .i64 x.1.Cmd)) :: ((.d (.int .i64 x.1.Opt)) :: ((.d (.str x.1.Buf)) :: ((.d (.bool x.1.Over)) :: []))))))⟩)⟩
def f4_l2_H (a1 : GWire) (a2 : List UInt8) (x : GWire × (List GTok) × Int × Int) (st : St) : Prop := keepSt [5, 6, 24, 25, 26] [(48, .id 48), (112, .id 112)] [] st = f4_l2_J a1 a2 x
def f4_l2_e0_J (a1 : GWire) (a2 : List UInt8) (p2059 : GWire) (p2060 : List GTok) : St := ⟨(up (up (fun _ => .un) 6 (.r (.msl 112 0 0 p2060.length))) 5 (.r (.ptr 48 0 0))), (up (up (hB fun _ => 0) 112 ⟨0, some (.own 31 4 (e_GTok.cells p2060))⟩) 48 ⟨0, some (.box ((.d (.int .i64 p2059.Mode)) :: ((.d (.int .i64 p2059.Cmd)) :: ((.d (.int .i64 p2059.Opt)) :: ((.d (.str p2059.Buf)) :: ((.d (.bool p2059.Over)) :: []))))))⟩)⟩
def f4_l2_X (a1 : GWire) (a2 : List UInt8) (z : (GWire × (List GTok)) ⊕ Bool) (e : PX) (st : St) : Prop := (match z with | .inl z => e = .exit 0 ∧ st = f4_l2_e0_J a1 a2 z.1 z.2 | .inr z => e = .ret ∧ finSt c4.fin st = f4_fin z)
def f4_l2_j4_J (a1 : GWire) (a2 : List UInt8) (p2073 : GWire) (p2074 : List GTok) (p2075 : Int) (p2076 : Int) : St := ⟨(up (up (up (up (up (fun _ => .un) 26 (.d (.int .i64 p2076))) 25 (.d (.int .i64 p2075))) 24 (.r (.msl 112 0 0 p2074.length))) 6 (.r (.msl 112 0 0 p2074.length))) 5 (.r (.ptr 48 0 0))), (up (up (hB fun _ => 0) 112 ⟨0, some (.own 31 4 (e_GTok.cells p2074))⟩) 48 ⟨0, some (.box ((.d (.int .i64 p2073.Mode)) :: ((.d (.int .i64 p2073.Cmd)) :: ((.d (.int .i64 p2073.Opt)) :: ((.d (.str p2073.Buf)) :: ((.d (.bool p2073.Over)) :: []))))))⟩)⟩
noncomputable def f4_l2_j4 (a1 : GWire) (a2 : List UInt8) (p2073 : GWire) (p2074 : List GTok) (p2075 : Int) (p2076 : Int) : Option ((GWire × (List GTok) × Int × Int) ⊕ ((GWire × (List GTok)) ⊕ Bool)) := ((inR p2076 p2074.length).bind fun m41 => ((p2074[m41]?).bind fun z42 => (bif (decide (4096 < (z42.Data.length : Int))) then (bif (!decide (z42.Kind = 1)) then (some (.inr (.inr false))) else (bif (decide (z42.Kind = 1)) then (bif (decide (z42.Data = ([] : List UInt8))) then (some (.inr (.inr false))) else (bif (decide (0 < p2076)) then ((inR (IntKind.i64.wrap (p2076 - 1)) p2074.length).bind fun m43 => ((p2074[m43]?).bind fun z44 => (bif (decide (z44.Kind = 1)) then (some (.inr (.inr false))) else (some (.inl (p2073, p2074, p2075, (IntKind.i64.wrap (p2076 + 1)))))))) else (some (.inl (p2073, p2074, p2075, (IntKind.i64.wrap (p2076 + 1))))))) else (some (.inl (p2073, p2074, p2075, (IntKind.i64.wrap (p2076 + 1))))))) else (bif (decide (z42.Kind = 1)) then (bif (decide (z42.Data = ([] : List UInt8))) then (some (.inr (.inr false))) else (bif (decide (0 < p2076)) then ((inR (IntKind.i64.wrap (p2076 - 1)) p2074.length).bind fun m45 => ((p2074[m45]?).bind fun z46 => (bif (decide (z46.Kind = 1)) then (some (.inr (.inr false))) else (some (.inl (p2073, p2074, p2075, (IntKind.i64.wrap (p2076 + 1)))))))) else (some (.inl (p2073, p2074, p2075, (IntKind.i64.wrap (p2076 + 1))))))) else (some (.inl (p2073, p2074, p2075, (IntKind.i64.wrap (p2076 + 1)))))))))
theorem f4_l2_j4_ok {d : Nat} (hd : 7 ≤ d) (a1 : GWire) (a2 : List UInt8) {r : (GWire × (List GTok) × Int × Int) ⊕ ((GWire × (List GTok)) ⊕ Bool)} {Q : PX → St → Prop} (hQ : ∀ e st', finL (f4_l2_H a1 a2) (f4_l2_X a1 a2) r e st' → Q e st') (p2073 : GWire) (p2074 : List GTok) (p2075 : Int) (p2076 : Int) (hS : f4_l2_j4 a1 a2 p2073 p2074 p2075 p2076 = some r) {st : St} (he : keepSt [5, 6, 24, 25, 26] [(48, .id 48), (112, .id 112)] [] st = f4_l2_j4_J a1 a2 p2073 p2074 p2075 p2076) : ZR (lev codes baseL (d - 1)) Q c4_2 [] st := by
  refine zrKeep he ?_
  unfold f4_l2_j4 at hS
  refine zrSeq ?_
  refine zrBlk ?_
  refine zrSeq ?_
  refine zrReg ?_
  refine zlRun (n := 1) (j := 1) rfl (by kernel_rfl) ?_
  refine bindE hS (fun m41 hm41 hS => ?_)
  refine zlOp (d := some 29) (op := (.ixS 31 4 (.tmp 24) (.tmp 26))) (g := none) (v := (.r (.ptr 112 0 ((0 + m41) * 4)))) (ups := []) (j := 2) rfl (by kernel_rfl) (by kernel_rfl) (ev_ixM (kk := .i64) (b := 112) (g := 0) (l := 0) (n := p2074.length) (j := p2076) (cs := e_GTok.cells p2074) (by kernel_rfl) (by kernel_rfl) (by kernel_rfl) hm41) ?_
  refine bindE hS (fun z42 hz42 hS => ?_)
  refine zlOp (d := some 30) (op := (.load .true 4 (.tmp 29))) (g := none) (v := (.agg ((.d (.int .i64 z42.Kind)) :: ((.d (.int .i64 z42.Cmd)) :: ((.d (.int .i64 z42.Opt)) :: ((.d (.str z42.Data)) :: [])))))) (ups := []) (j := 3) rfl (by kernel_rfl) (by kernel_rfl) (ev_loadM e_GTok (b := 112) (g := 0) (o := (0 + m41) * 4) (e := 31) (k := 4) (m := m41) (fo := 0) (xs := p2074) (by kernel_rfl) (by kernel_rfl) (by rw [Nat.zero_add]; rfl) hz42 (by kernel_rfl) (by kernel_rfl) (by kernel_rfl)) ?_
  refine zlRun (n := 3) (j := 6) rfl (by kernel_rfl) ?_
  refine zlEnd (by kernel_rfl) ?_
  refine zkSeq ?_
  refine zrSeq ?_
  refine zrReg ?_
  refine zlRun (n := 3) (j := 3) rfl (by kernel_rfl) ?_
  refine zlBool (d := 34) (op := (.cmpI .gtr (.tmp 33) (.const (.int .i64 4096)))) (g := none) (j := 4) (decide (4096 < (z42.Data.length : Int))) rfl (by kernel_rfl) (by kernel_rfl) (by kernel_rfl) (fun hc => ?_) (fun hc => ?_)
  · replace hS := cond_t hc hS
    refine zlRun (n := 3) (j := 7) rfl (by kernel_rfl) ?_
    refine zlBool (d := 38) (op := (.cmpI .neq (.tmp 37) (.const (.int .i64 1)))) (g := (some (35, true))) (j := 8) (!decide (z42.Kind = 1)) rfl (by kernel_rfl) (by kernel_rfl) (by kernel_rfl) (fun hc => ?_) (fun hc => ?_)
    · replace hS := cond_t hc hS
      refine zlRun (n := 24) (j := 32) rfl (by kernel_rfl) ?_
      refine zlEnd (by kernel_rfl) ?_
      refine zkSeq ?_
      refine zrCondT (by kernel_rfl) ?_
      refine zrSeq ?_
      refine zrReg ?_
      refine zlRun (n := 1) (j := 1) rfl (by kernel_rfl) ?_
      refine zlEnd (by kernel_rfl) ?_
      refine zkSeq ?_
      refine zrRet ?_
      refine zkBlkR ?_
      refine zkSeqR ?_
      refine zkNil ?_
      exact endQ hS hQ (finL_x (by intro h; cases h) (by show _ = _ ∧ _ = _; exact ⟨rfl, by kernel_rfl⟩))
    · replace hS := cond_f hc hS
      refine zlRun (n := 4) (j := 12) rfl (by kernel_rfl) ?_
      refine zlBool (d := 43) (op := (.cmpI .eql (.tmp 42) (.const (.int .i64 1)))) (g := (some (40, false))) (j := 13) (decide (z42.Kind = 1)) rfl (by kernel_rfl) (by kernel_rfl) (by kernel_rfl) (fun hc => ?_) (fun hc => ?_)
      · replace hS := cond_t hc hS
        refine zlRun (n := 3) (j := 16) rfl (by kernel_rfl) ?_
        refine zlBool (d := 47) (op := (.strO .eql (.tmp 46) (.const (.string ⟨#[]⟩)))) (g := (some (44, true))) (j := 17) (decide (z42.Data = ([] : List UInt8))) rfl (by kernel_rfl) (by kernel_rfl) (by kernel_rfl) (fun hc => ?_) (fun hc => ?_)
        · replace hS := cond_t hc hS
          refine zlRun (n := 15) (j := 32) rfl (by kernel_rfl) ?_
          refine zlEnd (by kernel_rfl) ?_
          refine zkSeq ?_
          refine zrCondT (by kernel_rfl) ?_
          refine zrSeq ?_
          refine zrReg ?_
          refine zlRun (n := 1) (j := 1) rfl (by kernel_rfl) ?_
          refine zlEnd (by kernel_rfl) ?_
          refine zkSeq ?_
          refine zrRet ?_
          refine zkBlkR ?_
          refine zkSeqR ?_
          refine zkNil ?_
          exact endQ hS hQ (finL_x (by intro h; cases h) (by show _ = _ ∧ _ = _; exact ⟨rfl, by kernel_rfl⟩))
        · replace hS := cond_f hc hS
          refine zlRun (n := 2) (j := 19) rfl (by kernel_rfl) ?_
          refine zlBool (d := 50) (op := (.cmpI .gtr (.tmp 49) (.const (.int .i64 0)))) (g := (some (48, false))) (j := 20) (decide (0 < p2076)) rfl (by kernel_rfl) (by kernel_rfl) (by kernel_rfl) (fun hc => ?_) (fun hc => ?_)
          · replace hS := cond_t hc hS
            refine zlRun (n := 4) (j := 24) rfl (by kernel_rfl) ?_
            refine bindE hS (fun m43 hm43 hS => ?_)
            refine zlOp (d := some 55) (op := (.ixS 31 4 (.tmp 52) (.tmp 54))) (g := (some (51, true))) (v := (.r (.ptr 112 0 ((0 + m43) * 4)))) (ups := []) (j := 25) rfl (by kernel_rfl) (by kernel_rfl) (ev_ixM (kk := .i64) (b := 112) (g := 0) (l := 0) (n := p2074.length) (j := (IntKind.i64.wrap (p2076 - 1))) (cs := e_GTok.cells p2074) (by kernel_rfl) (by kernel_rfl) (by kernel_rfl) hm43) ?_
            refine zlRun (n := 1) (j := 26) rfl (by kernel_rfl) ?_
            refine bindE hS (fun z44 hz44 hS => ?_)
            refine zlOp (d := some 57) (op := (.load .false 1 (.tmp 56))) (g := (some (51, true))) (v := (.d (.int .i64 z44.Kind))) (ups := []) (j := 27) rfl (by kernel_rfl) (by kernel_rfl) (ev_loadM e_GTok (b := 112) (g := 0) (o := (0 + m43) * 4 + 0) (e := 31) (k := 4) (m := m43) (fo := 0) (xs := p2074) (by kernel_rfl) (by kernel_rfl) (by rw [Nat.zero_add]; rfl) hz44 (by kernel_rfl) (by kernel_rfl) (by kernel_rfl)) ?_
            refine zlBool (d := 58) (op := (.cmpI .eql (.tmp 57) (.const (.int .i64 1)))) (g := (some (51, true))) (j := 28) (decide (z44.Kind = 1)) rfl (by kernel_rfl) (by kernel_rfl) (by kernel_rfl) (fun hc => ?_) (fun hc => ?_)
            · replace hS := cond_t hc hS
              refine zlRun (n := 4) (j := 32) rfl (by kernel_rfl) ?_
              refine zlEnd (by kernel_rfl) ?_
              refine zkSeq ?_
              refine zrCondT (by kernel_rfl) ?_
              refine zrSeq ?_
              refine zrReg ?_
              refine zlRun (n := 1) (j := 1) rfl (by kernel_rfl) ?_
              refine zlEnd (by kernel_rfl) ?_
              refine zkSeq ?_
              refine zrRet ?_
              refine zkBlkR ?_
              refine zkSeqR ?_
              refine zkNil ?_
              exact endQ hS hQ (finL_x (by intro h; cases h) (by show _ = _ ∧ _ = _; exact ⟨rfl, by kernel_rfl⟩))
            · replace hS := cond_f hc hS
              refine zlRun (n := 4) (j := 32) rfl (by kernel_rfl) ?_
              refine zlEnd (by kernel_rfl) ?_
              refine zkSeq ?_
              refine zrCondF (by kernel_rfl) ?_
              refine zrSkip ?_
              refine zkBlk ?_
              refine zkSeq ?_
              refine zrReg ?_
              refine zlRun (n := 2) (j := 2) rfl (by kernel_rfl) ?_
              refine zlEnd (by kernel_rfl) ?_
              refine zkNil ?_
              exact endQ hS hQ (finL_n (by show keepSt _ _ _ _ = _; kernel_rfl))
          · replace hS := cond_f hc hS
            refine zlRun (n := 12) (j := 32) rfl (by kernel_rfl) ?_
            refine zlEnd (by kernel_rfl) ?_
            refine zkSeq ?_
            refine zrCondF (by kernel_rfl) ?_
            refine zrSkip ?_
            refine zkBlk ?_
            refine zkSeq ?_
            refine zrReg ?_
            refine zlRun (n := 2) (j := 2) rfl (by kernel_rfl) ?_
            refine zlEnd (by kernel_rfl) ?_
            refine zkNil ?_
            exact endQ hS hQ (finL_n (by show keepSt _ _ _ _ = _; kernel_rfl))
      · replace hS := cond_f hc hS
        refine zlRun (n := 19) (j := 32) rfl (by kernel_rfl) ?_
        refine zlEnd (by kernel_rfl) ?_
        refine zkSeq ?_
        refine zrCondF (by kernel_rfl) ?_
        refine zrSkip ?_
        refine zkBlk ?_
        refine zkSeq ?_
        refine zrReg ?_
        refine zlRun (n := 2) (j := 2) rfl (by kernel_rfl) ?_
        refine zlEnd (by kernel_rfl) ?_
        refine zkNil ?_
        exact endQ hS hQ (finL_n (by show keepSt _ _ _ _ = _; kernel_rfl))
  · replace hS := cond_f hc hS
    refine zlRun (n := 8) (j := 12) rfl (by kernel_rfl) ?_
    refine zlBool (d := 43) (op := (.cmpI .eql (.tmp 42) (.const (.int .i64 1)))) (g := (some (40, false))) (j := 13) (decide (z42.Kind = 1)) rfl (by kernel_rfl) (by kernel_rfl) (by kernel_rfl) (fun hc => ?_) (fun hc => ?_)
    · replace hS := cond_t hc hS
      refine zlRun (n := 3) (j := 16) rfl (by kernel_rfl) ?_
      refine zlBool (d := 47) (op := (.strO .eql (.tmp 46) (.const (.string ⟨#[]⟩)))) (g := (some (44, true))) (j := 17) (decide (z42.Data = ([] : List UInt8))) rfl (by kernel_rfl) (by kernel_rfl) (by kernel_rfl) (fun hc => ?_) (fun hc => ?_)
      · replace hS := cond_t hc hS
        refine zlRun (n := 15) (j := 32) rfl (by kernel_rfl) ?_
        refine zlEnd (by kernel_rfl) ?_
        refine zkSeq ?_
        refine zrCondT (by kernel_rfl) ?_
        refine zrSeq ?_
        refine zrReg ?_
        refine zlRun (n := 1) (j := 1) rfl (by kernel_rfl) ?_
        refine zlEnd (by kernel_rfl) ?_
        refine zkSeq ?_
        refine zrRet ?_
        refine zkBlkR ?_
        refine zkSeqR ?_
        refine zkNil ?_
        exact endQ hS hQ (finL_x (by intro h; cases h) (by show _ = _ ∧ _ = _; exact ⟨rfl, by kernel_rfl⟩))
      · replace hS := cond_f hc hS
        refine zlRun (n := 2) (j := 19) rfl (by kernel_rfl) ?_
        refine zlBool (d := 50) (op := (.cmpI .gtr (.tmp 49) (.const (.int .i64 0)))) (g := (some (48, false))) (j := 20) (decide (0 < p2076)) rfl (by kernel_rfl) (by kernel_rfl) (by kernel_rfl) (fun hc => ?_) (fun hc => ?_)
        · replace hS := cond_t hc hS
          refine zlRun (n := 4) (j := 24) rfl (by kernel_rfl) ?_
          refine bindE hS (fun m45 hm45 hS => ?_)
          refine zlOp (d := some 55) (op := (.ixS 31 4 (.tmp 52) (.tmp 54))) (g := (some (51, true))) (v := (.r (.ptr 112 0 ((0 + m45) * 4)))) (ups := []) (j := 25) rfl (by kernel_rfl) (by kernel_rfl) (ev_ixM (kk := .i64) (b := 112) (g := 0) (l := 0) (n := p2074.length) (j := (IntKind.i64.wrap (p2076 - 1))) (cs := e_GTok.cells p2074) (by kernel_rfl) (by kernel_rfl) (by kernel_rfl) hm45) ?_
          refine zlRun (n := 1) (j := 26) rfl (by kernel_rfl) ?_
          refine bindE hS (fun z46 hz46 hS => ?_)
          refine zlOp (d := some 57) (op := (.load .false 1 (.tmp 56))) (g := (some (51, true))) (v := (.d (.int .i64 z46.Kind))) (ups := []) (j := 27) rfl (by kernel_rfl) (by kernel_rfl) (ev_loadM e_GTok (b := 112) (g := 0) (o := (0 + m45) * 4 + 0) (e := 31) (k := 4) (m := m45) (fo := 0) (xs := p2074) (by kernel_rfl) (by kernel_rfl) (by rw [Nat.zero_add]; rfl) hz46 (by kernel_rfl) (by kernel_rfl) (by kernel_rfl)) ?_
          refine zlBool (d := 58) (op := (.cmpI .eql (.tmp 57) (.const (.int .i64 1)))) (g := (some (51, true))) (j := 28) (decide (z46.Kind = 1)) rfl (by kernel_rfl) (by kernel_rfl) (by kernel_rfl) (fun hc => ?_) (fun hc => ?_)
          · replace hS := cond_t hc hS
            refine zlRun (n := 4) (j := 32) rfl (by kernel_rfl) ?_
            refine zlEnd (by kernel_rfl) ?_
            refine zkSeq ?_
            refine zrCondT (by kernel_rfl) ?_
            refine zrSeq ?_
            refine zrReg ?_
            refine zlRun (n := 1) (j := 1) rfl (by kernel_rfl) ?_
            refine zlEnd (by kernel_rfl) ?_
            refine zkSeq ?_
            refine zrRet ?_
            refine zkBlkR ?_
            refine zkSeqR ?_
            refine zkNil ?_
            exact endQ hS hQ (finL_x (by intro h; cases h) (by show _ = _ ∧ _ = _; exact ⟨rfl, by kernel_rfl⟩))
          · replace hS := cond_f hc hS
            refine zlRun (n := 4) (j := 32) rfl (by kernel_rfl) ?_
            refine zlEnd (by kernel_rfl) ?_
            refine zkSeq ?_
            refine zrCondF (by kernel_rfl) ?_
            refine zrSkip ?_
            refine zkBlk ?_
            refine zkSeq ?_
            refine zrReg ?_
            refine zlRun (n := 2) (j := 2) rfl (by kernel_rfl) ?_
            refine zlEnd (by kernel_rfl) ?_
            refine zkNil ?_
            exact endQ hS hQ (finL_n (by show keepSt _ _ _ _ = _; kernel_rfl))
        · replace hS := cond_f hc hS
          refine zlRun (n := 12) (j := 32) rfl (by kernel_rfl) ?_
          refine zlEnd (by kernel_rfl) ?_
          refine zkSeq ?_
          refine zrCondF (by kernel_rfl) ?_
          refine zrSkip ?_
          refine zkBlk ?_
          refine zkSeq ?_
          refine zrReg ?_
          refine zlRun (n := 2) (j := 2) rfl (by kernel_rfl) ?_
          refine zlEnd (by kernel_rfl) ?_
          refine zkNil ?_
          exact endQ hS hQ (finL_n (by show keepSt _ _ _ _ = _; kernel_rfl))
    · replace hS := cond_f hc hS
      refine zlRun (n := 19) (j := 32) rfl (by kernel_rfl) ?_
      refine zlEnd (by kernel_rfl) ?_
      refine zkSeq ?_
      refine zrCondF (by kernel_rfl) ?_
      refine zrSkip ?_
      refine zkBlk ?_
      refine zkSeq ?_
      refine zrReg ?_
      refine zlRun (n := 2) (j := 2) rfl (by kernel_rfl) ?_
      refine zlEnd (by kernel_rfl) ?_
      refine zkNil ?_
      exact endQ hS hQ (finL_n (by show keepSt _ _ _ _ = _; kernel_rfl))
def f4_l2_j3_J (a1 : GWire) (a2 : List UInt8) (p2068 : GWire) (p2069 : List GTok) (p2070 : Int) (p2071 : Int) (p2072 : Bool) : St := ⟨(up (up (up (up (up (up (fun _ => .un) 27 (.d (.bool p2072))) 26 (.d (.int .i64 p2071))) 25 (.d (.int .i64 p2070))) 24 (.r (.msl 112 0 0 p2069.length))) 6 (.r (.msl 112 0 0 p2069.length))) 5 (.r (.ptr 48 0 0))), (up (up (hB fun _ => 0) 112 ⟨0, some (.own 31 4 (e_GTok.cells p2069))⟩) 48 ⟨0, some (.box ((.d (.int .i64 p2068.Mode)) :: ((.d (.int .i64 p2068.Cmd)) :: ((.d (.int .i64 p2068.Opt)) :: ((.d (.str p2068.Buf)) :: ((.d (.bool p2068.Over)) :: []))))))⟩)⟩
noncomputable def f4_l2_j3 (a1 : GWire) (a2 : List UInt8) (p2068 : GWire) (p2069 : List GTok) (p2070 : Int) (p2071 : Int) (p2072 : Bool) : Option ((GWire × (List GTok) × Int × Int) ⊕ ((GWire × (List GTok)) ⊕ Bool)) := (bif p2072 then (f4_l2_j4 a1 a2 p2068 p2069 p2070 p2071) else (some (.inr (.inl (p2068, p2069)))))
theorem f4_l2_j3_ok {d : Nat} (hd : 7 ≤ d) (a1 : GWire) (a2 : List UInt8) {r : (GWire × (List GTok) × Int × Int) ⊕ ((GWire × (List GTok)) ⊕ Bool)} {Q : PX → St → Prop} (hQ : ∀ e st', finL (f4_l2_H a1 a2) (f4_l2_X a1 a2) r e st' → Q e st') (p2068 : GWire) (p2069 : List GTok) (p2070 : Int) (p2071 : Int) (p2072 : Bool) (hS : f4_l2_j3 a1 a2 p2068 p2069 p2070 p2071 p2072 = some r) {st : St} (he : keepSt [5, 6, 24, 25, 26, 27] [(48, .id 48), (112, .id 112)] [] st = f4_l2_j3_J a1 a2 p2068 p2069 p2070 p2071 p2072) : ZR (lev codes baseL (d - 1)) Q c4_3 [] st := by
  refine zrKeep he ?_
  unfold f4_l2_j3 at hS
  refine zrSeq ?_
  refine zrSplit 27 p2072 (by kernel_rfl) (fun hc => ?_) (fun hc => ?_)
  · replace hS := cond_t hc hS
    refine zrCondT (by kernel_rfl) ?_
    refine zrSkip ?_
    refine zkSeq ?_
    exact f4_l2_j4_ok hd a1 a2 hQ p2068 p2069 p2070 p2071 hS (by kernel_rfl)
  · replace hS := cond_f hc hS
    refine zrCondF (by kernel_rfl) ?_
    refine zrKeep (J := f4_l2_e0_J a1 a2 p2068 p2069) (by kernel_rfl) ?_
    refine zrExit ?_
    refine zkSeqX ?_
    refine zkNil ?_
    exact endQ hS hQ (finL_x (by intro h; cases h) (by show _ = _ ∧ _ = _; exact ⟨rfl, rfl⟩))
noncomputable def f4_l2 (a1 : GWire) (a2 : List UInt8) (x : GWire × (List GTok) × Int × Int) : Option ((GWire × (List GTok) × Int × Int) ⊕ ((GWire × (List GTok)) ⊕ Bool)) := (bif (decide (x.2.2.2 < x.2.2.1)) then (f4_l2_j3 a1 a2 x.1 x.2.1 x.2.2.1 x.2.2.2 true) else (f4_l2_j3 a1 a2 x.1 x.2.1 x.2.2.1 x.2.2.2 false))
theorem f4_l2_ok {d : Nat} (hd : 7 ≤ d) (a1 : GWire) (a2 : List UInt8) {r : (GWire × (List GTok) × Int × Int) ⊕ ((GWire × (List GTok)) ⊕ Bool)} {Q : PX → St → Prop} (hQ : ∀ e st', finL (f4_l2_H a1 a2) (f4_l2_X a1 a2) r e st' → Q e st') {x : GWire × (List GTok) × Int × Int} (hS : f4_l2 a1 a2 x = some r) {st : St} (he : f4_l2_H a1 a2 x st) : ZR (lev codes baseL (d - 1)) Q c4_4 [] st := by
  refine zrKeep he ?_
  unfold f4_l2 at hS
  refine zrSeq ?_
  refine zrReg ?_
  refine zlBool (d := 27) (op := (.cmpI .lss (.tmp 26) (.tmp 25))) (g := none) (j := 1) (decide (x.2.2.2 < x.2.2.1)) rfl (by kernel_rfl) (by kernel_rfl) (by kernel_rfl) (fun hc => ?_) (fun hc => ?_)
  · replace hS := cond_t hc hS
    refine zlEnd (by kernel_rfl) ?_
    refine zkSeq ?_
    exact f4_l2_j3_ok hd a1 a2 hQ x.1 x.2.1 x.2.2.1 x.2.2.2 true hS (by kernel_rfl)
  · replace hS := cond_f hc hS
    refine zlEnd (by kernel_rfl) ?_
    refine zkSeq ?_
    exact f4_l2_j3_ok hd a1 a2 hQ x.1 x.2.1 x.2.2.1 x.2.2.2 false hS (by kernel_rfl)
def f4_j0_J (a1 : GWire) (a2 : List UInt8) (p1036 : GWire) (p1037 : List GTok) : St := ⟨(up (up (fun _ => .un) 6 (.r (.msl 112 0 0 p1037.length))) 5 (.r (.ptr 48 0 0))), (up (up (hB fun _ => 0) 112 ⟨0, some (.own 31 4 (e_GTok.cells p1037))⟩) 48 ⟨0, some (.box ((.d (.int .i64 p1036.Mode)) :: ((.d (.int .i64 p1036.Cmd)) :: ((.d (.int .i64 p1036.Opt)) :: ((.d (.str p1036.Buf)) :: ((.d (.bool p1036.Over)) :: []))))))⟩)⟩
noncomputable def f4_j0 (a1 : GWire) (a2 : List UInt8) (p1036 : GWire) (p1037 : List GTok) : Option (Bool) := ((loopO (f4_l2 a1 a2) (p1036, p1037, (p1037.length : Int), 0)).bind fun z47 => (Sum.elim (fun z48 => (f4_j1 a1 a2 z48.1 z48.2)) (fun z49 => (some z49)) z47))
theorem f4_j0_ok {d : Nat} (hd : 7 ≤ d) (a1 : GWire) (a2 : List UInt8) {r : Bool} {Q : PX → St → Prop} (hQ : ∀ e st', f4_Q r e st' → Q e st') (p1036 : GWire) (p1037 : List GTok) (hS : f4_j0 a1 a2 p1036 p1037 = some r) {st : St} (he : keepSt [5, 6] [(48, .id 48), (112, .id 112)] [] st = f4_j0_J a1 a2 p1036 p1037) : ZR (lev codes baseL (d - 1)) Q c4_5 [] st := by
  refine zrKeep he ?_
  unfold f4_j0 at hS
  refine zrSeq ?_
  refine zrSeq ?_
  refine zrReg ?_
  refine zlRun (n := 3) (j := 3) rfl (by kernel_rfl) ?_
  refine zlEnd (by kernel_rfl) ?_
  refine zkSeq ?_
  refine zrBlk ?_
  refine bindE hS (fun z47 hz47 hS => ?_)
  refine zrLoop (f4_l2_H a1 a2) (f4_l2_X a1 a2) (fun x st r Q h0 hS hQ => f4_l2_ok hd a1 a2 hQ hS h0) (x := (p1036, p1037, (p1037.length : Int), 0)) (z := z47) (by show keepSt _ _ _ _ = _; kernel_rfl) hz47 ?_
  rcases z47 with z48 | z49
  · replace hS := (show _ = _ from hS)
    simp only [Sum.elim_inl] at hS
    intro e st' _ hX
    obtain ⟨rfl, rfl⟩ : _ ∧ _ := hX
    refine zkBlkX ?_
    refine zkSeq ?_
    exact f4_j1_ok hd a1 a2 hQ z48.1 z48.2 hS (by kernel_rfl)
  · simp only [Sum.elim_inr] at hS
    intro e st' _ hX
    obtain ⟨rfl, hX⟩ : _ ∧ _ := hX
    refine zkBlkR ?_
    refine zkSeqR ?_
    refine zkNil ?_
    exact endQ hS hQ (fRet ((congrArg (fun s => outR s 0 c4.res) hX).trans (f4_out z49)))
noncomputable def f4 (a1 : GWire) (a2 : List UInt8) : Option (Bool) := ((f8 a1 a2).bind fun z21 => (f10.bind fun z50 => (bif (!z50) then (f10.bind fun z51 => (some z51)) else (bif (!decide (z21.2.2 = 0)) then (f10.bind fun z52 => (some z52)) else (f4_j0 a1 a2 z21.1 z21.2.1)))))
theorem f4_ok (d : Nat) (hd : 7 ≤ d) (a1 : GWire) (a2 : List UInt8) (r : Bool) (hS : f4 a1 a2 = some r) : lev codes baseL d 4 [(.agg ((.d (.int .i64 a1.Mode)) :: ((.d (.int .i64 a1.Cmd)) :: ((.d (.int .i64 a1.Opt)) :: ((.d (.str a1.Buf)) :: ((.d (.bool a1.Over)) :: [])))))), (.d (.str a2))] [] = some ((.d (.bool r)), []) := by
  refine lev_go codes4 rfl rfl (Nat.le_trans (Nat.le_of_ble_eq_true rfl) hd) fun Q hQ => ?_
  unfold f4 at hS
  show ZR _ Q c4_b [] _
  replace hQ : ∀ e st', f4_Q r e st' → Q e st' := hQ
  refine zrSeq ?_
  refine zrReg ?_
  refine zlRun (n := 2) (j := 2) rfl (by kernel_rfl) ?_
  refine zlEnd (by kernel_rfl) ?_
  refine zkSeq ?_
  refine zrSeq ?_
  refine zrReg ?_
  refine zlRun (n := 2) (j := 2) rfl (by kernel_rfl) ?_
  refine bindE hS (fun z21 hz21 hS => ?_)
  refine zlOp (d := some 13) (op := (.call 8 [(.tmp 11), (.tmp 12)])) (g := none) (v := (.tup [(.agg ((.d (.int .i64 z21.1.Mode)) :: ((.d (.int .i64 z21.1.Cmd)) :: ((.d (.int .i64 z21.1.Opt)) :: ((.d (.str z21.1.Buf)) :: ((.d (.bool z21.1.Over)) :: [])))))), (.r (.msl 112 1 0 z21.2.1.length)), (.d (.int .i64 z21.2.2))])) (ups := [(112, ⟨1, some (.own 31 4 (e_GTok.cells z21.2.1))⟩)]) (j := 3) rfl (by kernel_rfl) (by kernel_rfl) (ev_call (args := [(.agg ((.d (.int .i64 a1.Mode)) :: ((.d (.int .i64 a1.Cmd)) :: ((.d (.int .i64 a1.Opt)) :: ((.d (.str a1.Buf)) :: ((.d (.bool a1.Over)) :: [])))))), (.d (.str a2))]) (l := [(.agg ((.d (.int .i64 a1.Mode)) :: ((.d (.int .i64 a1.Cmd)) :: ((.d (.int .i64 a1.Opt)) :: ((.d (.str a1.Buf)) :: ((.d (.bool a1.Over)) :: [])))))), (.d (.str a2))]) (r := (.tup [(.agg ((.d (.int .i64 z21.1.Mode)) :: ((.d (.int .i64 z21.1.Cmd)) :: ((.d (.int .i64 z21.1.Opt)) :: ((.d (.str z21.1.Buf)) :: ((.d (.bool z21.1.Over)) :: [])))))), (.r (.own 0 31 4 z21.2.1.length (e_GTok.cells z21.2.1))), (.d (.int .i64 z21.2.2))])) (by kernel_rfl) (by kernel_rfl) (f8_ok (d - 1) (dpt hd rfl) a1 a2 z21 hz21) (by kernel_rfl) (by kernel_rfl) (by kernel_rfl)) ?_
  refine zlRun (n := 8) (j := 11) rfl (by kernel_rfl) ?_
  refine zlEnd (by kernel_rfl) ?_
  refine zkSeq ?_
  refine zrSeq ?_
  refine zrSeq ?_
  refine zrReg ?_
  refine bindE hS (fun z50 hz50 hS => ?_)
  refine zlOp (d := some 17) (op := (.call 10 [])) (g := none) (v := (.d (.bool z50))) (ups := []) (j := 1) rfl (by kernel_rfl) (by kernel_rfl) (ev_call (args := []) (l := []) (r := (.d (.bool z50))) (by kernel_rfl) (by kernel_rfl) (f10_ok (d - 1) (dpt hd rfl)  z50 hz50) (by kernel_rfl) (by kernel_rfl) (by kernel_rfl)) ?_
  refine zlRun (n := 2) (j := 3) rfl (by kernel_rfl) ?_
  refine zlSplit 19 (!z50) (by kernel_rfl) (fun hc => ?_) (fun hc => ?_)
  · replace hS := cond_t hc hS
    refine zlRun (n := 3) (j := 6) rfl (by kernel_rfl) ?_
    refine zlEnd (by kernel_rfl) ?_
    refine zkSeq ?_
    refine zrCondT (by kernel_rfl) ?_
    refine zrSeq ?_
    refine zrReg ?_
    refine bindE hS (fun z51 hz51 hS => ?_)
    refine zlOp (d := some 23) (op := (.call 10 [])) (g := none) (v := (.d (.bool z51))) (ups := []) (j := 1) rfl (by kernel_rfl) (by kernel_rfl) (ev_call (args := []) (l := []) (r := (.d (.bool z51))) (by kernel_rfl) (by kernel_rfl) (f10_ok (d - 1) (dpt hd rfl)  z51 hz51) (by kernel_rfl) (by kernel_rfl) (by kernel_rfl)) ?_
    refine zlRun (n := 1) (j := 2) rfl (by kernel_rfl) ?_
    refine zlEnd (by kernel_rfl) ?_
    refine zkSeq ?_
    refine zrRet ?_
    refine zkSeqR ?_
    refine zkNil ?_
    exact endQ hS hQ (fRet ((congrArg (fun s => outR s 0 c4.res) (by kernel_rfl : finSt c4.fin _ = f4_fin z51)).trans (f4_out z51)))
  · replace hS := cond_f hc hS
    refine zlRun (n := 1) (j := 4) rfl (by kernel_rfl) ?_
    refine zlBool (d := 21) (op := (.cmpI .neq (.tmp 20) (.const (.int .i64 0)))) (g := (some (19, false))) (j := 5) (!decide (z21.2.2 = 0)) rfl (by kernel_rfl) (by kernel_rfl) (by kernel_rfl) (fun hc => ?_) (fun hc => ?_)
    · replace hS := cond_t hc hS
      refine zlRun (n := 1) (j := 6) rfl (by kernel_rfl) ?_
      refine zlEnd (by kernel_rfl) ?_
      refine zkSeq ?_
      refine zrCondT (by kernel_rfl) ?_
      refine zrSeq ?_
      refine zrReg ?_
      refine bindE hS (fun z52 hz52 hS => ?_)
      refine zlOp (d := some 23) (op := (.call 10 [])) (g := none) (v := (.d (.bool z52))) (ups := []) (j := 1) rfl (by kernel_rfl) (by kernel_rfl) (ev_call (args := []) (l := []) (r := (.d (.bool z52))) (by kernel_rfl) (by kernel_rfl) (f10_ok (d - 1) (dpt hd rfl)  z52 hz52) (by kernel_rfl) (by kernel_rfl) (by kernel_rfl)) ?_
      refine zlRun (n := 1) (j := 2) rfl (by kernel_rfl) ?_
      refine zlEnd (by kernel_rfl) ?_
      refine zkSeq ?_
      refine zrRet ?_
      refine zkSeqR ?_
      refine zkNil ?_
      exact endQ hS hQ (fRet ((congrArg (fun s => outR s 0 c4.res) (by kernel_rfl : finSt c4.fin _ = f4_fin z52)).trans (f4_out z52)))
    · replace hS := cond_f hc hS
      refine zlRun (n := 1) (j := 6) rfl (by kernel_rfl) ?_
      refine zlEnd (by kernel_rfl) ?_
      refine zkSeq ?_
      refine zrCondF (by kernel_rfl) ?_
      refine zrSkip ?_
      refine zkSeq ?_
      exact f4_j0_ok hd a1 a2 hQ z21.1 z21.2.1 hS (by kernel_rfl)
/- farwriter/iac.Write -/
def f14_fin (p29 : List UInt8) (p30 : Int) : St := ⟨(up (up (fun _ => .un) 3 (.d (.int .i64 p30))) 2 (.d (.str p29))), (hB fun _ => 0)⟩
theorem f14_out (p29 : List UInt8) (p30 : Int) : outR (f14_fin p29 p30) 0 c14.res = some ((.tup [(.d (.str p29)), (.d (.int .i64 p30))]), []) := by
  kernel_rfl
def f14_Q (r : (List UInt8) × Int) (e : PX) (st : St) : Prop := DoneF c14 0 ((.tup [(.d (.str r.1)), (.d (.int .i64 r.2))]), []) e st
def f14_j5_J (a1 : GTok) : St := ⟨(up (fun _ => .un) 1 (.r (.ptr 16 0 0))), (up (hB fun _ => 0) 16 ⟨0, some (.box ((.d (.int .i64 a1.Kind)) :: ((.d (.int .i64 a1.Cmd)) :: ((.d (.int .i64 a1.Opt)) :: ((.d (.str a1.Data)) :: [])))))⟩)⟩
noncomputable def f14_j5 (a1 : GTok) : Option ((List UInt8) × Int) := ((f9 a1.Data).bind fun z5 => ((cat? ([255, 250, (u8 a1.Opt)] : List UInt8) z5).bind fun z6 => ((cat? z6 ([255, 240] : List UInt8)).bind fun z7 => (some (z7, 0)))))
theorem f14_j5_ok {d : Nat} (hd : 2 ≤ d) (a1 : GTok) {r : (List UInt8) × Int} {Q : PX → St → Prop} (hQ : ∀ e st', f14_Q r e st' → Q e st')  (hS : f14_j5 a1 = some r) {st : St} (he : keepSt [1] [(16, .id 16)] [] st = f14_j5_J a1) : ZR (lev codes baseL (d - 1)) Q c14_1 [.blk 0, .seq c14_2] st := by
  refine zrKeep he ?_
  unfold f14_j5 at hS
  refine zrSeq ?_
  refine zrRegD ?_
  refine zdRun (n := 2) (j := 2) (ts := [[], [(16, false)]]) (acc' := [[], [(16, false)]]) rfl (by kernel_rfl) (by kernel_rfl) (by kernel_rfl) ?_
  refine zdOp (d := some 107) (op := (.cvI .u8 (.tmp 106))) (g := none) (v := (.d (.int .u8 ((u8 a1.Opt).toNat : Int)))) (ups := []) (j := 3) (t1 := []) (acc' := [[], [(16, false)], []]) (by kernel_rfl) (by kernel_rfl) rfl (by kernel_rfl) (by kernel_rfl) (ev_cv (kk := .i64) (a := a1.Opt) (by kernel_rfl) (u8_wrap _)) ?_
  refine zdRun (n := 1) (j := 4) (ts := [[(872, true)]]) (acc' := [[], [(16, false)], [], [(872, true)]]) rfl (by kernel_rfl) (by kernel_rfl) (by kernel_rfl) ?_
  refine zdOp (d := some 109) (op := (.cvBS (.tmp 108))) (g := none) (v := (.d (.str ([255, 250, (u8 a1.Opt)] : List UInt8)))) (ups := []) (j := 5) (t1 := [(872, false)]) (acc' := [[], [(16, false)], [], [(872, true)], [(872, false)]]) (by kernel_rfl) (by kernel_rfl) rfl (by kernel_rfl) (by kernel_rfl) (ev_cvBS (s := [255, 250, (u8 a1.Opt)]) ((congrArg (asL _) (by kernel_rfl : ρof _ (.tmp 108) = (.r (.msl 872 1 0 (([255, 250, (u8 a1.Opt)] : List UInt8).length))))).trans (as_whole eU8 (e := 5) (k := 1) (xs := [255, 250, (u8 a1.Opt)]) (by kernel_rfl) rfl rfl)) rfl) ?_
  refine zdRun (n := 2) (j := 7) (ts := [[], [(16, false)]]) (acc' := [[], [(16, false)], [], [(872, true)], [(872, false)], [], [(16, false)]]) rfl (by kernel_rfl) (by kernel_rfl) (by kernel_rfl) ?_
  refine bindE hS (fun z5 hz5 hS => ?_)
  refine zdOp (d := some 112) (op := (.call 9 [(.tmp 111)])) (g := none) (v := (.d (.str z5))) (ups := []) (j := 8) (t1 := [(904, true), (905, true), (906, true), (907, true), (908, true), (909, true), (910, true), (911, true)]) (acc' := [[], [(16, false)], [], [(872, true)], [(872, false)], [], [(16, false)], [(904, true), (905, true), (906, true), (907, true), (908, true), (909, true), (910, true), (911, true)]]) (by kernel_rfl) (by kernel_rfl) rfl (by kernel_rfl) (by kernel_rfl) (ev_call (args := [(.d (.str a1.Data))]) (l := [(.d (.str a1.Data))]) (r := (.d (.str z5))) (by kernel_rfl) (by kernel_rfl) (f9_ok (d - 1) (dpt hd rfl) a1.Data z5 hz5) (by kernel_rfl) (by kernel_rfl) (by kernel_rfl)) ?_
  refine bindE hS (fun z6 hz6 hS => ?_)
  refine zdOp (d := some 113) (op := (.strO .add (.tmp 109) (.tmp 112))) (g := none) (v := (.d (.str z6))) (ups := []) (j := 9) (t1 := []) (acc' := [[], [(16, false)], [], [(872, true)], [(872, false)], [], [(16, false)], [(904, true), (905, true), (906, true), (907, true), (908, true), (909, true), (910, true), (911, true)], []]) (by kernel_rfl) (by kernel_rfl) rfl (by kernel_rfl) (by kernel_rfl) (ev_cat (a := ([255, 250, (u8 a1.Opt)] : List UInt8)) (c := z5) (by kernel_rfl) (by kernel_rfl) hz6) ?_
  refine bindE hS (fun z7 hz7 hS => ?_)
  refine zdOp (d := some 114) (op := (.strO .add (.tmp 113) (.const (.string ⟨#[255, 240]⟩)))) (g := none) (v := (.d (.str z7))) (ups := []) (j := 10) (t1 := []) (acc' := [[], [(16, false)], [], [(872, true)], [(872, false)], [], [(16, false)], [(904, true), (905, true), (906, true), (907, true), (908, true), (909, true), (910, true), (911, true)], [], []]) (by kernel_rfl) (by kernel_rfl) rfl (by kernel_rfl) (by kernel_rfl) (ev_cat (a := z6) (c := [255, 240]) (by kernel_rfl) (by kernel_rfl) hz7) ?_
  refine zdRun (n := 2) (j := 12) (ts := [[], []]) (acc' := [[], [(16, false)], [], [(872, true)], [(872, false)], [], [(16, false)], [(904, true), (905, true), (906, true), (907, true), (908, true), (909, true), (910, true), (911, true)], [], [], [], []]) rfl (by kernel_rfl) (by kernel_rfl) (by kernel_rfl) ?_
  refine zdEnd (by kernel_rfl) (by kernel_rfl) ?_
  refine zkSeq ?_
  refine zrRet ?_
  refine zkBlkR ?_
  refine zkSeqR ?_
  refine zkNil ?_
  exact endQ hS hQ (fRet ((congrArg (fun s => outR s 0 c14.res) (by kernel_rfl : finSt c14.fin _ = f14_fin z7 0)).trans (f14_out z7 0)))
def f14_j4_J (a1 : GTok) (p47 : Bool) : St := ⟨(up (up (fun _ => .un) 89 (.d (.bool p47))) 1 (.r (.ptr 16 0 0))), (up (hB fun _ => 0) 16 ⟨0, some (.box ((.d (.int .i64 a1.Kind)) :: ((.d (.int .i64 a1.Cmd)) :: ((.d (.int .i64 a1.Opt)) :: ((.d (.str a1.Data)) :: [])))))⟩)⟩
noncomputable def f14_j4 (a1 : GTok) (p47 : Bool) : Option ((List UInt8) × Int) := (bif p47 then (bif (decide (4096 < (a1.Data.length : Int))) then (some ([], 2)) else (f14_j5 a1 )) else (some ([], 1)))
theorem f14_j4_ok {d : Nat} (hd : 2 ≤ d) (a1 : GTok) {r : (List UInt8) × Int} {Q : PX → St → Prop} (hQ : ∀ e st', f14_Q r e st' → Q e st') (p47 : Bool) (hS : f14_j4 a1 p47 = some r) {st : St} (he : keepSt [1, 89] [(16, .id 16)] [] st = f14_j4_J a1 p47) : ZR (lev codes baseL (d - 1)) Q c14_3 [.blk 0, .seq c14_2] st := by
  refine zrKeep he ?_
  unfold f14_j4 at hS
  refine zrSplit 89 p47 (by kernel_rfl) (fun hc => ?_) (fun hc => ?_)
  · replace hS := cond_t hc hS
    refine zrCondT (by kernel_rfl) ?_
    refine zrSeq ?_
    refine zrSeq ?_
    refine zrReg ?_
    refine zlRun (n := 3) (j := 3) rfl (by kernel_rfl) ?_
    refine zlBool (d := 104) (op := (.cmpI .gtr (.tmp 103) (.const (.int .i64 4096)))) (g := none) (j := 4) (decide (4096 < (a1.Data.length : Int))) rfl (by kernel_rfl) (by kernel_rfl) (by kernel_rfl) (fun hc => ?_) (fun hc => ?_)
    · replace hS := cond_t hc hS
      refine zlEnd (by kernel_rfl) ?_
      refine zkSeq ?_
      refine zrCondT (by kernel_rfl) ?_
      refine zrSeq ?_
      refine zrReg ?_
      refine zlRun (n := 2) (j := 2) rfl (by kernel_rfl) ?_
      refine zlEnd (by kernel_rfl) ?_
      refine zkSeq ?_
      refine zrRet ?_
      refine zkSeqR ?_
      refine zkBlkR ?_
      refine zkSeqR ?_
      refine zkNil ?_
      exact endQ hS hQ (fRet ((congrArg (fun s => outR s 0 c14.res) (by kernel_rfl : finSt c14.fin _ = f14_fin [] 2)).trans (f14_out [] 2)))
    · replace hS := cond_f hc hS
      refine zlEnd (by kernel_rfl) ?_
      refine zkSeq ?_
      refine zrCondF (by kernel_rfl) ?_
      refine zrSkip ?_
      refine zkSeq ?_
      exact f14_j5_ok hd a1 hQ  hS (by kernel_rfl)
  · replace hS := cond_f hc hS
    refine zrCondF (by kernel_rfl) ?_
    refine zrSkip ?_
    refine zkBlk ?_
    refine zkSeq ?_
    refine zrSeq ?_
    refine zrReg ?_
    refine zlRun (n := 2) (j := 2) rfl (by kernel_rfl) ?_
    refine zlEnd (by kernel_rfl) ?_
    refine zkSeq ?_
    refine zrRet ?_
    refine zkNil ?_
    exact endQ hS hQ (fRet ((congrArg (fun s => outR s 0 c14.res) (by kernel_rfl : finSt c14.fin _ = f14_fin [] 1)).trans (f14_out [] 1)))
def f14_j3_J (a1 : GTok) (p44 : Bool) : St := ⟨(up (up (fun _ => .un) 5 (.d (.bool p44))) 1 (.r (.ptr 16 0 0))), (up (hB fun _ => 0) 16 ⟨0, some (.box ((.d (.int .i64 a1.Kind)) :: ((.d (.int .i64 a1.Cmd)) :: ((.d (.int .i64 a1.Opt)) :: ((.d (.str a1.Data)) :: [])))))⟩)⟩
noncomputable def f14_j3 (a1 : GTok) (p44 : Bool) : Option ((List UInt8) × Int) := (bif (decide (a1.Kind = 4)) then (bif (decide (a1.Cmd = 0)) then (f14_j4 a1 p44) else (f14_j4 a1 false)) else (f14_j4 a1 false))
theorem f14_j3_ok {d : Nat} (hd : 2 ≤ d) (a1 : GTok) {r : (List UInt8) × Int} {Q : PX → St → Prop} (hQ : ∀ e st', f14_Q r e st' → Q e st') (p44 : Bool) (hS : f14_j3 a1 p44 = some r) {st : St} (he : keepSt [1, 5] [(16, .id 16)] [] st = f14_j3_J a1 p44) : ZR (lev codes baseL (d - 1)) Q c14_4 [.blk 0, .seq c14_2] st := by
  refine zrKeep he ?_
  unfold f14_j3 at hS
  refine zrSeq ?_
  refine zrReg ?_
  refine zlRun (n := 2) (j := 2) rfl (by kernel_rfl) ?_
  refine zlBool (d := 92) (op := (.cmpI .eql (.tmp 91) (.const (.int .i64 4)))) (g := none) (j := 3) (decide (a1.Kind = 4)) rfl (by kernel_rfl) (by kernel_rfl) (by kernel_rfl) (fun hc => ?_) (fun hc => ?_)
  · replace hS := cond_t hc hS
    refine zlRun (n := 3) (j := 6) rfl (by kernel_rfl) ?_
    refine zlBool (d := 96) (op := (.cmpI .eql (.tmp 95) (.const (.int .i64 0)))) (g := (some (93, true))) (j := 7) (decide (a1.Cmd = 0)) rfl (by kernel_rfl) (by kernel_rfl) (by kernel_rfl) (fun hc => ?_) (fun hc => ?_)
    · replace hS := cond_t hc hS
      refine zlRun (n := 5) (j := 12) rfl (by kernel_rfl) ?_
      refine zlEnd (by kernel_rfl) ?_
      refine zkSeq ?_
      exact f14_j4_ok hd a1 hQ p44 hS (by kernel_rfl)
    · replace hS := cond_f hc hS
      refine zlRun (n := 5) (j := 12) rfl (by kernel_rfl) ?_
      refine zlEnd (by kernel_rfl) ?_
      refine zkSeq ?_
      exact f14_j4_ok hd a1 hQ false hS (by kernel_rfl)
  · replace hS := cond_f hc hS
    refine zlRun (n := 9) (j := 12) rfl (by kernel_rfl) ?_
    refine zlEnd (by kernel_rfl) ?_
    refine zkSeq ?_
    exact f14_j4_ok hd a1 hQ false hS (by kernel_rfl)
def f14_j2_J (a1 : GTok) (p39 : Bool) : St := ⟨(up (up (fun _ => .un) 5 (.d (.bool p39))) 1 (.r (.ptr 16 0 0))), (up (hB fun _ => 0) 16 ⟨0, some (.box ((.d (.int .i64 a1.Kind)) :: ((.d (.int .i64 a1.Cmd)) :: ((.d (.int .i64 a1.Opt)) :: ((.d (.str a1.Data)) :: [])))))⟩)⟩
noncomputable def f14_j2 (a1 : GTok) (p39 : Bool) : Option ((List UInt8) × Int) := (bif (decide (a1.Kind = 3)) then (bif (decide (251 ≤ a1.Cmd)) then (bif (decide (a1.Cmd ≤ 254)) then (bif p39 then (bif (decide (a1.Data = ([] : List UInt8))) then (some (([255, (u8 a1.Cmd), (u8 a1.Opt)] : List UInt8), 0)) else (f14_j3 a1 p39)) else (f14_j3 a1 p39)) else (f14_j3 a1 p39)) else (f14_j3 a1 p39)) else (f14_j3 a1 p39))
theorem f14_j2_ok {d : Nat} (hd : 2 ≤ d) (a1 : GTok) {r : (List UInt8) × Int} {Q : PX → St → Prop} (hQ : ∀ e st', f14_Q r e st' → Q e st') (p39 : Bool) (hS : f14_j2 a1 p39 = some r) {st : St} (he : keepSt [1, 5] [(16, .id 16)] [] st = f14_j2_J a1 p39) : ZR (lev codes baseL (d - 1)) Q c14_5 [.blk 0, .seq c14_2] st := by
  refine zrKeep he ?_
  unfold f14_j2 at hS
  refine zrSeq ?_
  refine zrReg ?_
  refine zlRun (n := 2) (j := 2) rfl (by kernel_rfl) ?_
  refine zlBool (d := 62) (op := (.cmpI .eql (.tmp 61) (.const (.int .i64 3)))) (g := none) (j := 3) (decide (a1.Kind = 3)) rfl (by kernel_rfl) (by kernel_rfl) (by kernel_rfl) (fun hc => ?_) (fun hc => ?_)
  · replace hS := cond_t hc hS
    refine zlRun (n := 3) (j := 6) rfl (by kernel_rfl) ?_
    refine zlBool (d := 66) (op := (.cmpI .geq (.tmp 65) (.const (.int .i64 251)))) (g := (some (63, true))) (j := 7) (decide (251 ≤ a1.Cmd)) rfl (by kernel_rfl) (by kernel_rfl) (by kernel_rfl) (fun hc => ?_) (fun hc => ?_)
    · replace hS := cond_t hc hS
      refine zlRun (n := 4) (j := 11) rfl (by kernel_rfl) ?_
      refine zlBool (d := 71) (op := (.cmpI .leq (.tmp 70) (.const (.int .i64 254)))) (g := (some (68, true))) (j := 12) (decide (a1.Cmd ≤ 254)) rfl (by kernel_rfl) (by kernel_rfl) (by kernel_rfl) (fun hc => ?_) (fun hc => ?_)
      · replace hS := cond_t hc hS
        refine zlRun (n := 5) (j := 17) rfl (by kernel_rfl) ?_
        refine zlSplit 76 p39 (by kernel_rfl) (fun hc => ?_) (fun hc => ?_)
        · replace hS := cond_t hc hS
          refine zlRun (n := 2) (j := 19) rfl (by kernel_rfl) ?_
          refine zlBool (d := 79) (op := (.strO .eql (.tmp 78) (.const (.string ⟨#[]⟩)))) (g := (some (76, true))) (j := 20) (decide (a1.Data = ([] : List UInt8))) rfl (by kernel_rfl) (by kernel_rfl) (by kernel_rfl) (fun hc => ?_) (fun hc => ?_)
          · replace hS := cond_t hc hS
            refine zlRun (n := 2) (j := 22) rfl (by kernel_rfl) ?_
            refine zlEnd (by kernel_rfl) ?_
            refine zkSeq ?_
            refine zrCondT (by kernel_rfl) ?_
            refine zrSeq ?_
            refine zrReg ?_
            refine zlRun (n := 2) (j := 2) rfl (by kernel_rfl) ?_
            refine zlOp (d := some 83) (op := (.cvI .u8 (.tmp 82))) (g := none) (v := (.d (.int .u8 ((u8 a1.Cmd).toNat : Int)))) (ups := []) (j := 3) rfl (by kernel_rfl) (by kernel_rfl) (ev_cv (kk := .i64) (a := a1.Cmd) (by kernel_rfl) (u8_wrap _)) ?_
            refine zlRun (n := 2) (j := 5) rfl (by kernel_rfl) ?_
            refine zlOp (d := some 86) (op := (.cvI .u8 (.tmp 85))) (g := none) (v := (.d (.int .u8 ((u8 a1.Opt).toNat : Int)))) (ups := []) (j := 6) rfl (by kernel_rfl) (by kernel_rfl) (ev_cv (kk := .i64) (a := a1.Opt) (by kernel_rfl) (u8_wrap _)) ?_
            refine zlRun (n := 1) (j := 7) rfl (by kernel_rfl) ?_
            refine zlOp (d := some 88) (op := (.cvBS (.tmp 87))) (g := none) (v := (.d (.str ([255, (u8 a1.Cmd), (u8 a1.Opt)] : List UInt8)))) (ups := []) (j := 8) rfl (by kernel_rfl) (by kernel_rfl) (ev_cvBS (s := [255, (u8 a1.Cmd), (u8 a1.Opt)]) ((congrArg (asL _) (by kernel_rfl : ρof _ (.tmp 87) = (.r (.msl 704 1 0 (([255, (u8 a1.Cmd), (u8 a1.Opt)] : List UInt8).length))))).trans (as_whole eU8 (e := 5) (k := 1) (xs := [255, (u8 a1.Cmd), (u8 a1.Opt)]) (by kernel_rfl) rfl rfl)) rfl) ?_
            refine zlRun (n := 2) (j := 10) rfl (by kernel_rfl) ?_
            refine zlEnd (by kernel_rfl) ?_
            refine zkSeq ?_
            refine zrRet ?_
            refine zkBlkR ?_
            refine zkSeqR ?_
            refine zkNil ?_
            exact endQ hS hQ (fRet ((congrArg (fun s => outR s 0 c14.res) (by kernel_rfl : finSt c14.fin _ = f14_fin ([255, (u8 a1.Cmd), (u8 a1.Opt)] : List UInt8) 0)).trans (f14_out ([255, (u8 a1.Cmd), (u8 a1.Opt)] : List UInt8) 0)))
          · replace hS := cond_f hc hS
            refine zlRun (n := 2) (j := 22) rfl (by kernel_rfl) ?_
            refine zlEnd (by kernel_rfl) ?_
            refine zkSeq ?_
            refine zrCondF (by kernel_rfl) ?_
            exact f14_j3_ok hd a1 hQ p39 hS (by kernel_rfl)
        · replace hS := cond_f hc hS
          refine zlRun (n := 5) (j := 22) rfl (by kernel_rfl) ?_
          refine zlEnd (by kernel_rfl) ?_
          refine zkSeq ?_
          refine zrCondF (by kernel_rfl) ?_
          exact f14_j3_ok hd a1 hQ p39 hS (by kernel_rfl)
      · replace hS := cond_f hc hS
        refine zlRun (n := 10) (j := 22) rfl (by kernel_rfl) ?_
        refine zlEnd (by kernel_rfl) ?_
        refine zkSeq ?_
        refine zrCondF (by kernel_rfl) ?_
        exact f14_j3_ok hd a1 hQ p39 hS (by kernel_rfl)
    · replace hS := cond_f hc hS
      refine zlRun (n := 15) (j := 22) rfl (by kernel_rfl) ?_
      refine zlEnd (by kernel_rfl) ?_
      refine zkSeq ?_
      refine zrCondF (by kernel_rfl) ?_
      exact f14_j3_ok hd a1 hQ p39 hS (by kernel_rfl)
  · replace hS := cond_f hc hS
    refine zlRun (n := 19) (j := 22) rfl (by kernel_rfl) ?_
    refine zlEnd (by kernel_rfl) ?_
    refine zkSeq ?_
    refine zrCondF (by kernel_rfl) ?_
    exact f14_j3_ok hd a1 hQ p39 hS (by kernel_rfl)
def f14_j1_J (a1 : GTok) (p36 : Bool) : St := ⟨(up (up (up (fun _ => .un) 5 (.d (.bool p36))) 4 (.r (.ptr 40 0 0))) 1 (.r (.ptr 16 0 0))), (up (up (hB fun _ => 0) 40 ⟨0, some (.box ((.d (.int .i64 a1.Kind)) :: ((.d (.int .i64 0)) :: ((.d (.int .i64 0)) :: ((.d (.str ([]))) :: [])))))⟩) 16 ⟨0, some (.box ((.d (.int .i64 a1.Kind)) :: ((.d (.int .i64 a1.Cmd)) :: ((.d (.int .i64 a1.Opt)) :: ((.d (.str a1.Data)) :: [])))))⟩)⟩
noncomputable def f14_j1 (a1 : GTok) (p36 : Bool) : Option ((List UInt8) × Int) := (bif (decide (a1.Kind = 2)) then (bif (decide (240 ≤ a1.Cmd)) then (bif (decide (a1.Cmd ≤ 249)) then (bif (decide (a1.Kind = a1.Kind) && (decide (a1.Cmd = a1.Cmd) && (decide (a1.Opt = 0) && (decide (a1.Data = ([] : List UInt8)) && true)))) then (some (([255, (u8 a1.Cmd)] : List UInt8), 0)) else (some ([], 1))) else (f14_j2 a1 p36)) else (f14_j2 a1 p36)) else (f14_j2 a1 p36))
theorem f14_j1_ok {d : Nat} (hd : 2 ≤ d) (a1 : GTok) {r : (List UInt8) × Int} {Q : PX → St → Prop} (hQ : ∀ e st', f14_Q r e st' → Q e st') (p36 : Bool) (hS : f14_j1 a1 p36 = some r) {st : St} (he : keepSt [1, 4, 5] [(16, .id 16), (40, .id 40)] [] st = f14_j1_J a1 p36) : ZR (lev codes baseL (d - 1)) Q c14_6 [.blk 0, .seq c14_2] st := by
  refine zrKeep he ?_
  unfold f14_j1 at hS
  refine zrSeq ?_
  refine zrReg ?_
  refine zlRun (n := 2) (j := 2) rfl (by kernel_rfl) ?_
  refine zlBool (d := 37) (op := (.cmpI .eql (.tmp 36) (.const (.int .i64 2)))) (g := none) (j := 3) (decide (a1.Kind = 2)) rfl (by kernel_rfl) (by kernel_rfl) (by kernel_rfl) (fun hc => ?_) (fun hc => ?_)
  · replace hS := cond_t hc hS
    refine zlRun (n := 3) (j := 6) rfl (by kernel_rfl) ?_
    refine zlBool (d := 41) (op := (.cmpI .geq (.tmp 40) (.const (.int .i64 240)))) (g := (some (38, true))) (j := 7) (decide (240 ≤ a1.Cmd)) rfl (by kernel_rfl) (by kernel_rfl) (by kernel_rfl) (fun hc => ?_) (fun hc => ?_)
    · replace hS := cond_t hc hS
      refine zlRun (n := 4) (j := 11) rfl (by kernel_rfl) ?_
      refine zlBool (d := 46) (op := (.cmpI .leq (.tmp 45) (.const (.int .i64 249)))) (g := (some (43, true))) (j := 12) (decide (a1.Cmd ≤ 249)) rfl (by kernel_rfl) (by kernel_rfl) (by kernel_rfl) (fun hc => ?_) (fun hc => ?_)
      · replace hS := cond_t hc hS
        refine zlRun (n := 2) (j := 14) rfl (by kernel_rfl) ?_
        refine zlEnd (by kernel_rfl) ?_
        refine zkSeq ?_
        refine zrCondT (by kernel_rfl) ?_
        refine zrSeq ?_
        refine zrReg ?_
        refine zlRun (n := 4) (j := 4) rfl (by kernel_rfl) ?_
        refine zlEnd (by kernel_rfl) ?_
        refine zkSeq ?_
        refine zrSeq ?_
        refine zrReg ?_
        refine zlRun (n := 2) (j := 2) rfl (by kernel_rfl) ?_
        refine zlBool (d := 53) (op := (.eqA .false [(3, .int), (1, .str)] (.tmp 51) (.tmp 52))) (g := none) (j := 3) (decide (a1.Kind = a1.Kind) && (decide (a1.Cmd = a1.Cmd) && (decide (a1.Opt = 0) && (decide (a1.Data = ([] : List UInt8)) && true)))) rfl (by kernel_rfl) (by kernel_rfl) (by kernel_rfl) (fun hc => ?_) (fun hc => ?_)
        · replace hS := cond_t hc hS
          refine zlEnd (by kernel_rfl) ?_
          refine zkSeq ?_
          refine zrCondT (by kernel_rfl) ?_
          refine zrSeq ?_
          refine zrReg ?_
          refine zlRun (n := 2) (j := 2) rfl (by kernel_rfl) ?_
          refine zlOp (d := some 56) (op := (.cvI .u8 (.tmp 55))) (g := none) (v := (.d (.int .u8 ((u8 a1.Cmd).toNat : Int)))) (ups := []) (j := 3) rfl (by kernel_rfl) (by kernel_rfl) (ev_cv (kk := .i64) (a := a1.Cmd) (by kernel_rfl) (u8_wrap _)) ?_
          refine zlRun (n := 1) (j := 4) rfl (by kernel_rfl) ?_
          refine zlOp (d := some 58) (op := (.cvBS (.tmp 57))) (g := none) (v := (.d (.str ([255, (u8 a1.Cmd)] : List UInt8)))) (ups := []) (j := 5) rfl (by kernel_rfl) (by kernel_rfl) (ev_cvBS (s := [255, (u8 a1.Cmd)]) ((congrArg (asL _) (by kernel_rfl : ρof _ (.tmp 57) = (.r (.msl 464 1 0 (([255, (u8 a1.Cmd)] : List UInt8).length))))).trans (as_whole eU8 (e := 5) (k := 1) (xs := [255, (u8 a1.Cmd)]) (by kernel_rfl) rfl rfl)) rfl) ?_
          refine zlRun (n := 2) (j := 7) rfl (by kernel_rfl) ?_
          refine zlEnd (by kernel_rfl) ?_
          refine zkSeq ?_
          refine zrRet ?_
          refine zkBlkR ?_
          refine zkSeqR ?_
          refine zkNil ?_
          exact endQ hS hQ (fRet ((congrArg (fun s => outR s 0 c14.res) (by kernel_rfl : finSt c14.fin _ = f14_fin ([255, (u8 a1.Cmd)] : List UInt8) 0)).trans (f14_out ([255, (u8 a1.Cmd)] : List UInt8) 0)))
        · replace hS := cond_f hc hS
          refine zlEnd (by kernel_rfl) ?_
          refine zkSeq ?_
          refine zrCondF (by kernel_rfl) ?_
          refine zrSkip ?_
          refine zkBlk ?_
          refine zkSeq ?_
          refine zrSeq ?_
          refine zrReg ?_
          refine zlRun (n := 2) (j := 2) rfl (by kernel_rfl) ?_
          refine zlEnd (by kernel_rfl) ?_
          refine zkSeq ?_
          refine zrRet ?_
          refine zkNil ?_
          exact endQ hS hQ (fRet ((congrArg (fun s => outR s 0 c14.res) (by kernel_rfl : finSt c14.fin _ = f14_fin [] 1)).trans (f14_out [] 1)))
      · replace hS := cond_f hc hS
        refine zlRun (n := 2) (j := 14) rfl (by kernel_rfl) ?_
        refine zlEnd (by kernel_rfl) ?_
        refine zkSeq ?_
        refine zrCondF (by kernel_rfl) ?_
        exact f14_j2_ok hd a1 hQ p36 hS (by kernel_rfl)
    · replace hS := cond_f hc hS
      refine zlRun (n := 7) (j := 14) rfl (by kernel_rfl) ?_
      refine zlEnd (by kernel_rfl) ?_
      refine zkSeq ?_
      refine zrCondF (by kernel_rfl) ?_
      exact f14_j2_ok hd a1 hQ p36 hS (by kernel_rfl)
  · replace hS := cond_f hc hS
    refine zlRun (n := 11) (j := 14) rfl (by kernel_rfl) ?_
    refine zlEnd (by kernel_rfl) ?_
    refine zkSeq ?_
    refine zrCondF (by kernel_rfl) ?_
    exact f14_j2_ok hd a1 hQ p36 hS (by kernel_rfl)
def f14_j0_J (a1 : GTok) (p33 : Bool) : St := ⟨(up (up (up (fun _ => .un) 5 (.d (.bool p33))) 4 (.r (.ptr 40 0 0))) 1 (.r (.ptr 16 0 0))), (up (up (hB fun _ => 0) 40 ⟨0, some (.box ((.d (.int .i64 a1.Kind)) :: ((.d (.int .i64 0)) :: ((.d (.int .i64 0)) :: ((.d (.str ([]))) :: [])))))⟩) 16 ⟨0, some (.box ((.d (.int .i64 a1.Kind)) :: ((.d (.int .i64 a1.Cmd)) :: ((.d (.int .i64 a1.Opt)) :: ((.d (.str a1.Data)) :: [])))))⟩)⟩
noncomputable def f14_j0 (a1 : GTok) (p33 : Bool) : Option ((List UInt8) × Int) := (bif (decide (a1.Kind = 1)) then (bif (decide (a1.Cmd = 0)) then (bif (decide (a1.Opt = 0)) then ((f9 a1.Data).bind fun z8 => (some (z8, 0))) else (f14_j1 a1 p33)) else (f14_j1 a1 p33)) else (f14_j1 a1 p33))
theorem f14_j0_ok {d : Nat} (hd : 2 ≤ d) (a1 : GTok) {r : (List UInt8) × Int} {Q : PX → St → Prop} (hQ : ∀ e st', f14_Q r e st' → Q e st') (p33 : Bool) (hS : f14_j0 a1 p33 = some r) {st : St} (he : keepSt [1, 4, 5] [(16, .id 16), (40, .id 40)] [] st = f14_j0_J a1 p33) : ZR (lev codes baseL (d - 1)) Q c14_7 [] st := by
  refine zrKeep he ?_
  unfold f14_j0 at hS
  refine zrSeq ?_
  refine zrBlk ?_
  refine zrSeq ?_
  refine zrReg ?_
  refine zlRun (n := 2) (j := 2) rfl (by kernel_rfl) ?_
  refine zlBool (d := 20) (op := (.cmpI .eql (.tmp 19) (.const (.int .i64 1)))) (g := none) (j := 3) (decide (a1.Kind = 1)) rfl (by kernel_rfl) (by kernel_rfl) (by kernel_rfl) (fun hc => ?_) (fun hc => ?_)
  · replace hS := cond_t hc hS
    refine zlRun (n := 3) (j := 6) rfl (by kernel_rfl) ?_
    refine zlBool (d := 24) (op := (.cmpI .eql (.tmp 23) (.const (.int .i64 0)))) (g := (some (21, true))) (j := 7) (decide (a1.Cmd = 0)) rfl (by kernel_rfl) (by kernel_rfl) (by kernel_rfl) (fun hc => ?_) (fun hc => ?_)
    · replace hS := cond_t hc hS
      refine zlRun (n := 4) (j := 11) rfl (by kernel_rfl) ?_
      refine zlBool (d := 29) (op := (.cmpI .eql (.tmp 28) (.const (.int .i64 0)))) (g := (some (26, true))) (j := 12) (decide (a1.Opt = 0)) rfl (by kernel_rfl) (by kernel_rfl) (by kernel_rfl) (fun hc => ?_) (fun hc => ?_)
      · replace hS := cond_t hc hS
        refine zlRun (n := 2) (j := 14) rfl (by kernel_rfl) ?_
        refine zlEnd (by kernel_rfl) ?_
        refine zkSeq ?_
        refine zrCondT (by kernel_rfl) ?_
        refine zrSeq ?_
        refine zrReg ?_
        refine zlRun (n := 2) (j := 2) rfl (by kernel_rfl) ?_
        refine bindE hS (fun z8 hz8 hS => ?_)
        refine zlOp (d := some 33) (op := (.call 9 [(.tmp 32)])) (g := none) (v := (.d (.str z8))) (ups := []) (j := 3) rfl (by kernel_rfl) (by kernel_rfl) (ev_call (args := [(.d (.str a1.Data))]) (l := [(.d (.str a1.Data))]) (r := (.d (.str z8))) (by kernel_rfl) (by kernel_rfl) (f9_ok (d - 1) (dpt hd rfl) a1.Data z8 hz8) (by kernel_rfl) (by kernel_rfl) (by kernel_rfl)) ?_
        refine zlRun (n := 2) (j := 5) rfl (by kernel_rfl) ?_
        refine zlEnd (by kernel_rfl) ?_
        refine zkSeq ?_
        refine zrRet ?_
        refine zkBlkR ?_
        refine zkSeqR ?_
        refine zkNil ?_
        exact endQ hS hQ (fRet ((congrArg (fun s => outR s 0 c14.res) (by kernel_rfl : finSt c14.fin _ = f14_fin z8 0)).trans (f14_out z8 0)))
      · replace hS := cond_f hc hS
        refine zlRun (n := 2) (j := 14) rfl (by kernel_rfl) ?_
        refine zlEnd (by kernel_rfl) ?_
        refine zkSeq ?_
        refine zrCondF (by kernel_rfl) ?_
        exact f14_j1_ok hd a1 hQ p33 hS (by kernel_rfl)
    · replace hS := cond_f hc hS
      refine zlRun (n := 7) (j := 14) rfl (by kernel_rfl) ?_
      refine zlEnd (by kernel_rfl) ?_
      refine zkSeq ?_
      refine zrCondF (by kernel_rfl) ?_
      exact f14_j1_ok hd a1 hQ p33 hS (by kernel_rfl)
  · replace hS := cond_f hc hS
    refine zlRun (n := 11) (j := 14) rfl (by kernel_rfl) ?_
    refine zlEnd (by kernel_rfl) ?_
    refine zkSeq ?_
    refine zrCondF (by kernel_rfl) ?_
    exact f14_j1_ok hd a1 hQ p33 hS (by kernel_rfl)
noncomputable def f14 (a1 : GTok) : Option ((List UInt8) × Int) := (bif (decide (0 ≤ a1.Opt)) then (bif (decide (a1.Opt ≤ 255)) then (f14_j0 a1 true) else (f14_j0 a1 false)) else (f14_j0 a1 false))
theorem f14_ok (d : Nat) (hd : 2 ≤ d) (a1 : GTok) (r : (List UInt8) × Int) (hS : f14 a1 = some r) : lev codes baseL d 14 [(.agg ((.d (.int .i64 a1.Kind)) :: ((.d (.int .i64 a1.Cmd)) :: ((.d (.int .i64 a1.Opt)) :: ((.d (.str a1.Data)) :: [])))))] [] = some ((.tup [(.d (.str r.1)), (.d (.int .i64 r.2))]), []) := by
  refine lev_go codes14 rfl rfl (Nat.le_trans (Nat.le_of_ble_eq_true rfl) hd) fun Q hQ => ?_
  unfold f14 at hS
  show ZR _ Q c14_b [] _
  replace hQ : ∀ e st', f14_Q r e st' → Q e st' := hQ
  refine zrSeq ?_
  refine zrReg ?_
  refine zlRun (n := 3) (j := 3) rfl (by kernel_rfl) ?_
  refine zlEnd (by kernel_rfl) ?_
  refine zkSeq ?_
  refine zrSeq ?_
  refine zrReg ?_
  refine zlRun (n := 5) (j := 5) rfl (by kernel_rfl) ?_
  refine zlEnd (by kernel_rfl) ?_
  refine zkSeq ?_
  refine zrSeq ?_
  refine zrReg ?_
  refine zlRun (n := 2) (j := 2) rfl (by kernel_rfl) ?_
  refine zlBool (d := 11) (op := (.cmpI .geq (.tmp 10) (.const (.int .i64 0)))) (g := none) (j := 3) (decide (0 ≤ a1.Opt)) rfl (by kernel_rfl) (by kernel_rfl) (by kernel_rfl) (fun hc => ?_) (fun hc => ?_)
  · replace hS := cond_t hc hS
    refine zlRun (n := 3) (j := 6) rfl (by kernel_rfl) ?_
    refine zlBool (d := 15) (op := (.cmpI .leq (.tmp 14) (.const (.int .i64 255)))) (g := (some (12, true))) (j := 7) (decide (a1.Opt ≤ 255)) rfl (by kernel_rfl) (by kernel_rfl) (by kernel_rfl) (fun hc => ?_) (fun hc => ?_)
    · replace hS := cond_t hc hS
      refine zlRun (n := 2) (j := 9) rfl (by kernel_rfl) ?_
      refine zlEnd (by kernel_rfl) ?_
      refine zkSeq ?_
      exact f14_j0_ok hd a1 hQ true hS (by kernel_rfl)
    · replace hS := cond_f hc hS
      refine zlRun (n := 2) (j := 9) rfl (by kernel_rfl) ?_
      refine zlEnd (by kernel_rfl) ?_
      refine zkSeq ?_
      exact f14_j0_ok hd a1 hQ false hS (by kernel_rfl)
  · replace hS := cond_f hc hS
    refine zlRun (n := 6) (j := 9) rfl (by kernel_rfl) ?_
    refine zlEnd (by kernel_rfl) ?_
    refine zkSeq ?_
    exact f14_j0_ok hd a1 hQ false hS (by kernel_rfl)
/- farwriter/farkeep.IacAgain -/
def f5_fin (p15 : Bool) : St := ⟨(up (fun _ => .un) 6 (.d (.bool p15))), (hB fun _ => 0)⟩
theorem f5_out (p15 : Bool) : outR (f5_fin p15) 0 c5.res = some ((.d (.bool p15)), []) := by
  kernel_rfl
def f5_Q (r : Bool) (e : PX) (st : St) : Prop := DoneF c5 0 ((.d (.bool r)), []) e st
def f5_j2_J (a1 : GWire) (a2 : List UInt8) (a3 : GTok) (p31 : List GTok) (p32 : Int) : St := ⟨(up (up (up (fun _ => .un) 11 (.d (.int .i64 p32))) 10 (.r (.msl 288 0 0 p31.length))) 5 (.r (.ptr 48 0 0))), (up (up (hB fun _ => 0) 288 ⟨0, some (.own 31 4 (e_GTok.cells p31))⟩) 48 ⟨0, some (.box ((.d (.int .i64 a3.Kind)) :: ((.d (.int .i64 a3.Cmd)) :: ((.d (.int .i64 a3.Opt)) :: ((.d (.str a3.Data)) :: [])))))⟩)⟩
noncomputable def f5_j2 (a1 : GWire) (a2 : List UInt8) (a3 : GTok) (p31 : List GTok) (p32 : Int) : Option (Bool) := (bif (decide (0 < p32)) then ((inR (IntKind.i64.wrap (p32 - 1)) p31.length).bind fun m20 => ((p31[m20]?).bind fun z21 => (bif (decide (z21.Kind = a3.Kind) && (decide (z21.Cmd = a3.Cmd) && (decide (z21.Opt = a3.Opt) && (decide (z21.Data = a3.Data) && true)))) then (some true) else (some false)))) else (some false))
theorem f5_j2_ok {d : Nat} (hd : 7 ≤ d) (a1 : GWire) (a2 : List UInt8) (a3 : GTok) {r : Bool} {Q : PX → St → Prop} (hQ : ∀ e st', f5_Q r e st' → Q e st') (p31 : List GTok) (p32 : Int) (hS : f5_j2 a1 a2 a3 p31 p32 = some r) {st : St} (he : keepSt [5, 10, 11] [(48, .id 48), (288, .id 288)] [] st = f5_j2_J a1 a2 a3 p31 p32) : ZR (lev codes baseL (d - 1)) Q c5_1 [] st := by
  refine zrKeep he ?_
  unfold f5_j2 at hS
  refine zrSeq ?_
  refine zrRegD ?_
  refine zdRun (n := 1) (j := 1) (ts := [[]]) (acc' := [[]]) rfl (by kernel_rfl) (by kernel_rfl) (by kernel_rfl) ?_
  refine zdBool (d := 51) (op := (.cmpI .gtr (.tmp 50) (.const (.int .i64 0)))) (g := none) (j := 2) (t1 := []) (acc' := [[], []]) (decide (0 < p32)) (by kernel_rfl) (by kernel_rfl) rfl (by kernel_rfl) (by kernel_rfl) (by kernel_rfl) (fun hc => ?_) (fun hc => ?_)
  · replace hS := cond_t hc hS
    refine zdRun (n := 4) (j := 6) (ts := [[], [], [], []]) (acc' := [[], [], [], [], [], []]) rfl (by kernel_rfl) (by kernel_rfl) (by kernel_rfl) ?_
    refine bindE hS (fun m20 hm20 hS => ?_)
    refine zdOp (d := some 56) (op := (.ixS 31 4 (.tmp 53) (.tmp 55))) (g := (some (52, true))) (v := (.r (.ptr 288 0 ((0 + m20) * 4)))) (ups := []) (j := 7) (t1 := [(288, false)]) (acc' := [[], [], [], [], [], [], [(288, false)]]) (by kernel_rfl) (by kernel_rfl) rfl (by kernel_rfl) (by kernel_rfl) (ev_ixM (kk := .i64) (b := 288) (g := 0) (l := 0) (n := p31.length) (j := (IntKind.i64.wrap (p32 - 1))) (cs := e_GTok.cells p31) (by kernel_rfl) (by kernel_rfl) (by kernel_rfl) hm20) ?_
    refine bindE hS (fun z21 hz21 hS => ?_)
    refine zdOp (d := some 57) (op := (.load .true 4 (.tmp 56))) (g := (some (52, true))) (v := (.agg ((.d (.int .i64 z21.Kind)) :: ((.d (.int .i64 z21.Cmd)) :: ((.d (.int .i64 z21.Opt)) :: ((.d (.str z21.Data)) :: [])))))) (ups := []) (j := 8) (t1 := [(288, false)]) (acc' := [[], [], [], [], [], [], [(288, false)], [(288, false)]]) (by kernel_rfl) (by kernel_rfl) rfl (by kernel_rfl) (by kernel_rfl) (ev_loadM e_GTok (b := 288) (g := 0) (o := (0 + m20) * 4) (e := 31) (k := 4) (m := m20) (fo := 0) (xs := p31) (by kernel_rfl) (by kernel_rfl) (by rw [Nat.zero_add]; rfl) hz21 (by kernel_rfl) (by kernel_rfl) (by kernel_rfl)) ?_
    refine zdRun (n := 1) (j := 9) (ts := [[(48, false)]]) (acc' := [[], [], [], [], [], [], [(288, false)], [(288, false)], [(48, false)]]) rfl (by kernel_rfl) (by kernel_rfl) (by kernel_rfl) ?_
    refine zdBool (d := 59) (op := (.eqA .false [(3, .int), (1, .str)] (.tmp 57) (.tmp 58))) (g := (some (52, true))) (j := 10) (t1 := []) (acc' := [[], [], [], [], [], [], [(288, false)], [(288, false)], [(48, false)], []]) (decide (z21.Kind = a3.Kind) && (decide (z21.Cmd = a3.Cmd) && (decide (z21.Opt = a3.Opt) && (decide (z21.Data = a3.Data) && true)))) (by kernel_rfl) (by kernel_rfl) rfl (by kernel_rfl) (by kernel_rfl) (by kernel_rfl) (fun hc => ?_) (fun hc => ?_)
    · replace hS := cond_t hc hS
      refine zdRun (n := 2) (j := 12) (ts := [[], []]) (acc' := [[], [], [], [], [], [], [(288, false)], [(288, false)], [(48, false)], [], [], []]) rfl (by kernel_rfl) (by kernel_rfl) (by kernel_rfl) ?_
      refine zdEnd (by kernel_rfl) (by kernel_rfl) ?_
      refine zkSeq ?_
      refine zrRet ?_
      refine zkNil ?_
      exact endQ hS hQ (fRet ((congrArg (fun s => outR s 0 c5.res) (by kernel_rfl : finSt c5.fin _ = f5_fin true)).trans (f5_out true)))
    · replace hS := cond_f hc hS
      refine zdRun (n := 2) (j := 12) (ts := [[], []]) (acc' := [[], [], [], [], [], [], [(288, false)], [(288, false)], [(48, false)], [], [], []]) rfl (by kernel_rfl) (by kernel_rfl) (by kernel_rfl) ?_
      refine zdEnd (by kernel_rfl) (by kernel_rfl) ?_
      refine zkSeq ?_
      refine zrRet ?_
      refine zkNil ?_
      exact endQ hS hQ (fRet ((congrArg (fun s => outR s 0 c5.res) (by kernel_rfl : finSt c5.fin _ = f5_fin false)).trans (f5_out false)))
  · replace hS := cond_f hc hS
    refine zdRun (n := 10) (j := 12) (ts := [[], [], [], [], [], [], [], [], [], []]) (acc' := [[], [], [], [], [], [], [], [], [], [], [], []]) rfl (by kernel_rfl) (by kernel_rfl) (by kernel_rfl) ?_
    refine zdEnd (by kernel_rfl) (by kernel_rfl) ?_
    refine zkSeq ?_
    refine zrRet ?_
    refine zkNil ?_
    exact endQ hS hQ (fRet ((congrArg (fun s => outR s 0 c5.res) (by kernel_rfl : finSt c5.fin _ = f5_fin false)).trans (f5_out false)))
def f5_j1_J (a1 : GWire) (a2 : List UInt8) (a3 : GTok) (p26 : List UInt8) (p27 : List GTok) : St := ⟨(up (up (up (fun _ => .un) 10 (.r (.msl 288 0 0 p27.length))) 7 (.d (.str p26))) 5 (.r (.ptr 48 0 0))), (up (up (hB fun _ => 0) 288 ⟨0, some (.own 31 4 (e_GTok.cells p27))⟩) 48 ⟨0, some (.box ((.d (.int .i64 a3.Kind)) :: ((.d (.int .i64 a3.Cmd)) :: ((.d (.int .i64 a3.Opt)) :: ((.d (.str a3.Data)) :: [])))))⟩)⟩
noncomputable def f5_j1 (a1 : GWire) (a2 : List UInt8) (a3 : GTok) (p26 : List UInt8) (p27 : List GTok) : Option (Bool) := (bif (decide (p26 = ([] : List UInt8))) then (some true) else (f5_j2 a1 a2 a3 p27 (p27.length : Int)))
theorem f5_j1_ok {d : Nat} (hd : 7 ≤ d) (a1 : GWire) (a2 : List UInt8) (a3 : GTok) {r : Bool} {Q : PX → St → Prop} (hQ : ∀ e st', f5_Q r e st' → Q e st') (p26 : List UInt8) (p27 : List GTok) (hS : f5_j1 a1 a2 a3 p26 p27 = some r) {st : St} (he : keepSt [5, 7, 10] [(48, .id 48), (288, .id 288)] [] st = f5_j1_J a1 a2 a3 p26 p27) : ZR (lev codes baseL (d - 1)) Q c5_2 [] st := by
  refine zrKeep he ?_
  unfold f5_j1 at hS
  refine zrSeq ?_
  refine zrReg ?_
  refine zlRun (n := 3) (j := 3) rfl (by kernel_rfl) ?_
  refine zlEnd (by kernel_rfl) ?_
  refine zkSeq ?_
  refine zrSeq ?_
  refine zrSeq ?_
  refine zrReg ?_
  refine zlRun (n := 1) (j := 1) rfl (by kernel_rfl) ?_
  refine zlBool (d := 49) (op := (.strO .eql (.tmp 48) (.const (.string ⟨#[]⟩)))) (g := none) (j := 2) (decide (p26 = ([] : List UInt8))) rfl (by kernel_rfl) (by kernel_rfl) (by kernel_rfl) (fun hc => ?_) (fun hc => ?_)
  · replace hS := cond_t hc hS
    refine zlEnd (by kernel_rfl) ?_
    refine zkSeq ?_
    refine zrCondT (by kernel_rfl) ?_
    refine zrSeq ?_
    refine zrReg ?_
    refine zlRun (n := 1) (j := 1) rfl (by kernel_rfl) ?_
    refine zlEnd (by kernel_rfl) ?_
    refine zkSeq ?_
    refine zrRet ?_
    refine zkSeqR ?_
    refine zkNil ?_
    exact endQ hS hQ (fRet ((congrArg (fun s => outR s 0 c5.res) (by kernel_rfl : finSt c5.fin _ = f5_fin true)).trans (f5_out true)))
  · replace hS := cond_f hc hS
    refine zlEnd (by kernel_rfl) ?_
    refine zkSeq ?_
    refine zrCondF (by kernel_rfl) ?_
    refine zrSkip ?_
    refine zkSeq ?_
    exact f5_j2_ok hd a1 a2 a3 hQ p27 (p27.length : Int) hS (by kernel_rfl)
def f5_j0_J (a1 : GWire) (a2 : List UInt8) (a3 : GTok) (p20 : List UInt8) : St := ⟨(up (up (up (up (fun _ => .un) 7 (.d (.str p20))) 5 (.r (.ptr 48 0 0))) 3 (.r (.ptr 32 0 0))) 1 (.d (.str a2))), (up (up (hB fun _ => 0) 48 ⟨0, some (.box ((.d (.int .i64 a3.Kind)) :: ((.d (.int .i64 a3.Cmd)) :: ((.d (.int .i64 a3.Opt)) :: ((.d (.str a3.Data)) :: [])))))⟩) 32 ⟨0, some (.box ((.d (.int .i64 a1.Mode)) :: ((.d (.int .i64 a1.Cmd)) :: ((.d (.int .i64 a1.Opt)) :: ((.d (.str a1.Buf)) :: ((.d (.bool a1.Over)) :: []))))))⟩)⟩
noncomputable def f5_j0 (a1 : GWire) (a2 : List UInt8) (a3 : GTok) (p20 : List UInt8) : Option (Bool) := ((cat? a2 ([255, 240, 255, 240, 255, 241] : List UInt8)).bind fun z17 => ((cat? z17 p20).bind fun z18 => ((f8 a1 z18).bind fun z19 => (bif (!decide (z19.2.2 = 0)) then (some false) else (bif (!(decide (z19.1.Mode = 0) && (decide (z19.1.Cmd = 0) && (decide (z19.1.Opt = 0) && (decide (z19.1.Buf = ([] : List UInt8)) && (decide (z19.1.Over = false) && true)))))) then (some false) else (f5_j1 a1 a2 a3 p20 z19.2.1))))))
theorem f5_j0_ok {d : Nat} (hd : 7 ≤ d) (a1 : GWire) (a2 : List UInt8) (a3 : GTok) {r : Bool} {Q : PX → St → Prop} (hQ : ∀ e st', f5_Q r e st' → Q e st') (p20 : List UInt8) (hS : f5_j0 a1 a2 a3 p20 = some r) {st : St} (he : keepSt [1, 3, 5, 7] [(32, .id 32), (48, .id 48)] [] st = f5_j0_J a1 a2 a3 p20) : ZR (lev codes baseL (d - 1)) Q c5_3 [] st := by
  refine zrKeep he ?_
  unfold f5_j0 at hS
  refine zrSeq ?_
  refine zrReg ?_
  refine zlRun (n := 2) (j := 2) rfl (by kernel_rfl) ?_
  refine bindE hS (fun z17 hz17 hS => ?_)
  refine zlOp (d := some 32) (op := (.strO .add (.tmp 31) (.const (.string ⟨#[255, 240, 255, 240, 255, 241]⟩)))) (g := none) (v := (.d (.str z17))) (ups := []) (j := 3) rfl (by kernel_rfl) (by kernel_rfl) (ev_cat (a := a2) (c := [255, 240, 255, 240, 255, 241]) (by kernel_rfl) (by kernel_rfl) hz17) ?_
  refine zlRun (n := 1) (j := 4) rfl (by kernel_rfl) ?_
  refine bindE hS (fun z18 hz18 hS => ?_)
  refine zlOp (d := some 34) (op := (.strO .add (.tmp 32) (.tmp 33))) (g := none) (v := (.d (.str z18))) (ups := []) (j := 5) rfl (by kernel_rfl) (by kernel_rfl) (ev_cat (a := z17) (c := p20) (by kernel_rfl) (by kernel_rfl) hz18) ?_
  refine bindE hS (fun z19 hz19 hS => ?_)
  refine zlOp (d := some 35) (op := (.call 8 [(.tmp 30), (.tmp 34)])) (g := none) (v := (.tup [(.agg ((.d (.int .i64 z19.1.Mode)) :: ((.d (.int .i64 z19.1.Cmd)) :: ((.d (.int .i64 z19.1.Opt)) :: ((.d (.str z19.1.Buf)) :: ((.d (.bool z19.1.Over)) :: [])))))), (.r (.msl 288 1 0 z19.2.1.length)), (.d (.int .i64 z19.2.2))])) (ups := [(288, ⟨1, some (.own 31 4 (e_GTok.cells z19.2.1))⟩)]) (j := 6) rfl (by kernel_rfl) (by kernel_rfl) (ev_call (args := [(.agg ((.d (.int .i64 a1.Mode)) :: ((.d (.int .i64 a1.Cmd)) :: ((.d (.int .i64 a1.Opt)) :: ((.d (.str a1.Buf)) :: ((.d (.bool a1.Over)) :: [])))))), (.d (.str z18))]) (l := [(.agg ((.d (.int .i64 a1.Mode)) :: ((.d (.int .i64 a1.Cmd)) :: ((.d (.int .i64 a1.Opt)) :: ((.d (.str a1.Buf)) :: ((.d (.bool a1.Over)) :: [])))))), (.d (.str z18))]) (r := (.tup [(.agg ((.d (.int .i64 z19.1.Mode)) :: ((.d (.int .i64 z19.1.Cmd)) :: ((.d (.int .i64 z19.1.Opt)) :: ((.d (.str z19.1.Buf)) :: ((.d (.bool z19.1.Over)) :: [])))))), (.r (.own 0 31 4 z19.2.1.length (e_GTok.cells z19.2.1))), (.d (.int .i64 z19.2.2))])) (by kernel_rfl) (by kernel_rfl) (f8_ok (d - 1) (dpt hd rfl) a1 z18 z19 hz19) (by kernel_rfl) (by kernel_rfl) (by kernel_rfl)) ?_
  refine zlRun (n := 8) (j := 14) rfl (by kernel_rfl) ?_
  refine zlEnd (by kernel_rfl) ?_
  refine zkSeq ?_
  refine zrSeq ?_
  refine zrSeq ?_
  refine zrReg ?_
  refine zlRun (n := 1) (j := 1) rfl (by kernel_rfl) ?_
  refine zlBool (d := 40) (op := (.cmpI .neq (.tmp 39) (.const (.int .i64 0)))) (g := none) (j := 2) (!decide (z19.2.2 = 0)) rfl (by kernel_rfl) (by kernel_rfl) (by kernel_rfl) (fun hc => ?_) (fun hc => ?_)
  · replace hS := cond_t hc hS
    refine zlRun (n := 5) (j := 7) rfl (by kernel_rfl) ?_
    refine zlEnd (by kernel_rfl) ?_
    refine zkSeq ?_
    refine zrCondT (by kernel_rfl) ?_
    refine zrSeq ?_
    refine zrReg ?_
    refine zlRun (n := 1) (j := 1) rfl (by kernel_rfl) ?_
    refine zlEnd (by kernel_rfl) ?_
    refine zkSeq ?_
    refine zrRet ?_
    refine zkSeqR ?_
    refine zkNil ?_
    exact endQ hS hQ (fRet ((congrArg (fun s => outR s 0 c5.res) (by kernel_rfl : finSt c5.fin _ = f5_fin false)).trans (f5_out false)))
  · replace hS := cond_f hc hS
    refine zlRun (n := 3) (j := 5) rfl (by kernel_rfl) ?_
    refine zlBool (d := 44) (op := (.eqA .true [(3, .int), (1, .str), (1, .bool)] (.tmp 42) (.tmp 43))) (g := (some (41, false))) (j := 6) (!(decide (z19.1.Mode = 0) && (decide (z19.1.Cmd = 0) && (decide (z19.1.Opt = 0) && (decide (z19.1.Buf = ([] : List UInt8)) && (decide (z19.1.Over = false) && true)))))) rfl (by kernel_rfl) (by kernel_rfl) (by kernel_rfl) (fun hc => ?_) (fun hc => ?_)
    · replace hS := cond_t hc hS
      refine zlRun (n := 1) (j := 7) rfl (by kernel_rfl) ?_
      refine zlEnd (by kernel_rfl) ?_
      refine zkSeq ?_
      refine zrCondT (by kernel_rfl) ?_
      refine zrSeq ?_
      refine zrReg ?_
      refine zlRun (n := 1) (j := 1) rfl (by kernel_rfl) ?_
      refine zlEnd (by kernel_rfl) ?_
      refine zkSeq ?_
      refine zrRet ?_
      refine zkSeqR ?_
      refine zkNil ?_
      exact endQ hS hQ (fRet ((congrArg (fun s => outR s 0 c5.res) (by kernel_rfl : finSt c5.fin _ = f5_fin false)).trans (f5_out false)))
    · replace hS := cond_f hc hS
      refine zlRun (n := 1) (j := 7) rfl (by kernel_rfl) ?_
      refine zlEnd (by kernel_rfl) ?_
      refine zkSeq ?_
      refine zrCondF (by kernel_rfl) ?_
      refine zrSkip ?_
      refine zkSeq ?_
      exact f5_j1_ok hd a1 a2 a3 hQ p20 z19.2.1 hS (by kernel_rfl)
noncomputable def f5 (a1 : GWire) (a2 : List UInt8) (a3 : GTok) : Option (Bool) := ((f14 a3).bind fun z10 => (f10.bind fun z22 => (bif (!z22) then (f10.bind fun z23 => (some z23)) else (bif (!decide (z10.2 = 0)) then (f10.bind fun z24 => (some z24)) else ((f15 a1).bind fun z25 => (bif (!decide (z25 = 0)) then (f10.bind fun z26 => (some z26)) else (f5_j0 a1 a2 a3 z10.1)))))))
theorem f5_ok (d : Nat) (hd : 7 ≤ d) (a1 : GWire) (a2 : List UInt8) (a3 : GTok) (r : Bool) (hS : f5 a1 a2 a3 = some r) : lev codes baseL d 5 [(.agg ((.d (.int .i64 a1.Mode)) :: ((.d (.int .i64 a1.Cmd)) :: ((.d (.int .i64 a1.Opt)) :: ((.d (.str a1.Buf)) :: ((.d (.bool a1.Over)) :: [])))))), (.d (.str a2)), (.agg ((.d (.int .i64 a3.Kind)) :: ((.d (.int .i64 a3.Cmd)) :: ((.d (.int .i64 a3.Opt)) :: ((.d (.str a3.Data)) :: [])))))] [] = some ((.d (.bool r)), []) := by
  refine lev_go codes5 rfl rfl (Nat.le_trans (Nat.le_of_ble_eq_true rfl) hd) fun Q hQ => ?_
  unfold f5 at hS
  show ZR _ Q c5_b [] _
  replace hQ : ∀ e st', f5_Q r e st' → Q e st' := hQ
  refine zrSeq ?_
  refine zrReg ?_
  refine zlRun (n := 3) (j := 3) rfl (by kernel_rfl) ?_
  refine zlEnd (by kernel_rfl) ?_
  refine zkSeq ?_
  refine zrSeq ?_
  refine zrReg ?_
  refine zlRun (n := 1) (j := 1) rfl (by kernel_rfl) ?_
  refine bindE hS (fun z10 hz10 hS => ?_)
  refine zlOp (d := some 14) (op := (.call 14 [(.tmp 13)])) (g := none) (v := (.tup [(.d (.str z10.1)), (.d (.int .i64 z10.2))])) (ups := []) (j := 2) rfl (by kernel_rfl) (by kernel_rfl) (ev_call (args := [(.agg ((.d (.int .i64 a3.Kind)) :: ((.d (.int .i64 a3.Cmd)) :: ((.d (.int .i64 a3.Opt)) :: ((.d (.str a3.Data)) :: [])))))]) (l := [(.agg ((.d (.int .i64 a3.Kind)) :: ((.d (.int .i64 a3.Cmd)) :: ((.d (.int .i64 a3.Opt)) :: ((.d (.str a3.Data)) :: [])))))]) (r := (.tup [(.d (.str z10.1)), (.d (.int .i64 z10.2))])) (by kernel_rfl) (by kernel_rfl) (f14_ok (d - 1) (dpt hd rfl) a3 z10 hz10) (by kernel_rfl) (by kernel_rfl) (by kernel_rfl)) ?_
  refine zlRun (n := 5) (j := 7) rfl (by kernel_rfl) ?_
  refine zlEnd (by kernel_rfl) ?_
  refine zkSeq ?_
  refine zrSeq ?_
  refine zrSeq ?_
  refine zrReg ?_
  refine bindE hS (fun z22 hz22 hS => ?_)
  refine zlOp (d := some 17) (op := (.call 10 [])) (g := none) (v := (.d (.bool z22))) (ups := []) (j := 1) rfl (by kernel_rfl) (by kernel_rfl) (ev_call (args := []) (l := []) (r := (.d (.bool z22))) (by kernel_rfl) (by kernel_rfl) (f10_ok (d - 1) (dpt hd rfl)  z22 hz22) (by kernel_rfl) (by kernel_rfl) (by kernel_rfl)) ?_
  refine zlRun (n := 2) (j := 3) rfl (by kernel_rfl) ?_
  refine zlSplit 19 (!z22) (by kernel_rfl) (fun hc => ?_) (fun hc => ?_)
  · replace hS := cond_t hc hS
    refine zlRun (n := 8) (j := 11) rfl (by kernel_rfl) ?_
    refine zlEnd (by kernel_rfl) ?_
    refine zkSeq ?_
    refine zrCondT (by kernel_rfl) ?_
    refine zrSeq ?_
    refine zrReg ?_
    refine bindE hS (fun z23 hz23 hS => ?_)
    refine zlOp (d := some 28) (op := (.call 10 [])) (g := none) (v := (.d (.bool z23))) (ups := []) (j := 1) rfl (by kernel_rfl) (by kernel_rfl) (ev_call (args := []) (l := []) (r := (.d (.bool z23))) (by kernel_rfl) (by kernel_rfl) (f10_ok (d - 1) (dpt hd rfl)  z23 hz23) (by kernel_rfl) (by kernel_rfl) (by kernel_rfl)) ?_
    refine zlRun (n := 1) (j := 2) rfl (by kernel_rfl) ?_
    refine zlEnd (by kernel_rfl) ?_
    refine zkSeq ?_
    refine zrRet ?_
    refine zkSeqR ?_
    refine zkNil ?_
    exact endQ hS hQ (fRet ((congrArg (fun s => outR s 0 c5.res) (by kernel_rfl : finSt c5.fin _ = f5_fin z23)).trans (f5_out z23)))
  · replace hS := cond_f hc hS
    refine zlRun (n := 1) (j := 4) rfl (by kernel_rfl) ?_
    refine zlBool (d := 21) (op := (.cmpI .neq (.tmp 20) (.const (.int .i64 0)))) (g := (some (19, false))) (j := 5) (!decide (z10.2 = 0)) rfl (by kernel_rfl) (by kernel_rfl) (by kernel_rfl) (fun hc => ?_) (fun hc => ?_)
    · replace hS := cond_t hc hS
      refine zlRun (n := 6) (j := 11) rfl (by kernel_rfl) ?_
      refine zlEnd (by kernel_rfl) ?_
      refine zkSeq ?_
      refine zrCondT (by kernel_rfl) ?_
      refine zrSeq ?_
      refine zrReg ?_
      refine bindE hS (fun z24 hz24 hS => ?_)
      refine zlOp (d := some 28) (op := (.call 10 [])) (g := none) (v := (.d (.bool z24))) (ups := []) (j := 1) rfl (by kernel_rfl) (by kernel_rfl) (ev_call (args := []) (l := []) (r := (.d (.bool z24))) (by kernel_rfl) (by kernel_rfl) (f10_ok (d - 1) (dpt hd rfl)  z24 hz24) (by kernel_rfl) (by kernel_rfl) (by kernel_rfl)) ?_
      refine zlRun (n := 1) (j := 2) rfl (by kernel_rfl) ?_
      refine zlEnd (by kernel_rfl) ?_
      refine zkSeq ?_
      refine zrRet ?_
      refine zkSeqR ?_
      refine zkNil ?_
      exact endQ hS hQ (fRet ((congrArg (fun s => outR s 0 c5.res) (by kernel_rfl : finSt c5.fin _ = f5_fin z24)).trans (f5_out z24)))
    · replace hS := cond_f hc hS
      refine zlRun (n := 3) (j := 8) rfl (by kernel_rfl) ?_
      refine bindE hS (fun z25 hz25 hS => ?_)
      refine zlOp (d := some 25) (op := (.call 15 [(.tmp 24)])) (g := (some (23, false))) (v := (.d (.int .i64 z25))) (ups := []) (j := 9) rfl (by kernel_rfl) (by kernel_rfl) (ev_call (args := [(.agg ((.d (.int .i64 a1.Mode)) :: ((.d (.int .i64 a1.Cmd)) :: ((.d (.int .i64 a1.Opt)) :: ((.d (.str a1.Buf)) :: ((.d (.bool a1.Over)) :: []))))))]) (l := [(.agg ((.d (.int .i64 a1.Mode)) :: ((.d (.int .i64 a1.Cmd)) :: ((.d (.int .i64 a1.Opt)) :: ((.d (.str a1.Buf)) :: ((.d (.bool a1.Over)) :: []))))))]) (r := (.d (.int .i64 z25))) (by kernel_rfl) (by kernel_rfl) (f15_ok (d - 1) (dpt hd rfl) a1 z25 hz25) (by kernel_rfl) (by kernel_rfl) (by kernel_rfl)) ?_
      refine zlBool (d := 26) (op := (.cmpI .neq (.tmp 25) (.const (.int .i64 0)))) (g := (some (23, false))) (j := 10) (!decide (z25 = 0)) rfl (by kernel_rfl) (by kernel_rfl) (by kernel_rfl) (fun hc => ?_) (fun hc => ?_)
      · replace hS := cond_t hc hS
        refine zlRun (n := 1) (j := 11) rfl (by kernel_rfl) ?_
        refine zlEnd (by kernel_rfl) ?_
        refine zkSeq ?_
        refine zrCondT (by kernel_rfl) ?_
        refine zrSeq ?_
        refine zrReg ?_
        refine bindE hS (fun z26 hz26 hS => ?_)
        refine zlOp (d := some 28) (op := (.call 10 [])) (g := none) (v := (.d (.bool z26))) (ups := []) (j := 1) rfl (by kernel_rfl) (by kernel_rfl) (ev_call (args := []) (l := []) (r := (.d (.bool z26))) (by kernel_rfl) (by kernel_rfl) (f10_ok (d - 1) (dpt hd rfl)  z26 hz26) (by kernel_rfl) (by kernel_rfl) (by kernel_rfl)) ?_
        refine zlRun (n := 1) (j := 2) rfl (by kernel_rfl) ?_
        refine zlEnd (by kernel_rfl) ?_
        refine zkSeq ?_
        refine zrRet ?_
        refine zkSeqR ?_
        refine zkNil ?_
        exact endQ hS hQ (fRet ((congrArg (fun s => outR s 0 c5.res) (by kernel_rfl : finSt c5.fin _ = f5_fin z26)).trans (f5_out z26)))
      · replace hS := cond_f hc hS
        refine zlRun (n := 1) (j := 11) rfl (by kernel_rfl) ?_
        refine zlEnd (by kernel_rfl) ?_
        refine zkSeq ?_
        refine zrCondF (by kernel_rfl) ?_
        refine zrSkip ?_
        refine zkSeq ?_
        exact f5_j0_ok hd a1 a2 a3 hQ z10.1 hS (by kernel_rfl)
/- slices.Clone[[]farwriter/api.Tok,farwriter/api.Tok] -/
def f16_fin (p1 : List GTok) : St := ⟨(up (fun _ => .un) 2 (.r (.msl 97 0 0 p1.length))), (up (hB fun _ => 0) 97 ⟨0, some (.own 31 4 (e_GTok.cells p1))⟩)⟩
theorem f16_out (p1 : List GTok) : outR (f16_fin p1) 0 c16.res = some ((.r (.own 0 31 4 p1.length (e_GTok.cells p1))), []) := by
  exact out_of (ids := []) (ids' := [97]) (l := [(.r (.msl 97 0 0 p1.length))]) (by kernel_rfl) (by kernel_rfl) (o_own e_GTok (e := 31) (k := 4) (xs := p1) (by kernel_rfl) rfl rfl rfl rfl)
def f16_Q (r : List GTok) (e : PX) (st : St) : Prop := DoneF c16 0 ((.r (.own 0 31 4 r.length (e_GTok.cells r))), []) e st
noncomputable def f16 (a1 : List GTok) : Option (List GTok) := ((app? 40 ([] : List GTok) a1).bind fun z2 => (some z2))
theorem f16_ok (d : Nat) (hd : 1 ≤ d) (a1 : List GTok) (r : List GTok) (hS : f16 a1 = some r) : lev codes baseL d 16 [(.d (.sl a1.length (e_GTok.cells a1)))] [] = some ((.r (.own 0 31 4 r.length (e_GTok.cells r))), []) := by
  refine lev_goZ codes16 rfl rfl (Nat.le_trans (Nat.le_of_ble_eq_true rfl) hd) (fun Q hQ => ?_) (fun h0 Q hQ => ?_)
  · unfold f16 at hS
    show ZR _ Q c16_b [] _
    refine zrSeq ?_
    refine zrReg ?_
    refine zlRun (n := 1) (j := 1) rfl (by kernel_rfl) ?_
    refine zlEnd (by kernel_rfl) ?_
    refine zkSeq ?_
    refine zrSeq ?_
    refine zrSeq ?_
    refine zrReg ?_
    refine zlRun (n := 2) (j := 2) rfl (by kernel_rfl) ?_
    refine zlEnd (by kernel_rfl) ?_
    refine zkSeq ?_
    refine zrCondF (by kernel_rfl) ?_
    refine zrSkip ?_
    refine zkSeq ?_
    refine zrSeq ?_
    refine zrReg ?_
    refine zlRun (n := 2) (j := 2) rfl (by kernel_rfl) ?_
    refine bindE hS (fun z2 hz2 hS => ?_)
    refine zlOp (d := some 7) (op := (.app 31 4 40 (.tmp 5) (.tmp 6))) (g := none) (v := (.r (.msl 48 2 0 z2.length))) (ups := [(48, ⟨2, some (.own 31 4 (e_GTok.cells z2))⟩)]) (j := 3) rfl (by kernel_rfl) (by kernel_rfl) (ev_app e_GTok (b := 48) (g := 1) (n := ([] : List GTok).length) (xs := []) (ys := a1) ((congrArg (asL _) (by kernel_rfl : ρof _ (.tmp 6) = (.slz false a1.length (e_GTok.cells a1)))).trans rfl) rfl (by kernel_rfl) rfl (by kernel_rfl) rfl hz2) ?_
    refine zlRun (n := 1) (j := 4) rfl (by kernel_rfl) ?_
    refine zlEnd (by kernel_rfl) ?_
    refine zkSeq ?_
    refine zrRet ?_
    refine zkNil ?_
    exact endQ (F := f16_Q) hS hQ (fRet ((congrArg (fun s => outR s 0 c16.res) (by kernel_rfl : finSt c16.fin _ = f16_fin z2)).trans (f16_out z2)))
  · have hS : (some []) = some r := by
      have hl := List.eq_nil_of_length_eq_zero h0
      subst hl
      simpa [f16, app?] using hS
    show ZR _ Q c16_b [] _
    refine zrSeq ?_
    refine zrReg ?_
    refine zlRun (n := 1) (j := 1) rfl (by kernel_rfl) ?_
    refine zlEnd (by kernel_rfl) ?_
    refine zkSeq ?_
    refine zrSeq ?_
    refine zrSeq ?_
    refine zrReg ?_
    refine zlRun (n := 2) (j := 2) rfl (by kernel_rfl) ?_
    refine zlEnd (by kernel_rfl) ?_
    refine zkSeq ?_
    refine zrCondT (by kernel_rfl) ?_
    refine zrSeq ?_
    refine zrReg ?_
    refine zlRun (n := 1) (j := 1) rfl (by kernel_rfl) ?_
    refine zlEnd (by kernel_rfl) ?_
    refine zkSeq ?_
    refine zrRet ?_
    refine zkSeqR ?_
    refine zkNil ?_
    exact endQ (F := f16_Q) hS hQ (fRet ((congrArg (fun s => outR s 0 c16.res) (by kernel_rfl : finSt c16.fin _ = f16_fin [])).trans (f16_out [])))
/- farwriter/farkeep.IacCuts -/
def f6_fin (p11 : Bool) : St := ⟨(up (fun _ => .un) 6 (.d (.bool p11))), (hB fun _ => 0)⟩
theorem f6_out (p11 : Bool) : outR (f6_fin p11) 0 c6.res = some ((.d (.bool p11)), []) := by
  kernel_rfl
def f6_Q (r : Bool) (e : PX) (st : St) : Prop := DoneF c6 0 ((.d (.bool r)), []) e st
def f6_j0_J (a1 : GWire) (a2 : List UInt8) (a3 : List UInt8) (p19 : GWire) (p20 : List GTok) : St := ⟨(up (up (up (up (up (fun _ => .un) 8 (.r (.msl 160 0 0 p20.length))) 7 (.r (.ptr 64 0 0))) 3 (.r (.ptr 32 0 0))) 2 (.d (.str a3))) 1 (.d (.str a2))), (up (up (up (hB fun _ => 0) 160 ⟨0, some (.own 31 4 (e_GTok.cells p20))⟩) 64 ⟨0, some (.box ((.d (.int .i64 p19.Mode)) :: ((.d (.int .i64 p19.Cmd)) :: ((.d (.int .i64 p19.Opt)) :: ((.d (.str p19.Buf)) :: ((.d (.bool p19.Over)) :: []))))))⟩) 32 ⟨0, some (.box ((.d (.int .i64 a1.Mode)) :: ((.d (.int .i64 a1.Cmd)) :: ((.d (.int .i64 a1.Opt)) :: ((.d (.str a1.Buf)) :: ((.d (.bool a1.Over)) :: []))))))⟩)⟩
noncomputable def f6_j0 (a1 : GWire) (a2 : List UInt8) (a3 : List UInt8) (p19 : GWire) (p20 : List GTok) : Option (Bool) := ((f8 p19 a3).bind fun z14 => ((cat? a2 a3).bind fun z17 => ((f8 a1 z17).bind fun z18 => (bif (decide (z14.2.2 = 0)) then (bif (decide (z18.2.2 = 0)) then (bif (decide (z14.1.Mode = z18.1.Mode) && (decide (z14.1.Cmd = z18.1.Cmd) && (decide (z14.1.Opt = z18.1.Opt) && (decide (z14.1.Buf = z18.1.Buf) && (decide (z14.1.Over = z18.1.Over) && true))))) then ((f16 p20).bind fun z19 => ((app? 40 z19 z14.2.1).bind fun z20 => ((f13 z20).bind fun z21 => ((f12 z21 z18.2.1).bind fun z22 => (some z22))))) else (some false)) else (some false)) else (some false)))))
theorem f6_j0_ok {d : Nat} (hd : 7 ≤ d) (a1 : GWire) (a2 : List UInt8) (a3 : List UInt8) {r : Bool} {Q : PX → St → Prop} (hQ : ∀ e st', f6_Q r e st' → Q e st') (p19 : GWire) (p20 : List GTok) (hS : f6_j0 a1 a2 a3 p19 p20 = some r) {st : St} (he : keepSt [1, 2, 3, 7, 8] [(32, .id 32), (64, .id 64), (160, .id 160)] [] st = f6_j0_J a1 a2 a3 p19 p20) : ZR (lev codes baseL (d - 1)) Q c6_1 [] st := by
  refine zrKeep he ?_
  unfold f6_j0 at hS
  refine zrSeq ?_
  refine zrReg ?_
  refine zlRun (n := 2) (j := 2) rfl (by kernel_rfl) ?_
  refine bindE hS (fun z14 hz14 hS => ?_)
  refine zlOp (d := some 38) (op := (.call 8 [(.tmp 36), (.tmp 37)])) (g := none) (v := (.tup [(.agg ((.d (.int .i64 z14.1.Mode)) :: ((.d (.int .i64 z14.1.Cmd)) :: ((.d (.int .i64 z14.1.Opt)) :: ((.d (.str z14.1.Buf)) :: ((.d (.bool z14.1.Over)) :: [])))))), (.r (.msl 312 1 0 z14.2.1.length)), (.d (.int .i64 z14.2.2))])) (ups := [(312, ⟨1, some (.own 31 4 (e_GTok.cells z14.2.1))⟩)]) (j := 3) rfl (by kernel_rfl) (by kernel_rfl) (ev_call (args := [(.agg ((.d (.int .i64 p19.Mode)) :: ((.d (.int .i64 p19.Cmd)) :: ((.d (.int .i64 p19.Opt)) :: ((.d (.str p19.Buf)) :: ((.d (.bool p19.Over)) :: [])))))), (.d (.str a3))]) (l := [(.agg ((.d (.int .i64 p19.Mode)) :: ((.d (.int .i64 p19.Cmd)) :: ((.d (.int .i64 p19.Opt)) :: ((.d (.str p19.Buf)) :: ((.d (.bool p19.Over)) :: [])))))), (.d (.str a3))]) (r := (.tup [(.agg ((.d (.int .i64 z14.1.Mode)) :: ((.d (.int .i64 z14.1.Cmd)) :: ((.d (.int .i64 z14.1.Opt)) :: ((.d (.str z14.1.Buf)) :: ((.d (.bool z14.1.Over)) :: [])))))), (.r (.own 0 31 4 z14.2.1.length (e_GTok.cells z14.2.1))), (.d (.int .i64 z14.2.2))])) (by kernel_rfl) (by kernel_rfl) (f8_ok (d - 1) (dpt hd rfl) p19 a3 z14 hz14) (by kernel_rfl) (by kernel_rfl) (by kernel_rfl)) ?_
  refine zlRun (n := 8) (j := 11) rfl (by kernel_rfl) ?_
  refine zlEnd (by kernel_rfl) ?_
  refine zkSeq ?_
  refine zrSeq ?_
  refine zrReg ?_
  refine zlRun (n := 3) (j := 3) rfl (by kernel_rfl) ?_
  refine bindE hS (fun z17 hz17 hS => ?_)
  refine zlOp (d := some 46) (op := (.strO .add (.tmp 44) (.tmp 45))) (g := none) (v := (.d (.str z17))) (ups := []) (j := 4) rfl (by kernel_rfl) (by kernel_rfl) (ev_cat (a := a2) (c := a3) (by kernel_rfl) (by kernel_rfl) hz17) ?_
  refine bindE hS (fun z18 hz18 hS => ?_)
  refine zlOp (d := some 47) (op := (.call 8 [(.tmp 43), (.tmp 46)])) (g := none) (v := (.tup [(.agg ((.d (.int .i64 z18.1.Mode)) :: ((.d (.int .i64 z18.1.Cmd)) :: ((.d (.int .i64 z18.1.Opt)) :: ((.d (.str z18.1.Buf)) :: ((.d (.bool z18.1.Over)) :: [])))))), (.r (.msl 384 1 0 z18.2.1.length)), (.d (.int .i64 z18.2.2))])) (ups := [(384, ⟨1, some (.own 31 4 (e_GTok.cells z18.2.1))⟩)]) (j := 5) rfl (by kernel_rfl) (by kernel_rfl) (ev_call (args := [(.agg ((.d (.int .i64 a1.Mode)) :: ((.d (.int .i64 a1.Cmd)) :: ((.d (.int .i64 a1.Opt)) :: ((.d (.str a1.Buf)) :: ((.d (.bool a1.Over)) :: [])))))), (.d (.str z17))]) (l := [(.agg ((.d (.int .i64 a1.Mode)) :: ((.d (.int .i64 a1.Cmd)) :: ((.d (.int .i64 a1.Opt)) :: ((.d (.str a1.Buf)) :: ((.d (.bool a1.Over)) :: [])))))), (.d (.str z17))]) (r := (.tup [(.agg ((.d (.int .i64 z18.1.Mode)) :: ((.d (.int .i64 z18.1.Cmd)) :: ((.d (.int .i64 z18.1.Opt)) :: ((.d (.str z18.1.Buf)) :: ((.d (.bool z18.1.Over)) :: [])))))), (.r (.own 0 31 4 z18.2.1.length (e_GTok.cells z18.2.1))), (.d (.int .i64 z18.2.2))])) (by kernel_rfl) (by kernel_rfl) (f8_ok (d - 1) (dpt hd rfl) a1 z17 z18 hz18) (by kernel_rfl) (by kernel_rfl) (by kernel_rfl)) ?_
  refine zlRun (n := 8) (j := 13) rfl (by kernel_rfl) ?_
  refine zlEnd (by kernel_rfl) ?_
  refine zkSeq ?_
  refine zrSeq ?_
  refine zrReg ?_
  refine zlRun (n := 1) (j := 1) rfl (by kernel_rfl) ?_
  refine zlBool (d := 52) (op := (.cmpI .eql (.tmp 51) (.const (.int .i64 0)))) (g := none) (j := 2) (decide (z14.2.2 = 0)) rfl (by kernel_rfl) (by kernel_rfl) (by kernel_rfl) (fun hc => ?_) (fun hc => ?_)
  · replace hS := cond_t hc hS
    refine zlRun (n := 2) (j := 4) rfl (by kernel_rfl) ?_
    refine zlBool (d := 55) (op := (.cmpI .eql (.tmp 54) (.const (.int .i64 0)))) (g := (some (53, true))) (j := 5) (decide (z18.2.2 = 0)) rfl (by kernel_rfl) (by kernel_rfl) (by kernel_rfl) (fun hc => ?_) (fun hc => ?_)
    · replace hS := cond_t hc hS
      refine zlRun (n := 4) (j := 9) rfl (by kernel_rfl) ?_
      refine zlBool (d := 60) (op := (.eqA .false [(3, .int), (1, .str), (1, .bool)] (.tmp 58) (.tmp 59))) (g := (some (57, true))) (j := 10) (decide (z14.1.Mode = z18.1.Mode) && (decide (z14.1.Cmd = z18.1.Cmd) && (decide (z14.1.Opt = z18.1.Opt) && (decide (z14.1.Buf = z18.1.Buf) && (decide (z14.1.Over = z18.1.Over) && true))))) rfl (by kernel_rfl) (by kernel_rfl) (by kernel_rfl) (fun hc => ?_) (fun hc => ?_)
      · replace hS := cond_t hc hS
        refine zlRun (n := 3) (j := 13) rfl (by kernel_rfl) ?_
        refine bindE hS (fun z19 hz19 hS => ?_)
        refine zlOp (d := some 64) (op := (.call 16 [(.tmp 63)])) (g := (some (62, true))) (v := (.r (.msl 520 1 0 z19.length))) (ups := [(520, ⟨1, some (.own 31 4 (e_GTok.cells z19))⟩)]) (j := 14) rfl (by kernel_rfl) (by kernel_rfl) (ev_call (args := [(.r (.msl 160 0 0 p20.length))]) (l := [(.d (.sl p20.length (e_GTok.cells p20)))]) (r := (.r (.own 0 31 4 z19.length (e_GTok.cells z19)))) (by kernel_rfl) (l_cons (l_own e_GTok (e := 31) (k := 4) (xs := p20) (by kernel_rfl) rfl rfl) l_nil) (f16_ok (d - 1) (dpt hd rfl) p20 z19 hz19) (by simp only [free_own e_GTok (fun _ => rfl), free_tup, free_agg, free_nl, free_cs, free_int, free_bool, free_str, free_un, free_ni, free_s0, Bool.and_true, Bool.or_true, Bool.and_self]) (by kernel_rfl) (by kernel_rfl)) ?_
        refine zlRun (n := 1) (j := 15) rfl (by kernel_rfl) ?_
        refine bindE hS (fun z20 hz20 hS => ?_)
        refine zlOp (d := some 66) (op := (.app 31 4 40 (.tmp 64) (.tmp 65))) (g := (some (62, true))) (v := (.r (.msl 520 2 0 z20.length))) (ups := [(520, ⟨2, some (.own 31 4 (e_GTok.cells z20))⟩)]) (j := 16) rfl (by kernel_rfl) (by kernel_rfl) (ev_app e_GTok (b := 520) (g := 1) (n := z19.length) (xs := z19) (ys := z14.2.1) ((congrArg (asL _) (by kernel_rfl : ρof _ (.tmp 65) = (.r (.msl 312 1 0 z14.2.1.length)))).trans (as_whole e_GTok (e := 31) (k := 4) (xs := z14.2.1) (by kernel_rfl) rfl rfl)) rfl (by kernel_rfl) rfl (by kernel_rfl) rfl hz20) ?_
        refine bindE hS (fun z21 hz21 hS => ?_)
        refine zlOp (d := some 67) (op := (.call 13 [(.tmp 66)])) (g := (some (62, true))) (v := (.r (.msl 544 1 0 z21.length))) (ups := [(544, ⟨1, some (.own 31 4 (e_GTok.cells z21))⟩)]) (j := 17) rfl (by kernel_rfl) (by kernel_rfl) (ev_call (args := [(.r (.msl 520 2 0 z20.length))]) (l := [(.d (.sl z20.length (e_GTok.cells z20)))]) (r := (.r (.own 0 31 4 z21.length (e_GTok.cells z21)))) (by kernel_rfl) (l_cons (l_own e_GTok (e := 31) (k := 4) (xs := z20) (by kernel_rfl) rfl rfl) l_nil) (f13_ok (d - 1) (dpt hd rfl) z20 z21 hz21) (by simp only [free_own e_GTok (fun _ => rfl), free_tup, free_agg, free_nl, free_cs, free_int, free_bool, free_str, free_un, free_ni, free_s0, Bool.and_true, Bool.or_true, Bool.and_self]) (by kernel_rfl) (by kernel_rfl)) ?_
        refine zlRun (n := 1) (j := 18) rfl (by kernel_rfl) ?_
        refine bindE hS (fun z22 hz22 hS => ?_)
        refine zlOp (d := some 69) (op := (.call 12 [(.tmp 67), (.tmp 68)])) (g := (some (62, true))) (v := (.d (.bool z22))) (ups := []) (j := 19) rfl (by kernel_rfl) (by kernel_rfl) (ev_call (args := [(.r (.msl 544 1 0 z21.length)), (.r (.msl 384 1 0 z18.2.1.length))]) (l := [(.d (.sl z21.length (e_GTok.cells z21))), (.d (.sl z18.2.1.length (e_GTok.cells z18.2.1)))]) (r := (.d (.bool z22))) (by kernel_rfl) (l_cons (l_own e_GTok (e := 31) (k := 4) (xs := z21) (by kernel_rfl) rfl rfl) (l_cons (l_own e_GTok (e := 31) (k := 4) (xs := z18.2.1) (by kernel_rfl) rfl rfl) l_nil)) (f12_ok (d - 1) (dpt hd rfl) z21 z18.2.1 z22 hz22) (by kernel_rfl) (by kernel_rfl) (by kernel_rfl)) ?_
        refine zlRun (n := 2) (j := 21) rfl (by kernel_rfl) ?_
        refine zlEnd (by kernel_rfl) ?_
        refine zkSeq ?_
        refine zrRet ?_
        refine zkNil ?_
        exact endQ hS hQ (fRet ((congrArg (fun s => outR s 0 c6.res) (by kernel_rfl : finSt c6.fin _ = f6_fin z22)).trans (f6_out z22)))
      · replace hS := cond_f hc hS
        refine zlRun (n := 11) (j := 21) rfl (by kernel_rfl) ?_
        refine zlEnd (by kernel_rfl) ?_
        refine zkSeq ?_
        refine zrRet ?_
        refine zkNil ?_
        exact endQ hS hQ (fRet ((congrArg (fun s => outR s 0 c6.res) (by kernel_rfl : finSt c6.fin _ = f6_fin false)).trans (f6_out false)))
    · replace hS := cond_f hc hS
      refine zlRun (n := 16) (j := 21) rfl (by kernel_rfl) ?_
      refine zlEnd (by kernel_rfl) ?_
      refine zkSeq ?_
      refine zrRet ?_
      refine zkNil ?_
      exact endQ hS hQ (fRet ((congrArg (fun s => outR s 0 c6.res) (by kernel_rfl : finSt c6.fin _ = f6_fin false)).trans (f6_out false)))
  · replace hS := cond_f hc hS
    refine zlRun (n := 19) (j := 21) rfl (by kernel_rfl) ?_
    refine zlEnd (by kernel_rfl) ?_
    refine zkSeq ?_
    refine zrRet ?_
    refine zkNil ?_
    exact endQ hS hQ (fRet ((congrArg (fun s => outR s 0 c6.res) (by kernel_rfl : finSt c6.fin _ = f6_fin false)).trans (f6_out false)))
def f6_j1_J (a1 : GWire) (a2 : List UInt8) (a3 : List UInt8) (p22 : GWire) : St := ⟨(up (up (fun _ => .un) 7 (.r (.ptr 64 0 0))) 3 (.r (.ptr 32 0 0))), (up (up (hB fun _ => 0) 64 ⟨0, some (.box ((.d (.int .i64 p22.Mode)) :: ((.d (.int .i64 p22.Cmd)) :: ((.d (.int .i64 p22.Opt)) :: ((.d (.str p22.Buf)) :: ((.d (.bool p22.Over)) :: []))))))⟩) 32 ⟨0, some (.box ((.d (.int .i64 a1.Mode)) :: ((.d (.int .i64 a1.Cmd)) :: ((.d (.int .i64 a1.Opt)) :: ((.d (.str a1.Buf)) :: ((.d (.bool a1.Over)) :: []))))))⟩)⟩
noncomputable def f6_j1 (a1 : GWire) (a2 : List UInt8) (a3 : List UInt8) (p22 : GWire) : Option (Bool) := (f10.bind fun z24 => (bif z24 then (bif (decide (p22.Mode = a1.Mode) && (decide (p22.Cmd = a1.Cmd) && (decide (p22.Opt = a1.Opt) && (decide (p22.Buf = a1.Buf) && (decide (p22.Over = a1.Over) && true))))) then (some true) else (some false)) else (some false)))
theorem f6_j1_ok {d : Nat} (hd : 7 ≤ d) (a1 : GWire) (a2 : List UInt8) (a3 : List UInt8) {r : Bool} {Q : PX → St → Prop} (hQ : ∀ e st', f6_Q r e st' → Q e st') (p22 : GWire) (hS : f6_j1 a1 a2 a3 p22 = some r) {st : St} (he : keepSt [3, 7] [(32, .id 32), (64, .id 64)] [] st = f6_j1_J a1 a2 a3 p22) : ZR (lev codes baseL (d - 1)) Q c6_2 [.seq c6_1] st := by
  refine zrKeep he ?_
  unfold f6_j1 at hS
  refine zrSeq ?_
  refine zrReg ?_
  refine bindE hS (fun z24 hz24 hS => ?_)
  refine zlOp (d := some 29) (op := (.call 10 [])) (g := none) (v := (.d (.bool z24))) (ups := []) (j := 1) rfl (by kernel_rfl) (by kernel_rfl) (ev_call (args := []) (l := []) (r := (.d (.bool z24))) (by kernel_rfl) (by kernel_rfl) (f10_ok (d - 1) (dpt hd rfl)  z24 hz24) (by kernel_rfl) (by kernel_rfl) (by kernel_rfl)) ?_
  refine zlRun (n := 1) (j := 2) rfl (by kernel_rfl) ?_
  refine zlSplit 30 z24 (by kernel_rfl) (fun hc => ?_) (fun hc => ?_)
  · replace hS := cond_t hc hS
    refine zlRun (n := 2) (j := 4) rfl (by kernel_rfl) ?_
    refine zlBool (d := 33) (op := (.eqA .false [(3, .int), (1, .str), (1, .bool)] (.tmp 31) (.tmp 32))) (g := (some (30, true))) (j := 5) (decide (p22.Mode = a1.Mode) && (decide (p22.Cmd = a1.Cmd) && (decide (p22.Opt = a1.Opt) && (decide (p22.Buf = a1.Buf) && (decide (p22.Over = a1.Over) && true))))) rfl (by kernel_rfl) (by kernel_rfl) (by kernel_rfl) (fun hc => ?_) (fun hc => ?_)
    · replace hS := cond_t hc hS
      refine zlRun (n := 2) (j := 7) rfl (by kernel_rfl) ?_
      refine zlEnd (by kernel_rfl) ?_
      refine zkSeq ?_
      refine zrRet ?_
      refine zkSeqR ?_
      refine zkNil ?_
      exact endQ hS hQ (fRet ((congrArg (fun s => outR s 0 c6.res) (by kernel_rfl : finSt c6.fin _ = f6_fin true)).trans (f6_out true)))
    · replace hS := cond_f hc hS
      refine zlRun (n := 2) (j := 7) rfl (by kernel_rfl) ?_
      refine zlEnd (by kernel_rfl) ?_
      refine zkSeq ?_
      refine zrRet ?_
      refine zkSeqR ?_
      refine zkNil ?_
      exact endQ hS hQ (fRet ((congrArg (fun s => outR s 0 c6.res) (by kernel_rfl : finSt c6.fin _ = f6_fin false)).trans (f6_out false)))
  · replace hS := cond_f hc hS
    refine zlRun (n := 5) (j := 7) rfl (by kernel_rfl) ?_
    refine zlEnd (by kernel_rfl) ?_
    refine zkSeq ?_
    refine zrRet ?_
    refine zkSeqR ?_
    refine zkNil ?_
    exact endQ hS hQ (fRet ((congrArg (fun s => outR s 0 c6.res) (by kernel_rfl : finSt c6.fin _ = f6_fin false)).trans (f6_out false)))
noncomputable def f6 (a1 : GWire) (a2 : List UInt8) (a3 : List UInt8) : Option (Bool) := ((f8 a1 a2).bind fun z11 => (f10.bind fun z25 => (bif (!z25) then (f6_j1 a1 a2 a3 z11.1) else (bif (!decide (z11.2.2 = 0)) then (f6_j1 a1 a2 a3 z11.1) else (f6_j0 a1 a2 a3 z11.1 z11.2.1)))))
theorem f6_ok (d : Nat) (hd : 7 ≤ d) (a1 : GWire) (a2 : List UInt8) (a3 : List UInt8) (r : Bool) (hS : f6 a1 a2 a3 = some r) : lev codes baseL d 6 [(.agg ((.d (.int .i64 a1.Mode)) :: ((.d (.int .i64 a1.Cmd)) :: ((.d (.int .i64 a1.Opt)) :: ((.d (.str a1.Buf)) :: ((.d (.bool a1.Over)) :: [])))))), (.d (.str a2)), (.d (.str a3))] [] = some ((.d (.bool r)), []) := by
  refine lev_go codes6 rfl rfl (Nat.le_trans (Nat.le_of_ble_eq_true rfl) hd) fun Q hQ => ?_
  unfold f6 at hS
  show ZR _ Q c6_b [] _
  replace hQ : ∀ e st', f6_Q r e st' → Q e st' := hQ
  refine zrSeq ?_
  refine zrReg ?_
  refine zlRun (n := 2) (j := 2) rfl (by kernel_rfl) ?_
  refine zlEnd (by kernel_rfl) ?_
  refine zkSeq ?_
  refine zrSeq ?_
  refine zrReg ?_
  refine zlRun (n := 2) (j := 2) rfl (by kernel_rfl) ?_
  refine bindE hS (fun z11 hz11 hS => ?_)
  refine zlOp (d := some 19) (op := (.call 8 [(.tmp 17), (.tmp 18)])) (g := none) (v := (.tup [(.agg ((.d (.int .i64 z11.1.Mode)) :: ((.d (.int .i64 z11.1.Cmd)) :: ((.d (.int .i64 z11.1.Opt)) :: ((.d (.str z11.1.Buf)) :: ((.d (.bool z11.1.Over)) :: [])))))), (.r (.msl 160 1 0 z11.2.1.length)), (.d (.int .i64 z11.2.2))])) (ups := [(160, ⟨1, some (.own 31 4 (e_GTok.cells z11.2.1))⟩)]) (j := 3) rfl (by kernel_rfl) (by kernel_rfl) (ev_call (args := [(.agg ((.d (.int .i64 a1.Mode)) :: ((.d (.int .i64 a1.Cmd)) :: ((.d (.int .i64 a1.Opt)) :: ((.d (.str a1.Buf)) :: ((.d (.bool a1.Over)) :: [])))))), (.d (.str a2))]) (l := [(.agg ((.d (.int .i64 a1.Mode)) :: ((.d (.int .i64 a1.Cmd)) :: ((.d (.int .i64 a1.Opt)) :: ((.d (.str a1.Buf)) :: ((.d (.bool a1.Over)) :: [])))))), (.d (.str a2))]) (r := (.tup [(.agg ((.d (.int .i64 z11.1.Mode)) :: ((.d (.int .i64 z11.1.Cmd)) :: ((.d (.int .i64 z11.1.Opt)) :: ((.d (.str z11.1.Buf)) :: ((.d (.bool z11.1.Over)) :: [])))))), (.r (.own 0 31 4 z11.2.1.length (e_GTok.cells z11.2.1))), (.d (.int .i64 z11.2.2))])) (by kernel_rfl) (by kernel_rfl) (f8_ok (d - 1) (dpt hd rfl) a1 a2 z11 hz11) (by kernel_rfl) (by kernel_rfl) (by kernel_rfl)) ?_
  refine zlRun (n := 8) (j := 11) rfl (by kernel_rfl) ?_
  refine zlEnd (by kernel_rfl) ?_
  refine zkSeq ?_
  refine zrSeq ?_
  refine zrSeq ?_
  refine zrReg ?_
  refine bindE hS (fun z25 hz25 hS => ?_)
  refine zlOp (d := some 23) (op := (.call 10 [])) (g := none) (v := (.d (.bool z25))) (ups := []) (j := 1) rfl (by kernel_rfl) (by kernel_rfl) (ev_call (args := []) (l := []) (r := (.d (.bool z25))) (by kernel_rfl) (by kernel_rfl) (f10_ok (d - 1) (dpt hd rfl)  z25 hz25) (by kernel_rfl) (by kernel_rfl) (by kernel_rfl)) ?_
  refine zlRun (n := 2) (j := 3) rfl (by kernel_rfl) ?_
  refine zlSplit 25 (!z25) (by kernel_rfl) (fun hc => ?_) (fun hc => ?_)
  · replace hS := cond_t hc hS
    refine zlRun (n := 3) (j := 6) rfl (by kernel_rfl) ?_
    refine zlEnd (by kernel_rfl) ?_
    refine zkSeq ?_
    refine zrCondT (by kernel_rfl) ?_
    exact f6_j1_ok hd a1 a2 a3 hQ z11.1 hS (by kernel_rfl)
  · replace hS := cond_f hc hS
    refine zlRun (n := 1) (j := 4) rfl (by kernel_rfl) ?_
    refine zlBool (d := 27) (op := (.cmpI .neq (.tmp 26) (.const (.int .i64 0)))) (g := (some (25, false))) (j := 5) (!decide (z11.2.2 = 0)) rfl (by kernel_rfl) (by kernel_rfl) (by kernel_rfl) (fun hc => ?_) (fun hc => ?_)
    · replace hS := cond_t hc hS
      refine zlRun (n := 1) (j := 6) rfl (by kernel_rfl) ?_
      refine zlEnd (by kernel_rfl) ?_
      refine zkSeq ?_
      refine zrCondT (by kernel_rfl) ?_
      exact f6_j1_ok hd a1 a2 a3 hQ z11.1 hS (by kernel_rfl)
    · replace hS := cond_f hc hS
      refine zlRun (n := 1) (j := 6) rfl (by kernel_rfl) ?_
      refine zlEnd (by kernel_rfl) ?_
      refine zkSeq ?_
      refine zrCondF (by kernel_rfl) ?_
      refine zrSkip ?_
      refine zkSeq ?_
      exact f6_j0_ok hd a1 a2 a3 hQ z11.1 z11.2.1 hS (by kernel_rfl)
end Go.Proofs.YtjndlncimgoacaaDoor.Pm
