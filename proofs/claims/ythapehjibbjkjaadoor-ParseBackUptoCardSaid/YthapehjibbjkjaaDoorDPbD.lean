/- Typed functions, and that the codes are these. Printed by dec.py. -/
import Derived.Test.YthapehjibbjkjaaDoorDPbC
namespace Go.Proofs.YthapehjibbjkjaaDoor.Pm
set_option maxRecDepth 1000000
set_option maxHeartbeats 20000000
set_option linter.unusedVariables false
/- farwriter/parse.plain -/
def f8_fin (p62 : Bool) : St := ⟨(up (fun _ => .un) 2 (.d (.bool p62))), (hB fun _ => 0)⟩
theorem f8_out (p62 : Bool) : outR (f8_fin p62) 0 c8.res = some ((.d (.bool p62)), []) := by
  kernel_rfl
def f8_Q (r : Bool) (e : PX) (st : St) : Prop := DoneF c8 0 ((.d (.bool r)), []) e st
def f8_j0_J (a1 : GAct) (p80 : Bool) (p81 : Bool) (p82 : Bool) : St := ⟨(up (up (up (up (fun _ => .un) 5 (.d (.bool p82))) 4 (.d (.bool p81))) 3 (.d (.bool p80))) 1 (.r (.ptr 16 0 0))), (up (hB fun _ => 0) 16 ⟨0, some (.box ((.d (.int .i64 a1.Kind)) :: ((.d (.int .i64 a1.Code)) :: ((.d (.int .i64 a1.Mark)) :: ((.d (.str a1.Inter)) :: ((.d (.sl a1.Args.length ((eInt .i64).cells a1.Args))) :: ((.d (.str a1.Text)) :: [])))))))⟩)⟩
noncomputable def f8_j0 (a1 : GAct) (p80 : Bool) (p81 : Bool) (p82 : Bool) : Option (Bool) := (bif p80 then (bif p80 then (bif p82 then (bif (!p82) then (some true) else (bif (decide (a1.Code = 0)) then (some true) else (some false))) else (bif (decide (a1.Text = ([] : List UInt8))) then (bif (!p82) then (some true) else (bif (decide (a1.Code = 0)) then (some true) else (some false))) else (some false))) else (bif p81 then (bif p82 then (bif (!p82) then (some true) else (bif (decide (a1.Code = 0)) then (some true) else (some false))) else (bif (decide (a1.Text = ([] : List UInt8))) then (bif (!p82) then (some true) else (bif (decide (a1.Code = 0)) then (some true) else (some false))) else (some false))) else (bif (decide (a1.Inter = ([] : List UInt8))) then (bif p82 then (bif (!p82) then (some true) else (bif (decide (a1.Code = 0)) then (some true) else (some false))) else (bif (decide (a1.Text = ([] : List UInt8))) then (bif (!p82) then (some true) else (bif (decide (a1.Code = 0)) then (some true) else (some false))) else (some false))) else (some false)))) else (bif (decide (a1.Mark = 0)) then (bif (decide ((a1.Args.length : Int) = 0)) then (bif p80 then (bif p82 then (bif (!p82) then (some true) else (bif (decide (a1.Code = 0)) then (some true) else (some false))) else (bif (decide (a1.Text = ([] : List UInt8))) then (bif (!p82) then (some true) else (bif (decide (a1.Code = 0)) then (some true) else (some false))) else (some false))) else (bif p81 then (bif p82 then (bif (!p82) then (some true) else (bif (decide (a1.Code = 0)) then (some true) else (some false))) else (bif (decide (a1.Text = ([] : List UInt8))) then (bif (!p82) then (some true) else (bif (decide (a1.Code = 0)) then (some true) else (some false))) else (some false))) else (bif (decide (a1.Inter = ([] : List UInt8))) then (bif p82 then (bif (!p82) then (some true) else (bif (decide (a1.Code = 0)) then (some true) else (some false))) else (bif (decide (a1.Text = ([] : List UInt8))) then (bif (!p82) then (some true) else (bif (decide (a1.Code = 0)) then (some true) else (some false))) else (some false))) else (some false)))) else (some false)) else (some false)))
theorem f8_j0_ok {d : Nat} (hd : 1 ≤ d) (a1 : GAct) {r : Bool} {Q : PX → St → Prop} (hQ : ∀ e st', f8_Q r e st' → Q e st') (p80 : Bool) (p81 : Bool) (p82 : Bool) (hS : f8_j0 a1 p80 p81 p82 = some r) {st : St} (he : keepSt [1, 3, 4, 5] [(16, .id 16)] [] st = f8_j0_J a1 p80 p81 p82) : ZR (lev codes baseL (d - 1)) Q c8_1 [] st := by
  refine zrKeep he ?_
  unfold f8_j0 at hS
  refine zrSeq ?_
  refine zrReg ?_
  refine zlRun (n := 2) (j := 2) rfl (by kernel_rfl) ?_
  refine zlSplit 16 p80 (by kernel_rfl) (fun hc => ?_) (fun hc => ?_)
  · replace hS := cond_t hc hS
    refine zlRun (n := 13) (j := 15) rfl (by kernel_rfl) ?_
    refine zlSplit 29 p80 (by kernel_rfl) (fun hc => ?_) (fun hc => ?_)
    · replace hS := cond_t hc hS
      refine zlRun (n := 11) (j := 26) rfl (by kernel_rfl) ?_
      refine zlSplit 40 p82 (by kernel_rfl) (fun hc => ?_) (fun hc => ?_)
      · replace hS := cond_t hc hS
        refine zlRun (n := 9) (j := 35) rfl (by kernel_rfl) ?_
        refine zlSplit 49 (!p82) (by kernel_rfl) (fun hc => ?_) (fun hc => ?_)
        · replace hS := cond_t hc hS
          refine zlRun (n := 6) (j := 41) rfl (by kernel_rfl) ?_
          refine zlEnd (by kernel_rfl) ?_
          refine zkSeq ?_
          refine zrRet ?_
          refine zkNil ?_
          exact endQ hS hQ (fRet (by kernel_rfl) ((congrArg (fun s => outR s 0 c8.res) (by kernel_rfl : finSt c8.fin _ = f8_fin true)).trans (f8_out true)))
        · replace hS := cond_f hc hS
          refine zlRun (n := 2) (j := 37) rfl (by kernel_rfl) ?_
          refine zlBool (d := 52) (op := (.cmpI .eql (.tmp 51) (.const (.int .i64 0)))) (g := (some (49, false))) (j := 38) (decide (a1.Code = 0)) rfl (by kernel_rfl) (by kernel_rfl) (by kernel_rfl) (fun hc => ?_) (fun hc => ?_)
          · replace hS := cond_t hc hS
            refine zlRun (n := 3) (j := 41) rfl (by kernel_rfl) ?_
            refine zlEnd (by kernel_rfl) ?_
            refine zkSeq ?_
            refine zrRet ?_
            refine zkNil ?_
            exact endQ hS hQ (fRet (by kernel_rfl) ((congrArg (fun s => outR s 0 c8.res) (by kernel_rfl : finSt c8.fin _ = f8_fin true)).trans (f8_out true)))
          · replace hS := cond_f hc hS
            refine zlRun (n := 3) (j := 41) rfl (by kernel_rfl) ?_
            refine zlEnd (by kernel_rfl) ?_
            refine zkSeq ?_
            refine zrRet ?_
            refine zkNil ?_
            exact endQ hS hQ (fRet (by kernel_rfl) ((congrArg (fun s => outR s 0 c8.res) (by kernel_rfl : finSt c8.fin _ = f8_fin false)).trans (f8_out false)))
      · replace hS := cond_f hc hS
        refine zlRun (n := 2) (j := 28) rfl (by kernel_rfl) ?_
        refine zlBool (d := 43) (op := (.strO .eql (.tmp 42) (.const (.string ⟨#[]⟩)))) (g := (some (40, false))) (j := 29) (decide (a1.Text = ([] : List UInt8))) rfl (by kernel_rfl) (by kernel_rfl) (by kernel_rfl) (fun hc => ?_) (fun hc => ?_)
        · replace hS := cond_t hc hS
          refine zlRun (n := 6) (j := 35) rfl (by kernel_rfl) ?_
          refine zlSplit 49 (!p82) (by kernel_rfl) (fun hc => ?_) (fun hc => ?_)
          · replace hS := cond_t hc hS
            refine zlRun (n := 6) (j := 41) rfl (by kernel_rfl) ?_
            refine zlEnd (by kernel_rfl) ?_
            refine zkSeq ?_
            refine zrRet ?_
            refine zkNil ?_
            exact endQ hS hQ (fRet (by kernel_rfl) ((congrArg (fun s => outR s 0 c8.res) (by kernel_rfl : finSt c8.fin _ = f8_fin true)).trans (f8_out true)))
          · replace hS := cond_f hc hS
            refine zlRun (n := 2) (j := 37) rfl (by kernel_rfl) ?_
            refine zlBool (d := 52) (op := (.cmpI .eql (.tmp 51) (.const (.int .i64 0)))) (g := (some (49, false))) (j := 38) (decide (a1.Code = 0)) rfl (by kernel_rfl) (by kernel_rfl) (by kernel_rfl) (fun hc => ?_) (fun hc => ?_)
            · replace hS := cond_t hc hS
              refine zlRun (n := 3) (j := 41) rfl (by kernel_rfl) ?_
              refine zlEnd (by kernel_rfl) ?_
              refine zkSeq ?_
              refine zrRet ?_
              refine zkNil ?_
              exact endQ hS hQ (fRet (by kernel_rfl) ((congrArg (fun s => outR s 0 c8.res) (by kernel_rfl : finSt c8.fin _ = f8_fin true)).trans (f8_out true)))
            · replace hS := cond_f hc hS
              refine zlRun (n := 3) (j := 41) rfl (by kernel_rfl) ?_
              refine zlEnd (by kernel_rfl) ?_
              refine zkSeq ?_
              refine zrRet ?_
              refine zkNil ?_
              exact endQ hS hQ (fRet (by kernel_rfl) ((congrArg (fun s => outR s 0 c8.res) (by kernel_rfl : finSt c8.fin _ = f8_fin false)).trans (f8_out false)))
        · replace hS := cond_f hc hS
          refine zlRun (n := 12) (j := 41) rfl (by kernel_rfl) ?_
          refine zlEnd (by kernel_rfl) ?_
          refine zkSeq ?_
          refine zrRet ?_
          refine zkNil ?_
          exact endQ hS hQ (fRet (by kernel_rfl) ((congrArg (fun s => outR s 0 c8.res) (by kernel_rfl : finSt c8.fin _ = f8_fin false)).trans (f8_out false)))
    · replace hS := cond_f hc hS
      refine zlRun (n := 3) (j := 18) rfl (by kernel_rfl) ?_
      refine zlSplit 32 p81 (by kernel_rfl) (fun hc => ?_) (fun hc => ?_)
      · replace hS := cond_t hc hS
        refine zlRun (n := 8) (j := 26) rfl (by kernel_rfl) ?_
        refine zlSplit 40 p82 (by kernel_rfl) (fun hc => ?_) (fun hc => ?_)
        · replace hS := cond_t hc hS
          refine zlRun (n := 9) (j := 35) rfl (by kernel_rfl) ?_
          refine zlSplit 49 (!p82) (by kernel_rfl) (fun hc => ?_) (fun hc => ?_)
          · replace hS := cond_t hc hS
            refine zlRun (n := 6) (j := 41) rfl (by kernel_rfl) ?_
            refine zlEnd (by kernel_rfl) ?_
            refine zkSeq ?_
            refine zrRet ?_
            refine zkNil ?_
            exact endQ hS hQ (fRet (by kernel_rfl) ((congrArg (fun s => outR s 0 c8.res) (by kernel_rfl : finSt c8.fin _ = f8_fin true)).trans (f8_out true)))
          · replace hS := cond_f hc hS
            refine zlRun (n := 2) (j := 37) rfl (by kernel_rfl) ?_
            refine zlBool (d := 52) (op := (.cmpI .eql (.tmp 51) (.const (.int .i64 0)))) (g := (some (49, false))) (j := 38) (decide (a1.Code = 0)) rfl (by kernel_rfl) (by kernel_rfl) (by kernel_rfl) (fun hc => ?_) (fun hc => ?_)
            · replace hS := cond_t hc hS
              refine zlRun (n := 3) (j := 41) rfl (by kernel_rfl) ?_
              refine zlEnd (by kernel_rfl) ?_
              refine zkSeq ?_
              refine zrRet ?_
              refine zkNil ?_
              exact endQ hS hQ (fRet (by kernel_rfl) ((congrArg (fun s => outR s 0 c8.res) (by kernel_rfl : finSt c8.fin _ = f8_fin true)).trans (f8_out true)))
            · replace hS := cond_f hc hS
              refine zlRun (n := 3) (j := 41) rfl (by kernel_rfl) ?_
              refine zlEnd (by kernel_rfl) ?_
              refine zkSeq ?_
              refine zrRet ?_
              refine zkNil ?_
              exact endQ hS hQ (fRet (by kernel_rfl) ((congrArg (fun s => outR s 0 c8.res) (by kernel_rfl : finSt c8.fin _ = f8_fin false)).trans (f8_out false)))
        · replace hS := cond_f hc hS
          refine zlRun (n := 2) (j := 28) rfl (by kernel_rfl) ?_
          refine zlBool (d := 43) (op := (.strO .eql (.tmp 42) (.const (.string ⟨#[]⟩)))) (g := (some (40, false))) (j := 29) (decide (a1.Text = ([] : List UInt8))) rfl (by kernel_rfl) (by kernel_rfl) (by kernel_rfl) (fun hc => ?_) (fun hc => ?_)
          · replace hS := cond_t hc hS
            refine zlRun (n := 6) (j := 35) rfl (by kernel_rfl) ?_
            refine zlSplit 49 (!p82) (by kernel_rfl) (fun hc => ?_) (fun hc => ?_)
            · replace hS := cond_t hc hS
              refine zlRun (n := 6) (j := 41) rfl (by kernel_rfl) ?_
              refine zlEnd (by kernel_rfl) ?_
              refine zkSeq ?_
              refine zrRet ?_
              refine zkNil ?_
              exact endQ hS hQ (fRet (by kernel_rfl) ((congrArg (fun s => outR s 0 c8.res) (by kernel_rfl : finSt c8.fin _ = f8_fin true)).trans (f8_out true)))
            · replace hS := cond_f hc hS
              refine zlRun (n := 2) (j := 37) rfl (by kernel_rfl) ?_
              refine zlBool (d := 52) (op := (.cmpI .eql (.tmp 51) (.const (.int .i64 0)))) (g := (some (49, false))) (j := 38) (decide (a1.Code = 0)) rfl (by kernel_rfl) (by kernel_rfl) (by kernel_rfl) (fun hc => ?_) (fun hc => ?_)
              · replace hS := cond_t hc hS
                refine zlRun (n := 3) (j := 41) rfl (by kernel_rfl) ?_
                refine zlEnd (by kernel_rfl) ?_
                refine zkSeq ?_
                refine zrRet ?_
                refine zkNil ?_
                exact endQ hS hQ (fRet (by kernel_rfl) ((congrArg (fun s => outR s 0 c8.res) (by kernel_rfl : finSt c8.fin _ = f8_fin true)).trans (f8_out true)))
              · replace hS := cond_f hc hS
                refine zlRun (n := 3) (j := 41) rfl (by kernel_rfl) ?_
                refine zlEnd (by kernel_rfl) ?_
                refine zkSeq ?_
                refine zrRet ?_
                refine zkNil ?_
                exact endQ hS hQ (fRet (by kernel_rfl) ((congrArg (fun s => outR s 0 c8.res) (by kernel_rfl : finSt c8.fin _ = f8_fin false)).trans (f8_out false)))
          · replace hS := cond_f hc hS
            refine zlRun (n := 12) (j := 41) rfl (by kernel_rfl) ?_
            refine zlEnd (by kernel_rfl) ?_
            refine zkSeq ?_
            refine zrRet ?_
            refine zkNil ?_
            exact endQ hS hQ (fRet (by kernel_rfl) ((congrArg (fun s => outR s 0 c8.res) (by kernel_rfl : finSt c8.fin _ = f8_fin false)).trans (f8_out false)))
      · replace hS := cond_f hc hS
        refine zlRun (n := 2) (j := 20) rfl (by kernel_rfl) ?_
        refine zlBool (d := 35) (op := (.strO .eql (.tmp 34) (.const (.string ⟨#[]⟩)))) (g := (some (32, false))) (j := 21) (decide (a1.Inter = ([] : List UInt8))) rfl (by kernel_rfl) (by kernel_rfl) (by kernel_rfl) (fun hc => ?_) (fun hc => ?_)
        · replace hS := cond_t hc hS
          refine zlRun (n := 5) (j := 26) rfl (by kernel_rfl) ?_
          refine zlSplit 40 p82 (by kernel_rfl) (fun hc => ?_) (fun hc => ?_)
          · replace hS := cond_t hc hS
            refine zlRun (n := 9) (j := 35) rfl (by kernel_rfl) ?_
            refine zlSplit 49 (!p82) (by kernel_rfl) (fun hc => ?_) (fun hc => ?_)
            · replace hS := cond_t hc hS
              refine zlRun (n := 6) (j := 41) rfl (by kernel_rfl) ?_
              refine zlEnd (by kernel_rfl) ?_
              refine zkSeq ?_
              refine zrRet ?_
              refine zkNil ?_
              exact endQ hS hQ (fRet (by kernel_rfl) ((congrArg (fun s => outR s 0 c8.res) (by kernel_rfl : finSt c8.fin _ = f8_fin true)).trans (f8_out true)))
            · replace hS := cond_f hc hS
              refine zlRun (n := 2) (j := 37) rfl (by kernel_rfl) ?_
              refine zlBool (d := 52) (op := (.cmpI .eql (.tmp 51) (.const (.int .i64 0)))) (g := (some (49, false))) (j := 38) (decide (a1.Code = 0)) rfl (by kernel_rfl) (by kernel_rfl) (by kernel_rfl) (fun hc => ?_) (fun hc => ?_)
              · replace hS := cond_t hc hS
                refine zlRun (n := 3) (j := 41) rfl (by kernel_rfl) ?_
                refine zlEnd (by kernel_rfl) ?_
                refine zkSeq ?_
                refine zrRet ?_
                refine zkNil ?_
                exact endQ hS hQ (fRet (by kernel_rfl) ((congrArg (fun s => outR s 0 c8.res) (by kernel_rfl : finSt c8.fin _ = f8_fin true)).trans (f8_out true)))
              · replace hS := cond_f hc hS
                refine zlRun (n := 3) (j := 41) rfl (by kernel_rfl) ?_
                refine zlEnd (by kernel_rfl) ?_
                refine zkSeq ?_
                refine zrRet ?_
                refine zkNil ?_
                exact endQ hS hQ (fRet (by kernel_rfl) ((congrArg (fun s => outR s 0 c8.res) (by kernel_rfl : finSt c8.fin _ = f8_fin false)).trans (f8_out false)))
          · replace hS := cond_f hc hS
            refine zlRun (n := 2) (j := 28) rfl (by kernel_rfl) ?_
            refine zlBool (d := 43) (op := (.strO .eql (.tmp 42) (.const (.string ⟨#[]⟩)))) (g := (some (40, false))) (j := 29) (decide (a1.Text = ([] : List UInt8))) rfl (by kernel_rfl) (by kernel_rfl) (by kernel_rfl) (fun hc => ?_) (fun hc => ?_)
            · replace hS := cond_t hc hS
              refine zlRun (n := 6) (j := 35) rfl (by kernel_rfl) ?_
              refine zlSplit 49 (!p82) (by kernel_rfl) (fun hc => ?_) (fun hc => ?_)
              · replace hS := cond_t hc hS
                refine zlRun (n := 6) (j := 41) rfl (by kernel_rfl) ?_
                refine zlEnd (by kernel_rfl) ?_
                refine zkSeq ?_
                refine zrRet ?_
                refine zkNil ?_
                exact endQ hS hQ (fRet (by kernel_rfl) ((congrArg (fun s => outR s 0 c8.res) (by kernel_rfl : finSt c8.fin _ = f8_fin true)).trans (f8_out true)))
              · replace hS := cond_f hc hS
                refine zlRun (n := 2) (j := 37) rfl (by kernel_rfl) ?_
                refine zlBool (d := 52) (op := (.cmpI .eql (.tmp 51) (.const (.int .i64 0)))) (g := (some (49, false))) (j := 38) (decide (a1.Code = 0)) rfl (by kernel_rfl) (by kernel_rfl) (by kernel_rfl) (fun hc => ?_) (fun hc => ?_)
                · replace hS := cond_t hc hS
                  refine zlRun (n := 3) (j := 41) rfl (by kernel_rfl) ?_
                  refine zlEnd (by kernel_rfl) ?_
                  refine zkSeq ?_
                  refine zrRet ?_
                  refine zkNil ?_
                  exact endQ hS hQ (fRet (by kernel_rfl) ((congrArg (fun s => outR s 0 c8.res) (by kernel_rfl : finSt c8.fin _ = f8_fin true)).trans (f8_out true)))
                · replace hS := cond_f hc hS
                  refine zlRun (n := 3) (j := 41) rfl (by kernel_rfl) ?_
                  refine zlEnd (by kernel_rfl) ?_
                  refine zkSeq ?_
                  refine zrRet ?_
                  refine zkNil ?_
                  exact endQ hS hQ (fRet (by kernel_rfl) ((congrArg (fun s => outR s 0 c8.res) (by kernel_rfl : finSt c8.fin _ = f8_fin false)).trans (f8_out false)))
            · replace hS := cond_f hc hS
              refine zlRun (n := 12) (j := 41) rfl (by kernel_rfl) ?_
              refine zlEnd (by kernel_rfl) ?_
              refine zkSeq ?_
              refine zrRet ?_
              refine zkNil ?_
              exact endQ hS hQ (fRet (by kernel_rfl) ((congrArg (fun s => outR s 0 c8.res) (by kernel_rfl : finSt c8.fin _ = f8_fin false)).trans (f8_out false)))
        · replace hS := cond_f hc hS
          refine zlRun (n := 20) (j := 41) rfl (by kernel_rfl) ?_
          refine zlEnd (by kernel_rfl) ?_
          refine zkSeq ?_
          refine zrRet ?_
          refine zkNil ?_
          exact endQ hS hQ (fRet (by kernel_rfl) ((congrArg (fun s => outR s 0 c8.res) (by kernel_rfl : finSt c8.fin _ = f8_fin false)).trans (f8_out false)))
  · replace hS := cond_f hc hS
    refine zlRun (n := 2) (j := 4) rfl (by kernel_rfl) ?_
    refine zlBool (d := 19) (op := (.cmpI .eql (.tmp 18) (.const (.int .i64 0)))) (g := (some (16, false))) (j := 5) (decide (a1.Mark = 0)) rfl (by kernel_rfl) (by kernel_rfl) (by kernel_rfl) (fun hc => ?_) (fun hc => ?_)
    · replace hS := cond_t hc hS
      refine zlRun (n := 4) (j := 9) rfl (by kernel_rfl) ?_
      refine zlBool (d := 24) (op := (.cmpI .eql (.tmp 23) (.const (.int .i64 0)))) (g := (some (20, true))) (j := 10) (decide ((a1.Args.length : Int) = 0)) rfl (by kernel_rfl) (by kernel_rfl) (by kernel_rfl) (fun hc => ?_) (fun hc => ?_)
      · replace hS := cond_t hc hS
        refine zlRun (n := 5) (j := 15) rfl (by kernel_rfl) ?_
        refine zlSplit 29 p80 (by kernel_rfl) (fun hc => ?_) (fun hc => ?_)
        · replace hS := cond_t hc hS
          refine zlRun (n := 11) (j := 26) rfl (by kernel_rfl) ?_
          refine zlSplit 40 p82 (by kernel_rfl) (fun hc => ?_) (fun hc => ?_)
          · replace hS := cond_t hc hS
            refine zlRun (n := 9) (j := 35) rfl (by kernel_rfl) ?_
            refine zlSplit 49 (!p82) (by kernel_rfl) (fun hc => ?_) (fun hc => ?_)
            · replace hS := cond_t hc hS
              refine zlRun (n := 6) (j := 41) rfl (by kernel_rfl) ?_
              refine zlEnd (by kernel_rfl) ?_
              refine zkSeq ?_
              refine zrRet ?_
              refine zkNil ?_
              exact endQ hS hQ (fRet (by kernel_rfl) ((congrArg (fun s => outR s 0 c8.res) (by kernel_rfl : finSt c8.fin _ = f8_fin true)).trans (f8_out true)))
            · replace hS := cond_f hc hS
              refine zlRun (n := 2) (j := 37) rfl (by kernel_rfl) ?_
              refine zlBool (d := 52) (op := (.cmpI .eql (.tmp 51) (.const (.int .i64 0)))) (g := (some (49, false))) (j := 38) (decide (a1.Code = 0)) rfl (by kernel_rfl) (by kernel_rfl) (by kernel_rfl) (fun hc => ?_) (fun hc => ?_)
              · replace hS := cond_t hc hS
                refine zlRun (n := 3) (j := 41) rfl (by kernel_rfl) ?_
                refine zlEnd (by kernel_rfl) ?_
                refine zkSeq ?_
                refine zrRet ?_
                refine zkNil ?_
                exact endQ hS hQ (fRet (by kernel_rfl) ((congrArg (fun s => outR s 0 c8.res) (by kernel_rfl : finSt c8.fin _ = f8_fin true)).trans (f8_out true)))
              · replace hS := cond_f hc hS
                refine zlRun (n := 3) (j := 41) rfl (by kernel_rfl) ?_
                refine zlEnd (by kernel_rfl) ?_
                refine zkSeq ?_
                refine zrRet ?_
                refine zkNil ?_
                exact endQ hS hQ (fRet (by kernel_rfl) ((congrArg (fun s => outR s 0 c8.res) (by kernel_rfl : finSt c8.fin _ = f8_fin false)).trans (f8_out false)))
          · replace hS := cond_f hc hS
            refine zlRun (n := 2) (j := 28) rfl (by kernel_rfl) ?_
            refine zlBool (d := 43) (op := (.strO .eql (.tmp 42) (.const (.string ⟨#[]⟩)))) (g := (some (40, false))) (j := 29) (decide (a1.Text = ([] : List UInt8))) rfl (by kernel_rfl) (by kernel_rfl) (by kernel_rfl) (fun hc => ?_) (fun hc => ?_)
            · replace hS := cond_t hc hS
              refine zlRun (n := 6) (j := 35) rfl (by kernel_rfl) ?_
              refine zlSplit 49 (!p82) (by kernel_rfl) (fun hc => ?_) (fun hc => ?_)
              · replace hS := cond_t hc hS
                refine zlRun (n := 6) (j := 41) rfl (by kernel_rfl) ?_
                refine zlEnd (by kernel_rfl) ?_
                refine zkSeq ?_
                refine zrRet ?_
                refine zkNil ?_
                exact endQ hS hQ (fRet (by kernel_rfl) ((congrArg (fun s => outR s 0 c8.res) (by kernel_rfl : finSt c8.fin _ = f8_fin true)).trans (f8_out true)))
              · replace hS := cond_f hc hS
                refine zlRun (n := 2) (j := 37) rfl (by kernel_rfl) ?_
                refine zlBool (d := 52) (op := (.cmpI .eql (.tmp 51) (.const (.int .i64 0)))) (g := (some (49, false))) (j := 38) (decide (a1.Code = 0)) rfl (by kernel_rfl) (by kernel_rfl) (by kernel_rfl) (fun hc => ?_) (fun hc => ?_)
                · replace hS := cond_t hc hS
                  refine zlRun (n := 3) (j := 41) rfl (by kernel_rfl) ?_
                  refine zlEnd (by kernel_rfl) ?_
                  refine zkSeq ?_
                  refine zrRet ?_
                  refine zkNil ?_
                  exact endQ hS hQ (fRet (by kernel_rfl) ((congrArg (fun s => outR s 0 c8.res) (by kernel_rfl : finSt c8.fin _ = f8_fin true)).trans (f8_out true)))
                · replace hS := cond_f hc hS
                  refine zlRun (n := 3) (j := 41) rfl (by kernel_rfl) ?_
                  refine zlEnd (by kernel_rfl) ?_
                  refine zkSeq ?_
                  refine zrRet ?_
                  refine zkNil ?_
                  exact endQ hS hQ (fRet (by kernel_rfl) ((congrArg (fun s => outR s 0 c8.res) (by kernel_rfl : finSt c8.fin _ = f8_fin false)).trans (f8_out false)))
            · replace hS := cond_f hc hS
              refine zlRun (n := 12) (j := 41) rfl (by kernel_rfl) ?_
              refine zlEnd (by kernel_rfl) ?_
              refine zkSeq ?_
              refine zrRet ?_
              refine zkNil ?_
              exact endQ hS hQ (fRet (by kernel_rfl) ((congrArg (fun s => outR s 0 c8.res) (by kernel_rfl : finSt c8.fin _ = f8_fin false)).trans (f8_out false)))
        · replace hS := cond_f hc hS
          refine zlRun (n := 3) (j := 18) rfl (by kernel_rfl) ?_
          refine zlSplit 32 p81 (by kernel_rfl) (fun hc => ?_) (fun hc => ?_)
          · replace hS := cond_t hc hS
            refine zlRun (n := 8) (j := 26) rfl (by kernel_rfl) ?_
            refine zlSplit 40 p82 (by kernel_rfl) (fun hc => ?_) (fun hc => ?_)
            · replace hS := cond_t hc hS
              refine zlRun (n := 9) (j := 35) rfl (by kernel_rfl) ?_
              refine zlSplit 49 (!p82) (by kernel_rfl) (fun hc => ?_) (fun hc => ?_)
              · replace hS := cond_t hc hS
                refine zlRun (n := 6) (j := 41) rfl (by kernel_rfl) ?_
                refine zlEnd (by kernel_rfl) ?_
                refine zkSeq ?_
                refine zrRet ?_
                refine zkNil ?_
                exact endQ hS hQ (fRet (by kernel_rfl) ((congrArg (fun s => outR s 0 c8.res) (by kernel_rfl : finSt c8.fin _ = f8_fin true)).trans (f8_out true)))
              · replace hS := cond_f hc hS
                refine zlRun (n := 2) (j := 37) rfl (by kernel_rfl) ?_
                refine zlBool (d := 52) (op := (.cmpI .eql (.tmp 51) (.const (.int .i64 0)))) (g := (some (49, false))) (j := 38) (decide (a1.Code = 0)) rfl (by kernel_rfl) (by kernel_rfl) (by kernel_rfl) (fun hc => ?_) (fun hc => ?_)
                · replace hS := cond_t hc hS
                  refine zlRun (n := 3) (j := 41) rfl (by kernel_rfl) ?_
                  refine zlEnd (by kernel_rfl) ?_
                  refine zkSeq ?_
                  refine zrRet ?_
                  refine zkNil ?_
                  exact endQ hS hQ (fRet (by kernel_rfl) ((congrArg (fun s => outR s 0 c8.res) (by kernel_rfl : finSt c8.fin _ = f8_fin true)).trans (f8_out true)))
                · replace hS := cond_f hc hS
                  refine zlRun (n := 3) (j := 41) rfl (by kernel_rfl) ?_
                  refine zlEnd (by kernel_rfl) ?_
                  refine zkSeq ?_
                  refine zrRet ?_
                  refine zkNil ?_
                  exact endQ hS hQ (fRet (by kernel_rfl) ((congrArg (fun s => outR s 0 c8.res) (by kernel_rfl : finSt c8.fin _ = f8_fin false)).trans (f8_out false)))
            · replace hS := cond_f hc hS
              refine zlRun (n := 2) (j := 28) rfl (by kernel_rfl) ?_
              refine zlBool (d := 43) (op := (.strO .eql (.tmp 42) (.const (.string ⟨#[]⟩)))) (g := (some (40, false))) (j := 29) (decide (a1.Text = ([] : List UInt8))) rfl (by kernel_rfl) (by kernel_rfl) (by kernel_rfl) (fun hc => ?_) (fun hc => ?_)
              · replace hS := cond_t hc hS
                refine zlRun (n := 6) (j := 35) rfl (by kernel_rfl) ?_
                refine zlSplit 49 (!p82) (by kernel_rfl) (fun hc => ?_) (fun hc => ?_)
                · replace hS := cond_t hc hS
                  refine zlRun (n := 6) (j := 41) rfl (by kernel_rfl) ?_
                  refine zlEnd (by kernel_rfl) ?_
                  refine zkSeq ?_
                  refine zrRet ?_
                  refine zkNil ?_
                  exact endQ hS hQ (fRet (by kernel_rfl) ((congrArg (fun s => outR s 0 c8.res) (by kernel_rfl : finSt c8.fin _ = f8_fin true)).trans (f8_out true)))
                · replace hS := cond_f hc hS
                  refine zlRun (n := 2) (j := 37) rfl (by kernel_rfl) ?_
                  refine zlBool (d := 52) (op := (.cmpI .eql (.tmp 51) (.const (.int .i64 0)))) (g := (some (49, false))) (j := 38) (decide (a1.Code = 0)) rfl (by kernel_rfl) (by kernel_rfl) (by kernel_rfl) (fun hc => ?_) (fun hc => ?_)
                  · replace hS := cond_t hc hS
                    refine zlRun (n := 3) (j := 41) rfl (by kernel_rfl) ?_
                    refine zlEnd (by kernel_rfl) ?_
                    refine zkSeq ?_
                    refine zrRet ?_
                    refine zkNil ?_
                    exact endQ hS hQ (fRet (by kernel_rfl) ((congrArg (fun s => outR s 0 c8.res) (by kernel_rfl : finSt c8.fin _ = f8_fin true)).trans (f8_out true)))
                  · replace hS := cond_f hc hS
                    refine zlRun (n := 3) (j := 41) rfl (by kernel_rfl) ?_
                    refine zlEnd (by kernel_rfl) ?_
                    refine zkSeq ?_
                    refine zrRet ?_
                    refine zkNil ?_
                    exact endQ hS hQ (fRet (by kernel_rfl) ((congrArg (fun s => outR s 0 c8.res) (by kernel_rfl : finSt c8.fin _ = f8_fin false)).trans (f8_out false)))
              · replace hS := cond_f hc hS
                refine zlRun (n := 12) (j := 41) rfl (by kernel_rfl) ?_
                refine zlEnd (by kernel_rfl) ?_
                refine zkSeq ?_
                refine zrRet ?_
                refine zkNil ?_
                exact endQ hS hQ (fRet (by kernel_rfl) ((congrArg (fun s => outR s 0 c8.res) (by kernel_rfl : finSt c8.fin _ = f8_fin false)).trans (f8_out false)))
          · replace hS := cond_f hc hS
            refine zlRun (n := 2) (j := 20) rfl (by kernel_rfl) ?_
            refine zlBool (d := 35) (op := (.strO .eql (.tmp 34) (.const (.string ⟨#[]⟩)))) (g := (some (32, false))) (j := 21) (decide (a1.Inter = ([] : List UInt8))) rfl (by kernel_rfl) (by kernel_rfl) (by kernel_rfl) (fun hc => ?_) (fun hc => ?_)
            · replace hS := cond_t hc hS
              refine zlRun (n := 5) (j := 26) rfl (by kernel_rfl) ?_
              refine zlSplit 40 p82 (by kernel_rfl) (fun hc => ?_) (fun hc => ?_)
              · replace hS := cond_t hc hS
                refine zlRun (n := 9) (j := 35) rfl (by kernel_rfl) ?_
                refine zlSplit 49 (!p82) (by kernel_rfl) (fun hc => ?_) (fun hc => ?_)
                · replace hS := cond_t hc hS
                  refine zlRun (n := 6) (j := 41) rfl (by kernel_rfl) ?_
                  refine zlEnd (by kernel_rfl) ?_
                  refine zkSeq ?_
                  refine zrRet ?_
                  refine zkNil ?_
                  exact endQ hS hQ (fRet (by kernel_rfl) ((congrArg (fun s => outR s 0 c8.res) (by kernel_rfl : finSt c8.fin _ = f8_fin true)).trans (f8_out true)))
                · replace hS := cond_f hc hS
                  refine zlRun (n := 2) (j := 37) rfl (by kernel_rfl) ?_
                  refine zlBool (d := 52) (op := (.cmpI .eql (.tmp 51) (.const (.int .i64 0)))) (g := (some (49, false))) (j := 38) (decide (a1.Code = 0)) rfl (by kernel_rfl) (by kernel_rfl) (by kernel_rfl) (fun hc => ?_) (fun hc => ?_)
                  · replace hS := cond_t hc hS
                    refine zlRun (n := 3) (j := 41) rfl (by kernel_rfl) ?_
                    refine zlEnd (by kernel_rfl) ?_
                    refine zkSeq ?_
                    refine zrRet ?_
                    refine zkNil ?_
                    exact endQ hS hQ (fRet (by kernel_rfl) ((congrArg (fun s => outR s 0 c8.res) (by kernel_rfl : finSt c8.fin _ = f8_fin true)).trans (f8_out true)))
                  · replace hS := cond_f hc hS
                    refine zlRun (n := 3) (j := 41) rfl (by kernel_rfl) ?_
                    refine zlEnd (by kernel_rfl) ?_
                    refine zkSeq ?_
                    refine zrRet ?_
                    refine zkNil ?_
                    exact endQ hS hQ (fRet (by kernel_rfl) ((congrArg (fun s => outR s 0 c8.res) (by kernel_rfl : finSt c8.fin _ = f8_fin false)).trans (f8_out false)))
              · replace hS := cond_f hc hS
                refine zlRun (n := 2) (j := 28) rfl (by kernel_rfl) ?_
                refine zlBool (d := 43) (op := (.strO .eql (.tmp 42) (.const (.string ⟨#[]⟩)))) (g := (some (40, false))) (j := 29) (decide (a1.Text = ([] : List UInt8))) rfl (by kernel_rfl) (by kernel_rfl) (by kernel_rfl) (fun hc => ?_) (fun hc => ?_)
                · replace hS := cond_t hc hS
                  refine zlRun (n := 6) (j := 35) rfl (by kernel_rfl) ?_
                  refine zlSplit 49 (!p82) (by kernel_rfl) (fun hc => ?_) (fun hc => ?_)
                  · replace hS := cond_t hc hS
                    refine zlRun (n := 6) (j := 41) rfl (by kernel_rfl) ?_
                    refine zlEnd (by kernel_rfl) ?_
                    refine zkSeq ?_
                    refine zrRet ?_
                    refine zkNil ?_
                    exact endQ hS hQ (fRet (by kernel_rfl) ((congrArg (fun s => outR s 0 c8.res) (by kernel_rfl : finSt c8.fin _ = f8_fin true)).trans (f8_out true)))
                  · replace hS := cond_f hc hS
                    refine zlRun (n := 2) (j := 37) rfl (by kernel_rfl) ?_
                    refine zlBool (d := 52) (op := (.cmpI .eql (.tmp 51) (.const (.int .i64 0)))) (g := (some (49, false))) (j := 38) (decide (a1.Code = 0)) rfl (by kernel_rfl) (by kernel_rfl) (by kernel_rfl) (fun hc => ?_) (fun hc => ?_)
                    · replace hS := cond_t hc hS
                      refine zlRun (n := 3) (j := 41) rfl (by kernel_rfl) ?_
                      refine zlEnd (by kernel_rfl) ?_
                      refine zkSeq ?_
                      refine zrRet ?_
                      refine zkNil ?_
                      exact endQ hS hQ (fRet (by kernel_rfl) ((congrArg (fun s => outR s 0 c8.res) (by kernel_rfl : finSt c8.fin _ = f8_fin true)).trans (f8_out true)))
                    · replace hS := cond_f hc hS
                      refine zlRun (n := 3) (j := 41) rfl (by kernel_rfl) ?_
                      refine zlEnd (by kernel_rfl) ?_
                      refine zkSeq ?_
                      refine zrRet ?_
                      refine zkNil ?_
                      exact endQ hS hQ (fRet (by kernel_rfl) ((congrArg (fun s => outR s 0 c8.res) (by kernel_rfl : finSt c8.fin _ = f8_fin false)).trans (f8_out false)))
                · replace hS := cond_f hc hS
                  refine zlRun (n := 12) (j := 41) rfl (by kernel_rfl) ?_
                  refine zlEnd (by kernel_rfl) ?_
                  refine zkSeq ?_
                  refine zrRet ?_
                  refine zkNil ?_
                  exact endQ hS hQ (fRet (by kernel_rfl) ((congrArg (fun s => outR s 0 c8.res) (by kernel_rfl : finSt c8.fin _ = f8_fin false)).trans (f8_out false)))
            · replace hS := cond_f hc hS
              refine zlRun (n := 20) (j := 41) rfl (by kernel_rfl) ?_
              refine zlEnd (by kernel_rfl) ?_
              refine zkSeq ?_
              refine zrRet ?_
              refine zkNil ?_
              exact endQ hS hQ (fRet (by kernel_rfl) ((congrArg (fun s => outR s 0 c8.res) (by kernel_rfl : finSt c8.fin _ = f8_fin false)).trans (f8_out false)))
      · replace hS := cond_f hc hS
        refine zlRun (n := 31) (j := 41) rfl (by kernel_rfl) ?_
        refine zlEnd (by kernel_rfl) ?_
        refine zkSeq ?_
        refine zrRet ?_
        refine zkNil ?_
        exact endQ hS hQ (fRet (by kernel_rfl) ((congrArg (fun s => outR s 0 c8.res) (by kernel_rfl : finSt c8.fin _ = f8_fin false)).trans (f8_out false)))
    · replace hS := cond_f hc hS
      refine zlRun (n := 36) (j := 41) rfl (by kernel_rfl) ?_
      refine zlEnd (by kernel_rfl) ?_
      refine zkSeq ?_
      refine zrRet ?_
      refine zkNil ?_
      exact endQ hS hQ (fRet (by kernel_rfl) ((congrArg (fun s => outR s 0 c8.res) (by kernel_rfl : finSt c8.fin _ = f8_fin false)).trans (f8_out false)))
noncomputable def f8 (a1 : GAct) : Option (Bool) := (bif (decide (a1.Kind = 4)) then (bif (decide (a1.Kind = 3)) then (bif (decide (a1.Kind = 5)) then (f8_j0 a1 true true true) else (f8_j0 a1 true true false)) else (bif (decide (a1.Kind = 5)) then (f8_j0 a1 true false true) else (f8_j0 a1 true false false))) else (bif (decide (a1.Kind = 3)) then (bif (decide (a1.Kind = 5)) then (f8_j0 a1 false true true) else (f8_j0 a1 false true false)) else (bif (decide (a1.Kind = 5)) then (f8_j0 a1 false false true) else (f8_j0 a1 false false false))))
theorem f8_ok (d : Nat) (hd : 1 ≤ d) (a1 : GAct) (r : Bool) (hS : f8 a1 = some r) : lev codes baseL d 8 [(.agg ((.d (.int .i64 a1.Kind)) :: ((.d (.int .i64 a1.Code)) :: ((.d (.int .i64 a1.Mark)) :: ((.d (.str a1.Inter)) :: ((.d (.sl a1.Args.length ((eInt .i64).cells a1.Args))) :: ((.d (.str a1.Text)) :: [])))))))] [] = some ((.d (.bool r)), []) := by
  refine lev_go codes8 rfl rfl (Nat.le_trans (Nat.le_of_ble_eq_true rfl) hd) fun Q hQ => ?_
  unfold f8 at hS
  show ZR _ Q c8_b [] _
  replace hQ : ∀ e st', f8_Q r e st' → Q e st' := hQ
  refine zrSeq ?_
  refine zrReg ?_
  refine zlRun (n := 2) (j := 2) rfl (by kernel_rfl) ?_
  refine zlEnd (by kernel_rfl) ?_
  refine zkSeq ?_
  refine zrSeq ?_
  refine zrRegD ?_
  refine zdRun (n := 2) (j := 2) (ts := [[], [(16, false)]]) (acc' := [[], [(16, false)]]) rfl (by kernel_rfl) (by kernel_rfl) (by kernel_rfl) ?_
  refine zdBool (d := 8) (op := (.cmpI .eql (.tmp 7) (.const (.int .i64 4)))) (g := none) (j := 3) (t1 := []) (acc' := [[], [(16, false)], []]) (decide (a1.Kind = 4)) (by kernel_rfl) (by kernel_rfl) rfl (by kernel_rfl) (by kernel_rfl) (by kernel_rfl) (fun hc => ?_) (fun hc => ?_)
  · replace hS := cond_t hc hS
    refine zdRun (n := 2) (j := 5) (ts := [[], [(16, false)]]) (acc' := [[], [(16, false)], [], [], [(16, false)]]) rfl (by kernel_rfl) (by kernel_rfl) (by kernel_rfl) ?_
    refine zdBool (d := 11) (op := (.cmpI .eql (.tmp 10) (.const (.int .i64 3)))) (g := none) (j := 6) (t1 := []) (acc' := [[], [(16, false)], [], [], [(16, false)], []]) (decide (a1.Kind = 3)) (by kernel_rfl) (by kernel_rfl) rfl (by kernel_rfl) (by kernel_rfl) (by kernel_rfl) (fun hc => ?_) (fun hc => ?_)
    · replace hS := cond_t hc hS
      refine zdRun (n := 2) (j := 8) (ts := [[], [(16, false)]]) (acc' := [[], [(16, false)], [], [], [(16, false)], [], [], [(16, false)]]) rfl (by kernel_rfl) (by kernel_rfl) (by kernel_rfl) ?_
      refine zdBool (d := 14) (op := (.cmpI .eql (.tmp 13) (.const (.int .i64 5)))) (g := none) (j := 9) (t1 := []) (acc' := [[], [(16, false)], [], [], [(16, false)], [], [], [(16, false)], []]) (decide (a1.Kind = 5)) (by kernel_rfl) (by kernel_rfl) rfl (by kernel_rfl) (by kernel_rfl) (by kernel_rfl) (fun hc => ?_) (fun hc => ?_)
      · replace hS := cond_t hc hS
        refine zdRun (n := 3) (j := 12) (ts := [[], [], []]) (acc' := [[], [(16, false)], [], [], [(16, false)], [], [], [(16, false)], [], [], [], []]) rfl (by kernel_rfl) (by kernel_rfl) (by kernel_rfl) ?_
        refine zdEnd (by kernel_rfl) (by kernel_rfl) ?_
        refine zkSeq ?_
        exact f8_j0_ok hd a1 hQ true true true hS (by kernel_rfl)
      · replace hS := cond_f hc hS
        refine zdRun (n := 3) (j := 12) (ts := [[], [], []]) (acc' := [[], [(16, false)], [], [], [(16, false)], [], [], [(16, false)], [], [], [], []]) rfl (by kernel_rfl) (by kernel_rfl) (by kernel_rfl) ?_
        refine zdEnd (by kernel_rfl) (by kernel_rfl) ?_
        refine zkSeq ?_
        exact f8_j0_ok hd a1 hQ true true false hS (by kernel_rfl)
    · replace hS := cond_f hc hS
      refine zdRun (n := 2) (j := 8) (ts := [[], [(16, false)]]) (acc' := [[], [(16, false)], [], [], [(16, false)], [], [], [(16, false)]]) rfl (by kernel_rfl) (by kernel_rfl) (by kernel_rfl) ?_
      refine zdBool (d := 14) (op := (.cmpI .eql (.tmp 13) (.const (.int .i64 5)))) (g := none) (j := 9) (t1 := []) (acc' := [[], [(16, false)], [], [], [(16, false)], [], [], [(16, false)], []]) (decide (a1.Kind = 5)) (by kernel_rfl) (by kernel_rfl) rfl (by kernel_rfl) (by kernel_rfl) (by kernel_rfl) (fun hc => ?_) (fun hc => ?_)
      · replace hS := cond_t hc hS
        refine zdRun (n := 3) (j := 12) (ts := [[], [], []]) (acc' := [[], [(16, false)], [], [], [(16, false)], [], [], [(16, false)], [], [], [], []]) rfl (by kernel_rfl) (by kernel_rfl) (by kernel_rfl) ?_
        refine zdEnd (by kernel_rfl) (by kernel_rfl) ?_
        refine zkSeq ?_
        exact f8_j0_ok hd a1 hQ true false true hS (by kernel_rfl)
      · replace hS := cond_f hc hS
        refine zdRun (n := 3) (j := 12) (ts := [[], [], []]) (acc' := [[], [(16, false)], [], [], [(16, false)], [], [], [(16, false)], [], [], [], []]) rfl (by kernel_rfl) (by kernel_rfl) (by kernel_rfl) ?_
        refine zdEnd (by kernel_rfl) (by kernel_rfl) ?_
        refine zkSeq ?_
        exact f8_j0_ok hd a1 hQ true false false hS (by kernel_rfl)
  · replace hS := cond_f hc hS
    refine zdRun (n := 2) (j := 5) (ts := [[], [(16, false)]]) (acc' := [[], [(16, false)], [], [], [(16, false)]]) rfl (by kernel_rfl) (by kernel_rfl) (by kernel_rfl) ?_
    refine zdBool (d := 11) (op := (.cmpI .eql (.tmp 10) (.const (.int .i64 3)))) (g := none) (j := 6) (t1 := []) (acc' := [[], [(16, false)], [], [], [(16, false)], []]) (decide (a1.Kind = 3)) (by kernel_rfl) (by kernel_rfl) rfl (by kernel_rfl) (by kernel_rfl) (by kernel_rfl) (fun hc => ?_) (fun hc => ?_)
    · replace hS := cond_t hc hS
      refine zdRun (n := 2) (j := 8) (ts := [[], [(16, false)]]) (acc' := [[], [(16, false)], [], [], [(16, false)], [], [], [(16, false)]]) rfl (by kernel_rfl) (by kernel_rfl) (by kernel_rfl) ?_
      refine zdBool (d := 14) (op := (.cmpI .eql (.tmp 13) (.const (.int .i64 5)))) (g := none) (j := 9) (t1 := []) (acc' := [[], [(16, false)], [], [], [(16, false)], [], [], [(16, false)], []]) (decide (a1.Kind = 5)) (by kernel_rfl) (by kernel_rfl) rfl (by kernel_rfl) (by kernel_rfl) (by kernel_rfl) (fun hc => ?_) (fun hc => ?_)
      · replace hS := cond_t hc hS
        refine zdRun (n := 3) (j := 12) (ts := [[], [], []]) (acc' := [[], [(16, false)], [], [], [(16, false)], [], [], [(16, false)], [], [], [], []]) rfl (by kernel_rfl) (by kernel_rfl) (by kernel_rfl) ?_
        refine zdEnd (by kernel_rfl) (by kernel_rfl) ?_
        refine zkSeq ?_
        exact f8_j0_ok hd a1 hQ false true true hS (by kernel_rfl)
      · replace hS := cond_f hc hS
        refine zdRun (n := 3) (j := 12) (ts := [[], [], []]) (acc' := [[], [(16, false)], [], [], [(16, false)], [], [], [(16, false)], [], [], [], []]) rfl (by kernel_rfl) (by kernel_rfl) (by kernel_rfl) ?_
        refine zdEnd (by kernel_rfl) (by kernel_rfl) ?_
        refine zkSeq ?_
        exact f8_j0_ok hd a1 hQ false true false hS (by kernel_rfl)
    · replace hS := cond_f hc hS
      refine zdRun (n := 2) (j := 8) (ts := [[], [(16, false)]]) (acc' := [[], [(16, false)], [], [], [(16, false)], [], [], [(16, false)]]) rfl (by kernel_rfl) (by kernel_rfl) (by kernel_rfl) ?_
      refine zdBool (d := 14) (op := (.cmpI .eql (.tmp 13) (.const (.int .i64 5)))) (g := none) (j := 9) (t1 := []) (acc' := [[], [(16, false)], [], [], [(16, false)], [], [], [(16, false)], []]) (decide (a1.Kind = 5)) (by kernel_rfl) (by kernel_rfl) rfl (by kernel_rfl) (by kernel_rfl) (by kernel_rfl) (fun hc => ?_) (fun hc => ?_)
      · replace hS := cond_t hc hS
        refine zdRun (n := 3) (j := 12) (ts := [[], [], []]) (acc' := [[], [(16, false)], [], [], [(16, false)], [], [], [(16, false)], [], [], [], []]) rfl (by kernel_rfl) (by kernel_rfl) (by kernel_rfl) ?_
        refine zdEnd (by kernel_rfl) (by kernel_rfl) ?_
        refine zkSeq ?_
        exact f8_j0_ok hd a1 hQ false false true hS (by kernel_rfl)
      · replace hS := cond_f hc hS
        refine zdRun (n := 3) (j := 12) (ts := [[], [], []]) (acc' := [[], [(16, false)], [], [], [(16, false)], [], [], [(16, false)], [], [], [], []]) rfl (by kernel_rfl) (by kernel_rfl) (by kernel_rfl) ?_
        refine zdEnd (by kernel_rfl) (by kernel_rfl) ?_
        refine zkSeq ?_
        exact f8_j0_ok hd a1 hQ false false false hS (by kernel_rfl)
/- farwriter/parse.within -/
def f10_fin (p3 : Bool) : St := ⟨(up (fun _ => .un) 6 (.d (.bool p3))), (hB fun _ => 0)⟩
theorem f10_out (p3 : Bool) : outR (f10_fin p3) 0 c10.res = some ((.d (.bool p3)), []) := by
  kernel_rfl
def f10_Q (r : Bool) (e : PX) (st : St) : Prop := DoneF c10 0 ((.d (.bool r)), []) e st
noncomputable def f10 (a1 : Int) (a2 : Int) (a3 : Int) : Option (Bool) := (bif (decide (a2 ≤ a1)) then (bif (decide (a1 ≤ a3)) then (some true) else (some false)) else (some false))
theorem f10_ok (d : Nat) (hd : 1 ≤ d) (a1 : Int) (a2 : Int) (a3 : Int) (r : Bool) (hS : f10 a1 a2 a3 = some r) : lev codes baseL d 10 [(.d (.int .i64 a1)), (.d (.int .i64 a2)), (.d (.int .i64 a3))] [] = some ((.d (.bool r)), []) := by
  refine lev_go codes10 rfl rfl (Nat.le_trans (Nat.le_of_ble_eq_true rfl) hd) fun Q hQ => ?_
  unfold f10 at hS
  show ZR _ Q c10_b [] _
  replace hQ : ∀ e st', f10_Q r e st' → Q e st' := hQ
  refine zrSeq ?_
  refine zrReg ?_
  refine zlRun (n := 1) (j := 1) rfl (by kernel_rfl) ?_
  refine zlEnd (by kernel_rfl) ?_
  refine zkSeq ?_
  refine zrSeq ?_
  refine zrReg ?_
  refine zlRun (n := 2) (j := 2) rfl (by kernel_rfl) ?_
  refine zlBool (d := 9) (op := (.cmpI .geq (.tmp 7) (.tmp 8))) (g := none) (j := 3) (decide (a2 ≤ a1)) rfl (by kernel_rfl) (by kernel_rfl) (by kernel_rfl) (fun hc => ?_) (fun hc => ?_)
  · replace hS := cond_t hc hS
    refine zlRun (n := 3) (j := 6) rfl (by kernel_rfl) ?_
    refine zlBool (d := 13) (op := (.cmpI .leq (.tmp 11) (.tmp 12))) (g := (some (10, true))) (j := 7) (decide (a1 ≤ a3)) rfl (by kernel_rfl) (by kernel_rfl) (by kernel_rfl) (fun hc => ?_) (fun hc => ?_)
    · replace hS := cond_t hc hS
      refine zlRun (n := 2) (j := 9) rfl (by kernel_rfl) ?_
      refine zlEnd (by kernel_rfl) ?_
      refine zkSeq ?_
      refine zrRet ?_
      refine zkNil ?_
      exact endQ hS hQ (fRet (by kernel_rfl) ((congrArg (fun s => outR s 0 c10.res) (by kernel_rfl : finSt c10.fin _ = f10_fin true)).trans (f10_out true)))
    · replace hS := cond_f hc hS
      refine zlRun (n := 2) (j := 9) rfl (by kernel_rfl) ?_
      refine zlEnd (by kernel_rfl) ?_
      refine zkSeq ?_
      refine zrRet ?_
      refine zkNil ?_
      exact endQ hS hQ (fRet (by kernel_rfl) ((congrArg (fun s => outR s 0 c10.res) (by kernel_rfl : finSt c10.fin _ = f10_fin false)).trans (f10_out false)))
  · replace hS := cond_f hc hS
    refine zlRun (n := 6) (j := 9) rfl (by kernel_rfl) ?_
    refine zlEnd (by kernel_rfl) ?_
    refine zkSeq ?_
    refine zrRet ?_
    refine zkNil ?_
    exact endQ hS hQ (fRet (by kernel_rfl) ((congrArg (fun s => outR s 0 c10.res) (by kernel_rfl : finSt c10.fin _ = f10_fin false)).trans (f10_out false)))
/- farwriter/parse.code -/
def f9_fin (p2 : Bool) : St := ⟨(up (fun _ => .un) 2 (.d (.bool p2))), (hB fun _ => 0)⟩
theorem f9_out (p2 : Bool) : outR (f9_fin p2) 0 c9.res = some ((.d (.bool p2)), []) := by
  kernel_rfl
def f9_Q (r : Bool) (e : PX) (st : St) : Prop := DoneF c9 0 ((.d (.bool r)), []) e st
noncomputable def f9 (a1 : Int) : Option (Bool) := ((f10 a1 0 1114111).bind fun z3 => (bif z3 then ((f10 a1 55296 57343).bind fun z4 => (some (!z4))) else (some false)))
theorem f9_ok (d : Nat) (hd : 2 ≤ d) (a1 : Int) (r : Bool) (hS : f9 a1 = some r) : lev codes baseL d 9 [(.d (.int .i64 a1))] [] = some ((.d (.bool r)), []) := by
  refine lev_go codes9 rfl rfl (Nat.le_trans (Nat.le_of_ble_eq_true rfl) hd) fun Q hQ => ?_
  unfold f9 at hS
  show ZR _ Q c9_b [] _
  replace hQ : ∀ e st', f9_Q r e st' → Q e st' := hQ
  refine zrSeq ?_
  refine zrReg ?_
  refine zlRun (n := 1) (j := 1) rfl (by kernel_rfl) ?_
  refine zlEnd (by kernel_rfl) ?_
  refine zkSeq ?_
  refine zrSeq ?_
  refine zrReg ?_
  refine zlRun (n := 1) (j := 1) rfl (by kernel_rfl) ?_
  refine bindE hS (fun z3 hz3 hS => ?_)
  refine zlOp (d := some 4) (op := (.call 10 [(.tmp 3), (.const (.int .i64 0)), (.const (.int .i64 1114111))])) (g := none) (j := 2) rfl (by kernel_rfl) (by kernel_rfl) (ev_callA (by kernel_rfl) (f10_ok (d - 1) (dpt hd rfl) a1 0 1114111 z3 hz3) (by kernel_rfl) (by kernel_rfl)) ?_
  refine zlRun (n := 1) (j := 3) rfl (by kernel_rfl) ?_
  refine zlSplit 5 z3 (by kernel_rfl) (fun hc => ?_) (fun hc => ?_)
  · replace hS := cond_t hc hS
    refine zlRun (n := 1) (j := 4) rfl (by kernel_rfl) ?_
    refine bindE hS (fun z4 hz4 hS => ?_)
    refine zlOp (d := some 7) (op := (.call 10 [(.tmp 6), (.const (.int .i64 55296)), (.const (.int .i64 57343))])) (g := (some (5, true))) (j := 5) rfl (by kernel_rfl) (by kernel_rfl) (ev_callA (by kernel_rfl) (f10_ok (d - 1) (dpt hd rfl) a1 55296 57343 z4 hz4) (by kernel_rfl) (by kernel_rfl)) ?_
    refine zlRun (n := 3) (j := 8) rfl (by kernel_rfl) ?_
    refine zlEnd (by kernel_rfl) ?_
    refine zkSeq ?_
    refine zrRet ?_
    refine zkNil ?_
    exact endQ hS hQ (fRet (by kernel_rfl) ((congrArg (fun s => outR s 0 c9.res) (by kernel_rfl : finSt c9.fin _ = f9_fin (!z4))).trans (f9_out (!z4))))
  · replace hS := cond_f hc hS
    refine zlRun (n := 5) (j := 8) rfl (by kernel_rfl) ?_
    refine zlEnd (by kernel_rfl) ?_
    refine zkSeq ?_
    refine zrRet ?_
    refine zkNil ?_
    exact endQ hS hQ (fRet (by kernel_rfl) ((congrArg (fun s => outR s 0 c9.res) (by kernel_rfl : finSt c9.fin _ = f9_fin false)).trans (f9_out false)))
/- farwriter/parse.inters -/
def f11_fin (p9 : Bool) : St := ⟨(up (fun _ => .un) 4 (.d (.bool p9))), (hB fun _ => 0)⟩
theorem f11_out (p9 : Bool) : outR (f11_fin p9) 0 c11.res = some ((.d (.bool p9)), []) := by
  kernel_rfl
def f11_Q (r : Bool) (e : PX) (st : St) : Prop := DoneF c11 0 ((.d (.bool r)), []) e st
def f11_l0_J (a1 : List UInt8) (a2 : Int) (x : Int) : St := ⟨(up (up (up (up (fun _ => .un) 8 (.d (.int .i64 x))) 7 (.d (.int .i64 (a1.length : Int)))) 1 (.d (.int .i64 a2))) 0 (.d (.str a1))), (hB fun _ => 0)⟩
def f11_l0_H (a1 : List UInt8) (a2 : Int) (x : Int) (st : St) : Prop := keepSt [0, 1, 7, 8] [] [] st = f11_l0_J a1 a2 x
def f11_l0_e0_J (a1 : List UInt8) (a2 : Int) : St := ⟨(up (up (fun _ => .un) 1 (.d (.int .i64 a2))) 0 (.d (.str a1))), (hB fun _ => 0)⟩
def f11_l0_X (a1 : List UInt8) (a2 : Int) (z : Unit ⊕ Bool) (e : PX) (st : St) : Prop := (match z with | .inl z => e = .exit 0 ∧ st = f11_l0_e0_J a1 a2 | .inr z => e = .ret ∧ finSt c11.fin st = f11_fin z)
def f11_l0_j2_J (a1 : List UInt8) (a2 : Int) (p14 : Int) : St := ⟨(up (up (up (up (fun _ => .un) 8 (.d (.int .i64 p14))) 7 (.d (.int .i64 (a1.length : Int)))) 1 (.d (.int .i64 a2))) 0 (.d (.str a1))), (hB fun _ => 0)⟩
noncomputable def f11_l0_j2 (a1 : List UInt8) (a2 : Int) (p14 : Int) : Option (Int ⊕ (Unit ⊕ Bool)) := ((idx a1 p14).bind fun z7 => ((f10 (z7.toNat : Int) 32 47).bind fun z8 => (bif (!z8) then (some (.inr (.inr false))) else (some (.inl (IntKind.i64.wrap (p14 + 1)))))))
theorem f11_l0_j2_ok {d : Nat} (hd : 2 ≤ d) (a1 : List UInt8) (a2 : Int) {r : Int ⊕ (Unit ⊕ Bool)} {Q : PX → St → Prop} (hQ : ∀ e st', finL (f11_l0_H a1 a2) (f11_l0_X a1 a2) r e st' → Q e st') (p14 : Int) (hS : f11_l0_j2 a1 a2 p14 = some r) {st : St} (he : keepSt [0, 1, 7, 8] [] [] st = f11_l0_j2_J a1 a2 p14) : ZR (lev codes baseL (d - 1)) Q c11_1 [] st := by
  refine zrKeep he ?_
  unfold f11_l0_j2 at hS
  refine zrSeq ?_
  refine zrBlk ?_
  refine zrSeq ?_
  refine zrReg ?_
  refine zlRun (n := 2) (j := 2) rfl (by kernel_rfl) ?_
  refine zlEnd (by kernel_rfl) ?_
  refine zkSeq ?_
  refine zrSeq ?_
  refine zrReg ?_
  refine zlRun (n := 2) (j := 2) rfl (by kernel_rfl) ?_
  refine bindE hS (fun z7 hz7 hS => ?_)
  refine zlOp (d := some 13) (op := (.ixStr (.tmp 11) (.tmp 12))) (g := none) (v := (.d (.int .u8 (z7.toNat : Int)))) (ups := []) (j := 3) rfl (by kernel_rfl) (by kernel_rfl) (ev_ixStr (kk := .i64) (s := a1) (j := p14) (by kernel_rfl) (by kernel_rfl) hz7) ?_
  refine zlOp (d := some 14) (op := (.cvI .i64 (.tmp 13))) (g := none) (v := (.d (.int .i64 (z7.toNat : Int)))) (ups := []) (j := 4) rfl (by kernel_rfl) (by kernel_rfl) (ev_cv (kk := .u8) (a := (z7.toNat : Int)) (by kernel_rfl) (cv_i64 _)) ?_
  refine bindE hS (fun z8 hz8 hS => ?_)
  refine zlOp (d := some 15) (op := (.call 10 [(.tmp 14), (.const (.int .i64 32)), (.const (.int .i64 47))])) (g := none) (j := 5) rfl (by kernel_rfl) (by kernel_rfl) (ev_callA (by kernel_rfl) (f10_ok (d - 1) (dpt hd rfl) (z7.toNat : Int) 32 47 z8 hz8) (by kernel_rfl) (by kernel_rfl)) ?_
  refine zlRun (n := 1) (j := 6) rfl (by kernel_rfl) ?_
  refine zlEnd (by kernel_rfl) ?_
  refine zkSeq ?_
  refine zrSplit 16 (!z8) (by kernel_rfl) (fun hc => ?_) (fun hc => ?_)
  · replace hS := cond_t hc hS
    refine zrCondT (by kernel_rfl) ?_
    refine zrSeq ?_
    refine zrReg ?_
    refine zlRun (n := 1) (j := 1) rfl (by kernel_rfl) ?_
    refine zlEnd (by kernel_rfl) ?_
    refine zkSeq ?_
    refine zrRet ?_
    refine zkBlkR ?_
    refine zkSeqR ?_
    refine zkNil ?_
    exact endQ hS hQ (finL_x (by intro h; cases h) (by show _ = _ ∧ _ = _; exact ⟨rfl, by kernel_rfl⟩))
  · replace hS := cond_f hc hS
    refine zrCondF (by kernel_rfl) ?_
    refine zrSkip ?_
    refine zkBlk ?_
    refine zkSeq ?_
    refine zrReg ?_
    refine zlRun (n := 2) (j := 2) rfl (by kernel_rfl) ?_
    refine zlEnd (by kernel_rfl) ?_
    refine zkNil ?_
    exact endQ hS hQ (finL_n (by show keepSt _ _ _ _ = _; kernel_rfl))
def f11_l0_j1_J (a1 : List UInt8) (a2 : Int) (p12 : Int) (p13 : Bool) : St := ⟨(up (up (up (up (up (fun _ => .un) 9 (.d (.bool p13))) 8 (.d (.int .i64 p12))) 7 (.d (.int .i64 (a1.length : Int)))) 1 (.d (.int .i64 a2))) 0 (.d (.str a1))), (hB fun _ => 0)⟩
noncomputable def f11_l0_j1 (a1 : List UInt8) (a2 : Int) (p12 : Int) (p13 : Bool) : Option (Int ⊕ (Unit ⊕ Bool)) := (bif p13 then (f11_l0_j2 a1 a2 p12) else (some (.inr (.inl ()))))
theorem f11_l0_j1_ok {d : Nat} (hd : 2 ≤ d) (a1 : List UInt8) (a2 : Int) {r : Int ⊕ (Unit ⊕ Bool)} {Q : PX → St → Prop} (hQ : ∀ e st', finL (f11_l0_H a1 a2) (f11_l0_X a1 a2) r e st' → Q e st') (p12 : Int) (p13 : Bool) (hS : f11_l0_j1 a1 a2 p12 p13 = some r) {st : St} (he : keepSt [0, 1, 7, 8, 9] [] [] st = f11_l0_j1_J a1 a2 p12 p13) : ZR (lev codes baseL (d - 1)) Q c11_2 [] st := by
  refine zrKeep he ?_
  unfold f11_l0_j1 at hS
  refine zrSeq ?_
  refine zrSplit 9 p13 (by kernel_rfl) (fun hc => ?_) (fun hc => ?_)
  · replace hS := cond_t hc hS
    refine zrCondT (by kernel_rfl) ?_
    refine zrSkip ?_
    refine zkSeq ?_
    exact f11_l0_j2_ok hd a1 a2 hQ p12 hS (by kernel_rfl)
  · replace hS := cond_f hc hS
    refine zrCondF (by kernel_rfl) ?_
    refine zrKeep (J := f11_l0_e0_J a1 a2) (by kernel_rfl) ?_
    refine zrExit ?_
    refine zkSeqX ?_
    refine zkNil ?_
    exact endQ hS hQ (finL_x (by intro h; cases h) (by show _ = _ ∧ _ = _; exact ⟨rfl, rfl⟩))
noncomputable def f11_l0 (a1 : List UInt8) (a2 : Int) (x : Int) : Option (Int ⊕ (Unit ⊕ Bool)) := (bif (decide (x < (a1.length : Int))) then (f11_l0_j1 a1 a2 x true) else (f11_l0_j1 a1 a2 x false))
theorem f11_l0_ok {d : Nat} (hd : 2 ≤ d) (a1 : List UInt8) (a2 : Int) {r : Int ⊕ (Unit ⊕ Bool)} {Q : PX → St → Prop} (hQ : ∀ e st', finL (f11_l0_H a1 a2) (f11_l0_X a1 a2) r e st' → Q e st') {x : Int} (hS : f11_l0 a1 a2 x = some r) {st : St} (he : f11_l0_H a1 a2 x st) : ZR (lev codes baseL (d - 1)) Q c11_3 [] st := by
  refine zrKeep he ?_
  unfold f11_l0 at hS
  refine zrSeq ?_
  refine zrReg ?_
  refine zlBool (d := 9) (op := (.cmpI .lss (.tmp 8) (.tmp 7))) (g := none) (j := 1) (decide (x < (a1.length : Int))) rfl (by kernel_rfl) (by kernel_rfl) (by kernel_rfl) (fun hc => ?_) (fun hc => ?_)
  · replace hS := cond_t hc hS
    refine zlEnd (by kernel_rfl) ?_
    refine zkSeq ?_
    exact f11_l0_j1_ok hd a1 a2 hQ x true hS (by kernel_rfl)
  · replace hS := cond_f hc hS
    refine zlEnd (by kernel_rfl) ?_
    refine zkSeq ?_
    exact f11_l0_j1_ok hd a1 a2 hQ x false hS (by kernel_rfl)
noncomputable def f11 (a1 : List UInt8) (a2 : Int) : Option (Bool) := ((loopO (f11_l0 a1 a2) 0).bind fun z9 => (Sum.elim (fun z10 => (bif (decide ((a1.length : Int) ≤ a2)) then (some true) else (some false))) (fun z11 => (some z11)) z9))
theorem f11_ok (d : Nat) (hd : 2 ≤ d) (a1 : List UInt8) (a2 : Int) (r : Bool) (hS : f11 a1 a2 = some r) : lev codes baseL d 11 [(.d (.str a1)), (.d (.int .i64 a2))] [] = some ((.d (.bool r)), []) := by
  refine lev_go codes11 rfl rfl (Nat.le_trans (Nat.le_of_ble_eq_true rfl) hd) fun Q hQ => ?_
  unfold f11 at hS
  show ZR _ Q c11_b [] _
  replace hQ : ∀ e st', f11_Q r e st' → Q e st' := hQ
  refine zrSeq ?_
  refine zrReg ?_
  refine zlRun (n := 1) (j := 1) rfl (by kernel_rfl) ?_
  refine zlEnd (by kernel_rfl) ?_
  refine zkSeq ?_
  refine zrSeq ?_
  refine zrSeq ?_
  refine zrReg ?_
  refine zlRun (n := 3) (j := 3) rfl (by kernel_rfl) ?_
  refine zlEnd (by kernel_rfl) ?_
  refine zkSeq ?_
  refine zrBlk ?_
  refine bindE hS (fun z9 hz9 hS => ?_)
  refine zrLoop (f11_l0_H a1 a2) (f11_l0_X a1 a2) (fun x st r Q h0 hS hQ => f11_l0_ok hd a1 a2 hQ hS h0) (x := 0) (z := z9) (by show keepSt _ _ _ _ = _; kernel_rfl) hz9 ?_
  rcases z9 with z10 | z11
  · replace hS := (show _ = _ from hS)
    simp only [Sum.elim_inl] at hS
    intro e st' _ hX
    obtain ⟨rfl, rfl⟩ : _ ∧ _ := hX
    refine zkBlkX ?_
    refine zkSeq ?_
    refine zrSeq ?_
    refine zrReg ?_
    refine zlRun (n := 3) (j := 3) rfl (by kernel_rfl) ?_
    refine zlBool (d := 21) (op := (.cmpI .leq (.tmp 19) (.tmp 20))) (g := none) (j := 4) (decide ((a1.length : Int) ≤ a2)) rfl (by kernel_rfl) (by kernel_rfl) (by kernel_rfl) (fun hc => ?_) (fun hc => ?_)
    · replace hS := cond_t hc hS
      refine zlRun (n := 1) (j := 5) rfl (by kernel_rfl) ?_
      refine zlEnd (by kernel_rfl) ?_
      refine zkSeq ?_
      refine zrRet ?_
      refine zkNil ?_
      exact endQ hS hQ (fRet (by kernel_rfl) ((congrArg (fun s => outR s 0 c11.res) (by kernel_rfl : finSt c11.fin _ = f11_fin true)).trans (f11_out true)))
    · replace hS := cond_f hc hS
      refine zlRun (n := 1) (j := 5) rfl (by kernel_rfl) ?_
      refine zlEnd (by kernel_rfl) ?_
      refine zkSeq ?_
      refine zrRet ?_
      refine zkNil ?_
      exact endQ hS hQ (fRet (by kernel_rfl) ((congrArg (fun s => outR s 0 c11.res) (by kernel_rfl : finSt c11.fin _ = f11_fin false)).trans (f11_out false)))
  · simp only [Sum.elim_inr] at hS
    intro e st' _ hX
    obtain ⟨rfl, hX⟩ : _ ∧ _ := hX
    refine zkBlkR ?_
    refine zkSeqR ?_
    refine zkNil ?_
    exact endQ hS hQ (fRet (by kernel_rfl) ((congrArg (fun s => outR s 0 c11.res) hX).trans (f11_out z11)))
/- strings.IndexByte -/
theorem libIndexByte_ok (d : Nat) (hd : 0 ≤ d) (a1 : List UInt8) (a2 : UInt8) (r : Int) (hS : libIndexByte a1 a2 = some r) : lev codes baseL d 12 [(.d (.str a1)), (.d (.int .u8 (a2.toNat : Int)))] [] = some ((.d (.int .i64 r)), []) := lib_call (l := libs) rfl rfl rfl (osuI_ hS) d
/- farwriter/parse.runes -/
def f13_fin (p11 : List Int) : St := ⟨(up (fun _ => .un) 2 (.r (.msl 32 0 0 p11.length))), (up (hB fun _ => 0) 32 ⟨0, some (.own 3 1 ((eInt .i64).cells p11))⟩)⟩
theorem f13_out (p11 : List Int) : outR (f13_fin p11) 0 c13.res = some ((.r (.own 0 3 1 p11.length ((eInt .i64).cells p11))), []) := by
  exact out_of (ids := []) (ids' := [32]) (l := [(.r (.msl 32 0 0 p11.length))]) (by kernel_rfl) (by kernel_rfl) (o_own (eInt .i64) (e := 3) (k := 1) (xs := p11) (by kernel_rfl) rfl rfl rfl rfl)
def f13_Q (r : (List Int)) (e : PX) (st : St) : Prop := DoneF c13 0 ((.r (.own 0 3 1 r.length ((eInt .i64).cells r))), []) e st
def f13_l0_J (a1 : List UInt8) (x : (List Int) × Int) : St := ⟨(up (up (fun _ => .un) 7 (.r (.ptr 64 0 0))) 3 (.r (.msl 32 0 0 x.1.length))), (up (up (hB fun _ => 0) 64 ⟨0, some (.box ((.tup [(.d (.str a1)), (.d (.int .i64 x.2))]) :: []))⟩) 32 ⟨0, some (.own 3 1 ((eInt .i64).cells x.1))⟩)⟩
def f13_l0_H (a1 : List UInt8) (x : (List Int) × Int) (st : St) : Prop := keepSt [3, 7] [(32, .id 32), (64, .id 64)] [] st = f13_l0_J a1 x
def f13_l0_e0_J (a1 : List UInt8) (p10 : List Int) : St := ⟨(up (fun _ => .un) 3 (.r (.msl 32 0 0 p10.length))), (up (hB fun _ => 0) 32 ⟨0, some (.own 3 1 ((eInt .i64).cells p10))⟩)⟩
def f13_l0_X (a1 : List UInt8) (z : ((List Int))) (e : PX) (st : St) : Prop := e = .exit 0 ∧ st = f13_l0_e0_J a1 z
def f13_l0_j1_J (a1 : List UInt8) (p12 : List Int) (p13 : Int) (p14 : Int) (p15 : Int) : St := ⟨(up (up (up (fun _ => .un) 8 (.tup [(.d (.bool true)), (.d (.int .i64 p14)), (.d (.int .i32 p15))])) 7 (.r (.ptr 64 0 0))) 3 (.r (.msl 32 0 0 p12.length))), (up (up (hB fun _ => 0) 64 ⟨0, some (.box ((.tup [(.d (.str a1)), (.d (.int .i64 p13))]) :: []))⟩) 32 ⟨0, some (.own 3 1 ((eInt .i64).cells p12))⟩)⟩
noncomputable def f13_l0_j1 (a1 : List UInt8) (p12 : List Int) (p13 : Int) (p14 : Int) (p15 : Int) : Option (((List Int) × Int) ⊕ (((List Int)))) := ((app? 8 p12 ([(IntKind.i64.wrap (p15))] : List Int)).bind fun z9 => (some (.inl (z9, p13))))
theorem f13_l0_j1_ok {d : Nat} (hd : 1 ≤ d) (a1 : List UInt8) {r : ((List Int) × Int) ⊕ (((List Int)))} {Q : PX → St → Prop} (hQ : ∀ e st', finL (f13_l0_H a1) (f13_l0_X a1) r e st' → Q e st') (p12 : List Int) (p13 : Int) (p14 : Int) (p15 : Int) (hS : f13_l0_j1 a1 p12 p13 p14 p15 = some r) {st : St} (he : keepSt [3, 7, 8] [(32, .id 32), (64, .id 64)] [] st = f13_l0_j1_J a1 p12 p13 p14 p15) : ZR (lev codes baseL (d - 1)) Q c13_1 [] st := by
  refine zrKeep he ?_
  unfold f13_l0_j1 at hS
  refine zrBlk ?_
  refine zrSeq ?_
  refine zrReg ?_
  refine zlRun (n := 2) (j := 2) rfl (by kernel_rfl) ?_
  refine zlEnd (by kernel_rfl) ?_
  refine zkSeq ?_
  refine zrReg ?_
  refine zlRun (n := 4) (j := 4) rfl (by kernel_rfl) ?_
  refine bindE hS (fun z9 hz9 hS => ?_)
  refine zlOp (d := some 15) (op := (.app 3 1 8 (.tmp 11) (.tmp 14))) (g := none) (v := (.r (.msl 32 1 0 z9.length))) (ups := [(32, ⟨1, some (.own 3 1 ((eInt .i64).cells z9))⟩)]) (j := 5) rfl (by kernel_rfl) (by kernel_rfl) (ev_app (eInt .i64) (b := 32) (g := 0) (n := p12.length) (xs := p12) (ys := [(IntKind.i64.wrap (p15))]) ((congrArg (asL _) (by kernel_rfl : ρof _ (.tmp 14) = (.r (.msl 120 1 0 (([(IntKind.i64.wrap (p15))] : List Int).length))))).trans (as_whole (eInt .i64) (e := 3) (k := 1) (xs := [(IntKind.i64.wrap (p15))]) (by kernel_rfl) rfl rfl)) rfl (by kernel_rfl) rfl (by kernel_rfl) rfl hz9) ?_
  refine zlRun (n := 1) (j := 6) rfl (by kernel_rfl) ?_
  refine zlEnd (by kernel_rfl) ?_
  refine zkBlk ?_
  refine zkNil ?_
  exact endQ hS hQ (finL_n (by show keepSt _ _ _ _ = _; kernel_rfl))
noncomputable def f13_l0 (a1 : List UInt8) (x : (List Int) × Int) : Option (((List Int) × Int) ⊕ (((List Int)))) := ((chk (decide (0 ≤ x.2))).bind fun z8 => (bif (decide (x.2 < (a1.length : Int))) then (f13_l0_j1 a1 x.1 (((x.2 : Int).toNat + (Utf8.decode ⟨a1.toArray⟩ (x.2 : Int).toNat).2 : Nat) : Int) x.2 ((Utf8.decode ⟨a1.toArray⟩ (x.2 : Int).toNat).1 : Int)) else (some (.inr x.1))))
theorem f13_l0_ok {d : Nat} (hd : 1 ≤ d) (a1 : List UInt8) {r : ((List Int) × Int) ⊕ (((List Int)))} {Q : PX → St → Prop} (hQ : ∀ e st', finL (f13_l0_H a1) (f13_l0_X a1) r e st' → Q e st') {x : (List Int) × Int} (hS : f13_l0 a1 x = some r) {st : St} (he : f13_l0_H a1 x st) : ZR (lev codes baseL (d - 1)) Q c13_2 [] st := by
  refine zrKeep he ?_
  unfold f13_l0 at hS
  refine zrSeq ?_
  refine zrReg ?_
  refine bindE hS (fun z8 hz8 hS => ?_)
  refine boolC (decide (x.2 < (a1.length : Int))) (fun hc => ?_) (fun hc => ?_)
  · replace hS := cond_t hc hS
    refine zlOp (d := some 8) (op := (.nxt (.tmp 7))) (g := none) (v := (.tup [(.d (.bool true)), (.d (.int .i64 x.2)), (.d (.int .i32 ((Utf8.decode ⟨a1.toArray⟩ (x.2 : Int).toNat).1 : Int)))])) (ups := [(64, ⟨0, some (.box ((.tup [(.d (.str a1)), (.d (.int .i64 (((x.2 : Int).toNat + (Utf8.decode ⟨a1.toArray⟩ (x.2 : Int).toNat).2 : Nat) : Int)))]) :: []))⟩)]) (j := 1) rfl (by kernel_rfl) (by kernel_rfl) (ev_nxtT (s := a1) (p := x.2) (b := 64) (g := 0) (by kernel_rfl) (by kernel_rfl) hz8 hc) ?_
    refine zlRun (n := 1) (j := 2) rfl (by kernel_rfl) ?_
    refine zlEnd (by kernel_rfl) ?_
    refine zkSeq ?_
    refine zrSeq ?_
    refine zrCondT (by kernel_rfl) ?_
    refine zrSkip ?_
    refine zkSeq ?_
    exact f13_l0_j1_ok hd a1 hQ x.1 (((x.2 : Int).toNat + (Utf8.decode ⟨a1.toArray⟩ (x.2 : Int).toNat).2 : Nat) : Int) x.2 ((Utf8.decode ⟨a1.toArray⟩ (x.2 : Int).toNat).1 : Int) hS (by kernel_rfl)
  · replace hS := cond_f hc hS
    refine zlOp (d := some 8) (op := (.nxt (.tmp 7))) (g := none) (v := (.tup [(.d (.bool false))])) (ups := []) (j := 1) rfl (by kernel_rfl) (by kernel_rfl) (ev_nxtF (s := a1) (p := x.2) (b := 64) (g := 0) (by kernel_rfl) (by kernel_rfl) hz8 hc) ?_
    refine zlRun (n := 1) (j := 2) rfl (by kernel_rfl) ?_
    refine zlEnd (by kernel_rfl) ?_
    refine zkSeq ?_
    refine zrSeq ?_
    refine zrCondF (by kernel_rfl) ?_
    refine zrKeep (J := f13_l0_e0_J a1 x.1) (by kernel_rfl) ?_
    refine zrExit ?_
    refine zkSeqX ?_
    refine zkNil ?_
    exact endQ hS hQ (finL_x (by intro h; cases h) (by show _ = _ ∧ _ = _; exact ⟨rfl, rfl⟩))
noncomputable def f13 (a1 : List UInt8) : Option ((List Int)) := ((loopO (f13_l0 a1) ([], 0)).bind fun z10 => (some z10))
theorem f13_ok (d : Nat) (hd : 1 ≤ d) (a1 : List UInt8) (r : (List Int)) (hS : f13 a1 = some r) : lev codes baseL d 13 [(.d (.str a1))] [] = some ((.r (.own 0 3 1 r.length ((eInt .i64).cells r))), []) := by
  refine lev_go codes13 rfl rfl (Nat.le_trans (Nat.le_of_ble_eq_true rfl) hd) fun Q hQ => ?_
  unfold f13 at hS
  show ZR _ Q c13_b [] _
  replace hQ : ∀ e st', f13_Q r e st' → Q e st' := hQ
  refine zrSeq ?_
  refine zrReg ?_
  refine zlRun (n := 1) (j := 1) rfl (by kernel_rfl) ?_
  refine zlEnd (by kernel_rfl) ?_
  refine zkSeq ?_
  refine zrSeq ?_
  refine zrReg ?_
  refine zlRun (n := 1) (j := 1) rfl (by kernel_rfl) ?_
  refine zlEnd (by kernel_rfl) ?_
  refine zkSeq ?_
  refine zrSeq ?_
  refine zrSeq ?_
  refine zrReg ?_
  refine zlRun (n := 2) (j := 2) rfl (by kernel_rfl) ?_
  refine zlEnd (by kernel_rfl) ?_
  refine zkSeq ?_
  refine zrBlk ?_
  refine bindE hS (fun z10 hz10 hS => ?_)
  refine zrLoop (f13_l0_H a1) (f13_l0_X a1) (fun x st r Q h0 hS hQ => f13_l0_ok hd a1 hQ hS h0) (x := ([], 0)) (z := z10) (by show keepSt _ _ _ _ = _; kernel_rfl) hz10 ?_
  intro e st' _ hX
  obtain ⟨rfl, rfl⟩ : _ ∧ _ := hX
  refine zkBlkX ?_
  refine zkSeq ?_
  refine zrSeq ?_
  refine zrReg ?_
  refine zlRun (n := 2) (j := 2) rfl (by kernel_rfl) ?_
  refine zlEnd (by kernel_rfl) ?_
  refine zkSeq ?_
  refine zrRet ?_
  refine zkNil ?_
  exact endQ hS hQ (fRet (by kernel_rfl) ((congrArg (fun s => outR s 0 c13.res) (by kernel_rfl : finSt c13.fin _ = f13_fin z10)).trans (f13_out z10)))
/- farwriter/args.Write$1 -/
def f23_fin (p2 : Bool) : St := ⟨(up (fun _ => .un) 2 (.d (.bool p2))), (hB fun _ => 0)⟩
theorem f23_out (p2 : Bool) : outR (f23_fin p2) 0 c23.res = some ((.d (.bool p2)), []) := by
  kernel_rfl
def f23_Q (r : Bool) (e : PX) (st : St) : Prop := DoneF c23 0 ((.d (.bool r)), []) e st
noncomputable def f23 (a1 : Int) : Option (Bool) := (bif (decide (a1 < (-1))) then (some true) else (bif (decide (16383 < a1)) then (some true) else (some false)))
theorem f23_ok (d : Nat) (hd : 1 ≤ d) (a1 : Int) (r : Bool) (hS : f23 a1 = some r) : lev codes baseL d 23 [(.d (.int .i64 a1))] [] = some ((.d (.bool r)), []) := by
  refine lev_go codes23 rfl rfl (Nat.le_trans (Nat.le_of_ble_eq_true rfl) hd) fun Q hQ => ?_
  unfold f23 at hS
  show ZR _ Q c23_b [] _
  replace hQ : ∀ e st', f23_Q r e st' → Q e st' := hQ
  refine zrSeq ?_
  refine zrReg ?_
  refine zlRun (n := 1) (j := 1) rfl (by kernel_rfl) ?_
  refine zlEnd (by kernel_rfl) ?_
  refine zkSeq ?_
  refine zrSeq ?_
  refine zrReg ?_
  refine zlRun (n := 1) (j := 1) rfl (by kernel_rfl) ?_
  refine zlBool (d := 4) (op := (.cmpI .lss (.tmp 3) (.const (.int .i64 (-1))))) (g := none) (j := 2) (decide (a1 < (-1))) rfl (by kernel_rfl) (by kernel_rfl) (by kernel_rfl) (fun hc => ?_) (fun hc => ?_)
  · replace hS := cond_t hc hS
    refine zlRun (n := 5) (j := 7) rfl (by kernel_rfl) ?_
    refine zlEnd (by kernel_rfl) ?_
    refine zkSeq ?_
    refine zrRet ?_
    refine zkNil ?_
    exact endQ hS hQ (fRet (by kernel_rfl) ((congrArg (fun s => outR s 0 c23.res) (by kernel_rfl : finSt c23.fin _ = f23_fin true)).trans (f23_out true)))
  · replace hS := cond_f hc hS
    refine zlRun (n := 2) (j := 4) rfl (by kernel_rfl) ?_
    refine zlBool (d := 7) (op := (.cmpI .gtr (.tmp 6) (.const (.int .i64 16383)))) (g := (some (5, false))) (j := 5) (decide (16383 < a1)) rfl (by kernel_rfl) (by kernel_rfl) (by kernel_rfl) (fun hc => ?_) (fun hc => ?_)
    · replace hS := cond_t hc hS
      refine zlRun (n := 2) (j := 7) rfl (by kernel_rfl) ?_
      refine zlEnd (by kernel_rfl) ?_
      refine zkSeq ?_
      refine zrRet ?_
      refine zkNil ?_
      exact endQ hS hQ (fRet (by kernel_rfl) ((congrArg (fun s => outR s 0 c23.res) (by kernel_rfl : finSt c23.fin _ = f23_fin true)).trans (f23_out true)))
    · replace hS := cond_f hc hS
      refine zlRun (n := 2) (j := 7) rfl (by kernel_rfl) ?_
      refine zlEnd (by kernel_rfl) ?_
      refine zkSeq ?_
      refine zrRet ?_
      refine zkNil ?_
      exact endQ hS hQ (fRet (by kernel_rfl) ((congrArg (fun s => outR s 0 c23.res) (by kernel_rfl : finSt c23.fin _ = f23_fin false)).trans (f23_out false)))
/- slices.IndexFunc[[]int,int] -/
def f37_fin (p8 : Int) : St := ⟨(up (fun _ => .un) 4 (.d (.int .i64 p8))), (hB fun _ => 0)⟩
theorem f37_out (p8 : Int) : outR (f37_fin p8) 0 c37.res = some ((.d (.int .i64 p8)), []) := by
  kernel_rfl
def f37_Q (r : Int) (e : PX) (st : St) : Prop := DoneF c37 0 ((.d (.int .i64 r)), []) e st
def f37_l0_J (a1 : List Int) (x : Int) : St := ⟨(up (up (up (up (fun _ => .un) 8 (.d (.int .i64 x))) 7 (.d (.int .i64 (a1.length : Int)))) 1 (.fn 23 [])) 0 (.d (.sl a1.length ((eInt .i64).cells a1)))), (hB fun _ => 0)⟩
def f37_l0_H (a1 : List Int) (x : Int) (st : St) : Prop := keepSt [0, 1, 7, 8] [] [] st = f37_l0_J a1 x
def f37_l0_e0_J (a1 : List Int) : St := ⟨(fun _ => .un), (hB fun _ => 0)⟩
def f37_l0_X (a1 : List Int) (z : Unit ⊕ Int) (e : PX) (st : St) : Prop := (match z with | .inl z => e = .exit 0 ∧ st = f37_l0_e0_J a1 | .inr z => e = .ret ∧ finSt c37.fin st = f37_fin z)
def f37_l0_j2_J (a1 : List Int) (p13 : Int) : St := ⟨(up (up (up (up (fun _ => .un) 8 (.d (.int .i64 p13))) 7 (.d (.int .i64 (a1.length : Int)))) 1 (.fn 23 [])) 0 (.d (.sl a1.length ((eInt .i64).cells a1)))), (hB fun _ => 0)⟩
noncomputable def f37_l0_j2 (a1 : List Int) (p13 : Int) : Option (Int ⊕ (Unit ⊕ Int)) := ((idx a1 p13).bind fun z7 => ((f23 z7).bind fun z8 => (bif z8 then (some (.inr (.inr p13))) else (some (.inl (IntKind.i64.wrap (p13 + 1)))))))
theorem f37_l0_j2_ok {d : Nat} (hd : 2 ≤ d) (a1 : List Int) {r : Int ⊕ (Unit ⊕ Int)} {Q : PX → St → Prop} (hQ : ∀ e st', finL (f37_l0_H a1) (f37_l0_X a1) r e st' → Q e st') (p13 : Int) (hS : f37_l0_j2 a1 p13 = some r) {st : St} (he : keepSt [0, 1, 7, 8] [] [] st = f37_l0_j2_J a1 p13) : ZR (lev codes baseL (d - 1)) Q c37_1 [] st := by
  refine zrKeep he ?_
  unfold f37_l0_j2 at hS
  refine zrSeq ?_
  refine zrBlk ?_
  refine zrSeq ?_
  refine zrReg ?_
  refine zlRun (n := 2) (j := 2) rfl (by kernel_rfl) ?_
  refine zlEnd (by kernel_rfl) ?_
  refine zkSeq ?_
  refine zrSeq ?_
  refine zrReg ?_
  refine zlRun (n := 3) (j := 3) rfl (by kernel_rfl) ?_
  refine bindE hS (fun z7 hz7 hS => ?_)
  refine zlOp (d := some 14) (op := (.ixS 3 1 (.tmp 12) (.tmp 13))) (g := none) (v := (.rptr ((eInt .i64).enc z7 ++ ((eInt .i64).cells (a1.drop ((p13 : Int).toNat + 1)))))) (ups := []) (j := 4) rfl (by kernel_rfl) (by kernel_rfl) (ev_ixS (eInt .i64) (kk := .i64) (xs := a1) (j := p13) (by kernel_rfl) (by kernel_rfl) hz7 rfl (by intro h; cases h)) ?_
  refine zlRun (n := 1) (j := 5) rfl (by kernel_rfl) ?_
  refine bindE hS (fun z8 hz8 hS => ?_)
  refine zlOp (d := some 16) (op := (.callv (.tmp 11) [(.tmp 15)])) (g := none) (v := (.d (.bool z8))) (ups := []) (j := 6) rfl (by kernel_rfl) (by kernel_rfl) (ev_callv (f := 23) (cs := []) (by kernel_rfl) (args := [(.d (.int .i64 z7))]) (l := [(.d (.int .i64 z7))]) (r := (.d (.bool z8))) (by kernel_rfl) (by kernel_rfl) (f23_ok (d - 1) (dpt hd rfl) z7 z8 hz8) (by kernel_rfl) (by kernel_rfl) (by kernel_rfl)) ?_
  refine zlEnd (by kernel_rfl) ?_
  refine zkSeq ?_
  refine zrSplit 16 z8 (by kernel_rfl) (fun hc => ?_) (fun hc => ?_)
  · replace hS := cond_t hc hS
    refine zrCondT (by kernel_rfl) ?_
    refine zrSeq ?_
    refine zrReg ?_
    refine zlRun (n := 2) (j := 2) rfl (by kernel_rfl) ?_
    refine zlEnd (by kernel_rfl) ?_
    refine zkSeq ?_
    refine zrRet ?_
    refine zkBlkR ?_
    refine zkSeqR ?_
    refine zkNil ?_
    exact endQ hS hQ (finL_x (by intro h; cases h) (by show _ = _ ∧ _ = _; exact ⟨rfl, by kernel_rfl⟩))
  · replace hS := cond_f hc hS
    refine zrCondF (by kernel_rfl) ?_
    refine zrSkip ?_
    refine zkBlk ?_
    refine zkSeq ?_
    refine zrReg ?_
    refine zlRun (n := 2) (j := 2) rfl (by kernel_rfl) ?_
    refine zlEnd (by kernel_rfl) ?_
    refine zkNil ?_
    exact endQ hS hQ (finL_n (by show keepSt _ _ _ _ = _; kernel_rfl))
def f37_l0_j1_J (a1 : List Int) (p11 : Int) (p12 : Bool) : St := ⟨(up (up (up (up (up (fun _ => .un) 9 (.d (.bool p12))) 8 (.d (.int .i64 p11))) 7 (.d (.int .i64 (a1.length : Int)))) 1 (.fn 23 [])) 0 (.d (.sl a1.length ((eInt .i64).cells a1)))), (hB fun _ => 0)⟩
noncomputable def f37_l0_j1 (a1 : List Int) (p11 : Int) (p12 : Bool) : Option (Int ⊕ (Unit ⊕ Int)) := (bif p12 then (f37_l0_j2 a1 p11) else (some (.inr (.inl ()))))
theorem f37_l0_j1_ok {d : Nat} (hd : 2 ≤ d) (a1 : List Int) {r : Int ⊕ (Unit ⊕ Int)} {Q : PX → St → Prop} (hQ : ∀ e st', finL (f37_l0_H a1) (f37_l0_X a1) r e st' → Q e st') (p11 : Int) (p12 : Bool) (hS : f37_l0_j1 a1 p11 p12 = some r) {st : St} (he : keepSt [0, 1, 7, 8, 9] [] [] st = f37_l0_j1_J a1 p11 p12) : ZR (lev codes baseL (d - 1)) Q c37_2 [] st := by
  refine zrKeep he ?_
  unfold f37_l0_j1 at hS
  refine zrSeq ?_
  refine zrSplit 9 p12 (by kernel_rfl) (fun hc => ?_) (fun hc => ?_)
  · replace hS := cond_t hc hS
    refine zrCondT (by kernel_rfl) ?_
    refine zrSkip ?_
    refine zkSeq ?_
    exact f37_l0_j2_ok hd a1 hQ p11 hS (by kernel_rfl)
  · replace hS := cond_f hc hS
    refine zrCondF (by kernel_rfl) ?_
    refine zrKeep (J := f37_l0_e0_J a1) (by kernel_rfl) ?_
    refine zrExit ?_
    refine zkSeqX ?_
    refine zkNil ?_
    exact endQ hS hQ (finL_x (by intro h; cases h) (by show _ = _ ∧ _ = _; exact ⟨rfl, rfl⟩))
noncomputable def f37_l0 (a1 : List Int) (x : Int) : Option (Int ⊕ (Unit ⊕ Int)) := (bif (decide (x < (a1.length : Int))) then (f37_l0_j1 a1 x true) else (f37_l0_j1 a1 x false))
theorem f37_l0_ok {d : Nat} (hd : 2 ≤ d) (a1 : List Int) {r : Int ⊕ (Unit ⊕ Int)} {Q : PX → St → Prop} (hQ : ∀ e st', finL (f37_l0_H a1) (f37_l0_X a1) r e st' → Q e st') {x : Int} (hS : f37_l0 a1 x = some r) {st : St} (he : f37_l0_H a1 x st) : ZR (lev codes baseL (d - 1)) Q c37_3 [] st := by
  refine zrKeep he ?_
  unfold f37_l0 at hS
  refine zrSeq ?_
  refine zrReg ?_
  refine zlBool (d := 9) (op := (.cmpI .lss (.tmp 8) (.tmp 7))) (g := none) (j := 1) (decide (x < (a1.length : Int))) rfl (by kernel_rfl) (by kernel_rfl) (by kernel_rfl) (fun hc => ?_) (fun hc => ?_)
  · replace hS := cond_t hc hS
    refine zlEnd (by kernel_rfl) ?_
    refine zkSeq ?_
    exact f37_l0_j1_ok hd a1 hQ x true hS (by kernel_rfl)
  · replace hS := cond_f hc hS
    refine zlEnd (by kernel_rfl) ?_
    refine zkSeq ?_
    exact f37_l0_j1_ok hd a1 hQ x false hS (by kernel_rfl)
noncomputable def f37 (a1 : List Int) : Option (Int) := ((loopO (f37_l0 a1) 0).bind fun z9 => (Sum.elim (fun z10 => (some (-1))) (fun z11 => (some z11)) z9))
theorem f37_ok (d : Nat) (hd : 2 ≤ d) (a1 : List Int) (r : Int) (hS : f37 a1 = some r) : lev codes baseL d 37 [(.d (.sl a1.length ((eInt .i64).cells a1))), (.fn 23 [])] [] = some ((.d (.int .i64 r)), []) := by
  refine lev_go codes37 rfl rfl (Nat.le_trans (Nat.le_of_ble_eq_true rfl) hd) fun Q hQ => ?_
  unfold f37 at hS
  show ZR _ Q c37_b [] _
  replace hQ : ∀ e st', f37_Q r e st' → Q e st' := hQ
  refine zrSeq ?_
  refine zrReg ?_
  refine zlRun (n := 1) (j := 1) rfl (by kernel_rfl) ?_
  refine zlEnd (by kernel_rfl) ?_
  refine zkSeq ?_
  refine zrSeq ?_
  refine zrSeq ?_
  refine zrReg ?_
  refine zlRun (n := 3) (j := 3) rfl (by kernel_rfl) ?_
  refine zlEnd (by kernel_rfl) ?_
  refine zkSeq ?_
  refine zrBlk ?_
  refine bindE hS (fun z9 hz9 hS => ?_)
  refine zrLoop (f37_l0_H a1) (f37_l0_X a1) (fun x st r Q h0 hS hQ => f37_l0_ok hd a1 hQ hS h0) (x := 0) (z := z9) (by show keepSt _ _ _ _ = _; kernel_rfl) hz9 ?_
  rcases z9 with z10 | z11
  · replace hS := (show _ = _ from hS)
    simp only [Sum.elim_inl] at hS
    intro e st' _ hX
    obtain ⟨rfl, rfl⟩ : _ ∧ _ := hX
    refine zkBlkX ?_
    refine zkSeq ?_
    refine zrSeq ?_
    refine zrReg ?_
    refine zlRun (n := 1) (j := 1) rfl (by kernel_rfl) ?_
    refine zlEnd (by kernel_rfl) ?_
    refine zkSeq ?_
    refine zrRet ?_
    refine zkNil ?_
    exact endQ hS hQ (fRet (by kernel_rfl) ((congrArg (fun s => outR s 0 c37.res) (by kernel_rfl : finSt c37.fin _ = f37_fin (-1))).trans (f37_out (-1))))
  · simp only [Sum.elim_inr] at hS
    intro e st' _ hX
    obtain ⟨rfl, hX⟩ : _ ∧ _ := hX
    refine zkBlkR ?_
    refine zkSeqR ?_
    refine zkNil ?_
    exact endQ hS hQ (fRet (by kernel_rfl) ((congrArg (fun s => outR s 0 c37.res) hX).trans (f37_out z11)))
/- slices.ContainsFunc[[]int,int] -/
def f22_fin (p2 : Bool) : St := ⟨(up (fun _ => .un) 4 (.d (.bool p2))), (hB fun _ => 0)⟩
theorem f22_out (p2 : Bool) : outR (f22_fin p2) 0 c22.res = some ((.d (.bool p2)), []) := by
  kernel_rfl
def f22_Q (r : Bool) (e : PX) (st : St) : Prop := DoneF c22 0 ((.d (.bool r)), []) e st
noncomputable def f22 (a1 : List Int) : Option (Bool) := ((f37 a1).bind fun z2 => (bif (decide (0 ≤ z2)) then (some true) else (some false)))
theorem f22_ok (d : Nat) (hd : 3 ≤ d) (a1 : List Int) (r : Bool) (hS : f22 a1 = some r) : lev codes baseL d 22 [(.d (.sl a1.length ((eInt .i64).cells a1))), (.fn 23 [])] [] = some ((.d (.bool r)), []) := by
  refine lev_go codes22 rfl rfl (Nat.le_trans (Nat.le_of_ble_eq_true rfl) hd) fun Q hQ => ?_
  unfold f22 at hS
  show ZR _ Q c22_b [] _
  replace hQ : ∀ e st', f22_Q r e st' → Q e st' := hQ
  refine zrSeq ?_
  refine zrReg ?_
  refine zlRun (n := 1) (j := 1) rfl (by kernel_rfl) ?_
  refine zlEnd (by kernel_rfl) ?_
  refine zkSeq ?_
  refine zrSeq ?_
  refine zrReg ?_
  refine zlRun (n := 2) (j := 2) rfl (by kernel_rfl) ?_
  refine bindE hS (fun z2 hz2 hS => ?_)
  refine zlOp (d := some 7) (op := (.call 37 [(.tmp 5), (.tmp 6)])) (g := none) (j := 3) rfl (by kernel_rfl) (by kernel_rfl) (ev_callA (by kernel_rfl) (f37_ok (d - 1) (dpt hd rfl) a1 z2 hz2) (by kernel_rfl) (by kernel_rfl)) ?_
  refine zlBool (d := 8) (op := (.cmpI .geq (.tmp 7) (.const (.int .i64 0)))) (g := none) (j := 4) (decide (0 ≤ z2)) rfl (by kernel_rfl) (by kernel_rfl) (by kernel_rfl) (fun hc => ?_) (fun hc => ?_)
  · replace hS := cond_t hc hS
    refine zlRun (n := 1) (j := 5) rfl (by kernel_rfl) ?_
    refine zlEnd (by kernel_rfl) ?_
    refine zkSeq ?_
    refine zrRet ?_
    refine zkNil ?_
    exact endQ hS hQ (fRet (by kernel_rfl) ((congrArg (fun s => outR s 0 c22.res) (by kernel_rfl : finSt c22.fin _ = f22_fin true)).trans (f22_out true)))
  · replace hS := cond_f hc hS
    refine zlRun (n := 1) (j := 5) rfl (by kernel_rfl) ?_
    refine zlEnd (by kernel_rfl) ?_
    refine zkSeq ?_
    refine zrRet ?_
    refine zkNil ?_
    exact endQ hS hQ (fRet (by kernel_rfl) ((congrArg (fun s => outR s 0 c22.res) (by kernel_rfl : finSt c22.fin _ = f22_fin false)).trans (f22_out false)))
/- strconv.Itoa -/
theorem libItoaL_ok (d : Nat) (hd : 0 ≤ d) (a1 : Int) (r : List UInt8) (hS : libItoaL a1 = some r) : lev codes baseL d 24 [(.d (.int .i64 a1))] [] = some ((.d (.str r)), []) := lib_call (l := libs) rfl rfl rfl (oiS_ hS) d
/- strings.Join -/
theorem libJoin_ok (d : Nat) (hd : 0 ≤ d) (a1 : List (List UInt8)) (a2 : List UInt8) (r : List UInt8) (hS : libJoin a1 a2 = some r) : lev codes baseL d 25 [(.d (.sl a1.length (eStr.cells a1))), (.d (.str a2))] [] = some ((.d (.str r)), []) := lib_call (l := libs) rfl rfl rfl (oSsS_ hS) d
/- farwriter/args.Write -/
def f14_fin (p30 : List UInt8) (p31 : Int) : St := ⟨(up (up (fun _ => .un) 3 (.d (.int .i64 p31))) 2 (.d (.str p30))), (hB fun _ => 0)⟩
theorem f14_out (p30 : List UInt8) (p31 : Int) : outR (f14_fin p30 p31) 0 c14.res = some ((.tup [(.d (.str p30)), (.d (.int .i64 p31))]), []) := by
  kernel_rfl
def f14_Q (r : (List UInt8) × Int) (e : PX) (st : St) : Prop := DoneF c14 0 ((.tup [(.d (.str r.1)), (.d (.int .i64 r.2))]), []) e st
def f14_l2_J (a1 : List Int) (x : (List (List UInt8)) × Int) : St := ⟨(up (up (up (up (fun _ => .un) 19 (.d (.int .i64 x.2))) 18 (.d (.int .i64 (a1.length : Int)))) 17 (.d (.sl a1.length ((eInt .i64).cells a1)))) 4 (.r (.msl 40 0 0 x.1.length))), (up (hB fun _ => 0) 40 ⟨0, some (.own 9 1 (eStr.cells x.1))⟩)⟩
def f14_l2_H (a1 : List Int) (x : (List (List UInt8)) × Int) (st : St) : Prop := keepSt [4, 17, 18, 19] [(40, .id 40)] [] st = f14_l2_J a1 x
def f14_l2_e0_J (a1 : List Int) (p29 : List (List UInt8)) : St := ⟨(up (fun _ => .un) 4 (.r (.msl 40 0 0 p29.length))), (up (hB fun _ => 0) 40 ⟨0, some (.own 9 1 (eStr.cells p29))⟩)⟩
def f14_l2_X (a1 : List Int) (z : ((List (List UInt8)))) (e : PX) (st : St) : Prop := e = .exit 0 ∧ st = f14_l2_e0_J a1 z
def f14_l2_j4_J (a1 : List Int) (p40 : List (List UInt8)) (p41 : Int) : St := ⟨(up (up (up (up (fun _ => .un) 19 (.d (.int .i64 p41))) 18 (.d (.int .i64 (a1.length : Int)))) 17 (.d (.sl a1.length ((eInt .i64).cells a1)))) 4 (.r (.msl 40 0 0 p40.length))), (up (hB fun _ => 0) 40 ⟨0, some (.own 9 1 (eStr.cells p40))⟩)⟩
noncomputable def f14_l2_j4 (a1 : List Int) (p40 : List (List UInt8)) (p41 : Int) : Option (((List (List UInt8)) × Int) ⊕ (((List (List UInt8))))) := ((idx a1 p41).bind fun z16 => (bif (decide (z16 < 0)) then ((app? 16 p40 ([[]] : List (List UInt8))).bind fun z17 => (some (.inl (z17, (IntKind.i64.wrap (p41 + 1)))))) else ((libItoaL z16).bind fun z18 => ((app? 16 p40 ([z18] : List (List UInt8))).bind fun z19 => (some (.inl (z19, (IntKind.i64.wrap (p41 + 1)))))))))
theorem f14_l2_j4_ok {d : Nat} (hd : 4 ≤ d) (a1 : List Int) {r : ((List (List UInt8)) × Int) ⊕ (((List (List UInt8))))} {Q : PX → St → Prop} (hQ : ∀ e st', finL (f14_l2_H a1) (f14_l2_X a1) r e st' → Q e st') (p40 : List (List UInt8)) (p41 : Int) (hS : f14_l2_j4 a1 p40 p41 = some r) {st : St} (he : keepSt [4, 17, 18, 19] [(40, .id 40)] [] st = f14_l2_j4_J a1 p40 p41) : ZR (lev codes baseL (d - 1)) Q c14_1 [] st := by
  refine zrKeep he ?_
  unfold f14_l2_j4 at hS
  refine zrSeq ?_
  refine zrBlk ?_
  refine zrSeq ?_
  refine zrReg ?_
  refine bindE hS (fun z16 hz16 hS => ?_)
  refine zlOp (d := some 21) (op := (.ixS 3 1 (.tmp 17) (.tmp 19))) (g := none) (v := (.rptr ((eInt .i64).enc z16 ++ ((eInt .i64).cells (a1.drop ((p41 : Int).toNat + 1)))))) (ups := []) (j := 1) rfl (by kernel_rfl) (by kernel_rfl) (ev_ixS (eInt .i64) (kk := .i64) (xs := a1) (j := p41) (by kernel_rfl) (by kernel_rfl) hz16 rfl (by intro h; cases h)) ?_
  refine zlRun (n := 2) (j := 3) rfl (by kernel_rfl) ?_
  refine zlEnd (by kernel_rfl) ?_
  refine zkSeq ?_
  refine zrSeq ?_
  refine zrReg ?_
  refine zlRun (n := 1) (j := 1) rfl (by kernel_rfl) ?_
  refine zlBool (d := 24) (op := (.cmpI .lss (.tmp 23) (.const (.int .i64 0)))) (g := none) (j := 2) (decide (z16 < 0)) rfl (by kernel_rfl) (by kernel_rfl) (by kernel_rfl) (fun hc => ?_) (fun hc => ?_)
  · replace hS := cond_t hc hS
    refine zlEnd (by kernel_rfl) ?_
    refine zkSeq ?_
    refine zrCondT (by kernel_rfl) ?_
    refine zrReg ?_
    refine zlRun (n := 2) (j := 2) rfl (by kernel_rfl) ?_
    refine bindE hS (fun z17 hz17 hS => ?_)
    refine zlOp (d := some 27) (op := (.app 9 1 16 (.tmp 25) (.tmp 26))) (g := none) (v := (.r (.msl 40 1 0 z17.length))) (ups := [(40, ⟨1, some (.own 9 1 (eStr.cells z17))⟩)]) (j := 3) rfl (by kernel_rfl) (by kernel_rfl) (ev_app eStr (b := 40) (g := 0) (n := p40.length) (xs := p40) (ys := [[]]) ((congrArg (asL _) (by kernel_rfl : ρof _ (.tmp 26) = (.r (.msl 216 1 0 (([[]] : List (List UInt8)).length))))).trans (as_whole eStr (e := 9) (k := 1) (xs := [[]]) (by kernel_rfl) rfl rfl)) rfl (by kernel_rfl) rfl (by kernel_rfl) rfl hz17) ?_
    refine zlRun (n := 1) (j := 4) rfl (by kernel_rfl) ?_
    refine zlEnd (by kernel_rfl) ?_
    refine zkBlk ?_
    refine zkSeq ?_
    refine zrReg ?_
    refine zlRun (n := 2) (j := 2) rfl (by kernel_rfl) ?_
    refine zlEnd (by kernel_rfl) ?_
    refine zkNil ?_
    exact endQ hS hQ (finL_n (by show keepSt _ _ _ _ = _; kernel_rfl))
  · replace hS := cond_f hc hS
    refine zlEnd (by kernel_rfl) ?_
    refine zkSeq ?_
    refine zrCondF (by kernel_rfl) ?_
    refine zrReg ?_
    refine zlRun (n := 2) (j := 2) rfl (by kernel_rfl) ?_
    refine bindE hS (fun z18 hz18 hS => ?_)
    refine zlOp (d := some 30) (op := (.call 24 [(.tmp 29)])) (g := none) (j := 3) rfl (by kernel_rfl) (by kernel_rfl) (ev_callA (by kernel_rfl) (libItoaL_ok (d - 1) (dpt hd rfl) z16 z18 hz18) (by kernel_rfl) (by kernel_rfl)) ?_
    refine zlRun (n := 1) (j := 4) rfl (by kernel_rfl) ?_
    refine bindE hS (fun z19 hz19 hS => ?_)
    refine zlOp (d := some 32) (op := (.app 9 1 16 (.tmp 28) (.tmp 31))) (g := none) (v := (.r (.msl 40 1 0 z19.length))) (ups := [(40, ⟨1, some (.own 9 1 (eStr.cells z19))⟩)]) (j := 5) rfl (by kernel_rfl) (by kernel_rfl) (ev_app eStr (b := 40) (g := 0) (n := p40.length) (xs := p40) (ys := [z18]) ((congrArg (asL _) (by kernel_rfl : ρof _ (.tmp 31) = (.r (.msl 256 1 0 (([z18] : List (List UInt8)).length))))).trans (as_whole eStr (e := 9) (k := 1) (xs := [z18]) (by kernel_rfl) rfl rfl)) rfl (by kernel_rfl) rfl (by kernel_rfl) rfl hz19) ?_
    refine zlRun (n := 1) (j := 6) rfl (by kernel_rfl) ?_
    refine zlEnd (by kernel_rfl) ?_
    refine zkBlk ?_
    refine zkSeq ?_
    refine zrReg ?_
    refine zlRun (n := 2) (j := 2) rfl (by kernel_rfl) ?_
    refine zlEnd (by kernel_rfl) ?_
    refine zkNil ?_
    exact endQ hS hQ (finL_n (by show keepSt _ _ _ _ = _; kernel_rfl))
def f14_l2_j3_J (a1 : List Int) (p37 : List (List UInt8)) (p38 : Int) (p39 : Bool) : St := ⟨(up (up (up (up (up (fun _ => .un) 20 (.d (.bool p39))) 19 (.d (.int .i64 p38))) 18 (.d (.int .i64 (a1.length : Int)))) 17 (.d (.sl a1.length ((eInt .i64).cells a1)))) 4 (.r (.msl 40 0 0 p37.length))), (up (hB fun _ => 0) 40 ⟨0, some (.own 9 1 (eStr.cells p37))⟩)⟩
noncomputable def f14_l2_j3 (a1 : List Int) (p37 : List (List UInt8)) (p38 : Int) (p39 : Bool) : Option (((List (List UInt8)) × Int) ⊕ (((List (List UInt8))))) := (bif p39 then (f14_l2_j4 a1 p37 p38) else (some (.inr p37)))
theorem f14_l2_j3_ok {d : Nat} (hd : 4 ≤ d) (a1 : List Int) {r : ((List (List UInt8)) × Int) ⊕ (((List (List UInt8))))} {Q : PX → St → Prop} (hQ : ∀ e st', finL (f14_l2_H a1) (f14_l2_X a1) r e st' → Q e st') (p37 : List (List UInt8)) (p38 : Int) (p39 : Bool) (hS : f14_l2_j3 a1 p37 p38 p39 = some r) {st : St} (he : keepSt [4, 17, 18, 19, 20] [(40, .id 40)] [] st = f14_l2_j3_J a1 p37 p38 p39) : ZR (lev codes baseL (d - 1)) Q c14_2 [] st := by
  refine zrKeep he ?_
  unfold f14_l2_j3 at hS
  refine zrSeq ?_
  refine zrSplit 20 p39 (by kernel_rfl) (fun hc => ?_) (fun hc => ?_)
  · replace hS := cond_t hc hS
    refine zrCondT (by kernel_rfl) ?_
    refine zrSkip ?_
    refine zkSeq ?_
    exact f14_l2_j4_ok hd a1 hQ p37 p38 hS (by kernel_rfl)
  · replace hS := cond_f hc hS
    refine zrCondF (by kernel_rfl) ?_
    refine zrKeep (J := f14_l2_e0_J a1 p37) (by kernel_rfl) ?_
    refine zrExit ?_
    refine zkSeqX ?_
    refine zkNil ?_
    exact endQ hS hQ (finL_x (by intro h; cases h) (by show _ = _ ∧ _ = _; exact ⟨rfl, rfl⟩))
noncomputable def f14_l2 (a1 : List Int) (x : (List (List UInt8)) × Int) : Option (((List (List UInt8)) × Int) ⊕ (((List (List UInt8))))) := (bif (decide (x.2 < (a1.length : Int))) then (f14_l2_j3 a1 x.1 x.2 true) else (f14_l2_j3 a1 x.1 x.2 false))
theorem f14_l2_ok {d : Nat} (hd : 4 ≤ d) (a1 : List Int) {r : ((List (List UInt8)) × Int) ⊕ (((List (List UInt8))))} {Q : PX → St → Prop} (hQ : ∀ e st', finL (f14_l2_H a1) (f14_l2_X a1) r e st' → Q e st') {x : (List (List UInt8)) × Int} (hS : f14_l2 a1 x = some r) {st : St} (he : f14_l2_H a1 x st) : ZR (lev codes baseL (d - 1)) Q c14_3 [] st := by
  refine zrKeep he ?_
  unfold f14_l2 at hS
  refine zrSeq ?_
  refine zrReg ?_
  refine zlBool (d := 20) (op := (.cmpI .lss (.tmp 19) (.tmp 18))) (g := none) (j := 1) (decide (x.2 < (a1.length : Int))) rfl (by kernel_rfl) (by kernel_rfl) (by kernel_rfl) (fun hc => ?_) (fun hc => ?_)
  · replace hS := cond_t hc hS
    refine zlEnd (by kernel_rfl) ?_
    refine zkSeq ?_
    exact f14_l2_j3_ok hd a1 hQ x.1 x.2 true hS (by kernel_rfl)
  · replace hS := cond_f hc hS
    refine zlEnd (by kernel_rfl) ?_
    refine zkSeq ?_
    exact f14_l2_j3_ok hd a1 hQ x.1 x.2 false hS (by kernel_rfl)
def f14_j1_J (a1 : List Int) : St := ⟨(up (fun _ => .un) 0 (.d (.sl a1.length ((eInt .i64).cells a1)))), (hB fun _ => 0)⟩
noncomputable def f14_j1 (a1 : List Int) : Option ((List UInt8) × Int) := ((loopO (f14_l2 a1) ([], 0)).bind fun z20 => ((libJoin z20 [59]).bind fun z21 => (some (z21, 0))))
theorem f14_j1_ok {d : Nat} (hd : 4 ≤ d) (a1 : List Int) {r : (List UInt8) × Int} {Q : PX → St → Prop} (hQ : ∀ e st', f14_Q r e st' → Q e st')  (hS : f14_j1 a1 = some r) {st : St} (he : keepSt [0] [] [] st = f14_j1_J a1) : ZR (lev codes baseL (d - 1)) Q c14_4 [] st := by
  refine zrKeep he ?_
  unfold f14_j1 at hS
  refine zrSeq ?_
  refine zrReg ?_
  refine zlRun (n := 1) (j := 1) rfl (by kernel_rfl) ?_
  refine zlEnd (by kernel_rfl) ?_
  refine zkSeq ?_
  refine zrSeq ?_
  refine zrSeq ?_
  refine zrReg ?_
  refine zlRun (n := 3) (j := 3) rfl (by kernel_rfl) ?_
  refine zlEnd (by kernel_rfl) ?_
  refine zkSeq ?_
  refine zrBlk ?_
  refine bindE hS (fun z20 hz20 hS => ?_)
  refine zrLoop (f14_l2_H a1) (f14_l2_X a1) (fun x st r Q h0 hS hQ => f14_l2_ok hd a1 hQ hS h0) (x := ([], 0)) (z := z20) (by show keepSt _ _ _ _ = _; kernel_rfl) hz20 ?_
  intro e st' _ hX
  obtain ⟨rfl, rfl⟩ : _ ∧ _ := hX
  refine zkBlkX ?_
  refine zkSeq ?_
  refine zrSeq ?_
  refine zrReg ?_
  refine zlRun (n := 1) (j := 1) rfl (by kernel_rfl) ?_
  refine bindE hS (fun z21 hz21 hS => ?_)
  refine zlOp (d := some 35) (op := (.call 25 [(.tmp 34), (.const (.string ⟨#[59]⟩))])) (g := none) (j := 2) rfl (by kernel_rfl) (by kernel_rfl) (ev_callB (args := [(.r (.msl 40 0 0 z20.length)), (.d (.str ([59])))]) (by kernel_rfl) (l_cons (l_own eStr (e := 9) (k := 1) (xs := z20) (by kernel_rfl) rfl rfl) (l_cons (by kernel_rfl) l_nil)) (libJoin_ok (d - 1) (dpt hd rfl) z20 [59] z21 hz21) (by kernel_rfl) (by kernel_rfl)) ?_
  refine zlRun (n := 2) (j := 4) rfl (by kernel_rfl) ?_
  refine zlEnd (by kernel_rfl) ?_
  refine zkSeq ?_
  refine zrRet ?_
  refine zkNil ?_
  exact endQ hS hQ (fRet (by kernel_rfl) ((congrArg (fun s => outR s 0 c14.res) (by kernel_rfl : finSt c14.fin _ = f14_fin z21 0)).trans (f14_out z21 0)))
def f14_j0_J (a1 : List Int) : St := ⟨(up (fun _ => .un) 0 (.d (.sl a1.length ((eInt .i64).cells a1)))), (hB fun _ => 0)⟩
noncomputable def f14_j0 (a1 : List Int) : Option ((List UInt8) × Int) := (bif (decide (32 < (a1.length : Int))) then (some ([], 2)) else (f14_j1 a1 ))
theorem f14_j0_ok {d : Nat} (hd : 4 ≤ d) (a1 : List Int) {r : (List UInt8) × Int} {Q : PX → St → Prop} (hQ : ∀ e st', f14_Q r e st' → Q e st')  (hS : f14_j0 a1 = some r) {st : St} (he : keepSt [0] [] [] st = f14_j0_J a1) : ZR (lev codes baseL (d - 1)) Q c14_5 [] st := by
  refine zrKeep he ?_
  unfold f14_j0 at hS
  refine zrSeq ?_
  refine zrSeq ?_
  refine zrReg ?_
  refine zlRun (n := 2) (j := 2) rfl (by kernel_rfl) ?_
  refine zlBool (d := 16) (op := (.cmpI .gtr (.tmp 15) (.const (.int .i64 32)))) (g := none) (j := 3) (decide (32 < (a1.length : Int))) rfl (by kernel_rfl) (by kernel_rfl) (by kernel_rfl) (fun hc => ?_) (fun hc => ?_)
  · replace hS := cond_t hc hS
    refine zlEnd (by kernel_rfl) ?_
    refine zkSeq ?_
    refine zrCondT (by kernel_rfl) ?_
    refine zrSeq ?_
    refine zrReg ?_
    refine zlRun (n := 2) (j := 2) rfl (by kernel_rfl) ?_
    refine zlEnd (by kernel_rfl) ?_
    refine zkSeq ?_
    refine zrRet ?_
    refine zkSeqR ?_
    refine zkNil ?_
    exact endQ hS hQ (fRet (by kernel_rfl) ((congrArg (fun s => outR s 0 c14.res) (by kernel_rfl : finSt c14.fin _ = f14_fin [] 2)).trans (f14_out [] 2)))
  · replace hS := cond_f hc hS
    refine zlEnd (by kernel_rfl) ?_
    refine zkSeq ?_
    refine zrCondF (by kernel_rfl) ?_
    refine zrSkip ?_
    refine zkSeq ?_
    exact f14_j1_ok hd a1 hQ  hS (by kernel_rfl)
noncomputable def f14 (a1 : List Int) : Option ((List UInt8) × Int) := (bif (decide ((a1.length : Int) = 0)) then (some ([], 1)) else ((f22 a1).bind fun z22 => (bif z22 then (some ([], 1)) else (f14_j0 a1 ))))
theorem f14_ok (d : Nat) (hd : 4 ≤ d) (a1 : List Int) (r : (List UInt8) × Int) (hS : f14 a1 = some r) : lev codes baseL d 14 [(.d (.sl a1.length ((eInt .i64).cells a1)))] [] = some ((.tup [(.d (.str r.1)), (.d (.int .i64 r.2))]), []) := by
  refine lev_go codes14 rfl rfl (Nat.le_trans (Nat.le_of_ble_eq_true rfl) hd) fun Q hQ => ?_
  unfold f14 at hS
  show ZR _ Q c14_b [] _
  replace hQ : ∀ e st', f14_Q r e st' → Q e st' := hQ
  refine zrSeq ?_
  refine zrReg ?_
  refine zlRun (n := 2) (j := 2) rfl (by kernel_rfl) ?_
  refine zlEnd (by kernel_rfl) ?_
  refine zkSeq ?_
  refine zrSeq ?_
  refine zrSeq ?_
  refine zrReg ?_
  refine zlRun (n := 2) (j := 2) rfl (by kernel_rfl) ?_
  refine zlBool (d := 9) (op := (.cmpI .eql (.tmp 8) (.const (.int .i64 0)))) (g := none) (j := 3) (decide ((a1.length : Int) = 0)) rfl (by kernel_rfl) (by kernel_rfl) (by kernel_rfl) (fun hc => ?_) (fun hc => ?_)
  · replace hS := cond_t hc hS
    refine zlRun (n := 4) (j := 7) rfl (by kernel_rfl) ?_
    refine zlEnd (by kernel_rfl) ?_
    refine zkSeq ?_
    refine zrCondT (by kernel_rfl) ?_
    refine zrSeq ?_
    refine zrReg ?_
    refine zlRun (n := 2) (j := 2) rfl (by kernel_rfl) ?_
    refine zlEnd (by kernel_rfl) ?_
    refine zkSeq ?_
    refine zrRet ?_
    refine zkSeqR ?_
    refine zkNil ?_
    exact endQ hS hQ (fRet (by kernel_rfl) ((congrArg (fun s => outR s 0 c14.res) (by kernel_rfl : finSt c14.fin _ = f14_fin [] 1)).trans (f14_out [] 1)))
  · replace hS := cond_f hc hS
    refine zlRun (n := 2) (j := 5) rfl (by kernel_rfl) ?_
    refine bindE hS (fun z22 hz22 hS => ?_)
    refine zlOp (d := some 12) (op := (.call 22 [(.tmp 11), (.func 23)])) (g := (some (10, false))) (j := 6) rfl (by kernel_rfl) (by kernel_rfl) (ev_callA (by kernel_rfl) (f22_ok (d - 1) (dpt hd rfl) a1 z22 hz22) (by kernel_rfl) (by kernel_rfl)) ?_
    refine zlRun (n := 1) (j := 7) rfl (by kernel_rfl) ?_
    refine zlEnd (by kernel_rfl) ?_
    refine zkSeq ?_
    refine zrSplit 13 z22 (by kernel_rfl) (fun hc => ?_) (fun hc => ?_)
    · replace hS := cond_t hc hS
      refine zrCondT (by kernel_rfl) ?_
      refine zrSeq ?_
      refine zrReg ?_
      refine zlRun (n := 2) (j := 2) rfl (by kernel_rfl) ?_
      refine zlEnd (by kernel_rfl) ?_
      refine zkSeq ?_
      refine zrRet ?_
      refine zkSeqR ?_
      refine zkNil ?_
      exact endQ hS hQ (fRet (by kernel_rfl) ((congrArg (fun s => outR s 0 c14.res) (by kernel_rfl : finSt c14.fin _ = f14_fin [] 1)).trans (f14_out [] 1)))
    · replace hS := cond_f hc hS
      refine zrCondF (by kernel_rfl) ?_
      refine zrSkip ?_
      refine zkSeq ?_
      exact f14_j0_ok hd a1 hQ  hS (by kernel_rfl)
/- unicode/utf8.ValidString -/
theorem libValid_ok (d : Nat) (hd : 0 ≤ d) (a1 : List UInt8) (r : Bool) (hS : libValid a1 = some r) : lev codes baseL d 26 [(.d (.str a1))] [] = some ((.d (.bool r)), []) := lib_call (l := libs) rfl rfl rfl (osB_ hS) d
/- farwriter/parse.title -/
def f15_fin (p12 : Bool) : St := ⟨(up (fun _ => .un) 2 (.d (.bool p12))), (hB fun _ => 0)⟩
theorem f15_out (p12 : Bool) : outR (f15_fin p12) 0 c15.res = some ((.d (.bool p12)), []) := by
  kernel_rfl
def f15_Q (r : Bool) (e : PX) (st : St) : Prop := DoneF c15 0 ((.d (.bool r)), []) e st
def f15_l1_J (a1 : List UInt8) (x : Int) : St := ⟨(up (fun _ => .un) 14 (.r (.ptr 120 0 0))), (up (hB fun _ => 0) 120 ⟨0, some (.box ((.tup [(.d (.str a1)), (.d (.int .i64 x))]) :: []))⟩)⟩
def f15_l1_H (a1 : List UInt8) (x : Int) (st : St) : Prop := keepSt [14] [(120, .id 120)] [] st = f15_l1_J a1 x
def f15_l1_e0_J (a1 : List UInt8) : St := ⟨(fun _ => .un), (hB fun _ => 0)⟩
def f15_l1_X (a1 : List UInt8) (z : Unit ⊕ Bool) (e : PX) (st : St) : Prop := (match z with | .inl z => e = .exit 0 ∧ st = f15_l1_e0_J a1 | .inr z => e = .ret ∧ finSt c15.fin st = f15_fin z)
def f15_l1_j2_J (a1 : List UInt8) (p14 : Int) (p15 : Int) (p16 : Int) : St := ⟨(up (up (fun _ => .un) 15 (.tup [(.d (.bool true)), (.d (.int .i64 p15)), (.d (.int .i32 p16))])) 14 (.r (.ptr 120 0 0))), (up (hB fun _ => 0) 120 ⟨0, some (.box ((.tup [(.d (.str a1)), (.d (.int .i64 p14))]) :: []))⟩)⟩
noncomputable def f15_l1_j2 (a1 : List UInt8) (p14 : Int) (p15 : Int) (p16 : Int) : Option (Int ⊕ (Unit ⊕ Bool)) := (bif (decide (p16 < 32)) then (some (.inr (.inr false))) else ((f10 (IntKind.i64.wrap (p16)) 127 159).bind fun z11 => (bif z11 then (some (.inr (.inr false))) else (some (.inl p14)))))
theorem f15_l1_j2_ok {d : Nat} (hd : 2 ≤ d) (a1 : List UInt8) {r : Int ⊕ (Unit ⊕ Bool)} {Q : PX → St → Prop} (hQ : ∀ e st', finL (f15_l1_H a1) (f15_l1_X a1) r e st' → Q e st') (p14 : Int) (p15 : Int) (p16 : Int) (hS : f15_l1_j2 a1 p14 p15 p16 = some r) {st : St} (he : keepSt [14, 15] [(120, .id 120)] [] st = f15_l1_j2_J a1 p14 p15 p16) : ZR (lev codes baseL (d - 1)) Q c15_1 [] st := by
  refine zrKeep he ?_
  unfold f15_l1_j2 at hS
  refine zrBlk ?_
  refine zrSeq ?_
  refine zrReg ?_
  refine zlRun (n := 2) (j := 2) rfl (by kernel_rfl) ?_
  refine zlEnd (by kernel_rfl) ?_
  refine zkSeq ?_
  refine zrSeq ?_
  refine zrReg ?_
  refine zlRun (n := 1) (j := 1) rfl (by kernel_rfl) ?_
  refine zlBool (d := 19) (op := (.cmpI .lss (.tmp 18) (.const (.int .i32 32)))) (g := none) (j := 2) (decide (p16 < 32)) rfl (by kernel_rfl) (by kernel_rfl) (by kernel_rfl) (fun hc => ?_) (fun hc => ?_)
  · replace hS := cond_t hc hS
    refine zlRun (n := 5) (j := 7) rfl (by kernel_rfl) ?_
    refine zlEnd (by kernel_rfl) ?_
    refine zkSeq ?_
    refine zrCondT (by kernel_rfl) ?_
    refine zrSeq ?_
    refine zrReg ?_
    refine zlRun (n := 1) (j := 1) rfl (by kernel_rfl) ?_
    refine zlEnd (by kernel_rfl) ?_
    refine zkSeq ?_
    refine zrRet ?_
    refine zkBlkR ?_
    refine zkNil ?_
    exact endQ hS hQ (finL_x (by intro h; cases h) (by show _ = _ ∧ _ = _; exact ⟨rfl, by kernel_rfl⟩))
  · replace hS := cond_f hc hS
    refine zlRun (n := 3) (j := 5) rfl (by kernel_rfl) ?_
    refine bindE hS (fun z11 hz11 hS => ?_)
    refine zlOp (d := some 23) (op := (.call 10 [(.tmp 22), (.const (.int .i64 127)), (.const (.int .i64 159))])) (g := (some (20, false))) (j := 6) rfl (by kernel_rfl) (by kernel_rfl) (ev_callA (by kernel_rfl) (f10_ok (d - 1) (dpt hd rfl) (IntKind.i64.wrap (p16)) 127 159 z11 hz11) (by kernel_rfl) (by kernel_rfl)) ?_
    refine zlRun (n := 1) (j := 7) rfl (by kernel_rfl) ?_
    refine zlEnd (by kernel_rfl) ?_
    refine zkSeq ?_
    refine zrSplit 24 z11 (by kernel_rfl) (fun hc => ?_) (fun hc => ?_)
    · replace hS := cond_t hc hS
      refine zrCondT (by kernel_rfl) ?_
      refine zrSeq ?_
      refine zrReg ?_
      refine zlRun (n := 1) (j := 1) rfl (by kernel_rfl) ?_
      refine zlEnd (by kernel_rfl) ?_
      refine zkSeq ?_
      refine zrRet ?_
      refine zkBlkR ?_
      refine zkNil ?_
      exact endQ hS hQ (finL_x (by intro h; cases h) (by show _ = _ ∧ _ = _; exact ⟨rfl, by kernel_rfl⟩))
    · replace hS := cond_f hc hS
      refine zrCondF (by kernel_rfl) ?_
      refine zrSkip ?_
      refine zkBlk ?_
      refine zkNil ?_
      exact endQ hS hQ (finL_n (by show keepSt _ _ _ _ = _; kernel_rfl))
noncomputable def f15_l1 (a1 : List UInt8) (x : Int) : Option (Int ⊕ (Unit ⊕ Bool)) := ((chk (decide (0 ≤ x))).bind fun z10 => (bif (decide (x < (a1.length : Int))) then (f15_l1_j2 a1 (((x : Int).toNat + (Utf8.decode ⟨a1.toArray⟩ (x : Int).toNat).2 : Nat) : Int) x ((Utf8.decode ⟨a1.toArray⟩ (x : Int).toNat).1 : Int)) else (some (.inr (.inl ())))))
theorem f15_l1_ok {d : Nat} (hd : 2 ≤ d) (a1 : List UInt8) {r : Int ⊕ (Unit ⊕ Bool)} {Q : PX → St → Prop} (hQ : ∀ e st', finL (f15_l1_H a1) (f15_l1_X a1) r e st' → Q e st') {x : Int} (hS : f15_l1 a1 x = some r) {st : St} (he : f15_l1_H a1 x st) : ZR (lev codes baseL (d - 1)) Q c15_2 [] st := by
  refine zrKeep he ?_
  unfold f15_l1 at hS
  refine zrSeq ?_
  refine zrReg ?_
  refine bindE hS (fun z10 hz10 hS => ?_)
  refine boolC (decide (x < (a1.length : Int))) (fun hc => ?_) (fun hc => ?_)
  · replace hS := cond_t hc hS
    refine zlOp (d := some 15) (op := (.nxt (.tmp 14))) (g := none) (v := (.tup [(.d (.bool true)), (.d (.int .i64 x)), (.d (.int .i32 ((Utf8.decode ⟨a1.toArray⟩ (x : Int).toNat).1 : Int)))])) (ups := [(120, ⟨0, some (.box ((.tup [(.d (.str a1)), (.d (.int .i64 (((x : Int).toNat + (Utf8.decode ⟨a1.toArray⟩ (x : Int).toNat).2 : Nat) : Int)))]) :: []))⟩)]) (j := 1) rfl (by kernel_rfl) (by kernel_rfl) (ev_nxtT (s := a1) (p := x) (b := 120) (g := 0) (by kernel_rfl) (by kernel_rfl) hz10 hc) ?_
    refine zlRun (n := 1) (j := 2) rfl (by kernel_rfl) ?_
    refine zlEnd (by kernel_rfl) ?_
    refine zkSeq ?_
    refine zrSeq ?_
    refine zrCondT (by kernel_rfl) ?_
    refine zrSkip ?_
    refine zkSeq ?_
    exact f15_l1_j2_ok hd a1 hQ (((x : Int).toNat + (Utf8.decode ⟨a1.toArray⟩ (x : Int).toNat).2 : Nat) : Int) x ((Utf8.decode ⟨a1.toArray⟩ (x : Int).toNat).1 : Int) hS (by kernel_rfl)
  · replace hS := cond_f hc hS
    refine zlOp (d := some 15) (op := (.nxt (.tmp 14))) (g := none) (v := (.tup [(.d (.bool false))])) (ups := []) (j := 1) rfl (by kernel_rfl) (by kernel_rfl) (ev_nxtF (s := a1) (p := x) (b := 120) (g := 0) (by kernel_rfl) (by kernel_rfl) hz10 hc) ?_
    refine zlRun (n := 1) (j := 2) rfl (by kernel_rfl) ?_
    refine zlEnd (by kernel_rfl) ?_
    refine zkSeq ?_
    refine zrSeq ?_
    refine zrCondF (by kernel_rfl) ?_
    refine zrKeep (J := f15_l1_e0_J a1) (by kernel_rfl) ?_
    refine zrExit ?_
    refine zkSeqX ?_
    refine zkNil ?_
    exact endQ hS hQ (finL_x (by intro h; cases h) (by show _ = _ ∧ _ = _; exact ⟨rfl, rfl⟩))
def f15_j0_J (a1 : List UInt8) : St := ⟨(up (fun _ => .un) 0 (.d (.str a1))), (hB fun _ => 0)⟩
noncomputable def f15_j0 (a1 : List UInt8) : Option (Bool) := ((loopO (f15_l1 a1) 0).bind fun z12 => (Sum.elim (fun z13 => (some true)) (fun z14 => (some z14)) z12))
theorem f15_j0_ok {d : Nat} (hd : 2 ≤ d) (a1 : List UInt8) {r : Bool} {Q : PX → St → Prop} (hQ : ∀ e st', f15_Q r e st' → Q e st')  (hS : f15_j0 a1 = some r) {st : St} (he : keepSt [0] [] [] st = f15_j0_J a1) : ZR (lev codes baseL (d - 1)) Q c15_3 [] st := by
  refine zrKeep he ?_
  unfold f15_j0 at hS
  refine zrSeq ?_
  refine zrSeq ?_
  refine zrReg ?_
  refine zlRun (n := 2) (j := 2) rfl (by kernel_rfl) ?_
  refine zlEnd (by kernel_rfl) ?_
  refine zkSeq ?_
  refine zrBlk ?_
  refine bindE hS (fun z12 hz12 hS => ?_)
  refine zrLoop (f15_l1_H a1) (f15_l1_X a1) (fun x st r Q h0 hS hQ => f15_l1_ok hd a1 hQ hS h0) (x := 0) (z := z12) (by show keepSt _ _ _ _ = _; kernel_rfl) hz12 ?_
  rcases z12 with z13 | z14
  · replace hS := (show _ = _ from hS)
    simp only [Sum.elim_inl] at hS
    intro e st' _ hX
    obtain ⟨rfl, rfl⟩ : _ ∧ _ := hX
    refine zkBlkX ?_
    refine zkSeq ?_
    refine zrSeq ?_
    refine zrReg ?_
    refine zlRun (n := 1) (j := 1) rfl (by kernel_rfl) ?_
    refine zlEnd (by kernel_rfl) ?_
    refine zkSeq ?_
    refine zrRet ?_
    refine zkNil ?_
    exact endQ hS hQ (fRet (by kernel_rfl) ((congrArg (fun s => outR s 0 c15.res) (by kernel_rfl : finSt c15.fin _ = f15_fin true)).trans (f15_out true)))
  · simp only [Sum.elim_inr] at hS
    intro e st' _ hX
    obtain ⟨rfl, hX⟩ : _ ∧ _ := hX
    refine zkBlkR ?_
    refine zkSeqR ?_
    refine zkNil ?_
    exact endQ hS hQ (fRet (by kernel_rfl) ((congrArg (fun s => outR s 0 c15.res) hX).trans (f15_out z14)))
noncomputable def f15 (a1 : List UInt8) : Option (Bool) := (bif (decide (256 < (a1.length : Int))) then (some false) else ((libValid a1).bind fun z15 => (bif (!z15) then (some false) else (f15_j0 a1 ))))
theorem f15_ok (d : Nat) (hd : 2 ≤ d) (a1 : List UInt8) (r : Bool) (hS : f15 a1 = some r) : lev codes baseL d 15 [(.d (.str a1))] [] = some ((.d (.bool r)), []) := by
  refine lev_go codes15 rfl rfl (Nat.le_trans (Nat.le_of_ble_eq_true rfl) hd) fun Q hQ => ?_
  unfold f15 at hS
  show ZR _ Q c15_b [] _
  replace hQ : ∀ e st', f15_Q r e st' → Q e st' := hQ
  refine zrSeq ?_
  refine zrReg ?_
  refine zlRun (n := 1) (j := 1) rfl (by kernel_rfl) ?_
  refine zlEnd (by kernel_rfl) ?_
  refine zkSeq ?_
  refine zrSeq ?_
  refine zrSeq ?_
  refine zrReg ?_
  refine zlRun (n := 2) (j := 2) rfl (by kernel_rfl) ?_
  refine zlBool (d := 7) (op := (.cmpI .gtr (.tmp 6) (.const (.int .i64 256)))) (g := none) (j := 3) (decide (256 < (a1.length : Int))) rfl (by kernel_rfl) (by kernel_rfl) (by kernel_rfl) (fun hc => ?_) (fun hc => ?_)
  · replace hS := cond_t hc hS
    refine zlRun (n := 5) (j := 8) rfl (by kernel_rfl) ?_
    refine zlEnd (by kernel_rfl) ?_
    refine zkSeq ?_
    refine zrCondT (by kernel_rfl) ?_
    refine zrSeq ?_
    refine zrReg ?_
    refine zlRun (n := 1) (j := 1) rfl (by kernel_rfl) ?_
    refine zlEnd (by kernel_rfl) ?_
    refine zkSeq ?_
    refine zrRet ?_
    refine zkSeqR ?_
    refine zkNil ?_
    exact endQ hS hQ (fRet (by kernel_rfl) ((congrArg (fun s => outR s 0 c15.res) (by kernel_rfl : finSt c15.fin _ = f15_fin false)).trans (f15_out false)))
  · replace hS := cond_f hc hS
    refine zlRun (n := 2) (j := 5) rfl (by kernel_rfl) ?_
    refine bindE hS (fun z15 hz15 hS => ?_)
    refine zlOp (d := some 10) (op := (.call 26 [(.tmp 9)])) (g := (some (8, false))) (j := 6) rfl (by kernel_rfl) (by kernel_rfl) (ev_callA (by kernel_rfl) (libValid_ok (d - 1) (dpt hd rfl) a1 z15 hz15) (by kernel_rfl) (by kernel_rfl)) ?_
    refine zlRun (n := 2) (j := 8) rfl (by kernel_rfl) ?_
    refine zlEnd (by kernel_rfl) ?_
    refine zkSeq ?_
    refine zrSplit 12 (!z15) (by kernel_rfl) (fun hc => ?_) (fun hc => ?_)
    · replace hS := cond_t hc hS
      refine zrCondT (by kernel_rfl) ?_
      refine zrSeq ?_
      refine zrReg ?_
      refine zlRun (n := 1) (j := 1) rfl (by kernel_rfl) ?_
      refine zlEnd (by kernel_rfl) ?_
      refine zkSeq ?_
      refine zrRet ?_
      refine zkSeqR ?_
      refine zkNil ?_
      exact endQ hS hQ (fRet (by kernel_rfl) ((congrArg (fun s => outR s 0 c15.res) (by kernel_rfl : finSt c15.fin _ = f15_fin false)).trans (f15_out false)))
    · replace hS := cond_f hc hS
      refine zrCondF (by kernel_rfl) ?_
      refine zrSkip ?_
      refine zkSeq ?_
      exact f15_j0_ok hd a1 hQ  hS (by kernel_rfl)
/- farwriter/parse.Write -/
def f4_fin (p39 : List Int) (p40 : Int) : St := ⟨(up (up (fun _ => .un) 3 (.d (.int .i64 p40))) 2 (.r (.msl 1161 0 0 p39.length))), (up (hB fun _ => 0) 1161 ⟨0, some (.own 3 1 ((eInt .i64).cells p39))⟩)⟩
theorem f4_out (p39 : List Int) (p40 : Int) : outR (f4_fin p39 p40) 0 c4.res = some ((.tup [(.r (.own 0 3 1 p39.length ((eInt .i64).cells p39))), (.d (.int .i64 p40))]), []) := by
  exact out_of (ids := []) (ids' := [1161]) (l := [(.r (.msl 1161 0 0 p39.length)), (.d (.int .i64 p40))]) (by kernel_rfl) (by kernel_rfl) (o_tup (o_cons (o_own (eInt .i64) (e := 3) (k := 1) (xs := p39) (by kernel_rfl) rfl rfl rfl rfl) (o_cons rfl o_nil)))
def f4_Q (r : (List Int) × Int) (e : PX) (st : St) : Prop := DoneF c4 0 ((.tup [(.r (.own 0 3 1 r.1.length ((eInt .i64).cells r.1))), (.d (.int .i64 r.2))]), []) e st
def f4_j1_J (a1 : GAct) : St := ⟨(up (up (fun _ => .un) 4 (.d (.int .i64 a1.Code))) 1 (.r (.ptr 16 0 0))), (up (hB fun _ => 0) 16 ⟨0, some (.box ((.d (.int .i64 a1.Kind)) :: ((.d (.int .i64 a1.Code)) :: ((.d (.int .i64 a1.Mark)) :: ((.d (.str a1.Inter)) :: ((.d (.sl a1.Args.length ((eInt .i64).cells a1.Args))) :: ((.d (.str a1.Text)) :: [])))))))⟩)⟩
noncomputable def f4_j1 (a1 : GAct) : Option ((List Int) × Int) := ((f13 a1.Inter).bind fun z33 => ((app? 8 ([27] : List Int) z33).bind fun z34 => ((app? 8 z34 ([a1.Code] : List Int)).bind fun z35 => (some (z35, 0)))))
theorem f4_j1_ok {d : Nat} (hd : 5 ≤ d) (a1 : GAct) {r : (List Int) × Int} {Q : PX → St → Prop} (hQ : ∀ e st', f4_Q r e st' → Q e st')  (hS : f4_j1 a1 = some r) {st : St} (he : keepSt [1, 4] [(16, .id 16)] [] st = f4_j1_J a1) : ZR (lev codes baseL (d - 1)) Q c4_1 [.blk 0, .seq c4_2] st := by
  refine zrKeep he ?_
  unfold f4_j1 at hS
  refine zrSeq ?_
  refine zrReg ?_
  refine zlRun (n := 3) (j := 3) rfl (by kernel_rfl) ?_
  refine bindE hS (fun z33 hz33 hS => ?_)
  refine zlOp (d := some 71) (op := (.call 13 [(.tmp 70)])) (g := none) (j := 4) rfl (by kernel_rfl) (by kernel_rfl) (ev_callA (by kernel_rfl) (f13_ok (d - 1) (dpt hd rfl) a1.Inter z33 hz33) (by kernel_rfl) (by kernel_rfl)) ?_
  refine bindE hS (fun z34 hz34 hS => ?_)
  refine zlOp (d := some 72) (op := (.app 3 1 8 (.tmp 68) (.tmp 71))) (g := none) (v := (.r (.msl 552 2 0 z34.length))) (ups := [(552, ⟨2, some (.own 3 1 ((eInt .i64).cells z34))⟩)]) (j := 5) rfl (by kernel_rfl) (by kernel_rfl) (ev_app (eInt .i64) (b := 552) (g := 1) (n := ([27] : List Int).length) (xs := [27]) (ys := z33) ((congrArg (asL _) (by kernel_rfl : ρof _ (.tmp 71) = (.r (.msl 576 1 0 z33.length)))).trans (as_whole (eInt .i64) (e := 3) (k := 1) (xs := z33) (by kernel_rfl) rfl rfl)) rfl (by kernel_rfl) rfl (by kernel_rfl) rfl hz34) ?_
  refine zlRun (n := 2) (j := 7) rfl (by kernel_rfl) ?_
  refine bindE hS (fun z35 hz35 hS => ?_)
  refine zlOp (d := some 75) (op := (.app 3 1 8 (.tmp 72) (.tmp 74))) (g := none) (v := (.r (.msl 552 3 0 z35.length))) (ups := [(552, ⟨3, some (.own 3 1 ((eInt .i64).cells z35))⟩)]) (j := 8) rfl (by kernel_rfl) (by kernel_rfl) (ev_app (eInt .i64) (b := 552) (g := 2) (n := z34.length) (xs := z34) (ys := [a1.Code]) ((congrArg (asL _) (by kernel_rfl : ρof _ (.tmp 74) = (.r (.msl 600 1 0 (([a1.Code] : List Int).length))))).trans (as_whole (eInt .i64) (e := 3) (k := 1) (xs := [a1.Code]) (by kernel_rfl) rfl rfl)) rfl (by kernel_rfl) rfl (by kernel_rfl) rfl hz35) ?_
  refine zlRun (n := 2) (j := 10) rfl (by kernel_rfl) ?_
  refine zlEnd (by kernel_rfl) ?_
  refine zkSeq ?_
  refine zrRet ?_
  refine zkBlkR ?_
  refine zkSeqR ?_
  refine zkNil ?_
  exact endQ hS hQ (fRet (by kernel_rfl) ((congrArg (fun s => outR s 0 c4.res) (by kernel_rfl : finSt c4.fin _ = f4_fin z35 0)).trans (f4_out z35 0)))
def f4_j3_J (a1 : GAct) (p47 : List UInt8) (p48 : List Int) : St := ⟨(up (up (up (up (fun _ => .un) 7 (.r (.msl 888 0 0 p48.length))) 5 (.d (.str p47))) 4 (.d (.int .i64 a1.Code))) 1 (.r (.ptr 16 0 0))), (up (up (hB fun _ => 0) 888 ⟨0, some (.own 3 1 ((eInt .i64).cells p48))⟩) 16 ⟨0, some (.box ((.d (.int .i64 a1.Kind)) :: ((.d (.int .i64 a1.Code)) :: ((.d (.int .i64 a1.Mark)) :: ((.d (.str a1.Inter)) :: ((.d (.sl a1.Args.length ((eInt .i64).cells a1.Args))) :: ((.d (.str a1.Text)) :: [])))))))⟩)⟩
noncomputable def f4_j3 (a1 : GAct) (p47 : List UInt8) (p48 : List Int) : Option ((List Int) × Int) := ((cat? p47 a1.Inter).bind fun z46 => ((f13 z46).bind fun z47 => ((app? 8 p48 z47).bind fun z48 => ((app? 8 z48 ([a1.Code] : List Int)).bind fun z49 => (some (z49, 0))))))
theorem f4_j3_ok {d : Nat} (hd : 5 ≤ d) (a1 : GAct) {r : (List Int) × Int} {Q : PX → St → Prop} (hQ : ∀ e st', f4_Q r e st' → Q e st') (p47 : List UInt8) (p48 : List Int) (hS : f4_j3 a1 p47 p48 = some r) {st : St} (he : keepSt [1, 4, 5, 7] [(16, .id 16), (888, .id 888)] [] st = f4_j3_J a1 p47 p48) : ZR (lev codes baseL (d - 1)) Q c4_3 [.blk 0, .seq c4_2] st := by
  refine zrKeep he ?_
  unfold f4_j3 at hS
  refine zrSeq ?_
  refine zrReg ?_
  refine zlRun (n := 4) (j := 4) rfl (by kernel_rfl) ?_
  refine bindE hS (fun z46 hz46 hS => ?_)
  refine zlOp (d := some 123) (op := (.strO .add (.tmp 120) (.tmp 122))) (g := none) (v := (.d (.str z46))) (ups := []) (j := 5) rfl (by kernel_rfl) (by kernel_rfl) (ev_cat (a := p47) (c := a1.Inter) (by kernel_rfl) (by kernel_rfl) hz46) ?_
  refine bindE hS (fun z47 hz47 hS => ?_)
  refine zlOp (d := some 124) (op := (.call 13 [(.tmp 123)])) (g := none) (j := 6) rfl (by kernel_rfl) (by kernel_rfl) (ev_callA (by kernel_rfl) (f13_ok (d - 1) (dpt hd rfl) z46 z47 hz47) (by kernel_rfl) (by kernel_rfl)) ?_
  refine bindE hS (fun z48 hz48 hS => ?_)
  refine zlOp (d := some 125) (op := (.app 3 1 8 (.tmp 119) (.tmp 124))) (g := none) (v := (.r (.msl 888 1 0 z48.length))) (ups := [(888, ⟨1, some (.own 3 1 ((eInt .i64).cells z48))⟩)]) (j := 7) rfl (by kernel_rfl) (by kernel_rfl) (ev_app (eInt .i64) (b := 888) (g := 0) (n := p48.length) (xs := p48) (ys := z47) ((congrArg (asL _) (by kernel_rfl : ρof _ (.tmp 124) = (.r (.msl 1000 1 0 z47.length)))).trans (as_whole (eInt .i64) (e := 3) (k := 1) (xs := z47) (by kernel_rfl) rfl rfl)) rfl (by kernel_rfl) rfl (by kernel_rfl) rfl hz48) ?_
  refine zlRun (n := 2) (j := 9) rfl (by kernel_rfl) ?_
  refine bindE hS (fun z49 hz49 hS => ?_)
  refine zlOp (d := some 128) (op := (.app 3 1 8 (.tmp 125) (.tmp 127))) (g := none) (v := (.r (.msl 888 2 0 z49.length))) (ups := [(888, ⟨2, some (.own 3 1 ((eInt .i64).cells z49))⟩)]) (j := 10) rfl (by kernel_rfl) (by kernel_rfl) (ev_app (eInt .i64) (b := 888) (g := 1) (n := z48.length) (xs := z48) (ys := [a1.Code]) ((congrArg (asL _) (by kernel_rfl : ρof _ (.tmp 127) = (.r (.msl 1024 1 0 (([a1.Code] : List Int).length))))).trans (as_whole (eInt .i64) (e := 3) (k := 1) (xs := [a1.Code]) (by kernel_rfl) rfl rfl)) rfl (by kernel_rfl) rfl (by kernel_rfl) rfl hz49) ?_
  refine zlRun (n := 2) (j := 12) rfl (by kernel_rfl) ?_
  refine zlEnd (by kernel_rfl) ?_
  refine zkSeq ?_
  refine zrRet ?_
  refine zkBlkR ?_
  refine zkSeqR ?_
  refine zkNil ?_
  exact endQ hS hQ (fRet (by kernel_rfl) ((congrArg (fun s => outR s 0 c4.res) (by kernel_rfl : finSt c4.fin _ = f4_fin z49 0)).trans (f4_out z49 0)))
def f4_j2_J (a1 : GAct) (p42 : List UInt8) : St := ⟨(up (up (up (fun _ => .un) 5 (.d (.str p42))) 4 (.d (.int .i64 a1.Code))) 1 (.r (.ptr 16 0 0))), (up (hB fun _ => 0) 16 ⟨0, some (.box ((.d (.int .i64 a1.Kind)) :: ((.d (.int .i64 a1.Code)) :: ((.d (.int .i64 a1.Mark)) :: ((.d (.str a1.Inter)) :: ((.d (.sl a1.Args.length ((eInt .i64).cells a1.Args))) :: ((.d (.str a1.Text)) :: [])))))))⟩)⟩
noncomputable def f4_j2 (a1 : GAct) (p42 : List UInt8) : Option ((List Int) × Int) := (bif (!decide (a1.Mark = 0)) then ((app? 8 ([27, 91] : List Int) ([a1.Mark] : List Int)).bind fun z50 => (f4_j3 a1 p42 z50)) else (f4_j3 a1 p42 [27, 91]))
theorem f4_j2_ok {d : Nat} (hd : 5 ≤ d) (a1 : GAct) {r : (List Int) × Int} {Q : PX → St → Prop} (hQ : ∀ e st', f4_Q r e st' → Q e st') (p42 : List UInt8) (hS : f4_j2 a1 p42 = some r) {st : St} (he : keepSt [1, 4, 5] [(16, .id 16)] [] st = f4_j2_J a1 p42) : ZR (lev codes baseL (d - 1)) Q c4_4 [.blk 0, .seq c4_2] st := by
  refine zrKeep he ?_
  unfold f4_j2 at hS
  refine zrSeq ?_
  refine zrReg ?_
  refine zlRun (n := 2) (j := 2) rfl (by kernel_rfl) ?_
  refine zlEnd (by kernel_rfl) ?_
  refine zkSeq ?_
  refine zrSeq ?_
  refine zrSeq ?_
  refine zrReg ?_
  refine zlRun (n := 2) (j := 2) rfl (by kernel_rfl) ?_
  refine zlBool (d := 113) (op := (.cmpI .neq (.tmp 112) (.const (.int .i64 0)))) (g := none) (j := 3) (!decide (a1.Mark = 0)) rfl (by kernel_rfl) (by kernel_rfl) (by kernel_rfl) (fun hc => ?_) (fun hc => ?_)
  · replace hS := cond_t hc hS
    refine zlEnd (by kernel_rfl) ?_
    refine zkSeq ?_
    refine zrCondT (by kernel_rfl) ?_
    refine zrReg ?_
    refine zlRun (n := 4) (j := 4) rfl (by kernel_rfl) ?_
    refine bindE hS (fun z50 hz50 hS => ?_)
    refine zlOp (d := some 118) (op := (.app 3 1 8 (.tmp 114) (.tmp 117))) (g := none) (v := (.r (.msl 888 2 0 z50.length))) (ups := [(888, ⟨2, some (.own 3 1 ((eInt .i64).cells z50))⟩)]) (j := 5) rfl (by kernel_rfl) (by kernel_rfl) (ev_app (eInt .i64) (b := 888) (g := 1) (n := ([27, 91] : List Int).length) (xs := [27, 91]) (ys := [a1.Mark]) ((congrArg (asL _) (by kernel_rfl : ρof _ (.tmp 117) = (.r (.msl 944 1 0 (([a1.Mark] : List Int).length))))).trans (as_whole (eInt .i64) (e := 3) (k := 1) (xs := [a1.Mark]) (by kernel_rfl) rfl rfl)) rfl (by kernel_rfl) rfl (by kernel_rfl) rfl hz50) ?_
    refine zlRun (n := 1) (j := 6) rfl (by kernel_rfl) ?_
    refine zlEnd (by kernel_rfl) ?_
    refine zkSeq ?_
    exact f4_j3_ok hd a1 hQ p42 z50 hS (by kernel_rfl)
  · replace hS := cond_f hc hS
    refine zlEnd (by kernel_rfl) ?_
    refine zkSeq ?_
    refine zrCondF (by kernel_rfl) ?_
    refine zrSkip ?_
    refine zkSeq ?_
    exact f4_j3_ok hd a1 hQ p42 [27, 91] hS (by kernel_rfl)
def f4_j0_J (a1 : GAct) : St := ⟨(up (fun _ => .un) 1 (.r (.ptr 16 0 0))), (up (hB fun _ => 0) 16 ⟨0, some (.box ((.d (.int .i64 a1.Kind)) :: ((.d (.int .i64 a1.Code)) :: ((.d (.int .i64 a1.Mark)) :: ((.d (.str a1.Inter)) :: ((.d (.sl a1.Args.length ((eInt .i64).cells a1.Args))) :: ((.d (.str a1.Text)) :: [])))))))⟩)⟩
noncomputable def f4_j0 (a1 : GAct) : Option ((List Int) × Int) := (bif (decide (a1.Kind = 1)) then (bif (decide (32 ≤ a1.Code)) then ((f9 a1.Code).bind fun z27 => (bif z27 then ((f10 a1.Code 127 159).bind fun z28 => (bif (!z28) then (some ([a1.Code], 0)) else (some ([], 1)))) else (some ([], 1)))) else (some ([], 1))) else (bif (decide (a1.Kind = 2)) then ((f10 a1.Code 0 31).bind fun z29 => (bif z29 then (bif (!decide (a1.Code = 24)) then (bif (!decide (a1.Code = 26)) then (bif (!decide (a1.Code = 27)) then (some ([a1.Code], 0)) else (some ([], 1))) else (some ([], 1))) else (some ([], 1))) else (some ([], 1)))) else (bif (decide (a1.Kind = 3)) then ((f11 a1.Inter 2).bind fun z36 => (bif z36 then ((f10 a1.Code 48 126).bind fun z37 => (bif z37 then (bif (!decide (a1.Inter = ([] : List UInt8))) then (f4_j1 a1 ) else ((libIndexByte [91, 93, 80, 88, 94, 95] (u8 a1.Code)).bind fun z38 => (bif (decide (z38 < 0)) then (f4_j1 a1 ) else (some ([], 1))))) else (some ([], 1)))) else (some ([], 1)))) else (bif (decide (a1.Kind = 4)) then ((f14 a1.Args).bind fun z39 => (bif (decide (a1.Mark = 0)) then ((f11 a1.Inter 2).bind fun z51 => (bif z51 then ((f10 a1.Code 64 126).bind fun z52 => (bif z52 then (bif (decide (z39.2 = 0)) then (bif (decide ((z39.1.length : Int) ≤ 100)) then (f4_j2 a1 z39.1) else (some ([], 1))) else (some ([], 1))) else (some ([], 1)))) else (some ([], 1)))) else ((f10 a1.Mark 60 63).bind fun z53 => (bif z53 then ((f11 a1.Inter 2).bind fun z54 => (bif z54 then ((f10 a1.Code 64 126).bind fun z55 => (bif z55 then (bif (decide (z39.2 = 0)) then (bif (decide ((z39.1.length : Int) ≤ 100)) then (f4_j2 a1 z39.1) else (some ([], 1))) else (some ([], 1))) else (some ([], 1)))) else (some ([], 1)))) else (some ([], 1)))))) else (bif (decide (a1.Kind = 5)) then ((f15 a1.Text).bind fun z56 => (bif z56 then ((f13 a1.Text).bind fun z57 => ((app? 8 ([27, 93] : List Int) z57).bind fun z58 => ((app? 8 z58 ([7] : List Int)).bind fun z59 => (some (z59, 0))))) else (some ([], 1)))) else (some ([], 1)))))))
theorem f4_j0_ok {d : Nat} (hd : 5 ≤ d) (a1 : GAct) {r : (List Int) × Int} {Q : PX → St → Prop} (hQ : ∀ e st', f4_Q r e st' → Q e st')  (hS : f4_j0 a1 = some r) {st : St} (he : keepSt [1] [(16, .id 16)] [] st = f4_j0_J a1) : ZR (lev codes baseL (d - 1)) Q c4_5 [] st := by
  refine zrKeep he ?_
  unfold f4_j0 at hS
  refine zrSeq ?_
  refine zrReg ?_
  refine zlRun (n := 3) (j := 3) rfl (by kernel_rfl) ?_
  refine zlEnd (by kernel_rfl) ?_
  refine zkSeq ?_
  refine zrSeq ?_
  refine zrSeq ?_
  refine zrReg ?_
  refine zlRun (n := 2) (j := 2) rfl (by kernel_rfl) ?_
  refine zlEnd (by kernel_rfl) ?_
  refine zkSeq ?_
  refine zrBlk ?_
  refine zrSeq ?_
  refine zrReg ?_
  refine zlBool (d := 16) (op := (.cmpI .eql (.tmp 14) (.const (.int .i64 1)))) (g := none) (j := 1) (decide (a1.Kind = 1)) rfl (by kernel_rfl) (by kernel_rfl) (by kernel_rfl) (fun hc => ?_) (fun hc => ?_)
  · replace hS := cond_t hc hS
    refine zlRun (n := 1) (j := 2) rfl (by kernel_rfl) ?_
    refine zlEnd (by kernel_rfl) ?_
    refine zkSeq ?_
    refine zrCondT (by kernel_rfl) ?_
    refine zrSeq ?_
    refine zrReg ?_
    refine zlRun (n := 1) (j := 1) rfl (by kernel_rfl) ?_
    refine zlBool (d := 18) (op := (.cmpI .geq (.tmp 17) (.const (.int .i64 32)))) (g := none) (j := 2) (decide (32 ≤ a1.Code)) rfl (by kernel_rfl) (by kernel_rfl) (by kernel_rfl) (fun hc => ?_) (fun hc => ?_)
    · replace hS := cond_t hc hS
      refine zlRun (n := 2) (j := 4) rfl (by kernel_rfl) ?_
      refine bindE hS (fun z27 hz27 hS => ?_)
      refine zlOp (d := some 21) (op := (.call 9 [(.tmp 20)])) (g := (some (19, true))) (j := 5) rfl (by kernel_rfl) (by kernel_rfl) (ev_callA (by kernel_rfl) (f9_ok (d - 1) (dpt hd rfl) a1.Code z27 hz27) (by kernel_rfl) (by kernel_rfl)) ?_
      refine zlRun (n := 2) (j := 7) rfl (by kernel_rfl) ?_
      refine zlSplit 23 z27 (by kernel_rfl) (fun hc => ?_) (fun hc => ?_)
      · replace hS := cond_t hc hS
        refine zlRun (n := 1) (j := 8) rfl (by kernel_rfl) ?_
        refine bindE hS (fun z28 hz28 hS => ?_)
        refine zlOp (d := some 25) (op := (.call 10 [(.tmp 24), (.const (.int .i64 127)), (.const (.int .i64 159))])) (g := (some (23, true))) (j := 9) rfl (by kernel_rfl) (by kernel_rfl) (ev_callA (by kernel_rfl) (f10_ok (d - 1) (dpt hd rfl) a1.Code 127 159 z28 hz28) (by kernel_rfl) (by kernel_rfl)) ?_
        refine zlRun (n := 2) (j := 11) rfl (by kernel_rfl) ?_
        refine zlEnd (by kernel_rfl) ?_
        refine zkSeq ?_
        refine zrSplit 27 (!z28) (by kernel_rfl) (fun hc => ?_) (fun hc => ?_)
        · replace hS := cond_t hc hS
          refine zrCondT (by kernel_rfl) ?_
          refine zrSeq ?_
          refine zrReg ?_
          refine zlRun (n := 4) (j := 4) rfl (by kernel_rfl) ?_
          refine zlEnd (by kernel_rfl) ?_
          refine zkSeq ?_
          refine zrRet ?_
          refine zkBlkR ?_
          refine zkSeqR ?_
          refine zkNil ?_
          exact endQ hS hQ (fRet (by kernel_rfl) ((congrArg (fun s => outR s 0 c4.res) (by kernel_rfl : finSt c4.fin _ = f4_fin [a1.Code] 0)).trans (f4_out [a1.Code] 0)))
        · replace hS := cond_f hc hS
          refine zrCondF (by kernel_rfl) ?_
          refine zrSkip ?_
          refine zkBlk ?_
          refine zkSeq ?_
          refine zrSeq ?_
          refine zrReg ?_
          refine zlRun (n := 2) (j := 2) rfl (by kernel_rfl) ?_
          refine zlEnd (by kernel_rfl) ?_
          refine zkSeq ?_
          refine zrRet ?_
          refine zkNil ?_
          exact endQ hS hQ (fRet (by kernel_rfl) ((congrArg (fun s => outR s 0 c4.res) (by kernel_rfl : finSt c4.fin _ = f4_fin [] 1)).trans (f4_out [] 1)))
      · replace hS := cond_f hc hS
        refine zlRun (n := 4) (j := 11) rfl (by kernel_rfl) ?_
        refine zlEnd (by kernel_rfl) ?_
        refine zkSeq ?_
        refine zrCondF (by kernel_rfl) ?_
        refine zrSkip ?_
        refine zkBlk ?_
        refine zkSeq ?_
        refine zrSeq ?_
        refine zrReg ?_
        refine zlRun (n := 2) (j := 2) rfl (by kernel_rfl) ?_
        refine zlEnd (by kernel_rfl) ?_
        refine zkSeq ?_
        refine zrRet ?_
        refine zkNil ?_
        exact endQ hS hQ (fRet (by kernel_rfl) ((congrArg (fun s => outR s 0 c4.res) (by kernel_rfl : finSt c4.fin _ = f4_fin [] 1)).trans (f4_out [] 1)))
    · replace hS := cond_f hc hS
      refine zlRun (n := 9) (j := 11) rfl (by kernel_rfl) ?_
      refine zlEnd (by kernel_rfl) ?_
      refine zkSeq ?_
      refine zrCondF (by kernel_rfl) ?_
      refine zrSkip ?_
      refine zkBlk ?_
      refine zkSeq ?_
      refine zrSeq ?_
      refine zrReg ?_
      refine zlRun (n := 2) (j := 2) rfl (by kernel_rfl) ?_
      refine zlEnd (by kernel_rfl) ?_
      refine zkSeq ?_
      refine zrRet ?_
      refine zkNil ?_
      exact endQ hS hQ (fRet (by kernel_rfl) ((congrArg (fun s => outR s 0 c4.res) (by kernel_rfl : finSt c4.fin _ = f4_fin [] 1)).trans (f4_out [] 1)))
  · replace hS := cond_f hc hS
    refine zlRun (n := 1) (j := 2) rfl (by kernel_rfl) ?_
    refine zlEnd (by kernel_rfl) ?_
    refine zkSeq ?_
    refine zrCondF (by kernel_rfl) ?_
    refine zrSeq ?_
    refine zrReg ?_
    refine zlBool (d := 31) (op := (.cmpI .eql (.tmp 14) (.const (.int .i64 2)))) (g := none) (j := 1) (decide (a1.Kind = 2)) rfl (by kernel_rfl) (by kernel_rfl) (by kernel_rfl) (fun hc => ?_) (fun hc => ?_)
    · replace hS := cond_t hc hS
      refine zlRun (n := 1) (j := 2) rfl (by kernel_rfl) ?_
      refine zlEnd (by kernel_rfl) ?_
      refine zkSeq ?_
      refine zrCondT (by kernel_rfl) ?_
      refine zrSeq ?_
      refine zrReg ?_
      refine zlRun (n := 1) (j := 1) rfl (by kernel_rfl) ?_
      refine bindE hS (fun z29 hz29 hS => ?_)
      refine zlOp (d := some 33) (op := (.call 10 [(.tmp 32), (.const (.int .i64 0)), (.const (.int .i64 31))])) (g := none) (j := 2) rfl (by kernel_rfl) (by kernel_rfl) (ev_callA (by kernel_rfl) (f10_ok (d - 1) (dpt hd rfl) a1.Code 0 31 z29 hz29) (by kernel_rfl) (by kernel_rfl)) ?_
      refine zlRun (n := 1) (j := 3) rfl (by kernel_rfl) ?_
      refine zlSplit 34 z29 (by kernel_rfl) (fun hc => ?_) (fun hc => ?_)
      · replace hS := cond_t hc hS
        refine zlRun (n := 1) (j := 4) rfl (by kernel_rfl) ?_
        refine zlBool (d := 36) (op := (.cmpI .neq (.tmp 35) (.const (.int .i64 24)))) (g := (some (34, true))) (j := 5) (!decide (a1.Code = 24)) rfl (by kernel_rfl) (by kernel_rfl) (by kernel_rfl) (fun hc => ?_) (fun hc => ?_)
        · replace hS := cond_t hc hS
          refine zlRun (n := 3) (j := 8) rfl (by kernel_rfl) ?_
          refine zlBool (d := 40) (op := (.cmpI .neq (.tmp 39) (.const (.int .i64 26)))) (g := (some (38, true))) (j := 9) (!decide (a1.Code = 26)) rfl (by kernel_rfl) (by kernel_rfl) (by kernel_rfl) (fun hc => ?_) (fun hc => ?_)
          · replace hS := cond_t hc hS
            refine zlRun (n := 3) (j := 12) rfl (by kernel_rfl) ?_
            refine zlBool (d := 44) (op := (.cmpI .neq (.tmp 43) (.const (.int .i64 27)))) (g := (some (42, true))) (j := 13) (!decide (a1.Code = 27)) rfl (by kernel_rfl) (by kernel_rfl) (by kernel_rfl) (fun hc => ?_) (fun hc => ?_)
            · replace hS := cond_t hc hS
              refine zlRun (n := 1) (j := 14) rfl (by kernel_rfl) ?_
              refine zlEnd (by kernel_rfl) ?_
              refine zkSeq ?_
              refine zrCondT (by kernel_rfl) ?_
              refine zrSeq ?_
              refine zrReg ?_
              refine zlRun (n := 4) (j := 4) rfl (by kernel_rfl) ?_
              refine zlEnd (by kernel_rfl) ?_
              refine zkSeq ?_
              refine zrRet ?_
              refine zkBlkR ?_
              refine zkSeqR ?_
              refine zkNil ?_
              exact endQ hS hQ (fRet (by kernel_rfl) ((congrArg (fun s => outR s 0 c4.res) (by kernel_rfl : finSt c4.fin _ = f4_fin [a1.Code] 0)).trans (f4_out [a1.Code] 0)))
            · replace hS := cond_f hc hS
              refine zlRun (n := 1) (j := 14) rfl (by kernel_rfl) ?_
              refine zlEnd (by kernel_rfl) ?_
              refine zkSeq ?_
              refine zrCondF (by kernel_rfl) ?_
              refine zrSkip ?_
              refine zkBlk ?_
              refine zkSeq ?_
              refine zrSeq ?_
              refine zrReg ?_
              refine zlRun (n := 2) (j := 2) rfl (by kernel_rfl) ?_
              refine zlEnd (by kernel_rfl) ?_
              refine zkSeq ?_
              refine zrRet ?_
              refine zkNil ?_
              exact endQ hS hQ (fRet (by kernel_rfl) ((congrArg (fun s => outR s 0 c4.res) (by kernel_rfl : finSt c4.fin _ = f4_fin [] 1)).trans (f4_out [] 1)))
          · replace hS := cond_f hc hS
            refine zlRun (n := 5) (j := 14) rfl (by kernel_rfl) ?_
            refine zlEnd (by kernel_rfl) ?_
            refine zkSeq ?_
            refine zrCondF (by kernel_rfl) ?_
            refine zrSkip ?_
            refine zkBlk ?_
            refine zkSeq ?_
            refine zrSeq ?_
            refine zrReg ?_
            refine zlRun (n := 2) (j := 2) rfl (by kernel_rfl) ?_
            refine zlEnd (by kernel_rfl) ?_
            refine zkSeq ?_
            refine zrRet ?_
            refine zkNil ?_
            exact endQ hS hQ (fRet (by kernel_rfl) ((congrArg (fun s => outR s 0 c4.res) (by kernel_rfl : finSt c4.fin _ = f4_fin [] 1)).trans (f4_out [] 1)))
        · replace hS := cond_f hc hS
          refine zlRun (n := 9) (j := 14) rfl (by kernel_rfl) ?_
          refine zlEnd (by kernel_rfl) ?_
          refine zkSeq ?_
          refine zrCondF (by kernel_rfl) ?_
          refine zrSkip ?_
          refine zkBlk ?_
          refine zkSeq ?_
          refine zrSeq ?_
          refine zrReg ?_
          refine zlRun (n := 2) (j := 2) rfl (by kernel_rfl) ?_
          refine zlEnd (by kernel_rfl) ?_
          refine zkSeq ?_
          refine zrRet ?_
          refine zkNil ?_
          exact endQ hS hQ (fRet (by kernel_rfl) ((congrArg (fun s => outR s 0 c4.res) (by kernel_rfl : finSt c4.fin _ = f4_fin [] 1)).trans (f4_out [] 1)))
      · replace hS := cond_f hc hS
        refine zlRun (n := 11) (j := 14) rfl (by kernel_rfl) ?_
        refine zlEnd (by kernel_rfl) ?_
        refine zkSeq ?_
        refine zrCondF (by kernel_rfl) ?_
        refine zrSkip ?_
        refine zkBlk ?_
        refine zkSeq ?_
        refine zrSeq ?_
        refine zrReg ?_
        refine zlRun (n := 2) (j := 2) rfl (by kernel_rfl) ?_
        refine zlEnd (by kernel_rfl) ?_
        refine zkSeq ?_
        refine zrRet ?_
        refine zkNil ?_
        exact endQ hS hQ (fRet (by kernel_rfl) ((congrArg (fun s => outR s 0 c4.res) (by kernel_rfl : finSt c4.fin _ = f4_fin [] 1)).trans (f4_out [] 1)))
    · replace hS := cond_f hc hS
      refine zlRun (n := 1) (j := 2) rfl (by kernel_rfl) ?_
      refine zlEnd (by kernel_rfl) ?_
      refine zkSeq ?_
      refine zrCondF (by kernel_rfl) ?_
      refine zrSeq ?_
      refine zrReg ?_
      refine zlBool (d := 49) (op := (.cmpI .eql (.tmp 14) (.const (.int .i64 3)))) (g := none) (j := 1) (decide (a1.Kind = 3)) rfl (by kernel_rfl) (by kernel_rfl) (by kernel_rfl) (fun hc => ?_) (fun hc => ?_)
      · replace hS := cond_t hc hS
        refine zlRun (n := 1) (j := 2) rfl (by kernel_rfl) ?_
        refine zlEnd (by kernel_rfl) ?_
        refine zkSeq ?_
        refine zrCondT (by kernel_rfl) ?_
        refine zrSeq ?_
        refine zrReg ?_
        refine zlRun (n := 2) (j := 2) rfl (by kernel_rfl) ?_
        refine bindE hS (fun z36 hz36 hS => ?_)
        refine zlOp (d := some 52) (op := (.call 11 [(.tmp 51), (.const (.int .i64 2))])) (g := none) (j := 3) rfl (by kernel_rfl) (by kernel_rfl) (ev_callA (by kernel_rfl) (f11_ok (d - 1) (dpt hd rfl) a1.Inter 2 z36 hz36) (by kernel_rfl) (by kernel_rfl)) ?_
        refine zlRun (n := 1) (j := 4) rfl (by kernel_rfl) ?_
        refine zlSplit 53 z36 (by kernel_rfl) (fun hc => ?_) (fun hc => ?_)
        · replace hS := cond_t hc hS
          refine zlRun (n := 1) (j := 5) rfl (by kernel_rfl) ?_
          refine bindE hS (fun z37 hz37 hS => ?_)
          refine zlOp (d := some 55) (op := (.call 10 [(.tmp 54), (.const (.int .i64 48)), (.const (.int .i64 126))])) (g := (some (53, true))) (j := 6) rfl (by kernel_rfl) (by kernel_rfl) (ev_callA (by kernel_rfl) (f10_ok (d - 1) (dpt hd rfl) a1.Code 48 126 z37 hz37) (by kernel_rfl) (by kernel_rfl)) ?_
          refine zlRun (n := 2) (j := 8) rfl (by kernel_rfl) ?_
          refine zlSplit 57 z37 (by kernel_rfl) (fun hc => ?_) (fun hc => ?_)
          · replace hS := cond_t hc hS
            refine zlRun (n := 2) (j := 10) rfl (by kernel_rfl) ?_
            refine zlBool (d := 60) (op := (.strO .neq (.tmp 59) (.const (.string ⟨#[]⟩)))) (g := (some (57, true))) (j := 11) (!decide (a1.Inter = ([] : List UInt8))) rfl (by kernel_rfl) (by kernel_rfl) (by kernel_rfl) (fun hc => ?_) (fun hc => ?_)
            · replace hS := cond_t hc hS
              refine zlRun (n := 7) (j := 18) rfl (by kernel_rfl) ?_
              refine zlEnd (by kernel_rfl) ?_
              refine zkSeq ?_
              refine zrCondT (by kernel_rfl) ?_
              exact f4_j1_ok hd a1 hQ  hS (by kernel_rfl)
            · replace hS := cond_f hc hS
              refine zlRun (n := 2) (j := 13) rfl (by kernel_rfl) ?_
              refine zlOp (d := some 63) (op := (.cvI .u8 (.tmp 62))) (g := (some (61, false))) (v := (.d (.int .u8 ((u8 a1.Code).toNat : Int)))) (ups := []) (j := 14) rfl (by kernel_rfl) (by kernel_rfl) (ev_cv (kk := .i64) (a := a1.Code) (by kernel_rfl) (u8_wrap _)) ?_
              refine bindE hS (fun z38 hz38 hS => ?_)
              refine zlOp (d := some 64) (op := (.call 12 [(.const (.string ⟨#[91, 93, 80, 88, 94, 95]⟩)), (.tmp 63)])) (g := (some (61, false))) (j := 15) rfl (by kernel_rfl) (by kernel_rfl) (ev_callA (by kernel_rfl) (libIndexByte_ok (d - 1) (dpt hd rfl) [91, 93, 80, 88, 94, 95] (u8 a1.Code) z38 hz38) (by kernel_rfl) (by kernel_rfl)) ?_
              refine zlBool (d := 65) (op := (.cmpI .lss (.tmp 64) (.const (.int .i64 0)))) (g := (some (61, false))) (j := 16) (decide (z38 < 0)) rfl (by kernel_rfl) (by kernel_rfl) (by kernel_rfl) (fun hc => ?_) (fun hc => ?_)
              · replace hS := cond_t hc hS
                refine zlRun (n := 2) (j := 18) rfl (by kernel_rfl) ?_
                refine zlEnd (by kernel_rfl) ?_
                refine zkSeq ?_
                refine zrCondT (by kernel_rfl) ?_
                exact f4_j1_ok hd a1 hQ  hS (by kernel_rfl)
              · replace hS := cond_f hc hS
                refine zlRun (n := 2) (j := 18) rfl (by kernel_rfl) ?_
                refine zlEnd (by kernel_rfl) ?_
                refine zkSeq ?_
                refine zrCondF (by kernel_rfl) ?_
                refine zrSkip ?_
                refine zkBlk ?_
                refine zkSeq ?_
                refine zrSeq ?_
                refine zrReg ?_
                refine zlRun (n := 2) (j := 2) rfl (by kernel_rfl) ?_
                refine zlEnd (by kernel_rfl) ?_
                refine zkSeq ?_
                refine zrRet ?_
                refine zkNil ?_
                exact endQ hS hQ (fRet (by kernel_rfl) ((congrArg (fun s => outR s 0 c4.res) (by kernel_rfl : finSt c4.fin _ = f4_fin [] 1)).trans (f4_out [] 1)))
          · replace hS := cond_f hc hS
            refine zlRun (n := 10) (j := 18) rfl (by kernel_rfl) ?_
            refine zlEnd (by kernel_rfl) ?_
            refine zkSeq ?_
            refine zrCondF (by kernel_rfl) ?_
            refine zrSkip ?_
            refine zkBlk ?_
            refine zkSeq ?_
            refine zrSeq ?_
            refine zrReg ?_
            refine zlRun (n := 2) (j := 2) rfl (by kernel_rfl) ?_
            refine zlEnd (by kernel_rfl) ?_
            refine zkSeq ?_
            refine zrRet ?_
            refine zkNil ?_
            exact endQ hS hQ (fRet (by kernel_rfl) ((congrArg (fun s => outR s 0 c4.res) (by kernel_rfl : finSt c4.fin _ = f4_fin [] 1)).trans (f4_out [] 1)))
        · replace hS := cond_f hc hS
          refine zlRun (n := 14) (j := 18) rfl (by kernel_rfl) ?_
          refine zlEnd (by kernel_rfl) ?_
          refine zkSeq ?_
          refine zrCondF (by kernel_rfl) ?_
          refine zrSkip ?_
          refine zkBlk ?_
          refine zkSeq ?_
          refine zrSeq ?_
          refine zrReg ?_
          refine zlRun (n := 2) (j := 2) rfl (by kernel_rfl) ?_
          refine zlEnd (by kernel_rfl) ?_
          refine zkSeq ?_
          refine zrRet ?_
          refine zkNil ?_
          exact endQ hS hQ (fRet (by kernel_rfl) ((congrArg (fun s => outR s 0 c4.res) (by kernel_rfl : finSt c4.fin _ = f4_fin [] 1)).trans (f4_out [] 1)))
      · replace hS := cond_f hc hS
        refine zlRun (n := 1) (j := 2) rfl (by kernel_rfl) ?_
        refine zlEnd (by kernel_rfl) ?_
        refine zkSeq ?_
        refine zrCondF (by kernel_rfl) ?_
        refine zrSeq ?_
        refine zrReg ?_
        refine zlBool (d := 77) (op := (.cmpI .eql (.tmp 14) (.const (.int .i64 4)))) (g := none) (j := 1) (decide (a1.Kind = 4)) rfl (by kernel_rfl) (by kernel_rfl) (by kernel_rfl) (fun hc => ?_) (fun hc => ?_)
        · replace hS := cond_t hc hS
          refine zlRun (n := 1) (j := 2) rfl (by kernel_rfl) ?_
          refine zlEnd (by kernel_rfl) ?_
          refine zkSeq ?_
          refine zrCondT (by kernel_rfl) ?_
          refine zrSeq ?_
          refine zrReg ?_
          refine zlRun (n := 2) (j := 2) rfl (by kernel_rfl) ?_
          refine bindE hS (fun z39 hz39 hS => ?_)
          refine zlOp (d := some 81) (op := (.call 14 [(.tmp 80)])) (g := none) (j := 3) rfl (by kernel_rfl) (by kernel_rfl) (ev_callA (by kernel_rfl) (f14_ok (d - 1) (dpt hd rfl) a1.Args z39 hz39) (by kernel_rfl) (by kernel_rfl)) ?_
          refine zlRun (n := 5) (j := 8) rfl (by kernel_rfl) ?_
          refine zlEnd (by kernel_rfl) ?_
          refine zkSeq ?_
          refine zrSeq ?_
          refine zrReg ?_
          refine zlRun (n := 2) (j := 2) rfl (by kernel_rfl) ?_
          refine zlBool (d := 86) (op := (.cmpI .eql (.tmp 85) (.const (.int .i64 0)))) (g := none) (j := 3) (decide (a1.Mark = 0)) rfl (by kernel_rfl) (by kernel_rfl) (by kernel_rfl) (fun hc => ?_) (fun hc => ?_)
          · replace hS := cond_t hc hS
            refine zlRun (n := 8) (j := 11) rfl (by kernel_rfl) ?_
            refine bindE hS (fun z51 hz51 hS => ?_)
            refine zlOp (d := some 95) (op := (.call 11 [(.tmp 94), (.const (.int .i64 2))])) (g := (some (92, true))) (j := 12) rfl (by kernel_rfl) (by kernel_rfl) (ev_callA (by kernel_rfl) (f11_ok (d - 1) (dpt hd rfl) a1.Inter 2 z51 hz51) (by kernel_rfl) (by kernel_rfl)) ?_
            refine zlRun (n := 2) (j := 14) rfl (by kernel_rfl) ?_
            refine zlSplit 97 z51 (by kernel_rfl) (fun hc => ?_) (fun hc => ?_)
            · replace hS := cond_t hc hS
              refine zlRun (n := 1) (j := 15) rfl (by kernel_rfl) ?_
              refine bindE hS (fun z52 hz52 hS => ?_)
              refine zlOp (d := some 99) (op := (.call 10 [(.tmp 98), (.const (.int .i64 64)), (.const (.int .i64 126))])) (g := (some (97, true))) (j := 16) rfl (by kernel_rfl) (by kernel_rfl) (ev_callA (by kernel_rfl) (f10_ok (d - 1) (dpt hd rfl) a1.Code 64 126 z52 hz52) (by kernel_rfl) (by kernel_rfl)) ?_
              refine zlRun (n := 2) (j := 18) rfl (by kernel_rfl) ?_
              refine zlSplit 101 z52 (by kernel_rfl) (fun hc => ?_) (fun hc => ?_)
              · replace hS := cond_t hc hS
                refine zlRun (n := 1) (j := 19) rfl (by kernel_rfl) ?_
                refine zlBool (d := 103) (op := (.cmpI .eql (.tmp 102) (.const (.int .i64 0)))) (g := (some (101, true))) (j := 20) (decide (z39.2 = 0)) rfl (by kernel_rfl) (by kernel_rfl) (by kernel_rfl) (fun hc => ?_) (fun hc => ?_)
                · replace hS := cond_t hc hS
                  refine zlRun (n := 4) (j := 24) rfl (by kernel_rfl) ?_
                  refine zlBool (d := 108) (op := (.cmpI .leq (.tmp 107) (.const (.int .i64 100)))) (g := (some (105, true))) (j := 25) (decide ((z39.1.length : Int) ≤ 100)) rfl (by kernel_rfl) (by kernel_rfl) (by kernel_rfl) (fun hc => ?_) (fun hc => ?_)
                  · replace hS := cond_t hc hS
                    refine zlRun (n := 1) (j := 26) rfl (by kernel_rfl) ?_
                    refine zlEnd (by kernel_rfl) ?_
                    refine zkSeq ?_
                    refine zrCondT (by kernel_rfl) ?_
                    exact f4_j2_ok hd a1 hQ z39.1 hS (by kernel_rfl)
                  · replace hS := cond_f hc hS
                    refine zlRun (n := 1) (j := 26) rfl (by kernel_rfl) ?_
                    refine zlEnd (by kernel_rfl) ?_
                    refine zkSeq ?_
                    refine zrCondF (by kernel_rfl) ?_
                    refine zrSkip ?_
                    refine zkBlk ?_
                    refine zkSeq ?_
                    refine zrSeq ?_
                    refine zrReg ?_
                    refine zlRun (n := 2) (j := 2) rfl (by kernel_rfl) ?_
                    refine zlEnd (by kernel_rfl) ?_
                    refine zkSeq ?_
                    refine zrRet ?_
                    refine zkNil ?_
                    exact endQ hS hQ (fRet (by kernel_rfl) ((congrArg (fun s => outR s 0 c4.res) (by kernel_rfl : finSt c4.fin _ = f4_fin [] 1)).trans (f4_out [] 1)))
                · replace hS := cond_f hc hS
                  refine zlRun (n := 6) (j := 26) rfl (by kernel_rfl) ?_
                  refine zlEnd (by kernel_rfl) ?_
                  refine zkSeq ?_
                  refine zrCondF (by kernel_rfl) ?_
                  refine zrSkip ?_
                  refine zkBlk ?_
                  refine zkSeq ?_
                  refine zrSeq ?_
                  refine zrReg ?_
                  refine zlRun (n := 2) (j := 2) rfl (by kernel_rfl) ?_
                  refine zlEnd (by kernel_rfl) ?_
                  refine zkSeq ?_
                  refine zrRet ?_
                  refine zkNil ?_
                  exact endQ hS hQ (fRet (by kernel_rfl) ((congrArg (fun s => outR s 0 c4.res) (by kernel_rfl : finSt c4.fin _ = f4_fin [] 1)).trans (f4_out [] 1)))
              · replace hS := cond_f hc hS
                refine zlRun (n := 8) (j := 26) rfl (by kernel_rfl) ?_
                refine zlEnd (by kernel_rfl) ?_
                refine zkSeq ?_
                refine zrCondF (by kernel_rfl) ?_
                refine zrSkip ?_
                refine zkBlk ?_
                refine zkSeq ?_
                refine zrSeq ?_
                refine zrReg ?_
                refine zlRun (n := 2) (j := 2) rfl (by kernel_rfl) ?_
                refine zlEnd (by kernel_rfl) ?_
                refine zkSeq ?_
                refine zrRet ?_
                refine zkNil ?_
                exact endQ hS hQ (fRet (by kernel_rfl) ((congrArg (fun s => outR s 0 c4.res) (by kernel_rfl : finSt c4.fin _ = f4_fin [] 1)).trans (f4_out [] 1)))
            · replace hS := cond_f hc hS
              refine zlRun (n := 12) (j := 26) rfl (by kernel_rfl) ?_
              refine zlEnd (by kernel_rfl) ?_
              refine zkSeq ?_
              refine zrCondF (by kernel_rfl) ?_
              refine zrSkip ?_
              refine zkBlk ?_
              refine zkSeq ?_
              refine zrSeq ?_
              refine zrReg ?_
              refine zlRun (n := 2) (j := 2) rfl (by kernel_rfl) ?_
              refine zlEnd (by kernel_rfl) ?_
              refine zkSeq ?_
              refine zrRet ?_
              refine zkNil ?_
              exact endQ hS hQ (fRet (by kernel_rfl) ((congrArg (fun s => outR s 0 c4.res) (by kernel_rfl : finSt c4.fin _ = f4_fin [] 1)).trans (f4_out [] 1)))
          · replace hS := cond_f hc hS
            refine zlRun (n := 3) (j := 6) rfl (by kernel_rfl) ?_
            refine bindE hS (fun z53 hz53 hS => ?_)
            refine zlOp (d := some 90) (op := (.call 10 [(.tmp 89), (.const (.int .i64 60)), (.const (.int .i64 63))])) (g := (some (87, false))) (j := 7) rfl (by kernel_rfl) (by kernel_rfl) (ev_callA (by kernel_rfl) (f10_ok (d - 1) (dpt hd rfl) a1.Mark 60 63 z53 hz53) (by kernel_rfl) (by kernel_rfl)) ?_
            refine zlRun (n := 2) (j := 9) rfl (by kernel_rfl) ?_
            refine zlSplit 92 z53 (by kernel_rfl) (fun hc => ?_) (fun hc => ?_)
            · replace hS := cond_t hc hS
              refine zlRun (n := 2) (j := 11) rfl (by kernel_rfl) ?_
              refine bindE hS (fun z54 hz54 hS => ?_)
              refine zlOp (d := some 95) (op := (.call 11 [(.tmp 94), (.const (.int .i64 2))])) (g := (some (92, true))) (j := 12) rfl (by kernel_rfl) (by kernel_rfl) (ev_callA (by kernel_rfl) (f11_ok (d - 1) (dpt hd rfl) a1.Inter 2 z54 hz54) (by kernel_rfl) (by kernel_rfl)) ?_
              refine zlRun (n := 2) (j := 14) rfl (by kernel_rfl) ?_
              refine zlSplit 97 z54 (by kernel_rfl) (fun hc => ?_) (fun hc => ?_)
              · replace hS := cond_t hc hS
                refine zlRun (n := 1) (j := 15) rfl (by kernel_rfl) ?_
                refine bindE hS (fun z55 hz55 hS => ?_)
                refine zlOp (d := some 99) (op := (.call 10 [(.tmp 98), (.const (.int .i64 64)), (.const (.int .i64 126))])) (g := (some (97, true))) (j := 16) rfl (by kernel_rfl) (by kernel_rfl) (ev_callA (by kernel_rfl) (f10_ok (d - 1) (dpt hd rfl) a1.Code 64 126 z55 hz55) (by kernel_rfl) (by kernel_rfl)) ?_
                refine zlRun (n := 2) (j := 18) rfl (by kernel_rfl) ?_
                refine zlSplit 101 z55 (by kernel_rfl) (fun hc => ?_) (fun hc => ?_)
                · replace hS := cond_t hc hS
                  refine zlRun (n := 1) (j := 19) rfl (by kernel_rfl) ?_
                  refine zlBool (d := 103) (op := (.cmpI .eql (.tmp 102) (.const (.int .i64 0)))) (g := (some (101, true))) (j := 20) (decide (z39.2 = 0)) rfl (by kernel_rfl) (by kernel_rfl) (by kernel_rfl) (fun hc => ?_) (fun hc => ?_)
                  · replace hS := cond_t hc hS
                    refine zlRun (n := 4) (j := 24) rfl (by kernel_rfl) ?_
                    refine zlBool (d := 108) (op := (.cmpI .leq (.tmp 107) (.const (.int .i64 100)))) (g := (some (105, true))) (j := 25) (decide ((z39.1.length : Int) ≤ 100)) rfl (by kernel_rfl) (by kernel_rfl) (by kernel_rfl) (fun hc => ?_) (fun hc => ?_)
                    · replace hS := cond_t hc hS
                      refine zlRun (n := 1) (j := 26) rfl (by kernel_rfl) ?_
                      refine zlEnd (by kernel_rfl) ?_
                      refine zkSeq ?_
                      refine zrCondT (by kernel_rfl) ?_
                      exact f4_j2_ok hd a1 hQ z39.1 hS (by kernel_rfl)
                    · replace hS := cond_f hc hS
                      refine zlRun (n := 1) (j := 26) rfl (by kernel_rfl) ?_
                      refine zlEnd (by kernel_rfl) ?_
                      refine zkSeq ?_
                      refine zrCondF (by kernel_rfl) ?_
                      refine zrSkip ?_
                      refine zkBlk ?_
                      refine zkSeq ?_
                      refine zrSeq ?_
                      refine zrReg ?_
                      refine zlRun (n := 2) (j := 2) rfl (by kernel_rfl) ?_
                      refine zlEnd (by kernel_rfl) ?_
                      refine zkSeq ?_
                      refine zrRet ?_
                      refine zkNil ?_
                      exact endQ hS hQ (fRet (by kernel_rfl) ((congrArg (fun s => outR s 0 c4.res) (by kernel_rfl : finSt c4.fin _ = f4_fin [] 1)).trans (f4_out [] 1)))
                  · replace hS := cond_f hc hS
                    refine zlRun (n := 6) (j := 26) rfl (by kernel_rfl) ?_
                    refine zlEnd (by kernel_rfl) ?_
                    refine zkSeq ?_
                    refine zrCondF (by kernel_rfl) ?_
                    refine zrSkip ?_
                    refine zkBlk ?_
                    refine zkSeq ?_
                    refine zrSeq ?_
                    refine zrReg ?_
                    refine zlRun (n := 2) (j := 2) rfl (by kernel_rfl) ?_
                    refine zlEnd (by kernel_rfl) ?_
                    refine zkSeq ?_
                    refine zrRet ?_
                    refine zkNil ?_
                    exact endQ hS hQ (fRet (by kernel_rfl) ((congrArg (fun s => outR s 0 c4.res) (by kernel_rfl : finSt c4.fin _ = f4_fin [] 1)).trans (f4_out [] 1)))
                · replace hS := cond_f hc hS
                  refine zlRun (n := 8) (j := 26) rfl (by kernel_rfl) ?_
                  refine zlEnd (by kernel_rfl) ?_
                  refine zkSeq ?_
                  refine zrCondF (by kernel_rfl) ?_
                  refine zrSkip ?_
                  refine zkBlk ?_
                  refine zkSeq ?_
                  refine zrSeq ?_
                  refine zrReg ?_
                  refine zlRun (n := 2) (j := 2) rfl (by kernel_rfl) ?_
                  refine zlEnd (by kernel_rfl) ?_
                  refine zkSeq ?_
                  refine zrRet ?_
                  refine zkNil ?_
                  exact endQ hS hQ (fRet (by kernel_rfl) ((congrArg (fun s => outR s 0 c4.res) (by kernel_rfl : finSt c4.fin _ = f4_fin [] 1)).trans (f4_out [] 1)))
              · replace hS := cond_f hc hS
                refine zlRun (n := 12) (j := 26) rfl (by kernel_rfl) ?_
                refine zlEnd (by kernel_rfl) ?_
                refine zkSeq ?_
                refine zrCondF (by kernel_rfl) ?_
                refine zrSkip ?_
                refine zkBlk ?_
                refine zkSeq ?_
                refine zrSeq ?_
                refine zrReg ?_
                refine zlRun (n := 2) (j := 2) rfl (by kernel_rfl) ?_
                refine zlEnd (by kernel_rfl) ?_
                refine zkSeq ?_
                refine zrRet ?_
                refine zkNil ?_
                exact endQ hS hQ (fRet (by kernel_rfl) ((congrArg (fun s => outR s 0 c4.res) (by kernel_rfl : finSt c4.fin _ = f4_fin [] 1)).trans (f4_out [] 1)))
            · replace hS := cond_f hc hS
              refine zlRun (n := 17) (j := 26) rfl (by kernel_rfl) ?_
              refine zlEnd (by kernel_rfl) ?_
              refine zkSeq ?_
              refine zrCondF (by kernel_rfl) ?_
              refine zrSkip ?_
              refine zkBlk ?_
              refine zkSeq ?_
              refine zrSeq ?_
              refine zrReg ?_
              refine zlRun (n := 2) (j := 2) rfl (by kernel_rfl) ?_
              refine zlEnd (by kernel_rfl) ?_
              refine zkSeq ?_
              refine zrRet ?_
              refine zkNil ?_
              exact endQ hS hQ (fRet (by kernel_rfl) ((congrArg (fun s => outR s 0 c4.res) (by kernel_rfl : finSt c4.fin _ = f4_fin [] 1)).trans (f4_out [] 1)))
        · replace hS := cond_f hc hS
          refine zlRun (n := 1) (j := 2) rfl (by kernel_rfl) ?_
          refine zlEnd (by kernel_rfl) ?_
          refine zkSeq ?_
          refine zrCondF (by kernel_rfl) ?_
          refine zrSeq ?_
          refine zrReg ?_
          refine zlBool (d := 130) (op := (.cmpI .eql (.tmp 14) (.const (.int .i64 5)))) (g := none) (j := 1) (decide (a1.Kind = 5)) rfl (by kernel_rfl) (by kernel_rfl) (by kernel_rfl) (fun hc => ?_) (fun hc => ?_)
          · replace hS := cond_t hc hS
            refine zlRun (n := 1) (j := 2) rfl (by kernel_rfl) ?_
            refine zlEnd (by kernel_rfl) ?_
            refine zkSeq ?_
            refine zrCondT (by kernel_rfl) ?_
            refine zrSeq ?_
            refine zrReg ?_
            refine zlRun (n := 2) (j := 2) rfl (by kernel_rfl) ?_
            refine bindE hS (fun z56 hz56 hS => ?_)
            refine zlOp (d := some 133) (op := (.call 15 [(.tmp 132)])) (g := none) (j := 3) rfl (by kernel_rfl) (by kernel_rfl) (ev_callA (by kernel_rfl) (f15_ok (d - 1) (dpt hd rfl) a1.Text z56 hz56) (by kernel_rfl) (by kernel_rfl)) ?_
            refine zlEnd (by kernel_rfl) ?_
            refine zkSeq ?_
            refine zrSplit 133 z56 (by kernel_rfl) (fun hc => ?_) (fun hc => ?_)
            · replace hS := cond_t hc hS
              refine zrCondT (by kernel_rfl) ?_
              refine zrSeq ?_
              refine zrReg ?_
              refine zlRun (n := 3) (j := 3) rfl (by kernel_rfl) ?_
              refine bindE hS (fun z57 hz57 hS => ?_)
              refine zlOp (d := some 137) (op := (.call 13 [(.tmp 136)])) (g := none) (j := 4) rfl (by kernel_rfl) (by kernel_rfl) (ev_callA (by kernel_rfl) (f13_ok (d - 1) (dpt hd rfl) a1.Text z57 hz57) (by kernel_rfl) (by kernel_rfl)) ?_
              refine bindE hS (fun z58 hz58 hS => ?_)
              refine zlOp (d := some 138) (op := (.app 3 1 8 (.tmp 134) (.tmp 137))) (g := none) (v := (.r (.msl 1080 2 0 z58.length))) (ups := [(1080, ⟨2, some (.own 3 1 ((eInt .i64).cells z58))⟩)]) (j := 5) rfl (by kernel_rfl) (by kernel_rfl) (ev_app (eInt .i64) (b := 1080) (g := 1) (n := ([27, 93] : List Int).length) (xs := [27, 93]) (ys := z57) ((congrArg (asL _) (by kernel_rfl : ρof _ (.tmp 137) = (.r (.msl 1104 1 0 z57.length)))).trans (as_whole (eInt .i64) (e := 3) (k := 1) (xs := z57) (by kernel_rfl) rfl rfl)) rfl (by kernel_rfl) rfl (by kernel_rfl) rfl hz58) ?_
              refine zlRun (n := 1) (j := 6) rfl (by kernel_rfl) ?_
              refine bindE hS (fun z59 hz59 hS => ?_)
              refine zlOp (d := some 140) (op := (.app 3 1 8 (.tmp 138) (.tmp 139))) (g := none) (v := (.r (.msl 1080 3 0 z59.length))) (ups := [(1080, ⟨3, some (.own 3 1 ((eInt .i64).cells z59))⟩)]) (j := 7) rfl (by kernel_rfl) (by kernel_rfl) (ev_app (eInt .i64) (b := 1080) (g := 2) (n := z58.length) (xs := z58) (ys := [7]) ((congrArg (asL _) (by kernel_rfl : ρof _ (.tmp 139) = (.r (.msl 1120 1 0 (([7] : List Int).length))))).trans (as_whole (eInt .i64) (e := 3) (k := 1) (xs := [7]) (by kernel_rfl) rfl rfl)) rfl (by kernel_rfl) rfl (by kernel_rfl) rfl hz59) ?_
              refine zlRun (n := 2) (j := 9) rfl (by kernel_rfl) ?_
              refine zlEnd (by kernel_rfl) ?_
              refine zkSeq ?_
              refine zrRet ?_
              refine zkBlkR ?_
              refine zkSeqR ?_
              refine zkNil ?_
              exact endQ hS hQ (fRet (by kernel_rfl) ((congrArg (fun s => outR s 0 c4.res) (by kernel_rfl : finSt c4.fin _ = f4_fin z59 0)).trans (f4_out z59 0)))
            · replace hS := cond_f hc hS
              refine zrCondF (by kernel_rfl) ?_
              refine zrSkip ?_
              refine zkBlk ?_
              refine zkSeq ?_
              refine zrSeq ?_
              refine zrReg ?_
              refine zlRun (n := 2) (j := 2) rfl (by kernel_rfl) ?_
              refine zlEnd (by kernel_rfl) ?_
              refine zkSeq ?_
              refine zrRet ?_
              refine zkNil ?_
              exact endQ hS hQ (fRet (by kernel_rfl) ((congrArg (fun s => outR s 0 c4.res) (by kernel_rfl : finSt c4.fin _ = f4_fin [] 1)).trans (f4_out [] 1)))
          · replace hS := cond_f hc hS
            refine zlRun (n := 1) (j := 2) rfl (by kernel_rfl) ?_
            refine zlEnd (by kernel_rfl) ?_
            refine zkSeq ?_
            refine zrCondF (by kernel_rfl) ?_
            refine zrSkip ?_
            refine zkBlk ?_
            refine zkSeq ?_
            refine zrSeq ?_
            refine zrReg ?_
            refine zlRun (n := 2) (j := 2) rfl (by kernel_rfl) ?_
            refine zlEnd (by kernel_rfl) ?_
            refine zkSeq ?_
            refine zrRet ?_
            refine zkNil ?_
            exact endQ hS hQ (fRet (by kernel_rfl) ((congrArg (fun s => outR s 0 c4.res) (by kernel_rfl : finSt c4.fin _ = f4_fin [] 1)).trans (f4_out [] 1)))
noncomputable def f4 (a1 : GAct) : Option ((List Int) × Int) := ((f8 a1).bind fun z60 => (bif (!z60) then (some ([], 1)) else (f4_j0 a1 )))
theorem f4_ok (d : Nat) (hd : 5 ≤ d) (a1 : GAct) (r : (List Int) × Int) (hS : f4 a1 = some r) : lev codes baseL d 4 [(.agg ((.d (.int .i64 a1.Kind)) :: ((.d (.int .i64 a1.Code)) :: ((.d (.int .i64 a1.Mark)) :: ((.d (.str a1.Inter)) :: ((.d (.sl a1.Args.length ((eInt .i64).cells a1.Args))) :: ((.d (.str a1.Text)) :: [])))))))] [] = some ((.tup [(.r (.own 0 3 1 r.1.length ((eInt .i64).cells r.1))), (.d (.int .i64 r.2))]), []) := by
  refine lev_go codes4 rfl rfl (Nat.le_trans (Nat.le_of_ble_eq_true rfl) hd) fun Q hQ => ?_
  unfold f4 at hS
  show ZR _ Q c4_b [] _
  replace hQ : ∀ e st', f4_Q r e st' → Q e st' := hQ
  refine zrSeq ?_
  refine zrReg ?_
  refine zlRun (n := 3) (j := 3) rfl (by kernel_rfl) ?_
  refine zlEnd (by kernel_rfl) ?_
  refine zkSeq ?_
  refine zrSeq ?_
  refine zrSeq ?_
  refine zrReg ?_
  refine zlRun (n := 1) (j := 1) rfl (by kernel_rfl) ?_
  refine bindE hS (fun z60 hz60 hS => ?_)
  refine zlOp (d := some 9) (op := (.call 8 [(.tmp 8)])) (g := none) (j := 2) rfl (by kernel_rfl) (by kernel_rfl) (ev_callA (by kernel_rfl) (f8_ok (d - 1) (dpt hd rfl) a1 z60 hz60) (by kernel_rfl) (by kernel_rfl)) ?_
  refine zlRun (n := 1) (j := 3) rfl (by kernel_rfl) ?_
  refine zlEnd (by kernel_rfl) ?_
  refine zkSeq ?_
  refine zrSplit 10 (!z60) (by kernel_rfl) (fun hc => ?_) (fun hc => ?_)
  · replace hS := cond_t hc hS
    refine zrCondT (by kernel_rfl) ?_
    refine zrSeq ?_
    refine zrReg ?_
    refine zlRun (n := 2) (j := 2) rfl (by kernel_rfl) ?_
    refine zlEnd (by kernel_rfl) ?_
    refine zkSeq ?_
    refine zrRet ?_
    refine zkSeqR ?_
    refine zkNil ?_
    exact endQ hS hQ (fRet (by kernel_rfl) ((congrArg (fun s => outR s 0 c4.res) (by kernel_rfl : finSt c4.fin _ = f4_fin [] 1)).trans (f4_out [] 1)))
  · replace hS := cond_f hc hS
    refine zrCondF (by kernel_rfl) ?_
    refine zrSkip ?_
    refine zkSeq ?_
    exact f4_j0_ok hd a1 hQ  hS (by kernel_rfl)
/- strings.Trim -/
theorem libTrim_ok (d : Nat) (hd : 0 ≤ d) (a1 : List UInt8) (a2 : List UInt8) (r : List UInt8) (hS : libTrim a1 a2 = some r) : lev codes baseL d 43 [(.d (.str a1)), (.d (.str a2))] [] = some ((.d (.str r)), []) := lib_call (l := libs) rfl rfl rfl (ossS_ hS) d
/- strings.Split -/
theorem libSplit_ok (d : Nat) (hd : 0 ≤ d) (a1 : List UInt8) (a2 : List UInt8) (r : List (List UInt8)) (hS : libSplit a1 a2 = some r) : lev codes baseL d 44 [(.d (.str a1)), (.d (.str a2))] [] = some ((.d (.sl r.length (eStr.cells r))), []) := lib_call (l := libs) rfl rfl rfl (ossL_ hS) d
end Go.Proofs.YthapehjibbjkjaaDoor.Pm
