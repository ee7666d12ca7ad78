/- Typed functions, and that the codes are these. Printed by dec.py. -/
import Derived.Test.YtgjckmjlocankaaGreatDoorDDfD
namespace Go.Proofs.YtgjckmjlocankaaGreatDoor.Pm
set_option maxRecDepth 1000000
set_option maxHeartbeats 20000000
set_option linter.unusedVariables false
/- farwriter/parse.plain -/
def f34_fin (p62 : Bool) : St := ⟨(up (fun _ => .un) 2 (.d (.bool p62))), (hB fun _ => 0)⟩
theorem f34_out (p62 : Bool) : outR (f34_fin p62) 0 c34.res = some ((.d (.bool p62)), []) := by
  kernel_rfl
def f34_Q (r : Bool) (e : PX) (st : St) : Prop := DoneF c34 0 ((.d (.bool r)), []) e st
def f34_j0_J (a1 : GAct) (p80 : Bool) (p81 : Bool) (p82 : Bool) : St := ⟨(up (up (up (up (fun _ => .un) 5 (.d (.bool p82))) 4 (.d (.bool p81))) 3 (.d (.bool p80))) 1 (.r (.ptr 16 0 0))), (up (hB fun _ => 0) 16 ⟨0, some (.box (bx_GAct a1 (.d (.sl a1.Args.length ((eInt .i64).cells a1.Args)))))⟩)⟩
noncomputable def f34_j0 (a1 : GAct) (p80 : Bool) (p81 : Bool) (p82 : Bool) : Option (Bool) := (bif p80 then (bif p80 then (bif p82 then (bif (!p82) then (some true) else (bif (decide (a1.Code = 0)) then (some true) else (some false))) else (bif (decide (a1.Text = ([] : List UInt8))) then (bif (!p82) then (some true) else (bif (decide (a1.Code = 0)) then (some true) else (some false))) else (some false))) else (bif p81 then (bif p82 then (bif (!p82) then (some true) else (bif (decide (a1.Code = 0)) then (some true) else (some false))) else (bif (decide (a1.Text = ([] : List UInt8))) then (bif (!p82) then (some true) else (bif (decide (a1.Code = 0)) then (some true) else (some false))) else (some false))) else (bif (decide (a1.Inter = ([] : List UInt8))) then (bif p82 then (bif (!p82) then (some true) else (bif (decide (a1.Code = 0)) then (some true) else (some false))) else (bif (decide (a1.Text = ([] : List UInt8))) then (bif (!p82) then (some true) else (bif (decide (a1.Code = 0)) then (some true) else (some false))) else (some false))) else (some false)))) else (bif (decide (a1.Mark = 0)) then (bif (decide ((a1.Args.length : Int) = 0)) then (bif p80 then (bif p82 then (bif (!p82) then (some true) else (bif (decide (a1.Code = 0)) then (some true) else (some false))) else (bif (decide (a1.Text = ([] : List UInt8))) then (bif (!p82) then (some true) else (bif (decide (a1.Code = 0)) then (some true) else (some false))) else (some false))) else (bif p81 then (bif p82 then (bif (!p82) then (some true) else (bif (decide (a1.Code = 0)) then (some true) else (some false))) else (bif (decide (a1.Text = ([] : List UInt8))) then (bif (!p82) then (some true) else (bif (decide (a1.Code = 0)) then (some true) else (some false))) else (some false))) else (bif (decide (a1.Inter = ([] : List UInt8))) then (bif p82 then (bif (!p82) then (some true) else (bif (decide (a1.Code = 0)) then (some true) else (some false))) else (bif (decide (a1.Text = ([] : List UInt8))) then (bif (!p82) then (some true) else (bif (decide (a1.Code = 0)) then (some true) else (some false))) else (some false))) else (some false)))) else (some false)) else (some false)))
theorem f34_j0_ok {d : Nat} (hd : 1 ≤ d) (a1 : GAct) {r : Bool} {Q : PX → St → Prop} (hQ : ∀ e st', f34_Q r e st' → Q e st') (p80 : Bool) (p81 : Bool) (p82 : Bool) (hS : f34_j0 a1 p80 p81 p82 = some r) {st : St} (he : keepSt [1, 3, 4, 5] [(16, .id 16)] [] st = f34_j0_J a1 p80 p81 p82) : ZR (lev codes baseL (d - 1)) Q c34_1 [] st := by
  refine zrKeep he ?_
  unfold f34_j0 at hS
  refine zrSeq ?_
  refine zrReg ?_
  refine zlRun (n := 2) (j := 2) rfl (by kernel_rfl) ?_
  refine zlSplit 16 p80 (by kernel_rfl) (fun hc => ?_) (fun hc => ?_)
  · replace hS := cond_t hc hS
    refine zlRun (n := 13) (j := 15) rfl (by kernel_rfl) ?_
    refine zlSplit 29 p80 (by kernel_rfl) (fun hc => ?_) (fun hc => ?_)
    · replace hS := cond_t hc hS
      refine zlRun (n := 11) (j := 26) rfl (by kernel_rfl) ?_
      refine zlSplit 40 p82 (by kernel_rfl) (fun hc => ?_) (fun hc => ?_)
      · replace hS := cond_t hc hS
        refine zlRun (n := 9) (j := 35) rfl (by kernel_rfl) ?_
        refine zlSplit 49 (!p82) (by kernel_rfl) (fun hc => ?_) (fun hc => ?_)
        · replace hS := cond_t hc hS
          refine zlRun (n := 6) (j := 41) rfl (by kernel_rfl) ?_
          refine zlEnd (by kernel_rfl) ?_
          refine zkSeq ?_
          refine zrRet ?_
          refine zkNil ?_
          exact endQ hS hQ (fRet (by kernel_rfl) ((congrArg (fun s => outR s 0 c34.res) (by kernel_rfl : finSt c34.fin _ = f34_fin true)).trans (f34_out true)))
        · replace hS := cond_f hc hS
          refine zlRun (n := 2) (j := 37) rfl (by kernel_rfl) ?_
          refine zlBool (d := 52) (op := (.cmpI .eql (.tmp 51) (.const (.int .i64 0)))) (g := (some (49, false))) (j := 38) (decide (a1.Code = 0)) rfl (by kernel_rfl) (by kernel_rfl) (by kernel_rfl) (fun hc => ?_) (fun hc => ?_)
          · replace hS := cond_t hc hS
            refine zlRun (n := 3) (j := 41) rfl (by kernel_rfl) ?_
            refine zlEnd (by kernel_rfl) ?_
            refine zkSeq ?_
            refine zrRet ?_
            refine zkNil ?_
            exact endQ hS hQ (fRet (by kernel_rfl) ((congrArg (fun s => outR s 0 c34.res) (by kernel_rfl : finSt c34.fin _ = f34_fin true)).trans (f34_out true)))
          · replace hS := cond_f hc hS
            refine zlRun (n := 3) (j := 41) rfl (by kernel_rfl) ?_
            refine zlEnd (by kernel_rfl) ?_
            refine zkSeq ?_
            refine zrRet ?_
            refine zkNil ?_
            exact endQ hS hQ (fRet (by kernel_rfl) ((congrArg (fun s => outR s 0 c34.res) (by kernel_rfl : finSt c34.fin _ = f34_fin false)).trans (f34_out false)))
      · replace hS := cond_f hc hS
        refine zlRun (n := 2) (j := 28) rfl (by kernel_rfl) ?_
        refine zlBool (d := 43) (op := (.strO .eql (.tmp 42) (.const (.string ⟨#[]⟩)))) (g := (some (40, false))) (j := 29) (decide (a1.Text = ([] : List UInt8))) rfl (by kernel_rfl) (by kernel_rfl) (by kernel_rfl) (fun hc => ?_) (fun hc => ?_)
        · replace hS := cond_t hc hS
          refine zlRun (n := 6) (j := 35) rfl (by kernel_rfl) ?_
          refine zlSplit 49 (!p82) (by kernel_rfl) (fun hc => ?_) (fun hc => ?_)
          · replace hS := cond_t hc hS
            refine zlRun (n := 6) (j := 41) rfl (by kernel_rfl) ?_
            refine zlEnd (by kernel_rfl) ?_
            refine zkSeq ?_
            refine zrRet ?_
            refine zkNil ?_
            exact endQ hS hQ (fRet (by kernel_rfl) ((congrArg (fun s => outR s 0 c34.res) (by kernel_rfl : finSt c34.fin _ = f34_fin true)).trans (f34_out true)))
          · replace hS := cond_f hc hS
            refine zlRun (n := 2) (j := 37) rfl (by kernel_rfl) ?_
            refine zlBool (d := 52) (op := (.cmpI .eql (.tmp 51) (.const (.int .i64 0)))) (g := (some (49, false))) (j := 38) (decide (a1.Code = 0)) rfl (by kernel_rfl) (by kernel_rfl) (by kernel_rfl) (fun hc => ?_) (fun hc => ?_)
            · replace hS := cond_t hc hS
              refine zlRun (n := 3) (j := 41) rfl (by kernel_rfl) ?_
              refine zlEnd (by kernel_rfl) ?_
              refine zkSeq ?_
              refine zrRet ?_
              refine zkNil ?_
              exact endQ hS hQ (fRet (by kernel_rfl) ((congrArg (fun s => outR s 0 c34.res) (by kernel_rfl : finSt c34.fin _ = f34_fin true)).trans (f34_out true)))
            · replace hS := cond_f hc hS
              refine zlRun (n := 3) (j := 41) rfl (by kernel_rfl) ?_
              refine zlEnd (by kernel_rfl) ?_
              refine zkSeq ?_
              refine zrRet ?_
              refine zkNil ?_
              exact endQ hS hQ (fRet (by kernel_rfl) ((congrArg (fun s => outR s 0 c34.res) (by kernel_rfl : finSt c34.fin _ = f34_fin false)).trans (f34_out false)))
        · replace hS := cond_f hc hS
          refine zlRun (n := 12) (j := 41) rfl (by kernel_rfl) ?_
          refine zlEnd (by kernel_rfl) ?_
          refine zkSeq ?_
          refine zrRet ?_
          refine zkNil ?_
          exact endQ hS hQ (fRet (by kernel_rfl) ((congrArg (fun s => outR s 0 c34.res) (by kernel_rfl : finSt c34.fin _ = f34_fin false)).trans (f34_out false)))
    · replace hS := cond_f hc hS
      refine zlRun (n := 3) (j := 18) rfl (by kernel_rfl) ?_
      refine zlSplit 32 p81 (by kernel_rfl) (fun hc => ?_) (fun hc => ?_)
      · replace hS := cond_t hc hS
        refine zlRun (n := 8) (j := 26) rfl (by kernel_rfl) ?_
        refine zlSplit 40 p82 (by kernel_rfl) (fun hc => ?_) (fun hc => ?_)
        · replace hS := cond_t hc hS
          refine zlRun (n := 9) (j := 35) rfl (by kernel_rfl) ?_
          refine zlSplit 49 (!p82) (by kernel_rfl) (fun hc => ?_) (fun hc => ?_)
          · replace hS := cond_t hc hS
            refine zlRun (n := 6) (j := 41) rfl (by kernel_rfl) ?_
            refine zlEnd (by kernel_rfl) ?_
            refine zkSeq ?_
            refine zrRet ?_
            refine zkNil ?_
            exact endQ hS hQ (fRet (by kernel_rfl) ((congrArg (fun s => outR s 0 c34.res) (by kernel_rfl : finSt c34.fin _ = f34_fin true)).trans (f34_out true)))
          · replace hS := cond_f hc hS
            refine zlRun (n := 2) (j := 37) rfl (by kernel_rfl) ?_
            refine zlBool (d := 52) (op := (.cmpI .eql (.tmp 51) (.const (.int .i64 0)))) (g := (some (49, false))) (j := 38) (decide (a1.Code = 0)) rfl (by kernel_rfl) (by kernel_rfl) (by kernel_rfl) (fun hc => ?_) (fun hc => ?_)
            · replace hS := cond_t hc hS
              refine zlRun (n := 3) (j := 41) rfl (by kernel_rfl) ?_
              refine zlEnd (by kernel_rfl) ?_
              refine zkSeq ?_
              refine zrRet ?_
              refine zkNil ?_
              exact endQ hS hQ (fRet (by kernel_rfl) ((congrArg (fun s => outR s 0 c34.res) (by kernel_rfl : finSt c34.fin _ = f34_fin true)).trans (f34_out true)))
            · replace hS := cond_f hc hS
              refine zlRun (n := 3) (j := 41) rfl (by kernel_rfl) ?_
              refine zlEnd (by kernel_rfl) ?_
              refine zkSeq ?_
              refine zrRet ?_
              refine zkNil ?_
              exact endQ hS hQ (fRet (by kernel_rfl) ((congrArg (fun s => outR s 0 c34.res) (by kernel_rfl : finSt c34.fin _ = f34_fin false)).trans (f34_out false)))
        · replace hS := cond_f hc hS
          refine zlRun (n := 2) (j := 28) rfl (by kernel_rfl) ?_
          refine zlBool (d := 43) (op := (.strO .eql (.tmp 42) (.const (.string ⟨#[]⟩)))) (g := (some (40, false))) (j := 29) (decide (a1.Text = ([] : List UInt8))) rfl (by kernel_rfl) (by kernel_rfl) (by kernel_rfl) (fun hc => ?_) (fun hc => ?_)
          · replace hS := cond_t hc hS
            refine zlRun (n := 6) (j := 35) rfl (by kernel_rfl) ?_
            refine zlSplit 49 (!p82) (by kernel_rfl) (fun hc => ?_) (fun hc => ?_)
            · replace hS := cond_t hc hS
              refine zlRun (n := 6) (j := 41) rfl (by kernel_rfl) ?_
              refine zlEnd (by kernel_rfl) ?_
              refine zkSeq ?_
              refine zrRet ?_
              refine zkNil ?_
              exact endQ hS hQ (fRet (by kernel_rfl) ((congrArg (fun s => outR s 0 c34.res) (by kernel_rfl : finSt c34.fin _ = f34_fin true)).trans (f34_out true)))
            · replace hS := cond_f hc hS
              refine zlRun (n := 2) (j := 37) rfl (by kernel_rfl) ?_
              refine zlBool (d := 52) (op := (.cmpI .eql (.tmp 51) (.const (.int .i64 0)))) (g := (some (49, false))) (j := 38) (decide (a1.Code = 0)) rfl (by kernel_rfl) (by kernel_rfl) (by kernel_rfl) (fun hc => ?_) (fun hc => ?_)
              · replace hS := cond_t hc hS
                refine zlRun (n := 3) (j := 41) rfl (by kernel_rfl) ?_
                refine zlEnd (by kernel_rfl) ?_
                refine zkSeq ?_
                refine zrRet ?_
                refine zkNil ?_
                exact endQ hS hQ (fRet (by kernel_rfl) ((congrArg (fun s => outR s 0 c34.res) (by kernel_rfl : finSt c34.fin _ = f34_fin true)).trans (f34_out true)))
              · replace hS := cond_f hc hS
                refine zlRun (n := 3) (j := 41) rfl (by kernel_rfl) ?_
                refine zlEnd (by kernel_rfl) ?_
                refine zkSeq ?_
                refine zrRet ?_
                refine zkNil ?_
                exact endQ hS hQ (fRet (by kernel_rfl) ((congrArg (fun s => outR s 0 c34.res) (by kernel_rfl : finSt c34.fin _ = f34_fin false)).trans (f34_out false)))
          · replace hS := cond_f hc hS
            refine zlRun (n := 12) (j := 41) rfl (by kernel_rfl) ?_
            refine zlEnd (by kernel_rfl) ?_
            refine zkSeq ?_
            refine zrRet ?_
            refine zkNil ?_
            exact endQ hS hQ (fRet (by kernel_rfl) ((congrArg (fun s => outR s 0 c34.res) (by kernel_rfl : finSt c34.fin _ = f34_fin false)).trans (f34_out false)))
      · replace hS := cond_f hc hS
        refine zlRun (n := 2) (j := 20) rfl (by kernel_rfl) ?_
        refine zlBool (d := 35) (op := (.strO .eql (.tmp 34) (.const (.string ⟨#[]⟩)))) (g := (some (32, false))) (j := 21) (decide (a1.Inter = ([] : List UInt8))) rfl (by kernel_rfl) (by kernel_rfl) (by kernel_rfl) (fun hc => ?_) (fun hc => ?_)
        · replace hS := cond_t hc hS
          refine zlRun (n := 5) (j := 26) rfl (by kernel_rfl) ?_
          refine zlSplit 40 p82 (by kernel_rfl) (fun hc => ?_) (fun hc => ?_)
          · replace hS := cond_t hc hS
            refine zlRun (n := 9) (j := 35) rfl (by kernel_rfl) ?_
            refine zlSplit 49 (!p82) (by kernel_rfl) (fun hc => ?_) (fun hc => ?_)
            · replace hS := cond_t hc hS
              refine zlRun (n := 6) (j := 41) rfl (by kernel_rfl) ?_
              refine zlEnd (by kernel_rfl) ?_
              refine zkSeq ?_
              refine zrRet ?_
              refine zkNil ?_
              exact endQ hS hQ (fRet (by kernel_rfl) ((congrArg (fun s => outR s 0 c34.res) (by kernel_rfl : finSt c34.fin _ = f34_fin true)).trans (f34_out true)))
            · replace hS := cond_f hc hS
              refine zlRun (n := 2) (j := 37) rfl (by kernel_rfl) ?_
              refine zlBool (d := 52) (op := (.cmpI .eql (.tmp 51) (.const (.int .i64 0)))) (g := (some (49, false))) (j := 38) (decide (a1.Code = 0)) rfl (by kernel_rfl) (by kernel_rfl) (by kernel_rfl) (fun hc => ?_) (fun hc => ?_)
              · replace hS := cond_t hc hS
                refine zlRun (n := 3) (j := 41) rfl (by kernel_rfl) ?_
                refine zlEnd (by kernel_rfl) ?_
                refine zkSeq ?_
                refine zrRet ?_
                refine zkNil ?_
                exact endQ hS hQ (fRet (by kernel_rfl) ((congrArg (fun s => outR s 0 c34.res) (by kernel_rfl : finSt c34.fin _ = f34_fin true)).trans (f34_out true)))
              · replace hS := cond_f hc hS
                refine zlRun (n := 3) (j := 41) rfl (by kernel_rfl) ?_
                refine zlEnd (by kernel_rfl) ?_
                refine zkSeq ?_
                refine zrRet ?_
                refine zkNil ?_
                exact endQ hS hQ (fRet (by kernel_rfl) ((congrArg (fun s => outR s 0 c34.res) (by kernel_rfl : finSt c34.fin _ = f34_fin false)).trans (f34_out false)))
          · replace hS := cond_f hc hS
            refine zlRun (n := 2) (j := 28) rfl (by kernel_rfl) ?_
            refine zlBool (d := 43) (op := (.strO .eql (.tmp 42) (.const (.string ⟨#[]⟩)))) (g := (some (40, false))) (j := 29) (decide (a1.Text = ([] : List UInt8))) rfl (by kernel_rfl) (by kernel_rfl) (by kernel_rfl) (fun hc => ?_) (fun hc => ?_)
            · replace hS := cond_t hc hS
              refine zlRun (n := 6) (j := 35) rfl (by kernel_rfl) ?_
              refine zlSplit 49 (!p82) (by kernel_rfl) (fun hc => ?_) (fun hc => ?_)
              · replace hS := cond_t hc hS
                refine zlRun (n := 6) (j := 41) rfl (by kernel_rfl) ?_
                refine zlEnd (by kernel_rfl) ?_
                refine zkSeq ?_
                refine zrRet ?_
                refine zkNil ?_
                exact endQ hS hQ (fRet (by kernel_rfl) ((congrArg (fun s => outR s 0 c34.res) (by kernel_rfl : finSt c34.fin _ = f34_fin true)).trans (f34_out true)))
              · replace hS := cond_f hc hS
                refine zlRun (n := 2) (j := 37) rfl (by kernel_rfl) ?_
                refine zlBool (d := 52) (op := (.cmpI .eql (.tmp 51) (.const (.int .i64 0)))) (g := (some (49, false))) (j := 38) (decide (a1.Code = 0)) rfl (by kernel_rfl) (by kernel_rfl) (by kernel_rfl) (fun hc => ?_) (fun hc => ?_)
                · replace hS := cond_t hc hS
                  refine zlRun (n := 3) (j := 41) rfl (by kernel_rfl) ?_
                  refine zlEnd (by kernel_rfl) ?_
                  refine zkSeq ?_
                  refine zrRet ?_
                  refine zkNil ?_
                  exact endQ hS hQ (fRet (by kernel_rfl) ((congrArg (fun s => outR s 0 c34.res) (by kernel_rfl : finSt c34.fin _ = f34_fin true)).trans (f34_out true)))
                · replace hS := cond_f hc hS
                  refine zlRun (n := 3) (j := 41) rfl (by kernel_rfl) ?_
                  refine zlEnd (by kernel_rfl) ?_
                  refine zkSeq ?_
                  refine zrRet ?_
                  refine zkNil ?_
                  exact endQ hS hQ (fRet (by kernel_rfl) ((congrArg (fun s => outR s 0 c34.res) (by kernel_rfl : finSt c34.fin _ = f34_fin false)).trans (f34_out false)))
            · replace hS := cond_f hc hS
              refine zlRun (n := 12) (j := 41) rfl (by kernel_rfl) ?_
              refine zlEnd (by kernel_rfl) ?_
              refine zkSeq ?_
              refine zrRet ?_
              refine zkNil ?_
              exact endQ hS hQ (fRet (by kernel_rfl) ((congrArg (fun s => outR s 0 c34.res) (by kernel_rfl : finSt c34.fin _ = f34_fin false)).trans (f34_out false)))
        · replace hS := cond_f hc hS
          refine zlRun (n := 20) (j := 41) rfl (by kernel_rfl) ?_
          refine zlEnd (by kernel_rfl) ?_
          refine zkSeq ?_
          refine zrRet ?_
          refine zkNil ?_
          exact endQ hS hQ (fRet (by kernel_rfl) ((congrArg (fun s => outR s 0 c34.res) (by kernel_rfl : finSt c34.fin _ = f34_fin false)).trans (f34_out false)))
  · replace hS := cond_f hc hS
    refine zlRun (n := 2) (j := 4) rfl (by kernel_rfl) ?_
    refine zlBool (d := 19) (op := (.cmpI .eql (.tmp 18) (.const (.int .i64 0)))) (g := (some (16, false))) (j := 5) (decide (a1.Mark = 0)) rfl (by kernel_rfl) (by kernel_rfl) (by kernel_rfl) (fun hc => ?_) (fun hc => ?_)
    · replace hS := cond_t hc hS
      refine zlRun (n := 4) (j := 9) rfl (by kernel_rfl) ?_
      refine zlBool (d := 24) (op := (.cmpI .eql (.tmp 23) (.const (.int .i64 0)))) (g := (some (20, true))) (j := 10) (decide ((a1.Args.length : Int) = 0)) rfl (by kernel_rfl) (by kernel_rfl) (by kernel_rfl) (fun hc => ?_) (fun hc => ?_)
      · replace hS := cond_t hc hS
        refine zlRun (n := 5) (j := 15) rfl (by kernel_rfl) ?_
        refine zlSplit 29 p80 (by kernel_rfl) (fun hc => ?_) (fun hc => ?_)
        · replace hS := cond_t hc hS
          refine zlRun (n := 11) (j := 26) rfl (by kernel_rfl) ?_
          refine zlSplit 40 p82 (by kernel_rfl) (fun hc => ?_) (fun hc => ?_)
          · replace hS := cond_t hc hS
            refine zlRun (n := 9) (j := 35) rfl (by kernel_rfl) ?_
            refine zlSplit 49 (!p82) (by kernel_rfl) (fun hc => ?_) (fun hc => ?_)
            · replace hS := cond_t hc hS
              refine zlRun (n := 6) (j := 41) rfl (by kernel_rfl) ?_
              refine zlEnd (by kernel_rfl) ?_
              refine zkSeq ?_
              refine zrRet ?_
              refine zkNil ?_
              exact endQ hS hQ (fRet (by kernel_rfl) ((congrArg (fun s => outR s 0 c34.res) (by kernel_rfl : finSt c34.fin _ = f34_fin true)).trans (f34_out true)))
            · replace hS := cond_f hc hS
              refine zlRun (n := 2) (j := 37) rfl (by kernel_rfl) ?_
              refine zlBool (d := 52) (op := (.cmpI .eql (.tmp 51) (.const (.int .i64 0)))) (g := (some (49, false))) (j := 38) (decide (a1.Code = 0)) rfl (by kernel_rfl) (by kernel_rfl) (by kernel_rfl) (fun hc => ?_) (fun hc => ?_)
              · replace hS := cond_t hc hS
                refine zlRun (n := 3) (j := 41) rfl (by kernel_rfl) ?_
                refine zlEnd (by kernel_rfl) ?_
                refine zkSeq ?_
                refine zrRet ?_
                refine zkNil ?_
                exact endQ hS hQ (fRet (by kernel_rfl) ((congrArg (fun s => outR s 0 c34.res) (by kernel_rfl : finSt c34.fin _ = f34_fin true)).trans (f34_out true)))
              · replace hS := cond_f hc hS
                refine zlRun (n := 3) (j := 41) rfl (by kernel_rfl) ?_
                refine zlEnd (by kernel_rfl) ?_
                refine zkSeq ?_
                refine zrRet ?_
                refine zkNil ?_
                exact endQ hS hQ (fRet (by kernel_rfl) ((congrArg (fun s => outR s 0 c34.res) (by kernel_rfl : finSt c34.fin _ = f34_fin false)).trans (f34_out false)))
          · replace hS := cond_f hc hS
            refine zlRun (n := 2) (j := 28) rfl (by kernel_rfl) ?_
            refine zlBool (d := 43) (op := (.strO .eql (.tmp 42) (.const (.string ⟨#[]⟩)))) (g := (some (40, false))) (j := 29) (decide (a1.Text = ([] : List UInt8))) rfl (by kernel_rfl) (by kernel_rfl) (by kernel_rfl) (fun hc => ?_) (fun hc => ?_)
            · replace hS := cond_t hc hS
              refine zlRun (n := 6) (j := 35) rfl (by kernel_rfl) ?_
              refine zlSplit 49 (!p82) (by kernel_rfl) (fun hc => ?_) (fun hc => ?_)
              · replace hS := cond_t hc hS
                refine zlRun (n := 6) (j := 41) rfl (by kernel_rfl) ?_
                refine zlEnd (by kernel_rfl) ?_
                refine zkSeq ?_
                refine zrRet ?_
                refine zkNil ?_
                exact endQ hS hQ (fRet (by kernel_rfl) ((congrArg (fun s => outR s 0 c34.res) (by kernel_rfl : finSt c34.fin _ = f34_fin true)).trans (f34_out true)))
              · replace hS := cond_f hc hS
                refine zlRun (n := 2) (j := 37) rfl (by kernel_rfl) ?_
                refine zlBool (d := 52) (op := (.cmpI .eql (.tmp 51) (.const (.int .i64 0)))) (g := (some (49, false))) (j := 38) (decide (a1.Code = 0)) rfl (by kernel_rfl) (by kernel_rfl) (by kernel_rfl) (fun hc => ?_) (fun hc => ?_)
                · replace hS := cond_t hc hS
                  refine zlRun (n := 3) (j := 41) rfl (by kernel_rfl) ?_
                  refine zlEnd (by kernel_rfl) ?_
                  refine zkSeq ?_
                  refine zrRet ?_
                  refine zkNil ?_
                  exact endQ hS hQ (fRet (by kernel_rfl) ((congrArg (fun s => outR s 0 c34.res) (by kernel_rfl : finSt c34.fin _ = f34_fin true)).trans (f34_out true)))
                · replace hS := cond_f hc hS
                  refine zlRun (n := 3) (j := 41) rfl (by kernel_rfl) ?_
                  refine zlEnd (by kernel_rfl) ?_
                  refine zkSeq ?_
                  refine zrRet ?_
                  refine zkNil ?_
                  exact endQ hS hQ (fRet (by kernel_rfl) ((congrArg (fun s => outR s 0 c34.res) (by kernel_rfl : finSt c34.fin _ = f34_fin false)).trans (f34_out false)))
            · replace hS := cond_f hc hS
              refine zlRun (n := 12) (j := 41) rfl (by kernel_rfl) ?_
              refine zlEnd (by kernel_rfl) ?_
              refine zkSeq ?_
              refine zrRet ?_
              refine zkNil ?_
              exact endQ hS hQ (fRet (by kernel_rfl) ((congrArg (fun s => outR s 0 c34.res) (by kernel_rfl : finSt c34.fin _ = f34_fin false)).trans (f34_out false)))
        · replace hS := cond_f hc hS
          refine zlRun (n := 3) (j := 18) rfl (by kernel_rfl) ?_
          refine zlSplit 32 p81 (by kernel_rfl) (fun hc => ?_) (fun hc => ?_)
          · replace hS := cond_t hc hS
            refine zlRun (n := 8) (j := 26) rfl (by kernel_rfl) ?_
            refine zlSplit 40 p82 (by kernel_rfl) (fun hc => ?_) (fun hc => ?_)
            · replace hS := cond_t hc hS
              refine zlRun (n := 9) (j := 35) rfl (by kernel_rfl) ?_
              refine zlSplit 49 (!p82) (by kernel_rfl) (fun hc => ?_) (fun hc => ?_)
              · replace hS := cond_t hc hS
                refine zlRun (n := 6) (j := 41) rfl (by kernel_rfl) ?_
                refine zlEnd (by kernel_rfl) ?_
                refine zkSeq ?_
                refine zrRet ?_
                refine zkNil ?_
                exact endQ hS hQ (fRet (by kernel_rfl) ((congrArg (fun s => outR s 0 c34.res) (by kernel_rfl : finSt c34.fin _ = f34_fin true)).trans (f34_out true)))
              · replace hS := cond_f hc hS
                refine zlRun (n := 2) (j := 37) rfl (by kernel_rfl) ?_
                refine zlBool (d := 52) (op := (.cmpI .eql (.tmp 51) (.const (.int .i64 0)))) (g := (some (49, false))) (j := 38) (decide (a1.Code = 0)) rfl (by kernel_rfl) (by kernel_rfl) (by kernel_rfl) (fun hc => ?_) (fun hc => ?_)
                · replace hS := cond_t hc hS
                  refine zlRun (n := 3) (j := 41) rfl (by kernel_rfl) ?_
                  refine zlEnd (by kernel_rfl) ?_
                  refine zkSeq ?_
                  refine zrRet ?_
                  refine zkNil ?_
                  exact endQ hS hQ (fRet (by kernel_rfl) ((congrArg (fun s => outR s 0 c34.res) (by kernel_rfl : finSt c34.fin _ = f34_fin true)).trans (f34_out true)))
                · replace hS := cond_f hc hS
                  refine zlRun (n := 3) (j := 41) rfl (by kernel_rfl) ?_
                  refine zlEnd (by kernel_rfl) ?_
                  refine zkSeq ?_
                  refine zrRet ?_
                  refine zkNil ?_
                  exact endQ hS hQ (fRet (by kernel_rfl) ((congrArg (fun s => outR s 0 c34.res) (by kernel_rfl : finSt c34.fin _ = f34_fin false)).trans (f34_out false)))
            · replace hS := cond_f hc hS
              refine zlRun (n := 2) (j := 28) rfl (by kernel_rfl) ?_
              refine zlBool (d := 43) (op := (.strO .eql (.tmp 42) (.const (.string ⟨#[]⟩)))) (g := (some (40, false))) (j := 29) (decide (a1.Text = ([] : List UInt8))) rfl (by kernel_rfl) (by kernel_rfl) (by kernel_rfl) (fun hc => ?_) (fun hc => ?_)
              · replace hS := cond_t hc hS
                refine zlRun (n := 6) (j := 35) rfl (by kernel_rfl) ?_
                refine zlSplit 49 (!p82) (by kernel_rfl) (fun hc => ?_) (fun hc => ?_)
                · replace hS := cond_t hc hS
                  refine zlRun (n := 6) (j := 41) rfl (by kernel_rfl) ?_
                  refine zlEnd (by kernel_rfl) ?_
                  refine zkSeq ?_
                  refine zrRet ?_
                  refine zkNil ?_
                  exact endQ hS hQ (fRet (by kernel_rfl) ((congrArg (fun s => outR s 0 c34.res) (by kernel_rfl : finSt c34.fin _ = f34_fin true)).trans (f34_out true)))
                · replace hS := cond_f hc hS
                  refine zlRun (n := 2) (j := 37) rfl (by kernel_rfl) ?_
                  refine zlBool (d := 52) (op := (.cmpI .eql (.tmp 51) (.const (.int .i64 0)))) (g := (some (49, false))) (j := 38) (decide (a1.Code = 0)) rfl (by kernel_rfl) (by kernel_rfl) (by kernel_rfl) (fun hc => ?_) (fun hc => ?_)
                  · replace hS := cond_t hc hS
                    refine zlRun (n := 3) (j := 41) rfl (by kernel_rfl) ?_
                    refine zlEnd (by kernel_rfl) ?_
                    refine zkSeq ?_
                    refine zrRet ?_
                    refine zkNil ?_
                    exact endQ hS hQ (fRet (by kernel_rfl) ((congrArg (fun s => outR s 0 c34.res) (by kernel_rfl : finSt c34.fin _ = f34_fin true)).trans (f34_out true)))
                  · replace hS := cond_f hc hS
                    refine zlRun (n := 3) (j := 41) rfl (by kernel_rfl) ?_
                    refine zlEnd (by kernel_rfl) ?_
                    refine zkSeq ?_
                    refine zrRet ?_
                    refine zkNil ?_
                    exact endQ hS hQ (fRet (by kernel_rfl) ((congrArg (fun s => outR s 0 c34.res) (by kernel_rfl : finSt c34.fin _ = f34_fin false)).trans (f34_out false)))
              · replace hS := cond_f hc hS
                refine zlRun (n := 12) (j := 41) rfl (by kernel_rfl) ?_
                refine zlEnd (by kernel_rfl) ?_
                refine zkSeq ?_
                refine zrRet ?_
                refine zkNil ?_
                exact endQ hS hQ (fRet (by kernel_rfl) ((congrArg (fun s => outR s 0 c34.res) (by kernel_rfl : finSt c34.fin _ = f34_fin false)).trans (f34_out false)))
          · replace hS := cond_f hc hS
            refine zlRun (n := 2) (j := 20) rfl (by kernel_rfl) ?_
            refine zlBool (d := 35) (op := (.strO .eql (.tmp 34) (.const (.string ⟨#[]⟩)))) (g := (some (32, false))) (j := 21) (decide (a1.Inter = ([] : List UInt8))) rfl (by kernel_rfl) (by kernel_rfl) (by kernel_rfl) (fun hc => ?_) (fun hc => ?_)
            · replace hS := cond_t hc hS
              refine zlRun (n := 5) (j := 26) rfl (by kernel_rfl) ?_
              refine zlSplit 40 p82 (by kernel_rfl) (fun hc => ?_) (fun hc => ?_)
              · replace hS := cond_t hc hS
                refine zlRun (n := 9) (j := 35) rfl (by kernel_rfl) ?_
                refine zlSplit 49 (!p82) (by kernel_rfl) (fun hc => ?_) (fun hc => ?_)
                · replace hS := cond_t hc hS
                  refine zlRun (n := 6) (j := 41) rfl (by kernel_rfl) ?_
                  refine zlEnd (by kernel_rfl) ?_
                  refine zkSeq ?_
                  refine zrRet ?_
                  refine zkNil ?_
                  exact endQ hS hQ (fRet (by kernel_rfl) ((congrArg (fun s => outR s 0 c34.res) (by kernel_rfl : finSt c34.fin _ = f34_fin true)).trans (f34_out true)))
                · replace hS := cond_f hc hS
                  refine zlRun (n := 2) (j := 37) rfl (by kernel_rfl) ?_
                  refine zlBool (d := 52) (op := (.cmpI .eql (.tmp 51) (.const (.int .i64 0)))) (g := (some (49, false))) (j := 38) (decide (a1.Code = 0)) rfl (by kernel_rfl) (by kernel_rfl) (by kernel_rfl) (fun hc => ?_) (fun hc => ?_)
                  · replace hS := cond_t hc hS
                    refine zlRun (n := 3) (j := 41) rfl (by kernel_rfl) ?_
                    refine zlEnd (by kernel_rfl) ?_
                    refine zkSeq ?_
                    refine zrRet ?_
                    refine zkNil ?_
                    exact endQ hS hQ (fRet (by kernel_rfl) ((congrArg (fun s => outR s 0 c34.res) (by kernel_rfl : finSt c34.fin _ = f34_fin true)).trans (f34_out true)))
                  · replace hS := cond_f hc hS
                    refine zlRun (n := 3) (j := 41) rfl (by kernel_rfl) ?_
                    refine zlEnd (by kernel_rfl) ?_
                    refine zkSeq ?_
                    refine zrRet ?_
                    refine zkNil ?_
                    exact endQ hS hQ (fRet (by kernel_rfl) ((congrArg (fun s => outR s 0 c34.res) (by kernel_rfl : finSt c34.fin _ = f34_fin false)).trans (f34_out false)))
              · replace hS := cond_f hc hS
                refine zlRun (n := 2) (j := 28) rfl (by kernel_rfl) ?_
                refine zlBool (d := 43) (op := (.strO .eql (.tmp 42) (.const (.string ⟨#[]⟩)))) (g := (some (40, false))) (j := 29) (decide (a1.Text = ([] : List UInt8))) rfl (by kernel_rfl) (by kernel_rfl) (by kernel_rfl) (fun hc => ?_) (fun hc => ?_)
                · replace hS := cond_t hc hS
                  refine zlRun (n := 6) (j := 35) rfl (by kernel_rfl) ?_
                  refine zlSplit 49 (!p82) (by kernel_rfl) (fun hc => ?_) (fun hc => ?_)
                  · replace hS := cond_t hc hS
                    refine zlRun (n := 6) (j := 41) rfl (by kernel_rfl) ?_
                    refine zlEnd (by kernel_rfl) ?_
                    refine zkSeq ?_
                    refine zrRet ?_
                    refine zkNil ?_
                    exact endQ hS hQ (fRet (by kernel_rfl) ((congrArg (fun s => outR s 0 c34.res) (by kernel_rfl : finSt c34.fin _ = f34_fin true)).trans (f34_out true)))
                  · replace hS := cond_f hc hS
                    refine zlRun (n := 2) (j := 37) rfl (by kernel_rfl) ?_
                    refine zlBool (d := 52) (op := (.cmpI .eql (.tmp 51) (.const (.int .i64 0)))) (g := (some (49, false))) (j := 38) (decide (a1.Code = 0)) rfl (by kernel_rfl) (by kernel_rfl) (by kernel_rfl) (fun hc => ?_) (fun hc => ?_)
                    · replace hS := cond_t hc hS
                      refine zlRun (n := 3) (j := 41) rfl (by kernel_rfl) ?_
                      refine zlEnd (by kernel_rfl) ?_
                      refine zkSeq ?_
                      refine zrRet ?_
                      refine zkNil ?_
                      exact endQ hS hQ (fRet (by kernel_rfl) ((congrArg (fun s => outR s 0 c34.res) (by kernel_rfl : finSt c34.fin _ = f34_fin true)).trans (f34_out true)))
                    · replace hS := cond_f hc hS
                      refine zlRun (n := 3) (j := 41) rfl (by kernel_rfl) ?_
                      refine zlEnd (by kernel_rfl) ?_
                      refine zkSeq ?_
                      refine zrRet ?_
                      refine zkNil ?_
                      exact endQ hS hQ (fRet (by kernel_rfl) ((congrArg (fun s => outR s 0 c34.res) (by kernel_rfl : finSt c34.fin _ = f34_fin false)).trans (f34_out false)))
                · replace hS := cond_f hc hS
                  refine zlRun (n := 12) (j := 41) rfl (by kernel_rfl) ?_
                  refine zlEnd (by kernel_rfl) ?_
                  refine zkSeq ?_
                  refine zrRet ?_
                  refine zkNil ?_
                  exact endQ hS hQ (fRet (by kernel_rfl) ((congrArg (fun s => outR s 0 c34.res) (by kernel_rfl : finSt c34.fin _ = f34_fin false)).trans (f34_out false)))
            · replace hS := cond_f hc hS
              refine zlRun (n := 20) (j := 41) rfl (by kernel_rfl) ?_
              refine zlEnd (by kernel_rfl) ?_
              refine zkSeq ?_
              refine zrRet ?_
              refine zkNil ?_
              exact endQ hS hQ (fRet (by kernel_rfl) ((congrArg (fun s => outR s 0 c34.res) (by kernel_rfl : finSt c34.fin _ = f34_fin false)).trans (f34_out false)))
      · replace hS := cond_f hc hS
        refine zlRun (n := 31) (j := 41) rfl (by kernel_rfl) ?_
        refine zlEnd (by kernel_rfl) ?_
        refine zkSeq ?_
        refine zrRet ?_
        refine zkNil ?_
        exact endQ hS hQ (fRet (by kernel_rfl) ((congrArg (fun s => outR s 0 c34.res) (by kernel_rfl : finSt c34.fin _ = f34_fin false)).trans (f34_out false)))
    · replace hS := cond_f hc hS
      refine zlRun (n := 36) (j := 41) rfl (by kernel_rfl) ?_
      refine zlEnd (by kernel_rfl) ?_
      refine zkSeq ?_
      refine zrRet ?_
      refine zkNil ?_
      exact endQ hS hQ (fRet (by kernel_rfl) ((congrArg (fun s => outR s 0 c34.res) (by kernel_rfl : finSt c34.fin _ = f34_fin false)).trans (f34_out false)))
noncomputable def f34 (a1 : GAct) : Option (Bool) := (bif (decide (a1.Kind = 4)) then (bif (decide (a1.Kind = 3)) then (bif (decide (a1.Kind = 5)) then (f34_j0 a1 true true true) else (f34_j0 a1 true true false)) else (bif (decide (a1.Kind = 5)) then (f34_j0 a1 true false true) else (f34_j0 a1 true false false))) else (bif (decide (a1.Kind = 3)) then (bif (decide (a1.Kind = 5)) then (f34_j0 a1 false true true) else (f34_j0 a1 false true false)) else (bif (decide (a1.Kind = 5)) then (f34_j0 a1 false false true) else (f34_j0 a1 false false false))))
theorem f34_ok (d : Nat) (hd : 1 ≤ d) (a1 : GAct) (r : Bool) (hS : f34 a1 = some r) : lev codes baseL d 34 [(.agg ((.d (.int .i64 a1.Kind)) :: ((.d (.int .i64 a1.Code)) :: ((.d (.int .i64 a1.Mark)) :: ((.d (.str a1.Inter)) :: ((.d (.sl a1.Args.length ((eInt .i64).cells a1.Args))) :: ((.d (.str a1.Text)) :: [])))))))] [] = some ((.d (.bool r)), []) := by
  refine lev_go codes34 rfl rfl (Nat.le_trans (Nat.le_of_ble_eq_true rfl) hd) fun Q hQ => ?_
  unfold f34 at hS
  show ZR _ Q c34_b [] _
  replace hQ : ∀ e st', f34_Q r e st' → Q e st' := hQ
  refine zrSeq ?_
  refine zrReg ?_
  refine zlRun (n := 2) (j := 2) rfl (by kernel_rfl) ?_
  refine zlEnd (by kernel_rfl) ?_
  refine zkSeq ?_
  refine zrSeq ?_
  refine zrRegD ?_
  refine zdRun (n := 2) (j := 2) (ts := [[], [(16, false)]]) (acc' := [[], [(16, false)]]) rfl (by kernel_rfl) (by kernel_rfl) (by kernel_rfl) ?_
  refine zdBool (d := 8) (op := (.cmpI .eql (.tmp 7) (.const (.int .i64 4)))) (g := none) (j := 3) (t1 := []) (acc' := [[], [(16, false)], []]) (decide (a1.Kind = 4)) (by kernel_rfl) (by kernel_rfl) rfl (by kernel_rfl) (by kernel_rfl) (by kernel_rfl) (fun hc => ?_) (fun hc => ?_)
  · replace hS := cond_t hc hS
    refine zdRun (n := 2) (j := 5) (ts := [[], [(16, false)]]) (acc' := [[], [(16, false)], [], [], [(16, false)]]) rfl (by kernel_rfl) (by kernel_rfl) (by kernel_rfl) ?_
    refine zdBool (d := 11) (op := (.cmpI .eql (.tmp 10) (.const (.int .i64 3)))) (g := none) (j := 6) (t1 := []) (acc' := [[], [(16, false)], [], [], [(16, false)], []]) (decide (a1.Kind = 3)) (by kernel_rfl) (by kernel_rfl) rfl (by kernel_rfl) (by kernel_rfl) (by kernel_rfl) (fun hc => ?_) (fun hc => ?_)
    · replace hS := cond_t hc hS
      refine zdRun (n := 2) (j := 8) (ts := [[], [(16, false)]]) (acc' := [[], [(16, false)], [], [], [(16, false)], [], [], [(16, false)]]) rfl (by kernel_rfl) (by kernel_rfl) (by kernel_rfl) ?_
      refine zdBool (d := 14) (op := (.cmpI .eql (.tmp 13) (.const (.int .i64 5)))) (g := none) (j := 9) (t1 := []) (acc' := [[], [(16, false)], [], [], [(16, false)], [], [], [(16, false)], []]) (decide (a1.Kind = 5)) (by kernel_rfl) (by kernel_rfl) rfl (by kernel_rfl) (by kernel_rfl) (by kernel_rfl) (fun hc => ?_) (fun hc => ?_)
      · replace hS := cond_t hc hS
        refine zdRun (n := 3) (j := 12) (ts := [[], [], []]) (acc' := [[], [(16, false)], [], [], [(16, false)], [], [], [(16, false)], [], [], [], []]) rfl (by kernel_rfl) (by kernel_rfl) (by kernel_rfl) ?_
        refine zdEnd (by kernel_rfl) (by kernel_rfl) ?_
        refine zkSeq ?_
        exact f34_j0_ok hd a1 hQ true true true hS (by kernel_rfl)
      · replace hS := cond_f hc hS
        refine zdRun (n := 3) (j := 12) (ts := [[], [], []]) (acc' := [[], [(16, false)], [], [], [(16, false)], [], [], [(16, false)], [], [], [], []]) rfl (by kernel_rfl) (by kernel_rfl) (by kernel_rfl) ?_
        refine zdEnd (by kernel_rfl) (by kernel_rfl) ?_
        refine zkSeq ?_
        exact f34_j0_ok hd a1 hQ true true false hS (by kernel_rfl)
    · replace hS := cond_f hc hS
      refine zdRun (n := 2) (j := 8) (ts := [[], [(16, false)]]) (acc' := [[], [(16, false)], [], [], [(16, false)], [], [], [(16, false)]]) rfl (by kernel_rfl) (by kernel_rfl) (by kernel_rfl) ?_
      refine zdBool (d := 14) (op := (.cmpI .eql (.tmp 13) (.const (.int .i64 5)))) (g := none) (j := 9) (t1 := []) (acc' := [[], [(16, false)], [], [], [(16, false)], [], [], [(16, false)], []]) (decide (a1.Kind = 5)) (by kernel_rfl) (by kernel_rfl) rfl (by kernel_rfl) (by kernel_rfl) (by kernel_rfl) (fun hc => ?_) (fun hc => ?_)
      · replace hS := cond_t hc hS
        refine zdRun (n := 3) (j := 12) (ts := [[], [], []]) (acc' := [[], [(16, false)], [], [], [(16, false)], [], [], [(16, false)], [], [], [], []]) rfl (by kernel_rfl) (by kernel_rfl) (by kernel_rfl) ?_
        refine zdEnd (by kernel_rfl) (by kernel_rfl) ?_
        refine zkSeq ?_
        exact f34_j0_ok hd a1 hQ true false true hS (by kernel_rfl)
      · replace hS := cond_f hc hS
        refine zdRun (n := 3) (j := 12) (ts := [[], [], []]) (acc' := [[], [(16, false)], [], [], [(16, false)], [], [], [(16, false)], [], [], [], []]) rfl (by kernel_rfl) (by kernel_rfl) (by kernel_rfl) ?_
        refine zdEnd (by kernel_rfl) (by kernel_rfl) ?_
        refine zkSeq ?_
        exact f34_j0_ok hd a1 hQ true false false hS (by kernel_rfl)
  · replace hS := cond_f hc hS
    refine zdRun (n := 2) (j := 5) (ts := [[], [(16, false)]]) (acc' := [[], [(16, false)], [], [], [(16, false)]]) rfl (by kernel_rfl) (by kernel_rfl) (by kernel_rfl) ?_
    refine zdBool (d := 11) (op := (.cmpI .eql (.tmp 10) (.const (.int .i64 3)))) (g := none) (j := 6) (t1 := []) (acc' := [[], [(16, false)], [], [], [(16, false)], []]) (decide (a1.Kind = 3)) (by kernel_rfl) (by kernel_rfl) rfl (by kernel_rfl) (by kernel_rfl) (by kernel_rfl) (fun hc => ?_) (fun hc => ?_)
    · replace hS := cond_t hc hS
      refine zdRun (n := 2) (j := 8) (ts := [[], [(16, false)]]) (acc' := [[], [(16, false)], [], [], [(16, false)], [], [], [(16, false)]]) rfl (by kernel_rfl) (by kernel_rfl) (by kernel_rfl) ?_
      refine zdBool (d := 14) (op := (.cmpI .eql (.tmp 13) (.const (.int .i64 5)))) (g := none) (j := 9) (t1 := []) (acc' := [[], [(16, false)], [], [], [(16, false)], [], [], [(16, false)], []]) (decide (a1.Kind = 5)) (by kernel_rfl) (by kernel_rfl) rfl (by kernel_rfl) (by kernel_rfl) (by kernel_rfl) (fun hc => ?_) (fun hc => ?_)
      · replace hS := cond_t hc hS
        refine zdRun (n := 3) (j := 12) (ts := [[], [], []]) (acc' := [[], [(16, false)], [], [], [(16, false)], [], [], [(16, false)], [], [], [], []]) rfl (by kernel_rfl) (by kernel_rfl) (by kernel_rfl) ?_
        refine zdEnd (by kernel_rfl) (by kernel_rfl) ?_
        refine zkSeq ?_
        exact f34_j0_ok hd a1 hQ false true true hS (by kernel_rfl)
      · replace hS := cond_f hc hS
        refine zdRun (n := 3) (j := 12) (ts := [[], [], []]) (acc' := [[], [(16, false)], [], [], [(16, false)], [], [], [(16, false)], [], [], [], []]) rfl (by kernel_rfl) (by kernel_rfl) (by kernel_rfl) ?_
        refine zdEnd (by kernel_rfl) (by kernel_rfl) ?_
        refine zkSeq ?_
        exact f34_j0_ok hd a1 hQ false true false hS (by kernel_rfl)
    · replace hS := cond_f hc hS
      refine zdRun (n := 2) (j := 8) (ts := [[], [(16, false)]]) (acc' := [[], [(16, false)], [], [], [(16, false)], [], [], [(16, false)]]) rfl (by kernel_rfl) (by kernel_rfl) (by kernel_rfl) ?_
      refine zdBool (d := 14) (op := (.cmpI .eql (.tmp 13) (.const (.int .i64 5)))) (g := none) (j := 9) (t1 := []) (acc' := [[], [(16, false)], [], [], [(16, false)], [], [], [(16, false)], []]) (decide (a1.Kind = 5)) (by kernel_rfl) (by kernel_rfl) rfl (by kernel_rfl) (by kernel_rfl) (by kernel_rfl) (fun hc => ?_) (fun hc => ?_)
      · replace hS := cond_t hc hS
        refine zdRun (n := 3) (j := 12) (ts := [[], [], []]) (acc' := [[], [(16, false)], [], [], [(16, false)], [], [], [(16, false)], [], [], [], []]) rfl (by kernel_rfl) (by kernel_rfl) (by kernel_rfl) ?_
        refine zdEnd (by kernel_rfl) (by kernel_rfl) ?_
        refine zkSeq ?_
        exact f34_j0_ok hd a1 hQ false false true hS (by kernel_rfl)
      · replace hS := cond_f hc hS
        refine zdRun (n := 3) (j := 12) (ts := [[], [], []]) (acc' := [[], [(16, false)], [], [], [(16, false)], [], [], [(16, false)], [], [], [], []]) rfl (by kernel_rfl) (by kernel_rfl) (by kernel_rfl) ?_
        refine zdEnd (by kernel_rfl) (by kernel_rfl) ?_
        refine zkSeq ?_
        exact f34_j0_ok hd a1 hQ false false false hS (by kernel_rfl)
/- farwriter/parse.within -/
def f36_fin (p3 : Bool) : St := ⟨(up (fun _ => .un) 6 (.d (.bool p3))), (hB fun _ => 0)⟩
theorem f36_out (p3 : Bool) : outR (f36_fin p3) 0 c36.res = some ((.d (.bool p3)), []) := by
  kernel_rfl
def f36_Q (r : Bool) (e : PX) (st : St) : Prop := DoneF c36 0 ((.d (.bool r)), []) e st
noncomputable def f36 (a1 : Int) (a2 : Int) (a3 : Int) : Option (Bool) := (bif (decide (a2 ≤ a1)) then (bif (decide (a1 ≤ a3)) then (some true) else (some false)) else (some false))
theorem f36_ok (d : Nat) (hd : 1 ≤ d) (a1 : Int) (a2 : Int) (a3 : Int) (r : Bool) (hS : f36 a1 a2 a3 = some r) : lev codes baseL d 36 [(.d (.int .i64 a1)), (.d (.int .i64 a2)), (.d (.int .i64 a3))] [] = some ((.d (.bool r)), []) := by
  refine lev_go codes36 rfl rfl (Nat.le_trans (Nat.le_of_ble_eq_true rfl) hd) fun Q hQ => ?_
  unfold f36 at hS
  show ZR _ Q c36_b [] _
  replace hQ : ∀ e st', f36_Q r e st' → Q e st' := hQ
  refine zrSeq ?_
  refine zrReg ?_
  refine zlRun (n := 1) (j := 1) rfl (by kernel_rfl) ?_
  refine zlEnd (by kernel_rfl) ?_
  refine zkSeq ?_
  refine zrSeq ?_
  refine zrReg ?_
  refine zlRun (n := 2) (j := 2) rfl (by kernel_rfl) ?_
  refine zlBool (d := 9) (op := (.cmpI .geq (.tmp 7) (.tmp 8))) (g := none) (j := 3) (decide (a2 ≤ a1)) rfl (by kernel_rfl) (by kernel_rfl) (by kernel_rfl) (fun hc => ?_) (fun hc => ?_)
  · replace hS := cond_t hc hS
    refine zlRun (n := 3) (j := 6) rfl (by kernel_rfl) ?_
    refine zlBool (d := 13) (op := (.cmpI .leq (.tmp 11) (.tmp 12))) (g := (some (10, true))) (j := 7) (decide (a1 ≤ a3)) rfl (by kernel_rfl) (by kernel_rfl) (by kernel_rfl) (fun hc => ?_) (fun hc => ?_)
    · replace hS := cond_t hc hS
      refine zlRun (n := 2) (j := 9) rfl (by kernel_rfl) ?_
      refine zlEnd (by kernel_rfl) ?_
      refine zkSeq ?_
      refine zrRet ?_
      refine zkNil ?_
      exact endQ hS hQ (fRet (by kernel_rfl) ((congrArg (fun s => outR s 0 c36.res) (by kernel_rfl : finSt c36.fin _ = f36_fin true)).trans (f36_out true)))
    · replace hS := cond_f hc hS
      refine zlRun (n := 2) (j := 9) rfl (by kernel_rfl) ?_
      refine zlEnd (by kernel_rfl) ?_
      refine zkSeq ?_
      refine zrRet ?_
      refine zkNil ?_
      exact endQ hS hQ (fRet (by kernel_rfl) ((congrArg (fun s => outR s 0 c36.res) (by kernel_rfl : finSt c36.fin _ = f36_fin false)).trans (f36_out false)))
  · replace hS := cond_f hc hS
    refine zlRun (n := 6) (j := 9) rfl (by kernel_rfl) ?_
    refine zlEnd (by kernel_rfl) ?_
    refine zkSeq ?_
    refine zrRet ?_
    refine zkNil ?_
    exact endQ hS hQ (fRet (by kernel_rfl) ((congrArg (fun s => outR s 0 c36.res) (by kernel_rfl : finSt c36.fin _ = f36_fin false)).trans (f36_out false)))
/- farwriter/parse.code -/
def f35_fin (p2 : Bool) : St := ⟨(up (fun _ => .un) 2 (.d (.bool p2))), (hB fun _ => 0)⟩
theorem f35_out (p2 : Bool) : outR (f35_fin p2) 0 c35.res = some ((.d (.bool p2)), []) := by
  kernel_rfl
def f35_Q (r : Bool) (e : PX) (st : St) : Prop := DoneF c35 0 ((.d (.bool r)), []) e st
noncomputable def f35 (a1 : Int) : Option (Bool) := ((f36 a1 0 1114111).bind fun z3 => (bif z3 then ((f36 a1 55296 57343).bind fun z4 => (some (!z4))) else (some false)))
theorem f35_ok (d : Nat) (hd : 2 ≤ d) (a1 : Int) (r : Bool) (hS : f35 a1 = some r) : lev codes baseL d 35 [(.d (.int .i64 a1))] [] = some ((.d (.bool r)), []) := by
  refine lev_go codes35 rfl rfl (Nat.le_trans (Nat.le_of_ble_eq_true rfl) hd) fun Q hQ => ?_
  unfold f35 at hS
  show ZR _ Q c35_b [] _
  replace hQ : ∀ e st', f35_Q r e st' → Q e st' := hQ
  refine zrSeq ?_
  refine zrReg ?_
  refine zlRun (n := 1) (j := 1) rfl (by kernel_rfl) ?_
  refine zlEnd (by kernel_rfl) ?_
  refine zkSeq ?_
  refine zrSeq ?_
  refine zrReg ?_
  refine zlRun (n := 1) (j := 1) rfl (by kernel_rfl) ?_
  refine bindE hS (fun z3 hz3 hS => ?_)
  refine zlOp (d := some 4) (op := (.call 36 [(.tmp 3), (.const (.int .i64 0)), (.const (.int .i64 1114111))])) (g := none) (j := 2) rfl (by kernel_rfl) (by kernel_rfl) (ev_callA (by kernel_rfl) (f36_ok (d - 1) (dpt hd rfl) a1 0 1114111 z3 hz3) (by kernel_rfl) (by kernel_rfl)) ?_
  refine zlRun (n := 1) (j := 3) rfl (by kernel_rfl) ?_
  refine zlSplit 5 z3 (by kernel_rfl) (fun hc => ?_) (fun hc => ?_)
  · replace hS := cond_t hc hS
    refine zlRun (n := 1) (j := 4) rfl (by kernel_rfl) ?_
    refine bindE hS (fun z4 hz4 hS => ?_)
    refine zlOp (d := some 7) (op := (.call 36 [(.tmp 6), (.const (.int .i64 55296)), (.const (.int .i64 57343))])) (g := (some (5, true))) (j := 5) rfl (by kernel_rfl) (by kernel_rfl) (ev_callA (by kernel_rfl) (f36_ok (d - 1) (dpt hd rfl) a1 55296 57343 z4 hz4) (by kernel_rfl) (by kernel_rfl)) ?_
    refine zlRun (n := 3) (j := 8) rfl (by kernel_rfl) ?_
    refine zlEnd (by kernel_rfl) ?_
    refine zkSeq ?_
    refine zrRet ?_
    refine zkNil ?_
    exact endQ hS hQ (fRet (by kernel_rfl) ((congrArg (fun s => outR s 0 c35.res) (by kernel_rfl : finSt c35.fin _ = f35_fin (!z4))).trans (f35_out (!z4))))
  · replace hS := cond_f hc hS
    refine zlRun (n := 5) (j := 8) rfl (by kernel_rfl) ?_
    refine zlEnd (by kernel_rfl) ?_
    refine zkSeq ?_
    refine zrRet ?_
    refine zkNil ?_
    exact endQ hS hQ (fRet (by kernel_rfl) ((congrArg (fun s => outR s 0 c35.res) (by kernel_rfl : finSt c35.fin _ = f35_fin false)).trans (f35_out false)))
/- farwriter/parse.inters -/
def f37_fin (p9 : Bool) : St := ⟨(up (fun _ => .un) 4 (.d (.bool p9))), (hB fun _ => 0)⟩
theorem f37_out (p9 : Bool) : outR (f37_fin p9) 0 c37.res = some ((.d (.bool p9)), []) := by
  kernel_rfl
def f37_Q (r : Bool) (e : PX) (st : St) : Prop := DoneF c37 0 ((.d (.bool r)), []) e st
def f37_l0_J (a1 : List UInt8) (a2 : Int) (x : Int) : St := ⟨(up (up (up (up (fun _ => .un) 8 (.d (.int .i64 x))) 7 (.d (.int .i64 (a1.length : Int)))) 1 (.d (.int .i64 a2))) 0 (.d (.str a1))), (hB fun _ => 0)⟩
def f37_l0_H (a1 : List UInt8) (a2 : Int) (x : Int) (st : St) : Prop := keepSt [0, 1, 7, 8] [] [] st = f37_l0_J a1 a2 x
def f37_l0_e0_J (a1 : List UInt8) (a2 : Int) : St := ⟨(up (up (fun _ => .un) 1 (.d (.int .i64 a2))) 0 (.d (.str a1))), (hB fun _ => 0)⟩
def f37_l0_X (a1 : List UInt8) (a2 : Int) (z : Unit ⊕ Bool) (e : PX) (st : St) : Prop := (match z with | .inl z => e = .exit 0 ∧ st = f37_l0_e0_J a1 a2 | .inr z => e = .ret ∧ finSt c37.fin st = f37_fin z)
def f37_l0_j2_J (a1 : List UInt8) (a2 : Int) (p14 : Int) : St := ⟨(up (up (up (up (fun _ => .un) 8 (.d (.int .i64 p14))) 7 (.d (.int .i64 (a1.length : Int)))) 1 (.d (.int .i64 a2))) 0 (.d (.str a1))), (hB fun _ => 0)⟩
noncomputable def f37_l0_j2 (a1 : List UInt8) (a2 : Int) (p14 : Int) : Option (Int ⊕ (Unit ⊕ Bool)) := ((idx a1 p14).bind fun z7 => ((f36 (z7.toNat : Int) 32 47).bind fun z8 => (bif (!z8) then (some (.inr (.inr false))) else (some (.inl (IntKind.i64.wrap (p14 + 1)))))))
theorem f37_l0_j2_ok {d : Nat} (hd : 2 ≤ d) (a1 : List UInt8) (a2 : Int) {r : Int ⊕ (Unit ⊕ Bool)} {Q : PX → St → Prop} (hQ : ∀ e st', finL (f37_l0_H a1 a2) (f37_l0_X a1 a2) r e st' → Q e st') (p14 : Int) (hS : f37_l0_j2 a1 a2 p14 = some r) {st : St} (he : keepSt [0, 1, 7, 8] [] [] st = f37_l0_j2_J a1 a2 p14) : ZR (lev codes baseL (d - 1)) Q c37_1 [] st := by
  refine zrKeep he ?_
  unfold f37_l0_j2 at hS
  refine zrSeq ?_
  refine zrBlk ?_
  refine zrSeq ?_
  refine zrReg ?_
  refine zlRun (n := 2) (j := 2) rfl (by kernel_rfl) ?_
  refine zlEnd (by kernel_rfl) ?_
  refine zkSeq ?_
  refine zrSeq ?_
  refine zrReg ?_
  refine zlRun (n := 2) (j := 2) rfl (by kernel_rfl) ?_
  refine bindE hS (fun z7 hz7 hS => ?_)
  refine zlOp (d := some 13) (op := (.ixStr (.tmp 11) (.tmp 12))) (g := none) (v := (.d (.int .u8 (z7.toNat : Int)))) (ups := []) (j := 3) rfl (by kernel_rfl) (by kernel_rfl) (ev_ixStr (kk := .i64) (s := a1) (j := p14) (by kernel_rfl) (by kernel_rfl) hz7) ?_
  refine zlOp (d := some 14) (op := (.cvI .i64 (.tmp 13))) (g := none) (v := (.d (.int .i64 (z7.toNat : Int)))) (ups := []) (j := 4) rfl (by kernel_rfl) (by kernel_rfl) (ev_cv (kk := .u8) (a := (z7.toNat : Int)) (by kernel_rfl) (cv_i64 _)) ?_
  refine bindE hS (fun z8 hz8 hS => ?_)
  refine zlOp (d := some 15) (op := (.call 36 [(.tmp 14), (.const (.int .i64 32)), (.const (.int .i64 47))])) (g := none) (j := 5) rfl (by kernel_rfl) (by kernel_rfl) (ev_callA (by kernel_rfl) (f36_ok (d - 1) (dpt hd rfl) (z7.toNat : Int) 32 47 z8 hz8) (by kernel_rfl) (by kernel_rfl)) ?_
  refine zlRun (n := 1) (j := 6) rfl (by kernel_rfl) ?_
  refine zlEnd (by kernel_rfl) ?_
  refine zkSeq ?_
  refine zrSplit 16 (!z8) (by kernel_rfl) (fun hc => ?_) (fun hc => ?_)
  · replace hS := cond_t hc hS
    refine zrCondT (by kernel_rfl) ?_
    refine zrSeq ?_
    refine zrReg ?_
    refine zlRun (n := 1) (j := 1) rfl (by kernel_rfl) ?_
    refine zlEnd (by kernel_rfl) ?_
    refine zkSeq ?_
    refine zrRet ?_
    refine zkBlkR ?_
    refine zkSeqR ?_
    refine zkNil ?_
    exact endQ hS hQ (finL_x (by intro h; cases h) (by show _ = _ ∧ _ = _; exact ⟨rfl, by kernel_rfl⟩))
  · replace hS := cond_f hc hS
    refine zrCondF (by kernel_rfl) ?_
    refine zrSkip ?_
    refine zkBlk ?_
    refine zkSeq ?_
    refine zrReg ?_
    refine zlRun (n := 2) (j := 2) rfl (by kernel_rfl) ?_
    refine zlEnd (by kernel_rfl) ?_
    refine zkNil ?_
    exact endQ hS hQ (finL_n (by show keepSt _ _ _ _ = _; kernel_rfl))
def f37_l0_j1_J (a1 : List UInt8) (a2 : Int) (p12 : Int) (p13 : Bool) : St := ⟨(up (up (up (up (up (fun _ => .un) 9 (.d (.bool p13))) 8 (.d (.int .i64 p12))) 7 (.d (.int .i64 (a1.length : Int)))) 1 (.d (.int .i64 a2))) 0 (.d (.str a1))), (hB fun _ => 0)⟩
noncomputable def f37_l0_j1 (a1 : List UInt8) (a2 : Int) (p12 : Int) (p13 : Bool) : Option (Int ⊕ (Unit ⊕ Bool)) := (bif p13 then (f37_l0_j2 a1 a2 p12) else (some (.inr (.inl ()))))
theorem f37_l0_j1_ok {d : Nat} (hd : 2 ≤ d) (a1 : List UInt8) (a2 : Int) {r : Int ⊕ (Unit ⊕ Bool)} {Q : PX → St → Prop} (hQ : ∀ e st', finL (f37_l0_H a1 a2) (f37_l0_X a1 a2) r e st' → Q e st') (p12 : Int) (p13 : Bool) (hS : f37_l0_j1 a1 a2 p12 p13 = some r) {st : St} (he : keepSt [0, 1, 7, 8, 9] [] [] st = f37_l0_j1_J a1 a2 p12 p13) : ZR (lev codes baseL (d - 1)) Q c37_2 [] st := by
  refine zrKeep he ?_
  unfold f37_l0_j1 at hS
  refine zrSeq ?_
  refine zrSplit 9 p13 (by kernel_rfl) (fun hc => ?_) (fun hc => ?_)
  · replace hS := cond_t hc hS
    refine zrCondT (by kernel_rfl) ?_
    refine zrSkip ?_
    refine zkSeq ?_
    exact f37_l0_j2_ok hd a1 a2 hQ p12 hS (by kernel_rfl)
  · replace hS := cond_f hc hS
    refine zrCondF (by kernel_rfl) ?_
    refine zrKeep (J := f37_l0_e0_J a1 a2) (by kernel_rfl) ?_
    refine zrExit ?_
    refine zkSeqX ?_
    refine zkNil ?_
    exact endQ hS hQ (finL_x (by intro h; cases h) (by show _ = _ ∧ _ = _; exact ⟨rfl, rfl⟩))
noncomputable def f37_l0 (a1 : List UInt8) (a2 : Int) (x : Int) : Option (Int ⊕ (Unit ⊕ Bool)) := (bif (decide (x < (a1.length : Int))) then (f37_l0_j1 a1 a2 x true) else (f37_l0_j1 a1 a2 x false))
theorem f37_l0_ok {d : Nat} (hd : 2 ≤ d) (a1 : List UInt8) (a2 : Int) {r : Int ⊕ (Unit ⊕ Bool)} {Q : PX → St → Prop} (hQ : ∀ e st', finL (f37_l0_H a1 a2) (f37_l0_X a1 a2) r e st' → Q e st') {x : Int} (hS : f37_l0 a1 a2 x = some r) {st : St} (he : f37_l0_H a1 a2 x st) : ZR (lev codes baseL (d - 1)) Q c37_3 [] st := by
  refine zrKeep he ?_
  unfold f37_l0 at hS
  refine zrSeq ?_
  refine zrReg ?_
  refine zlBool (d := 9) (op := (.cmpI .lss (.tmp 8) (.tmp 7))) (g := none) (j := 1) (decide (x < (a1.length : Int))) rfl (by kernel_rfl) (by kernel_rfl) (by kernel_rfl) (fun hc => ?_) (fun hc => ?_)
  · replace hS := cond_t hc hS
    refine zlEnd (by kernel_rfl) ?_
    refine zkSeq ?_
    exact f37_l0_j1_ok hd a1 a2 hQ x true hS (by kernel_rfl)
  · replace hS := cond_f hc hS
    refine zlEnd (by kernel_rfl) ?_
    refine zkSeq ?_
    exact f37_l0_j1_ok hd a1 a2 hQ x false hS (by kernel_rfl)
noncomputable def f37 (a1 : List UInt8) (a2 : Int) : Option (Bool) := ((loopO (f37_l0 a1 a2) 0).bind fun z9 => (Sum.elim (fun z10 => (bif (decide ((a1.length : Int) ≤ a2)) then (some true) else (some false))) (fun z11 => (some z11)) z9))
theorem f37_ok (d : Nat) (hd : 2 ≤ d) (a1 : List UInt8) (a2 : Int) (r : Bool) (hS : f37 a1 a2 = some r) : lev codes baseL d 37 [(.d (.str a1)), (.d (.int .i64 a2))] [] = some ((.d (.bool r)), []) := by
  refine lev_go codes37 rfl rfl (Nat.le_trans (Nat.le_of_ble_eq_true rfl) hd) fun Q hQ => ?_
  unfold f37 at hS
  show ZR _ Q c37_b [] _
  replace hQ : ∀ e st', f37_Q r e st' → Q e st' := hQ
  refine zrSeq ?_
  refine zrReg ?_
  refine zlRun (n := 1) (j := 1) rfl (by kernel_rfl) ?_
  refine zlEnd (by kernel_rfl) ?_
  refine zkSeq ?_
  refine zrSeq ?_
  refine zrSeq ?_
  refine zrReg ?_
  refine zlRun (n := 3) (j := 3) rfl (by kernel_rfl) ?_
  refine zlEnd (by kernel_rfl) ?_
  refine zkSeq ?_
  refine zrBlk ?_
  refine bindE hS (fun z9 hz9 hS => ?_)
  refine zrLoop (f37_l0_H a1 a2) (f37_l0_X a1 a2) (fun x st r Q h0 hS hQ => f37_l0_ok hd a1 a2 hQ hS h0) (x := 0) (z := z9) (by show keepSt _ _ _ _ = _; kernel_rfl) hz9 ?_
  rcases z9 with z10 | z11
  · replace hS := (show _ = _ from hS)
    simp only [Sum.elim_inl] at hS
    intro e st' _ hX
    obtain ⟨rfl, rfl⟩ : _ ∧ _ := hX
    refine zkBlkX ?_
    refine zkSeq ?_
    refine zrSeq ?_
    refine zrReg ?_
    refine zlRun (n := 3) (j := 3) rfl (by kernel_rfl) ?_
    refine zlBool (d := 21) (op := (.cmpI .leq (.tmp 19) (.tmp 20))) (g := none) (j := 4) (decide ((a1.length : Int) ≤ a2)) rfl (by kernel_rfl) (by kernel_rfl) (by kernel_rfl) (fun hc => ?_) (fun hc => ?_)
    · replace hS := cond_t hc hS
      refine zlRun (n := 1) (j := 5) rfl (by kernel_rfl) ?_
      refine zlEnd (by kernel_rfl) ?_
      refine zkSeq ?_
      refine zrRet ?_
      refine zkNil ?_
      exact endQ hS hQ (fRet (by kernel_rfl) ((congrArg (fun s => outR s 0 c37.res) (by kernel_rfl : finSt c37.fin _ = f37_fin true)).trans (f37_out true)))
    · replace hS := cond_f hc hS
      refine zlRun (n := 1) (j := 5) rfl (by kernel_rfl) ?_
      refine zlEnd (by kernel_rfl) ?_
      refine zkSeq ?_
      refine zrRet ?_
      refine zkNil ?_
      exact endQ hS hQ (fRet (by kernel_rfl) ((congrArg (fun s => outR s 0 c37.res) (by kernel_rfl : finSt c37.fin _ = f37_fin false)).trans (f37_out false)))
  · simp only [Sum.elim_inr] at hS
    intro e st' _ hX
    obtain ⟨rfl, hX⟩ : _ ∧ _ := hX
    refine zkBlkR ?_
    refine zkSeqR ?_
    refine zkNil ?_
    exact endQ hS hQ (fRet (by kernel_rfl) ((congrArg (fun s => outR s 0 c37.res) hX).trans (f37_out z11)))
/- strings.IndexByte -/
theorem libIndexByte_ok (d : Nat) (hd : 0 ≤ d) (a1 : List UInt8) (a2 : UInt8) (r : Int) (hS : libIndexByte a1 a2 = some r) : lev codes baseL d 38 [(.d (.str a1)), (.d (.int .u8 (a2.toNat : Int)))] [] = some ((.d (.int .i64 r)), []) := lib_call (l := libs) rfl rfl rfl (osuI_ hS) d
/- farwriter/parse.runes -/
def f39_fin (p11 : List Int) : St := ⟨(up (fun _ => .un) 2 (.r (.msl 32 0 0 p11.length))), (up (hB fun _ => 0) 32 ⟨0, some (.own 3 1 ((eInt .i64).cells p11))⟩)⟩
theorem f39_out (p11 : List Int) : outR (f39_fin p11) 0 c39.res = some ((.r (.own 0 3 1 p11.length ((eInt .i64).cells p11))), []) := by
  exact out_of (ids := []) (ids' := [32]) (l := [(.r (.msl 32 0 0 p11.length))]) (by kernel_rfl) (by kernel_rfl) (o_own (eInt .i64) (e := 3) (k := 1) (xs := p11) (by kernel_rfl) rfl rfl rfl rfl)
def f39_Q (r : (List Int)) (e : PX) (st : St) : Prop := DoneF c39 0 ((.r (.own 0 3 1 r.length ((eInt .i64).cells r))), []) e st
def f39_l0_J (a1 : List UInt8) (x : (List Int) × Int) : St := ⟨(up (up (fun _ => .un) 7 (.r (.ptr 64 0 0))) 3 (.r (.msl 32 0 0 x.1.length))), (up (up (hB fun _ => 0) 64 ⟨0, some (.box ((.tup [(.d (.str a1)), (.d (.int .i64 x.2))]) :: []))⟩) 32 ⟨0, some (.own 3 1 ((eInt .i64).cells x.1))⟩)⟩
def f39_l0_H (a1 : List UInt8) (x : (List Int) × Int) (st : St) : Prop := keepSt [3, 7] [(32, .id 32), (64, .id 64)] [] st = f39_l0_J a1 x
def f39_l0_e0_J (a1 : List UInt8) (p10 : List Int) : St := ⟨(up (fun _ => .un) 3 (.r (.msl 32 0 0 p10.length))), (up (hB fun _ => 0) 32 ⟨0, some (.own 3 1 ((eInt .i64).cells p10))⟩)⟩
def f39_l0_X (a1 : List UInt8) (z : ((List Int))) (e : PX) (st : St) : Prop := e = .exit 0 ∧ st = f39_l0_e0_J a1 z
def f39_l0_j1_J (a1 : List UInt8) (p12 : List Int) (p13 : Int) (p14 : Int) (p15 : Int) : St := ⟨(up (up (up (fun _ => .un) 8 (.tup [(.d (.bool true)), (.d (.int .i64 p14)), (.d (.int .i32 p15))])) 7 (.r (.ptr 64 0 0))) 3 (.r (.msl 32 0 0 p12.length))), (up (up (hB fun _ => 0) 64 ⟨0, some (.box ((.tup [(.d (.str a1)), (.d (.int .i64 p13))]) :: []))⟩) 32 ⟨0, some (.own 3 1 ((eInt .i64).cells p12))⟩)⟩
noncomputable def f39_l0_j1 (a1 : List UInt8) (p12 : List Int) (p13 : Int) (p14 : Int) (p15 : Int) : Option (((List Int) × Int) ⊕ (((List Int)))) := ((app? 8 p12 ([(IntKind.i64.wrap (p15))] : List Int)).bind fun z9 => (some (.inl (z9, p13))))
theorem f39_l0_j1_ok {d : Nat} (hd : 1 ≤ d) (a1 : List UInt8) {r : ((List Int) × Int) ⊕ (((List Int)))} {Q : PX → St → Prop} (hQ : ∀ e st', finL (f39_l0_H a1) (f39_l0_X a1) r e st' → Q e st') (p12 : List Int) (p13 : Int) (p14 : Int) (p15 : Int) (hS : f39_l0_j1 a1 p12 p13 p14 p15 = some r) {st : St} (he : keepSt [3, 7, 8] [(32, .id 32), (64, .id 64)] [] st = f39_l0_j1_J a1 p12 p13 p14 p15) : ZR (lev codes baseL (d - 1)) Q c39_1 [] st := by
  refine zrKeep he ?_
  unfold f39_l0_j1 at hS
  refine zrBlk ?_
  refine zrSeq ?_
  refine zrReg ?_
  refine zlRun (n := 2) (j := 2) rfl (by kernel_rfl) ?_
  refine zlEnd (by kernel_rfl) ?_
  refine zkSeq ?_
  refine zrReg ?_
  refine zlRun (n := 4) (j := 4) rfl (by kernel_rfl) ?_
  refine bindE hS (fun z9 hz9 hS => ?_)
  refine zlOp (d := some 15) (op := (.app 3 1 8 (.tmp 11) (.tmp 14))) (g := none) (v := (.r (.msl 32 1 0 z9.length))) (ups := [(32, ⟨1, some (.own 3 1 ((eInt .i64).cells z9))⟩)]) (j := 5) rfl (by kernel_rfl) (by kernel_rfl) (ev_app (eInt .i64) (b := 32) (g := 0) (n := p12.length) (xs := p12) (ys := [(IntKind.i64.wrap (p15))]) ((congrArg (asL _) (by kernel_rfl : ρof _ (.tmp 14) = (.r (.msl 120 1 0 (([(IntKind.i64.wrap (p15))] : List Int).length))))).trans (as_whole (eInt .i64) (e := 3) (k := 1) (xs := [(IntKind.i64.wrap (p15))]) (by kernel_rfl) rfl rfl)) rfl (by kernel_rfl) rfl (by kernel_rfl) rfl hz9) ?_
  refine zlRun (n := 1) (j := 6) rfl (by kernel_rfl) ?_
  refine zlEnd (by kernel_rfl) ?_
  refine zkBlk ?_
  refine zkNil ?_
  exact endQ hS hQ (finL_n (by show keepSt _ _ _ _ = _; kernel_rfl))
noncomputable def f39_l0 (a1 : List UInt8) (x : (List Int) × Int) : Option (((List Int) × Int) ⊕ (((List Int)))) := ((chk (decide (0 ≤ x.2))).bind fun z8 => (bif (decide (x.2 < (a1.length : Int))) then (f39_l0_j1 a1 x.1 (((x.2 : Int).toNat + (Utf8.decode ⟨a1.toArray⟩ (x.2 : Int).toNat).2 : Nat) : Int) x.2 ((Utf8.decode ⟨a1.toArray⟩ (x.2 : Int).toNat).1 : Int)) else (some (.inr x.1))))
theorem f39_l0_ok {d : Nat} (hd : 1 ≤ d) (a1 : List UInt8) {r : ((List Int) × Int) ⊕ (((List Int)))} {Q : PX → St → Prop} (hQ : ∀ e st', finL (f39_l0_H a1) (f39_l0_X a1) r e st' → Q e st') {x : (List Int) × Int} (hS : f39_l0 a1 x = some r) {st : St} (he : f39_l0_H a1 x st) : ZR (lev codes baseL (d - 1)) Q c39_2 [] st := by
  refine zrKeep he ?_
  unfold f39_l0 at hS
  refine zrSeq ?_
  refine zrReg ?_
  refine bindE hS (fun z8 hz8 hS => ?_)
  refine boolC (decide (x.2 < (a1.length : Int))) (fun hc => ?_) (fun hc => ?_)
  · replace hS := cond_t hc hS
    refine zlOp (d := some 8) (op := (.nxt (.tmp 7))) (g := none) (v := (.tup [(.d (.bool true)), (.d (.int .i64 x.2)), (.d (.int .i32 ((Utf8.decode ⟨a1.toArray⟩ (x.2 : Int).toNat).1 : Int)))])) (ups := [(64, ⟨0, some (.box ((.tup [(.d (.str a1)), (.d (.int .i64 (((x.2 : Int).toNat + (Utf8.decode ⟨a1.toArray⟩ (x.2 : Int).toNat).2 : Nat) : Int)))]) :: []))⟩)]) (j := 1) rfl (by kernel_rfl) (by kernel_rfl) (ev_nxtT (s := a1) (p := x.2) (b := 64) (g := 0) (by kernel_rfl) (by kernel_rfl) hz8 hc) ?_
    refine zlRun (n := 1) (j := 2) rfl (by kernel_rfl) ?_
    refine zlEnd (by kernel_rfl) ?_
    refine zkSeq ?_
    refine zrSeq ?_
    refine zrCondT (by kernel_rfl) ?_
    refine zrSkip ?_
    refine zkSeq ?_
    exact f39_l0_j1_ok hd a1 hQ x.1 (((x.2 : Int).toNat + (Utf8.decode ⟨a1.toArray⟩ (x.2 : Int).toNat).2 : Nat) : Int) x.2 ((Utf8.decode ⟨a1.toArray⟩ (x.2 : Int).toNat).1 : Int) hS (by kernel_rfl)
  · replace hS := cond_f hc hS
    refine zlOp (d := some 8) (op := (.nxt (.tmp 7))) (g := none) (v := (.tup [(.d (.bool false))])) (ups := []) (j := 1) rfl (by kernel_rfl) (by kernel_rfl) (ev_nxtF (s := a1) (p := x.2) (b := 64) (g := 0) (by kernel_rfl) (by kernel_rfl) hz8 hc) ?_
    refine zlRun (n := 1) (j := 2) rfl (by kernel_rfl) ?_
    refine zlEnd (by kernel_rfl) ?_
    refine zkSeq ?_
    refine zrSeq ?_
    refine zrCondF (by kernel_rfl) ?_
    refine zrKeep (J := f39_l0_e0_J a1 x.1) (by kernel_rfl) ?_
    refine zrExit ?_
    refine zkSeqX ?_
    refine zkNil ?_
    exact endQ hS hQ (finL_x (by intro h; cases h) (by show _ = _ ∧ _ = _; exact ⟨rfl, rfl⟩))
noncomputable def f39 (a1 : List UInt8) : Option ((List Int)) := ((loopO (f39_l0 a1) ([], 0)).bind fun z10 => (some z10))
theorem f39_ok (d : Nat) (hd : 1 ≤ d) (a1 : List UInt8) (r : (List Int)) (hS : f39 a1 = some r) : lev codes baseL d 39 [(.d (.str a1))] [] = some ((.r (.own 0 3 1 r.length ((eInt .i64).cells r))), []) := by
  refine lev_go codes39 rfl rfl (Nat.le_trans (Nat.le_of_ble_eq_true rfl) hd) fun Q hQ => ?_
  unfold f39 at hS
  show ZR _ Q c39_b [] _
  replace hQ : ∀ e st', f39_Q r e st' → Q e st' := hQ
  refine zrSeq ?_
  refine zrReg ?_
  refine zlRun (n := 1) (j := 1) rfl (by kernel_rfl) ?_
  refine zlEnd (by kernel_rfl) ?_
  refine zkSeq ?_
  refine zrSeq ?_
  refine zrReg ?_
  refine zlRun (n := 1) (j := 1) rfl (by kernel_rfl) ?_
  refine zlEnd (by kernel_rfl) ?_
  refine zkSeq ?_
  refine zrSeq ?_
  refine zrSeq ?_
  refine zrReg ?_
  refine zlRun (n := 2) (j := 2) rfl (by kernel_rfl) ?_
  refine zlEnd (by kernel_rfl) ?_
  refine zkSeq ?_
  refine zrBlk ?_
  refine bindE hS (fun z10 hz10 hS => ?_)
  refine zrLoop (f39_l0_H a1) (f39_l0_X a1) (fun x st r Q h0 hS hQ => f39_l0_ok hd a1 hQ hS h0) (x := ([], 0)) (z := z10) (by show keepSt _ _ _ _ = _; kernel_rfl) hz10 ?_
  intro e st' _ hX
  obtain ⟨rfl, rfl⟩ : _ ∧ _ := hX
  refine zkBlkX ?_
  refine zkSeq ?_
  refine zrSeq ?_
  refine zrReg ?_
  refine zlRun (n := 2) (j := 2) rfl (by kernel_rfl) ?_
  refine zlEnd (by kernel_rfl) ?_
  refine zkSeq ?_
  refine zrRet ?_
  refine zkNil ?_
  exact endQ hS hQ (fRet (by kernel_rfl) ((congrArg (fun s => outR s 0 c39.res) (by kernel_rfl : finSt c39.fin _ = f39_fin z10)).trans (f39_out z10)))
/- farwriter/args.Write$1 -/
def f54_fin (p2 : Bool) : St := ⟨(up (fun _ => .un) 2 (.d (.bool p2))), (hB fun _ => 0)⟩
theorem f54_out (p2 : Bool) : outR (f54_fin p2) 0 c54.res = some ((.d (.bool p2)), []) := by
  kernel_rfl
def f54_Q (r : Bool) (e : PX) (st : St) : Prop := DoneF c54 0 ((.d (.bool r)), []) e st
noncomputable def f54 (a1 : Int) : Option (Bool) := (bif (decide (a1 < (-1))) then (some true) else (bif (decide (16383 < a1)) then (some true) else (some false)))
theorem f54_ok (d : Nat) (hd : 1 ≤ d) (a1 : Int) (r : Bool) (hS : f54 a1 = some r) : lev codes baseL d 54 [(.d (.int .i64 a1))] [] = some ((.d (.bool r)), []) := by
  refine lev_go codes54 rfl rfl (Nat.le_trans (Nat.le_of_ble_eq_true rfl) hd) fun Q hQ => ?_
  unfold f54 at hS
  show ZR _ Q c54_b [] _
  replace hQ : ∀ e st', f54_Q r e st' → Q e st' := hQ
  refine zrSeq ?_
  refine zrReg ?_
  refine zlRun (n := 1) (j := 1) rfl (by kernel_rfl) ?_
  refine zlEnd (by kernel_rfl) ?_
  refine zkSeq ?_
  refine zrSeq ?_
  refine zrReg ?_
  refine zlRun (n := 1) (j := 1) rfl (by kernel_rfl) ?_
  refine zlBool (d := 4) (op := (.cmpI .lss (.tmp 3) (.const (.int .i64 (-1))))) (g := none) (j := 2) (decide (a1 < (-1))) rfl (by kernel_rfl) (by kernel_rfl) (by kernel_rfl) (fun hc => ?_) (fun hc => ?_)
  · replace hS := cond_t hc hS
    refine zlRun (n := 5) (j := 7) rfl (by kernel_rfl) ?_
    refine zlEnd (by kernel_rfl) ?_
    refine zkSeq ?_
    refine zrRet ?_
    refine zkNil ?_
    exact endQ hS hQ (fRet (by kernel_rfl) ((congrArg (fun s => outR s 0 c54.res) (by kernel_rfl : finSt c54.fin _ = f54_fin true)).trans (f54_out true)))
  · replace hS := cond_f hc hS
    refine zlRun (n := 2) (j := 4) rfl (by kernel_rfl) ?_
    refine zlBool (d := 7) (op := (.cmpI .gtr (.tmp 6) (.const (.int .i64 16383)))) (g := (some (5, false))) (j := 5) (decide (16383 < a1)) rfl (by kernel_rfl) (by kernel_rfl) (by kernel_rfl) (fun hc => ?_) (fun hc => ?_)
    · replace hS := cond_t hc hS
      refine zlRun (n := 2) (j := 7) rfl (by kernel_rfl) ?_
      refine zlEnd (by kernel_rfl) ?_
      refine zkSeq ?_
      refine zrRet ?_
      refine zkNil ?_
      exact endQ hS hQ (fRet (by kernel_rfl) ((congrArg (fun s => outR s 0 c54.res) (by kernel_rfl : finSt c54.fin _ = f54_fin true)).trans (f54_out true)))
    · replace hS := cond_f hc hS
      refine zlRun (n := 2) (j := 7) rfl (by kernel_rfl) ?_
      refine zlEnd (by kernel_rfl) ?_
      refine zkSeq ?_
      refine zrRet ?_
      refine zkNil ?_
      exact endQ hS hQ (fRet (by kernel_rfl) ((congrArg (fun s => outR s 0 c54.res) (by kernel_rfl : finSt c54.fin _ = f54_fin false)).trans (f54_out false)))
/- slices.IndexFunc[[]int,int] -/
def f76_fin (p8 : Int) : St := ⟨(up (fun _ => .un) 4 (.d (.int .i64 p8))), (hB fun _ => 0)⟩
theorem f76_out (p8 : Int) : outR (f76_fin p8) 0 c76.res = some ((.d (.int .i64 p8)), []) := by
  kernel_rfl
def f76_Q (r : Int) (e : PX) (st : St) : Prop := DoneF c76 0 ((.d (.int .i64 r)), []) e st
def f76_l0_J (a1 : List Int) (x : Int) : St := ⟨(up (up (up (up (fun _ => .un) 8 (.d (.int .i64 x))) 7 (.d (.int .i64 (a1.length : Int)))) 1 (.fn 54 [])) 0 (.d (.sl a1.length ((eInt .i64).cells a1)))), (hB fun _ => 0)⟩
def f76_l0_H (a1 : List Int) (x : Int) (st : St) : Prop := keepSt [0, 1, 7, 8] [] [] st = f76_l0_J a1 x
def f76_l0_e0_J (a1 : List Int) : St := ⟨(fun _ => .un), (hB fun _ => 0)⟩
def f76_l0_X (a1 : List Int) (z : Unit ⊕ Int) (e : PX) (st : St) : Prop := (match z with | .inl z => e = .exit 0 ∧ st = f76_l0_e0_J a1 | .inr z => e = .ret ∧ finSt c76.fin st = f76_fin z)
def f76_l0_j2_J (a1 : List Int) (p13 : Int) : St := ⟨(up (up (up (up (fun _ => .un) 8 (.d (.int .i64 p13))) 7 (.d (.int .i64 (a1.length : Int)))) 1 (.fn 54 [])) 0 (.d (.sl a1.length ((eInt .i64).cells a1)))), (hB fun _ => 0)⟩
noncomputable def f76_l0_j2 (a1 : List Int) (p13 : Int) : Option (Int ⊕ (Unit ⊕ Int)) := ((idx a1 p13).bind fun z7 => ((f54 z7).bind fun z8 => (bif z8 then (some (.inr (.inr p13))) else (some (.inl (IntKind.i64.wrap (p13 + 1)))))))
theorem f76_l0_j2_ok {d : Nat} (hd : 2 ≤ d) (a1 : List Int) {r : Int ⊕ (Unit ⊕ Int)} {Q : PX → St → Prop} (hQ : ∀ e st', finL (f76_l0_H a1) (f76_l0_X a1) r e st' → Q e st') (p13 : Int) (hS : f76_l0_j2 a1 p13 = some r) {st : St} (he : keepSt [0, 1, 7, 8] [] [] st = f76_l0_j2_J a1 p13) : ZR (lev codes baseL (d - 1)) Q c76_1 [] st := by
  refine zrKeep he ?_
  unfold f76_l0_j2 at hS
  refine zrSeq ?_
  refine zrBlk ?_
  refine zrSeq ?_
  refine zrReg ?_
  refine zlRun (n := 2) (j := 2) rfl (by kernel_rfl) ?_
  refine zlEnd (by kernel_rfl) ?_
  refine zkSeq ?_
  refine zrSeq ?_
  refine zrReg ?_
  refine zlRun (n := 3) (j := 3) rfl (by kernel_rfl) ?_
  refine bindE hS (fun z7 hz7 hS => ?_)
  refine zlOp (d := some 14) (op := (.ixS 3 1 (.tmp 12) (.tmp 13))) (g := none) (v := (.rptr ((eInt .i64).enc z7 ++ ((eInt .i64).cells (a1.drop ((p13 : Int).toNat + 1)))))) (ups := []) (j := 4) rfl (by kernel_rfl) (by kernel_rfl) (ev_ixS (eInt .i64) (kk := .i64) (xs := a1) (j := p13) (by kernel_rfl) (by kernel_rfl) hz7 rfl (by intro h; cases h)) ?_
  refine zlRun (n := 1) (j := 5) rfl (by kernel_rfl) ?_
  refine bindE hS (fun z8 hz8 hS => ?_)
  refine zlOp (d := some 16) (op := (.callv (.tmp 11) [(.tmp 15)])) (g := none) (v := (.d (.bool z8))) (ups := []) (j := 6) rfl (by kernel_rfl) (by kernel_rfl) (ev_callv (f := 54) (cs := []) (by kernel_rfl) (args := [(.d (.int .i64 z7))]) (l := [(.d (.int .i64 z7))]) (r := (.d (.bool z8))) (by kernel_rfl) (by kernel_rfl) (f54_ok (d - 1) (dpt hd rfl) z7 z8 hz8) (by kernel_rfl) (by kernel_rfl) (by kernel_rfl)) ?_
  refine zlEnd (by kernel_rfl) ?_
  refine zkSeq ?_
  refine zrSplit 16 z8 (by kernel_rfl) (fun hc => ?_) (fun hc => ?_)
  · replace hS := cond_t hc hS
    refine zrCondT (by kernel_rfl) ?_
    refine zrSeq ?_
    refine zrReg ?_
    refine zlRun (n := 2) (j := 2) rfl (by kernel_rfl) ?_
    refine zlEnd (by kernel_rfl) ?_
    refine zkSeq ?_
    refine zrRet ?_
    refine zkBlkR ?_
    refine zkSeqR ?_
    refine zkNil ?_
    exact endQ hS hQ (finL_x (by intro h; cases h) (by show _ = _ ∧ _ = _; exact ⟨rfl, by kernel_rfl⟩))
  · replace hS := cond_f hc hS
    refine zrCondF (by kernel_rfl) ?_
    refine zrSkip ?_
    refine zkBlk ?_
    refine zkSeq ?_
    refine zrReg ?_
    refine zlRun (n := 2) (j := 2) rfl (by kernel_rfl) ?_
    refine zlEnd (by kernel_rfl) ?_
    refine zkNil ?_
    exact endQ hS hQ (finL_n (by show keepSt _ _ _ _ = _; kernel_rfl))
def f76_l0_j1_J (a1 : List Int) (p11 : Int) (p12 : Bool) : St := ⟨(up (up (up (up (up (fun _ => .un) 9 (.d (.bool p12))) 8 (.d (.int .i64 p11))) 7 (.d (.int .i64 (a1.length : Int)))) 1 (.fn 54 [])) 0 (.d (.sl a1.length ((eInt .i64).cells a1)))), (hB fun _ => 0)⟩
noncomputable def f76_l0_j1 (a1 : List Int) (p11 : Int) (p12 : Bool) : Option (Int ⊕ (Unit ⊕ Int)) := (bif p12 then (f76_l0_j2 a1 p11) else (some (.inr (.inl ()))))
theorem f76_l0_j1_ok {d : Nat} (hd : 2 ≤ d) (a1 : List Int) {r : Int ⊕ (Unit ⊕ Int)} {Q : PX → St → Prop} (hQ : ∀ e st', finL (f76_l0_H a1) (f76_l0_X a1) r e st' → Q e st') (p11 : Int) (p12 : Bool) (hS : f76_l0_j1 a1 p11 p12 = some r) {st : St} (he : keepSt [0, 1, 7, 8, 9] [] [] st = f76_l0_j1_J a1 p11 p12) : ZR (lev codes baseL (d - 1)) Q c76_2 [] st := by
  refine zrKeep he ?_
  unfold f76_l0_j1 at hS
  refine zrSeq ?_
  refine zrSplit 9 p12 (by kernel_rfl) (fun hc => ?_) (fun hc => ?_)
  · replace hS := cond_t hc hS
    refine zrCondT (by kernel_rfl) ?_
    refine zrSkip ?_
    refine zkSeq ?_
    exact f76_l0_j2_ok hd a1 hQ p11 hS (by kernel_rfl)
  · replace hS := cond_f hc hS
    refine zrCondF (by kernel_rfl) ?_
    refine zrKeep (J := f76_l0_e0_J a1) (by kernel_rfl) ?_
    refine zrExit ?_
    refine zkSeqX ?_
    refine zkNil ?_
    exact endQ hS hQ (finL_x (by intro h; cases h) (by show _ = _ ∧ _ = _; exact ⟨rfl, rfl⟩))
noncomputable def f76_l0 (a1 : List Int) (x : Int) : Option (Int ⊕ (Unit ⊕ Int)) := (bif (decide (x < (a1.length : Int))) then (f76_l0_j1 a1 x true) else (f76_l0_j1 a1 x false))
theorem f76_l0_ok {d : Nat} (hd : 2 ≤ d) (a1 : List Int) {r : Int ⊕ (Unit ⊕ Int)} {Q : PX → St → Prop} (hQ : ∀ e st', finL (f76_l0_H a1) (f76_l0_X a1) r e st' → Q e st') {x : Int} (hS : f76_l0 a1 x = some r) {st : St} (he : f76_l0_H a1 x st) : ZR (lev codes baseL (d - 1)) Q c76_3 [] st := by
  refine zrKeep he ?_
  unfold f76_l0 at hS
  refine zrSeq ?_
  refine zrReg ?_
  refine zlBool (d := 9) (op := (.cmpI .lss (.tmp 8) (.tmp 7))) (g := none) (j := 1) (decide (x < (a1.length : Int))) rfl (by kernel_rfl) (by kernel_rfl) (by kernel_rfl) (fun hc => ?_) (fun hc => ?_)
  · replace hS := cond_t hc hS
    refine zlEnd (by kernel_rfl) ?_
    refine zkSeq ?_
    exact f76_l0_j1_ok hd a1 hQ x true hS (by kernel_rfl)
  · replace hS := cond_f hc hS
    refine zlEnd (by kernel_rfl) ?_
    refine zkSeq ?_
    exact f76_l0_j1_ok hd a1 hQ x false hS (by kernel_rfl)
noncomputable def f76 (a1 : List Int) : Option (Int) := ((loopO (f76_l0 a1) 0).bind fun z9 => (Sum.elim (fun z10 => (some (-1))) (fun z11 => (some z11)) z9))
theorem f76_ok (d : Nat) (hd : 2 ≤ d) (a1 : List Int) (r : Int) (hS : f76 a1 = some r) : lev codes baseL d 76 [(.d (.sl a1.length ((eInt .i64).cells a1))), (.fn 54 [])] [] = some ((.d (.int .i64 r)), []) := by
  refine lev_go codes76 rfl rfl (Nat.le_trans (Nat.le_of_ble_eq_true rfl) hd) fun Q hQ => ?_
  unfold f76 at hS
  show ZR _ Q c76_b [] _
  replace hQ : ∀ e st', f76_Q r e st' → Q e st' := hQ
  refine zrSeq ?_
  refine zrReg ?_
  refine zlRun (n := 1) (j := 1) rfl (by kernel_rfl) ?_
  refine zlEnd (by kernel_rfl) ?_
  refine zkSeq ?_
  refine zrSeq ?_
  refine zrSeq ?_
  refine zrReg ?_
  refine zlRun (n := 3) (j := 3) rfl (by kernel_rfl) ?_
  refine zlEnd (by kernel_rfl) ?_
  refine zkSeq ?_
  refine zrBlk ?_
  refine bindE hS (fun z9 hz9 hS => ?_)
  refine zrLoop (f76_l0_H a1) (f76_l0_X a1) (fun x st r Q h0 hS hQ => f76_l0_ok hd a1 hQ hS h0) (x := 0) (z := z9) (by show keepSt _ _ _ _ = _; kernel_rfl) hz9 ?_
  rcases z9 with z10 | z11
  · replace hS := (show _ = _ from hS)
    simp only [Sum.elim_inl] at hS
    intro e st' _ hX
    obtain ⟨rfl, rfl⟩ : _ ∧ _ := hX
    refine zkBlkX ?_
    refine zkSeq ?_
    refine zrSeq ?_
    refine zrReg ?_
    refine zlRun (n := 1) (j := 1) rfl (by kernel_rfl) ?_
    refine zlEnd (by kernel_rfl) ?_
    refine zkSeq ?_
    refine zrRet ?_
    refine zkNil ?_
    exact endQ hS hQ (fRet (by kernel_rfl) ((congrArg (fun s => outR s 0 c76.res) (by kernel_rfl : finSt c76.fin _ = f76_fin (-1))).trans (f76_out (-1))))
  · simp only [Sum.elim_inr] at hS
    intro e st' _ hX
    obtain ⟨rfl, hX⟩ : _ ∧ _ := hX
    refine zkBlkR ?_
    refine zkSeqR ?_
    refine zkNil ?_
    exact endQ hS hQ (fRet (by kernel_rfl) ((congrArg (fun s => outR s 0 c76.res) hX).trans (f76_out z11)))
/- slices.ContainsFunc[[]int,int] -/
def f53_fin (p2 : Bool) : St := ⟨(up (fun _ => .un) 4 (.d (.bool p2))), (hB fun _ => 0)⟩
theorem f53_out (p2 : Bool) : outR (f53_fin p2) 0 c53.res = some ((.d (.bool p2)), []) := by
  kernel_rfl
def f53_Q (r : Bool) (e : PX) (st : St) : Prop := DoneF c53 0 ((.d (.bool r)), []) e st
noncomputable def f53 (a1 : List Int) : Option (Bool) := ((f76 a1).bind fun z2 => (bif (decide (0 ≤ z2)) then (some true) else (some false)))
theorem f53_ok (d : Nat) (hd : 3 ≤ d) (a1 : List Int) (r : Bool) (hS : f53 a1 = some r) : lev codes baseL d 53 [(.d (.sl a1.length ((eInt .i64).cells a1))), (.fn 54 [])] [] = some ((.d (.bool r)), []) := by
  refine lev_go codes53 rfl rfl (Nat.le_trans (Nat.le_of_ble_eq_true rfl) hd) fun Q hQ => ?_
  unfold f53 at hS
  show ZR _ Q c53_b [] _
  replace hQ : ∀ e st', f53_Q r e st' → Q e st' := hQ
  refine zrSeq ?_
  refine zrReg ?_
  refine zlRun (n := 1) (j := 1) rfl (by kernel_rfl) ?_
  refine zlEnd (by kernel_rfl) ?_
  refine zkSeq ?_
  refine zrSeq ?_
  refine zrReg ?_
  refine zlRun (n := 2) (j := 2) rfl (by kernel_rfl) ?_
  refine bindE hS (fun z2 hz2 hS => ?_)
  refine zlOp (d := some 7) (op := (.call 76 [(.tmp 5), (.tmp 6)])) (g := none) (j := 3) rfl (by kernel_rfl) (by kernel_rfl) (ev_callA (by kernel_rfl) (f76_ok (d - 1) (dpt hd rfl) a1 z2 hz2) (by kernel_rfl) (by kernel_rfl)) ?_
  refine zlBool (d := 8) (op := (.cmpI .geq (.tmp 7) (.const (.int .i64 0)))) (g := none) (j := 4) (decide (0 ≤ z2)) rfl (by kernel_rfl) (by kernel_rfl) (by kernel_rfl) (fun hc => ?_) (fun hc => ?_)
  · replace hS := cond_t hc hS
    refine zlRun (n := 1) (j := 5) rfl (by kernel_rfl) ?_
    refine zlEnd (by kernel_rfl) ?_
    refine zkSeq ?_
    refine zrRet ?_
    refine zkNil ?_
    exact endQ hS hQ (fRet (by kernel_rfl) ((congrArg (fun s => outR s 0 c53.res) (by kernel_rfl : finSt c53.fin _ = f53_fin true)).trans (f53_out true)))
  · replace hS := cond_f hc hS
    refine zlRun (n := 1) (j := 5) rfl (by kernel_rfl) ?_
    refine zlEnd (by kernel_rfl) ?_
    refine zkSeq ?_
    refine zrRet ?_
    refine zkNil ?_
    exact endQ hS hQ (fRet (by kernel_rfl) ((congrArg (fun s => outR s 0 c53.res) (by kernel_rfl : finSt c53.fin _ = f53_fin false)).trans (f53_out false)))
/- strconv.Itoa -/
theorem libItoaL_ok (d : Nat) (hd : 0 ≤ d) (a1 : Int) (r : List UInt8) (hS : libItoaL a1 = some r) : lev codes baseL d 55 [(.d (.int .i64 a1))] [] = some ((.d (.str r)), []) := lib_call (l := libs) rfl rfl rfl (oiS_ hS) d
/- strings.Join -/
theorem libJoin_ok (d : Nat) (hd : 0 ≤ d) (a1 : List (List UInt8)) (a2 : List UInt8) (r : List UInt8) (hS : libJoin a1 a2 = some r) : lev codes baseL d 56 [(.d (.sl a1.length (eStr.cells a1))), (.d (.str a2))] [] = some ((.d (.str r)), []) := lib_call (l := libs) rfl rfl rfl (oSsS_ hS) d
/- farwriter/args.Write -/
def f40_fin (p30 : List UInt8) (p31 : Int) : St := ⟨(up (up (fun _ => .un) 3 (.d (.int .i64 p31))) 2 (.d (.str p30))), (hB fun _ => 0)⟩
theorem f40_out (p30 : List UInt8) (p31 : Int) : outR (f40_fin p30 p31) 0 c40.res = some ((.tup [(.d (.str p30)), (.d (.int .i64 p31))]), []) := by
  kernel_rfl
def f40_Q (r : (List UInt8) × Int) (e : PX) (st : St) : Prop := DoneF c40 0 ((.tup [(.d (.str r.1)), (.d (.int .i64 r.2))]), []) e st
def f40_l2_J (a1 : List Int) (x : (List (List UInt8)) × Int) : St := ⟨(up (up (up (up (fun _ => .un) 19 (.d (.int .i64 x.2))) 18 (.d (.int .i64 (a1.length : Int)))) 17 (.d (.sl a1.length ((eInt .i64).cells a1)))) 4 (.r (.msl 40 0 0 x.1.length))), (up (hB fun _ => 0) 40 ⟨0, some (.own 9 1 (eStr.cells x.1))⟩)⟩
def f40_l2_H (a1 : List Int) (x : (List (List UInt8)) × Int) (st : St) : Prop := keepSt [4, 17, 18, 19] [(40, .id 40)] [] st = f40_l2_J a1 x
def f40_l2_e0_J (a1 : List Int) (p29 : List (List UInt8)) : St := ⟨(up (fun _ => .un) 4 (.r (.msl 40 0 0 p29.length))), (up (hB fun _ => 0) 40 ⟨0, some (.own 9 1 (eStr.cells p29))⟩)⟩
def f40_l2_X (a1 : List Int) (z : ((List (List UInt8)))) (e : PX) (st : St) : Prop := e = .exit 0 ∧ st = f40_l2_e0_J a1 z
def f40_l2_j4_J (a1 : List Int) (p40 : List (List UInt8)) (p41 : Int) : St := ⟨(up (up (up (up (fun _ => .un) 19 (.d (.int .i64 p41))) 18 (.d (.int .i64 (a1.length : Int)))) 17 (.d (.sl a1.length ((eInt .i64).cells a1)))) 4 (.r (.msl 40 0 0 p40.length))), (up (hB fun _ => 0) 40 ⟨0, some (.own 9 1 (eStr.cells p40))⟩)⟩
noncomputable def f40_l2_j4 (a1 : List Int) (p40 : List (List UInt8)) (p41 : Int) : Option (((List (List UInt8)) × Int) ⊕ (((List (List UInt8))))) := ((idx a1 p41).bind fun z16 => (bif (decide (z16 < 0)) then ((app? 16 p40 ([[]] : List (List UInt8))).bind fun z17 => (some (.inl (z17, (IntKind.i64.wrap (p41 + 1)))))) else ((libItoaL z16).bind fun z18 => ((app? 16 p40 ([z18] : List (List UInt8))).bind fun z19 => (some (.inl (z19, (IntKind.i64.wrap (p41 + 1)))))))))
theorem f40_l2_j4_ok {d : Nat} (hd : 4 ≤ d) (a1 : List Int) {r : ((List (List UInt8)) × Int) ⊕ (((List (List UInt8))))} {Q : PX → St → Prop} (hQ : ∀ e st', finL (f40_l2_H a1) (f40_l2_X a1) r e st' → Q e st') (p40 : List (List UInt8)) (p41 : Int) (hS : f40_l2_j4 a1 p40 p41 = some r) {st : St} (he : keepSt [4, 17, 18, 19] [(40, .id 40)] [] st = f40_l2_j4_J a1 p40 p41) : ZR (lev codes baseL (d - 1)) Q c40_1 [] st := by
  refine zrKeep he ?_
  unfold f40_l2_j4 at hS
  refine zrSeq ?_
  refine zrBlk ?_
  refine zrSeq ?_
  refine zrReg ?_
  refine bindE hS (fun z16 hz16 hS => ?_)
  refine zlOp (d := some 21) (op := (.ixS 3 1 (.tmp 17) (.tmp 19))) (g := none) (v := (.rptr ((eInt .i64).enc z16 ++ ((eInt .i64).cells (a1.drop ((p41 : Int).toNat + 1)))))) (ups := []) (j := 1) rfl (by kernel_rfl) (by kernel_rfl) (ev_ixS (eInt .i64) (kk := .i64) (xs := a1) (j := p41) (by kernel_rfl) (by kernel_rfl) hz16 rfl (by intro h; cases h)) ?_
  refine zlRun (n := 2) (j := 3) rfl (by kernel_rfl) ?_
  refine zlEnd (by kernel_rfl) ?_
  refine zkSeq ?_
  refine zrSeq ?_
  refine zrReg ?_
  refine zlRun (n := 1) (j := 1) rfl (by kernel_rfl) ?_
  refine zlBool (d := 24) (op := (.cmpI .lss (.tmp 23) (.const (.int .i64 0)))) (g := none) (j := 2) (decide (z16 < 0)) rfl (by kernel_rfl) (by kernel_rfl) (by kernel_rfl) (fun hc => ?_) (fun hc => ?_)
  · replace hS := cond_t hc hS
    refine zlEnd (by kernel_rfl) ?_
    refine zkSeq ?_
    refine zrCondT (by kernel_rfl) ?_
    refine zrReg ?_
    refine zlRun (n := 2) (j := 2) rfl (by kernel_rfl) ?_
    refine bindE hS (fun z17 hz17 hS => ?_)
    refine zlOp (d := some 27) (op := (.app 9 1 16 (.tmp 25) (.tmp 26))) (g := none) (v := (.r (.msl 40 1 0 z17.length))) (ups := [(40, ⟨1, some (.own 9 1 (eStr.cells z17))⟩)]) (j := 3) rfl (by kernel_rfl) (by kernel_rfl) (ev_app eStr (b := 40) (g := 0) (n := p40.length) (xs := p40) (ys := [[]]) ((congrArg (asL _) (by kernel_rfl : ρof _ (.tmp 26) = (.r (.msl 216 1 0 (([[]] : List (List UInt8)).length))))).trans (as_whole eStr (e := 9) (k := 1) (xs := [[]]) (by kernel_rfl) rfl rfl)) rfl (by kernel_rfl) rfl (by kernel_rfl) rfl hz17) ?_
    refine zlRun (n := 1) (j := 4) rfl (by kernel_rfl) ?_
    refine zlEnd (by kernel_rfl) ?_
    refine zkBlk ?_
    refine zkSeq ?_
    refine zrReg ?_
    refine zlRun (n := 2) (j := 2) rfl (by kernel_rfl) ?_
    refine zlEnd (by kernel_rfl) ?_
    refine zkNil ?_
    exact endQ hS hQ (finL_n (by show keepSt _ _ _ _ = _; kernel_rfl))
  · replace hS := cond_f hc hS
    refine zlEnd (by kernel_rfl) ?_
    refine zkSeq ?_
    refine zrCondF (by kernel_rfl) ?_
    refine zrReg ?_
    refine zlRun (n := 2) (j := 2) rfl (by kernel_rfl) ?_
    refine bindE hS (fun z18 hz18 hS => ?_)
    refine zlOp (d := some 30) (op := (.call 55 [(.tmp 29)])) (g := none) (j := 3) rfl (by kernel_rfl) (by kernel_rfl) (ev_callA (by kernel_rfl) (libItoaL_ok (d - 1) (dpt hd rfl) z16 z18 hz18) (by kernel_rfl) (by kernel_rfl)) ?_
    refine zlRun (n := 1) (j := 4) rfl (by kernel_rfl) ?_
    refine bindE hS (fun z19 hz19 hS => ?_)
    refine zlOp (d := some 32) (op := (.app 9 1 16 (.tmp 28) (.tmp 31))) (g := none) (v := (.r (.msl 40 1 0 z19.length))) (ups := [(40, ⟨1, some (.own 9 1 (eStr.cells z19))⟩)]) (j := 5) rfl (by kernel_rfl) (by kernel_rfl) (ev_app eStr (b := 40) (g := 0) (n := p40.length) (xs := p40) (ys := [z18]) ((congrArg (asL _) (by kernel_rfl : ρof _ (.tmp 31) = (.r (.msl 256 1 0 (([z18] : List (List UInt8)).length))))).trans (as_whole eStr (e := 9) (k := 1) (xs := [z18]) (by kernel_rfl) rfl rfl)) rfl (by kernel_rfl) rfl (by kernel_rfl) rfl hz19) ?_
    refine zlRun (n := 1) (j := 6) rfl (by kernel_rfl) ?_
    refine zlEnd (by kernel_rfl) ?_
    refine zkBlk ?_
    refine zkSeq ?_
    refine zrReg ?_
    refine zlRun (n := 2) (j := 2) rfl (by kernel_rfl) ?_
    refine zlEnd (by kernel_rfl) ?_
    refine zkNil ?_
    exact endQ hS hQ (finL_n (by show keepSt _ _ _ _ = _; kernel_rfl))
def f40_l2_j3_J (a1 : List Int) (p37 : List (List UInt8)) (p38 : Int) (p39 : Bool) : St := ⟨(up (up (up (up (up (fun _ => .un) 20 (.d (.bool p39))) 19 (.d (.int .i64 p38))) 18 (.d (.int .i64 (a1.length : Int)))) 17 (.d (.sl a1.length ((eInt .i64).cells a1)))) 4 (.r (.msl 40 0 0 p37.length))), (up (hB fun _ => 0) 40 ⟨0, some (.own 9 1 (eStr.cells p37))⟩)⟩
noncomputable def f40_l2_j3 (a1 : List Int) (p37 : List (List UInt8)) (p38 : Int) (p39 : Bool) : Option (((List (List UInt8)) × Int) ⊕ (((List (List UInt8))))) := (bif p39 then (f40_l2_j4 a1 p37 p38) else (some (.inr p37)))
theorem f40_l2_j3_ok {d : Nat} (hd : 4 ≤ d) (a1 : List Int) {r : ((List (List UInt8)) × Int) ⊕ (((List (List UInt8))))} {Q : PX → St → Prop} (hQ : ∀ e st', finL (f40_l2_H a1) (f40_l2_X a1) r e st' → Q e st') (p37 : List (List UInt8)) (p38 : Int) (p39 : Bool) (hS : f40_l2_j3 a1 p37 p38 p39 = some r) {st : St} (he : keepSt [4, 17, 18, 19, 20] [(40, .id 40)] [] st = f40_l2_j3_J a1 p37 p38 p39) : ZR (lev codes baseL (d - 1)) Q c40_2 [] st := by
  refine zrKeep he ?_
  unfold f40_l2_j3 at hS
  refine zrSeq ?_
  refine zrSplit 20 p39 (by kernel_rfl) (fun hc => ?_) (fun hc => ?_)
  · replace hS := cond_t hc hS
    refine zrCondT (by kernel_rfl) ?_
    refine zrSkip ?_
    refine zkSeq ?_
    exact f40_l2_j4_ok hd a1 hQ p37 p38 hS (by kernel_rfl)
  · replace hS := cond_f hc hS
    refine zrCondF (by kernel_rfl) ?_
    refine zrKeep (J := f40_l2_e0_J a1 p37) (by kernel_rfl) ?_
    refine zrExit ?_
    refine zkSeqX ?_
    refine zkNil ?_
    exact endQ hS hQ (finL_x (by intro h; cases h) (by show _ = _ ∧ _ = _; exact ⟨rfl, rfl⟩))
noncomputable def f40_l2 (a1 : List Int) (x : (List (List UInt8)) × Int) : Option (((List (List UInt8)) × Int) ⊕ (((List (List UInt8))))) := (bif (decide (x.2 < (a1.length : Int))) then (f40_l2_j3 a1 x.1 x.2 true) else (f40_l2_j3 a1 x.1 x.2 false))
theorem f40_l2_ok {d : Nat} (hd : 4 ≤ d) (a1 : List Int) {r : ((List (List UInt8)) × Int) ⊕ (((List (List UInt8))))} {Q : PX → St → Prop} (hQ : ∀ e st', finL (f40_l2_H a1) (f40_l2_X a1) r e st' → Q e st') {x : (List (List UInt8)) × Int} (hS : f40_l2 a1 x = some r) {st : St} (he : f40_l2_H a1 x st) : ZR (lev codes baseL (d - 1)) Q c40_3 [] st := by
  refine zrKeep he ?_
  unfold f40_l2 at hS
  refine zrSeq ?_
  refine zrReg ?_
  refine zlBool (d := 20) (op := (.cmpI .lss (.tmp 19) (.tmp 18))) (g := none) (j := 1) (decide (x.2 < (a1.length : Int))) rfl (by kernel_rfl) (by kernel_rfl) (by kernel_rfl) (fun hc => ?_) (fun hc => ?_)
  · replace hS := cond_t hc hS
    refine zlEnd (by kernel_rfl) ?_
    refine zkSeq ?_
    exact f40_l2_j3_ok hd a1 hQ x.1 x.2 true hS (by kernel_rfl)
  · replace hS := cond_f hc hS
    refine zlEnd (by kernel_rfl) ?_
    refine zkSeq ?_
    exact f40_l2_j3_ok hd a1 hQ x.1 x.2 false hS (by kernel_rfl)
def f40_j1_J (a1 : List Int) : St := ⟨(up (fun _ => .un) 0 (.d (.sl a1.length ((eInt .i64).cells a1)))), (hB fun _ => 0)⟩
noncomputable def f40_j1 (a1 : List Int) : Option ((List UInt8) × Int) := ((loopO (f40_l2 a1) ([], 0)).bind fun z20 => ((libJoin z20 [59]).bind fun z21 => (some (z21, 0))))
theorem f40_j1_ok {d : Nat} (hd : 4 ≤ d) (a1 : List Int) {r : (List UInt8) × Int} {Q : PX → St → Prop} (hQ : ∀ e st', f40_Q r e st' → Q e st')  (hS : f40_j1 a1 = some r) {st : St} (he : keepSt [0] [] [] st = f40_j1_J a1) : ZR (lev codes baseL (d - 1)) Q c40_4 [] st := by
  refine zrKeep he ?_
  unfold f40_j1 at hS
  refine zrSeq ?_
  refine zrReg ?_
  refine zlRun (n := 1) (j := 1) rfl (by kernel_rfl) ?_
  refine zlEnd (by kernel_rfl) ?_
  refine zkSeq ?_
  refine zrSeq ?_
  refine zrSeq ?_
  refine zrReg ?_
  refine zlRun (n := 3) (j := 3) rfl (by kernel_rfl) ?_
  refine zlEnd (by kernel_rfl) ?_
  refine zkSeq ?_
  refine zrBlk ?_
  refine bindE hS (fun z20 hz20 hS => ?_)
  refine zrLoop (f40_l2_H a1) (f40_l2_X a1) (fun x st r Q h0 hS hQ => f40_l2_ok hd a1 hQ hS h0) (x := ([], 0)) (z := z20) (by show keepSt _ _ _ _ = _; kernel_rfl) hz20 ?_
  intro e st' _ hX
  obtain ⟨rfl, rfl⟩ : _ ∧ _ := hX
  refine zkBlkX ?_
  refine zkSeq ?_
  refine zrSeq ?_
  refine zrReg ?_
  refine zlRun (n := 1) (j := 1) rfl (by kernel_rfl) ?_
  refine bindE hS (fun z21 hz21 hS => ?_)
  refine zlOp (d := some 35) (op := (.call 56 [(.tmp 34), (.const (.string ⟨#[59]⟩))])) (g := none) (j := 2) rfl (by kernel_rfl) (by kernel_rfl) (ev_callB (args := [(.r (.msl 40 0 0 z20.length)), (.d (.str ([59])))]) (by kernel_rfl) (l_cons (l_own eStr (e := 9) (k := 1) (xs := z20) (by kernel_rfl) rfl rfl) (l_cons (by kernel_rfl) l_nil)) (libJoin_ok (d - 1) (dpt hd rfl) z20 [59] z21 hz21) (by kernel_rfl) (by kernel_rfl)) ?_
  refine zlRun (n := 2) (j := 4) rfl (by kernel_rfl) ?_
  refine zlEnd (by kernel_rfl) ?_
  refine zkSeq ?_
  refine zrRet ?_
  refine zkNil ?_
  exact endQ hS hQ (fRet (by kernel_rfl) ((congrArg (fun s => outR s 0 c40.res) (by kernel_rfl : finSt c40.fin _ = f40_fin z21 0)).trans (f40_out z21 0)))
def f40_j0_J (a1 : List Int) : St := ⟨(up (fun _ => .un) 0 (.d (.sl a1.length ((eInt .i64).cells a1)))), (hB fun _ => 0)⟩
noncomputable def f40_j0 (a1 : List Int) : Option ((List UInt8) × Int) := (bif (decide (32 < (a1.length : Int))) then (some ([], 2)) else (f40_j1 a1 ))
theorem f40_j0_ok {d : Nat} (hd : 4 ≤ d) (a1 : List Int) {r : (List UInt8) × Int} {Q : PX → St → Prop} (hQ : ∀ e st', f40_Q r e st' → Q e st')  (hS : f40_j0 a1 = some r) {st : St} (he : keepSt [0] [] [] st = f40_j0_J a1) : ZR (lev codes baseL (d - 1)) Q c40_5 [] st := by
  refine zrKeep he ?_
  unfold f40_j0 at hS
  refine zrSeq ?_
  refine zrSeq ?_
  refine zrReg ?_
  refine zlRun (n := 2) (j := 2) rfl (by kernel_rfl) ?_
  refine zlBool (d := 16) (op := (.cmpI .gtr (.tmp 15) (.const (.int .i64 32)))) (g := none) (j := 3) (decide (32 < (a1.length : Int))) rfl (by kernel_rfl) (by kernel_rfl) (by kernel_rfl) (fun hc => ?_) (fun hc => ?_)
  · replace hS := cond_t hc hS
    refine zlEnd (by kernel_rfl) ?_
    refine zkSeq ?_
    refine zrCondT (by kernel_rfl) ?_
    refine zrSeq ?_
    refine zrReg ?_
    refine zlRun (n := 2) (j := 2) rfl (by kernel_rfl) ?_
    refine zlEnd (by kernel_rfl) ?_
    refine zkSeq ?_
    refine zrRet ?_
    refine zkSeqR ?_
    refine zkNil ?_
    exact endQ hS hQ (fRet (by kernel_rfl) ((congrArg (fun s => outR s 0 c40.res) (by kernel_rfl : finSt c40.fin _ = f40_fin [] 2)).trans (f40_out [] 2)))
  · replace hS := cond_f hc hS
    refine zlEnd (by kernel_rfl) ?_
    refine zkSeq ?_
    refine zrCondF (by kernel_rfl) ?_
    refine zrSkip ?_
    refine zkSeq ?_
    exact f40_j1_ok hd a1 hQ  hS (by kernel_rfl)
noncomputable def f40 (a1 : List Int) : Option ((List UInt8) × Int) := (bif (decide ((a1.length : Int) = 0)) then (some ([], 1)) else ((f53 a1).bind fun z22 => (bif z22 then (some ([], 1)) else (f40_j0 a1 ))))
theorem f40_ok (d : Nat) (hd : 4 ≤ d) (a1 : List Int) (r : (List UInt8) × Int) (hS : f40 a1 = some r) : lev codes baseL d 40 [(.d (.sl a1.length ((eInt .i64).cells a1)))] [] = some ((.tup [(.d (.str r.1)), (.d (.int .i64 r.2))]), []) := by
  refine lev_go codes40 rfl rfl (Nat.le_trans (Nat.le_of_ble_eq_true rfl) hd) fun Q hQ => ?_
  unfold f40 at hS
  show ZR _ Q c40_b [] _
  replace hQ : ∀ e st', f40_Q r e st' → Q e st' := hQ
  refine zrSeq ?_
  refine zrReg ?_
  refine zlRun (n := 2) (j := 2) rfl (by kernel_rfl) ?_
  refine zlEnd (by kernel_rfl) ?_
  refine zkSeq ?_
  refine zrSeq ?_
  refine zrSeq ?_
  refine zrReg ?_
  refine zlRun (n := 2) (j := 2) rfl (by kernel_rfl) ?_
  refine zlBool (d := 9) (op := (.cmpI .eql (.tmp 8) (.const (.int .i64 0)))) (g := none) (j := 3) (decide ((a1.length : Int) = 0)) rfl (by kernel_rfl) (by kernel_rfl) (by kernel_rfl) (fun hc => ?_) (fun hc => ?_)
  · replace hS := cond_t hc hS
    refine zlRun (n := 4) (j := 7) rfl (by kernel_rfl) ?_
    refine zlEnd (by kernel_rfl) ?_
    refine zkSeq ?_
    refine zrCondT (by kernel_rfl) ?_
    refine zrSeq ?_
    refine zrReg ?_
    refine zlRun (n := 2) (j := 2) rfl (by kernel_rfl) ?_
    refine zlEnd (by kernel_rfl) ?_
    refine zkSeq ?_
    refine zrRet ?_
    refine zkSeqR ?_
    refine zkNil ?_
    exact endQ hS hQ (fRet (by kernel_rfl) ((congrArg (fun s => outR s 0 c40.res) (by kernel_rfl : finSt c40.fin _ = f40_fin [] 1)).trans (f40_out [] 1)))
  · replace hS := cond_f hc hS
    refine zlRun (n := 2) (j := 5) rfl (by kernel_rfl) ?_
    refine bindE hS (fun z22 hz22 hS => ?_)
    refine zlOp (d := some 12) (op := (.call 53 [(.tmp 11), (.func 54)])) (g := (some (10, false))) (j := 6) rfl (by kernel_rfl) (by kernel_rfl) (ev_callA (by kernel_rfl) (f53_ok (d - 1) (dpt hd rfl) a1 z22 hz22) (by kernel_rfl) (by kernel_rfl)) ?_
    refine zlRun (n := 1) (j := 7) rfl (by kernel_rfl) ?_
    refine zlEnd (by kernel_rfl) ?_
    refine zkSeq ?_
    refine zrSplit 13 z22 (by kernel_rfl) (fun hc => ?_) (fun hc => ?_)
    · replace hS := cond_t hc hS
      refine zrCondT (by kernel_rfl) ?_
      refine zrSeq ?_
      refine zrReg ?_
      refine zlRun (n := 2) (j := 2) rfl (by kernel_rfl) ?_
      refine zlEnd (by kernel_rfl) ?_
      refine zkSeq ?_
      refine zrRet ?_
      refine zkSeqR ?_
      refine zkNil ?_
      exact endQ hS hQ (fRet (by kernel_rfl) ((congrArg (fun s => outR s 0 c40.res) (by kernel_rfl : finSt c40.fin _ = f40_fin [] 1)).trans (f40_out [] 1)))
    · replace hS := cond_f hc hS
      refine zrCondF (by kernel_rfl) ?_
      refine zrSkip ?_
      refine zkSeq ?_
      exact f40_j0_ok hd a1 hQ  hS (by kernel_rfl)
/- farwriter/parse.Write -/
def f23_fin (p39 : List Int) (p40 : Int) : St := ⟨(up (up (fun _ => .un) 3 (.d (.int .i64 p40))) 2 (.r (.msl 1161 0 0 p39.length))), (up (hB fun _ => 0) 1161 ⟨0, some (.own 3 1 ((eInt .i64).cells p39))⟩)⟩
theorem f23_out (p39 : List Int) (p40 : Int) : outR (f23_fin p39 p40) 0 c23.res = some ((.tup [(.r (.own 0 3 1 p39.length ((eInt .i64).cells p39))), (.d (.int .i64 p40))]), []) := by
  exact out_of (ids := []) (ids' := [1161]) (l := [(.r (.msl 1161 0 0 p39.length)), (.d (.int .i64 p40))]) (by kernel_rfl) (by kernel_rfl) (o_tup (o_cons (o_own (eInt .i64) (e := 3) (k := 1) (xs := p39) (by kernel_rfl) rfl rfl rfl rfl) (o_cons rfl o_nil)))
def f23_Q (r : (List Int) × Int) (e : PX) (st : St) : Prop := DoneF c23 0 ((.tup [(.r (.own 0 3 1 r.1.length ((eInt .i64).cells r.1))), (.d (.int .i64 r.2))]), []) e st
def f23_j1_J (a1 : GAct) : St := ⟨(up (up (fun _ => .un) 4 (.d (.int .i64 a1.Code))) 1 (.r (.ptr 16 0 0))), (up (hB fun _ => 0) 16 ⟨0, some (.box (bx_GAct a1 (.d (.sl a1.Args.length ((eInt .i64).cells a1.Args)))))⟩)⟩
noncomputable def f23_j1 (a1 : GAct) : Option ((List Int) × Int) := ((f39 a1.Inter).bind fun z29 => ((app? 8 ([27] : List Int) z29).bind fun z30 => ((app? 8 z30 ([a1.Code] : List Int)).bind fun z31 => (some (z31, 0)))))
theorem f23_j1_ok {d : Nat} (hd : 5 ≤ d) (a1 : GAct) {r : (List Int) × Int} {Q : PX → St → Prop} (hQ : ∀ e st', f23_Q r e st' → Q e st')  (hS : f23_j1 a1 = some r) {st : St} (he : keepSt [1, 4] [(16, .id 16)] [] st = f23_j1_J a1) : ZR (lev codes baseL (d - 1)) Q c23_1 [.blk 0, .seq c23_2] st := by
  refine zrKeep he ?_
  unfold f23_j1 at hS
  refine zrSeq ?_
  refine zrReg ?_
  refine zlRun (n := 3) (j := 3) rfl (by kernel_rfl) ?_
  refine bindE hS (fun z29 hz29 hS => ?_)
  refine zlOp (d := some 71) (op := (.call 39 [(.tmp 70)])) (g := none) (j := 4) rfl (by kernel_rfl) (by kernel_rfl) (ev_callA (by kernel_rfl) (f39_ok (d - 1) (dpt hd rfl) a1.Inter z29 hz29) (by kernel_rfl) (by kernel_rfl)) ?_
  refine bindE hS (fun z30 hz30 hS => ?_)
  refine zlOp (d := some 72) (op := (.app 3 1 8 (.tmp 68) (.tmp 71))) (g := none) (v := (.r (.msl 552 2 0 z30.length))) (ups := [(552, ⟨2, some (.own 3 1 ((eInt .i64).cells z30))⟩)]) (j := 5) rfl (by kernel_rfl) (by kernel_rfl) (ev_app (eInt .i64) (b := 552) (g := 1) (n := ([27] : List Int).length) (xs := [27]) (ys := z29) ((congrArg (asL _) (by kernel_rfl : ρof _ (.tmp 71) = (.r (.msl 576 1 0 z29.length)))).trans (as_whole (eInt .i64) (e := 3) (k := 1) (xs := z29) (by kernel_rfl) rfl rfl)) rfl (by kernel_rfl) rfl (by kernel_rfl) rfl hz30) ?_
  refine zlRun (n := 2) (j := 7) rfl (by kernel_rfl) ?_
  refine bindE hS (fun z31 hz31 hS => ?_)
  refine zlOp (d := some 75) (op := (.app 3 1 8 (.tmp 72) (.tmp 74))) (g := none) (v := (.r (.msl 552 3 0 z31.length))) (ups := [(552, ⟨3, some (.own 3 1 ((eInt .i64).cells z31))⟩)]) (j := 8) rfl (by kernel_rfl) (by kernel_rfl) (ev_app (eInt .i64) (b := 552) (g := 2) (n := z30.length) (xs := z30) (ys := [a1.Code]) ((congrArg (asL _) (by kernel_rfl : ρof _ (.tmp 74) = (.r (.msl 600 1 0 (([a1.Code] : List Int).length))))).trans (as_whole (eInt .i64) (e := 3) (k := 1) (xs := [a1.Code]) (by kernel_rfl) rfl rfl)) rfl (by kernel_rfl) rfl (by kernel_rfl) rfl hz31) ?_
  refine zlRun (n := 2) (j := 10) rfl (by kernel_rfl) ?_
  refine zlEnd (by kernel_rfl) ?_
  refine zkSeq ?_
  refine zrRet ?_
  refine zkBlkR ?_
  refine zkSeqR ?_
  refine zkNil ?_
  exact endQ hS hQ (fRet (by kernel_rfl) ((congrArg (fun s => outR s 0 c23.res) (by kernel_rfl : finSt c23.fin _ = f23_fin z31 0)).trans (f23_out z31 0)))
def f23_j3_J (a1 : GAct) (p47 : List UInt8) (p48 : List Int) : St := ⟨(up (up (up (up (fun _ => .un) 7 (.r (.msl 888 0 0 p48.length))) 5 (.d (.str p47))) 4 (.d (.int .i64 a1.Code))) 1 (.r (.ptr 16 0 0))), (up (up (hB fun _ => 0) 888 ⟨0, some (.own 3 1 ((eInt .i64).cells p48))⟩) 16 ⟨0, some (.box (bx_GAct a1 (.d (.sl a1.Args.length ((eInt .i64).cells a1.Args)))))⟩)⟩
noncomputable def f23_j3 (a1 : GAct) (p47 : List UInt8) (p48 : List Int) : Option ((List Int) × Int) := ((cat? p47 a1.Inter).bind fun z42 => ((f39 z42).bind fun z43 => ((app? 8 p48 z43).bind fun z44 => ((app? 8 z44 ([a1.Code] : List Int)).bind fun z45 => (some (z45, 0))))))
theorem f23_j3_ok {d : Nat} (hd : 5 ≤ d) (a1 : GAct) {r : (List Int) × Int} {Q : PX → St → Prop} (hQ : ∀ e st', f23_Q r e st' → Q e st') (p47 : List UInt8) (p48 : List Int) (hS : f23_j3 a1 p47 p48 = some r) {st : St} (he : keepSt [1, 4, 5, 7] [(16, .id 16), (888, .id 888)] [] st = f23_j3_J a1 p47 p48) : ZR (lev codes baseL (d - 1)) Q c23_3 [.blk 0, .seq c23_2] st := by
  refine zrKeep he ?_
  unfold f23_j3 at hS
  refine zrSeq ?_
  refine zrReg ?_
  refine zlRun (n := 4) (j := 4) rfl (by kernel_rfl) ?_
  refine bindE hS (fun z42 hz42 hS => ?_)
  refine zlOp (d := some 123) (op := (.strO .add (.tmp 120) (.tmp 122))) (g := none) (v := (.d (.str z42))) (ups := []) (j := 5) rfl (by kernel_rfl) (by kernel_rfl) (ev_cat (a := p47) (c := a1.Inter) (by kernel_rfl) (by kernel_rfl) hz42) ?_
  refine bindE hS (fun z43 hz43 hS => ?_)
  refine zlOp (d := some 124) (op := (.call 39 [(.tmp 123)])) (g := none) (j := 6) rfl (by kernel_rfl) (by kernel_rfl) (ev_callA (by kernel_rfl) (f39_ok (d - 1) (dpt hd rfl) z42 z43 hz43) (by kernel_rfl) (by kernel_rfl)) ?_
  refine bindE hS (fun z44 hz44 hS => ?_)
  refine zlOp (d := some 125) (op := (.app 3 1 8 (.tmp 119) (.tmp 124))) (g := none) (v := (.r (.msl 888 1 0 z44.length))) (ups := [(888, ⟨1, some (.own 3 1 ((eInt .i64).cells z44))⟩)]) (j := 7) rfl (by kernel_rfl) (by kernel_rfl) (ev_app (eInt .i64) (b := 888) (g := 0) (n := p48.length) (xs := p48) (ys := z43) ((congrArg (asL _) (by kernel_rfl : ρof _ (.tmp 124) = (.r (.msl 1000 1 0 z43.length)))).trans (as_whole (eInt .i64) (e := 3) (k := 1) (xs := z43) (by kernel_rfl) rfl rfl)) rfl (by kernel_rfl) rfl (by kernel_rfl) rfl hz44) ?_
  refine zlRun (n := 2) (j := 9) rfl (by kernel_rfl) ?_
  refine bindE hS (fun z45 hz45 hS => ?_)
  refine zlOp (d := some 128) (op := (.app 3 1 8 (.tmp 125) (.tmp 127))) (g := none) (v := (.r (.msl 888 2 0 z45.length))) (ups := [(888, ⟨2, some (.own 3 1 ((eInt .i64).cells z45))⟩)]) (j := 10) rfl (by kernel_rfl) (by kernel_rfl) (ev_app (eInt .i64) (b := 888) (g := 1) (n := z44.length) (xs := z44) (ys := [a1.Code]) ((congrArg (asL _) (by kernel_rfl : ρof _ (.tmp 127) = (.r (.msl 1024 1 0 (([a1.Code] : List Int).length))))).trans (as_whole (eInt .i64) (e := 3) (k := 1) (xs := [a1.Code]) (by kernel_rfl) rfl rfl)) rfl (by kernel_rfl) rfl (by kernel_rfl) rfl hz45) ?_
  refine zlRun (n := 2) (j := 12) rfl (by kernel_rfl) ?_
  refine zlEnd (by kernel_rfl) ?_
  refine zkSeq ?_
  refine zrRet ?_
  refine zkBlkR ?_
  refine zkSeqR ?_
  refine zkNil ?_
  exact endQ hS hQ (fRet (by kernel_rfl) ((congrArg (fun s => outR s 0 c23.res) (by kernel_rfl : finSt c23.fin _ = f23_fin z45 0)).trans (f23_out z45 0)))
def f23_j2_J (a1 : GAct) (p42 : List UInt8) : St := ⟨(up (up (up (fun _ => .un) 5 (.d (.str p42))) 4 (.d (.int .i64 a1.Code))) 1 (.r (.ptr 16 0 0))), (up (hB fun _ => 0) 16 ⟨0, some (.box (bx_GAct a1 (.d (.sl a1.Args.length ((eInt .i64).cells a1.Args)))))⟩)⟩
noncomputable def f23_j2 (a1 : GAct) (p42 : List UInt8) : Option ((List Int) × Int) := (bif (!decide (a1.Mark = 0)) then ((app? 8 ([27, 91] : List Int) ([a1.Mark] : List Int)).bind fun z46 => (f23_j3 a1 p42 z46)) else (f23_j3 a1 p42 [27, 91]))
theorem f23_j2_ok {d : Nat} (hd : 5 ≤ d) (a1 : GAct) {r : (List Int) × Int} {Q : PX → St → Prop} (hQ : ∀ e st', f23_Q r e st' → Q e st') (p42 : List UInt8) (hS : f23_j2 a1 p42 = some r) {st : St} (he : keepSt [1, 4, 5] [(16, .id 16)] [] st = f23_j2_J a1 p42) : ZR (lev codes baseL (d - 1)) Q c23_4 [.blk 0, .seq c23_2] st := by
  refine zrKeep he ?_
  unfold f23_j2 at hS
  refine zrSeq ?_
  refine zrReg ?_
  refine zlRun (n := 2) (j := 2) rfl (by kernel_rfl) ?_
  refine zlEnd (by kernel_rfl) ?_
  refine zkSeq ?_
  refine zrSeq ?_
  refine zrSeq ?_
  refine zrReg ?_
  refine zlRun (n := 2) (j := 2) rfl (by kernel_rfl) ?_
  refine zlBool (d := 113) (op := (.cmpI .neq (.tmp 112) (.const (.int .i64 0)))) (g := none) (j := 3) (!decide (a1.Mark = 0)) rfl (by kernel_rfl) (by kernel_rfl) (by kernel_rfl) (fun hc => ?_) (fun hc => ?_)
  · replace hS := cond_t hc hS
    refine zlEnd (by kernel_rfl) ?_
    refine zkSeq ?_
    refine zrCondT (by kernel_rfl) ?_
    refine zrReg ?_
    refine zlRun (n := 4) (j := 4) rfl (by kernel_rfl) ?_
    refine bindE hS (fun z46 hz46 hS => ?_)
    refine zlOp (d := some 118) (op := (.app 3 1 8 (.tmp 114) (.tmp 117))) (g := none) (v := (.r (.msl 888 2 0 z46.length))) (ups := [(888, ⟨2, some (.own 3 1 ((eInt .i64).cells z46))⟩)]) (j := 5) rfl (by kernel_rfl) (by kernel_rfl) (ev_app (eInt .i64) (b := 888) (g := 1) (n := ([27, 91] : List Int).length) (xs := [27, 91]) (ys := [a1.Mark]) ((congrArg (asL _) (by kernel_rfl : ρof _ (.tmp 117) = (.r (.msl 944 1 0 (([a1.Mark] : List Int).length))))).trans (as_whole (eInt .i64) (e := 3) (k := 1) (xs := [a1.Mark]) (by kernel_rfl) rfl rfl)) rfl (by kernel_rfl) rfl (by kernel_rfl) rfl hz46) ?_
    refine zlRun (n := 1) (j := 6) rfl (by kernel_rfl) ?_
    refine zlEnd (by kernel_rfl) ?_
    refine zkSeq ?_
    exact f23_j3_ok hd a1 hQ p42 z46 hS (by kernel_rfl)
  · replace hS := cond_f hc hS
    refine zlEnd (by kernel_rfl) ?_
    refine zkSeq ?_
    refine zrCondF (by kernel_rfl) ?_
    refine zrSkip ?_
    refine zkSeq ?_
    exact f23_j3_ok hd a1 hQ p42 [27, 91] hS (by kernel_rfl)
def f23_j0_J (a1 : GAct) : St := ⟨(up (fun _ => .un) 1 (.r (.ptr 16 0 0))), (up (hB fun _ => 0) 16 ⟨0, some (.box (bx_GAct a1 (.d (.sl a1.Args.length ((eInt .i64).cells a1.Args)))))⟩)⟩
noncomputable def f23_j0 (a1 : GAct) : Option ((List Int) × Int) := (bif (decide (a1.Kind = 1)) then (bif (decide (32 ≤ a1.Code)) then ((f35 a1.Code).bind fun z23 => (bif z23 then ((f36 a1.Code 127 159).bind fun z24 => (bif (!z24) then (some ([a1.Code], 0)) else (some ([], 1)))) else (some ([], 1)))) else (some ([], 1))) else (bif (decide (a1.Kind = 2)) then ((f36 a1.Code 0 31).bind fun z25 => (bif z25 then (bif (!decide (a1.Code = 24)) then (bif (!decide (a1.Code = 26)) then (bif (!decide (a1.Code = 27)) then (some ([a1.Code], 0)) else (some ([], 1))) else (some ([], 1))) else (some ([], 1))) else (some ([], 1)))) else (bif (decide (a1.Kind = 3)) then ((f37 a1.Inter 2).bind fun z32 => (bif z32 then ((f36 a1.Code 48 126).bind fun z33 => (bif z33 then (bif (!decide (a1.Inter = ([] : List UInt8))) then (f23_j1 a1 ) else ((libIndexByte [91, 93, 80, 88, 94, 95] (u8 a1.Code)).bind fun z34 => (bif (decide (z34 < 0)) then (f23_j1 a1 ) else (some ([], 1))))) else (some ([], 1)))) else (some ([], 1)))) else (bif (decide (a1.Kind = 4)) then ((f40 a1.Args).bind fun z35 => (bif (decide (a1.Mark = 0)) then ((f37 a1.Inter 2).bind fun z47 => (bif z47 then ((f36 a1.Code 64 126).bind fun z48 => (bif z48 then (bif (decide (z35.2 = 0)) then (bif (decide ((z35.1.length : Int) ≤ 100)) then (f23_j2 a1 z35.1) else (some ([], 1))) else (some ([], 1))) else (some ([], 1)))) else (some ([], 1)))) else ((f36 a1.Mark 60 63).bind fun z49 => (bif z49 then ((f37 a1.Inter 2).bind fun z50 => (bif z50 then ((f36 a1.Code 64 126).bind fun z51 => (bif z51 then (bif (decide (z35.2 = 0)) then (bif (decide ((z35.1.length : Int) ≤ 100)) then (f23_j2 a1 z35.1) else (some ([], 1))) else (some ([], 1))) else (some ([], 1)))) else (some ([], 1)))) else (some ([], 1)))))) else (bif (decide (a1.Kind = 5)) then none else (some ([], 1)))))))
theorem f23_j0_ok {d : Nat} (hd : 5 ≤ d) (a1 : GAct) {r : (List Int) × Int} {Q : PX → St → Prop} (hQ : ∀ e st', f23_Q r e st' → Q e st')  (hS : f23_j0 a1 = some r) {st : St} (he : keepSt [1] [(16, .id 16)] [] st = f23_j0_J a1) : ZR (lev codes baseL (d - 1)) Q c23_5 [] st := by
  refine zrKeep he ?_
  unfold f23_j0 at hS
  refine zrSeq ?_
  refine zrReg ?_
  refine zlRun (n := 3) (j := 3) rfl (by kernel_rfl) ?_
  refine zlEnd (by kernel_rfl) ?_
  refine zkSeq ?_
  refine zrSeq ?_
  refine zrSeq ?_
  refine zrReg ?_
  refine zlRun (n := 2) (j := 2) rfl (by kernel_rfl) ?_
  refine zlEnd (by kernel_rfl) ?_
  refine zkSeq ?_
  refine zrBlk ?_
  refine zrSeq ?_
  refine zrReg ?_
  refine zlBool (d := 16) (op := (.cmpI .eql (.tmp 14) (.const (.int .i64 1)))) (g := none) (j := 1) (decide (a1.Kind = 1)) rfl (by kernel_rfl) (by kernel_rfl) (by kernel_rfl) (fun hc => ?_) (fun hc => ?_)
  · replace hS := cond_t hc hS
    refine zlRun (n := 1) (j := 2) rfl (by kernel_rfl) ?_
    refine zlEnd (by kernel_rfl) ?_
    refine zkSeq ?_
    refine zrCondT (by kernel_rfl) ?_
    refine zrSeq ?_
    refine zrReg ?_
    refine zlRun (n := 1) (j := 1) rfl (by kernel_rfl) ?_
    refine zlBool (d := 18) (op := (.cmpI .geq (.tmp 17) (.const (.int .i64 32)))) (g := none) (j := 2) (decide (32 ≤ a1.Code)) rfl (by kernel_rfl) (by kernel_rfl) (by kernel_rfl) (fun hc => ?_) (fun hc => ?_)
    · replace hS := cond_t hc hS
      refine zlRun (n := 2) (j := 4) rfl (by kernel_rfl) ?_
      refine bindE hS (fun z23 hz23 hS => ?_)
      refine zlOp (d := some 21) (op := (.call 35 [(.tmp 20)])) (g := (some (19, true))) (j := 5) rfl (by kernel_rfl) (by kernel_rfl) (ev_callA (by kernel_rfl) (f35_ok (d - 1) (dpt hd rfl) a1.Code z23 hz23) (by kernel_rfl) (by kernel_rfl)) ?_
      refine zlRun (n := 2) (j := 7) rfl (by kernel_rfl) ?_
      refine zlSplit 23 z23 (by kernel_rfl) (fun hc => ?_) (fun hc => ?_)
      · replace hS := cond_t hc hS
        refine zlRun (n := 1) (j := 8) rfl (by kernel_rfl) ?_
        refine bindE hS (fun z24 hz24 hS => ?_)
        refine zlOp (d := some 25) (op := (.call 36 [(.tmp 24), (.const (.int .i64 127)), (.const (.int .i64 159))])) (g := (some (23, true))) (j := 9) rfl (by kernel_rfl) (by kernel_rfl) (ev_callA (by kernel_rfl) (f36_ok (d - 1) (dpt hd rfl) a1.Code 127 159 z24 hz24) (by kernel_rfl) (by kernel_rfl)) ?_
        refine zlRun (n := 2) (j := 11) rfl (by kernel_rfl) ?_
        refine zlEnd (by kernel_rfl) ?_
        refine zkSeq ?_
        refine zrSplit 27 (!z24) (by kernel_rfl) (fun hc => ?_) (fun hc => ?_)
        · replace hS := cond_t hc hS
          refine zrCondT (by kernel_rfl) ?_
          refine zrSeq ?_
          refine zrReg ?_
          refine zlRun (n := 4) (j := 4) rfl (by kernel_rfl) ?_
          refine zlEnd (by kernel_rfl) ?_
          refine zkSeq ?_
          refine zrRet ?_
          refine zkBlkR ?_
          refine zkSeqR ?_
          refine zkNil ?_
          exact endQ hS hQ (fRet (by kernel_rfl) ((congrArg (fun s => outR s 0 c23.res) (by kernel_rfl : finSt c23.fin _ = f23_fin [a1.Code] 0)).trans (f23_out [a1.Code] 0)))
        · replace hS := cond_f hc hS
          refine zrCondF (by kernel_rfl) ?_
          refine zrSkip ?_
          refine zkBlk ?_
          refine zkSeq ?_
          refine zrSeq ?_
          refine zrReg ?_
          refine zlRun (n := 2) (j := 2) rfl (by kernel_rfl) ?_
          refine zlEnd (by kernel_rfl) ?_
          refine zkSeq ?_
          refine zrRet ?_
          refine zkNil ?_
          exact endQ hS hQ (fRet (by kernel_rfl) ((congrArg (fun s => outR s 0 c23.res) (by kernel_rfl : finSt c23.fin _ = f23_fin [] 1)).trans (f23_out [] 1)))
      · replace hS := cond_f hc hS
        refine zlRun (n := 4) (j := 11) rfl (by kernel_rfl) ?_
        refine zlEnd (by kernel_rfl) ?_
        refine zkSeq ?_
        refine zrCondF (by kernel_rfl) ?_
        refine zrSkip ?_
        refine zkBlk ?_
        refine zkSeq ?_
        refine zrSeq ?_
        refine zrReg ?_
        refine zlRun (n := 2) (j := 2) rfl (by kernel_rfl) ?_
        refine zlEnd (by kernel_rfl) ?_
        refine zkSeq ?_
        refine zrRet ?_
        refine zkNil ?_
        exact endQ hS hQ (fRet (by kernel_rfl) ((congrArg (fun s => outR s 0 c23.res) (by kernel_rfl : finSt c23.fin _ = f23_fin [] 1)).trans (f23_out [] 1)))
    · replace hS := cond_f hc hS
      refine zlRun (n := 9) (j := 11) rfl (by kernel_rfl) ?_
      refine zlEnd (by kernel_rfl) ?_
      refine zkSeq ?_
      refine zrCondF (by kernel_rfl) ?_
      refine zrSkip ?_
      refine zkBlk ?_
      refine zkSeq ?_
      refine zrSeq ?_
      refine zrReg ?_
      refine zlRun (n := 2) (j := 2) rfl (by kernel_rfl) ?_
      refine zlEnd (by kernel_rfl) ?_
      refine zkSeq ?_
      refine zrRet ?_
      refine zkNil ?_
      exact endQ hS hQ (fRet (by kernel_rfl) ((congrArg (fun s => outR s 0 c23.res) (by kernel_rfl : finSt c23.fin _ = f23_fin [] 1)).trans (f23_out [] 1)))
  · replace hS := cond_f hc hS
    refine zlRun (n := 1) (j := 2) rfl (by kernel_rfl) ?_
    refine zlEnd (by kernel_rfl) ?_
    refine zkSeq ?_
    refine zrCondF (by kernel_rfl) ?_
    refine zrSeq ?_
    refine zrReg ?_
    refine zlBool (d := 31) (op := (.cmpI .eql (.tmp 14) (.const (.int .i64 2)))) (g := none) (j := 1) (decide (a1.Kind = 2)) rfl (by kernel_rfl) (by kernel_rfl) (by kernel_rfl) (fun hc => ?_) (fun hc => ?_)
    · replace hS := cond_t hc hS
      refine zlRun (n := 1) (j := 2) rfl (by kernel_rfl) ?_
      refine zlEnd (by kernel_rfl) ?_
      refine zkSeq ?_
      refine zrCondT (by kernel_rfl) ?_
      refine zrSeq ?_
      refine zrReg ?_
      refine zlRun (n := 1) (j := 1) rfl (by kernel_rfl) ?_
      refine bindE hS (fun z25 hz25 hS => ?_)
      refine zlOp (d := some 33) (op := (.call 36 [(.tmp 32), (.const (.int .i64 0)), (.const (.int .i64 31))])) (g := none) (j := 2) rfl (by kernel_rfl) (by kernel_rfl) (ev_callA (by kernel_rfl) (f36_ok (d - 1) (dpt hd rfl) a1.Code 0 31 z25 hz25) (by kernel_rfl) (by kernel_rfl)) ?_
      refine zlRun (n := 1) (j := 3) rfl (by kernel_rfl) ?_
      refine zlSplit 34 z25 (by kernel_rfl) (fun hc => ?_) (fun hc => ?_)
      · replace hS := cond_t hc hS
        refine zlRun (n := 1) (j := 4) rfl (by kernel_rfl) ?_
        refine zlBool (d := 36) (op := (.cmpI .neq (.tmp 35) (.const (.int .i64 24)))) (g := (some (34, true))) (j := 5) (!decide (a1.Code = 24)) rfl (by kernel_rfl) (by kernel_rfl) (by kernel_rfl) (fun hc => ?_) (fun hc => ?_)
        · replace hS := cond_t hc hS
          refine zlRun (n := 3) (j := 8) rfl (by kernel_rfl) ?_
          refine zlBool (d := 40) (op := (.cmpI .neq (.tmp 39) (.const (.int .i64 26)))) (g := (some (38, true))) (j := 9) (!decide (a1.Code = 26)) rfl (by kernel_rfl) (by kernel_rfl) (by kernel_rfl) (fun hc => ?_) (fun hc => ?_)
          · replace hS := cond_t hc hS
            refine zlRun (n := 3) (j := 12) rfl (by kernel_rfl) ?_
            refine zlBool (d := 44) (op := (.cmpI .neq (.tmp 43) (.const (.int .i64 27)))) (g := (some (42, true))) (j := 13) (!decide (a1.Code = 27)) rfl (by kernel_rfl) (by kernel_rfl) (by kernel_rfl) (fun hc => ?_) (fun hc => ?_)
            · replace hS := cond_t hc hS
              refine zlRun (n := 1) (j := 14) rfl (by kernel_rfl) ?_
              refine zlEnd (by kernel_rfl) ?_
              refine zkSeq ?_
              refine zrCondT (by kernel_rfl) ?_
              refine zrSeq ?_
              refine zrReg ?_
              refine zlRun (n := 4) (j := 4) rfl (by kernel_rfl) ?_
              refine zlEnd (by kernel_rfl) ?_
              refine zkSeq ?_
              refine zrRet ?_
              refine zkBlkR ?_
              refine zkSeqR ?_
              refine zkNil ?_
              exact endQ hS hQ (fRet (by kernel_rfl) ((congrArg (fun s => outR s 0 c23.res) (by kernel_rfl : finSt c23.fin _ = f23_fin [a1.Code] 0)).trans (f23_out [a1.Code] 0)))
            · replace hS := cond_f hc hS
              refine zlRun (n := 1) (j := 14) rfl (by kernel_rfl) ?_
              refine zlEnd (by kernel_rfl) ?_
              refine zkSeq ?_
              refine zrCondF (by kernel_rfl) ?_
              refine zrSkip ?_
              refine zkBlk ?_
              refine zkSeq ?_
              refine zrSeq ?_
              refine zrReg ?_
              refine zlRun (n := 2) (j := 2) rfl (by kernel_rfl) ?_
              refine zlEnd (by kernel_rfl) ?_
              refine zkSeq ?_
              refine zrRet ?_
              refine zkNil ?_
              exact endQ hS hQ (fRet (by kernel_rfl) ((congrArg (fun s => outR s 0 c23.res) (by kernel_rfl : finSt c23.fin _ = f23_fin [] 1)).trans (f23_out [] 1)))
          · replace hS := cond_f hc hS
            refine zlRun (n := 5) (j := 14) rfl (by kernel_rfl) ?_
            refine zlEnd (by kernel_rfl) ?_
            refine zkSeq ?_
            refine zrCondF (by kernel_rfl) ?_
            refine zrSkip ?_
            refine zkBlk ?_
            refine zkSeq ?_
            refine zrSeq ?_
            refine zrReg ?_
            refine zlRun (n := 2) (j := 2) rfl (by kernel_rfl) ?_
            refine zlEnd (by kernel_rfl) ?_
            refine zkSeq ?_
            refine zrRet ?_
            refine zkNil ?_
            exact endQ hS hQ (fRet (by kernel_rfl) ((congrArg (fun s => outR s 0 c23.res) (by kernel_rfl : finSt c23.fin _ = f23_fin [] 1)).trans (f23_out [] 1)))
        · replace hS := cond_f hc hS
          refine zlRun (n := 9) (j := 14) rfl (by kernel_rfl) ?_
          refine zlEnd (by kernel_rfl) ?_
          refine zkSeq ?_
          refine zrCondF (by kernel_rfl) ?_
          refine zrSkip ?_
          refine zkBlk ?_
          refine zkSeq ?_
          refine zrSeq ?_
          refine zrReg ?_
          refine zlRun (n := 2) (j := 2) rfl (by kernel_rfl) ?_
          refine zlEnd (by kernel_rfl) ?_
          refine zkSeq ?_
          refine zrRet ?_
          refine zkNil ?_
          exact endQ hS hQ (fRet (by kernel_rfl) ((congrArg (fun s => outR s 0 c23.res) (by kernel_rfl : finSt c23.fin _ = f23_fin [] 1)).trans (f23_out [] 1)))
      · replace hS := cond_f hc hS
        refine zlRun (n := 11) (j := 14) rfl (by kernel_rfl) ?_
        refine zlEnd (by kernel_rfl) ?_
        refine zkSeq ?_
        refine zrCondF (by kernel_rfl) ?_
        refine zrSkip ?_
        refine zkBlk ?_
        refine zkSeq ?_
        refine zrSeq ?_
        refine zrReg ?_
        refine zlRun (n := 2) (j := 2) rfl (by kernel_rfl) ?_
        refine zlEnd (by kernel_rfl) ?_
        refine zkSeq ?_
        refine zrRet ?_
        refine zkNil ?_
        exact endQ hS hQ (fRet (by kernel_rfl) ((congrArg (fun s => outR s 0 c23.res) (by kernel_rfl : finSt c23.fin _ = f23_fin [] 1)).trans (f23_out [] 1)))
    · replace hS := cond_f hc hS
      refine zlRun (n := 1) (j := 2) rfl (by kernel_rfl) ?_
      refine zlEnd (by kernel_rfl) ?_
      refine zkSeq ?_
      refine zrCondF (by kernel_rfl) ?_
      refine zrSeq ?_
      refine zrReg ?_
      refine zlBool (d := 49) (op := (.cmpI .eql (.tmp 14) (.const (.int .i64 3)))) (g := none) (j := 1) (decide (a1.Kind = 3)) rfl (by kernel_rfl) (by kernel_rfl) (by kernel_rfl) (fun hc => ?_) (fun hc => ?_)
      · replace hS := cond_t hc hS
        refine zlRun (n := 1) (j := 2) rfl (by kernel_rfl) ?_
        refine zlEnd (by kernel_rfl) ?_
        refine zkSeq ?_
        refine zrCondT (by kernel_rfl) ?_
        refine zrSeq ?_
        refine zrReg ?_
        refine zlRun (n := 2) (j := 2) rfl (by kernel_rfl) ?_
        refine bindE hS (fun z32 hz32 hS => ?_)
        refine zlOp (d := some 52) (op := (.call 37 [(.tmp 51), (.const (.int .i64 2))])) (g := none) (j := 3) rfl (by kernel_rfl) (by kernel_rfl) (ev_callA (by kernel_rfl) (f37_ok (d - 1) (dpt hd rfl) a1.Inter 2 z32 hz32) (by kernel_rfl) (by kernel_rfl)) ?_
        refine zlRun (n := 1) (j := 4) rfl (by kernel_rfl) ?_
        refine zlSplit 53 z32 (by kernel_rfl) (fun hc => ?_) (fun hc => ?_)
        · replace hS := cond_t hc hS
          refine zlRun (n := 1) (j := 5) rfl (by kernel_rfl) ?_
          refine bindE hS (fun z33 hz33 hS => ?_)
          refine zlOp (d := some 55) (op := (.call 36 [(.tmp 54), (.const (.int .i64 48)), (.const (.int .i64 126))])) (g := (some (53, true))) (j := 6) rfl (by kernel_rfl) (by kernel_rfl) (ev_callA (by kernel_rfl) (f36_ok (d - 1) (dpt hd rfl) a1.Code 48 126 z33 hz33) (by kernel_rfl) (by kernel_rfl)) ?_
          refine zlRun (n := 2) (j := 8) rfl (by kernel_rfl) ?_
          refine zlSplit 57 z33 (by kernel_rfl) (fun hc => ?_) (fun hc => ?_)
          · replace hS := cond_t hc hS
            refine zlRun (n := 2) (j := 10) rfl (by kernel_rfl) ?_
            refine zlBool (d := 60) (op := (.strO .neq (.tmp 59) (.const (.string ⟨#[]⟩)))) (g := (some (57, true))) (j := 11) (!decide (a1.Inter = ([] : List UInt8))) rfl (by kernel_rfl) (by kernel_rfl) (by kernel_rfl) (fun hc => ?_) (fun hc => ?_)
            · replace hS := cond_t hc hS
              refine zlRun (n := 7) (j := 18) rfl (by kernel_rfl) ?_
              refine zlEnd (by kernel_rfl) ?_
              refine zkSeq ?_
              refine zrCondT (by kernel_rfl) ?_
              exact f23_j1_ok hd a1 hQ  hS (by kernel_rfl)
            · replace hS := cond_f hc hS
              refine zlRun (n := 2) (j := 13) rfl (by kernel_rfl) ?_
              refine zlOp (d := some 63) (op := (.cvI .u8 (.tmp 62))) (g := (some (61, false))) (v := (.d (.int .u8 ((u8 a1.Code).toNat : Int)))) (ups := []) (j := 14) rfl (by kernel_rfl) (by kernel_rfl) (ev_cv (kk := .i64) (a := a1.Code) (by kernel_rfl) (u8_wrap _)) ?_
              refine bindE hS (fun z34 hz34 hS => ?_)
              refine zlOp (d := some 64) (op := (.call 38 [(.const (.string ⟨#[91, 93, 80, 88, 94, 95]⟩)), (.tmp 63)])) (g := (some (61, false))) (j := 15) rfl (by kernel_rfl) (by kernel_rfl) (ev_callA (by kernel_rfl) (libIndexByte_ok (d - 1) (dpt hd rfl) [91, 93, 80, 88, 94, 95] (u8 a1.Code) z34 hz34) (by kernel_rfl) (by kernel_rfl)) ?_
              refine zlBool (d := 65) (op := (.cmpI .lss (.tmp 64) (.const (.int .i64 0)))) (g := (some (61, false))) (j := 16) (decide (z34 < 0)) rfl (by kernel_rfl) (by kernel_rfl) (by kernel_rfl) (fun hc => ?_) (fun hc => ?_)
              · replace hS := cond_t hc hS
                refine zlRun (n := 2) (j := 18) rfl (by kernel_rfl) ?_
                refine zlEnd (by kernel_rfl) ?_
                refine zkSeq ?_
                refine zrCondT (by kernel_rfl) ?_
                exact f23_j1_ok hd a1 hQ  hS (by kernel_rfl)
              · replace hS := cond_f hc hS
                refine zlRun (n := 2) (j := 18) rfl (by kernel_rfl) ?_
                refine zlEnd (by kernel_rfl) ?_
                refine zkSeq ?_
                refine zrCondF (by kernel_rfl) ?_
                refine zrSkip ?_
                refine zkBlk ?_
                refine zkSeq ?_
                refine zrSeq ?_
                refine zrReg ?_
                refine zlRun (n := 2) (j := 2) rfl (by kernel_rfl) ?_
                refine zlEnd (by kernel_rfl) ?_
                refine zkSeq ?_
                refine zrRet ?_
                refine zkNil ?_
                exact endQ hS hQ (fRet (by kernel_rfl) ((congrArg (fun s => outR s 0 c23.res) (by kernel_rfl : finSt c23.fin _ = f23_fin [] 1)).trans (f23_out [] 1)))
          · replace hS := cond_f hc hS
            refine zlRun (n := 10) (j := 18) rfl (by kernel_rfl) ?_
            refine zlEnd (by kernel_rfl) ?_
            refine zkSeq ?_
            refine zrCondF (by kernel_rfl) ?_
            refine zrSkip ?_
            refine zkBlk ?_
            refine zkSeq ?_
            refine zrSeq ?_
            refine zrReg ?_
            refine zlRun (n := 2) (j := 2) rfl (by kernel_rfl) ?_
            refine zlEnd (by kernel_rfl) ?_
            refine zkSeq ?_
            refine zrRet ?_
            refine zkNil ?_
            exact endQ hS hQ (fRet (by kernel_rfl) ((congrArg (fun s => outR s 0 c23.res) (by kernel_rfl : finSt c23.fin _ = f23_fin [] 1)).trans (f23_out [] 1)))
        · replace hS := cond_f hc hS
          refine zlRun (n := 14) (j := 18) rfl (by kernel_rfl) ?_
          refine zlEnd (by kernel_rfl) ?_
          refine zkSeq ?_
          refine zrCondF (by kernel_rfl) ?_
          refine zrSkip ?_
          refine zkBlk ?_
          refine zkSeq ?_
          refine zrSeq ?_
          refine zrReg ?_
          refine zlRun (n := 2) (j := 2) rfl (by kernel_rfl) ?_
          refine zlEnd (by kernel_rfl) ?_
          refine zkSeq ?_
          refine zrRet ?_
          refine zkNil ?_
          exact endQ hS hQ (fRet (by kernel_rfl) ((congrArg (fun s => outR s 0 c23.res) (by kernel_rfl : finSt c23.fin _ = f23_fin [] 1)).trans (f23_out [] 1)))
      · replace hS := cond_f hc hS
        refine zlRun (n := 1) (j := 2) rfl (by kernel_rfl) ?_
        refine zlEnd (by kernel_rfl) ?_
        refine zkSeq ?_
        refine zrCondF (by kernel_rfl) ?_
        refine zrSeq ?_
        refine zrReg ?_
        refine zlBool (d := 77) (op := (.cmpI .eql (.tmp 14) (.const (.int .i64 4)))) (g := none) (j := 1) (decide (a1.Kind = 4)) rfl (by kernel_rfl) (by kernel_rfl) (by kernel_rfl) (fun hc => ?_) (fun hc => ?_)
        · replace hS := cond_t hc hS
          refine zlRun (n := 1) (j := 2) rfl (by kernel_rfl) ?_
          refine zlEnd (by kernel_rfl) ?_
          refine zkSeq ?_
          refine zrCondT (by kernel_rfl) ?_
          refine zrSeq ?_
          refine zrReg ?_
          refine zlRun (n := 2) (j := 2) rfl (by kernel_rfl) ?_
          refine bindE hS (fun z35 hz35 hS => ?_)
          refine zlOp (d := some 81) (op := (.call 40 [(.tmp 80)])) (g := none) (j := 3) rfl (by kernel_rfl) (by kernel_rfl) (ev_callA (by kernel_rfl) (f40_ok (d - 1) (dpt hd rfl) a1.Args z35 hz35) (by kernel_rfl) (by kernel_rfl)) ?_
          refine zlRun (n := 5) (j := 8) rfl (by kernel_rfl) ?_
          refine zlEnd (by kernel_rfl) ?_
          refine zkSeq ?_
          refine zrSeq ?_
          refine zrReg ?_
          refine zlRun (n := 2) (j := 2) rfl (by kernel_rfl) ?_
          refine zlBool (d := 86) (op := (.cmpI .eql (.tmp 85) (.const (.int .i64 0)))) (g := none) (j := 3) (decide (a1.Mark = 0)) rfl (by kernel_rfl) (by kernel_rfl) (by kernel_rfl) (fun hc => ?_) (fun hc => ?_)
          · replace hS := cond_t hc hS
            refine zlRun (n := 8) (j := 11) rfl (by kernel_rfl) ?_
            refine bindE hS (fun z47 hz47 hS => ?_)
            refine zlOp (d := some 95) (op := (.call 37 [(.tmp 94), (.const (.int .i64 2))])) (g := (some (92, true))) (j := 12) rfl (by kernel_rfl) (by kernel_rfl) (ev_callA (by kernel_rfl) (f37_ok (d - 1) (dpt hd rfl) a1.Inter 2 z47 hz47) (by kernel_rfl) (by kernel_rfl)) ?_
            refine zlRun (n := 2) (j := 14) rfl (by kernel_rfl) ?_
            refine zlSplit 97 z47 (by kernel_rfl) (fun hc => ?_) (fun hc => ?_)
            · replace hS := cond_t hc hS
              refine zlRun (n := 1) (j := 15) rfl (by kernel_rfl) ?_
              refine bindE hS (fun z48 hz48 hS => ?_)
              refine zlOp (d := some 99) (op := (.call 36 [(.tmp 98), (.const (.int .i64 64)), (.const (.int .i64 126))])) (g := (some (97, true))) (j := 16) rfl (by kernel_rfl) (by kernel_rfl) (ev_callA (by kernel_rfl) (f36_ok (d - 1) (dpt hd rfl) a1.Code 64 126 z48 hz48) (by kernel_rfl) (by kernel_rfl)) ?_
              refine zlRun (n := 2) (j := 18) rfl (by kernel_rfl) ?_
              refine zlSplit 101 z48 (by kernel_rfl) (fun hc => ?_) (fun hc => ?_)
              · replace hS := cond_t hc hS
                refine zlRun (n := 1) (j := 19) rfl (by kernel_rfl) ?_
                refine zlBool (d := 103) (op := (.cmpI .eql (.tmp 102) (.const (.int .i64 0)))) (g := (some (101, true))) (j := 20) (decide (z35.2 = 0)) rfl (by kernel_rfl) (by kernel_rfl) (by kernel_rfl) (fun hc => ?_) (fun hc => ?_)
                · replace hS := cond_t hc hS
                  refine zlRun (n := 4) (j := 24) rfl (by kernel_rfl) ?_
                  refine zlBool (d := 108) (op := (.cmpI .leq (.tmp 107) (.const (.int .i64 100)))) (g := (some (105, true))) (j := 25) (decide ((z35.1.length : Int) ≤ 100)) rfl (by kernel_rfl) (by kernel_rfl) (by kernel_rfl) (fun hc => ?_) (fun hc => ?_)
                  · replace hS := cond_t hc hS
                    refine zlRun (n := 1) (j := 26) rfl (by kernel_rfl) ?_
                    refine zlEnd (by kernel_rfl) ?_
                    refine zkSeq ?_
                    refine zrCondT (by kernel_rfl) ?_
                    exact f23_j2_ok hd a1 hQ z35.1 hS (by kernel_rfl)
                  · replace hS := cond_f hc hS
                    refine zlRun (n := 1) (j := 26) rfl (by kernel_rfl) ?_
                    refine zlEnd (by kernel_rfl) ?_
                    refine zkSeq ?_
                    refine zrCondF (by kernel_rfl) ?_
                    refine zrSkip ?_
                    refine zkBlk ?_
                    refine zkSeq ?_
                    refine zrSeq ?_
                    refine zrReg ?_
                    refine zlRun (n := 2) (j := 2) rfl (by kernel_rfl) ?_
                    refine zlEnd (by kernel_rfl) ?_
                    refine zkSeq ?_
                    refine zrRet ?_
                    refine zkNil ?_
                    exact endQ hS hQ (fRet (by kernel_rfl) ((congrArg (fun s => outR s 0 c23.res) (by kernel_rfl : finSt c23.fin _ = f23_fin [] 1)).trans (f23_out [] 1)))
                · replace hS := cond_f hc hS
                  refine zlRun (n := 6) (j := 26) rfl (by kernel_rfl) ?_
                  refine zlEnd (by kernel_rfl) ?_
                  refine zkSeq ?_
                  refine zrCondF (by kernel_rfl) ?_
                  refine zrSkip ?_
                  refine zkBlk ?_
                  refine zkSeq ?_
                  refine zrSeq ?_
                  refine zrReg ?_
                  refine zlRun (n := 2) (j := 2) rfl (by kernel_rfl) ?_
                  refine zlEnd (by kernel_rfl) ?_
                  refine zkSeq ?_
                  refine zrRet ?_
                  refine zkNil ?_
                  exact endQ hS hQ (fRet (by kernel_rfl) ((congrArg (fun s => outR s 0 c23.res) (by kernel_rfl : finSt c23.fin _ = f23_fin [] 1)).trans (f23_out [] 1)))
              · replace hS := cond_f hc hS
                refine zlRun (n := 8) (j := 26) rfl (by kernel_rfl) ?_
                refine zlEnd (by kernel_rfl) ?_
                refine zkSeq ?_
                refine zrCondF (by kernel_rfl) ?_
                refine zrSkip ?_
                refine zkBlk ?_
                refine zkSeq ?_
                refine zrSeq ?_
                refine zrReg ?_
                refine zlRun (n := 2) (j := 2) rfl (by kernel_rfl) ?_
                refine zlEnd (by kernel_rfl) ?_
                refine zkSeq ?_
                refine zrRet ?_
                refine zkNil ?_
                exact endQ hS hQ (fRet (by kernel_rfl) ((congrArg (fun s => outR s 0 c23.res) (by kernel_rfl : finSt c23.fin _ = f23_fin [] 1)).trans (f23_out [] 1)))
            · replace hS := cond_f hc hS
              refine zlRun (n := 12) (j := 26) rfl (by kernel_rfl) ?_
              refine zlEnd (by kernel_rfl) ?_
              refine zkSeq ?_
              refine zrCondF (by kernel_rfl) ?_
              refine zrSkip ?_
              refine zkBlk ?_
              refine zkSeq ?_
              refine zrSeq ?_
              refine zrReg ?_
              refine zlRun (n := 2) (j := 2) rfl (by kernel_rfl) ?_
              refine zlEnd (by kernel_rfl) ?_
              refine zkSeq ?_
              refine zrRet ?_
              refine zkNil ?_
              exact endQ hS hQ (fRet (by kernel_rfl) ((congrArg (fun s => outR s 0 c23.res) (by kernel_rfl : finSt c23.fin _ = f23_fin [] 1)).trans (f23_out [] 1)))
          · replace hS := cond_f hc hS
            refine zlRun (n := 3) (j := 6) rfl (by kernel_rfl) ?_
            refine bindE hS (fun z49 hz49 hS => ?_)
            refine zlOp (d := some 90) (op := (.call 36 [(.tmp 89), (.const (.int .i64 60)), (.const (.int .i64 63))])) (g := (some (87, false))) (j := 7) rfl (by kernel_rfl) (by kernel_rfl) (ev_callA (by kernel_rfl) (f36_ok (d - 1) (dpt hd rfl) a1.Mark 60 63 z49 hz49) (by kernel_rfl) (by kernel_rfl)) ?_
            refine zlRun (n := 2) (j := 9) rfl (by kernel_rfl) ?_
            refine zlSplit 92 z49 (by kernel_rfl) (fun hc => ?_) (fun hc => ?_)
            · replace hS := cond_t hc hS
              refine zlRun (n := 2) (j := 11) rfl (by kernel_rfl) ?_
              refine bindE hS (fun z50 hz50 hS => ?_)
              refine zlOp (d := some 95) (op := (.call 37 [(.tmp 94), (.const (.int .i64 2))])) (g := (some (92, true))) (j := 12) rfl (by kernel_rfl) (by kernel_rfl) (ev_callA (by kernel_rfl) (f37_ok (d - 1) (dpt hd rfl) a1.Inter 2 z50 hz50) (by kernel_rfl) (by kernel_rfl)) ?_
              refine zlRun (n := 2) (j := 14) rfl (by kernel_rfl) ?_
              refine zlSplit 97 z50 (by kernel_rfl) (fun hc => ?_) (fun hc => ?_)
              · replace hS := cond_t hc hS
                refine zlRun (n := 1) (j := 15) rfl (by kernel_rfl) ?_
                refine bindE hS (fun z51 hz51 hS => ?_)
                refine zlOp (d := some 99) (op := (.call 36 [(.tmp 98), (.const (.int .i64 64)), (.const (.int .i64 126))])) (g := (some (97, true))) (j := 16) rfl (by kernel_rfl) (by kernel_rfl) (ev_callA (by kernel_rfl) (f36_ok (d - 1) (dpt hd rfl) a1.Code 64 126 z51 hz51) (by kernel_rfl) (by kernel_rfl)) ?_
                refine zlRun (n := 2) (j := 18) rfl (by kernel_rfl) ?_
                refine zlSplit 101 z51 (by kernel_rfl) (fun hc => ?_) (fun hc => ?_)
                · replace hS := cond_t hc hS
                  refine zlRun (n := 1) (j := 19) rfl (by kernel_rfl) ?_
                  refine zlBool (d := 103) (op := (.cmpI .eql (.tmp 102) (.const (.int .i64 0)))) (g := (some (101, true))) (j := 20) (decide (z35.2 = 0)) rfl (by kernel_rfl) (by kernel_rfl) (by kernel_rfl) (fun hc => ?_) (fun hc => ?_)
                  · replace hS := cond_t hc hS
                    refine zlRun (n := 4) (j := 24) rfl (by kernel_rfl) ?_
                    refine zlBool (d := 108) (op := (.cmpI .leq (.tmp 107) (.const (.int .i64 100)))) (g := (some (105, true))) (j := 25) (decide ((z35.1.length : Int) ≤ 100)) rfl (by kernel_rfl) (by kernel_rfl) (by kernel_rfl) (fun hc => ?_) (fun hc => ?_)
                    · replace hS := cond_t hc hS
                      refine zlRun (n := 1) (j := 26) rfl (by kernel_rfl) ?_
                      refine zlEnd (by kernel_rfl) ?_
                      refine zkSeq ?_
                      refine zrCondT (by kernel_rfl) ?_
                      exact f23_j2_ok hd a1 hQ z35.1 hS (by kernel_rfl)
                    · replace hS := cond_f hc hS
                      refine zlRun (n := 1) (j := 26) rfl (by kernel_rfl) ?_
                      refine zlEnd (by kernel_rfl) ?_
                      refine zkSeq ?_
                      refine zrCondF (by kernel_rfl) ?_
                      refine zrSkip ?_
                      refine zkBlk ?_
                      refine zkSeq ?_
                      refine zrSeq ?_
                      refine zrReg ?_
                      refine zlRun (n := 2) (j := 2) rfl (by kernel_rfl) ?_
                      refine zlEnd (by kernel_rfl) ?_
                      refine zkSeq ?_
                      refine zrRet ?_
                      refine zkNil ?_
                      exact endQ hS hQ (fRet (by kernel_rfl) ((congrArg (fun s => outR s 0 c23.res) (by kernel_rfl : finSt c23.fin _ = f23_fin [] 1)).trans (f23_out [] 1)))
                  · replace hS := cond_f hc hS
                    refine zlRun (n := 6) (j := 26) rfl (by kernel_rfl) ?_
                    refine zlEnd (by kernel_rfl) ?_
                    refine zkSeq ?_
                    refine zrCondF (by kernel_rfl) ?_
                    refine zrSkip ?_
                    refine zkBlk ?_
                    refine zkSeq ?_
                    refine zrSeq ?_
                    refine zrReg ?_
                    refine zlRun (n := 2) (j := 2) rfl (by kernel_rfl) ?_
                    refine zlEnd (by kernel_rfl) ?_
                    refine zkSeq ?_
                    refine zrRet ?_
                    refine zkNil ?_
                    exact endQ hS hQ (fRet (by kernel_rfl) ((congrArg (fun s => outR s 0 c23.res) (by kernel_rfl : finSt c23.fin _ = f23_fin [] 1)).trans (f23_out [] 1)))
                · replace hS := cond_f hc hS
                  refine zlRun (n := 8) (j := 26) rfl (by kernel_rfl) ?_
                  refine zlEnd (by kernel_rfl) ?_
                  refine zkSeq ?_
                  refine zrCondF (by kernel_rfl) ?_
                  refine zrSkip ?_
                  refine zkBlk ?_
                  refine zkSeq ?_
                  refine zrSeq ?_
                  refine zrReg ?_
                  refine zlRun (n := 2) (j := 2) rfl (by kernel_rfl) ?_
                  refine zlEnd (by kernel_rfl) ?_
                  refine zkSeq ?_
                  refine zrRet ?_
                  refine zkNil ?_
                  exact endQ hS hQ (fRet (by kernel_rfl) ((congrArg (fun s => outR s 0 c23.res) (by kernel_rfl : finSt c23.fin _ = f23_fin [] 1)).trans (f23_out [] 1)))
              · replace hS := cond_f hc hS
                refine zlRun (n := 12) (j := 26) rfl (by kernel_rfl) ?_
                refine zlEnd (by kernel_rfl) ?_
                refine zkSeq ?_
                refine zrCondF (by kernel_rfl) ?_
                refine zrSkip ?_
                refine zkBlk ?_
                refine zkSeq ?_
                refine zrSeq ?_
                refine zrReg ?_
                refine zlRun (n := 2) (j := 2) rfl (by kernel_rfl) ?_
                refine zlEnd (by kernel_rfl) ?_
                refine zkSeq ?_
                refine zrRet ?_
                refine zkNil ?_
                exact endQ hS hQ (fRet (by kernel_rfl) ((congrArg (fun s => outR s 0 c23.res) (by kernel_rfl : finSt c23.fin _ = f23_fin [] 1)).trans (f23_out [] 1)))
            · replace hS := cond_f hc hS
              refine zlRun (n := 17) (j := 26) rfl (by kernel_rfl) ?_
              refine zlEnd (by kernel_rfl) ?_
              refine zkSeq ?_
              refine zrCondF (by kernel_rfl) ?_
              refine zrSkip ?_
              refine zkBlk ?_
              refine zkSeq ?_
              refine zrSeq ?_
              refine zrReg ?_
              refine zlRun (n := 2) (j := 2) rfl (by kernel_rfl) ?_
              refine zlEnd (by kernel_rfl) ?_
              refine zkSeq ?_
              refine zrRet ?_
              refine zkNil ?_
              exact endQ hS hQ (fRet (by kernel_rfl) ((congrArg (fun s => outR s 0 c23.res) (by kernel_rfl : finSt c23.fin _ = f23_fin [] 1)).trans (f23_out [] 1)))
        · replace hS := cond_f hc hS
          refine zlRun (n := 1) (j := 2) rfl (by kernel_rfl) ?_
          refine zlEnd (by kernel_rfl) ?_
          refine zkSeq ?_
          refine zrCondF (by kernel_rfl) ?_
          refine zrSeq ?_
          refine zrReg ?_
          refine zlBool (d := 130) (op := (.cmpI .eql (.tmp 14) (.const (.int .i64 5)))) (g := none) (j := 1) (decide (a1.Kind = 5)) rfl (by kernel_rfl) (by kernel_rfl) (by kernel_rfl) (fun hc => ?_) (fun hc => ?_)
          · replace hS := cond_t hc hS
            refine zlRun (n := 1) (j := 2) rfl (by kernel_rfl) ?_
            refine zlEnd (by kernel_rfl) ?_
            refine zkSeq ?_
            refine zrCondT (by kernel_rfl) ?_
            refine zrSeq ?_
            refine zrReg ?_
            refine zlRun (n := 2) (j := 2) rfl (by kernel_rfl) ?_
            cases hS
          · replace hS := cond_f hc hS
            refine zlRun (n := 1) (j := 2) rfl (by kernel_rfl) ?_
            refine zlEnd (by kernel_rfl) ?_
            refine zkSeq ?_
            refine zrCondF (by kernel_rfl) ?_
            refine zrSkip ?_
            refine zkBlk ?_
            refine zkSeq ?_
            refine zrSeq ?_
            refine zrReg ?_
            refine zlRun (n := 2) (j := 2) rfl (by kernel_rfl) ?_
            refine zlEnd (by kernel_rfl) ?_
            refine zkSeq ?_
            refine zrRet ?_
            refine zkNil ?_
            exact endQ hS hQ (fRet (by kernel_rfl) ((congrArg (fun s => outR s 0 c23.res) (by kernel_rfl : finSt c23.fin _ = f23_fin [] 1)).trans (f23_out [] 1)))
noncomputable def f23 (a1 : GAct) : Option ((List Int) × Int) := ((f34 a1).bind fun z52 => (bif (!z52) then (some ([], 1)) else (f23_j0 a1 )))
theorem f23_ok (d : Nat) (hd : 5 ≤ d) (a1 : GAct) (r : (List Int) × Int) (hS : f23 a1 = some r) : lev codes baseL d 23 [(.agg ((.d (.int .i64 a1.Kind)) :: ((.d (.int .i64 a1.Code)) :: ((.d (.int .i64 a1.Mark)) :: ((.d (.str a1.Inter)) :: ((.d (.sl a1.Args.length ((eInt .i64).cells a1.Args))) :: ((.d (.str a1.Text)) :: [])))))))] [] = some ((.tup [(.r (.own 0 3 1 r.1.length ((eInt .i64).cells r.1))), (.d (.int .i64 r.2))]), []) := by
  refine lev_go codes23 rfl rfl (Nat.le_trans (Nat.le_of_ble_eq_true rfl) hd) fun Q hQ => ?_
  unfold f23 at hS
  show ZR _ Q c23_b [] _
  replace hQ : ∀ e st', f23_Q r e st' → Q e st' := hQ
  refine zrSeq ?_
  refine zrReg ?_
  refine zlRun (n := 3) (j := 3) rfl (by kernel_rfl) ?_
  refine zlEnd (by kernel_rfl) ?_
  refine zkSeq ?_
  refine zrSeq ?_
  refine zrSeq ?_
  refine zrReg ?_
  refine zlRun (n := 1) (j := 1) rfl (by kernel_rfl) ?_
  refine bindE hS (fun z52 hz52 hS => ?_)
  refine zlOp (d := some 9) (op := (.call 34 [(.tmp 8)])) (g := none) (j := 2) rfl (by kernel_rfl) (by kernel_rfl) (ev_callA (by kernel_rfl) (f34_ok (d - 1) (dpt hd rfl) a1 z52 hz52) (by kernel_rfl) (by kernel_rfl)) ?_
  refine zlRun (n := 1) (j := 3) rfl (by kernel_rfl) ?_
  refine zlEnd (by kernel_rfl) ?_
  refine zkSeq ?_
  refine zrSplit 10 (!z52) (by kernel_rfl) (fun hc => ?_) (fun hc => ?_)
  · replace hS := cond_t hc hS
    refine zrCondT (by kernel_rfl) ?_
    refine zrSeq ?_
    refine zrReg ?_
    refine zlRun (n := 2) (j := 2) rfl (by kernel_rfl) ?_
    refine zlEnd (by kernel_rfl) ?_
    refine zkSeq ?_
    refine zrRet ?_
    refine zkSeqR ?_
    refine zkNil ?_
    exact endQ hS hQ (fRet (by kernel_rfl) ((congrArg (fun s => outR s 0 c23.res) (by kernel_rfl : finSt c23.fin _ = f23_fin [] 1)).trans (f23_out [] 1)))
  · replace hS := cond_f hc hS
    refine zrCondF (by kernel_rfl) ?_
    refine zrSkip ?_
    refine zkSeq ?_
    exact f23_j0_ok hd a1 hQ  hS (by kernel_rfl)
/- (*farwriter/draw.drawer).act -/
def f10_fin (p1 : List Int) (p2 : Int) (p3 : Int) (p4 : Int) (p5 : List Int) : St := ⟨(up (up (fun _ => .un) 1000002 .un) 1000001 .un), (up (up (up (hB fun _ => 0) 1 ⟨1, some (.own 3 1 ((eInt .i64).cells p5))⟩) 2 ⟨1, some (.own 3 1 ((eInt .i64).cells p1))⟩) 0 ⟨0, some (.box ((.r (.msl 2 1 0 p1.length)) :: ((.d (.int .i64 p2)) :: ((.d (.int .i64 p3)) :: ((.d (.int .i64 p4)) :: [])))))⟩)⟩
theorem f10_out (p1 : List Int) (p2 : Int) (p3 : Int) (p4 : Int) (p5 : List Int) : outR (f10_fin p1 p2 p3 p4 p5) 3 c10.res = some ((.tup []), [(.box ((.r (.msl 2 0 0 p1.length)) :: ((.d (.int .i64 p2)) :: ((.d (.int .i64 p3)) :: ((.d (.int .i64 p4)) :: []))))), (.own 3 1 ((eInt .i64).cells p5)), (.own 3 1 ((eInt .i64).cells p1))]) := by
  kernel_rfl
def f10_Q (r : (List Int) × Int × Int × Int × (List Int)) (e : PX) (st : St) : Prop := DoneF c10 3 ((.tup []), [(.box ((.r (.msl 2 0 0 r.1.length)) :: ((.d (.int .i64 r.2.1)) :: ((.d (.int .i64 r.2.2.1)) :: ((.d (.int .i64 r.2.2.2.1)) :: []))))), (.own 3 1 ((eInt .i64).cells r.2.2.2.2)), (.own 3 1 ((eInt .i64).cells r.1))]) e st
noncomputable def f10 (a1 : Int) (a2 : Int) (a3 : Int) (a4 : Int) (a5 : List Int) (a6 : List Int) : Option ((List Int) × Int × Int × Int × (List Int)) := ((f23 (GAct.mk 4 a1 0 ([]) a5 ([]))).bind fun z3 => ((app? 8 a6 z3.1).bind fun z4 => (some (z4, a2, a3, a4, a5))))
theorem f10_ok (d : Nat) (hd : 6 ≤ d) (a1 : Int) (a2 : Int) (a3 : Int) (a4 : Int) (a5 : List Int) (a6 : List Int) (r : (List Int) × Int × Int × Int × (List Int)) (hS : f10 a1 a2 a3 a4 a5 a6 = some r) : lev codes baseL d 10 [(.r (.ptr 0 0 0)), (.d (.int .i64 a1)), (.r (.msl 1 0 0 a5.length))] [(.box ((.r (.msl 2 0 0 a6.length)) :: ((.d (.int .i64 a2)) :: ((.d (.int .i64 a3)) :: ((.d (.int .i64 a4)) :: []))))), (.own 3 1 ((eInt .i64).cells a5)), (.own 3 1 ((eInt .i64).cells a6))] = some ((.tup []), [(.box ((.r (.msl 2 0 0 r.1.length)) :: ((.d (.int .i64 r.2.1)) :: ((.d (.int .i64 r.2.2.1)) :: ((.d (.int .i64 r.2.2.2.1)) :: []))))), (.own 3 1 ((eInt .i64).cells r.2.2.2.2)), (.own 3 1 ((eInt .i64).cells r.1))]) := by
  refine lev_go codes10 rfl rfl (Nat.le_trans (Nat.le_of_ble_eq_true rfl) hd) fun Q hQ => ?_
  unfold f10 at hS
  show ZR _ Q c10_b [] _
  replace hQ : ∀ e st', f10_Q r e st' → Q e st' := hQ
  refine zrSeq ?_
  refine zrReg ?_
  refine zlRun (n := 3) (j := 3) rfl (by kernel_rfl) ?_
  refine bindE hS (fun z3 hz3 hS => ?_)
  refine zlOp (d := some 12) (op := (.call 23 [(.tmp 11)])) (g := none) (j := 4) rfl (by kernel_rfl) (by kernel_rfl) (ev_callB (args := [(.agg ((.d (.int .i64 4)) :: ((.d (.int .i64 a1)) :: ((.d (.int .i64 0)) :: ((.d (.str ([]))) :: ((.r (.msl 1 0 0 a5.length)) :: ((.d (.str ([]))) :: [])))))))]) (by kernel_rfl) (l_cons (l_agg (l_cons (by kernel_rfl) (l_cons (by kernel_rfl) (l_cons (by kernel_rfl) (l_cons (by kernel_rfl) (l_cons (l_own (eInt .i64) (e := 3) (k := 1) (xs := a5) (by kernel_rfl) rfl rfl) (l_cons (by kernel_rfl) l_nil))))))) l_nil) (f23_ok (d - 1) (dpt hd rfl) (GAct.mk 4 a1 0 ([]) a5 ([])) z3 hz3) (by simp only [free_own (eInt .i64) (fun _ => rfl), free_tup, free_agg, free_nl, free_cs, free_int, free_bool, free_str, free_un, free_ni, free_s0, Bool.and_true, Bool.or_true, Bool.and_self]) (by kernel_rfl)) ?_
  refine zlRun (n := 5) (j := 9) rfl (by kernel_rfl) ?_
  refine zlEnd (by kernel_rfl) ?_
  refine zkSeq ?_
  refine zrReg ?_
  refine zlRun (n := 6) (j := 6) rfl (by kernel_rfl) ?_
  refine bindE hS (fun z4 hz4 hS => ?_)
  refine zlOp (d := some 21) (op := (.app 3 1 8 (.tmp 19) (.tmp 20))) (g := none) (v := (.r (.msl 2 1 0 z4.length))) (ups := [(2, ⟨1, some (.own 3 1 ((eInt .i64).cells z4))⟩)]) (j := 7) rfl (by kernel_rfl) (by kernel_rfl) (ev_app (eInt .i64) (b := 2) (g := 0) (n := a6.length) (xs := a6) (ys := z3.1) ((congrArg (asL _) (by kernel_rfl : ρof _ (.tmp 20) = (.r (.msl 104 1 0 z3.1.length)))).trans (as_whole (eInt .i64) (e := 3) (k := 1) (xs := z3.1) (by kernel_rfl) rfl rfl)) rfl (by kernel_rfl) rfl (by kernel_rfl) rfl hz4) ?_
  refine zlRun (n := 3) (j := 10) rfl (by kernel_rfl) ?_
  refine zlEnd (by kernel_rfl) ?_
  refine zkNil ?_
  exact endQ hS hQ (fNorm (by kernel_rfl) ((congrArg (fun s => outR s 3 c10.res) (by kernel_rfl : finSt c10.fin _ = f10_fin z4 a2 a3 a4 a5)).trans (f10_out z4 a2 a3 a4 a5)))
/- farwriter/pen.flag -/
def f42_fin (p1 : Int) : St := ⟨(up (fun _ => .un) 2 (.d (.int .i64 p1))), (hB fun _ => 0)⟩
theorem f42_out (p1 : Int) : outR (f42_fin p1) 0 c42.res = some ((.d (.int .i64 p1)), []) := by
  kernel_rfl
def f42_Q (r : Int) (e : PX) (st : St) : Prop := DoneF c42 0 ((.d (.int .i64 r)), []) e st
noncomputable def f42 (a1 : Int) : Option (Int) := ((inR a1 10).bind fun m2 => (some (([0, 1, 2, 4, 8, 16, 0, 32, 64, 128] : List Int).getD m2 0)))
theorem f42_ok (d : Nat) (hd : 1 ≤ d) (a1 : Int) (r : Int) (hS : f42 a1 = some r) : lev codes baseL d 42 [(.d (.int .i64 a1))] [] = some ((.d (.int .i64 r)), []) := by
  refine lev_go codes42 rfl rfl (Nat.le_trans (Nat.le_of_ble_eq_true rfl) hd) fun Q hQ => ?_
  unfold f42 at hS
  show ZR _ Q c42_b [] _
  replace hQ : ∀ e st', f42_Q r e st' → Q e st' := hQ
  refine zrSeq ?_
  refine zrReg ?_
  refine zlRun (n := 1) (j := 1) rfl (by kernel_rfl) ?_
  refine zlEnd (by kernel_rfl) ?_
  refine zkSeq ?_
  refine zrSeq ?_
  refine zrReg ?_
  refine zlRun (n := 2) (j := 2) rfl (by kernel_rfl) ?_
  refine bindE hS (fun m2 hm2 hS => ?_)
  refine zlOp (d := some 5) (op := (.ixV .false 10 1 (.tmp 3) (.tmp 4))) (g := none) (v := (.d (.int .i64 (([0, 1, 2, 4, 8, 16, 0, 32, 64, 128] : List Int).getD m2 0)))) (ups := []) (j := 3) rfl (by kernel_rfl) (by kernel_rfl) (ev_ixV (eInt .i64) (fun i => ([0, 1, 2, 4, 8, 16, 0, 32, 64, 128] : List Int).getD i 0) (kk := .i64) (j := a1) (by kernel_rfl) (by kernel_rfl) hm2 rfl (by kernel_rfl) (by kernel_rfl)) ?_
  refine zlRun (n := 1) (j := 4) rfl (by kernel_rfl) ?_
  refine zlEnd (by kernel_rfl) ?_
  refine zkSeq ?_
  refine zrRet ?_
  refine zkNil ?_
  exact endQ hS hQ (fRet (by kernel_rfl) ((congrArg (fun s => outR s 0 c42.res) (by kernel_rfl : finSt c42.fin _ = f42_fin (([0, 1, 2, 4, 8, 16, 0, 32, 64, 128] : List Int).getD m2 0))).trans (f42_out (([0, 1, 2, 4, 8, 16, 0, 32, 64, 128] : List Int).getD m2 0))))
/- farwriter/pen.paint -/
def f43_fin (p4 : List Int) : St := ⟨(up (fun _ => .un) 4 (.r (.msl 361 0 0 p4.length))), (up (hB fun _ => 0) 361 ⟨0, some (.own 3 1 ((eInt .i64).cells p4))⟩)⟩
theorem f43_out (p4 : List Int) : outR (f43_fin p4) 0 c43.res = some ((.r (.own 0 3 1 p4.length ((eInt .i64).cells p4))), []) := by
  exact out_of (ids := []) (ids' := [361]) (l := [(.r (.msl 361 0 0 p4.length))]) (by kernel_rfl) (by kernel_rfl) (o_own (eInt .i64) (e := 3) (k := 1) (xs := p4) (by kernel_rfl) rfl rfl rfl rfl)
def f43_Q (r : (List Int)) (e : PX) (st : St) : Prop := DoneF c43 0 ((.r (.own 0 3 1 r.length ((eInt .i64).cells r))), []) e st
def f43_j0_J (a1 : Int) (a2 : Int) : St := ⟨(up (up (fun _ => .un) 1 (.d (.int .i64 a2))) 0 (.d (.int .i64 a1))), (hB fun _ => 0)⟩
noncomputable def f43_j0 (a1 : Int) (a2 : Int) : Option ((List Int)) := (some [(IntKind.i64.wrap (a2 + 8)), 2, (bitI .and .i64 (Int.fdiv a1 (2 ^ 16)) 255), (bitI .and .i64 (Int.fdiv a1 (2 ^ 8)) 255), (bitI .and .i64 a1 255)])
theorem f43_j0_ok {d : Nat} (hd : 1 ≤ d) (a1 : Int) (a2 : Int) {r : (List Int)} {Q : PX → St → Prop} (hQ : ∀ e st', f43_Q r e st' → Q e st')  (hS : f43_j0 a1 a2 = some r) {st : St} (he : keepSt [0, 1] [] [] st = f43_j0_J a1 a2) : ZR (lev codes baseL (d - 1)) Q c43_1 [] st := by
  refine zrKeep he ?_
  unfold f43_j0 at hS
  refine zrSeq ?_
  refine zrReg ?_
  refine zlRun (n := 12) (j := 12) rfl (by kernel_rfl) ?_
  refine zlEnd (by kernel_rfl) ?_
  refine zkSeq ?_
  refine zrRet ?_
  refine zkNil ?_
  exact endQ hS hQ (fRet (by kernel_rfl) ((congrArg (fun s => outR s 0 c43.res) (by kernel_rfl : finSt c43.fin _ = f43_fin [(IntKind.i64.wrap (a2 + 8)), 2, (bitI .and .i64 (Int.fdiv a1 (2 ^ 16)) 255), (bitI .and .i64 (Int.fdiv a1 (2 ^ 8)) 255), (bitI .and .i64 a1 255)])).trans (f43_out [(IntKind.i64.wrap (a2 + 8)), 2, (bitI .and .i64 (Int.fdiv a1 (2 ^ 16)) 255), (bitI .and .i64 (Int.fdiv a1 (2 ^ 8)) 255), (bitI .and .i64 a1 255)])))
noncomputable def f43 (a1 : Int) (a2 : Int) : Option ((List Int)) := (bif (decide (a1 ≤ 8)) then (some [(IntKind.i64.wrap ((IntKind.i64.wrap (a2 + a1)) - 1))]) else (bif (decide (a1 ≤ 16)) then (some [(IntKind.i64.wrap ((IntKind.i64.wrap ((IntKind.i64.wrap (a2 + 60)) + a1)) - 9))]) else (bif (decide (a1 ≤ 256)) then (some [(IntKind.i64.wrap (a2 + 8)), 5, (IntKind.i64.wrap (a1 - 1))]) else (f43_j0 a1 a2 ))))
theorem f43_ok (d : Nat) (hd : 1 ≤ d) (a1 : Int) (a2 : Int) (r : (List Int)) (hS : f43 a1 a2 = some r) : lev codes baseL d 43 [(.d (.int .i64 a1)), (.d (.int .i64 a2))] [] = some ((.r (.own 0 3 1 r.length ((eInt .i64).cells r))), []) := by
  refine lev_go codes43 rfl rfl (Nat.le_trans (Nat.le_of_ble_eq_true rfl) hd) fun Q hQ => ?_
  unfold f43 at hS
  show ZR _ Q c43_b [] _
  replace hQ : ∀ e st', f43_Q r e st' → Q e st' := hQ
  refine zrSeq ?_
  refine zrReg ?_
  refine zlRun (n := 1) (j := 1) rfl (by kernel_rfl) ?_
  refine zlEnd (by kernel_rfl) ?_
  refine zkSeq ?_
  refine zrSeq ?_
  refine zrBlk ?_
  refine zrSeq ?_
  refine zrReg ?_
  refine zlRun (n := 1) (j := 1) rfl (by kernel_rfl) ?_
  refine zlBool (d := 7) (op := (.cmpI .leq (.tmp 6) (.const (.int .i64 8)))) (g := none) (j := 2) (decide (a1 ≤ 8)) rfl (by kernel_rfl) (by kernel_rfl) (by kernel_rfl) (fun hc => ?_) (fun hc => ?_)
  · replace hS := cond_t hc hS
    refine zlRun (n := 1) (j := 3) rfl (by kernel_rfl) ?_
    refine zlEnd (by kernel_rfl) ?_
    refine zkSeq ?_
    refine zrCondT (by kernel_rfl) ?_
    refine zrSeq ?_
    refine zrReg ?_
    refine zlRun (n := 6) (j := 6) rfl (by kernel_rfl) ?_
    refine zlEnd (by kernel_rfl) ?_
    refine zkSeq ?_
    refine zrRet ?_
    refine zkBlkR ?_
    refine zkSeqR ?_
    refine zkNil ?_
    exact endQ hS hQ (fRet (by kernel_rfl) ((congrArg (fun s => outR s 0 c43.res) (by kernel_rfl : finSt c43.fin _ = f43_fin [(IntKind.i64.wrap ((IntKind.i64.wrap (a2 + a1)) - 1))])).trans (f43_out [(IntKind.i64.wrap ((IntKind.i64.wrap (a2 + a1)) - 1))])))
  · replace hS := cond_f hc hS
    refine zlRun (n := 1) (j := 3) rfl (by kernel_rfl) ?_
    refine zlEnd (by kernel_rfl) ?_
    refine zkSeq ?_
    refine zrCondF (by kernel_rfl) ?_
    refine zrSeq ?_
    refine zrReg ?_
    refine zlRun (n := 1) (j := 1) rfl (by kernel_rfl) ?_
    refine zlBool (d := 15) (op := (.cmpI .leq (.tmp 14) (.const (.int .i64 16)))) (g := none) (j := 2) (decide (a1 ≤ 16)) rfl (by kernel_rfl) (by kernel_rfl) (by kernel_rfl) (fun hc => ?_) (fun hc => ?_)
    · replace hS := cond_t hc hS
      refine zlRun (n := 1) (j := 3) rfl (by kernel_rfl) ?_
      refine zlEnd (by kernel_rfl) ?_
      refine zkSeq ?_
      refine zrCondT (by kernel_rfl) ?_
      refine zrSeq ?_
      refine zrReg ?_
      refine zlRun (n := 7) (j := 7) rfl (by kernel_rfl) ?_
      refine zlEnd (by kernel_rfl) ?_
      refine zkSeq ?_
      refine zrRet ?_
      refine zkBlkR ?_
      refine zkSeqR ?_
      refine zkNil ?_
      exact endQ hS hQ (fRet (by kernel_rfl) ((congrArg (fun s => outR s 0 c43.res) (by kernel_rfl : finSt c43.fin _ = f43_fin [(IntKind.i64.wrap ((IntKind.i64.wrap ((IntKind.i64.wrap (a2 + 60)) + a1)) - 9))])).trans (f43_out [(IntKind.i64.wrap ((IntKind.i64.wrap ((IntKind.i64.wrap (a2 + 60)) + a1)) - 9))])))
    · replace hS := cond_f hc hS
      refine zlRun (n := 1) (j := 3) rfl (by kernel_rfl) ?_
      refine zlEnd (by kernel_rfl) ?_
      refine zkSeq ?_
      refine zrCondF (by kernel_rfl) ?_
      refine zrSeq ?_
      refine zrReg ?_
      refine zlRun (n := 1) (j := 1) rfl (by kernel_rfl) ?_
      refine zlBool (d := 24) (op := (.cmpI .leq (.tmp 23) (.const (.int .i64 256)))) (g := none) (j := 2) (decide (a1 ≤ 256)) rfl (by kernel_rfl) (by kernel_rfl) (by kernel_rfl) (fun hc => ?_) (fun hc => ?_)
      · replace hS := cond_t hc hS
        refine zlRun (n := 1) (j := 3) rfl (by kernel_rfl) ?_
        refine zlEnd (by kernel_rfl) ?_
        refine zkSeq ?_
        refine zrCondT (by kernel_rfl) ?_
        refine zrSeq ?_
        refine zrReg ?_
        refine zlRun (n := 6) (j := 6) rfl (by kernel_rfl) ?_
        refine zlEnd (by kernel_rfl) ?_
        refine zkSeq ?_
        refine zrRet ?_
        refine zkBlkR ?_
        refine zkSeqR ?_
        refine zkNil ?_
        exact endQ hS hQ (fRet (by kernel_rfl) ((congrArg (fun s => outR s 0 c43.res) (by kernel_rfl : finSt c43.fin _ = f43_fin [(IntKind.i64.wrap (a2 + 8)), 5, (IntKind.i64.wrap (a1 - 1))])).trans (f43_out [(IntKind.i64.wrap (a2 + 8)), 5, (IntKind.i64.wrap (a1 - 1))])))
      · replace hS := cond_f hc hS
        refine zlRun (n := 1) (j := 3) rfl (by kernel_rfl) ?_
        refine zlEnd (by kernel_rfl) ?_
        refine zkSeq ?_
        refine zrCondF (by kernel_rfl) ?_
        refine zrSkip ?_
        refine zkBlk ?_
        refine zkSeq ?_
        exact f43_j0_ok hd a1 a2 hQ  hS (by kernel_rfl)
end Go.Proofs.YtgjckmjlocankaaGreatDoor.Pm
