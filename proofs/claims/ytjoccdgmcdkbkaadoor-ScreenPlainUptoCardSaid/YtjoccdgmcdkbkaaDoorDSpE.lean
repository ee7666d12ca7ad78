/- Typed functions, and that the codes are these. Printed by dec.py. -/
import Derived.Test.YtjoccdgmcdkbkaaDoorDSpD
namespace Go.Proofs.YtjoccdgmcdkbkaaDoor.Pm
set_option maxRecDepth 1000000
set_option maxHeartbeats 20000000
set_option linter.unusedVariables false
/- farwriter/screen.Check -/
def f13_fin (p33 : Int) : St := ⟨(up (fun _ => .un) 2 (.d (.int .i64 p33))), (hB fun _ => 0)⟩
theorem f13_out (p33 : Int) : outR (f13_fin p33) 0 c13.res = some ((.d (.int .i64 p33)), []) := by
  kernel_rfl
def f13_Q (r : Int) (e : PX) (st : St) : Prop := DoneF c13 0 ((.d (.int .i64 r)), []) e st
def f13_j6_J (a1 : GScreen) (p70 : Bool) : St := ⟨(up (up (fun _ => .un) 5 (.d (.bool p70))) 1 (.r (.ptr 16 0 0))), (up (hB fun _ => 0) 16 ⟨0, some (.box (bx_GScreen a1 (.d (.sl a1.Grid.Cells.length (e_GCell.cells a1.Grid.Cells))) (.d (.sl a1.Other.Cells.length (e_GCell.cells a1.Other.Cells))) (.d (.sl a1.Past.length (e_GLine.cells a1.Past)))))⟩)⟩
noncomputable def f13_j6 (a1 : GScreen) (p70 : Bool) : Option (Int) := (bif p70 then (bif (decide ((a1.Title.length : Int) ≤ 256)) then ((f24 a1.Past).bind fun z42 => (bif (!z42) then (some 4) else (some 0))) else (some 4)) else (some 4))
theorem f13_j6_ok {d : Nat} (hd : 6 ≤ d) (a1 : GScreen) {r : Int} {Q : PX → St → Prop} (hQ : ∀ e st', f13_Q r e st' → Q e st') (p70 : Bool) (hS : f13_j6 a1 p70 = some r) {st : St} (he : keepSt [1, 5] [(16, .id 16)] [] st = f13_j6_J a1 p70) : ZR (lev codes baseL (d - 1)) Q c13_1 [] st := by
  refine zrKeep he ?_
  unfold f13_j6 at hS
  refine zrSeq ?_
  refine zrReg ?_
  refine zlRun (n := 2) (j := 2) rfl (by kernel_rfl) ?_
  refine zlSplit 144 p70 (by kernel_rfl) (fun hc => ?_) (fun hc => ?_)
  · replace hS := cond_t hc hS
    refine zlRun (n := 3) (j := 5) rfl (by kernel_rfl) ?_
    refine zlBool (d := 148) (op := (.cmpI .leq (.tmp 147) (.const (.int .i64 256)))) (g := (some (144, true))) (j := 6) (decide ((a1.Title.length : Int) ≤ 256)) rfl (by kernel_rfl) (by kernel_rfl) (by kernel_rfl) (fun hc => ?_) (fun hc => ?_)
    · replace hS := cond_t hc hS
      refine zlRun (n := 4) (j := 10) rfl (by kernel_rfl) ?_
      refine bindE hS (fun z42 hz42 hS => ?_)
      refine zlOp (d := some 153) (op := (.call 24 [(.tmp 152)])) (g := (some (150, true))) (j := 11) rfl (by kernel_rfl) (by kernel_rfl) (ev_callA (by kernel_rfl) (f24_ok (d - 1) (dpt hd rfl) a1.Past z42 hz42) (by kernel_rfl) (by kernel_rfl)) ?_
      refine zlRun (n := 2) (j := 13) rfl (by kernel_rfl) ?_
      refine zlEnd (by kernel_rfl) ?_
      refine zkSeq ?_
      refine zrSeq ?_
      refine zrSeq ?_
      refine zrReg ?_
      refine zlRun (n := 2) (j := 2) rfl (by kernel_rfl) ?_
      refine zlEnd (by kernel_rfl) ?_
      refine zkSeq ?_
      refine zrSplit 156 (!z42) (by kernel_rfl) (fun hc => ?_) (fun hc => ?_)
      · replace hS := cond_t hc hS
        refine zrCondT (by kernel_rfl) ?_
        refine zrSeq ?_
        refine zrReg ?_
        refine zlRun (n := 1) (j := 1) rfl (by kernel_rfl) ?_
        refine zlEnd (by kernel_rfl) ?_
        refine zkSeq ?_
        refine zrRet ?_
        refine zkSeqR ?_
        refine zkNil ?_
        exact endQ hS hQ (fRet (by kernel_rfl) ((congrArg (fun s => outR s 0 c13.res) (by kernel_rfl : finSt c13.fin _ = f13_fin 4)).trans (f13_out 4)))
      · replace hS := cond_f hc hS
        refine zrCondF (by kernel_rfl) ?_
        refine zrSkip ?_
        refine zkSeq ?_
        refine zrSeq ?_
        refine zrReg ?_
        refine zlRun (n := 1) (j := 1) rfl (by kernel_rfl) ?_
        refine zlEnd (by kernel_rfl) ?_
        refine zkSeq ?_
        refine zrRet ?_
        refine zkNil ?_
        exact endQ hS hQ (fRet (by kernel_rfl) ((congrArg (fun s => outR s 0 c13.res) (by kernel_rfl : finSt c13.fin _ = f13_fin 0)).trans (f13_out 0)))
    · replace hS := cond_f hc hS
      refine zlRun (n := 7) (j := 13) rfl (by kernel_rfl) ?_
      refine zlEnd (by kernel_rfl) ?_
      refine zkSeq ?_
      refine zrSeq ?_
      refine zrSeq ?_
      refine zrReg ?_
      refine zlRun (n := 2) (j := 2) rfl (by kernel_rfl) ?_
      refine zlEnd (by kernel_rfl) ?_
      refine zkSeq ?_
      refine zrCondT (by kernel_rfl) ?_
      refine zrSeq ?_
      refine zrReg ?_
      refine zlRun (n := 1) (j := 1) rfl (by kernel_rfl) ?_
      refine zlEnd (by kernel_rfl) ?_
      refine zkSeq ?_
      refine zrRet ?_
      refine zkSeqR ?_
      refine zkNil ?_
      exact endQ hS hQ (fRet (by kernel_rfl) ((congrArg (fun s => outR s 0 c13.res) (by kernel_rfl : finSt c13.fin _ = f13_fin 4)).trans (f13_out 4)))
  · replace hS := cond_f hc hS
    refine zlRun (n := 11) (j := 13) rfl (by kernel_rfl) ?_
    refine zlEnd (by kernel_rfl) ?_
    refine zkSeq ?_
    refine zrSeq ?_
    refine zrSeq ?_
    refine zrReg ?_
    refine zlRun (n := 2) (j := 2) rfl (by kernel_rfl) ?_
    refine zlEnd (by kernel_rfl) ?_
    refine zkSeq ?_
    refine zrCondT (by kernel_rfl) ?_
    refine zrSeq ?_
    refine zrReg ?_
    refine zlRun (n := 1) (j := 1) rfl (by kernel_rfl) ?_
    refine zlEnd (by kernel_rfl) ?_
    refine zkSeq ?_
    refine zrRet ?_
    refine zkSeqR ?_
    refine zkNil ?_
    exact endQ hS hQ (fRet (by kernel_rfl) ((congrArg (fun s => outR s 0 c13.res) (by kernel_rfl : finSt c13.fin _ = f13_fin 4)).trans (f13_out 4)))
def f13_j5_J (a1 : GScreen) (p67 : Bool) : St := ⟨(up (up (fun _ => .un) 5 (.d (.bool p67))) 1 (.r (.ptr 16 0 0))), (up (hB fun _ => 0) 16 ⟨0, some (.box (bx_GScreen a1 (.d (.sl a1.Grid.Cells.length (e_GCell.cells a1.Grid.Cells))) (.d (.sl a1.Other.Cells.length (e_GCell.cells a1.Other.Cells))) (.d (.sl a1.Past.length (e_GLine.cells a1.Past)))))⟩)⟩
noncomputable def f13_j5 (a1 : GScreen) (p67 : Bool) : Option (Int) := (bif p67 then ((f22 a1.Saved.Row 0 59).bind fun z43 => (bif z43 then ((f22 a1.Saved.Col 0 159).bind fun z44 => (f13_j6 a1 z44)) else (f13_j6 a1 false))) else (f13_j6 a1 false))
theorem f13_j5_ok {d : Nat} (hd : 6 ≤ d) (a1 : GScreen) {r : Int} {Q : PX → St → Prop} (hQ : ∀ e st', f13_Q r e st' → Q e st') (p67 : Bool) (hS : f13_j5 a1 p67 = some r) {st : St} (he : keepSt [1, 5] [(16, .id 16)] [] st = f13_j5_J a1 p67) : ZR (lev codes baseL (d - 1)) Q c13_2 [] st := by
  refine zrKeep he ?_
  unfold f13_j5 at hS
  refine zrSeq ?_
  refine zrReg ?_
  refine zlRun (n := 2) (j := 2) rfl (by kernel_rfl) ?_
  refine zlSplit 131 p67 (by kernel_rfl) (fun hc => ?_) (fun hc => ?_)
  · replace hS := cond_t hc hS
    refine zlRun (n := 3) (j := 5) rfl (by kernel_rfl) ?_
    refine bindE hS (fun z43 hz43 hS => ?_)
    refine zlOp (d := some 135) (op := (.call 22 [(.tmp 134), (.const (.int .i64 0)), (.const (.int .i64 59))])) (g := (some (131, true))) (j := 6) rfl (by kernel_rfl) (by kernel_rfl) (ev_callA (by kernel_rfl) (f22_ok (d - 1) (dpt hd rfl) a1.Saved.Row 0 59 z43 hz43) (by kernel_rfl) (by kernel_rfl)) ?_
    refine zlRun (n := 2) (j := 8) rfl (by kernel_rfl) ?_
    refine zlSplit 137 z43 (by kernel_rfl) (fun hc => ?_) (fun hc => ?_)
    · replace hS := cond_t hc hS
      refine zlRun (n := 3) (j := 11) rfl (by kernel_rfl) ?_
      refine bindE hS (fun z44 hz44 hS => ?_)
      refine zlOp (d := some 141) (op := (.call 22 [(.tmp 140), (.const (.int .i64 0)), (.const (.int .i64 159))])) (g := (some (137, true))) (j := 12) rfl (by kernel_rfl) (by kernel_rfl) (ev_callA (by kernel_rfl) (f22_ok (d - 1) (dpt hd rfl) a1.Saved.Col 0 159 z44 hz44) (by kernel_rfl) (by kernel_rfl)) ?_
      refine zlRun (n := 2) (j := 14) rfl (by kernel_rfl) ?_
      refine zlEnd (by kernel_rfl) ?_
      refine zkSeq ?_
      exact f13_j6_ok hd a1 hQ z44 hS (by kernel_rfl)
    · replace hS := cond_f hc hS
      refine zlRun (n := 6) (j := 14) rfl (by kernel_rfl) ?_
      refine zlEnd (by kernel_rfl) ?_
      refine zkSeq ?_
      exact f13_j6_ok hd a1 hQ false hS (by kernel_rfl)
  · replace hS := cond_f hc hS
    refine zlRun (n := 12) (j := 14) rfl (by kernel_rfl) ?_
    refine zlEnd (by kernel_rfl) ?_
    refine zkSeq ?_
    exact f13_j6_ok hd a1 hQ false hS (by kernel_rfl)
def f13_j4_J (a1 : GScreen) (p64 : Bool) : St := ⟨(up (up (fun _ => .un) 5 (.d (.bool p64))) 1 (.r (.ptr 16 0 0))), (up (hB fun _ => 0) 16 ⟨0, some (.box (bx_GScreen a1 (.d (.sl a1.Grid.Cells.length (e_GCell.cells a1.Grid.Cells))) (.d (.sl a1.Other.Cells.length (e_GCell.cells a1.Other.Cells))) (.d (.sl a1.Past.length (e_GLine.cells a1.Past)))))⟩)⟩
noncomputable def f13_j4 (a1 : GScreen) (p64 : Bool) : Option (Int) := (bif p64 then ((f22 a1.Shift 0 1).bind fun z45 => (bif z45 then ((f22 a1.Saved.Shift 0 1).bind fun z46 => (f13_j5 a1 z46)) else (f13_j5 a1 false))) else (f13_j5 a1 false))
theorem f13_j4_ok {d : Nat} (hd : 6 ≤ d) (a1 : GScreen) {r : Int} {Q : PX → St → Prop} (hQ : ∀ e st', f13_Q r e st' → Q e st') (p64 : Bool) (hS : f13_j4 a1 p64 = some r) {st : St} (he : keepSt [1, 5] [(16, .id 16)] [] st = f13_j4_J a1 p64) : ZR (lev codes baseL (d - 1)) Q c13_3 [] st := by
  refine zrKeep he ?_
  unfold f13_j4 at hS
  refine zrSeq ?_
  refine zrReg ?_
  refine zlRun (n := 2) (j := 2) rfl (by kernel_rfl) ?_
  refine zlSplit 119 p64 (by kernel_rfl) (fun hc => ?_) (fun hc => ?_)
  · replace hS := cond_t hc hS
    refine zlRun (n := 2) (j := 4) rfl (by kernel_rfl) ?_
    refine bindE hS (fun z45 hz45 hS => ?_)
    refine zlOp (d := some 122) (op := (.call 22 [(.tmp 121), (.const (.int .i64 0)), (.const (.int .i64 1))])) (g := (some (119, true))) (j := 5) rfl (by kernel_rfl) (by kernel_rfl) (ev_callA (by kernel_rfl) (f22_ok (d - 1) (dpt hd rfl) a1.Shift 0 1 z45 hz45) (by kernel_rfl) (by kernel_rfl)) ?_
    refine zlRun (n := 2) (j := 7) rfl (by kernel_rfl) ?_
    refine zlSplit 124 z45 (by kernel_rfl) (fun hc => ?_) (fun hc => ?_)
    · replace hS := cond_t hc hS
      refine zlRun (n := 3) (j := 10) rfl (by kernel_rfl) ?_
      refine bindE hS (fun z46 hz46 hS => ?_)
      refine zlOp (d := some 128) (op := (.call 22 [(.tmp 127), (.const (.int .i64 0)), (.const (.int .i64 1))])) (g := (some (124, true))) (j := 11) rfl (by kernel_rfl) (by kernel_rfl) (ev_callA (by kernel_rfl) (f22_ok (d - 1) (dpt hd rfl) a1.Saved.Shift 0 1 z46 hz46) (by kernel_rfl) (by kernel_rfl)) ?_
      refine zlRun (n := 2) (j := 13) rfl (by kernel_rfl) ?_
      refine zlEnd (by kernel_rfl) ?_
      refine zkSeq ?_
      exact f13_j5_ok hd a1 hQ z46 hS (by kernel_rfl)
    · replace hS := cond_f hc hS
      refine zlRun (n := 6) (j := 13) rfl (by kernel_rfl) ?_
      refine zlEnd (by kernel_rfl) ?_
      refine zkSeq ?_
      exact f13_j5_ok hd a1 hQ false hS (by kernel_rfl)
  · replace hS := cond_f hc hS
    refine zlRun (n := 11) (j := 13) rfl (by kernel_rfl) ?_
    refine zlEnd (by kernel_rfl) ?_
    refine zkSeq ?_
    exact f13_j5_ok hd a1 hQ false hS (by kernel_rfl)
def f13_j8_J (a1 : GScreen) (p78 : Bool) : St := ⟨(up (up (up (fun _ => .un) 98 (.d (.int .i64 1))) 5 (.d (.bool p78))) 1 (.r (.ptr 16 0 0))), (up (hB fun _ => 0) 16 ⟨0, some (.box (bx_GScreen a1 (.d (.sl a1.Grid.Cells.length (e_GCell.cells a1.Grid.Cells))) (.d (.sl a1.Other.Cells.length (e_GCell.cells a1.Other.Cells))) (.d (.sl a1.Past.length (e_GLine.cells a1.Past)))))⟩)⟩
noncomputable def f13_j8 (a1 : GScreen) (p78 : Bool) : Option (Int) := (bif p78 then ((f23 a1.Pages.2).bind fun z51 => (bif z51 then ((f23 a1.Saved.Pages.2).bind fun z52 => (f13_j4 a1 z52)) else (f13_j4 a1 false))) else (f13_j4 a1 false))
theorem f13_j8_ok {d : Nat} (hd : 6 ≤ d) (a1 : GScreen) {r : Int} {Q : PX → St → Prop} (hQ : ∀ e st', f13_Q r e st' → Q e st') (p78 : Bool) (hS : f13_j8 a1 p78 = some r) {st : St} (he : keepSt [1, 5, 98] [(16, .id 16)] [] st = f13_j8_J a1 p78) : ZR (lev codes baseL (d - 1)) Q c13_4 [.seq c13_5, .blk 0, .seq c13_3] st := by
  refine zrKeep he ?_
  unfold f13_j8 at hS
  refine zrSeq ?_
  refine zrBlk ?_
  refine zrSeq ?_
  refine zrReg ?_
  refine zlRun (n := 2) (j := 2) rfl (by kernel_rfl) ?_
  refine zlEnd (by kernel_rfl) ?_
  refine zkSeq ?_
  refine zrReg ?_
  refine zlRun (n := 2) (j := 2) rfl (by kernel_rfl) ?_
  refine zlSplit 102 p78 (by kernel_rfl) (fun hc => ?_) (fun hc => ?_)
  · replace hS := cond_t hc hS
    refine zlRun (n := 4) (j := 6) rfl (by kernel_rfl) ?_
    refine bindE hS (fun z51 hz51 hS => ?_)
    refine zlOp (d := some 107) (op := (.call 23 [(.tmp 106)])) (g := (some (102, true))) (j := 7) rfl (by kernel_rfl) (by kernel_rfl) (ev_callA (by kernel_rfl) (f23_ok (d - 1) (dpt hd rfl) a1.Pages.2 z51 hz51) (by kernel_rfl) (by kernel_rfl)) ?_
    refine zlRun (n := 2) (j := 9) rfl (by kernel_rfl) ?_
    refine zlSplit 109 z51 (by kernel_rfl) (fun hc => ?_) (fun hc => ?_)
    · replace hS := cond_t hc hS
      refine zlRun (n := 5) (j := 14) rfl (by kernel_rfl) ?_
      refine bindE hS (fun z52 hz52 hS => ?_)
      refine zlOp (d := some 115) (op := (.call 23 [(.tmp 114)])) (g := (some (109, true))) (j := 15) rfl (by kernel_rfl) (by kernel_rfl) (ev_callA (by kernel_rfl) (f23_ok (d - 1) (dpt hd rfl) a1.Saved.Pages.2 z52 hz52) (by kernel_rfl) (by kernel_rfl)) ?_
      refine zlRun (n := 2) (j := 17) rfl (by kernel_rfl) ?_
      refine zlEnd (by kernel_rfl) ?_
      refine zkBlk ?_
      refine zkSeq ?_
      refine zrReg ?_
      refine zlRun (n := 2) (j := 2) rfl (by kernel_rfl) ?_
      refine zlEnd (by kernel_rfl) ?_
      refine zkSeq ?_
      refine zrLoop1 ?_
      refine zrSeq ?_
      refine zrReg ?_
      refine zlRun (n := 1) (j := 1) rfl (by kernel_rfl) ?_
      refine zlEnd (by kernel_rfl) ?_
      refine zkSeq ?_
      refine zrSeq ?_
      refine zrCondF (by kernel_rfl) ?_
      refine zrExit ?_
      refine zkSeqX ?_
      refine zkSeqX ?_
      refine zkBlkX ?_
      refine zkSeq ?_
      exact f13_j4_ok hd a1 hQ z52 hS (by kernel_rfl)
    · replace hS := cond_f hc hS
      refine zlRun (n := 8) (j := 17) rfl (by kernel_rfl) ?_
      refine zlEnd (by kernel_rfl) ?_
      refine zkBlk ?_
      refine zkSeq ?_
      refine zrReg ?_
      refine zlRun (n := 2) (j := 2) rfl (by kernel_rfl) ?_
      refine zlEnd (by kernel_rfl) ?_
      refine zkSeq ?_
      refine zrLoop1 ?_
      refine zrSeq ?_
      refine zrReg ?_
      refine zlRun (n := 1) (j := 1) rfl (by kernel_rfl) ?_
      refine zlEnd (by kernel_rfl) ?_
      refine zkSeq ?_
      refine zrSeq ?_
      refine zrCondF (by kernel_rfl) ?_
      refine zrExit ?_
      refine zkSeqX ?_
      refine zkSeqX ?_
      refine zkBlkX ?_
      refine zkSeq ?_
      exact f13_j4_ok hd a1 hQ false hS (by kernel_rfl)
  · replace hS := cond_f hc hS
    refine zlRun (n := 15) (j := 17) rfl (by kernel_rfl) ?_
    refine zlEnd (by kernel_rfl) ?_
    refine zkBlk ?_
    refine zkSeq ?_
    refine zrReg ?_
    refine zlRun (n := 2) (j := 2) rfl (by kernel_rfl) ?_
    refine zlEnd (by kernel_rfl) ?_
    refine zkSeq ?_
    refine zrLoop1 ?_
    refine zrSeq ?_
    refine zrReg ?_
    refine zlRun (n := 1) (j := 1) rfl (by kernel_rfl) ?_
    refine zlEnd (by kernel_rfl) ?_
    refine zkSeq ?_
    refine zrSeq ?_
    refine zrCondF (by kernel_rfl) ?_
    refine zrExit ?_
    refine zkSeqX ?_
    refine zkSeqX ?_
    refine zkBlkX ?_
    refine zkSeq ?_
    exact f13_j4_ok hd a1 hQ false hS (by kernel_rfl)
def f13_j9_J (a1 : GScreen) : St := ⟨(up (up (up (fun _ => .un) 98 (.d (.int .i64 1))) 5 (.d (.bool false))) 1 (.r (.ptr 16 0 0))), (up (hB fun _ => 0) 16 ⟨0, some (.box (bx_GScreen a1 (.d (.sl a1.Grid.Cells.length (e_GCell.cells a1.Grid.Cells))) (.d (.sl a1.Other.Cells.length (e_GCell.cells a1.Other.Cells))) (.d (.sl a1.Past.length (e_GLine.cells a1.Past)))))⟩)⟩
noncomputable def f13_j9 (a1 : GScreen) : Option (Int) := (f13_j4 a1 false)
theorem f13_j9_ok {d : Nat} (hd : 6 ≤ d) (a1 : GScreen) {r : Int} {Q : PX → St → Prop} (hQ : ∀ e st', f13_Q r e st' → Q e st')  (hS : f13_j9 a1 = some r) {st : St} (he : keepSt [1, 5, 98] [(16, .id 16)] [] st = f13_j9_J a1) : ZR (lev codes baseL (d - 1)) Q c13_4 [.seq c13_5, .blk 0, .seq c13_3] st := by
  refine zrKeep he ?_
  unfold f13_j9 at hS
  refine zrSeq ?_
  refine zrBlk ?_
  refine zrSeq ?_
  refine zrReg ?_
  refine zlRun (n := 2) (j := 2) rfl (by kernel_rfl) ?_
  refine zlEnd (by kernel_rfl) ?_
  refine zkSeq ?_
  refine zrReg ?_
  refine zlRun (n := 17) (j := 17) rfl (by kernel_rfl) ?_
  refine zlEnd (by kernel_rfl) ?_
  refine zkBlk ?_
  refine zkSeq ?_
  refine zrReg ?_
  refine zlRun (n := 2) (j := 2) rfl (by kernel_rfl) ?_
  refine zlEnd (by kernel_rfl) ?_
  refine zkSeq ?_
  refine zrLoop1 ?_
  refine zrSeq ?_
  refine zrReg ?_
  refine zlRun (n := 1) (j := 1) rfl (by kernel_rfl) ?_
  refine zlEnd (by kernel_rfl) ?_
  refine zkSeq ?_
  refine zrSeq ?_
  refine zrCondF (by kernel_rfl) ?_
  refine zrExit ?_
  refine zkSeqX ?_
  refine zkSeqX ?_
  refine zkBlkX ?_
  refine zkSeq ?_
  exact f13_j4_ok hd a1 hQ false hS (by kernel_rfl)
def f13_j10_J (a1 : GScreen) : St := ⟨(up (up (up (fun _ => .un) 98 (.d (.int .i64 1))) 5 (.d (.bool false))) 1 (.r (.ptr 16 0 0))), (up (hB fun _ => 0) 16 ⟨0, some (.box (bx_GScreen a1 (.d (.sl a1.Grid.Cells.length (e_GCell.cells a1.Grid.Cells))) (.d (.sl a1.Other.Cells.length (e_GCell.cells a1.Other.Cells))) (.d (.sl a1.Past.length (e_GLine.cells a1.Past)))))⟩)⟩
noncomputable def f13_j10 (a1 : GScreen) : Option (Int) := (f13_j4 a1 false)
theorem f13_j10_ok {d : Nat} (hd : 6 ≤ d) (a1 : GScreen) {r : Int} {Q : PX → St → Prop} (hQ : ∀ e st', f13_Q r e st' → Q e st')  (hS : f13_j10 a1 = some r) {st : St} (he : keepSt [1, 5, 98] [(16, .id 16)] [] st = f13_j10_J a1) : ZR (lev codes baseL (d - 1)) Q c13_4 [.seq c13_5, .blk 0, .seq c13_3] st := by
  refine zrKeep he ?_
  unfold f13_j10 at hS
  refine zrSeq ?_
  refine zrBlk ?_
  refine zrSeq ?_
  refine zrReg ?_
  refine zlRun (n := 2) (j := 2) rfl (by kernel_rfl) ?_
  refine zlEnd (by kernel_rfl) ?_
  refine zkSeq ?_
  refine zrReg ?_
  refine zlRun (n := 17) (j := 17) rfl (by kernel_rfl) ?_
  refine zlEnd (by kernel_rfl) ?_
  refine zkBlk ?_
  refine zkSeq ?_
  refine zrReg ?_
  refine zlRun (n := 2) (j := 2) rfl (by kernel_rfl) ?_
  refine zlEnd (by kernel_rfl) ?_
  refine zkSeq ?_
  refine zrLoop1 ?_
  refine zrSeq ?_
  refine zrReg ?_
  refine zlRun (n := 1) (j := 1) rfl (by kernel_rfl) ?_
  refine zlEnd (by kernel_rfl) ?_
  refine zkSeq ?_
  refine zrSeq ?_
  refine zrCondF (by kernel_rfl) ?_
  refine zrExit ?_
  refine zkSeqX ?_
  refine zkSeqX ?_
  refine zkBlkX ?_
  refine zkSeq ?_
  exact f13_j4_ok hd a1 hQ false hS (by kernel_rfl)
def f13_j7_J (a1 : GScreen) (p71 : Bool) : St := ⟨(up (up (up (fun _ => .un) 98 (.d (.int .i64 0))) 5 (.d (.bool p71))) 1 (.r (.ptr 16 0 0))), (up (hB fun _ => 0) 16 ⟨0, some (.box (bx_GScreen a1 (.d (.sl a1.Grid.Cells.length (e_GCell.cells a1.Grid.Cells))) (.d (.sl a1.Other.Cells.length (e_GCell.cells a1.Other.Cells))) (.d (.sl a1.Past.length (e_GLine.cells a1.Past)))))⟩)⟩
noncomputable def f13_j7 (a1 : GScreen) (p71 : Bool) : Option (Int) := (bif p71 then ((f23 a1.Pages.1).bind fun z47 => (bif z47 then ((f23 a1.Saved.Pages.1).bind fun z48 => (f13_j8 a1 z48)) else (f13_j9 a1 ))) else (f13_j10 a1 ))
theorem f13_j7_ok {d : Nat} (hd : 6 ≤ d) (a1 : GScreen) {r : Int} {Q : PX → St → Prop} (hQ : ∀ e st', f13_Q r e st' → Q e st') (p71 : Bool) (hS : f13_j7 a1 p71 = some r) {st : St} (he : keepSt [1, 5, 98] [(16, .id 16)] [] st = f13_j7_J a1 p71) : ZR (lev codes baseL (d - 1)) Q c13_4 [.seq c13_5, .blk 0, .seq c13_3] st := by
  refine zrKeep he ?_
  unfold f13_j7 at hS
  refine zrSeq ?_
  refine zrBlk ?_
  refine zrSeq ?_
  refine zrReg ?_
  refine zlRun (n := 2) (j := 2) rfl (by kernel_rfl) ?_
  refine zlEnd (by kernel_rfl) ?_
  refine zkSeq ?_
  refine zrReg ?_
  refine zlRun (n := 2) (j := 2) rfl (by kernel_rfl) ?_
  refine zlSplit 102 p71 (by kernel_rfl) (fun hc => ?_) (fun hc => ?_)
  · replace hS := cond_t hc hS
    refine zlRun (n := 4) (j := 6) rfl (by kernel_rfl) ?_
    refine bindE hS (fun z47 hz47 hS => ?_)
    refine zlOp (d := some 107) (op := (.call 23 [(.tmp 106)])) (g := (some (102, true))) (j := 7) rfl (by kernel_rfl) (by kernel_rfl) (ev_callA (by kernel_rfl) (f23_ok (d - 1) (dpt hd rfl) a1.Pages.1 z47 hz47) (by kernel_rfl) (by kernel_rfl)) ?_
    refine zlRun (n := 2) (j := 9) rfl (by kernel_rfl) ?_
    refine zlSplit 109 z47 (by kernel_rfl) (fun hc => ?_) (fun hc => ?_)
    · replace hS := cond_t hc hS
      refine zlRun (n := 5) (j := 14) rfl (by kernel_rfl) ?_
      refine bindE hS (fun z48 hz48 hS => ?_)
      refine zlOp (d := some 115) (op := (.call 23 [(.tmp 114)])) (g := (some (109, true))) (j := 15) rfl (by kernel_rfl) (by kernel_rfl) (ev_callA (by kernel_rfl) (f23_ok (d - 1) (dpt hd rfl) a1.Saved.Pages.1 z48 hz48) (by kernel_rfl) (by kernel_rfl)) ?_
      refine zlRun (n := 2) (j := 17) rfl (by kernel_rfl) ?_
      refine zlEnd (by kernel_rfl) ?_
      refine zkBlk ?_
      refine zkSeq ?_
      refine zrReg ?_
      refine zlRun (n := 2) (j := 2) rfl (by kernel_rfl) ?_
      refine zlEnd (by kernel_rfl) ?_
      refine zkSeq ?_
      refine zrLoop1 ?_
      refine zrSeq ?_
      refine zrReg ?_
      refine zlRun (n := 1) (j := 1) rfl (by kernel_rfl) ?_
      refine zlEnd (by kernel_rfl) ?_
      refine zkSeq ?_
      refine zrSeq ?_
      refine zrCondT (by kernel_rfl) ?_
      refine zrSkip ?_
      refine zkSeq ?_
      exact f13_j8_ok hd a1 hQ z48 hS (by kernel_rfl)
    · replace hS := cond_f hc hS
      refine zlRun (n := 8) (j := 17) rfl (by kernel_rfl) ?_
      refine zlEnd (by kernel_rfl) ?_
      refine zkBlk ?_
      refine zkSeq ?_
      refine zrReg ?_
      refine zlRun (n := 2) (j := 2) rfl (by kernel_rfl) ?_
      refine zlEnd (by kernel_rfl) ?_
      refine zkSeq ?_
      refine zrLoop1 ?_
      refine zrSeq ?_
      refine zrReg ?_
      refine zlRun (n := 1) (j := 1) rfl (by kernel_rfl) ?_
      refine zlEnd (by kernel_rfl) ?_
      refine zkSeq ?_
      refine zrSeq ?_
      refine zrCondT (by kernel_rfl) ?_
      refine zrSkip ?_
      refine zkSeq ?_
      exact f13_j9_ok hd a1 hQ  hS (by kernel_rfl)
  · replace hS := cond_f hc hS
    refine zlRun (n := 15) (j := 17) rfl (by kernel_rfl) ?_
    refine zlEnd (by kernel_rfl) ?_
    refine zkBlk ?_
    refine zkSeq ?_
    refine zrReg ?_
    refine zlRun (n := 2) (j := 2) rfl (by kernel_rfl) ?_
    refine zlEnd (by kernel_rfl) ?_
    refine zkSeq ?_
    refine zrLoop1 ?_
    refine zrSeq ?_
    refine zrReg ?_
    refine zlRun (n := 1) (j := 1) rfl (by kernel_rfl) ?_
    refine zlEnd (by kernel_rfl) ?_
    refine zkSeq ?_
    refine zrSeq ?_
    refine zrCondT (by kernel_rfl) ?_
    refine zrSkip ?_
    refine zkSeq ?_
    exact f13_j10_ok hd a1 hQ  hS (by kernel_rfl)
def f13_j3_J (a1 : GScreen) (p51 : Bool) : St := ⟨(up (up (fun _ => .un) 5 (.d (.bool p51))) 1 (.r (.ptr 16 0 0))), (up (hB fun _ => 0) 16 ⟨0, some (.box (bx_GScreen a1 (.d (.sl a1.Grid.Cells.length (e_GCell.cells a1.Grid.Cells))) (.d (.sl a1.Other.Cells.length (e_GCell.cells a1.Other.Cells))) (.d (.sl a1.Past.length (e_GLine.cells a1.Past)))))⟩)⟩
noncomputable def f13_j3 (a1 : GScreen) (p51 : Bool) : Option (Int) := (f13_j7 a1 p51)
theorem f13_j3_ok {d : Nat} (hd : 6 ≤ d) (a1 : GScreen) {r : Int} {Q : PX → St → Prop} (hQ : ∀ e st', f13_Q r e st' → Q e st') (p51 : Bool) (hS : f13_j3 a1 p51 = some r) {st : St} (he : keepSt [1, 5] [(16, .id 16)] [] st = f13_j3_J a1 p51) : ZR (lev codes baseL (d - 1)) Q c13_6 [] st := by
  refine zrKeep he ?_
  unfold f13_j3 at hS
  refine zrSeq ?_
  refine zrSeq ?_
  refine zrReg ?_
  refine zlRun (n := 1) (j := 1) rfl (by kernel_rfl) ?_
  refine zlEnd (by kernel_rfl) ?_
  refine zkSeq ?_
  refine zrBlk ?_
  refine zrLoop1 ?_
  refine zrSeq ?_
  refine zrReg ?_
  refine zlRun (n := 1) (j := 1) rfl (by kernel_rfl) ?_
  refine zlEnd (by kernel_rfl) ?_
  refine zkSeq ?_
  refine zrSeq ?_
  refine zrCondT (by kernel_rfl) ?_
  refine zrSkip ?_
  refine zkSeq ?_
  exact f13_j7_ok hd a1 hQ p51 hS (by kernel_rfl)
def f13_j2_J (a1 : GScreen) (p47 : Bool) : St := ⟨(up (up (fun _ => .un) 5 (.d (.bool p47))) 1 (.r (.ptr 16 0 0))), (up (hB fun _ => 0) 16 ⟨0, some (.box (bx_GScreen a1 (.d (.sl a1.Grid.Cells.length (e_GCell.cells a1.Grid.Cells))) (.d (.sl a1.Other.Cells.length (e_GCell.cells a1.Other.Cells))) (.d (.sl a1.Past.length (e_GLine.cells a1.Past)))))⟩)⟩
noncomputable def f13_j2 (a1 : GScreen) (p47 : Bool) : Option (Int) := (bif p47 then ((f18 a1.Pen).bind fun z53 => (bif (decide (z53 = 0)) then ((f18 a1.Saved.Pen).bind fun z54 => (bif (decide (z54 = 0)) then ((f22 a1.Modes 0 2047).bind fun z55 => (f13_j3 a1 z55)) else (f13_j3 a1 false))) else (f13_j3 a1 false))) else (f13_j3 a1 false))
theorem f13_j2_ok {d : Nat} (hd : 6 ≤ d) (a1 : GScreen) {r : Int} {Q : PX → St → Prop} (hQ : ∀ e st', f13_Q r e st' → Q e st') (p47 : Bool) (hS : f13_j2 a1 p47 = some r) {st : St} (he : keepSt [1, 5] [(16, .id 16)] [] st = f13_j2_J a1 p47) : ZR (lev codes baseL (d - 1)) Q c13_7 [] st := by
  refine zrKeep he ?_
  unfold f13_j2 at hS
  refine zrSeq ?_
  refine zrReg ?_
  refine zlRun (n := 2) (j := 2) rfl (by kernel_rfl) ?_
  refine zlSplit 80 p47 (by kernel_rfl) (fun hc => ?_) (fun hc => ?_)
  · replace hS := cond_t hc hS
    refine zlRun (n := 2) (j := 4) rfl (by kernel_rfl) ?_
    refine bindE hS (fun z53 hz53 hS => ?_)
    refine zlOp (d := some 83) (op := (.call 18 [(.tmp 82)])) (g := (some (80, true))) (j := 5) rfl (by kernel_rfl) (by kernel_rfl) (ev_callA (by kernel_rfl) (f18_ok (d - 1) (dpt hd rfl) a1.Pen z53 hz53) (by kernel_rfl) (by kernel_rfl)) ?_
    refine zlBool (d := 84) (op := (.cmpI .eql (.tmp 83) (.const (.int .i64 0)))) (g := (some (80, true))) (j := 6) (decide (z53 = 0)) rfl (by kernel_rfl) (by kernel_rfl) (by kernel_rfl) (fun hc => ?_) (fun hc => ?_)
    · replace hS := cond_t hc hS
      refine zlRun (n := 5) (j := 11) rfl (by kernel_rfl) ?_
      refine bindE hS (fun z54 hz54 hS => ?_)
      refine zlOp (d := some 90) (op := (.call 18 [(.tmp 89)])) (g := (some (86, true))) (j := 12) rfl (by kernel_rfl) (by kernel_rfl) (ev_callA (by kernel_rfl) (f18_ok (d - 1) (dpt hd rfl) a1.Saved.Pen z54 hz54) (by kernel_rfl) (by kernel_rfl)) ?_
      refine zlBool (d := 91) (op := (.cmpI .eql (.tmp 90) (.const (.int .i64 0)))) (g := (some (86, true))) (j := 13) (decide (z54 = 0)) rfl (by kernel_rfl) (by kernel_rfl) (by kernel_rfl) (fun hc => ?_) (fun hc => ?_)
      · replace hS := cond_t hc hS
        refine zlRun (n := 4) (j := 17) rfl (by kernel_rfl) ?_
        refine bindE hS (fun z55 hz55 hS => ?_)
        refine zlOp (d := some 96) (op := (.call 22 [(.tmp 95), (.const (.int .i64 0)), (.const (.int .i64 2047))])) (g := (some (93, true))) (j := 18) rfl (by kernel_rfl) (by kernel_rfl) (ev_callA (by kernel_rfl) (f22_ok (d - 1) (dpt hd rfl) a1.Modes 0 2047 z55 hz55) (by kernel_rfl) (by kernel_rfl)) ?_
        refine zlRun (n := 2) (j := 20) rfl (by kernel_rfl) ?_
        refine zlEnd (by kernel_rfl) ?_
        refine zkSeq ?_
        exact f13_j3_ok hd a1 hQ z55 hS (by kernel_rfl)
      · replace hS := cond_f hc hS
        refine zlRun (n := 7) (j := 20) rfl (by kernel_rfl) ?_
        refine zlEnd (by kernel_rfl) ?_
        refine zkSeq ?_
        exact f13_j3_ok hd a1 hQ false hS (by kernel_rfl)
    · replace hS := cond_f hc hS
      refine zlRun (n := 14) (j := 20) rfl (by kernel_rfl) ?_
      refine zlEnd (by kernel_rfl) ?_
      refine zkSeq ?_
      exact f13_j3_ok hd a1 hQ false hS (by kernel_rfl)
  · replace hS := cond_f hc hS
    refine zlRun (n := 18) (j := 20) rfl (by kernel_rfl) ?_
    refine zlEnd (by kernel_rfl) ?_
    refine zkSeq ?_
    exact f13_j3_ok hd a1 hQ false hS (by kernel_rfl)
def f13_j1_J (a1 : GScreen) (p43 : Bool) : St := ⟨(up (up (up (fun _ => .un) 5 (.d (.bool p43))) 3 (.r (.ptr 32 0 0))) 1 (.r (.ptr 16 0 0))), (up (up (hB fun _ => 0) 32 ⟨0, some (.box ((.d (.int .i64 a1.Grid.Wide)) :: ((.d (.int .i64 a1.Grid.High)) :: ((.d (.sl a1.Grid.Cells.length (e_GCell.cells a1.Grid.Cells))) :: []))))⟩) 16 ⟨0, some (.box (bx_GScreen a1 (.d (.sl a1.Grid.Cells.length (e_GCell.cells a1.Grid.Cells))) (.d (.sl a1.Other.Cells.length (e_GCell.cells a1.Other.Cells))) (.d (.sl a1.Past.length (e_GLine.cells a1.Past)))))⟩)⟩
noncomputable def f13_j1 (a1 : GScreen) (p43 : Bool) : Option (Int) := (bif p43 then ((f22 a1.Top 0 (IntKind.i64.wrap (a1.Bottom - 1))).bind fun z56 => (bif z56 then (bif (decide (a1.Bottom ≤ a1.Grid.High)) then (f13_j2 a1 true) else (f13_j2 a1 false)) else (f13_j2 a1 false))) else (f13_j2 a1 false))
theorem f13_j1_ok {d : Nat} (hd : 6 ≤ d) (a1 : GScreen) {r : Int} {Q : PX → St → Prop} (hQ : ∀ e st', f13_Q r e st' → Q e st') (p43 : Bool) (hS : f13_j1 a1 p43 = some r) {st : St} (he : keepSt [1, 3, 5] [(16, .id 16), (32, .id 32)] [] st = f13_j1_J a1 p43) : ZR (lev codes baseL (d - 1)) Q c13_8 [] st := by
  refine zrKeep he ?_
  unfold f13_j1 at hS
  refine zrSeq ?_
  refine zrReg ?_
  refine zlRun (n := 2) (j := 2) rfl (by kernel_rfl) ?_
  refine zlSplit 64 p43 (by kernel_rfl) (fun hc => ?_) (fun hc => ?_)
  · replace hS := cond_t hc hS
    refine zlRun (n := 5) (j := 7) rfl (by kernel_rfl) ?_
    refine bindE hS (fun z56 hz56 hS => ?_)
    refine zlOp (d := some 70) (op := (.call 22 [(.tmp 66), (.const (.int .i64 0)), (.tmp 69)])) (g := (some (64, true))) (j := 8) rfl (by kernel_rfl) (by kernel_rfl) (ev_callA (by kernel_rfl) (f22_ok (d - 1) (dpt hd rfl) a1.Top 0 (IntKind.i64.wrap (a1.Bottom - 1)) z56 hz56) (by kernel_rfl) (by kernel_rfl)) ?_
    refine zlRun (n := 2) (j := 10) rfl (by kernel_rfl) ?_
    refine zlSplit 72 z56 (by kernel_rfl) (fun hc => ?_) (fun hc => ?_)
    · replace hS := cond_t hc hS
      refine zlRun (n := 4) (j := 14) rfl (by kernel_rfl) ?_
      refine zlBool (d := 77) (op := (.cmpI .leq (.tmp 74) (.tmp 76))) (g := (some (72, true))) (j := 15) (decide (a1.Bottom ≤ a1.Grid.High)) rfl (by kernel_rfl) (by kernel_rfl) (by kernel_rfl) (fun hc => ?_) (fun hc => ?_)
      · replace hS := cond_t hc hS
        refine zlRun (n := 2) (j := 17) rfl (by kernel_rfl) ?_
        refine zlEnd (by kernel_rfl) ?_
        refine zkSeq ?_
        exact f13_j2_ok hd a1 hQ true hS (by kernel_rfl)
      · replace hS := cond_f hc hS
        refine zlRun (n := 2) (j := 17) rfl (by kernel_rfl) ?_
        refine zlEnd (by kernel_rfl) ?_
        refine zkSeq ?_
        exact f13_j2_ok hd a1 hQ false hS (by kernel_rfl)
    · replace hS := cond_f hc hS
      refine zlRun (n := 7) (j := 17) rfl (by kernel_rfl) ?_
      refine zlEnd (by kernel_rfl) ?_
      refine zkSeq ?_
      exact f13_j2_ok hd a1 hQ false hS (by kernel_rfl)
  · replace hS := cond_f hc hS
    refine zlRun (n := 15) (j := 17) rfl (by kernel_rfl) ?_
    refine zlEnd (by kernel_rfl) ?_
    refine zkSeq ?_
    exact f13_j2_ok hd a1 hQ false hS (by kernel_rfl)
def f13_j0_J (a1 : GScreen) (p38 : Bool) : St := ⟨(up (up (up (fun _ => .un) 5 (.d (.bool p38))) 3 (.r (.ptr 32 0 0))) 1 (.r (.ptr 16 0 0))), (up (up (hB fun _ => 0) 32 ⟨0, some (.box ((.d (.int .i64 a1.Grid.Wide)) :: ((.d (.int .i64 a1.Grid.High)) :: ((.d (.sl a1.Grid.Cells.length (e_GCell.cells a1.Grid.Cells))) :: []))))⟩) 16 ⟨0, some (.box (bx_GScreen a1 (.d (.sl a1.Grid.Cells.length (e_GCell.cells a1.Grid.Cells))) (.d (.sl a1.Other.Cells.length (e_GCell.cells a1.Other.Cells))) (.d (.sl a1.Past.length (e_GLine.cells a1.Past)))))⟩)⟩
noncomputable def f13_j0 (a1 : GScreen) (p38 : Bool) : Option (Int) := (bif p38 then ((f22 a1.Row 0 (IntKind.i64.wrap (a1.Grid.High - 1))).bind fun z57 => (bif z57 then ((f22 a1.Col 0 (IntKind.i64.wrap (a1.Grid.Wide - 1))).bind fun z58 => (bif z58 then (bif (!a1.Late) then (f13_j1 a1 true) else (bif (decide (a1.Col = (IntKind.i64.wrap (a1.Grid.Wide - 1)))) then (f13_j1 a1 true) else (f13_j1 a1 false))) else (f13_j1 a1 false))) else (f13_j1 a1 false))) else (f13_j1 a1 false))
theorem f13_j0_ok {d : Nat} (hd : 6 ≤ d) (a1 : GScreen) {r : Int} {Q : PX → St → Prop} (hQ : ∀ e st', f13_Q r e st' → Q e st') (p38 : Bool) (hS : f13_j0 a1 p38 = some r) {st : St} (he : keepSt [1, 3, 5] [(16, .id 16), (32, .id 32)] [] st = f13_j0_J a1 p38) : ZR (lev codes baseL (d - 1)) Q c13_9 [] st := by
  refine zrKeep he ?_
  unfold f13_j0 at hS
  refine zrSeq ?_
  refine zrReg ?_
  refine zlRun (n := 2) (j := 2) rfl (by kernel_rfl) ?_
  refine zlSplit 34 p38 (by kernel_rfl) (fun hc => ?_) (fun hc => ?_)
  · replace hS := cond_t hc hS
    refine zlRun (n := 5) (j := 7) rfl (by kernel_rfl) ?_
    refine bindE hS (fun z57 hz57 hS => ?_)
    refine zlOp (d := some 40) (op := (.call 22 [(.tmp 36), (.const (.int .i64 0)), (.tmp 39)])) (g := (some (34, true))) (j := 8) rfl (by kernel_rfl) (by kernel_rfl) (ev_callA (by kernel_rfl) (f22_ok (d - 1) (dpt hd rfl) a1.Row 0 (IntKind.i64.wrap (a1.Grid.High - 1)) z57 hz57) (by kernel_rfl) (by kernel_rfl)) ?_
    refine zlRun (n := 2) (j := 10) rfl (by kernel_rfl) ?_
    refine zlSplit 42 z57 (by kernel_rfl) (fun hc => ?_) (fun hc => ?_)
    · replace hS := cond_t hc hS
      refine zlRun (n := 5) (j := 15) rfl (by kernel_rfl) ?_
      refine bindE hS (fun z58 hz58 hS => ?_)
      refine zlOp (d := some 48) (op := (.call 22 [(.tmp 44), (.const (.int .i64 0)), (.tmp 47)])) (g := (some (42, true))) (j := 16) rfl (by kernel_rfl) (by kernel_rfl) (ev_callA (by kernel_rfl) (f22_ok (d - 1) (dpt hd rfl) a1.Col 0 (IntKind.i64.wrap (a1.Grid.Wide - 1)) z58 hz58) (by kernel_rfl) (by kernel_rfl)) ?_
      refine zlRun (n := 2) (j := 18) rfl (by kernel_rfl) ?_
      refine zlSplit 50 z58 (by kernel_rfl) (fun hc => ?_) (fun hc => ?_)
      · replace hS := cond_t hc hS
        refine zlRun (n := 4) (j := 22) rfl (by kernel_rfl) ?_
        refine zlSplit 54 (!a1.Late) (by kernel_rfl) (fun hc => ?_) (fun hc => ?_)
        · replace hS := cond_t hc hS
          refine zlRun (n := 9) (j := 31) rfl (by kernel_rfl) ?_
          refine zlEnd (by kernel_rfl) ?_
          refine zkSeq ?_
          exact f13_j1_ok hd a1 hQ true hS (by kernel_rfl)
        · replace hS := cond_f hc hS
          refine zlRun (n := 5) (j := 27) rfl (by kernel_rfl) ?_
          refine zlBool (d := 60) (op := (.cmpI .eql (.tmp 56) (.tmp 59))) (g := (some (54, false))) (j := 28) (decide (a1.Col = (IntKind.i64.wrap (a1.Grid.Wide - 1)))) rfl (by kernel_rfl) (by kernel_rfl) (by kernel_rfl) (fun hc => ?_) (fun hc => ?_)
          · replace hS := cond_t hc hS
            refine zlRun (n := 3) (j := 31) rfl (by kernel_rfl) ?_
            refine zlEnd (by kernel_rfl) ?_
            refine zkSeq ?_
            exact f13_j1_ok hd a1 hQ true hS (by kernel_rfl)
          · replace hS := cond_f hc hS
            refine zlRun (n := 3) (j := 31) rfl (by kernel_rfl) ?_
            refine zlEnd (by kernel_rfl) ?_
            refine zkSeq ?_
            exact f13_j1_ok hd a1 hQ false hS (by kernel_rfl)
      · replace hS := cond_f hc hS
        refine zlRun (n := 13) (j := 31) rfl (by kernel_rfl) ?_
        refine zlEnd (by kernel_rfl) ?_
        refine zkSeq ?_
        exact f13_j1_ok hd a1 hQ false hS (by kernel_rfl)
    · replace hS := cond_f hc hS
      refine zlRun (n := 21) (j := 31) rfl (by kernel_rfl) ?_
      refine zlEnd (by kernel_rfl) ?_
      refine zkSeq ?_
      exact f13_j1_ok hd a1 hQ false hS (by kernel_rfl)
  · replace hS := cond_f hc hS
    refine zlRun (n := 29) (j := 31) rfl (by kernel_rfl) ?_
    refine zlEnd (by kernel_rfl) ?_
    refine zkSeq ?_
    exact f13_j1_ok hd a1 hQ false hS (by kernel_rfl)
noncomputable def f13 (a1 : GScreen) : Option (Int) := ((f21 a1.Grid).bind fun z59 => (bif (decide (z59 = 0)) then ((f21 a1.Other).bind fun z60 => (bif (decide (z60 = 0)) then (bif (decide (a1.Grid.Wide = a1.Other.Wide)) then (bif (decide (a1.Grid.High = a1.Other.High)) then (f13_j0 a1 true) else (f13_j0 a1 false)) else (f13_j0 a1 false)) else (f13_j0 a1 false))) else (f13_j0 a1 false)))
theorem f13_ok (d : Nat) (hd : 6 ≤ d) (a1 : GScreen) (r : Int) (hS : f13 a1 = some r) : lev codes baseL d 13 [(.agg ((.d (.int .i64 a1.Grid.Wide)) :: ((.d (.int .i64 a1.Grid.High)) :: ((.d (.sl a1.Grid.Cells.length (e_GCell.cells a1.Grid.Cells))) :: ((.d (.int .i64 a1.Row)) :: ((.d (.int .i64 a1.Col)) :: ((.d (.bool a1.Late)) :: ((.d (.int .i64 a1.Top)) :: ((.d (.int .i64 a1.Bottom)) :: ((.d (.int .i64 a1.Pen.Flags)) :: ((.d (.int .i64 a1.Pen.Fore)) :: ((.d (.int .i64 a1.Pen.Back)) :: ((.d (.int .i64 a1.Modes)) :: (((eInt .u64).row 4 a1.Stops.Bits) ++ ((.d (.int .i64 a1.Pages.1)) :: ((.d (.int .i64 a1.Pages.2)) :: ((.d (.int .i64 a1.Shift)) :: ((.d (.int .i64 a1.Saved.Row)) :: ((.d (.int .i64 a1.Saved.Col)) :: ((.d (.int .i64 a1.Saved.Pen.Flags)) :: ((.d (.int .i64 a1.Saved.Pen.Fore)) :: ((.d (.int .i64 a1.Saved.Pen.Back)) :: ((.d (.bool a1.Saved.Origin)) :: ((.d (.int .i64 a1.Saved.Pages.1)) :: ((.d (.int .i64 a1.Saved.Pages.2)) :: ((.d (.int .i64 a1.Saved.Shift)) :: ((.d (.int .i64 a1.Other.Wide)) :: ((.d (.int .i64 a1.Other.High)) :: ((.d (.sl a1.Other.Cells.length (e_GCell.cells a1.Other.Cells))) :: ((.d (.str a1.Title)) :: ((.d (.sl a1.Past.length (e_GLine.cells a1.Past))) :: [])))))))))))))))))))))))))))))))] [] = some ((.d (.int .i64 r)), []) := by
  refine lev_go codes13 rfl rfl (Nat.le_trans (Nat.le_of_ble_eq_true rfl) hd) fun Q hQ => ?_
  unfold f13 at hS
  show ZR _ Q c13_b [] _
  replace hQ : ∀ e st', f13_Q r e st' → Q e st' := hQ
  refine zrSeq ?_
  refine zrReg ?_
  refine zlRun (n := 2) (j := 2) rfl (by kernel_rfl) ?_
  refine zlEnd (by kernel_rfl) ?_
  refine zkSeq ?_
  refine zrSeq ?_
  refine zrRegD ?_
  refine zdRun (n := 8) (j := 8) (ts := [[], [(16, false)], [], [(16, false)], [(32, true)], [(40, true)], [(32, true)], [(40, true)]]) (acc' := [[], [(16, false)], [], [(16, false)], [(32, true)], [(40, true)], [(32, true)], [(40, true)]]) rfl (by kernel_rfl) (by kernel_rfl) (by kernel_rfl) ?_
  refine zdEnd (by kernel_rfl) (by kernel_rfl) ?_
  refine zkSeq ?_
  refine zrSeq ?_
  refine zrReg ?_
  refine zlRun (n := 1) (j := 1) rfl (by kernel_rfl) ?_
  refine bindE hS (fun z59 hz59 hS => ?_)
  refine zlOp (d := some 12) (op := (.call 21 [(.tmp 11)])) (g := none) (j := 2) rfl (by kernel_rfl) (by kernel_rfl) (ev_callA (by kernel_rfl) (f21_ok (d - 1) (dpt hd rfl) a1.Grid z59 hz59) (by kernel_rfl) (by kernel_rfl)) ?_
  refine zlBool (d := 13) (op := (.cmpI .eql (.tmp 12) (.const (.int .i64 0)))) (g := none) (j := 3) (decide (z59 = 0)) rfl (by kernel_rfl) (by kernel_rfl) (by kernel_rfl) (fun hc => ?_) (fun hc => ?_)
  · replace hS := cond_t hc hS
    refine zlRun (n := 2) (j := 5) rfl (by kernel_rfl) ?_
    refine bindE hS (fun z60 hz60 hS => ?_)
    refine zlOp (d := some 16) (op := (.call 21 [(.tmp 15)])) (g := (some (14, true))) (j := 6) rfl (by kernel_rfl) (by kernel_rfl) (ev_callA (by kernel_rfl) (f21_ok (d - 1) (dpt hd rfl) a1.Other z60 hz60) (by kernel_rfl) (by kernel_rfl)) ?_
    refine zlBool (d := 17) (op := (.cmpI .eql (.tmp 16) (.const (.int .i64 0)))) (g := (some (14, true))) (j := 7) (decide (z60 = 0)) rfl (by kernel_rfl) (by kernel_rfl) (by kernel_rfl) (fun hc => ?_) (fun hc => ?_)
    · replace hS := cond_t hc hS
      refine zlRun (n := 6) (j := 13) rfl (by kernel_rfl) ?_
      refine zlBool (d := 24) (op := (.cmpI .eql (.tmp 21) (.tmp 23))) (g := (some (19, true))) (j := 14) (decide (a1.Grid.Wide = a1.Other.Wide)) rfl (by kernel_rfl) (by kernel_rfl) (by kernel_rfl) (fun hc => ?_) (fun hc => ?_)
      · replace hS := cond_t hc hS
        refine zlRun (n := 6) (j := 20) rfl (by kernel_rfl) ?_
        refine zlBool (d := 31) (op := (.cmpI .eql (.tmp 28) (.tmp 30))) (g := (some (26, true))) (j := 21) (decide (a1.Grid.High = a1.Other.High)) rfl (by kernel_rfl) (by kernel_rfl) (by kernel_rfl) (fun hc => ?_) (fun hc => ?_)
        · replace hS := cond_t hc hS
          refine zlRun (n := 2) (j := 23) rfl (by kernel_rfl) ?_
          refine zlEnd (by kernel_rfl) ?_
          refine zkSeq ?_
          exact f13_j0_ok hd a1 hQ true hS (by kernel_rfl)
        · replace hS := cond_f hc hS
          refine zlRun (n := 2) (j := 23) rfl (by kernel_rfl) ?_
          refine zlEnd (by kernel_rfl) ?_
          refine zkSeq ?_
          exact f13_j0_ok hd a1 hQ false hS (by kernel_rfl)
      · replace hS := cond_f hc hS
        refine zlRun (n := 9) (j := 23) rfl (by kernel_rfl) ?_
        refine zlEnd (by kernel_rfl) ?_
        refine zkSeq ?_
        exact f13_j0_ok hd a1 hQ false hS (by kernel_rfl)
    · replace hS := cond_f hc hS
      refine zlRun (n := 16) (j := 23) rfl (by kernel_rfl) ?_
      refine zlEnd (by kernel_rfl) ?_
      refine zkSeq ?_
      exact f13_j0_ok hd a1 hQ false hS (by kernel_rfl)
  · replace hS := cond_f hc hS
    refine zlRun (n := 20) (j := 23) rfl (by kernel_rfl) ?_
    refine zlEnd (by kernel_rfl) ?_
    refine zkSeq ?_
    exact f13_j0_ok hd a1 hQ false hS (by kernel_rfl)
/- farwriter/screen.Clone -/
def f14_fin (p20 : GScreen) : St := ⟨(up (fun _ => .un) 2 (.r (.ptr 24 0 0))), (up (up (up (up (hB fun _ => 0) 32 ⟨0, some (.own 73 1 (e_GLine.cells p20.Past))⟩) 96 ⟨0, some (.own 46 4 (e_GCell.cells p20.Other.Cells))⟩) 72 ⟨0, some (.own 46 4 (e_GCell.cells p20.Grid.Cells))⟩) 24 ⟨0, some (.box (bx_GScreen p20 (.r (.msl 72 0 0 p20.Grid.Cells.length)) (.r (.msl 96 0 0 p20.Other.Cells.length)) (.r (.msl 32 0 0 p20.Past.length))))⟩)⟩
theorem f14_out (p20 : GScreen) : outR (f14_fin p20) 0 c14.res = some ((.agg ((.d (.int .i64 p20.Grid.Wide)) :: ((.d (.int .i64 p20.Grid.High)) :: ((.r (.own 0 46 4 p20.Grid.Cells.length (e_GCell.cells p20.Grid.Cells))) :: ((.d (.int .i64 p20.Row)) :: ((.d (.int .i64 p20.Col)) :: ((.d (.bool p20.Late)) :: ((.d (.int .i64 p20.Top)) :: ((.d (.int .i64 p20.Bottom)) :: ((.d (.int .i64 p20.Pen.Flags)) :: ((.d (.int .i64 p20.Pen.Fore)) :: ((.d (.int .i64 p20.Pen.Back)) :: ((.d (.int .i64 p20.Modes)) :: (((eInt .u64).row 4 p20.Stops.Bits) ++ ((.d (.int .i64 p20.Pages.1)) :: ((.d (.int .i64 p20.Pages.2)) :: ((.d (.int .i64 p20.Shift)) :: ((.d (.int .i64 p20.Saved.Row)) :: ((.d (.int .i64 p20.Saved.Col)) :: ((.d (.int .i64 p20.Saved.Pen.Flags)) :: ((.d (.int .i64 p20.Saved.Pen.Fore)) :: ((.d (.int .i64 p20.Saved.Pen.Back)) :: ((.d (.bool p20.Saved.Origin)) :: ((.d (.int .i64 p20.Saved.Pages.1)) :: ((.d (.int .i64 p20.Saved.Pages.2)) :: ((.d (.int .i64 p20.Saved.Shift)) :: ((.d (.int .i64 p20.Other.Wide)) :: ((.d (.int .i64 p20.Other.High)) :: ((.r (.own 1 46 4 p20.Other.Cells.length (e_GCell.cells p20.Other.Cells))) :: ((.d (.str p20.Title)) :: ((.r (.own 2 73 1 p20.Past.length (e_GLine.cells p20.Past))) :: []))))))))))))))))))))))))))))))), []) := by
  exact out_of (ids := []) (ids' := [72, 96, 32]) (l := [(.agg ((.d (.int .i64 p20.Grid.Wide)) :: ((.d (.int .i64 p20.Grid.High)) :: ((.r (.msl 72 0 0 p20.Grid.Cells.length)) :: ((.d (.int .i64 p20.Row)) :: ((.d (.int .i64 p20.Col)) :: ((.d (.bool p20.Late)) :: ((.d (.int .i64 p20.Top)) :: ((.d (.int .i64 p20.Bottom)) :: ((.d (.int .i64 p20.Pen.Flags)) :: ((.d (.int .i64 p20.Pen.Fore)) :: ((.d (.int .i64 p20.Pen.Back)) :: ((.d (.int .i64 p20.Modes)) :: (((eInt .u64).row 4 p20.Stops.Bits) ++ ((.d (.int .i64 p20.Pages.1)) :: ((.d (.int .i64 p20.Pages.2)) :: ((.d (.int .i64 p20.Shift)) :: ((.d (.int .i64 p20.Saved.Row)) :: ((.d (.int .i64 p20.Saved.Col)) :: ((.d (.int .i64 p20.Saved.Pen.Flags)) :: ((.d (.int .i64 p20.Saved.Pen.Fore)) :: ((.d (.int .i64 p20.Saved.Pen.Back)) :: ((.d (.bool p20.Saved.Origin)) :: ((.d (.int .i64 p20.Saved.Pages.1)) :: ((.d (.int .i64 p20.Saved.Pages.2)) :: ((.d (.int .i64 p20.Saved.Shift)) :: ((.d (.int .i64 p20.Other.Wide)) :: ((.d (.int .i64 p20.Other.High)) :: ((.r (.msl 96 0 0 p20.Other.Cells.length)) :: ((.d (.str p20.Title)) :: ((.r (.msl 32 0 0 p20.Past.length)) :: [])))))))))))))))))))))))))))))))]) (by kernel_rfl) (by kernel_rfl) (o_agg (o_cons rfl (o_cons rfl (o_cons (o_own e_GCell (e := 46) (k := 4) (xs := p20.Grid.Cells) (by kernel_rfl) rfl rfl rfl rfl) (o_cons rfl (o_cons rfl (o_cons rfl (o_cons rfl (o_cons rfl (o_cons rfl (o_cons rfl (o_cons rfl (o_cons rfl (o_app (o_row (eInt .u64)) (o_cons rfl (o_cons rfl (o_cons rfl (o_cons rfl (o_cons rfl (o_cons rfl (o_cons rfl (o_cons rfl (o_cons rfl (o_cons rfl (o_cons rfl (o_cons rfl (o_cons rfl (o_cons rfl (o_cons (o_own e_GCell (e := 46) (k := 4) (xs := p20.Other.Cells) (by kernel_rfl) rfl rfl rfl rfl) (o_cons rfl (o_cons (o_own e_GLine (e := 73) (k := 1) (xs := p20.Past) (by kernel_rfl) rfl rfl rfl rfl) o_nil)))))))))))))))))))))))))))))))
def f14_Q (r : GScreen) (e : PX) (st : St) : Prop := DoneF c14 0 ((.agg ((.d (.int .i64 r.Grid.Wide)) :: ((.d (.int .i64 r.Grid.High)) :: ((.r (.own 0 46 4 r.Grid.Cells.length (e_GCell.cells r.Grid.Cells))) :: ((.d (.int .i64 r.Row)) :: ((.d (.int .i64 r.Col)) :: ((.d (.bool r.Late)) :: ((.d (.int .i64 r.Top)) :: ((.d (.int .i64 r.Bottom)) :: ((.d (.int .i64 r.Pen.Flags)) :: ((.d (.int .i64 r.Pen.Fore)) :: ((.d (.int .i64 r.Pen.Back)) :: ((.d (.int .i64 r.Modes)) :: (((eInt .u64).row 4 r.Stops.Bits) ++ ((.d (.int .i64 r.Pages.1)) :: ((.d (.int .i64 r.Pages.2)) :: ((.d (.int .i64 r.Shift)) :: ((.d (.int .i64 r.Saved.Row)) :: ((.d (.int .i64 r.Saved.Col)) :: ((.d (.int .i64 r.Saved.Pen.Flags)) :: ((.d (.int .i64 r.Saved.Pen.Fore)) :: ((.d (.int .i64 r.Saved.Pen.Back)) :: ((.d (.bool r.Saved.Origin)) :: ((.d (.int .i64 r.Saved.Pages.1)) :: ((.d (.int .i64 r.Saved.Pages.2)) :: ((.d (.int .i64 r.Saved.Shift)) :: ((.d (.int .i64 r.Other.Wide)) :: ((.d (.int .i64 r.Other.High)) :: ((.r (.own 1 46 4 r.Other.Cells.length (e_GCell.cells r.Other.Cells))) :: ((.d (.str r.Title)) :: ((.r (.own 2 73 1 r.Past.length (e_GLine.cells r.Past))) :: []))))))))))))))))))))))))))))))), []) e st
def f14_l0_J (a1 : GScreen) (x : GScreen × (List GLine) × Int) : St := ⟨(up (up (up (up (up (up (fun _ => .un) 17 (.d (.int .i64 x.2.2))) 16 (.d (.int .i64 (a1.Past.length : Int)))) 15 (.d (.sl a1.Past.length (e_GLine.cells a1.Past)))) 3 (.r (.msl 32 0 0 x.2.1.length))) 2 (.r (.ptr 24 0 0))) 1 (.r (.ptr 16 0 0))), (up (up (up (up (up (hB fun _ => 0) 32 ⟨0, some (.own 73 1 (e_GLine.cells x.2.1))⟩) 24 ⟨0, some (.box (bx_GScreen (GScreen.mk (GGrid.mk 0 0 ([])) 0 0 false 0 0 (GPen.mk 0 0 0) 0 (GStops.mk (fun _ => 0)) (0, 0) 0 (GSaved.mk 0 0 (GPen.mk 0 0 0) false (0, 0) 0) (GGrid.mk 0 0 ([])) ([]) ([])) (.d (.sl ([] : List GCell).length (e_GCell.cells ([])))) (.d (.sl ([] : List GCell).length (e_GCell.cells ([])))) (.d (.sl ([] : List GLine).length (e_GLine.cells ([]))))))⟩) 96 ⟨0, some (.own 46 4 (e_GCell.cells x.1.Other.Cells))⟩) 72 ⟨0, some (.own 46 4 (e_GCell.cells x.1.Grid.Cells))⟩) 16 ⟨0, some (.box (bx_GScreen x.1 (.r (.msl 72 0 0 x.1.Grid.Cells.length)) (.r (.msl 96 0 0 x.1.Other.Cells.length)) (.d (.sl x.1.Past.length (e_GLine.cells x.1.Past)))))⟩)⟩
def f14_l0_H (a1 : GScreen) (x : GScreen × (List GLine) × Int) (st : St) : Prop := keepSt [1, 2, 3, 15, 16, 17] [(16, .id 16), (72, .id 72), (96, .id 96), (24, .id 24), (32, .id 32)] [.cell 24 2 0 0 1, .cell 24 30 0 0 1, .cell 24 32 0 0 1] st = f14_l0_J a1 x
def f14_l0_e0_J (a1 : GScreen) (p38 : GScreen) (p39 : List GLine) : St := ⟨(up (up (up (fun _ => .un) 3 (.r (.msl 32 0 0 p39.length))) 2 (.r (.ptr 24 0 0))) 1 (.r (.ptr 16 0 0))), (up (up (up (up (up (hB fun _ => 0) 32 ⟨0, some (.own 73 1 (e_GLine.cells p39))⟩) 24 ⟨0, some (.box (bx_GScreen (GScreen.mk (GGrid.mk 0 0 ([])) 0 0 false 0 0 (GPen.mk 0 0 0) 0 (GStops.mk (fun _ => 0)) (0, 0) 0 (GSaved.mk 0 0 (GPen.mk 0 0 0) false (0, 0) 0) (GGrid.mk 0 0 ([])) ([]) ([])) (.d (.sl ([] : List GCell).length (e_GCell.cells ([])))) (.d (.sl ([] : List GCell).length (e_GCell.cells ([])))) (.d (.sl ([] : List GLine).length (e_GLine.cells ([]))))))⟩) 96 ⟨0, some (.own 46 4 (e_GCell.cells p38.Other.Cells))⟩) 72 ⟨0, some (.own 46 4 (e_GCell.cells p38.Grid.Cells))⟩) 16 ⟨0, some (.box (bx_GScreen p38 (.r (.msl 72 0 0 p38.Grid.Cells.length)) (.r (.msl 96 0 0 p38.Other.Cells.length)) (.d (.sl p38.Past.length (e_GLine.cells p38.Past)))))⟩)⟩
def f14_l0_X (a1 : GScreen) (z : (GScreen × (List GLine))) (e : PX) (st : St) : Prop := e = .exit 0 ∧ st = f14_l0_e0_J a1 z.1 z.2
def f14_l0_j2_J (a1 : GScreen) (p48 : GScreen) (p49 : List GLine) (p50 : Int) : St := ⟨(up (up (up (up (up (up (fun _ => .un) 17 (.d (.int .i64 p50))) 16 (.d (.int .i64 (a1.Past.length : Int)))) 15 (.d (.sl a1.Past.length (e_GLine.cells a1.Past)))) 3 (.r (.msl 32 0 0 p49.length))) 2 (.r (.ptr 24 0 0))) 1 (.r (.ptr 16 0 0))), (up (up (up (up (up (hB fun _ => 0) 32 ⟨0, some (.own 73 1 (e_GLine.cells p49))⟩) 24 ⟨0, some (.box (bx_GScreen (GScreen.mk (GGrid.mk 0 0 ([])) 0 0 false 0 0 (GPen.mk 0 0 0) 0 (GStops.mk (fun _ => 0)) (0, 0) 0 (GSaved.mk 0 0 (GPen.mk 0 0 0) false (0, 0) 0) (GGrid.mk 0 0 ([])) ([]) ([])) (.d (.sl ([] : List GCell).length (e_GCell.cells ([])))) (.d (.sl ([] : List GCell).length (e_GCell.cells ([])))) (.d (.sl ([] : List GLine).length (e_GLine.cells ([]))))))⟩) 96 ⟨0, some (.own 46 4 (e_GCell.cells p48.Other.Cells))⟩) 72 ⟨0, some (.own 46 4 (e_GCell.cells p48.Grid.Cells))⟩) 16 ⟨0, some (.box (bx_GScreen p48 (.r (.msl 72 0 0 p48.Grid.Cells.length)) (.r (.msl 96 0 0 p48.Other.Cells.length)) (.d (.sl p48.Past.length (e_GLine.cells p48.Past)))))⟩)⟩
noncomputable def f14_l0_j2 (a1 : GScreen) (p48 : GScreen) (p49 : List GLine) (p50 : Int) : Option ((GScreen × (List GLine) × Int) ⊕ ((GScreen × (List GLine)))) := ((idx a1.Past p50).bind fun z23 => ((f20 z23.Cells).bind fun z24 => ((app? 24 p49 ([(GLine.mk z24)] : List GLine)).bind fun z25 => (some (.inl (p48, z25, (IntKind.i64.wrap (p50 + 1))))))))
theorem f14_l0_j2_ok {d : Nat} (hd : 3 ≤ d) (a1 : GScreen) {r : (GScreen × (List GLine) × Int) ⊕ ((GScreen × (List GLine)))} {Q : PX → St → Prop} (hQ : ∀ e st', finL (f14_l0_H a1) (f14_l0_X a1) r e st' → Q e st') (p48 : GScreen) (p49 : List GLine) (p50 : Int) (hS : f14_l0_j2 a1 p48 p49 p50 = some r) {st : St} (he : keepSt [1, 2, 3, 15, 16, 17] [(16, .id 16), (72, .id 72), (96, .id 96), (24, .id 24), (32, .id 32)] [] st = f14_l0_j2_J a1 p48 p49 p50) : ZR (lev codes baseL (d - 1)) Q c14_1 [] st := by
  refine zrKeep he ?_
  unfold f14_l0_j2 at hS
  refine zrSeq ?_
  refine zrBlk ?_
  refine zrSeq ?_
  refine zrReg ?_
  refine bindE hS (fun z23 hz23 hS => ?_)
  refine zlOp (d := some 19) (op := (.ixS 73 1 (.tmp 15) (.tmp 17))) (g := none) (v := (.rptr (e_GLine.enc z23 ++ (e_GLine.cells (a1.Past.drop ((p50 : Int).toNat + 1)))))) (ups := []) (j := 1) rfl (by kernel_rfl) (by kernel_rfl) (ev_ixS e_GLine (kk := .i64) (xs := a1.Past) (j := p50) (by kernel_rfl) (by kernel_rfl) hz23 rfl (by intro h; cases h)) ?_
  refine zlRun (n := 3) (j := 4) rfl (by kernel_rfl) ?_
  refine zlEnd (by kernel_rfl) ?_
  refine zkSeq ?_
  refine zrReg ?_
  refine zlRun (n := 3) (j := 3) rfl (by kernel_rfl) ?_
  refine bindE hS (fun z24 hz24 hS => ?_)
  refine zlOp (d := some 24) (op := (.call 20 [(.tmp 23)])) (g := none) (j := 4) rfl (by kernel_rfl) (by kernel_rfl) (ev_callA (by kernel_rfl) (f20_ok (d - 1) (dpt hd rfl) z23.Cells z24 hz24) (by kernel_rfl) (by kernel_rfl)) ?_
  refine zlRun (n := 1) (j := 5) rfl (by kernel_rfl) ?_
  refine zlOp (d := some 26) (op := (.bsl 73 1 1 [(1, (.slice .none 0 0))] [(0, (1, (.tmp 25)))])) (g := none) (v := (.r (.msl 216 1 0 (([(GLine.mk z24)] : List GLine).length)))) (ups := [(200, ⟨2, none⟩), (216, ⟨1, some (.own 73 1 (e_GLine.cells ([(GLine.mk z24)])))⟩)]) (j := 6) rfl (by kernel_rfl) (by kernel_rfl) ((by kernel_rfl : peval _ _ 26 (ρof _) (.bsl 73 1 1 [(1, (.slice .none 0 0))] [(0, (1, (.tmp 25)))]) = some ((.r (.msl 216 1 0 (([(GLine.mk z24)] : List GLine).length))), [(200, ⟨2, none⟩), (216, ⟨1, some (.own 73 1 [.sl z24.length (((e_GCell.cells z24).drop (0 * e_GCell.k)).take (z24.length * e_GCell.k))])⟩)])).trans (by simp only [Enc.frz]; rfl)) ?_
  refine bindE hS (fun z25 hz25 hS => ?_)
  refine zlOp (d := some 27) (op := (.app 73 1 24 (.tmp 21) (.tmp 26))) (g := none) (v := (.r (.msl 32 1 0 z25.length))) (ups := [(32, ⟨1, some (.own 73 1 (e_GLine.cells z25))⟩)]) (j := 7) rfl (by kernel_rfl) (by kernel_rfl) (ev_app e_GLine (b := 32) (g := 0) (n := p49.length) (xs := p49) (ys := [(GLine.mk z24)]) ((congrArg (asL _) (by kernel_rfl : ρof _ (.tmp 26) = (.r (.msl 216 1 0 (([(GLine.mk z24)] : List GLine).length))))).trans (as_whole e_GLine (e := 73) (k := 1) (xs := [(GLine.mk z24)]) (by kernel_rfl) rfl rfl)) rfl (by kernel_rfl) rfl (by kernel_rfl) rfl hz25) ?_
  refine zlRun (n := 1) (j := 8) rfl (by kernel_rfl) ?_
  refine zlEnd (by kernel_rfl) ?_
  refine zkBlk ?_
  refine zkSeq ?_
  refine zrReg ?_
  refine zlRun (n := 2) (j := 2) rfl (by kernel_rfl) ?_
  refine zlEnd (by kernel_rfl) ?_
  refine zkNil ?_
  exact endQ hS hQ (finL_n (by show keepSt _ _ _ _ = _; kernel_rfl))
def f14_l0_j1_J (a1 : GScreen) (p44 : GScreen) (p45 : List GLine) (p46 : Int) (p47 : Bool) : St := ⟨(up (up (up (up (up (up (up (fun _ => .un) 18 (.d (.bool p47))) 17 (.d (.int .i64 p46))) 16 (.d (.int .i64 (a1.Past.length : Int)))) 15 (.d (.sl a1.Past.length (e_GLine.cells a1.Past)))) 3 (.r (.msl 32 0 0 p45.length))) 2 (.r (.ptr 24 0 0))) 1 (.r (.ptr 16 0 0))), (up (up (up (up (up (hB fun _ => 0) 32 ⟨0, some (.own 73 1 (e_GLine.cells p45))⟩) 24 ⟨0, some (.box (bx_GScreen (GScreen.mk (GGrid.mk 0 0 ([])) 0 0 false 0 0 (GPen.mk 0 0 0) 0 (GStops.mk (fun _ => 0)) (0, 0) 0 (GSaved.mk 0 0 (GPen.mk 0 0 0) false (0, 0) 0) (GGrid.mk 0 0 ([])) ([]) ([])) (.d (.sl ([] : List GCell).length (e_GCell.cells ([])))) (.d (.sl ([] : List GCell).length (e_GCell.cells ([])))) (.d (.sl ([] : List GLine).length (e_GLine.cells ([]))))))⟩) 96 ⟨0, some (.own 46 4 (e_GCell.cells p44.Other.Cells))⟩) 72 ⟨0, some (.own 46 4 (e_GCell.cells p44.Grid.Cells))⟩) 16 ⟨0, some (.box (bx_GScreen p44 (.r (.msl 72 0 0 p44.Grid.Cells.length)) (.r (.msl 96 0 0 p44.Other.Cells.length)) (.d (.sl p44.Past.length (e_GLine.cells p44.Past)))))⟩)⟩
noncomputable def f14_l0_j1 (a1 : GScreen) (p44 : GScreen) (p45 : List GLine) (p46 : Int) (p47 : Bool) : Option ((GScreen × (List GLine) × Int) ⊕ ((GScreen × (List GLine)))) := (bif p47 then (f14_l0_j2 a1 p44 p45 p46) else (some (.inr (p44, p45))))
theorem f14_l0_j1_ok {d : Nat} (hd : 3 ≤ d) (a1 : GScreen) {r : (GScreen × (List GLine) × Int) ⊕ ((GScreen × (List GLine)))} {Q : PX → St → Prop} (hQ : ∀ e st', finL (f14_l0_H a1) (f14_l0_X a1) r e st' → Q e st') (p44 : GScreen) (p45 : List GLine) (p46 : Int) (p47 : Bool) (hS : f14_l0_j1 a1 p44 p45 p46 p47 = some r) {st : St} (he : keepSt [1, 2, 3, 15, 16, 17, 18] [(16, .id 16), (72, .id 72), (96, .id 96), (24, .id 24), (32, .id 32)] [] st = f14_l0_j1_J a1 p44 p45 p46 p47) : ZR (lev codes baseL (d - 1)) Q c14_2 [] st := by
  refine zrKeep he ?_
  unfold f14_l0_j1 at hS
  refine zrSeq ?_
  refine zrSplit 18 p47 (by kernel_rfl) (fun hc => ?_) (fun hc => ?_)
  · replace hS := cond_t hc hS
    refine zrCondT (by kernel_rfl) ?_
    refine zrSkip ?_
    refine zkSeq ?_
    exact f14_l0_j2_ok hd a1 hQ p44 p45 p46 hS (by kernel_rfl)
  · replace hS := cond_f hc hS
    refine zrCondF (by kernel_rfl) ?_
    refine zrKeep (J := f14_l0_e0_J a1 p44 p45) (by kernel_rfl) ?_
    refine zrExit ?_
    refine zkSeqX ?_
    refine zkNil ?_
    exact endQ hS hQ (finL_x (by intro h; cases h) (by show _ = _ ∧ _ = _; exact ⟨rfl, rfl⟩))
noncomputable def f14_l0 (a1 : GScreen) (x : GScreen × (List GLine) × Int) : Option ((GScreen × (List GLine) × Int) ⊕ ((GScreen × (List GLine)))) := (bif (decide (x.2.2 < (a1.Past.length : Int))) then (f14_l0_j1 a1 x.1 x.2.1 x.2.2 true) else (f14_l0_j1 a1 x.1 x.2.1 x.2.2 false))
theorem f14_l0_ok {d : Nat} (hd : 3 ≤ d) (a1 : GScreen) {r : (GScreen × (List GLine) × Int) ⊕ ((GScreen × (List GLine)))} {Q : PX → St → Prop} (hQ : ∀ e st', finL (f14_l0_H a1) (f14_l0_X a1) r e st' → Q e st') {x : GScreen × (List GLine) × Int} (hS : f14_l0 a1 x = some r) {st : St} (he : f14_l0_H a1 x st) : ZR (lev codes baseL (d - 1)) Q c14_3 [] st := by
  refine zrKeep he ?_
  unfold f14_l0 at hS
  refine zrSeq ?_
  refine zrReg ?_
  refine zlBool (d := 18) (op := (.cmpI .lss (.tmp 17) (.tmp 16))) (g := none) (j := 1) (decide (x.2.2 < (a1.Past.length : Int))) rfl (by kernel_rfl) (by kernel_rfl) (by kernel_rfl) (fun hc => ?_) (fun hc => ?_)
  · replace hS := cond_t hc hS
    refine zlEnd (by kernel_rfl) ?_
    refine zkSeq ?_
    exact f14_l0_j1_ok hd a1 hQ x.1 x.2.1 x.2.2 true hS (by kernel_rfl)
  · replace hS := cond_f hc hS
    refine zlEnd (by kernel_rfl) ?_
    refine zkSeq ?_
    exact f14_l0_j1_ok hd a1 hQ x.1 x.2.1 x.2.2 false hS (by kernel_rfl)
noncomputable def f14 (a1 : GScreen) : Option (GScreen) := ((f10 a1.Grid).bind fun z12 => ((f10 a1.Other).bind fun z13 => ((loopO (f14_l0 a1) ({ a1 with Grid := z12, Other := z13 }, [], 0)).bind fun z26 => (some (GScreen.mk z26.1.Grid z26.1.Row z26.1.Col z26.1.Late z26.1.Top z26.1.Bottom z26.1.Pen z26.1.Modes z26.1.Stops z26.1.Pages z26.1.Shift z26.1.Saved z26.1.Other z26.1.Title z26.2)))))
theorem f14_ok (d : Nat) (hd : 3 ≤ d) (a1 : GScreen) (r : GScreen) (hS : f14 a1 = some r) : lev codes baseL d 14 [(.agg ((.d (.int .i64 a1.Grid.Wide)) :: ((.d (.int .i64 a1.Grid.High)) :: ((.d (.sl a1.Grid.Cells.length (e_GCell.cells a1.Grid.Cells))) :: ((.d (.int .i64 a1.Row)) :: ((.d (.int .i64 a1.Col)) :: ((.d (.bool a1.Late)) :: ((.d (.int .i64 a1.Top)) :: ((.d (.int .i64 a1.Bottom)) :: ((.d (.int .i64 a1.Pen.Flags)) :: ((.d (.int .i64 a1.Pen.Fore)) :: ((.d (.int .i64 a1.Pen.Back)) :: ((.d (.int .i64 a1.Modes)) :: (((eInt .u64).row 4 a1.Stops.Bits) ++ ((.d (.int .i64 a1.Pages.1)) :: ((.d (.int .i64 a1.Pages.2)) :: ((.d (.int .i64 a1.Shift)) :: ((.d (.int .i64 a1.Saved.Row)) :: ((.d (.int .i64 a1.Saved.Col)) :: ((.d (.int .i64 a1.Saved.Pen.Flags)) :: ((.d (.int .i64 a1.Saved.Pen.Fore)) :: ((.d (.int .i64 a1.Saved.Pen.Back)) :: ((.d (.bool a1.Saved.Origin)) :: ((.d (.int .i64 a1.Saved.Pages.1)) :: ((.d (.int .i64 a1.Saved.Pages.2)) :: ((.d (.int .i64 a1.Saved.Shift)) :: ((.d (.int .i64 a1.Other.Wide)) :: ((.d (.int .i64 a1.Other.High)) :: ((.d (.sl a1.Other.Cells.length (e_GCell.cells a1.Other.Cells))) :: ((.d (.str a1.Title)) :: ((.d (.sl a1.Past.length (e_GLine.cells a1.Past))) :: [])))))))))))))))))))))))))))))))] [] = some ((.agg ((.d (.int .i64 r.Grid.Wide)) :: ((.d (.int .i64 r.Grid.High)) :: ((.r (.own 0 46 4 r.Grid.Cells.length (e_GCell.cells r.Grid.Cells))) :: ((.d (.int .i64 r.Row)) :: ((.d (.int .i64 r.Col)) :: ((.d (.bool r.Late)) :: ((.d (.int .i64 r.Top)) :: ((.d (.int .i64 r.Bottom)) :: ((.d (.int .i64 r.Pen.Flags)) :: ((.d (.int .i64 r.Pen.Fore)) :: ((.d (.int .i64 r.Pen.Back)) :: ((.d (.int .i64 r.Modes)) :: (((eInt .u64).row 4 r.Stops.Bits) ++ ((.d (.int .i64 r.Pages.1)) :: ((.d (.int .i64 r.Pages.2)) :: ((.d (.int .i64 r.Shift)) :: ((.d (.int .i64 r.Saved.Row)) :: ((.d (.int .i64 r.Saved.Col)) :: ((.d (.int .i64 r.Saved.Pen.Flags)) :: ((.d (.int .i64 r.Saved.Pen.Fore)) :: ((.d (.int .i64 r.Saved.Pen.Back)) :: ((.d (.bool r.Saved.Origin)) :: ((.d (.int .i64 r.Saved.Pages.1)) :: ((.d (.int .i64 r.Saved.Pages.2)) :: ((.d (.int .i64 r.Saved.Shift)) :: ((.d (.int .i64 r.Other.Wide)) :: ((.d (.int .i64 r.Other.High)) :: ((.r (.own 1 46 4 r.Other.Cells.length (e_GCell.cells r.Other.Cells))) :: ((.d (.str r.Title)) :: ((.r (.own 2 73 1 r.Past.length (e_GLine.cells r.Past))) :: []))))))))))))))))))))))))))))))), []) := by
  refine lev_go codes14 rfl rfl (Nat.le_trans (Nat.le_of_ble_eq_true rfl) hd) fun Q hQ => ?_
  unfold f14 at hS
  show ZR _ Q c14_b [] _
  replace hQ : ∀ e st', f14_Q r e st' → Q e st' := hQ
  refine zrSeq ?_
  refine zrReg ?_
  refine zlRun (n := 2) (j := 2) rfl (by kernel_rfl) ?_
  refine zlEnd (by kernel_rfl) ?_
  refine zkSeq ?_
  refine zrSeq ?_
  refine zrRegD ?_
  refine zdRun (n := 2) (j := 2) (ts := [[], [(16, false)]]) (acc' := [[], [(16, false)]]) rfl (by kernel_rfl) (by kernel_rfl) (by kernel_rfl) ?_
  refine bindE hS (fun z12 hz12 hS => ?_)
  refine zdOp (d := some 8) (op := (.call 10 [(.tmp 7)])) (g := none) (j := 3) (t1 := [(72, true), (73, true), (74, true), (75, true), (76, true), (77, true), (78, true), (79, true)]) (acc' := [[], [(16, false)], [(72, true), (73, true), (74, true), (75, true), (76, true), (77, true), (78, true), (79, true)]]) (by kernel_rfl) (by kernel_rfl) rfl (by kernel_rfl) (by kernel_rfl) (ev_callA (by kernel_rfl) (f10_ok (d - 1) (dpt hd rfl) a1.Grid z12 hz12) (by kernel_rfl) (by kernel_rfl)) ?_
  refine zdRun (n := 2) (j := 5) (ts := [[], [(16, false)]]) (acc' := [[], [(16, false)], [(72, true), (73, true), (74, true), (75, true), (76, true), (77, true), (78, true), (79, true)], [], [(16, false)]]) rfl (by kernel_rfl) (by kernel_rfl) (by kernel_rfl) ?_
  refine bindE hS (fun z13 hz13 hS => ?_)
  refine zdOp (d := some 11) (op := (.call 10 [(.tmp 10)])) (g := none) (j := 6) (t1 := [(96, true), (97, true), (98, true), (99, true), (100, true), (101, true), (102, true), (103, true)]) (acc' := [[], [(16, false)], [(72, true), (73, true), (74, true), (75, true), (76, true), (77, true), (78, true), (79, true)], [], [(16, false)], [(96, true), (97, true), (98, true), (99, true), (100, true), (101, true), (102, true), (103, true)]]) (by kernel_rfl) (by kernel_rfl) rfl (by kernel_rfl) (by kernel_rfl) (ev_callA (by kernel_rfl) (f10_ok (d - 1) (dpt hd rfl) a1.Other z13 hz13) (by kernel_rfl) (by kernel_rfl)) ?_
  refine zdRun (n := 4) (j := 10) (ts := [[], [(16, true)], [], [(16, true)]]) (acc' := [[], [(16, false)], [(72, true), (73, true), (74, true), (75, true), (76, true), (77, true), (78, true), (79, true)], [], [(16, false)], [(96, true), (97, true), (98, true), (99, true), (100, true), (101, true), (102, true), (103, true)], [], [(16, true)], [], [(16, true)]]) rfl (by kernel_rfl) (by kernel_rfl) (by kernel_rfl) ?_
  refine zdEnd (by kernel_rfl) (by kernel_rfl) ?_
  refine zkSeq ?_
  refine zrSeq ?_
  refine zrReg ?_
  refine zlRun (n := 1) (j := 1) rfl (by kernel_rfl) ?_
  refine zlEnd (by kernel_rfl) ?_
  refine zkSeq ?_
  refine zrSeq ?_
  refine zrSeq ?_
  refine zrReg ?_
  refine zlRun (n := 4) (j := 4) rfl (by kernel_rfl) ?_
  refine zlEnd (by kernel_rfl) ?_
  refine zkSeq ?_
  refine zrBlk ?_
  refine bindE hS (fun z26 hz26 hS => ?_)
  refine zrLoop (f14_l0_H a1) (f14_l0_X a1) (fun x st r Q h0 hS hQ => f14_l0_ok hd a1 hQ hS h0) (x := ({ a1 with Grid := z12, Other := z13 }, [], 0)) (z := z26) (by show keepSt _ _ _ _ = _; kernel_rfl) hz26 ?_
  intro e st' _ hX
  obtain ⟨rfl, rfl⟩ : _ ∧ _ := hX
  refine zkBlkX ?_
  refine zkSeq ?_
  refine zrSeq ?_
  refine zrReg ?_
  refine zlRun (n := 3) (j := 3) rfl (by kernel_rfl) ?_
  refine zlEnd (by kernel_rfl) ?_
  refine zkSeq ?_
  refine zrSeq ?_
  refine zrReg ?_
  refine zlRun (n := 2) (j := 2) rfl (by kernel_rfl) ?_
  refine zlEnd (by kernel_rfl) ?_
  refine zkSeq ?_
  refine zrRet ?_
  refine zkNil ?_
  exact endQ hS hQ (fRet (by kernel_rfl) ((congrArg (fun s => outR s 0 c14.res) (by kernel_rfl : finSt c14.fin _ = f14_fin (GScreen.mk z26.1.Grid z26.1.Row z26.1.Col z26.1.Late z26.1.Top z26.1.Bottom z26.1.Pen z26.1.Modes z26.1.Stops z26.1.Pages z26.1.Shift z26.1.Saved z26.1.Other z26.1.Title z26.2))).trans (f14_out (GScreen.mk z26.1.Grid z26.1.Row z26.1.Col z26.1.Late z26.1.Top z26.1.Bottom z26.1.Pen z26.1.Modes z26.1.Stops z26.1.Pages z26.1.Shift z26.1.Saved z26.1.Other z26.1.Title z26.2))))
/- farwriter/screen.actions$1 -/
def f26_fin (p1 : Bool) : St := ⟨(up (fun _ => .un) 2 (.d (.bool p1))), (hB fun _ => 0)⟩
theorem f26_out (p1 : Bool) : outR (f26_fin p1) 0 c26.res = some ((.d (.bool p1)), []) := by
  kernel_rfl
def f26_Q (r : Bool) (e : PX) (st : St) : Prop := DoneF c26 0 ((.d (.bool r)), []) e st
noncomputable def f26 (a1 : Int) : Option (Bool) := ((f22 a1 (-1) 16383).bind fun z2 => (some (!z2)))
theorem f26_ok (d : Nat) (hd : 2 ≤ d) (a1 : Int) (r : Bool) (hS : f26 a1 = some r) : lev codes baseL d 26 [(.d (.int .i64 a1))] [] = some ((.d (.bool r)), []) := by
  refine lev_go codes26 rfl rfl (Nat.le_trans (Nat.le_of_ble_eq_true rfl) hd) fun Q hQ => ?_
  unfold f26 at hS
  show ZR _ Q c26_b [] _
  replace hQ : ∀ e st', f26_Q r e st' → Q e st' := hQ
  refine zrSeq ?_
  refine zrReg ?_
  refine zlRun (n := 1) (j := 1) rfl (by kernel_rfl) ?_
  refine zlEnd (by kernel_rfl) ?_
  refine zkSeq ?_
  refine zrSeq ?_
  refine zrReg ?_
  refine zlRun (n := 1) (j := 1) rfl (by kernel_rfl) ?_
  refine bindE hS (fun z2 hz2 hS => ?_)
  refine zlOp (d := some 4) (op := (.call 22 [(.tmp 3), (.const (.int .i64 (-1))), (.const (.int .i64 16383))])) (g := none) (j := 2) rfl (by kernel_rfl) (by kernel_rfl) (ev_callA (by kernel_rfl) (f22_ok (d - 1) (dpt hd rfl) a1 (-1) 16383 z2 hz2) (by kernel_rfl) (by kernel_rfl)) ?_
  refine zlRun (n := 2) (j := 4) rfl (by kernel_rfl) ?_
  refine zlEnd (by kernel_rfl) ?_
  refine zkSeq ?_
  refine zrRet ?_
  refine zkNil ?_
  exact endQ hS hQ (fRet (by kernel_rfl) ((congrArg (fun s => outR s 0 c26.res) (by kernel_rfl : finSt c26.fin _ = f26_fin (!z2))).trans (f26_out (!z2))))
/- slices.IndexFunc[[]int,int] -/
def f39_fin (p8 : Int) : St := ⟨(up (fun _ => .un) 4 (.d (.int .i64 p8))), (hB fun _ => 0)⟩
theorem f39_out (p8 : Int) : outR (f39_fin p8) 0 c39.res = some ((.d (.int .i64 p8)), []) := by
  kernel_rfl
def f39_Q (r : Int) (e : PX) (st : St) : Prop := DoneF c39 0 ((.d (.int .i64 r)), []) e st
def f39_l0_J (a1 : List Int) (x : Int) : St := ⟨(up (up (up (up (fun _ => .un) 8 (.d (.int .i64 x))) 7 (.d (.int .i64 (a1.length : Int)))) 1 (.fn 26 [])) 0 (.d (.sl a1.length ((eInt .i64).cells a1)))), (hB fun _ => 0)⟩
def f39_l0_H (a1 : List Int) (x : Int) (st : St) : Prop := keepSt [0, 1, 7, 8] [] [] st = f39_l0_J a1 x
def f39_l0_e0_J (a1 : List Int) : St := ⟨(fun _ => .un), (hB fun _ => 0)⟩
def f39_l0_X (a1 : List Int) (z : Unit ⊕ Int) (e : PX) (st : St) : Prop := (match z with | .inl z => e = .exit 0 ∧ st = f39_l0_e0_J a1 | .inr z => e = .ret ∧ finSt c39.fin st = f39_fin z)
def f39_l0_j2_J (a1 : List Int) (p13 : Int) : St := ⟨(up (up (up (up (fun _ => .un) 8 (.d (.int .i64 p13))) 7 (.d (.int .i64 (a1.length : Int)))) 1 (.fn 26 [])) 0 (.d (.sl a1.length ((eInt .i64).cells a1)))), (hB fun _ => 0)⟩
noncomputable def f39_l0_j2 (a1 : List Int) (p13 : Int) : Option (Int ⊕ (Unit ⊕ Int)) := ((idx a1 p13).bind fun z7 => ((f26 z7).bind fun z8 => (bif z8 then (some (.inr (.inr p13))) else (some (.inl (IntKind.i64.wrap (p13 + 1)))))))
theorem f39_l0_j2_ok {d : Nat} (hd : 3 ≤ d) (a1 : List Int) {r : Int ⊕ (Unit ⊕ Int)} {Q : PX → St → Prop} (hQ : ∀ e st', finL (f39_l0_H a1) (f39_l0_X a1) r e st' → Q e st') (p13 : Int) (hS : f39_l0_j2 a1 p13 = some r) {st : St} (he : keepSt [0, 1, 7, 8] [] [] st = f39_l0_j2_J a1 p13) : ZR (lev codes baseL (d - 1)) Q c39_1 [] st := by
  refine zrKeep he ?_
  unfold f39_l0_j2 at hS
  refine zrSeq ?_
  refine zrBlk ?_
  refine zrSeq ?_
  refine zrReg ?_
  refine zlRun (n := 2) (j := 2) rfl (by kernel_rfl) ?_
  refine zlEnd (by kernel_rfl) ?_
  refine zkSeq ?_
  refine zrSeq ?_
  refine zrReg ?_
  refine zlRun (n := 3) (j := 3) rfl (by kernel_rfl) ?_
  refine bindE hS (fun z7 hz7 hS => ?_)
  refine zlOp (d := some 14) (op := (.ixS 3 1 (.tmp 12) (.tmp 13))) (g := none) (v := (.rptr ((eInt .i64).enc z7 ++ ((eInt .i64).cells (a1.drop ((p13 : Int).toNat + 1)))))) (ups := []) (j := 4) rfl (by kernel_rfl) (by kernel_rfl) (ev_ixS (eInt .i64) (kk := .i64) (xs := a1) (j := p13) (by kernel_rfl) (by kernel_rfl) hz7 rfl (by intro h; cases h)) ?_
  refine zlRun (n := 1) (j := 5) rfl (by kernel_rfl) ?_
  refine bindE hS (fun z8 hz8 hS => ?_)
  refine zlOp (d := some 16) (op := (.callv (.tmp 11) [(.tmp 15)])) (g := none) (v := (.d (.bool z8))) (ups := []) (j := 6) rfl (by kernel_rfl) (by kernel_rfl) (ev_callv (f := 26) (cs := []) (by kernel_rfl) (args := [(.d (.int .i64 z7))]) (l := [(.d (.int .i64 z7))]) (r := (.d (.bool z8))) (by kernel_rfl) (by kernel_rfl) (f26_ok (d - 1) (dpt hd rfl) z7 z8 hz8) (by kernel_rfl) (by kernel_rfl) (by kernel_rfl)) ?_
  refine zlEnd (by kernel_rfl) ?_
  refine zkSeq ?_
  refine zrSplit 16 z8 (by kernel_rfl) (fun hc => ?_) (fun hc => ?_)
  · replace hS := cond_t hc hS
    refine zrCondT (by kernel_rfl) ?_
    refine zrSeq ?_
    refine zrReg ?_
    refine zlRun (n := 2) (j := 2) rfl (by kernel_rfl) ?_
    refine zlEnd (by kernel_rfl) ?_
    refine zkSeq ?_
    refine zrRet ?_
    refine zkBlkR ?_
    refine zkSeqR ?_
    refine zkNil ?_
    exact endQ hS hQ (finL_x (by intro h; cases h) (by show _ = _ ∧ _ = _; exact ⟨rfl, by kernel_rfl⟩))
  · replace hS := cond_f hc hS
    refine zrCondF (by kernel_rfl) ?_
    refine zrSkip ?_
    refine zkBlk ?_
    refine zkSeq ?_
    refine zrReg ?_
    refine zlRun (n := 2) (j := 2) rfl (by kernel_rfl) ?_
    refine zlEnd (by kernel_rfl) ?_
    refine zkNil ?_
    exact endQ hS hQ (finL_n (by show keepSt _ _ _ _ = _; kernel_rfl))
def f39_l0_j1_J (a1 : List Int) (p11 : Int) (p12 : Bool) : St := ⟨(up (up (up (up (up (fun _ => .un) 9 (.d (.bool p12))) 8 (.d (.int .i64 p11))) 7 (.d (.int .i64 (a1.length : Int)))) 1 (.fn 26 [])) 0 (.d (.sl a1.length ((eInt .i64).cells a1)))), (hB fun _ => 0)⟩
noncomputable def f39_l0_j1 (a1 : List Int) (p11 : Int) (p12 : Bool) : Option (Int ⊕ (Unit ⊕ Int)) := (bif p12 then (f39_l0_j2 a1 p11) else (some (.inr (.inl ()))))
theorem f39_l0_j1_ok {d : Nat} (hd : 3 ≤ d) (a1 : List Int) {r : Int ⊕ (Unit ⊕ Int)} {Q : PX → St → Prop} (hQ : ∀ e st', finL (f39_l0_H a1) (f39_l0_X a1) r e st' → Q e st') (p11 : Int) (p12 : Bool) (hS : f39_l0_j1 a1 p11 p12 = some r) {st : St} (he : keepSt [0, 1, 7, 8, 9] [] [] st = f39_l0_j1_J a1 p11 p12) : ZR (lev codes baseL (d - 1)) Q c39_2 [] st := by
  refine zrKeep he ?_
  unfold f39_l0_j1 at hS
  refine zrSeq ?_
  refine zrSplit 9 p12 (by kernel_rfl) (fun hc => ?_) (fun hc => ?_)
  · replace hS := cond_t hc hS
    refine zrCondT (by kernel_rfl) ?_
    refine zrSkip ?_
    refine zkSeq ?_
    exact f39_l0_j2_ok hd a1 hQ p11 hS (by kernel_rfl)
  · replace hS := cond_f hc hS
    refine zrCondF (by kernel_rfl) ?_
    refine zrKeep (J := f39_l0_e0_J a1) (by kernel_rfl) ?_
    refine zrExit ?_
    refine zkSeqX ?_
    refine zkNil ?_
    exact endQ hS hQ (finL_x (by intro h; cases h) (by show _ = _ ∧ _ = _; exact ⟨rfl, rfl⟩))
noncomputable def f39_l0 (a1 : List Int) (x : Int) : Option (Int ⊕ (Unit ⊕ Int)) := (bif (decide (x < (a1.length : Int))) then (f39_l0_j1 a1 x true) else (f39_l0_j1 a1 x false))
theorem f39_l0_ok {d : Nat} (hd : 3 ≤ d) (a1 : List Int) {r : Int ⊕ (Unit ⊕ Int)} {Q : PX → St → Prop} (hQ : ∀ e st', finL (f39_l0_H a1) (f39_l0_X a1) r e st' → Q e st') {x : Int} (hS : f39_l0 a1 x = some r) {st : St} (he : f39_l0_H a1 x st) : ZR (lev codes baseL (d - 1)) Q c39_3 [] st := by
  refine zrKeep he ?_
  unfold f39_l0 at hS
  refine zrSeq ?_
  refine zrReg ?_
  refine zlBool (d := 9) (op := (.cmpI .lss (.tmp 8) (.tmp 7))) (g := none) (j := 1) (decide (x < (a1.length : Int))) rfl (by kernel_rfl) (by kernel_rfl) (by kernel_rfl) (fun hc => ?_) (fun hc => ?_)
  · replace hS := cond_t hc hS
    refine zlEnd (by kernel_rfl) ?_
    refine zkSeq ?_
    exact f39_l0_j1_ok hd a1 hQ x true hS (by kernel_rfl)
  · replace hS := cond_f hc hS
    refine zlEnd (by kernel_rfl) ?_
    refine zkSeq ?_
    exact f39_l0_j1_ok hd a1 hQ x false hS (by kernel_rfl)
noncomputable def f39 (a1 : List Int) : Option (Int) := ((loopO (f39_l0 a1) 0).bind fun z9 => (Sum.elim (fun z10 => (some (-1))) (fun z11 => (some z11)) z9))
theorem f39_ok (d : Nat) (hd : 3 ≤ d) (a1 : List Int) (r : Int) (hS : f39 a1 = some r) : lev codes baseL d 39 [(.d (.sl a1.length ((eInt .i64).cells a1))), (.fn 26 [])] [] = some ((.d (.int .i64 r)), []) := by
  refine lev_go codes39 rfl rfl (Nat.le_trans (Nat.le_of_ble_eq_true rfl) hd) fun Q hQ => ?_
  unfold f39 at hS
  show ZR _ Q c39_b [] _
  replace hQ : ∀ e st', f39_Q r e st' → Q e st' := hQ
  refine zrSeq ?_
  refine zrReg ?_
  refine zlRun (n := 1) (j := 1) rfl (by kernel_rfl) ?_
  refine zlEnd (by kernel_rfl) ?_
  refine zkSeq ?_
  refine zrSeq ?_
  refine zrSeq ?_
  refine zrReg ?_
  refine zlRun (n := 3) (j := 3) rfl (by kernel_rfl) ?_
  refine zlEnd (by kernel_rfl) ?_
  refine zkSeq ?_
  refine zrBlk ?_
  refine bindE hS (fun z9 hz9 hS => ?_)
  refine zrLoop (f39_l0_H a1) (f39_l0_X a1) (fun x st r Q h0 hS hQ => f39_l0_ok hd a1 hQ hS h0) (x := 0) (z := z9) (by show keepSt _ _ _ _ = _; kernel_rfl) hz9 ?_
  rcases z9 with z10 | z11
  · replace hS := (show _ = _ from hS)
    simp only [Sum.elim_inl] at hS
    intro e st' _ hX
    obtain ⟨rfl, rfl⟩ : _ ∧ _ := hX
    refine zkBlkX ?_
    refine zkSeq ?_
    refine zrSeq ?_
    refine zrReg ?_
    refine zlRun (n := 1) (j := 1) rfl (by kernel_rfl) ?_
    refine zlEnd (by kernel_rfl) ?_
    refine zkSeq ?_
    refine zrRet ?_
    refine zkNil ?_
    exact endQ hS hQ (fRet (by kernel_rfl) ((congrArg (fun s => outR s 0 c39.res) (by kernel_rfl : finSt c39.fin _ = f39_fin (-1))).trans (f39_out (-1))))
  · simp only [Sum.elim_inr] at hS
    intro e st' _ hX
    obtain ⟨rfl, hX⟩ : _ ∧ _ := hX
    refine zkBlkR ?_
    refine zkSeqR ?_
    refine zkNil ?_
    exact endQ hS hQ (fRet (by kernel_rfl) ((congrArg (fun s => outR s 0 c39.res) hX).trans (f39_out z11)))
/- slices.ContainsFunc[[]int,int] -/
def f25_fin (p2 : Bool) : St := ⟨(up (fun _ => .un) 4 (.d (.bool p2))), (hB fun _ => 0)⟩
theorem f25_out (p2 : Bool) : outR (f25_fin p2) 0 c25.res = some ((.d (.bool p2)), []) := by
  kernel_rfl
def f25_Q (r : Bool) (e : PX) (st : St) : Prop := DoneF c25 0 ((.d (.bool r)), []) e st
noncomputable def f25 (a1 : List Int) : Option (Bool) := ((f39 a1).bind fun z2 => (bif (decide (0 ≤ z2)) then (some true) else (some false)))
theorem f25_ok (d : Nat) (hd : 4 ≤ d) (a1 : List Int) (r : Bool) (hS : f25 a1 = some r) : lev codes baseL d 25 [(.d (.sl a1.length ((eInt .i64).cells a1))), (.fn 26 [])] [] = some ((.d (.bool r)), []) := by
  refine lev_go codes25 rfl rfl (Nat.le_trans (Nat.le_of_ble_eq_true rfl) hd) fun Q hQ => ?_
  unfold f25 at hS
  show ZR _ Q c25_b [] _
  replace hQ : ∀ e st', f25_Q r e st' → Q e st' := hQ
  refine zrSeq ?_
  refine zrReg ?_
  refine zlRun (n := 1) (j := 1) rfl (by kernel_rfl) ?_
  refine zlEnd (by kernel_rfl) ?_
  refine zkSeq ?_
  refine zrSeq ?_
  refine zrReg ?_
  refine zlRun (n := 2) (j := 2) rfl (by kernel_rfl) ?_
  refine bindE hS (fun z2 hz2 hS => ?_)
  refine zlOp (d := some 7) (op := (.call 39 [(.tmp 5), (.tmp 6)])) (g := none) (j := 3) rfl (by kernel_rfl) (by kernel_rfl) (ev_callA (by kernel_rfl) (f39_ok (d - 1) (dpt hd rfl) a1 z2 hz2) (by kernel_rfl) (by kernel_rfl)) ?_
  refine zlBool (d := 8) (op := (.cmpI .geq (.tmp 7) (.const (.int .i64 0)))) (g := none) (j := 4) (decide (0 ≤ z2)) rfl (by kernel_rfl) (by kernel_rfl) (by kernel_rfl) (fun hc => ?_) (fun hc => ?_)
  · replace hS := cond_t hc hS
    refine zlRun (n := 1) (j := 5) rfl (by kernel_rfl) ?_
    refine zlEnd (by kernel_rfl) ?_
    refine zkSeq ?_
    refine zrRet ?_
    refine zkNil ?_
    exact endQ hS hQ (fRet (by kernel_rfl) ((congrArg (fun s => outR s 0 c25.res) (by kernel_rfl : finSt c25.fin _ = f25_fin true)).trans (f25_out true)))
  · replace hS := cond_f hc hS
    refine zlRun (n := 1) (j := 5) rfl (by kernel_rfl) ?_
    refine zlEnd (by kernel_rfl) ?_
    refine zkSeq ?_
    refine zrRet ?_
    refine zkNil ?_
    exact endQ hS hQ (fRet (by kernel_rfl) ((congrArg (fun s => outR s 0 c25.res) (by kernel_rfl : finSt c25.fin _ = f25_fin false)).trans (f25_out false)))
/- farwriter/screen.actions -/
def f15_fin (p15 : Int) : St := ⟨(up (fun _ => .un) 2 (.d (.int .i64 p15))), (hB fun _ => 0)⟩
theorem f15_out (p15 : Int) : outR (f15_fin p15) 0 c15.res = some ((.d (.int .i64 p15)), []) := by
  kernel_rfl
def f15_Q (r : Int) (e : PX) (st : St) : Prop := DoneF c15 0 ((.d (.int .i64 r)), []) e st
def f15_l0_J (a1 : List GAct) (x : Int) : St := ⟨(up (up (up (fun _ => .un) 7 (.d (.int .i64 x))) 6 (.d (.int .i64 (a1.length : Int)))) 5 (.d (.sl a1.length (e_GAct.cells a1)))), (hB fun _ => 0)⟩
def f15_l0_H (a1 : List GAct) (x : Int) (st : St) : Prop := keepSt [5, 6, 7] [] [] st = f15_l0_J a1 x
def f15_l0_e0_J (a1 : List GAct) : St := ⟨(fun _ => .un), (hB fun _ => 0)⟩
def f15_l0_X (a1 : List GAct) (z : Unit ⊕ Int) (e : PX) (st : St) : Prop := (match z with | .inl z => e = .exit 0 ∧ st = f15_l0_e0_J a1 | .inr z => e = .ret ∧ finSt c15.fin st = f15_fin z)
def f15_l0_j2_J (a1 : List GAct) (p20 : Int) : St := ⟨(up (up (up (fun _ => .un) 7 (.d (.int .i64 p20))) 6 (.d (.int .i64 (a1.length : Int)))) 5 (.d (.sl a1.length (e_GAct.cells a1)))), (hB fun _ => 0)⟩
noncomputable def f15_l0_j2 (a1 : List GAct) (p20 : Int) : Option (Int ⊕ (Unit ⊕ Int)) := ((idx a1 p20).bind fun z7 => (bif (decide (32 < (z7.Args.length : Int))) then (some (.inr (.inr 1))) else (bif (decide (256 < (z7.Text.length : Int))) then (some (.inr (.inr 1))) else ((f25 z7.Args).bind fun z8 => (bif z8 then (some (.inr (.inr 1))) else (some (.inl (IntKind.i64.wrap (p20 + 1)))))))))
theorem f15_l0_j2_ok {d : Nat} (hd : 5 ≤ d) (a1 : List GAct) {r : Int ⊕ (Unit ⊕ Int)} {Q : PX → St → Prop} (hQ : ∀ e st', finL (f15_l0_H a1) (f15_l0_X a1) r e st' → Q e st') (p20 : Int) (hS : f15_l0_j2 a1 p20 = some r) {st : St} (he : keepSt [5, 6, 7] [] [] st = f15_l0_j2_J a1 p20) : ZR (lev codes baseL (d - 1)) Q c15_1 [] st := by
  refine zrKeep he ?_
  unfold f15_l0_j2 at hS
  refine zrSeq ?_
  refine zrBlk ?_
  refine zrSeq ?_
  refine zrReg ?_
  refine bindE hS (fun z7 hz7 hS => ?_)
  refine zlOp (d := some 9) (op := (.ixS 55 6 (.tmp 5) (.tmp 7))) (g := none) (v := (.rptr (e_GAct.enc z7 ++ (e_GAct.cells (a1.drop ((p20 : Int).toNat + 1)))))) (ups := []) (j := 1) rfl (by kernel_rfl) (by kernel_rfl) (ev_ixS e_GAct (kk := .i64) (xs := a1) (j := p20) (by kernel_rfl) (by kernel_rfl) hz7 rfl (by intro h; cases h)) ?_
  refine zlRun (n := 3) (j := 4) rfl (by kernel_rfl) ?_
  refine zlEnd (by kernel_rfl) ?_
  refine zkSeq ?_
  refine zrSeq ?_
  refine zrReg ?_
  refine zlRun (n := 3) (j := 3) rfl (by kernel_rfl) ?_
  refine zlBool (d := 14) (op := (.cmpI .gtr (.tmp 13) (.const (.int .i64 32)))) (g := none) (j := 4) (decide (32 < (z7.Args.length : Int))) rfl (by kernel_rfl) (by kernel_rfl) (by kernel_rfl) (fun hc => ?_) (fun hc => ?_)
  · replace hS := cond_t hc hS
    refine zlRun (n := 11) (j := 15) rfl (by kernel_rfl) ?_
    refine zlEnd (by kernel_rfl) ?_
    refine zkSeq ?_
    refine zrCondT (by kernel_rfl) ?_
    refine zrSeq ?_
    refine zrReg ?_
    refine zlRun (n := 1) (j := 1) rfl (by kernel_rfl) ?_
    refine zlEnd (by kernel_rfl) ?_
    refine zkSeq ?_
    refine zrRet ?_
    refine zkBlkR ?_
    refine zkSeqR ?_
    refine zkNil ?_
    exact endQ hS hQ (finL_x (by intro h; cases h) (by show _ = _ ∧ _ = _; exact ⟨rfl, by kernel_rfl⟩))
  · replace hS := cond_f hc hS
    refine zlRun (n := 4) (j := 8) rfl (by kernel_rfl) ?_
    refine zlBool (d := 19) (op := (.cmpI .gtr (.tmp 18) (.const (.int .i64 256)))) (g := (some (15, false))) (j := 9) (decide (256 < (z7.Text.length : Int))) rfl (by kernel_rfl) (by kernel_rfl) (by kernel_rfl) (fun hc => ?_) (fun hc => ?_)
    · replace hS := cond_t hc hS
      refine zlRun (n := 6) (j := 15) rfl (by kernel_rfl) ?_
      refine zlEnd (by kernel_rfl) ?_
      refine zkSeq ?_
      refine zrCondT (by kernel_rfl) ?_
      refine zrSeq ?_
      refine zrReg ?_
      refine zlRun (n := 1) (j := 1) rfl (by kernel_rfl) ?_
      refine zlEnd (by kernel_rfl) ?_
      refine zkSeq ?_
      refine zrRet ?_
      refine zkBlkR ?_
      refine zkSeqR ?_
      refine zkNil ?_
      exact endQ hS hQ (finL_x (by intro h; cases h) (by show _ = _ ∧ _ = _; exact ⟨rfl, by kernel_rfl⟩))
    · replace hS := cond_f hc hS
      refine zlRun (n := 4) (j := 13) rfl (by kernel_rfl) ?_
      refine bindE hS (fun z8 hz8 hS => ?_)
      refine zlOp (d := some 24) (op := (.call 25 [(.tmp 23), (.func 26)])) (g := (some (21, false))) (j := 14) rfl (by kernel_rfl) (by kernel_rfl) (ev_callA (by kernel_rfl) (f25_ok (d - 1) (dpt hd rfl) z7.Args z8 hz8) (by kernel_rfl) (by kernel_rfl)) ?_
      refine zlRun (n := 1) (j := 15) rfl (by kernel_rfl) ?_
      refine zlEnd (by kernel_rfl) ?_
      refine zkSeq ?_
      refine zrSplit 25 z8 (by kernel_rfl) (fun hc => ?_) (fun hc => ?_)
      · replace hS := cond_t hc hS
        refine zrCondT (by kernel_rfl) ?_
        refine zrSeq ?_
        refine zrReg ?_
        refine zlRun (n := 1) (j := 1) rfl (by kernel_rfl) ?_
        refine zlEnd (by kernel_rfl) ?_
        refine zkSeq ?_
        refine zrRet ?_
        refine zkBlkR ?_
        refine zkSeqR ?_
        refine zkNil ?_
        exact endQ hS hQ (finL_x (by intro h; cases h) (by show _ = _ ∧ _ = _; exact ⟨rfl, by kernel_rfl⟩))
      · replace hS := cond_f hc hS
        refine zrCondF (by kernel_rfl) ?_
        refine zrSkip ?_
        refine zkBlk ?_
        refine zkSeq ?_
        refine zrReg ?_
        refine zlRun (n := 2) (j := 2) rfl (by kernel_rfl) ?_
        refine zlEnd (by kernel_rfl) ?_
        refine zkNil ?_
        exact endQ hS hQ (finL_n (by show keepSt _ _ _ _ = _; kernel_rfl))
def f15_l0_j1_J (a1 : List GAct) (p18 : Int) (p19 : Bool) : St := ⟨(up (up (up (up (fun _ => .un) 8 (.d (.bool p19))) 7 (.d (.int .i64 p18))) 6 (.d (.int .i64 (a1.length : Int)))) 5 (.d (.sl a1.length (e_GAct.cells a1)))), (hB fun _ => 0)⟩
noncomputable def f15_l0_j1 (a1 : List GAct) (p18 : Int) (p19 : Bool) : Option (Int ⊕ (Unit ⊕ Int)) := (bif p19 then (f15_l0_j2 a1 p18) else (some (.inr (.inl ()))))
theorem f15_l0_j1_ok {d : Nat} (hd : 5 ≤ d) (a1 : List GAct) {r : Int ⊕ (Unit ⊕ Int)} {Q : PX → St → Prop} (hQ : ∀ e st', finL (f15_l0_H a1) (f15_l0_X a1) r e st' → Q e st') (p18 : Int) (p19 : Bool) (hS : f15_l0_j1 a1 p18 p19 = some r) {st : St} (he : keepSt [5, 6, 7, 8] [] [] st = f15_l0_j1_J a1 p18 p19) : ZR (lev codes baseL (d - 1)) Q c15_2 [] st := by
  refine zrKeep he ?_
  unfold f15_l0_j1 at hS
  refine zrSeq ?_
  refine zrSplit 8 p19 (by kernel_rfl) (fun hc => ?_) (fun hc => ?_)
  · replace hS := cond_t hc hS
    refine zrCondT (by kernel_rfl) ?_
    refine zrSkip ?_
    refine zkSeq ?_
    exact f15_l0_j2_ok hd a1 hQ p18 hS (by kernel_rfl)
  · replace hS := cond_f hc hS
    refine zrCondF (by kernel_rfl) ?_
    refine zrKeep (J := f15_l0_e0_J a1) (by kernel_rfl) ?_
    refine zrExit ?_
    refine zkSeqX ?_
    refine zkNil ?_
    exact endQ hS hQ (finL_x (by intro h; cases h) (by show _ = _ ∧ _ = _; exact ⟨rfl, rfl⟩))
noncomputable def f15_l0 (a1 : List GAct) (x : Int) : Option (Int ⊕ (Unit ⊕ Int)) := (bif (decide (x < (a1.length : Int))) then (f15_l0_j1 a1 x true) else (f15_l0_j1 a1 x false))
theorem f15_l0_ok {d : Nat} (hd : 5 ≤ d) (a1 : List GAct) {r : Int ⊕ (Unit ⊕ Int)} {Q : PX → St → Prop} (hQ : ∀ e st', finL (f15_l0_H a1) (f15_l0_X a1) r e st' → Q e st') {x : Int} (hS : f15_l0 a1 x = some r) {st : St} (he : f15_l0_H a1 x st) : ZR (lev codes baseL (d - 1)) Q c15_3 [] st := by
  refine zrKeep he ?_
  unfold f15_l0 at hS
  refine zrSeq ?_
  refine zrReg ?_
  refine zlBool (d := 8) (op := (.cmpI .lss (.tmp 7) (.tmp 6))) (g := none) (j := 1) (decide (x < (a1.length : Int))) rfl (by kernel_rfl) (by kernel_rfl) (by kernel_rfl) (fun hc => ?_) (fun hc => ?_)
  · replace hS := cond_t hc hS
    refine zlEnd (by kernel_rfl) ?_
    refine zkSeq ?_
    exact f15_l0_j1_ok hd a1 hQ x true hS (by kernel_rfl)
  · replace hS := cond_f hc hS
    refine zlEnd (by kernel_rfl) ?_
    refine zkSeq ?_
    exact f15_l0_j1_ok hd a1 hQ x false hS (by kernel_rfl)
noncomputable def f15 (a1 : List GAct) : Option (Int) := ((loopO (f15_l0 a1) 0).bind fun z9 => (Sum.elim (fun z10 => (some 0)) (fun z11 => (some z11)) z9))
theorem f15_ok (d : Nat) (hd : 5 ≤ d) (a1 : List GAct) (r : Int) (hS : f15 a1 = some r) : lev codes baseL d 15 [(.d (.sl a1.length (e_GAct.cells a1)))] [] = some ((.d (.int .i64 r)), []) := by
  refine lev_go codes15 rfl rfl (Nat.le_trans (Nat.le_of_ble_eq_true rfl) hd) fun Q hQ => ?_
  unfold f15 at hS
  show ZR _ Q c15_b [] _
  replace hQ : ∀ e st', f15_Q r e st' → Q e st' := hQ
  refine zrSeq ?_
  refine zrReg ?_
  refine zlRun (n := 1) (j := 1) rfl (by kernel_rfl) ?_
  refine zlEnd (by kernel_rfl) ?_
  refine zkSeq ?_
  refine zrSeq ?_
  refine zrSeq ?_
  refine zrReg ?_
  refine zlRun (n := 3) (j := 3) rfl (by kernel_rfl) ?_
  refine zlEnd (by kernel_rfl) ?_
  refine zkSeq ?_
  refine zrBlk ?_
  refine bindE hS (fun z9 hz9 hS => ?_)
  refine zrLoop (f15_l0_H a1) (f15_l0_X a1) (fun x st r Q h0 hS hQ => f15_l0_ok hd a1 hQ hS h0) (x := 0) (z := z9) (by show keepSt _ _ _ _ = _; kernel_rfl) hz9 ?_
  rcases z9 with z10 | z11
  · replace hS := (show _ = _ from hS)
    simp only [Sum.elim_inl] at hS
    intro e st' _ hX
    obtain ⟨rfl, rfl⟩ : _ ∧ _ := hX
    refine zkBlkX ?_
    refine zkSeq ?_
    refine zrSeq ?_
    refine zrReg ?_
    refine zlRun (n := 1) (j := 1) rfl (by kernel_rfl) ?_
    refine zlEnd (by kernel_rfl) ?_
    refine zkSeq ?_
    refine zrRet ?_
    refine zkNil ?_
    exact endQ hS hQ (fRet (by kernel_rfl) ((congrArg (fun s => outR s 0 c15.res) (by kernel_rfl : finSt c15.fin _ = f15_fin 0)).trans (f15_out 0)))
  · simp only [Sum.elim_inr] at hS
    intro e st' _ hX
    obtain ⟨rfl, hX⟩ : _ ∧ _ := hX
    refine zkBlkR ?_
    refine zkSeqR ?_
    refine zkNil ?_
    exact endQ hS hQ (fRet (by kernel_rfl) ((congrArg (fun s => outR s 0 c15.res) hX).trans (f15_out z11)))
/- farwriter/page.of -/
def f64_fin (p8 : Int) : St := ⟨(up (fun _ => .un) 4 (.d (.int .i64 p8))), (hB fun _ => 0)⟩
theorem f64_out (p8 : Int) : outR (f64_fin p8) 0 c64.res = some ((.d (.int .i64 p8)), []) := by
  kernel_rfl
def f64_Q (r : Int) (e : PX) (st : St) : Prop := DoneF c64 0 ((.d (.int .i64 r)), []) e st
def f64_j0_J (a1 : Int) (a2 : UInt8) : St := ⟨(up (up (up (fun _ => .un) 5 (.r (.ptr 48 0 0))) 1 (.d (.int .u8 (a2.toNat : Int)))) 0 (.d (.int .i64 a1))), (up (hB fun _ => 0) 48 ⟨0, some (.box (((eInt .i64).row 32 (fun i => ([160, 9670, 9618, 9225, 9228, 9229, 9226, 176, 177, 9252, 9227, 9496, 9488, 9484, 9492, 9532, 9146, 9147, 9472, 9148, 9149, 9500, 9508, 9524, 9516, 9474, 8804, 8805, 960, 8800, 163, 183] : List Int).getD i 0)) ++ []))⟩)⟩
noncomputable def f64_j0 (a1 : Int) (a2 : UInt8) : Option (Int) := (bif (decide (a1 = 3)) then (bif (decide (95 ≤ (a2.toNat : Int))) then (bif (decide ((a2.toNat : Int) ≤ 126)) then ((inR ((a2 - (95 : UInt8)).toNat : Int) 32).bind fun m2 => (some (([160, 9670, 9618, 9225, 9228, 9229, 9226, 176, 177, 9252, 9227, 9496, 9488, 9484, 9492, 9532, 9146, 9147, 9472, 9148, 9149, 9500, 9508, 9524, 9516, 9474, 8804, 8805, 960, 8800, 163, 183] : List Int).getD m2 0))) else (some (a2.toNat : Int))) else (some (a2.toNat : Int))) else (some (a2.toNat : Int)))
theorem f64_j0_ok {d : Nat} (hd : 1 ≤ d) (a1 : Int) (a2 : UInt8) {r : Int} {Q : PX → St → Prop} (hQ : ∀ e st', f64_Q r e st' → Q e st')  (hS : f64_j0 a1 a2 = some r) {st : St} (he : keepSt [0, 1, 5] [(48, .id 48)] [] st = f64_j0_J a1 a2) : ZR (lev codes baseL (d - 1)) Q c64_1 [.blk 0, .seq c64_2] st := by
  refine zrKeep he ?_
  unfold f64_j0 at hS
  refine zrSeq ?_
  refine zrReg ?_
  refine zlRun (n := 1) (j := 1) rfl (by kernel_rfl) ?_
  refine zlBool (d := 24) (op := (.cmpI .eql (.tmp 23) (.const (.int .i64 3)))) (g := none) (j := 2) (decide (a1 = 3)) rfl (by kernel_rfl) (by kernel_rfl) (by kernel_rfl) (fun hc => ?_) (fun hc => ?_)
  · replace hS := cond_t hc hS
    refine zlRun (n := 2) (j := 4) rfl (by kernel_rfl) ?_
    refine zlBool (d := 27) (op := (.cmpI .geq (.tmp 26) (.const (.int .u8 95)))) (g := (some (25, true))) (j := 5) (decide (95 ≤ (a2.toNat : Int))) rfl (by kernel_rfl) (by kernel_rfl) (by kernel_rfl) (fun hc => ?_) (fun hc => ?_)
    · replace hS := cond_t hc hS
      refine zlRun (n := 3) (j := 8) rfl (by kernel_rfl) ?_
      refine zlBool (d := 31) (op := (.cmpI .leq (.tmp 30) (.const (.int .u8 126)))) (g := (some (29, true))) (j := 9) (decide ((a2.toNat : Int) ≤ 126)) rfl (by kernel_rfl) (by kernel_rfl) (by kernel_rfl) (fun hc => ?_) (fun hc => ?_)
      · replace hS := cond_t hc hS
        refine zlRun (n := 2) (j := 11) rfl (by kernel_rfl) ?_
        refine zlEnd (by kernel_rfl) ?_
        refine zkSeq ?_
        refine zrCondT (by kernel_rfl) ?_
        refine zrSeq ?_
        refine zrReg ?_
        refine zlRun (n := 1) (j := 1) rfl (by kernel_rfl) ?_
        refine zlOp (d := some 34) (op := (.arI .sub (.tmp 33) (.const (.int .u8 95)))) (g := none) (v := (.d (.int .u8 ((a2 - (95 : UInt8)).toNat : Int)))) (ups := []) (j := 2) rfl (by kernel_rfl) (by kernel_rfl) (ev_arI (kk := .u8) (a := (a2.toNat : Int)) (c := ((95 : UInt8).toNat : Int)) (by kernel_rfl) (by kernel_rfl) (ar_sub8 a2 (95 : UInt8))) ?_
        refine bindE hS (fun m2 hm2 hS => ?_)
        refine zlOp (d := some 35) (op := (.ixA 32 1 (.tmp 5) (.tmp 34))) (g := none) (v := (.r (.ptr 48 0 (0 + m2 * 1)))) (ups := []) (j := 3) rfl (by kernel_rfl) (by kernel_rfl) (ev_ixA (kk := .u8) (b := 48) (g := 0) (o := 0) (j := ((a2 - (95 : UInt8)).toNat : Int)) (by kernel_rfl) (by kernel_rfl) hm2) ?_
        refine zlOp (d := some 36) (op := (.load .false 1 (.tmp 35))) (g := none) (v := (.d (.int .i64 (([160, 9670, 9618, 9225, 9228, 9229, 9226, 176, 177, 9252, 9227, 9496, 9488, 9484, 9492, 9532, 9146, 9147, 9472, 9148, 9149, 9500, 9508, 9524, 9516, 9474, 8804, 8805, 960, 8800, 163, 183] : List Int).getD m2 0)))) (ups := []) (j := 4) rfl (by kernel_rfl) (by kernel_rfl) (ev_loadA (eInt .i64) (b := 48) (g := 0) (o := 0 + m2 * 1) (f := (fun i => ([160, 9670, 9618, 9225, 9228, 9229, 9226, 176, 177, 9252, 9227, 9496, 9488, 9484, 9492, 9532, 9146, 9147, 9472, 9148, 9149, 9500, 9508, 9524, 9516, 9474, 8804, 8805, 960, 8800, 163, 183] : List Int).getD i 0)) (nn := 32) (m := m2) (fo := 0) (pre := []) (post := []) (by kernel_rfl) (by kernel_rfl) (by kernel_rfl) (inR_lt hm2) (by kernel_rfl) (by kernel_rfl) (by kernel_rfl)) ?_
        refine zlRun (n := 1) (j := 5) rfl (by kernel_rfl) ?_
        refine zlEnd (by kernel_rfl) ?_
        refine zkSeq ?_
        refine zrRet ?_
        refine zkBlkR ?_
        refine zkSeqR ?_
        refine zkNil ?_
        exact endQ hS hQ (fRet (by kernel_rfl) ((congrArg (fun s => outR s 0 c64.res) (by kernel_rfl : finSt c64.fin _ = f64_fin (([160, 9670, 9618, 9225, 9228, 9229, 9226, 176, 177, 9252, 9227, 9496, 9488, 9484, 9492, 9532, 9146, 9147, 9472, 9148, 9149, 9500, 9508, 9524, 9516, 9474, 8804, 8805, 960, 8800, 163, 183] : List Int).getD m2 0))).trans (f64_out (([160, 9670, 9618, 9225, 9228, 9229, 9226, 176, 177, 9252, 9227, 9496, 9488, 9484, 9492, 9532, 9146, 9147, 9472, 9148, 9149, 9500, 9508, 9524, 9516, 9474, 8804, 8805, 960, 8800, 163, 183] : List Int).getD m2 0))))
      · replace hS := cond_f hc hS
        refine zlRun (n := 2) (j := 11) rfl (by kernel_rfl) ?_
        refine zlEnd (by kernel_rfl) ?_
        refine zkSeq ?_
        refine zrCondF (by kernel_rfl) ?_
        refine zrSkip ?_
        refine zkBlk ?_
        refine zkSeq ?_
        refine zrSeq ?_
        refine zrReg ?_
        refine zlRun (n := 1) (j := 1) rfl (by kernel_rfl) ?_
        refine zlOp (d := some 38) (op := (.cvI .i64 (.tmp 37))) (g := none) (v := (.d (.int .i64 (a2.toNat : Int)))) (ups := []) (j := 2) rfl (by kernel_rfl) (by kernel_rfl) (ev_cv (kk := .u8) (a := (a2.toNat : Int)) (by kernel_rfl) (cv_i64 _)) ?_
        refine zlRun (n := 1) (j := 3) rfl (by kernel_rfl) ?_
        refine zlEnd (by kernel_rfl) ?_
        refine zkSeq ?_
        refine zrRet ?_
        refine zkNil ?_
        exact endQ hS hQ (fRet (by kernel_rfl) ((congrArg (fun s => outR s 0 c64.res) (by kernel_rfl : finSt c64.fin _ = f64_fin (a2.toNat : Int))).trans (f64_out (a2.toNat : Int))))
    · replace hS := cond_f hc hS
      refine zlRun (n := 6) (j := 11) rfl (by kernel_rfl) ?_
      refine zlEnd (by kernel_rfl) ?_
      refine zkSeq ?_
      refine zrCondF (by kernel_rfl) ?_
      refine zrSkip ?_
      refine zkBlk ?_
      refine zkSeq ?_
      refine zrSeq ?_
      refine zrReg ?_
      refine zlRun (n := 1) (j := 1) rfl (by kernel_rfl) ?_
      refine zlOp (d := some 38) (op := (.cvI .i64 (.tmp 37))) (g := none) (v := (.d (.int .i64 (a2.toNat : Int)))) (ups := []) (j := 2) rfl (by kernel_rfl) (by kernel_rfl) (ev_cv (kk := .u8) (a := (a2.toNat : Int)) (by kernel_rfl) (cv_i64 _)) ?_
      refine zlRun (n := 1) (j := 3) rfl (by kernel_rfl) ?_
      refine zlEnd (by kernel_rfl) ?_
      refine zkSeq ?_
      refine zrRet ?_
      refine zkNil ?_
      exact endQ hS hQ (fRet (by kernel_rfl) ((congrArg (fun s => outR s 0 c64.res) (by kernel_rfl : finSt c64.fin _ = f64_fin (a2.toNat : Int))).trans (f64_out (a2.toNat : Int))))
  · replace hS := cond_f hc hS
    refine zlRun (n := 9) (j := 11) rfl (by kernel_rfl) ?_
    refine zlEnd (by kernel_rfl) ?_
    refine zkSeq ?_
    refine zrCondF (by kernel_rfl) ?_
    refine zrSkip ?_
    refine zkBlk ?_
    refine zkSeq ?_
    refine zrSeq ?_
    refine zrReg ?_
    refine zlRun (n := 1) (j := 1) rfl (by kernel_rfl) ?_
    refine zlOp (d := some 38) (op := (.cvI .i64 (.tmp 37))) (g := none) (v := (.d (.int .i64 (a2.toNat : Int)))) (ups := []) (j := 2) rfl (by kernel_rfl) (by kernel_rfl) (ev_cv (kk := .u8) (a := (a2.toNat : Int)) (by kernel_rfl) (cv_i64 _)) ?_
    refine zlRun (n := 1) (j := 3) rfl (by kernel_rfl) ?_
    refine zlEnd (by kernel_rfl) ?_
    refine zkSeq ?_
    refine zrRet ?_
    refine zkNil ?_
    exact endQ hS hQ (fRet (by kernel_rfl) ((congrArg (fun s => outR s 0 c64.res) (by kernel_rfl : finSt c64.fin _ = f64_fin (a2.toNat : Int))).trans (f64_out (a2.toNat : Int))))
noncomputable def f64 (a1 : Int) (a2 : UInt8) : Option (Int) := (bif (decide (a1 = 2)) then (some (a2.toNat : Int)) else (bif (decide (127 < (a2.toNat : Int))) then (some 65533) else (bif (decide (a1 = 4)) then (bif (decide ((a2.toNat : Int) = 35)) then (some 163) else (f64_j0 a1 a2 )) else (f64_j0 a1 a2 ))))
theorem f64_ok (d : Nat) (hd : 1 ≤ d) (a1 : Int) (a2 : UInt8) (r : Int) (hS : f64 a1 a2 = some r) : lev codes baseL d 64 [(.d (.int .i64 a1)), (.d (.int .u8 (a2.toNat : Int)))] [] = some ((.d (.int .i64 r)), []) := by
  refine lev_go codes64 rfl rfl (Nat.le_trans (Nat.le_of_ble_eq_true rfl) hd) fun Q hQ => ?_
  unfold f64 at hS
  show ZR _ Q c64_b [] _
  replace hQ : ∀ e st', f64_Q r e st' → Q e st' := hQ
  refine zrSeq ?_
  refine zrReg ?_
  refine zlRun (n := 1) (j := 1) rfl (by kernel_rfl) ?_
  refine zlEnd (by kernel_rfl) ?_
  refine zkSeq ?_
  refine zrSeq ?_
  refine zrReg ?_
  refine zlRun (n := 3) (j := 3) rfl (by kernel_rfl) ?_
  refine zlEnd (by kernel_rfl) ?_
  refine zkSeq ?_
  refine zrSeq ?_
  refine zrBlk ?_
  refine zrSeq ?_
  refine zrReg ?_
  refine zlRun (n := 1) (j := 1) rfl (by kernel_rfl) ?_
  refine zlBool (d := 9) (op := (.cmpI .eql (.tmp 8) (.const (.int .i64 2)))) (g := none) (j := 2) (decide (a1 = 2)) rfl (by kernel_rfl) (by kernel_rfl) (by kernel_rfl) (fun hc => ?_) (fun hc => ?_)
  · replace hS := cond_t hc hS
    refine zlRun (n := 1) (j := 3) rfl (by kernel_rfl) ?_
    refine zlEnd (by kernel_rfl) ?_
    refine zkSeq ?_
    refine zrCondT (by kernel_rfl) ?_
    refine zrSeq ?_
    refine zrReg ?_
    refine zlRun (n := 1) (j := 1) rfl (by kernel_rfl) ?_
    refine zlOp (d := some 11) (op := (.cvI .i64 (.tmp 10))) (g := none) (v := (.d (.int .i64 (a2.toNat : Int)))) (ups := []) (j := 2) rfl (by kernel_rfl) (by kernel_rfl) (ev_cv (kk := .u8) (a := (a2.toNat : Int)) (by kernel_rfl) (cv_i64 _)) ?_
    refine zlRun (n := 1) (j := 3) rfl (by kernel_rfl) ?_
    refine zlEnd (by kernel_rfl) ?_
    refine zkSeq ?_
    refine zrRet ?_
    refine zkBlkR ?_
    refine zkSeqR ?_
    refine zkNil ?_
    exact endQ hS hQ (fRet (by kernel_rfl) ((congrArg (fun s => outR s 0 c64.res) (by kernel_rfl : finSt c64.fin _ = f64_fin (a2.toNat : Int))).trans (f64_out (a2.toNat : Int))))
  · replace hS := cond_f hc hS
    refine zlRun (n := 1) (j := 3) rfl (by kernel_rfl) ?_
    refine zlEnd (by kernel_rfl) ?_
    refine zkSeq ?_
    refine zrCondF (by kernel_rfl) ?_
    refine zrSeq ?_
    refine zrReg ?_
    refine zlRun (n := 1) (j := 1) rfl (by kernel_rfl) ?_
    refine zlBool (d := 14) (op := (.cmpI .gtr (.tmp 13) (.const (.int .u8 127)))) (g := none) (j := 2) (decide (127 < (a2.toNat : Int))) rfl (by kernel_rfl) (by kernel_rfl) (by kernel_rfl) (fun hc => ?_) (fun hc => ?_)
    · replace hS := cond_t hc hS
      refine zlRun (n := 1) (j := 3) rfl (by kernel_rfl) ?_
      refine zlEnd (by kernel_rfl) ?_
      refine zkSeq ?_
      refine zrCondT (by kernel_rfl) ?_
      refine zrSeq ?_
      refine zrReg ?_
      refine zlRun (n := 1) (j := 1) rfl (by kernel_rfl) ?_
      refine zlEnd (by kernel_rfl) ?_
      refine zkSeq ?_
      refine zrRet ?_
      refine zkBlkR ?_
      refine zkSeqR ?_
      refine zkNil ?_
      exact endQ hS hQ (fRet (by kernel_rfl) ((congrArg (fun s => outR s 0 c64.res) (by kernel_rfl : finSt c64.fin _ = f64_fin 65533)).trans (f64_out 65533)))
    · replace hS := cond_f hc hS
      refine zlRun (n := 1) (j := 3) rfl (by kernel_rfl) ?_
      refine zlEnd (by kernel_rfl) ?_
      refine zkSeq ?_
      refine zrCondF (by kernel_rfl) ?_
      refine zrSeq ?_
      refine zrReg ?_
      refine zlRun (n := 1) (j := 1) rfl (by kernel_rfl) ?_
      refine zlBool (d := 17) (op := (.cmpI .eql (.tmp 16) (.const (.int .i64 4)))) (g := none) (j := 2) (decide (a1 = 4)) rfl (by kernel_rfl) (by kernel_rfl) (by kernel_rfl) (fun hc => ?_) (fun hc => ?_)
      · replace hS := cond_t hc hS
        refine zlRun (n := 2) (j := 4) rfl (by kernel_rfl) ?_
        refine zlBool (d := 20) (op := (.cmpI .eql (.tmp 19) (.const (.int .u8 35)))) (g := (some (18, true))) (j := 5) (decide ((a2.toNat : Int) = 35)) rfl (by kernel_rfl) (by kernel_rfl) (by kernel_rfl) (fun hc => ?_) (fun hc => ?_)
        · replace hS := cond_t hc hS
          refine zlRun (n := 2) (j := 7) rfl (by kernel_rfl) ?_
          refine zlEnd (by kernel_rfl) ?_
          refine zkSeq ?_
          refine zrCondT (by kernel_rfl) ?_
          refine zrSeq ?_
          refine zrReg ?_
          refine zlRun (n := 1) (j := 1) rfl (by kernel_rfl) ?_
          refine zlEnd (by kernel_rfl) ?_
          refine zkSeq ?_
          refine zrRet ?_
          refine zkBlkR ?_
          refine zkSeqR ?_
          refine zkNil ?_
          exact endQ hS hQ (fRet (by kernel_rfl) ((congrArg (fun s => outR s 0 c64.res) (by kernel_rfl : finSt c64.fin _ = f64_fin 163)).trans (f64_out 163)))
        · replace hS := cond_f hc hS
          refine zlRun (n := 2) (j := 7) rfl (by kernel_rfl) ?_
          refine zlEnd (by kernel_rfl) ?_
          refine zkSeq ?_
          refine zrCondF (by kernel_rfl) ?_
          exact f64_j0_ok hd a1 a2 hQ  hS (by kernel_rfl)
      · replace hS := cond_f hc hS
        refine zlRun (n := 5) (j := 7) rfl (by kernel_rfl) ?_
        refine zlEnd (by kernel_rfl) ?_
        refine zkSeq ?_
        refine zrCondF (by kernel_rfl) ?_
        exact f64_j0_ok hd a1 a2 hQ  hS (by kernel_rfl)
/- farwriter/page.Rune -/
def f40_fin (p1 : Int) (p2 : Int) : St := ⟨(up (up (fun _ => .un) 5 (.d (.int .i64 p2))) 4 (.d (.int .i64 p1))), (hB fun _ => 0)⟩
theorem f40_out (p1 : Int) (p2 : Int) : outR (f40_fin p1 p2) 0 c40.res = some ((.tup [(.d (.int .i64 p1)), (.d (.int .i64 p2))]), []) := by
  kernel_rfl
def f40_Q (r : Int × Int) (e : PX) (st : St) : Prop := DoneF c40 0 ((.tup [(.d (.int .i64 r.1)), (.d (.int .i64 r.2))]), []) e st
noncomputable def f40 (a1 : Int) (a2 : UInt8) : Option (Int × Int) := ((f23 a1).bind fun z3 => (bif (!z3) then (some (0, 6)) else ((f64 a1 a2).bind fun z4 => (some (z4, 0)))))
theorem f40_ok (d : Nat) (hd : 2 ≤ d) (a1 : Int) (a2 : UInt8) (r : Int × Int) (hS : f40 a1 a2 = some r) : lev codes baseL d 40 [(.d (.int .i64 a1)), (.d (.int .u8 (a2.toNat : Int)))] [] = some ((.tup [(.d (.int .i64 r.1)), (.d (.int .i64 r.2))]), []) := by
  refine lev_go codes40 rfl rfl (Nat.le_trans (Nat.le_of_ble_eq_true rfl) hd) fun Q hQ => ?_
  unfold f40 at hS
  show ZR _ Q c40_b [] _
  replace hQ : ∀ e st', f40_Q r e st' → Q e st' := hQ
  refine zrSeq ?_
  refine zrReg ?_
  refine zlRun (n := 2) (j := 2) rfl (by kernel_rfl) ?_
  refine zlEnd (by kernel_rfl) ?_
  refine zkSeq ?_
  refine zrSeq ?_
  refine zrSeq ?_
  refine zrReg ?_
  refine zlRun (n := 1) (j := 1) rfl (by kernel_rfl) ?_
  refine bindE hS (fun z3 hz3 hS => ?_)
  refine zlOp (d := some 7) (op := (.call 23 [(.tmp 6)])) (g := none) (j := 2) rfl (by kernel_rfl) (by kernel_rfl) (ev_callA (by kernel_rfl) (f23_ok (d - 1) (dpt hd rfl) a1 z3 hz3) (by kernel_rfl) (by kernel_rfl)) ?_
  refine zlRun (n := 1) (j := 3) rfl (by kernel_rfl) ?_
  refine zlEnd (by kernel_rfl) ?_
  refine zkSeq ?_
  refine zrSplit 8 (!z3) (by kernel_rfl) (fun hc => ?_) (fun hc => ?_)
  · replace hS := cond_t hc hS
    refine zrCondT (by kernel_rfl) ?_
    refine zrSeq ?_
    refine zrReg ?_
    refine zlRun (n := 2) (j := 2) rfl (by kernel_rfl) ?_
    refine zlEnd (by kernel_rfl) ?_
    refine zkSeq ?_
    refine zrRet ?_
    refine zkSeqR ?_
    refine zkNil ?_
    exact endQ hS hQ (fRet (by kernel_rfl) ((congrArg (fun s => outR s 0 c40.res) (by kernel_rfl : finSt c40.fin _ = f40_fin 0 6)).trans (f40_out 0 6)))
  · replace hS := cond_f hc hS
    refine zrCondF (by kernel_rfl) ?_
    refine zrSkip ?_
    refine zkSeq ?_
    refine zrSeq ?_
    refine zrReg ?_
    refine zlRun (n := 2) (j := 2) rfl (by kernel_rfl) ?_
    refine bindE hS (fun z4 hz4 hS => ?_)
    refine zlOp (d := some 11) (op := (.call 64 [(.tmp 9), (.tmp 10)])) (g := none) (j := 3) rfl (by kernel_rfl) (by kernel_rfl) (ev_callA (by kernel_rfl) (f64_ok (d - 1) (dpt hd rfl) a1 a2 z4 hz4) (by kernel_rfl) (by kernel_rfl)) ?_
    refine zlRun (n := 2) (j := 5) rfl (by kernel_rfl) ?_
    refine zlEnd (by kernel_rfl) ?_
    refine zkSeq ?_
    refine zrRet ?_
    refine zkNil ?_
    exact endQ hS hQ (fRet (by kernel_rfl) ((congrArg (fun s => outR s 0 c40.res) (by kernel_rfl : finSt c40.fin _ = f40_fin z4 0)).trans (f40_out z4 0)))
/- farwriter/screen.limit -/
def f65_fin (p1 : Int) : St := ⟨(up (fun _ => .un) 6 (.d (.int .i64 p1))), (hB fun _ => 0)⟩
theorem f65_out (p1 : Int) : outR (f65_fin p1) 0 c65.res = some ((.d (.int .i64 p1)), []) := by
  kernel_rfl
def f65_Q (r : Int) (e : PX) (st : St) : Prop := DoneF c65 0 ((.d (.int .i64 r)), []) e st
noncomputable def f65 (a1 : Int) (a2 : Int) (a3 : Int) : Option (Int) := (some (if (if a3 < a1 then a3 else a1) > a2 then (if a3 < a1 then a3 else a1) else a2))
theorem f65_ok (d : Nat) (hd : 1 ≤ d) (a1 : Int) (a2 : Int) (a3 : Int) (r : Int) (hS : f65 a1 a2 a3 = some r) : lev codes baseL d 65 [(.d (.int .i64 a1)), (.d (.int .i64 a2)), (.d (.int .i64 a3))] [] = some ((.d (.int .i64 r)), []) := by
  refine lev_go codes65 rfl rfl (Nat.le_trans (Nat.le_of_ble_eq_true rfl) hd) fun Q hQ => ?_
  unfold f65 at hS
  show ZR _ Q c65_b [] _
  replace hQ : ∀ e st', f65_Q r e st' → Q e st' := hQ
  refine zrSeq ?_
  refine zrReg ?_
  refine zlRun (n := 1) (j := 1) rfl (by kernel_rfl) ?_
  refine zlEnd (by kernel_rfl) ?_
  refine zkSeq ?_
  refine zrSeq ?_
  refine zrReg ?_
  refine zlRun (n := 6) (j := 6) rfl (by kernel_rfl) ?_
  refine zlEnd (by kernel_rfl) ?_
  refine zkSeq ?_
  refine zrRet ?_
  refine zkNil ?_
  exact endQ hS hQ (fRet (by kernel_rfl) ((congrArg (fun s => outR s 0 c65.res) (by kernel_rfl : finSt c65.fin _ = f65_fin (if (if a3 < a1 then a3 else a1) > a2 then (if a3 < a1 then a3 else a1) else a2))).trans (f65_out (if (if a3 < a1 then a3 else a1) > a2 then (if a3 < a1 then a3 else a1) else a2))))
/- (*farwriter/screen.terminal).column -/
def f41_fin (p1 : Gterminal) : St := ⟨(up (fun _ => .un) 2000000 .un), (up (up (up (up (hB fun _ => 0) 3 ⟨0, some (.own 73 1 (e_GLine.cells p1.Screen.Past))⟩) 2 ⟨0, some (.own 46 4 (e_GCell.cells p1.Screen.Other.Cells))⟩) 1 ⟨0, some (.own 46 4 (e_GCell.cells p1.Screen.Grid.Cells))⟩) 0 ⟨0, some (.box (bx_Gterminal p1 (.r (.msl 1 0 0 p1.Screen.Grid.Cells.length)) (.r (.msl 2 0 0 p1.Screen.Other.Cells.length)) (.r (.msl 3 0 0 p1.Screen.Past.length))))⟩)⟩
theorem f41_out (p1 : Gterminal) : outR (f41_fin p1) 4 c41.res = some ((.tup []), [(.box (bx_Gterminal p1 (.r (.msl 1 0 0 p1.Screen.Grid.Cells.length)) (.r (.msl 2 0 0 p1.Screen.Other.Cells.length)) (.r (.msl 3 0 0 p1.Screen.Past.length)))), (.own 46 4 (e_GCell.cells p1.Screen.Grid.Cells)), (.own 46 4 (e_GCell.cells p1.Screen.Other.Cells)), (.own 73 1 (e_GLine.cells p1.Screen.Past))]) := by
  kernel_rfl
def f41_Q (r : Gterminal) (e : PX) (st : St) : Prop := DoneF c41 4 ((.tup []), [(.box (bx_Gterminal r (.r (.msl 1 0 0 r.Screen.Grid.Cells.length)) (.r (.msl 2 0 0 r.Screen.Other.Cells.length)) (.r (.msl 3 0 0 r.Screen.Past.length)))), (.own 46 4 (e_GCell.cells r.Screen.Grid.Cells)), (.own 46 4 (e_GCell.cells r.Screen.Other.Cells)), (.own 73 1 (e_GLine.cells r.Screen.Past)), .box []]) e st
noncomputable def f41 (a1 : Int) (a2 : Gterminal) : Option (Gterminal) := ((f65 a1 0 (IntKind.i64.wrap (a2.Screen.Grid.Wide - 1))).bind fun z2 => (some (Gterminal.mk ({ a2.Screen with Col := z2, Late := false }) a2.sent)))
theorem f41_ok (d : Nat) (hd : 2 ≤ d) (a1 : Int) (a2 : Gterminal) (r : Gterminal) (hS : f41 a1 a2 = some r) : lev codes baseL d 41 [(.r (.ptr 0 0 0)), (.d (.int .i64 a1))] [(.box (bx_Gterminal a2 (.r (.msl 1 0 0 a2.Screen.Grid.Cells.length)) (.r (.msl 2 0 0 a2.Screen.Other.Cells.length)) (.r (.msl 3 0 0 a2.Screen.Past.length)))), (.own 46 4 (e_GCell.cells a2.Screen.Grid.Cells)), (.own 46 4 (e_GCell.cells a2.Screen.Other.Cells)), (.own 73 1 (e_GLine.cells a2.Screen.Past))] = some ((.tup []), [(.box (bx_Gterminal r (.r (.msl 1 0 0 r.Screen.Grid.Cells.length)) (.r (.msl 2 0 0 r.Screen.Other.Cells.length)) (.r (.msl 3 0 0 r.Screen.Past.length)))), (.own 46 4 (e_GCell.cells r.Screen.Grid.Cells)), (.own 46 4 (e_GCell.cells r.Screen.Other.Cells)), (.own 73 1 (e_GLine.cells r.Screen.Past)), .box []]) := by
  refine lev_go codes41 rfl rfl (Nat.le_trans (Nat.le_of_ble_eq_true rfl) hd) fun Q hQ => ?_
  unfold f41 at hS
  show ZR _ Q c41_b [] _
  replace hQ : ∀ e st', f41_Q r e st' → Q e st' := hQ
  refine zrSeq ?_
  refine zrReg ?_
  refine zlRun (n := 5) (j := 5) rfl (by kernel_rfl) ?_
  refine zlEnd (by kernel_rfl) ?_
  refine zkSeq ?_
  refine zrReg ?_
  refine zlRun (n := 9) (j := 9) rfl (by kernel_rfl) ?_
  refine bindE hS (fun z2 hz2 hS => ?_)
  refine zlOp (d := some 17) (op := (.call 65 [(.tmp 9), (.const (.int .i64 0)), (.tmp 16)])) (g := none) (j := 10) rfl (by kernel_rfl) (by kernel_rfl) (ev_callA (by kernel_rfl) (f65_ok (d - 1) (dpt hd rfl) a1 0 (IntKind.i64.wrap (a2.Screen.Grid.Wide - 1)) z2 hz2) (by kernel_rfl) (by kernel_rfl)) ?_
  refine zlRun (n := 4) (j := 14) rfl (by kernel_rfl) ?_
  refine zlEnd (by kernel_rfl) ?_
  refine zkNil ?_
  exact endQ hS hQ (fNormX (by kernel_rfl) (by kernel_rfl : finSt c41.fin _ = f41_fin (Gterminal.mk ({ a2.Screen with Col := z2, Late := false }) a2.sent)) (by kernel_rfl) (f41_out (Gterminal.mk ({ a2.Screen with Col := z2, Late := false }) a2.sent)))
/- (*farwriter/screen.terminal).is -/
def f43_fin (p2 : Bool) : St := ⟨(up (fun _ => .un) 4 (.d (.bool p2))), (hB fun _ => 0)⟩
theorem f43_out (p2 : Bool) : outR (f43_fin p2) 0 c43.res = some ((.d (.bool p2)), []) := by
  kernel_rfl
def f43_Q (r : Bool) (e : PX) (st : St) : Prop := DoneF c43 0 ((.d (.bool r)), []) e st
noncomputable def f43 (a1 : Gterminal) (a2 : List PD) (a3 : Int) : Option (Bool) := (bif (!decide ((bitI .and .i64 a1.Screen.Modes a3) = 0)) then (some true) else (some false))
theorem f43_ok (d : Nat) (hd : 1 ≤ d) (a1 : Gterminal) (a2 : List PD) (a3 : Int) (r : Bool) (hS : f43 a1 a2 a3 = some r) : lev codes baseL d 43 [(.rptr (e_UGterminal.enc a1 ++ a2)), (.d (.int .i64 a3))] [] = some ((.d (.bool r)), []) := by
  refine lev_go codes43 rfl rfl (Nat.le_trans (Nat.le_of_ble_eq_true rfl) hd) fun Q hQ => ?_
  unfold f43 at hS
  show ZR _ Q c43_b [] _
  replace hQ : ∀ e st', f43_Q r e st' → Q e st' := hQ
  refine zrSeq ?_
  refine zrReg ?_
  refine zlRun (n := 1) (j := 1) rfl (by kernel_rfl) ?_
  refine zlEnd (by kernel_rfl) ?_
  refine zkSeq ?_
  refine zrSeq ?_
  refine zrReg ?_
  refine zlRun (n := 7) (j := 7) rfl (by kernel_rfl) ?_
  refine zlBool (d := 12) (op := (.cmpI .neq (.tmp 11) (.const (.int .i64 0)))) (g := none) (j := 8) (!decide ((bitI .and .i64 a1.Screen.Modes a3) = 0)) rfl (by kernel_rfl) (by kernel_rfl) (by kernel_rfl) (fun hc => ?_) (fun hc => ?_)
  · replace hS := cond_t hc hS
    refine zlRun (n := 1) (j := 9) rfl (by kernel_rfl) ?_
    refine zlEnd (by kernel_rfl) ?_
    refine zkSeq ?_
    refine zrRet ?_
    refine zkNil ?_
    exact endQ hS hQ (fRet (by kernel_rfl) ((congrArg (fun s => outR s 0 c43.res) (by kernel_rfl : finSt c43.fin _ = f43_fin true)).trans (f43_out true)))
  · replace hS := cond_f hc hS
    refine zlRun (n := 1) (j := 9) rfl (by kernel_rfl) ?_
    refine zlEnd (by kernel_rfl) ?_
    refine zkSeq ?_
    refine zrRet ?_
    refine zkNil ?_
    exact endQ hS hQ (fRet (by kernel_rfl) ((congrArg (fun s => outR s 0 c43.res) (by kernel_rfl : finSt c43.fin _ = f43_fin false)).trans (f43_out false)))
/- (*farwriter/screen.terminal).clear -/
def f45_fin (p1 : GPen) : St := ⟨(up (fun _ => .un) 2 (.r (.ptr 24 0 0))), (up (hB fun _ => 0) 24 ⟨0, some (.box ((.d (.int .i64 p1.Flags)) :: ((.d (.int .i64 p1.Fore)) :: ((.d (.int .i64 p1.Back)) :: []))))⟩)⟩
theorem f45_out (p1 : GPen) : outR (f45_fin p1) 0 c45.res = some ((.agg ((.d (.int .i64 p1.Flags)) :: ((.d (.int .i64 p1.Fore)) :: ((.d (.int .i64 p1.Back)) :: [])))), []) := by
  kernel_rfl
def f45_Q (r : GPen) (e : PX) (st : St) : Prop := DoneF c45 0 ((.agg ((.d (.int .i64 r.Flags)) :: ((.d (.int .i64 r.Fore)) :: ((.d (.int .i64 r.Back)) :: [])))), []) e st
noncomputable def f45 (a1 : Gterminal) (a2 : List PD) : Option (GPen) := (some (GPen.mk 0 0 a1.Screen.Pen.Back))
theorem f45_ok (d : Nat) (hd : 1 ≤ d) (a1 : Gterminal) (a2 : List PD) (r : GPen) (hS : f45 a1 a2 = some r) : lev codes baseL d 45 [(.rptr (e_UGterminal.enc a1 ++ a2))] [] = some ((.agg ((.d (.int .i64 r.Flags)) :: ((.d (.int .i64 r.Fore)) :: ((.d (.int .i64 r.Back)) :: [])))), []) := by
  refine lev_go codes45 rfl rfl (Nat.le_trans (Nat.le_of_ble_eq_true rfl) hd) fun Q hQ => ?_
  unfold f45 at hS
  show ZR _ Q c45_b [] _
  replace hQ : ∀ e st', f45_Q r e st' → Q e st' := hQ
  refine zrSeq ?_
  refine zrReg ?_
  refine zlRun (n := 1) (j := 1) rfl (by kernel_rfl) ?_
  refine zlEnd (by kernel_rfl) ?_
  refine zkSeq ?_
  refine zrSeq ?_
  refine zrReg ?_
  refine zlRun (n := 8) (j := 8) rfl (by kernel_rfl) ?_
  refine zlEnd (by kernel_rfl) ?_
  refine zkSeq ?_
  refine zrRet ?_
  refine zkNil ?_
  exact endQ hS hQ (fRet (by kernel_rfl) ((congrArg (fun s => outR s 0 c45.res) (by kernel_rfl : finSt c45.fin _ = f45_fin (GPen.mk 0 0 a1.Screen.Pen.Back))).trans (f45_out (GPen.mk 0 0 a1.Screen.Pen.Back))))
/- (*farwriter/screen.terminal).index -/
def f42_fin (p7 : Gterminal) : St := ⟨(up (up (up (fun _ => .un) 1000003 .un) 1000002 .un) 1000001 .un), (up (up (up (up (hB fun _ => 0) 3 ⟨1, some (.own 73 1 (e_GLine.cells p7.Screen.Past))⟩) 2 ⟨1, some (.own 46 4 (e_GCell.cells p7.Screen.Other.Cells))⟩) 1 ⟨1, some (.own 46 4 (e_GCell.cells p7.Screen.Grid.Cells))⟩) 0 ⟨0, some (.box (bx_Gterminal p7 (.r (.msl 1 1 0 p7.Screen.Grid.Cells.length)) (.r (.msl 2 1 0 p7.Screen.Other.Cells.length)) (.r (.msl 3 1 0 p7.Screen.Past.length))))⟩)⟩
theorem f42_out (p7 : Gterminal) : outR (f42_fin p7) 4 c42.res = some ((.tup []), [(.box (bx_Gterminal p7 (.r (.msl 1 0 0 p7.Screen.Grid.Cells.length)) (.r (.msl 2 0 0 p7.Screen.Other.Cells.length)) (.r (.msl 3 0 0 p7.Screen.Past.length)))), (.own 46 4 (e_GCell.cells p7.Screen.Grid.Cells)), (.own 46 4 (e_GCell.cells p7.Screen.Other.Cells)), (.own 73 1 (e_GLine.cells p7.Screen.Past))]) := by
  kernel_rfl
def f42_Q (r : Gterminal) (e : PX) (st : St) : Prop := DoneF c42 4 ((.tup []), [(.box (bx_Gterminal r (.r (.msl 1 0 0 r.Screen.Grid.Cells.length)) (.r (.msl 2 0 0 r.Screen.Other.Cells.length)) (.r (.msl 3 0 0 r.Screen.Past.length)))), (.own 46 4 (e_GCell.cells r.Screen.Grid.Cells)), (.own 46 4 (e_GCell.cells r.Screen.Other.Cells)), (.own 73 1 (e_GLine.cells r.Screen.Past))]) e st
def f42_j0_J (a1 : Gterminal) (p10 : Gterminal) : St := ⟨(up (up (up (up (fun _ => .un) 1000003 .un) 1000002 .un) 1000001 .un) 0 (.r (.ptr 0 0 0))), (up (up (up (up (hB fun _ => 0) 3 ⟨1, some (.own 73 1 (e_GLine.cells p10.Screen.Past))⟩) 2 ⟨1, some (.own 46 4 (e_GCell.cells p10.Screen.Other.Cells))⟩) 1 ⟨1, some (.own 46 4 (e_GCell.cells p10.Screen.Grid.Cells))⟩) 0 ⟨0, some (.box (bx_Gterminal p10 (.r (.msl 1 1 0 p10.Screen.Grid.Cells.length)) (.r (.msl 2 1 0 p10.Screen.Other.Cells.length)) (.r (.msl 3 1 0 p10.Screen.Past.length))))⟩)⟩
noncomputable def f42_j0 (a1 : Gterminal) (p10 : Gterminal) : Option (Gterminal) := ((f45 p10 []).bind fun z4 => none)
theorem f42_j0_ok {d : Nat} (hd : 2 ≤ d) (a1 : Gterminal) {r : Gterminal} {Q : PX → St → Prop} (hQ : ∀ e st', f42_Q r e st' → Q e st') (p10 : Gterminal) (hS : f42_j0 a1 p10 = some r) {st : St} (he : keepSt [0, 1000001, 1000002, 1000003] [(0, .id 0), (1, .id 1), (2, .id 2), (3, .id 3)] [] st = f42_j0_J a1 p10) : ZR (lev codes baseL (d - 1)) Q c42_1 [.blk 0] st := by
  refine zrKeep he ?_
  unfold f42_j0 at hS
  refine zrRegD ?_
  refine zdRun (n := 16) (j := 16) (ts := [[], [], [], [], [(0, false)], [], [], [], [], [(0, false)], [], [], [], [], [(0, false)], []]) (acc' := [[], [], [], [], [(0, false)], [], [], [], [], [(0, false)], [], [], [], [], [(0, false)], []]) rfl (by kernel_rfl) (by kernel_rfl) (by kernel_rfl) ?_
  refine bindE hS (fun z4 hz4 hS => ?_)
  refine zdOp (d := some 81) (op := (.call 45 [(.tmp 80)])) (g := none) (j := 17) (t1 := [(0, false), (656, true), (657, true), (658, true), (659, true), (660, true), (661, true), (662, true), (663, true)]) (acc' := [[], [], [], [], [(0, false)], [], [], [], [], [(0, false)], [], [], [], [], [(0, false)], [], [(0, false), (656, true), (657, true), (658, true), (659, true), (660, true), (661, true), (662, true), (663, true)]]) (by kernel_rfl) (by kernel_rfl) rfl (by kernel_rfl) (by kernel_rfl) (ev_callA (by kernel_rfl) (f45_ok (d - 1) (dpt hd rfl) p10 [] z4 hz4) (by kernel_rfl) (by kernel_rfl)) ?_
  cases hS
noncomputable def f42 (a1 : Gterminal) : Option (Gterminal) := (bif (decide (a1.Screen.Row = (IntKind.i64.wrap (a1.Screen.Bottom - 1)))) then (bif (decide (a1.Screen.Top = 0)) then ((f43 (Gterminal.mk ({ a1.Screen with Late := false }) a1.sent) [] 256).bind fun z6 => (bif (!z6) then none else (f42_j0 a1 (Gterminal.mk ({ a1.Screen with Late := false }) a1.sent)))) else (f42_j0 a1 (Gterminal.mk ({ a1.Screen with Late := false }) a1.sent))) else (bif (decide (a1.Screen.Row < (IntKind.i64.wrap (a1.Screen.Grid.High - 1)))) then (some (Gterminal.mk ({ a1.Screen with Row := (IntKind.i64.wrap (a1.Screen.Row + 1)), Late := false }) a1.sent)) else (some (Gterminal.mk ({ a1.Screen with Late := false }) a1.sent))))
theorem f42_ok (d : Nat) (hd : 2 ≤ d) (a1 : Gterminal) (r : Gterminal) (hS : f42 a1 = some r) : lev codes baseL d 42 [(.r (.ptr 0 0 0))] [(.box (bx_Gterminal a1 (.r (.msl 1 0 0 a1.Screen.Grid.Cells.length)) (.r (.msl 2 0 0 a1.Screen.Other.Cells.length)) (.r (.msl 3 0 0 a1.Screen.Past.length)))), (.own 46 4 (e_GCell.cells a1.Screen.Grid.Cells)), (.own 46 4 (e_GCell.cells a1.Screen.Other.Cells)), (.own 73 1 (e_GLine.cells a1.Screen.Past))] = some ((.tup []), [(.box (bx_Gterminal r (.r (.msl 1 0 0 r.Screen.Grid.Cells.length)) (.r (.msl 2 0 0 r.Screen.Other.Cells.length)) (.r (.msl 3 0 0 r.Screen.Past.length)))), (.own 46 4 (e_GCell.cells r.Screen.Grid.Cells)), (.own 46 4 (e_GCell.cells r.Screen.Other.Cells)), (.own 73 1 (e_GLine.cells r.Screen.Past))]) := by
  refine lev_go codes42 rfl rfl (Nat.le_trans (Nat.le_of_ble_eq_true rfl) hd) fun Q hQ => ?_
  unfold f42 at hS
  show ZR _ Q c42_b [] _
  replace hQ : ∀ e st', f42_Q r e st' → Q e st' := hQ
  refine zrSeq ?_
  refine zrReg ?_
  refine zlRun (n := 5) (j := 5) rfl (by kernel_rfl) ?_
  refine zlEnd (by kernel_rfl) ?_
  refine zkSeq ?_
  refine zrBlk ?_
  refine zrSeq ?_
  refine zrRegD ?_
  refine zdRun (n := 11) (j := 11) (ts := [[], [], [], [], [(0, false)], [], [], [], [], [(0, false)], []]) (acc' := [[], [], [], [], [(0, false)], [], [], [], [], [(0, false)], []]) rfl (by kernel_rfl) (by kernel_rfl) (by kernel_rfl) ?_
  refine zdBool (d := 18) (op := (.cmpI .eql (.tmp 11) (.tmp 17))) (g := none) (j := 12) (t1 := []) (acc' := [[], [], [], [], [(0, false)], [], [], [], [], [(0, false)], [], []]) (decide (a1.Screen.Row = (IntKind.i64.wrap (a1.Screen.Bottom - 1)))) (by kernel_rfl) (by kernel_rfl) rfl (by kernel_rfl) (by kernel_rfl) (by kernel_rfl) (fun hc => ?_) (fun hc => ?_)
  · replace hS := cond_t hc hS
    refine zdRun (n := 1) (j := 13) (ts := [[]]) (acc' := [[], [], [], [], [(0, false)], [], [], [], [], [(0, false)], [], [], []]) rfl (by kernel_rfl) (by kernel_rfl) (by kernel_rfl) ?_
    refine zdEnd (by kernel_rfl) (by kernel_rfl) ?_
    refine zkSeq ?_
    refine zrCondT (by kernel_rfl) ?_
    refine zrSeq ?_
    refine zrSeq ?_
    refine zrReg ?_
    refine zlRun (n := 5) (j := 5) rfl (by kernel_rfl) ?_
    refine zlBool (d := 24) (op := (.cmpI .eql (.tmp 23) (.const (.int .i64 0)))) (g := none) (j := 6) (decide (a1.Screen.Top = 0)) rfl (by kernel_rfl) (by kernel_rfl) (by kernel_rfl) (fun hc => ?_) (fun hc => ?_)
    · replace hS := cond_t hc hS
      refine zlRun (n := 2) (j := 8) rfl (by kernel_rfl) ?_
      refine bindE hS (fun z6 hz6 hS => ?_)
      refine zlOp (d := some 27) (op := (.call 43 [(.tmp 26), (.const (.int .i64 256))])) (g := (some (25, true))) (j := 9) rfl (by kernel_rfl) (by kernel_rfl) (ev_callA (by kernel_rfl) (f43_ok (d - 1) (dpt hd rfl) (Gterminal.mk ({ a1.Screen with Late := false }) a1.sent) [] 256 z6 hz6) (by kernel_rfl) (by kernel_rfl)) ?_
      refine zlRun (n := 2) (j := 11) rfl (by kernel_rfl) ?_
      refine zlEnd (by kernel_rfl) ?_
      refine zkSeq ?_
      refine zrSplit 29 (!z6) (by kernel_rfl) (fun hc => ?_) (fun hc => ?_)
      · replace hS := cond_t hc hS
        refine zrCondT (by kernel_rfl) ?_
        refine zrSeq ?_
        refine zrRegD ?_
        refine zdRun (n := 11) (j := 11) (ts := [[], [], [], [], [], [(0, false)], [], [], [], [], [(0, false)]]) (acc' := [[], [], [], [], [], [(0, false)], [], [], [], [], [(0, false)]]) rfl (by kernel_rfl) (by kernel_rfl) (by kernel_rfl) ?_
        cases hS
      · replace hS := cond_f hc hS
        refine zrCondF (by kernel_rfl) ?_
        refine zrSkip ?_
        refine zkSeq ?_
        exact f42_j0_ok hd a1 hQ (Gterminal.mk ({ a1.Screen with Late := false }) a1.sent) hS (by kernel_rfl)
    · replace hS := cond_f hc hS
      refine zlRun (n := 5) (j := 11) rfl (by kernel_rfl) ?_
      refine zlEnd (by kernel_rfl) ?_
      refine zkSeq ?_
      refine zrCondF (by kernel_rfl) ?_
      refine zrSkip ?_
      refine zkSeq ?_
      exact f42_j0_ok hd a1 hQ (Gterminal.mk ({ a1.Screen with Late := false }) a1.sent) hS (by kernel_rfl)
  · replace hS := cond_f hc hS
    refine zdRun (n := 1) (j := 13) (ts := [[]]) (acc' := [[], [], [], [], [(0, false)], [], [], [], [], [(0, false)], [], [], []]) rfl (by kernel_rfl) (by kernel_rfl) (by kernel_rfl) ?_
    refine zdEnd (by kernel_rfl) (by kernel_rfl) ?_
    refine zkSeq ?_
    refine zrCondF (by kernel_rfl) ?_
    refine zrSeq ?_
    refine zrRegD ?_
    refine zdRun (n := 12) (j := 12) (ts := [[], [], [], [], [(0, false)], [], [], [], [], [], [(0, false)], []]) (acc' := [[], [], [], [], [(0, false)], [], [], [], [], [], [(0, false)], []]) rfl (by kernel_rfl) (by kernel_rfl) (by kernel_rfl) ?_
    refine zdBool (d := 96) (op := (.cmpI .lss (.tmp 88) (.tmp 95))) (g := none) (j := 13) (t1 := []) (acc' := [[], [], [], [], [(0, false)], [], [], [], [], [], [(0, false)], [], []]) (decide (a1.Screen.Row < (IntKind.i64.wrap (a1.Screen.Grid.High - 1)))) (by kernel_rfl) (by kernel_rfl) rfl (by kernel_rfl) (by kernel_rfl) (by kernel_rfl) (fun hc => ?_) (fun hc => ?_)
    · replace hS := cond_t hc hS
      refine zdRun (n := 1) (j := 14) (ts := [[]]) (acc' := [[], [], [], [], [(0, false)], [], [], [], [], [], [(0, false)], [], [], []]) rfl (by kernel_rfl) (by kernel_rfl) (by kernel_rfl) ?_
      refine zdEnd (by kernel_rfl) (by kernel_rfl) ?_
      refine zkSeq ?_
      refine zrCondT (by kernel_rfl) ?_
      refine zrReg ?_
      refine zlRun (n := 10) (j := 10) rfl (by kernel_rfl) ?_
      refine zlEnd (by kernel_rfl) ?_
      refine zkBlk ?_
      refine zkNil ?_
      exact endQ hS hQ (fNorm (by kernel_rfl) ((congrArg (fun s => outR s 4 c42.res) (by kernel_rfl : finSt c42.fin _ = f42_fin (Gterminal.mk ({ a1.Screen with Row := (IntKind.i64.wrap (a1.Screen.Row + 1)), Late := false }) a1.sent))).trans (f42_out (Gterminal.mk ({ a1.Screen with Row := (IntKind.i64.wrap (a1.Screen.Row + 1)), Late := false }) a1.sent))))
    · replace hS := cond_f hc hS
      refine zdRun (n := 1) (j := 14) (ts := [[]]) (acc' := [[], [], [], [], [(0, false)], [], [], [], [], [], [(0, false)], [], [], []]) rfl (by kernel_rfl) (by kernel_rfl) (by kernel_rfl) ?_
      refine zdEnd (by kernel_rfl) (by kernel_rfl) ?_
      refine zkSeq ?_
      refine zrCondF (by kernel_rfl) ?_
      refine zrSkip ?_
      refine zkBlk ?_
      refine zkNil ?_
      exact endQ hS hQ (fNorm (by kernel_rfl) ((congrArg (fun s => outR s 4 c42.res) (by kernel_rfl : finSt c42.fin _ = f42_fin (Gterminal.mk ({ a1.Screen with Late := false }) a1.sent))).trans (f42_out (Gterminal.mk ({ a1.Screen with Late := false }) a1.sent))))
/- farwriter/grid.row -/
def f36v1_fin (p1 : List GCell) (p2 : Nat) (p3 : Nat) : St := ⟨(up (up (fun _ => .un) 2000000 .un) 4 (.r (.msl 0 0 p2 p3))), (up (hB fun _ => 0) 0 ⟨0, some (.own 46 4 (e_GCell.cells p1))⟩)⟩
theorem f36v1_out (p1 : List GCell) (p2 : Nat) (p3 : Nat) : outR (f36v1_fin p1 p2 p3) 1 c36.res = some ((.r (.msl 0 0 p2 p3)), [(.own 46 4 (e_GCell.cells p1))]) := by
  kernel_rfl
def f36v1_Q (r : (List GCell) × Nat × Nat) (e : PX) (st : St) : Prop := DoneF c36 1 ((.r (.msl 0 0 r.2.1 r.2.2)), [(.own 46 4 (e_GCell.cells r.1)), .box []]) e st
noncomputable def f36v1 (a1 : Int) (a2 : Int) (a3 : Int) (a4 : List GCell) : Option ((List GCell) × Nat × Nat) := ((chk (decide (0 ≤ (IntKind.i64.wrap (a3 * a1))) && decide ((IntKind.i64.wrap (a3 * a1)) ≤ (IntKind.i64.wrap ((IntKind.i64.wrap (a3 + 1)) * a1))) && decide ((IntKind.i64.wrap ((IntKind.i64.wrap (a3 + 1)) * a1)) ≤ (a4.length : Int)))).bind fun z2 => (some (a4, (((IntKind.i64.wrap (a3 * a1)) : Int).toNat), (((IntKind.i64.wrap ((IntKind.i64.wrap (a3 + 1)) * a1)) : Int).toNat - ((IntKind.i64.wrap (a3 * a1)) : Int).toNat))))
theorem f36v1_ok (d : Nat) (hd : 1 ≤ d) (a1 : Int) (a2 : Int) (a3 : Int) (a4 : List GCell) (r : (List GCell) × Nat × Nat) (hS : f36v1 a1 a2 a3 a4 = some r) : lev codes baseL d 36 [(.agg ((.d (.int .i64 a1)) :: ((.d (.int .i64 a2)) :: ((.r (.msl 0 0 0 a4.length)) :: [])))), (.d (.int .i64 a3))] [(.own 46 4 (e_GCell.cells a4))] = some ((.r (.msl 0 0 r.2.1 r.2.2)), [(.own 46 4 (e_GCell.cells r.1)), .box []]) := by
  refine lev_go codes36 rfl rfl (Nat.le_trans (Nat.le_of_ble_eq_true rfl) hd) fun Q hQ => ?_
  unfold f36v1 at hS
  show ZR _ Q c36_b [] _
  replace hQ : ∀ e st', f36v1_Q r e st' → Q e st' := hQ
  refine zrSeq ?_
  refine zrReg ?_
  refine zlRun (n := 2) (j := 2) rfl (by kernel_rfl) ?_
  refine zlEnd (by kernel_rfl) ?_
  refine zkSeq ?_
  refine zrSeq ?_
  refine zrReg ?_
  refine zlRun (n := 11) (j := 11) rfl (by kernel_rfl) ?_
  refine bindE hS (fun z2 hz2 hS => ?_)
  refine zlOp (d := some 16) (op := (.slS 46 4 (.tmp 6) (.some (.tmp 10)) (.some (.tmp 15)))) (g := none) (v := (.r (.msl 0 0 (((IntKind.i64.wrap (a3 * a1)) : Int).toNat) (((IntKind.i64.wrap ((IntKind.i64.wrap (a3 + 1)) * a1)) : Int).toNat - ((IntKind.i64.wrap (a3 * a1)) : Int).toNat)))) (ups := []) (j := 12) rfl (by kernel_rfl) (by kernel_rfl) (ev_slM (b := 0) (g := 0) (e := 46) (a := (IntKind.i64.wrap (a3 * a1))) (c := (IntKind.i64.wrap ((IntKind.i64.wrap (a3 + 1)) * a1))) (l := 0) (n := a4.length) (l' := (((IntKind.i64.wrap (a3 * a1)) : Int).toNat)) (n' := (((IntKind.i64.wrap ((IntKind.i64.wrap (a3 + 1)) * a1)) : Int).toNat - ((IntKind.i64.wrap (a3 * a1)) : Int).toNat)) (cs := e_GCell.cells a4) (by kernel_rfl) (by kernel_rfl) (bnd_s _ (kk := .i64) (j := (IntKind.i64.wrap (a3 * a1))) (by kernel_rfl)) (bnd_s _ (kk := .i64) (j := (IntKind.i64.wrap ((IntKind.i64.wrap (a3 + 1)) * a1))) (by kernel_rfl)) hz2 (by simp) rfl) ?_
  refine zlRun (n := 1) (j := 13) rfl (by kernel_rfl) ?_
  refine zlEnd (by kernel_rfl) ?_
  refine zkSeq ?_
  refine zrRet ?_
  refine zkNil ?_
  exact endQ hS hQ (fRetX (by kernel_rfl) (by kernel_rfl : finSt c36.fin _ = f36v1_fin a4 (((IntKind.i64.wrap (a3 * a1)) : Int).toNat) (((IntKind.i64.wrap ((IntKind.i64.wrap (a3 + 1)) * a1)) : Int).toNat - ((IntKind.i64.wrap (a3 * a1)) : Int).toNat)) (by kernel_rfl) (f36v1_out a4 (((IntKind.i64.wrap (a3 * a1)) : Int).toNat) (((IntKind.i64.wrap ((IntKind.i64.wrap (a3 + 1)) * a1)) : Int).toNat - ((IntKind.i64.wrap (a3 * a1)) : Int).toNat)))
/- farwriter/grid.repair -/
def f70_fin (p27 : List GCell) : St := ⟨(up (fun _ => .un) 2000000 .un), (up (hB fun _ => 0) 0 ⟨0, some (.own 46 4 (e_GCell.cells p27))⟩)⟩
theorem f70_out (p27 : List GCell) : outR (f70_fin p27) 1 c70.res = some ((.tup []), [(.own 46 4 (e_GCell.cells p27))]) := by
  kernel_rfl
def f70_Q (r : (List GCell)) (e : PX) (st : St) : Prop := DoneF c70 1 ((.tup []), [(.own 46 4 (e_GCell.cells r)), .box []]) e st
def f70_l0_J (a1 : Nat) (a2 : Nat) (a3 : List GCell) (x : (List GCell) × (List GCell) × Int) : St := ⟨(up (up (up (up (fun _ => .un) 8 (.d (.int .i64 x.2.2))) 7 (.d (.int .i64 (a2 : Int)))) 2 (.r (.msl 48 0 0 x.2.1.length))) 0 (.r (.msl 0 0 a1 a2))), (up (up (hB fun _ => 0) 48 ⟨0, some (.own 46 4 (e_GCell.cells x.2.1))⟩) 0 ⟨0, some (.own 46 4 (e_GCell.cells x.1))⟩)⟩
def f70_l0_H (a1 : Nat) (a2 : Nat) (a3 : List GCell) (x : (List GCell) × (List GCell) × Int) (st : St) : Prop := keepSt [0, 2, 7, 8] [(0, .id 0), (48, .id 48)] [] st = f70_l0_J a1 a2 a3 x
def f70_l0_e0_J (a1 : Nat) (a2 : Nat) (a3 : List GCell) (p53 : List GCell) : St := ⟨(fun _ => .un), (up (hB fun _ => 0) 0 ⟨0, some (.own 46 4 (e_GCell.cells p53))⟩)⟩
def f70_l0_X (a1 : Nat) (a2 : Nat) (a3 : List GCell) (z : ((List GCell))) (e : PX) (st : St) : Prop := e = .exit 0 ∧ st = f70_l0_e0_J a1 a2 a3 z
def f70_l0_j2_J (a1 : Nat) (a2 : Nat) (a3 : List GCell) (p62 : List GCell) (p63 : List GCell) (p64 : Int) : St := ⟨(up (up (up (up (fun _ => .un) 8 (.d (.int .i64 p64))) 7 (.d (.int .i64 (a2 : Int)))) 2 (.r (.msl 48 0 0 p63.length))) 0 (.r (.msl 0 0 a1 a2))), (up (up (hB fun _ => 0) 48 ⟨0, some (.own 46 4 (e_GCell.cells p63))⟩) 0 ⟨0, some (.own 46 4 (e_GCell.cells p62))⟩)⟩
noncomputable def f70_l0_j2 (a1 : Nat) (a2 : Nat) (a3 : List GCell) (p62 : List GCell) (p63 : List GCell) (p64 : Int) : Option (((List GCell) × (List GCell) × Int) ⊕ (((List GCell)))) := ((f38 p63 p64).bind fun z47 => (bif z47 then ((inR p64 p63.length).bind fun m48 => ((p63[m48]?).bind fun z49 => ((f35 z49.Pen).bind fun z50 => ((inR p64 a2).bind fun m51 => ((p62[(a1 + m51)]?).bind fun z52 => ((some (p62.set (a1 + m51) z50)).bind fun z53 => (some (.inl (z53, p63, (IntKind.i64.wrap (p64 + 1))))))))))) else (some (.inl (p62, p63, (IntKind.i64.wrap (p64 + 1)))))))
theorem f70_l0_j2_ok {d : Nat} (hd : 4 ≤ d) (a1 : Nat) (a2 : Nat) (a3 : List GCell) {r : ((List GCell) × (List GCell) × Int) ⊕ (((List GCell)))} {Q : PX → St → Prop} (hQ : ∀ e st', finL (f70_l0_H a1 a2 a3) (f70_l0_X a1 a2 a3) r e st' → Q e st') (p62 : List GCell) (p63 : List GCell) (p64 : Int) (hS : f70_l0_j2 a1 a2 a3 p62 p63 p64 = some r) {st : St} (he : keepSt [0, 2, 7, 8] [(0, .id 0), (48, .id 48)] [] st = f70_l0_j2_J a1 a2 a3 p62 p63 p64) : ZR (lev codes baseL (d - 1)) Q c70_1 [] st := by
  refine zrKeep he ?_
  unfold f70_l0_j2 at hS
  refine zrSeq ?_
  refine zrBlk ?_
  refine zrSeq ?_
  refine zrReg ?_
  refine zlRun (n := 2) (j := 2) rfl (by kernel_rfl) ?_
  refine zlEnd (by kernel_rfl) ?_
  refine zkSeq ?_
  refine zrSeq ?_
  refine zrReg ?_
  refine zlRun (n := 2) (j := 2) rfl (by kernel_rfl) ?_
  refine bindE hS (fun z47 hz47 hS => ?_)
  refine zlOp (d := some 13) (op := (.call 38 [(.tmp 11), (.tmp 12)])) (g := none) (j := 3) rfl (by kernel_rfl) (by kernel_rfl) (ev_callB (args := [(.r (.msl 48 0 0 p63.length)), (.d (.int .i64 p64))]) (by kernel_rfl) (l_cons (l_own e_GCell (e := 46) (k := 4) (xs := p63) (by kernel_rfl) rfl rfl) (l_cons (by kernel_rfl) l_nil)) (f38_ok (d - 1) (dpt hd rfl) p63 p64 z47 hz47) (by kernel_rfl) (by kernel_rfl)) ?_
  refine zlEnd (by kernel_rfl) ?_
  refine zkSeq ?_
  refine zrSplit 13 z47 (by kernel_rfl) (fun hc => ?_) (fun hc => ?_)
  · replace hS := cond_t hc hS
    refine zrCondT (by kernel_rfl) ?_
    refine zrReg ?_
    refine zlRun (n := 4) (j := 4) rfl (by kernel_rfl) ?_
    refine bindE hS (fun m48 hm48 hS => ?_)
    refine zlOp (d := some 18) (op := (.ixS 46 4 (.tmp 16) (.tmp 17))) (g := none) (v := (.r (.ptr 48 0 ((0 + m48) * 4)))) (ups := []) (j := 5) rfl (by kernel_rfl) (by kernel_rfl) (ev_ixM (kk := .i64) (b := 48) (g := 0) (l := 0) (n := p63.length) (j := p64) (cs := e_GCell.cells p63) (by kernel_rfl) (by kernel_rfl) (by kernel_rfl) hm48) ?_
    refine zlRun (n := 1) (j := 6) rfl (by kernel_rfl) ?_
    refine bindE hS (fun z49 hz49 hS => ?_)
    refine zlOp (d := some 20) (op := (.load .true 3 (.tmp 19))) (g := none) (v := (.agg ((.d (.int .i64 z49.Pen.Flags)) :: ((.d (.int .i64 z49.Pen.Fore)) :: ((.d (.int .i64 z49.Pen.Back)) :: []))))) (ups := []) (j := 7) rfl (by kernel_rfl) (by kernel_rfl) (ev_loadM e_GCell (b := 48) (g := 0) (o := (0 + m48) * 4 + 1) (e := 46) (k := 4) (m := m48) (fo := 1) (xs := p63) (by kernel_rfl) (by kernel_rfl) (by rw [Nat.zero_add]; rfl) hz49 (by kernel_rfl) (by kernel_rfl) (by kernel_rfl)) ?_
    refine bindE hS (fun z50 hz50 hS => ?_)
    refine zlOp (d := some 21) (op := (.call 35 [(.tmp 20)])) (g := none) (j := 8) rfl (by kernel_rfl) (by kernel_rfl) (ev_callA (by kernel_rfl) (f35_ok (d - 1) (dpt hd rfl) z49.Pen z50 hz50) (by kernel_rfl) (by kernel_rfl)) ?_
    refine bindE hS (fun m51 hm51 hS => ?_)
    refine zlOp (d := some 22) (op := (.ixS 46 4 (.tmp 14) (.tmp 15))) (g := none) (v := (.r (.ptr 0 0 ((a1 + m51) * 4)))) (ups := []) (j := 9) rfl (by kernel_rfl) (by kernel_rfl) (ev_ixM (kk := .i64) (b := 0) (g := 0) (l := a1) (n := a2) (j := p64) (cs := e_GCell.cells p62) (by kernel_rfl) (by kernel_rfl) (by kernel_rfl) hm51) ?_
    refine bindE hS (fun z52 hz52 hS => ?_)
    refine bindE hS (fun z53 hz53 hS => ?_)
    refine zlOp (d := none) (op := (.store 4 (.tmp 22) (.tmp 21))) (g := none) (v := .un) (ups := [(0, ⟨0, some (.own 46 4 (e_GCell.cells (p62.set (a1 + m51) z50)))⟩)]) (j := 10) rfl (by kernel_rfl) (by kernel_rfl) (ev_storeM e_GCell (b := 0) (g := 0) (o := (a1 + m51) * 4) (e := 46) (k := 4) (m := (a1 + m51)) (fo := 0) (xs := p62) (z := z52) (z' := z50) (by kernel_rfl) (new := ((.d (.int .i64 z50.Rune)) :: ((.d (.int .i64 z50.Pen.Flags)) :: ((.d (.int .i64 z50.Pen.Fore)) :: ((.d (.int .i64 z50.Pen.Back)) :: []))))) (ds := [.int .i64 z50.Rune, .int .i64 z50.Pen.Flags, .int .i64 z50.Pen.Fore, .int .i64 z50.Pen.Back]) (by kernel_rfl) (by kernel_rfl) (by kernel_rfl) rfl hz52 (by kernel_rfl) (by kernel_rfl) (by kernel_rfl)) ?_
    have ez53 := Option.some.inj hz53
    have lz53 : p62.length = z53.length := by rw [← ez53, List.length_set]
    rw [ez53]
    try delta f70_l0_j2_J
    try rw [lz53]
    refine zlEnd (by kernel_rfl) ?_
    refine zkBlk ?_
    refine zkSeq ?_
    refine zrReg ?_
    refine zlRun (n := 2) (j := 2) rfl (by kernel_rfl) ?_
    refine zlEnd (by kernel_rfl) ?_
    refine zkNil ?_
    exact endQ hS hQ (finL_n (by show keepSt _ _ _ _ = _; kernel_rfl))
  · replace hS := cond_f hc hS
    refine zrCondF (by kernel_rfl) ?_
    refine zrSkip ?_
    refine zkBlk ?_
    refine zkSeq ?_
    refine zrReg ?_
    refine zlRun (n := 2) (j := 2) rfl (by kernel_rfl) ?_
    refine zlEnd (by kernel_rfl) ?_
    refine zkNil ?_
    exact endQ hS hQ (finL_n (by show keepSt _ _ _ _ = _; kernel_rfl))
def f70_l0_j1_J (a1 : Nat) (a2 : Nat) (a3 : List GCell) (p58 : List GCell) (p59 : List GCell) (p60 : Int) (p61 : Bool) : St := ⟨(up (up (up (up (up (fun _ => .un) 9 (.d (.bool p61))) 8 (.d (.int .i64 p60))) 7 (.d (.int .i64 (a2 : Int)))) 2 (.r (.msl 48 0 0 p59.length))) 0 (.r (.msl 0 0 a1 a2))), (up (up (hB fun _ => 0) 48 ⟨0, some (.own 46 4 (e_GCell.cells p59))⟩) 0 ⟨0, some (.own 46 4 (e_GCell.cells p58))⟩)⟩
noncomputable def f70_l0_j1 (a1 : Nat) (a2 : Nat) (a3 : List GCell) (p58 : List GCell) (p59 : List GCell) (p60 : Int) (p61 : Bool) : Option (((List GCell) × (List GCell) × Int) ⊕ (((List GCell)))) := (bif p61 then (f70_l0_j2 a1 a2 a3 p58 p59 p60) else (some (.inr p58)))
theorem f70_l0_j1_ok {d : Nat} (hd : 4 ≤ d) (a1 : Nat) (a2 : Nat) (a3 : List GCell) {r : ((List GCell) × (List GCell) × Int) ⊕ (((List GCell)))} {Q : PX → St → Prop} (hQ : ∀ e st', finL (f70_l0_H a1 a2 a3) (f70_l0_X a1 a2 a3) r e st' → Q e st') (p58 : List GCell) (p59 : List GCell) (p60 : Int) (p61 : Bool) (hS : f70_l0_j1 a1 a2 a3 p58 p59 p60 p61 = some r) {st : St} (he : keepSt [0, 2, 7, 8, 9] [(0, .id 0), (48, .id 48)] [] st = f70_l0_j1_J a1 a2 a3 p58 p59 p60 p61) : ZR (lev codes baseL (d - 1)) Q c70_2 [] st := by
  refine zrKeep he ?_
  unfold f70_l0_j1 at hS
  refine zrSeq ?_
  refine zrSplit 9 p61 (by kernel_rfl) (fun hc => ?_) (fun hc => ?_)
  · replace hS := cond_t hc hS
    refine zrCondT (by kernel_rfl) ?_
    refine zrSkip ?_
    refine zkSeq ?_
    exact f70_l0_j2_ok hd a1 a2 a3 hQ p58 p59 p60 hS (by kernel_rfl)
  · replace hS := cond_f hc hS
    refine zrCondF (by kernel_rfl) ?_
    refine zrKeep (J := f70_l0_e0_J a1 a2 a3 p58) (by kernel_rfl) ?_
    refine zrExit ?_
    refine zkSeqX ?_
    refine zkNil ?_
    exact endQ hS hQ (finL_x (by intro h; cases h) (by show _ = _ ∧ _ = _; exact ⟨rfl, rfl⟩))
noncomputable def f70_l0 (a1 : Nat) (a2 : Nat) (a3 : List GCell) (x : (List GCell) × (List GCell) × Int) : Option (((List GCell) × (List GCell) × Int) ⊕ (((List GCell)))) := (bif (decide (x.2.2 < (a2 : Int))) then (f70_l0_j1 a1 a2 a3 x.1 x.2.1 x.2.2 true) else (f70_l0_j1 a1 a2 a3 x.1 x.2.1 x.2.2 false))
theorem f70_l0_ok {d : Nat} (hd : 4 ≤ d) (a1 : Nat) (a2 : Nat) (a3 : List GCell) {r : ((List GCell) × (List GCell) × Int) ⊕ (((List GCell)))} {Q : PX → St → Prop} (hQ : ∀ e st', finL (f70_l0_H a1 a2 a3) (f70_l0_X a1 a2 a3) r e st' → Q e st') {x : (List GCell) × (List GCell) × Int} (hS : f70_l0 a1 a2 a3 x = some r) {st : St} (he : f70_l0_H a1 a2 a3 x st) : ZR (lev codes baseL (d - 1)) Q c70_3 [] st := by
  refine zrKeep he ?_
  unfold f70_l0 at hS
  refine zrSeq ?_
  refine zrReg ?_
  refine zlBool (d := 9) (op := (.cmpI .lss (.tmp 8) (.tmp 7))) (g := none) (j := 1) (decide (x.2.2 < (a2 : Int))) rfl (by kernel_rfl) (by kernel_rfl) (by kernel_rfl) (fun hc => ?_) (fun hc => ?_)
  · replace hS := cond_t hc hS
    refine zlEnd (by kernel_rfl) ?_
    refine zkSeq ?_
    exact f70_l0_j1_ok hd a1 a2 a3 hQ x.1 x.2.1 x.2.2 true hS (by kernel_rfl)
  · replace hS := cond_f hc hS
    refine zlEnd (by kernel_rfl) ?_
    refine zkSeq ?_
    exact f70_l0_j1_ok hd a1 a2 a3 hQ x.1 x.2.1 x.2.2 false hS (by kernel_rfl)
noncomputable def f70 (a1 : Nat) (a2 : Nat) (a3 : List GCell) : Option ((List GCell)) := ((part? a3 a1 a2).bind fun z24 => ((f20 z24).bind fun z25 => ((loopO (f70_l0 a1 a2 a3) (a3, z25, 0)).bind fun z54 => (some z54))))
theorem f70_ok (d : Nat) (hd : 4 ≤ d) (a1 : Nat) (a2 : Nat) (a3 : List GCell) (r : (List GCell)) (hS : f70 a1 a2 a3 = some r) : lev codes baseL d 70 [(.r (.msl 0 0 a1 a2))] [(.own 46 4 (e_GCell.cells a3))] = some ((.tup []), [(.own 46 4 (e_GCell.cells r)), .box []]) := by
  refine lev_go codes70 rfl rfl (Nat.le_trans (Nat.le_of_ble_eq_true rfl) hd) fun Q hQ => ?_
  unfold f70 at hS
  show ZR _ Q c70_b [] _
  replace hQ : ∀ e st', f70_Q r e st' → Q e st' := hQ
  refine zrSeq ?_
  refine zrReg ?_
  refine zlRun (n := 1) (j := 1) rfl (by kernel_rfl) ?_
  refine bindE hS (fun z24 hz24 hS => ?_)
  refine bindE hS (fun z25 hz25 hS => ?_)
  refine zlOp (d := some 5) (op := (.call 20 [(.tmp 4)])) (g := none) (j := 2) rfl (by kernel_rfl) (by kernel_rfl) (ev_callB (args := [(.r (.msl 0 0 a1 a2))]) (by kernel_rfl) (l_cons (l_part e_GCell (e := 46) (k := 4) (xs := a3) (by kernel_rfl) rfl hz24) l_nil) (f20_ok (d - 1) (dpt hd rfl) z24 z25 hz25) (by simp only [free_own e_GCell (fun _ => rfl), free_tup, free_agg, free_nl, free_cs, free_int, free_bool, free_str, free_un, free_ni, free_s0, Bool.and_true, Bool.or_true, Bool.and_self]) (by kernel_rfl)) ?_
  refine zlRun (n := 1) (j := 3) rfl (by kernel_rfl) ?_
  refine zlEnd (by kernel_rfl) ?_
  refine zkSeq ?_
  refine zrSeq ?_
  refine zrReg ?_
  refine zlRun (n := 3) (j := 3) rfl (by kernel_rfl) ?_
  refine zlEnd (by kernel_rfl) ?_
  refine zkSeq ?_
  refine zrBlk ?_
  refine bindE hS (fun z54 hz54 hS => ?_)
  refine zrLoop (f70_l0_H a1 a2 a3) (f70_l0_X a1 a2 a3) (fun x st r Q h0 hS hQ => f70_l0_ok hd a1 a2 a3 hQ hS h0) (x := (a3, z25, 0)) (z := z54) (by show keepSt _ _ _ _ = _; kernel_rfl) hz54 ?_
  intro e st' _ hX
  obtain ⟨rfl, rfl⟩ : _ ∧ _ := hX
  refine zkBlkX ?_
  refine zkNil ?_
  exact endQ hS hQ (fNormX (by kernel_rfl) (by kernel_rfl : finSt c70.fin _ = f70_fin z54) (by kernel_rfl) (f70_out z54))
/- farwriter/grid.PutIn -/
def f46_fin (p8 : List GCell) : St := ⟨(up (fun _ => .un) 2000000 .un), (up (hB fun _ => 0) 0 ⟨0, some (.own 46 4 (e_GCell.cells p8))⟩)⟩
theorem f46_out (p8 : List GCell) : outR (f46_fin p8) 1 c46.res = some ((.tup []), [(.own 46 4 (e_GCell.cells p8))]) := by
  kernel_rfl
def f46_Q (r : (List GCell)) (e : PX) (st : St) : Prop := DoneF c46 1 ((.tup []), [(.own 46 4 (e_GCell.cells r)), .box []]) e st
noncomputable def f46 (a1 : Int) (a2 : Int) (a3 : Int) (a4 : Int) (a5 : Int) (a6 : GPen) (a7 : List GCell) : Option ((List GCell)) := ((f36v1 a1 a2 a3 a7).bind fun z12 => ((chk (decide (z12.1.length = a7.length))).bind fun z13 => ((inR a4 z12.2.2).bind fun m14 => ((z12.1[(z12.2.1 + m14)]?).bind fun z15 => ((some (z12.1.set (z12.2.1 + m14) (GCell.mk a5 a6))).bind fun z16 => ((f37 a5).bind fun z18 => (bif (decide (z18 = 2)) then ((inR (IntKind.i64.wrap (a4 + 1)) z12.2.2).bind fun m19 => ((z16[(z12.2.1 + m19)]?).bind fun z20 => ((some (z16.set (z12.2.1 + m19) (GCell.mk 0 a6))).bind fun z21 => ((f70 z12.2.1 z12.2.2 z21).bind fun z22 => ((chk (decide (z22.length = z21.length))).bind fun z23 => (some z22)))))) else ((f70 z12.2.1 z12.2.2 z16).bind fun z24 => ((chk (decide (z24.length = z16.length))).bind fun z25 => (some z24))))))))))
theorem f46_ok (d : Nat) (hd : 5 ≤ d) (a1 : Int) (a2 : Int) (a3 : Int) (a4 : Int) (a5 : Int) (a6 : GPen) (a7 : List GCell) (r : (List GCell)) (hS : f46 a1 a2 a3 a4 a5 a6 a7 = some r) : lev codes baseL d 46 [(.agg ((.d (.int .i64 a1)) :: ((.d (.int .i64 a2)) :: ((.r (.msl 0 0 0 a7.length)) :: [])))), (.d (.int .i64 a3)), (.d (.int .i64 a4)), (.d (.int .i64 a5)), (.agg ((.d (.int .i64 a6.Flags)) :: ((.d (.int .i64 a6.Fore)) :: ((.d (.int .i64 a6.Back)) :: []))))] [(.own 46 4 (e_GCell.cells a7))] = some ((.tup []), [(.own 46 4 (e_GCell.cells r)), .box []]) := by
  refine lev_go codes46 rfl rfl (Nat.le_trans (Nat.le_of_ble_eq_true rfl) hd) fun Q hQ => ?_
  unfold f46 at hS
  show ZR _ Q c46_b [] _
  replace hQ : ∀ e st', f46_Q r e st' → Q e st' := hQ
  refine zrSeq ?_
  refine zrReg ?_
  refine zlRun (n := 2) (j := 2) rfl (by kernel_rfl) ?_
  refine zlEnd (by kernel_rfl) ?_
  refine zkSeq ?_
  refine zrSeq ?_
  refine zrReg ?_
  refine zlRun (n := 2) (j := 2) rfl (by kernel_rfl) ?_
  refine bindE hS (fun z12 hz12 hS => ?_)
  refine bindE hS (fun z13 hz13 hS => ?_)
  refine zlOp (d := some 13) (op := (.callr 36 [(.tmp 11), (.tmp 12)])) (g := none) (j := 3) rfl (by kernel_rfl) (by kernel_rfl) (ev_callrXA (ids := [0]) (bs := [(.own 46 4 (e_GCell.cells a7))]) (by kernel_rfl) (by kernel_rfl) (by kernel_rfl) (by kernel_rfl) (f36v1_ok (d - 1) (dpt hd rfl) a1 a2 a3 a7 z12 hz12) (by kernel_rfl) (sm_own e_GCell (e1 := 46) (k1 := 4) (xs := a7) (ys := z12.1) (by kernel_rfl) hz13 sm_nil) (by kernel_rfl)) ?_
  have lz13 : a7.length = z12.1.length := (of_decide_eq_true (chk_t hz13)).symm
  skip
  try rw [lz13]
  refine zlRun (n := 1) (j := 4) rfl (by kernel_rfl) ?_
  refine zlEnd (by kernel_rfl) ?_
  refine zkSeq ?_
  refine zrSeq ?_
  refine zrReg ?_
  refine zlRun (n := 5) (j := 5) rfl (by kernel_rfl) ?_
  refine bindE hS (fun m14 hm14 hS => ?_)
  refine zlOp (d := some 19) (op := (.ixS 46 4 (.tmp 14) (.tmp 15))) (g := none) (v := (.r (.ptr 0 0 ((z12.2.1 + m14) * 4)))) (ups := []) (j := 6) rfl (by kernel_rfl) (by kernel_rfl) (ev_ixM (kk := .i64) (b := 0) (g := 0) (l := z12.2.1) (n := z12.2.2) (j := a4) (cs := e_GCell.cells z12.1) (by kernel_rfl) (by kernel_rfl) (by kernel_rfl) hm14) ?_
  refine bindE hS (fun z15 hz15 hS => ?_)
  refine bindE hS (fun z16 hz16 hS => ?_)
  refine zlOp (d := none) (op := (.store 4 (.tmp 19) (.tmp 18))) (g := none) (v := .un) (ups := [(0, ⟨0, some (.own 46 4 (e_GCell.cells (z12.1.set (z12.2.1 + m14) (GCell.mk a5 a6))))⟩)]) (j := 7) rfl (by kernel_rfl) (by kernel_rfl) (ev_storeM e_GCell (b := 0) (g := 0) (o := (z12.2.1 + m14) * 4) (e := 46) (k := 4) (m := (z12.2.1 + m14)) (fo := 0) (xs := z12.1) (z := z15) (z' := (GCell.mk a5 a6)) (by kernel_rfl) (new := ((.d (.int .i64 a5)) :: ((.d (.int .i64 a6.Flags)) :: ((.d (.int .i64 a6.Fore)) :: ((.d (.int .i64 a6.Back)) :: []))))) (ds := [.int .i64 a5, .int .i64 a6.Flags, .int .i64 a6.Fore, .int .i64 a6.Back]) (by kernel_rfl) (by kernel_rfl) (by kernel_rfl) rfl hz15 (by kernel_rfl) (by kernel_rfl) (by kernel_rfl)) ?_
  have ez16 := Option.some.inj hz16
  have lz16 : z12.1.length = z16.length := by rw [← ez16, List.length_set]
  rw [ez16]
  skip
  try rw [lz16]
  refine zlEnd (by kernel_rfl) ?_
  refine zkSeq ?_
  refine zrSeq ?_
  refine zrSeq ?_
  refine zrReg ?_
  refine zlRun (n := 1) (j := 1) rfl (by kernel_rfl) ?_
  refine bindE hS (fun z18 hz18 hS => ?_)
  refine zlOp (d := some 21) (op := (.call 37 [(.tmp 20)])) (g := none) (j := 2) rfl (by kernel_rfl) (by kernel_rfl) (ev_callA (by kernel_rfl) (f37_ok (d - 1) (dpt hd rfl) a5 z18 hz18) (by kernel_rfl) (by kernel_rfl)) ?_
  refine zlBool (d := 22) (op := (.cmpI .eql (.tmp 21) (.const (.int .i64 2)))) (g := none) (j := 3) (decide (z18 = 2)) rfl (by kernel_rfl) (by kernel_rfl) (by kernel_rfl) (fun hc => ?_) (fun hc => ?_)
  · replace hS := cond_t hc hS
    refine zlEnd (by kernel_rfl) ?_
    refine zkSeq ?_
    refine zrCondT (by kernel_rfl) ?_
    refine zrReg ?_
    refine zlRun (n := 5) (j := 5) rfl (by kernel_rfl) ?_
    refine bindE hS (fun m19 hm19 hS => ?_)
    refine zlOp (d := some 28) (op := (.ixS 46 4 (.tmp 23) (.tmp 25))) (g := none) (v := (.r (.ptr 0 0 ((z12.2.1 + m19) * 4)))) (ups := []) (j := 6) rfl (by kernel_rfl) (by kernel_rfl) (ev_ixM (kk := .i64) (b := 0) (g := 0) (l := z12.2.1) (n := z12.2.2) (j := (IntKind.i64.wrap (a4 + 1))) (cs := e_GCell.cells z16) (by kernel_rfl) (by kernel_rfl) (by kernel_rfl) hm19) ?_
    refine bindE hS (fun z20 hz20 hS => ?_)
    refine bindE hS (fun z21 hz21 hS => ?_)
    refine zlOp (d := none) (op := (.store 4 (.tmp 28) (.tmp 27))) (g := none) (v := .un) (ups := [(0, ⟨0, some (.own 46 4 (e_GCell.cells (z16.set (z12.2.1 + m19) (GCell.mk 0 a6))))⟩)]) (j := 7) rfl (by kernel_rfl) (by kernel_rfl) (ev_storeM e_GCell (b := 0) (g := 0) (o := (z12.2.1 + m19) * 4) (e := 46) (k := 4) (m := (z12.2.1 + m19)) (fo := 0) (xs := z16) (z := z20) (z' := (GCell.mk 0 a6)) (by kernel_rfl) (new := ((.d (.int .i64 0)) :: ((.d (.int .i64 a6.Flags)) :: ((.d (.int .i64 a6.Fore)) :: ((.d (.int .i64 a6.Back)) :: []))))) (ds := [.int .i64 0, .int .i64 a6.Flags, .int .i64 a6.Fore, .int .i64 a6.Back]) (by kernel_rfl) (by kernel_rfl) (by kernel_rfl) rfl hz20 (by kernel_rfl) (by kernel_rfl) (by kernel_rfl)) ?_
    have ez21 := Option.some.inj hz21
    have lz21 : z16.length = z21.length := by rw [← ez21, List.length_set]
    rw [ez21]
    skip
    try rw [lz21]
    refine zlEnd (by kernel_rfl) ?_
    refine zkSeq ?_
    refine zrReg ?_
    refine zlRun (n := 1) (j := 1) rfl (by kernel_rfl) ?_
    refine bindE hS (fun z22 hz22 hS => ?_)
    refine bindE hS (fun z23 hz23 hS => ?_)
    refine zlOp (d := some 30) (op := (.callr 70 [(.tmp 29)])) (g := none) (j := 2) rfl (by kernel_rfl) (by kernel_rfl) (ev_callrXA (ids := [0]) (bs := [(.own 46 4 (e_GCell.cells z21))]) (by kernel_rfl) (by kernel_rfl) (by kernel_rfl) (by kernel_rfl) (f70_ok (d - 1) (dpt hd rfl) z12.2.1 z12.2.2 z21 z22 hz22) (by kernel_rfl) (sm_own e_GCell (e1 := 46) (k1 := 4) (xs := z21) (ys := z22) (by kernel_rfl) hz23 sm_nil) (by kernel_rfl)) ?_
    have lz23 : z21.length = z22.length := (of_decide_eq_true (chk_t hz23)).symm
    skip
    try rw [lz23]
    refine zlEnd (by kernel_rfl) ?_
    refine zkNil ?_
    exact endQ hS hQ (fNormX (by kernel_rfl) (by kernel_rfl : finSt c46.fin _ = f46_fin z22) (by kernel_rfl) (f46_out z22))
  · replace hS := cond_f hc hS
    refine zlEnd (by kernel_rfl) ?_
    refine zkSeq ?_
    refine zrCondF (by kernel_rfl) ?_
    refine zrSkip ?_
    refine zkSeq ?_
    refine zrReg ?_
    refine zlRun (n := 1) (j := 1) rfl (by kernel_rfl) ?_
    refine bindE hS (fun z24 hz24 hS => ?_)
    refine bindE hS (fun z25 hz25 hS => ?_)
    refine zlOp (d := some 30) (op := (.callr 70 [(.tmp 29)])) (g := none) (j := 2) rfl (by kernel_rfl) (by kernel_rfl) (ev_callrXA (ids := [0]) (bs := [(.own 46 4 (e_GCell.cells z16))]) (by kernel_rfl) (by kernel_rfl) (by kernel_rfl) (by kernel_rfl) (f70_ok (d - 1) (dpt hd rfl) z12.2.1 z12.2.2 z16 z24 hz24) (by kernel_rfl) (sm_own e_GCell (e1 := 46) (k1 := 4) (xs := z16) (ys := z24) (by kernel_rfl) hz25 sm_nil) (by kernel_rfl)) ?_
    have lz25 : z16.length = z24.length := (of_decide_eq_true (chk_t hz25)).symm
    skip
    try rw [lz25]
    refine zlEnd (by kernel_rfl) ?_
    refine zkNil ?_
    exact endQ hS hQ (fNormX (by kernel_rfl) (by kernel_rfl : finSt c46.fin _ = f46_fin z24) (by kernel_rfl) (f46_out z24))
end Go.Proofs.YtjoccdgmcdkbkaaDoor.Pm
