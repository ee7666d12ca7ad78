/- Typed functions, and that the codes are these. Printed by dec.py. -/
import Derived.Test.YtddnpgmmlfbhfaaDQD
namespace Go.Proofs.Ytddnpgmmlfbhfaa.Pm
set_option maxRecDepth 1000000
set_option maxHeartbeats 20000000
set_option linter.unusedVariables false
/- farwriter/farkeep.QnegAlone -/
def f7_fin (p87 : Bool) : St := ⟨(up (fun _ => .un) 10 (.d (.bool p87))), (hB fun _ => 0)⟩
theorem f7_out (p87 : Bool) : outR (f7_fin p87) 0 c7.res = some ((.d (.bool p87)), []) := by
  kernel_rfl
def f7_Q (r : Bool) (e : PX) (st : St) : Prop := DoneF c7 0 ((.d (.bool r)), []) e st
def f7_j1_J (a1 : GNeg) (a2 : GTok) (a3 : Bool) (a4 : Int) (a5 : Bool) (p174 : GNeg) (p175 : Int) : St := ⟨(up (up (up (up (fun _ => .un) 16 (.d (.int .i64 p175))) 14 (.r (.ptr 120 0 0))) 5 (.r (.ptr 48 0 0))) 3 (.d (.int .i64 a4))), (up (up (hB fun _ => 0) 120 ⟨0, some (.box ((eU8.row 256 p174.Us) ++ ((eU8.row 256 p174.Him) ++ (((eInt .u64).row 4 p174.UsOk) ++ (((eInt .u64).row 4 p174.HimOk) ++ [])))))⟩) 48 ⟨0, some (.box ((eU8.row 256 a1.Us) ++ ((eU8.row 256 a1.Him) ++ (((eInt .u64).row 4 a1.UsOk) ++ (((eInt .u64).row 4 a1.HimOk) ++ [])))))⟩)⟩
noncomputable def f7_j1 (a1 : GNeg) (a2 : GTok) (a3 : Bool) (a4 : Int) (a5 : Bool) (p174 : GNeg) (p175 : Int) : Option (Bool) := (bif (decide (p175 = 0)) then ((inR a4 256).bind fun m28 => ((inR a4 256).bind fun m29 => ((inR a4 256).bind fun m30 => ((inR a4 256).bind fun m31 => (bif (rowEq 256 (upd p174.Us m30 (a1.Us m28)) a1.Us && (rowEq 256 (upd p174.Him m31 (a1.Him m29)) a1.Him && (rowEq 4 p174.UsOk a1.UsOk && (rowEq 4 p174.HimOk a1.HimOk && true)))) then ((f13 p174).bind fun z32 => (bif (decide (z32 = 0)) then (some true) else (some false))) else (some false)))))) else (some true))
theorem f7_j1_ok {base : Orc} {d : Nat} (hd : 5 ≤ d) (a1 : GNeg) (a2 : GTok) (a3 : Bool) (a4 : Int) (a5 : Bool) {r : Bool} {Q : PX → St → Prop} (hQ : ∀ e st', f7_Q r e st' → Q e st') (p174 : GNeg) (p175 : Int) (hS : f7_j1 a1 a2 a3 a4 a5 p174 p175 = some r) {st : St} (he : keepSt [3, 5, 14, 16] [(48, .id 48), (120, .id 120)] [] st = f7_j1_J a1 a2 a3 a4 a5 p174 p175) : ZR (lev codes base (d - 1)) Q c7_1 [] st := by
  refine zrKeep he ?_
  unfold f7_j1 at hS
  refine zrSeq ?_
  refine zrSeq ?_
  refine zrReg ?_
  refine zlRun (n := 1) (j := 1) rfl (by kernel_rfl) ?_
  refine zlBool (d := 117) (op := (.cmpI .eql (.tmp 116) (.const (.int .i64 0)))) (g := none) (j := 2) (decide (p175 = 0)) rfl (by kernel_rfl) (by kernel_rfl) (by kernel_rfl) (fun hc => ?_) (fun hc => ?_)
  · replace hS := cond_t hc hS
    refine zlEnd (by kernel_rfl) ?_
    refine zkSeq ?_
    refine zrCondT (by kernel_rfl) ?_
    refine zrSeq ?_
    refine zrReg ?_
    refine zlRun (n := 3) (j := 3) rfl (by kernel_rfl) ?_
    refine zlEnd (by kernel_rfl) ?_
    refine zkSeq ?_
    refine zrSeq ?_
    refine zrRegD ?_
    refine zdRun (n := 4) (j := 4) (ts := [[], [], [], []]) (acc' := [[], [], [], []]) rfl (by kernel_rfl) (by kernel_rfl) (by kernel_rfl) ?_
    refine bindE hS (fun m28 hm28 hS => ?_)
    refine zdOp (d := some 123) (op := (.ixA 256 1 (.tmp 122) (.tmp 121))) (g := none) (v := (.r (.ptr 48 0 (0 + m28 * 1)))) (ups := []) (j := 5) (t1 := []) (acc' := [[], [], [], [], []]) (by kernel_rfl) (by kernel_rfl) rfl (by kernel_rfl) (by kernel_rfl) (ev_ixA (kk := .i64) (b := 48) (g := 0) (o := 0) (j := a4) (by kernel_rfl) (by kernel_rfl) hm28) ?_
    refine zdOp (d := some 124) (op := (.load .false 1 (.tmp 123))) (g := none) (v := (.d (.int .u8 ((a1.Us m28).toNat : Int)))) (ups := []) (j := 6) (t1 := [(48, false)]) (acc' := [[], [], [], [], [], [(48, false)]]) (by kernel_rfl) (by kernel_rfl) rfl (by kernel_rfl) (by kernel_rfl) (ev_loadA eU8 (b := 48) (g := 0) (o := 0 + m28 * 1) (f := a1.Us) (nn := 256) (m := m28) (fo := 0) (pre := []) (post := ((eU8.row 256 a1.Him) ++ (((eInt .u64).row 4 a1.UsOk) ++ (((eInt .u64).row 4 a1.HimOk) ++ [])))) (by kernel_rfl) (by kernel_rfl) (by kernel_rfl) (inR_lt hm28) (by kernel_rfl) (by kernel_rfl) (by kernel_rfl)) ?_
    refine zdRun (n := 2) (j := 8) (ts := [[], []]) (acc' := [[], [], [], [], [], [(48, false)], [], []]) rfl (by kernel_rfl) (by kernel_rfl) (by kernel_rfl) ?_
    refine bindE hS (fun m29 hm29 hS => ?_)
    refine zdOp (d := some 127) (op := (.ixA 256 1 (.tmp 126) (.tmp 125))) (g := none) (v := (.r (.ptr 48 0 (256 + m29 * 1)))) (ups := []) (j := 9) (t1 := []) (acc' := [[], [], [], [], [], [(48, false)], [], [], []]) (by kernel_rfl) (by kernel_rfl) rfl (by kernel_rfl) (by kernel_rfl) (ev_ixA (kk := .i64) (b := 48) (g := 0) (o := 256) (j := a4) (by kernel_rfl) (by kernel_rfl) hm29) ?_
    refine zdOp (d := some 128) (op := (.load .false 1 (.tmp 127))) (g := none) (v := (.d (.int .u8 ((a1.Him m29).toNat : Int)))) (ups := []) (j := 10) (t1 := [(48, false)]) (acc' := [[], [], [], [], [], [(48, false)], [], [], [], [(48, false)]]) (by kernel_rfl) (by kernel_rfl) rfl (by kernel_rfl) (by kernel_rfl) (ev_loadA eU8 (b := 48) (g := 0) (o := 256 + m29 * 1) (f := a1.Him) (nn := 256) (m := m29) (fo := 0) (pre := ((eU8.row 256 a1.Us) ++ [])) (post := (((eInt .u64).row 4 a1.UsOk) ++ (((eInt .u64).row 4 a1.HimOk) ++ []))) (by kernel_rfl) (by kernel_rfl) (by kernel_rfl) (inR_lt hm29) (by kernel_rfl) (by kernel_rfl) (by kernel_rfl)) ?_
    refine zdRun (n := 1) (j := 11) (ts := [[]]) (acc' := [[], [], [], [], [], [(48, false)], [], [], [], [(48, false)], []]) rfl (by kernel_rfl) (by kernel_rfl) (by kernel_rfl) ?_
    refine bindE hS (fun m30 hm30 hS => ?_)
    refine zdOp (d := some 130) (op := (.ixA 256 1 (.tmp 129) (.tmp 119))) (g := none) (v := (.r (.ptr 152 1 (0 + m30 * 1)))) (ups := []) (j := 12) (t1 := []) (acc' := [[], [], [], [], [], [(48, false)], [], [], [], [(48, false)], [], []]) (by kernel_rfl) (by kernel_rfl) rfl (by kernel_rfl) (by kernel_rfl) (ev_ixA (kk := .i64) (b := 152) (g := 1) (o := 0) (j := a4) (by kernel_rfl) (by kernel_rfl) hm30) ?_
    refine zdOp (d := none) (op := (.store 1 (.tmp 130) (.tmp 124))) (g := none) (v := .un) (ups := [(152, ⟨1, some (.box ((eU8.row 256 (upd p174.Us m30 (a1.Us m28))) ++ ((eU8.row 256 p174.Him) ++ (((eInt .u64).row 4 p174.UsOk) ++ (((eInt .u64).row 4 p174.HimOk) ++ [])))))⟩)]) (j := 13) (t1 := [(152, true)]) (acc' := [[], [], [], [], [], [(48, false)], [], [], [], [(48, false)], [], [], [(152, true)]]) (by kernel_rfl) (by kernel_rfl) rfl (by kernel_rfl) (by kernel_rfl) (ev_storeA eU8 (b := 152) (g := 1) (o := 0 + m30 * 1) (f := p174.Us) (nn := 256) (m := m30) (fo := 0) (pre := []) (post := ((eU8.row 256 p174.Him) ++ (((eInt .u64).row 4 p174.UsOk) ++ (((eInt .u64).row 4 p174.HimOk) ++ [])))) (by kernel_rfl) (by kernel_rfl) (by kernel_rfl) (inR_lt hm30) (new := ((.d (.int .u8 ((a1.Us m28).toNat : Int))) :: [])) (ds := [.int .u8 ((a1.Us m28).toNat : Int)]) (z' := (a1.Us m28)) (by kernel_rfl) (by kernel_rfl) (by kernel_rfl) (by kernel_rfl) (by kernel_rfl)) ?_
    refine zdRun (n := 1) (j := 14) (ts := [[]]) (acc' := [[], [], [], [], [], [(48, false)], [], [], [], [(48, false)], [], [], [(152, true)], []]) rfl (by kernel_rfl) (by kernel_rfl) (by kernel_rfl) ?_
    refine bindE hS (fun m31 hm31 hS => ?_)
    refine zdOp (d := some 132) (op := (.ixA 256 1 (.tmp 131) (.tmp 120))) (g := none) (v := (.r (.ptr 152 1 (256 + m31 * 1)))) (ups := []) (j := 15) (t1 := []) (acc' := [[], [], [], [], [], [(48, false)], [], [], [], [(48, false)], [], [], [(152, true)], [], []]) (by kernel_rfl) (by kernel_rfl) rfl (by kernel_rfl) (by kernel_rfl) (ev_ixA (kk := .i64) (b := 152) (g := 1) (o := 256) (j := a4) (by kernel_rfl) (by kernel_rfl) hm31) ?_
    refine zdOp (d := none) (op := (.store 1 (.tmp 132) (.tmp 128))) (g := none) (v := .un) (ups := [(152, ⟨1, some (.box ((eU8.row 256 (upd p174.Us m30 (a1.Us m28))) ++ ((eU8.row 256 (upd p174.Him m31 (a1.Him m29))) ++ (((eInt .u64).row 4 p174.UsOk) ++ (((eInt .u64).row 4 p174.HimOk) ++ [])))))⟩)]) (j := 16) (t1 := [(152, true)]) (acc' := [[], [], [], [], [], [(48, false)], [], [], [], [(48, false)], [], [], [(152, true)], [], [], [(152, true)]]) (by kernel_rfl) (by kernel_rfl) rfl (by kernel_rfl) (by kernel_rfl) (ev_storeA eU8 (b := 152) (g := 1) (o := 256 + m31 * 1) (f := p174.Him) (nn := 256) (m := m31) (fo := 0) (pre := ((eU8.row 256 (upd p174.Us m30 (a1.Us m28))) ++ [])) (post := (((eInt .u64).row 4 p174.UsOk) ++ (((eInt .u64).row 4 p174.HimOk) ++ []))) (by kernel_rfl) (by kernel_rfl) (by kernel_rfl) (inR_lt hm31) (new := ((.d (.int .u8 ((a1.Him m29).toNat : Int))) :: [])) (ds := [.int .u8 ((a1.Him m29).toNat : Int)]) (z' := (a1.Him m29)) (by kernel_rfl) (by kernel_rfl) (by kernel_rfl) (by kernel_rfl) (by kernel_rfl)) ?_
    refine zdEnd (by kernel_rfl) (by kernel_rfl) ?_
    refine zkSeq ?_
    refine zrSeq ?_
    refine zrReg ?_
    refine zlRun (n := 2) (j := 2) rfl (by kernel_rfl) ?_
    refine zlBool (d := 135) (op := (.eqA .false [(520, .int)] (.tmp 133) (.tmp 134))) (g := none) (j := 3) (rowEq 256 (upd p174.Us m30 (a1.Us m28)) a1.Us && (rowEq 256 (upd p174.Him m31 (a1.Him m29)) a1.Him && (rowEq 4 p174.UsOk a1.UsOk && (rowEq 4 p174.HimOk a1.HimOk && true)))) rfl (by kernel_rfl) (by kernel_rfl) (ev_eqA (va := ((eU8.row 256 (upd p174.Us m30 (a1.Us m28))) ++ ((eU8.row 256 (upd p174.Him m31 (a1.Him m29))) ++ (((eInt .u64).row 4 p174.UsOk) ++ (((eInt .u64).row 4 p174.HimOk) ++ []))))) (vb := ((eU8.row 256 a1.Us) ++ ((eU8.row 256 a1.Him) ++ (((eInt .u64).row 4 a1.UsOk) ++ (((eInt .u64).row 4 a1.HimOk) ++ []))))) (ks := (List.replicate 256 .int ++ (List.replicate 256 .int ++ (List.replicate 4 .int ++ (List.replicate 4 .int ++ []))))) (by kernel_rfl) (by kernel_rfl) (by kernel_rfl) (eq_row8 (eq_row8 (eq_rowI (eq_rowI eq_nil))))) (fun hc => ?_) (fun hc => ?_)
    · replace hS := cond_t hc hS
      refine zlRun (n := 2) (j := 5) rfl (by kernel_rfl) ?_
      refine bindE hS (fun z32 hz32 hS => ?_)
      refine zlOp (d := some 138) (op := (.call 13 [(.tmp 137)])) (g := (some (136, true))) (v := (.d (.int .i64 z32))) (ups := []) (j := 6) rfl (by kernel_rfl) (by kernel_rfl) (ev_call (args := [(.agg ((eU8.row 256 p174.Us) ++ ((eU8.row 256 p174.Him) ++ (((eInt .u64).row 4 p174.UsOk) ++ (((eInt .u64).row 4 p174.HimOk) ++ [])))))]) (l := [(.agg ((eU8.row 256 p174.Us) ++ ((eU8.row 256 p174.Him) ++ (((eInt .u64).row 4 p174.UsOk) ++ (((eInt .u64).row 4 p174.HimOk) ++ [])))))]) (r := (.d (.int .i64 z32))) (by kernel_rfl) (by kernel_rfl) (f13_ok base (d - 1) (dpt hd rfl) p174 z32 hz32) (by kernel_rfl) (by kernel_rfl) (by kernel_rfl)) ?_
      refine zlBool (d := 139) (op := (.cmpI .eql (.tmp 138) (.const (.int .i64 0)))) (g := (some (136, true))) (j := 7) (decide (z32 = 0)) rfl (by kernel_rfl) (by kernel_rfl) (by kernel_rfl) (fun hc => ?_) (fun hc => ?_)
      · replace hS := cond_t hc hS
        refine zlRun (n := 2) (j := 9) rfl (by kernel_rfl) ?_
        refine zlEnd (by kernel_rfl) ?_
        refine zkSeq ?_
        refine zrRet ?_
        refine zkSeqR ?_
        refine zkNil ?_
        exact endQ hS hQ (fRet ((congrArg (fun s => outR s 0 c7.res) (by kernel_rfl : finSt c7.fin _ = f7_fin true)).trans (f7_out true)))
      · replace hS := cond_f hc hS
        refine zlRun (n := 2) (j := 9) rfl (by kernel_rfl) ?_
        refine zlEnd (by kernel_rfl) ?_
        refine zkSeq ?_
        refine zrRet ?_
        refine zkSeqR ?_
        refine zkNil ?_
        exact endQ hS hQ (fRet ((congrArg (fun s => outR s 0 c7.res) (by kernel_rfl : finSt c7.fin _ = f7_fin false)).trans (f7_out false)))
    · replace hS := cond_f hc hS
      refine zlRun (n := 6) (j := 9) rfl (by kernel_rfl) ?_
      refine zlEnd (by kernel_rfl) ?_
      refine zkSeq ?_
      refine zrRet ?_
      refine zkSeqR ?_
      refine zkNil ?_
      exact endQ hS hQ (fRet ((congrArg (fun s => outR s 0 c7.res) (by kernel_rfl : finSt c7.fin _ = f7_fin false)).trans (f7_out false)))
  · replace hS := cond_f hc hS
    refine zlEnd (by kernel_rfl) ?_
    refine zkSeq ?_
    refine zrCondF (by kernel_rfl) ?_
    refine zrSkip ?_
    refine zkSeq ?_
    refine zrSeq ?_
    refine zrReg ?_
    refine zlRun (n := 1) (j := 1) rfl (by kernel_rfl) ?_
    refine zlEnd (by kernel_rfl) ?_
    refine zkSeq ?_
    refine zrRet ?_
    refine zkNil ?_
    exact endQ hS hQ (fRet ((congrArg (fun s => outR s 0 c7.res) (by kernel_rfl : finSt c7.fin _ = f7_fin true)).trans (f7_out true)))
def f7_j0_J (a1 : GNeg) (a2 : GTok) (a3 : Bool) (a4 : Int) (a5 : Bool) (p134 : GNeg) (p135 : Int) (p136 : GNeg) (p137 : Int) : St := ⟨(up (up (up (up (up (up (up (fun _ => .un) 16 (.d (.int .i64 p137))) 14 (.r (.ptr 120 0 0))) 13 (.d (.int .i64 p135))) 11 (.r (.ptr 96 0 0))) 6 (.r (.ptr 56 0 0))) 5 (.r (.ptr 48 0 0))) 3 (.d (.int .i64 a4))), (up (up (up (up (hB fun _ => 0) 120 ⟨0, some (.box ((eU8.row 256 p136.Us) ++ ((eU8.row 256 p136.Him) ++ (((eInt .u64).row 4 p136.UsOk) ++ (((eInt .u64).row 4 p136.HimOk) ++ [])))))⟩) 96 ⟨0, some (.box ((eU8.row 256 p134.Us) ++ ((eU8.row 256 p134.Him) ++ (((eInt .u64).row 4 p134.UsOk) ++ (((eInt .u64).row 4 p134.HimOk) ++ [])))))⟩) 56 ⟨0, some (.box ((.d (.int .i64 a2.Kind)) :: ((.d (.int .i64 a2.Cmd)) :: ((.d (.int .i64 a2.Opt)) :: ((.d (.str a2.Data)) :: [])))))⟩) 48 ⟨0, some (.box ((eU8.row 256 a1.Us) ++ ((eU8.row 256 a1.Him) ++ (((eInt .u64).row 4 a1.UsOk) ++ (((eInt .u64).row 4 a1.HimOk) ++ [])))))⟩)⟩
noncomputable def f7_j0 (a1 : GNeg) (a2 : GTok) (a3 : Bool) (a4 : Int) (a5 : Bool) (p134 : GNeg) (p135 : Int) (p136 : GNeg) (p137 : Int) : Option (Bool) := (bif (decide (p135 = 0)) then ((inR a2.Opt 256).bind fun m33 => ((inR a2.Opt 256).bind fun m34 => ((inR a2.Opt 256).bind fun m35 => ((inR a2.Opt 256).bind fun m36 => (bif (!(rowEq 256 (upd p134.Us m35 (a1.Us m33)) a1.Us && (rowEq 256 (upd p134.Him m36 (a1.Him m34)) a1.Him && (rowEq 4 p134.UsOk a1.UsOk && (rowEq 4 p134.HimOk a1.HimOk && true))))) then (some false) else (bif (decide (253 ≤ a2.Cmd)) then (bif (!(rowEq 256 p134.Him a1.Him && true)) then (some false) else (bif (decide (a2.Cmd < 253)) then (bif (!(rowEq 256 p134.Us a1.Us && true)) then (some false) else ((f13 p134).bind fun z37 => (bif (!decide (z37 = 0)) then (some false) else (f7_j1 a1 a2 a3 a4 a5 p136 p137)))) else ((f13 p134).bind fun z38 => (bif (!decide (z38 = 0)) then (some false) else (f7_j1 a1 a2 a3 a4 a5 p136 p137))))) else (bif (decide (a2.Cmd < 253)) then (bif (!(rowEq 256 p134.Us a1.Us && true)) then (some false) else ((f13 p134).bind fun z39 => (bif (!decide (z39 = 0)) then (some false) else (f7_j1 a1 a2 a3 a4 a5 p136 p137)))) else ((f13 p134).bind fun z40 => (bif (!decide (z40 = 0)) then (some false) else (f7_j1 a1 a2 a3 a4 a5 p136 p137)))))))))) else (f7_j1 a1 a2 a3 a4 a5 p136 p137))
theorem f7_j0_ok {base : Orc} {d : Nat} (hd : 5 ≤ d) (a1 : GNeg) (a2 : GTok) (a3 : Bool) (a4 : Int) (a5 : Bool) {r : Bool} {Q : PX → St → Prop} (hQ : ∀ e st', f7_Q r e st' → Q e st') (p134 : GNeg) (p135 : Int) (p136 : GNeg) (p137 : Int) (hS : f7_j0 a1 a2 a3 a4 a5 p134 p135 p136 p137 = some r) {st : St} (he : keepSt [3, 5, 6, 11, 13, 14, 16] [(48, .id 48), (56, .id 56), (96, .id 96), (120, .id 120)] [] st = f7_j0_J a1 a2 a3 a4 a5 p134 p135 p136 p137) : ZR (lev codes base (d - 1)) Q c7_2 [] st := by
  refine zrKeep he ?_
  unfold f7_j0 at hS
  refine zrSeq ?_
  refine zrSeq ?_
  refine zrReg ?_
  refine zlRun (n := 1) (j := 1) rfl (by kernel_rfl) ?_
  refine zlBool (d := 64) (op := (.cmpI .eql (.tmp 63) (.const (.int .i64 0)))) (g := none) (j := 2) (decide (p135 = 0)) rfl (by kernel_rfl) (by kernel_rfl) (by kernel_rfl) (fun hc => ?_) (fun hc => ?_)
  · replace hS := cond_t hc hS
    refine zlEnd (by kernel_rfl) ?_
    refine zkSeq ?_
    refine zrCondT (by kernel_rfl) ?_
    refine zrSeq ?_
    refine zrReg ?_
    refine zlRun (n := 3) (j := 3) rfl (by kernel_rfl) ?_
    refine zlEnd (by kernel_rfl) ?_
    refine zkSeq ?_
    refine zrSeq ?_
    refine zrRegD ?_
    refine zdRun (n := 7) (j := 7) (ts := [[], [(56, false)], [], [(56, false)], [], [(56, false)], []]) (acc' := [[], [(56, false)], [], [(56, false)], [], [(56, false)], []]) rfl (by kernel_rfl) (by kernel_rfl) (by kernel_rfl) ?_
    refine bindE hS (fun m33 hm33 hS => ?_)
    refine zdOp (d := some 73) (op := (.ixA 256 1 (.tmp 72) (.tmp 71))) (g := none) (v := (.r (.ptr 48 0 (0 + m33 * 1)))) (ups := []) (j := 8) (t1 := []) (acc' := [[], [(56, false)], [], [(56, false)], [], [(56, false)], [], []]) (by kernel_rfl) (by kernel_rfl) rfl (by kernel_rfl) (by kernel_rfl) (ev_ixA (kk := .i64) (b := 48) (g := 0) (o := 0) (j := a2.Opt) (by kernel_rfl) (by kernel_rfl) hm33) ?_
    refine zdOp (d := some 74) (op := (.load .false 1 (.tmp 73))) (g := none) (v := (.d (.int .u8 ((a1.Us m33).toNat : Int)))) (ups := []) (j := 9) (t1 := [(48, false)]) (acc' := [[], [(56, false)], [], [(56, false)], [], [(56, false)], [], [], [(48, false)]]) (by kernel_rfl) (by kernel_rfl) rfl (by kernel_rfl) (by kernel_rfl) (ev_loadA eU8 (b := 48) (g := 0) (o := 0 + m33 * 1) (f := a1.Us) (nn := 256) (m := m33) (fo := 0) (pre := []) (post := ((eU8.row 256 a1.Him) ++ (((eInt .u64).row 4 a1.UsOk) ++ (((eInt .u64).row 4 a1.HimOk) ++ [])))) (by kernel_rfl) (by kernel_rfl) (by kernel_rfl) (inR_lt hm33) (by kernel_rfl) (by kernel_rfl) (by kernel_rfl)) ?_
    refine zdRun (n := 3) (j := 12) (ts := [[], [(56, false)], []]) (acc' := [[], [(56, false)], [], [(56, false)], [], [(56, false)], [], [], [(48, false)], [], [(56, false)], []]) rfl (by kernel_rfl) (by kernel_rfl) (by kernel_rfl) ?_
    refine bindE hS (fun m34 hm34 hS => ?_)
    refine zdOp (d := some 78) (op := (.ixA 256 1 (.tmp 77) (.tmp 76))) (g := none) (v := (.r (.ptr 48 0 (256 + m34 * 1)))) (ups := []) (j := 13) (t1 := []) (acc' := [[], [(56, false)], [], [(56, false)], [], [(56, false)], [], [], [(48, false)], [], [(56, false)], [], []]) (by kernel_rfl) (by kernel_rfl) rfl (by kernel_rfl) (by kernel_rfl) (ev_ixA (kk := .i64) (b := 48) (g := 0) (o := 256) (j := a2.Opt) (by kernel_rfl) (by kernel_rfl) hm34) ?_
    refine zdOp (d := some 79) (op := (.load .false 1 (.tmp 78))) (g := none) (v := (.d (.int .u8 ((a1.Him m34).toNat : Int)))) (ups := []) (j := 14) (t1 := [(48, false)]) (acc' := [[], [(56, false)], [], [(56, false)], [], [(56, false)], [], [], [(48, false)], [], [(56, false)], [], [], [(48, false)]]) (by kernel_rfl) (by kernel_rfl) rfl (by kernel_rfl) (by kernel_rfl) (ev_loadA eU8 (b := 48) (g := 0) (o := 256 + m34 * 1) (f := a1.Him) (nn := 256) (m := m34) (fo := 0) (pre := ((eU8.row 256 a1.Us) ++ [])) (post := (((eInt .u64).row 4 a1.UsOk) ++ (((eInt .u64).row 4 a1.HimOk) ++ []))) (by kernel_rfl) (by kernel_rfl) (by kernel_rfl) (inR_lt hm34) (by kernel_rfl) (by kernel_rfl) (by kernel_rfl)) ?_
    refine zdRun (n := 1) (j := 15) (ts := [[]]) (acc' := [[], [(56, false)], [], [(56, false)], [], [(56, false)], [], [], [(48, false)], [], [(56, false)], [], [], [(48, false)], []]) rfl (by kernel_rfl) (by kernel_rfl) (by kernel_rfl) ?_
    refine bindE hS (fun m35 hm35 hS => ?_)
    refine zdOp (d := some 81) (op := (.ixA 256 1 (.tmp 80) (.tmp 67))) (g := none) (v := (.r (.ptr 144 1 (0 + m35 * 1)))) (ups := []) (j := 16) (t1 := []) (acc' := [[], [(56, false)], [], [(56, false)], [], [(56, false)], [], [], [(48, false)], [], [(56, false)], [], [], [(48, false)], [], []]) (by kernel_rfl) (by kernel_rfl) rfl (by kernel_rfl) (by kernel_rfl) (ev_ixA (kk := .i64) (b := 144) (g := 1) (o := 0) (j := a2.Opt) (by kernel_rfl) (by kernel_rfl) hm35) ?_
    refine zdOp (d := none) (op := (.store 1 (.tmp 81) (.tmp 74))) (g := none) (v := .un) (ups := [(144, ⟨1, some (.box ((eU8.row 256 (upd p134.Us m35 (a1.Us m33))) ++ ((eU8.row 256 p134.Him) ++ (((eInt .u64).row 4 p134.UsOk) ++ (((eInt .u64).row 4 p134.HimOk) ++ [])))))⟩)]) (j := 17) (t1 := [(144, true)]) (acc' := [[], [(56, false)], [], [(56, false)], [], [(56, false)], [], [], [(48, false)], [], [(56, false)], [], [], [(48, false)], [], [], [(144, true)]]) (by kernel_rfl) (by kernel_rfl) rfl (by kernel_rfl) (by kernel_rfl) (ev_storeA eU8 (b := 144) (g := 1) (o := 0 + m35 * 1) (f := p134.Us) (nn := 256) (m := m35) (fo := 0) (pre := []) (post := ((eU8.row 256 p134.Him) ++ (((eInt .u64).row 4 p134.UsOk) ++ (((eInt .u64).row 4 p134.HimOk) ++ [])))) (by kernel_rfl) (by kernel_rfl) (by kernel_rfl) (inR_lt hm35) (new := ((.d (.int .u8 ((a1.Us m33).toNat : Int))) :: [])) (ds := [.int .u8 ((a1.Us m33).toNat : Int)]) (z' := (a1.Us m33)) (by kernel_rfl) (by kernel_rfl) (by kernel_rfl) (by kernel_rfl) (by kernel_rfl)) ?_
    refine zdRun (n := 1) (j := 18) (ts := [[]]) (acc' := [[], [(56, false)], [], [(56, false)], [], [(56, false)], [], [], [(48, false)], [], [(56, false)], [], [], [(48, false)], [], [], [(144, true)], []]) rfl (by kernel_rfl) (by kernel_rfl) (by kernel_rfl) ?_
    refine bindE hS (fun m36 hm36 hS => ?_)
    refine zdOp (d := some 83) (op := (.ixA 256 1 (.tmp 82) (.tmp 69))) (g := none) (v := (.r (.ptr 144 1 (256 + m36 * 1)))) (ups := []) (j := 19) (t1 := []) (acc' := [[], [(56, false)], [], [(56, false)], [], [(56, false)], [], [], [(48, false)], [], [(56, false)], [], [], [(48, false)], [], [], [(144, true)], [], []]) (by kernel_rfl) (by kernel_rfl) rfl (by kernel_rfl) (by kernel_rfl) (ev_ixA (kk := .i64) (b := 144) (g := 1) (o := 256) (j := a2.Opt) (by kernel_rfl) (by kernel_rfl) hm36) ?_
    refine zdOp (d := none) (op := (.store 1 (.tmp 83) (.tmp 79))) (g := none) (v := .un) (ups := [(144, ⟨1, some (.box ((eU8.row 256 (upd p134.Us m35 (a1.Us m33))) ++ ((eU8.row 256 (upd p134.Him m36 (a1.Him m34))) ++ (((eInt .u64).row 4 p134.UsOk) ++ (((eInt .u64).row 4 p134.HimOk) ++ [])))))⟩)]) (j := 20) (t1 := [(144, true)]) (acc' := [[], [(56, false)], [], [(56, false)], [], [(56, false)], [], [], [(48, false)], [], [(56, false)], [], [], [(48, false)], [], [], [(144, true)], [], [], [(144, true)]]) (by kernel_rfl) (by kernel_rfl) rfl (by kernel_rfl) (by kernel_rfl) (ev_storeA eU8 (b := 144) (g := 1) (o := 256 + m36 * 1) (f := p134.Him) (nn := 256) (m := m36) (fo := 0) (pre := ((eU8.row 256 (upd p134.Us m35 (a1.Us m33))) ++ [])) (post := (((eInt .u64).row 4 p134.UsOk) ++ (((eInt .u64).row 4 p134.HimOk) ++ []))) (by kernel_rfl) (by kernel_rfl) (by kernel_rfl) (inR_lt hm36) (new := ((.d (.int .u8 ((a1.Him m34).toNat : Int))) :: [])) (ds := [.int .u8 ((a1.Him m34).toNat : Int)]) (z' := (a1.Him m34)) (by kernel_rfl) (by kernel_rfl) (by kernel_rfl) (by kernel_rfl) (by kernel_rfl)) ?_
    refine zdEnd (by kernel_rfl) (by kernel_rfl) ?_
    refine zkSeq ?_
    refine zrSeq ?_
    refine zrReg ?_
    refine zlRun (n := 2) (j := 2) rfl (by kernel_rfl) ?_
    refine zlBool (d := 86) (op := (.eqA .true [(520, .int)] (.tmp 84) (.tmp 85))) (g := none) (j := 3) (!(rowEq 256 (upd p134.Us m35 (a1.Us m33)) a1.Us && (rowEq 256 (upd p134.Him m36 (a1.Him m34)) a1.Him && (rowEq 4 p134.UsOk a1.UsOk && (rowEq 4 p134.HimOk a1.HimOk && true))))) rfl (by kernel_rfl) (by kernel_rfl) (ev_eqA (va := ((eU8.row 256 (upd p134.Us m35 (a1.Us m33))) ++ ((eU8.row 256 (upd p134.Him m36 (a1.Him m34))) ++ (((eInt .u64).row 4 p134.UsOk) ++ (((eInt .u64).row 4 p134.HimOk) ++ []))))) (vb := ((eU8.row 256 a1.Us) ++ ((eU8.row 256 a1.Him) ++ (((eInt .u64).row 4 a1.UsOk) ++ (((eInt .u64).row 4 a1.HimOk) ++ []))))) (ks := (List.replicate 256 .int ++ (List.replicate 256 .int ++ (List.replicate 4 .int ++ (List.replicate 4 .int ++ []))))) (by kernel_rfl) (by kernel_rfl) (by kernel_rfl) (eq_row8 (eq_row8 (eq_rowI (eq_rowI eq_nil))))) (fun hc => ?_) (fun hc => ?_)
    · replace hS := cond_t hc hS
      refine zlRun (n := 29) (j := 32) rfl (by kernel_rfl) ?_
      refine zlEnd (by kernel_rfl) ?_
      refine zkSeq ?_
      refine zrCondT (by kernel_rfl) ?_
      refine zrSeq ?_
      refine zrReg ?_
      refine zlRun (n := 1) (j := 1) rfl (by kernel_rfl) ?_
      refine zlEnd (by kernel_rfl) ?_
      refine zkSeq ?_
      refine zrRet ?_
      refine zkSeqR ?_
      refine zkNil ?_
      exact endQ hS hQ (fRet ((congrArg (fun s => outR s 0 c7.res) (by kernel_rfl : finSt c7.fin _ = f7_fin false)).trans (f7_out false)))
    · replace hS := cond_f hc hS
      refine zlRun (n := 3) (j := 6) rfl (by kernel_rfl) ?_
      refine zlBool (d := 90) (op := (.cmpI .geq (.tmp 89) (.const (.int .i64 253)))) (g := (some (87, false))) (j := 7) (decide (253 ≤ a2.Cmd)) rfl (by kernel_rfl) (by kernel_rfl) (by kernel_rfl) (fun hc => ?_) (fun hc => ?_)
      · replace hS := cond_t hc hS
        refine zlRun (n := 5) (j := 12) rfl (by kernel_rfl) ?_
        refine zlBool (d := 96) (op := (.eqA .true [(256, .int)] (.tmp 93) (.tmp 95))) (g := (some (91, true))) (j := 13) (!(rowEq 256 p134.Him a1.Him && true)) rfl (by kernel_rfl) (by kernel_rfl) (ev_eqA (va := ((eU8.row 256 p134.Him) ++ [])) (vb := ((eU8.row 256 a1.Him) ++ [])) (ks := (List.replicate 256 .int ++ [])) (by kernel_rfl) (by kernel_rfl) (by kernel_rfl) (eq_row8 eq_nil)) (fun hc => ?_) (fun hc => ?_)
        · replace hS := cond_t hc hS
          refine zlRun (n := 19) (j := 32) rfl (by kernel_rfl) ?_
          refine zlEnd (by kernel_rfl) ?_
          refine zkSeq ?_
          refine zrCondT (by kernel_rfl) ?_
          refine zrSeq ?_
          refine zrReg ?_
          refine zlRun (n := 1) (j := 1) rfl (by kernel_rfl) ?_
          refine zlEnd (by kernel_rfl) ?_
          refine zkSeq ?_
          refine zrRet ?_
          refine zkSeqR ?_
          refine zkNil ?_
          exact endQ hS hQ (fRet ((congrArg (fun s => outR s 0 c7.res) (by kernel_rfl : finSt c7.fin _ = f7_fin false)).trans (f7_out false)))
        · replace hS := cond_f hc hS
          refine zlRun (n := 5) (j := 18) rfl (by kernel_rfl) ?_
          refine zlBool (d := 102) (op := (.cmpI .lss (.tmp 101) (.const (.int .i64 253)))) (g := (some (99, false))) (j := 19) (decide (a2.Cmd < 253)) rfl (by kernel_rfl) (by kernel_rfl) (by kernel_rfl) (fun hc => ?_) (fun hc => ?_)
          · replace hS := cond_t hc hS
            refine zlRun (n := 5) (j := 24) rfl (by kernel_rfl) ?_
            refine zlBool (d := 108) (op := (.eqA .true [(256, .int)] (.tmp 105) (.tmp 107))) (g := (some (103, true))) (j := 25) (!(rowEq 256 p134.Us a1.Us && true)) rfl (by kernel_rfl) (by kernel_rfl) (ev_eqA (va := ((eU8.row 256 p134.Us) ++ [])) (vb := ((eU8.row 256 a1.Us) ++ [])) (ks := (List.replicate 256 .int ++ [])) (by kernel_rfl) (by kernel_rfl) (by kernel_rfl) (eq_row8 eq_nil)) (fun hc => ?_) (fun hc => ?_)
            · replace hS := cond_t hc hS
              refine zlRun (n := 7) (j := 32) rfl (by kernel_rfl) ?_
              refine zlEnd (by kernel_rfl) ?_
              refine zkSeq ?_
              refine zrCondT (by kernel_rfl) ?_
              refine zrSeq ?_
              refine zrReg ?_
              refine zlRun (n := 1) (j := 1) rfl (by kernel_rfl) ?_
              refine zlEnd (by kernel_rfl) ?_
              refine zkSeq ?_
              refine zrRet ?_
              refine zkSeqR ?_
              refine zkNil ?_
              exact endQ hS hQ (fRet ((congrArg (fun s => outR s 0 c7.res) (by kernel_rfl : finSt c7.fin _ = f7_fin false)).trans (f7_out false)))
            · replace hS := cond_f hc hS
              refine zlRun (n := 4) (j := 29) rfl (by kernel_rfl) ?_
              refine bindE hS (fun z37 hz37 hS => ?_)
              refine zlOp (d := some 113) (op := (.call 13 [(.tmp 112)])) (g := (some (111, false))) (v := (.d (.int .i64 z37))) (ups := []) (j := 30) rfl (by kernel_rfl) (by kernel_rfl) (ev_call (args := [(.agg ((eU8.row 256 p134.Us) ++ ((eU8.row 256 p134.Him) ++ (((eInt .u64).row 4 p134.UsOk) ++ (((eInt .u64).row 4 p134.HimOk) ++ [])))))]) (l := [(.agg ((eU8.row 256 p134.Us) ++ ((eU8.row 256 p134.Him) ++ (((eInt .u64).row 4 p134.UsOk) ++ (((eInt .u64).row 4 p134.HimOk) ++ [])))))]) (r := (.d (.int .i64 z37))) (by kernel_rfl) (by kernel_rfl) (f13_ok base (d - 1) (dpt hd rfl) p134 z37 hz37) (by kernel_rfl) (by kernel_rfl) (by kernel_rfl)) ?_
              refine zlBool (d := 114) (op := (.cmpI .neq (.tmp 113) (.const (.int .i64 0)))) (g := (some (111, false))) (j := 31) (!decide (z37 = 0)) rfl (by kernel_rfl) (by kernel_rfl) (by kernel_rfl) (fun hc => ?_) (fun hc => ?_)
              · replace hS := cond_t hc hS
                refine zlRun (n := 1) (j := 32) rfl (by kernel_rfl) ?_
                refine zlEnd (by kernel_rfl) ?_
                refine zkSeq ?_
                refine zrCondT (by kernel_rfl) ?_
                refine zrSeq ?_
                refine zrReg ?_
                refine zlRun (n := 1) (j := 1) rfl (by kernel_rfl) ?_
                refine zlEnd (by kernel_rfl) ?_
                refine zkSeq ?_
                refine zrRet ?_
                refine zkSeqR ?_
                refine zkNil ?_
                exact endQ hS hQ (fRet ((congrArg (fun s => outR s 0 c7.res) (by kernel_rfl : finSt c7.fin _ = f7_fin false)).trans (f7_out false)))
              · replace hS := cond_f hc hS
                refine zlRun (n := 1) (j := 32) rfl (by kernel_rfl) ?_
                refine zlEnd (by kernel_rfl) ?_
                refine zkSeq ?_
                refine zrCondF (by kernel_rfl) ?_
                refine zrSkip ?_
                refine zkSeq ?_
                exact f7_j1_ok hd a1 a2 a3 a4 a5 hQ p136 p137 hS (by kernel_rfl)
          · replace hS := cond_f hc hS
            refine zlRun (n := 10) (j := 29) rfl (by kernel_rfl) ?_
            refine bindE hS (fun z38 hz38 hS => ?_)
            refine zlOp (d := some 113) (op := (.call 13 [(.tmp 112)])) (g := (some (111, false))) (v := (.d (.int .i64 z38))) (ups := []) (j := 30) rfl (by kernel_rfl) (by kernel_rfl) (ev_call (args := [(.agg ((eU8.row 256 p134.Us) ++ ((eU8.row 256 p134.Him) ++ (((eInt .u64).row 4 p134.UsOk) ++ (((eInt .u64).row 4 p134.HimOk) ++ [])))))]) (l := [(.agg ((eU8.row 256 p134.Us) ++ ((eU8.row 256 p134.Him) ++ (((eInt .u64).row 4 p134.UsOk) ++ (((eInt .u64).row 4 p134.HimOk) ++ [])))))]) (r := (.d (.int .i64 z38))) (by kernel_rfl) (by kernel_rfl) (f13_ok base (d - 1) (dpt hd rfl) p134 z38 hz38) (by kernel_rfl) (by kernel_rfl) (by kernel_rfl)) ?_
            refine zlBool (d := 114) (op := (.cmpI .neq (.tmp 113) (.const (.int .i64 0)))) (g := (some (111, false))) (j := 31) (!decide (z38 = 0)) rfl (by kernel_rfl) (by kernel_rfl) (by kernel_rfl) (fun hc => ?_) (fun hc => ?_)
            · replace hS := cond_t hc hS
              refine zlRun (n := 1) (j := 32) rfl (by kernel_rfl) ?_
              refine zlEnd (by kernel_rfl) ?_
              refine zkSeq ?_
              refine zrCondT (by kernel_rfl) ?_
              refine zrSeq ?_
              refine zrReg ?_
              refine zlRun (n := 1) (j := 1) rfl (by kernel_rfl) ?_
              refine zlEnd (by kernel_rfl) ?_
              refine zkSeq ?_
              refine zrRet ?_
              refine zkSeqR ?_
              refine zkNil ?_
              exact endQ hS hQ (fRet ((congrArg (fun s => outR s 0 c7.res) (by kernel_rfl : finSt c7.fin _ = f7_fin false)).trans (f7_out false)))
            · replace hS := cond_f hc hS
              refine zlRun (n := 1) (j := 32) rfl (by kernel_rfl) ?_
              refine zlEnd (by kernel_rfl) ?_
              refine zkSeq ?_
              refine zrCondF (by kernel_rfl) ?_
              refine zrSkip ?_
              refine zkSeq ?_
              exact f7_j1_ok hd a1 a2 a3 a4 a5 hQ p136 p137 hS (by kernel_rfl)
      · replace hS := cond_f hc hS
        refine zlRun (n := 11) (j := 18) rfl (by kernel_rfl) ?_
        refine zlBool (d := 102) (op := (.cmpI .lss (.tmp 101) (.const (.int .i64 253)))) (g := (some (99, false))) (j := 19) (decide (a2.Cmd < 253)) rfl (by kernel_rfl) (by kernel_rfl) (by kernel_rfl) (fun hc => ?_) (fun hc => ?_)
        · replace hS := cond_t hc hS
          refine zlRun (n := 5) (j := 24) rfl (by kernel_rfl) ?_
          refine zlBool (d := 108) (op := (.eqA .true [(256, .int)] (.tmp 105) (.tmp 107))) (g := (some (103, true))) (j := 25) (!(rowEq 256 p134.Us a1.Us && true)) rfl (by kernel_rfl) (by kernel_rfl) (ev_eqA (va := ((eU8.row 256 p134.Us) ++ [])) (vb := ((eU8.row 256 a1.Us) ++ [])) (ks := (List.replicate 256 .int ++ [])) (by kernel_rfl) (by kernel_rfl) (by kernel_rfl) (eq_row8 eq_nil)) (fun hc => ?_) (fun hc => ?_)
          · replace hS := cond_t hc hS
            refine zlRun (n := 7) (j := 32) rfl (by kernel_rfl) ?_
            refine zlEnd (by kernel_rfl) ?_
            refine zkSeq ?_
            refine zrCondT (by kernel_rfl) ?_
            refine zrSeq ?_
            refine zrReg ?_
            refine zlRun (n := 1) (j := 1) rfl (by kernel_rfl) ?_
            refine zlEnd (by kernel_rfl) ?_
            refine zkSeq ?_
            refine zrRet ?_
            refine zkSeqR ?_
            refine zkNil ?_
            exact endQ hS hQ (fRet ((congrArg (fun s => outR s 0 c7.res) (by kernel_rfl : finSt c7.fin _ = f7_fin false)).trans (f7_out false)))
          · replace hS := cond_f hc hS
            refine zlRun (n := 4) (j := 29) rfl (by kernel_rfl) ?_
            refine bindE hS (fun z39 hz39 hS => ?_)
            refine zlOp (d := some 113) (op := (.call 13 [(.tmp 112)])) (g := (some (111, false))) (v := (.d (.int .i64 z39))) (ups := []) (j := 30) rfl (by kernel_rfl) (by kernel_rfl) (ev_call (args := [(.agg ((eU8.row 256 p134.Us) ++ ((eU8.row 256 p134.Him) ++ (((eInt .u64).row 4 p134.UsOk) ++ (((eInt .u64).row 4 p134.HimOk) ++ [])))))]) (l := [(.agg ((eU8.row 256 p134.Us) ++ ((eU8.row 256 p134.Him) ++ (((eInt .u64).row 4 p134.UsOk) ++ (((eInt .u64).row 4 p134.HimOk) ++ [])))))]) (r := (.d (.int .i64 z39))) (by kernel_rfl) (by kernel_rfl) (f13_ok base (d - 1) (dpt hd rfl) p134 z39 hz39) (by kernel_rfl) (by kernel_rfl) (by kernel_rfl)) ?_
            refine zlBool (d := 114) (op := (.cmpI .neq (.tmp 113) (.const (.int .i64 0)))) (g := (some (111, false))) (j := 31) (!decide (z39 = 0)) rfl (by kernel_rfl) (by kernel_rfl) (by kernel_rfl) (fun hc => ?_) (fun hc => ?_)
            · replace hS := cond_t hc hS
              refine zlRun (n := 1) (j := 32) rfl (by kernel_rfl) ?_
              refine zlEnd (by kernel_rfl) ?_
              refine zkSeq ?_
              refine zrCondT (by kernel_rfl) ?_
              refine zrSeq ?_
              refine zrReg ?_
              refine zlRun (n := 1) (j := 1) rfl (by kernel_rfl) ?_
              refine zlEnd (by kernel_rfl) ?_
              refine zkSeq ?_
              refine zrRet ?_
              refine zkSeqR ?_
              refine zkNil ?_
              exact endQ hS hQ (fRet ((congrArg (fun s => outR s 0 c7.res) (by kernel_rfl : finSt c7.fin _ = f7_fin false)).trans (f7_out false)))
            · replace hS := cond_f hc hS
              refine zlRun (n := 1) (j := 32) rfl (by kernel_rfl) ?_
              refine zlEnd (by kernel_rfl) ?_
              refine zkSeq ?_
              refine zrCondF (by kernel_rfl) ?_
              refine zrSkip ?_
              refine zkSeq ?_
              exact f7_j1_ok hd a1 a2 a3 a4 a5 hQ p136 p137 hS (by kernel_rfl)
        · replace hS := cond_f hc hS
          refine zlRun (n := 10) (j := 29) rfl (by kernel_rfl) ?_
          refine bindE hS (fun z40 hz40 hS => ?_)
          refine zlOp (d := some 113) (op := (.call 13 [(.tmp 112)])) (g := (some (111, false))) (v := (.d (.int .i64 z40))) (ups := []) (j := 30) rfl (by kernel_rfl) (by kernel_rfl) (ev_call (args := [(.agg ((eU8.row 256 p134.Us) ++ ((eU8.row 256 p134.Him) ++ (((eInt .u64).row 4 p134.UsOk) ++ (((eInt .u64).row 4 p134.HimOk) ++ [])))))]) (l := [(.agg ((eU8.row 256 p134.Us) ++ ((eU8.row 256 p134.Him) ++ (((eInt .u64).row 4 p134.UsOk) ++ (((eInt .u64).row 4 p134.HimOk) ++ [])))))]) (r := (.d (.int .i64 z40))) (by kernel_rfl) (by kernel_rfl) (f13_ok base (d - 1) (dpt hd rfl) p134 z40 hz40) (by kernel_rfl) (by kernel_rfl) (by kernel_rfl)) ?_
          refine zlBool (d := 114) (op := (.cmpI .neq (.tmp 113) (.const (.int .i64 0)))) (g := (some (111, false))) (j := 31) (!decide (z40 = 0)) rfl (by kernel_rfl) (by kernel_rfl) (by kernel_rfl) (fun hc => ?_) (fun hc => ?_)
          · replace hS := cond_t hc hS
            refine zlRun (n := 1) (j := 32) rfl (by kernel_rfl) ?_
            refine zlEnd (by kernel_rfl) ?_
            refine zkSeq ?_
            refine zrCondT (by kernel_rfl) ?_
            refine zrSeq ?_
            refine zrReg ?_
            refine zlRun (n := 1) (j := 1) rfl (by kernel_rfl) ?_
            refine zlEnd (by kernel_rfl) ?_
            refine zkSeq ?_
            refine zrRet ?_
            refine zkSeqR ?_
            refine zkNil ?_
            exact endQ hS hQ (fRet ((congrArg (fun s => outR s 0 c7.res) (by kernel_rfl : finSt c7.fin _ = f7_fin false)).trans (f7_out false)))
          · replace hS := cond_f hc hS
            refine zlRun (n := 1) (j := 32) rfl (by kernel_rfl) ?_
            refine zlEnd (by kernel_rfl) ?_
            refine zkSeq ?_
            refine zrCondF (by kernel_rfl) ?_
            refine zrSkip ?_
            refine zkSeq ?_
            exact f7_j1_ok hd a1 a2 a3 a4 a5 hQ p136 p137 hS (by kernel_rfl)
  · replace hS := cond_f hc hS
    refine zlEnd (by kernel_rfl) ?_
    refine zkSeq ?_
    refine zrCondF (by kernel_rfl) ?_
    refine zrSkip ?_
    refine zkSeq ?_
    exact f7_j1_ok hd a1 a2 a3 a4 a5 hQ p136 p137 hS (by kernel_rfl)
noncomputable def f7 (a1 : GNeg) (a2 : GTok) (a3 : Bool) (a4 : Int) (a5 : Bool) : Option (Bool) := ((f11 a1 a2).bind fun z17 => ((f12 a1 a3 a4 a5).bind fun z18 => (f9.bind fun z41 => (bif (!z41) then (some false) else (bif (!decide (z17.2.2 = 0)) then (bif (!(rowEq 256 z17.1.Us a1.Us && (rowEq 256 z17.1.Him a1.Him && (rowEq 4 z17.1.UsOk a1.UsOk && (rowEq 4 z17.1.HimOk a1.HimOk && true))))) then (some false) else (bif (!decide (z17.2.1 = ([] : List UInt8))) then (some false) else (bif (!decide (z18.2.2 = 0)) then (bif (!(rowEq 256 z18.1.Us a1.Us && (rowEq 256 z18.1.Him a1.Him && (rowEq 4 z18.1.UsOk a1.UsOk && (rowEq 4 z18.1.HimOk a1.HimOk && true))))) then (some false) else (bif (!decide (z18.2.1 = ([] : List UInt8))) then (some false) else (f7_j0 a1 a2 a3 a4 a5 z17.1 z17.2.2 z18.1 z18.2.2))) else (f7_j0 a1 a2 a3 a4 a5 z17.1 z17.2.2 z18.1 z18.2.2)))) else (bif (!decide (z18.2.2 = 0)) then (bif (!(rowEq 256 z18.1.Us a1.Us && (rowEq 256 z18.1.Him a1.Him && (rowEq 4 z18.1.UsOk a1.UsOk && (rowEq 4 z18.1.HimOk a1.HimOk && true))))) then (some false) else (bif (!decide (z18.2.1 = ([] : List UInt8))) then (some false) else (f7_j0 a1 a2 a3 a4 a5 z17.1 z17.2.2 z18.1 z18.2.2))) else (f7_j0 a1 a2 a3 a4 a5 z17.1 z17.2.2 z18.1 z18.2.2)))))))
theorem f7_ok (base : Orc) (d : Nat) (hd : 5 ≤ d) (a1 : GNeg) (a2 : GTok) (a3 : Bool) (a4 : Int) (a5 : Bool) (r : Bool) (hS : f7 a1 a2 a3 a4 a5 = some r) : lev codes base d 7 [(.agg ((eU8.row 256 a1.Us) ++ ((eU8.row 256 a1.Him) ++ (((eInt .u64).row 4 a1.UsOk) ++ (((eInt .u64).row 4 a1.HimOk) ++ []))))), (.agg ((.d (.int .i64 a2.Kind)) :: ((.d (.int .i64 a2.Cmd)) :: ((.d (.int .i64 a2.Opt)) :: ((.d (.str a2.Data)) :: []))))), (.d (.bool a3)), (.d (.int .i64 a4)), (.d (.bool a5))] [] = some ((.d (.bool r)), []) := by
  refine lev_go codes7 rfl rfl (Nat.le_trans (Nat.le_of_ble_eq_true rfl) hd) fun Q hQ => ?_
  unfold f7 at hS
  show ZR _ Q c7_b [] _
  replace hQ : ∀ e st', f7_Q r e st' → Q e st' := hQ
  refine zrSeq ?_
  refine zrReg ?_
  refine zlRun (n := 3) (j := 3) rfl (by kernel_rfl) ?_
  refine zlEnd (by kernel_rfl) ?_
  refine zkSeq ?_
  refine zrSeq ?_
  refine zrReg ?_
  refine zlRun (n := 2) (j := 2) rfl (by kernel_rfl) ?_
  refine bindE hS (fun z17 hz17 hS => ?_)
  refine zlOp (d := some 22) (op := (.call 11 [(.tmp 20), (.tmp 21)])) (g := none) (v := (.tup [(.agg ((eU8.row 256 z17.1.Us) ++ ((eU8.row 256 z17.1.Him) ++ (((eInt .u64).row 4 z17.1.UsOk) ++ (((eInt .u64).row 4 z17.1.HimOk) ++ []))))), (.d (.str z17.2.1)), (.d (.int .i64 z17.2.2))])) (ups := []) (j := 3) rfl (by kernel_rfl) (by kernel_rfl) (ev_call (args := [(.agg ((eU8.row 256 a1.Us) ++ ((eU8.row 256 a1.Him) ++ (((eInt .u64).row 4 a1.UsOk) ++ (((eInt .u64).row 4 a1.HimOk) ++ []))))), (.agg ((.d (.int .i64 a2.Kind)) :: ((.d (.int .i64 a2.Cmd)) :: ((.d (.int .i64 a2.Opt)) :: ((.d (.str a2.Data)) :: [])))))]) (l := [(.agg ((eU8.row 256 a1.Us) ++ ((eU8.row 256 a1.Him) ++ (((eInt .u64).row 4 a1.UsOk) ++ (((eInt .u64).row 4 a1.HimOk) ++ []))))), (.agg ((.d (.int .i64 a2.Kind)) :: ((.d (.int .i64 a2.Cmd)) :: ((.d (.int .i64 a2.Opt)) :: ((.d (.str a2.Data)) :: [])))))]) (r := (.tup [(.agg ((eU8.row 256 z17.1.Us) ++ ((eU8.row 256 z17.1.Him) ++ (((eInt .u64).row 4 z17.1.UsOk) ++ (((eInt .u64).row 4 z17.1.HimOk) ++ []))))), (.d (.str z17.2.1)), (.d (.int .i64 z17.2.2))])) (by kernel_rfl) (by kernel_rfl) (f11_ok base (d - 1) (dpt hd rfl) a1 a2 z17 hz17) (by kernel_rfl) (by kernel_rfl) (by kernel_rfl)) ?_
  refine zlRun (n := 8) (j := 11) rfl (by kernel_rfl) ?_
  refine zlEnd (by kernel_rfl) ?_
  refine zkSeq ?_
  refine zrSeq ?_
  refine zrReg ?_
  refine zlRun (n := 4) (j := 4) rfl (by kernel_rfl) ?_
  refine bindE hS (fun z18 hz18 hS => ?_)
  refine zlOp (d := some 31) (op := (.call 12 [(.tmp 27), (.tmp 28), (.tmp 29), (.tmp 30)])) (g := none) (v := (.tup [(.agg ((eU8.row 256 z18.1.Us) ++ ((eU8.row 256 z18.1.Him) ++ (((eInt .u64).row 4 z18.1.UsOk) ++ (((eInt .u64).row 4 z18.1.HimOk) ++ []))))), (.d (.str z18.2.1)), (.d (.int .i64 z18.2.2))])) (ups := []) (j := 5) rfl (by kernel_rfl) (by kernel_rfl) (ev_call (args := [(.agg ((eU8.row 256 a1.Us) ++ ((eU8.row 256 a1.Him) ++ (((eInt .u64).row 4 a1.UsOk) ++ (((eInt .u64).row 4 a1.HimOk) ++ []))))), (.d (.bool a3)), (.d (.int .i64 a4)), (.d (.bool a5))]) (l := [(.agg ((eU8.row 256 a1.Us) ++ ((eU8.row 256 a1.Him) ++ (((eInt .u64).row 4 a1.UsOk) ++ (((eInt .u64).row 4 a1.HimOk) ++ []))))), (.d (.bool a3)), (.d (.int .i64 a4)), (.d (.bool a5))]) (r := (.tup [(.agg ((eU8.row 256 z18.1.Us) ++ ((eU8.row 256 z18.1.Him) ++ (((eInt .u64).row 4 z18.1.UsOk) ++ (((eInt .u64).row 4 z18.1.HimOk) ++ []))))), (.d (.str z18.2.1)), (.d (.int .i64 z18.2.2))])) (by kernel_rfl) (by kernel_rfl) (f12_ok base (d - 1) (dpt hd rfl) a1 a3 a4 a5 z18 hz18) (by kernel_rfl) (by kernel_rfl) (by kernel_rfl)) ?_
  refine zlRun (n := 8) (j := 13) rfl (by kernel_rfl) ?_
  refine zlEnd (by kernel_rfl) ?_
  refine zkSeq ?_
  refine zrSeq ?_
  refine zrSeq ?_
  refine zrReg ?_
  refine bindE hS (fun z41 hz41 hS => ?_)
  refine zlOp (d := some 35) (op := (.call 9 [])) (g := none) (v := (.d (.bool z41))) (ups := []) (j := 1) rfl (by kernel_rfl) (by kernel_rfl) (ev_call (args := []) (l := []) (r := (.d (.bool z41))) (by kernel_rfl) (by kernel_rfl) (f9_ok base (d - 1) (dpt hd rfl)  z41 hz41) (by kernel_rfl) (by kernel_rfl) (by kernel_rfl)) ?_
  refine zlRun (n := 2) (j := 3) rfl (by kernel_rfl) ?_
  refine zlSplit 37 (!z41) (by kernel_rfl) (fun hc => ?_) (fun hc => ?_)
  · replace hS := cond_t hc hS
    refine zlRun (n := 25) (j := 28) rfl (by kernel_rfl) ?_
    refine zlEnd (by kernel_rfl) ?_
    refine zkSeq ?_
    refine zrCondT (by kernel_rfl) ?_
    refine zrSeq ?_
    refine zrReg ?_
    refine zlRun (n := 1) (j := 1) rfl (by kernel_rfl) ?_
    refine zlEnd (by kernel_rfl) ?_
    refine zkSeq ?_
    refine zrRet ?_
    refine zkSeqR ?_
    refine zkNil ?_
    exact endQ hS hQ (fRet ((congrArg (fun s => outR s 0 c7.res) (by kernel_rfl : finSt c7.fin _ = f7_fin false)).trans (f7_out false)))
  · replace hS := cond_f hc hS
    refine zlRun (n := 1) (j := 4) rfl (by kernel_rfl) ?_
    refine zlBool (d := 39) (op := (.cmpI .neq (.tmp 38) (.const (.int .i64 0)))) (g := (some (37, false))) (j := 5) (!decide (z17.2.2 = 0)) rfl (by kernel_rfl) (by kernel_rfl) (by kernel_rfl) (fun hc => ?_) (fun hc => ?_)
    · replace hS := cond_t hc hS
      refine zlRun (n := 3) (j := 8) rfl (by kernel_rfl) ?_
      refine zlBool (d := 43) (op := (.eqA .true [(520, .int)] (.tmp 41) (.tmp 42))) (g := (some (40, true))) (j := 9) (!(rowEq 256 z17.1.Us a1.Us && (rowEq 256 z17.1.Him a1.Him && (rowEq 4 z17.1.UsOk a1.UsOk && (rowEq 4 z17.1.HimOk a1.HimOk && true))))) rfl (by kernel_rfl) (by kernel_rfl) (ev_eqA (va := ((eU8.row 256 z17.1.Us) ++ ((eU8.row 256 z17.1.Him) ++ (((eInt .u64).row 4 z17.1.UsOk) ++ (((eInt .u64).row 4 z17.1.HimOk) ++ []))))) (vb := ((eU8.row 256 a1.Us) ++ ((eU8.row 256 a1.Him) ++ (((eInt .u64).row 4 a1.UsOk) ++ (((eInt .u64).row 4 a1.HimOk) ++ []))))) (ks := (List.replicate 256 .int ++ (List.replicate 256 .int ++ (List.replicate 4 .int ++ (List.replicate 4 .int ++ []))))) (by kernel_rfl) (by kernel_rfl) (by kernel_rfl) (eq_row8 (eq_row8 (eq_rowI (eq_rowI eq_nil))))) (fun hc => ?_) (fun hc => ?_)
      · replace hS := cond_t hc hS
        refine zlRun (n := 19) (j := 28) rfl (by kernel_rfl) ?_
        refine zlEnd (by kernel_rfl) ?_
        refine zkSeq ?_
        refine zrCondT (by kernel_rfl) ?_
        refine zrSeq ?_
        refine zrReg ?_
        refine zlRun (n := 1) (j := 1) rfl (by kernel_rfl) ?_
        refine zlEnd (by kernel_rfl) ?_
        refine zkSeq ?_
        refine zrRet ?_
        refine zkSeqR ?_
        refine zkNil ?_
        exact endQ hS hQ (fRet ((congrArg (fun s => outR s 0 c7.res) (by kernel_rfl : finSt c7.fin _ = f7_fin false)).trans (f7_out false)))
      · replace hS := cond_f hc hS
        refine zlRun (n := 2) (j := 11) rfl (by kernel_rfl) ?_
        refine zlBool (d := 46) (op := (.strO .neq (.tmp 45) (.const (.string ⟨#[]⟩)))) (g := (some (44, false))) (j := 12) (!decide (z17.2.1 = ([] : List UInt8))) rfl (by kernel_rfl) (by kernel_rfl) (by kernel_rfl) (fun hc => ?_) (fun hc => ?_)
        · replace hS := cond_t hc hS
          refine zlRun (n := 16) (j := 28) rfl (by kernel_rfl) ?_
          refine zlEnd (by kernel_rfl) ?_
          refine zkSeq ?_
          refine zrCondT (by kernel_rfl) ?_
          refine zrSeq ?_
          refine zrReg ?_
          refine zlRun (n := 1) (j := 1) rfl (by kernel_rfl) ?_
          refine zlEnd (by kernel_rfl) ?_
          refine zkSeq ?_
          refine zrRet ?_
          refine zkSeqR ?_
          refine zkNil ?_
          exact endQ hS hQ (fRet ((congrArg (fun s => outR s 0 c7.res) (by kernel_rfl : finSt c7.fin _ = f7_fin false)).trans (f7_out false)))
        · replace hS := cond_f hc hS
          refine zlRun (n := 5) (j := 17) rfl (by kernel_rfl) ?_
          refine zlBool (d := 52) (op := (.cmpI .neq (.tmp 51) (.const (.int .i64 0)))) (g := (some (50, false))) (j := 18) (!decide (z18.2.2 = 0)) rfl (by kernel_rfl) (by kernel_rfl) (by kernel_rfl) (fun hc => ?_) (fun hc => ?_)
          · replace hS := cond_t hc hS
            refine zlRun (n := 3) (j := 21) rfl (by kernel_rfl) ?_
            refine zlBool (d := 56) (op := (.eqA .true [(520, .int)] (.tmp 54) (.tmp 55))) (g := (some (53, true))) (j := 22) (!(rowEq 256 z18.1.Us a1.Us && (rowEq 256 z18.1.Him a1.Him && (rowEq 4 z18.1.UsOk a1.UsOk && (rowEq 4 z18.1.HimOk a1.HimOk && true))))) rfl (by kernel_rfl) (by kernel_rfl) (ev_eqA (va := ((eU8.row 256 z18.1.Us) ++ ((eU8.row 256 z18.1.Him) ++ (((eInt .u64).row 4 z18.1.UsOk) ++ (((eInt .u64).row 4 z18.1.HimOk) ++ []))))) (vb := ((eU8.row 256 a1.Us) ++ ((eU8.row 256 a1.Him) ++ (((eInt .u64).row 4 a1.UsOk) ++ (((eInt .u64).row 4 a1.HimOk) ++ []))))) (ks := (List.replicate 256 .int ++ (List.replicate 256 .int ++ (List.replicate 4 .int ++ (List.replicate 4 .int ++ []))))) (by kernel_rfl) (by kernel_rfl) (by kernel_rfl) (eq_row8 (eq_row8 (eq_rowI (eq_rowI eq_nil))))) (fun hc => ?_) (fun hc => ?_)
            · replace hS := cond_t hc hS
              refine zlRun (n := 6) (j := 28) rfl (by kernel_rfl) ?_
              refine zlEnd (by kernel_rfl) ?_
              refine zkSeq ?_
              refine zrCondT (by kernel_rfl) ?_
              refine zrSeq ?_
              refine zrReg ?_
              refine zlRun (n := 1) (j := 1) rfl (by kernel_rfl) ?_
              refine zlEnd (by kernel_rfl) ?_
              refine zkSeq ?_
              refine zrRet ?_
              refine zkSeqR ?_
              refine zkNil ?_
              exact endQ hS hQ (fRet ((congrArg (fun s => outR s 0 c7.res) (by kernel_rfl : finSt c7.fin _ = f7_fin false)).trans (f7_out false)))
            · replace hS := cond_f hc hS
              refine zlRun (n := 2) (j := 24) rfl (by kernel_rfl) ?_
              refine zlBool (d := 59) (op := (.strO .neq (.tmp 58) (.const (.string ⟨#[]⟩)))) (g := (some (57, false))) (j := 25) (!decide (z18.2.1 = ([] : List UInt8))) rfl (by kernel_rfl) (by kernel_rfl) (by kernel_rfl) (fun hc => ?_) (fun hc => ?_)
              · replace hS := cond_t hc hS
                refine zlRun (n := 3) (j := 28) rfl (by kernel_rfl) ?_
                refine zlEnd (by kernel_rfl) ?_
                refine zkSeq ?_
                refine zrCondT (by kernel_rfl) ?_
                refine zrSeq ?_
                refine zrReg ?_
                refine zlRun (n := 1) (j := 1) rfl (by kernel_rfl) ?_
                refine zlEnd (by kernel_rfl) ?_
                refine zkSeq ?_
                refine zrRet ?_
                refine zkSeqR ?_
                refine zkNil ?_
                exact endQ hS hQ (fRet ((congrArg (fun s => outR s 0 c7.res) (by kernel_rfl : finSt c7.fin _ = f7_fin false)).trans (f7_out false)))
              · replace hS := cond_f hc hS
                refine zlRun (n := 3) (j := 28) rfl (by kernel_rfl) ?_
                refine zlEnd (by kernel_rfl) ?_
                refine zkSeq ?_
                refine zrCondF (by kernel_rfl) ?_
                refine zrSkip ?_
                refine zkSeq ?_
                exact f7_j0_ok hd a1 a2 a3 a4 a5 hQ z17.1 z17.2.2 z18.1 z18.2.2 hS (by kernel_rfl)
          · replace hS := cond_f hc hS
            refine zlRun (n := 10) (j := 28) rfl (by kernel_rfl) ?_
            refine zlEnd (by kernel_rfl) ?_
            refine zkSeq ?_
            refine zrCondF (by kernel_rfl) ?_
            refine zrSkip ?_
            refine zkSeq ?_
            exact f7_j0_ok hd a1 a2 a3 a4 a5 hQ z17.1 z17.2.2 z18.1 z18.2.2 hS (by kernel_rfl)
    · replace hS := cond_f hc hS
      refine zlRun (n := 12) (j := 17) rfl (by kernel_rfl) ?_
      refine zlBool (d := 52) (op := (.cmpI .neq (.tmp 51) (.const (.int .i64 0)))) (g := (some (50, false))) (j := 18) (!decide (z18.2.2 = 0)) rfl (by kernel_rfl) (by kernel_rfl) (by kernel_rfl) (fun hc => ?_) (fun hc => ?_)
      · replace hS := cond_t hc hS
        refine zlRun (n := 3) (j := 21) rfl (by kernel_rfl) ?_
        refine zlBool (d := 56) (op := (.eqA .true [(520, .int)] (.tmp 54) (.tmp 55))) (g := (some (53, true))) (j := 22) (!(rowEq 256 z18.1.Us a1.Us && (rowEq 256 z18.1.Him a1.Him && (rowEq 4 z18.1.UsOk a1.UsOk && (rowEq 4 z18.1.HimOk a1.HimOk && true))))) rfl (by kernel_rfl) (by kernel_rfl) (ev_eqA (va := ((eU8.row 256 z18.1.Us) ++ ((eU8.row 256 z18.1.Him) ++ (((eInt .u64).row 4 z18.1.UsOk) ++ (((eInt .u64).row 4 z18.1.HimOk) ++ []))))) (vb := ((eU8.row 256 a1.Us) ++ ((eU8.row 256 a1.Him) ++ (((eInt .u64).row 4 a1.UsOk) ++ (((eInt .u64).row 4 a1.HimOk) ++ []))))) (ks := (List.replicate 256 .int ++ (List.replicate 256 .int ++ (List.replicate 4 .int ++ (List.replicate 4 .int ++ []))))) (by kernel_rfl) (by kernel_rfl) (by kernel_rfl) (eq_row8 (eq_row8 (eq_rowI (eq_rowI eq_nil))))) (fun hc => ?_) (fun hc => ?_)
        · replace hS := cond_t hc hS
          refine zlRun (n := 6) (j := 28) rfl (by kernel_rfl) ?_
          refine zlEnd (by kernel_rfl) ?_
          refine zkSeq ?_
          refine zrCondT (by kernel_rfl) ?_
          refine zrSeq ?_
          refine zrReg ?_
          refine zlRun (n := 1) (j := 1) rfl (by kernel_rfl) ?_
          refine zlEnd (by kernel_rfl) ?_
          refine zkSeq ?_
          refine zrRet ?_
          refine zkSeqR ?_
          refine zkNil ?_
          exact endQ hS hQ (fRet ((congrArg (fun s => outR s 0 c7.res) (by kernel_rfl : finSt c7.fin _ = f7_fin false)).trans (f7_out false)))
        · replace hS := cond_f hc hS
          refine zlRun (n := 2) (j := 24) rfl (by kernel_rfl) ?_
          refine zlBool (d := 59) (op := (.strO .neq (.tmp 58) (.const (.string ⟨#[]⟩)))) (g := (some (57, false))) (j := 25) (!decide (z18.2.1 = ([] : List UInt8))) rfl (by kernel_rfl) (by kernel_rfl) (by kernel_rfl) (fun hc => ?_) (fun hc => ?_)
          · replace hS := cond_t hc hS
            refine zlRun (n := 3) (j := 28) rfl (by kernel_rfl) ?_
            refine zlEnd (by kernel_rfl) ?_
            refine zkSeq ?_
            refine zrCondT (by kernel_rfl) ?_
            refine zrSeq ?_
            refine zrReg ?_
            refine zlRun (n := 1) (j := 1) rfl (by kernel_rfl) ?_
            refine zlEnd (by kernel_rfl) ?_
            refine zkSeq ?_
            refine zrRet ?_
            refine zkSeqR ?_
            refine zkNil ?_
            exact endQ hS hQ (fRet ((congrArg (fun s => outR s 0 c7.res) (by kernel_rfl : finSt c7.fin _ = f7_fin false)).trans (f7_out false)))
          · replace hS := cond_f hc hS
            refine zlRun (n := 3) (j := 28) rfl (by kernel_rfl) ?_
            refine zlEnd (by kernel_rfl) ?_
            refine zkSeq ?_
            refine zrCondF (by kernel_rfl) ?_
            refine zrSkip ?_
            refine zkSeq ?_
            exact f7_j0_ok hd a1 a2 a3 a4 a5 hQ z17.1 z17.2.2 z18.1 z18.2.2 hS (by kernel_rfl)
      · replace hS := cond_f hc hS
        refine zlRun (n := 10) (j := 28) rfl (by kernel_rfl) ?_
        refine zlEnd (by kernel_rfl) ?_
        refine zkSeq ?_
        refine zrCondF (by kernel_rfl) ?_
        refine zrSkip ?_
        refine zkSeq ?_
        exact f7_j0_ok hd a1 a2 a3 a4 a5 hQ z17.1 z17.2.2 z18.1 z18.2.2 hS (by kernel_rfl)
end Go.Proofs.Ytddnpgmmlfbhfaa.Pm
