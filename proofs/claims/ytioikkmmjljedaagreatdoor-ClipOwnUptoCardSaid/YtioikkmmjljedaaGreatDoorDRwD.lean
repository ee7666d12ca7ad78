/- Typed functions, and that the codes are these. Printed by dec.py. -/
import Derived.Test.YtioikkmmjljedaaGreatDoorDRwC
namespace Go.Proofs.YtioikkmmjljedaaGreatDoor.Rw
open Go.Proofs.YtioikkmmjljedaaGreatDoor.Pm
set_option maxRecDepth 1000000
set_option maxHeartbeats 20000000
set_option linter.unusedVariables false
/- farwriter/grid.row -/
def f44_fin (p1 : List GCell) : St := ⟨(up (up (fun _ => .un) 2000000 .un) 4 (.d (.sl p1.length (e_GCell.cells p1)))), (hB fun _ => 0)⟩
theorem f44_out (p1 : List GCell) : outR (f44_fin p1) 0 c44.res = some ((.d (.sl p1.length (e_GCell.cells p1))), []) := by
  kernel_rfl
def f44_Q (r : (List GCell)) (e : PX) (st : St) : Prop := DoneF c44 0 ((.d (.sl r.length (e_GCell.cells r))), [.box []]) e st
noncomputable def f44 (a1 : GGrid) (a2 : Int) : Option ((List GCell)) := ((sub? a1.Cells (IntKind.i64.wrap (a2 * a1.Wide)) (IntKind.i64.wrap ((IntKind.i64.wrap (a2 + 1)) * a1.Wide))).bind fun z2 => (some z2))
theorem f44_ok (base : Orc) (d : Nat) (hd : 1 ≤ d) (a1 : GGrid) (a2 : Int) (r : (List GCell)) (hS : f44 a1 a2 = some r) : lev codes base d 44 [(.agg ((.d (.int .i64 a1.Wide)) :: ((.d (.int .i64 a1.High)) :: ((.d (.sl a1.Cells.length (e_GCell.cells a1.Cells))) :: [])))), (.d (.int .i64 a2))] [] = some ((.d (.sl r.length (e_GCell.cells r))), [.box []]) := by
  refine lev_go codes44 rfl rfl (Nat.le_trans (Nat.le_of_ble_eq_true rfl) hd) fun Q hQ => ?_
  unfold f44 at hS
  show ZR _ Q c44_b [] _
  replace hQ : ∀ e st', f44_Q r e st' → Q e st' := hQ
  refine zrSeq ?_
  refine zrReg ?_
  refine zlRun (n := 2) (j := 2) rfl (by kernel_rfl) ?_
  refine zlEnd (by kernel_rfl) ?_
  refine zkSeq ?_
  refine zrSeq ?_
  refine zrReg ?_
  refine zlRun (n := 11) (j := 11) rfl (by kernel_rfl) ?_
  refine bindE hS (fun z2 hz2 hS => ?_)
  refine zlOp (d := some 16) (op := (.slS 51 4 (.tmp 6) (.some (.tmp 10)) (.some (.tmp 15)))) (g := none) (v := (.d (.sl z2.length (e_GCell.cells z2)))) (ups := []) (j := 12) rfl (by kernel_rfl) (by kernel_rfl) (ev_slS e_GCell (xs := a1.Cells) (a := (IntKind.i64.wrap (a2 * a1.Wide))) (c := (IntKind.i64.wrap ((IntKind.i64.wrap (a2 + 1)) * a1.Wide))) (by kernel_rfl) rfl (bnd_s _ (kk := .i64) (j := (IntKind.i64.wrap (a2 * a1.Wide))) (by kernel_rfl)) (bnd_s _ (kk := .i64) (j := (IntKind.i64.wrap ((IntKind.i64.wrap (a2 + 1)) * a1.Wide))) (by kernel_rfl)) hz2) ?_
  refine zlRun (n := 1) (j := 13) rfl (by kernel_rfl) ?_
  refine zlEnd (by kernel_rfl) ?_
  refine zkSeq ?_
  refine zrRet ?_
  refine zkNil ?_
  exact endQ hS hQ (fRetX (by kernel_rfl) (by kernel_rfl : finSt c44.fin _ = f44_fin z2) (by kernel_rfl) (f44_out z2))
/- slices.Clone[[]farwriter/api.Cell,farwriter/api.Cell] -/
def f11_fin (p1 : List GCell) : St := ⟨(up (fun _ => .un) 2 (.r (.msl 97 0 0 p1.length))), (up (hB fun _ => 0) 97 ⟨0, some (.own 51 4 (e_GCell.cells p1))⟩)⟩
theorem f11_out (p1 : List GCell) : outR (f11_fin p1) 0 c11.res = some ((.r (.own 0 51 4 p1.length (e_GCell.cells p1))), []) := by
  exact out_of (ids := []) (ids' := [97]) (l := [(.r (.msl 97 0 0 p1.length))]) (by kernel_rfl) (by kernel_rfl) (o_own e_GCell (e := 51) (k := 4) (xs := p1) (by kernel_rfl) rfl rfl rfl rfl)
def f11_Q (r : List GCell) (e : PX) (st : St) : Prop := DoneF c11 0 ((.r (.own 0 51 4 r.length (e_GCell.cells r))), []) e st
noncomputable def f11 (a1 : List GCell) : Option (List GCell) := ((app? 32 ([] : List GCell) a1).bind fun z2 => (some z2))
theorem f11_ok (base : Orc) (d : Nat) (hd : 1 ≤ d) (a1 : List GCell) (r : List GCell) (hS : f11 a1 = some r) : lev codes base d 11 [(.d (.sl a1.length (e_GCell.cells a1)))] [] = some ((.r (.own 0 51 4 r.length (e_GCell.cells r))), []) := by
  refine lev_goZ codes11 rfl rfl (Nat.le_trans (Nat.le_of_ble_eq_true rfl) hd) (fun Q hQ => ?_) (fun h0 Q hQ => ?_)
  · unfold f11 at hS
    show ZR _ Q c11_b [] _
    refine zrSeq ?_
    refine zrReg ?_
    refine zlRun (n := 1) (j := 1) rfl (by kernel_rfl) ?_
    refine zlEnd (by kernel_rfl) ?_
    refine zkSeq ?_
    refine zrSeq ?_
    refine zrSeq ?_
    refine zrReg ?_
    refine zlRun (n := 2) (j := 2) rfl (by kernel_rfl) ?_
    refine zlEnd (by kernel_rfl) ?_
    refine zkSeq ?_
    refine zrCondF (by kernel_rfl) ?_
    refine zrSkip ?_
    refine zkSeq ?_
    refine zrSeq ?_
    refine zrReg ?_
    refine zlRun (n := 2) (j := 2) rfl (by kernel_rfl) ?_
    refine bindE hS (fun z2 hz2 hS => ?_)
    refine zlOp (d := some 7) (op := (.app 51 4 32 (.tmp 5) (.tmp 6))) (g := none) (v := (.r (.msl 48 2 0 z2.length))) (ups := [(48, ⟨2, some (.own 51 4 (e_GCell.cells z2))⟩)]) (j := 3) rfl (by kernel_rfl) (by kernel_rfl) (ev_app e_GCell (b := 48) (g := 1) (n := ([] : List GCell).length) (xs := []) (ys := a1) ((congrArg (asL _) (by kernel_rfl : ρof _ (.tmp 6) = (.slz false a1.length (e_GCell.cells a1)))).trans rfl) rfl (by kernel_rfl) rfl (by kernel_rfl) rfl hz2) ?_
    refine zlRun (n := 1) (j := 4) rfl (by kernel_rfl) ?_
    refine zlEnd (by kernel_rfl) ?_
    refine zkSeq ?_
    refine zrRet ?_
    refine zkNil ?_
    exact endQ (F := f11_Q) hS hQ (fRet (by kernel_rfl) ((congrArg (fun s => outR s 0 c11.res) (by kernel_rfl : finSt c11.fin _ = f11_fin z2)).trans (f11_out z2)))
  · have hS : (some []) = some r := by
      have hl := List.eq_nil_of_length_eq_zero h0
      subst hl
      simpa [f11, app?] using hS
    show ZR _ Q c11_b [] _
    refine zrSeq ?_
    refine zrReg ?_
    refine zlRun (n := 1) (j := 1) rfl (by kernel_rfl) ?_
    refine zlEnd (by kernel_rfl) ?_
    refine zkSeq ?_
    refine zrSeq ?_
    refine zrSeq ?_
    refine zrReg ?_
    refine zlRun (n := 2) (j := 2) rfl (by kernel_rfl) ?_
    refine zlEnd (by kernel_rfl) ?_
    refine zkSeq ?_
    refine zrCondT (by kernel_rfl) ?_
    refine zrSeq ?_
    refine zrReg ?_
    refine zlRun (n := 1) (j := 1) rfl (by kernel_rfl) ?_
    refine zlEnd (by kernel_rfl) ?_
    refine zkSeq ?_
    refine zrRet ?_
    refine zkSeqR ?_
    refine zkNil ?_
    exact endQ (F := f11_Q) hS hQ (fRet (by kernel_rfl) ((congrArg (fun s => outR s 0 c11.res) (by kernel_rfl : finSt c11.fin _ = f11_fin [])).trans (f11_out [])))
/- farwriter/grid.Row -/
def f33_fin (p1 : List GCell) : St := ⟨(up (fun _ => .un) 4 (.r (.msl 72 0 0 p1.length))), (up (hB fun _ => 0) 72 ⟨0, some (.own 51 4 (e_GCell.cells p1))⟩)⟩
theorem f33_out (p1 : List GCell) : outR (f33_fin p1) 0 c33.res = some ((.r (.own 0 51 4 p1.length (e_GCell.cells p1))), []) := by
  exact out_of (ids := []) (ids' := [72]) (l := [(.r (.msl 72 0 0 p1.length))]) (by kernel_rfl) (by kernel_rfl) (o_own e_GCell (e := 51) (k := 4) (xs := p1) (by kernel_rfl) rfl rfl rfl rfl)
def f33_Q (r : (List GCell)) (e : PX) (st : St) : Prop := DoneF c33 0 ((.r (.own 0 51 4 r.length (e_GCell.cells r))), []) e st
noncomputable def f33 (a1 : GGrid) (a2 : Int) : Option ((List GCell)) := ((f44 a1 a2).bind fun z3 => ((f11 z3).bind fun z4 => (some z4)))
theorem f33_ok (base : Orc) (d : Nat) (hd : 2 ≤ d) (a1 : GGrid) (a2 : Int) (r : (List GCell)) (hS : f33 a1 a2 = some r) : lev codes base d 33 [(.agg ((.d (.int .i64 a1.Wide)) :: ((.d (.int .i64 a1.High)) :: ((.d (.sl a1.Cells.length (e_GCell.cells a1.Cells))) :: [])))), (.d (.int .i64 a2))] [] = some ((.r (.own 0 51 4 r.length (e_GCell.cells r))), []) := by
  refine lev_go codes33 rfl rfl (Nat.le_trans (Nat.le_of_ble_eq_true rfl) hd) fun Q hQ => ?_
  unfold f33 at hS
  show ZR _ Q c33_b [] _
  replace hQ : ∀ e st', f33_Q r e st' → Q e st' := hQ
  refine zrSeq ?_
  refine zrReg ?_
  refine zlRun (n := 2) (j := 2) rfl (by kernel_rfl) ?_
  refine zlEnd (by kernel_rfl) ?_
  refine zkSeq ?_
  refine zrSeq ?_
  refine zrReg ?_
  refine zlRun (n := 2) (j := 2) rfl (by kernel_rfl) ?_
  refine bindE hS (fun z3 hz3 hS => ?_)
  refine zlOp (d := some 7) (op := (.callr 44 [(.tmp 5), (.tmp 6)])) (g := none) (j := 3) rfl (by kernel_rfl) (by kernel_rfl) (ev_callrXA (ids := []) (bs := []) (by kernel_rfl) (by kernel_rfl) (by kernel_rfl) (by kernel_rfl) (f44_ok base (d - 1) (dpt hd rfl) a1 a2 z3 hz3) (by kernel_rfl) sm_nil (by kernel_rfl)) ?_
  refine bindE hS (fun z4 hz4 hS => ?_)
  refine zlOp (d := some 8) (op := (.call 11 [(.tmp 7)])) (g := none) (j := 4) rfl (by kernel_rfl) (by kernel_rfl) (ev_callA (by kernel_rfl) (f11_ok base (d - 1) (dpt hd rfl) z3 z4 hz4) (by kernel_rfl) (by kernel_rfl)) ?_
  refine zlRun (n := 1) (j := 5) rfl (by kernel_rfl) ?_
  refine zlEnd (by kernel_rfl) ?_
  refine zkSeq ?_
  refine zrRet ?_
  refine zkNil ?_
  exact endQ hS hQ (fRet (by kernel_rfl) ((congrArg (fun s => outR s 0 c33.res) (by kernel_rfl : finSt c33.fin _ = f33_fin z4)).trans (f33_out z4)))
end Go.Proofs.YtioikkmmjljedaaGreatDoor.Rw
