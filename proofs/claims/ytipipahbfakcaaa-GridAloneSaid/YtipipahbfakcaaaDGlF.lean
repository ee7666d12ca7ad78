/- Typed functions, and that the codes are these. Printed by dec.py. -/
import Derived.Test.YtipipahbfakcaaaDGlE
namespace Go.Proofs.Ytipipahbfakcaaa.Pm
set_option maxRecDepth 1000000
set_option maxHeartbeats 20000000
set_option linter.unusedVariables false
/- farwriter/farkeep.GridAlone -/
def f5_fin (p494 : Bool) : St := ⟨(up (fun _ => .un) 14 (.d (.bool p494))), (hB fun _ => 0)⟩
theorem f5_out (p494 : Bool) : outR (f5_fin p494) 0 c5.res = some ((.d (.bool p494)), []) := by
  kernel_rfl
def f5_Q (r : Bool) (e : PX) (st : St) : Prop := DoneF c5 0 ((.d (.bool r)), []) e st
def f5_l1_J (a1 : GGrid) (a2 : Int) (a3 : Int) (a4 : Int) (a5 : Int) (a6 : Int) (a7 : GPen) (x : Int × Int × Int × (List GGrid) × Int × Int) : St := ⟨(up (up (up (up (up (up (up (up (fun _ => .un) 65 (.d (.int .i64 x.2.2.2.2.2))) 64 (.d (.int .i64 x.2.2.2.2.1))) 63 (.r (.msl 512 0 0 x.2.2.2.1.length))) 20 (.d (.int .i64 x.2.2.1))) 18 (.d (.int .i64 x.2.1))) 16 (.d (.int .i64 x.1))) 7 (.r (.ptr 64 0 0))) 1 (.d (.int .i64 a2))), (up (up (hB fun _ => 0) 512 ⟨0, some (.own 24 3 (e_GGrid.cells x.2.2.2.1))⟩) 64 ⟨0, some (.box ((.d (.int .i64 a1.Wide)) :: ((.d (.int .i64 a1.High)) :: ((.d (.sl a1.Cells.length (e_GCell.cells a1.Cells))) :: []))))⟩)⟩
def f5_l1_H (a1 : GGrid) (a2 : Int) (a3 : Int) (a4 : Int) (a5 : Int) (a6 : Int) (a7 : GPen) (x : Int × Int × Int × (List GGrid) × Int × Int) (st : St) : Prop := keepSt [1, 7, 16, 18, 20, 63, 64, 65] [(64, .id 64), (512, .id 512)] [] st = f5_l1_J a1 a2 a3 a4 a5 a6 a7 x
def f5_l1_e0_J (a1 : GGrid) (a2 : Int) (a3 : Int) (a4 : Int) (a5 : Int) (a6 : Int) (a7 : GPen) : St := ⟨(fun _ => .un), (hB fun _ => 0)⟩
def f5_l1_X (a1 : GGrid) (a2 : Int) (a3 : Int) (a4 : Int) (a5 : Int) (a6 : Int) (a7 : GPen) (z : Unit ⊕ Bool) (e : PX) (st : St) : Prop := (match z with | .inl z => e = .exit 0 ∧ st = f5_l1_e0_J a1 a2 a3 a4 a5 a6 a7 | .inr z => e = .ret ∧ finSt c5.fin st = f5_fin z)
def f5_l1_l6_J (a1 : GGrid) (a2 : Int) (a3 : Int) (a4 : Int) (a5 : Int) (a6 : Int) (a7 : GPen) (x : Int × Int × Int × GGrid × (List GGrid) × Int × Int × Int) : St := ⟨(up (up (up (up (up (up (up (up (up (up (up (fun _ => .un) 87 (.d (.int .i64 x.2.2.2.2.2.2.2))) 86 (.d (.int .i64 (a1.Cells.length : Int)))) 65 (.d (.int .i64 x.2.2.2.2.2.2.1))) 64 (.d (.int .i64 x.2.2.2.2.2.1))) 63 (.r (.msl 512 0 0 x.2.2.2.2.1.length))) 22 (.r (.ptr 184 0 0))) 20 (.d (.int .i64 x.2.2.1))) 18 (.d (.int .i64 x.2.1))) 16 (.d (.int .i64 x.1))) 7 (.r (.ptr 64 0 0))) 1 (.d (.int .i64 a2))), (up (up (up (hB fun _ => 0) 512 ⟨0, some (.own 24 3 (e_GGrid.cells x.2.2.2.2.1))⟩) 184 ⟨0, some (.box ((.d (.int .i64 x.2.2.2.1.Wide)) :: ((.d (.int .i64 x.2.2.2.1.High)) :: ((.d (.sl x.2.2.2.1.Cells.length (e_GCell.cells x.2.2.2.1.Cells))) :: []))))⟩) 64 ⟨0, some (.box ((.d (.int .i64 a1.Wide)) :: ((.d (.int .i64 a1.High)) :: ((.d (.sl a1.Cells.length (e_GCell.cells a1.Cells))) :: []))))⟩)⟩
def f5_l1_l6_H (a1 : GGrid) (a2 : Int) (a3 : Int) (a4 : Int) (a5 : Int) (a6 : Int) (a7 : GPen) (x : Int × Int × Int × GGrid × (List GGrid) × Int × Int × Int) (st : St) : Prop := keepSt [1, 7, 16, 18, 20, 22, 63, 64, 65, 86, 87] [(64, .id 64), (184, .id 184), (512, .id 512)] [] st = f5_l1_l6_J a1 a2 a3 a4 a5 a6 a7 x
def f5_l1_l6_e2_J (a1 : GGrid) (a2 : Int) (a3 : Int) (a4 : Int) (a5 : Int) (a6 : Int) (a7 : GPen) (p1167 : Int) (p1168 : Int) (p1169 : Int) (p1170 : List GGrid) (p1171 : Int) (p1172 : Int) : St := ⟨(up (up (up (up (up (up (up (up (fun _ => .un) 65 (.d (.int .i64 p1172))) 64 (.d (.int .i64 p1171))) 63 (.r (.msl 512 0 0 p1170.length))) 20 (.d (.int .i64 p1169))) 18 (.d (.int .i64 p1168))) 16 (.d (.int .i64 p1167))) 7 (.r (.ptr 64 0 0))) 1 (.d (.int .i64 a2))), (up (up (hB fun _ => 0) 512 ⟨0, some (.own 24 3 (e_GGrid.cells p1170))⟩) 64 ⟨0, some (.box ((.d (.int .i64 a1.Wide)) :: ((.d (.int .i64 a1.High)) :: ((.d (.sl a1.Cells.length (e_GCell.cells a1.Cells))) :: []))))⟩)⟩
def f5_l1_l6_X (a1 : GGrid) (a2 : Int) (a3 : Int) (a4 : Int) (a5 : Int) (a6 : Int) (a7 : GPen) (z : (Int × Int × Int × (List GGrid) × Int × Int) ⊕ Bool) (e : PX) (st : St) : Prop := (match z with | .inl z => e = .exit 2 ∧ st = f5_l1_l6_e2_J a1 a2 a3 a4 a5 a6 a7 z.1 z.2.1 z.2.2.1 z.2.2.2.1 z.2.2.2.2.1 z.2.2.2.2.2 | .inr z => e = .ret ∧ finSt c5.fin st = f5_fin z)
def f5_l1_l6_j8_J (a1 : GGrid) (a2 : Int) (a3 : Int) (a4 : Int) (a5 : Int) (a6 : Int) (a7 : GPen) (p1191 : Int) (p1192 : Int) (p1193 : Int) (p1194 : GGrid) (p1195 : List GGrid) (p1196 : Int) (p1197 : Int) (p1198 : Int) : St := ⟨(up (up (up (up (up (up (up (up (up (up (up (fun _ => .un) 87 (.d (.int .i64 p1198))) 86 (.d (.int .i64 (a1.Cells.length : Int)))) 65 (.d (.int .i64 p1197))) 64 (.d (.int .i64 p1196))) 63 (.r (.msl 512 0 0 p1195.length))) 22 (.r (.ptr 184 0 0))) 20 (.d (.int .i64 p1193))) 18 (.d (.int .i64 p1192))) 16 (.d (.int .i64 p1191))) 7 (.r (.ptr 64 0 0))) 1 (.d (.int .i64 a2))), (up (up (up (hB fun _ => 0) 512 ⟨0, some (.own 24 3 (e_GGrid.cells p1195))⟩) 184 ⟨0, some (.box ((.d (.int .i64 p1194.Wide)) :: ((.d (.int .i64 p1194.High)) :: ((.d (.sl p1194.Cells.length (e_GCell.cells p1194.Cells))) :: []))))⟩) 64 ⟨0, some (.box ((.d (.int .i64 a1.Wide)) :: ((.d (.int .i64 a1.High)) :: ((.d (.sl a1.Cells.length (e_GCell.cells a1.Cells))) :: []))))⟩)⟩
noncomputable def f5_l1_l6_j8 (a1 : GGrid) (a2 : Int) (a3 : Int) (a4 : Int) (a5 : Int) (a6 : Int) (a7 : GPen) (p1191 : Int) (p1192 : Int) (p1193 : Int) (p1194 : GGrid) (p1195 : List GGrid) (p1196 : Int) (p1197 : Int) (p1198 : Int) : Option ((Int × Int × Int × GGrid × (List GGrid) × Int × Int × Int) ⊕ ((Int × Int × Int × (List GGrid) × Int × Int) ⊕ Bool)) := ((chk (!decide (a1.Wide = 0))).bind fun z95 => (bif (!decide ((IntKind.i64.wrap (Int.tdiv p1198 a1.Wide)) = a2)) then ((idx p1194.Cells p1198).bind fun z96 => ((idx a1.Cells p1198).bind fun z97 => (bif (!(decide (z96.Rune = z97.Rune) && (decide (z96.Pen.Flags = z97.Pen.Flags) && (decide (z96.Pen.Fore = z97.Pen.Fore) && (decide (z96.Pen.Back = z97.Pen.Back) && true))))) then (some (.inr (.inr false))) else (some (.inl (p1191, p1192, p1193, p1194, p1195, p1196, p1197, (IntKind.i64.wrap (p1198 + 1)))))))) else (some (.inl (p1191, p1192, p1193, p1194, p1195, p1196, p1197, (IntKind.i64.wrap (p1198 + 1)))))))
theorem f5_l1_l6_j8_ok {base : Orc} {d : Nat} (hd : 8 ≤ d) (a1 : GGrid) (a2 : Int) (a3 : Int) (a4 : Int) (a5 : Int) (a6 : Int) (a7 : GPen) {r : (Int × Int × Int × GGrid × (List GGrid) × Int × Int × Int) ⊕ ((Int × Int × Int × (List GGrid) × Int × Int) ⊕ Bool)} {Q : PX → St → Prop} (hQ : ∀ e st', finL (f5_l1_l6_H a1 a2 a3 a4 a5 a6 a7) (f5_l1_l6_X a1 a2 a3 a4 a5 a6 a7) r e st' → Q e st') (p1191 : Int) (p1192 : Int) (p1193 : Int) (p1194 : GGrid) (p1195 : List GGrid) (p1196 : Int) (p1197 : Int) (p1198 : Int) (hS : f5_l1_l6_j8 a1 a2 a3 a4 a5 a6 a7 p1191 p1192 p1193 p1194 p1195 p1196 p1197 p1198 = some r) {st : St} (he : keepSt [1, 7, 16, 18, 20, 22, 63, 64, 65, 86, 87] [(64, .id 64), (184, .id 184), (512, .id 512)] [] st = f5_l1_l6_j8_J a1 a2 a3 a4 a5 a6 a7 p1191 p1192 p1193 p1194 p1195 p1196 p1197 p1198) : ZR (lev codes base (d - 1)) Q c5_1 [] st := by
  refine zrKeep he ?_
  unfold f5_l1_l6_j8 at hS
  refine zrSeq ?_
  refine zrBlk ?_
  refine zrSeq ?_
  refine zrReg ?_
  refine zlRun (n := 2) (j := 2) rfl (by kernel_rfl) ?_
  refine zlEnd (by kernel_rfl) ?_
  refine zkSeq ?_
  refine zrSeq ?_
  refine zrRegD ?_
  refine zdRun (n := 3) (j := 3) (ts := [[], [], [(64, false)]]) (acc' := [[], [], [(64, false)]]) rfl (by kernel_rfl) (by kernel_rfl) (by kernel_rfl) ?_
  refine bindE hS (fun z95 hz95 hS => ?_)
  refine zdOp (d := some 93) (op := (.arI .quo (.tmp 90) (.tmp 92))) (g := none) (v := (.d (.int .i64 (IntKind.i64.wrap (Int.tdiv p1198 a1.Wide))))) (ups := []) (j := 4) (t1 := []) (acc' := [[], [], [(64, false)], []]) (by kernel_rfl) (by kernel_rfl) rfl (by kernel_rfl) (by kernel_rfl) (ev_arI (kk := .i64) (a := p1198) (c := a1.Wide) (by kernel_rfl) (by kernel_rfl) (div_ok hz95)) ?_
  refine zdRun (n := 1) (j := 5) (ts := [[]]) (acc' := [[], [], [(64, false)], [], []]) rfl (by kernel_rfl) (by kernel_rfl) (by kernel_rfl) ?_
  refine zdBool (d := 95) (op := (.cmpI .neq (.tmp 93) (.tmp 94))) (g := none) (j := 6) (t1 := []) (acc' := [[], [], [(64, false)], [], [], []]) (!decide ((IntKind.i64.wrap (Int.tdiv p1198 a1.Wide)) = a2)) (by kernel_rfl) (by kernel_rfl) rfl (by kernel_rfl) (by kernel_rfl) (by kernel_rfl) (fun hc => ?_) (fun hc => ?_)
  · replace hS := cond_t hc hS
    refine zdRun (n := 4) (j := 10) (ts := [[], [], [(184, false)], []]) (acc' := [[], [], [(64, false)], [], [], [], [], [], [(184, false)], []]) rfl (by kernel_rfl) (by kernel_rfl) (by kernel_rfl) ?_
    refine bindE hS (fun z96 hz96 hS => ?_)
    refine zdOp (d := some 100) (op := (.ixS 33 4 (.tmp 98) (.tmp 99))) (g := (some (96, true))) (v := (.rptr (e_GCell.enc z96 ++ (e_GCell.cells (p1194.Cells.drop ((p1198 : Int).toNat + 1)))))) (ups := []) (j := 11) (t1 := []) (acc' := [[], [], [(64, false)], [], [], [], [], [], [(184, false)], [], []]) (by kernel_rfl) (by kernel_rfl) rfl (by kernel_rfl) (by kernel_rfl) (ev_ixS e_GCell (kk := .i64) (xs := p1194.Cells) (j := p1198) (by kernel_rfl) (by kernel_rfl) hz96 rfl (by intro h; cases h)) ?_
    refine zdRun (n := 4) (j := 15) (ts := [[], [], [(64, false)], []]) (acc' := [[], [], [(64, false)], [], [], [], [], [], [(184, false)], [], [], [], [], [(64, false)], []]) rfl (by kernel_rfl) (by kernel_rfl) (by kernel_rfl) ?_
    refine bindE hS (fun z97 hz97 hS => ?_)
    refine zdOp (d := some 105) (op := (.ixS 33 4 (.tmp 103) (.tmp 104))) (g := (some (96, true))) (v := (.rptr (e_GCell.enc z97 ++ (e_GCell.cells (a1.Cells.drop ((p1198 : Int).toNat + 1)))))) (ups := []) (j := 16) (t1 := []) (acc' := [[], [], [(64, false)], [], [], [], [], [], [(184, false)], [], [], [], [], [(64, false)], [], []]) (by kernel_rfl) (by kernel_rfl) rfl (by kernel_rfl) (by kernel_rfl) (ev_ixS e_GCell (kk := .i64) (xs := a1.Cells) (j := p1198) (by kernel_rfl) (by kernel_rfl) hz97 rfl (by intro h; cases h)) ?_
    refine zdRun (n := 1) (j := 17) (ts := [[]]) (acc' := [[], [], [(64, false)], [], [], [], [], [], [(184, false)], [], [], [], [], [(64, false)], [], [], []]) rfl (by kernel_rfl) (by kernel_rfl) (by kernel_rfl) ?_
    refine zdBool (d := 107) (op := (.eqA .true [(4, .int)] (.tmp 101) (.tmp 106))) (g := (some (96, true))) (j := 18) (t1 := []) (acc' := [[], [], [(64, false)], [], [], [], [], [], [(184, false)], [], [], [], [], [(64, false)], [], [], [], []]) (!(decide (z96.Rune = z97.Rune) && (decide (z96.Pen.Flags = z97.Pen.Flags) && (decide (z96.Pen.Fore = z97.Pen.Fore) && (decide (z96.Pen.Back = z97.Pen.Back) && true))))) (by kernel_rfl) (by kernel_rfl) rfl (by kernel_rfl) (by kernel_rfl) (by kernel_rfl) (fun hc => ?_) (fun hc => ?_)
    · replace hS := cond_t hc hS
      refine zdRun (n := 1) (j := 19) (ts := [[]]) (acc' := [[], [], [(64, false)], [], [], [], [], [], [(184, false)], [], [], [], [], [(64, false)], [], [], [], [], []]) rfl (by kernel_rfl) (by kernel_rfl) (by kernel_rfl) ?_
      refine zdEnd (by kernel_rfl) (by kernel_rfl) ?_
      refine zkSeq ?_
      refine zrCondT (by kernel_rfl) ?_
      refine zrSeq ?_
      refine zrReg ?_
      refine zlRun (n := 1) (j := 1) rfl (by kernel_rfl) ?_
      refine zlEnd (by kernel_rfl) ?_
      refine zkSeq ?_
      refine zrRet ?_
      refine zkBlkR ?_
      refine zkSeqR ?_
      refine zkNil ?_
      exact endQ hS hQ (finL_x (by intro h; cases h) (by show _ = _ ∧ _ = _; exact ⟨rfl, by kernel_rfl⟩))
    · replace hS := cond_f hc hS
      refine zdRun (n := 1) (j := 19) (ts := [[]]) (acc' := [[], [], [(64, false)], [], [], [], [], [], [(184, false)], [], [], [], [], [(64, false)], [], [], [], [], []]) rfl (by kernel_rfl) (by kernel_rfl) (by kernel_rfl) ?_
      refine zdEnd (by kernel_rfl) (by kernel_rfl) ?_
      refine zkSeq ?_
      refine zrCondF (by kernel_rfl) ?_
      refine zrSkip ?_
      refine zkBlk ?_
      refine zkSeq ?_
      refine zrReg ?_
      refine zlRun (n := 2) (j := 2) rfl (by kernel_rfl) ?_
      refine zlEnd (by kernel_rfl) ?_
      refine zkNil ?_
      exact endQ hS hQ (finL_n (by show keepSt _ _ _ _ = _; kernel_rfl))
  · replace hS := cond_f hc hS
    refine zdRun (n := 13) (j := 19) (ts := [[], [], [], [], [], [], [], [], [], [], [], [], []]) (acc' := [[], [], [(64, false)], [], [], [], [], [], [], [], [], [], [], [], [], [], [], [], []]) rfl (by kernel_rfl) (by kernel_rfl) (by kernel_rfl) ?_
    refine zdEnd (by kernel_rfl) (by kernel_rfl) ?_
    refine zkSeq ?_
    refine zrCondF (by kernel_rfl) ?_
    refine zrSkip ?_
    refine zkBlk ?_
    refine zkSeq ?_
    refine zrReg ?_
    refine zlRun (n := 2) (j := 2) rfl (by kernel_rfl) ?_
    refine zlEnd (by kernel_rfl) ?_
    refine zkNil ?_
    exact endQ hS hQ (finL_n (by show keepSt _ _ _ _ = _; kernel_rfl))
def f5_l1_l6_j7_J (a1 : GGrid) (a2 : Int) (a3 : Int) (a4 : Int) (a5 : Int) (a6 : Int) (a7 : GPen) (p1182 : Int) (p1183 : Int) (p1184 : Int) (p1185 : GGrid) (p1186 : List GGrid) (p1187 : Int) (p1188 : Int) (p1189 : Int) (p1190 : Bool) : St := ⟨(up (up (up (up (up (up (up (up (up (up (up (up (fun _ => .un) 88 (.d (.bool p1190))) 87 (.d (.int .i64 p1189))) 86 (.d (.int .i64 (a1.Cells.length : Int)))) 65 (.d (.int .i64 p1188))) 64 (.d (.int .i64 p1187))) 63 (.r (.msl 512 0 0 p1186.length))) 22 (.r (.ptr 184 0 0))) 20 (.d (.int .i64 p1184))) 18 (.d (.int .i64 p1183))) 16 (.d (.int .i64 p1182))) 7 (.r (.ptr 64 0 0))) 1 (.d (.int .i64 a2))), (up (up (up (hB fun _ => 0) 512 ⟨0, some (.own 24 3 (e_GGrid.cells p1186))⟩) 184 ⟨0, some (.box ((.d (.int .i64 p1185.Wide)) :: ((.d (.int .i64 p1185.High)) :: ((.d (.sl p1185.Cells.length (e_GCell.cells p1185.Cells))) :: []))))⟩) 64 ⟨0, some (.box ((.d (.int .i64 a1.Wide)) :: ((.d (.int .i64 a1.High)) :: ((.d (.sl a1.Cells.length (e_GCell.cells a1.Cells))) :: []))))⟩)⟩
noncomputable def f5_l1_l6_j7 (a1 : GGrid) (a2 : Int) (a3 : Int) (a4 : Int) (a5 : Int) (a6 : Int) (a7 : GPen) (p1182 : Int) (p1183 : Int) (p1184 : Int) (p1185 : GGrid) (p1186 : List GGrid) (p1187 : Int) (p1188 : Int) (p1189 : Int) (p1190 : Bool) : Option ((Int × Int × Int × GGrid × (List GGrid) × Int × Int × Int) ⊕ ((Int × Int × Int × (List GGrid) × Int × Int) ⊕ Bool)) := (bif p1190 then (f5_l1_l6_j8 a1 a2 a3 a4 a5 a6 a7 p1182 p1183 p1184 p1185 p1186 p1187 p1188 p1189) else (some (.inr (.inl (p1182, p1183, p1184, p1186, p1187, p1188)))))
theorem f5_l1_l6_j7_ok {base : Orc} {d : Nat} (hd : 8 ≤ d) (a1 : GGrid) (a2 : Int) (a3 : Int) (a4 : Int) (a5 : Int) (a6 : Int) (a7 : GPen) {r : (Int × Int × Int × GGrid × (List GGrid) × Int × Int × Int) ⊕ ((Int × Int × Int × (List GGrid) × Int × Int) ⊕ Bool)} {Q : PX → St → Prop} (hQ : ∀ e st', finL (f5_l1_l6_H a1 a2 a3 a4 a5 a6 a7) (f5_l1_l6_X a1 a2 a3 a4 a5 a6 a7) r e st' → Q e st') (p1182 : Int) (p1183 : Int) (p1184 : Int) (p1185 : GGrid) (p1186 : List GGrid) (p1187 : Int) (p1188 : Int) (p1189 : Int) (p1190 : Bool) (hS : f5_l1_l6_j7 a1 a2 a3 a4 a5 a6 a7 p1182 p1183 p1184 p1185 p1186 p1187 p1188 p1189 p1190 = some r) {st : St} (he : keepSt [1, 7, 16, 18, 20, 22, 63, 64, 65, 86, 87, 88] [(64, .id 64), (184, .id 184), (512, .id 512)] [] st = f5_l1_l6_j7_J a1 a2 a3 a4 a5 a6 a7 p1182 p1183 p1184 p1185 p1186 p1187 p1188 p1189 p1190) : ZR (lev codes base (d - 1)) Q c5_2 [] st := by
  refine zrKeep he ?_
  unfold f5_l1_l6_j7 at hS
  refine zrSeq ?_
  refine zrSplit 88 p1190 (by kernel_rfl) (fun hc => ?_) (fun hc => ?_)
  · replace hS := cond_t hc hS
    refine zrCondT (by kernel_rfl) ?_
    refine zrSkip ?_
    refine zkSeq ?_
    exact f5_l1_l6_j8_ok hd a1 a2 a3 a4 a5 a6 a7 hQ p1182 p1183 p1184 p1185 p1186 p1187 p1188 p1189 hS (by kernel_rfl)
  · replace hS := cond_f hc hS
    refine zrCondF (by kernel_rfl) ?_
    refine zrKeep (J := f5_l1_l6_e2_J a1 a2 a3 a4 a5 a6 a7 p1182 p1183 p1184 p1186 p1187 p1188) (by kernel_rfl) ?_
    refine zrExit ?_
    refine zkSeqX ?_
    refine zkNil ?_
    exact endQ hS hQ (finL_x (by intro h; cases h) (by show _ = _ ∧ _ = _; exact ⟨rfl, rfl⟩))
noncomputable def f5_l1_l6 (a1 : GGrid) (a2 : Int) (a3 : Int) (a4 : Int) (a5 : Int) (a6 : Int) (a7 : GPen) (x : Int × Int × Int × GGrid × (List GGrid) × Int × Int × Int) : Option ((Int × Int × Int × GGrid × (List GGrid) × Int × Int × Int) ⊕ ((Int × Int × Int × (List GGrid) × Int × Int) ⊕ Bool)) := (bif (decide (x.2.2.2.2.2.2.2 < (a1.Cells.length : Int))) then (f5_l1_l6_j7 a1 a2 a3 a4 a5 a6 a7 x.1 x.2.1 x.2.2.1 x.2.2.2.1 x.2.2.2.2.1 x.2.2.2.2.2.1 x.2.2.2.2.2.2.1 x.2.2.2.2.2.2.2 true) else (f5_l1_l6_j7 a1 a2 a3 a4 a5 a6 a7 x.1 x.2.1 x.2.2.1 x.2.2.2.1 x.2.2.2.2.1 x.2.2.2.2.2.1 x.2.2.2.2.2.2.1 x.2.2.2.2.2.2.2 false))
theorem f5_l1_l6_ok {base : Orc} {d : Nat} (hd : 8 ≤ d) (a1 : GGrid) (a2 : Int) (a3 : Int) (a4 : Int) (a5 : Int) (a6 : Int) (a7 : GPen) {r : (Int × Int × Int × GGrid × (List GGrid) × Int × Int × Int) ⊕ ((Int × Int × Int × (List GGrid) × Int × Int) ⊕ Bool)} {Q : PX → St → Prop} (hQ : ∀ e st', finL (f5_l1_l6_H a1 a2 a3 a4 a5 a6 a7) (f5_l1_l6_X a1 a2 a3 a4 a5 a6 a7) r e st' → Q e st') {x : Int × Int × Int × GGrid × (List GGrid) × Int × Int × Int} (hS : f5_l1_l6 a1 a2 a3 a4 a5 a6 a7 x = some r) {st : St} (he : f5_l1_l6_H a1 a2 a3 a4 a5 a6 a7 x st) : ZR (lev codes base (d - 1)) Q c5_3 [] st := by
  refine zrKeep he ?_
  unfold f5_l1_l6 at hS
  refine zrSeq ?_
  refine zrReg ?_
  refine zlBool (d := 88) (op := (.cmpI .lss (.tmp 87) (.tmp 86))) (g := none) (j := 1) (decide (x.2.2.2.2.2.2.2 < (a1.Cells.length : Int))) rfl (by kernel_rfl) (by kernel_rfl) (by kernel_rfl) (fun hc => ?_) (fun hc => ?_)
  · replace hS := cond_t hc hS
    refine zlEnd (by kernel_rfl) ?_
    refine zkSeq ?_
    exact f5_l1_l6_j7_ok hd a1 a2 a3 a4 a5 a6 a7 hQ x.1 x.2.1 x.2.2.1 x.2.2.2.1 x.2.2.2.2.1 x.2.2.2.2.2.1 x.2.2.2.2.2.2.1 x.2.2.2.2.2.2.2 true hS (by kernel_rfl)
  · replace hS := cond_f hc hS
    refine zlEnd (by kernel_rfl) ?_
    refine zkSeq ?_
    exact f5_l1_l6_j7_ok hd a1 a2 a3 a4 a5 a6 a7 hQ x.1 x.2.1 x.2.2.1 x.2.2.2.1 x.2.2.2.2.1 x.2.2.2.2.2.1 x.2.2.2.2.2.2.1 x.2.2.2.2.2.2.2 false hS (by kernel_rfl)
def f5_l1_j5_J (a1 : GGrid) (a2 : Int) (a3 : Int) (a4 : Int) (a5 : Int) (a6 : Int) (a7 : GPen) (p1031 : Int) (p1032 : Int) (p1033 : Int) (p1034 : GGrid) (p1035 : List GGrid) (p1036 : Int) (p1037 : Int) : St := ⟨(up (up (up (up (up (up (up (up (up (fun _ => .un) 65 (.d (.int .i64 p1037))) 64 (.d (.int .i64 p1036))) 63 (.r (.msl 512 0 0 p1035.length))) 22 (.r (.ptr 184 0 0))) 20 (.d (.int .i64 p1033))) 18 (.d (.int .i64 p1032))) 16 (.d (.int .i64 p1031))) 7 (.r (.ptr 64 0 0))) 1 (.d (.int .i64 a2))), (up (up (up (hB fun _ => 0) 512 ⟨0, some (.own 24 3 (e_GGrid.cells p1035))⟩) 184 ⟨0, some (.box ((.d (.int .i64 p1034.Wide)) :: ((.d (.int .i64 p1034.High)) :: ((.d (.sl p1034.Cells.length (e_GCell.cells p1034.Cells))) :: []))))⟩) 64 ⟨0, some (.box ((.d (.int .i64 a1.Wide)) :: ((.d (.int .i64 a1.High)) :: ((.d (.sl a1.Cells.length (e_GCell.cells a1.Cells))) :: []))))⟩)⟩
noncomputable def f5_l1_j5 (a1 : GGrid) (a2 : Int) (a3 : Int) (a4 : Int) (a5 : Int) (a6 : Int) (a7 : GPen) (p1031 : Int) (p1032 : Int) (p1033 : Int) (p1034 : GGrid) (p1035 : List GGrid) (p1036 : Int) (p1037 : Int) : Option ((Int × Int × Int × (List GGrid) × Int × Int) ⊕ (Unit ⊕ Bool)) := ((loopO (f5_l1_l6 a1 a2 a3 a4 a5 a6 a7) (p1031, p1032, p1033, p1034, p1035, p1036, p1037, 0)).bind fun z98 => (Sum.elim (fun z99 => (some (.inl (z99.1, z99.2.1, z99.2.2.1, z99.2.2.2.1, z99.2.2.2.2.1, (IntKind.i64.wrap (z99.2.2.2.2.2 + 1)))))) (fun z100 => (some (.inr (.inr z100)))) z98))
theorem f5_l1_j5_ok {base : Orc} {d : Nat} (hd : 8 ≤ d) (a1 : GGrid) (a2 : Int) (a3 : Int) (a4 : Int) (a5 : Int) (a6 : Int) (a7 : GPen) {r : (Int × Int × Int × (List GGrid) × Int × Int) ⊕ (Unit ⊕ Bool)} {Q : PX → St → Prop} (hQ : ∀ e st', finL (f5_l1_H a1 a2 a3 a4 a5 a6 a7) (f5_l1_X a1 a2 a3 a4 a5 a6 a7) r e st' → Q e st') (p1031 : Int) (p1032 : Int) (p1033 : Int) (p1034 : GGrid) (p1035 : List GGrid) (p1036 : Int) (p1037 : Int) (hS : f5_l1_j5 a1 a2 a3 a4 a5 a6 a7 p1031 p1032 p1033 p1034 p1035 p1036 p1037 = some r) {st : St} (he : keepSt [1, 7, 16, 18, 20, 22, 63, 64, 65] [(64, .id 64), (184, .id 184), (512, .id 512)] [] st = f5_l1_j5_J a1 a2 a3 a4 a5 a6 a7 p1031 p1032 p1033 p1034 p1035 p1036 p1037) : ZR (lev codes base (d - 1)) Q c5_4 [.blk 1, .seq c5_5] st := by
  refine zrKeep he ?_
  unfold f5_l1_j5 at hS
  refine zrSeq ?_
  refine zrReg ?_
  refine zlRun (n := 4) (j := 4) rfl (by kernel_rfl) ?_
  refine zlEnd (by kernel_rfl) ?_
  refine zkSeq ?_
  refine zrBlk ?_
  refine bindE hS (fun z98 hz98 hS => ?_)
  refine zrLoop (f5_l1_l6_H a1 a2 a3 a4 a5 a6 a7) (f5_l1_l6_X a1 a2 a3 a4 a5 a6 a7) (fun x st r Q h0 hS hQ => f5_l1_l6_ok hd a1 a2 a3 a4 a5 a6 a7 hQ hS h0) (x := (p1031, p1032, p1033, p1034, p1035, p1036, p1037, 0)) (z := z98) (by show keepSt _ _ _ _ = _; kernel_rfl) hz98 ?_
  rcases z98 with z99 | z100
  · replace hS := (show _ = _ from hS)
    simp only [Sum.elim_inl] at hS
    intro e st' _ hX
    obtain ⟨rfl, rfl⟩ : _ ∧ _ := hX
    refine zkBlkX ?_
    refine zkBlk ?_
    refine zkSeq ?_
    refine zrReg ?_
    refine zlRun (n := 2) (j := 2) rfl (by kernel_rfl) ?_
    refine zlEnd (by kernel_rfl) ?_
    refine zkNil ?_
    exact endQ hS hQ (finL_n (by show keepSt _ _ _ _ = _; kernel_rfl))
  · simp only [Sum.elim_inr] at hS
    intro e st' _ hX
    obtain ⟨rfl, hX⟩ : _ ∧ _ := hX
    refine zkBlkR ?_
    refine zkBlkR ?_
    refine zkSeqR ?_
    refine zkNil ?_
    exact endQ hS hQ (finL_x (by intro h; cases h) (by show _ = _ ∧ _ = _; exact ⟨rfl, hX⟩))
def f5_l1_j4_J (a1 : GGrid) (a2 : Int) (a3 : Int) (a4 : Int) (a5 : Int) (a6 : Int) (a7 : GPen) (p1016 : Int) (p1017 : Int) (p1018 : Int) (p1019 : GGrid) (p1020 : List GGrid) (p1021 : Int) (p1022 : Int) : St := ⟨(up (up (up (up (up (up (up (up (up (fun _ => .un) 65 (.d (.int .i64 p1022))) 64 (.d (.int .i64 p1021))) 63 (.r (.msl 512 0 0 p1020.length))) 22 (.r (.ptr 184 0 0))) 20 (.d (.int .i64 p1018))) 18 (.d (.int .i64 p1017))) 16 (.d (.int .i64 p1016))) 7 (.r (.ptr 64 0 0))) 1 (.d (.int .i64 a2))), (up (up (up (hB fun _ => 0) 512 ⟨0, some (.own 24 3 (e_GGrid.cells p1020))⟩) 184 ⟨0, some (.box ((.d (.int .i64 p1019.Wide)) :: ((.d (.int .i64 p1019.High)) :: ((.d (.sl p1019.Cells.length (e_GCell.cells p1019.Cells))) :: []))))⟩) 64 ⟨0, some (.box ((.d (.int .i64 a1.Wide)) :: ((.d (.int .i64 a1.High)) :: ((.d (.sl a1.Cells.length (e_GCell.cells a1.Cells))) :: []))))⟩)⟩
noncomputable def f5_l1_j4 (a1 : GGrid) (a2 : Int) (a3 : Int) (a4 : Int) (a5 : Int) (a6 : Int) (a7 : GPen) (p1016 : Int) (p1017 : Int) (p1018 : Int) (p1019 : GGrid) (p1020 : List GGrid) (p1021 : Int) (p1022 : Int) : Option ((Int × Int × Int × (List GGrid) × Int × Int) ⊕ (Unit ⊕ Bool)) := (bif (!decide ((p1019.Cells.length : Int) = (a1.Cells.length : Int))) then (some (.inr (.inr false))) else (f5_l1_j5 a1 a2 a3 a4 a5 a6 a7 p1016 p1017 p1018 p1019 p1020 p1021 p1022))
theorem f5_l1_j4_ok {base : Orc} {d : Nat} (hd : 8 ≤ d) (a1 : GGrid) (a2 : Int) (a3 : Int) (a4 : Int) (a5 : Int) (a6 : Int) (a7 : GPen) {r : (Int × Int × Int × (List GGrid) × Int × Int) ⊕ (Unit ⊕ Bool)} {Q : PX → St → Prop} (hQ : ∀ e st', finL (f5_l1_H a1 a2 a3 a4 a5 a6 a7) (f5_l1_X a1 a2 a3 a4 a5 a6 a7) r e st' → Q e st') (p1016 : Int) (p1017 : Int) (p1018 : Int) (p1019 : GGrid) (p1020 : List GGrid) (p1021 : Int) (p1022 : Int) (hS : f5_l1_j4 a1 a2 a3 a4 a5 a6 a7 p1016 p1017 p1018 p1019 p1020 p1021 p1022 = some r) {st : St} (he : keepSt [1, 7, 16, 18, 20, 22, 63, 64, 65] [(64, .id 64), (184, .id 184), (512, .id 512)] [] st = f5_l1_j4_J a1 a2 a3 a4 a5 a6 a7 p1016 p1017 p1018 p1019 p1020 p1021 p1022) : ZR (lev codes base (d - 1)) Q c5_6 [.blk 1, .seq c5_5] st := by
  refine zrKeep he ?_
  unfold f5_l1_j4 at hS
  refine zrSeq ?_
  refine zrSeq ?_
  refine zrReg ?_
  refine zlRun (n := 6) (j := 6) rfl (by kernel_rfl) ?_
  refine zlBool (d := 83) (op := (.cmpI .neq (.tmp 79) (.tmp 82))) (g := none) (j := 7) (!decide ((p1019.Cells.length : Int) = (a1.Cells.length : Int))) rfl (by kernel_rfl) (by kernel_rfl) (by kernel_rfl) (fun hc => ?_) (fun hc => ?_)
  · replace hS := cond_t hc hS
    refine zlEnd (by kernel_rfl) ?_
    refine zkSeq ?_
    refine zrCondT (by kernel_rfl) ?_
    refine zrSeq ?_
    refine zrReg ?_
    refine zlRun (n := 1) (j := 1) rfl (by kernel_rfl) ?_
    refine zlEnd (by kernel_rfl) ?_
    refine zkSeq ?_
    refine zrRet ?_
    refine zkSeqR ?_
    refine zkBlkR ?_
    refine zkSeqR ?_
    refine zkNil ?_
    exact endQ hS hQ (finL_x (by intro h; cases h) (by show _ = _ ∧ _ = _; exact ⟨rfl, by kernel_rfl⟩))
  · replace hS := cond_f hc hS
    refine zlEnd (by kernel_rfl) ?_
    refine zkSeq ?_
    refine zrCondF (by kernel_rfl) ?_
    refine zrSkip ?_
    refine zkSeq ?_
    exact f5_l1_j5_ok hd a1 a2 a3 a4 a5 a6 a7 hQ p1016 p1017 p1018 p1019 p1020 p1021 p1022 hS (by kernel_rfl)
def f5_l1_j3_J (a1 : GGrid) (a2 : Int) (a3 : Int) (a4 : Int) (a5 : Int) (a6 : Int) (a7 : GPen) (p1002 : Int) (p1003 : Int) (p1004 : Int) (p1005 : List GGrid) (p1006 : Int) (p1007 : Int) : St := ⟨(up (up (up (up (up (up (up (up (fun _ => .un) 65 (.d (.int .i64 p1007))) 64 (.d (.int .i64 p1006))) 63 (.r (.msl 512 0 0 p1005.length))) 20 (.d (.int .i64 p1004))) 18 (.d (.int .i64 p1003))) 16 (.d (.int .i64 p1002))) 7 (.r (.ptr 64 0 0))) 1 (.d (.int .i64 a2))), (up (up (hB fun _ => 0) 512 ⟨0, some (.own 24 3 (e_GGrid.cells p1005))⟩) 64 ⟨0, some (.box ((.d (.int .i64 a1.Wide)) :: ((.d (.int .i64 a1.High)) :: ((.d (.sl a1.Cells.length (e_GCell.cells a1.Cells))) :: []))))⟩)⟩
noncomputable def f5_l1_j3 (a1 : GGrid) (a2 : Int) (a3 : Int) (a4 : Int) (a5 : Int) (a6 : Int) (a7 : GPen) (p1002 : Int) (p1003 : Int) (p1004 : Int) (p1005 : List GGrid) (p1006 : Int) (p1007 : Int) : Option ((Int × Int × Int × (List GGrid) × Int × Int) ⊕ (Unit ⊕ Bool)) := ((inR p1007 p1005.length).bind fun m83 => ((p1005[m83]?).bind fun z84 => ((inR p1007 3).bind fun m101 => (bif (!decide ((([p1002, p1003, p1004] : List Int).getD m101 0) = 0)) then (some (.inl (p1002, p1003, p1004, p1005, p1006, (IntKind.i64.wrap (p1007 + 1))))) else (f5_l1_j4 a1 a2 a3 a4 a5 a6 a7 p1002 p1003 p1004 z84 p1005 p1006 p1007)))))
theorem f5_l1_j3_ok {base : Orc} {d : Nat} (hd : 8 ≤ d) (a1 : GGrid) (a2 : Int) (a3 : Int) (a4 : Int) (a5 : Int) (a6 : Int) (a7 : GPen) {r : (Int × Int × Int × (List GGrid) × Int × Int) ⊕ (Unit ⊕ Bool)} {Q : PX → St → Prop} (hQ : ∀ e st', finL (f5_l1_H a1 a2 a3 a4 a5 a6 a7) (f5_l1_X a1 a2 a3 a4 a5 a6 a7) r e st' → Q e st') (p1002 : Int) (p1003 : Int) (p1004 : Int) (p1005 : List GGrid) (p1006 : Int) (p1007 : Int) (hS : f5_l1_j3 a1 a2 a3 a4 a5 a6 a7 p1002 p1003 p1004 p1005 p1006 p1007 = some r) {st : St} (he : keepSt [1, 7, 16, 18, 20, 63, 64, 65] [(64, .id 64), (512, .id 512)] [] st = f5_l1_j3_J a1 a2 a3 a4 a5 a6 a7 p1002 p1003 p1004 p1005 p1006 p1007) : ZR (lev codes base (d - 1)) Q c5_7 [] st := by
  refine zrKeep he ?_
  unfold f5_l1_j3 at hS
  refine zrSeq ?_
  refine zrBlk ?_
  refine zrSeq ?_
  refine zrReg ?_
  refine zlRun (n := 1) (j := 1) rfl (by kernel_rfl) ?_
  refine bindE hS (fun m83 hm83 hS => ?_)
  refine zlOp (d := some 68) (op := (.ixS 24 3 (.tmp 63) (.tmp 65))) (g := none) (v := (.r (.ptr 512 0 ((0 + m83) * 3)))) (ups := []) (j := 2) rfl (by kernel_rfl) (by kernel_rfl) (ev_ixM (kk := .i64) (b := 512) (g := 0) (l := 0) (n := p1005.length) (j := p1007) (cs := e_GGrid.cells p1005) (by kernel_rfl) (by kernel_rfl) (by kernel_rfl) hm83) ?_
  refine bindE hS (fun z84 hz84 hS => ?_)
  refine zlOp (d := some 69) (op := (.load .true 3 (.tmp 68))) (g := none) (v := (.agg ((.d (.int .i64 z84.Wide)) :: ((.d (.int .i64 z84.High)) :: ((.d (.sl z84.Cells.length (e_GCell.cells z84.Cells))) :: []))))) (ups := []) (j := 3) rfl (by kernel_rfl) (by kernel_rfl) (ev_loadM e_GGrid (b := 512) (g := 0) (o := (0 + m83) * 3) (e := 24) (k := 3) (m := m83) (fo := 0) (xs := p1005) (by kernel_rfl) (by kernel_rfl) (by rw [Nat.zero_add]; rfl) hz84 (by kernel_rfl) (by kernel_rfl) (by kernel_rfl)) ?_
  refine zlRun (n := 3) (j := 6) rfl (by kernel_rfl) ?_
  refine zlEnd (by kernel_rfl) ?_
  refine zkSeq ?_
  refine zrSeq ?_
  refine zrSeq ?_
  refine zrReg ?_
  refine zlRun (n := 5) (j := 5) rfl (by kernel_rfl) ?_
  refine bindE hS (fun m101 hm101 hS => ?_)
  refine zlOp (d := some 75) (op := (.ixV .false 3 1 (.tmp 73) (.tmp 74))) (g := none) (v := (.d (.int .i64 (([p1002, p1003, p1004] : List Int).getD m101 0)))) (ups := []) (j := 6) rfl (by kernel_rfl) (by kernel_rfl) (ev_ixV (eInt .i64) (fun i => ([p1002, p1003, p1004] : List Int).getD i 0) (kk := .i64) (j := p1007) (by kernel_rfl) (by kernel_rfl) hm101 rfl (by kernel_rfl) (by kernel_rfl)) ?_
  refine zlBool (d := 76) (op := (.cmpI .neq (.tmp 75) (.const (.int .i64 0)))) (g := none) (j := 7) (!decide ((([p1002, p1003, p1004] : List Int).getD m101 0) = 0)) rfl (by kernel_rfl) (by kernel_rfl) (by kernel_rfl) (fun hc => ?_) (fun hc => ?_)
  · replace hS := cond_t hc hS
    refine zlEnd (by kernel_rfl) ?_
    refine zkSeq ?_
    refine zrCondT (by kernel_rfl) ?_
    refine zrExit ?_
    refine zkSeqX ?_
    refine zkBlkX ?_
    refine zkSeq ?_
    refine zrReg ?_
    refine zlRun (n := 2) (j := 2) rfl (by kernel_rfl) ?_
    refine zlEnd (by kernel_rfl) ?_
    refine zkNil ?_
    exact endQ hS hQ (finL_n (by show keepSt _ _ _ _ = _; kernel_rfl))
  · replace hS := cond_f hc hS
    refine zlEnd (by kernel_rfl) ?_
    refine zkSeq ?_
    refine zrCondF (by kernel_rfl) ?_
    refine zrSkip ?_
    refine zkSeq ?_
    exact f5_l1_j4_ok hd a1 a2 a3 a4 a5 a6 a7 hQ p1002 p1003 p1004 z84 p1005 p1006 p1007 hS (by kernel_rfl)
def f5_l1_j2_J (a1 : GGrid) (a2 : Int) (a3 : Int) (a4 : Int) (a5 : Int) (a6 : Int) (a7 : GPen) (p995 : Int) (p996 : Int) (p997 : Int) (p998 : List GGrid) (p999 : Int) (p1000 : Int) (p1001 : Bool) : St := ⟨(up (up (up (up (up (up (up (up (up (fun _ => .un) 66 (.d (.bool p1001))) 65 (.d (.int .i64 p1000))) 64 (.d (.int .i64 p999))) 63 (.r (.msl 512 0 0 p998.length))) 20 (.d (.int .i64 p997))) 18 (.d (.int .i64 p996))) 16 (.d (.int .i64 p995))) 7 (.r (.ptr 64 0 0))) 1 (.d (.int .i64 a2))), (up (up (hB fun _ => 0) 512 ⟨0, some (.own 24 3 (e_GGrid.cells p998))⟩) 64 ⟨0, some (.box ((.d (.int .i64 a1.Wide)) :: ((.d (.int .i64 a1.High)) :: ((.d (.sl a1.Cells.length (e_GCell.cells a1.Cells))) :: []))))⟩)⟩
noncomputable def f5_l1_j2 (a1 : GGrid) (a2 : Int) (a3 : Int) (a4 : Int) (a5 : Int) (a6 : Int) (a7 : GPen) (p995 : Int) (p996 : Int) (p997 : Int) (p998 : List GGrid) (p999 : Int) (p1000 : Int) (p1001 : Bool) : Option ((Int × Int × Int × (List GGrid) × Int × Int) ⊕ (Unit ⊕ Bool)) := (bif p1001 then (f5_l1_j3 a1 a2 a3 a4 a5 a6 a7 p995 p996 p997 p998 p999 p1000) else (some (.inr (.inl ()))))
theorem f5_l1_j2_ok {base : Orc} {d : Nat} (hd : 8 ≤ d) (a1 : GGrid) (a2 : Int) (a3 : Int) (a4 : Int) (a5 : Int) (a6 : Int) (a7 : GPen) {r : (Int × Int × Int × (List GGrid) × Int × Int) ⊕ (Unit ⊕ Bool)} {Q : PX → St → Prop} (hQ : ∀ e st', finL (f5_l1_H a1 a2 a3 a4 a5 a6 a7) (f5_l1_X a1 a2 a3 a4 a5 a6 a7) r e st' → Q e st') (p995 : Int) (p996 : Int) (p997 : Int) (p998 : List GGrid) (p999 : Int) (p1000 : Int) (p1001 : Bool) (hS : f5_l1_j2 a1 a2 a3 a4 a5 a6 a7 p995 p996 p997 p998 p999 p1000 p1001 = some r) {st : St} (he : keepSt [1, 7, 16, 18, 20, 63, 64, 65, 66] [(64, .id 64), (512, .id 512)] [] st = f5_l1_j2_J a1 a2 a3 a4 a5 a6 a7 p995 p996 p997 p998 p999 p1000 p1001) : ZR (lev codes base (d - 1)) Q c5_8 [] st := by
  refine zrKeep he ?_
  unfold f5_l1_j2 at hS
  refine zrSeq ?_
  refine zrSplit 66 p1001 (by kernel_rfl) (fun hc => ?_) (fun hc => ?_)
  · replace hS := cond_t hc hS
    refine zrCondT (by kernel_rfl) ?_
    refine zrSkip ?_
    refine zkSeq ?_
    exact f5_l1_j3_ok hd a1 a2 a3 a4 a5 a6 a7 hQ p995 p996 p997 p998 p999 p1000 hS (by kernel_rfl)
  · replace hS := cond_f hc hS
    refine zrCondF (by kernel_rfl) ?_
    refine zrKeep (J := f5_l1_e0_J a1 a2 a3 a4 a5 a6 a7) (by kernel_rfl) ?_
    refine zrExit ?_
    refine zkSeqX ?_
    refine zkNil ?_
    exact endQ hS hQ (finL_x (by intro h; cases h) (by show _ = _ ∧ _ = _; exact ⟨rfl, rfl⟩))
noncomputable def f5_l1 (a1 : GGrid) (a2 : Int) (a3 : Int) (a4 : Int) (a5 : Int) (a6 : Int) (a7 : GPen) (x : Int × Int × Int × (List GGrid) × Int × Int) : Option ((Int × Int × Int × (List GGrid) × Int × Int) ⊕ (Unit ⊕ Bool)) := (bif (decide (x.2.2.2.2.2 < x.2.2.2.2.1)) then (f5_l1_j2 a1 a2 a3 a4 a5 a6 a7 x.1 x.2.1 x.2.2.1 x.2.2.2.1 x.2.2.2.2.1 x.2.2.2.2.2 true) else (f5_l1_j2 a1 a2 a3 a4 a5 a6 a7 x.1 x.2.1 x.2.2.1 x.2.2.2.1 x.2.2.2.2.1 x.2.2.2.2.2 false))
theorem f5_l1_ok {base : Orc} {d : Nat} (hd : 8 ≤ d) (a1 : GGrid) (a2 : Int) (a3 : Int) (a4 : Int) (a5 : Int) (a6 : Int) (a7 : GPen) {r : (Int × Int × Int × (List GGrid) × Int × Int) ⊕ (Unit ⊕ Bool)} {Q : PX → St → Prop} (hQ : ∀ e st', finL (f5_l1_H a1 a2 a3 a4 a5 a6 a7) (f5_l1_X a1 a2 a3 a4 a5 a6 a7) r e st' → Q e st') {x : Int × Int × Int × (List GGrid) × Int × Int} (hS : f5_l1 a1 a2 a3 a4 a5 a6 a7 x = some r) {st : St} (he : f5_l1_H a1 a2 a3 a4 a5 a6 a7 x st) : ZR (lev codes base (d - 1)) Q c5_9 [] st := by
  refine zrKeep he ?_
  unfold f5_l1 at hS
  refine zrSeq ?_
  refine zrReg ?_
  refine zlBool (d := 66) (op := (.cmpI .lss (.tmp 65) (.tmp 64))) (g := none) (j := 1) (decide (x.2.2.2.2.2 < x.2.2.2.2.1)) rfl (by kernel_rfl) (by kernel_rfl) (by kernel_rfl) (fun hc => ?_) (fun hc => ?_)
  · replace hS := cond_t hc hS
    refine zlEnd (by kernel_rfl) ?_
    refine zkSeq ?_
    exact f5_l1_j2_ok hd a1 a2 a3 a4 a5 a6 a7 hQ x.1 x.2.1 x.2.2.1 x.2.2.2.1 x.2.2.2.2.1 x.2.2.2.2.2 true hS (by kernel_rfl)
  · replace hS := cond_f hc hS
    refine zlEnd (by kernel_rfl) ?_
    refine zkSeq ?_
    exact f5_l1_j2_ok hd a1 a2 a3 a4 a5 a6 a7 hQ x.1 x.2.1 x.2.2.1 x.2.2.2.1 x.2.2.2.2.1 x.2.2.2.2.2 false hS (by kernel_rfl)
def f5_j0_J (a1 : GGrid) (a2 : Int) (a3 : Int) (a4 : Int) (a5 : Int) (a6 : Int) (a7 : GPen) : St := ⟨(up (up (up (up (up (up (up (fun _ => .un) 13 (.r (.ptr 112 0 0))) 7 (.r (.ptr 64 0 0))) 5 (.d (.int .i64 a6))) 4 (.d (.int .i64 a5))) 3 (.d (.int .i64 a4))) 2 (.d (.int .i64 a3))) 1 (.d (.int .i64 a2))), (up (up (hB fun _ => 0) 112 ⟨0, some (.box ((.d (.int .i64 a7.Flags)) :: ((.d (.int .i64 a7.Fore)) :: ((.d (.int .i64 a7.Back)) :: []))))⟩) 64 ⟨0, some (.box ((.d (.int .i64 a1.Wide)) :: ((.d (.int .i64 a1.High)) :: ((.d (.sl a1.Cells.length (e_GCell.cells a1.Cells))) :: []))))⟩)⟩
noncomputable def f5_j0 (a1 : GGrid) (a2 : Int) (a3 : Int) (a4 : Int) (a5 : Int) (a6 : Int) (a7 : GPen) : Option (Bool) := ((f9 a1 a2 a3 a6 a7).bind fun z45 => ((f14 a1 a2 a3 a4 a7).bind fun z46 => ((f19 a1 a2 a3 a4 a5 a7).bind fun z47 => ((loopO (f5_l1 a1 a2 a3 a4 a5 a6 a7) (z45.2.2.2, z46.2.2.2, z47.2.2.2, [(GGrid.mk z45.1 z45.2.1 z45.2.2.1), (GGrid.mk z46.1 z46.2.1 z46.2.2.1), (GGrid.mk z47.1 z47.2.1 z47.2.2.1)], ((([(GGrid.mk z45.1 z45.2.1 z45.2.2.1), (GGrid.mk z46.1 z46.2.1 z46.2.2.1), (GGrid.mk z47.1 z47.2.1 z47.2.2.1)] : List GGrid).length) : Int), 0)).bind fun z102 => (Sum.elim (fun z103 => (some true)) (fun z104 => (some z104)) z102)))))
theorem f5_j0_ok {base : Orc} {d : Nat} (hd : 8 ≤ d) (a1 : GGrid) (a2 : Int) (a3 : Int) (a4 : Int) (a5 : Int) (a6 : Int) (a7 : GPen) {r : Bool} {Q : PX → St → Prop} (hQ : ∀ e st', f5_Q r e st' → Q e st')  (hS : f5_j0 a1 a2 a3 a4 a5 a6 a7 = some r) {st : St} (he : keepSt [1, 2, 3, 4, 5, 7, 13] [(64, .id 64), (112, .id 112)] [] st = f5_j0_J a1 a2 a3 a4 a5 a6 a7) : ZR (lev codes base (d - 1)) Q c5_10 [] st := by
  refine zrKeep he ?_
  unfold f5_j0 at hS
  refine zrSeq ?_
  refine zrReg ?_
  refine zlRun (n := 5) (j := 5) rfl (by kernel_rfl) ?_
  refine bindE hS (fun z45 hz45 hS => ?_)
  refine zlOp (d := some 38) (op := (.callf 9 [(.tmp 33), (.tmp 34), (.tmp 35), (.tmp 36), (.tmp 37)])) (g := none) (v := (.tup [(.agg ((.d (.int .i64 z45.1)) :: ((.d (.int .i64 z45.2.1)) :: ((.r (.msl 312 1 0 z45.2.2.1.length)) :: [])))), (.d (.int .i64 z45.2.2.2))])) (ups := [(312, ⟨1, some (.own 33 4 (e_GCell.cells z45.2.2.1))⟩)]) (j := 6) rfl (by kernel_rfl) (by kernel_rfl) (ev_callF (args := [(.agg ((.d (.int .i64 a1.Wide)) :: ((.d (.int .i64 a1.High)) :: ((.d (.sl a1.Cells.length (e_GCell.cells a1.Cells))) :: [])))), (.d (.int .i64 a2)), (.d (.int .i64 a3)), (.d (.int .i64 a6)), (.agg ((.d (.int .i64 a7.Flags)) :: ((.d (.int .i64 a7.Fore)) :: ((.d (.int .i64 a7.Back)) :: []))))]) (args' := [(.agg ((.d (.int .i64 a1.Wide)) :: ((.d (.int .i64 a1.High)) :: ((.d (.sl a1.Cells.length (e_GCell.cells a1.Cells))) :: [])))), (.d (.int .i64 a2)), (.d (.int .i64 a3)), (.d (.int .i64 a6)), (.agg ((.d (.int .i64 a7.Flags)) :: ((.d (.int .i64 a7.Fore)) :: ((.d (.int .i64 a7.Back)) :: []))))]) (l := [(.agg ((.d (.int .i64 a1.Wide)) :: ((.d (.int .i64 a1.High)) :: ((.d (.sl a1.Cells.length (e_GCell.cells a1.Cells))) :: [])))), (.d (.int .i64 a2)), (.d (.int .i64 a3)), (.d (.int .i64 a6)), (.agg ((.d (.int .i64 a7.Flags)) :: ((.d (.int .i64 a7.Fore)) :: ((.d (.int .i64 a7.Back)) :: []))))]) (refs := []) (r := (.tup [(.agg ((.d (.int .i64 z45.1)) :: ((.d (.int .i64 z45.2.1)) :: ((.r (.own 0 33 4 z45.2.2.1.length (e_GCell.cells z45.2.2.1))) :: [])))), (.d (.int .i64 z45.2.2.2))])) (v := (.tup [(.agg ((.d (.int .i64 z45.1)) :: ((.d (.int .i64 z45.2.1)) :: ((.r (.msl 312 1 0 z45.2.2.1.length)) :: [])))), (.d (.int .i64 z45.2.2.2))])) (ups' := [(312, ⟨1, some (.own 33 4 (e_GCell.cells z45.2.2.1))⟩)]) (by kernel_rfl) (by kernel_rfl) (by kernel_rfl) (fz_cons rfl (fz_cons rfl (fz_cons rfl (fz_cons rfl (fz_cons rfl fz_nil))))) (by kernel_rfl) (f9_ok base (d - 1) (dpt hd rfl) a1 a2 a3 a6 a7 z45 hz45) (by kernel_rfl) (by kernel_rfl) (by kernel_rfl) (by kernel_rfl)) ?_
  refine zlRun (n := 6) (j := 12) rfl (by kernel_rfl) ?_
  refine zlEnd (by kernel_rfl) ?_
  refine zkSeq ?_
  refine zrSeq ?_
  refine zrReg ?_
  refine zlRun (n := 5) (j := 5) rfl (by kernel_rfl) ?_
  refine bindE hS (fun z46 hz46 hS => ?_)
  refine zlOp (d := some 47) (op := (.callf 14 [(.tmp 42), (.tmp 43), (.tmp 44), (.tmp 45), (.tmp 46)])) (g := none) (v := (.tup [(.agg ((.d (.int .i64 z46.1)) :: ((.d (.int .i64 z46.2.1)) :: ((.r (.msl 384 1 0 z46.2.2.1.length)) :: [])))), (.d (.int .i64 z46.2.2.2))])) (ups := [(384, ⟨1, some (.own 33 4 (e_GCell.cells z46.2.2.1))⟩)]) (j := 6) rfl (by kernel_rfl) (by kernel_rfl) (ev_callF (args := [(.agg ((.d (.int .i64 a1.Wide)) :: ((.d (.int .i64 a1.High)) :: ((.d (.sl a1.Cells.length (e_GCell.cells a1.Cells))) :: [])))), (.d (.int .i64 a2)), (.d (.int .i64 a3)), (.d (.int .i64 a4)), (.agg ((.d (.int .i64 a7.Flags)) :: ((.d (.int .i64 a7.Fore)) :: ((.d (.int .i64 a7.Back)) :: []))))]) (args' := [(.agg ((.d (.int .i64 a1.Wide)) :: ((.d (.int .i64 a1.High)) :: ((.d (.sl a1.Cells.length (e_GCell.cells a1.Cells))) :: [])))), (.d (.int .i64 a2)), (.d (.int .i64 a3)), (.d (.int .i64 a4)), (.agg ((.d (.int .i64 a7.Flags)) :: ((.d (.int .i64 a7.Fore)) :: ((.d (.int .i64 a7.Back)) :: []))))]) (l := [(.agg ((.d (.int .i64 a1.Wide)) :: ((.d (.int .i64 a1.High)) :: ((.d (.sl a1.Cells.length (e_GCell.cells a1.Cells))) :: [])))), (.d (.int .i64 a2)), (.d (.int .i64 a3)), (.d (.int .i64 a4)), (.agg ((.d (.int .i64 a7.Flags)) :: ((.d (.int .i64 a7.Fore)) :: ((.d (.int .i64 a7.Back)) :: []))))]) (refs := []) (r := (.tup [(.agg ((.d (.int .i64 z46.1)) :: ((.d (.int .i64 z46.2.1)) :: ((.r (.own 0 33 4 z46.2.2.1.length (e_GCell.cells z46.2.2.1))) :: [])))), (.d (.int .i64 z46.2.2.2))])) (v := (.tup [(.agg ((.d (.int .i64 z46.1)) :: ((.d (.int .i64 z46.2.1)) :: ((.r (.msl 384 1 0 z46.2.2.1.length)) :: [])))), (.d (.int .i64 z46.2.2.2))])) (ups' := [(384, ⟨1, some (.own 33 4 (e_GCell.cells z46.2.2.1))⟩)]) (by kernel_rfl) (by kernel_rfl) (by kernel_rfl) (fz_cons rfl (fz_cons rfl (fz_cons rfl (fz_cons rfl (fz_cons rfl fz_nil))))) (by kernel_rfl) (f14_ok base (d - 1) (dpt hd rfl) a1 a2 a3 a4 a7 z46 hz46) (by kernel_rfl) (by kernel_rfl) (by kernel_rfl) (by kernel_rfl)) ?_
  refine zlRun (n := 6) (j := 12) rfl (by kernel_rfl) ?_
  refine zlEnd (by kernel_rfl) ?_
  refine zkSeq ?_
  refine zrSeq ?_
  refine zrReg ?_
  refine zlRun (n := 6) (j := 6) rfl (by kernel_rfl) ?_
  refine bindE hS (fun z47 hz47 hS => ?_)
  refine zlOp (d := some 57) (op := (.callf 19 [(.tmp 51), (.tmp 52), (.tmp 53), (.tmp 54), (.tmp 55), (.tmp 56)])) (g := none) (v := (.tup [(.agg ((.d (.int .i64 z47.1)) :: ((.d (.int .i64 z47.2.1)) :: ((.r (.msl 464 1 0 z47.2.2.1.length)) :: [])))), (.d (.int .i64 z47.2.2.2))])) (ups := [(464, ⟨1, some (.own 33 4 (e_GCell.cells z47.2.2.1))⟩)]) (j := 7) rfl (by kernel_rfl) (by kernel_rfl) (ev_callF (args := [(.agg ((.d (.int .i64 a1.Wide)) :: ((.d (.int .i64 a1.High)) :: ((.d (.sl a1.Cells.length (e_GCell.cells a1.Cells))) :: [])))), (.d (.int .i64 a2)), (.d (.int .i64 a3)), (.d (.int .i64 a4)), (.d (.int .i64 a5)), (.agg ((.d (.int .i64 a7.Flags)) :: ((.d (.int .i64 a7.Fore)) :: ((.d (.int .i64 a7.Back)) :: []))))]) (args' := [(.agg ((.d (.int .i64 a1.Wide)) :: ((.d (.int .i64 a1.High)) :: ((.d (.sl a1.Cells.length (e_GCell.cells a1.Cells))) :: [])))), (.d (.int .i64 a2)), (.d (.int .i64 a3)), (.d (.int .i64 a4)), (.d (.int .i64 a5)), (.agg ((.d (.int .i64 a7.Flags)) :: ((.d (.int .i64 a7.Fore)) :: ((.d (.int .i64 a7.Back)) :: []))))]) (l := [(.agg ((.d (.int .i64 a1.Wide)) :: ((.d (.int .i64 a1.High)) :: ((.d (.sl a1.Cells.length (e_GCell.cells a1.Cells))) :: [])))), (.d (.int .i64 a2)), (.d (.int .i64 a3)), (.d (.int .i64 a4)), (.d (.int .i64 a5)), (.agg ((.d (.int .i64 a7.Flags)) :: ((.d (.int .i64 a7.Fore)) :: ((.d (.int .i64 a7.Back)) :: []))))]) (refs := []) (r := (.tup [(.agg ((.d (.int .i64 z47.1)) :: ((.d (.int .i64 z47.2.1)) :: ((.r (.own 0 33 4 z47.2.2.1.length (e_GCell.cells z47.2.2.1))) :: [])))), (.d (.int .i64 z47.2.2.2))])) (v := (.tup [(.agg ((.d (.int .i64 z47.1)) :: ((.d (.int .i64 z47.2.1)) :: ((.r (.msl 464 1 0 z47.2.2.1.length)) :: [])))), (.d (.int .i64 z47.2.2.2))])) (ups' := [(464, ⟨1, some (.own 33 4 (e_GCell.cells z47.2.2.1))⟩)]) (by kernel_rfl) (by kernel_rfl) (by kernel_rfl) (fz_cons rfl (fz_cons rfl (fz_cons rfl (fz_cons rfl (fz_cons rfl (fz_cons rfl fz_nil)))))) (by kernel_rfl) (f19_ok base (d - 1) (dpt hd rfl) a1 a2 a3 a4 a5 a7 z47 hz47) (by kernel_rfl) (by kernel_rfl) (by kernel_rfl) (by kernel_rfl)) ?_
  refine zlRun (n := 6) (j := 13) rfl (by kernel_rfl) ?_
  refine zlEnd (by kernel_rfl) ?_
  refine zkSeq ?_
  refine zrSeq ?_
  refine zrSeq ?_
  refine zrReg ?_
  refine zlRun (n := 3) (j := 3) rfl (by kernel_rfl) ?_
  refine zlOp (d := some 63) (op := (.bsl 24 3 3 [(2, (.int .i64 0)), (1, (.slice .none 0 0)), (2, (.int .i64 0)), (1, (.slice .none 0 0)), (2, (.int .i64 0)), (1, (.slice .none 0 0))] [(0, (3, (.tmp 60))), (3, (3, (.tmp 61))), (6, (3, (.tmp 62)))])) (g := none) (v := (.r (.msl 512 1 0 (([(GGrid.mk z45.1 z45.2.1 z45.2.2.1), (GGrid.mk z46.1 z46.2.1 z46.2.2.1), (GGrid.mk z47.1 z47.2.1 z47.2.2.1)] : List GGrid).length)))) (ups := [(312, ⟨2, none⟩), (384, ⟨2, none⟩), (464, ⟨2, none⟩), (512, ⟨1, some (.own 24 3 (e_GGrid.cells ([(GGrid.mk z45.1 z45.2.1 z45.2.2.1), (GGrid.mk z46.1 z46.2.1 z46.2.2.1), (GGrid.mk z47.1 z47.2.1 z47.2.2.1)])))⟩)]) (j := 4) rfl (by kernel_rfl) (by kernel_rfl) ((by kernel_rfl : peval _ _ 63 (ρof _) (.bsl 24 3 3 [(2, (.int .i64 0)), (1, (.slice .none 0 0)), (2, (.int .i64 0)), (1, (.slice .none 0 0)), (2, (.int .i64 0)), (1, (.slice .none 0 0))] [(0, (3, (.tmp 60))), (3, (3, (.tmp 61))), (6, (3, (.tmp 62)))]) = some ((.r (.msl 512 1 0 (([(GGrid.mk z45.1 z45.2.1 z45.2.2.1), (GGrid.mk z46.1 z46.2.1 z46.2.2.1), (GGrid.mk z47.1 z47.2.1 z47.2.2.1)] : List GGrid).length))), [(312, ⟨2, none⟩), (384, ⟨2, none⟩), (464, ⟨2, none⟩), (512, ⟨1, some (.own 24 3 [.int .i64 z45.1, .int .i64 z45.2.1, .sl z45.2.2.1.length (((e_GCell.cells z45.2.2.1).drop (0 * e_GCell.k)).take (z45.2.2.1.length * e_GCell.k)), .int .i64 z46.1, .int .i64 z46.2.1, .sl z46.2.2.1.length (((e_GCell.cells z46.2.2.1).drop (0 * e_GCell.k)).take (z46.2.2.1.length * e_GCell.k)), .int .i64 z47.1, .int .i64 z47.2.1, .sl z47.2.2.1.length (((e_GCell.cells z47.2.2.1).drop (0 * e_GCell.k)).take (z47.2.2.1.length * e_GCell.k))])⟩)])).trans (by simp only [Enc.frz]; rfl)) ?_
  refine zlRun (n := 2) (j := 6) rfl (by kernel_rfl) ?_
  refine zlEnd (by kernel_rfl) ?_
  refine zkSeq ?_
  refine zrBlk ?_
  refine bindE hS (fun z102 hz102 hS => ?_)
  refine zrLoop (f5_l1_H a1 a2 a3 a4 a5 a6 a7) (f5_l1_X a1 a2 a3 a4 a5 a6 a7) (fun x st r Q h0 hS hQ => f5_l1_ok hd a1 a2 a3 a4 a5 a6 a7 hQ hS h0) (x := (z45.2.2.2, z46.2.2.2, z47.2.2.2, [(GGrid.mk z45.1 z45.2.1 z45.2.2.1), (GGrid.mk z46.1 z46.2.1 z46.2.2.1), (GGrid.mk z47.1 z47.2.1 z47.2.2.1)], ((([(GGrid.mk z45.1 z45.2.1 z45.2.2.1), (GGrid.mk z46.1 z46.2.1 z46.2.2.1), (GGrid.mk z47.1 z47.2.1 z47.2.2.1)] : List GGrid).length) : Int), 0)) (z := z102) (by show keepSt _ _ _ _ = _; kernel_rfl) hz102 ?_
  rcases z102 with z103 | z104
  · replace hS := (show _ = _ from hS)
    simp only [Sum.elim_inl] at hS
    intro e st' _ hX
    obtain ⟨rfl, rfl⟩ : _ ∧ _ := hX
    refine zkBlkX ?_
    refine zkSeq ?_
    refine zrSeq ?_
    refine zrReg ?_
    refine zlRun (n := 1) (j := 1) rfl (by kernel_rfl) ?_
    refine zlEnd (by kernel_rfl) ?_
    refine zkSeq ?_
    refine zrRet ?_
    refine zkNil ?_
    exact endQ hS hQ (fRet (by kernel_rfl) ((congrArg (fun s => outR s 0 c5.res) (by kernel_rfl : finSt c5.fin _ = f5_fin true)).trans (f5_out true)))
  · simp only [Sum.elim_inr] at hS
    intro e st' _ hX
    obtain ⟨rfl, hX⟩ : _ ∧ _ := hX
    refine zkBlkR ?_
    refine zkSeqR ?_
    refine zkNil ?_
    exact endQ hS hQ (fRet (by kernel_rfl) ((congrArg (fun s => outR s 0 c5.res) hX).trans (f5_out z104)))
noncomputable def f5 (a1 : GGrid) (a2 : Int) (a3 : Int) (a4 : Int) (a5 : Int) (a6 : Int) (a7 : GPen) : Option (Bool) := (f10.bind fun z105 => (bif (!z105) then (f10.bind fun z106 => (some z106)) else ((f18 a1).bind fun z107 => (bif (!decide (z107 = 0)) then (f10.bind fun z108 => (some z108)) else (f5_j0 a1 a2 a3 a4 a5 a6 a7 )))))
theorem f5_ok (base : Orc) (d : Nat) (hd : 8 ≤ d) (a1 : GGrid) (a2 : Int) (a3 : Int) (a4 : Int) (a5 : Int) (a6 : Int) (a7 : GPen) (r : Bool) (hS : f5 a1 a2 a3 a4 a5 a6 a7 = some r) : lev codes base d 5 [(.agg ((.d (.int .i64 a1.Wide)) :: ((.d (.int .i64 a1.High)) :: ((.d (.sl a1.Cells.length (e_GCell.cells a1.Cells))) :: [])))), (.d (.int .i64 a2)), (.d (.int .i64 a3)), (.d (.int .i64 a4)), (.d (.int .i64 a5)), (.d (.int .i64 a6)), (.agg ((.d (.int .i64 a7.Flags)) :: ((.d (.int .i64 a7.Fore)) :: ((.d (.int .i64 a7.Back)) :: []))))] [] = some ((.d (.bool r)), []) := by
  refine lev_go codes5 rfl rfl (Nat.le_trans (Nat.le_of_ble_eq_true rfl) hd) fun Q hQ => ?_
  unfold f5 at hS
  show ZR _ Q c5_b [] _
  replace hQ : ∀ e st', f5_Q r e st' → Q e st' := hQ
  refine zrSeq ?_
  refine zrReg ?_
  refine zlRun (n := 3) (j := 3) rfl (by kernel_rfl) ?_
  refine zlEnd (by kernel_rfl) ?_
  refine zkSeq ?_
  refine zrSeq ?_
  refine zrSeq ?_
  refine zrReg ?_
  refine bindE hS (fun z105 hz105 hS => ?_)
  refine zlOp (d := some 24) (op := (.call 10 [])) (g := none) (v := (.d (.bool z105))) (ups := []) (j := 1) rfl (by kernel_rfl) (by kernel_rfl) (ev_call (args := []) (l := []) (r := (.d (.bool z105))) (by kernel_rfl) (by kernel_rfl) (f10_ok base (d - 1) (dpt hd rfl)  z105 hz105) (by kernel_rfl) (by kernel_rfl) (by kernel_rfl)) ?_
  refine zlRun (n := 2) (j := 3) rfl (by kernel_rfl) ?_
  refine zlSplit 26 (!z105) (by kernel_rfl) (fun hc => ?_) (fun hc => ?_)
  · replace hS := cond_t hc hS
    refine zlRun (n := 4) (j := 7) rfl (by kernel_rfl) ?_
    refine zlEnd (by kernel_rfl) ?_
    refine zkSeq ?_
    refine zrCondT (by kernel_rfl) ?_
    refine zrSeq ?_
    refine zrReg ?_
    refine bindE hS (fun z106 hz106 hS => ?_)
    refine zlOp (d := some 31) (op := (.call 10 [])) (g := none) (v := (.d (.bool z106))) (ups := []) (j := 1) rfl (by kernel_rfl) (by kernel_rfl) (ev_call (args := []) (l := []) (r := (.d (.bool z106))) (by kernel_rfl) (by kernel_rfl) (f10_ok base (d - 1) (dpt hd rfl)  z106 hz106) (by kernel_rfl) (by kernel_rfl) (by kernel_rfl)) ?_
    refine zlRun (n := 1) (j := 2) rfl (by kernel_rfl) ?_
    refine zlEnd (by kernel_rfl) ?_
    refine zkSeq ?_
    refine zrRet ?_
    refine zkSeqR ?_
    refine zkNil ?_
    exact endQ hS hQ (fRet (by kernel_rfl) ((congrArg (fun s => outR s 0 c5.res) (by kernel_rfl : finSt c5.fin _ = f5_fin z106)).trans (f5_out z106)))
  · replace hS := cond_f hc hS
    refine zlRun (n := 1) (j := 4) rfl (by kernel_rfl) ?_
    refine bindE hS (fun z107 hz107 hS => ?_)
    refine zlOp (d := some 28) (op := (.call 18 [(.tmp 27)])) (g := (some (26, false))) (v := (.d (.int .i64 z107))) (ups := []) (j := 5) rfl (by kernel_rfl) (by kernel_rfl) (ev_call (args := [(.agg ((.d (.int .i64 a1.Wide)) :: ((.d (.int .i64 a1.High)) :: ((.d (.sl a1.Cells.length (e_GCell.cells a1.Cells))) :: []))))]) (l := [(.agg ((.d (.int .i64 a1.Wide)) :: ((.d (.int .i64 a1.High)) :: ((.d (.sl a1.Cells.length (e_GCell.cells a1.Cells))) :: []))))]) (r := (.d (.int .i64 z107))) (by kernel_rfl) (by kernel_rfl) (f18_ok base (d - 1) (dpt hd rfl) a1 z107 hz107) (by kernel_rfl) (by kernel_rfl) (by kernel_rfl)) ?_
    refine zlBool (d := 29) (op := (.cmpI .neq (.tmp 28) (.const (.int .i64 0)))) (g := (some (26, false))) (j := 6) (!decide (z107 = 0)) rfl (by kernel_rfl) (by kernel_rfl) (by kernel_rfl) (fun hc => ?_) (fun hc => ?_)
    · replace hS := cond_t hc hS
      refine zlRun (n := 1) (j := 7) rfl (by kernel_rfl) ?_
      refine zlEnd (by kernel_rfl) ?_
      refine zkSeq ?_
      refine zrCondT (by kernel_rfl) ?_
      refine zrSeq ?_
      refine zrReg ?_
      refine bindE hS (fun z108 hz108 hS => ?_)
      refine zlOp (d := some 31) (op := (.call 10 [])) (g := none) (v := (.d (.bool z108))) (ups := []) (j := 1) rfl (by kernel_rfl) (by kernel_rfl) (ev_call (args := []) (l := []) (r := (.d (.bool z108))) (by kernel_rfl) (by kernel_rfl) (f10_ok base (d - 1) (dpt hd rfl)  z108 hz108) (by kernel_rfl) (by kernel_rfl) (by kernel_rfl)) ?_
      refine zlRun (n := 1) (j := 2) rfl (by kernel_rfl) ?_
      refine zlEnd (by kernel_rfl) ?_
      refine zkSeq ?_
      refine zrRet ?_
      refine zkSeqR ?_
      refine zkNil ?_
      exact endQ hS hQ (fRet (by kernel_rfl) ((congrArg (fun s => outR s 0 c5.res) (by kernel_rfl : finSt c5.fin _ = f5_fin z108)).trans (f5_out z108)))
    · replace hS := cond_f hc hS
      refine zlRun (n := 1) (j := 7) rfl (by kernel_rfl) ?_
      refine zlEnd (by kernel_rfl) ?_
      refine zkSeq ?_
      refine zrCondF (by kernel_rfl) ?_
      refine zrSkip ?_
      refine zkSeq ?_
      exact f5_j0_ok hd a1 a2 a3 a4 a5 a6 a7 hQ  hS (by kernel_rfl)
end Go.Proofs.Ytipipahbfakcaaa.Pm
