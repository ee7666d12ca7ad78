/- Typed functions, and that the codes are these. Printed by dec.py. -/
import Derived.Test.YtjapcjeijpcpiaaDGoE
namespace Go.Proofs.Ytjapcjeijpcpiaa.Pm
set_option maxRecDepth 1000000
set_option maxHeartbeats 20000000
set_option linter.unusedVariables false
/- farwriter/grid.move[[]farwriter/api.Cell] -/
def f39_fin (p41 : Int) (p42 : Int) (p43 : List GCell) (p44 : GPen) (p45 : List (List GCell)) (p46 : List (List GCell)) : St := ⟨(up (up (fun _ => .un) 2000000 .un) 6 (.r (.msl 64 0 0 p46.length))), (up (up (up (up (up (hB fun _ => 0) 64 ⟨0, some (.own 22 1 ((eSl e_GCell).cells p46))⟩) 0 ⟨0, some (.own 22 1 ((eSl e_GCell).cells p45))⟩) 2 ⟨0, some (.box ((.d (.int .i64 p44.Flags)) :: ((.d (.int .i64 p44.Fore)) :: ((.d (.int .i64 p44.Back)) :: []))))⟩) 3 ⟨0, some (.own 36 4 (e_GCell.cells p43))⟩) 1 ⟨0, some (.box ((.d (.int .i64 p41)) :: ((.d (.int .i64 p42)) :: ((.r (.msl 3 0 0 p43.length)) :: []))))⟩)⟩
theorem f39_out (p41 : Int) (p42 : Int) (p43 : List GCell) (p44 : GPen) (p45 : List (List GCell)) (p46 : List (List GCell)) : outR (f39_fin p41 p42 p43 p44 p45 p46) 4 c39.res = some ((.r (.own 0 22 1 p46.length ((eSl e_GCell).cells p46))), [(.own 22 1 ((eSl e_GCell).cells p45)), (.box ((.d (.int .i64 p41)) :: ((.d (.int .i64 p42)) :: ((.r (.msl 3 0 0 p43.length)) :: [])))), (.box ((.d (.int .i64 p44.Flags)) :: ((.d (.int .i64 p44.Fore)) :: ((.d (.int .i64 p44.Back)) :: [])))), (.own 36 4 (e_GCell.cells p43))]) := by
  exact out_of (ids := []) (ids' := [64]) (l := [(.r (.msl 64 0 0 p46.length))]) (by kernel_rfl) (by kernel_rfl) (o_own (eSl e_GCell) (e := 22) (k := 1) (xs := p46) (by kernel_rfl) rfl rfl rfl rfl)
def f39_Q (r : Int × Int × (List GCell) × GPen × (List (List GCell)) × (List (List GCell))) (e : PX) (st : St) : Prop := DoneF c39 4 ((.r (.own 0 22 1 r.2.2.2.2.2.length ((eSl e_GCell).cells r.2.2.2.2.2))), [(.own 22 1 ((eSl e_GCell).cells r.2.2.2.2.1)), (.box ((.d (.int .i64 r.1)) :: ((.d (.int .i64 r.2.1)) :: ((.r (.msl 3 0 0 r.2.2.1.length)) :: [])))), (.box ((.d (.int .i64 r.2.2.2.1.Flags)) :: ((.d (.int .i64 r.2.2.2.1.Fore)) :: ((.d (.int .i64 r.2.2.2.1.Back)) :: [])))), (.own 36 4 (e_GCell.cells r.2.2.1)), .box []]) e st
def f39_l0_J (a1 : Int) (a2 : List (List GCell)) (a3 : Int) (a4 : Int) (a5 : GPen) (a6 : List GCell) (x : (List (List GCell)) × Int) : St := ⟨(up (up (up (up (up (up (fun _ => .un) 12 (.d (.int .i64 x.2))) 11 (.d (.int .i64 (a2.length : Int)))) 7 (.r (.msl 64 0 0 x.1.length))) 2 (.fn 40 [(.r (.ptr 1 0 0)), (.r (.ptr 2 0 0))])) 1 (.d (.int .i64 a1))) 0 (.r (.msl 0 0 0 a2.length))), (up (up (up (up (up (hB fun _ => 0) 64 ⟨0, some (.own 22 1 ((eSl e_GCell).cells x.1))⟩) 0 ⟨0, some (.own 22 1 ((eSl e_GCell).cells a2))⟩) 2 ⟨0, some (.box ((.d (.int .i64 a5.Flags)) :: ((.d (.int .i64 a5.Fore)) :: ((.d (.int .i64 a5.Back)) :: []))))⟩) 3 ⟨0, some (.own 36 4 (e_GCell.cells a6))⟩) 1 ⟨0, some (.box ((.d (.int .i64 a3)) :: ((.d (.int .i64 a4)) :: ((.r (.msl 3 0 0 a6.length)) :: []))))⟩)⟩
def f39_l0_H (a1 : Int) (a2 : List (List GCell)) (a3 : Int) (a4 : Int) (a5 : GPen) (a6 : List GCell) (x : (List (List GCell)) × Int) (st : St) : Prop := keepSt [0, 1, 2, 7, 11, 12] [(1, .id 1), (3, .id 3), (2, .id 2), (0, .id 0), (64, .id 64)] [] st = f39_l0_J a1 a2 a3 a4 a5 a6 x
def f39_l0_e0_J (a1 : Int) (a2 : List (List GCell)) (a3 : Int) (a4 : Int) (a5 : GPen) (a6 : List GCell) (p40 : List (List GCell)) : St := ⟨(up (fun _ => .un) 7 (.r (.msl 64 0 0 p40.length))), (up (up (up (up (up (hB fun _ => 0) 64 ⟨0, some (.own 22 1 ((eSl e_GCell).cells p40))⟩) 0 ⟨0, some (.own 22 1 ((eSl e_GCell).cells a2))⟩) 2 ⟨0, some (.box ((.d (.int .i64 a5.Flags)) :: ((.d (.int .i64 a5.Fore)) :: ((.d (.int .i64 a5.Back)) :: []))))⟩) 3 ⟨0, some (.own 36 4 (e_GCell.cells a6))⟩) 1 ⟨0, some (.box ((.d (.int .i64 a3)) :: ((.d (.int .i64 a4)) :: ((.r (.msl 3 0 0 a6.length)) :: []))))⟩)⟩
def f39_l0_X (a1 : Int) (a2 : List (List GCell)) (a3 : Int) (a4 : Int) (a5 : GPen) (a6 : List GCell) (z : ((List (List GCell)))) (e : PX) (st : St) : Prop := e = .exit 0 ∧ st = f39_l0_e0_J a1 a2 a3 a4 a5 a6 z
def f39_l0_j3_J (a1 : Int) (a2 : List (List GCell)) (a3 : Int) (a4 : Int) (a5 : GPen) (a6 : List GCell) (p57 : List (List GCell)) (p58 : Int) : St := ⟨(up (up (up (up (up (up (fun _ => .un) 12 (.d (.int .i64 p58))) 11 (.d (.int .i64 (a2.length : Int)))) 7 (.r (.msl 64 0 0 p57.length))) 2 (.fn 40 [(.r (.ptr 1 0 0)), (.r (.ptr 2 0 0))])) 1 (.d (.int .i64 a1))) 0 (.r (.msl 0 0 0 a2.length))), (up (up (up (up (up (hB fun _ => 0) 64 ⟨0, some (.own 22 1 ((eSl e_GCell).cells p57))⟩) 0 ⟨0, some (.own 22 1 ((eSl e_GCell).cells a2))⟩) 2 ⟨0, some (.box ((.d (.int .i64 a5.Flags)) :: ((.d (.int .i64 a5.Fore)) :: ((.d (.int .i64 a5.Back)) :: []))))⟩) 3 ⟨0, some (.own 36 4 (e_GCell.cells a6))⟩) 1 ⟨0, some (.box ((.d (.int .i64 a3)) :: ((.d (.int .i64 a4)) :: ((.r (.msl 3 0 0 a6.length)) :: []))))⟩)⟩
noncomputable def f39_l0_j3 (a1 : Int) (a2 : List (List GCell)) (a3 : Int) (a4 : Int) (a5 : GPen) (a6 : List GCell) (p57 : List (List GCell)) (p58 : Int) : Option (((List (List GCell)) × Int) ⊕ (((List (List GCell))))) := ((f40 a3 a4 a5 []).bind fun z16 => ((app? 24 p57 ([z16] : List (List GCell))).bind fun z17 => (some (.inl (z17, (IntKind.i64.wrap (p58 + 1)))))))
theorem f39_l0_j3_ok {base : Orc} {d : Nat} (hd : 6 ≤ d) (a1 : Int) (a2 : List (List GCell)) (a3 : Int) (a4 : Int) (a5 : GPen) (a6 : List GCell) {r : ((List (List GCell)) × Int) ⊕ (((List (List GCell))))} {Q : PX → St → Prop} (hQ : ∀ e st', finL (f39_l0_H a1 a2 a3 a4 a5 a6) (f39_l0_X a1 a2 a3 a4 a5 a6) r e st' → Q e st') (p57 : List (List GCell)) (p58 : Int) (hS : f39_l0_j3 a1 a2 a3 a4 a5 a6 p57 p58 = some r) {st : St} (he : keepSt [0, 1, 2, 7, 11, 12] [(1, .id 1), (3, .id 3), (2, .id 2), (0, .id 0), (64, .id 64)] [] st = f39_l0_j3_J a1 a2 a3 a4 a5 a6 p57 p58) : ZR (lev codes base (d - 1)) Q c39_1 [.blk 1, .seq c39_2] st := by
  refine zrKeep he ?_
  unfold f39_l0_j3 at hS
  refine zrReg ?_
  refine zlRun (n := 2) (j := 2) rfl (by kernel_rfl) ?_
  refine bindE hS (fun z16 hz16 hS => ?_)
  refine zlOp (d := some 35) (op := (.callv (.tmp 34) [])) (g := none) (v := (.r (.msl 288 1 0 z16.length))) (ups := [(288, ⟨1, some (.own 36 4 (e_GCell.cells z16))⟩)]) (j := 3) rfl (by kernel_rfl) (by kernel_rfl) (ev_callv (f := 40) (cs := [(.r (.ptr 1 0 0)), (.r (.ptr 2 0 0))]) (by kernel_rfl) (args := [(.r (.ptr 1 0 0)), (.r (.ptr 2 0 0))]) (l := [(.rptr [.int .i64 a3, .int .i64 a4, .un]), (.rptr (e_GPen.enc a5 ++ []))]) (r := (.r (.own 0 36 4 z16.length (e_GCell.cells z16)))) (by kernel_rfl) (by kernel_rfl) (f40_ok base (d - 1) (dpt hd rfl) a3 a4 a5 [] z16 hz16) (by simp only [free_own e_GCell (fun _ => rfl), free_tup, free_agg, free_nl, free_cs, free_int, free_bool, free_str, free_un, free_ni, free_s0, Bool.and_true, Bool.or_true, Bool.and_self]) (by kernel_rfl) (by kernel_rfl)) ?_
  refine zlOp (d := some 36) (op := (.bsl 22 1 1 [(1, (.slice .none 0 0))] [(0, (1, (.tmp 35)))])) (g := none) (v := (.r (.msl 296 1 0 (([z16] : List (List GCell)).length)))) (ups := [(288, ⟨2, none⟩), (296, ⟨1, some (.own 22 1 ((eSl e_GCell).cells ([z16])))⟩)]) (j := 4) rfl (by kernel_rfl) (by kernel_rfl) ((by kernel_rfl : peval _ _ 36 (ρof _) (.bsl 22 1 1 [(1, (.slice .none 0 0))] [(0, (1, (.tmp 35)))]) = some ((.r (.msl 296 1 0 (([z16] : List (List GCell)).length))), [(288, ⟨2, none⟩), (296, ⟨1, some (.own 22 1 [.sl z16.length (((e_GCell.cells z16).drop (0 * e_GCell.k)).take (z16.length * e_GCell.k))])⟩)])).trans (by simp only [Enc.frz]; rfl)) ?_
  refine bindE hS (fun z17 hz17 hS => ?_)
  refine zlOp (d := some 37) (op := (.app 22 1 24 (.tmp 33) (.tmp 36))) (g := none) (v := (.r (.msl 64 1 0 z17.length))) (ups := [(64, ⟨1, some (.own 22 1 ((eSl e_GCell).cells z17))⟩)]) (j := 5) rfl (by kernel_rfl) (by kernel_rfl) (ev_app (eSl e_GCell) (b := 64) (g := 0) (n := p57.length) (xs := p57) (ys := [z16]) ((congrArg (asL _) (by kernel_rfl : ρof _ (.tmp 36) = (.r (.msl 296 1 0 (([z16] : List (List GCell)).length))))).trans (as_whole (eSl e_GCell) (e := 22) (k := 1) (xs := [z16]) (by kernel_rfl) rfl rfl)) rfl (by kernel_rfl) rfl (by kernel_rfl) rfl hz17) ?_
  refine zlRun (n := 1) (j := 6) rfl (by kernel_rfl) ?_
  refine zlEnd (by kernel_rfl) ?_
  refine zkBlk ?_
  refine zkSeq ?_
  refine zrReg ?_
  refine zlRun (n := 2) (j := 2) rfl (by kernel_rfl) ?_
  refine zlEnd (by kernel_rfl) ?_
  refine zkNil ?_
  exact endQ hS hQ (finL_n (by show keepSt _ _ _ _ = _; kernel_rfl))
def f39_l0_j2_J (a1 : Int) (a2 : List (List GCell)) (a3 : Int) (a4 : Int) (a5 : GPen) (a6 : List GCell) (p53 : List (List GCell)) (p54 : Int) : St := ⟨(up (up (up (up (up (up (fun _ => .un) 12 (.d (.int .i64 p54))) 11 (.d (.int .i64 (a2.length : Int)))) 7 (.r (.msl 64 0 0 p53.length))) 2 (.fn 40 [(.r (.ptr 1 0 0)), (.r (.ptr 2 0 0))])) 1 (.d (.int .i64 a1))) 0 (.r (.msl 0 0 0 a2.length))), (up (up (up (up (up (hB fun _ => 0) 64 ⟨0, some (.own 22 1 ((eSl e_GCell).cells p53))⟩) 0 ⟨0, some (.own 22 1 ((eSl e_GCell).cells a2))⟩) 2 ⟨0, some (.box ((.d (.int .i64 a5.Flags)) :: ((.d (.int .i64 a5.Fore)) :: ((.d (.int .i64 a5.Back)) :: []))))⟩) 3 ⟨0, some (.own 36 4 (e_GCell.cells a6))⟩) 1 ⟨0, some (.box ((.d (.int .i64 a3)) :: ((.d (.int .i64 a4)) :: ((.r (.msl 3 0 0 a6.length)) :: []))))⟩)⟩
noncomputable def f39_l0_j2 (a1 : Int) (a2 : List (List GCell)) (a3 : Int) (a4 : Int) (a5 : GPen) (a6 : List GCell) (p53 : List (List GCell)) (p54 : Int) : Option (((List (List GCell)) × Int) ⊕ (((List (List GCell))))) := (bif (decide (0 ≤ (IntKind.i64.wrap (p54 - a1)))) then (bif (decide ((IntKind.i64.wrap (p54 - a1)) < (a2.length : Int))) then ((inR (IntKind.i64.wrap (p54 - a1)) a2.length).bind fun m18 => ((a2[m18]?).bind fun z19 => ((app? 24 p53 ([z19] : List (List GCell))).bind fun z20 => (some (.inl (z20, (IntKind.i64.wrap (p54 + 1)))))))) else (f39_l0_j3 a1 a2 a3 a4 a5 a6 p53 p54)) else (f39_l0_j3 a1 a2 a3 a4 a5 a6 p53 p54))
theorem f39_l0_j2_ok {base : Orc} {d : Nat} (hd : 6 ≤ d) (a1 : Int) (a2 : List (List GCell)) (a3 : Int) (a4 : Int) (a5 : GPen) (a6 : List GCell) {r : ((List (List GCell)) × Int) ⊕ (((List (List GCell))))} {Q : PX → St → Prop} (hQ : ∀ e st', finL (f39_l0_H a1 a2 a3 a4 a5 a6) (f39_l0_X a1 a2 a3 a4 a5 a6) r e st' → Q e st') (p53 : List (List GCell)) (p54 : Int) (hS : f39_l0_j2 a1 a2 a3 a4 a5 a6 p53 p54 = some r) {st : St} (he : keepSt [0, 1, 2, 7, 11, 12] [(1, .id 1), (3, .id 3), (2, .id 2), (0, .id 0), (64, .id 64)] [] st = f39_l0_j2_J a1 a2 a3 a4 a5 a6 p53 p54) : ZR (lev codes base (d - 1)) Q c39_3 [] st := by
  refine zrKeep he ?_
  unfold f39_l0_j2 at hS
  refine zrSeq ?_
  refine zrBlk ?_
  refine zrSeq ?_
  refine zrReg ?_
  refine zlRun (n := 2) (j := 2) rfl (by kernel_rfl) ?_
  refine zlEnd (by kernel_rfl) ?_
  refine zkSeq ?_
  refine zrSeq ?_
  refine zrReg ?_
  refine zlRun (n := 4) (j := 4) rfl (by kernel_rfl) ?_
  refine zlEnd (by kernel_rfl) ?_
  refine zkSeq ?_
  refine zrSeq ?_
  refine zrReg ?_
  refine zlRun (n := 1) (j := 1) rfl (by kernel_rfl) ?_
  refine zlBool (d := 19) (op := (.cmpI .geq (.tmp 18) (.const (.int .i64 0)))) (g := none) (j := 2) (decide (0 ≤ (IntKind.i64.wrap (p54 - a1)))) rfl (by kernel_rfl) (by kernel_rfl) (by kernel_rfl) (fun hc => ?_) (fun hc => ?_)
  · replace hS := cond_t hc hS
    refine zlRun (n := 4) (j := 6) rfl (by kernel_rfl) ?_
    refine zlBool (d := 24) (op := (.cmpI .lss (.tmp 21) (.tmp 23))) (g := (some (20, true))) (j := 7) (decide ((IntKind.i64.wrap (p54 - a1)) < (a2.length : Int))) rfl (by kernel_rfl) (by kernel_rfl) (by kernel_rfl) (fun hc => ?_) (fun hc => ?_)
    · replace hS := cond_t hc hS
      refine zlRun (n := 1) (j := 8) rfl (by kernel_rfl) ?_
      refine zlEnd (by kernel_rfl) ?_
      refine zkSeq ?_
      refine zrCondT (by kernel_rfl) ?_
      refine zrReg ?_
      refine zlRun (n := 3) (j := 3) rfl (by kernel_rfl) ?_
      refine bindE hS (fun m18 hm18 hS => ?_)
      refine zlOp (d := some 29) (op := (.ixS 22 1 (.tmp 27) (.tmp 28))) (g := none) (v := (.r (.ptr 0 0 ((0 + m18) * 1)))) (ups := []) (j := 4) rfl (by kernel_rfl) (by kernel_rfl) (ev_ixM (kk := .i64) (b := 0) (g := 0) (l := 0) (n := a2.length) (j := (IntKind.i64.wrap (p54 - a1))) (cs := (eSl e_GCell).cells a2) (by kernel_rfl) (by kernel_rfl) (by kernel_rfl) hm18) ?_
      refine bindE hS (fun z19 hz19 hS => ?_)
      refine zlOp (d := some 30) (op := (.load .false 1 (.tmp 29))) (g := none) (v := (.d (.sl z19.length (e_GCell.cells z19)))) (ups := []) (j := 5) rfl (by kernel_rfl) (by kernel_rfl) (ev_loadM (eSl e_GCell) (b := 0) (g := 0) (o := (0 + m18) * 1) (e := 22) (k := 1) (m := m18) (fo := 0) (xs := a2) (by kernel_rfl) (by kernel_rfl) (by rw [Nat.zero_add]; rfl) hz19 (by kernel_rfl) (by kernel_rfl) (by kernel_rfl)) ?_
      refine zlRun (n := 1) (j := 6) rfl (by kernel_rfl) ?_
      refine bindE hS (fun z20 hz20 hS => ?_)
      refine zlOp (d := some 32) (op := (.app 22 1 24 (.tmp 26) (.tmp 31))) (g := none) (v := (.r (.msl 64 1 0 z20.length))) (ups := [(64, ⟨1, some (.own 22 1 ((eSl e_GCell).cells z20))⟩)]) (j := 7) rfl (by kernel_rfl) (by kernel_rfl) (ev_app (eSl e_GCell) (b := 64) (g := 0) (n := p53.length) (xs := p53) (ys := [z19]) ((congrArg (asL _) (by kernel_rfl : ρof _ (.tmp 31) = (.r (.msl 256 1 0 (([z19] : List (List GCell)).length))))).trans (as_whole (eSl e_GCell) (e := 22) (k := 1) (xs := [z19]) (by kernel_rfl) rfl rfl)) rfl (by kernel_rfl) rfl (by kernel_rfl) rfl hz20) ?_
      refine zlRun (n := 1) (j := 8) rfl (by kernel_rfl) ?_
      refine zlEnd (by kernel_rfl) ?_
      refine zkBlk ?_
      refine zkSeq ?_
      refine zrReg ?_
      refine zlRun (n := 2) (j := 2) rfl (by kernel_rfl) ?_
      refine zlEnd (by kernel_rfl) ?_
      refine zkNil ?_
      exact endQ hS hQ (finL_n (by show keepSt _ _ _ _ = _; kernel_rfl))
    · replace hS := cond_f hc hS
      refine zlRun (n := 1) (j := 8) rfl (by kernel_rfl) ?_
      refine zlEnd (by kernel_rfl) ?_
      refine zkSeq ?_
      refine zrCondF (by kernel_rfl) ?_
      exact f39_l0_j3_ok hd a1 a2 a3 a4 a5 a6 hQ p53 p54 hS (by kernel_rfl)
  · replace hS := cond_f hc hS
    refine zlRun (n := 6) (j := 8) rfl (by kernel_rfl) ?_
    refine zlEnd (by kernel_rfl) ?_
    refine zkSeq ?_
    refine zrCondF (by kernel_rfl) ?_
    exact f39_l0_j3_ok hd a1 a2 a3 a4 a5 a6 hQ p53 p54 hS (by kernel_rfl)
def f39_l0_j1_J (a1 : Int) (a2 : List (List GCell)) (a3 : Int) (a4 : Int) (a5 : GPen) (a6 : List GCell) (p50 : List (List GCell)) (p51 : Int) (p52 : Bool) : St := ⟨(up (up (up (up (up (up (up (fun _ => .un) 13 (.d (.bool p52))) 12 (.d (.int .i64 p51))) 11 (.d (.int .i64 (a2.length : Int)))) 7 (.r (.msl 64 0 0 p50.length))) 2 (.fn 40 [(.r (.ptr 1 0 0)), (.r (.ptr 2 0 0))])) 1 (.d (.int .i64 a1))) 0 (.r (.msl 0 0 0 a2.length))), (up (up (up (up (up (hB fun _ => 0) 64 ⟨0, some (.own 22 1 ((eSl e_GCell).cells p50))⟩) 0 ⟨0, some (.own 22 1 ((eSl e_GCell).cells a2))⟩) 2 ⟨0, some (.box ((.d (.int .i64 a5.Flags)) :: ((.d (.int .i64 a5.Fore)) :: ((.d (.int .i64 a5.Back)) :: []))))⟩) 3 ⟨0, some (.own 36 4 (e_GCell.cells a6))⟩) 1 ⟨0, some (.box ((.d (.int .i64 a3)) :: ((.d (.int .i64 a4)) :: ((.r (.msl 3 0 0 a6.length)) :: []))))⟩)⟩
noncomputable def f39_l0_j1 (a1 : Int) (a2 : List (List GCell)) (a3 : Int) (a4 : Int) (a5 : GPen) (a6 : List GCell) (p50 : List (List GCell)) (p51 : Int) (p52 : Bool) : Option (((List (List GCell)) × Int) ⊕ (((List (List GCell))))) := (bif p52 then (f39_l0_j2 a1 a2 a3 a4 a5 a6 p50 p51) else (some (.inr p50)))
theorem f39_l0_j1_ok {base : Orc} {d : Nat} (hd : 6 ≤ d) (a1 : Int) (a2 : List (List GCell)) (a3 : Int) (a4 : Int) (a5 : GPen) (a6 : List GCell) {r : ((List (List GCell)) × Int) ⊕ (((List (List GCell))))} {Q : PX → St → Prop} (hQ : ∀ e st', finL (f39_l0_H a1 a2 a3 a4 a5 a6) (f39_l0_X a1 a2 a3 a4 a5 a6) r e st' → Q e st') (p50 : List (List GCell)) (p51 : Int) (p52 : Bool) (hS : f39_l0_j1 a1 a2 a3 a4 a5 a6 p50 p51 p52 = some r) {st : St} (he : keepSt [0, 1, 2, 7, 11, 12, 13] [(1, .id 1), (3, .id 3), (2, .id 2), (0, .id 0), (64, .id 64)] [] st = f39_l0_j1_J a1 a2 a3 a4 a5 a6 p50 p51 p52) : ZR (lev codes base (d - 1)) Q c39_4 [] st := by
  refine zrKeep he ?_
  unfold f39_l0_j1 at hS
  refine zrSeq ?_
  refine zrSplit 13 p52 (by kernel_rfl) (fun hc => ?_) (fun hc => ?_)
  · replace hS := cond_t hc hS
    refine zrCondT (by kernel_rfl) ?_
    refine zrSkip ?_
    refine zkSeq ?_
    exact f39_l0_j2_ok hd a1 a2 a3 a4 a5 a6 hQ p50 p51 hS (by kernel_rfl)
  · replace hS := cond_f hc hS
    refine zrCondF (by kernel_rfl) ?_
    refine zrKeep (J := f39_l0_e0_J a1 a2 a3 a4 a5 a6 p50) (by kernel_rfl) ?_
    refine zrExit ?_
    refine zkSeqX ?_
    refine zkNil ?_
    exact endQ hS hQ (finL_x (by intro h; cases h) (by show _ = _ ∧ _ = _; exact ⟨rfl, rfl⟩))
noncomputable def f39_l0 (a1 : Int) (a2 : List (List GCell)) (a3 : Int) (a4 : Int) (a5 : GPen) (a6 : List GCell) (x : (List (List GCell)) × Int) : Option (((List (List GCell)) × Int) ⊕ (((List (List GCell))))) := (bif (decide (x.2 < (a2.length : Int))) then (f39_l0_j1 a1 a2 a3 a4 a5 a6 x.1 x.2 true) else (f39_l0_j1 a1 a2 a3 a4 a5 a6 x.1 x.2 false))
theorem f39_l0_ok {base : Orc} {d : Nat} (hd : 6 ≤ d) (a1 : Int) (a2 : List (List GCell)) (a3 : Int) (a4 : Int) (a5 : GPen) (a6 : List GCell) {r : ((List (List GCell)) × Int) ⊕ (((List (List GCell))))} {Q : PX → St → Prop} (hQ : ∀ e st', finL (f39_l0_H a1 a2 a3 a4 a5 a6) (f39_l0_X a1 a2 a3 a4 a5 a6) r e st' → Q e st') {x : (List (List GCell)) × Int} (hS : f39_l0 a1 a2 a3 a4 a5 a6 x = some r) {st : St} (he : f39_l0_H a1 a2 a3 a4 a5 a6 x st) : ZR (lev codes base (d - 1)) Q c39_5 [] st := by
  refine zrKeep he ?_
  unfold f39_l0 at hS
  refine zrSeq ?_
  refine zrReg ?_
  refine zlBool (d := 13) (op := (.cmpI .lss (.tmp 12) (.tmp 11))) (g := none) (j := 1) (decide (x.2 < (a2.length : Int))) rfl (by kernel_rfl) (by kernel_rfl) (by kernel_rfl) (fun hc => ?_) (fun hc => ?_)
  · replace hS := cond_t hc hS
    refine zlEnd (by kernel_rfl) ?_
    refine zkSeq ?_
    exact f39_l0_j1_ok hd a1 a2 a3 a4 a5 a6 hQ x.1 x.2 true hS (by kernel_rfl)
  · replace hS := cond_f hc hS
    refine zlEnd (by kernel_rfl) ?_
    refine zkSeq ?_
    exact f39_l0_j1_ok hd a1 a2 a3 a4 a5 a6 hQ x.1 x.2 false hS (by kernel_rfl)
noncomputable def f39 (a1 : Int) (a2 : List (List GCell)) (a3 : Int) (a4 : Int) (a5 : GPen) (a6 : List GCell) : Option (Int × Int × (List GCell) × GPen × (List (List GCell)) × (List (List GCell))) := ((loopO (f39_l0 a1 a2 a3 a4 a5 a6) ([], 0)).bind fun z21 => (some (a3, a4, a6, a5, a2, z21)))
theorem f39_ok (base : Orc) (d : Nat) (hd : 6 ≤ d) (a1 : Int) (a2 : List (List GCell)) (a3 : Int) (a4 : Int) (a5 : GPen) (a6 : List GCell) (r : Int × Int × (List GCell) × GPen × (List (List GCell)) × (List (List GCell))) (hS : f39 a1 a2 a3 a4 a5 a6 = some r) : lev codes base d 39 [(.r (.msl 0 0 0 a2.length)), (.d (.int .i64 a1)), (.fn 40 [(.r (.ptr 1 0 0)), (.r (.ptr 2 0 0))])] [(.own 22 1 ((eSl e_GCell).cells a2)), (.box ((.d (.int .i64 a3)) :: ((.d (.int .i64 a4)) :: ((.r (.msl 3 0 0 a6.length)) :: [])))), (.box ((.d (.int .i64 a5.Flags)) :: ((.d (.int .i64 a5.Fore)) :: ((.d (.int .i64 a5.Back)) :: [])))), (.own 36 4 (e_GCell.cells a6))] = some ((.r (.own 0 22 1 r.2.2.2.2.2.length ((eSl e_GCell).cells r.2.2.2.2.2))), [(.own 22 1 ((eSl e_GCell).cells r.2.2.2.2.1)), (.box ((.d (.int .i64 r.1)) :: ((.d (.int .i64 r.2.1)) :: ((.r (.msl 3 0 0 r.2.2.1.length)) :: [])))), (.box ((.d (.int .i64 r.2.2.2.1.Flags)) :: ((.d (.int .i64 r.2.2.2.1.Fore)) :: ((.d (.int .i64 r.2.2.2.1.Back)) :: [])))), (.own 36 4 (e_GCell.cells r.2.2.1)), .box []]) := by
  refine lev_go codes39 rfl rfl (Nat.le_trans (Nat.le_of_ble_eq_true rfl) hd) fun Q hQ => ?_
  unfold f39 at hS
  show ZR _ Q c39_b [] _
  replace hQ : ∀ e st', f39_Q r e st' → Q e st' := hQ
  refine zrSeq ?_
  refine zrReg ?_
  refine zlRun (n := 1) (j := 1) rfl (by kernel_rfl) ?_
  refine zlEnd (by kernel_rfl) ?_
  refine zkSeq ?_
  refine zrSeq ?_
  refine zrReg ?_
  refine zlRun (n := 1) (j := 1) rfl (by kernel_rfl) ?_
  refine zlEnd (by kernel_rfl) ?_
  refine zkSeq ?_
  refine zrSeq ?_
  refine zrSeq ?_
  refine zrReg ?_
  refine zlRun (n := 3) (j := 3) rfl (by kernel_rfl) ?_
  refine zlEnd (by kernel_rfl) ?_
  refine zkSeq ?_
  refine zrBlk ?_
  refine bindE hS (fun z21 hz21 hS => ?_)
  refine zrLoop (f39_l0_H a1 a2 a3 a4 a5 a6) (f39_l0_X a1 a2 a3 a4 a5 a6) (fun x st r Q h0 hS hQ => f39_l0_ok hd a1 a2 a3 a4 a5 a6 hQ hS h0) (x := ([], 0)) (z := z21) (by show keepSt _ _ _ _ = _; kernel_rfl) hz21 ?_
  intro e st' _ hX
  obtain ⟨rfl, rfl⟩ : _ ∧ _ := hX
  refine zkBlkX ?_
  refine zkSeq ?_
  refine zrSeq ?_
  refine zrReg ?_
  refine zlRun (n := 2) (j := 2) rfl (by kernel_rfl) ?_
  refine zlEnd (by kernel_rfl) ?_
  refine zkSeq ?_
  refine zrRet ?_
  refine zkNil ?_
  exact endQ hS hQ (fRetX (by kernel_rfl) (by kernel_rfl : finSt c39.fin _ = f39_fin a3 a4 a6 a5 a2 z21) (by kernel_rfl) (f39_out a3 a4 a6 a5 a2 z21))
/- farwriter/grid.ScrollIn -/
def f28_fin (p56 : List GCell) : St := ⟨(up (fun _ => .un) 2000000 .un), (up (hB fun _ => 0) 0 ⟨0, some (.own 36 4 (e_GCell.cells p56))⟩)⟩
theorem f28_out (p56 : List GCell) : outR (f28_fin p56) 1 c28.res = some ((.tup []), [(.own 36 4 (e_GCell.cells p56))]) := by
  kernel_rfl
def f28_Q (r : (List GCell)) (e : PX) (st : St) : Prop := DoneF c28 1 ((.tup []), [(.own 36 4 (e_GCell.cells r)), .box []]) e st
def f28_l1_J (a1 : Int) (a2 : Int) (a3 : Int) (a4 : Int) (a5 : Int) (a6 : GPen) (a7 : List GCell) (x : (List GCell) × Int × Int × (List (List GCell)) × Int × Int) : St := ⟨(up (up (up (up (up (fun _ => .un) 34 (.d (.int .i64 x.2.2.2.2.2))) 33 (.d (.int .i64 x.2.2.2.2.1))) 32 (.r (.msl 256 0 0 x.2.2.2.1.length))) 5 (.r (.ptr 48 0 0))) 1 (.d (.int .i64 a3))), (up (up (up (hB fun _ => 0) 256 ⟨0, some (.own 22 1 ((eSl e_GCell).cells x.2.2.2.1))⟩) 48 ⟨0, some (.box ((.d (.int .i64 x.2.1)) :: ((.d (.int .i64 x.2.2.1)) :: ((.r (.msl 0 0 0 x.1.length)) :: []))))⟩) 0 ⟨0, some (.own 36 4 (e_GCell.cells x.1))⟩)⟩
def f28_l1_H (a1 : Int) (a2 : Int) (a3 : Int) (a4 : Int) (a5 : Int) (a6 : GPen) (a7 : List GCell) (x : (List GCell) × Int × Int × (List (List GCell)) × Int × Int) (st : St) : Prop := keepSt [1, 5, 32, 33, 34] [(0, .id 0), (48, .id 48), (256, .id 256)] [] st = f28_l1_J a1 a2 a3 a4 a5 a6 a7 x
def f28_l1_e2_J (a1 : Int) (a2 : Int) (a3 : Int) (a4 : Int) (a5 : Int) (a6 : GPen) (a7 : List GCell) (p96 : List GCell) : St := ⟨(fun _ => .un), (up (hB fun _ => 0) 0 ⟨0, some (.own 36 4 (e_GCell.cells p96))⟩)⟩
def f28_l1_X (a1 : Int) (a2 : Int) (a3 : Int) (a4 : Int) (a5 : Int) (a6 : GPen) (a7 : List GCell) (z : ((List GCell))) (e : PX) (st : St) : Prop := e = .exit 2 ∧ st = f28_l1_e2_J a1 a2 a3 a4 a5 a6 a7 z
def f28_l1_j3_J (a1 : Int) (a2 : Int) (a3 : Int) (a4 : Int) (a5 : Int) (a6 : GPen) (a7 : List GCell) (p111 : List GCell) (p112 : Int) (p113 : Int) (p114 : List (List GCell)) (p115 : Int) (p116 : Int) : St := ⟨(up (up (up (up (up (fun _ => .un) 34 (.d (.int .i64 p116))) 33 (.d (.int .i64 p115))) 32 (.r (.msl 256 0 0 p114.length))) 5 (.r (.ptr 48 0 0))) 1 (.d (.int .i64 a3))), (up (up (up (hB fun _ => 0) 256 ⟨0, some (.own 22 1 ((eSl e_GCell).cells p114))⟩) 48 ⟨0, some (.box ((.d (.int .i64 p112)) :: ((.d (.int .i64 p113)) :: ((.r (.msl 0 0 0 p111.length)) :: []))))⟩) 0 ⟨0, some (.own 36 4 (e_GCell.cells p111))⟩)⟩
noncomputable def f28_l1_j3 (a1 : Int) (a2 : Int) (a3 : Int) (a4 : Int) (a5 : Int) (a6 : GPen) (a7 : List GCell) (p111 : List GCell) (p112 : Int) (p113 : Int) (p114 : List (List GCell)) (p115 : Int) (p116 : Int) : Option (((List GCell) × Int × Int × (List (List GCell)) × Int × Int) ⊕ (((List GCell)))) := ((inR p116 p114.length).bind fun m58 => ((p114[m58]?).bind fun z59 => ((f18v1 p112 p113 (IntKind.i64.wrap (a3 + p116)) p111).bind fun z60 => ((chk (decide (z60.1.length = p111.length))).bind fun z61 => ((chk (decide (z60.2.1 + z60.2.2 ≤ z60.1.length))).bind fun z62 => ((some (cpyL z60.1 z60.2.1 z60.2.2 z59)).bind fun z63 => (some (.inl (z63, p112, p113, p114, p115, (IntKind.i64.wrap (p116 + 1)))))))))))
theorem f28_l1_j3_ok {base : Orc} {d : Nat} (hd : 7 ≤ d) (a1 : Int) (a2 : Int) (a3 : Int) (a4 : Int) (a5 : Int) (a6 : GPen) (a7 : List GCell) {r : ((List GCell) × Int × Int × (List (List GCell)) × Int × Int) ⊕ (((List GCell)))} {Q : PX → St → Prop} (hQ : ∀ e st', finL (f28_l1_H a1 a2 a3 a4 a5 a6 a7) (f28_l1_X a1 a2 a3 a4 a5 a6 a7) r e st' → Q e st') (p111 : List GCell) (p112 : Int) (p113 : Int) (p114 : List (List GCell)) (p115 : Int) (p116 : Int) (hS : f28_l1_j3 a1 a2 a3 a4 a5 a6 a7 p111 p112 p113 p114 p115 p116 = some r) {st : St} (he : keepSt [1, 5, 32, 33, 34] [(0, .id 0), (48, .id 48), (256, .id 256)] [] st = f28_l1_j3_J a1 a2 a3 a4 a5 a6 a7 p111 p112 p113 p114 p115 p116) : ZR (lev codes base (d - 1)) Q c28_1 [] st := by
  refine zrKeep he ?_
  unfold f28_l1_j3 at hS
  refine zrSeq ?_
  refine zrBlk ?_
  refine zrSeq ?_
  refine zrReg ?_
  refine zlRun (n := 1) (j := 1) rfl (by kernel_rfl) ?_
  refine bindE hS (fun m58 hm58 hS => ?_)
  refine zlOp (d := some 37) (op := (.ixS 22 1 (.tmp 32) (.tmp 34))) (g := none) (v := (.r (.ptr 256 0 ((0 + m58) * 1)))) (ups := []) (j := 2) rfl (by kernel_rfl) (by kernel_rfl) (ev_ixM (kk := .i64) (b := 256) (g := 0) (l := 0) (n := p114.length) (j := p116) (cs := (eSl e_GCell).cells p114) (by kernel_rfl) (by kernel_rfl) (by kernel_rfl) hm58) ?_
  refine bindE hS (fun z59 hz59 hS => ?_)
  refine zlOp (d := some 38) (op := (.load .false 1 (.tmp 37))) (g := none) (v := (.d (.sl z59.length (e_GCell.cells z59)))) (ups := []) (j := 3) rfl (by kernel_rfl) (by kernel_rfl) (ev_loadM (eSl e_GCell) (b := 256) (g := 0) (o := (0 + m58) * 1) (e := 22) (k := 1) (m := m58) (fo := 0) (xs := p114) (by kernel_rfl) (by kernel_rfl) (by rw [Nat.zero_add]; rfl) hz59 (by kernel_rfl) (by kernel_rfl) (by kernel_rfl)) ?_
  refine zlRun (n := 2) (j := 5) rfl (by kernel_rfl) ?_
  refine zlEnd (by kernel_rfl) ?_
  refine zkSeq ?_
  refine zrReg ?_
  refine zlRun (n := 4) (j := 4) rfl (by kernel_rfl) ?_
  refine bindE hS (fun z60 hz60 hS => ?_)
  refine bindE hS (fun z61 hz61 hS => ?_)
  refine zlOp (d := some 43) (op := (.callr 18 [(.tmp 39), (.tmp 42)])) (g := none) (j := 5) rfl (by kernel_rfl) (by kernel_rfl) (ev_callrXA (ids := [0]) (bs := [(.own 36 4 (e_GCell.cells p111))]) (by kernel_rfl) (by kernel_rfl) (by kernel_rfl) (by kernel_rfl) (f18v1_ok base (d - 1) (dpt hd rfl) p112 p113 (IntKind.i64.wrap (a3 + p116)) p111 z60 hz60) (by kernel_rfl) (sm_own e_GCell (e1 := 36) (k1 := 4) (xs := p111) (ys := z60.1) (by kernel_rfl) hz61 sm_nil) (by kernel_rfl)) ?_
  have lz61 : p111.length = z60.1.length := (of_decide_eq_true (chk_t hz61)).symm
  try delta f28_l1_j3_J
  try rw [lz61]
  refine zlRun (n := 1) (j := 6) rfl (by kernel_rfl) ?_
  refine bindE hS (fun z62 hz62 hS => ?_)
  refine bindE hS (fun z63 hz63 hS => ?_)
  refine zlOp (d := some 45) (op := (.cpy 4 (.tmp 43) (.tmp 44))) (g := none) (v := (.d (.int .i64 ((min z59.length z60.2.2 : Nat) : Int)))) (ups := [(0, ⟨0, some (.own 36 4 (e_GCell.cells (cpyL z60.1 z60.2.1 z60.2.2 z59)))⟩)]) (j := 7) rfl (by kernel_rfl) (by kernel_rfl) (ev_cpy e_GCell (b := 0) (g := 0) (l := z60.2.1) (n := z60.2.2) (e := 36) (xs := z60.1) (ys := z59) (by kernel_rfl) (by kernel_rfl) rfl ((congrArg (asL _) (by kernel_rfl : ρof _ (.tmp 44) = (.d (.sl z59.length (e_GCell.cells z59))))).trans (as_d _ _)) hz62) ?_
  have ez63 := Option.some.inj hz63
  have lz63 : z60.1.length = z63.length := by rw [← ez63]; exact (cpyL_len (of_decide_eq_true (chk_t hz62))).symm
  rw [ez63]
  try delta f28_l1_j3_J
  try rw [lz63]
  refine zlEnd (by kernel_rfl) ?_
  refine zkBlk ?_
  refine zkSeq ?_
  refine zrReg ?_
  refine zlRun (n := 2) (j := 2) rfl (by kernel_rfl) ?_
  refine zlEnd (by kernel_rfl) ?_
  refine zkNil ?_
  exact endQ hS hQ (finL_n (by show keepSt _ _ _ _ = _; kernel_rfl))
def f28_l1_j2_J (a1 : Int) (a2 : Int) (a3 : Int) (a4 : Int) (a5 : Int) (a6 : GPen) (a7 : List GCell) (p104 : List GCell) (p105 : Int) (p106 : Int) (p107 : List (List GCell)) (p108 : Int) (p109 : Int) (p110 : Bool) : St := ⟨(up (up (up (up (up (up (fun _ => .un) 35 (.d (.bool p110))) 34 (.d (.int .i64 p109))) 33 (.d (.int .i64 p108))) 32 (.r (.msl 256 0 0 p107.length))) 5 (.r (.ptr 48 0 0))) 1 (.d (.int .i64 a3))), (up (up (up (hB fun _ => 0) 256 ⟨0, some (.own 22 1 ((eSl e_GCell).cells p107))⟩) 48 ⟨0, some (.box ((.d (.int .i64 p105)) :: ((.d (.int .i64 p106)) :: ((.r (.msl 0 0 0 p104.length)) :: []))))⟩) 0 ⟨0, some (.own 36 4 (e_GCell.cells p104))⟩)⟩
noncomputable def f28_l1_j2 (a1 : Int) (a2 : Int) (a3 : Int) (a4 : Int) (a5 : Int) (a6 : GPen) (a7 : List GCell) (p104 : List GCell) (p105 : Int) (p106 : Int) (p107 : List (List GCell)) (p108 : Int) (p109 : Int) (p110 : Bool) : Option (((List GCell) × Int × Int × (List (List GCell)) × Int × Int) ⊕ (((List GCell)))) := (bif p110 then (f28_l1_j3 a1 a2 a3 a4 a5 a6 a7 p104 p105 p106 p107 p108 p109) else (some (.inr p104)))
theorem f28_l1_j2_ok {base : Orc} {d : Nat} (hd : 7 ≤ d) (a1 : Int) (a2 : Int) (a3 : Int) (a4 : Int) (a5 : Int) (a6 : GPen) (a7 : List GCell) {r : ((List GCell) × Int × Int × (List (List GCell)) × Int × Int) ⊕ (((List GCell)))} {Q : PX → St → Prop} (hQ : ∀ e st', finL (f28_l1_H a1 a2 a3 a4 a5 a6 a7) (f28_l1_X a1 a2 a3 a4 a5 a6 a7) r e st' → Q e st') (p104 : List GCell) (p105 : Int) (p106 : Int) (p107 : List (List GCell)) (p108 : Int) (p109 : Int) (p110 : Bool) (hS : f28_l1_j2 a1 a2 a3 a4 a5 a6 a7 p104 p105 p106 p107 p108 p109 p110 = some r) {st : St} (he : keepSt [1, 5, 32, 33, 34, 35] [(0, .id 0), (48, .id 48), (256, .id 256)] [] st = f28_l1_j2_J a1 a2 a3 a4 a5 a6 a7 p104 p105 p106 p107 p108 p109 p110) : ZR (lev codes base (d - 1)) Q c28_2 [] st := by
  refine zrKeep he ?_
  unfold f28_l1_j2 at hS
  refine zrSeq ?_
  refine zrSplit 35 p110 (by kernel_rfl) (fun hc => ?_) (fun hc => ?_)
  · replace hS := cond_t hc hS
    refine zrCondT (by kernel_rfl) ?_
    refine zrSkip ?_
    refine zkSeq ?_
    exact f28_l1_j3_ok hd a1 a2 a3 a4 a5 a6 a7 hQ p104 p105 p106 p107 p108 p109 hS (by kernel_rfl)
  · replace hS := cond_f hc hS
    refine zrCondF (by kernel_rfl) ?_
    refine zrKeep (J := f28_l1_e2_J a1 a2 a3 a4 a5 a6 a7 p104) (by kernel_rfl) ?_
    refine zrExit ?_
    refine zkSeqX ?_
    refine zkNil ?_
    exact endQ hS hQ (finL_x (by intro h; cases h) (by show _ = _ ∧ _ = _; exact ⟨rfl, rfl⟩))
noncomputable def f28_l1 (a1 : Int) (a2 : Int) (a3 : Int) (a4 : Int) (a5 : Int) (a6 : GPen) (a7 : List GCell) (x : (List GCell) × Int × Int × (List (List GCell)) × Int × Int) : Option (((List GCell) × Int × Int × (List (List GCell)) × Int × Int) ⊕ (((List GCell)))) := (bif (decide (x.2.2.2.2.2 < x.2.2.2.2.1)) then (f28_l1_j2 a1 a2 a3 a4 a5 a6 a7 x.1 x.2.1 x.2.2.1 x.2.2.2.1 x.2.2.2.2.1 x.2.2.2.2.2 true) else (f28_l1_j2 a1 a2 a3 a4 a5 a6 a7 x.1 x.2.1 x.2.2.1 x.2.2.2.1 x.2.2.2.2.1 x.2.2.2.2.2 false))
theorem f28_l1_ok {base : Orc} {d : Nat} (hd : 7 ≤ d) (a1 : Int) (a2 : Int) (a3 : Int) (a4 : Int) (a5 : Int) (a6 : GPen) (a7 : List GCell) {r : ((List GCell) × Int × Int × (List (List GCell)) × Int × Int) ⊕ (((List GCell)))} {Q : PX → St → Prop} (hQ : ∀ e st', finL (f28_l1_H a1 a2 a3 a4 a5 a6 a7) (f28_l1_X a1 a2 a3 a4 a5 a6 a7) r e st' → Q e st') {x : (List GCell) × Int × Int × (List (List GCell)) × Int × Int} (hS : f28_l1 a1 a2 a3 a4 a5 a6 a7 x = some r) {st : St} (he : f28_l1_H a1 a2 a3 a4 a5 a6 a7 x st) : ZR (lev codes base (d - 1)) Q c28_3 [] st := by
  refine zrKeep he ?_
  unfold f28_l1 at hS
  refine zrSeq ?_
  refine zrReg ?_
  refine zlBool (d := 35) (op := (.cmpI .lss (.tmp 34) (.tmp 33))) (g := none) (j := 1) (decide (x.2.2.2.2.2 < x.2.2.2.2.1)) rfl (by kernel_rfl) (by kernel_rfl) (by kernel_rfl) (fun hc => ?_) (fun hc => ?_)
  · replace hS := cond_t hc hS
    refine zlEnd (by kernel_rfl) ?_
    refine zkSeq ?_
    exact f28_l1_j2_ok hd a1 a2 a3 a4 a5 a6 a7 hQ x.1 x.2.1 x.2.2.1 x.2.2.2.1 x.2.2.2.2.1 x.2.2.2.2.2 true hS (by kernel_rfl)
  · replace hS := cond_f hc hS
    refine zlEnd (by kernel_rfl) ?_
    refine zkSeq ?_
    exact f28_l1_j2_ok hd a1 a2 a3 a4 a5 a6 a7 hQ x.1 x.2.1 x.2.2.1 x.2.2.2.1 x.2.2.2.2.1 x.2.2.2.2.2 false hS (by kernel_rfl)
def f28_j0_J (a1 : Int) (a2 : Int) (a3 : Int) (a4 : Int) (a5 : Int) (a6 : GPen) (a7 : List GCell) (p57 : List GCell) (p58 : List (List GCell)) : St := ⟨(up (up (up (up (up (fun _ => .un) 10 (.r (.msl 88 0 0 p58.length))) 9 (.r (.ptr 80 0 0))) 5 (.r (.ptr 48 0 0))) 3 (.d (.int .i64 a5))) 1 (.d (.int .i64 a3))), (up (up (up (up (hB fun _ => 0) 88 ⟨0, some (.own 22 1 ((eSl e_GCell).cells p58))⟩) 80 ⟨0, some (.box ((.d (.int .i64 a6.Flags)) :: ((.d (.int .i64 a6.Fore)) :: ((.d (.int .i64 a6.Back)) :: []))))⟩) 48 ⟨0, some (.box ((.d (.int .i64 a1)) :: ((.d (.int .i64 a2)) :: ((.r (.msl 0 0 0 p57.length)) :: []))))⟩) 0 ⟨0, some (.own 36 4 (e_GCell.cells p57))⟩)⟩
noncomputable def f28_j0 (a1 : Int) (a2 : Int) (a3 : Int) (a4 : Int) (a5 : Int) (a6 : GPen) (a7 : List GCell) (p57 : List GCell) (p58 : List (List GCell)) : Option ((List GCell)) := ((f39 (IntKind.i64.wrap (0 - a5)) p58 a1 a2 a6 p57).bind fun z37 => ((chk (decide (z37.2.2.1.length = p57.length))).bind fun z38 => ((chk (decide (z37.2.2.2.2.1.length = p58.length))).bind fun z39 => ((loopO (f28_l1 a1 a2 a3 a4 a5 a6 a7) (z37.2.2.1, z37.1, z37.2.1, z37.2.2.2.2.2, (z37.2.2.2.2.2.length : Int), 0)).bind fun z64 => (some z64)))))
theorem f28_j0_ok {base : Orc} {d : Nat} (hd : 7 ≤ d) (a1 : Int) (a2 : Int) (a3 : Int) (a4 : Int) (a5 : Int) (a6 : GPen) (a7 : List GCell) {r : (List GCell)} {Q : PX → St → Prop} (hQ : ∀ e st', f28_Q r e st' → Q e st') (p57 : List GCell) (p58 : List (List GCell)) (hS : f28_j0 a1 a2 a3 a4 a5 a6 a7 p57 p58 = some r) {st : St} (he : keepSt [1, 3, 5, 9, 10] [(0, .id 0), (48, .id 48), (80, .id 80), (88, .id 88)] [] st = f28_j0_J a1 a2 a3 a4 a5 a6 a7 p57 p58) : ZR (lev codes base (d - 1)) Q c28_4 [] st := by
  refine zrKeep he ?_
  unfold f28_j0 at hS
  refine zrSeq ?_
  refine zrReg ?_
  refine zlRun (n := 4) (j := 4) rfl (by kernel_rfl) ?_
  refine bindE hS (fun z37 hz37 hS => ?_)
  refine bindE hS (fun z38 hz38 hS => ?_)
  refine bindE hS (fun z39 hz39 hS => ?_)
  refine zlOp (d := some 31) (op := (.callr 39 [(.tmp 27), (.tmp 29), (.tmp 30)])) (g := none) (j := 5) rfl (by kernel_rfl) (by kernel_rfl) (ev_callrXA (ids := [88, 48, 80, 0]) (bs := [(.own 22 1 ((eSl e_GCell).cells p58)), (.box ((.d (.int .i64 a1)) :: ((.d (.int .i64 a2)) :: ((.r (.msl 0 0 0 p57.length)) :: [])))), (.box ((.d (.int .i64 a6.Flags)) :: ((.d (.int .i64 a6.Fore)) :: ((.d (.int .i64 a6.Back)) :: [])))), (.own 36 4 (e_GCell.cells p57))]) (by kernel_rfl) (by kernel_rfl) (by kernel_rfl) (by kernel_rfl) (f39_ok base (d - 1) (dpt hd rfl) (IntKind.i64.wrap (0 - a5)) p58 a1 a2 a6 p57 z37 hz37) (by kernel_rfl) (sm_own (eSl e_GCell) (e1 := 22) (k1 := 1) (xs := p58) (ys := z37.2.2.2.2.1) (by kernel_rfl) hz39 (sm_box (cs := ((.d (.int .i64 a1)) :: ((.d (.int .i64 a2)) :: ((.r (.msl 0 0 0 p57.length)) :: [])))) (by kernel_rfl) (sm_box (cs := ((.d (.int .i64 a6.Flags)) :: ((.d (.int .i64 a6.Fore)) :: ((.d (.int .i64 a6.Back)) :: [])))) (by kernel_rfl) (sm_own e_GCell (e1 := 36) (k1 := 4) (xs := p57) (ys := z37.2.2.1) (by kernel_rfl) hz38 sm_nil)))) (by kernel_rfl)) ?_
  have lz38 : p57.length = z37.2.2.1.length := (of_decide_eq_true (chk_t hz38)).symm
  try delta f28_j0_J
  try rw [lz38]
  have lz39 : p58.length = z37.2.2.2.2.1.length := (of_decide_eq_true (chk_t hz39)).symm
  try delta f28_j0_J
  try rw [lz39]
  refine zlRun (n := 1) (j := 6) rfl (by kernel_rfl) ?_
  refine zlEnd (by kernel_rfl) ?_
  refine zkSeq ?_
  refine zrSeq ?_
  refine zrReg ?_
  refine zlRun (n := 3) (j := 3) rfl (by kernel_rfl) ?_
  refine zlEnd (by kernel_rfl) ?_
  refine zkSeq ?_
  refine zrBlk ?_
  refine bindE hS (fun z64 hz64 hS => ?_)
  refine zrLoop (f28_l1_H a1 a2 a3 a4 a5 a6 a7) (f28_l1_X a1 a2 a3 a4 a5 a6 a7) (fun x st r Q h0 hS hQ => f28_l1_ok hd a1 a2 a3 a4 a5 a6 a7 hQ hS h0) (x := (z37.2.2.1, z37.1, z37.2.1, z37.2.2.2.2.2, (z37.2.2.2.2.2.length : Int), 0)) (z := z64) (by show keepSt _ _ _ _ = _; kernel_rfl) hz64 ?_
  intro e st' _ hX
  obtain ⟨rfl, rfl⟩ : _ ∧ _ := hX
  refine zkBlkX ?_
  refine zkNil ?_
  exact endQ hS hQ (fNormX (by kernel_rfl) (by kernel_rfl : finSt c28.fin _ = f28_fin z64) (by kernel_rfl) (f28_out z64))
def f28_l4_J (a1 : Int) (a2 : Int) (a3 : Int) (a4 : Int) (a5 : Int) (a6 : GPen) (a7 : List GCell) (x : (List GCell) × (List (List GCell)) × Int) : St := ⟨(up (up (up (up (up (up (up (fun _ => .un) 11 (.d (.int .i64 x.2.2))) 10 (.r (.msl 88 0 0 x.2.1.length))) 9 (.r (.ptr 80 0 0))) 5 (.r (.ptr 48 0 0))) 3 (.d (.int .i64 a5))) 2 (.d (.int .i64 a4))) 1 (.d (.int .i64 a3))), (up (up (up (up (hB fun _ => 0) 88 ⟨0, some (.own 22 1 ((eSl e_GCell).cells x.2.1))⟩) 80 ⟨0, some (.box ((.d (.int .i64 a6.Flags)) :: ((.d (.int .i64 a6.Fore)) :: ((.d (.int .i64 a6.Back)) :: []))))⟩) 48 ⟨0, some (.box ((.d (.int .i64 a1)) :: ((.d (.int .i64 a2)) :: ((.r (.msl 0 0 0 x.1.length)) :: []))))⟩) 0 ⟨0, some (.own 36 4 (e_GCell.cells x.1))⟩)⟩
def f28_l4_H (a1 : Int) (a2 : Int) (a3 : Int) (a4 : Int) (a5 : Int) (a6 : GPen) (a7 : List GCell) (x : (List GCell) × (List (List GCell)) × Int) (st : St) : Prop := keepSt [1, 2, 3, 5, 9, 10, 11] [(0, .id 0), (48, .id 48), (80, .id 80), (88, .id 88)] [] st = f28_l4_J a1 a2 a3 a4 a5 a6 a7 x
def f28_l4_e0_J (a1 : Int) (a2 : Int) (a3 : Int) (a4 : Int) (a5 : Int) (a6 : GPen) (a7 : List GCell) (p16 : List GCell) (p17 : List (List GCell)) : St := ⟨(up (up (up (up (up (fun _ => .un) 10 (.r (.msl 88 0 0 p17.length))) 9 (.r (.ptr 80 0 0))) 5 (.r (.ptr 48 0 0))) 3 (.d (.int .i64 a5))) 1 (.d (.int .i64 a3))), (up (up (up (up (hB fun _ => 0) 88 ⟨0, some (.own 22 1 ((eSl e_GCell).cells p17))⟩) 80 ⟨0, some (.box ((.d (.int .i64 a6.Flags)) :: ((.d (.int .i64 a6.Fore)) :: ((.d (.int .i64 a6.Back)) :: []))))⟩) 48 ⟨0, some (.box ((.d (.int .i64 a1)) :: ((.d (.int .i64 a2)) :: ((.r (.msl 0 0 0 p16.length)) :: []))))⟩) 0 ⟨0, some (.own 36 4 (e_GCell.cells p16))⟩)⟩
def f28_l4_X (a1 : Int) (a2 : Int) (a3 : Int) (a4 : Int) (a5 : Int) (a6 : GPen) (a7 : List GCell) (z : ((List GCell) × (List (List GCell)))) (e : PX) (st : St) : Prop := e = .exit 0 ∧ st = f28_l4_e0_J a1 a2 a3 a4 a5 a6 a7 z.1 z.2
def f28_l4_j5_J (a1 : Int) (a2 : Int) (a3 : Int) (a4 : Int) (a5 : Int) (a6 : GPen) (a7 : List GCell) (p121 : List GCell) (p122 : List (List GCell)) (p123 : Int) : St := ⟨(up (up (up (up (up (up (up (fun _ => .un) 11 (.d (.int .i64 p123))) 10 (.r (.msl 88 0 0 p122.length))) 9 (.r (.ptr 80 0 0))) 5 (.r (.ptr 48 0 0))) 3 (.d (.int .i64 a5))) 2 (.d (.int .i64 a4))) 1 (.d (.int .i64 a3))), (up (up (up (up (hB fun _ => 0) 88 ⟨0, some (.own 22 1 ((eSl e_GCell).cells p122))⟩) 80 ⟨0, some (.box ((.d (.int .i64 a6.Flags)) :: ((.d (.int .i64 a6.Fore)) :: ((.d (.int .i64 a6.Back)) :: []))))⟩) 48 ⟨0, some (.box ((.d (.int .i64 a1)) :: ((.d (.int .i64 a2)) :: ((.r (.msl 0 0 0 p121.length)) :: []))))⟩) 0 ⟨0, some (.own 36 4 (e_GCell.cells p121))⟩)⟩
noncomputable def f28_l4_j5 (a1 : Int) (a2 : Int) (a3 : Int) (a4 : Int) (a5 : Int) (a6 : GPen) (a7 : List GCell) (p121 : List GCell) (p122 : List (List GCell)) (p123 : Int) : Option (((List GCell) × (List (List GCell)) × Int) ⊕ (((List GCell) × (List (List GCell))))) := ((f18v1 a1 a2 p123 p121).bind fun z65 => ((chk (decide (z65.1.length = p121.length))).bind fun z66 => ((part? z65.1 z65.2.1 z65.2.2).bind fun z67 => ((f10 z67).bind fun z68 => ((app? 24 p122 ([z68] : List (List GCell))).bind fun z69 => (some (.inl (z65.1, z69, (IntKind.i64.wrap (p123 + 1))))))))))
theorem f28_l4_j5_ok {base : Orc} {d : Nat} (hd : 7 ≤ d) (a1 : Int) (a2 : Int) (a3 : Int) (a4 : Int) (a5 : Int) (a6 : GPen) (a7 : List GCell) {r : ((List GCell) × (List (List GCell)) × Int) ⊕ (((List GCell) × (List (List GCell))))} {Q : PX → St → Prop} (hQ : ∀ e st', finL (f28_l4_H a1 a2 a3 a4 a5 a6 a7) (f28_l4_X a1 a2 a3 a4 a5 a6 a7) r e st' → Q e st') (p121 : List GCell) (p122 : List (List GCell)) (p123 : Int) (hS : f28_l4_j5 a1 a2 a3 a4 a5 a6 a7 p121 p122 p123 = some r) {st : St} (he : keepSt [1, 2, 3, 5, 9, 10, 11] [(0, .id 0), (48, .id 48), (80, .id 80), (88, .id 88)] [] st = f28_l4_j5_J a1 a2 a3 a4 a5 a6 a7 p121 p122 p123) : ZR (lev codes base (d - 1)) Q c28_5 [] st := by
  refine zrKeep he ?_
  unfold f28_l4_j5 at hS
  refine zrSeq ?_
  refine zrBlk ?_
  refine zrReg ?_
  refine zlRun (n := 3) (j := 3) rfl (by kernel_rfl) ?_
  refine bindE hS (fun z65 hz65 hS => ?_)
  refine bindE hS (fun z66 hz66 hS => ?_)
  refine zlOp (d := some 23) (op := (.callr 18 [(.tmp 21), (.tmp 22)])) (g := none) (j := 4) rfl (by kernel_rfl) (by kernel_rfl) (ev_callrXA (ids := [0]) (bs := [(.own 36 4 (e_GCell.cells p121))]) (by kernel_rfl) (by kernel_rfl) (by kernel_rfl) (by kernel_rfl) (f18v1_ok base (d - 1) (dpt hd rfl) a1 a2 p123 p121 z65 hz65) (by kernel_rfl) (sm_own e_GCell (e1 := 36) (k1 := 4) (xs := p121) (ys := z65.1) (by kernel_rfl) hz66 sm_nil) (by kernel_rfl)) ?_
  have lz66 : p121.length = z65.1.length := (of_decide_eq_true (chk_t hz66)).symm
  try delta f28_l4_j5_J
  try rw [lz66]
  refine bindE hS (fun z67 hz67 hS => ?_)
  refine bindE hS (fun z68 hz68 hS => ?_)
  refine zlOp (d := some 24) (op := (.call 10 [(.tmp 23)])) (g := none) (j := 5) rfl (by kernel_rfl) (by kernel_rfl) (ev_callB (args := [(.r (.msl 0 0 z65.2.1 z65.2.2))]) (by kernel_rfl) (l_cons (l_part e_GCell (e := 36) (k := 4) (xs := z65.1) (by kernel_rfl) rfl hz67) l_nil) (f10_ok base (d - 1) (dpt hd rfl) z67 z68 hz68) (by simp only [free_own e_GCell (fun _ => rfl), free_tup, free_agg, free_nl, free_cs, free_int, free_bool, free_str, free_un, free_ni, free_s0, Bool.and_true, Bool.or_true, Bool.and_self]) (by kernel_rfl)) ?_
  refine zlOp (d := some 25) (op := (.bsl 22 1 1 [(1, (.slice .none 0 0))] [(0, (1, (.tmp 24)))])) (g := none) (v := (.r (.msl 208 1 0 (([z68] : List (List GCell)).length)))) (ups := [(200, ⟨2, none⟩), (208, ⟨1, some (.own 22 1 ((eSl e_GCell).cells ([z68])))⟩)]) (j := 6) rfl (by kernel_rfl) (by kernel_rfl) ((by kernel_rfl : peval _ _ 25 (ρof _) (.bsl 22 1 1 [(1, (.slice .none 0 0))] [(0, (1, (.tmp 24)))]) = some ((.r (.msl 208 1 0 (([z68] : List (List GCell)).length))), [(200, ⟨2, none⟩), (208, ⟨1, some (.own 22 1 [.sl z68.length (((e_GCell.cells z68).drop (0 * e_GCell.k)).take (z68.length * e_GCell.k))])⟩)])).trans (by simp only [Enc.frz]; rfl)) ?_
  refine bindE hS (fun z69 hz69 hS => ?_)
  refine zlOp (d := some 26) (op := (.app 22 1 24 (.tmp 20) (.tmp 25))) (g := none) (v := (.r (.msl 88 1 0 z69.length))) (ups := [(88, ⟨1, some (.own 22 1 ((eSl e_GCell).cells z69))⟩)]) (j := 7) rfl (by kernel_rfl) (by kernel_rfl) (ev_app (eSl e_GCell) (b := 88) (g := 0) (n := p122.length) (xs := p122) (ys := [z68]) ((congrArg (asL _) (by kernel_rfl : ρof _ (.tmp 25) = (.r (.msl 208 1 0 (([z68] : List (List GCell)).length))))).trans (as_whole (eSl e_GCell) (e := 22) (k := 1) (xs := [z68]) (by kernel_rfl) rfl rfl)) rfl (by kernel_rfl) rfl (by kernel_rfl) rfl hz69) ?_
  refine zlRun (n := 1) (j := 8) rfl (by kernel_rfl) ?_
  refine zlEnd (by kernel_rfl) ?_
  refine zkBlk ?_
  refine zkSeq ?_
  refine zrReg ?_
  refine zlRun (n := 3) (j := 3) rfl (by kernel_rfl) ?_
  refine zlEnd (by kernel_rfl) ?_
  refine zkNil ?_
  exact endQ hS hQ (finL_n (by show keepSt _ _ _ _ = _; kernel_rfl))
noncomputable def f28_l4 (a1 : Int) (a2 : Int) (a3 : Int) (a4 : Int) (a5 : Int) (a6 : GPen) (a7 : List GCell) (x : (List GCell) × (List (List GCell)) × Int) : Option (((List GCell) × (List (List GCell)) × Int) ⊕ (((List GCell) × (List (List GCell))))) := (bif (decide (x.2.2 < a4)) then (f28_l4_j5 a1 a2 a3 a4 a5 a6 a7 x.1 x.2.1 x.2.2) else (some (.inr (x.1, x.2.1))))
theorem f28_l4_ok {base : Orc} {d : Nat} (hd : 7 ≤ d) (a1 : Int) (a2 : Int) (a3 : Int) (a4 : Int) (a5 : Int) (a6 : GPen) (a7 : List GCell) {r : ((List GCell) × (List (List GCell)) × Int) ⊕ (((List GCell) × (List (List GCell))))} {Q : PX → St → Prop} (hQ : ∀ e st', finL (f28_l4_H a1 a2 a3 a4 a5 a6 a7) (f28_l4_X a1 a2 a3 a4 a5 a6 a7) r e st' → Q e st') {x : (List GCell) × (List (List GCell)) × Int} (hS : f28_l4 a1 a2 a3 a4 a5 a6 a7 x = some r) {st : St} (he : f28_l4_H a1 a2 a3 a4 a5 a6 a7 x st) : ZR (lev codes base (d - 1)) Q c28_6 [] st := by
  refine zrKeep he ?_
  unfold f28_l4 at hS
  refine zrSeq ?_
  refine zrSeq ?_
  refine zrReg ?_
  refine zlRun (n := 2) (j := 2) rfl (by kernel_rfl) ?_
  refine zlBool (d := 17) (op := (.cmpI .lss (.tmp 15) (.tmp 16))) (g := none) (j := 3) (decide (x.2.2 < a4)) rfl (by kernel_rfl) (by kernel_rfl) (by kernel_rfl) (fun hc => ?_) (fun hc => ?_)
  · replace hS := cond_t hc hS
    refine zlEnd (by kernel_rfl) ?_
    refine zkSeq ?_
    refine zrCondT (by kernel_rfl) ?_
    refine zrSkip ?_
    refine zkSeq ?_
    exact f28_l4_j5_ok hd a1 a2 a3 a4 a5 a6 a7 hQ x.1 x.2.1 x.2.2 hS (by kernel_rfl)
  · replace hS := cond_f hc hS
    refine zlEnd (by kernel_rfl) ?_
    refine zkSeq ?_
    refine zrCondF (by kernel_rfl) ?_
    refine zrKeep (J := f28_l4_e0_J a1 a2 a3 a4 a5 a6 a7 x.1 x.2.1) (by kernel_rfl) ?_
    refine zrExit ?_
    refine zkSeqX ?_
    refine zkNil ?_
    exact endQ hS hQ (finL_x (by intro h; cases h) (by show _ = _ ∧ _ = _; exact ⟨rfl, rfl⟩))
noncomputable def f28 (a1 : Int) (a2 : Int) (a3 : Int) (a4 : Int) (a5 : Int) (a6 : GPen) (a7 : List GCell) : Option ((List GCell)) := ((loopO (f28_l4 a1 a2 a3 a4 a5 a6 a7) (a7, [], a3)).bind fun z70 => (f28_j0 a1 a2 a3 a4 a5 a6 a7 z70.1 z70.2))
theorem f28_ok (base : Orc) (d : Nat) (hd : 7 ≤ d) (a1 : Int) (a2 : Int) (a3 : Int) (a4 : Int) (a5 : Int) (a6 : GPen) (a7 : List GCell) (r : (List GCell)) (hS : f28 a1 a2 a3 a4 a5 a6 a7 = some r) : lev codes base d 28 [(.agg ((.d (.int .i64 a1)) :: ((.d (.int .i64 a2)) :: ((.r (.msl 0 0 0 a7.length)) :: [])))), (.d (.int .i64 a3)), (.d (.int .i64 a4)), (.d (.int .i64 a5)), (.agg ((.d (.int .i64 a6.Flags)) :: ((.d (.int .i64 a6.Fore)) :: ((.d (.int .i64 a6.Back)) :: []))))] [(.own 36 4 (e_GCell.cells a7))] = some ((.tup []), [(.own 36 4 (e_GCell.cells r)), .box []]) := by
  refine lev_go codes28 rfl rfl (Nat.le_trans (Nat.le_of_ble_eq_true rfl) hd) fun Q hQ => ?_
  unfold f28 at hS
  show ZR _ Q c28_b [] _
  replace hQ : ∀ e st', f28_Q r e st' → Q e st' := hQ
  refine zrSeq ?_
  refine zrReg ?_
  refine zlRun (n := 2) (j := 2) rfl (by kernel_rfl) ?_
  refine zlEnd (by kernel_rfl) ?_
  refine zkSeq ?_
  refine zrSeq ?_
  refine zrReg ?_
  refine zlRun (n := 1) (j := 1) rfl (by kernel_rfl) ?_
  refine zlEnd (by kernel_rfl) ?_
  refine zkSeq ?_
  refine zrSeq ?_
  refine zrSeq ?_
  refine zrReg ?_
  refine zlRun (n := 2) (j := 2) rfl (by kernel_rfl) ?_
  refine zlEnd (by kernel_rfl) ?_
  refine zkSeq ?_
  refine zrBlk ?_
  refine bindE hS (fun z70 hz70 hS => ?_)
  refine zrLoop (f28_l4_H a1 a2 a3 a4 a5 a6 a7) (f28_l4_X a1 a2 a3 a4 a5 a6 a7) (fun x st r Q h0 hS hQ => f28_l4_ok hd a1 a2 a3 a4 a5 a6 a7 hQ hS h0) (x := (a7, [], a3)) (z := z70) (by show keepSt _ _ _ _ = _; kernel_rfl) hz70 ?_
  intro e st' _ hX
  obtain ⟨rfl, rfl⟩ : _ ∧ _ := hX
  refine zkBlkX ?_
  refine zkSeq ?_
  exact f28_j0_ok hd a1 a2 a3 a4 a5 a6 a7 hQ z70.1 z70.2 hS (by kernel_rfl)
/- farwriter/grid.Scroll -/
def f11_fin (p18 : Int) (p19 : Int) (p20 : List GCell) (p21 : Int) : St := ⟨(up (up (fun _ => .un) 11 (.d (.int .i64 p21))) 10 (.r (.ptr 88 0 0))), (up (up (hB fun _ => 0) 272 ⟨0, some (.own 36 4 (e_GCell.cells p20))⟩) 88 ⟨0, some (.box ((.d (.int .i64 p18)) :: ((.d (.int .i64 p19)) :: ((.r (.msl 272 0 0 p20.length)) :: []))))⟩)⟩
theorem f11_out (p18 : Int) (p19 : Int) (p20 : List GCell) (p21 : Int) : outR (f11_fin p18 p19 p20 p21) 0 c11.res = some ((.tup [(.agg ((.d (.int .i64 p18)) :: ((.d (.int .i64 p19)) :: ((.r (.own 0 36 4 p20.length (e_GCell.cells p20))) :: [])))), (.d (.int .i64 p21))]), []) := by
  exact out_of (ids := []) (ids' := [272]) (l := [(.agg ((.d (.int .i64 p18)) :: ((.d (.int .i64 p19)) :: ((.r (.msl 272 0 0 p20.length)) :: [])))), (.d (.int .i64 p21))]) (by kernel_rfl) (by kernel_rfl) (o_tup (o_cons (o_agg (o_cons rfl (o_cons rfl (o_cons (o_own e_GCell (e := 36) (k := 4) (xs := p20) (by kernel_rfl) rfl rfl rfl rfl) o_nil)))) (o_cons rfl o_nil)))
def f11_Q (r : Int × Int × (List GCell) × Int) (e : PX) (st : St) : Prop := DoneF c11 0 ((.tup [(.agg ((.d (.int .i64 r.1)) :: ((.d (.int .i64 r.2.1)) :: ((.r (.own 0 36 4 r.2.2.1.length (e_GCell.cells r.2.2.1))) :: [])))), (.d (.int .i64 r.2.2.2))]), []) e st
def f11_j1_J (a1 : GGrid) (a2 : Int) (a3 : Int) (a4 : Int) (a5 : GPen) (p43 : Int) (p44 : Int) (p45 : List GCell) : St := ⟨(up (up (up (up (up (up (fun _ => .un) 10 (.r (.ptr 88 0 0))) 9 (.r (.ptr 80 0 0))) 5 (.r (.ptr 48 0 0))) 3 (.d (.int .i64 a4))) 2 (.d (.int .i64 a3))) 1 (.d (.int .i64 a2))), (up (up (up (up (hB fun _ => 0) 88 ⟨0, some (.box ((.d (.int .i64 0)) :: ((.d (.int .i64 0)) :: ((.d (.sl ([] : List GCell).length (e_GCell.cells ([])))) :: []))))⟩) 80 ⟨0, some (.box ((.d (.int .i64 a5.Flags)) :: ((.d (.int .i64 a5.Fore)) :: ((.d (.int .i64 a5.Back)) :: []))))⟩) 272 ⟨0, some (.own 36 4 (e_GCell.cells p45))⟩) 48 ⟨0, some (.box ((.d (.int .i64 p43)) :: ((.d (.int .i64 p44)) :: ((.r (.msl 272 0 0 p45.length)) :: []))))⟩)⟩
noncomputable def f11_j1 (a1 : GGrid) (a2 : Int) (a3 : Int) (a4 : Int) (a5 : GPen) (p43 : Int) (p44 : Int) (p45 : List GCell) : Option (Int × Int × (List GCell) × Int) := ((f28 p43 p44 a2 a3 a4 a5 p45).bind fun z13 => ((chk (decide (z13.length = p45.length))).bind fun z14 => (some (p43, p44, z13, 0))))
theorem f11_j1_ok {base : Orc} {d : Nat} (hd : 8 ≤ d) (a1 : GGrid) (a2 : Int) (a3 : Int) (a4 : Int) (a5 : GPen) {r : Int × Int × (List GCell) × Int} {Q : PX → St → Prop} (hQ : ∀ e st', f11_Q r e st' → Q e st') (p43 : Int) (p44 : Int) (p45 : List GCell) (hS : f11_j1 a1 a2 a3 a4 a5 p43 p44 p45 = some r) {st : St} (he : keepSt [1, 2, 3, 5, 9, 10] [(48, .id 48), (272, .id 272), (80, .id 80), (88, .id 88)] [] st = f11_j1_J a1 a2 a3 a4 a5 p43 p44 p45) : ZR (lev codes base (d - 1)) Q c11_1 [] st := by
  refine zrKeep he ?_
  unfold f11_j1 at hS
  refine zrSeq ?_
  refine zrReg ?_
  refine zlRun (n := 5) (j := 5) rfl (by kernel_rfl) ?_
  refine bindE hS (fun z13 hz13 hS => ?_)
  refine bindE hS (fun z14 hz14 hS => ?_)
  refine zlOp (d := some 45) (op := (.callr 28 [(.tmp 40), (.tmp 41), (.tmp 42), (.tmp 43), (.tmp 44)])) (g := none) (j := 6) rfl (by kernel_rfl) (by kernel_rfl) (ev_callrXA (ids := [272]) (bs := [(.own 36 4 (e_GCell.cells p45))]) (by kernel_rfl) (by kernel_rfl) (by kernel_rfl) (by kernel_rfl) (f28_ok base (d - 1) (dpt hd rfl) p43 p44 a2 a3 a4 a5 p45 z13 hz13) (by kernel_rfl) (sm_own e_GCell (e1 := 36) (k1 := 4) (xs := p45) (ys := z13) (by kernel_rfl) hz14 sm_nil) (by kernel_rfl)) ?_
  have lz14 : p45.length = z13.length := (of_decide_eq_true (chk_t hz14)).symm
  try delta f11_j1_J
  try rw [lz14]
  refine zlEnd (by kernel_rfl) ?_
  refine zkSeq ?_
  refine zrSeq ?_
  refine zrReg ?_
  refine zlRun (n := 3) (j := 3) rfl (by kernel_rfl) ?_
  refine zlEnd (by kernel_rfl) ?_
  refine zkSeq ?_
  refine zrRet ?_
  refine zkNil ?_
  exact endQ hS hQ (fRet (by kernel_rfl) ((congrArg (fun s => outR s 0 c11.res) (by kernel_rfl : finSt c11.fin _ = f11_fin p43 p44 z13 0)).trans (f11_out p43 p44 z13 0)))
def f11_j0_J (a1 : GGrid) (a2 : Int) (a3 : Int) (a4 : Int) (a5 : GPen) (p34 : Int) (p35 : Int) (p36 : List GCell) (p37 : Int) : St := ⟨(up (up (up (up (up (up (up (fun _ => .un) 12 (.d (.int .i64 p37))) 10 (.r (.ptr 88 0 0))) 9 (.r (.ptr 80 0 0))) 5 (.r (.ptr 48 0 0))) 3 (.d (.int .i64 a4))) 2 (.d (.int .i64 a3))) 1 (.d (.int .i64 a2))), (up (up (up (up (hB fun _ => 0) 88 ⟨0, some (.box ((.d (.int .i64 0)) :: ((.d (.int .i64 0)) :: ((.d (.sl ([] : List GCell).length (e_GCell.cells ([])))) :: []))))⟩) 80 ⟨0, some (.box ((.d (.int .i64 a5.Flags)) :: ((.d (.int .i64 a5.Fore)) :: ((.d (.int .i64 a5.Back)) :: []))))⟩) 272 ⟨0, some (.own 36 4 (e_GCell.cells p36))⟩) 48 ⟨0, some (.box ((.d (.int .i64 p34)) :: ((.d (.int .i64 p35)) :: ((.r (.msl 272 0 0 p36.length)) :: []))))⟩)⟩
noncomputable def f11_j0 (a1 : GGrid) (a2 : Int) (a3 : Int) (a4 : Int) (a5 : GPen) (p34 : Int) (p35 : Int) (p36 : List GCell) (p37 : Int) : Option (Int × Int × (List GCell) × Int) := (bif (!decide (p37 = 0)) then (some (p34, p35, p36, p37)) else (f11_j1 a1 a2 a3 a4 a5 p34 p35 p36))
theorem f11_j0_ok {base : Orc} {d : Nat} (hd : 8 ≤ d) (a1 : GGrid) (a2 : Int) (a3 : Int) (a4 : Int) (a5 : GPen) {r : Int × Int × (List GCell) × Int} {Q : PX → St → Prop} (hQ : ∀ e st', f11_Q r e st' → Q e st') (p34 : Int) (p35 : Int) (p36 : List GCell) (p37 : Int) (hS : f11_j0 a1 a2 a3 a4 a5 p34 p35 p36 p37 = some r) {st : St} (he : keepSt [1, 2, 3, 5, 9, 10, 12] [(48, .id 48), (272, .id 272), (80, .id 80), (88, .id 88)] [.cell 88 2 0 0 1] st = f11_j0_J a1 a2 a3 a4 a5 p34 p35 p36 p37) : ZR (lev codes base (d - 1)) Q c11_2 [] st := by
  refine zrKeep he ?_
  unfold f11_j0 at hS
  refine zrSeq ?_
  refine zrSeq ?_
  refine zrReg ?_
  refine zlRun (n := 1) (j := 1) rfl (by kernel_rfl) ?_
  refine zlBool (d := 37) (op := (.cmpI .neq (.tmp 36) (.const (.int .i64 0)))) (g := none) (j := 2) (!decide (p37 = 0)) rfl (by kernel_rfl) (by kernel_rfl) (by kernel_rfl) (fun hc => ?_) (fun hc => ?_)
  · replace hS := cond_t hc hS
    refine zlEnd (by kernel_rfl) ?_
    refine zkSeq ?_
    refine zrCondT (by kernel_rfl) ?_
    refine zrSeq ?_
    refine zrReg ?_
    refine zlRun (n := 4) (j := 4) rfl (by kernel_rfl) ?_
    refine zlEnd (by kernel_rfl) ?_
    refine zkSeq ?_
    refine zrRet ?_
    refine zkSeqR ?_
    refine zkNil ?_
    exact endQ hS hQ (fRet (by kernel_rfl) ((congrArg (fun s => outR s 0 c11.res) (by kernel_rfl : finSt c11.fin _ = f11_fin p34 p35 p36 p37)).trans (f11_out p34 p35 p36 p37)))
  · replace hS := cond_f hc hS
    refine zlEnd (by kernel_rfl) ?_
    refine zkSeq ?_
    refine zrCondF (by kernel_rfl) ?_
    refine zrSkip ?_
    refine zkSeq ?_
    exact f11_j1_ok hd a1 a2 a3 a4 a5 hQ p34 p35 p36 hS (by kernel_rfl)
noncomputable def f11 (a1 : GGrid) (a2 : Int) (a3 : Int) (a4 : Int) (a5 : GPen) : Option (Int × Int × (List GCell) × Int) := (bif (decide (0 ≤ a2)) then (bif (decide (a2 ≤ a3)) then (bif (decide (a3 ≤ a1.High)) then ((f26 a4).bind fun z15 => ((f22 a1 z15 a5).bind fun z16 => (f11_j0 a1 a2 a3 a4 a5 z16.1 z16.2.1 z16.2.2.1 z16.2.2.2))) else ((f22 a1 false a5).bind fun z17 => (f11_j0 a1 a2 a3 a4 a5 z17.1 z17.2.1 z17.2.2.1 z17.2.2.2))) else ((f22 a1 false a5).bind fun z18 => (f11_j0 a1 a2 a3 a4 a5 z18.1 z18.2.1 z18.2.2.1 z18.2.2.2))) else ((f22 a1 false a5).bind fun z19 => (f11_j0 a1 a2 a3 a4 a5 z19.1 z19.2.1 z19.2.2.1 z19.2.2.2)))
theorem f11_ok (base : Orc) (d : Nat) (hd : 8 ≤ d) (a1 : GGrid) (a2 : Int) (a3 : Int) (a4 : Int) (a5 : GPen) (r : Int × Int × (List GCell) × Int) (hS : f11 a1 a2 a3 a4 a5 = some r) : lev codes base d 11 [(.agg ((.d (.int .i64 a1.Wide)) :: ((.d (.int .i64 a1.High)) :: ((.d (.sl a1.Cells.length (e_GCell.cells a1.Cells))) :: [])))), (.d (.int .i64 a2)), (.d (.int .i64 a3)), (.d (.int .i64 a4)), (.agg ((.d (.int .i64 a5.Flags)) :: ((.d (.int .i64 a5.Fore)) :: ((.d (.int .i64 a5.Back)) :: []))))] [] = some ((.tup [(.agg ((.d (.int .i64 r.1)) :: ((.d (.int .i64 r.2.1)) :: ((.r (.own 0 36 4 r.2.2.1.length (e_GCell.cells r.2.2.1))) :: [])))), (.d (.int .i64 r.2.2.2))]), []) := by
  refine lev_go codes11 rfl rfl (Nat.le_trans (Nat.le_of_ble_eq_true rfl) hd) fun Q hQ => ?_
  unfold f11 at hS
  show ZR _ Q c11_b [] _
  replace hQ : ∀ e st', f11_Q r e st' → Q e st' := hQ
  refine zrSeq ?_
  refine zrReg ?_
  refine zlRun (n := 4) (j := 4) rfl (by kernel_rfl) ?_
  refine zlEnd (by kernel_rfl) ?_
  refine zkSeq ?_
  refine zrSeq ?_
  refine zrRegD ?_
  refine zdRun (n := 2) (j := 2) (ts := [[(48, false)], []]) (acc' := [[(48, false)], []]) rfl (by kernel_rfl) (by kernel_rfl) (by kernel_rfl) ?_
  refine zdBool (d := 16) (op := (.cmpI .geq (.tmp 15) (.const (.int .i64 0)))) (g := none) (j := 3) (t1 := []) (acc' := [[(48, false)], [], []]) (decide (0 ≤ a2)) (by kernel_rfl) (by kernel_rfl) rfl (by kernel_rfl) (by kernel_rfl) (by kernel_rfl) (fun hc => ?_) (fun hc => ?_)
  · replace hS := cond_t hc hS
    refine zdRun (n := 3) (j := 6) (ts := [[], [], []]) (acc' := [[(48, false)], [], [], [], [], []]) rfl (by kernel_rfl) (by kernel_rfl) (by kernel_rfl) ?_
    refine zdBool (d := 20) (op := (.cmpI .leq (.tmp 18) (.tmp 19))) (g := (some (17, true))) (j := 7) (t1 := []) (acc' := [[(48, false)], [], [], [], [], [], []]) (decide (a2 ≤ a3)) (by kernel_rfl) (by kernel_rfl) rfl (by kernel_rfl) (by kernel_rfl) (by kernel_rfl) (fun hc => ?_) (fun hc => ?_)
    · replace hS := cond_t hc hS
      refine zdRun (n := 5) (j := 12) (ts := [[], [], [], [], [(48, false)]]) (acc' := [[(48, false)], [], [], [], [], [], [], [], [], [], [], [(48, false)]]) rfl (by kernel_rfl) (by kernel_rfl) (by kernel_rfl) ?_
      refine zdBool (d := 26) (op := (.cmpI .leq (.tmp 23) (.tmp 25))) (g := (some (22, true))) (j := 13) (t1 := []) (acc' := [[(48, false)], [], [], [], [], [], [], [], [], [], [], [(48, false)], []]) (decide (a3 ≤ a1.High)) (by kernel_rfl) (by kernel_rfl) rfl (by kernel_rfl) (by kernel_rfl) (by kernel_rfl) (fun hc => ?_) (fun hc => ?_)
      · replace hS := cond_t hc hS
        refine zdRun (n := 3) (j := 16) (ts := [[], [], []]) (acc' := [[(48, false)], [], [], [], [], [], [], [], [], [], [], [(48, false)], [], [], [], []]) rfl (by kernel_rfl) (by kernel_rfl) (by kernel_rfl) ?_
        refine bindE hS (fun z15 hz15 hS => ?_)
        refine zdOp (d := some 30) (op := (.call 26 [(.tmp 29)])) (g := (some (28, true))) (j := 17) (t1 := [(248, true), (249, true), (250, true), (251, true), (252, true), (253, true), (254, true), (255, true)]) (acc' := [[(48, false)], [], [], [], [], [], [], [], [], [], [], [(48, false)], [], [], [], [], [(248, true), (249, true), (250, true), (251, true), (252, true), (253, true), (254, true), (255, true)]]) (by kernel_rfl) (by kernel_rfl) rfl (by kernel_rfl) (by kernel_rfl) (ev_callA (by kernel_rfl) (f26_ok base (d - 1) (dpt hd rfl) a4 z15 hz15) (by kernel_rfl) (by kernel_rfl)) ?_
        refine zdRun (n := 2) (j := 19) (ts := [[], [(80, false)]]) (acc' := [[(48, false)], [], [], [], [], [], [], [], [], [], [], [(48, false)], [], [], [], [], [(248, true), (249, true), (250, true), (251, true), (252, true), (253, true), (254, true), (255, true)], [], [(80, false)]]) rfl (by kernel_rfl) (by kernel_rfl) (by kernel_rfl) ?_
        refine bindE hS (fun z16 hz16 hS => ?_)
        refine zdOp (d := some 33) (op := (.callf 22 [(.tmp 14), (.tmp 31), (.tmp 32)])) (g := none) (v := (.tup [(.agg ((.d (.int .i64 z16.1)) :: ((.d (.int .i64 z16.2.1)) :: ((.r (.msl 272 1 0 z16.2.2.1.length)) :: [])))), (.d (.int .i64 z16.2.2.2))])) (ups := [(272, ⟨1, some (.own 36 4 (e_GCell.cells z16.2.2.1))⟩)]) (j := 20) (t1 := [(272, true), (273, true), (274, true), (275, true), (276, true), (277, true), (278, true), (279, true)]) (acc' := [[(48, false)], [], [], [], [], [], [], [], [], [], [], [(48, false)], [], [], [], [], [(248, true), (249, true), (250, true), (251, true), (252, true), (253, true), (254, true), (255, true)], [], [(80, false)], [(272, true), (273, true), (274, true), (275, true), (276, true), (277, true), (278, true), (279, true)]]) (by kernel_rfl) (by kernel_rfl) rfl (by kernel_rfl) (by kernel_rfl) (ev_callF (args := [(.agg ((.d (.int .i64 a1.Wide)) :: ((.d (.int .i64 a1.High)) :: ((.d (.sl a1.Cells.length (e_GCell.cells a1.Cells))) :: [])))), (.d (.bool z15)), (.agg ((.d (.int .i64 a5.Flags)) :: ((.d (.int .i64 a5.Fore)) :: ((.d (.int .i64 a5.Back)) :: []))))]) (args' := [(.agg ((.d (.int .i64 a1.Wide)) :: ((.d (.int .i64 a1.High)) :: ((.d (.sl a1.Cells.length (e_GCell.cells a1.Cells))) :: [])))), (.d (.bool z15)), (.agg ((.d (.int .i64 a5.Flags)) :: ((.d (.int .i64 a5.Fore)) :: ((.d (.int .i64 a5.Back)) :: []))))]) (l := [(.agg ((.d (.int .i64 a1.Wide)) :: ((.d (.int .i64 a1.High)) :: ((.d (.sl a1.Cells.length (e_GCell.cells a1.Cells))) :: [])))), (.d (.bool z15)), (.agg ((.d (.int .i64 a5.Flags)) :: ((.d (.int .i64 a5.Fore)) :: ((.d (.int .i64 a5.Back)) :: []))))]) (refs := []) (r := (.tup [(.agg ((.d (.int .i64 z16.1)) :: ((.d (.int .i64 z16.2.1)) :: ((.r (.own 0 36 4 z16.2.2.1.length (e_GCell.cells z16.2.2.1))) :: [])))), (.d (.int .i64 z16.2.2.2))])) (v := (.tup [(.agg ((.d (.int .i64 z16.1)) :: ((.d (.int .i64 z16.2.1)) :: ((.r (.msl 272 1 0 z16.2.2.1.length)) :: [])))), (.d (.int .i64 z16.2.2.2))])) (ups' := [(272, ⟨1, some (.own 36 4 (e_GCell.cells z16.2.2.1))⟩)]) (by kernel_rfl) (by kernel_rfl) (by kernel_rfl) (fz_cons rfl (fz_cons rfl (fz_cons rfl fz_nil))) (by kernel_rfl) (f22_ok base (d - 1) (dpt hd rfl) a1 z15 a5 z16 hz16) (by kernel_rfl) (by kernel_rfl) (by kernel_rfl) (by kernel_rfl)) ?_
        refine zdRun (n := 5) (j := 25) (ts := [[], [], [], [(48, true)], []]) (acc' := [[(48, false)], [], [], [], [], [], [], [], [], [], [], [(48, false)], [], [], [], [], [(248, true), (249, true), (250, true), (251, true), (252, true), (253, true), (254, true), (255, true)], [], [(80, false)], [(272, true), (273, true), (274, true), (275, true), (276, true), (277, true), (278, true), (279, true)], [], [], [], [(48, true)], []]) rfl (by kernel_rfl) (by kernel_rfl) (by kernel_rfl) ?_
        refine zdEnd (by kernel_rfl) (by kernel_rfl) ?_
        refine zkSeq ?_
        exact f11_j0_ok hd a1 a2 a3 a4 a5 hQ z16.1 z16.2.1 z16.2.2.1 z16.2.2.2 hS (by kernel_rfl)
      · replace hS := cond_f hc hS
        refine zdRun (n := 6) (j := 19) (ts := [[], [], [], [], [], [(80, false)]]) (acc' := [[(48, false)], [], [], [], [], [], [], [], [], [], [], [(48, false)], [], [], [], [], [], [], [(80, false)]]) rfl (by kernel_rfl) (by kernel_rfl) (by kernel_rfl) ?_
        refine bindE hS (fun z17 hz17 hS => ?_)
        refine zdOp (d := some 33) (op := (.callf 22 [(.tmp 14), (.tmp 31), (.tmp 32)])) (g := none) (v := (.tup [(.agg ((.d (.int .i64 z17.1)) :: ((.d (.int .i64 z17.2.1)) :: ((.r (.msl 272 1 0 z17.2.2.1.length)) :: [])))), (.d (.int .i64 z17.2.2.2))])) (ups := [(272, ⟨1, some (.own 36 4 (e_GCell.cells z17.2.2.1))⟩)]) (j := 20) (t1 := [(272, true), (273, true), (274, true), (275, true), (276, true), (277, true), (278, true), (279, true)]) (acc' := [[(48, false)], [], [], [], [], [], [], [], [], [], [], [(48, false)], [], [], [], [], [], [], [(80, false)], [(272, true), (273, true), (274, true), (275, true), (276, true), (277, true), (278, true), (279, true)]]) (by kernel_rfl) (by kernel_rfl) rfl (by kernel_rfl) (by kernel_rfl) (ev_callF (args := [(.agg ((.d (.int .i64 a1.Wide)) :: ((.d (.int .i64 a1.High)) :: ((.d (.sl a1.Cells.length (e_GCell.cells a1.Cells))) :: [])))), (.d (.bool false)), (.agg ((.d (.int .i64 a5.Flags)) :: ((.d (.int .i64 a5.Fore)) :: ((.d (.int .i64 a5.Back)) :: []))))]) (args' := [(.agg ((.d (.int .i64 a1.Wide)) :: ((.d (.int .i64 a1.High)) :: ((.d (.sl a1.Cells.length (e_GCell.cells a1.Cells))) :: [])))), (.d (.bool false)), (.agg ((.d (.int .i64 a5.Flags)) :: ((.d (.int .i64 a5.Fore)) :: ((.d (.int .i64 a5.Back)) :: []))))]) (l := [(.agg ((.d (.int .i64 a1.Wide)) :: ((.d (.int .i64 a1.High)) :: ((.d (.sl a1.Cells.length (e_GCell.cells a1.Cells))) :: [])))), (.d (.bool false)), (.agg ((.d (.int .i64 a5.Flags)) :: ((.d (.int .i64 a5.Fore)) :: ((.d (.int .i64 a5.Back)) :: []))))]) (refs := []) (r := (.tup [(.agg ((.d (.int .i64 z17.1)) :: ((.d (.int .i64 z17.2.1)) :: ((.r (.own 0 36 4 z17.2.2.1.length (e_GCell.cells z17.2.2.1))) :: [])))), (.d (.int .i64 z17.2.2.2))])) (v := (.tup [(.agg ((.d (.int .i64 z17.1)) :: ((.d (.int .i64 z17.2.1)) :: ((.r (.msl 272 1 0 z17.2.2.1.length)) :: [])))), (.d (.int .i64 z17.2.2.2))])) (ups' := [(272, ⟨1, some (.own 36 4 (e_GCell.cells z17.2.2.1))⟩)]) (by kernel_rfl) (by kernel_rfl) (by kernel_rfl) (fz_cons rfl (fz_cons rfl (fz_cons rfl fz_nil))) (by kernel_rfl) (f22_ok base (d - 1) (dpt hd rfl) a1 false a5 z17 hz17) (by kernel_rfl) (by kernel_rfl) (by kernel_rfl) (by kernel_rfl)) ?_
        refine zdRun (n := 5) (j := 25) (ts := [[], [], [], [(48, true)], []]) (acc' := [[(48, false)], [], [], [], [], [], [], [], [], [], [], [(48, false)], [], [], [], [], [], [], [(80, false)], [(272, true), (273, true), (274, true), (275, true), (276, true), (277, true), (278, true), (279, true)], [], [], [], [(48, true)], []]) rfl (by kernel_rfl) (by kernel_rfl) (by kernel_rfl) ?_
        refine zdEnd (by kernel_rfl) (by kernel_rfl) ?_
        refine zkSeq ?_
        exact f11_j0_ok hd a1 a2 a3 a4 a5 hQ z17.1 z17.2.1 z17.2.2.1 z17.2.2.2 hS (by kernel_rfl)
    · replace hS := cond_f hc hS
      refine zdRun (n := 12) (j := 19) (ts := [[], [], [], [], [], [], [], [], [], [], [], [(80, false)]]) (acc' := [[(48, false)], [], [], [], [], [], [], [], [], [], [], [], [], [], [], [], [], [], [(80, false)]]) rfl (by kernel_rfl) (by kernel_rfl) (by kernel_rfl) ?_
      refine bindE hS (fun z18 hz18 hS => ?_)
      refine zdOp (d := some 33) (op := (.callf 22 [(.tmp 14), (.tmp 31), (.tmp 32)])) (g := none) (v := (.tup [(.agg ((.d (.int .i64 z18.1)) :: ((.d (.int .i64 z18.2.1)) :: ((.r (.msl 272 1 0 z18.2.2.1.length)) :: [])))), (.d (.int .i64 z18.2.2.2))])) (ups := [(272, ⟨1, some (.own 36 4 (e_GCell.cells z18.2.2.1))⟩)]) (j := 20) (t1 := [(272, true), (273, true), (274, true), (275, true), (276, true), (277, true), (278, true), (279, true)]) (acc' := [[(48, false)], [], [], [], [], [], [], [], [], [], [], [], [], [], [], [], [], [], [(80, false)], [(272, true), (273, true), (274, true), (275, true), (276, true), (277, true), (278, true), (279, true)]]) (by kernel_rfl) (by kernel_rfl) rfl (by kernel_rfl) (by kernel_rfl) (ev_callF (args := [(.agg ((.d (.int .i64 a1.Wide)) :: ((.d (.int .i64 a1.High)) :: ((.d (.sl a1.Cells.length (e_GCell.cells a1.Cells))) :: [])))), (.d (.bool false)), (.agg ((.d (.int .i64 a5.Flags)) :: ((.d (.int .i64 a5.Fore)) :: ((.d (.int .i64 a5.Back)) :: []))))]) (args' := [(.agg ((.d (.int .i64 a1.Wide)) :: ((.d (.int .i64 a1.High)) :: ((.d (.sl a1.Cells.length (e_GCell.cells a1.Cells))) :: [])))), (.d (.bool false)), (.agg ((.d (.int .i64 a5.Flags)) :: ((.d (.int .i64 a5.Fore)) :: ((.d (.int .i64 a5.Back)) :: []))))]) (l := [(.agg ((.d (.int .i64 a1.Wide)) :: ((.d (.int .i64 a1.High)) :: ((.d (.sl a1.Cells.length (e_GCell.cells a1.Cells))) :: [])))), (.d (.bool false)), (.agg ((.d (.int .i64 a5.Flags)) :: ((.d (.int .i64 a5.Fore)) :: ((.d (.int .i64 a5.Back)) :: []))))]) (refs := []) (r := (.tup [(.agg ((.d (.int .i64 z18.1)) :: ((.d (.int .i64 z18.2.1)) :: ((.r (.own 0 36 4 z18.2.2.1.length (e_GCell.cells z18.2.2.1))) :: [])))), (.d (.int .i64 z18.2.2.2))])) (v := (.tup [(.agg ((.d (.int .i64 z18.1)) :: ((.d (.int .i64 z18.2.1)) :: ((.r (.msl 272 1 0 z18.2.2.1.length)) :: [])))), (.d (.int .i64 z18.2.2.2))])) (ups' := [(272, ⟨1, some (.own 36 4 (e_GCell.cells z18.2.2.1))⟩)]) (by kernel_rfl) (by kernel_rfl) (by kernel_rfl) (fz_cons rfl (fz_cons rfl (fz_cons rfl fz_nil))) (by kernel_rfl) (f22_ok base (d - 1) (dpt hd rfl) a1 false a5 z18 hz18) (by kernel_rfl) (by kernel_rfl) (by kernel_rfl) (by kernel_rfl)) ?_
      refine zdRun (n := 5) (j := 25) (ts := [[], [], [], [(48, true)], []]) (acc' := [[(48, false)], [], [], [], [], [], [], [], [], [], [], [], [], [], [], [], [], [], [(80, false)], [(272, true), (273, true), (274, true), (275, true), (276, true), (277, true), (278, true), (279, true)], [], [], [], [(48, true)], []]) rfl (by kernel_rfl) (by kernel_rfl) (by kernel_rfl) ?_
      refine zdEnd (by kernel_rfl) (by kernel_rfl) ?_
      refine zkSeq ?_
      exact f11_j0_ok hd a1 a2 a3 a4 a5 hQ z18.1 z18.2.1 z18.2.2.1 z18.2.2.2 hS (by kernel_rfl)
  · replace hS := cond_f hc hS
    refine zdRun (n := 16) (j := 19) (ts := [[], [], [], [], [], [], [], [], [], [], [], [], [], [], [], [(80, false)]]) (acc' := [[(48, false)], [], [], [], [], [], [], [], [], [], [], [], [], [], [], [], [], [], [(80, false)]]) rfl (by kernel_rfl) (by kernel_rfl) (by kernel_rfl) ?_
    refine bindE hS (fun z19 hz19 hS => ?_)
    refine zdOp (d := some 33) (op := (.callf 22 [(.tmp 14), (.tmp 31), (.tmp 32)])) (g := none) (v := (.tup [(.agg ((.d (.int .i64 z19.1)) :: ((.d (.int .i64 z19.2.1)) :: ((.r (.msl 272 1 0 z19.2.2.1.length)) :: [])))), (.d (.int .i64 z19.2.2.2))])) (ups := [(272, ⟨1, some (.own 36 4 (e_GCell.cells z19.2.2.1))⟩)]) (j := 20) (t1 := [(272, true), (273, true), (274, true), (275, true), (276, true), (277, true), (278, true), (279, true)]) (acc' := [[(48, false)], [], [], [], [], [], [], [], [], [], [], [], [], [], [], [], [], [], [(80, false)], [(272, true), (273, true), (274, true), (275, true), (276, true), (277, true), (278, true), (279, true)]]) (by kernel_rfl) (by kernel_rfl) rfl (by kernel_rfl) (by kernel_rfl) (ev_callF (args := [(.agg ((.d (.int .i64 a1.Wide)) :: ((.d (.int .i64 a1.High)) :: ((.d (.sl a1.Cells.length (e_GCell.cells a1.Cells))) :: [])))), (.d (.bool false)), (.agg ((.d (.int .i64 a5.Flags)) :: ((.d (.int .i64 a5.Fore)) :: ((.d (.int .i64 a5.Back)) :: []))))]) (args' := [(.agg ((.d (.int .i64 a1.Wide)) :: ((.d (.int .i64 a1.High)) :: ((.d (.sl a1.Cells.length (e_GCell.cells a1.Cells))) :: [])))), (.d (.bool false)), (.agg ((.d (.int .i64 a5.Flags)) :: ((.d (.int .i64 a5.Fore)) :: ((.d (.int .i64 a5.Back)) :: []))))]) (l := [(.agg ((.d (.int .i64 a1.Wide)) :: ((.d (.int .i64 a1.High)) :: ((.d (.sl a1.Cells.length (e_GCell.cells a1.Cells))) :: [])))), (.d (.bool false)), (.agg ((.d (.int .i64 a5.Flags)) :: ((.d (.int .i64 a5.Fore)) :: ((.d (.int .i64 a5.Back)) :: []))))]) (refs := []) (r := (.tup [(.agg ((.d (.int .i64 z19.1)) :: ((.d (.int .i64 z19.2.1)) :: ((.r (.own 0 36 4 z19.2.2.1.length (e_GCell.cells z19.2.2.1))) :: [])))), (.d (.int .i64 z19.2.2.2))])) (v := (.tup [(.agg ((.d (.int .i64 z19.1)) :: ((.d (.int .i64 z19.2.1)) :: ((.r (.msl 272 1 0 z19.2.2.1.length)) :: [])))), (.d (.int .i64 z19.2.2.2))])) (ups' := [(272, ⟨1, some (.own 36 4 (e_GCell.cells z19.2.2.1))⟩)]) (by kernel_rfl) (by kernel_rfl) (by kernel_rfl) (fz_cons rfl (fz_cons rfl (fz_cons rfl fz_nil))) (by kernel_rfl) (f22_ok base (d - 1) (dpt hd rfl) a1 false a5 z19 hz19) (by kernel_rfl) (by kernel_rfl) (by kernel_rfl) (by kernel_rfl)) ?_
    refine zdRun (n := 5) (j := 25) (ts := [[], [], [], [(48, true)], []]) (acc' := [[(48, false)], [], [], [], [], [], [], [], [], [], [], [], [], [], [], [], [], [], [(80, false)], [(272, true), (273, true), (274, true), (275, true), (276, true), (277, true), (278, true), (279, true)], [], [], [], [(48, true)], []]) rfl (by kernel_rfl) (by kernel_rfl) (by kernel_rfl) ?_
    refine zdEnd (by kernel_rfl) (by kernel_rfl) ?_
    refine zkSeq ?_
    exact f11_j0_ok hd a1 a2 a3 a4 a5 hQ z19.1 z19.2.1 z19.2.2.1 z19.2.2.2 hS (by kernel_rfl)
/- farwriter/grid.Size -/
def f12_fin (p78 : Int) (p79 : Int) (p80 : List GCell) (p81 : Int) : St := ⟨(up (up (fun _ => .un) 9 (.d (.int .i64 p81))) 8 (.r (.ptr 72 0 0))), (up (up (hB fun _ => 0) 490 ⟨0, some (.own 36 4 (e_GCell.cells p80))⟩) 72 ⟨0, some (.box ((.d (.int .i64 p78)) :: ((.d (.int .i64 p79)) :: ((.r (.msl 490 0 0 p80.length)) :: []))))⟩)⟩
theorem f12_out (p78 : Int) (p79 : Int) (p80 : List GCell) (p81 : Int) : outR (f12_fin p78 p79 p80 p81) 0 c12.res = some ((.tup [(.agg ((.d (.int .i64 p78)) :: ((.d (.int .i64 p79)) :: ((.r (.own 0 36 4 p80.length (e_GCell.cells p80))) :: [])))), (.d (.int .i64 p81))]), []) := by
  exact out_of (ids := []) (ids' := [490]) (l := [(.agg ((.d (.int .i64 p78)) :: ((.d (.int .i64 p79)) :: ((.r (.msl 490 0 0 p80.length)) :: [])))), (.d (.int .i64 p81))]) (by kernel_rfl) (by kernel_rfl) (o_tup (o_cons (o_agg (o_cons rfl (o_cons rfl (o_cons (o_own e_GCell (e := 36) (k := 4) (xs := p80) (by kernel_rfl) rfl rfl rfl rfl) o_nil)))) (o_cons rfl o_nil)))
def f12_Q (r : Int × Int × (List GCell) × Int) (e : PX) (st : St) : Prop := DoneF c12 0 ((.tup [(.agg ((.d (.int .i64 r.1)) :: ((.d (.int .i64 r.2.1)) :: ((.r (.own 0 36 4 r.2.2.1.length (e_GCell.cells r.2.2.1))) :: [])))), (.d (.int .i64 r.2.2.2))]), []) e st
def f12_l3_J (a1 : GGrid) (a2 : Int) (a3 : Int) (a4 : GPen) (x : Int × Int × (List GCell) × Int) : St := ⟨(up (up (up (up (fun _ => .un) 48 (.d (.int .i64 x.2.2.2))) 47 (.d (.int .i64 a3))) 11 (.r (.ptr 96 0 0))) 8 (.r (.ptr 72 0 0))), (up (up (up (hB fun _ => 0) 208 ⟨0, some (.own 36 4 (e_GCell.cells x.2.2.1))⟩) 96 ⟨0, some (.box ((.d (.int .i64 x.1)) :: ((.d (.int .i64 x.2.1)) :: ((.r (.msl 208 0 0 x.2.2.1.length)) :: []))))⟩) 72 ⟨0, some (.box ((.d (.int .i64 0)) :: ((.d (.int .i64 0)) :: ((.d (.sl ([] : List GCell).length (e_GCell.cells ([])))) :: []))))⟩)⟩
def f12_l3_H (a1 : GGrid) (a2 : Int) (a3 : Int) (a4 : GPen) (x : Int × Int × (List GCell) × Int) (st : St) : Prop := keepSt [8, 11, 47, 48] [(72, .id 72), (96, .id 96), (208, .id 208)] [] st = f12_l3_J a1 a2 a3 a4 x
def f12_l3_e2_J (a1 : GGrid) (a2 : Int) (a3 : Int) (a4 : GPen) (p148 : Int) (p149 : Int) (p150 : List GCell) : St := ⟨(up (up (fun _ => .un) 11 (.r (.ptr 96 0 0))) 8 (.r (.ptr 72 0 0))), (up (up (up (hB fun _ => 0) 208 ⟨0, some (.own 36 4 (e_GCell.cells p150))⟩) 96 ⟨0, some (.box ((.d (.int .i64 p148)) :: ((.d (.int .i64 p149)) :: ((.r (.msl 208 0 0 p150.length)) :: []))))⟩) 72 ⟨0, some (.box ((.d (.int .i64 0)) :: ((.d (.int .i64 0)) :: ((.d (.sl ([] : List GCell).length (e_GCell.cells ([])))) :: []))))⟩)⟩
def f12_l3_X (a1 : GGrid) (a2 : Int) (a3 : Int) (a4 : GPen) (z : (Int × Int × (List GCell))) (e : PX) (st : St) : Prop := e = .exit 2 ∧ st = f12_l3_e2_J a1 a2 a3 a4 z.1 z.2.1 z.2.2
def f12_l3_j5_J (a1 : GGrid) (a2 : Int) (a3 : Int) (a4 : GPen) (p161 : Int) (p162 : Int) (p163 : List GCell) (p164 : Int) : St := ⟨(up (up (up (up (fun _ => .un) 48 (.d (.int .i64 p164))) 47 (.d (.int .i64 a3))) 11 (.r (.ptr 96 0 0))) 8 (.r (.ptr 72 0 0))), (up (up (up (hB fun _ => 0) 208 ⟨0, some (.own 36 4 (e_GCell.cells p163))⟩) 96 ⟨0, some (.box ((.d (.int .i64 p161)) :: ((.d (.int .i64 p162)) :: ((.r (.msl 208 0 0 p163.length)) :: []))))⟩) 72 ⟨0, some (.box ((.d (.int .i64 0)) :: ((.d (.int .i64 0)) :: ((.d (.sl ([] : List GCell).length (e_GCell.cells ([])))) :: []))))⟩)⟩
noncomputable def f12_l3_j5 (a1 : GGrid) (a2 : Int) (a3 : Int) (a4 : GPen) (p161 : Int) (p162 : Int) (p163 : List GCell) (p164 : Int) : Option ((Int × Int × (List GCell) × Int) ⊕ ((Int × Int × (List GCell)))) := ((f18v1 p161 p162 p164 p163).bind fun z59 => ((chk (decide (z59.1.length = p163.length))).bind fun z60 => ((f29 z59.2.1 z59.2.2 z59.1).bind fun z61 => ((chk (decide (z61.length = z59.1.length))).bind fun z62 => (some (.inl (p161, p162, z61, (IntKind.i64.wrap (p164 + 1)))))))))
theorem f12_l3_j5_ok {base : Orc} {d : Nat} (hd : 6 ≤ d) (a1 : GGrid) (a2 : Int) (a3 : Int) (a4 : GPen) {r : (Int × Int × (List GCell) × Int) ⊕ ((Int × Int × (List GCell)))} {Q : PX → St → Prop} (hQ : ∀ e st', finL (f12_l3_H a1 a2 a3 a4) (f12_l3_X a1 a2 a3 a4) r e st' → Q e st') (p161 : Int) (p162 : Int) (p163 : List GCell) (p164 : Int) (hS : f12_l3_j5 a1 a2 a3 a4 p161 p162 p163 p164 = some r) {st : St} (he : keepSt [8, 11, 47, 48] [(72, .id 72), (96, .id 96), (208, .id 208)] [] st = f12_l3_j5_J a1 a2 a3 a4 p161 p162 p163 p164) : ZR (lev codes base (d - 1)) Q c12_1 [] st := by
  refine zrKeep he ?_
  unfold f12_l3_j5 at hS
  refine zrSeq ?_
  refine zrBlk ?_
  refine zrSeq ?_
  refine zrReg ?_
  refine zlRun (n := 2) (j := 2) rfl (by kernel_rfl) ?_
  refine zlEnd (by kernel_rfl) ?_
  refine zkSeq ?_
  refine zrReg ?_
  refine zlRun (n := 2) (j := 2) rfl (by kernel_rfl) ?_
  refine bindE hS (fun z59 hz59 hS => ?_)
  refine bindE hS (fun z60 hz60 hS => ?_)
  refine zlOp (d := some 53) (op := (.callr 18 [(.tmp 51), (.tmp 52)])) (g := none) (j := 3) rfl (by kernel_rfl) (by kernel_rfl) (ev_callrXA (ids := [208]) (bs := [(.own 36 4 (e_GCell.cells p163))]) (by kernel_rfl) (by kernel_rfl) (by kernel_rfl) (by kernel_rfl) (f18v1_ok base (d - 1) (dpt hd rfl) p161 p162 p164 p163 z59 hz59) (by kernel_rfl) (sm_own e_GCell (e1 := 36) (k1 := 4) (xs := p163) (ys := z59.1) (by kernel_rfl) hz60 sm_nil) (by kernel_rfl)) ?_
  have lz60 : p163.length = z59.1.length := (of_decide_eq_true (chk_t hz60)).symm
  try delta f12_l3_j5_J
  try rw [lz60]
  refine bindE hS (fun z61 hz61 hS => ?_)
  refine bindE hS (fun z62 hz62 hS => ?_)
  refine zlOp (d := some 54) (op := (.callr 29 [(.tmp 53)])) (g := none) (j := 4) rfl (by kernel_rfl) (by kernel_rfl) (ev_callrXA (ids := [208]) (bs := [(.own 36 4 (e_GCell.cells z59.1))]) (by kernel_rfl) (by kernel_rfl) (by kernel_rfl) (by kernel_rfl) (f29_ok base (d - 1) (dpt hd rfl) z59.2.1 z59.2.2 z59.1 z61 hz61) (by kernel_rfl) (sm_own e_GCell (e1 := 36) (k1 := 4) (xs := z59.1) (ys := z61) (by kernel_rfl) hz62 sm_nil) (by kernel_rfl)) ?_
  have lz62 : z59.1.length = z61.length := (of_decide_eq_true (chk_t hz62)).symm
  try delta f12_l3_j5_J
  try rw [lz62]
  refine zlEnd (by kernel_rfl) ?_
  refine zkBlk ?_
  refine zkSeq ?_
  refine zrReg ?_
  refine zlRun (n := 2) (j := 2) rfl (by kernel_rfl) ?_
  refine zlEnd (by kernel_rfl) ?_
  refine zkNil ?_
  exact endQ hS hQ (finL_n (by show keepSt _ _ _ _ = _; kernel_rfl))
def f12_l3_j4_J (a1 : GGrid) (a2 : Int) (a3 : Int) (a4 : GPen) (p156 : Int) (p157 : Int) (p158 : List GCell) (p159 : Int) (p160 : Bool) : St := ⟨(up (up (up (up (up (fun _ => .un) 49 (.d (.bool p160))) 48 (.d (.int .i64 p159))) 47 (.d (.int .i64 a3))) 11 (.r (.ptr 96 0 0))) 8 (.r (.ptr 72 0 0))), (up (up (up (hB fun _ => 0) 208 ⟨0, some (.own 36 4 (e_GCell.cells p158))⟩) 96 ⟨0, some (.box ((.d (.int .i64 p156)) :: ((.d (.int .i64 p157)) :: ((.r (.msl 208 0 0 p158.length)) :: []))))⟩) 72 ⟨0, some (.box ((.d (.int .i64 0)) :: ((.d (.int .i64 0)) :: ((.d (.sl ([] : List GCell).length (e_GCell.cells ([])))) :: []))))⟩)⟩
noncomputable def f12_l3_j4 (a1 : GGrid) (a2 : Int) (a3 : Int) (a4 : GPen) (p156 : Int) (p157 : Int) (p158 : List GCell) (p159 : Int) (p160 : Bool) : Option ((Int × Int × (List GCell) × Int) ⊕ ((Int × Int × (List GCell)))) := (bif p160 then (f12_l3_j5 a1 a2 a3 a4 p156 p157 p158 p159) else (some (.inr (p156, p157, p158))))
theorem f12_l3_j4_ok {base : Orc} {d : Nat} (hd : 6 ≤ d) (a1 : GGrid) (a2 : Int) (a3 : Int) (a4 : GPen) {r : (Int × Int × (List GCell) × Int) ⊕ ((Int × Int × (List GCell)))} {Q : PX → St → Prop} (hQ : ∀ e st', finL (f12_l3_H a1 a2 a3 a4) (f12_l3_X a1 a2 a3 a4) r e st' → Q e st') (p156 : Int) (p157 : Int) (p158 : List GCell) (p159 : Int) (p160 : Bool) (hS : f12_l3_j4 a1 a2 a3 a4 p156 p157 p158 p159 p160 = some r) {st : St} (he : keepSt [8, 11, 47, 48, 49] [(72, .id 72), (96, .id 96), (208, .id 208)] [] st = f12_l3_j4_J a1 a2 a3 a4 p156 p157 p158 p159 p160) : ZR (lev codes base (d - 1)) Q c12_2 [] st := by
  refine zrKeep he ?_
  unfold f12_l3_j4 at hS
  refine zrSeq ?_
  refine zrSplit 49 p160 (by kernel_rfl) (fun hc => ?_) (fun hc => ?_)
  · replace hS := cond_t hc hS
    refine zrCondT (by kernel_rfl) ?_
    refine zrSkip ?_
    refine zkSeq ?_
    exact f12_l3_j5_ok hd a1 a2 a3 a4 hQ p156 p157 p158 p159 hS (by kernel_rfl)
  · replace hS := cond_f hc hS
    refine zrCondF (by kernel_rfl) ?_
    refine zrKeep (J := f12_l3_e2_J a1 a2 a3 a4 p156 p157 p158) (by kernel_rfl) ?_
    refine zrExit ?_
    refine zkSeqX ?_
    refine zkNil ?_
    exact endQ hS hQ (finL_x (by intro h; cases h) (by show _ = _ ∧ _ = _; exact ⟨rfl, rfl⟩))
noncomputable def f12_l3 (a1 : GGrid) (a2 : Int) (a3 : Int) (a4 : GPen) (x : Int × Int × (List GCell) × Int) : Option ((Int × Int × (List GCell) × Int) ⊕ ((Int × Int × (List GCell)))) := (bif (decide (x.2.2.2 < a3)) then (f12_l3_j4 a1 a2 a3 a4 x.1 x.2.1 x.2.2.1 x.2.2.2 true) else (f12_l3_j4 a1 a2 a3 a4 x.1 x.2.1 x.2.2.1 x.2.2.2 false))
theorem f12_l3_ok {base : Orc} {d : Nat} (hd : 6 ≤ d) (a1 : GGrid) (a2 : Int) (a3 : Int) (a4 : GPen) {r : (Int × Int × (List GCell) × Int) ⊕ ((Int × Int × (List GCell)))} {Q : PX → St → Prop} (hQ : ∀ e st', finL (f12_l3_H a1 a2 a3 a4) (f12_l3_X a1 a2 a3 a4) r e st' → Q e st') {x : Int × Int × (List GCell) × Int} (hS : f12_l3 a1 a2 a3 a4 x = some r) {st : St} (he : f12_l3_H a1 a2 a3 a4 x st) : ZR (lev codes base (d - 1)) Q c12_3 [] st := by
  refine zrKeep he ?_
  unfold f12_l3 at hS
  refine zrSeq ?_
  refine zrReg ?_
  refine zlBool (d := 49) (op := (.cmpI .lss (.tmp 48) (.tmp 47))) (g := none) (j := 1) (decide (x.2.2.2 < a3)) rfl (by kernel_rfl) (by kernel_rfl) (by kernel_rfl) (fun hc => ?_) (fun hc => ?_)
  · replace hS := cond_t hc hS
    refine zlEnd (by kernel_rfl) ?_
    refine zkSeq ?_
    exact f12_l3_j4_ok hd a1 a2 a3 a4 hQ x.1 x.2.1 x.2.2.1 x.2.2.2 true hS (by kernel_rfl)
  · replace hS := cond_f hc hS
    refine zlEnd (by kernel_rfl) ?_
    refine zkSeq ?_
    exact f12_l3_j4_ok hd a1 a2 a3 a4 hQ x.1 x.2.1 x.2.2.1 x.2.2.2 false hS (by kernel_rfl)
def f12_j2_J (a1 : GGrid) (a2 : Int) (a3 : Int) (a4 : GPen) (p120 : Int) (p121 : Int) (p122 : List GCell) : St := ⟨(up (up (up (fun _ => .un) 11 (.r (.ptr 96 0 0))) 8 (.r (.ptr 72 0 0))) 2 (.d (.int .i64 a3))), (up (up (up (hB fun _ => 0) 208 ⟨0, some (.own 36 4 (e_GCell.cells p122))⟩) 96 ⟨0, some (.box ((.d (.int .i64 p120)) :: ((.d (.int .i64 p121)) :: ((.r (.msl 208 0 0 p122.length)) :: []))))⟩) 72 ⟨0, some (.box ((.d (.int .i64 0)) :: ((.d (.int .i64 0)) :: ((.d (.sl ([] : List GCell).length (e_GCell.cells ([])))) :: []))))⟩)⟩
noncomputable def f12_j2 (a1 : GGrid) (a2 : Int) (a3 : Int) (a4 : GPen) (p120 : Int) (p121 : Int) (p122 : List GCell) : Option (Int × Int × (List GCell) × Int) := ((loopO (f12_l3 a1 a2 a3 a4) (p120, p121, p122, 0)).bind fun z63 => (some (z63.1, z63.2.1, z63.2.2, 0)))
theorem f12_j2_ok {base : Orc} {d : Nat} (hd : 6 ≤ d) (a1 : GGrid) (a2 : Int) (a3 : Int) (a4 : GPen) {r : Int × Int × (List GCell) × Int} {Q : PX → St → Prop} (hQ : ∀ e st', f12_Q r e st' → Q e st') (p120 : Int) (p121 : Int) (p122 : List GCell) (hS : f12_j2 a1 a2 a3 a4 p120 p121 p122 = some r) {st : St} (he : keepSt [2, 8, 11] [(72, .id 72), (96, .id 96), (208, .id 208)] [] st = f12_j2_J a1 a2 a3 a4 p120 p121 p122) : ZR (lev codes base (d - 1)) Q c12_4 [] st := by
  refine zrKeep he ?_
  unfold f12_j2 at hS
  refine zrSeq ?_
  refine zrSeq ?_
  refine zrReg ?_
  refine zlRun (n := 2) (j := 2) rfl (by kernel_rfl) ?_
  refine zlEnd (by kernel_rfl) ?_
  refine zkSeq ?_
  refine zrBlk ?_
  refine bindE hS (fun z63 hz63 hS => ?_)
  refine zrLoop (f12_l3_H a1 a2 a3 a4) (f12_l3_X a1 a2 a3 a4) (fun x st r Q h0 hS hQ => f12_l3_ok hd a1 a2 a3 a4 hQ hS h0) (x := (p120, p121, p122, 0)) (z := z63) (by show keepSt _ _ _ _ = _; kernel_rfl) hz63 ?_
  intro e st' _ hX
  obtain ⟨rfl, rfl⟩ : _ ∧ _ := hX
  refine zkBlkX ?_
  refine zkSeq ?_
  refine zrSeq ?_
  refine zrReg ?_
  refine zlRun (n := 3) (j := 3) rfl (by kernel_rfl) ?_
  refine zlEnd (by kernel_rfl) ?_
  refine zkSeq ?_
  refine zrRet ?_
  refine zkNil ?_
  exact endQ hS hQ (fRet (by kernel_rfl) ((congrArg (fun s => outR s 0 c12.res) (by kernel_rfl : finSt c12.fin _ = f12_fin z63.1 z63.2.1 z63.2.2 0)).trans (f12_out z63.1 z63.2.1 z63.2.2 0)))
def f12_l6_J (a1 : GGrid) (a2 : Int) (a3 : Int) (a4 : GPen) (x : Int × Int × (List GCell) × Int) : St := ⟨(up (up (up (up (up (up (fun _ => .un) 36 (.d (.int .i64 x.2.2.2))) 35 (.d (.int .i64 (if a1.High < a3 then a1.High else a3)))) 11 (.r (.ptr 96 0 0))) 8 (.r (.ptr 72 0 0))) 4 (.r (.ptr 40 0 0))) 2 (.d (.int .i64 a3))), (up (up (up (up (hB fun _ => 0) 208 ⟨0, some (.own 36 4 (e_GCell.cells x.2.2.1))⟩) 96 ⟨0, some (.box ((.d (.int .i64 x.1)) :: ((.d (.int .i64 x.2.1)) :: ((.r (.msl 208 0 0 x.2.2.1.length)) :: []))))⟩) 72 ⟨0, some (.box ((.d (.int .i64 0)) :: ((.d (.int .i64 0)) :: ((.d (.sl ([] : List GCell).length (e_GCell.cells ([])))) :: []))))⟩) 40 ⟨0, some (.box ((.d (.int .i64 a1.Wide)) :: ((.d (.int .i64 a1.High)) :: ((.d (.sl a1.Cells.length (e_GCell.cells a1.Cells))) :: []))))⟩)⟩
def f12_l6_H (a1 : GGrid) (a2 : Int) (a3 : Int) (a4 : GPen) (x : Int × Int × (List GCell) × Int) (st : St) : Prop := keepSt [2, 4, 8, 11, 35, 36] [(40, .id 40), (72, .id 72), (96, .id 96), (208, .id 208)] [] st = f12_l6_J a1 a2 a3 a4 x
def f12_l6_e0_J (a1 : GGrid) (a2 : Int) (a3 : Int) (a4 : GPen) (p117 : Int) (p118 : Int) (p119 : List GCell) : St := ⟨(up (up (up (fun _ => .un) 11 (.r (.ptr 96 0 0))) 8 (.r (.ptr 72 0 0))) 2 (.d (.int .i64 a3))), (up (up (up (hB fun _ => 0) 208 ⟨0, some (.own 36 4 (e_GCell.cells p119))⟩) 96 ⟨0, some (.box ((.d (.int .i64 p117)) :: ((.d (.int .i64 p118)) :: ((.r (.msl 208 0 0 p119.length)) :: []))))⟩) 72 ⟨0, some (.box ((.d (.int .i64 0)) :: ((.d (.int .i64 0)) :: ((.d (.sl ([] : List GCell).length (e_GCell.cells ([])))) :: []))))⟩)⟩
def f12_l6_X (a1 : GGrid) (a2 : Int) (a3 : Int) (a4 : GPen) (z : (Int × Int × (List GCell))) (e : PX) (st : St) : Prop := e = .exit 0 ∧ st = f12_l6_e0_J a1 a2 a3 a4 z.1 z.2.1 z.2.2
def f12_l6_j8_J (a1 : GGrid) (a2 : Int) (a3 : Int) (a4 : GPen) (p175 : Int) (p176 : Int) (p177 : List GCell) (p178 : Int) : St := ⟨(up (up (up (up (up (up (fun _ => .un) 36 (.d (.int .i64 p178))) 35 (.d (.int .i64 (if a1.High < a3 then a1.High else a3)))) 11 (.r (.ptr 96 0 0))) 8 (.r (.ptr 72 0 0))) 4 (.r (.ptr 40 0 0))) 2 (.d (.int .i64 a3))), (up (up (up (up (hB fun _ => 0) 208 ⟨0, some (.own 36 4 (e_GCell.cells p177))⟩) 96 ⟨0, some (.box ((.d (.int .i64 p175)) :: ((.d (.int .i64 p176)) :: ((.r (.msl 208 0 0 p177.length)) :: []))))⟩) 72 ⟨0, some (.box ((.d (.int .i64 0)) :: ((.d (.int .i64 0)) :: ((.d (.sl ([] : List GCell).length (e_GCell.cells ([])))) :: []))))⟩) 40 ⟨0, some (.box ((.d (.int .i64 a1.Wide)) :: ((.d (.int .i64 a1.High)) :: ((.d (.sl a1.Cells.length (e_GCell.cells a1.Cells))) :: []))))⟩)⟩
noncomputable def f12_l6_j8 (a1 : GGrid) (a2 : Int) (a3 : Int) (a4 : GPen) (p175 : Int) (p176 : Int) (p177 : List GCell) (p178 : Int) : Option ((Int × Int × (List GCell) × Int) ⊕ ((Int × Int × (List GCell)))) := ((f18v1 p175 p176 p178 p177).bind fun z64 => ((chk (decide (z64.1.length = p177.length))).bind fun z65 => ((f18 a1 p178).bind fun z66 => ((chk (decide (z64.2.1 + z64.2.2 ≤ z64.1.length))).bind fun z67 => ((some (cpyL z64.1 z64.2.1 z64.2.2 z66)).bind fun z68 => (some (.inl (p175, p176, z68, (IntKind.i64.wrap (p178 + 1))))))))))
theorem f12_l6_j8_ok {base : Orc} {d : Nat} (hd : 6 ≤ d) (a1 : GGrid) (a2 : Int) (a3 : Int) (a4 : GPen) {r : (Int × Int × (List GCell) × Int) ⊕ ((Int × Int × (List GCell)))} {Q : PX → St → Prop} (hQ : ∀ e st', finL (f12_l6_H a1 a2 a3 a4) (f12_l6_X a1 a2 a3 a4) r e st' → Q e st') (p175 : Int) (p176 : Int) (p177 : List GCell) (p178 : Int) (hS : f12_l6_j8 a1 a2 a3 a4 p175 p176 p177 p178 = some r) {st : St} (he : keepSt [2, 4, 8, 11, 35, 36] [(40, .id 40), (72, .id 72), (96, .id 96), (208, .id 208)] [] st = f12_l6_j8_J a1 a2 a3 a4 p175 p176 p177 p178) : ZR (lev codes base (d - 1)) Q c12_5 [] st := by
  refine zrKeep he ?_
  unfold f12_l6_j8 at hS
  refine zrSeq ?_
  refine zrBlk ?_
  refine zrSeq ?_
  refine zrReg ?_
  refine zlRun (n := 2) (j := 2) rfl (by kernel_rfl) ?_
  refine zlEnd (by kernel_rfl) ?_
  refine zkSeq ?_
  refine zrRegD ?_
  refine zdRun (n := 2) (j := 2) (ts := [[(96, false)], []]) (acc' := [[(96, false)], []]) rfl (by kernel_rfl) (by kernel_rfl) (by kernel_rfl) ?_
  refine bindE hS (fun z64 hz64 hS => ?_)
  refine bindE hS (fun z65 hz65 hS => ?_)
  refine zdOp (d := some 41) (op := (.callr 18 [(.tmp 39), (.tmp 40)])) (g := none) (j := 3) (t1 := [(208, true), (208, false), (336, true), (337, true), (338, true), (339, true), (340, true), (341, true), (342, true), (343, true)]) (acc' := [[(96, false)], [], [(208, true), (208, false), (336, true), (337, true), (338, true), (339, true), (340, true), (341, true), (342, true), (343, true)]]) (by kernel_rfl) (by kernel_rfl) rfl (by kernel_rfl) (by kernel_rfl) (ev_callrXA (ids := [208]) (bs := [(.own 36 4 (e_GCell.cells p177))]) (by kernel_rfl) (by kernel_rfl) (by kernel_rfl) (by kernel_rfl) (f18v1_ok base (d - 1) (dpt hd rfl) p175 p176 p178 p177 z64 hz64) (by kernel_rfl) (sm_own e_GCell (e1 := 36) (k1 := 4) (xs := p177) (ys := z64.1) (by kernel_rfl) hz65 sm_nil) (by kernel_rfl)) ?_
  have lz65 : p177.length = z64.1.length := (of_decide_eq_true (chk_t hz65)).symm
  try delta f12_l6_j8_J
  try rw [lz65]
  refine zdRun (n := 2) (j := 5) (ts := [[(40, false)], []]) (acc' := [[(96, false)], [], [(208, true), (208, false), (336, true), (337, true), (338, true), (339, true), (340, true), (341, true), (342, true), (343, true)], [(40, false)], []]) rfl (by kernel_rfl) (by kernel_rfl) (by kernel_rfl) ?_
  refine bindE hS (fun z66 hz66 hS => ?_)
  refine zdOp (d := some 44) (op := (.callr 18 [(.tmp 42), (.tmp 43)])) (g := none) (j := 6) (t1 := [(360, true), (361, true), (362, true), (363, true), (364, true), (365, true), (366, true), (367, true)]) (acc' := [[(96, false)], [], [(208, true), (208, false), (336, true), (337, true), (338, true), (339, true), (340, true), (341, true), (342, true), (343, true)], [(40, false)], [], [(360, true), (361, true), (362, true), (363, true), (364, true), (365, true), (366, true), (367, true)]]) (by kernel_rfl) (by kernel_rfl) rfl (by kernel_rfl) (by kernel_rfl) (ev_callrXA (ids := []) (bs := []) (by kernel_rfl) (by kernel_rfl) (by kernel_rfl) (by kernel_rfl) (f18_ok base (d - 1) (dpt hd rfl) a1 p178 z66 hz66) (by kernel_rfl) sm_nil (by kernel_rfl)) ?_
  refine bindE hS (fun z67 hz67 hS => ?_)
  refine bindE hS (fun z68 hz68 hS => ?_)
  refine zdOp (d := some 45) (op := (.cpy 4 (.tmp 41) (.tmp 44))) (g := none) (v := (.d (.int .i64 ((min z66.length z64.2.2 : Nat) : Int)))) (ups := [(208, ⟨0, some (.own 36 4 (e_GCell.cells (cpyL z64.1 z64.2.1 z64.2.2 z66)))⟩)]) (j := 7) (t1 := [(208, true)]) (acc' := [[(96, false)], [], [(208, true), (208, false), (336, true), (337, true), (338, true), (339, true), (340, true), (341, true), (342, true), (343, true)], [(40, false)], [], [(360, true), (361, true), (362, true), (363, true), (364, true), (365, true), (366, true), (367, true)], [(208, true)]]) (by kernel_rfl) (by kernel_rfl) rfl (by kernel_rfl) (by kernel_rfl) (ev_cpy e_GCell (b := 208) (g := 0) (l := z64.2.1) (n := z64.2.2) (e := 36) (xs := z64.1) (ys := z66) (by kernel_rfl) (by kernel_rfl) rfl ((congrArg (asL _) (by kernel_rfl : ρof _ (.tmp 44) = (.d (.sl z66.length (e_GCell.cells z66))))).trans (as_d _ _)) hz67) ?_
  have ez68 := Option.some.inj hz68
  have lz68 : z64.1.length = z68.length := by rw [← ez68]; exact (cpyL_len (of_decide_eq_true (chk_t hz67))).symm
  rw [ez68]
  try delta f12_l6_j8_J
  try rw [lz68]
  refine zdEnd (by kernel_rfl) (by kernel_rfl) ?_
  refine zkBlk ?_
  refine zkSeq ?_
  refine zrReg ?_
  refine zlRun (n := 2) (j := 2) rfl (by kernel_rfl) ?_
  refine zlEnd (by kernel_rfl) ?_
  refine zkNil ?_
  exact endQ hS hQ (finL_n (by show keepSt _ _ _ _ = _; kernel_rfl))
def f12_l6_j7_J (a1 : GGrid) (a2 : Int) (a3 : Int) (a4 : GPen) (p170 : Int) (p171 : Int) (p172 : List GCell) (p173 : Int) (p174 : Bool) : St := ⟨(up (up (up (up (up (up (up (fun _ => .un) 37 (.d (.bool p174))) 36 (.d (.int .i64 p173))) 35 (.d (.int .i64 (if a1.High < a3 then a1.High else a3)))) 11 (.r (.ptr 96 0 0))) 8 (.r (.ptr 72 0 0))) 4 (.r (.ptr 40 0 0))) 2 (.d (.int .i64 a3))), (up (up (up (up (hB fun _ => 0) 208 ⟨0, some (.own 36 4 (e_GCell.cells p172))⟩) 96 ⟨0, some (.box ((.d (.int .i64 p170)) :: ((.d (.int .i64 p171)) :: ((.r (.msl 208 0 0 p172.length)) :: []))))⟩) 72 ⟨0, some (.box ((.d (.int .i64 0)) :: ((.d (.int .i64 0)) :: ((.d (.sl ([] : List GCell).length (e_GCell.cells ([])))) :: []))))⟩) 40 ⟨0, some (.box ((.d (.int .i64 a1.Wide)) :: ((.d (.int .i64 a1.High)) :: ((.d (.sl a1.Cells.length (e_GCell.cells a1.Cells))) :: []))))⟩)⟩
noncomputable def f12_l6_j7 (a1 : GGrid) (a2 : Int) (a3 : Int) (a4 : GPen) (p170 : Int) (p171 : Int) (p172 : List GCell) (p173 : Int) (p174 : Bool) : Option ((Int × Int × (List GCell) × Int) ⊕ ((Int × Int × (List GCell)))) := (bif p174 then (f12_l6_j8 a1 a2 a3 a4 p170 p171 p172 p173) else (some (.inr (p170, p171, p172))))
theorem f12_l6_j7_ok {base : Orc} {d : Nat} (hd : 6 ≤ d) (a1 : GGrid) (a2 : Int) (a3 : Int) (a4 : GPen) {r : (Int × Int × (List GCell) × Int) ⊕ ((Int × Int × (List GCell)))} {Q : PX → St → Prop} (hQ : ∀ e st', finL (f12_l6_H a1 a2 a3 a4) (f12_l6_X a1 a2 a3 a4) r e st' → Q e st') (p170 : Int) (p171 : Int) (p172 : List GCell) (p173 : Int) (p174 : Bool) (hS : f12_l6_j7 a1 a2 a3 a4 p170 p171 p172 p173 p174 = some r) {st : St} (he : keepSt [2, 4, 8, 11, 35, 36, 37] [(40, .id 40), (72, .id 72), (96, .id 96), (208, .id 208)] [] st = f12_l6_j7_J a1 a2 a3 a4 p170 p171 p172 p173 p174) : ZR (lev codes base (d - 1)) Q c12_6 [] st := by
  refine zrKeep he ?_
  unfold f12_l6_j7 at hS
  refine zrSeq ?_
  refine zrSplit 37 p174 (by kernel_rfl) (fun hc => ?_) (fun hc => ?_)
  · replace hS := cond_t hc hS
    refine zrCondT (by kernel_rfl) ?_
    refine zrSkip ?_
    refine zkSeq ?_
    exact f12_l6_j8_ok hd a1 a2 a3 a4 hQ p170 p171 p172 p173 hS (by kernel_rfl)
  · replace hS := cond_f hc hS
    refine zrCondF (by kernel_rfl) ?_
    refine zrKeep (J := f12_l6_e0_J a1 a2 a3 a4 p170 p171 p172) (by kernel_rfl) ?_
    refine zrExit ?_
    refine zkSeqX ?_
    refine zkNil ?_
    exact endQ hS hQ (finL_x (by intro h; cases h) (by show _ = _ ∧ _ = _; exact ⟨rfl, rfl⟩))
noncomputable def f12_l6 (a1 : GGrid) (a2 : Int) (a3 : Int) (a4 : GPen) (x : Int × Int × (List GCell) × Int) : Option ((Int × Int × (List GCell) × Int) ⊕ ((Int × Int × (List GCell)))) := (bif (decide (x.2.2.2 < (if a1.High < a3 then a1.High else a3))) then (f12_l6_j7 a1 a2 a3 a4 x.1 x.2.1 x.2.2.1 x.2.2.2 true) else (f12_l6_j7 a1 a2 a3 a4 x.1 x.2.1 x.2.2.1 x.2.2.2 false))
theorem f12_l6_ok {base : Orc} {d : Nat} (hd : 6 ≤ d) (a1 : GGrid) (a2 : Int) (a3 : Int) (a4 : GPen) {r : (Int × Int × (List GCell) × Int) ⊕ ((Int × Int × (List GCell)))} {Q : PX → St → Prop} (hQ : ∀ e st', finL (f12_l6_H a1 a2 a3 a4) (f12_l6_X a1 a2 a3 a4) r e st' → Q e st') {x : Int × Int × (List GCell) × Int} (hS : f12_l6 a1 a2 a3 a4 x = some r) {st : St} (he : f12_l6_H a1 a2 a3 a4 x st) : ZR (lev codes base (d - 1)) Q c12_7 [] st := by
  refine zrKeep he ?_
  unfold f12_l6 at hS
  refine zrSeq ?_
  refine zrReg ?_
  refine zlBool (d := 37) (op := (.cmpI .lss (.tmp 36) (.tmp 35))) (g := none) (j := 1) (decide (x.2.2.2 < (if a1.High < a3 then a1.High else a3))) rfl (by kernel_rfl) (by kernel_rfl) (by kernel_rfl) (fun hc => ?_) (fun hc => ?_)
  · replace hS := cond_t hc hS
    refine zlEnd (by kernel_rfl) ?_
    refine zkSeq ?_
    exact f12_l6_j7_ok hd a1 a2 a3 a4 hQ x.1 x.2.1 x.2.2.1 x.2.2.2 true hS (by kernel_rfl)
  · replace hS := cond_f hc hS
    refine zlEnd (by kernel_rfl) ?_
    refine zkSeq ?_
    exact f12_l6_j7_ok hd a1 a2 a3 a4 hQ x.1 x.2.1 x.2.2.1 x.2.2.2 false hS (by kernel_rfl)
def f12_j1_J (a1 : GGrid) (a2 : Int) (a3 : Int) (a4 : GPen) (p89 : Int) (p90 : Int) (p91 : List GCell) : St := ⟨(up (up (up (up (fun _ => .un) 11 (.r (.ptr 96 0 0))) 8 (.r (.ptr 72 0 0))) 4 (.r (.ptr 40 0 0))) 2 (.d (.int .i64 a3))), (up (up (up (up (hB fun _ => 0) 208 ⟨0, some (.own 36 4 (e_GCell.cells p91))⟩) 96 ⟨0, some (.box ((.d (.int .i64 p89)) :: ((.d (.int .i64 p90)) :: ((.r (.msl 208 0 0 p91.length)) :: []))))⟩) 72 ⟨0, some (.box ((.d (.int .i64 0)) :: ((.d (.int .i64 0)) :: ((.d (.sl ([] : List GCell).length (e_GCell.cells ([])))) :: []))))⟩) 40 ⟨0, some (.box ((.d (.int .i64 a1.Wide)) :: ((.d (.int .i64 a1.High)) :: ((.d (.sl a1.Cells.length (e_GCell.cells a1.Cells))) :: []))))⟩)⟩
noncomputable def f12_j1 (a1 : GGrid) (a2 : Int) (a3 : Int) (a4 : GPen) (p89 : Int) (p90 : Int) (p91 : List GCell) : Option (Int × Int × (List GCell) × Int) := ((loopO (f12_l6 a1 a2 a3 a4) (p89, p90, p91, 0)).bind fun z69 => (f12_j2 a1 a2 a3 a4 z69.1 z69.2.1 z69.2.2))
theorem f12_j1_ok {base : Orc} {d : Nat} (hd : 6 ≤ d) (a1 : GGrid) (a2 : Int) (a3 : Int) (a4 : GPen) {r : Int × Int × (List GCell) × Int} {Q : PX → St → Prop} (hQ : ∀ e st', f12_Q r e st' → Q e st') (p89 : Int) (p90 : Int) (p91 : List GCell) (hS : f12_j1 a1 a2 a3 a4 p89 p90 p91 = some r) {st : St} (he : keepSt [2, 4, 8, 11] [(40, .id 40), (72, .id 72), (96, .id 96), (208, .id 208)] [] st = f12_j1_J a1 a2 a3 a4 p89 p90 p91) : ZR (lev codes base (d - 1)) Q c12_8 [] st := by
  refine zrKeep he ?_
  unfold f12_j1 at hS
  refine zrSeq ?_
  refine zrSeq ?_
  refine zrReg ?_
  refine zlRun (n := 5) (j := 5) rfl (by kernel_rfl) ?_
  refine zlEnd (by kernel_rfl) ?_
  refine zkSeq ?_
  refine zrBlk ?_
  refine bindE hS (fun z69 hz69 hS => ?_)
  refine zrLoop (f12_l6_H a1 a2 a3 a4) (f12_l6_X a1 a2 a3 a4) (fun x st r Q h0 hS hQ => f12_l6_ok hd a1 a2 a3 a4 hQ hS h0) (x := (p89, p90, p91, 0)) (z := z69) (by show keepSt _ _ _ _ = _; kernel_rfl) hz69 ?_
  intro e st' _ hX
  obtain ⟨rfl, rfl⟩ : _ ∧ _ := hX
  refine zkBlkX ?_
  refine zkSeq ?_
  exact f12_j2_ok hd a1 a2 a3 a4 hQ z69.1 z69.2.1 z69.2.2 hS (by kernel_rfl)
def f12_j0_J (a1 : GGrid) (a2 : Int) (a3 : Int) (a4 : GPen) : St := ⟨(up (up (up (up (up (fun _ => .un) 8 (.r (.ptr 72 0 0))) 7 (.r (.ptr 64 0 0))) 4 (.r (.ptr 40 0 0))) 2 (.d (.int .i64 a3))) 1 (.d (.int .i64 a2))), (up (up (up (hB fun _ => 0) 72 ⟨0, some (.box ((.d (.int .i64 0)) :: ((.d (.int .i64 0)) :: ((.d (.sl ([] : List GCell).length (e_GCell.cells ([])))) :: []))))⟩) 64 ⟨0, some (.box ((.d (.int .i64 a4.Flags)) :: ((.d (.int .i64 a4.Fore)) :: ((.d (.int .i64 a4.Back)) :: []))))⟩) 40 ⟨0, some (.box ((.d (.int .i64 a1.Wide)) :: ((.d (.int .i64 a1.High)) :: ((.d (.sl a1.Cells.length (e_GCell.cells a1.Cells))) :: []))))⟩)⟩
noncomputable def f12_j0 (a1 : GGrid) (a2 : Int) (a3 : Int) (a4 : GPen) : Option (Int × Int × (List GCell) × Int) := ((f14 a2 a3 a4).bind fun z31 => (bif (!decide (z31.2.2.2 = 0)) then (some (0, 0, [], z31.2.2.2)) else (f12_j1 a1 a2 a3 a4 z31.1 z31.2.1 z31.2.2.1)))
theorem f12_j0_ok {base : Orc} {d : Nat} (hd : 6 ≤ d) (a1 : GGrid) (a2 : Int) (a3 : Int) (a4 : GPen) {r : Int × Int × (List GCell) × Int} {Q : PX → St → Prop} (hQ : ∀ e st', f12_Q r e st' → Q e st')  (hS : f12_j0 a1 a2 a3 a4 = some r) {st : St} (he : keepSt [1, 2, 4, 7, 8] [(40, .id 40), (64, .id 64), (72, .id 72)] [.cell 72 2 0 0 1] st = f12_j0_J a1 a2 a3 a4) : ZR (lev codes base (d - 1)) Q c12_9 [] st := by
  refine zrKeep he ?_
  unfold f12_j0 at hS
  refine zrSeq ?_
  refine zrReg ?_
  refine zlRun (n := 3) (j := 3) rfl (by kernel_rfl) ?_
  refine bindE hS (fun z31 hz31 hS => ?_)
  refine zlOp (d := some 25) (op := (.call 14 [(.tmp 22), (.tmp 23), (.tmp 24)])) (g := none) (j := 4) rfl (by kernel_rfl) (by kernel_rfl) (ev_callA (by kernel_rfl) (f14_ok base (d - 1) (dpt hd rfl) a2 a3 a4 z31 hz31) (by kernel_rfl) (by kernel_rfl)) ?_
  refine zlRun (n := 6) (j := 10) rfl (by kernel_rfl) ?_
  refine zlEnd (by kernel_rfl) ?_
  refine zkSeq ?_
  refine zrSeq ?_
  refine zrSeq ?_
  refine zrReg ?_
  refine zlRun (n := 1) (j := 1) rfl (by kernel_rfl) ?_
  refine zlBool (d := 29) (op := (.cmpI .neq (.tmp 28) (.const (.int .i64 0)))) (g := none) (j := 2) (!decide (z31.2.2.2 = 0)) rfl (by kernel_rfl) (by kernel_rfl) (by kernel_rfl) (fun hc => ?_) (fun hc => ?_)
  · replace hS := cond_t hc hS
    refine zlEnd (by kernel_rfl) ?_
    refine zkSeq ?_
    refine zrCondT (by kernel_rfl) ?_
    refine zrSeq ?_
    refine zrReg ?_
    refine zlRun (n := 4) (j := 4) rfl (by kernel_rfl) ?_
    refine zlEnd (by kernel_rfl) ?_
    refine zkSeq ?_
    refine zrRet ?_
    refine zkSeqR ?_
    refine zkNil ?_
    exact endQ hS hQ (fRet (by kernel_rfl) ((congrArg (fun s => outR s 0 c12.res) (by kernel_rfl : finSt c12.fin _ = f12_fin 0 0 [] z31.2.2.2)).trans (f12_out 0 0 [] z31.2.2.2)))
  · replace hS := cond_f hc hS
    refine zlEnd (by kernel_rfl) ?_
    refine zkSeq ?_
    refine zrCondF (by kernel_rfl) ?_
    refine zrSkip ?_
    refine zkSeq ?_
    exact f12_j1_ok hd a1 a2 a3 a4 hQ z31.1 z31.2.1 z31.2.2.1 hS (by kernel_rfl)
noncomputable def f12 (a1 : GGrid) (a2 : Int) (a3 : Int) (a4 : GPen) : Option (Int × Int × (List GCell) × Int) := ((f6 a1).bind fun z70 => (bif (!decide (z70 = 0)) then (some (0, 0, [], z70)) else (f12_j0 a1 a2 a3 a4 )))
theorem f12_ok (base : Orc) (d : Nat) (hd : 6 ≤ d) (a1 : GGrid) (a2 : Int) (a3 : Int) (a4 : GPen) (r : Int × Int × (List GCell) × Int) (hS : f12 a1 a2 a3 a4 = some r) : lev codes base d 12 [(.agg ((.d (.int .i64 a1.Wide)) :: ((.d (.int .i64 a1.High)) :: ((.d (.sl a1.Cells.length (e_GCell.cells a1.Cells))) :: [])))), (.d (.int .i64 a2)), (.d (.int .i64 a3)), (.agg ((.d (.int .i64 a4.Flags)) :: ((.d (.int .i64 a4.Fore)) :: ((.d (.int .i64 a4.Back)) :: []))))] [] = some ((.tup [(.agg ((.d (.int .i64 r.1)) :: ((.d (.int .i64 r.2.1)) :: ((.r (.own 0 36 4 r.2.2.1.length (e_GCell.cells r.2.2.1))) :: [])))), (.d (.int .i64 r.2.2.2))]), []) := by
  refine lev_go codes12 rfl rfl (Nat.le_trans (Nat.le_of_ble_eq_true rfl) hd) fun Q hQ => ?_
  unfold f12 at hS
  show ZR _ Q c12_b [] _
  replace hQ : ∀ e st', f12_Q r e st' → Q e st' := hQ
  refine zrSeq ?_
  refine zrReg ?_
  refine zlRun (n := 4) (j := 4) rfl (by kernel_rfl) ?_
  refine zlEnd (by kernel_rfl) ?_
  refine zkSeq ?_
  refine zrSeq ?_
  refine zrSeq ?_
  refine zrReg ?_
  refine zlRun (n := 1) (j := 1) rfl (by kernel_rfl) ?_
  refine bindE hS (fun z70 hz70 hS => ?_)
  refine zlOp (d := some 16) (op := (.call 6 [(.tmp 15)])) (g := none) (j := 2) rfl (by kernel_rfl) (by kernel_rfl) (ev_callA (by kernel_rfl) (f6_ok base (d - 1) (dpt hd rfl) a1 z70 hz70) (by kernel_rfl) (by kernel_rfl)) ?_
  refine zlRun (n := 1) (j := 3) rfl (by kernel_rfl) ?_
  refine zlEnd (by kernel_rfl) ?_
  refine zkSeq ?_
  refine zrSeq ?_
  refine zrReg ?_
  refine zlRun (n := 1) (j := 1) rfl (by kernel_rfl) ?_
  refine zlBool (d := 18) (op := (.cmpI .neq (.tmp 17) (.const (.int .i64 0)))) (g := none) (j := 2) (!decide (z70 = 0)) rfl (by kernel_rfl) (by kernel_rfl) (by kernel_rfl) (fun hc => ?_) (fun hc => ?_)
  · replace hS := cond_t hc hS
    refine zlEnd (by kernel_rfl) ?_
    refine zkSeq ?_
    refine zrCondT (by kernel_rfl) ?_
    refine zrSeq ?_
    refine zrReg ?_
    refine zlRun (n := 4) (j := 4) rfl (by kernel_rfl) ?_
    refine zlEnd (by kernel_rfl) ?_
    refine zkSeq ?_
    refine zrRet ?_
    refine zkSeqR ?_
    refine zkNil ?_
    exact endQ hS hQ (fRet (by kernel_rfl) ((congrArg (fun s => outR s 0 c12.res) (by kernel_rfl : finSt c12.fin _ = f12_fin 0 0 [] z70)).trans (f12_out 0 0 [] z70)))
  · replace hS := cond_f hc hS
    refine zlEnd (by kernel_rfl) ?_
    refine zkSeq ?_
    refine zrCondF (by kernel_rfl) ?_
    refine zrSkip ?_
    refine zkSeq ?_
    exact f12_j0_ok hd a1 a2 a3 a4 hQ  hS (by kernel_rfl)
/- slices.Equal[[]farwriter/api.Cell,farwriter/api.Cell] -/
def f30_fin (p14 : Bool) : St := ⟨(up (fun _ => .un) 4 (.d (.bool p14))), (hB fun _ => 0)⟩
theorem f30_out (p14 : Bool) : outR (f30_fin p14) 0 c30.res = some ((.d (.bool p14)), []) := by
  kernel_rfl
def f30_Q (r : Bool) (e : PX) (st : St) : Prop := DoneF c30 0 ((.d (.bool r)), []) e st
def f30_l1_J (a1 : List GCell) (a2 : List GCell) (x : Int) : St := ⟨(up (up (up (up (fun _ => .un) 13 (.d (.int .i64 x))) 12 (.d (.int .i64 (a1.length : Int)))) 1 (.d (.sl a2.length (e_GCell.cells a2)))) 0 (.d (.sl a1.length (e_GCell.cells a1)))), (hB fun _ => 0)⟩
def f30_l1_H (a1 : List GCell) (a2 : List GCell) (x : Int) (st : St) : Prop := keepSt [0, 1, 12, 13] [] [] st = f30_l1_J a1 a2 x
def f30_l1_e0_J (a1 : List GCell) (a2 : List GCell) : St := ⟨(fun _ => .un), (hB fun _ => 0)⟩
def f30_l1_X (a1 : List GCell) (a2 : List GCell) (z : Unit ⊕ Bool) (e : PX) (st : St) : Prop := (match z with | .inl z => e = .exit 0 ∧ st = f30_l1_e0_J a1 a2 | .inr z => e = .ret ∧ finSt c30.fin st = f30_fin z)
def f30_l1_j3_J (a1 : List GCell) (a2 : List GCell) (p20 : Int) : St := ⟨(up (up (up (up (fun _ => .un) 13 (.d (.int .i64 p20))) 12 (.d (.int .i64 (a1.length : Int)))) 1 (.d (.sl a2.length (e_GCell.cells a2)))) 0 (.d (.sl a1.length (e_GCell.cells a1)))), (hB fun _ => 0)⟩
noncomputable def f30_l1_j3 (a1 : List GCell) (a2 : List GCell) (p20 : Int) : Option (Int ⊕ (Unit ⊕ Bool)) := ((idx a1 p20).bind fun z7 => ((idx a2 p20).bind fun z8 => (bif (!(decide (z7.Rune = z8.Rune) && (decide (z7.Pen.Flags = z8.Pen.Flags) && (decide (z7.Pen.Fore = z8.Pen.Fore) && (decide (z7.Pen.Back = z8.Pen.Back) && true))))) then (some (.inr (.inr false))) else (some (.inl (IntKind.i64.wrap (p20 + 1)))))))
theorem f30_l1_j3_ok {base : Orc} {d : Nat} (hd : 1 ≤ d) (a1 : List GCell) (a2 : List GCell) {r : Int ⊕ (Unit ⊕ Bool)} {Q : PX → St → Prop} (hQ : ∀ e st', finL (f30_l1_H a1 a2) (f30_l1_X a1 a2) r e st' → Q e st') (p20 : Int) (hS : f30_l1_j3 a1 a2 p20 = some r) {st : St} (he : keepSt [0, 1, 12, 13] [] [] st = f30_l1_j3_J a1 a2 p20) : ZR (lev codes base (d - 1)) Q c30_1 [] st := by
  refine zrKeep he ?_
  unfold f30_l1_j3 at hS
  refine zrSeq ?_
  refine zrBlk ?_
  refine zrSeq ?_
  refine zrReg ?_
  refine zlRun (n := 2) (j := 2) rfl (by kernel_rfl) ?_
  refine zlEnd (by kernel_rfl) ?_
  refine zkSeq ?_
  refine zrSeq ?_
  refine zrRegD ?_
  refine zdRun (n := 2) (j := 2) (ts := [[], []]) (acc' := [[], []]) rfl (by kernel_rfl) (by kernel_rfl) (by kernel_rfl) ?_
  refine bindE hS (fun z7 hz7 hS => ?_)
  refine zdOp (d := some 18) (op := (.ixS 36 4 (.tmp 16) (.tmp 17))) (g := none) (v := (.rptr (e_GCell.enc z7 ++ (e_GCell.cells (a1.drop ((p20 : Int).toNat + 1)))))) (ups := []) (j := 3) (t1 := []) (acc' := [[], [], []]) (by kernel_rfl) (by kernel_rfl) rfl (by kernel_rfl) (by kernel_rfl) (ev_ixS e_GCell (kk := .i64) (xs := a1) (j := p20) (by kernel_rfl) (by kernel_rfl) hz7 rfl (by intro h; cases h)) ?_
  refine zdRun (n := 3) (j := 6) (ts := [[], [], []]) (acc' := [[], [], [], [], [], []]) rfl (by kernel_rfl) (by kernel_rfl) (by kernel_rfl) ?_
  refine bindE hS (fun z8 hz8 hS => ?_)
  refine zdOp (d := some 22) (op := (.ixS 36 4 (.tmp 20) (.tmp 21))) (g := none) (v := (.rptr (e_GCell.enc z8 ++ (e_GCell.cells (a2.drop ((p20 : Int).toNat + 1)))))) (ups := []) (j := 7) (t1 := []) (acc' := [[], [], [], [], [], [], []]) (by kernel_rfl) (by kernel_rfl) rfl (by kernel_rfl) (by kernel_rfl) (ev_ixS e_GCell (kk := .i64) (xs := a2) (j := p20) (by kernel_rfl) (by kernel_rfl) hz8 rfl (by intro h; cases h)) ?_
  refine zdRun (n := 1) (j := 8) (ts := [[]]) (acc' := [[], [], [], [], [], [], [], []]) rfl (by kernel_rfl) (by kernel_rfl) (by kernel_rfl) ?_
  refine zdBool (d := 24) (op := (.eqA .true [(4, .int)] (.tmp 19) (.tmp 23))) (g := none) (j := 9) (t1 := []) (acc' := [[], [], [], [], [], [], [], [], []]) (!(decide (z7.Rune = z8.Rune) && (decide (z7.Pen.Flags = z8.Pen.Flags) && (decide (z7.Pen.Fore = z8.Pen.Fore) && (decide (z7.Pen.Back = z8.Pen.Back) && true))))) (by kernel_rfl) (by kernel_rfl) rfl (by kernel_rfl) (by kernel_rfl) (by kernel_rfl) (fun hc => ?_) (fun hc => ?_)
  · replace hS := cond_t hc hS
    refine zdEnd (by kernel_rfl) (by kernel_rfl) ?_
    refine zkSeq ?_
    refine zrCondT (by kernel_rfl) ?_
    refine zrSeq ?_
    refine zrReg ?_
    refine zlRun (n := 1) (j := 1) rfl (by kernel_rfl) ?_
    refine zlEnd (by kernel_rfl) ?_
    refine zkSeq ?_
    refine zrRet ?_
    refine zkBlkR ?_
    refine zkSeqR ?_
    refine zkNil ?_
    exact endQ hS hQ (finL_x (by intro h; cases h) (by show _ = _ ∧ _ = _; exact ⟨rfl, by kernel_rfl⟩))
  · replace hS := cond_f hc hS
    refine zdEnd (by kernel_rfl) (by kernel_rfl) ?_
    refine zkSeq ?_
    refine zrCondF (by kernel_rfl) ?_
    refine zrSkip ?_
    refine zkBlk ?_
    refine zkSeq ?_
    refine zrReg ?_
    refine zlRun (n := 2) (j := 2) rfl (by kernel_rfl) ?_
    refine zlEnd (by kernel_rfl) ?_
    refine zkNil ?_
    exact endQ hS hQ (finL_n (by show keepSt _ _ _ _ = _; kernel_rfl))
def f30_l1_j2_J (a1 : List GCell) (a2 : List GCell) (p18 : Int) (p19 : Bool) : St := ⟨(up (up (up (up (up (fun _ => .un) 14 (.d (.bool p19))) 13 (.d (.int .i64 p18))) 12 (.d (.int .i64 (a1.length : Int)))) 1 (.d (.sl a2.length (e_GCell.cells a2)))) 0 (.d (.sl a1.length (e_GCell.cells a1)))), (hB fun _ => 0)⟩
noncomputable def f30_l1_j2 (a1 : List GCell) (a2 : List GCell) (p18 : Int) (p19 : Bool) : Option (Int ⊕ (Unit ⊕ Bool)) := (bif p19 then (f30_l1_j3 a1 a2 p18) else (some (.inr (.inl ()))))
theorem f30_l1_j2_ok {base : Orc} {d : Nat} (hd : 1 ≤ d) (a1 : List GCell) (a2 : List GCell) {r : Int ⊕ (Unit ⊕ Bool)} {Q : PX → St → Prop} (hQ : ∀ e st', finL (f30_l1_H a1 a2) (f30_l1_X a1 a2) r e st' → Q e st') (p18 : Int) (p19 : Bool) (hS : f30_l1_j2 a1 a2 p18 p19 = some r) {st : St} (he : keepSt [0, 1, 12, 13, 14] [] [] st = f30_l1_j2_J a1 a2 p18 p19) : ZR (lev codes base (d - 1)) Q c30_2 [] st := by
  refine zrKeep he ?_
  unfold f30_l1_j2 at hS
  refine zrSeq ?_
  refine zrSplit 14 p19 (by kernel_rfl) (fun hc => ?_) (fun hc => ?_)
  · replace hS := cond_t hc hS
    refine zrCondT (by kernel_rfl) ?_
    refine zrSkip ?_
    refine zkSeq ?_
    exact f30_l1_j3_ok hd a1 a2 hQ p18 hS (by kernel_rfl)
  · replace hS := cond_f hc hS
    refine zrCondF (by kernel_rfl) ?_
    refine zrKeep (J := f30_l1_e0_J a1 a2) (by kernel_rfl) ?_
    refine zrExit ?_
    refine zkSeqX ?_
    refine zkNil ?_
    exact endQ hS hQ (finL_x (by intro h; cases h) (by show _ = _ ∧ _ = _; exact ⟨rfl, rfl⟩))
noncomputable def f30_l1 (a1 : List GCell) (a2 : List GCell) (x : Int) : Option (Int ⊕ (Unit ⊕ Bool)) := (bif (decide (x < (a1.length : Int))) then (f30_l1_j2 a1 a2 x true) else (f30_l1_j2 a1 a2 x false))
theorem f30_l1_ok {base : Orc} {d : Nat} (hd : 1 ≤ d) (a1 : List GCell) (a2 : List GCell) {r : Int ⊕ (Unit ⊕ Bool)} {Q : PX → St → Prop} (hQ : ∀ e st', finL (f30_l1_H a1 a2) (f30_l1_X a1 a2) r e st' → Q e st') {x : Int} (hS : f30_l1 a1 a2 x = some r) {st : St} (he : f30_l1_H a1 a2 x st) : ZR (lev codes base (d - 1)) Q c30_3 [] st := by
  refine zrKeep he ?_
  unfold f30_l1 at hS
  refine zrSeq ?_
  refine zrReg ?_
  refine zlBool (d := 14) (op := (.cmpI .lss (.tmp 13) (.tmp 12))) (g := none) (j := 1) (decide (x < (a1.length : Int))) rfl (by kernel_rfl) (by kernel_rfl) (by kernel_rfl) (fun hc => ?_) (fun hc => ?_)
  · replace hS := cond_t hc hS
    refine zlEnd (by kernel_rfl) ?_
    refine zkSeq ?_
    exact f30_l1_j2_ok hd a1 a2 hQ x true hS (by kernel_rfl)
  · replace hS := cond_f hc hS
    refine zlEnd (by kernel_rfl) ?_
    refine zkSeq ?_
    exact f30_l1_j2_ok hd a1 a2 hQ x false hS (by kernel_rfl)
def f30_j0_J (a1 : List GCell) (a2 : List GCell) : St := ⟨(up (up (fun _ => .un) 1 (.d (.sl a2.length (e_GCell.cells a2)))) 0 (.d (.sl a1.length (e_GCell.cells a1)))), (hB fun _ => 0)⟩
noncomputable def f30_j0 (a1 : List GCell) (a2 : List GCell) : Option (Bool) := ((loopO (f30_l1 a1 a2) 0).bind fun z9 => (Sum.elim (fun z10 => (some true)) (fun z11 => (some z11)) z9))
theorem f30_j0_ok {base : Orc} {d : Nat} (hd : 1 ≤ d) (a1 : List GCell) (a2 : List GCell) {r : Bool} {Q : PX → St → Prop} (hQ : ∀ e st', f30_Q r e st' → Q e st')  (hS : f30_j0 a1 a2 = some r) {st : St} (he : keepSt [0, 1] [] [] st = f30_j0_J a1 a2) : ZR (lev codes base (d - 1)) Q c30_4 [] st := by
  refine zrKeep he ?_
  unfold f30_j0 at hS
  refine zrSeq ?_
  refine zrSeq ?_
  refine zrReg ?_
  refine zlRun (n := 3) (j := 3) rfl (by kernel_rfl) ?_
  refine zlEnd (by kernel_rfl) ?_
  refine zkSeq ?_
  refine zrBlk ?_
  refine bindE hS (fun z9 hz9 hS => ?_)
  refine zrLoop (f30_l1_H a1 a2) (f30_l1_X a1 a2) (fun x st r Q h0 hS hQ => f30_l1_ok hd a1 a2 hQ hS h0) (x := 0) (z := z9) (by show keepSt _ _ _ _ = _; kernel_rfl) hz9 ?_
  rcases z9 with z10 | z11
  · replace hS := (show _ = _ from hS)
    simp only [Sum.elim_inl] at hS
    intro e st' _ hX
    obtain ⟨rfl, rfl⟩ : _ ∧ _ := hX
    refine zkBlkX ?_
    refine zkSeq ?_
    refine zrSeq ?_
    refine zrReg ?_
    refine zlRun (n := 1) (j := 1) rfl (by kernel_rfl) ?_
    refine zlEnd (by kernel_rfl) ?_
    refine zkSeq ?_
    refine zrRet ?_
    refine zkNil ?_
    exact endQ hS hQ (fRet (by kernel_rfl) ((congrArg (fun s => outR s 0 c30.res) (by kernel_rfl : finSt c30.fin _ = f30_fin true)).trans (f30_out true)))
  · simp only [Sum.elim_inr] at hS
    intro e st' _ hX
    obtain ⟨rfl, hX⟩ : _ ∧ _ := hX
    refine zkBlkR ?_
    refine zkSeqR ?_
    refine zkNil ?_
    exact endQ hS hQ (fRet (by kernel_rfl) ((congrArg (fun s => outR s 0 c30.res) hX).trans (f30_out z11)))
noncomputable def f30 (a1 : List GCell) (a2 : List GCell) : Option (Bool) := (bif (!decide ((a1.length : Int) = (a2.length : Int))) then (some false) else (f30_j0 a1 a2 ))
theorem f30_ok (base : Orc) (d : Nat) (hd : 1 ≤ d) (a1 : List GCell) (a2 : List GCell) (r : Bool) (hS : f30 a1 a2 = some r) : lev codes base d 30 [(.d (.sl a1.length (e_GCell.cells a1))), (.d (.sl a2.length (e_GCell.cells a2)))] [] = some ((.d (.bool r)), []) := by
  refine lev_go codes30 rfl rfl (Nat.le_trans (Nat.le_of_ble_eq_true rfl) hd) fun Q hQ => ?_
  unfold f30 at hS
  show ZR _ Q c30_b [] _
  replace hQ : ∀ e st', f30_Q r e st' → Q e st' := hQ
  refine zrSeq ?_
  refine zrReg ?_
  refine zlRun (n := 1) (j := 1) rfl (by kernel_rfl) ?_
  refine zlEnd (by kernel_rfl) ?_
  refine zkSeq ?_
  refine zrSeq ?_
  refine zrSeq ?_
  refine zrReg ?_
  refine zlRun (n := 4) (j := 4) rfl (by kernel_rfl) ?_
  refine zlBool (d := 10) (op := (.cmpI .neq (.tmp 7) (.tmp 9))) (g := none) (j := 5) (!decide ((a1.length : Int) = (a2.length : Int))) rfl (by kernel_rfl) (by kernel_rfl) (by kernel_rfl) (fun hc => ?_) (fun hc => ?_)
  · replace hS := cond_t hc hS
    refine zlEnd (by kernel_rfl) ?_
    refine zkSeq ?_
    refine zrCondT (by kernel_rfl) ?_
    refine zrSeq ?_
    refine zrReg ?_
    refine zlRun (n := 1) (j := 1) rfl (by kernel_rfl) ?_
    refine zlEnd (by kernel_rfl) ?_
    refine zkSeq ?_
    refine zrRet ?_
    refine zkSeqR ?_
    refine zkNil ?_
    exact endQ hS hQ (fRet (by kernel_rfl) ((congrArg (fun s => outR s 0 c30.res) (by kernel_rfl : finSt c30.fin _ = f30_fin false)).trans (f30_out false)))
  · replace hS := cond_f hc hS
    refine zlEnd (by kernel_rfl) ?_
    refine zkSeq ?_
    refine zrCondF (by kernel_rfl) ?_
    refine zrSkip ?_
    refine zkSeq ?_
    exact f30_j0_ok hd a1 a2 hQ  hS (by kernel_rfl)
/- farwriter/farref.SameGrid -/
def f13_fin (p3 : Bool) : St := ⟨(up (fun _ => .un) 4 (.d (.bool p3))), (hB fun _ => 0)⟩
theorem f13_out (p3 : Bool) : outR (f13_fin p3) 0 c13.res = some ((.d (.bool p3)), []) := by
  kernel_rfl
def f13_Q (r : Bool) (e : PX) (st : St) : Prop := DoneF c13 0 ((.d (.bool r)), []) e st
noncomputable def f13 (a1 : GGrid) (a2 : GGrid) : Option (Bool) := (bif (decide (a1.Wide = a2.Wide)) then (bif (decide (a1.High = a2.High)) then ((f30 a1.Cells a2.Cells).bind fun z2 => (some z2)) else (some false)) else (some false))
theorem f13_ok (base : Orc) (d : Nat) (hd : 2 ≤ d) (a1 : GGrid) (a2 : GGrid) (r : Bool) (hS : f13 a1 a2 = some r) : lev codes base d 13 [(.agg ((.d (.int .i64 a1.Wide)) :: ((.d (.int .i64 a1.High)) :: ((.d (.sl a1.Cells.length (e_GCell.cells a1.Cells))) :: [])))), (.agg ((.d (.int .i64 a2.Wide)) :: ((.d (.int .i64 a2.High)) :: ((.d (.sl a2.Cells.length (e_GCell.cells a2.Cells))) :: []))))] [] = some ((.d (.bool r)), []) := by
  refine lev_go codes13 rfl rfl (Nat.le_trans (Nat.le_of_ble_eq_true rfl) hd) fun Q hQ => ?_
  unfold f13 at hS
  show ZR _ Q c13_b [] _
  replace hQ : ∀ e st', f13_Q r e st' → Q e st' := hQ
  refine zrSeq ?_
  refine zrReg ?_
  refine zlRun (n := 3) (j := 3) rfl (by kernel_rfl) ?_
  refine zlEnd (by kernel_rfl) ?_
  refine zkSeq ?_
  refine zrSeq ?_
  refine zrReg ?_
  refine zlRun (n := 4) (j := 4) rfl (by kernel_rfl) ?_
  refine zlBool (d := 9) (op := (.cmpI .eql (.tmp 6) (.tmp 8))) (g := none) (j := 5) (decide (a1.Wide = a2.Wide)) rfl (by kernel_rfl) (by kernel_rfl) (by kernel_rfl) (fun hc => ?_) (fun hc => ?_)
  · replace hS := cond_t hc hS
    refine zlRun (n := 5) (j := 10) rfl (by kernel_rfl) ?_
    refine zlBool (d := 15) (op := (.cmpI .eql (.tmp 12) (.tmp 14))) (g := (some (10, true))) (j := 11) (decide (a1.High = a2.High)) rfl (by kernel_rfl) (by kernel_rfl) (by kernel_rfl) (fun hc => ?_) (fun hc => ?_)
    · replace hS := cond_t hc hS
      refine zlRun (n := 6) (j := 17) rfl (by kernel_rfl) ?_
      refine bindE hS (fun z2 hz2 hS => ?_)
      refine zlOp (d := some 22) (op := (.call 30 [(.tmp 19), (.tmp 21)])) (g := (some (17, true))) (j := 18) rfl (by kernel_rfl) (by kernel_rfl) (ev_callA (by kernel_rfl) (f30_ok base (d - 1) (dpt hd rfl) a1.Cells a2.Cells z2 hz2) (by kernel_rfl) (by kernel_rfl)) ?_
      refine zlRun (n := 2) (j := 20) rfl (by kernel_rfl) ?_
      refine zlEnd (by kernel_rfl) ?_
      refine zkSeq ?_
      refine zrRet ?_
      refine zkNil ?_
      exact endQ hS hQ (fRet (by kernel_rfl) ((congrArg (fun s => outR s 0 c13.res) (by kernel_rfl : finSt c13.fin _ = f13_fin z2)).trans (f13_out z2)))
    · replace hS := cond_f hc hS
      refine zlRun (n := 9) (j := 20) rfl (by kernel_rfl) ?_
      refine zlEnd (by kernel_rfl) ?_
      refine zkSeq ?_
      refine zrRet ?_
      refine zkNil ?_
      exact endQ hS hQ (fRet (by kernel_rfl) ((congrArg (fun s => outR s 0 c13.res) (by kernel_rfl : finSt c13.fin _ = f13_fin false)).trans (f13_out false)))
  · replace hS := cond_f hc hS
    refine zlRun (n := 15) (j := 20) rfl (by kernel_rfl) ?_
    refine zlEnd (by kernel_rfl) ?_
    refine zkSeq ?_
    refine zrRet ?_
    refine zkNil ?_
    exact endQ hS hQ (fRet (by kernel_rfl) ((congrArg (fun s => outR s 0 c13.res) (by kernel_rfl : finSt c13.fin _ = f13_fin false)).trans (f13_out false)))
end Go.Proofs.Ytjapcjeijpcpiaa.Pm
