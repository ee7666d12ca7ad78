/- Typed functions, and that the codes are these. Printed by dec.py. -/
import Derived.Test.YtipipahbfakcaaaDGbE
namespace Go.Proofs.Ytipipahbfakcaaa.Pm
set_option maxRecDepth 1000000
set_option maxHeartbeats 20000000
set_option linter.unusedVariables false
/- farwriter/grid.ScrollIn -/
def f43_fin (p56 : List GCell) : St := ⟨(up (fun _ => .un) 2000000 .un), (up (hB fun _ => 0) 0 ⟨0, some (.own 33 4 (e_GCell.cells p56))⟩)⟩
theorem f43_out (p56 : List GCell) : outR (f43_fin p56) 1 c43.res = some ((.tup []), [(.own 33 4 (e_GCell.cells p56))]) := by
  kernel_rfl
def f43_Q (r : (List GCell)) (e : PX) (st : St) : Prop := DoneF c43 1 ((.tup []), [(.own 33 4 (e_GCell.cells r)), .box []]) e st
def f43_l1_J (a1 : Int) (a2 : Int) (a3 : Int) (a4 : Int) (a5 : Int) (a6 : GPen) (a7 : List GCell) (x : (List GCell) × Int × Int × (List (List GCell)) × Int × Int) : St := ⟨(up (up (up (up (up (fun _ => .un) 34 (.d (.int .i64 x.2.2.2.2.2))) 33 (.d (.int .i64 x.2.2.2.2.1))) 32 (.r (.msl 256 0 0 x.2.2.2.1.length))) 5 (.r (.ptr 48 0 0))) 1 (.d (.int .i64 a3))), (up (up (up (hB fun _ => 0) 256 ⟨0, some (.own 22 1 ((eSl e_GCell).cells x.2.2.2.1))⟩) 48 ⟨0, some (.box ((.d (.int .i64 x.2.1)) :: ((.d (.int .i64 x.2.2.1)) :: ((.r (.msl 0 0 0 x.1.length)) :: []))))⟩) 0 ⟨0, some (.own 33 4 (e_GCell.cells x.1))⟩)⟩
def f43_l1_H (a1 : Int) (a2 : Int) (a3 : Int) (a4 : Int) (a5 : Int) (a6 : GPen) (a7 : List GCell) (x : (List GCell) × Int × Int × (List (List GCell)) × Int × Int) (st : St) : Prop := keepSt [1, 5, 32, 33, 34] [(0, .id 0), (48, .id 48), (256, .id 256)] [] st = f43_l1_J a1 a2 a3 a4 a5 a6 a7 x
def f43_l1_e2_J (a1 : Int) (a2 : Int) (a3 : Int) (a4 : Int) (a5 : Int) (a6 : GPen) (a7 : List GCell) (p96 : List GCell) : St := ⟨(fun _ => .un), (up (hB fun _ => 0) 0 ⟨0, some (.own 33 4 (e_GCell.cells p96))⟩)⟩
def f43_l1_X (a1 : Int) (a2 : Int) (a3 : Int) (a4 : Int) (a5 : Int) (a6 : GPen) (a7 : List GCell) (z : ((List GCell))) (e : PX) (st : St) : Prop := e = .exit 2 ∧ st = f43_l1_e2_J a1 a2 a3 a4 a5 a6 a7 z
def f43_l1_j3_J (a1 : Int) (a2 : Int) (a3 : Int) (a4 : Int) (a5 : Int) (a6 : GPen) (a7 : List GCell) (p111 : List GCell) (p112 : Int) (p113 : Int) (p114 : List (List GCell)) (p115 : Int) (p116 : Int) : St := ⟨(up (up (up (up (up (fun _ => .un) 34 (.d (.int .i64 p116))) 33 (.d (.int .i64 p115))) 32 (.r (.msl 256 0 0 p114.length))) 5 (.r (.ptr 48 0 0))) 1 (.d (.int .i64 a3))), (up (up (up (hB fun _ => 0) 256 ⟨0, some (.own 22 1 ((eSl e_GCell).cells p114))⟩) 48 ⟨0, some (.box ((.d (.int .i64 p112)) :: ((.d (.int .i64 p113)) :: ((.r (.msl 0 0 0 p111.length)) :: []))))⟩) 0 ⟨0, some (.own 33 4 (e_GCell.cells p111))⟩)⟩
noncomputable def f43_l1_j3 (a1 : Int) (a2 : Int) (a3 : Int) (a4 : Int) (a5 : Int) (a6 : GPen) (a7 : List GCell) (p111 : List GCell) (p112 : Int) (p113 : Int) (p114 : List (List GCell)) (p115 : Int) (p116 : Int) : Option (((List GCell) × Int × Int × (List (List GCell)) × Int × Int) ⊕ (((List GCell)))) := ((inR p116 p114.length).bind fun m58 => ((p114[m58]?).bind fun z59 => ((f33v1 p112 p113 (IntKind.i64.wrap (a3 + p116)) p111).bind fun z60 => ((chk (decide (z60.1.length = p111.length))).bind fun z61 => ((chk (decide (z60.2.1 + z60.2.2 ≤ z60.1.length))).bind fun z62 => ((some (cpyL z60.1 z60.2.1 z60.2.2 z59)).bind fun z63 => (some (.inl (z63, p112, p113, p114, p115, (IntKind.i64.wrap (p116 + 1)))))))))))
theorem f43_l1_j3_ok {base : Orc} {d : Nat} (hd : 7 ≤ d) (a1 : Int) (a2 : Int) (a3 : Int) (a4 : Int) (a5 : Int) (a6 : GPen) (a7 : List GCell) {r : ((List GCell) × Int × Int × (List (List GCell)) × Int × Int) ⊕ (((List GCell)))} {Q : PX → St → Prop} (hQ : ∀ e st', finL (f43_l1_H a1 a2 a3 a4 a5 a6 a7) (f43_l1_X a1 a2 a3 a4 a5 a6 a7) r e st' → Q e st') (p111 : List GCell) (p112 : Int) (p113 : Int) (p114 : List (List GCell)) (p115 : Int) (p116 : Int) (hS : f43_l1_j3 a1 a2 a3 a4 a5 a6 a7 p111 p112 p113 p114 p115 p116 = some r) {st : St} (he : keepSt [1, 5, 32, 33, 34] [(0, .id 0), (48, .id 48), (256, .id 256)] [] st = f43_l1_j3_J a1 a2 a3 a4 a5 a6 a7 p111 p112 p113 p114 p115 p116) : ZR (lev codes base (d - 1)) Q c43_1 [] st := by
  refine zrKeep he ?_
  unfold f43_l1_j3 at hS
  refine zrSeq ?_
  refine zrBlk ?_
  refine zrSeq ?_
  refine zrReg ?_
  refine zlRun (n := 1) (j := 1) rfl (by kernel_rfl) ?_
  refine bindE hS (fun m58 hm58 hS => ?_)
  refine zlOp (d := some 37) (op := (.ixS 22 1 (.tmp 32) (.tmp 34))) (g := none) (v := (.r (.ptr 256 0 ((0 + m58) * 1)))) (ups := []) (j := 2) rfl (by kernel_rfl) (by kernel_rfl) (ev_ixM (kk := .i64) (b := 256) (g := 0) (l := 0) (n := p114.length) (j := p116) (cs := (eSl e_GCell).cells p114) (by kernel_rfl) (by kernel_rfl) (by kernel_rfl) hm58) ?_
  refine bindE hS (fun z59 hz59 hS => ?_)
  refine zlOp (d := some 38) (op := (.load .false 1 (.tmp 37))) (g := none) (v := (.d (.sl z59.length (e_GCell.cells z59)))) (ups := []) (j := 3) rfl (by kernel_rfl) (by kernel_rfl) (ev_loadM (eSl e_GCell) (b := 256) (g := 0) (o := (0 + m58) * 1) (e := 22) (k := 1) (m := m58) (fo := 0) (xs := p114) (by kernel_rfl) (by kernel_rfl) (by rw [Nat.zero_add]; rfl) hz59 (by kernel_rfl) (by kernel_rfl) (by kernel_rfl)) ?_
  refine zlRun (n := 2) (j := 5) rfl (by kernel_rfl) ?_
  refine zlEnd (by kernel_rfl) ?_
  refine zkSeq ?_
  refine zrReg ?_
  refine zlRun (n := 4) (j := 4) rfl (by kernel_rfl) ?_
  refine bindE hS (fun z60 hz60 hS => ?_)
  refine bindE hS (fun z61 hz61 hS => ?_)
  refine zlOp (d := some 43) (op := (.callr 33 [(.tmp 39), (.tmp 42)])) (g := none) (v := (.r (.msl 0 0 z60.2.1 z60.2.2))) (ups := [(0, ⟨0, some (.own 33 4 (e_GCell.cells z60.1))⟩)]) (j := 5) rfl (by kernel_rfl) (by kernel_rfl) (ev_callrX (args := [(.agg ((.d (.int .i64 p112)) :: ((.d (.int .i64 p113)) :: ((.r (.msl 0 0 0 p111.length)) :: [])))), (.d (.int .i64 (IntKind.i64.wrap (a3 + p116))))]) (ids := [0]) (bs := [(.own 33 4 (e_GCell.cells p111))]) (l := [(.agg ((.d (.int .i64 p112)) :: ((.d (.int .i64 p113)) :: ((.r (.msl 0 0 0 p111.length)) :: [])))), (.d (.int .i64 (IntKind.i64.wrap (a3 + p116))))]) (bt := [(.own 33 4 (e_GCell.cells p111))]) (r := (.r (.msl 0 0 z60.2.1 z60.2.2))) (bs' := [(.own 33 4 (e_GCell.cells z60.1)), .box []]) (by kernel_rfl) (by kernel_rfl) (by kernel_rfl) (by kernel_rfl) (by kernel_rfl) (f33v1_ok base (d - 1) (dpt hd rfl) p112 p113 (IntKind.i64.wrap (a3 + p116)) p111 z60 hz60) (by kernel_rfl) (sm_own e_GCell (e1 := 33) (k1 := 4) (xs := p111) (ys := z60.1) (by kernel_rfl) hz61 sm_nil) (by kernel_rfl) (by kernel_rfl)) ?_
  have lz61 : p111.length = z60.1.length := (of_decide_eq_true (chk_t hz61)).symm
  try delta f43_l1_j3_J
  try rw [lz61]
  refine zlRun (n := 1) (j := 6) rfl (by kernel_rfl) ?_
  refine bindE hS (fun z62 hz62 hS => ?_)
  refine bindE hS (fun z63 hz63 hS => ?_)
  refine zlOp (d := some 45) (op := (.cpy 4 (.tmp 43) (.tmp 44))) (g := none) (v := (.d (.int .i64 ((min z59.length z60.2.2 : Nat) : Int)))) (ups := [(0, ⟨0, some (.own 33 4 (e_GCell.cells (cpyL z60.1 z60.2.1 z60.2.2 z59)))⟩)]) (j := 7) rfl (by kernel_rfl) (by kernel_rfl) (ev_cpy e_GCell (b := 0) (g := 0) (l := z60.2.1) (n := z60.2.2) (e := 33) (xs := z60.1) (ys := z59) (by kernel_rfl) (by kernel_rfl) rfl ((congrArg (asL _) (by kernel_rfl : ρof _ (.tmp 44) = (.d (.sl z59.length (e_GCell.cells z59))))).trans (as_d _ _)) hz62) ?_
  have ez63 := Option.some.inj hz63
  have lz63 : z60.1.length = z63.length := by rw [← ez63]; exact (cpyL_len (of_decide_eq_true (chk_t hz62))).symm
  rw [ez63]
  try delta f43_l1_j3_J
  try rw [lz63]
  refine zlEnd (by kernel_rfl) ?_
  refine zkBlk ?_
  refine zkSeq ?_
  refine zrReg ?_
  refine zlRun (n := 2) (j := 2) rfl (by kernel_rfl) ?_
  refine zlEnd (by kernel_rfl) ?_
  refine zkNil ?_
  exact endQ hS hQ (finL_n (by show keepSt _ _ _ _ = _; kernel_rfl))
def f43_l1_j2_J (a1 : Int) (a2 : Int) (a3 : Int) (a4 : Int) (a5 : Int) (a6 : GPen) (a7 : List GCell) (p104 : List GCell) (p105 : Int) (p106 : Int) (p107 : List (List GCell)) (p108 : Int) (p109 : Int) (p110 : Bool) : St := ⟨(up (up (up (up (up (up (fun _ => .un) 35 (.d (.bool p110))) 34 (.d (.int .i64 p109))) 33 (.d (.int .i64 p108))) 32 (.r (.msl 256 0 0 p107.length))) 5 (.r (.ptr 48 0 0))) 1 (.d (.int .i64 a3))), (up (up (up (hB fun _ => 0) 256 ⟨0, some (.own 22 1 ((eSl e_GCell).cells p107))⟩) 48 ⟨0, some (.box ((.d (.int .i64 p105)) :: ((.d (.int .i64 p106)) :: ((.r (.msl 0 0 0 p104.length)) :: []))))⟩) 0 ⟨0, some (.own 33 4 (e_GCell.cells p104))⟩)⟩
noncomputable def f43_l1_j2 (a1 : Int) (a2 : Int) (a3 : Int) (a4 : Int) (a5 : Int) (a6 : GPen) (a7 : List GCell) (p104 : List GCell) (p105 : Int) (p106 : Int) (p107 : List (List GCell)) (p108 : Int) (p109 : Int) (p110 : Bool) : Option (((List GCell) × Int × Int × (List (List GCell)) × Int × Int) ⊕ (((List GCell)))) := (bif p110 then (f43_l1_j3 a1 a2 a3 a4 a5 a6 a7 p104 p105 p106 p107 p108 p109) else (some (.inr p104)))
theorem f43_l1_j2_ok {base : Orc} {d : Nat} (hd : 7 ≤ d) (a1 : Int) (a2 : Int) (a3 : Int) (a4 : Int) (a5 : Int) (a6 : GPen) (a7 : List GCell) {r : ((List GCell) × Int × Int × (List (List GCell)) × Int × Int) ⊕ (((List GCell)))} {Q : PX → St → Prop} (hQ : ∀ e st', finL (f43_l1_H a1 a2 a3 a4 a5 a6 a7) (f43_l1_X a1 a2 a3 a4 a5 a6 a7) r e st' → Q e st') (p104 : List GCell) (p105 : Int) (p106 : Int) (p107 : List (List GCell)) (p108 : Int) (p109 : Int) (p110 : Bool) (hS : f43_l1_j2 a1 a2 a3 a4 a5 a6 a7 p104 p105 p106 p107 p108 p109 p110 = some r) {st : St} (he : keepSt [1, 5, 32, 33, 34, 35] [(0, .id 0), (48, .id 48), (256, .id 256)] [] st = f43_l1_j2_J a1 a2 a3 a4 a5 a6 a7 p104 p105 p106 p107 p108 p109 p110) : ZR (lev codes base (d - 1)) Q c43_2 [] st := by
  refine zrKeep he ?_
  unfold f43_l1_j2 at hS
  refine zrSeq ?_
  refine zrSplit 35 p110 (by kernel_rfl) (fun hc => ?_) (fun hc => ?_)
  · replace hS := cond_t hc hS
    refine zrCondT (by kernel_rfl) ?_
    refine zrSkip ?_
    refine zkSeq ?_
    exact f43_l1_j3_ok hd a1 a2 a3 a4 a5 a6 a7 hQ p104 p105 p106 p107 p108 p109 hS (by kernel_rfl)
  · replace hS := cond_f hc hS
    refine zrCondF (by kernel_rfl) ?_
    refine zrKeep (J := f43_l1_e2_J a1 a2 a3 a4 a5 a6 a7 p104) (by kernel_rfl) ?_
    refine zrExit ?_
    refine zkSeqX ?_
    refine zkNil ?_
    exact endQ hS hQ (finL_x (by intro h; cases h) (by show _ = _ ∧ _ = _; exact ⟨rfl, rfl⟩))
noncomputable def f43_l1 (a1 : Int) (a2 : Int) (a3 : Int) (a4 : Int) (a5 : Int) (a6 : GPen) (a7 : List GCell) (x : (List GCell) × Int × Int × (List (List GCell)) × Int × Int) : Option (((List GCell) × Int × Int × (List (List GCell)) × Int × Int) ⊕ (((List GCell)))) := (bif (decide (x.2.2.2.2.2 < x.2.2.2.2.1)) then (f43_l1_j2 a1 a2 a3 a4 a5 a6 a7 x.1 x.2.1 x.2.2.1 x.2.2.2.1 x.2.2.2.2.1 x.2.2.2.2.2 true) else (f43_l1_j2 a1 a2 a3 a4 a5 a6 a7 x.1 x.2.1 x.2.2.1 x.2.2.2.1 x.2.2.2.2.1 x.2.2.2.2.2 false))
theorem f43_l1_ok {base : Orc} {d : Nat} (hd : 7 ≤ d) (a1 : Int) (a2 : Int) (a3 : Int) (a4 : Int) (a5 : Int) (a6 : GPen) (a7 : List GCell) {r : ((List GCell) × Int × Int × (List (List GCell)) × Int × Int) ⊕ (((List GCell)))} {Q : PX → St → Prop} (hQ : ∀ e st', finL (f43_l1_H a1 a2 a3 a4 a5 a6 a7) (f43_l1_X a1 a2 a3 a4 a5 a6 a7) r e st' → Q e st') {x : (List GCell) × Int × Int × (List (List GCell)) × Int × Int} (hS : f43_l1 a1 a2 a3 a4 a5 a6 a7 x = some r) {st : St} (he : f43_l1_H a1 a2 a3 a4 a5 a6 a7 x st) : ZR (lev codes base (d - 1)) Q c43_3 [] st := by
  refine zrKeep he ?_
  unfold f43_l1 at hS
  refine zrSeq ?_
  refine zrReg ?_
  refine zlBool (d := 35) (op := (.cmpI .lss (.tmp 34) (.tmp 33))) (g := none) (j := 1) (decide (x.2.2.2.2.2 < x.2.2.2.2.1)) rfl (by kernel_rfl) (by kernel_rfl) (by kernel_rfl) (fun hc => ?_) (fun hc => ?_)
  · replace hS := cond_t hc hS
    refine zlEnd (by kernel_rfl) ?_
    refine zkSeq ?_
    exact f43_l1_j2_ok hd a1 a2 a3 a4 a5 a6 a7 hQ x.1 x.2.1 x.2.2.1 x.2.2.2.1 x.2.2.2.2.1 x.2.2.2.2.2 true hS (by kernel_rfl)
  · replace hS := cond_f hc hS
    refine zlEnd (by kernel_rfl) ?_
    refine zkSeq ?_
    exact f43_l1_j2_ok hd a1 a2 a3 a4 a5 a6 a7 hQ x.1 x.2.1 x.2.2.1 x.2.2.2.1 x.2.2.2.2.1 x.2.2.2.2.2 false hS (by kernel_rfl)
def f43_j0_J (a1 : Int) (a2 : Int) (a3 : Int) (a4 : Int) (a5 : Int) (a6 : GPen) (a7 : List GCell) (p57 : List GCell) (p58 : List (List GCell)) : St := ⟨(up (up (up (up (up (fun _ => .un) 10 (.r (.msl 88 0 0 p58.length))) 9 (.r (.ptr 80 0 0))) 5 (.r (.ptr 48 0 0))) 3 (.d (.int .i64 a5))) 1 (.d (.int .i64 a3))), (up (up (up (up (hB fun _ => 0) 88 ⟨0, some (.own 22 1 ((eSl e_GCell).cells p58))⟩) 80 ⟨0, some (.box ((.d (.int .i64 a6.Flags)) :: ((.d (.int .i64 a6.Fore)) :: ((.d (.int .i64 a6.Back)) :: []))))⟩) 48 ⟨0, some (.box ((.d (.int .i64 a1)) :: ((.d (.int .i64 a2)) :: ((.r (.msl 0 0 0 p57.length)) :: []))))⟩) 0 ⟨0, some (.own 33 4 (e_GCell.cells p57))⟩)⟩
noncomputable def f43_j0 (a1 : Int) (a2 : Int) (a3 : Int) (a4 : Int) (a5 : Int) (a6 : GPen) (a7 : List GCell) (p57 : List GCell) (p58 : List (List GCell)) : Option ((List GCell)) := ((f61 (IntKind.i64.wrap (0 - a5)) p58 a1 a2 a6 p57).bind fun z37 => ((chk (decide (z37.2.2.1.length = p57.length))).bind fun z38 => ((chk (decide (z37.2.2.2.2.1.length = p58.length))).bind fun z39 => ((loopO (f43_l1 a1 a2 a3 a4 a5 a6 a7) (z37.2.2.1, z37.1, z37.2.1, z37.2.2.2.2.2, (z37.2.2.2.2.2.length : Int), 0)).bind fun z64 => (some z64)))))
theorem f43_j0_ok {base : Orc} {d : Nat} (hd : 7 ≤ d) (a1 : Int) (a2 : Int) (a3 : Int) (a4 : Int) (a5 : Int) (a6 : GPen) (a7 : List GCell) {r : (List GCell)} {Q : PX → St → Prop} (hQ : ∀ e st', f43_Q r e st' → Q e st') (p57 : List GCell) (p58 : List (List GCell)) (hS : f43_j0 a1 a2 a3 a4 a5 a6 a7 p57 p58 = some r) {st : St} (he : keepSt [1, 3, 5, 9, 10] [(0, .id 0), (48, .id 48), (80, .id 80), (88, .id 88)] [] st = f43_j0_J a1 a2 a3 a4 a5 a6 a7 p57 p58) : ZR (lev codes base (d - 1)) Q c43_4 [] st := by
  refine zrKeep he ?_
  unfold f43_j0 at hS
  refine zrSeq ?_
  refine zrReg ?_
  refine zlRun (n := 4) (j := 4) rfl (by kernel_rfl) ?_
  refine bindE hS (fun z37 hz37 hS => ?_)
  refine bindE hS (fun z38 hz38 hS => ?_)
  refine bindE hS (fun z39 hz39 hS => ?_)
  refine zlOp (d := some 31) (op := (.callr 61 [(.tmp 27), (.tmp 29), (.tmp 30)])) (g := none) (v := (.r (.msl 256 1 0 z37.2.2.2.2.2.length))) (ups := [(88, ⟨0, some (.own 22 1 ((eSl e_GCell).cells z37.2.2.2.2.1))⟩), (48, ⟨0, some (.box ((.d (.int .i64 z37.1)) :: ((.d (.int .i64 z37.2.1)) :: ((.r (.msl 0 0 0 z37.2.2.1.length)) :: []))))⟩), (80, ⟨0, some (.box ((.d (.int .i64 z37.2.2.2.1.Flags)) :: ((.d (.int .i64 z37.2.2.2.1.Fore)) :: ((.d (.int .i64 z37.2.2.2.1.Back)) :: []))))⟩), (0, ⟨0, some (.own 33 4 (e_GCell.cells z37.2.2.1))⟩), (256, ⟨1, some (.own 22 1 ((eSl e_GCell).cells z37.2.2.2.2.2))⟩)]) (j := 5) rfl (by kernel_rfl) (by kernel_rfl) (ev_callrX (args := [(.r (.msl 88 0 0 p58.length)), (.d (.int .i64 (IntKind.i64.wrap (0 - a5)))), (.fn 62 [(.r (.ptr 48 0 0)), (.r (.ptr 80 0 0))])]) (ids := [88, 48, 80, 0]) (bs := [(.own 22 1 ((eSl e_GCell).cells p58)), (.box ((.d (.int .i64 a1)) :: ((.d (.int .i64 a2)) :: ((.r (.msl 0 0 0 p57.length)) :: [])))), (.box ((.d (.int .i64 a6.Flags)) :: ((.d (.int .i64 a6.Fore)) :: ((.d (.int .i64 a6.Back)) :: [])))), (.own 33 4 (e_GCell.cells p57))]) (l := [(.r (.msl 0 0 0 p58.length)), (.d (.int .i64 (IntKind.i64.wrap (0 - a5)))), (.fn 62 [(.r (.ptr 1 0 0)), (.r (.ptr 2 0 0))])]) (bt := [(.own 22 1 ((eSl e_GCell).cells p58)), (.box ((.d (.int .i64 a1)) :: ((.d (.int .i64 a2)) :: ((.r (.msl 3 0 0 p57.length)) :: [])))), (.box ((.d (.int .i64 a6.Flags)) :: ((.d (.int .i64 a6.Fore)) :: ((.d (.int .i64 a6.Back)) :: [])))), (.own 33 4 (e_GCell.cells p57))]) (r := (.r (.own 0 22 1 z37.2.2.2.2.2.length ((eSl e_GCell).cells z37.2.2.2.2.2)))) (bs' := [(.own 22 1 ((eSl e_GCell).cells z37.2.2.2.2.1)), (.box ((.d (.int .i64 z37.1)) :: ((.d (.int .i64 z37.2.1)) :: ((.r (.msl 3 0 0 z37.2.2.1.length)) :: [])))), (.box ((.d (.int .i64 z37.2.2.2.1.Flags)) :: ((.d (.int .i64 z37.2.2.2.1.Fore)) :: ((.d (.int .i64 z37.2.2.2.1.Back)) :: [])))), (.own 33 4 (e_GCell.cells z37.2.2.1)), .box []]) (by kernel_rfl) (by kernel_rfl) (by kernel_rfl) (by kernel_rfl) (by kernel_rfl) (f61_ok base (d - 1) (dpt hd rfl) (IntKind.i64.wrap (0 - a5)) p58 a1 a2 a6 p57 z37 hz37) (by kernel_rfl) (sm_own (eSl e_GCell) (e1 := 22) (k1 := 1) (xs := p58) (ys := z37.2.2.2.2.1) (by kernel_rfl) hz39 (sm_box (cs := ((.d (.int .i64 a1)) :: ((.d (.int .i64 a2)) :: ((.r (.msl 0 0 0 p57.length)) :: [])))) (by kernel_rfl) (sm_box (cs := ((.d (.int .i64 a6.Flags)) :: ((.d (.int .i64 a6.Fore)) :: ((.d (.int .i64 a6.Back)) :: [])))) (by kernel_rfl) (sm_own e_GCell (e1 := 33) (k1 := 4) (xs := p57) (ys := z37.2.2.1) (by kernel_rfl) hz38 sm_nil)))) (by kernel_rfl) (by kernel_rfl)) ?_
  have lz38 : p57.length = z37.2.2.1.length := (of_decide_eq_true (chk_t hz38)).symm
  try delta f43_j0_J
  try rw [lz38]
  have lz39 : p58.length = z37.2.2.2.2.1.length := (of_decide_eq_true (chk_t hz39)).symm
  try delta f43_j0_J
  try rw [lz39]
  refine zlRun (n := 1) (j := 6) rfl (by kernel_rfl) ?_
  refine zlEnd (by kernel_rfl) ?_
  refine zkSeq ?_
  refine zrSeq ?_
  refine zrReg ?_
  refine zlRun (n := 3) (j := 3) rfl (by kernel_rfl) ?_
  refine zlEnd (by kernel_rfl) ?_
  refine zkSeq ?_
  refine zrBlk ?_
  refine bindE hS (fun z64 hz64 hS => ?_)
  refine zrLoop (f43_l1_H a1 a2 a3 a4 a5 a6 a7) (f43_l1_X a1 a2 a3 a4 a5 a6 a7) (fun x st r Q h0 hS hQ => f43_l1_ok hd a1 a2 a3 a4 a5 a6 a7 hQ hS h0) (x := (z37.2.2.1, z37.1, z37.2.1, z37.2.2.2.2.2, (z37.2.2.2.2.2.length : Int), 0)) (z := z64) (by show keepSt _ _ _ _ = _; kernel_rfl) hz64 ?_
  intro e st' _ hX
  obtain ⟨rfl, rfl⟩ : _ ∧ _ := hX
  refine zkBlkX ?_
  refine zkNil ?_
  exact endQ hS hQ (fNormX (by kernel_rfl) (by kernel_rfl : finSt c43.fin _ = f43_fin z64) (by kernel_rfl) (f43_out z64))
def f43_l4_J (a1 : Int) (a2 : Int) (a3 : Int) (a4 : Int) (a5 : Int) (a6 : GPen) (a7 : List GCell) (x : (List GCell) × (List (List GCell)) × Int) : St := ⟨(up (up (up (up (up (up (up (fun _ => .un) 11 (.d (.int .i64 x.2.2))) 10 (.r (.msl 88 0 0 x.2.1.length))) 9 (.r (.ptr 80 0 0))) 5 (.r (.ptr 48 0 0))) 3 (.d (.int .i64 a5))) 2 (.d (.int .i64 a4))) 1 (.d (.int .i64 a3))), (up (up (up (up (hB fun _ => 0) 88 ⟨0, some (.own 22 1 ((eSl e_GCell).cells x.2.1))⟩) 80 ⟨0, some (.box ((.d (.int .i64 a6.Flags)) :: ((.d (.int .i64 a6.Fore)) :: ((.d (.int .i64 a6.Back)) :: []))))⟩) 48 ⟨0, some (.box ((.d (.int .i64 a1)) :: ((.d (.int .i64 a2)) :: ((.r (.msl 0 0 0 x.1.length)) :: []))))⟩) 0 ⟨0, some (.own 33 4 (e_GCell.cells x.1))⟩)⟩
def f43_l4_H (a1 : Int) (a2 : Int) (a3 : Int) (a4 : Int) (a5 : Int) (a6 : GPen) (a7 : List GCell) (x : (List GCell) × (List (List GCell)) × Int) (st : St) : Prop := keepSt [1, 2, 3, 5, 9, 10, 11] [(0, .id 0), (48, .id 48), (80, .id 80), (88, .id 88)] [] st = f43_l4_J a1 a2 a3 a4 a5 a6 a7 x
def f43_l4_e0_J (a1 : Int) (a2 : Int) (a3 : Int) (a4 : Int) (a5 : Int) (a6 : GPen) (a7 : List GCell) (p16 : List GCell) (p17 : List (List GCell)) : St := ⟨(up (up (up (up (up (fun _ => .un) 10 (.r (.msl 88 0 0 p17.length))) 9 (.r (.ptr 80 0 0))) 5 (.r (.ptr 48 0 0))) 3 (.d (.int .i64 a5))) 1 (.d (.int .i64 a3))), (up (up (up (up (hB fun _ => 0) 88 ⟨0, some (.own 22 1 ((eSl e_GCell).cells p17))⟩) 80 ⟨0, some (.box ((.d (.int .i64 a6.Flags)) :: ((.d (.int .i64 a6.Fore)) :: ((.d (.int .i64 a6.Back)) :: []))))⟩) 48 ⟨0, some (.box ((.d (.int .i64 a1)) :: ((.d (.int .i64 a2)) :: ((.r (.msl 0 0 0 p16.length)) :: []))))⟩) 0 ⟨0, some (.own 33 4 (e_GCell.cells p16))⟩)⟩
def f43_l4_X (a1 : Int) (a2 : Int) (a3 : Int) (a4 : Int) (a5 : Int) (a6 : GPen) (a7 : List GCell) (z : ((List GCell) × (List (List GCell)))) (e : PX) (st : St) : Prop := e = .exit 0 ∧ st = f43_l4_e0_J a1 a2 a3 a4 a5 a6 a7 z.1 z.2
def f43_l4_j5_J (a1 : Int) (a2 : Int) (a3 : Int) (a4 : Int) (a5 : Int) (a6 : GPen) (a7 : List GCell) (p121 : List GCell) (p122 : List (List GCell)) (p123 : Int) : St := ⟨(up (up (up (up (up (up (up (fun _ => .un) 11 (.d (.int .i64 p123))) 10 (.r (.msl 88 0 0 p122.length))) 9 (.r (.ptr 80 0 0))) 5 (.r (.ptr 48 0 0))) 3 (.d (.int .i64 a5))) 2 (.d (.int .i64 a4))) 1 (.d (.int .i64 a3))), (up (up (up (up (hB fun _ => 0) 88 ⟨0, some (.own 22 1 ((eSl e_GCell).cells p122))⟩) 80 ⟨0, some (.box ((.d (.int .i64 a6.Flags)) :: ((.d (.int .i64 a6.Fore)) :: ((.d (.int .i64 a6.Back)) :: []))))⟩) 48 ⟨0, some (.box ((.d (.int .i64 a1)) :: ((.d (.int .i64 a2)) :: ((.r (.msl 0 0 0 p121.length)) :: []))))⟩) 0 ⟨0, some (.own 33 4 (e_GCell.cells p121))⟩)⟩
noncomputable def f43_l4_j5 (a1 : Int) (a2 : Int) (a3 : Int) (a4 : Int) (a5 : Int) (a6 : GPen) (a7 : List GCell) (p121 : List GCell) (p122 : List (List GCell)) (p123 : Int) : Option (((List GCell) × (List (List GCell)) × Int) ⊕ (((List GCell) × (List (List GCell))))) := ((f33v1 a1 a2 p123 p121).bind fun z65 => ((chk (decide (z65.1.length = p121.length))).bind fun z66 => ((part? z65.1 z65.2.1 z65.2.2).bind fun z67 => ((f26 z67).bind fun z68 => ((app? 24 p122 ([z68] : List (List GCell))).bind fun z69 => (some (.inl (z65.1, z69, (IntKind.i64.wrap (p123 + 1))))))))))
theorem f43_l4_j5_ok {base : Orc} {d : Nat} (hd : 7 ≤ d) (a1 : Int) (a2 : Int) (a3 : Int) (a4 : Int) (a5 : Int) (a6 : GPen) (a7 : List GCell) {r : ((List GCell) × (List (List GCell)) × Int) ⊕ (((List GCell) × (List (List GCell))))} {Q : PX → St → Prop} (hQ : ∀ e st', finL (f43_l4_H a1 a2 a3 a4 a5 a6 a7) (f43_l4_X a1 a2 a3 a4 a5 a6 a7) r e st' → Q e st') (p121 : List GCell) (p122 : List (List GCell)) (p123 : Int) (hS : f43_l4_j5 a1 a2 a3 a4 a5 a6 a7 p121 p122 p123 = some r) {st : St} (he : keepSt [1, 2, 3, 5, 9, 10, 11] [(0, .id 0), (48, .id 48), (80, .id 80), (88, .id 88)] [] st = f43_l4_j5_J a1 a2 a3 a4 a5 a6 a7 p121 p122 p123) : ZR (lev codes base (d - 1)) Q c43_5 [] st := by
  refine zrKeep he ?_
  unfold f43_l4_j5 at hS
  refine zrSeq ?_
  refine zrBlk ?_
  refine zrReg ?_
  refine zlRun (n := 3) (j := 3) rfl (by kernel_rfl) ?_
  refine bindE hS (fun z65 hz65 hS => ?_)
  refine bindE hS (fun z66 hz66 hS => ?_)
  refine zlOp (d := some 23) (op := (.callr 33 [(.tmp 21), (.tmp 22)])) (g := none) (v := (.r (.msl 0 0 z65.2.1 z65.2.2))) (ups := [(0, ⟨0, some (.own 33 4 (e_GCell.cells z65.1))⟩)]) (j := 4) rfl (by kernel_rfl) (by kernel_rfl) (ev_callrX (args := [(.agg ((.d (.int .i64 a1)) :: ((.d (.int .i64 a2)) :: ((.r (.msl 0 0 0 p121.length)) :: [])))), (.d (.int .i64 p123))]) (ids := [0]) (bs := [(.own 33 4 (e_GCell.cells p121))]) (l := [(.agg ((.d (.int .i64 a1)) :: ((.d (.int .i64 a2)) :: ((.r (.msl 0 0 0 p121.length)) :: [])))), (.d (.int .i64 p123))]) (bt := [(.own 33 4 (e_GCell.cells p121))]) (r := (.r (.msl 0 0 z65.2.1 z65.2.2))) (bs' := [(.own 33 4 (e_GCell.cells z65.1)), .box []]) (by kernel_rfl) (by kernel_rfl) (by kernel_rfl) (by kernel_rfl) (by kernel_rfl) (f33v1_ok base (d - 1) (dpt hd rfl) a1 a2 p123 p121 z65 hz65) (by kernel_rfl) (sm_own e_GCell (e1 := 33) (k1 := 4) (xs := p121) (ys := z65.1) (by kernel_rfl) hz66 sm_nil) (by kernel_rfl) (by kernel_rfl)) ?_
  have lz66 : p121.length = z65.1.length := (of_decide_eq_true (chk_t hz66)).symm
  try delta f43_l4_j5_J
  try rw [lz66]
  refine bindE hS (fun z67 hz67 hS => ?_)
  refine bindE hS (fun z68 hz68 hS => ?_)
  refine zlOp (d := some 24) (op := (.call 26 [(.tmp 23)])) (g := none) (v := (.r (.msl 200 1 0 z68.length))) (ups := [(200, ⟨1, some (.own 33 4 (e_GCell.cells z68))⟩)]) (j := 5) rfl (by kernel_rfl) (by kernel_rfl) (ev_call (args := [(.r (.msl 0 0 z65.2.1 z65.2.2))]) (l := [(.d (.sl z67.length (e_GCell.cells z67)))]) (r := (.r (.own 0 33 4 z68.length (e_GCell.cells z68)))) (by kernel_rfl) (l_cons (l_part e_GCell (e := 33) (k := 4) (xs := z65.1) (by kernel_rfl) rfl hz67) l_nil) (f26_ok base (d - 1) (dpt hd rfl) z67 z68 hz68) (by simp only [free_own e_GCell (fun _ => rfl), free_tup, free_agg, free_nl, free_cs, free_int, free_bool, free_str, free_un, free_ni, free_s0, Bool.and_true, Bool.or_true, Bool.and_self]) (by kernel_rfl) (by kernel_rfl)) ?_
  refine zlOp (d := some 25) (op := (.bsl 22 1 1 [(1, (.slice .none 0 0))] [(0, (1, (.tmp 24)))])) (g := none) (v := (.r (.msl 208 1 0 (([z68] : List (List GCell)).length)))) (ups := [(200, ⟨2, none⟩), (208, ⟨1, some (.own 22 1 ((eSl e_GCell).cells ([z68])))⟩)]) (j := 6) rfl (by kernel_rfl) (by kernel_rfl) ((by kernel_rfl : peval _ _ 25 (ρof _) (.bsl 22 1 1 [(1, (.slice .none 0 0))] [(0, (1, (.tmp 24)))]) = some ((.r (.msl 208 1 0 (([z68] : List (List GCell)).length))), [(200, ⟨2, none⟩), (208, ⟨1, some (.own 22 1 [.sl z68.length (((e_GCell.cells z68).drop (0 * e_GCell.k)).take (z68.length * e_GCell.k))])⟩)])).trans (by simp only [Enc.frz]; rfl)) ?_
  refine bindE hS (fun z69 hz69 hS => ?_)
  refine zlOp (d := some 26) (op := (.app 22 1 24 (.tmp 20) (.tmp 25))) (g := none) (v := (.r (.msl 88 1 0 z69.length))) (ups := [(88, ⟨1, some (.own 22 1 ((eSl e_GCell).cells z69))⟩)]) (j := 7) rfl (by kernel_rfl) (by kernel_rfl) (ev_app (eSl e_GCell) (b := 88) (g := 0) (n := p122.length) (xs := p122) (ys := [z68]) ((congrArg (asL _) (by kernel_rfl : ρof _ (.tmp 25) = (.r (.msl 208 1 0 (([z68] : List (List GCell)).length))))).trans (as_whole (eSl e_GCell) (e := 22) (k := 1) (xs := [z68]) (by kernel_rfl) rfl rfl)) rfl (by kernel_rfl) rfl (by kernel_rfl) rfl hz69) ?_
  refine zlRun (n := 1) (j := 8) rfl (by kernel_rfl) ?_
  refine zlEnd (by kernel_rfl) ?_
  refine zkBlk ?_
  refine zkSeq ?_
  refine zrReg ?_
  refine zlRun (n := 3) (j := 3) rfl (by kernel_rfl) ?_
  refine zlEnd (by kernel_rfl) ?_
  refine zkNil ?_
  exact endQ hS hQ (finL_n (by show keepSt _ _ _ _ = _; kernel_rfl))
noncomputable def f43_l4 (a1 : Int) (a2 : Int) (a3 : Int) (a4 : Int) (a5 : Int) (a6 : GPen) (a7 : List GCell) (x : (List GCell) × (List (List GCell)) × Int) : Option (((List GCell) × (List (List GCell)) × Int) ⊕ (((List GCell) × (List (List GCell))))) := (bif (decide (x.2.2 < a4)) then (f43_l4_j5 a1 a2 a3 a4 a5 a6 a7 x.1 x.2.1 x.2.2) else (some (.inr (x.1, x.2.1))))
theorem f43_l4_ok {base : Orc} {d : Nat} (hd : 7 ≤ d) (a1 : Int) (a2 : Int) (a3 : Int) (a4 : Int) (a5 : Int) (a6 : GPen) (a7 : List GCell) {r : ((List GCell) × (List (List GCell)) × Int) ⊕ (((List GCell) × (List (List GCell))))} {Q : PX → St → Prop} (hQ : ∀ e st', finL (f43_l4_H a1 a2 a3 a4 a5 a6 a7) (f43_l4_X a1 a2 a3 a4 a5 a6 a7) r e st' → Q e st') {x : (List GCell) × (List (List GCell)) × Int} (hS : f43_l4 a1 a2 a3 a4 a5 a6 a7 x = some r) {st : St} (he : f43_l4_H a1 a2 a3 a4 a5 a6 a7 x st) : ZR (lev codes base (d - 1)) Q c43_6 [] st := by
  refine zrKeep he ?_
  unfold f43_l4 at hS
  refine zrSeq ?_
  refine zrSeq ?_
  refine zrReg ?_
  refine zlRun (n := 2) (j := 2) rfl (by kernel_rfl) ?_
  refine zlBool (d := 17) (op := (.cmpI .lss (.tmp 15) (.tmp 16))) (g := none) (j := 3) (decide (x.2.2 < a4)) rfl (by kernel_rfl) (by kernel_rfl) (by kernel_rfl) (fun hc => ?_) (fun hc => ?_)
  · replace hS := cond_t hc hS
    refine zlEnd (by kernel_rfl) ?_
    refine zkSeq ?_
    refine zrCondT (by kernel_rfl) ?_
    refine zrSkip ?_
    refine zkSeq ?_
    exact f43_l4_j5_ok hd a1 a2 a3 a4 a5 a6 a7 hQ x.1 x.2.1 x.2.2 hS (by kernel_rfl)
  · replace hS := cond_f hc hS
    refine zlEnd (by kernel_rfl) ?_
    refine zkSeq ?_
    refine zrCondF (by kernel_rfl) ?_
    refine zrKeep (J := f43_l4_e0_J a1 a2 a3 a4 a5 a6 a7 x.1 x.2.1) (by kernel_rfl) ?_
    refine zrExit ?_
    refine zkSeqX ?_
    refine zkNil ?_
    exact endQ hS hQ (finL_x (by intro h; cases h) (by show _ = _ ∧ _ = _; exact ⟨rfl, rfl⟩))
noncomputable def f43 (a1 : Int) (a2 : Int) (a3 : Int) (a4 : Int) (a5 : Int) (a6 : GPen) (a7 : List GCell) : Option ((List GCell)) := ((loopO (f43_l4 a1 a2 a3 a4 a5 a6 a7) (a7, [], a3)).bind fun z70 => (f43_j0 a1 a2 a3 a4 a5 a6 a7 z70.1 z70.2))
theorem f43_ok (base : Orc) (d : Nat) (hd : 7 ≤ d) (a1 : Int) (a2 : Int) (a3 : Int) (a4 : Int) (a5 : Int) (a6 : GPen) (a7 : List GCell) (r : (List GCell)) (hS : f43 a1 a2 a3 a4 a5 a6 a7 = some r) : lev codes base d 43 [(.agg ((.d (.int .i64 a1)) :: ((.d (.int .i64 a2)) :: ((.r (.msl 0 0 0 a7.length)) :: [])))), (.d (.int .i64 a3)), (.d (.int .i64 a4)), (.d (.int .i64 a5)), (.agg ((.d (.int .i64 a6.Flags)) :: ((.d (.int .i64 a6.Fore)) :: ((.d (.int .i64 a6.Back)) :: []))))] [(.own 33 4 (e_GCell.cells a7))] = some ((.tup []), [(.own 33 4 (e_GCell.cells r)), .box []]) := by
  refine lev_go codes43 rfl rfl (Nat.le_trans (Nat.le_of_ble_eq_true rfl) hd) fun Q hQ => ?_
  unfold f43 at hS
  show ZR _ Q c43_b [] _
  replace hQ : ∀ e st', f43_Q r e st' → Q e st' := hQ
  refine zrSeq ?_
  refine zrReg ?_
  refine zlRun (n := 2) (j := 2) rfl (by kernel_rfl) ?_
  refine zlEnd (by kernel_rfl) ?_
  refine zkSeq ?_
  refine zrSeq ?_
  refine zrReg ?_
  refine zlRun (n := 1) (j := 1) rfl (by kernel_rfl) ?_
  refine zlEnd (by kernel_rfl) ?_
  refine zkSeq ?_
  refine zrSeq ?_
  refine zrSeq ?_
  refine zrReg ?_
  refine zlRun (n := 2) (j := 2) rfl (by kernel_rfl) ?_
  refine zlEnd (by kernel_rfl) ?_
  refine zkSeq ?_
  refine zrBlk ?_
  refine bindE hS (fun z70 hz70 hS => ?_)
  refine zrLoop (f43_l4_H a1 a2 a3 a4 a5 a6 a7) (f43_l4_X a1 a2 a3 a4 a5 a6 a7) (fun x st r Q h0 hS hQ => f43_l4_ok hd a1 a2 a3 a4 a5 a6 a7 hQ hS h0) (x := (a7, [], a3)) (z := z70) (by show keepSt _ _ _ _ = _; kernel_rfl) hz70 ?_
  intro e st' _ hX
  obtain ⟨rfl, rfl⟩ : _ ∧ _ := hX
  refine zkBlkX ?_
  refine zkSeq ?_
  exact f43_j0_ok hd a1 a2 a3 a4 a5 a6 a7 hQ z70.1 z70.2 hS (by kernel_rfl)
/- farwriter/grid.Scroll -/
def f22_fin (p18 : Int) (p19 : Int) (p20 : List GCell) (p21 : Int) : St := ⟨(up (up (fun _ => .un) 11 (.d (.int .i64 p21))) 10 (.r (.ptr 88 0 0))), (up (up (hB fun _ => 0) 272 ⟨0, some (.own 33 4 (e_GCell.cells p20))⟩) 88 ⟨0, some (.box ((.d (.int .i64 p18)) :: ((.d (.int .i64 p19)) :: ((.r (.msl 272 0 0 p20.length)) :: []))))⟩)⟩
theorem f22_out (p18 : Int) (p19 : Int) (p20 : List GCell) (p21 : Int) : outR (f22_fin p18 p19 p20 p21) 0 c22.res = some ((.tup [(.agg ((.d (.int .i64 p18)) :: ((.d (.int .i64 p19)) :: ((.r (.own 0 33 4 p20.length (e_GCell.cells p20))) :: [])))), (.d (.int .i64 p21))]), []) := by
  exact out_of (ids := []) (ids' := [272]) (l := [(.agg ((.d (.int .i64 p18)) :: ((.d (.int .i64 p19)) :: ((.r (.msl 272 0 0 p20.length)) :: [])))), (.d (.int .i64 p21))]) (by kernel_rfl) (by kernel_rfl) (o_tup (o_cons (o_agg (o_cons rfl (o_cons rfl (o_cons (o_own e_GCell (e := 33) (k := 4) (xs := p20) (by kernel_rfl) rfl rfl rfl rfl) o_nil)))) (o_cons rfl o_nil)))
def f22_Q (r : Int × Int × (List GCell) × Int) (e : PX) (st : St) : Prop := DoneF c22 0 ((.tup [(.agg ((.d (.int .i64 r.1)) :: ((.d (.int .i64 r.2.1)) :: ((.r (.own 0 33 4 r.2.2.1.length (e_GCell.cells r.2.2.1))) :: [])))), (.d (.int .i64 r.2.2.2))]), []) e st
def f22_j1_J (a1 : GGrid) (a2 : Int) (a3 : Int) (a4 : Int) (a5 : GPen) (p43 : Int) (p44 : Int) (p45 : List GCell) : St := ⟨(up (up (up (up (up (up (fun _ => .un) 10 (.r (.ptr 88 0 0))) 9 (.r (.ptr 80 0 0))) 5 (.r (.ptr 48 0 0))) 3 (.d (.int .i64 a4))) 2 (.d (.int .i64 a3))) 1 (.d (.int .i64 a2))), (up (up (up (up (hB fun _ => 0) 88 ⟨0, some (.box ((.d (.int .i64 0)) :: ((.d (.int .i64 0)) :: ((.d (.sl ([] : List GCell).length (e_GCell.cells ([])))) :: []))))⟩) 80 ⟨0, some (.box ((.d (.int .i64 a5.Flags)) :: ((.d (.int .i64 a5.Fore)) :: ((.d (.int .i64 a5.Back)) :: []))))⟩) 272 ⟨0, some (.own 33 4 (e_GCell.cells p45))⟩) 48 ⟨0, some (.box ((.d (.int .i64 p43)) :: ((.d (.int .i64 p44)) :: ((.r (.msl 272 0 0 p45.length)) :: []))))⟩)⟩
noncomputable def f22_j1 (a1 : GGrid) (a2 : Int) (a3 : Int) (a4 : Int) (a5 : GPen) (p43 : Int) (p44 : Int) (p45 : List GCell) : Option (Int × Int × (List GCell) × Int) := ((f43 p43 p44 a2 a3 a4 a5 p45).bind fun z13 => ((chk (decide (z13.length = p45.length))).bind fun z14 => (some (p43, p44, z13, 0))))
theorem f22_j1_ok {base : Orc} {d : Nat} (hd : 8 ≤ d) (a1 : GGrid) (a2 : Int) (a3 : Int) (a4 : Int) (a5 : GPen) {r : Int × Int × (List GCell) × Int} {Q : PX → St → Prop} (hQ : ∀ e st', f22_Q r e st' → Q e st') (p43 : Int) (p44 : Int) (p45 : List GCell) (hS : f22_j1 a1 a2 a3 a4 a5 p43 p44 p45 = some r) {st : St} (he : keepSt [1, 2, 3, 5, 9, 10] [(48, .id 48), (272, .id 272), (80, .id 80), (88, .id 88)] [] st = f22_j1_J a1 a2 a3 a4 a5 p43 p44 p45) : ZR (lev codes base (d - 1)) Q c22_1 [] st := by
  refine zrKeep he ?_
  unfold f22_j1 at hS
  refine zrSeq ?_
  refine zrReg ?_
  refine zlRun (n := 5) (j := 5) rfl (by kernel_rfl) ?_
  refine bindE hS (fun z13 hz13 hS => ?_)
  refine bindE hS (fun z14 hz14 hS => ?_)
  refine zlOp (d := some 45) (op := (.callr 43 [(.tmp 40), (.tmp 41), (.tmp 42), (.tmp 43), (.tmp 44)])) (g := none) (v := (.tup [])) (ups := [(272, ⟨0, some (.own 33 4 (e_GCell.cells z13))⟩)]) (j := 6) rfl (by kernel_rfl) (by kernel_rfl) (ev_callrX (args := [(.agg ((.d (.int .i64 p43)) :: ((.d (.int .i64 p44)) :: ((.r (.msl 272 0 0 p45.length)) :: [])))), (.d (.int .i64 a2)), (.d (.int .i64 a3)), (.d (.int .i64 a4)), (.agg ((.d (.int .i64 a5.Flags)) :: ((.d (.int .i64 a5.Fore)) :: ((.d (.int .i64 a5.Back)) :: []))))]) (ids := [272]) (bs := [(.own 33 4 (e_GCell.cells p45))]) (l := [(.agg ((.d (.int .i64 p43)) :: ((.d (.int .i64 p44)) :: ((.r (.msl 0 0 0 p45.length)) :: [])))), (.d (.int .i64 a2)), (.d (.int .i64 a3)), (.d (.int .i64 a4)), (.agg ((.d (.int .i64 a5.Flags)) :: ((.d (.int .i64 a5.Fore)) :: ((.d (.int .i64 a5.Back)) :: []))))]) (bt := [(.own 33 4 (e_GCell.cells p45))]) (r := (.tup [])) (bs' := [(.own 33 4 (e_GCell.cells z13)), .box []]) (by kernel_rfl) (by kernel_rfl) (by kernel_rfl) (by kernel_rfl) (by kernel_rfl) (f43_ok base (d - 1) (dpt hd rfl) p43 p44 a2 a3 a4 a5 p45 z13 hz13) (by kernel_rfl) (sm_own e_GCell (e1 := 33) (k1 := 4) (xs := p45) (ys := z13) (by kernel_rfl) hz14 sm_nil) (by kernel_rfl) (by kernel_rfl)) ?_
  have lz14 : p45.length = z13.length := (of_decide_eq_true (chk_t hz14)).symm
  try delta f22_j1_J
  try rw [lz14]
  refine zlEnd (by kernel_rfl) ?_
  refine zkSeq ?_
  refine zrSeq ?_
  refine zrReg ?_
  refine zlRun (n := 3) (j := 3) rfl (by kernel_rfl) ?_
  refine zlEnd (by kernel_rfl) ?_
  refine zkSeq ?_
  refine zrRet ?_
  refine zkNil ?_
  exact endQ hS hQ (fRet (by kernel_rfl) ((congrArg (fun s => outR s 0 c22.res) (by kernel_rfl : finSt c22.fin _ = f22_fin p43 p44 z13 0)).trans (f22_out p43 p44 z13 0)))
def f22_j0_J (a1 : GGrid) (a2 : Int) (a3 : Int) (a4 : Int) (a5 : GPen) (p34 : Int) (p35 : Int) (p36 : List GCell) (p37 : Int) : St := ⟨(up (up (up (up (up (up (up (fun _ => .un) 12 (.d (.int .i64 p37))) 10 (.r (.ptr 88 0 0))) 9 (.r (.ptr 80 0 0))) 5 (.r (.ptr 48 0 0))) 3 (.d (.int .i64 a4))) 2 (.d (.int .i64 a3))) 1 (.d (.int .i64 a2))), (up (up (up (up (hB fun _ => 0) 88 ⟨0, some (.box ((.d (.int .i64 0)) :: ((.d (.int .i64 0)) :: ((.d (.sl ([] : List GCell).length (e_GCell.cells ([])))) :: []))))⟩) 80 ⟨0, some (.box ((.d (.int .i64 a5.Flags)) :: ((.d (.int .i64 a5.Fore)) :: ((.d (.int .i64 a5.Back)) :: []))))⟩) 272 ⟨0, some (.own 33 4 (e_GCell.cells p36))⟩) 48 ⟨0, some (.box ((.d (.int .i64 p34)) :: ((.d (.int .i64 p35)) :: ((.r (.msl 272 0 0 p36.length)) :: []))))⟩)⟩
noncomputable def f22_j0 (a1 : GGrid) (a2 : Int) (a3 : Int) (a4 : Int) (a5 : GPen) (p34 : Int) (p35 : Int) (p36 : List GCell) (p37 : Int) : Option (Int × Int × (List GCell) × Int) := (bif (!decide (p37 = 0)) then (some (p34, p35, p36, p37)) else (f22_j1 a1 a2 a3 a4 a5 p34 p35 p36))
theorem f22_j0_ok {base : Orc} {d : Nat} (hd : 8 ≤ d) (a1 : GGrid) (a2 : Int) (a3 : Int) (a4 : Int) (a5 : GPen) {r : Int × Int × (List GCell) × Int} {Q : PX → St → Prop} (hQ : ∀ e st', f22_Q r e st' → Q e st') (p34 : Int) (p35 : Int) (p36 : List GCell) (p37 : Int) (hS : f22_j0 a1 a2 a3 a4 a5 p34 p35 p36 p37 = some r) {st : St} (he : keepSt [1, 2, 3, 5, 9, 10, 12] [(48, .id 48), (272, .id 272), (80, .id 80), (88, .id 88)] [.cell 88 2 0 0 1] st = f22_j0_J a1 a2 a3 a4 a5 p34 p35 p36 p37) : ZR (lev codes base (d - 1)) Q c22_2 [] st := by
  refine zrKeep he ?_
  unfold f22_j0 at hS
  refine zrSeq ?_
  refine zrSeq ?_
  refine zrReg ?_
  refine zlRun (n := 1) (j := 1) rfl (by kernel_rfl) ?_
  refine zlBool (d := 37) (op := (.cmpI .neq (.tmp 36) (.const (.int .i64 0)))) (g := none) (j := 2) (!decide (p37 = 0)) rfl (by kernel_rfl) (by kernel_rfl) (by kernel_rfl) (fun hc => ?_) (fun hc => ?_)
  · replace hS := cond_t hc hS
    refine zlEnd (by kernel_rfl) ?_
    refine zkSeq ?_
    refine zrCondT (by kernel_rfl) ?_
    refine zrSeq ?_
    refine zrReg ?_
    refine zlRun (n := 4) (j := 4) rfl (by kernel_rfl) ?_
    refine zlEnd (by kernel_rfl) ?_
    refine zkSeq ?_
    refine zrRet ?_
    refine zkSeqR ?_
    refine zkNil ?_
    exact endQ hS hQ (fRet (by kernel_rfl) ((congrArg (fun s => outR s 0 c22.res) (by kernel_rfl : finSt c22.fin _ = f22_fin p34 p35 p36 p37)).trans (f22_out p34 p35 p36 p37)))
  · replace hS := cond_f hc hS
    refine zlEnd (by kernel_rfl) ?_
    refine zkSeq ?_
    refine zrCondF (by kernel_rfl) ?_
    refine zrSkip ?_
    refine zkSeq ?_
    exact f22_j1_ok hd a1 a2 a3 a4 a5 hQ p34 p35 p36 hS (by kernel_rfl)
noncomputable def f22 (a1 : GGrid) (a2 : Int) (a3 : Int) (a4 : Int) (a5 : GPen) : Option (Int × Int × (List GCell) × Int) := (bif (decide (0 ≤ a2)) then (bif (decide (a2 ≤ a3)) then (bif (decide (a3 ≤ a1.High)) then ((f40 a4).bind fun z15 => ((f29 a1 z15 a5).bind fun z16 => (f22_j0 a1 a2 a3 a4 a5 z16.1 z16.2.1 z16.2.2.1 z16.2.2.2))) else ((f29 a1 false a5).bind fun z17 => (f22_j0 a1 a2 a3 a4 a5 z17.1 z17.2.1 z17.2.2.1 z17.2.2.2))) else ((f29 a1 false a5).bind fun z18 => (f22_j0 a1 a2 a3 a4 a5 z18.1 z18.2.1 z18.2.2.1 z18.2.2.2))) else ((f29 a1 false a5).bind fun z19 => (f22_j0 a1 a2 a3 a4 a5 z19.1 z19.2.1 z19.2.2.1 z19.2.2.2)))
theorem f22_ok (base : Orc) (d : Nat) (hd : 8 ≤ d) (a1 : GGrid) (a2 : Int) (a3 : Int) (a4 : Int) (a5 : GPen) (r : Int × Int × (List GCell) × Int) (hS : f22 a1 a2 a3 a4 a5 = some r) : lev codes base d 22 [(.agg ((.d (.int .i64 a1.Wide)) :: ((.d (.int .i64 a1.High)) :: ((.d (.sl a1.Cells.length (e_GCell.cells a1.Cells))) :: [])))), (.d (.int .i64 a2)), (.d (.int .i64 a3)), (.d (.int .i64 a4)), (.agg ((.d (.int .i64 a5.Flags)) :: ((.d (.int .i64 a5.Fore)) :: ((.d (.int .i64 a5.Back)) :: []))))] [] = some ((.tup [(.agg ((.d (.int .i64 r.1)) :: ((.d (.int .i64 r.2.1)) :: ((.r (.own 0 33 4 r.2.2.1.length (e_GCell.cells r.2.2.1))) :: [])))), (.d (.int .i64 r.2.2.2))]), []) := by
  refine lev_go codes22 rfl rfl (Nat.le_trans (Nat.le_of_ble_eq_true rfl) hd) fun Q hQ => ?_
  unfold f22 at hS
  show ZR _ Q c22_b [] _
  replace hQ : ∀ e st', f22_Q r e st' → Q e st' := hQ
  refine zrSeq ?_
  refine zrReg ?_
  refine zlRun (n := 4) (j := 4) rfl (by kernel_rfl) ?_
  refine zlEnd (by kernel_rfl) ?_
  refine zkSeq ?_
  refine zrSeq ?_
  refine zrRegD ?_
  refine zdRun (n := 2) (j := 2) (ts := [[(48, false)], []]) (acc' := [[(48, false)], []]) rfl (by kernel_rfl) (by kernel_rfl) (by kernel_rfl) ?_
  refine zdBool (d := 16) (op := (.cmpI .geq (.tmp 15) (.const (.int .i64 0)))) (g := none) (j := 3) (t1 := []) (acc' := [[(48, false)], [], []]) (decide (0 ≤ a2)) (by kernel_rfl) (by kernel_rfl) rfl (by kernel_rfl) (by kernel_rfl) (by kernel_rfl) (fun hc => ?_) (fun hc => ?_)
  · replace hS := cond_t hc hS
    refine zdRun (n := 3) (j := 6) (ts := [[], [], []]) (acc' := [[(48, false)], [], [], [], [], []]) rfl (by kernel_rfl) (by kernel_rfl) (by kernel_rfl) ?_
    refine zdBool (d := 20) (op := (.cmpI .leq (.tmp 18) (.tmp 19))) (g := (some (17, true))) (j := 7) (t1 := []) (acc' := [[(48, false)], [], [], [], [], [], []]) (decide (a2 ≤ a3)) (by kernel_rfl) (by kernel_rfl) rfl (by kernel_rfl) (by kernel_rfl) (by kernel_rfl) (fun hc => ?_) (fun hc => ?_)
    · replace hS := cond_t hc hS
      refine zdRun (n := 5) (j := 12) (ts := [[], [], [], [], [(48, false)]]) (acc' := [[(48, false)], [], [], [], [], [], [], [], [], [], [], [(48, false)]]) rfl (by kernel_rfl) (by kernel_rfl) (by kernel_rfl) ?_
      refine zdBool (d := 26) (op := (.cmpI .leq (.tmp 23) (.tmp 25))) (g := (some (22, true))) (j := 13) (t1 := []) (acc' := [[(48, false)], [], [], [], [], [], [], [], [], [], [], [(48, false)], []]) (decide (a3 ≤ a1.High)) (by kernel_rfl) (by kernel_rfl) rfl (by kernel_rfl) (by kernel_rfl) (by kernel_rfl) (fun hc => ?_) (fun hc => ?_)
      · replace hS := cond_t hc hS
        refine zdRun (n := 3) (j := 16) (ts := [[], [], []]) (acc' := [[(48, false)], [], [], [], [], [], [], [], [], [], [], [(48, false)], [], [], [], []]) rfl (by kernel_rfl) (by kernel_rfl) (by kernel_rfl) ?_
        refine bindE hS (fun z15 hz15 hS => ?_)
        refine zdOp (d := some 30) (op := (.call 40 [(.tmp 29)])) (g := (some (28, true))) (v := (.d (.bool z15))) (ups := []) (j := 17) (t1 := [(248, true), (249, true), (250, true), (251, true), (252, true), (253, true), (254, true), (255, true)]) (acc' := [[(48, false)], [], [], [], [], [], [], [], [], [], [], [(48, false)], [], [], [], [], [(248, true), (249, true), (250, true), (251, true), (252, true), (253, true), (254, true), (255, true)]]) (by kernel_rfl) (by kernel_rfl) rfl (by kernel_rfl) (by kernel_rfl) (ev_call (args := [(.d (.int .i64 a4))]) (l := [(.d (.int .i64 a4))]) (r := (.d (.bool z15))) (by kernel_rfl) (by kernel_rfl) (f40_ok base (d - 1) (dpt hd rfl) a4 z15 hz15) (by kernel_rfl) (by kernel_rfl) (by kernel_rfl)) ?_
        refine zdRun (n := 2) (j := 19) (ts := [[], [(80, false)]]) (acc' := [[(48, false)], [], [], [], [], [], [], [], [], [], [], [(48, false)], [], [], [], [], [(248, true), (249, true), (250, true), (251, true), (252, true), (253, true), (254, true), (255, true)], [], [(80, false)]]) rfl (by kernel_rfl) (by kernel_rfl) (by kernel_rfl) ?_
        refine bindE hS (fun z16 hz16 hS => ?_)
        refine zdOp (d := some 33) (op := (.callf 29 [(.tmp 14), (.tmp 31), (.tmp 32)])) (g := none) (v := (.tup [(.agg ((.d (.int .i64 z16.1)) :: ((.d (.int .i64 z16.2.1)) :: ((.r (.msl 272 1 0 z16.2.2.1.length)) :: [])))), (.d (.int .i64 z16.2.2.2))])) (ups := [(272, ⟨1, some (.own 33 4 (e_GCell.cells z16.2.2.1))⟩)]) (j := 20) (t1 := [(272, true), (273, true), (274, true), (275, true), (276, true), (277, true), (278, true), (279, true)]) (acc' := [[(48, false)], [], [], [], [], [], [], [], [], [], [], [(48, false)], [], [], [], [], [(248, true), (249, true), (250, true), (251, true), (252, true), (253, true), (254, true), (255, true)], [], [(80, false)], [(272, true), (273, true), (274, true), (275, true), (276, true), (277, true), (278, true), (279, true)]]) (by kernel_rfl) (by kernel_rfl) rfl (by kernel_rfl) (by kernel_rfl) (ev_callF (args := [(.agg ((.d (.int .i64 a1.Wide)) :: ((.d (.int .i64 a1.High)) :: ((.d (.sl a1.Cells.length (e_GCell.cells a1.Cells))) :: [])))), (.d (.bool z15)), (.agg ((.d (.int .i64 a5.Flags)) :: ((.d (.int .i64 a5.Fore)) :: ((.d (.int .i64 a5.Back)) :: []))))]) (args' := [(.agg ((.d (.int .i64 a1.Wide)) :: ((.d (.int .i64 a1.High)) :: ((.d (.sl a1.Cells.length (e_GCell.cells a1.Cells))) :: [])))), (.d (.bool z15)), (.agg ((.d (.int .i64 a5.Flags)) :: ((.d (.int .i64 a5.Fore)) :: ((.d (.int .i64 a5.Back)) :: []))))]) (l := [(.agg ((.d (.int .i64 a1.Wide)) :: ((.d (.int .i64 a1.High)) :: ((.d (.sl a1.Cells.length (e_GCell.cells a1.Cells))) :: [])))), (.d (.bool z15)), (.agg ((.d (.int .i64 a5.Flags)) :: ((.d (.int .i64 a5.Fore)) :: ((.d (.int .i64 a5.Back)) :: []))))]) (refs := []) (r := (.tup [(.agg ((.d (.int .i64 z16.1)) :: ((.d (.int .i64 z16.2.1)) :: ((.r (.own 0 33 4 z16.2.2.1.length (e_GCell.cells z16.2.2.1))) :: [])))), (.d (.int .i64 z16.2.2.2))])) (v := (.tup [(.agg ((.d (.int .i64 z16.1)) :: ((.d (.int .i64 z16.2.1)) :: ((.r (.msl 272 1 0 z16.2.2.1.length)) :: [])))), (.d (.int .i64 z16.2.2.2))])) (ups' := [(272, ⟨1, some (.own 33 4 (e_GCell.cells z16.2.2.1))⟩)]) (by kernel_rfl) (by kernel_rfl) (by kernel_rfl) (fz_cons rfl (fz_cons rfl (fz_cons rfl fz_nil))) (by kernel_rfl) (f29_ok base (d - 1) (dpt hd rfl) a1 z15 a5 z16 hz16) (by kernel_rfl) (by kernel_rfl) (by kernel_rfl) (by kernel_rfl)) ?_
        refine zdRun (n := 5) (j := 25) (ts := [[], [], [], [(48, true)], []]) (acc' := [[(48, false)], [], [], [], [], [], [], [], [], [], [], [(48, false)], [], [], [], [], [(248, true), (249, true), (250, true), (251, true), (252, true), (253, true), (254, true), (255, true)], [], [(80, false)], [(272, true), (273, true), (274, true), (275, true), (276, true), (277, true), (278, true), (279, true)], [], [], [], [(48, true)], []]) rfl (by kernel_rfl) (by kernel_rfl) (by kernel_rfl) ?_
        refine zdEnd (by kernel_rfl) (by kernel_rfl) ?_
        refine zkSeq ?_
        exact f22_j0_ok hd a1 a2 a3 a4 a5 hQ z16.1 z16.2.1 z16.2.2.1 z16.2.2.2 hS (by kernel_rfl)
      · replace hS := cond_f hc hS
        refine zdRun (n := 6) (j := 19) (ts := [[], [], [], [], [], [(80, false)]]) (acc' := [[(48, false)], [], [], [], [], [], [], [], [], [], [], [(48, false)], [], [], [], [], [], [], [(80, false)]]) rfl (by kernel_rfl) (by kernel_rfl) (by kernel_rfl) ?_
        refine bindE hS (fun z17 hz17 hS => ?_)
        refine zdOp (d := some 33) (op := (.callf 29 [(.tmp 14), (.tmp 31), (.tmp 32)])) (g := none) (v := (.tup [(.agg ((.d (.int .i64 z17.1)) :: ((.d (.int .i64 z17.2.1)) :: ((.r (.msl 272 1 0 z17.2.2.1.length)) :: [])))), (.d (.int .i64 z17.2.2.2))])) (ups := [(272, ⟨1, some (.own 33 4 (e_GCell.cells z17.2.2.1))⟩)]) (j := 20) (t1 := [(272, true), (273, true), (274, true), (275, true), (276, true), (277, true), (278, true), (279, true)]) (acc' := [[(48, false)], [], [], [], [], [], [], [], [], [], [], [(48, false)], [], [], [], [], [], [], [(80, false)], [(272, true), (273, true), (274, true), (275, true), (276, true), (277, true), (278, true), (279, true)]]) (by kernel_rfl) (by kernel_rfl) rfl (by kernel_rfl) (by kernel_rfl) (ev_callF (args := [(.agg ((.d (.int .i64 a1.Wide)) :: ((.d (.int .i64 a1.High)) :: ((.d (.sl a1.Cells.length (e_GCell.cells a1.Cells))) :: [])))), (.d (.bool false)), (.agg ((.d (.int .i64 a5.Flags)) :: ((.d (.int .i64 a5.Fore)) :: ((.d (.int .i64 a5.Back)) :: []))))]) (args' := [(.agg ((.d (.int .i64 a1.Wide)) :: ((.d (.int .i64 a1.High)) :: ((.d (.sl a1.Cells.length (e_GCell.cells a1.Cells))) :: [])))), (.d (.bool false)), (.agg ((.d (.int .i64 a5.Flags)) :: ((.d (.int .i64 a5.Fore)) :: ((.d (.int .i64 a5.Back)) :: []))))]) (l := [(.agg ((.d (.int .i64 a1.Wide)) :: ((.d (.int .i64 a1.High)) :: ((.d (.sl a1.Cells.length (e_GCell.cells a1.Cells))) :: [])))), (.d (.bool false)), (.agg ((.d (.int .i64 a5.Flags)) :: ((.d (.int .i64 a5.Fore)) :: ((.d (.int .i64 a5.Back)) :: []))))]) (refs := []) (r := (.tup [(.agg ((.d (.int .i64 z17.1)) :: ((.d (.int .i64 z17.2.1)) :: ((.r (.own 0 33 4 z17.2.2.1.length (e_GCell.cells z17.2.2.1))) :: [])))), (.d (.int .i64 z17.2.2.2))])) (v := (.tup [(.agg ((.d (.int .i64 z17.1)) :: ((.d (.int .i64 z17.2.1)) :: ((.r (.msl 272 1 0 z17.2.2.1.length)) :: [])))), (.d (.int .i64 z17.2.2.2))])) (ups' := [(272, ⟨1, some (.own 33 4 (e_GCell.cells z17.2.2.1))⟩)]) (by kernel_rfl) (by kernel_rfl) (by kernel_rfl) (fz_cons rfl (fz_cons rfl (fz_cons rfl fz_nil))) (by kernel_rfl) (f29_ok base (d - 1) (dpt hd rfl) a1 false a5 z17 hz17) (by kernel_rfl) (by kernel_rfl) (by kernel_rfl) (by kernel_rfl)) ?_
        refine zdRun (n := 5) (j := 25) (ts := [[], [], [], [(48, true)], []]) (acc' := [[(48, false)], [], [], [], [], [], [], [], [], [], [], [(48, false)], [], [], [], [], [], [], [(80, false)], [(272, true), (273, true), (274, true), (275, true), (276, true), (277, true), (278, true), (279, true)], [], [], [], [(48, true)], []]) rfl (by kernel_rfl) (by kernel_rfl) (by kernel_rfl) ?_
        refine zdEnd (by kernel_rfl) (by kernel_rfl) ?_
        refine zkSeq ?_
        exact f22_j0_ok hd a1 a2 a3 a4 a5 hQ z17.1 z17.2.1 z17.2.2.1 z17.2.2.2 hS (by kernel_rfl)
    · replace hS := cond_f hc hS
      refine zdRun (n := 12) (j := 19) (ts := [[], [], [], [], [], [], [], [], [], [], [], [(80, false)]]) (acc' := [[(48, false)], [], [], [], [], [], [], [], [], [], [], [], [], [], [], [], [], [], [(80, false)]]) rfl (by kernel_rfl) (by kernel_rfl) (by kernel_rfl) ?_
      refine bindE hS (fun z18 hz18 hS => ?_)
      refine zdOp (d := some 33) (op := (.callf 29 [(.tmp 14), (.tmp 31), (.tmp 32)])) (g := none) (v := (.tup [(.agg ((.d (.int .i64 z18.1)) :: ((.d (.int .i64 z18.2.1)) :: ((.r (.msl 272 1 0 z18.2.2.1.length)) :: [])))), (.d (.int .i64 z18.2.2.2))])) (ups := [(272, ⟨1, some (.own 33 4 (e_GCell.cells z18.2.2.1))⟩)]) (j := 20) (t1 := [(272, true), (273, true), (274, true), (275, true), (276, true), (277, true), (278, true), (279, true)]) (acc' := [[(48, false)], [], [], [], [], [], [], [], [], [], [], [], [], [], [], [], [], [], [(80, false)], [(272, true), (273, true), (274, true), (275, true), (276, true), (277, true), (278, true), (279, true)]]) (by kernel_rfl) (by kernel_rfl) rfl (by kernel_rfl) (by kernel_rfl) (ev_callF (args := [(.agg ((.d (.int .i64 a1.Wide)) :: ((.d (.int .i64 a1.High)) :: ((.d (.sl a1.Cells.length (e_GCell.cells a1.Cells))) :: [])))), (.d (.bool false)), (.agg ((.d (.int .i64 a5.Flags)) :: ((.d (.int .i64 a5.Fore)) :: ((.d (.int .i64 a5.Back)) :: []))))]) (args' := [(.agg ((.d (.int .i64 a1.Wide)) :: ((.d (.int .i64 a1.High)) :: ((.d (.sl a1.Cells.length (e_GCell.cells a1.Cells))) :: [])))), (.d (.bool false)), (.agg ((.d (.int .i64 a5.Flags)) :: ((.d (.int .i64 a5.Fore)) :: ((.d (.int .i64 a5.Back)) :: []))))]) (l := [(.agg ((.d (.int .i64 a1.Wide)) :: ((.d (.int .i64 a1.High)) :: ((.d (.sl a1.Cells.length (e_GCell.cells a1.Cells))) :: [])))), (.d (.bool false)), (.agg ((.d (.int .i64 a5.Flags)) :: ((.d (.int .i64 a5.Fore)) :: ((.d (.int .i64 a5.Back)) :: []))))]) (refs := []) (r := (.tup [(.agg ((.d (.int .i64 z18.1)) :: ((.d (.int .i64 z18.2.1)) :: ((.r (.own 0 33 4 z18.2.2.1.length (e_GCell.cells z18.2.2.1))) :: [])))), (.d (.int .i64 z18.2.2.2))])) (v := (.tup [(.agg ((.d (.int .i64 z18.1)) :: ((.d (.int .i64 z18.2.1)) :: ((.r (.msl 272 1 0 z18.2.2.1.length)) :: [])))), (.d (.int .i64 z18.2.2.2))])) (ups' := [(272, ⟨1, some (.own 33 4 (e_GCell.cells z18.2.2.1))⟩)]) (by kernel_rfl) (by kernel_rfl) (by kernel_rfl) (fz_cons rfl (fz_cons rfl (fz_cons rfl fz_nil))) (by kernel_rfl) (f29_ok base (d - 1) (dpt hd rfl) a1 false a5 z18 hz18) (by kernel_rfl) (by kernel_rfl) (by kernel_rfl) (by kernel_rfl)) ?_
      refine zdRun (n := 5) (j := 25) (ts := [[], [], [], [(48, true)], []]) (acc' := [[(48, false)], [], [], [], [], [], [], [], [], [], [], [], [], [], [], [], [], [], [(80, false)], [(272, true), (273, true), (274, true), (275, true), (276, true), (277, true), (278, true), (279, true)], [], [], [], [(48, true)], []]) rfl (by kernel_rfl) (by kernel_rfl) (by kernel_rfl) ?_
      refine zdEnd (by kernel_rfl) (by kernel_rfl) ?_
      refine zkSeq ?_
      exact f22_j0_ok hd a1 a2 a3 a4 a5 hQ z18.1 z18.2.1 z18.2.2.1 z18.2.2.2 hS (by kernel_rfl)
  · replace hS := cond_f hc hS
    refine zdRun (n := 16) (j := 19) (ts := [[], [], [], [], [], [], [], [], [], [], [], [], [], [], [], [(80, false)]]) (acc' := [[(48, false)], [], [], [], [], [], [], [], [], [], [], [], [], [], [], [], [], [], [(80, false)]]) rfl (by kernel_rfl) (by kernel_rfl) (by kernel_rfl) ?_
    refine bindE hS (fun z19 hz19 hS => ?_)
    refine zdOp (d := some 33) (op := (.callf 29 [(.tmp 14), (.tmp 31), (.tmp 32)])) (g := none) (v := (.tup [(.agg ((.d (.int .i64 z19.1)) :: ((.d (.int .i64 z19.2.1)) :: ((.r (.msl 272 1 0 z19.2.2.1.length)) :: [])))), (.d (.int .i64 z19.2.2.2))])) (ups := [(272, ⟨1, some (.own 33 4 (e_GCell.cells z19.2.2.1))⟩)]) (j := 20) (t1 := [(272, true), (273, true), (274, true), (275, true), (276, true), (277, true), (278, true), (279, true)]) (acc' := [[(48, false)], [], [], [], [], [], [], [], [], [], [], [], [], [], [], [], [], [], [(80, false)], [(272, true), (273, true), (274, true), (275, true), (276, true), (277, true), (278, true), (279, true)]]) (by kernel_rfl) (by kernel_rfl) rfl (by kernel_rfl) (by kernel_rfl) (ev_callF (args := [(.agg ((.d (.int .i64 a1.Wide)) :: ((.d (.int .i64 a1.High)) :: ((.d (.sl a1.Cells.length (e_GCell.cells a1.Cells))) :: [])))), (.d (.bool false)), (.agg ((.d (.int .i64 a5.Flags)) :: ((.d (.int .i64 a5.Fore)) :: ((.d (.int .i64 a5.Back)) :: []))))]) (args' := [(.agg ((.d (.int .i64 a1.Wide)) :: ((.d (.int .i64 a1.High)) :: ((.d (.sl a1.Cells.length (e_GCell.cells a1.Cells))) :: [])))), (.d (.bool false)), (.agg ((.d (.int .i64 a5.Flags)) :: ((.d (.int .i64 a5.Fore)) :: ((.d (.int .i64 a5.Back)) :: []))))]) (l := [(.agg ((.d (.int .i64 a1.Wide)) :: ((.d (.int .i64 a1.High)) :: ((.d (.sl a1.Cells.length (e_GCell.cells a1.Cells))) :: [])))), (.d (.bool false)), (.agg ((.d (.int .i64 a5.Flags)) :: ((.d (.int .i64 a5.Fore)) :: ((.d (.int .i64 a5.Back)) :: []))))]) (refs := []) (r := (.tup [(.agg ((.d (.int .i64 z19.1)) :: ((.d (.int .i64 z19.2.1)) :: ((.r (.own 0 33 4 z19.2.2.1.length (e_GCell.cells z19.2.2.1))) :: [])))), (.d (.int .i64 z19.2.2.2))])) (v := (.tup [(.agg ((.d (.int .i64 z19.1)) :: ((.d (.int .i64 z19.2.1)) :: ((.r (.msl 272 1 0 z19.2.2.1.length)) :: [])))), (.d (.int .i64 z19.2.2.2))])) (ups' := [(272, ⟨1, some (.own 33 4 (e_GCell.cells z19.2.2.1))⟩)]) (by kernel_rfl) (by kernel_rfl) (by kernel_rfl) (fz_cons rfl (fz_cons rfl (fz_cons rfl fz_nil))) (by kernel_rfl) (f29_ok base (d - 1) (dpt hd rfl) a1 false a5 z19 hz19) (by kernel_rfl) (by kernel_rfl) (by kernel_rfl) (by kernel_rfl)) ?_
    refine zdRun (n := 5) (j := 25) (ts := [[], [], [], [(48, true)], []]) (acc' := [[(48, false)], [], [], [], [], [], [], [], [], [], [], [], [], [], [], [], [], [], [(80, false)], [(272, true), (273, true), (274, true), (275, true), (276, true), (277, true), (278, true), (279, true)], [], [], [], [(48, true)], []]) rfl (by kernel_rfl) (by kernel_rfl) (by kernel_rfl) ?_
    refine zdEnd (by kernel_rfl) (by kernel_rfl) ?_
    refine zkSeq ?_
    exact f22_j0_ok hd a1 a2 a3 a4 a5 hQ z19.1 z19.2.1 z19.2.2.1 z19.2.2.2 hS (by kernel_rfl)
/- farwriter/farref.Between -/
def f44_fin (p3 : Bool) : St := ⟨(up (fun _ => .un) 6 (.d (.bool p3))), (hB fun _ => 0)⟩
theorem f44_out (p3 : Bool) : outR (f44_fin p3) 0 c44.res = some ((.d (.bool p3)), []) := by
  kernel_rfl
def f44_Q (r : Bool) (e : PX) (st : St) : Prop := DoneF c44 0 ((.d (.bool r)), []) e st
noncomputable def f44 (a1 : Int) (a2 : Int) (a3 : Int) : Option (Bool) := (bif (decide (a2 ≤ a1)) then (bif (decide (a1 ≤ a3)) then (some true) else (some false)) else (some false))
theorem f44_ok (base : Orc) (d : Nat) (hd : 1 ≤ d) (a1 : Int) (a2 : Int) (a3 : Int) (r : Bool) (hS : f44 a1 a2 a3 = some r) : lev codes base d 44 [(.d (.int .i64 a1)), (.d (.int .i64 a2)), (.d (.int .i64 a3))] [] = some ((.d (.bool r)), []) := by
  refine lev_go codes44 rfl rfl (Nat.le_trans (Nat.le_of_ble_eq_true rfl) hd) fun Q hQ => ?_
  unfold f44 at hS
  show ZR _ Q c44_b [] _
  replace hQ : ∀ e st', f44_Q r e st' → Q e st' := hQ
  refine zrSeq ?_
  refine zrReg ?_
  refine zlRun (n := 1) (j := 1) rfl (by kernel_rfl) ?_
  refine zlEnd (by kernel_rfl) ?_
  refine zkSeq ?_
  refine zrSeq ?_
  refine zrReg ?_
  refine zlRun (n := 2) (j := 2) rfl (by kernel_rfl) ?_
  refine zlBool (d := 9) (op := (.cmpI .leq (.tmp 7) (.tmp 8))) (g := none) (j := 3) (decide (a2 ≤ a1)) rfl (by kernel_rfl) (by kernel_rfl) (by kernel_rfl) (fun hc => ?_) (fun hc => ?_)
  · replace hS := cond_t hc hS
    refine zlRun (n := 3) (j := 6) rfl (by kernel_rfl) ?_
    refine zlBool (d := 13) (op := (.cmpI .leq (.tmp 11) (.tmp 12))) (g := (some (10, true))) (j := 7) (decide (a1 ≤ a3)) rfl (by kernel_rfl) (by kernel_rfl) (by kernel_rfl) (fun hc => ?_) (fun hc => ?_)
    · replace hS := cond_t hc hS
      refine zlRun (n := 2) (j := 9) rfl (by kernel_rfl) ?_
      refine zlEnd (by kernel_rfl) ?_
      refine zkSeq ?_
      refine zrRet ?_
      refine zkNil ?_
      exact endQ hS hQ (fRet (by kernel_rfl) ((congrArg (fun s => outR s 0 c44.res) (by kernel_rfl : finSt c44.fin _ = f44_fin true)).trans (f44_out true)))
    · replace hS := cond_f hc hS
      refine zlRun (n := 2) (j := 9) rfl (by kernel_rfl) ?_
      refine zlEnd (by kernel_rfl) ?_
      refine zkSeq ?_
      refine zrRet ?_
      refine zkNil ?_
      exact endQ hS hQ (fRet (by kernel_rfl) ((congrArg (fun s => outR s 0 c44.res) (by kernel_rfl : finSt c44.fin _ = f44_fin false)).trans (f44_out false)))
  · replace hS := cond_f hc hS
    refine zlRun (n := 6) (j := 9) rfl (by kernel_rfl) ?_
    refine zlEnd (by kernel_rfl) ?_
    refine zkSeq ?_
    refine zrRet ?_
    refine zkNil ?_
    exact endQ hS hQ (fRet (by kernel_rfl) ((congrArg (fun s => outR s 0 c44.res) (by kernel_rfl : finSt c44.fin _ = f44_fin false)).trans (f44_out false)))
/- farwriter/farref.Two -/
def f45_fin (p13 : Int) : St := ⟨(up (fun _ => .un) 2 (.d (.int .i64 p13))), (hB fun _ => 0)⟩
theorem f45_out (p13 : Int) : outR (f45_fin p13) 0 c45.res = some ((.d (.int .i64 p13)), []) := by
  kernel_rfl
def f45_Q (r : Int) (e : PX) (st : St) : Prop := DoneF c45 0 ((.d (.int .i64 r)), []) e st
def f45_l0_J (a1 : Int) (x : Int × Int) : St := ⟨(up (up (up (fun _ => .un) 5 (.d (.int .i64 x.2))) 4 (.d (.int .i64 a1))) 3 (.d (.int .i64 x.1))), (hB fun _ => 0)⟩
def f45_l0_H (a1 : Int) (x : Int × Int) (st : St) : Prop := keepSt [3, 4, 5] [] [] st = f45_l0_J a1 x
def f45_l0_e0_J (a1 : Int) (p12 : Int) : St := ⟨(up (fun _ => .un) 3 (.d (.int .i64 p12))), (hB fun _ => 0)⟩
def f45_l0_X (a1 : Int) (z : Int) (e : PX) (st : St) : Prop := e = .exit 0 ∧ st = f45_l0_e0_J a1 z
def f45_l0_j1_J (a1 : Int) (p17 : Int) (p18 : Int) (p19 : Bool) : St := ⟨(up (up (up (up (fun _ => .un) 6 (.d (.bool p19))) 5 (.d (.int .i64 p18))) 4 (.d (.int .i64 a1))) 3 (.d (.int .i64 p17))), (hB fun _ => 0)⟩
noncomputable def f45_l0_j1 (a1 : Int) (p17 : Int) (p18 : Int) (p19 : Bool) : Option ((Int × Int) ⊕ Int) := (bif p19 then (some (.inl ((IntKind.i64.wrap (p17 * 2)), (IntKind.i64.wrap (p18 + 1))))) else (some (.inr p17)))
theorem f45_l0_j1_ok {base : Orc} {d : Nat} (hd : 1 ≤ d) (a1 : Int) {r : (Int × Int) ⊕ Int} {Q : PX → St → Prop} (hQ : ∀ e st', finL (f45_l0_H a1) (f45_l0_X a1) r e st' → Q e st') (p17 : Int) (p18 : Int) (p19 : Bool) (hS : f45_l0_j1 a1 p17 p18 p19 = some r) {st : St} (he : keepSt [3, 4, 5, 6] [] [] st = f45_l0_j1_J a1 p17 p18 p19) : ZR (lev codes base (d - 1)) Q c45_1 [] st := by
  refine zrKeep he ?_
  unfold f45_l0_j1 at hS
  refine zrSeq ?_
  refine zrSplit 6 p19 (by kernel_rfl) (fun hc => ?_) (fun hc => ?_)
  · replace hS := cond_t hc hS
    refine zrCondT (by kernel_rfl) ?_
    refine zrSkip ?_
    refine zkSeq ?_
    refine zrSeq ?_
    refine zrBlk ?_
    refine zrReg ?_
    refine zlRun (n := 3) (j := 3) rfl (by kernel_rfl) ?_
    refine zlEnd (by kernel_rfl) ?_
    refine zkBlk ?_
    refine zkSeq ?_
    refine zrReg ?_
    refine zlRun (n := 2) (j := 2) rfl (by kernel_rfl) ?_
    refine zlEnd (by kernel_rfl) ?_
    refine zkNil ?_
    exact endQ hS hQ (finL_n (by show keepSt _ _ _ _ = _; kernel_rfl))
  · replace hS := cond_f hc hS
    refine zrCondF (by kernel_rfl) ?_
    refine zrKeep (J := f45_l0_e0_J a1 p17) (by kernel_rfl) ?_
    refine zrExit ?_
    refine zkSeqX ?_
    refine zkNil ?_
    exact endQ hS hQ (finL_x (by intro h; cases h) (by show _ = _ ∧ _ = _; exact ⟨rfl, rfl⟩))
noncomputable def f45_l0 (a1 : Int) (x : Int × Int) : Option ((Int × Int) ⊕ Int) := (bif (decide (x.2 < a1)) then (f45_l0_j1 a1 x.1 x.2 true) else (f45_l0_j1 a1 x.1 x.2 false))
theorem f45_l0_ok {base : Orc} {d : Nat} (hd : 1 ≤ d) (a1 : Int) {r : (Int × Int) ⊕ Int} {Q : PX → St → Prop} (hQ : ∀ e st', finL (f45_l0_H a1) (f45_l0_X a1) r e st' → Q e st') {x : Int × Int} (hS : f45_l0 a1 x = some r) {st : St} (he : f45_l0_H a1 x st) : ZR (lev codes base (d - 1)) Q c45_2 [] st := by
  refine zrKeep he ?_
  unfold f45_l0 at hS
  refine zrSeq ?_
  refine zrReg ?_
  refine zlBool (d := 6) (op := (.cmpI .lss (.tmp 5) (.tmp 4))) (g := none) (j := 1) (decide (x.2 < a1)) rfl (by kernel_rfl) (by kernel_rfl) (by kernel_rfl) (fun hc => ?_) (fun hc => ?_)
  · replace hS := cond_t hc hS
    refine zlEnd (by kernel_rfl) ?_
    refine zkSeq ?_
    exact f45_l0_j1_ok hd a1 hQ x.1 x.2 true hS (by kernel_rfl)
  · replace hS := cond_f hc hS
    refine zlEnd (by kernel_rfl) ?_
    refine zkSeq ?_
    exact f45_l0_j1_ok hd a1 hQ x.1 x.2 false hS (by kernel_rfl)
noncomputable def f45 (a1 : Int) : Option (Int) := ((loopO (f45_l0 a1) (1, 0)).bind fun z1 => (some z1))
theorem f45_ok (base : Orc) (d : Nat) (hd : 1 ≤ d) (a1 : Int) (r : Int) (hS : f45 a1 = some r) : lev codes base d 45 [(.d (.int .i64 a1))] [] = some ((.d (.int .i64 r)), []) := by
  refine lev_go codes45 rfl rfl (Nat.le_trans (Nat.le_of_ble_eq_true rfl) hd) fun Q hQ => ?_
  unfold f45 at hS
  show ZR _ Q c45_b [] _
  replace hQ : ∀ e st', f45_Q r e st' → Q e st' := hQ
  refine zrSeq ?_
  refine zrReg ?_
  refine zlRun (n := 1) (j := 1) rfl (by kernel_rfl) ?_
  refine zlEnd (by kernel_rfl) ?_
  refine zkSeq ?_
  refine zrSeq ?_
  refine zrReg ?_
  refine zlRun (n := 1) (j := 1) rfl (by kernel_rfl) ?_
  refine zlEnd (by kernel_rfl) ?_
  refine zkSeq ?_
  refine zrSeq ?_
  refine zrSeq ?_
  refine zrReg ?_
  refine zlRun (n := 2) (j := 2) rfl (by kernel_rfl) ?_
  refine zlEnd (by kernel_rfl) ?_
  refine zkSeq ?_
  refine zrBlk ?_
  refine bindE hS (fun z1 hz1 hS => ?_)
  refine zrLoop (f45_l0_H a1) (f45_l0_X a1) (fun x st r Q h0 hS hQ => f45_l0_ok hd a1 hQ hS h0) (x := (1, 0)) (z := z1) (by show keepSt _ _ _ _ = _; kernel_rfl) hz1 ?_
  intro e st' _ hX
  obtain ⟨rfl, rfl⟩ : _ ∧ _ := hX
  refine zkBlkX ?_
  refine zkSeq ?_
  refine zrSeq ?_
  refine zrReg ?_
  refine zlRun (n := 2) (j := 2) rfl (by kernel_rfl) ?_
  refine zlEnd (by kernel_rfl) ?_
  refine zkSeq ?_
  refine zrRet ?_
  refine zkNil ?_
  exact endQ hS hQ (fRet (by kernel_rfl) ((congrArg (fun s => outR s 0 c45.res) (by kernel_rfl : finSt c45.fin _ = f45_fin z1)).trans (f45_out z1)))
/- farwriter/farref.PenRight -/
def f23_fin (p13 : Int) : St := ⟨(up (fun _ => .un) 2 (.d (.int .i64 p13))), (hB fun _ => 0)⟩
theorem f23_out (p13 : Int) : outR (f23_fin p13) 0 c23.res = some ((.d (.int .i64 p13)), []) := by
  kernel_rfl
def f23_Q (r : Int) (e : PX) (st : St) : Prop := DoneF c23 0 ((.d (.int .i64 r)), []) e st
def f23_j0_J (a1 : GPen) : St := ⟨(up (fun _ => .un) 1 (.r (.ptr 16 0 0))), (up (hB fun _ => 0) 16 ⟨0, some (.box ((.d (.int .i64 a1.Flags)) :: ((.d (.int .i64 a1.Fore)) :: ((.d (.int .i64 a1.Back)) :: []))))⟩)⟩
noncomputable def f23_j0 (a1 : GPen) : Option (Int) := ((f44 a1.Flags 0 255).bind fun z20 => (bif (!z20) then (some 4) else (some 0)))
theorem f23_j0_ok {base : Orc} {d : Nat} (hd : 2 ≤ d) (a1 : GPen) {r : Int} {Q : PX → St → Prop} (hQ : ∀ e st', f23_Q r e st' → Q e st')  (hS : f23_j0 a1 = some r) {st : St} (he : keepSt [1] [(16, .id 16)] [] st = f23_j0_J a1) : ZR (lev codes base (d - 1)) Q c23_1 [] st := by
  refine zrKeep he ?_
  unfold f23_j0 at hS
  refine zrSeq ?_
  refine zrSeq ?_
  refine zrReg ?_
  refine zlRun (n := 2) (j := 2) rfl (by kernel_rfl) ?_
  refine bindE hS (fun z20 hz20 hS => ?_)
  refine zlOp (d := some 29) (op := (.call 44 [(.tmp 28), (.const (.int .i64 0)), (.const (.int .i64 255))])) (g := none) (v := (.d (.bool z20))) (ups := []) (j := 3) rfl (by kernel_rfl) (by kernel_rfl) (ev_call (args := [(.d (.int .i64 a1.Flags)), (.d (.int .i64 0)), (.d (.int .i64 255))]) (l := [(.d (.int .i64 a1.Flags)), (.d (.int .i64 0)), (.d (.int .i64 255))]) (r := (.d (.bool z20))) (by kernel_rfl) (by kernel_rfl) (f44_ok base (d - 1) (dpt hd rfl) a1.Flags 0 255 z20 hz20) (by kernel_rfl) (by kernel_rfl) (by kernel_rfl)) ?_
  refine zlRun (n := 1) (j := 4) rfl (by kernel_rfl) ?_
  refine zlEnd (by kernel_rfl) ?_
  refine zkSeq ?_
  refine zrSplit 30 (!z20) (by kernel_rfl) (fun hc => ?_) (fun hc => ?_)
  · replace hS := cond_t hc hS
    refine zrCondT (by kernel_rfl) ?_
    refine zrSeq ?_
    refine zrReg ?_
    refine zlRun (n := 1) (j := 1) rfl (by kernel_rfl) ?_
    refine zlEnd (by kernel_rfl) ?_
    refine zkSeq ?_
    refine zrRet ?_
    refine zkSeqR ?_
    refine zkNil ?_
    exact endQ hS hQ (fRet (by kernel_rfl) ((congrArg (fun s => outR s 0 c23.res) (by kernel_rfl : finSt c23.fin _ = f23_fin 4)).trans (f23_out 4)))
  · replace hS := cond_f hc hS
    refine zrCondF (by kernel_rfl) ?_
    refine zrSkip ?_
    refine zkSeq ?_
    refine zrSeq ?_
    refine zrReg ?_
    refine zlRun (n := 1) (j := 1) rfl (by kernel_rfl) ?_
    refine zlEnd (by kernel_rfl) ?_
    refine zkSeq ?_
    refine zrRet ?_
    refine zkNil ?_
    exact endQ hS hQ (fRet (by kernel_rfl) ((congrArg (fun s => outR s 0 c23.res) (by kernel_rfl : finSt c23.fin _ = f23_fin 0)).trans (f23_out 0)))
def f23_l1_J (a1 : GPen) (x : Int) : St := ⟨(up (up (up (up (fun _ => .un) 11 (.d (.int .i64 x))) 10 (.d (.int .i64 ((([a1.Fore, a1.Back] : List Int).length) : Int)))) 9 (.r (.msl 80 0 0 (([a1.Fore, a1.Back] : List Int).length)))) 1 (.r (.ptr 16 0 0))), (up (up (hB fun _ => 0) 80 ⟨0, some (.own 3 1 ((eInt .i64).cells ([a1.Fore, a1.Back])))⟩) 16 ⟨0, some (.box ((.d (.int .i64 a1.Flags)) :: ((.d (.int .i64 a1.Fore)) :: ((.d (.int .i64 a1.Back)) :: []))))⟩)⟩
def f23_l1_H (a1 : GPen) (x : Int) (st : St) : Prop := keepSt [1, 9, 10, 11] [(16, .id 16), (80, .id 80)] [] st = f23_l1_J a1 x
def f23_l1_e0_J (a1 : GPen) : St := ⟨(up (fun _ => .un) 1 (.r (.ptr 16 0 0))), (up (hB fun _ => 0) 16 ⟨0, some (.box ((.d (.int .i64 a1.Flags)) :: ((.d (.int .i64 a1.Fore)) :: ((.d (.int .i64 a1.Back)) :: []))))⟩)⟩
def f23_l1_X (a1 : GPen) (z : Unit ⊕ Int) (e : PX) (st : St) : Prop := (match z with | .inl z => e = .exit 0 ∧ st = f23_l1_e0_J a1 | .inr z => e = .ret ∧ finSt c23.fin st = f23_fin z)
def f23_l1_j3_J (a1 : GPen) (p18 : Int) : St := ⟨(up (up (up (up (fun _ => .un) 11 (.d (.int .i64 p18))) 10 (.d (.int .i64 ((([a1.Fore, a1.Back] : List Int).length) : Int)))) 9 (.r (.msl 80 0 0 (([a1.Fore, a1.Back] : List Int).length)))) 1 (.r (.ptr 16 0 0))), (up (up (hB fun _ => 0) 80 ⟨0, some (.own 3 1 ((eInt .i64).cells ([a1.Fore, a1.Back])))⟩) 16 ⟨0, some (.box ((.d (.int .i64 a1.Flags)) :: ((.d (.int .i64 a1.Fore)) :: ((.d (.int .i64 a1.Back)) :: []))))⟩)⟩
noncomputable def f23_l1_j3 (a1 : GPen) (p18 : Int) : Option (Int ⊕ (Unit ⊕ Int)) := ((inR p18 (([a1.Fore, a1.Back] : List Int).length)).bind fun m21 => ((([a1.Fore, a1.Back])[m21]?).bind fun z22 => ((f44 z22 0 256).bind fun z23 => (bif (!z23) then ((f45 24).bind fun z24 => ((f45 25).bind fun z25 => ((f44 z22 z24 (IntKind.i64.wrap (z25 - 1))).bind fun z26 => (bif (!z26) then (some (.inr (.inr 4))) else (some (.inl (IntKind.i64.wrap (p18 + 1)))))))) else (some (.inl (IntKind.i64.wrap (p18 + 1))))))))
theorem f23_l1_j3_ok {base : Orc} {d : Nat} (hd : 2 ≤ d) (a1 : GPen) {r : Int ⊕ (Unit ⊕ Int)} {Q : PX → St → Prop} (hQ : ∀ e st', finL (f23_l1_H a1) (f23_l1_X a1) r e st' → Q e st') (p18 : Int) (hS : f23_l1_j3 a1 p18 = some r) {st : St} (he : keepSt [1, 9, 10, 11] [(16, .id 16), (80, .id 80)] [] st = f23_l1_j3_J a1 p18) : ZR (lev codes base (d - 1)) Q c23_2 [] st := by
  refine zrKeep he ?_
  unfold f23_l1_j3 at hS
  refine zrSeq ?_
  refine zrBlk ?_
  refine zrSeq ?_
  refine zrReg ?_
  refine bindE hS (fun m21 hm21 hS => ?_)
  refine zlOp (d := some 13) (op := (.ixS 3 1 (.tmp 9) (.tmp 11))) (g := none) (v := (.r (.ptr 80 0 ((0 + m21) * 1)))) (ups := []) (j := 1) rfl (by kernel_rfl) (by kernel_rfl) (ev_ixM (kk := .i64) (b := 80) (g := 0) (l := 0) (n := ([a1.Fore, a1.Back] : List Int).length) (j := p18) (cs := (eInt .i64).cells ([a1.Fore, a1.Back])) (by kernel_rfl) (by kernel_rfl) (by kernel_rfl) hm21) ?_
  refine bindE hS (fun z22 hz22 hS => ?_)
  refine zlOp (d := some 14) (op := (.load .false 1 (.tmp 13))) (g := none) (v := (.d (.int .i64 z22))) (ups := []) (j := 2) rfl (by kernel_rfl) (by kernel_rfl) (ev_loadM (eInt .i64) (b := 80) (g := 0) (o := (0 + m21) * 1) (e := 3) (k := 1) (m := m21) (fo := 0) (xs := [a1.Fore, a1.Back]) (by kernel_rfl) (by kernel_rfl) (by rw [Nat.zero_add]; rfl) hz22 (by kernel_rfl) (by kernel_rfl) (by kernel_rfl)) ?_
  refine zlRun (n := 1) (j := 3) rfl (by kernel_rfl) ?_
  refine zlEnd (by kernel_rfl) ?_
  refine zkSeq ?_
  refine zrSeq ?_
  refine zrReg ?_
  refine zlRun (n := 1) (j := 1) rfl (by kernel_rfl) ?_
  refine bindE hS (fun z23 hz23 hS => ?_)
  refine zlOp (d := some 16) (op := (.call 44 [(.tmp 15), (.const (.int .i64 0)), (.const (.int .i64 256))])) (g := none) (v := (.d (.bool z23))) (ups := []) (j := 2) rfl (by kernel_rfl) (by kernel_rfl) (ev_call (args := [(.d (.int .i64 z22)), (.d (.int .i64 0)), (.d (.int .i64 256))]) (l := [(.d (.int .i64 z22)), (.d (.int .i64 0)), (.d (.int .i64 256))]) (r := (.d (.bool z23))) (by kernel_rfl) (by kernel_rfl) (f44_ok base (d - 1) (dpt hd rfl) z22 0 256 z23 hz23) (by kernel_rfl) (by kernel_rfl) (by kernel_rfl)) ?_
  refine zlRun (n := 2) (j := 4) rfl (by kernel_rfl) ?_
  refine zlSplit 18 (!z23) (by kernel_rfl) (fun hc => ?_) (fun hc => ?_)
  · replace hS := cond_t hc hS
    refine zlRun (n := 1) (j := 5) rfl (by kernel_rfl) ?_
    refine bindE hS (fun z24 hz24 hS => ?_)
    refine zlOp (d := some 20) (op := (.call 45 [(.const (.int .i64 24))])) (g := (some (18, true))) (v := (.d (.int .i64 z24))) (ups := []) (j := 6) rfl (by kernel_rfl) (by kernel_rfl) (ev_call (args := [(.d (.int .i64 24))]) (l := [(.d (.int .i64 24))]) (r := (.d (.int .i64 z24))) (by kernel_rfl) (by kernel_rfl) (f45_ok base (d - 1) (dpt hd rfl) 24 z24 hz24) (by kernel_rfl) (by kernel_rfl) (by kernel_rfl)) ?_
    refine bindE hS (fun z25 hz25 hS => ?_)
    refine zlOp (d := some 21) (op := (.call 45 [(.const (.int .i64 25))])) (g := (some (18, true))) (v := (.d (.int .i64 z25))) (ups := []) (j := 7) rfl (by kernel_rfl) (by kernel_rfl) (ev_call (args := [(.d (.int .i64 25))]) (l := [(.d (.int .i64 25))]) (r := (.d (.int .i64 z25))) (by kernel_rfl) (by kernel_rfl) (f45_ok base (d - 1) (dpt hd rfl) 25 z25 hz25) (by kernel_rfl) (by kernel_rfl) (by kernel_rfl)) ?_
    refine zlRun (n := 1) (j := 8) rfl (by kernel_rfl) ?_
    refine bindE hS (fun z26 hz26 hS => ?_)
    refine zlOp (d := some 23) (op := (.call 44 [(.tmp 19), (.tmp 20), (.tmp 22)])) (g := (some (18, true))) (v := (.d (.bool z26))) (ups := []) (j := 9) rfl (by kernel_rfl) (by kernel_rfl) (ev_call (args := [(.d (.int .i64 z22)), (.d (.int .i64 z24)), (.d (.int .i64 (IntKind.i64.wrap (z25 - 1))))]) (l := [(.d (.int .i64 z22)), (.d (.int .i64 z24)), (.d (.int .i64 (IntKind.i64.wrap (z25 - 1))))]) (r := (.d (.bool z26))) (by kernel_rfl) (by kernel_rfl) (f44_ok base (d - 1) (dpt hd rfl) z22 z24 (IntKind.i64.wrap (z25 - 1)) z26 hz26) (by kernel_rfl) (by kernel_rfl) (by kernel_rfl)) ?_
    refine zlRun (n := 2) (j := 11) rfl (by kernel_rfl) ?_
    refine zlEnd (by kernel_rfl) ?_
    refine zkSeq ?_
    refine zrSplit 25 (!z26) (by kernel_rfl) (fun hc => ?_) (fun hc => ?_)
    · replace hS := cond_t hc hS
      refine zrCondT (by kernel_rfl) ?_
      refine zrSeq ?_
      refine zrReg ?_
      refine zlRun (n := 1) (j := 1) rfl (by kernel_rfl) ?_
      refine zlEnd (by kernel_rfl) ?_
      refine zkSeq ?_
      refine zrRet ?_
      refine zkBlkR ?_
      refine zkSeqR ?_
      refine zkNil ?_
      exact endQ hS hQ (finL_x (by intro h; cases h) (by show _ = _ ∧ _ = _; exact ⟨rfl, by kernel_rfl⟩))
    · replace hS := cond_f hc hS
      refine zrCondF (by kernel_rfl) ?_
      refine zrSkip ?_
      refine zkBlk ?_
      refine zkSeq ?_
      refine zrReg ?_
      refine zlRun (n := 2) (j := 2) rfl (by kernel_rfl) ?_
      refine zlEnd (by kernel_rfl) ?_
      refine zkNil ?_
      exact endQ hS hQ (finL_n (by show keepSt _ _ _ _ = _; kernel_rfl))
  · replace hS := cond_f hc hS
    refine zlRun (n := 7) (j := 11) rfl (by kernel_rfl) ?_
    refine zlEnd (by kernel_rfl) ?_
    refine zkSeq ?_
    refine zrCondF (by kernel_rfl) ?_
    refine zrSkip ?_
    refine zkBlk ?_
    refine zkSeq ?_
    refine zrReg ?_
    refine zlRun (n := 2) (j := 2) rfl (by kernel_rfl) ?_
    refine zlEnd (by kernel_rfl) ?_
    refine zkNil ?_
    exact endQ hS hQ (finL_n (by show keepSt _ _ _ _ = _; kernel_rfl))
def f23_l1_j2_J (a1 : GPen) (p16 : Int) (p17 : Bool) : St := ⟨(up (up (up (up (up (fun _ => .un) 12 (.d (.bool p17))) 11 (.d (.int .i64 p16))) 10 (.d (.int .i64 ((([a1.Fore, a1.Back] : List Int).length) : Int)))) 9 (.r (.msl 80 0 0 (([a1.Fore, a1.Back] : List Int).length)))) 1 (.r (.ptr 16 0 0))), (up (up (hB fun _ => 0) 80 ⟨0, some (.own 3 1 ((eInt .i64).cells ([a1.Fore, a1.Back])))⟩) 16 ⟨0, some (.box ((.d (.int .i64 a1.Flags)) :: ((.d (.int .i64 a1.Fore)) :: ((.d (.int .i64 a1.Back)) :: []))))⟩)⟩
noncomputable def f23_l1_j2 (a1 : GPen) (p16 : Int) (p17 : Bool) : Option (Int ⊕ (Unit ⊕ Int)) := (bif p17 then (f23_l1_j3 a1 p16) else (some (.inr (.inl ()))))
theorem f23_l1_j2_ok {base : Orc} {d : Nat} (hd : 2 ≤ d) (a1 : GPen) {r : Int ⊕ (Unit ⊕ Int)} {Q : PX → St → Prop} (hQ : ∀ e st', finL (f23_l1_H a1) (f23_l1_X a1) r e st' → Q e st') (p16 : Int) (p17 : Bool) (hS : f23_l1_j2 a1 p16 p17 = some r) {st : St} (he : keepSt [1, 9, 10, 11, 12] [(16, .id 16), (80, .id 80)] [] st = f23_l1_j2_J a1 p16 p17) : ZR (lev codes base (d - 1)) Q c23_3 [] st := by
  refine zrKeep he ?_
  unfold f23_l1_j2 at hS
  refine zrSeq ?_
  refine zrSplit 12 p17 (by kernel_rfl) (fun hc => ?_) (fun hc => ?_)
  · replace hS := cond_t hc hS
    refine zrCondT (by kernel_rfl) ?_
    refine zrSkip ?_
    refine zkSeq ?_
    exact f23_l1_j3_ok hd a1 hQ p16 hS (by kernel_rfl)
  · replace hS := cond_f hc hS
    refine zrCondF (by kernel_rfl) ?_
    refine zrKeep (J := f23_l1_e0_J a1) (by kernel_rfl) ?_
    refine zrExit ?_
    refine zkSeqX ?_
    refine zkNil ?_
    exact endQ hS hQ (finL_x (by intro h; cases h) (by show _ = _ ∧ _ = _; exact ⟨rfl, rfl⟩))
noncomputable def f23_l1 (a1 : GPen) (x : Int) : Option (Int ⊕ (Unit ⊕ Int)) := (bif (decide (x < ((([a1.Fore, a1.Back] : List Int).length) : Int))) then (f23_l1_j2 a1 x true) else (f23_l1_j2 a1 x false))
theorem f23_l1_ok {base : Orc} {d : Nat} (hd : 2 ≤ d) (a1 : GPen) {r : Int ⊕ (Unit ⊕ Int)} {Q : PX → St → Prop} (hQ : ∀ e st', finL (f23_l1_H a1) (f23_l1_X a1) r e st' → Q e st') {x : Int} (hS : f23_l1 a1 x = some r) {st : St} (he : f23_l1_H a1 x st) : ZR (lev codes base (d - 1)) Q c23_4 [] st := by
  refine zrKeep he ?_
  unfold f23_l1 at hS
  refine zrSeq ?_
  refine zrReg ?_
  refine zlBool (d := 12) (op := (.cmpI .lss (.tmp 11) (.tmp 10))) (g := none) (j := 1) (decide (x < ((([a1.Fore, a1.Back] : List Int).length) : Int))) rfl (by kernel_rfl) (by kernel_rfl) (by kernel_rfl) (fun hc => ?_) (fun hc => ?_)
  · replace hS := cond_t hc hS
    refine zlEnd (by kernel_rfl) ?_
    refine zkSeq ?_
    exact f23_l1_j2_ok hd a1 hQ x true hS (by kernel_rfl)
  · replace hS := cond_f hc hS
    refine zlEnd (by kernel_rfl) ?_
    refine zkSeq ?_
    exact f23_l1_j2_ok hd a1 hQ x false hS (by kernel_rfl)
noncomputable def f23 (a1 : GPen) : Option (Int) := ((loopO (f23_l1 a1) 0).bind fun z27 => (Sum.elim (fun z28 => (f23_j0 a1 )) (fun z29 => (some z29)) z27))
theorem f23_ok (base : Orc) (d : Nat) (hd : 2 ≤ d) (a1 : GPen) (r : Int) (hS : f23 a1 = some r) : lev codes base d 23 [(.agg ((.d (.int .i64 a1.Flags)) :: ((.d (.int .i64 a1.Fore)) :: ((.d (.int .i64 a1.Back)) :: []))))] [] = some ((.d (.int .i64 r)), []) := by
  refine lev_go codes23 rfl rfl (Nat.le_trans (Nat.le_of_ble_eq_true rfl) hd) fun Q hQ => ?_
  unfold f23 at hS
  show ZR _ Q c23_b [] _
  replace hQ : ∀ e st', f23_Q r e st' → Q e st' := hQ
  refine zrSeq ?_
  refine zrReg ?_
  refine zlRun (n := 2) (j := 2) rfl (by kernel_rfl) ?_
  refine zlEnd (by kernel_rfl) ?_
  refine zkSeq ?_
  refine zrSeq ?_
  refine zrSeq ?_
  refine zrReg ?_
  refine zlRun (n := 7) (j := 7) rfl (by kernel_rfl) ?_
  refine zlEnd (by kernel_rfl) ?_
  refine zkSeq ?_
  refine zrBlk ?_
  refine bindE hS (fun z27 hz27 hS => ?_)
  refine zrLoop (f23_l1_H a1) (f23_l1_X a1) (fun x st r Q h0 hS hQ => f23_l1_ok hd a1 hQ hS h0) (x := 0) (z := z27) (by show keepSt _ _ _ _ = _; kernel_rfl) hz27 ?_
  rcases z27 with z28 | z29
  · replace hS := (show _ = _ from hS)
    simp only [Sum.elim_inl] at hS
    intro e st' _ hX
    obtain ⟨rfl, rfl⟩ : _ ∧ _ := hX
    refine zkBlkX ?_
    refine zkSeq ?_
    exact f23_j0_ok hd a1 hQ  hS (by kernel_rfl)
  · simp only [Sum.elim_inr] at hS
    intro e st' _ hX
    obtain ⟨rfl, hX⟩ : _ ∧ _ := hX
    refine zkBlkR ?_
    refine zkSeqR ?_
    refine zkNil ?_
    exact endQ hS hQ (fRet (by kernel_rfl) ((congrArg (fun s => outR s 0 c23.res) hX).trans (f23_out z29)))
/- farwriter/farkeep.GridBack -/
def f6_fin (p574 : Bool) : St := ⟨(up (fun _ => .un) 8 (.d (.bool p574))), (hB fun _ => 0)⟩
theorem f6_out (p574 : Bool) : outR (f6_fin p574) 0 c6.res = some ((.d (.bool p574)), []) := by
  kernel_rfl
def f6_Q (r : Bool) (e : PX) (st : St) : Prop := DoneF c6 0 ((.d (.bool r)), []) e st
def f6_l3_J (a1 : GGrid) (a2 : Int) (a3 : Int) (a4 : GPen) (x : Bool × Int × Int × (List GCell) × Int × Int × (List GCell) × Int) : St := ⟨(up (up (up (up (up (up (up (up (fun _ => .un) 115 (.d (.int .i64 x.2.2.2.2.2.2.2))) 114 (.d (.int .i64 (a1.Cells.length : Int)))) 16 (.r (.ptr 136 0 0))) 12 (.r (.ptr 104 0 0))) 9 (.d (.bool x.1))) 4 (.r (.ptr 40 0 0))) 2 (.d (.int .i64 a3))) 1 (.d (.int .i64 a2))), (up (up (up (up (up (hB fun _ => 0) 712 ⟨0, some (.own 33 4 (e_GCell.cells x.2.2.2.2.2.2.1))⟩) 136 ⟨0, some (.box ((.d (.int .i64 x.2.2.2.2.1)) :: ((.d (.int .i64 x.2.2.2.2.2.1)) :: ((.r (.msl 712 0 0 x.2.2.2.2.2.2.1.length)) :: []))))⟩) 560 ⟨0, some (.own 33 4 (e_GCell.cells x.2.2.2.1))⟩) 104 ⟨0, some (.box ((.d (.int .i64 x.2.1)) :: ((.d (.int .i64 x.2.2.1)) :: ((.r (.msl 560 0 0 x.2.2.2.1.length)) :: []))))⟩) 40 ⟨0, some (.box ((.d (.int .i64 a1.Wide)) :: ((.d (.int .i64 a1.High)) :: ((.d (.sl a1.Cells.length (e_GCell.cells a1.Cells))) :: []))))⟩)⟩
def f6_l3_H (a1 : GGrid) (a2 : Int) (a3 : Int) (a4 : GPen) (x : Bool × Int × Int × (List GCell) × Int × Int × (List GCell) × Int) (st : St) : Prop := keepSt [1, 2, 4, 9, 12, 16, 114, 115] [(40, .id 40), (104, .id 104), (560, .id 560), (136, .id 136), (712, .id 712)] [] st = f6_l3_J a1 a2 a3 a4 x
def f6_l3_e0_J (a1 : GGrid) (a2 : Int) (a3 : Int) (a4 : GPen) : St := ⟨(fun _ => .un), (hB fun _ => 0)⟩
def f6_l3_X (a1 : GGrid) (a2 : Int) (a3 : Int) (a4 : GPen) (z : Unit ⊕ Bool) (e : PX) (st : St) : Prop := (match z with | .inl z => e = .exit 0 ∧ st = f6_l3_e0_J a1 a2 a3 a4 | .inr z => e = .ret ∧ finSt c6.fin st = f6_fin z)
def f6_l3_j5_J (a1 : GGrid) (a2 : Int) (a3 : Int) (a4 : GPen) (p1183 : Bool) (p1184 : Int) (p1185 : Int) (p1186 : List GCell) (p1187 : Int) (p1188 : Int) (p1189 : List GCell) (p1190 : Int) : St := ⟨(up (up (up (up (up (up (up (up (fun _ => .un) 115 (.d (.int .i64 p1190))) 114 (.d (.int .i64 (a1.Cells.length : Int)))) 16 (.r (.ptr 136 0 0))) 12 (.r (.ptr 104 0 0))) 9 (.d (.bool p1183))) 4 (.r (.ptr 40 0 0))) 2 (.d (.int .i64 a3))) 1 (.d (.int .i64 a2))), (up (up (up (up (up (hB fun _ => 0) 712 ⟨0, some (.own 33 4 (e_GCell.cells p1189))⟩) 136 ⟨0, some (.box ((.d (.int .i64 p1187)) :: ((.d (.int .i64 p1188)) :: ((.r (.msl 712 0 0 p1189.length)) :: []))))⟩) 560 ⟨0, some (.own 33 4 (e_GCell.cells p1186))⟩) 104 ⟨0, some (.box ((.d (.int .i64 p1184)) :: ((.d (.int .i64 p1185)) :: ((.r (.msl 560 0 0 p1186.length)) :: []))))⟩) 40 ⟨0, some (.box ((.d (.int .i64 a1.Wide)) :: ((.d (.int .i64 a1.High)) :: ((.d (.sl a1.Cells.length (e_GCell.cells a1.Cells))) :: []))))⟩)⟩
noncomputable def f6_l3_j5 (a1 : GGrid) (a2 : Int) (a3 : Int) (a4 : GPen) (p1183 : Bool) (p1184 : Int) (p1185 : Int) (p1186 : List GCell) (p1187 : Int) (p1188 : Int) (p1189 : List GCell) (p1190 : Int) : Option ((Bool × Int × Int × (List GCell) × Int × Int × (List GCell) × Int) ⊕ (Unit ⊕ Bool)) := ((chk (!decide (a1.Wide = 0))).bind fun z121 => ((chk (!decide (a1.Wide = 0))).bind fun z122 => (bif p1183 then (bif (decide ((IntKind.i64.wrap (Int.tdiv p1190 a1.Wide)) = a2)) then (bif (decide ((Int.tmod p1190 a1.Wide) < (IntKind.i64.wrap (a1.Wide - a3)))) then ((inR p1190 p1186.length).bind fun m123 => ((p1186[m123]?).bind fun z124 => ((idx a1.Cells p1190).bind fun z125 => (bif (!(decide (z124.Rune = z125.Rune) && (decide (z124.Pen.Flags = z125.Pen.Flags) && (decide (z124.Pen.Fore = z125.Pen.Fore) && (decide (z124.Pen.Back = z125.Pen.Back) && true))))) then (some (.inr (.inr false))) else (bif (decide (a3 ≤ (IntKind.i64.wrap (Int.tdiv p1190 a1.Wide)))) then ((inR p1190 p1189.length).bind fun m126 => ((p1189[m126]?).bind fun z127 => ((idx a1.Cells p1190).bind fun z128 => (bif (!(decide (z127.Rune = z128.Rune) && (decide (z127.Pen.Flags = z128.Pen.Flags) && (decide (z127.Pen.Fore = z128.Pen.Fore) && (decide (z127.Pen.Back = z128.Pen.Back) && true))))) then (some (.inr (.inr false))) else (some (.inl (p1183, p1184, p1185, p1186, p1187, p1188, p1189, (IntKind.i64.wrap (p1190 + 1))))))))) else (some (.inl (p1183, p1184, p1185, p1186, p1187, p1188, p1189, (IntKind.i64.wrap (p1190 + 1)))))))))) else (bif (decide (a3 ≤ (IntKind.i64.wrap (Int.tdiv p1190 a1.Wide)))) then ((inR p1190 p1189.length).bind fun m129 => ((p1189[m129]?).bind fun z130 => ((idx a1.Cells p1190).bind fun z131 => (bif (!(decide (z130.Rune = z131.Rune) && (decide (z130.Pen.Flags = z131.Pen.Flags) && (decide (z130.Pen.Fore = z131.Pen.Fore) && (decide (z130.Pen.Back = z131.Pen.Back) && true))))) then (some (.inr (.inr false))) else (some (.inl (p1183, p1184, p1185, p1186, p1187, p1188, p1189, (IntKind.i64.wrap (p1190 + 1))))))))) else (some (.inl (p1183, p1184, p1185, p1186, p1187, p1188, p1189, (IntKind.i64.wrap (p1190 + 1))))))) else (bif (decide (a3 ≤ (IntKind.i64.wrap (Int.tdiv p1190 a1.Wide)))) then ((inR p1190 p1189.length).bind fun m132 => ((p1189[m132]?).bind fun z133 => ((idx a1.Cells p1190).bind fun z134 => (bif (!(decide (z133.Rune = z134.Rune) && (decide (z133.Pen.Flags = z134.Pen.Flags) && (decide (z133.Pen.Fore = z134.Pen.Fore) && (decide (z133.Pen.Back = z134.Pen.Back) && true))))) then (some (.inr (.inr false))) else (some (.inl (p1183, p1184, p1185, p1186, p1187, p1188, p1189, (IntKind.i64.wrap (p1190 + 1))))))))) else (some (.inl (p1183, p1184, p1185, p1186, p1187, p1188, p1189, (IntKind.i64.wrap (p1190 + 1))))))) else (bif (decide (a3 ≤ (IntKind.i64.wrap (Int.tdiv p1190 a1.Wide)))) then ((inR p1190 p1189.length).bind fun m135 => ((p1189[m135]?).bind fun z136 => ((idx a1.Cells p1190).bind fun z137 => (bif (!(decide (z136.Rune = z137.Rune) && (decide (z136.Pen.Flags = z137.Pen.Flags) && (decide (z136.Pen.Fore = z137.Pen.Fore) && (decide (z136.Pen.Back = z137.Pen.Back) && true))))) then (some (.inr (.inr false))) else (some (.inl (p1183, p1184, p1185, p1186, p1187, p1188, p1189, (IntKind.i64.wrap (p1190 + 1))))))))) else (some (.inl (p1183, p1184, p1185, p1186, p1187, p1188, p1189, (IntKind.i64.wrap (p1190 + 1)))))))))
theorem f6_l3_j5_ok {base : Orc} {d : Nat} (hd : 9 ≤ d) (a1 : GGrid) (a2 : Int) (a3 : Int) (a4 : GPen) {r : (Bool × Int × Int × (List GCell) × Int × Int × (List GCell) × Int) ⊕ (Unit ⊕ Bool)} {Q : PX → St → Prop} (hQ : ∀ e st', finL (f6_l3_H a1 a2 a3 a4) (f6_l3_X a1 a2 a3 a4) r e st' → Q e st') (p1183 : Bool) (p1184 : Int) (p1185 : Int) (p1186 : List GCell) (p1187 : Int) (p1188 : Int) (p1189 : List GCell) (p1190 : Int) (hS : f6_l3_j5 a1 a2 a3 a4 p1183 p1184 p1185 p1186 p1187 p1188 p1189 p1190 = some r) {st : St} (he : keepSt [1, 2, 4, 9, 12, 16, 114, 115] [(40, .id 40), (104, .id 104), (560, .id 560), (136, .id 136), (712, .id 712)] [] st = f6_l3_j5_J a1 a2 a3 a4 p1183 p1184 p1185 p1186 p1187 p1188 p1189 p1190) : ZR (lev codes base (d - 1)) Q c6_1 [] st := by
  refine zrKeep he ?_
  unfold f6_l3_j5 at hS
  refine zrSeq ?_
  refine zrBlk ?_
  refine zrSeq ?_
  refine zrReg ?_
  refine zlRun (n := 2) (j := 2) rfl (by kernel_rfl) ?_
  refine zlEnd (by kernel_rfl) ?_
  refine zkSeq ?_
  refine zrSeq ?_
  refine zrRegD ?_
  refine zdRun (n := 3) (j := 3) (ts := [[], [], [(40, false)]]) (acc' := [[], [], [(40, false)]]) rfl (by kernel_rfl) (by kernel_rfl) (by kernel_rfl) ?_
  refine bindE hS (fun z121 hz121 hS => ?_)
  refine zdOp (d := some 121) (op := (.arI .quo (.tmp 118) (.tmp 120))) (g := none) (v := (.d (.int .i64 (IntKind.i64.wrap (Int.tdiv p1190 a1.Wide))))) (ups := []) (j := 4) (t1 := []) (acc' := [[], [], [(40, false)], []]) (by kernel_rfl) (by kernel_rfl) rfl (by kernel_rfl) (by kernel_rfl) (ev_arI (kk := .i64) (a := p1190) (c := a1.Wide) (by kernel_rfl) (by kernel_rfl) (div_ok hz121)) ?_
  refine zdRun (n := 3) (j := 7) (ts := [[], [], [(40, false)]]) (acc' := [[], [], [(40, false)], [], [], [], [(40, false)]]) rfl (by kernel_rfl) (by kernel_rfl) (by kernel_rfl) ?_
  refine bindE hS (fun z122 hz122 hS => ?_)
  refine zdOp (d := some 125) (op := (.arI .rem (.tmp 122) (.tmp 124))) (g := none) (v := (.d (.int .i64 (Int.tmod p1190 a1.Wide)))) (ups := []) (j := 8) (t1 := []) (acc' := [[], [], [(40, false)], [], [], [], [(40, false)], []]) (by kernel_rfl) (by kernel_rfl) rfl (by kernel_rfl) (by kernel_rfl) (ev_arI (kk := .i64) (a := p1190) (c := a1.Wide) (by kernel_rfl) (by kernel_rfl) (rem_ok hz122)) ?_
  refine zdRun (n := 2) (j := 10) (ts := [[], []]) (acc' := [[], [], [(40, false)], [], [], [], [(40, false)], [], [], []]) rfl (by kernel_rfl) (by kernel_rfl) (by kernel_rfl) ?_
  refine zdEnd (by kernel_rfl) (by kernel_rfl) ?_
  refine zkSeq ?_
  refine zrSeq ?_
  refine zrRegD ?_
  refine zdRun (n := 2) (j := 2) (ts := [[], []]) (acc' := [[], []]) rfl (by kernel_rfl) (by kernel_rfl) (by kernel_rfl) ?_
  refine zdSplit 127 p1183 (by kernel_rfl) (fun hc => ?_) (fun hc => ?_)
  · replace hS := cond_t hc hS
    refine zdRun (n := 2) (j := 4) (ts := [[], []]) (acc' := [[], [], [], []]) rfl (by kernel_rfl) (by kernel_rfl) (by kernel_rfl) ?_
    refine zdBool (d := 130) (op := (.cmpI .eql (.tmp 128) (.tmp 129))) (g := (some (127, true))) (j := 5) (t1 := []) (acc' := [[], [], [], [], []]) (decide ((IntKind.i64.wrap (Int.tdiv p1190 a1.Wide)) = a2)) (by kernel_rfl) (by kernel_rfl) rfl (by kernel_rfl) (by kernel_rfl) (by kernel_rfl) (fun hc => ?_) (fun hc => ?_)
    · replace hS := cond_t hc hS
      refine zdRun (n := 7) (j := 12) (ts := [[], [], [], [], [(40, false)], [], []]) (acc' := [[], [], [], [], [], [], [], [], [], [(40, false)], [], []]) rfl (by kernel_rfl) (by kernel_rfl) (by kernel_rfl) ?_
      refine zdBool (d := 138) (op := (.cmpI .lss (.tmp 133) (.tmp 137))) (g := (some (132, true))) (j := 13) (t1 := []) (acc' := [[], [], [], [], [], [], [], [], [], [(40, false)], [], [], []]) (decide ((Int.tmod p1190 a1.Wide) < (IntKind.i64.wrap (a1.Wide - a3)))) (by kernel_rfl) (by kernel_rfl) rfl (by kernel_rfl) (by kernel_rfl) (by kernel_rfl) (fun hc => ?_) (fun hc => ?_)
      · replace hS := cond_t hc hS
        refine zdRun (n := 5) (j := 18) (ts := [[], [], [], [(104, false)], []]) (acc' := [[], [], [], [], [], [], [], [], [], [(40, false)], [], [], [], [], [], [], [(104, false)], []]) rfl (by kernel_rfl) (by kernel_rfl) (by kernel_rfl) ?_
        refine bindE hS (fun m123 hm123 hS => ?_)
        refine zdOp (d := some 144) (op := (.ixS 33 4 (.tmp 142) (.tmp 143))) (g := (some (140, true))) (v := (.r (.ptr 560 0 ((0 + m123) * 4)))) (ups := []) (j := 19) (t1 := [(560, false)]) (acc' := [[], [], [], [], [], [], [], [], [], [(40, false)], [], [], [], [], [], [], [(104, false)], [], [(560, false)]]) (by kernel_rfl) (by kernel_rfl) rfl (by kernel_rfl) (by kernel_rfl) (ev_ixM (kk := .i64) (b := 560) (g := 0) (l := 0) (n := p1186.length) (j := p1190) (cs := e_GCell.cells p1186) (by kernel_rfl) (by kernel_rfl) (by kernel_rfl) hm123) ?_
        refine bindE hS (fun z124 hz124 hS => ?_)
        refine zdOp (d := some 145) (op := (.load .true 4 (.tmp 144))) (g := (some (140, true))) (v := (.agg ((.d (.int .i64 z124.Rune)) :: ((.d (.int .i64 z124.Pen.Flags)) :: ((.d (.int .i64 z124.Pen.Fore)) :: ((.d (.int .i64 z124.Pen.Back)) :: [])))))) (ups := []) (j := 20) (t1 := [(560, false)]) (acc' := [[], [], [], [], [], [], [], [], [], [(40, false)], [], [], [], [], [], [], [(104, false)], [], [(560, false)], [(560, false)]]) (by kernel_rfl) (by kernel_rfl) rfl (by kernel_rfl) (by kernel_rfl) (ev_loadM e_GCell (b := 560) (g := 0) (o := (0 + m123) * 4) (e := 33) (k := 4) (m := m123) (fo := 0) (xs := p1186) (by kernel_rfl) (by kernel_rfl) (by rw [Nat.zero_add]; rfl) hz124 (by kernel_rfl) (by kernel_rfl) (by kernel_rfl)) ?_
        refine zdRun (n := 3) (j := 23) (ts := [[], [(40, false)], []]) (acc' := [[], [], [], [], [], [], [], [], [], [(40, false)], [], [], [], [], [], [], [(104, false)], [], [(560, false)], [(560, false)], [], [(40, false)], []]) rfl (by kernel_rfl) (by kernel_rfl) (by kernel_rfl) ?_
        refine bindE hS (fun z125 hz125 hS => ?_)
        refine zdOp (d := some 149) (op := (.ixS 33 4 (.tmp 147) (.tmp 148))) (g := (some (140, true))) (v := (.rptr (e_GCell.enc z125 ++ (e_GCell.cells (a1.Cells.drop ((p1190 : Int).toNat + 1)))))) (ups := []) (j := 24) (t1 := []) (acc' := [[], [], [], [], [], [], [], [], [], [(40, false)], [], [], [], [], [], [], [(104, false)], [], [(560, false)], [(560, false)], [], [(40, false)], [], []]) (by kernel_rfl) (by kernel_rfl) rfl (by kernel_rfl) (by kernel_rfl) (ev_ixS e_GCell (kk := .i64) (xs := a1.Cells) (j := p1190) (by kernel_rfl) (by kernel_rfl) hz125 rfl (by intro h; cases h)) ?_
        refine zdRun (n := 1) (j := 25) (ts := [[]]) (acc' := [[], [], [], [], [], [], [], [], [], [(40, false)], [], [], [], [], [], [], [(104, false)], [], [(560, false)], [(560, false)], [], [(40, false)], [], [], []]) rfl (by kernel_rfl) (by kernel_rfl) (by kernel_rfl) ?_
        refine zdBool (d := 151) (op := (.eqA .true [(4, .int)] (.tmp 145) (.tmp 150))) (g := (some (140, true))) (j := 26) (t1 := []) (acc' := [[], [], [], [], [], [], [], [], [], [(40, false)], [], [], [], [], [], [], [(104, false)], [], [(560, false)], [(560, false)], [], [(40, false)], [], [], [], []]) (!(decide (z124.Rune = z125.Rune) && (decide (z124.Pen.Flags = z125.Pen.Flags) && (decide (z124.Pen.Fore = z125.Pen.Fore) && (decide (z124.Pen.Back = z125.Pen.Back) && true))))) (by kernel_rfl) (by kernel_rfl) rfl (by kernel_rfl) (by kernel_rfl) (by kernel_rfl) (fun hc => ?_) (fun hc => ?_)
        · replace hS := cond_t hc hS
          refine zdRun (n := 19) (j := 45) (ts := [[], [], [], [], [], [], [], [], [], [], [], [], [], [], [], [], [], [], []]) (acc' := [[], [], [], [], [], [], [], [], [], [(40, false)], [], [], [], [], [], [], [(104, false)], [], [(560, false)], [(560, false)], [], [(40, false)], [], [], [], [], [], [], [], [], [], [], [], [], [], [], [], [], [], [], [], [], [], [], []]) rfl (by kernel_rfl) (by kernel_rfl) (by kernel_rfl) ?_
          refine zdEnd (by kernel_rfl) (by kernel_rfl) ?_
          refine zkSeq ?_
          refine zrCondT (by kernel_rfl) ?_
          refine zrSeq ?_
          refine zrReg ?_
          refine zlRun (n := 1) (j := 1) rfl (by kernel_rfl) ?_
          refine zlEnd (by kernel_rfl) ?_
          refine zkSeq ?_
          refine zrRet ?_
          refine zkBlkR ?_
          refine zkSeqR ?_
          refine zkNil ?_
          exact endQ hS hQ (finL_x (by intro h; cases h) (by show _ = _ ∧ _ = _; exact ⟨rfl, by kernel_rfl⟩))
        · replace hS := cond_f hc hS
          refine zdRun (n := 4) (j := 30) (ts := [[], [], [], []]) (acc' := [[], [], [], [], [], [], [], [], [], [(40, false)], [], [], [], [], [], [], [(104, false)], [], [(560, false)], [(560, false)], [], [(40, false)], [], [], [], [], [], [], [], []]) rfl (by kernel_rfl) (by kernel_rfl) (by kernel_rfl) ?_
          refine zdBool (d := 156) (op := (.cmpI .geq (.tmp 154) (.tmp 155))) (g := (some (153, false))) (j := 31) (t1 := []) (acc' := [[], [], [], [], [], [], [], [], [], [(40, false)], [], [], [], [], [], [], [(104, false)], [], [(560, false)], [(560, false)], [], [(40, false)], [], [], [], [], [], [], [], [], []]) (decide (a3 ≤ (IntKind.i64.wrap (Int.tdiv p1190 a1.Wide)))) (by kernel_rfl) (by kernel_rfl) rfl (by kernel_rfl) (by kernel_rfl) (by kernel_rfl) (fun hc => ?_) (fun hc => ?_)
          · replace hS := cond_t hc hS
            refine zdRun (n := 4) (j := 35) (ts := [[], [], [(136, false)], []]) (acc' := [[], [], [], [], [], [], [], [], [], [(40, false)], [], [], [], [], [], [], [(104, false)], [], [(560, false)], [(560, false)], [], [(40, false)], [], [], [], [], [], [], [], [], [], [], [], [(136, false)], []]) rfl (by kernel_rfl) (by kernel_rfl) (by kernel_rfl) ?_
            refine bindE hS (fun m126 hm126 hS => ?_)
            refine zdOp (d := some 161) (op := (.ixS 33 4 (.tmp 159) (.tmp 160))) (g := (some (157, true))) (v := (.r (.ptr 712 0 ((0 + m126) * 4)))) (ups := []) (j := 36) (t1 := [(712, false)]) (acc' := [[], [], [], [], [], [], [], [], [], [(40, false)], [], [], [], [], [], [], [(104, false)], [], [(560, false)], [(560, false)], [], [(40, false)], [], [], [], [], [], [], [], [], [], [], [], [(136, false)], [], [(712, false)]]) (by kernel_rfl) (by kernel_rfl) rfl (by kernel_rfl) (by kernel_rfl) (ev_ixM (kk := .i64) (b := 712) (g := 0) (l := 0) (n := p1189.length) (j := p1190) (cs := e_GCell.cells p1189) (by kernel_rfl) (by kernel_rfl) (by kernel_rfl) hm126) ?_
            refine bindE hS (fun z127 hz127 hS => ?_)
            refine zdOp (d := some 162) (op := (.load .true 4 (.tmp 161))) (g := (some (157, true))) (v := (.agg ((.d (.int .i64 z127.Rune)) :: ((.d (.int .i64 z127.Pen.Flags)) :: ((.d (.int .i64 z127.Pen.Fore)) :: ((.d (.int .i64 z127.Pen.Back)) :: [])))))) (ups := []) (j := 37) (t1 := [(712, false)]) (acc' := [[], [], [], [], [], [], [], [], [], [(40, false)], [], [], [], [], [], [], [(104, false)], [], [(560, false)], [(560, false)], [], [(40, false)], [], [], [], [], [], [], [], [], [], [], [], [(136, false)], [], [(712, false)], [(712, false)]]) (by kernel_rfl) (by kernel_rfl) rfl (by kernel_rfl) (by kernel_rfl) (ev_loadM e_GCell (b := 712) (g := 0) (o := (0 + m126) * 4) (e := 33) (k := 4) (m := m126) (fo := 0) (xs := p1189) (by kernel_rfl) (by kernel_rfl) (by rw [Nat.zero_add]; rfl) hz127 (by kernel_rfl) (by kernel_rfl) (by kernel_rfl)) ?_
            refine zdRun (n := 3) (j := 40) (ts := [[], [(40, false)], []]) (acc' := [[], [], [], [], [], [], [], [], [], [(40, false)], [], [], [], [], [], [], [(104, false)], [], [(560, false)], [(560, false)], [], [(40, false)], [], [], [], [], [], [], [], [], [], [], [], [(136, false)], [], [(712, false)], [(712, false)], [], [(40, false)], []]) rfl (by kernel_rfl) (by kernel_rfl) (by kernel_rfl) ?_
            refine bindE hS (fun z128 hz128 hS => ?_)
            refine zdOp (d := some 166) (op := (.ixS 33 4 (.tmp 164) (.tmp 165))) (g := (some (157, true))) (v := (.rptr (e_GCell.enc z128 ++ (e_GCell.cells (a1.Cells.drop ((p1190 : Int).toNat + 1)))))) (ups := []) (j := 41) (t1 := []) (acc' := [[], [], [], [], [], [], [], [], [], [(40, false)], [], [], [], [], [], [], [(104, false)], [], [(560, false)], [(560, false)], [], [(40, false)], [], [], [], [], [], [], [], [], [], [], [], [(136, false)], [], [(712, false)], [(712, false)], [], [(40, false)], [], []]) (by kernel_rfl) (by kernel_rfl) rfl (by kernel_rfl) (by kernel_rfl) (ev_ixS e_GCell (kk := .i64) (xs := a1.Cells) (j := p1190) (by kernel_rfl) (by kernel_rfl) hz128 rfl (by intro h; cases h)) ?_
            refine zdRun (n := 1) (j := 42) (ts := [[]]) (acc' := [[], [], [], [], [], [], [], [], [], [(40, false)], [], [], [], [], [], [], [(104, false)], [], [(560, false)], [(560, false)], [], [(40, false)], [], [], [], [], [], [], [], [], [], [], [], [(136, false)], [], [(712, false)], [(712, false)], [], [(40, false)], [], [], []]) rfl (by kernel_rfl) (by kernel_rfl) (by kernel_rfl) ?_
            refine zdBool (d := 168) (op := (.eqA .true [(4, .int)] (.tmp 162) (.tmp 167))) (g := (some (157, true))) (j := 43) (t1 := []) (acc' := [[], [], [], [], [], [], [], [], [], [(40, false)], [], [], [], [], [], [], [(104, false)], [], [(560, false)], [(560, false)], [], [(40, false)], [], [], [], [], [], [], [], [], [], [], [], [(136, false)], [], [(712, false)], [(712, false)], [], [(40, false)], [], [], [], []]) (!(decide (z127.Rune = z128.Rune) && (decide (z127.Pen.Flags = z128.Pen.Flags) && (decide (z127.Pen.Fore = z128.Pen.Fore) && (decide (z127.Pen.Back = z128.Pen.Back) && true))))) (by kernel_rfl) (by kernel_rfl) rfl (by kernel_rfl) (by kernel_rfl) (by kernel_rfl) (fun hc => ?_) (fun hc => ?_)
            · replace hS := cond_t hc hS
              refine zdRun (n := 2) (j := 45) (ts := [[], []]) (acc' := [[], [], [], [], [], [], [], [], [], [(40, false)], [], [], [], [], [], [], [(104, false)], [], [(560, false)], [(560, false)], [], [(40, false)], [], [], [], [], [], [], [], [], [], [], [], [(136, false)], [], [(712, false)], [(712, false)], [], [(40, false)], [], [], [], [], [], []]) rfl (by kernel_rfl) (by kernel_rfl) (by kernel_rfl) ?_
              refine zdEnd (by kernel_rfl) (by kernel_rfl) ?_
              refine zkSeq ?_
              refine zrCondT (by kernel_rfl) ?_
              refine zrSeq ?_
              refine zrReg ?_
              refine zlRun (n := 1) (j := 1) rfl (by kernel_rfl) ?_
              refine zlEnd (by kernel_rfl) ?_
              refine zkSeq ?_
              refine zrRet ?_
              refine zkBlkR ?_
              refine zkSeqR ?_
              refine zkNil ?_
              exact endQ hS hQ (finL_x (by intro h; cases h) (by show _ = _ ∧ _ = _; exact ⟨rfl, by kernel_rfl⟩))
            · replace hS := cond_f hc hS
              refine zdRun (n := 2) (j := 45) (ts := [[], []]) (acc' := [[], [], [], [], [], [], [], [], [], [(40, false)], [], [], [], [], [], [], [(104, false)], [], [(560, false)], [(560, false)], [], [(40, false)], [], [], [], [], [], [], [], [], [], [], [], [(136, false)], [], [(712, false)], [(712, false)], [], [(40, false)], [], [], [], [], [], []]) rfl (by kernel_rfl) (by kernel_rfl) (by kernel_rfl) ?_
              refine zdEnd (by kernel_rfl) (by kernel_rfl) ?_
              refine zkSeq ?_
              refine zrCondF (by kernel_rfl) ?_
              refine zrSkip ?_
              refine zkBlk ?_
              refine zkSeq ?_
              refine zrReg ?_
              refine zlRun (n := 2) (j := 2) rfl (by kernel_rfl) ?_
              refine zlEnd (by kernel_rfl) ?_
              refine zkNil ?_
              exact endQ hS hQ (finL_n (by show keepSt _ _ _ _ = _; kernel_rfl))
          · replace hS := cond_f hc hS
            refine zdRun (n := 14) (j := 45) (ts := [[], [], [], [], [], [], [], [], [], [], [], [], [], []]) (acc' := [[], [], [], [], [], [], [], [], [], [(40, false)], [], [], [], [], [], [], [(104, false)], [], [(560, false)], [(560, false)], [], [(40, false)], [], [], [], [], [], [], [], [], [], [], [], [], [], [], [], [], [], [], [], [], [], [], []]) rfl (by kernel_rfl) (by kernel_rfl) (by kernel_rfl) ?_
            refine zdEnd (by kernel_rfl) (by kernel_rfl) ?_
            refine zkSeq ?_
            refine zrCondF (by kernel_rfl) ?_
            refine zrSkip ?_
            refine zkBlk ?_
            refine zkSeq ?_
            refine zrReg ?_
            refine zlRun (n := 2) (j := 2) rfl (by kernel_rfl) ?_
            refine zlEnd (by kernel_rfl) ?_
            refine zkNil ?_
            exact endQ hS hQ (finL_n (by show keepSt _ _ _ _ = _; kernel_rfl))
      · replace hS := cond_f hc hS
        refine zdRun (n := 17) (j := 30) (ts := [[], [], [], [], [], [], [], [], [], [], [], [], [], [], [], [], []]) (acc' := [[], [], [], [], [], [], [], [], [], [(40, false)], [], [], [], [], [], [], [], [], [], [], [], [], [], [], [], [], [], [], [], []]) rfl (by kernel_rfl) (by kernel_rfl) (by kernel_rfl) ?_
        refine zdBool (d := 156) (op := (.cmpI .geq (.tmp 154) (.tmp 155))) (g := (some (153, false))) (j := 31) (t1 := []) (acc' := [[], [], [], [], [], [], [], [], [], [(40, false)], [], [], [], [], [], [], [], [], [], [], [], [], [], [], [], [], [], [], [], [], []]) (decide (a3 ≤ (IntKind.i64.wrap (Int.tdiv p1190 a1.Wide)))) (by kernel_rfl) (by kernel_rfl) rfl (by kernel_rfl) (by kernel_rfl) (by kernel_rfl) (fun hc => ?_) (fun hc => ?_)
        · replace hS := cond_t hc hS
          refine zdRun (n := 4) (j := 35) (ts := [[], [], [(136, false)], []]) (acc' := [[], [], [], [], [], [], [], [], [], [(40, false)], [], [], [], [], [], [], [], [], [], [], [], [], [], [], [], [], [], [], [], [], [], [], [], [(136, false)], []]) rfl (by kernel_rfl) (by kernel_rfl) (by kernel_rfl) ?_
          refine bindE hS (fun m129 hm129 hS => ?_)
          refine zdOp (d := some 161) (op := (.ixS 33 4 (.tmp 159) (.tmp 160))) (g := (some (157, true))) (v := (.r (.ptr 712 0 ((0 + m129) * 4)))) (ups := []) (j := 36) (t1 := [(712, false)]) (acc' := [[], [], [], [], [], [], [], [], [], [(40, false)], [], [], [], [], [], [], [], [], [], [], [], [], [], [], [], [], [], [], [], [], [], [], [], [(136, false)], [], [(712, false)]]) (by kernel_rfl) (by kernel_rfl) rfl (by kernel_rfl) (by kernel_rfl) (ev_ixM (kk := .i64) (b := 712) (g := 0) (l := 0) (n := p1189.length) (j := p1190) (cs := e_GCell.cells p1189) (by kernel_rfl) (by kernel_rfl) (by kernel_rfl) hm129) ?_
          refine bindE hS (fun z130 hz130 hS => ?_)
          refine zdOp (d := some 162) (op := (.load .true 4 (.tmp 161))) (g := (some (157, true))) (v := (.agg ((.d (.int .i64 z130.Rune)) :: ((.d (.int .i64 z130.Pen.Flags)) :: ((.d (.int .i64 z130.Pen.Fore)) :: ((.d (.int .i64 z130.Pen.Back)) :: [])))))) (ups := []) (j := 37) (t1 := [(712, false)]) (acc' := [[], [], [], [], [], [], [], [], [], [(40, false)], [], [], [], [], [], [], [], [], [], [], [], [], [], [], [], [], [], [], [], [], [], [], [], [(136, false)], [], [(712, false)], [(712, false)]]) (by kernel_rfl) (by kernel_rfl) rfl (by kernel_rfl) (by kernel_rfl) (ev_loadM e_GCell (b := 712) (g := 0) (o := (0 + m129) * 4) (e := 33) (k := 4) (m := m129) (fo := 0) (xs := p1189) (by kernel_rfl) (by kernel_rfl) (by rw [Nat.zero_add]; rfl) hz130 (by kernel_rfl) (by kernel_rfl) (by kernel_rfl)) ?_
          refine zdRun (n := 3) (j := 40) (ts := [[], [(40, false)], []]) (acc' := [[], [], [], [], [], [], [], [], [], [(40, false)], [], [], [], [], [], [], [], [], [], [], [], [], [], [], [], [], [], [], [], [], [], [], [], [(136, false)], [], [(712, false)], [(712, false)], [], [(40, false)], []]) rfl (by kernel_rfl) (by kernel_rfl) (by kernel_rfl) ?_
          refine bindE hS (fun z131 hz131 hS => ?_)
          refine zdOp (d := some 166) (op := (.ixS 33 4 (.tmp 164) (.tmp 165))) (g := (some (157, true))) (v := (.rptr (e_GCell.enc z131 ++ (e_GCell.cells (a1.Cells.drop ((p1190 : Int).toNat + 1)))))) (ups := []) (j := 41) (t1 := []) (acc' := [[], [], [], [], [], [], [], [], [], [(40, false)], [], [], [], [], [], [], [], [], [], [], [], [], [], [], [], [], [], [], [], [], [], [], [], [(136, false)], [], [(712, false)], [(712, false)], [], [(40, false)], [], []]) (by kernel_rfl) (by kernel_rfl) rfl (by kernel_rfl) (by kernel_rfl) (ev_ixS e_GCell (kk := .i64) (xs := a1.Cells) (j := p1190) (by kernel_rfl) (by kernel_rfl) hz131 rfl (by intro h; cases h)) ?_
          refine zdRun (n := 1) (j := 42) (ts := [[]]) (acc' := [[], [], [], [], [], [], [], [], [], [(40, false)], [], [], [], [], [], [], [], [], [], [], [], [], [], [], [], [], [], [], [], [], [], [], [], [(136, false)], [], [(712, false)], [(712, false)], [], [(40, false)], [], [], []]) rfl (by kernel_rfl) (by kernel_rfl) (by kernel_rfl) ?_
          refine zdBool (d := 168) (op := (.eqA .true [(4, .int)] (.tmp 162) (.tmp 167))) (g := (some (157, true))) (j := 43) (t1 := []) (acc' := [[], [], [], [], [], [], [], [], [], [(40, false)], [], [], [], [], [], [], [], [], [], [], [], [], [], [], [], [], [], [], [], [], [], [], [], [(136, false)], [], [(712, false)], [(712, false)], [], [(40, false)], [], [], [], []]) (!(decide (z130.Rune = z131.Rune) && (decide (z130.Pen.Flags = z131.Pen.Flags) && (decide (z130.Pen.Fore = z131.Pen.Fore) && (decide (z130.Pen.Back = z131.Pen.Back) && true))))) (by kernel_rfl) (by kernel_rfl) rfl (by kernel_rfl) (by kernel_rfl) (by kernel_rfl) (fun hc => ?_) (fun hc => ?_)
          · replace hS := cond_t hc hS
            refine zdRun (n := 2) (j := 45) (ts := [[], []]) (acc' := [[], [], [], [], [], [], [], [], [], [(40, false)], [], [], [], [], [], [], [], [], [], [], [], [], [], [], [], [], [], [], [], [], [], [], [], [(136, false)], [], [(712, false)], [(712, false)], [], [(40, false)], [], [], [], [], [], []]) rfl (by kernel_rfl) (by kernel_rfl) (by kernel_rfl) ?_
            refine zdEnd (by kernel_rfl) (by kernel_rfl) ?_
            refine zkSeq ?_
            refine zrCondT (by kernel_rfl) ?_
            refine zrSeq ?_
            refine zrReg ?_
            refine zlRun (n := 1) (j := 1) rfl (by kernel_rfl) ?_
            refine zlEnd (by kernel_rfl) ?_
            refine zkSeq ?_
            refine zrRet ?_
            refine zkBlkR ?_
            refine zkSeqR ?_
            refine zkNil ?_
            exact endQ hS hQ (finL_x (by intro h; cases h) (by show _ = _ ∧ _ = _; exact ⟨rfl, by kernel_rfl⟩))
          · replace hS := cond_f hc hS
            refine zdRun (n := 2) (j := 45) (ts := [[], []]) (acc' := [[], [], [], [], [], [], [], [], [], [(40, false)], [], [], [], [], [], [], [], [], [], [], [], [], [], [], [], [], [], [], [], [], [], [], [], [(136, false)], [], [(712, false)], [(712, false)], [], [(40, false)], [], [], [], [], [], []]) rfl (by kernel_rfl) (by kernel_rfl) (by kernel_rfl) ?_
            refine zdEnd (by kernel_rfl) (by kernel_rfl) ?_
            refine zkSeq ?_
            refine zrCondF (by kernel_rfl) ?_
            refine zrSkip ?_
            refine zkBlk ?_
            refine zkSeq ?_
            refine zrReg ?_
            refine zlRun (n := 2) (j := 2) rfl (by kernel_rfl) ?_
            refine zlEnd (by kernel_rfl) ?_
            refine zkNil ?_
            exact endQ hS hQ (finL_n (by show keepSt _ _ _ _ = _; kernel_rfl))
        · replace hS := cond_f hc hS
          refine zdRun (n := 14) (j := 45) (ts := [[], [], [], [], [], [], [], [], [], [], [], [], [], []]) (acc' := [[], [], [], [], [], [], [], [], [], [(40, false)], [], [], [], [], [], [], [], [], [], [], [], [], [], [], [], [], [], [], [], [], [], [], [], [], [], [], [], [], [], [], [], [], [], [], []]) rfl (by kernel_rfl) (by kernel_rfl) (by kernel_rfl) ?_
          refine zdEnd (by kernel_rfl) (by kernel_rfl) ?_
          refine zkSeq ?_
          refine zrCondF (by kernel_rfl) ?_
          refine zrSkip ?_
          refine zkBlk ?_
          refine zkSeq ?_
          refine zrReg ?_
          refine zlRun (n := 2) (j := 2) rfl (by kernel_rfl) ?_
          refine zlEnd (by kernel_rfl) ?_
          refine zkNil ?_
          exact endQ hS hQ (finL_n (by show keepSt _ _ _ _ = _; kernel_rfl))
    · replace hS := cond_f hc hS
      refine zdRun (n := 25) (j := 30) (ts := [[], [], [], [], [], [], [], [], [], [], [], [], [], [], [], [], [], [], [], [], [], [], [], [], []]) (acc' := [[], [], [], [], [], [], [], [], [], [], [], [], [], [], [], [], [], [], [], [], [], [], [], [], [], [], [], [], [], []]) rfl (by kernel_rfl) (by kernel_rfl) (by kernel_rfl) ?_
      refine zdBool (d := 156) (op := (.cmpI .geq (.tmp 154) (.tmp 155))) (g := (some (153, false))) (j := 31) (t1 := []) (acc' := [[], [], [], [], [], [], [], [], [], [], [], [], [], [], [], [], [], [], [], [], [], [], [], [], [], [], [], [], [], [], []]) (decide (a3 ≤ (IntKind.i64.wrap (Int.tdiv p1190 a1.Wide)))) (by kernel_rfl) (by kernel_rfl) rfl (by kernel_rfl) (by kernel_rfl) (by kernel_rfl) (fun hc => ?_) (fun hc => ?_)
      · replace hS := cond_t hc hS
        refine zdRun (n := 4) (j := 35) (ts := [[], [], [(136, false)], []]) (acc' := [[], [], [], [], [], [], [], [], [], [], [], [], [], [], [], [], [], [], [], [], [], [], [], [], [], [], [], [], [], [], [], [], [], [(136, false)], []]) rfl (by kernel_rfl) (by kernel_rfl) (by kernel_rfl) ?_
        refine bindE hS (fun m132 hm132 hS => ?_)
        refine zdOp (d := some 161) (op := (.ixS 33 4 (.tmp 159) (.tmp 160))) (g := (some (157, true))) (v := (.r (.ptr 712 0 ((0 + m132) * 4)))) (ups := []) (j := 36) (t1 := [(712, false)]) (acc' := [[], [], [], [], [], [], [], [], [], [], [], [], [], [], [], [], [], [], [], [], [], [], [], [], [], [], [], [], [], [], [], [], [], [(136, false)], [], [(712, false)]]) (by kernel_rfl) (by kernel_rfl) rfl (by kernel_rfl) (by kernel_rfl) (ev_ixM (kk := .i64) (b := 712) (g := 0) (l := 0) (n := p1189.length) (j := p1190) (cs := e_GCell.cells p1189) (by kernel_rfl) (by kernel_rfl) (by kernel_rfl) hm132) ?_
        refine bindE hS (fun z133 hz133 hS => ?_)
        refine zdOp (d := some 162) (op := (.load .true 4 (.tmp 161))) (g := (some (157, true))) (v := (.agg ((.d (.int .i64 z133.Rune)) :: ((.d (.int .i64 z133.Pen.Flags)) :: ((.d (.int .i64 z133.Pen.Fore)) :: ((.d (.int .i64 z133.Pen.Back)) :: [])))))) (ups := []) (j := 37) (t1 := [(712, false)]) (acc' := [[], [], [], [], [], [], [], [], [], [], [], [], [], [], [], [], [], [], [], [], [], [], [], [], [], [], [], [], [], [], [], [], [], [(136, false)], [], [(712, false)], [(712, false)]]) (by kernel_rfl) (by kernel_rfl) rfl (by kernel_rfl) (by kernel_rfl) (ev_loadM e_GCell (b := 712) (g := 0) (o := (0 + m132) * 4) (e := 33) (k := 4) (m := m132) (fo := 0) (xs := p1189) (by kernel_rfl) (by kernel_rfl) (by rw [Nat.zero_add]; rfl) hz133 (by kernel_rfl) (by kernel_rfl) (by kernel_rfl)) ?_
        refine zdRun (n := 3) (j := 40) (ts := [[], [(40, false)], []]) (acc' := [[], [], [], [], [], [], [], [], [], [], [], [], [], [], [], [], [], [], [], [], [], [], [], [], [], [], [], [], [], [], [], [], [], [(136, false)], [], [(712, false)], [(712, false)], [], [(40, false)], []]) rfl (by kernel_rfl) (by kernel_rfl) (by kernel_rfl) ?_
        refine bindE hS (fun z134 hz134 hS => ?_)
        refine zdOp (d := some 166) (op := (.ixS 33 4 (.tmp 164) (.tmp 165))) (g := (some (157, true))) (v := (.rptr (e_GCell.enc z134 ++ (e_GCell.cells (a1.Cells.drop ((p1190 : Int).toNat + 1)))))) (ups := []) (j := 41) (t1 := []) (acc' := [[], [], [], [], [], [], [], [], [], [], [], [], [], [], [], [], [], [], [], [], [], [], [], [], [], [], [], [], [], [], [], [], [], [(136, false)], [], [(712, false)], [(712, false)], [], [(40, false)], [], []]) (by kernel_rfl) (by kernel_rfl) rfl (by kernel_rfl) (by kernel_rfl) (ev_ixS e_GCell (kk := .i64) (xs := a1.Cells) (j := p1190) (by kernel_rfl) (by kernel_rfl) hz134 rfl (by intro h; cases h)) ?_
        refine zdRun (n := 1) (j := 42) (ts := [[]]) (acc' := [[], [], [], [], [], [], [], [], [], [], [], [], [], [], [], [], [], [], [], [], [], [], [], [], [], [], [], [], [], [], [], [], [], [(136, false)], [], [(712, false)], [(712, false)], [], [(40, false)], [], [], []]) rfl (by kernel_rfl) (by kernel_rfl) (by kernel_rfl) ?_
        refine zdBool (d := 168) (op := (.eqA .true [(4, .int)] (.tmp 162) (.tmp 167))) (g := (some (157, true))) (j := 43) (t1 := []) (acc' := [[], [], [], [], [], [], [], [], [], [], [], [], [], [], [], [], [], [], [], [], [], [], [], [], [], [], [], [], [], [], [], [], [], [(136, false)], [], [(712, false)], [(712, false)], [], [(40, false)], [], [], [], []]) (!(decide (z133.Rune = z134.Rune) && (decide (z133.Pen.Flags = z134.Pen.Flags) && (decide (z133.Pen.Fore = z134.Pen.Fore) && (decide (z133.Pen.Back = z134.Pen.Back) && true))))) (by kernel_rfl) (by kernel_rfl) rfl (by kernel_rfl) (by kernel_rfl) (by kernel_rfl) (fun hc => ?_) (fun hc => ?_)
        · replace hS := cond_t hc hS
          refine zdRun (n := 2) (j := 45) (ts := [[], []]) (acc' := [[], [], [], [], [], [], [], [], [], [], [], [], [], [], [], [], [], [], [], [], [], [], [], [], [], [], [], [], [], [], [], [], [], [(136, false)], [], [(712, false)], [(712, false)], [], [(40, false)], [], [], [], [], [], []]) rfl (by kernel_rfl) (by kernel_rfl) (by kernel_rfl) ?_
          refine zdEnd (by kernel_rfl) (by kernel_rfl) ?_
          refine zkSeq ?_
          refine zrCondT (by kernel_rfl) ?_
          refine zrSeq ?_
          refine zrReg ?_
          refine zlRun (n := 1) (j := 1) rfl (by kernel_rfl) ?_
          refine zlEnd (by kernel_rfl) ?_
          refine zkSeq ?_
          refine zrRet ?_
          refine zkBlkR ?_
          refine zkSeqR ?_
          refine zkNil ?_
          exact endQ hS hQ (finL_x (by intro h; cases h) (by show _ = _ ∧ _ = _; exact ⟨rfl, by kernel_rfl⟩))
        · replace hS := cond_f hc hS
          refine zdRun (n := 2) (j := 45) (ts := [[], []]) (acc' := [[], [], [], [], [], [], [], [], [], [], [], [], [], [], [], [], [], [], [], [], [], [], [], [], [], [], [], [], [], [], [], [], [], [(136, false)], [], [(712, false)], [(712, false)], [], [(40, false)], [], [], [], [], [], []]) rfl (by kernel_rfl) (by kernel_rfl) (by kernel_rfl) ?_
          refine zdEnd (by kernel_rfl) (by kernel_rfl) ?_
          refine zkSeq ?_
          refine zrCondF (by kernel_rfl) ?_
          refine zrSkip ?_
          refine zkBlk ?_
          refine zkSeq ?_
          refine zrReg ?_
          refine zlRun (n := 2) (j := 2) rfl (by kernel_rfl) ?_
          refine zlEnd (by kernel_rfl) ?_
          refine zkNil ?_
          exact endQ hS hQ (finL_n (by show keepSt _ _ _ _ = _; kernel_rfl))
      · replace hS := cond_f hc hS
        refine zdRun (n := 14) (j := 45) (ts := [[], [], [], [], [], [], [], [], [], [], [], [], [], []]) (acc' := [[], [], [], [], [], [], [], [], [], [], [], [], [], [], [], [], [], [], [], [], [], [], [], [], [], [], [], [], [], [], [], [], [], [], [], [], [], [], [], [], [], [], [], [], []]) rfl (by kernel_rfl) (by kernel_rfl) (by kernel_rfl) ?_
        refine zdEnd (by kernel_rfl) (by kernel_rfl) ?_
        refine zkSeq ?_
        refine zrCondF (by kernel_rfl) ?_
        refine zrSkip ?_
        refine zkBlk ?_
        refine zkSeq ?_
        refine zrReg ?_
        refine zlRun (n := 2) (j := 2) rfl (by kernel_rfl) ?_
        refine zlEnd (by kernel_rfl) ?_
        refine zkNil ?_
        exact endQ hS hQ (finL_n (by show keepSt _ _ _ _ = _; kernel_rfl))
  · replace hS := cond_f hc hS
    refine zdRun (n := 28) (j := 30) (ts := [[], [], [], [], [], [], [], [], [], [], [], [], [], [], [], [], [], [], [], [], [], [], [], [], [], [], [], []]) (acc' := [[], [], [], [], [], [], [], [], [], [], [], [], [], [], [], [], [], [], [], [], [], [], [], [], [], [], [], [], [], []]) rfl (by kernel_rfl) (by kernel_rfl) (by kernel_rfl) ?_
    refine zdBool (d := 156) (op := (.cmpI .geq (.tmp 154) (.tmp 155))) (g := (some (153, false))) (j := 31) (t1 := []) (acc' := [[], [], [], [], [], [], [], [], [], [], [], [], [], [], [], [], [], [], [], [], [], [], [], [], [], [], [], [], [], [], []]) (decide (a3 ≤ (IntKind.i64.wrap (Int.tdiv p1190 a1.Wide)))) (by kernel_rfl) (by kernel_rfl) rfl (by kernel_rfl) (by kernel_rfl) (by kernel_rfl) (fun hc => ?_) (fun hc => ?_)
    · replace hS := cond_t hc hS
      refine zdRun (n := 4) (j := 35) (ts := [[], [], [(136, false)], []]) (acc' := [[], [], [], [], [], [], [], [], [], [], [], [], [], [], [], [], [], [], [], [], [], [], [], [], [], [], [], [], [], [], [], [], [], [(136, false)], []]) rfl (by kernel_rfl) (by kernel_rfl) (by kernel_rfl) ?_
      refine bindE hS (fun m135 hm135 hS => ?_)
      refine zdOp (d := some 161) (op := (.ixS 33 4 (.tmp 159) (.tmp 160))) (g := (some (157, true))) (v := (.r (.ptr 712 0 ((0 + m135) * 4)))) (ups := []) (j := 36) (t1 := [(712, false)]) (acc' := [[], [], [], [], [], [], [], [], [], [], [], [], [], [], [], [], [], [], [], [], [], [], [], [], [], [], [], [], [], [], [], [], [], [(136, false)], [], [(712, false)]]) (by kernel_rfl) (by kernel_rfl) rfl (by kernel_rfl) (by kernel_rfl) (ev_ixM (kk := .i64) (b := 712) (g := 0) (l := 0) (n := p1189.length) (j := p1190) (cs := e_GCell.cells p1189) (by kernel_rfl) (by kernel_rfl) (by kernel_rfl) hm135) ?_
      refine bindE hS (fun z136 hz136 hS => ?_)
      refine zdOp (d := some 162) (op := (.load .true 4 (.tmp 161))) (g := (some (157, true))) (v := (.agg ((.d (.int .i64 z136.Rune)) :: ((.d (.int .i64 z136.Pen.Flags)) :: ((.d (.int .i64 z136.Pen.Fore)) :: ((.d (.int .i64 z136.Pen.Back)) :: [])))))) (ups := []) (j := 37) (t1 := [(712, false)]) (acc' := [[], [], [], [], [], [], [], [], [], [], [], [], [], [], [], [], [], [], [], [], [], [], [], [], [], [], [], [], [], [], [], [], [], [(136, false)], [], [(712, false)], [(712, false)]]) (by kernel_rfl) (by kernel_rfl) rfl (by kernel_rfl) (by kernel_rfl) (ev_loadM e_GCell (b := 712) (g := 0) (o := (0 + m135) * 4) (e := 33) (k := 4) (m := m135) (fo := 0) (xs := p1189) (by kernel_rfl) (by kernel_rfl) (by rw [Nat.zero_add]; rfl) hz136 (by kernel_rfl) (by kernel_rfl) (by kernel_rfl)) ?_
      refine zdRun (n := 3) (j := 40) (ts := [[], [(40, false)], []]) (acc' := [[], [], [], [], [], [], [], [], [], [], [], [], [], [], [], [], [], [], [], [], [], [], [], [], [], [], [], [], [], [], [], [], [], [(136, false)], [], [(712, false)], [(712, false)], [], [(40, false)], []]) rfl (by kernel_rfl) (by kernel_rfl) (by kernel_rfl) ?_
      refine bindE hS (fun z137 hz137 hS => ?_)
      refine zdOp (d := some 166) (op := (.ixS 33 4 (.tmp 164) (.tmp 165))) (g := (some (157, true))) (v := (.rptr (e_GCell.enc z137 ++ (e_GCell.cells (a1.Cells.drop ((p1190 : Int).toNat + 1)))))) (ups := []) (j := 41) (t1 := []) (acc' := [[], [], [], [], [], [], [], [], [], [], [], [], [], [], [], [], [], [], [], [], [], [], [], [], [], [], [], [], [], [], [], [], [], [(136, false)], [], [(712, false)], [(712, false)], [], [(40, false)], [], []]) (by kernel_rfl) (by kernel_rfl) rfl (by kernel_rfl) (by kernel_rfl) (ev_ixS e_GCell (kk := .i64) (xs := a1.Cells) (j := p1190) (by kernel_rfl) (by kernel_rfl) hz137 rfl (by intro h; cases h)) ?_
      refine zdRun (n := 1) (j := 42) (ts := [[]]) (acc' := [[], [], [], [], [], [], [], [], [], [], [], [], [], [], [], [], [], [], [], [], [], [], [], [], [], [], [], [], [], [], [], [], [], [(136, false)], [], [(712, false)], [(712, false)], [], [(40, false)], [], [], []]) rfl (by kernel_rfl) (by kernel_rfl) (by kernel_rfl) ?_
      refine zdBool (d := 168) (op := (.eqA .true [(4, .int)] (.tmp 162) (.tmp 167))) (g := (some (157, true))) (j := 43) (t1 := []) (acc' := [[], [], [], [], [], [], [], [], [], [], [], [], [], [], [], [], [], [], [], [], [], [], [], [], [], [], [], [], [], [], [], [], [], [(136, false)], [], [(712, false)], [(712, false)], [], [(40, false)], [], [], [], []]) (!(decide (z136.Rune = z137.Rune) && (decide (z136.Pen.Flags = z137.Pen.Flags) && (decide (z136.Pen.Fore = z137.Pen.Fore) && (decide (z136.Pen.Back = z137.Pen.Back) && true))))) (by kernel_rfl) (by kernel_rfl) rfl (by kernel_rfl) (by kernel_rfl) (by kernel_rfl) (fun hc => ?_) (fun hc => ?_)
      · replace hS := cond_t hc hS
        refine zdRun (n := 2) (j := 45) (ts := [[], []]) (acc' := [[], [], [], [], [], [], [], [], [], [], [], [], [], [], [], [], [], [], [], [], [], [], [], [], [], [], [], [], [], [], [], [], [], [(136, false)], [], [(712, false)], [(712, false)], [], [(40, false)], [], [], [], [], [], []]) rfl (by kernel_rfl) (by kernel_rfl) (by kernel_rfl) ?_
        refine zdEnd (by kernel_rfl) (by kernel_rfl) ?_
        refine zkSeq ?_
        refine zrCondT (by kernel_rfl) ?_
        refine zrSeq ?_
        refine zrReg ?_
        refine zlRun (n := 1) (j := 1) rfl (by kernel_rfl) ?_
        refine zlEnd (by kernel_rfl) ?_
        refine zkSeq ?_
        refine zrRet ?_
        refine zkBlkR ?_
        refine zkSeqR ?_
        refine zkNil ?_
        exact endQ hS hQ (finL_x (by intro h; cases h) (by show _ = _ ∧ _ = _; exact ⟨rfl, by kernel_rfl⟩))
      · replace hS := cond_f hc hS
        refine zdRun (n := 2) (j := 45) (ts := [[], []]) (acc' := [[], [], [], [], [], [], [], [], [], [], [], [], [], [], [], [], [], [], [], [], [], [], [], [], [], [], [], [], [], [], [], [], [], [(136, false)], [], [(712, false)], [(712, false)], [], [(40, false)], [], [], [], [], [], []]) rfl (by kernel_rfl) (by kernel_rfl) (by kernel_rfl) ?_
        refine zdEnd (by kernel_rfl) (by kernel_rfl) ?_
        refine zkSeq ?_
        refine zrCondF (by kernel_rfl) ?_
        refine zrSkip ?_
        refine zkBlk ?_
        refine zkSeq ?_
        refine zrReg ?_
        refine zlRun (n := 2) (j := 2) rfl (by kernel_rfl) ?_
        refine zlEnd (by kernel_rfl) ?_
        refine zkNil ?_
        exact endQ hS hQ (finL_n (by show keepSt _ _ _ _ = _; kernel_rfl))
    · replace hS := cond_f hc hS
      refine zdRun (n := 14) (j := 45) (ts := [[], [], [], [], [], [], [], [], [], [], [], [], [], []]) (acc' := [[], [], [], [], [], [], [], [], [], [], [], [], [], [], [], [], [], [], [], [], [], [], [], [], [], [], [], [], [], [], [], [], [], [], [], [], [], [], [], [], [], [], [], [], []]) rfl (by kernel_rfl) (by kernel_rfl) (by kernel_rfl) ?_
      refine zdEnd (by kernel_rfl) (by kernel_rfl) ?_
      refine zkSeq ?_
      refine zrCondF (by kernel_rfl) ?_
      refine zrSkip ?_
      refine zkBlk ?_
      refine zkSeq ?_
      refine zrReg ?_
      refine zlRun (n := 2) (j := 2) rfl (by kernel_rfl) ?_
      refine zlEnd (by kernel_rfl) ?_
      refine zkNil ?_
      exact endQ hS hQ (finL_n (by show keepSt _ _ _ _ = _; kernel_rfl))
def f6_l3_j4_J (a1 : GGrid) (a2 : Int) (a3 : Int) (a4 : GPen) (p1174 : Bool) (p1175 : Int) (p1176 : Int) (p1177 : List GCell) (p1178 : Int) (p1179 : Int) (p1180 : List GCell) (p1181 : Int) (p1182 : Bool) : St := ⟨(up (up (up (up (up (up (up (up (up (fun _ => .un) 116 (.d (.bool p1182))) 115 (.d (.int .i64 p1181))) 114 (.d (.int .i64 (a1.Cells.length : Int)))) 16 (.r (.ptr 136 0 0))) 12 (.r (.ptr 104 0 0))) 9 (.d (.bool p1174))) 4 (.r (.ptr 40 0 0))) 2 (.d (.int .i64 a3))) 1 (.d (.int .i64 a2))), (up (up (up (up (up (hB fun _ => 0) 712 ⟨0, some (.own 33 4 (e_GCell.cells p1180))⟩) 136 ⟨0, some (.box ((.d (.int .i64 p1178)) :: ((.d (.int .i64 p1179)) :: ((.r (.msl 712 0 0 p1180.length)) :: []))))⟩) 560 ⟨0, some (.own 33 4 (e_GCell.cells p1177))⟩) 104 ⟨0, some (.box ((.d (.int .i64 p1175)) :: ((.d (.int .i64 p1176)) :: ((.r (.msl 560 0 0 p1177.length)) :: []))))⟩) 40 ⟨0, some (.box ((.d (.int .i64 a1.Wide)) :: ((.d (.int .i64 a1.High)) :: ((.d (.sl a1.Cells.length (e_GCell.cells a1.Cells))) :: []))))⟩)⟩
noncomputable def f6_l3_j4 (a1 : GGrid) (a2 : Int) (a3 : Int) (a4 : GPen) (p1174 : Bool) (p1175 : Int) (p1176 : Int) (p1177 : List GCell) (p1178 : Int) (p1179 : Int) (p1180 : List GCell) (p1181 : Int) (p1182 : Bool) : Option ((Bool × Int × Int × (List GCell) × Int × Int × (List GCell) × Int) ⊕ (Unit ⊕ Bool)) := (bif p1182 then (f6_l3_j5 a1 a2 a3 a4 p1174 p1175 p1176 p1177 p1178 p1179 p1180 p1181) else (some (.inr (.inl ()))))
theorem f6_l3_j4_ok {base : Orc} {d : Nat} (hd : 9 ≤ d) (a1 : GGrid) (a2 : Int) (a3 : Int) (a4 : GPen) {r : (Bool × Int × Int × (List GCell) × Int × Int × (List GCell) × Int) ⊕ (Unit ⊕ Bool)} {Q : PX → St → Prop} (hQ : ∀ e st', finL (f6_l3_H a1 a2 a3 a4) (f6_l3_X a1 a2 a3 a4) r e st' → Q e st') (p1174 : Bool) (p1175 : Int) (p1176 : Int) (p1177 : List GCell) (p1178 : Int) (p1179 : Int) (p1180 : List GCell) (p1181 : Int) (p1182 : Bool) (hS : f6_l3_j4 a1 a2 a3 a4 p1174 p1175 p1176 p1177 p1178 p1179 p1180 p1181 p1182 = some r) {st : St} (he : keepSt [1, 2, 4, 9, 12, 16, 114, 115, 116] [(40, .id 40), (104, .id 104), (560, .id 560), (136, .id 136), (712, .id 712)] [] st = f6_l3_j4_J a1 a2 a3 a4 p1174 p1175 p1176 p1177 p1178 p1179 p1180 p1181 p1182) : ZR (lev codes base (d - 1)) Q c6_2 [] st := by
  refine zrKeep he ?_
  unfold f6_l3_j4 at hS
  refine zrSeq ?_
  refine zrSplit 116 p1182 (by kernel_rfl) (fun hc => ?_) (fun hc => ?_)
  · replace hS := cond_t hc hS
    refine zrCondT (by kernel_rfl) ?_
    refine zrSkip ?_
    refine zkSeq ?_
    exact f6_l3_j5_ok hd a1 a2 a3 a4 hQ p1174 p1175 p1176 p1177 p1178 p1179 p1180 p1181 hS (by kernel_rfl)
  · replace hS := cond_f hc hS
    refine zrCondF (by kernel_rfl) ?_
    refine zrKeep (J := f6_l3_e0_J a1 a2 a3 a4) (by kernel_rfl) ?_
    refine zrExit ?_
    refine zkSeqX ?_
    refine zkNil ?_
    exact endQ hS hQ (finL_x (by intro h; cases h) (by show _ = _ ∧ _ = _; exact ⟨rfl, rfl⟩))
noncomputable def f6_l3 (a1 : GGrid) (a2 : Int) (a3 : Int) (a4 : GPen) (x : Bool × Int × Int × (List GCell) × Int × Int × (List GCell) × Int) : Option ((Bool × Int × Int × (List GCell) × Int × Int × (List GCell) × Int) ⊕ (Unit ⊕ Bool)) := (bif (decide (x.2.2.2.2.2.2.2 < (a1.Cells.length : Int))) then (f6_l3_j4 a1 a2 a3 a4 x.1 x.2.1 x.2.2.1 x.2.2.2.1 x.2.2.2.2.1 x.2.2.2.2.2.1 x.2.2.2.2.2.2.1 x.2.2.2.2.2.2.2 true) else (f6_l3_j4 a1 a2 a3 a4 x.1 x.2.1 x.2.2.1 x.2.2.2.1 x.2.2.2.2.1 x.2.2.2.2.2.1 x.2.2.2.2.2.2.1 x.2.2.2.2.2.2.2 false))
theorem f6_l3_ok {base : Orc} {d : Nat} (hd : 9 ≤ d) (a1 : GGrid) (a2 : Int) (a3 : Int) (a4 : GPen) {r : (Bool × Int × Int × (List GCell) × Int × Int × (List GCell) × Int) ⊕ (Unit ⊕ Bool)} {Q : PX → St → Prop} (hQ : ∀ e st', finL (f6_l3_H a1 a2 a3 a4) (f6_l3_X a1 a2 a3 a4) r e st' → Q e st') {x : Bool × Int × Int × (List GCell) × Int × Int × (List GCell) × Int} (hS : f6_l3 a1 a2 a3 a4 x = some r) {st : St} (he : f6_l3_H a1 a2 a3 a4 x st) : ZR (lev codes base (d - 1)) Q c6_3 [] st := by
  refine zrKeep he ?_
  unfold f6_l3 at hS
  refine zrSeq ?_
  refine zrReg ?_
  refine zlBool (d := 116) (op := (.cmpI .lss (.tmp 115) (.tmp 114))) (g := none) (j := 1) (decide (x.2.2.2.2.2.2.2 < (a1.Cells.length : Int))) rfl (by kernel_rfl) (by kernel_rfl) (by kernel_rfl) (fun hc => ?_) (fun hc => ?_)
  · replace hS := cond_t hc hS
    refine zlEnd (by kernel_rfl) ?_
    refine zkSeq ?_
    exact f6_l3_j4_ok hd a1 a2 a3 a4 hQ x.1 x.2.1 x.2.2.1 x.2.2.2.1 x.2.2.2.2.1 x.2.2.2.2.2.1 x.2.2.2.2.2.2.1 x.2.2.2.2.2.2.2 true hS (by kernel_rfl)
  · replace hS := cond_f hc hS
    refine zlEnd (by kernel_rfl) ?_
    refine zkSeq ?_
    exact f6_l3_j4_ok hd a1 a2 a3 a4 hQ x.1 x.2.1 x.2.2.1 x.2.2.2.1 x.2.2.2.2.1 x.2.2.2.2.2.1 x.2.2.2.2.2.2.1 x.2.2.2.2.2.2.2 false hS (by kernel_rfl)
def f6_j2_J (a1 : GGrid) (a2 : Int) (a3 : Int) (a4 : GPen) (p622 : Bool) (p623 : Int) (p624 : Int) (p625 : List GCell) (p626 : Int) (p627 : Int) (p628 : List GCell) : St := ⟨(up (up (up (up (up (up (fun _ => .un) 16 (.r (.ptr 136 0 0))) 12 (.r (.ptr 104 0 0))) 9 (.d (.bool p622))) 4 (.r (.ptr 40 0 0))) 2 (.d (.int .i64 a3))) 1 (.d (.int .i64 a2))), (up (up (up (up (up (hB fun _ => 0) 712 ⟨0, some (.own 33 4 (e_GCell.cells p628))⟩) 136 ⟨0, some (.box ((.d (.int .i64 p626)) :: ((.d (.int .i64 p627)) :: ((.r (.msl 712 0 0 p628.length)) :: []))))⟩) 560 ⟨0, some (.own 33 4 (e_GCell.cells p625))⟩) 104 ⟨0, some (.box ((.d (.int .i64 p623)) :: ((.d (.int .i64 p624)) :: ((.r (.msl 560 0 0 p625.length)) :: []))))⟩) 40 ⟨0, some (.box ((.d (.int .i64 a1.Wide)) :: ((.d (.int .i64 a1.High)) :: ((.d (.sl a1.Cells.length (e_GCell.cells a1.Cells))) :: []))))⟩)⟩
noncomputable def f6_j2 (a1 : GGrid) (a2 : Int) (a3 : Int) (a4 : GPen) (p622 : Bool) (p623 : Int) (p624 : Int) (p625 : List GCell) (p626 : Int) (p627 : Int) (p628 : List GCell) : Option (Bool) := ((loopO (f6_l3 a1 a2 a3 a4) (p622, p623, p624, p625, p626, p627, p628, 0)).bind fun z138 => (Sum.elim (fun z139 => (some true)) (fun z140 => (some z140)) z138))
theorem f6_j2_ok {base : Orc} {d : Nat} (hd : 9 ≤ d) (a1 : GGrid) (a2 : Int) (a3 : Int) (a4 : GPen) {r : Bool} {Q : PX → St → Prop} (hQ : ∀ e st', f6_Q r e st' → Q e st') (p622 : Bool) (p623 : Int) (p624 : Int) (p625 : List GCell) (p626 : Int) (p627 : Int) (p628 : List GCell) (hS : f6_j2 a1 a2 a3 a4 p622 p623 p624 p625 p626 p627 p628 = some r) {st : St} (he : keepSt [1, 2, 4, 9, 12, 16] [(40, .id 40), (104, .id 104), (560, .id 560), (136, .id 136), (712, .id 712)] [] st = f6_j2_J a1 a2 a3 a4 p622 p623 p624 p625 p626 p627 p628) : ZR (lev codes base (d - 1)) Q c6_4 [] st := by
  refine zrKeep he ?_
  unfold f6_j2 at hS
  refine zrSeq ?_
  refine zrSeq ?_
  refine zrReg ?_
  refine zlRun (n := 4) (j := 4) rfl (by kernel_rfl) ?_
  refine zlEnd (by kernel_rfl) ?_
  refine zkSeq ?_
  refine zrBlk ?_
  refine bindE hS (fun z138 hz138 hS => ?_)
  refine zrLoop (f6_l3_H a1 a2 a3 a4) (f6_l3_X a1 a2 a3 a4) (fun x st r Q h0 hS hQ => f6_l3_ok hd a1 a2 a3 a4 hQ hS h0) (x := (p622, p623, p624, p625, p626, p627, p628, 0)) (z := z138) (by show keepSt _ _ _ _ = _; kernel_rfl) hz138 ?_
  rcases z138 with z139 | z140
  · replace hS := (show _ = _ from hS)
    simp only [Sum.elim_inl] at hS
    intro e st' _ hX
    obtain ⟨rfl, rfl⟩ : _ ∧ _ := hX
    refine zkBlkX ?_
    refine zkSeq ?_
    refine zrSeq ?_
    refine zrReg ?_
    refine zlRun (n := 1) (j := 1) rfl (by kernel_rfl) ?_
    refine zlEnd (by kernel_rfl) ?_
    refine zkSeq ?_
    refine zrRet ?_
    refine zkNil ?_
    exact endQ hS hQ (fRet (by kernel_rfl) ((congrArg (fun s => outR s 0 c6.res) (by kernel_rfl : finSt c6.fin _ = f6_fin true)).trans (f6_out true)))
  · simp only [Sum.elim_inr] at hS
    intro e st' _ hX
    obtain ⟨rfl, hX⟩ : _ ∧ _ := hX
    refine zkBlkR ?_
    refine zkSeqR ?_
    refine zkNil ?_
    exact endQ hS hQ (fRet (by kernel_rfl) ((congrArg (fun s => outR s 0 c6.res) hX).trans (f6_out z140)))
def f6_j1_J (a1 : GGrid) (a2 : Int) (a3 : Int) (a4 : GPen) (p590 : Bool) (p591 : Int) (p592 : Int) (p593 : List GCell) (p594 : Int) (p595 : Int) (p596 : Int) (p597 : Int) (p598 : List GCell) (p599 : Int) : St := ⟨(up (up (up (up (up (up (up (up (up (fun _ => .un) 17 (.d (.int .i64 p599))) 16 (.r (.ptr 136 0 0))) 15 (.d (.int .i64 p595))) 13 (.d (.int .i64 p594))) 12 (.r (.ptr 104 0 0))) 9 (.d (.bool p590))) 4 (.r (.ptr 40 0 0))) 2 (.d (.int .i64 a3))) 1 (.d (.int .i64 a2))), (up (up (up (up (up (hB fun _ => 0) 712 ⟨0, some (.own 33 4 (e_GCell.cells p598))⟩) 136 ⟨0, some (.box ((.d (.int .i64 p596)) :: ((.d (.int .i64 p597)) :: ((.r (.msl 712 0 0 p598.length)) :: []))))⟩) 560 ⟨0, some (.own 33 4 (e_GCell.cells p593))⟩) 104 ⟨0, some (.box ((.d (.int .i64 p591)) :: ((.d (.int .i64 p592)) :: ((.r (.msl 560 0 0 p593.length)) :: []))))⟩) 40 ⟨0, some (.box ((.d (.int .i64 a1.Wide)) :: ((.d (.int .i64 a1.High)) :: ((.d (.sl a1.Cells.length (e_GCell.cells a1.Cells))) :: []))))⟩)⟩
noncomputable def f6_j1 (a1 : GGrid) (a2 : Int) (a3 : Int) (a4 : GPen) (p590 : Bool) (p591 : Int) (p592 : Int) (p593 : List GCell) (p594 : Int) (p595 : Int) (p596 : Int) (p597 : Int) (p598 : List GCell) (p599 : Int) : Option (Bool) := (bif (!decide (p594 = 0)) then (some false) else (bif (!decide (p595 = 0)) then (some false) else (bif (!decide (p599 = 0)) then (some false) else (f6_j2 a1 a2 a3 a4 p590 p591 p592 p593 p596 p597 p598))))
theorem f6_j1_ok {base : Orc} {d : Nat} (hd : 9 ≤ d) (a1 : GGrid) (a2 : Int) (a3 : Int) (a4 : GPen) {r : Bool} {Q : PX → St → Prop} (hQ : ∀ e st', f6_Q r e st' → Q e st') (p590 : Bool) (p591 : Int) (p592 : Int) (p593 : List GCell) (p594 : Int) (p595 : Int) (p596 : Int) (p597 : Int) (p598 : List GCell) (p599 : Int) (hS : f6_j1 a1 a2 a3 a4 p590 p591 p592 p593 p594 p595 p596 p597 p598 p599 = some r) {st : St} (he : keepSt [1, 2, 4, 9, 12, 13, 15, 16, 17] [(40, .id 40), (104, .id 104), (560, .id 560), (136, .id 136), (712, .id 712)] [] st = f6_j1_J a1 a2 a3 a4 p590 p591 p592 p593 p594 p595 p596 p597 p598 p599) : ZR (lev codes base (d - 1)) Q c6_5 [] st := by
  refine zrKeep he ?_
  unfold f6_j1 at hS
  refine zrSeq ?_
  refine zrSeq ?_
  refine zrReg ?_
  refine zlRun (n := 1) (j := 1) rfl (by kernel_rfl) ?_
  refine zlBool (d := 103) (op := (.cmpI .neq (.tmp 102) (.const (.int .i64 0)))) (g := none) (j := 2) (!decide (p594 = 0)) rfl (by kernel_rfl) (by kernel_rfl) (by kernel_rfl) (fun hc => ?_) (fun hc => ?_)
  · replace hS := cond_t hc hS
    refine zlRun (n := 8) (j := 10) rfl (by kernel_rfl) ?_
    refine zlEnd (by kernel_rfl) ?_
    refine zkSeq ?_
    refine zrCondT (by kernel_rfl) ?_
    refine zrSeq ?_
    refine zrReg ?_
    refine zlRun (n := 1) (j := 1) rfl (by kernel_rfl) ?_
    refine zlEnd (by kernel_rfl) ?_
    refine zkSeq ?_
    refine zrRet ?_
    refine zkSeqR ?_
    refine zkNil ?_
    exact endQ hS hQ (fRet (by kernel_rfl) ((congrArg (fun s => outR s 0 c6.res) (by kernel_rfl : finSt c6.fin _ = f6_fin false)).trans (f6_out false)))
  · replace hS := cond_f hc hS
    refine zlRun (n := 2) (j := 4) rfl (by kernel_rfl) ?_
    refine zlBool (d := 106) (op := (.cmpI .neq (.tmp 105) (.const (.int .i64 0)))) (g := (some (104, false))) (j := 5) (!decide (p595 = 0)) rfl (by kernel_rfl) (by kernel_rfl) (by kernel_rfl) (fun hc => ?_) (fun hc => ?_)
    · replace hS := cond_t hc hS
      refine zlRun (n := 5) (j := 10) rfl (by kernel_rfl) ?_
      refine zlEnd (by kernel_rfl) ?_
      refine zkSeq ?_
      refine zrCondT (by kernel_rfl) ?_
      refine zrSeq ?_
      refine zrReg ?_
      refine zlRun (n := 1) (j := 1) rfl (by kernel_rfl) ?_
      refine zlEnd (by kernel_rfl) ?_
      refine zkSeq ?_
      refine zrRet ?_
      refine zkSeqR ?_
      refine zkNil ?_
      exact endQ hS hQ (fRet (by kernel_rfl) ((congrArg (fun s => outR s 0 c6.res) (by kernel_rfl : finSt c6.fin _ = f6_fin false)).trans (f6_out false)))
    · replace hS := cond_f hc hS
      refine zlRun (n := 3) (j := 8) rfl (by kernel_rfl) ?_
      refine zlBool (d := 110) (op := (.cmpI .neq (.tmp 109) (.const (.int .i64 0)))) (g := (some (108, false))) (j := 9) (!decide (p599 = 0)) rfl (by kernel_rfl) (by kernel_rfl) (by kernel_rfl) (fun hc => ?_) (fun hc => ?_)
      · replace hS := cond_t hc hS
        refine zlRun (n := 1) (j := 10) rfl (by kernel_rfl) ?_
        refine zlEnd (by kernel_rfl) ?_
        refine zkSeq ?_
        refine zrCondT (by kernel_rfl) ?_
        refine zrSeq ?_
        refine zrReg ?_
        refine zlRun (n := 1) (j := 1) rfl (by kernel_rfl) ?_
        refine zlEnd (by kernel_rfl) ?_
        refine zkSeq ?_
        refine zrRet ?_
        refine zkSeqR ?_
        refine zkNil ?_
        exact endQ hS hQ (fRet (by kernel_rfl) ((congrArg (fun s => outR s 0 c6.res) (by kernel_rfl : finSt c6.fin _ = f6_fin false)).trans (f6_out false)))
      · replace hS := cond_f hc hS
        refine zlRun (n := 1) (j := 10) rfl (by kernel_rfl) ?_
        refine zlEnd (by kernel_rfl) ?_
        refine zkSeq ?_
        refine zrCondF (by kernel_rfl) ?_
        refine zrSkip ?_
        refine zkSeq ?_
        exact f6_j2_ok hd a1 a2 a3 a4 hQ p590 p591 p592 p593 p596 p597 p598 hS (by kernel_rfl)
def f6_j0_J (a1 : GGrid) (a2 : Int) (a3 : Int) (a4 : GPen) : St := ⟨(up (up (up (up (fun _ => .un) 7 (.r (.ptr 64 0 0))) 4 (.r (.ptr 40 0 0))) 2 (.d (.int .i64 a3))) 1 (.d (.int .i64 a2))), (up (up (hB fun _ => 0) 64 ⟨0, some (.box ((.d (.int .i64 a4.Flags)) :: ((.d (.int .i64 a4.Fore)) :: ((.d (.int .i64 a4.Back)) :: []))))⟩) 40 ⟨0, some (.box ((.d (.int .i64 a1.Wide)) :: ((.d (.int .i64 a1.High)) :: ((.d (.sl a1.Cells.length (e_GCell.cells a1.Cells))) :: []))))⟩)⟩
noncomputable def f6_j0 (a1 : GGrid) (a2 : Int) (a3 : Int) (a4 : GPen) : Option (Bool) := ((f20 a1.Cells).bind fun z64 => ((f19 a1 a2 0 a1.Wide a3 a4).bind fun z65 => ((f19 (GGrid.mk z65.1 z65.2.1 z65.2.2.1) a2 0 a1.Wide (IntKind.i64.wrap (0 - a3)) a4).bind fun z66 => ((f22 a1 0 a1.High a3 a4).bind fun z67 => ((f22 (GGrid.mk z67.1 z67.2.1 z67.2.2.1) 0 a1.High (IntKind.i64.wrap (0 - a3)) a4).bind fun z68 => (bif (!decide (z65.2.2.2 = 0)) then ((f23 a4).bind fun z141 => (bif (decide (z65.2.2.2 = z141)) then (bif (decide (z67.2.2.2 = z65.2.2.2)) then (some true) else (some false)) else (some false))) else (f6_j1 a1 a2 a3 a4 (!z64) z66.1 z66.2.1 z66.2.2.1 z66.2.2.2 z67.2.2.2 z68.1 z68.2.1 z68.2.2.1 z68.2.2.2)))))))
theorem f6_j0_ok {base : Orc} {d : Nat} (hd : 9 ≤ d) (a1 : GGrid) (a2 : Int) (a3 : Int) (a4 : GPen) {r : Bool} {Q : PX → St → Prop} (hQ : ∀ e st', f6_Q r e st' → Q e st')  (hS : f6_j0 a1 a2 a3 a4 = some r) {st : St} (he : keepSt [1, 2, 4, 7] [(40, .id 40), (64, .id 64)] [] st = f6_j0_J a1 a2 a3 a4) : ZR (lev codes base (d - 1)) Q c6_6 [] st := by
  refine zrKeep he ?_
  unfold f6_j0 at hS
  refine zrSeq ?_
  refine zrReg ?_
  refine zlRun (n := 2) (j := 2) rfl (by kernel_rfl) ?_
  refine bindE hS (fun z64 hz64 hS => ?_)
  refine zlOp (d := some 49) (op := (.call 20 [(.tmp 48), (.func 21)])) (g := none) (v := (.d (.bool z64))) (ups := []) (j := 3) rfl (by kernel_rfl) (by kernel_rfl) (ev_call (args := [(.d (.sl a1.Cells.length (e_GCell.cells a1.Cells))), (.fn 21 [])]) (l := [(.d (.sl a1.Cells.length (e_GCell.cells a1.Cells))), (.fn 21 [])]) (r := (.d (.bool z64))) (by kernel_rfl) (by kernel_rfl) (f20_ok base (d - 1) (dpt hd rfl) a1.Cells z64 hz64) (by kernel_rfl) (by kernel_rfl) (by kernel_rfl)) ?_
  refine zlRun (n := 2) (j := 5) rfl (by kernel_rfl) ?_
  refine zlEnd (by kernel_rfl) ?_
  refine zkSeq ?_
  refine zrSeq ?_
  refine zrReg ?_
  refine zlRun (n := 6) (j := 6) rfl (by kernel_rfl) ?_
  refine bindE hS (fun z65 hz65 hS => ?_)
  refine zlOp (d := some 58) (op := (.callf 19 [(.tmp 52), (.tmp 53), (.const (.int .i64 0)), (.tmp 55), (.tmp 56), (.tmp 57)])) (g := none) (v := (.tup [(.agg ((.d (.int .i64 z65.1)) :: ((.d (.int .i64 z65.2.1)) :: ((.r (.msl 472 1 0 z65.2.2.1.length)) :: [])))), (.d (.int .i64 z65.2.2.2))])) (ups := [(472, ⟨1, some (.own 33 4 (e_GCell.cells z65.2.2.1))⟩)]) (j := 7) rfl (by kernel_rfl) (by kernel_rfl) (ev_callF (args := [(.agg ((.d (.int .i64 a1.Wide)) :: ((.d (.int .i64 a1.High)) :: ((.d (.sl a1.Cells.length (e_GCell.cells a1.Cells))) :: [])))), (.d (.int .i64 a2)), (.d (.int .i64 0)), (.d (.int .i64 a1.Wide)), (.d (.int .i64 a3)), (.agg ((.d (.int .i64 a4.Flags)) :: ((.d (.int .i64 a4.Fore)) :: ((.d (.int .i64 a4.Back)) :: []))))]) (args' := [(.agg ((.d (.int .i64 a1.Wide)) :: ((.d (.int .i64 a1.High)) :: ((.d (.sl a1.Cells.length (e_GCell.cells a1.Cells))) :: [])))), (.d (.int .i64 a2)), (.d (.int .i64 0)), (.d (.int .i64 a1.Wide)), (.d (.int .i64 a3)), (.agg ((.d (.int .i64 a4.Flags)) :: ((.d (.int .i64 a4.Fore)) :: ((.d (.int .i64 a4.Back)) :: []))))]) (l := [(.agg ((.d (.int .i64 a1.Wide)) :: ((.d (.int .i64 a1.High)) :: ((.d (.sl a1.Cells.length (e_GCell.cells a1.Cells))) :: [])))), (.d (.int .i64 a2)), (.d (.int .i64 0)), (.d (.int .i64 a1.Wide)), (.d (.int .i64 a3)), (.agg ((.d (.int .i64 a4.Flags)) :: ((.d (.int .i64 a4.Fore)) :: ((.d (.int .i64 a4.Back)) :: []))))]) (refs := []) (r := (.tup [(.agg ((.d (.int .i64 z65.1)) :: ((.d (.int .i64 z65.2.1)) :: ((.r (.own 0 33 4 z65.2.2.1.length (e_GCell.cells z65.2.2.1))) :: [])))), (.d (.int .i64 z65.2.2.2))])) (v := (.tup [(.agg ((.d (.int .i64 z65.1)) :: ((.d (.int .i64 z65.2.1)) :: ((.r (.msl 472 1 0 z65.2.2.1.length)) :: [])))), (.d (.int .i64 z65.2.2.2))])) (ups' := [(472, ⟨1, some (.own 33 4 (e_GCell.cells z65.2.2.1))⟩)]) (by kernel_rfl) (by kernel_rfl) (by kernel_rfl) (fz_cons rfl (fz_cons rfl (fz_cons rfl (fz_cons rfl (fz_cons rfl (fz_cons rfl fz_nil)))))) (by kernel_rfl) (f19_ok base (d - 1) (dpt hd rfl) a1 a2 0 a1.Wide a3 a4 z65 hz65) (by kernel_rfl) (by kernel_rfl) (by kernel_rfl) (by kernel_rfl)) ?_
  refine zlRun (n := 6) (j := 13) rfl (by kernel_rfl) ?_
  refine zlEnd (by kernel_rfl) ?_
  refine zkSeq ?_
  refine zrSeq ?_
  refine zrReg ?_
  refine zlRun (n := 7) (j := 7) rfl (by kernel_rfl) ?_
  refine bindE hS (fun z66 hz66 hS => ?_)
  refine zlOp (d := some 69) (op := (.callf 19 [(.tmp 62), (.tmp 63), (.const (.int .i64 0)), (.tmp 65), (.tmp 67), (.tmp 68)])) (g := none) (v := (.tup [(.agg ((.d (.int .i64 z66.1)) :: ((.d (.int .i64 z66.2.1)) :: ((.r (.msl 560 1 0 z66.2.2.1.length)) :: [])))), (.d (.int .i64 z66.2.2.2))])) (ups := [(472, ⟨2, none⟩), (560, ⟨1, some (.own 33 4 (e_GCell.cells z66.2.2.1))⟩)]) (j := 8) rfl (by kernel_rfl) (by kernel_rfl) (ev_callF (args := [(.agg ((.d (.int .i64 z65.1)) :: ((.d (.int .i64 z65.2.1)) :: ((.r (.msl 472 1 0 z65.2.2.1.length)) :: [])))), (.d (.int .i64 a2)), (.d (.int .i64 0)), (.d (.int .i64 a1.Wide)), (.d (.int .i64 (IntKind.i64.wrap (0 - a3)))), (.agg ((.d (.int .i64 a4.Flags)) :: ((.d (.int .i64 a4.Fore)) :: ((.d (.int .i64 a4.Back)) :: []))))]) (args' := [(.agg ((.d (.int .i64 z65.1)) :: ((.d (.int .i64 z65.2.1)) :: ((.d (.sl z65.2.2.1.length (e_GCell.cells z65.2.2.1))) :: [])))), (.d (.int .i64 a2)), (.d (.int .i64 0)), (.d (.int .i64 a1.Wide)), (.d (.int .i64 (IntKind.i64.wrap (0 - a3)))), (.agg ((.d (.int .i64 a4.Flags)) :: ((.d (.int .i64 a4.Fore)) :: ((.d (.int .i64 a4.Back)) :: []))))]) (l := [(.agg ((.d (.int .i64 z65.1)) :: ((.d (.int .i64 z65.2.1)) :: ((.d (.sl z65.2.2.1.length (e_GCell.cells z65.2.2.1))) :: [])))), (.d (.int .i64 a2)), (.d (.int .i64 0)), (.d (.int .i64 a1.Wide)), (.d (.int .i64 (IntKind.i64.wrap (0 - a3)))), (.agg ((.d (.int .i64 a4.Flags)) :: ((.d (.int .i64 a4.Fore)) :: ((.d (.int .i64 a4.Back)) :: []))))]) (refs := [472]) (r := (.tup [(.agg ((.d (.int .i64 z66.1)) :: ((.d (.int .i64 z66.2.1)) :: ((.r (.own 0 33 4 z66.2.2.1.length (e_GCell.cells z66.2.2.1))) :: [])))), (.d (.int .i64 z66.2.2.2))])) (v := (.tup [(.agg ((.d (.int .i64 z66.1)) :: ((.d (.int .i64 z66.2.1)) :: ((.r (.msl 560 1 0 z66.2.2.1.length)) :: [])))), (.d (.int .i64 z66.2.2.2))])) (ups' := [(560, ⟨1, some (.own 33 4 (e_GCell.cells z66.2.2.1))⟩)]) (by kernel_rfl) (by kernel_rfl) (by kernel_rfl) (fz_cons (fz_agg (fz_cons (by kernel_rfl) (fz_cons (by kernel_rfl) (fz_cons (fz_own e_GCell (e := 33) (k := 4) (xs := z65.2.2.1) (by kernel_rfl) (by kernel_rfl) rfl rfl) fz_nil)))) (fz_cons rfl (fz_cons rfl (fz_cons rfl (fz_cons rfl (fz_cons rfl fz_nil)))))) (by kernel_rfl) (f19_ok base (d - 1) (dpt hd rfl) (GGrid.mk z65.1 z65.2.1 z65.2.2.1) a2 0 a1.Wide (IntKind.i64.wrap (0 - a3)) a4 z66 hz66) (by kernel_rfl) (by kernel_rfl) (by kernel_rfl) (by kernel_rfl)) ?_
  refine zlRun (n := 6) (j := 14) rfl (by kernel_rfl) ?_
  refine zlEnd (by kernel_rfl) ?_
  refine zkSeq ?_
  refine zrSeq ?_
  refine zrReg ?_
  refine zlRun (n := 5) (j := 5) rfl (by kernel_rfl) ?_
  refine bindE hS (fun z67 hz67 hS => ?_)
  refine zlOp (d := some 78) (op := (.callf 22 [(.tmp 73), (.const (.int .i64 0)), (.tmp 75), (.tmp 76), (.tmp 77)])) (g := none) (v := (.tup [(.agg ((.d (.int .i64 z67.1)) :: ((.d (.int .i64 z67.2.1)) :: ((.r (.msl 632 1 0 z67.2.2.1.length)) :: [])))), (.d (.int .i64 z67.2.2.2))])) (ups := [(632, ⟨1, some (.own 33 4 (e_GCell.cells z67.2.2.1))⟩)]) (j := 6) rfl (by kernel_rfl) (by kernel_rfl) (ev_callF (args := [(.agg ((.d (.int .i64 a1.Wide)) :: ((.d (.int .i64 a1.High)) :: ((.d (.sl a1.Cells.length (e_GCell.cells a1.Cells))) :: [])))), (.d (.int .i64 0)), (.d (.int .i64 a1.High)), (.d (.int .i64 a3)), (.agg ((.d (.int .i64 a4.Flags)) :: ((.d (.int .i64 a4.Fore)) :: ((.d (.int .i64 a4.Back)) :: []))))]) (args' := [(.agg ((.d (.int .i64 a1.Wide)) :: ((.d (.int .i64 a1.High)) :: ((.d (.sl a1.Cells.length (e_GCell.cells a1.Cells))) :: [])))), (.d (.int .i64 0)), (.d (.int .i64 a1.High)), (.d (.int .i64 a3)), (.agg ((.d (.int .i64 a4.Flags)) :: ((.d (.int .i64 a4.Fore)) :: ((.d (.int .i64 a4.Back)) :: []))))]) (l := [(.agg ((.d (.int .i64 a1.Wide)) :: ((.d (.int .i64 a1.High)) :: ((.d (.sl a1.Cells.length (e_GCell.cells a1.Cells))) :: [])))), (.d (.int .i64 0)), (.d (.int .i64 a1.High)), (.d (.int .i64 a3)), (.agg ((.d (.int .i64 a4.Flags)) :: ((.d (.int .i64 a4.Fore)) :: ((.d (.int .i64 a4.Back)) :: []))))]) (refs := []) (r := (.tup [(.agg ((.d (.int .i64 z67.1)) :: ((.d (.int .i64 z67.2.1)) :: ((.r (.own 0 33 4 z67.2.2.1.length (e_GCell.cells z67.2.2.1))) :: [])))), (.d (.int .i64 z67.2.2.2))])) (v := (.tup [(.agg ((.d (.int .i64 z67.1)) :: ((.d (.int .i64 z67.2.1)) :: ((.r (.msl 632 1 0 z67.2.2.1.length)) :: [])))), (.d (.int .i64 z67.2.2.2))])) (ups' := [(632, ⟨1, some (.own 33 4 (e_GCell.cells z67.2.2.1))⟩)]) (by kernel_rfl) (by kernel_rfl) (by kernel_rfl) (fz_cons rfl (fz_cons rfl (fz_cons rfl (fz_cons rfl (fz_cons rfl fz_nil))))) (by kernel_rfl) (f22_ok base (d - 1) (dpt hd rfl) a1 0 a1.High a3 a4 z67 hz67) (by kernel_rfl) (by kernel_rfl) (by kernel_rfl) (by kernel_rfl)) ?_
  refine zlRun (n := 6) (j := 12) rfl (by kernel_rfl) ?_
  refine zlEnd (by kernel_rfl) ?_
  refine zkSeq ?_
  refine zrSeq ?_
  refine zrReg ?_
  refine zlRun (n := 6) (j := 6) rfl (by kernel_rfl) ?_
  refine bindE hS (fun z68 hz68 hS => ?_)
  refine zlOp (d := some 88) (op := (.callf 22 [(.tmp 82), (.const (.int .i64 0)), (.tmp 84), (.tmp 86), (.tmp 87)])) (g := none) (v := (.tup [(.agg ((.d (.int .i64 z68.1)) :: ((.d (.int .i64 z68.2.1)) :: ((.r (.msl 712 1 0 z68.2.2.1.length)) :: [])))), (.d (.int .i64 z68.2.2.2))])) (ups := [(632, ⟨2, none⟩), (712, ⟨1, some (.own 33 4 (e_GCell.cells z68.2.2.1))⟩)]) (j := 7) rfl (by kernel_rfl) (by kernel_rfl) (ev_callF (args := [(.agg ((.d (.int .i64 z67.1)) :: ((.d (.int .i64 z67.2.1)) :: ((.r (.msl 632 1 0 z67.2.2.1.length)) :: [])))), (.d (.int .i64 0)), (.d (.int .i64 a1.High)), (.d (.int .i64 (IntKind.i64.wrap (0 - a3)))), (.agg ((.d (.int .i64 a4.Flags)) :: ((.d (.int .i64 a4.Fore)) :: ((.d (.int .i64 a4.Back)) :: []))))]) (args' := [(.agg ((.d (.int .i64 z67.1)) :: ((.d (.int .i64 z67.2.1)) :: ((.d (.sl z67.2.2.1.length (e_GCell.cells z67.2.2.1))) :: [])))), (.d (.int .i64 0)), (.d (.int .i64 a1.High)), (.d (.int .i64 (IntKind.i64.wrap (0 - a3)))), (.agg ((.d (.int .i64 a4.Flags)) :: ((.d (.int .i64 a4.Fore)) :: ((.d (.int .i64 a4.Back)) :: []))))]) (l := [(.agg ((.d (.int .i64 z67.1)) :: ((.d (.int .i64 z67.2.1)) :: ((.d (.sl z67.2.2.1.length (e_GCell.cells z67.2.2.1))) :: [])))), (.d (.int .i64 0)), (.d (.int .i64 a1.High)), (.d (.int .i64 (IntKind.i64.wrap (0 - a3)))), (.agg ((.d (.int .i64 a4.Flags)) :: ((.d (.int .i64 a4.Fore)) :: ((.d (.int .i64 a4.Back)) :: []))))]) (refs := [632]) (r := (.tup [(.agg ((.d (.int .i64 z68.1)) :: ((.d (.int .i64 z68.2.1)) :: ((.r (.own 0 33 4 z68.2.2.1.length (e_GCell.cells z68.2.2.1))) :: [])))), (.d (.int .i64 z68.2.2.2))])) (v := (.tup [(.agg ((.d (.int .i64 z68.1)) :: ((.d (.int .i64 z68.2.1)) :: ((.r (.msl 712 1 0 z68.2.2.1.length)) :: [])))), (.d (.int .i64 z68.2.2.2))])) (ups' := [(712, ⟨1, some (.own 33 4 (e_GCell.cells z68.2.2.1))⟩)]) (by kernel_rfl) (by kernel_rfl) (by kernel_rfl) (fz_cons (fz_agg (fz_cons (by kernel_rfl) (fz_cons (by kernel_rfl) (fz_cons (fz_own e_GCell (e := 33) (k := 4) (xs := z67.2.2.1) (by kernel_rfl) (by kernel_rfl) rfl rfl) fz_nil)))) (fz_cons rfl (fz_cons rfl (fz_cons rfl (fz_cons rfl fz_nil))))) (by kernel_rfl) (f22_ok base (d - 1) (dpt hd rfl) (GGrid.mk z67.1 z67.2.1 z67.2.2.1) 0 a1.High (IntKind.i64.wrap (0 - a3)) a4 z68 hz68) (by kernel_rfl) (by kernel_rfl) (by kernel_rfl) (by kernel_rfl)) ?_
  refine zlRun (n := 6) (j := 13) rfl (by kernel_rfl) ?_
  refine zlEnd (by kernel_rfl) ?_
  refine zkSeq ?_
  refine zrSeq ?_
  refine zrSeq ?_
  refine zrReg ?_
  refine zlRun (n := 1) (j := 1) rfl (by kernel_rfl) ?_
  refine zlBool (d := 92) (op := (.cmpI .neq (.tmp 91) (.const (.int .i64 0)))) (g := none) (j := 2) (!decide (z65.2.2.2 = 0)) rfl (by kernel_rfl) (by kernel_rfl) (by kernel_rfl) (fun hc => ?_) (fun hc => ?_)
  · replace hS := cond_t hc hS
    refine zlEnd (by kernel_rfl) ?_
    refine zkSeq ?_
    refine zrCondT (by kernel_rfl) ?_
    refine zrSeq ?_
    refine zrReg ?_
    refine zlRun (n := 2) (j := 2) rfl (by kernel_rfl) ?_
    refine bindE hS (fun z141 hz141 hS => ?_)
    refine zlOp (d := some 95) (op := (.call 23 [(.tmp 94)])) (g := none) (v := (.d (.int .i64 z141))) (ups := []) (j := 3) rfl (by kernel_rfl) (by kernel_rfl) (ev_call (args := [(.agg ((.d (.int .i64 a4.Flags)) :: ((.d (.int .i64 a4.Fore)) :: ((.d (.int .i64 a4.Back)) :: []))))]) (l := [(.agg ((.d (.int .i64 a4.Flags)) :: ((.d (.int .i64 a4.Fore)) :: ((.d (.int .i64 a4.Back)) :: []))))]) (r := (.d (.int .i64 z141))) (by kernel_rfl) (by kernel_rfl) (f23_ok base (d - 1) (dpt hd rfl) a4 z141 hz141) (by kernel_rfl) (by kernel_rfl) (by kernel_rfl)) ?_
    refine zlBool (d := 96) (op := (.cmpI .eql (.tmp 93) (.tmp 95))) (g := none) (j := 4) (decide (z65.2.2.2 = z141)) rfl (by kernel_rfl) (by kernel_rfl) (by kernel_rfl) (fun hc => ?_) (fun hc => ?_)
    · replace hS := cond_t hc hS
      refine zlRun (n := 3) (j := 7) rfl (by kernel_rfl) ?_
      refine zlBool (d := 100) (op := (.cmpI .eql (.tmp 98) (.tmp 99))) (g := (some (97, true))) (j := 8) (decide (z67.2.2.2 = z65.2.2.2)) rfl (by kernel_rfl) (by kernel_rfl) (by kernel_rfl) (fun hc => ?_) (fun hc => ?_)
      · replace hS := cond_t hc hS
        refine zlRun (n := 2) (j := 10) rfl (by kernel_rfl) ?_
        refine zlEnd (by kernel_rfl) ?_
        refine zkSeq ?_
        refine zrRet ?_
        refine zkSeqR ?_
        refine zkNil ?_
        exact endQ hS hQ (fRet (by kernel_rfl) ((congrArg (fun s => outR s 0 c6.res) (by kernel_rfl : finSt c6.fin _ = f6_fin true)).trans (f6_out true)))
      · replace hS := cond_f hc hS
        refine zlRun (n := 2) (j := 10) rfl (by kernel_rfl) ?_
        refine zlEnd (by kernel_rfl) ?_
        refine zkSeq ?_
        refine zrRet ?_
        refine zkSeqR ?_
        refine zkNil ?_
        exact endQ hS hQ (fRet (by kernel_rfl) ((congrArg (fun s => outR s 0 c6.res) (by kernel_rfl : finSt c6.fin _ = f6_fin false)).trans (f6_out false)))
    · replace hS := cond_f hc hS
      refine zlRun (n := 6) (j := 10) rfl (by kernel_rfl) ?_
      refine zlEnd (by kernel_rfl) ?_
      refine zkSeq ?_
      refine zrRet ?_
      refine zkSeqR ?_
      refine zkNil ?_
      exact endQ hS hQ (fRet (by kernel_rfl) ((congrArg (fun s => outR s 0 c6.res) (by kernel_rfl : finSt c6.fin _ = f6_fin false)).trans (f6_out false)))
  · replace hS := cond_f hc hS
    refine zlEnd (by kernel_rfl) ?_
    refine zkSeq ?_
    refine zrCondF (by kernel_rfl) ?_
    refine zrSkip ?_
    refine zkSeq ?_
    exact f6_j1_ok hd a1 a2 a3 a4 hQ (!z64) z66.1 z66.2.1 z66.2.2.1 z66.2.2.2 z67.2.2.2 z68.1 z68.2.1 z68.2.2.1 z68.2.2.2 hS (by kernel_rfl)
noncomputable def f6 (a1 : GGrid) (a2 : Int) (a3 : Int) (a4 : GPen) : Option (Bool) := (f10.bind fun z142 => (bif (!z142) then (f10.bind fun z143 => (some z143)) else ((f18 a1).bind fun z144 => (bif (!decide (z144 = 0)) then (f10.bind fun z145 => (some z145)) else (bif (decide (a2 < 0)) then (f10.bind fun z146 => (some z146)) else (bif (decide (a1.High ≤ a2)) then (f10.bind fun z147 => (some z147)) else (bif (decide (a3 < 0)) then (f10.bind fun z148 => (some z148)) else (bif (decide (1000 < a3)) then (f10.bind fun z149 => (some z149)) else (f6_j0 a1 a2 a3 a4 )))))))))
theorem f6_ok (base : Orc) (d : Nat) (hd : 9 ≤ d) (a1 : GGrid) (a2 : Int) (a3 : Int) (a4 : GPen) (r : Bool) (hS : f6 a1 a2 a3 a4 = some r) : lev codes base d 6 [(.agg ((.d (.int .i64 a1.Wide)) :: ((.d (.int .i64 a1.High)) :: ((.d (.sl a1.Cells.length (e_GCell.cells a1.Cells))) :: [])))), (.d (.int .i64 a2)), (.d (.int .i64 a3)), (.agg ((.d (.int .i64 a4.Flags)) :: ((.d (.int .i64 a4.Fore)) :: ((.d (.int .i64 a4.Back)) :: []))))] [] = some ((.d (.bool r)), []) := by
  refine lev_go codes6 rfl rfl (Nat.le_trans (Nat.le_of_ble_eq_true rfl) hd) fun Q hQ => ?_
  unfold f6 at hS
  show ZR _ Q c6_b [] _
  replace hQ : ∀ e st', f6_Q r e st' → Q e st' := hQ
  refine zrSeq ?_
  refine zrReg ?_
  refine zlRun (n := 3) (j := 3) rfl (by kernel_rfl) ?_
  refine zlEnd (by kernel_rfl) ?_
  refine zkSeq ?_
  refine zrSeq ?_
  refine zrSeq ?_
  refine zrReg ?_
  refine bindE hS (fun z142 hz142 hS => ?_)
  refine zlOp (d := some 21) (op := (.call 10 [])) (g := none) (v := (.d (.bool z142))) (ups := []) (j := 1) rfl (by kernel_rfl) (by kernel_rfl) (ev_call (args := []) (l := []) (r := (.d (.bool z142))) (by kernel_rfl) (by kernel_rfl) (f10_ok base (d - 1) (dpt hd rfl)  z142 hz142) (by kernel_rfl) (by kernel_rfl) (by kernel_rfl)) ?_
  refine zlRun (n := 2) (j := 3) rfl (by kernel_rfl) ?_
  refine zlSplit 23 (!z142) (by kernel_rfl) (fun hc => ?_) (fun hc => ?_)
  · replace hS := cond_t hc hS
    refine zlRun (n := 22) (j := 25) rfl (by kernel_rfl) ?_
    refine zlEnd (by kernel_rfl) ?_
    refine zkSeq ?_
    refine zrCondT (by kernel_rfl) ?_
    refine zrSeq ?_
    refine zrReg ?_
    refine bindE hS (fun z143 hz143 hS => ?_)
    refine zlOp (d := some 46) (op := (.call 10 [])) (g := none) (v := (.d (.bool z143))) (ups := []) (j := 1) rfl (by kernel_rfl) (by kernel_rfl) (ev_call (args := []) (l := []) (r := (.d (.bool z143))) (by kernel_rfl) (by kernel_rfl) (f10_ok base (d - 1) (dpt hd rfl)  z143 hz143) (by kernel_rfl) (by kernel_rfl) (by kernel_rfl)) ?_
    refine zlRun (n := 1) (j := 2) rfl (by kernel_rfl) ?_
    refine zlEnd (by kernel_rfl) ?_
    refine zkSeq ?_
    refine zrRet ?_
    refine zkSeqR ?_
    refine zkNil ?_
    exact endQ hS hQ (fRet (by kernel_rfl) ((congrArg (fun s => outR s 0 c6.res) (by kernel_rfl : finSt c6.fin _ = f6_fin z143)).trans (f6_out z143)))
  · replace hS := cond_f hc hS
    refine zlRun (n := 1) (j := 4) rfl (by kernel_rfl) ?_
    refine bindE hS (fun z144 hz144 hS => ?_)
    refine zlOp (d := some 25) (op := (.call 18 [(.tmp 24)])) (g := (some (23, false))) (v := (.d (.int .i64 z144))) (ups := []) (j := 5) rfl (by kernel_rfl) (by kernel_rfl) (ev_call (args := [(.agg ((.d (.int .i64 a1.Wide)) :: ((.d (.int .i64 a1.High)) :: ((.d (.sl a1.Cells.length (e_GCell.cells a1.Cells))) :: []))))]) (l := [(.agg ((.d (.int .i64 a1.Wide)) :: ((.d (.int .i64 a1.High)) :: ((.d (.sl a1.Cells.length (e_GCell.cells a1.Cells))) :: []))))]) (r := (.d (.int .i64 z144))) (by kernel_rfl) (by kernel_rfl) (f18_ok base (d - 1) (dpt hd rfl) a1 z144 hz144) (by kernel_rfl) (by kernel_rfl) (by kernel_rfl)) ?_
    refine zlBool (d := 26) (op := (.cmpI .neq (.tmp 25) (.const (.int .i64 0)))) (g := (some (23, false))) (j := 6) (!decide (z144 = 0)) rfl (by kernel_rfl) (by kernel_rfl) (by kernel_rfl) (fun hc => ?_) (fun hc => ?_)
    · replace hS := cond_t hc hS
      refine zlRun (n := 19) (j := 25) rfl (by kernel_rfl) ?_
      refine zlEnd (by kernel_rfl) ?_
      refine zkSeq ?_
      refine zrCondT (by kernel_rfl) ?_
      refine zrSeq ?_
      refine zrReg ?_
      refine bindE hS (fun z145 hz145 hS => ?_)
      refine zlOp (d := some 46) (op := (.call 10 [])) (g := none) (v := (.d (.bool z145))) (ups := []) (j := 1) rfl (by kernel_rfl) (by kernel_rfl) (ev_call (args := []) (l := []) (r := (.d (.bool z145))) (by kernel_rfl) (by kernel_rfl) (f10_ok base (d - 1) (dpt hd rfl)  z145 hz145) (by kernel_rfl) (by kernel_rfl) (by kernel_rfl)) ?_
      refine zlRun (n := 1) (j := 2) rfl (by kernel_rfl) ?_
      refine zlEnd (by kernel_rfl) ?_
      refine zkSeq ?_
      refine zrRet ?_
      refine zkSeqR ?_
      refine zkNil ?_
      exact endQ hS hQ (fRet (by kernel_rfl) ((congrArg (fun s => outR s 0 c6.res) (by kernel_rfl : finSt c6.fin _ = f6_fin z145)).trans (f6_out z145)))
    · replace hS := cond_f hc hS
      refine zlRun (n := 3) (j := 9) rfl (by kernel_rfl) ?_
      refine zlBool (d := 30) (op := (.cmpI .lss (.tmp 29) (.const (.int .i64 0)))) (g := (some (28, false))) (j := 10) (decide (a2 < 0)) rfl (by kernel_rfl) (by kernel_rfl) (by kernel_rfl) (fun hc => ?_) (fun hc => ?_)
      · replace hS := cond_t hc hS
        refine zlRun (n := 15) (j := 25) rfl (by kernel_rfl) ?_
        refine zlEnd (by kernel_rfl) ?_
        refine zkSeq ?_
        refine zrCondT (by kernel_rfl) ?_
        refine zrSeq ?_
        refine zrReg ?_
        refine bindE hS (fun z146 hz146 hS => ?_)
        refine zlOp (d := some 46) (op := (.call 10 [])) (g := none) (v := (.d (.bool z146))) (ups := []) (j := 1) rfl (by kernel_rfl) (by kernel_rfl) (ev_call (args := []) (l := []) (r := (.d (.bool z146))) (by kernel_rfl) (by kernel_rfl) (f10_ok base (d - 1) (dpt hd rfl)  z146 hz146) (by kernel_rfl) (by kernel_rfl) (by kernel_rfl)) ?_
        refine zlRun (n := 1) (j := 2) rfl (by kernel_rfl) ?_
        refine zlEnd (by kernel_rfl) ?_
        refine zkSeq ?_
        refine zrRet ?_
        refine zkSeqR ?_
        refine zkNil ?_
        exact endQ hS hQ (fRet (by kernel_rfl) ((congrArg (fun s => outR s 0 c6.res) (by kernel_rfl : finSt c6.fin _ = f6_fin z146)).trans (f6_out z146)))
      · replace hS := cond_f hc hS
        refine zlRun (n := 5) (j := 15) rfl (by kernel_rfl) ?_
        refine zlBool (d := 36) (op := (.cmpI .geq (.tmp 33) (.tmp 35))) (g := (some (32, false))) (j := 16) (decide (a1.High ≤ a2)) rfl (by kernel_rfl) (by kernel_rfl) (by kernel_rfl) (fun hc => ?_) (fun hc => ?_)
        · replace hS := cond_t hc hS
          refine zlRun (n := 9) (j := 25) rfl (by kernel_rfl) ?_
          refine zlEnd (by kernel_rfl) ?_
          refine zkSeq ?_
          refine zrCondT (by kernel_rfl) ?_
          refine zrSeq ?_
          refine zrReg ?_
          refine bindE hS (fun z147 hz147 hS => ?_)
          refine zlOp (d := some 46) (op := (.call 10 [])) (g := none) (v := (.d (.bool z147))) (ups := []) (j := 1) rfl (by kernel_rfl) (by kernel_rfl) (ev_call (args := []) (l := []) (r := (.d (.bool z147))) (by kernel_rfl) (by kernel_rfl) (f10_ok base (d - 1) (dpt hd rfl)  z147 hz147) (by kernel_rfl) (by kernel_rfl) (by kernel_rfl)) ?_
          refine zlRun (n := 1) (j := 2) rfl (by kernel_rfl) ?_
          refine zlEnd (by kernel_rfl) ?_
          refine zkSeq ?_
          refine zrRet ?_
          refine zkSeqR ?_
          refine zkNil ?_
          exact endQ hS hQ (fRet (by kernel_rfl) ((congrArg (fun s => outR s 0 c6.res) (by kernel_rfl : finSt c6.fin _ = f6_fin z147)).trans (f6_out z147)))
        · replace hS := cond_f hc hS
          refine zlRun (n := 3) (j := 19) rfl (by kernel_rfl) ?_
          refine zlBool (d := 40) (op := (.cmpI .lss (.tmp 39) (.const (.int .i64 0)))) (g := (some (38, false))) (j := 20) (decide (a3 < 0)) rfl (by kernel_rfl) (by kernel_rfl) (by kernel_rfl) (fun hc => ?_) (fun hc => ?_)
          · replace hS := cond_t hc hS
            refine zlRun (n := 5) (j := 25) rfl (by kernel_rfl) ?_
            refine zlEnd (by kernel_rfl) ?_
            refine zkSeq ?_
            refine zrCondT (by kernel_rfl) ?_
            refine zrSeq ?_
            refine zrReg ?_
            refine bindE hS (fun z148 hz148 hS => ?_)
            refine zlOp (d := some 46) (op := (.call 10 [])) (g := none) (v := (.d (.bool z148))) (ups := []) (j := 1) rfl (by kernel_rfl) (by kernel_rfl) (ev_call (args := []) (l := []) (r := (.d (.bool z148))) (by kernel_rfl) (by kernel_rfl) (f10_ok base (d - 1) (dpt hd rfl)  z148 hz148) (by kernel_rfl) (by kernel_rfl) (by kernel_rfl)) ?_
            refine zlRun (n := 1) (j := 2) rfl (by kernel_rfl) ?_
            refine zlEnd (by kernel_rfl) ?_
            refine zkSeq ?_
            refine zrRet ?_
            refine zkSeqR ?_
            refine zkNil ?_
            exact endQ hS hQ (fRet (by kernel_rfl) ((congrArg (fun s => outR s 0 c6.res) (by kernel_rfl : finSt c6.fin _ = f6_fin z148)).trans (f6_out z148)))
          · replace hS := cond_f hc hS
            refine zlRun (n := 3) (j := 23) rfl (by kernel_rfl) ?_
            refine zlBool (d := 44) (op := (.cmpI .gtr (.tmp 43) (.const (.int .i64 1000)))) (g := (some (42, false))) (j := 24) (decide (1000 < a3)) rfl (by kernel_rfl) (by kernel_rfl) (by kernel_rfl) (fun hc => ?_) (fun hc => ?_)
            · replace hS := cond_t hc hS
              refine zlRun (n := 1) (j := 25) rfl (by kernel_rfl) ?_
              refine zlEnd (by kernel_rfl) ?_
              refine zkSeq ?_
              refine zrCondT (by kernel_rfl) ?_
              refine zrSeq ?_
              refine zrReg ?_
              refine bindE hS (fun z149 hz149 hS => ?_)
              refine zlOp (d := some 46) (op := (.call 10 [])) (g := none) (v := (.d (.bool z149))) (ups := []) (j := 1) rfl (by kernel_rfl) (by kernel_rfl) (ev_call (args := []) (l := []) (r := (.d (.bool z149))) (by kernel_rfl) (by kernel_rfl) (f10_ok base (d - 1) (dpt hd rfl)  z149 hz149) (by kernel_rfl) (by kernel_rfl) (by kernel_rfl)) ?_
              refine zlRun (n := 1) (j := 2) rfl (by kernel_rfl) ?_
              refine zlEnd (by kernel_rfl) ?_
              refine zkSeq ?_
              refine zrRet ?_
              refine zkSeqR ?_
              refine zkNil ?_
              exact endQ hS hQ (fRet (by kernel_rfl) ((congrArg (fun s => outR s 0 c6.res) (by kernel_rfl : finSt c6.fin _ = f6_fin z149)).trans (f6_out z149)))
            · replace hS := cond_f hc hS
              refine zlRun (n := 1) (j := 25) rfl (by kernel_rfl) ?_
              refine zlEnd (by kernel_rfl) ?_
              refine zkSeq ?_
              refine zrCondF (by kernel_rfl) ?_
              refine zrSkip ?_
              refine zkSeq ?_
              exact f6_j0_ok hd a1 a2 a3 a4 hQ  hS (by kernel_rfl)
end Go.Proofs.Ytipipahbfakcaaa.Pm
