/- Typed functions, and that the codes are these. Printed by dec.py. -/
import Derived.Test.YtjoccdgmcdkbkaaGreatDoorDSzD
namespace Go.Proofs.YtjoccdgmcdkbkaaGreatDoor.Pm
set_option maxRecDepth 1000000
set_option maxHeartbeats 20000000
set_option linter.unusedVariables false
/- farwriter/grid.row -/
def f75v1_fin (p1 : List GCell) (p2 : Nat) (p3 : Nat) : St := ⟨(up (up (fun _ => .un) 2000000 .un) 4 (.r (.msl 0 0 p2 p3))), (up (hB fun _ => 0) 0 ⟨0, some (.own 58 4 (e_GCell.cells p1))⟩)⟩
theorem f75v1_out (p1 : List GCell) (p2 : Nat) (p3 : Nat) : outR (f75v1_fin p1 p2 p3) 1 c75.res = some ((.r (.msl 0 0 p2 p3)), [(.own 58 4 (e_GCell.cells p1))]) := by
  kernel_rfl
def f75v1_Q (r : (List GCell) × Nat × Nat) (e : PX) (st : St) : Prop := DoneF c75 1 ((.r (.msl 0 0 r.2.1 r.2.2)), [(.own 58 4 (e_GCell.cells r.1)), .box []]) e st
noncomputable def f75v1 (a1 : Int) (a2 : Int) (a3 : Int) (a4 : List GCell) : Option ((List GCell) × Nat × Nat) := ((chk (decide (0 ≤ (IntKind.i64.wrap (a3 * a1))) && decide ((IntKind.i64.wrap (a3 * a1)) ≤ (IntKind.i64.wrap ((IntKind.i64.wrap (a3 + 1)) * a1))) && decide ((IntKind.i64.wrap ((IntKind.i64.wrap (a3 + 1)) * a1)) ≤ (a4.length : Int)))).bind fun z2 => (some (a4, (((IntKind.i64.wrap (a3 * a1)) : Int).toNat), (((IntKind.i64.wrap ((IntKind.i64.wrap (a3 + 1)) * a1)) : Int).toNat - ((IntKind.i64.wrap (a3 * a1)) : Int).toNat))))
theorem f75v1_ok (d : Nat) (hd : 1 ≤ d) (a1 : Int) (a2 : Int) (a3 : Int) (a4 : List GCell) (r : (List GCell) × Nat × Nat) (hS : f75v1 a1 a2 a3 a4 = some r) : lev codes baseL d 75 [(.agg ((.d (.int .i64 a1)) :: ((.d (.int .i64 a2)) :: ((.r (.msl 0 0 0 a4.length)) :: [])))), (.d (.int .i64 a3))] [(.own 58 4 (e_GCell.cells a4))] = some ((.r (.msl 0 0 r.2.1 r.2.2)), [(.own 58 4 (e_GCell.cells r.1)), .box []]) := by
  refine lev_go codes75 rfl rfl (Nat.le_trans (Nat.le_of_ble_eq_true rfl) hd) fun Q hQ => ?_
  unfold f75v1 at hS
  show ZR _ Q c75_b [] _
  replace hQ : ∀ e st', f75v1_Q r e st' → Q e st' := hQ
  refine zrSeq ?_
  refine zrReg ?_
  refine zlRun (n := 2) (j := 2) rfl (by kernel_rfl) ?_
  refine zlEnd (by kernel_rfl) ?_
  refine zkSeq ?_
  refine zrSeq ?_
  refine zrReg ?_
  refine zlRun (n := 11) (j := 11) rfl (by kernel_rfl) ?_
  refine bindE hS (fun z2 hz2 hS => ?_)
  refine zlOp (d := some 16) (op := (.slS 58 4 (.tmp 6) (.some (.tmp 10)) (.some (.tmp 15)))) (g := none) (v := (.r (.msl 0 0 (((IntKind.i64.wrap (a3 * a1)) : Int).toNat) (((IntKind.i64.wrap ((IntKind.i64.wrap (a3 + 1)) * a1)) : Int).toNat - ((IntKind.i64.wrap (a3 * a1)) : Int).toNat)))) (ups := []) (j := 12) rfl (by kernel_rfl) (by kernel_rfl) (ev_slM (b := 0) (g := 0) (e := 58) (a := (IntKind.i64.wrap (a3 * a1))) (c := (IntKind.i64.wrap ((IntKind.i64.wrap (a3 + 1)) * a1))) (l := 0) (n := a4.length) (l' := (((IntKind.i64.wrap (a3 * a1)) : Int).toNat)) (n' := (((IntKind.i64.wrap ((IntKind.i64.wrap (a3 + 1)) * a1)) : Int).toNat - ((IntKind.i64.wrap (a3 * a1)) : Int).toNat)) (cs := e_GCell.cells a4) (by kernel_rfl) (by kernel_rfl) (bnd_s _ (kk := .i64) (j := (IntKind.i64.wrap (a3 * a1))) (by kernel_rfl)) (bnd_s _ (kk := .i64) (j := (IntKind.i64.wrap ((IntKind.i64.wrap (a3 + 1)) * a1))) (by kernel_rfl)) hz2 (by simp) rfl) ?_
  refine zlRun (n := 1) (j := 13) rfl (by kernel_rfl) ?_
  refine zlEnd (by kernel_rfl) ?_
  refine zkSeq ?_
  refine zrRet ?_
  refine zkNil ?_
  exact endQ hS hQ (fRetX (by kernel_rfl) (by kernel_rfl : finSt c75.fin _ = f75v1_fin a4 (((IntKind.i64.wrap (a3 * a1)) : Int).toNat) (((IntKind.i64.wrap ((IntKind.i64.wrap (a3 + 1)) * a1)) : Int).toNat - ((IntKind.i64.wrap (a3 * a1)) : Int).toNat)) (by kernel_rfl) (f75v1_out a4 (((IntKind.i64.wrap (a3 * a1)) : Int).toNat) (((IntKind.i64.wrap ((IntKind.i64.wrap (a3 + 1)) * a1)) : Int).toNat - ((IntKind.i64.wrap (a3 * a1)) : Int).toNat)))
/- slices.Clone[[]farwriter/api.Cell,farwriter/api.Cell] -/
def f60_fin (p1 : List GCell) : St := ⟨(up (fun _ => .un) 2 (.r (.msl 97 0 0 p1.length))), (up (hB fun _ => 0) 97 ⟨0, some (.own 58 4 (e_GCell.cells p1))⟩)⟩
theorem f60_out (p1 : List GCell) : outR (f60_fin p1) 0 c60.res = some ((.r (.own 0 58 4 p1.length (e_GCell.cells p1))), []) := by
  exact out_of (ids := []) (ids' := [97]) (l := [(.r (.msl 97 0 0 p1.length))]) (by kernel_rfl) (by kernel_rfl) (o_own e_GCell (e := 58) (k := 4) (xs := p1) (by kernel_rfl) rfl rfl rfl rfl)
def f60_Q (r : List GCell) (e : PX) (st : St) : Prop := DoneF c60 0 ((.r (.own 0 58 4 r.length (e_GCell.cells r))), []) e st
noncomputable def f60 (a1 : List GCell) : Option (List GCell) := ((app? 32 ([] : List GCell) a1).bind fun z2 => (some z2))
theorem f60_ok (d : Nat) (hd : 1 ≤ d) (a1 : List GCell) (r : List GCell) (hS : f60 a1 = some r) : lev codes baseL d 60 [(.d (.sl a1.length (e_GCell.cells a1)))] [] = some ((.r (.own 0 58 4 r.length (e_GCell.cells r))), []) := by
  refine lev_goZ codes60 rfl rfl (Nat.le_trans (Nat.le_of_ble_eq_true rfl) hd) (fun Q hQ => ?_) (fun h0 Q hQ => ?_)
  · unfold f60 at hS
    show ZR _ Q c60_b [] _
    refine zrSeq ?_
    refine zrReg ?_
    refine zlRun (n := 1) (j := 1) rfl (by kernel_rfl) ?_
    refine zlEnd (by kernel_rfl) ?_
    refine zkSeq ?_
    refine zrSeq ?_
    refine zrSeq ?_
    refine zrReg ?_
    refine zlRun (n := 2) (j := 2) rfl (by kernel_rfl) ?_
    refine zlEnd (by kernel_rfl) ?_
    refine zkSeq ?_
    refine zrCondF (by kernel_rfl) ?_
    refine zrSkip ?_
    refine zkSeq ?_
    refine zrSeq ?_
    refine zrReg ?_
    refine zlRun (n := 2) (j := 2) rfl (by kernel_rfl) ?_
    refine bindE hS (fun z2 hz2 hS => ?_)
    refine zlOp (d := some 7) (op := (.app 58 4 32 (.tmp 5) (.tmp 6))) (g := none) (v := (.r (.msl 48 2 0 z2.length))) (ups := [(48, ⟨2, some (.own 58 4 (e_GCell.cells z2))⟩)]) (j := 3) rfl (by kernel_rfl) (by kernel_rfl) (ev_app e_GCell (b := 48) (g := 1) (n := ([] : List GCell).length) (xs := []) (ys := a1) ((congrArg (asL _) (by kernel_rfl : ρof _ (.tmp 6) = (.slz false a1.length (e_GCell.cells a1)))).trans rfl) rfl (by kernel_rfl) rfl (by kernel_rfl) rfl hz2) ?_
    refine zlRun (n := 1) (j := 4) rfl (by kernel_rfl) ?_
    refine zlEnd (by kernel_rfl) ?_
    refine zkSeq ?_
    refine zrRet ?_
    refine zkNil ?_
    exact endQ (F := f60_Q) hS hQ (fRet (by kernel_rfl) ((congrArg (fun s => outR s 0 c60.res) (by kernel_rfl : finSt c60.fin _ = f60_fin z2)).trans (f60_out z2)))
  · have hS : (some []) = some r := by
      have hl := List.eq_nil_of_length_eq_zero h0
      subst hl
      simpa [f60, app?] using hS
    show ZR _ Q c60_b [] _
    refine zrSeq ?_
    refine zrReg ?_
    refine zlRun (n := 1) (j := 1) rfl (by kernel_rfl) ?_
    refine zlEnd (by kernel_rfl) ?_
    refine zkSeq ?_
    refine zrSeq ?_
    refine zrSeq ?_
    refine zrReg ?_
    refine zlRun (n := 2) (j := 2) rfl (by kernel_rfl) ?_
    refine zlEnd (by kernel_rfl) ?_
    refine zkSeq ?_
    refine zrCondT (by kernel_rfl) ?_
    refine zrSeq ?_
    refine zrReg ?_
    refine zlRun (n := 1) (j := 1) rfl (by kernel_rfl) ?_
    refine zlEnd (by kernel_rfl) ?_
    refine zkSeq ?_
    refine zrRet ?_
    refine zkSeqR ?_
    refine zkNil ?_
    exact endQ (F := f60_Q) hS hQ (fRet (by kernel_rfl) ((congrArg (fun s => outR s 0 c60.res) (by kernel_rfl : finSt c60.fin _ = f60_fin [])).trans (f60_out [])))
/- farwriter/grid.repair -/
def f80_fin (p27 : List GCell) : St := ⟨(up (fun _ => .un) 2000000 .un), (up (hB fun _ => 0) 0 ⟨0, some (.own 58 4 (e_GCell.cells p27))⟩)⟩
theorem f80_out (p27 : List GCell) : outR (f80_fin p27) 1 c80.res = some ((.tup []), [(.own 58 4 (e_GCell.cells p27))]) := by
  kernel_rfl
def f80_Q (r : (List GCell)) (e : PX) (st : St) : Prop := DoneF c80 1 ((.tup []), [(.own 58 4 (e_GCell.cells r)), .box []]) e st
def f80_l0_J (a1 : Nat) (a2 : Nat) (a3 : List GCell) (x : (List GCell) × (List GCell) × Int) : St := ⟨(up (up (up (up (fun _ => .un) 8 (.d (.int .i64 x.2.2))) 7 (.d (.int .i64 (a2 : Int)))) 2 (.r (.msl 48 0 0 x.2.1.length))) 0 (.r (.msl 0 0 a1 a2))), (up (up (hB fun _ => 0) 48 ⟨0, some (.own 58 4 (e_GCell.cells x.2.1))⟩) 0 ⟨0, some (.own 58 4 (e_GCell.cells x.1))⟩)⟩
def f80_l0_H (a1 : Nat) (a2 : Nat) (a3 : List GCell) (x : (List GCell) × (List GCell) × Int) (st : St) : Prop := keepSt [0, 2, 7, 8] [(0, .id 0), (48, .id 48)] [] st = f80_l0_J a1 a2 a3 x
def f80_l0_e0_J (a1 : Nat) (a2 : Nat) (a3 : List GCell) (p53 : List GCell) : St := ⟨(fun _ => .un), (up (hB fun _ => 0) 0 ⟨0, some (.own 58 4 (e_GCell.cells p53))⟩)⟩
def f80_l0_X (a1 : Nat) (a2 : Nat) (a3 : List GCell) (z : ((List GCell))) (e : PX) (st : St) : Prop := e = .exit 0 ∧ st = f80_l0_e0_J a1 a2 a3 z
def f80_l0_j2_J (a1 : Nat) (a2 : Nat) (a3 : List GCell) (p62 : List GCell) (p63 : List GCell) (p64 : Int) : St := ⟨(up (up (up (up (fun _ => .un) 8 (.d (.int .i64 p64))) 7 (.d (.int .i64 (a2 : Int)))) 2 (.r (.msl 48 0 0 p63.length))) 0 (.r (.msl 0 0 a1 a2))), (up (up (hB fun _ => 0) 48 ⟨0, some (.own 58 4 (e_GCell.cells p63))⟩) 0 ⟨0, some (.own 58 4 (e_GCell.cells p62))⟩)⟩
noncomputable def f80_l0_j2 (a1 : Nat) (a2 : Nat) (a3 : List GCell) (p62 : List GCell) (p63 : List GCell) (p64 : Int) : Option (((List GCell) × (List GCell) × Int) ⊕ (((List GCell)))) := ((f77 p63 p64).bind fun z47 => (bif z47 then ((inR p64 p63.length).bind fun m48 => ((p63[m48]?).bind fun z49 => ((f110 z49.Pen).bind fun z50 => ((inR p64 a2).bind fun m51 => ((p62[(a1 + m51)]?).bind fun z52 => ((some (p62.set (a1 + m51) z50)).bind fun z53 => (some (.inl (z53, p63, (IntKind.i64.wrap (p64 + 1))))))))))) else (some (.inl (p62, p63, (IntKind.i64.wrap (p64 + 1)))))))
theorem f80_l0_j2_ok {d : Nat} (hd : 4 ≤ d) (a1 : Nat) (a2 : Nat) (a3 : List GCell) {r : ((List GCell) × (List GCell) × Int) ⊕ (((List GCell)))} {Q : PX → St → Prop} (hQ : ∀ e st', finL (f80_l0_H a1 a2 a3) (f80_l0_X a1 a2 a3) r e st' → Q e st') (p62 : List GCell) (p63 : List GCell) (p64 : Int) (hS : f80_l0_j2 a1 a2 a3 p62 p63 p64 = some r) {st : St} (he : keepSt [0, 2, 7, 8] [(0, .id 0), (48, .id 48)] [] st = f80_l0_j2_J a1 a2 a3 p62 p63 p64) : ZR (lev codes baseL (d - 1)) Q c80_1 [] st := by
  refine zrKeep he ?_
  unfold f80_l0_j2 at hS
  refine zrSeq ?_
  refine zrBlk ?_
  refine zrSeq ?_
  refine zrReg ?_
  refine zlRun (n := 2) (j := 2) rfl (by kernel_rfl) ?_
  refine zlEnd (by kernel_rfl) ?_
  refine zkSeq ?_
  refine zrSeq ?_
  refine zrReg ?_
  refine zlRun (n := 2) (j := 2) rfl (by kernel_rfl) ?_
  refine bindE hS (fun z47 hz47 hS => ?_)
  refine zlOp (d := some 13) (op := (.call 77 [(.tmp 11), (.tmp 12)])) (g := none) (j := 3) rfl (by kernel_rfl) (by kernel_rfl) (ev_callB (args := [(.r (.msl 48 0 0 p63.length)), (.d (.int .i64 p64))]) (by kernel_rfl) (l_cons (l_own e_GCell (e := 58) (k := 4) (xs := p63) (by kernel_rfl) rfl rfl) (l_cons (by kernel_rfl) l_nil)) (f77_ok (d - 1) (dpt hd rfl) p63 p64 z47 hz47) (by kernel_rfl) (by kernel_rfl)) ?_
  refine zlEnd (by kernel_rfl) ?_
  refine zkSeq ?_
  refine zrSplit 13 z47 (by kernel_rfl) (fun hc => ?_) (fun hc => ?_)
  · replace hS := cond_t hc hS
    refine zrCondT (by kernel_rfl) ?_
    refine zrReg ?_
    refine zlRun (n := 4) (j := 4) rfl (by kernel_rfl) ?_
    refine bindE hS (fun m48 hm48 hS => ?_)
    refine zlOp (d := some 18) (op := (.ixS 58 4 (.tmp 16) (.tmp 17))) (g := none) (v := (.r (.ptr 48 0 ((0 + m48) * 4)))) (ups := []) (j := 5) rfl (by kernel_rfl) (by kernel_rfl) (ev_ixM (kk := .i64) (b := 48) (g := 0) (l := 0) (n := p63.length) (j := p64) (cs := e_GCell.cells p63) (by kernel_rfl) (by kernel_rfl) (by kernel_rfl) hm48) ?_
    refine zlRun (n := 1) (j := 6) rfl (by kernel_rfl) ?_
    refine bindE hS (fun z49 hz49 hS => ?_)
    refine zlOp (d := some 20) (op := (.load .true 3 (.tmp 19))) (g := none) (v := (.agg ((.d (.int .i64 z49.Pen.Flags)) :: ((.d (.int .i64 z49.Pen.Fore)) :: ((.d (.int .i64 z49.Pen.Back)) :: []))))) (ups := []) (j := 7) rfl (by kernel_rfl) (by kernel_rfl) (ev_loadM e_GCell (b := 48) (g := 0) (o := (0 + m48) * 4 + 1) (e := 58) (k := 4) (m := m48) (fo := 1) (xs := p63) (by kernel_rfl) (by kernel_rfl) (by rw [Nat.zero_add]; rfl) hz49 (by kernel_rfl) (by kernel_rfl) (by kernel_rfl)) ?_
    refine bindE hS (fun z50 hz50 hS => ?_)
    refine zlOp (d := some 21) (op := (.call 110 [(.tmp 20)])) (g := none) (j := 8) rfl (by kernel_rfl) (by kernel_rfl) (ev_callA (by kernel_rfl) (f110_ok (d - 1) (dpt hd rfl) z49.Pen z50 hz50) (by kernel_rfl) (by kernel_rfl)) ?_
    refine bindE hS (fun m51 hm51 hS => ?_)
    refine zlOp (d := some 22) (op := (.ixS 58 4 (.tmp 14) (.tmp 15))) (g := none) (v := (.r (.ptr 0 0 ((a1 + m51) * 4)))) (ups := []) (j := 9) rfl (by kernel_rfl) (by kernel_rfl) (ev_ixM (kk := .i64) (b := 0) (g := 0) (l := a1) (n := a2) (j := p64) (cs := e_GCell.cells p62) (by kernel_rfl) (by kernel_rfl) (by kernel_rfl) hm51) ?_
    refine bindE hS (fun z52 hz52 hS => ?_)
    refine bindE hS (fun z53 hz53 hS => ?_)
    refine zlOp (d := none) (op := (.store 4 (.tmp 22) (.tmp 21))) (g := none) (v := .un) (ups := [(0, ⟨0, some (.own 58 4 (e_GCell.cells (p62.set (a1 + m51) z50)))⟩)]) (j := 10) rfl (by kernel_rfl) (by kernel_rfl) (ev_storeM e_GCell (b := 0) (g := 0) (o := (a1 + m51) * 4) (e := 58) (k := 4) (m := (a1 + m51)) (fo := 0) (xs := p62) (z := z52) (z' := z50) (by kernel_rfl) (new := ((.d (.int .i64 z50.Rune)) :: ((.d (.int .i64 z50.Pen.Flags)) :: ((.d (.int .i64 z50.Pen.Fore)) :: ((.d (.int .i64 z50.Pen.Back)) :: []))))) (ds := [.int .i64 z50.Rune, .int .i64 z50.Pen.Flags, .int .i64 z50.Pen.Fore, .int .i64 z50.Pen.Back]) (by kernel_rfl) (by kernel_rfl) (by kernel_rfl) rfl hz52 (by kernel_rfl) (by kernel_rfl) (by kernel_rfl)) ?_
    have ez53 := Option.some.inj hz53
    have lz53 : p62.length = z53.length := by rw [← ez53, List.length_set]
    rw [ez53]
    try delta f80_l0_j2_J
    try rw [lz53]
    refine zlEnd (by kernel_rfl) ?_
    refine zkBlk ?_
    refine zkSeq ?_
    refine zrReg ?_
    refine zlRun (n := 2) (j := 2) rfl (by kernel_rfl) ?_
    refine zlEnd (by kernel_rfl) ?_
    refine zkNil ?_
    exact endQ hS hQ (finL_n (by show keepSt _ _ _ _ = _; kernel_rfl))
  · replace hS := cond_f hc hS
    refine zrCondF (by kernel_rfl) ?_
    refine zrSkip ?_
    refine zkBlk ?_
    refine zkSeq ?_
    refine zrReg ?_
    refine zlRun (n := 2) (j := 2) rfl (by kernel_rfl) ?_
    refine zlEnd (by kernel_rfl) ?_
    refine zkNil ?_
    exact endQ hS hQ (finL_n (by show keepSt _ _ _ _ = _; kernel_rfl))
def f80_l0_j1_J (a1 : Nat) (a2 : Nat) (a3 : List GCell) (p58 : List GCell) (p59 : List GCell) (p60 : Int) (p61 : Bool) : St := ⟨(up (up (up (up (up (fun _ => .un) 9 (.d (.bool p61))) 8 (.d (.int .i64 p60))) 7 (.d (.int .i64 (a2 : Int)))) 2 (.r (.msl 48 0 0 p59.length))) 0 (.r (.msl 0 0 a1 a2))), (up (up (hB fun _ => 0) 48 ⟨0, some (.own 58 4 (e_GCell.cells p59))⟩) 0 ⟨0, some (.own 58 4 (e_GCell.cells p58))⟩)⟩
noncomputable def f80_l0_j1 (a1 : Nat) (a2 : Nat) (a3 : List GCell) (p58 : List GCell) (p59 : List GCell) (p60 : Int) (p61 : Bool) : Option (((List GCell) × (List GCell) × Int) ⊕ (((List GCell)))) := (bif p61 then (f80_l0_j2 a1 a2 a3 p58 p59 p60) else (some (.inr p58)))
theorem f80_l0_j1_ok {d : Nat} (hd : 4 ≤ d) (a1 : Nat) (a2 : Nat) (a3 : List GCell) {r : ((List GCell) × (List GCell) × Int) ⊕ (((List GCell)))} {Q : PX → St → Prop} (hQ : ∀ e st', finL (f80_l0_H a1 a2 a3) (f80_l0_X a1 a2 a3) r e st' → Q e st') (p58 : List GCell) (p59 : List GCell) (p60 : Int) (p61 : Bool) (hS : f80_l0_j1 a1 a2 a3 p58 p59 p60 p61 = some r) {st : St} (he : keepSt [0, 2, 7, 8, 9] [(0, .id 0), (48, .id 48)] [] st = f80_l0_j1_J a1 a2 a3 p58 p59 p60 p61) : ZR (lev codes baseL (d - 1)) Q c80_2 [] st := by
  refine zrKeep he ?_
  unfold f80_l0_j1 at hS
  refine zrSeq ?_
  refine zrSplit 9 p61 (by kernel_rfl) (fun hc => ?_) (fun hc => ?_)
  · replace hS := cond_t hc hS
    refine zrCondT (by kernel_rfl) ?_
    refine zrSkip ?_
    refine zkSeq ?_
    exact f80_l0_j2_ok hd a1 a2 a3 hQ p58 p59 p60 hS (by kernel_rfl)
  · replace hS := cond_f hc hS
    refine zrCondF (by kernel_rfl) ?_
    refine zrKeep (J := f80_l0_e0_J a1 a2 a3 p58) (by kernel_rfl) ?_
    refine zrExit ?_
    refine zkSeqX ?_
    refine zkNil ?_
    exact endQ hS hQ (finL_x (by intro h; cases h) (by show _ = _ ∧ _ = _; exact ⟨rfl, rfl⟩))
noncomputable def f80_l0 (a1 : Nat) (a2 : Nat) (a3 : List GCell) (x : (List GCell) × (List GCell) × Int) : Option (((List GCell) × (List GCell) × Int) ⊕ (((List GCell)))) := (bif (decide (x.2.2 < (a2 : Int))) then (f80_l0_j1 a1 a2 a3 x.1 x.2.1 x.2.2 true) else (f80_l0_j1 a1 a2 a3 x.1 x.2.1 x.2.2 false))
theorem f80_l0_ok {d : Nat} (hd : 4 ≤ d) (a1 : Nat) (a2 : Nat) (a3 : List GCell) {r : ((List GCell) × (List GCell) × Int) ⊕ (((List GCell)))} {Q : PX → St → Prop} (hQ : ∀ e st', finL (f80_l0_H a1 a2 a3) (f80_l0_X a1 a2 a3) r e st' → Q e st') {x : (List GCell) × (List GCell) × Int} (hS : f80_l0 a1 a2 a3 x = some r) {st : St} (he : f80_l0_H a1 a2 a3 x st) : ZR (lev codes baseL (d - 1)) Q c80_3 [] st := by
  refine zrKeep he ?_
  unfold f80_l0 at hS
  refine zrSeq ?_
  refine zrReg ?_
  refine zlBool (d := 9) (op := (.cmpI .lss (.tmp 8) (.tmp 7))) (g := none) (j := 1) (decide (x.2.2 < (a2 : Int))) rfl (by kernel_rfl) (by kernel_rfl) (by kernel_rfl) (fun hc => ?_) (fun hc => ?_)
  · replace hS := cond_t hc hS
    refine zlEnd (by kernel_rfl) ?_
    refine zkSeq ?_
    exact f80_l0_j1_ok hd a1 a2 a3 hQ x.1 x.2.1 x.2.2 true hS (by kernel_rfl)
  · replace hS := cond_f hc hS
    refine zlEnd (by kernel_rfl) ?_
    refine zkSeq ?_
    exact f80_l0_j1_ok hd a1 a2 a3 hQ x.1 x.2.1 x.2.2 false hS (by kernel_rfl)
noncomputable def f80 (a1 : Nat) (a2 : Nat) (a3 : List GCell) : Option ((List GCell)) := ((part? a3 a1 a2).bind fun z24 => ((f60 z24).bind fun z25 => ((loopO (f80_l0 a1 a2 a3) (a3, z25, 0)).bind fun z54 => (some z54))))
theorem f80_ok (d : Nat) (hd : 4 ≤ d) (a1 : Nat) (a2 : Nat) (a3 : List GCell) (r : (List GCell)) (hS : f80 a1 a2 a3 = some r) : lev codes baseL d 80 [(.r (.msl 0 0 a1 a2))] [(.own 58 4 (e_GCell.cells a3))] = some ((.tup []), [(.own 58 4 (e_GCell.cells r)), .box []]) := by
  refine lev_go codes80 rfl rfl (Nat.le_trans (Nat.le_of_ble_eq_true rfl) hd) fun Q hQ => ?_
  unfold f80 at hS
  show ZR _ Q c80_b [] _
  replace hQ : ∀ e st', f80_Q r e st' → Q e st' := hQ
  refine zrSeq ?_
  refine zrReg ?_
  refine zlRun (n := 1) (j := 1) rfl (by kernel_rfl) ?_
  refine bindE hS (fun z24 hz24 hS => ?_)
  refine bindE hS (fun z25 hz25 hS => ?_)
  refine zlOp (d := some 5) (op := (.call 60 [(.tmp 4)])) (g := none) (j := 2) rfl (by kernel_rfl) (by kernel_rfl) (ev_callB (args := [(.r (.msl 0 0 a1 a2))]) (by kernel_rfl) (l_cons (l_part e_GCell (e := 58) (k := 4) (xs := a3) (by kernel_rfl) rfl hz24) l_nil) (f60_ok (d - 1) (dpt hd rfl) z24 z25 hz25) (by simp only [free_own e_GCell (fun _ => rfl), free_tup, free_agg, free_nl, free_cs, free_int, free_bool, free_str, free_un, free_ni, free_s0, Bool.and_true, Bool.or_true, Bool.and_self]) (by kernel_rfl)) ?_
  refine zlRun (n := 1) (j := 3) rfl (by kernel_rfl) ?_
  refine zlEnd (by kernel_rfl) ?_
  refine zkSeq ?_
  refine zrSeq ?_
  refine zrReg ?_
  refine zlRun (n := 3) (j := 3) rfl (by kernel_rfl) ?_
  refine zlEnd (by kernel_rfl) ?_
  refine zkSeq ?_
  refine zrBlk ?_
  refine bindE hS (fun z54 hz54 hS => ?_)
  refine zrLoop (f80_l0_H a1 a2 a3) (f80_l0_X a1 a2 a3) (fun x st r Q h0 hS hQ => f80_l0_ok hd a1 a2 a3 hQ hS h0) (x := (a3, z25, 0)) (z := z54) (by show keepSt _ _ _ _ = _; kernel_rfl) hz54 ?_
  intro e st' _ hX
  obtain ⟨rfl, rfl⟩ : _ ∧ _ := hX
  refine zkBlkX ?_
  refine zkNil ?_
  exact endQ hS hQ (fNormX (by kernel_rfl) (by kernel_rfl : finSt c80.fin _ = f80_fin z54) (by kernel_rfl) (f80_out z54))
/- farwriter/grid.Size -/
def f56_fin (p78 : Int) (p79 : Int) (p80 : List GCell) (p81 : Int) : St := ⟨(up (up (fun _ => .un) 9 (.d (.int .i64 p81))) 8 (.r (.ptr 72 0 0))), (up (up (hB fun _ => 0) 490 ⟨0, some (.own 58 4 (e_GCell.cells p80))⟩) 72 ⟨0, some (.box ((.d (.int .i64 p78)) :: ((.d (.int .i64 p79)) :: ((.r (.msl 490 0 0 p80.length)) :: []))))⟩)⟩
theorem f56_out (p78 : Int) (p79 : Int) (p80 : List GCell) (p81 : Int) : outR (f56_fin p78 p79 p80 p81) 0 c56.res = some ((.tup [(.agg ((.d (.int .i64 p78)) :: ((.d (.int .i64 p79)) :: ((.r (.own 0 58 4 p80.length (e_GCell.cells p80))) :: [])))), (.d (.int .i64 p81))]), []) := by
  exact out_of (ids := []) (ids' := [490]) (l := [(.agg ((.d (.int .i64 p78)) :: ((.d (.int .i64 p79)) :: ((.r (.msl 490 0 0 p80.length)) :: [])))), (.d (.int .i64 p81))]) (by kernel_rfl) (by kernel_rfl) (o_tup (o_cons (o_agg (o_cons rfl (o_cons rfl (o_cons (o_own e_GCell (e := 58) (k := 4) (xs := p80) (by kernel_rfl) rfl rfl rfl rfl) o_nil)))) (o_cons rfl o_nil)))
def f56_Q (r : Int × Int × (List GCell) × Int) (e : PX) (st : St) : Prop := DoneF c56 0 ((.tup [(.agg ((.d (.int .i64 r.1)) :: ((.d (.int .i64 r.2.1)) :: ((.r (.own 0 58 4 r.2.2.1.length (e_GCell.cells r.2.2.1))) :: [])))), (.d (.int .i64 r.2.2.2))]), []) e st
def f56_l3_J (a1 : GGrid) (a2 : Int) (a3 : Int) (a4 : GPen) (x : Int × Int × (List GCell) × Int) : St := ⟨(up (up (up (up (fun _ => .un) 48 (.d (.int .i64 x.2.2.2))) 47 (.d (.int .i64 a3))) 11 (.r (.ptr 96 0 0))) 8 (.r (.ptr 72 0 0))), (up (up (up (hB fun _ => 0) 208 ⟨0, some (.own 58 4 (e_GCell.cells x.2.2.1))⟩) 96 ⟨0, some (.box ((.d (.int .i64 x.1)) :: ((.d (.int .i64 x.2.1)) :: ((.r (.msl 208 0 0 x.2.2.1.length)) :: []))))⟩) 72 ⟨0, some (.box ((.d (.int .i64 0)) :: ((.d (.int .i64 0)) :: ((.d (.sl ([] : List GCell).length (e_GCell.cells ([])))) :: []))))⟩)⟩
def f56_l3_H (a1 : GGrid) (a2 : Int) (a3 : Int) (a4 : GPen) (x : Int × Int × (List GCell) × Int) (st : St) : Prop := keepSt [8, 11, 47, 48] [(72, .id 72), (96, .id 96), (208, .id 208)] [] st = f56_l3_J a1 a2 a3 a4 x
def f56_l3_e2_J (a1 : GGrid) (a2 : Int) (a3 : Int) (a4 : GPen) (p148 : Int) (p149 : Int) (p150 : List GCell) : St := ⟨(up (up (fun _ => .un) 11 (.r (.ptr 96 0 0))) 8 (.r (.ptr 72 0 0))), (up (up (up (hB fun _ => 0) 208 ⟨0, some (.own 58 4 (e_GCell.cells p150))⟩) 96 ⟨0, some (.box ((.d (.int .i64 p148)) :: ((.d (.int .i64 p149)) :: ((.r (.msl 208 0 0 p150.length)) :: []))))⟩) 72 ⟨0, some (.box ((.d (.int .i64 0)) :: ((.d (.int .i64 0)) :: ((.d (.sl ([] : List GCell).length (e_GCell.cells ([])))) :: []))))⟩)⟩
def f56_l3_X (a1 : GGrid) (a2 : Int) (a3 : Int) (a4 : GPen) (z : (Int × Int × (List GCell))) (e : PX) (st : St) : Prop := e = .exit 2 ∧ st = f56_l3_e2_J a1 a2 a3 a4 z.1 z.2.1 z.2.2
def f56_l3_j5_J (a1 : GGrid) (a2 : Int) (a3 : Int) (a4 : GPen) (p161 : Int) (p162 : Int) (p163 : List GCell) (p164 : Int) : St := ⟨(up (up (up (up (fun _ => .un) 48 (.d (.int .i64 p164))) 47 (.d (.int .i64 a3))) 11 (.r (.ptr 96 0 0))) 8 (.r (.ptr 72 0 0))), (up (up (up (hB fun _ => 0) 208 ⟨0, some (.own 58 4 (e_GCell.cells p163))⟩) 96 ⟨0, some (.box ((.d (.int .i64 p161)) :: ((.d (.int .i64 p162)) :: ((.r (.msl 208 0 0 p163.length)) :: []))))⟩) 72 ⟨0, some (.box ((.d (.int .i64 0)) :: ((.d (.int .i64 0)) :: ((.d (.sl ([] : List GCell).length (e_GCell.cells ([])))) :: []))))⟩)⟩
noncomputable def f56_l3_j5 (a1 : GGrid) (a2 : Int) (a3 : Int) (a4 : GPen) (p161 : Int) (p162 : Int) (p163 : List GCell) (p164 : Int) : Option ((Int × Int × (List GCell) × Int) ⊕ ((Int × Int × (List GCell)))) := ((f75v1 p161 p162 p164 p163).bind fun z59 => ((chk (decide (z59.1.length = p163.length))).bind fun z60 => ((f80 z59.2.1 z59.2.2 z59.1).bind fun z61 => ((chk (decide (z61.length = z59.1.length))).bind fun z62 => (some (.inl (p161, p162, z61, (IntKind.i64.wrap (p164 + 1)))))))))
theorem f56_l3_j5_ok {d : Nat} (hd : 6 ≤ d) (a1 : GGrid) (a2 : Int) (a3 : Int) (a4 : GPen) {r : (Int × Int × (List GCell) × Int) ⊕ ((Int × Int × (List GCell)))} {Q : PX → St → Prop} (hQ : ∀ e st', finL (f56_l3_H a1 a2 a3 a4) (f56_l3_X a1 a2 a3 a4) r e st' → Q e st') (p161 : Int) (p162 : Int) (p163 : List GCell) (p164 : Int) (hS : f56_l3_j5 a1 a2 a3 a4 p161 p162 p163 p164 = some r) {st : St} (he : keepSt [8, 11, 47, 48] [(72, .id 72), (96, .id 96), (208, .id 208)] [] st = f56_l3_j5_J a1 a2 a3 a4 p161 p162 p163 p164) : ZR (lev codes baseL (d - 1)) Q c56_1 [] st := by
  refine zrKeep he ?_
  unfold f56_l3_j5 at hS
  refine zrSeq ?_
  refine zrBlk ?_
  refine zrSeq ?_
  refine zrReg ?_
  refine zlRun (n := 2) (j := 2) rfl (by kernel_rfl) ?_
  refine zlEnd (by kernel_rfl) ?_
  refine zkSeq ?_
  refine zrReg ?_
  refine zlRun (n := 2) (j := 2) rfl (by kernel_rfl) ?_
  refine bindE hS (fun z59 hz59 hS => ?_)
  refine bindE hS (fun z60 hz60 hS => ?_)
  refine zlOp (d := some 53) (op := (.callr 75 [(.tmp 51), (.tmp 52)])) (g := none) (j := 3) rfl (by kernel_rfl) (by kernel_rfl) (ev_callrXA (ids := [208]) (bs := [(.own 58 4 (e_GCell.cells p163))]) (by kernel_rfl) (by kernel_rfl) (by kernel_rfl) (by kernel_rfl) (f75v1_ok (d - 1) (dpt hd rfl) p161 p162 p164 p163 z59 hz59) (by kernel_rfl) (sm_own e_GCell (e1 := 58) (k1 := 4) (xs := p163) (ys := z59.1) (by kernel_rfl) hz60 sm_nil) (by kernel_rfl)) ?_
  have lz60 : p163.length = z59.1.length := (of_decide_eq_true (chk_t hz60)).symm
  try delta f56_l3_j5_J
  try rw [lz60]
  refine bindE hS (fun z61 hz61 hS => ?_)
  refine bindE hS (fun z62 hz62 hS => ?_)
  refine zlOp (d := some 54) (op := (.callr 80 [(.tmp 53)])) (g := none) (j := 4) rfl (by kernel_rfl) (by kernel_rfl) (ev_callrXA (ids := [208]) (bs := [(.own 58 4 (e_GCell.cells z59.1))]) (by kernel_rfl) (by kernel_rfl) (by kernel_rfl) (by kernel_rfl) (f80_ok (d - 1) (dpt hd rfl) z59.2.1 z59.2.2 z59.1 z61 hz61) (by kernel_rfl) (sm_own e_GCell (e1 := 58) (k1 := 4) (xs := z59.1) (ys := z61) (by kernel_rfl) hz62 sm_nil) (by kernel_rfl)) ?_
  have lz62 : z59.1.length = z61.length := (of_decide_eq_true (chk_t hz62)).symm
  try delta f56_l3_j5_J
  try rw [lz62]
  refine zlEnd (by kernel_rfl) ?_
  refine zkBlk ?_
  refine zkSeq ?_
  refine zrReg ?_
  refine zlRun (n := 2) (j := 2) rfl (by kernel_rfl) ?_
  refine zlEnd (by kernel_rfl) ?_
  refine zkNil ?_
  exact endQ hS hQ (finL_n (by show keepSt _ _ _ _ = _; kernel_rfl))
def f56_l3_j4_J (a1 : GGrid) (a2 : Int) (a3 : Int) (a4 : GPen) (p156 : Int) (p157 : Int) (p158 : List GCell) (p159 : Int) (p160 : Bool) : St := ⟨(up (up (up (up (up (fun _ => .un) 49 (.d (.bool p160))) 48 (.d (.int .i64 p159))) 47 (.d (.int .i64 a3))) 11 (.r (.ptr 96 0 0))) 8 (.r (.ptr 72 0 0))), (up (up (up (hB fun _ => 0) 208 ⟨0, some (.own 58 4 (e_GCell.cells p158))⟩) 96 ⟨0, some (.box ((.d (.int .i64 p156)) :: ((.d (.int .i64 p157)) :: ((.r (.msl 208 0 0 p158.length)) :: []))))⟩) 72 ⟨0, some (.box ((.d (.int .i64 0)) :: ((.d (.int .i64 0)) :: ((.d (.sl ([] : List GCell).length (e_GCell.cells ([])))) :: []))))⟩)⟩
noncomputable def f56_l3_j4 (a1 : GGrid) (a2 : Int) (a3 : Int) (a4 : GPen) (p156 : Int) (p157 : Int) (p158 : List GCell) (p159 : Int) (p160 : Bool) : Option ((Int × Int × (List GCell) × Int) ⊕ ((Int × Int × (List GCell)))) := (bif p160 then (f56_l3_j5 a1 a2 a3 a4 p156 p157 p158 p159) else (some (.inr (p156, p157, p158))))
theorem f56_l3_j4_ok {d : Nat} (hd : 6 ≤ d) (a1 : GGrid) (a2 : Int) (a3 : Int) (a4 : GPen) {r : (Int × Int × (List GCell) × Int) ⊕ ((Int × Int × (List GCell)))} {Q : PX → St → Prop} (hQ : ∀ e st', finL (f56_l3_H a1 a2 a3 a4) (f56_l3_X a1 a2 a3 a4) r e st' → Q e st') (p156 : Int) (p157 : Int) (p158 : List GCell) (p159 : Int) (p160 : Bool) (hS : f56_l3_j4 a1 a2 a3 a4 p156 p157 p158 p159 p160 = some r) {st : St} (he : keepSt [8, 11, 47, 48, 49] [(72, .id 72), (96, .id 96), (208, .id 208)] [] st = f56_l3_j4_J a1 a2 a3 a4 p156 p157 p158 p159 p160) : ZR (lev codes baseL (d - 1)) Q c56_2 [] st := by
  refine zrKeep he ?_
  unfold f56_l3_j4 at hS
  refine zrSeq ?_
  refine zrSplit 49 p160 (by kernel_rfl) (fun hc => ?_) (fun hc => ?_)
  · replace hS := cond_t hc hS
    refine zrCondT (by kernel_rfl) ?_
    refine zrSkip ?_
    refine zkSeq ?_
    exact f56_l3_j5_ok hd a1 a2 a3 a4 hQ p156 p157 p158 p159 hS (by kernel_rfl)
  · replace hS := cond_f hc hS
    refine zrCondF (by kernel_rfl) ?_
    refine zrKeep (J := f56_l3_e2_J a1 a2 a3 a4 p156 p157 p158) (by kernel_rfl) ?_
    refine zrExit ?_
    refine zkSeqX ?_
    refine zkNil ?_
    exact endQ hS hQ (finL_x (by intro h; cases h) (by show _ = _ ∧ _ = _; exact ⟨rfl, rfl⟩))
noncomputable def f56_l3 (a1 : GGrid) (a2 : Int) (a3 : Int) (a4 : GPen) (x : Int × Int × (List GCell) × Int) : Option ((Int × Int × (List GCell) × Int) ⊕ ((Int × Int × (List GCell)))) := (bif (decide (x.2.2.2 < a3)) then (f56_l3_j4 a1 a2 a3 a4 x.1 x.2.1 x.2.2.1 x.2.2.2 true) else (f56_l3_j4 a1 a2 a3 a4 x.1 x.2.1 x.2.2.1 x.2.2.2 false))
theorem f56_l3_ok {d : Nat} (hd : 6 ≤ d) (a1 : GGrid) (a2 : Int) (a3 : Int) (a4 : GPen) {r : (Int × Int × (List GCell) × Int) ⊕ ((Int × Int × (List GCell)))} {Q : PX → St → Prop} (hQ : ∀ e st', finL (f56_l3_H a1 a2 a3 a4) (f56_l3_X a1 a2 a3 a4) r e st' → Q e st') {x : Int × Int × (List GCell) × Int} (hS : f56_l3 a1 a2 a3 a4 x = some r) {st : St} (he : f56_l3_H a1 a2 a3 a4 x st) : ZR (lev codes baseL (d - 1)) Q c56_3 [] st := by
  refine zrKeep he ?_
  unfold f56_l3 at hS
  refine zrSeq ?_
  refine zrReg ?_
  refine zlBool (d := 49) (op := (.cmpI .lss (.tmp 48) (.tmp 47))) (g := none) (j := 1) (decide (x.2.2.2 < a3)) rfl (by kernel_rfl) (by kernel_rfl) (by kernel_rfl) (fun hc => ?_) (fun hc => ?_)
  · replace hS := cond_t hc hS
    refine zlEnd (by kernel_rfl) ?_
    refine zkSeq ?_
    exact f56_l3_j4_ok hd a1 a2 a3 a4 hQ x.1 x.2.1 x.2.2.1 x.2.2.2 true hS (by kernel_rfl)
  · replace hS := cond_f hc hS
    refine zlEnd (by kernel_rfl) ?_
    refine zkSeq ?_
    exact f56_l3_j4_ok hd a1 a2 a3 a4 hQ x.1 x.2.1 x.2.2.1 x.2.2.2 false hS (by kernel_rfl)
def f56_j2_J (a1 : GGrid) (a2 : Int) (a3 : Int) (a4 : GPen) (p120 : Int) (p121 : Int) (p122 : List GCell) : St := ⟨(up (up (up (fun _ => .un) 11 (.r (.ptr 96 0 0))) 8 (.r (.ptr 72 0 0))) 2 (.d (.int .i64 a3))), (up (up (up (hB fun _ => 0) 208 ⟨0, some (.own 58 4 (e_GCell.cells p122))⟩) 96 ⟨0, some (.box ((.d (.int .i64 p120)) :: ((.d (.int .i64 p121)) :: ((.r (.msl 208 0 0 p122.length)) :: []))))⟩) 72 ⟨0, some (.box ((.d (.int .i64 0)) :: ((.d (.int .i64 0)) :: ((.d (.sl ([] : List GCell).length (e_GCell.cells ([])))) :: []))))⟩)⟩
noncomputable def f56_j2 (a1 : GGrid) (a2 : Int) (a3 : Int) (a4 : GPen) (p120 : Int) (p121 : Int) (p122 : List GCell) : Option (Int × Int × (List GCell) × Int) := ((loopO (f56_l3 a1 a2 a3 a4) (p120, p121, p122, 0)).bind fun z63 => (some (z63.1, z63.2.1, z63.2.2, 0)))
theorem f56_j2_ok {d : Nat} (hd : 6 ≤ d) (a1 : GGrid) (a2 : Int) (a3 : Int) (a4 : GPen) {r : Int × Int × (List GCell) × Int} {Q : PX → St → Prop} (hQ : ∀ e st', f56_Q r e st' → Q e st') (p120 : Int) (p121 : Int) (p122 : List GCell) (hS : f56_j2 a1 a2 a3 a4 p120 p121 p122 = some r) {st : St} (he : keepSt [2, 8, 11] [(72, .id 72), (96, .id 96), (208, .id 208)] [] st = f56_j2_J a1 a2 a3 a4 p120 p121 p122) : ZR (lev codes baseL (d - 1)) Q c56_4 [] st := by
  refine zrKeep he ?_
  unfold f56_j2 at hS
  refine zrSeq ?_
  refine zrSeq ?_
  refine zrReg ?_
  refine zlRun (n := 2) (j := 2) rfl (by kernel_rfl) ?_
  refine zlEnd (by kernel_rfl) ?_
  refine zkSeq ?_
  refine zrBlk ?_
  refine bindE hS (fun z63 hz63 hS => ?_)
  refine zrLoop (f56_l3_H a1 a2 a3 a4) (f56_l3_X a1 a2 a3 a4) (fun x st r Q h0 hS hQ => f56_l3_ok hd a1 a2 a3 a4 hQ hS h0) (x := (p120, p121, p122, 0)) (z := z63) (by show keepSt _ _ _ _ = _; kernel_rfl) hz63 ?_
  intro e st' _ hX
  obtain ⟨rfl, rfl⟩ : _ ∧ _ := hX
  refine zkBlkX ?_
  refine zkSeq ?_
  refine zrSeq ?_
  refine zrReg ?_
  refine zlRun (n := 3) (j := 3) rfl (by kernel_rfl) ?_
  refine zlEnd (by kernel_rfl) ?_
  refine zkSeq ?_
  refine zrRet ?_
  refine zkNil ?_
  exact endQ hS hQ (fRet (by kernel_rfl) ((congrArg (fun s => outR s 0 c56.res) (by kernel_rfl : finSt c56.fin _ = f56_fin z63.1 z63.2.1 z63.2.2 0)).trans (f56_out z63.1 z63.2.1 z63.2.2 0)))
def f56_l6_J (a1 : GGrid) (a2 : Int) (a3 : Int) (a4 : GPen) (x : Int × Int × (List GCell) × Int) : St := ⟨(up (up (up (up (up (up (fun _ => .un) 36 (.d (.int .i64 x.2.2.2))) 35 (.d (.int .i64 (if a1.High < a3 then a1.High else a3)))) 11 (.r (.ptr 96 0 0))) 8 (.r (.ptr 72 0 0))) 4 (.r (.ptr 40 0 0))) 2 (.d (.int .i64 a3))), (up (up (up (up (hB fun _ => 0) 208 ⟨0, some (.own 58 4 (e_GCell.cells x.2.2.1))⟩) 96 ⟨0, some (.box ((.d (.int .i64 x.1)) :: ((.d (.int .i64 x.2.1)) :: ((.r (.msl 208 0 0 x.2.2.1.length)) :: []))))⟩) 72 ⟨0, some (.box ((.d (.int .i64 0)) :: ((.d (.int .i64 0)) :: ((.d (.sl ([] : List GCell).length (e_GCell.cells ([])))) :: []))))⟩) 40 ⟨0, some (.box ((.d (.int .i64 a1.Wide)) :: ((.d (.int .i64 a1.High)) :: ((.d (.sl a1.Cells.length (e_GCell.cells a1.Cells))) :: []))))⟩)⟩
def f56_l6_H (a1 : GGrid) (a2 : Int) (a3 : Int) (a4 : GPen) (x : Int × Int × (List GCell) × Int) (st : St) : Prop := keepSt [2, 4, 8, 11, 35, 36] [(40, .id 40), (72, .id 72), (96, .id 96), (208, .id 208)] [] st = f56_l6_J a1 a2 a3 a4 x
def f56_l6_e0_J (a1 : GGrid) (a2 : Int) (a3 : Int) (a4 : GPen) (p117 : Int) (p118 : Int) (p119 : List GCell) : St := ⟨(up (up (up (fun _ => .un) 11 (.r (.ptr 96 0 0))) 8 (.r (.ptr 72 0 0))) 2 (.d (.int .i64 a3))), (up (up (up (hB fun _ => 0) 208 ⟨0, some (.own 58 4 (e_GCell.cells p119))⟩) 96 ⟨0, some (.box ((.d (.int .i64 p117)) :: ((.d (.int .i64 p118)) :: ((.r (.msl 208 0 0 p119.length)) :: []))))⟩) 72 ⟨0, some (.box ((.d (.int .i64 0)) :: ((.d (.int .i64 0)) :: ((.d (.sl ([] : List GCell).length (e_GCell.cells ([])))) :: []))))⟩)⟩
def f56_l6_X (a1 : GGrid) (a2 : Int) (a3 : Int) (a4 : GPen) (z : (Int × Int × (List GCell))) (e : PX) (st : St) : Prop := e = .exit 0 ∧ st = f56_l6_e0_J a1 a2 a3 a4 z.1 z.2.1 z.2.2
def f56_l6_j8_J (a1 : GGrid) (a2 : Int) (a3 : Int) (a4 : GPen) (p175 : Int) (p176 : Int) (p177 : List GCell) (p178 : Int) : St := ⟨(up (up (up (up (up (up (fun _ => .un) 36 (.d (.int .i64 p178))) 35 (.d (.int .i64 (if a1.High < a3 then a1.High else a3)))) 11 (.r (.ptr 96 0 0))) 8 (.r (.ptr 72 0 0))) 4 (.r (.ptr 40 0 0))) 2 (.d (.int .i64 a3))), (up (up (up (up (hB fun _ => 0) 208 ⟨0, some (.own 58 4 (e_GCell.cells p177))⟩) 96 ⟨0, some (.box ((.d (.int .i64 p175)) :: ((.d (.int .i64 p176)) :: ((.r (.msl 208 0 0 p177.length)) :: []))))⟩) 72 ⟨0, some (.box ((.d (.int .i64 0)) :: ((.d (.int .i64 0)) :: ((.d (.sl ([] : List GCell).length (e_GCell.cells ([])))) :: []))))⟩) 40 ⟨0, some (.box ((.d (.int .i64 a1.Wide)) :: ((.d (.int .i64 a1.High)) :: ((.d (.sl a1.Cells.length (e_GCell.cells a1.Cells))) :: []))))⟩)⟩
noncomputable def f56_l6_j8 (a1 : GGrid) (a2 : Int) (a3 : Int) (a4 : GPen) (p175 : Int) (p176 : Int) (p177 : List GCell) (p178 : Int) : Option ((Int × Int × (List GCell) × Int) ⊕ ((Int × Int × (List GCell)))) := ((f75v1 p175 p176 p178 p177).bind fun z64 => ((chk (decide (z64.1.length = p177.length))).bind fun z65 => ((f75 a1 p178).bind fun z66 => ((chk (decide (z64.2.1 + z64.2.2 ≤ z64.1.length))).bind fun z67 => ((some (cpyL z64.1 z64.2.1 z64.2.2 z66)).bind fun z68 => (some (.inl (p175, p176, z68, (IntKind.i64.wrap (p178 + 1))))))))))
theorem f56_l6_j8_ok {d : Nat} (hd : 6 ≤ d) (a1 : GGrid) (a2 : Int) (a3 : Int) (a4 : GPen) {r : (Int × Int × (List GCell) × Int) ⊕ ((Int × Int × (List GCell)))} {Q : PX → St → Prop} (hQ : ∀ e st', finL (f56_l6_H a1 a2 a3 a4) (f56_l6_X a1 a2 a3 a4) r e st' → Q e st') (p175 : Int) (p176 : Int) (p177 : List GCell) (p178 : Int) (hS : f56_l6_j8 a1 a2 a3 a4 p175 p176 p177 p178 = some r) {st : St} (he : keepSt [2, 4, 8, 11, 35, 36] [(40, .id 40), (72, .id 72), (96, .id 96), (208, .id 208)] [] st = f56_l6_j8_J a1 a2 a3 a4 p175 p176 p177 p178) : ZR (lev codes baseL (d - 1)) Q c56_5 [] st := by
  refine zrKeep he ?_
  unfold f56_l6_j8 at hS
  refine zrSeq ?_
  refine zrBlk ?_
  refine zrSeq ?_
  refine zrReg ?_
  refine zlRun (n := 2) (j := 2) rfl (by kernel_rfl) ?_
  refine zlEnd (by kernel_rfl) ?_
  refine zkSeq ?_
  refine zrRegD ?_
  refine zdRun (n := 2) (j := 2) (ts := [[(96, false)], []]) (acc' := [[(96, false)], []]) rfl (by kernel_rfl) (by kernel_rfl) (by kernel_rfl) ?_
  refine bindE hS (fun z64 hz64 hS => ?_)
  refine bindE hS (fun z65 hz65 hS => ?_)
  refine zdOp (d := some 41) (op := (.callr 75 [(.tmp 39), (.tmp 40)])) (g := none) (j := 3) (t1 := [(208, true), (208, false), (336, true), (337, true), (338, true), (339, true), (340, true), (341, true), (342, true), (343, true)]) (acc' := [[(96, false)], [], [(208, true), (208, false), (336, true), (337, true), (338, true), (339, true), (340, true), (341, true), (342, true), (343, true)]]) (by kernel_rfl) (by kernel_rfl) rfl (by kernel_rfl) (by kernel_rfl) (ev_callrXA (ids := [208]) (bs := [(.own 58 4 (e_GCell.cells p177))]) (by kernel_rfl) (by kernel_rfl) (by kernel_rfl) (by kernel_rfl) (f75v1_ok (d - 1) (dpt hd rfl) p175 p176 p178 p177 z64 hz64) (by kernel_rfl) (sm_own e_GCell (e1 := 58) (k1 := 4) (xs := p177) (ys := z64.1) (by kernel_rfl) hz65 sm_nil) (by kernel_rfl)) ?_
  have lz65 : p177.length = z64.1.length := (of_decide_eq_true (chk_t hz65)).symm
  try delta f56_l6_j8_J
  try rw [lz65]
  refine zdRun (n := 2) (j := 5) (ts := [[(40, false)], []]) (acc' := [[(96, false)], [], [(208, true), (208, false), (336, true), (337, true), (338, true), (339, true), (340, true), (341, true), (342, true), (343, true)], [(40, false)], []]) rfl (by kernel_rfl) (by kernel_rfl) (by kernel_rfl) ?_
  refine bindE hS (fun z66 hz66 hS => ?_)
  refine zdOp (d := some 44) (op := (.callr 75 [(.tmp 42), (.tmp 43)])) (g := none) (j := 6) (t1 := [(360, true), (361, true), (362, true), (363, true), (364, true), (365, true), (366, true), (367, true)]) (acc' := [[(96, false)], [], [(208, true), (208, false), (336, true), (337, true), (338, true), (339, true), (340, true), (341, true), (342, true), (343, true)], [(40, false)], [], [(360, true), (361, true), (362, true), (363, true), (364, true), (365, true), (366, true), (367, true)]]) (by kernel_rfl) (by kernel_rfl) rfl (by kernel_rfl) (by kernel_rfl) (ev_callrXA (ids := []) (bs := []) (by kernel_rfl) (by kernel_rfl) (by kernel_rfl) (by kernel_rfl) (f75_ok (d - 1) (dpt hd rfl) a1 p178 z66 hz66) (by kernel_rfl) sm_nil (by kernel_rfl)) ?_
  refine bindE hS (fun z67 hz67 hS => ?_)
  refine bindE hS (fun z68 hz68 hS => ?_)
  refine zdOp (d := some 45) (op := (.cpy 4 (.tmp 41) (.tmp 44))) (g := none) (v := (.d (.int .i64 ((min z66.length z64.2.2 : Nat) : Int)))) (ups := [(208, ⟨0, some (.own 58 4 (e_GCell.cells (cpyL z64.1 z64.2.1 z64.2.2 z66)))⟩)]) (j := 7) (t1 := [(208, true)]) (acc' := [[(96, false)], [], [(208, true), (208, false), (336, true), (337, true), (338, true), (339, true), (340, true), (341, true), (342, true), (343, true)], [(40, false)], [], [(360, true), (361, true), (362, true), (363, true), (364, true), (365, true), (366, true), (367, true)], [(208, true)]]) (by kernel_rfl) (by kernel_rfl) rfl (by kernel_rfl) (by kernel_rfl) (ev_cpy e_GCell (b := 208) (g := 0) (l := z64.2.1) (n := z64.2.2) (e := 58) (xs := z64.1) (ys := z66) (by kernel_rfl) (by kernel_rfl) rfl ((congrArg (asL _) (by kernel_rfl : ρof _ (.tmp 44) = (.d (.sl z66.length (e_GCell.cells z66))))).trans (as_d _ _)) hz67) ?_
  have ez68 := Option.some.inj hz68
  have lz68 : z64.1.length = z68.length := by rw [← ez68]; exact (cpyL_len (of_decide_eq_true (chk_t hz67))).symm
  rw [ez68]
  try delta f56_l6_j8_J
  try rw [lz68]
  refine zdEnd (by kernel_rfl) (by kernel_rfl) ?_
  refine zkBlk ?_
  refine zkSeq ?_
  refine zrReg ?_
  refine zlRun (n := 2) (j := 2) rfl (by kernel_rfl) ?_
  refine zlEnd (by kernel_rfl) ?_
  refine zkNil ?_
  exact endQ hS hQ (finL_n (by show keepSt _ _ _ _ = _; kernel_rfl))
def f56_l6_j7_J (a1 : GGrid) (a2 : Int) (a3 : Int) (a4 : GPen) (p170 : Int) (p171 : Int) (p172 : List GCell) (p173 : Int) (p174 : Bool) : St := ⟨(up (up (up (up (up (up (up (fun _ => .un) 37 (.d (.bool p174))) 36 (.d (.int .i64 p173))) 35 (.d (.int .i64 (if a1.High < a3 then a1.High else a3)))) 11 (.r (.ptr 96 0 0))) 8 (.r (.ptr 72 0 0))) 4 (.r (.ptr 40 0 0))) 2 (.d (.int .i64 a3))), (up (up (up (up (hB fun _ => 0) 208 ⟨0, some (.own 58 4 (e_GCell.cells p172))⟩) 96 ⟨0, some (.box ((.d (.int .i64 p170)) :: ((.d (.int .i64 p171)) :: ((.r (.msl 208 0 0 p172.length)) :: []))))⟩) 72 ⟨0, some (.box ((.d (.int .i64 0)) :: ((.d (.int .i64 0)) :: ((.d (.sl ([] : List GCell).length (e_GCell.cells ([])))) :: []))))⟩) 40 ⟨0, some (.box ((.d (.int .i64 a1.Wide)) :: ((.d (.int .i64 a1.High)) :: ((.d (.sl a1.Cells.length (e_GCell.cells a1.Cells))) :: []))))⟩)⟩
noncomputable def f56_l6_j7 (a1 : GGrid) (a2 : Int) (a3 : Int) (a4 : GPen) (p170 : Int) (p171 : Int) (p172 : List GCell) (p173 : Int) (p174 : Bool) : Option ((Int × Int × (List GCell) × Int) ⊕ ((Int × Int × (List GCell)))) := (bif p174 then (f56_l6_j8 a1 a2 a3 a4 p170 p171 p172 p173) else (some (.inr (p170, p171, p172))))
theorem f56_l6_j7_ok {d : Nat} (hd : 6 ≤ d) (a1 : GGrid) (a2 : Int) (a3 : Int) (a4 : GPen) {r : (Int × Int × (List GCell) × Int) ⊕ ((Int × Int × (List GCell)))} {Q : PX → St → Prop} (hQ : ∀ e st', finL (f56_l6_H a1 a2 a3 a4) (f56_l6_X a1 a2 a3 a4) r e st' → Q e st') (p170 : Int) (p171 : Int) (p172 : List GCell) (p173 : Int) (p174 : Bool) (hS : f56_l6_j7 a1 a2 a3 a4 p170 p171 p172 p173 p174 = some r) {st : St} (he : keepSt [2, 4, 8, 11, 35, 36, 37] [(40, .id 40), (72, .id 72), (96, .id 96), (208, .id 208)] [] st = f56_l6_j7_J a1 a2 a3 a4 p170 p171 p172 p173 p174) : ZR (lev codes baseL (d - 1)) Q c56_6 [] st := by
  refine zrKeep he ?_
  unfold f56_l6_j7 at hS
  refine zrSeq ?_
  refine zrSplit 37 p174 (by kernel_rfl) (fun hc => ?_) (fun hc => ?_)
  · replace hS := cond_t hc hS
    refine zrCondT (by kernel_rfl) ?_
    refine zrSkip ?_
    refine zkSeq ?_
    exact f56_l6_j8_ok hd a1 a2 a3 a4 hQ p170 p171 p172 p173 hS (by kernel_rfl)
  · replace hS := cond_f hc hS
    refine zrCondF (by kernel_rfl) ?_
    refine zrKeep (J := f56_l6_e0_J a1 a2 a3 a4 p170 p171 p172) (by kernel_rfl) ?_
    refine zrExit ?_
    refine zkSeqX ?_
    refine zkNil ?_
    exact endQ hS hQ (finL_x (by intro h; cases h) (by show _ = _ ∧ _ = _; exact ⟨rfl, rfl⟩))
noncomputable def f56_l6 (a1 : GGrid) (a2 : Int) (a3 : Int) (a4 : GPen) (x : Int × Int × (List GCell) × Int) : Option ((Int × Int × (List GCell) × Int) ⊕ ((Int × Int × (List GCell)))) := (bif (decide (x.2.2.2 < (if a1.High < a3 then a1.High else a3))) then (f56_l6_j7 a1 a2 a3 a4 x.1 x.2.1 x.2.2.1 x.2.2.2 true) else (f56_l6_j7 a1 a2 a3 a4 x.1 x.2.1 x.2.2.1 x.2.2.2 false))
theorem f56_l6_ok {d : Nat} (hd : 6 ≤ d) (a1 : GGrid) (a2 : Int) (a3 : Int) (a4 : GPen) {r : (Int × Int × (List GCell) × Int) ⊕ ((Int × Int × (List GCell)))} {Q : PX → St → Prop} (hQ : ∀ e st', finL (f56_l6_H a1 a2 a3 a4) (f56_l6_X a1 a2 a3 a4) r e st' → Q e st') {x : Int × Int × (List GCell) × Int} (hS : f56_l6 a1 a2 a3 a4 x = some r) {st : St} (he : f56_l6_H a1 a2 a3 a4 x st) : ZR (lev codes baseL (d - 1)) Q c56_7 [] st := by
  refine zrKeep he ?_
  unfold f56_l6 at hS
  refine zrSeq ?_
  refine zrReg ?_
  refine zlBool (d := 37) (op := (.cmpI .lss (.tmp 36) (.tmp 35))) (g := none) (j := 1) (decide (x.2.2.2 < (if a1.High < a3 then a1.High else a3))) rfl (by kernel_rfl) (by kernel_rfl) (by kernel_rfl) (fun hc => ?_) (fun hc => ?_)
  · replace hS := cond_t hc hS
    refine zlEnd (by kernel_rfl) ?_
    refine zkSeq ?_
    exact f56_l6_j7_ok hd a1 a2 a3 a4 hQ x.1 x.2.1 x.2.2.1 x.2.2.2 true hS (by kernel_rfl)
  · replace hS := cond_f hc hS
    refine zlEnd (by kernel_rfl) ?_
    refine zkSeq ?_
    exact f56_l6_j7_ok hd a1 a2 a3 a4 hQ x.1 x.2.1 x.2.2.1 x.2.2.2 false hS (by kernel_rfl)
def f56_j1_J (a1 : GGrid) (a2 : Int) (a3 : Int) (a4 : GPen) (p89 : Int) (p90 : Int) (p91 : List GCell) : St := ⟨(up (up (up (up (fun _ => .un) 11 (.r (.ptr 96 0 0))) 8 (.r (.ptr 72 0 0))) 4 (.r (.ptr 40 0 0))) 2 (.d (.int .i64 a3))), (up (up (up (up (hB fun _ => 0) 208 ⟨0, some (.own 58 4 (e_GCell.cells p91))⟩) 96 ⟨0, some (.box ((.d (.int .i64 p89)) :: ((.d (.int .i64 p90)) :: ((.r (.msl 208 0 0 p91.length)) :: []))))⟩) 72 ⟨0, some (.box ((.d (.int .i64 0)) :: ((.d (.int .i64 0)) :: ((.d (.sl ([] : List GCell).length (e_GCell.cells ([])))) :: []))))⟩) 40 ⟨0, some (.box ((.d (.int .i64 a1.Wide)) :: ((.d (.int .i64 a1.High)) :: ((.d (.sl a1.Cells.length (e_GCell.cells a1.Cells))) :: []))))⟩)⟩
noncomputable def f56_j1 (a1 : GGrid) (a2 : Int) (a3 : Int) (a4 : GPen) (p89 : Int) (p90 : Int) (p91 : List GCell) : Option (Int × Int × (List GCell) × Int) := ((loopO (f56_l6 a1 a2 a3 a4) (p89, p90, p91, 0)).bind fun z69 => (f56_j2 a1 a2 a3 a4 z69.1 z69.2.1 z69.2.2))
theorem f56_j1_ok {d : Nat} (hd : 6 ≤ d) (a1 : GGrid) (a2 : Int) (a3 : Int) (a4 : GPen) {r : Int × Int × (List GCell) × Int} {Q : PX → St → Prop} (hQ : ∀ e st', f56_Q r e st' → Q e st') (p89 : Int) (p90 : Int) (p91 : List GCell) (hS : f56_j1 a1 a2 a3 a4 p89 p90 p91 = some r) {st : St} (he : keepSt [2, 4, 8, 11] [(40, .id 40), (72, .id 72), (96, .id 96), (208, .id 208)] [] st = f56_j1_J a1 a2 a3 a4 p89 p90 p91) : ZR (lev codes baseL (d - 1)) Q c56_8 [] st := by
  refine zrKeep he ?_
  unfold f56_j1 at hS
  refine zrSeq ?_
  refine zrSeq ?_
  refine zrReg ?_
  refine zlRun (n := 5) (j := 5) rfl (by kernel_rfl) ?_
  refine zlEnd (by kernel_rfl) ?_
  refine zkSeq ?_
  refine zrBlk ?_
  refine bindE hS (fun z69 hz69 hS => ?_)
  refine zrLoop (f56_l6_H a1 a2 a3 a4) (f56_l6_X a1 a2 a3 a4) (fun x st r Q h0 hS hQ => f56_l6_ok hd a1 a2 a3 a4 hQ hS h0) (x := (p89, p90, p91, 0)) (z := z69) (by show keepSt _ _ _ _ = _; kernel_rfl) hz69 ?_
  intro e st' _ hX
  obtain ⟨rfl, rfl⟩ : _ ∧ _ := hX
  refine zkBlkX ?_
  refine zkSeq ?_
  exact f56_j2_ok hd a1 a2 a3 a4 hQ z69.1 z69.2.1 z69.2.2 hS (by kernel_rfl)
def f56_j0_J (a1 : GGrid) (a2 : Int) (a3 : Int) (a4 : GPen) : St := ⟨(up (up (up (up (up (fun _ => .un) 8 (.r (.ptr 72 0 0))) 7 (.r (.ptr 64 0 0))) 4 (.r (.ptr 40 0 0))) 2 (.d (.int .i64 a3))) 1 (.d (.int .i64 a2))), (up (up (up (hB fun _ => 0) 72 ⟨0, some (.box ((.d (.int .i64 0)) :: ((.d (.int .i64 0)) :: ((.d (.sl ([] : List GCell).length (e_GCell.cells ([])))) :: []))))⟩) 64 ⟨0, some (.box ((.d (.int .i64 a4.Flags)) :: ((.d (.int .i64 a4.Fore)) :: ((.d (.int .i64 a4.Back)) :: []))))⟩) 40 ⟨0, some (.box ((.d (.int .i64 a1.Wide)) :: ((.d (.int .i64 a1.High)) :: ((.d (.sl a1.Cells.length (e_GCell.cells a1.Cells))) :: []))))⟩)⟩
noncomputable def f56_j0 (a1 : GGrid) (a2 : Int) (a3 : Int) (a4 : GPen) : Option (Int × Int × (List GCell) × Int) := ((f53 a2 a3 a4).bind fun z31 => (bif (!decide (z31.2.2.2 = 0)) then (some (0, 0, [], z31.2.2.2)) else (f56_j1 a1 a2 a3 a4 z31.1 z31.2.1 z31.2.2.1)))
theorem f56_j0_ok {d : Nat} (hd : 6 ≤ d) (a1 : GGrid) (a2 : Int) (a3 : Int) (a4 : GPen) {r : Int × Int × (List GCell) × Int} {Q : PX → St → Prop} (hQ : ∀ e st', f56_Q r e st' → Q e st')  (hS : f56_j0 a1 a2 a3 a4 = some r) {st : St} (he : keepSt [1, 2, 4, 7, 8] [(40, .id 40), (64, .id 64), (72, .id 72)] [.cell 72 2 0 0 1] st = f56_j0_J a1 a2 a3 a4) : ZR (lev codes baseL (d - 1)) Q c56_9 [] st := by
  refine zrKeep he ?_
  unfold f56_j0 at hS
  refine zrSeq ?_
  refine zrReg ?_
  refine zlRun (n := 3) (j := 3) rfl (by kernel_rfl) ?_
  refine bindE hS (fun z31 hz31 hS => ?_)
  refine zlOp (d := some 25) (op := (.call 53 [(.tmp 22), (.tmp 23), (.tmp 24)])) (g := none) (j := 4) rfl (by kernel_rfl) (by kernel_rfl) (ev_callA (by kernel_rfl) (f53_ok (d - 1) (dpt hd rfl) a2 a3 a4 z31 hz31) (by kernel_rfl) (by kernel_rfl)) ?_
  refine zlRun (n := 6) (j := 10) rfl (by kernel_rfl) ?_
  refine zlEnd (by kernel_rfl) ?_
  refine zkSeq ?_
  refine zrSeq ?_
  refine zrSeq ?_
  refine zrReg ?_
  refine zlRun (n := 1) (j := 1) rfl (by kernel_rfl) ?_
  refine zlBool (d := 29) (op := (.cmpI .neq (.tmp 28) (.const (.int .i64 0)))) (g := none) (j := 2) (!decide (z31.2.2.2 = 0)) rfl (by kernel_rfl) (by kernel_rfl) (by kernel_rfl) (fun hc => ?_) (fun hc => ?_)
  · replace hS := cond_t hc hS
    refine zlEnd (by kernel_rfl) ?_
    refine zkSeq ?_
    refine zrCondT (by kernel_rfl) ?_
    refine zrSeq ?_
    refine zrReg ?_
    refine zlRun (n := 4) (j := 4) rfl (by kernel_rfl) ?_
    refine zlEnd (by kernel_rfl) ?_
    refine zkSeq ?_
    refine zrRet ?_
    refine zkSeqR ?_
    refine zkNil ?_
    exact endQ hS hQ (fRet (by kernel_rfl) ((congrArg (fun s => outR s 0 c56.res) (by kernel_rfl : finSt c56.fin _ = f56_fin 0 0 [] z31.2.2.2)).trans (f56_out 0 0 [] z31.2.2.2)))
  · replace hS := cond_f hc hS
    refine zlEnd (by kernel_rfl) ?_
    refine zkSeq ?_
    refine zrCondF (by kernel_rfl) ?_
    refine zrSkip ?_
    refine zkSeq ?_
    exact f56_j1_ok hd a1 a2 a3 a4 hQ z31.1 z31.2.1 z31.2.2.1 hS (by kernel_rfl)
noncomputable def f56 (a1 : GGrid) (a2 : Int) (a3 : Int) (a4 : GPen) : Option (Int × Int × (List GCell) × Int) := ((f48 a1).bind fun z70 => (bif (!decide (z70 = 0)) then (some (0, 0, [], z70)) else (f56_j0 a1 a2 a3 a4 )))
theorem f56_ok (d : Nat) (hd : 6 ≤ d) (a1 : GGrid) (a2 : Int) (a3 : Int) (a4 : GPen) (r : Int × Int × (List GCell) × Int) (hS : f56 a1 a2 a3 a4 = some r) : lev codes baseL d 56 [(.agg ((.d (.int .i64 a1.Wide)) :: ((.d (.int .i64 a1.High)) :: ((.d (.sl a1.Cells.length (e_GCell.cells a1.Cells))) :: [])))), (.d (.int .i64 a2)), (.d (.int .i64 a3)), (.agg ((.d (.int .i64 a4.Flags)) :: ((.d (.int .i64 a4.Fore)) :: ((.d (.int .i64 a4.Back)) :: []))))] [] = some ((.tup [(.agg ((.d (.int .i64 r.1)) :: ((.d (.int .i64 r.2.1)) :: ((.r (.own 0 58 4 r.2.2.1.length (e_GCell.cells r.2.2.1))) :: [])))), (.d (.int .i64 r.2.2.2))]), []) := by
  refine lev_go codes56 rfl rfl (Nat.le_trans (Nat.le_of_ble_eq_true rfl) hd) fun Q hQ => ?_
  unfold f56 at hS
  show ZR _ Q c56_b [] _
  replace hQ : ∀ e st', f56_Q r e st' → Q e st' := hQ
  refine zrSeq ?_
  refine zrReg ?_
  refine zlRun (n := 4) (j := 4) rfl (by kernel_rfl) ?_
  refine zlEnd (by kernel_rfl) ?_
  refine zkSeq ?_
  refine zrSeq ?_
  refine zrSeq ?_
  refine zrReg ?_
  refine zlRun (n := 1) (j := 1) rfl (by kernel_rfl) ?_
  refine bindE hS (fun z70 hz70 hS => ?_)
  refine zlOp (d := some 16) (op := (.call 48 [(.tmp 15)])) (g := none) (j := 2) rfl (by kernel_rfl) (by kernel_rfl) (ev_callA (by kernel_rfl) (f48_ok (d - 1) (dpt hd rfl) a1 z70 hz70) (by kernel_rfl) (by kernel_rfl)) ?_
  refine zlRun (n := 1) (j := 3) rfl (by kernel_rfl) ?_
  refine zlEnd (by kernel_rfl) ?_
  refine zkSeq ?_
  refine zrSeq ?_
  refine zrReg ?_
  refine zlRun (n := 1) (j := 1) rfl (by kernel_rfl) ?_
  refine zlBool (d := 18) (op := (.cmpI .neq (.tmp 17) (.const (.int .i64 0)))) (g := none) (j := 2) (!decide (z70 = 0)) rfl (by kernel_rfl) (by kernel_rfl) (by kernel_rfl) (fun hc => ?_) (fun hc => ?_)
  · replace hS := cond_t hc hS
    refine zlEnd (by kernel_rfl) ?_
    refine zkSeq ?_
    refine zrCondT (by kernel_rfl) ?_
    refine zrSeq ?_
    refine zrReg ?_
    refine zlRun (n := 4) (j := 4) rfl (by kernel_rfl) ?_
    refine zlEnd (by kernel_rfl) ?_
    refine zkSeq ?_
    refine zrRet ?_
    refine zkSeqR ?_
    refine zkNil ?_
    exact endQ hS hQ (fRet (by kernel_rfl) ((congrArg (fun s => outR s 0 c56.res) (by kernel_rfl : finSt c56.fin _ = f56_fin 0 0 [] z70)).trans (f56_out 0 0 [] z70)))
  · replace hS := cond_f hc hS
    refine zlEnd (by kernel_rfl) ?_
    refine zkSeq ?_
    refine zrCondF (by kernel_rfl) ?_
    refine zrSkip ?_
    refine zkSeq ?_
    exact f56_j0_ok hd a1 a2 a3 a4 hQ  hS (by kernel_rfl)
/- farwriter/grid.Clone -/
def f54_fin (p1 : Int) (p2 : Int) (p3 : List GCell) : St := ⟨(up (fun _ => .un) 2 (.r (.ptr 24 0 0))), (up (up (hB fun _ => 0) 48 ⟨0, some (.own 58 4 (e_GCell.cells p3))⟩) 24 ⟨0, some (.box ((.d (.int .i64 p1)) :: ((.d (.int .i64 p2)) :: ((.r (.msl 48 0 0 p3.length)) :: []))))⟩)⟩
theorem f54_out (p1 : Int) (p2 : Int) (p3 : List GCell) : outR (f54_fin p1 p2 p3) 0 c54.res = some ((.agg ((.d (.int .i64 p1)) :: ((.d (.int .i64 p2)) :: ((.r (.own 0 58 4 p3.length (e_GCell.cells p3))) :: [])))), []) := by
  exact out_of (ids := []) (ids' := [48]) (l := [(.agg ((.d (.int .i64 p1)) :: ((.d (.int .i64 p2)) :: ((.r (.msl 48 0 0 p3.length)) :: []))))]) (by kernel_rfl) (by kernel_rfl) (o_agg (o_cons rfl (o_cons rfl (o_cons (o_own e_GCell (e := 58) (k := 4) (xs := p3) (by kernel_rfl) rfl rfl rfl rfl) o_nil))))
def f54_Q (r : Int × Int × (List GCell)) (e : PX) (st : St) : Prop := DoneF c54 0 ((.agg ((.d (.int .i64 r.1)) :: ((.d (.int .i64 r.2.1)) :: ((.r (.own 0 58 4 r.2.2.length (e_GCell.cells r.2.2))) :: [])))), []) e st
noncomputable def f54 (a1 : GGrid) : Option (Int × Int × (List GCell)) := ((f60 a1.Cells).bind fun z2 => (some (a1.Wide, a1.High, z2)))
theorem f54_ok (d : Nat) (hd : 2 ≤ d) (a1 : GGrid) (r : Int × Int × (List GCell)) (hS : f54 a1 = some r) : lev codes baseL d 54 [(.agg ((.d (.int .i64 a1.Wide)) :: ((.d (.int .i64 a1.High)) :: ((.d (.sl a1.Cells.length (e_GCell.cells a1.Cells))) :: []))))] [] = some ((.agg ((.d (.int .i64 r.1)) :: ((.d (.int .i64 r.2.1)) :: ((.r (.own 0 58 4 r.2.2.length (e_GCell.cells r.2.2))) :: [])))), []) := by
  refine lev_go codes54 rfl rfl (Nat.le_trans (Nat.le_of_ble_eq_true rfl) hd) fun Q hQ => ?_
  unfold f54 at hS
  show ZR _ Q c54_b [] _
  replace hQ : ∀ e st', f54_Q r e st' → Q e st' := hQ
  refine zrSeq ?_
  refine zrReg ?_
  refine zlRun (n := 2) (j := 2) rfl (by kernel_rfl) ?_
  refine zlEnd (by kernel_rfl) ?_
  refine zkSeq ?_
  refine zrSeq ?_
  refine zrReg ?_
  refine zlRun (n := 2) (j := 2) rfl (by kernel_rfl) ?_
  refine bindE hS (fun z2 hz2 hS => ?_)
  refine zlOp (d := some 5) (op := (.call 60 [(.tmp 4)])) (g := none) (j := 3) rfl (by kernel_rfl) (by kernel_rfl) (ev_callA (by kernel_rfl) (f60_ok (d - 1) (dpt hd rfl) a1.Cells z2 hz2) (by kernel_rfl) (by kernel_rfl)) ?_
  refine zlRun (n := 2) (j := 5) rfl (by kernel_rfl) ?_
  refine zlEnd (by kernel_rfl) ?_
  refine zkSeq ?_
  refine zrSeq ?_
  refine zrReg ?_
  refine zlRun (n := 2) (j := 2) rfl (by kernel_rfl) ?_
  refine zlEnd (by kernel_rfl) ?_
  refine zkSeq ?_
  refine zrRet ?_
  refine zkNil ?_
  exact endQ hS hQ (fRet (by kernel_rfl) ((congrArg (fun s => outR s 0 c54.res) (by kernel_rfl : finSt c54.fin _ = f54_fin a1.Wide a1.High z2)).trans (f54_out a1.Wide a1.High z2)))
/- farwriter/screen.Clone -/
def f36_fin (p55 : Int) (p56 : Int) (p57 : List GCell) (p58 : Int) (p59 : Int) (p60 : Bool) (p61 : Int) (p62 : Int) (p63 : Int) (p64 : Int) (p65 : Int) (p66 : Int) (p67 : Nat → Int) (p68 : Int) (p69 : Int) (p70 : Int) (p71 : Int) (p72 : Int) (p73 : Int) (p74 : Int) (p75 : Int) (p76 : Bool) (p77 : Int) (p78 : Int) (p79 : Int) (p80 : Int) (p81 : Int) (p82 : List GCell) (p83 : List UInt8) (p84 : List GLine) : St := ⟨(up (fun _ => .un) 2 (.r (.ptr 24 0 0))), (up (up (up (up (hB fun _ => 0) 32 ⟨0, some (.own 87 1 (e_GLine.cells p84))⟩) 96 ⟨0, some (.own 58 4 (e_GCell.cells p82))⟩) 72 ⟨0, some (.own 58 4 (e_GCell.cells p57))⟩) 24 ⟨0, some (.box ((.d (.int .i64 p55)) :: ((.d (.int .i64 p56)) :: ((.r (.msl 72 0 0 p57.length)) :: ((.d (.int .i64 p58)) :: ((.d (.int .i64 p59)) :: ((.d (.bool p60)) :: ((.d (.int .i64 p61)) :: ((.d (.int .i64 p62)) :: ((.d (.int .i64 p63)) :: ((.d (.int .i64 p64)) :: ((.d (.int .i64 p65)) :: ((.d (.int .i64 p66)) :: (((eInt .u64).row 4 p67) ++ ((.d (.int .i64 p68)) :: ((.d (.int .i64 p69)) :: ((.d (.int .i64 p70)) :: ((.d (.int .i64 p71)) :: ((.d (.int .i64 p72)) :: ((.d (.int .i64 p73)) :: ((.d (.int .i64 p74)) :: ((.d (.int .i64 p75)) :: ((.d (.bool p76)) :: ((.d (.int .i64 p77)) :: ((.d (.int .i64 p78)) :: ((.d (.int .i64 p79)) :: ((.d (.int .i64 p80)) :: ((.d (.int .i64 p81)) :: ((.r (.msl 96 0 0 p82.length)) :: ((.d (.str p83)) :: ((.r (.msl 32 0 0 p84.length)) :: [])))))))))))))))))))))))))))))))⟩)⟩
theorem f36_out (p55 : Int) (p56 : Int) (p57 : List GCell) (p58 : Int) (p59 : Int) (p60 : Bool) (p61 : Int) (p62 : Int) (p63 : Int) (p64 : Int) (p65 : Int) (p66 : Int) (p67 : Nat → Int) (p68 : Int) (p69 : Int) (p70 : Int) (p71 : Int) (p72 : Int) (p73 : Int) (p74 : Int) (p75 : Int) (p76 : Bool) (p77 : Int) (p78 : Int) (p79 : Int) (p80 : Int) (p81 : Int) (p82 : List GCell) (p83 : List UInt8) (p84 : List GLine) : outR (f36_fin p55 p56 p57 p58 p59 p60 p61 p62 p63 p64 p65 p66 p67 p68 p69 p70 p71 p72 p73 p74 p75 p76 p77 p78 p79 p80 p81 p82 p83 p84) 0 c36.res = some ((.agg ((.d (.int .i64 p55)) :: ((.d (.int .i64 p56)) :: ((.r (.own 0 58 4 p57.length (e_GCell.cells p57))) :: ((.d (.int .i64 p58)) :: ((.d (.int .i64 p59)) :: ((.d (.bool p60)) :: ((.d (.int .i64 p61)) :: ((.d (.int .i64 p62)) :: ((.d (.int .i64 p63)) :: ((.d (.int .i64 p64)) :: ((.d (.int .i64 p65)) :: ((.d (.int .i64 p66)) :: (((eInt .u64).row 4 p67) ++ ((.d (.int .i64 p68)) :: ((.d (.int .i64 p69)) :: ((.d (.int .i64 p70)) :: ((.d (.int .i64 p71)) :: ((.d (.int .i64 p72)) :: ((.d (.int .i64 p73)) :: ((.d (.int .i64 p74)) :: ((.d (.int .i64 p75)) :: ((.d (.bool p76)) :: ((.d (.int .i64 p77)) :: ((.d (.int .i64 p78)) :: ((.d (.int .i64 p79)) :: ((.d (.int .i64 p80)) :: ((.d (.int .i64 p81)) :: ((.r (.own 1 58 4 p82.length (e_GCell.cells p82))) :: ((.d (.str p83)) :: ((.r (.own 2 87 1 p84.length (e_GLine.cells p84))) :: []))))))))))))))))))))))))))))))), []) := by
  exact out_of (ids := []) (ids' := [72, 96, 32]) (l := [(.agg ((.d (.int .i64 p55)) :: ((.d (.int .i64 p56)) :: ((.r (.msl 72 0 0 p57.length)) :: ((.d (.int .i64 p58)) :: ((.d (.int .i64 p59)) :: ((.d (.bool p60)) :: ((.d (.int .i64 p61)) :: ((.d (.int .i64 p62)) :: ((.d (.int .i64 p63)) :: ((.d (.int .i64 p64)) :: ((.d (.int .i64 p65)) :: ((.d (.int .i64 p66)) :: (((eInt .u64).row 4 p67) ++ ((.d (.int .i64 p68)) :: ((.d (.int .i64 p69)) :: ((.d (.int .i64 p70)) :: ((.d (.int .i64 p71)) :: ((.d (.int .i64 p72)) :: ((.d (.int .i64 p73)) :: ((.d (.int .i64 p74)) :: ((.d (.int .i64 p75)) :: ((.d (.bool p76)) :: ((.d (.int .i64 p77)) :: ((.d (.int .i64 p78)) :: ((.d (.int .i64 p79)) :: ((.d (.int .i64 p80)) :: ((.d (.int .i64 p81)) :: ((.r (.msl 96 0 0 p82.length)) :: ((.d (.str p83)) :: ((.r (.msl 32 0 0 p84.length)) :: [])))))))))))))))))))))))))))))))]) (by kernel_rfl) (by kernel_rfl) (o_agg (o_cons rfl (o_cons rfl (o_cons (o_own e_GCell (e := 58) (k := 4) (xs := p57) (by kernel_rfl) rfl rfl rfl rfl) (o_cons rfl (o_cons rfl (o_cons rfl (o_cons rfl (o_cons rfl (o_cons rfl (o_cons rfl (o_cons rfl (o_cons rfl (o_app (o_row (eInt .u64)) (o_cons rfl (o_cons rfl (o_cons rfl (o_cons rfl (o_cons rfl (o_cons rfl (o_cons rfl (o_cons rfl (o_cons rfl (o_cons rfl (o_cons rfl (o_cons rfl (o_cons rfl (o_cons rfl (o_cons (o_own e_GCell (e := 58) (k := 4) (xs := p82) (by kernel_rfl) rfl rfl rfl rfl) (o_cons rfl (o_cons (o_own e_GLine (e := 87) (k := 1) (xs := p84) (by kernel_rfl) rfl rfl rfl rfl) o_nil)))))))))))))))))))))))))))))))
def f36_Q (r : Int × Int × (List GCell) × Int × Int × Bool × Int × Int × Int × Int × Int × Int × (Nat → Int) × Int × Int × Int × Int × Int × Int × Int × Int × Bool × Int × Int × Int × Int × Int × (List GCell) × (List UInt8) × (List GLine)) (e : PX) (st : St) : Prop := DoneF c36 0 ((.agg ((.d (.int .i64 r.1)) :: ((.d (.int .i64 r.2.1)) :: ((.r (.own 0 58 4 r.2.2.1.length (e_GCell.cells r.2.2.1))) :: ((.d (.int .i64 r.2.2.2.1)) :: ((.d (.int .i64 r.2.2.2.2.1)) :: ((.d (.bool r.2.2.2.2.2.1)) :: ((.d (.int .i64 r.2.2.2.2.2.2.1)) :: ((.d (.int .i64 r.2.2.2.2.2.2.2.1)) :: ((.d (.int .i64 r.2.2.2.2.2.2.2.2.1)) :: ((.d (.int .i64 r.2.2.2.2.2.2.2.2.2.1)) :: ((.d (.int .i64 r.2.2.2.2.2.2.2.2.2.2.1)) :: ((.d (.int .i64 r.2.2.2.2.2.2.2.2.2.2.2.1)) :: (((eInt .u64).row 4 r.2.2.2.2.2.2.2.2.2.2.2.2.1) ++ ((.d (.int .i64 r.2.2.2.2.2.2.2.2.2.2.2.2.2.1)) :: ((.d (.int .i64 r.2.2.2.2.2.2.2.2.2.2.2.2.2.2.1)) :: ((.d (.int .i64 r.2.2.2.2.2.2.2.2.2.2.2.2.2.2.2.1)) :: ((.d (.int .i64 r.2.2.2.2.2.2.2.2.2.2.2.2.2.2.2.2.1)) :: ((.d (.int .i64 r.2.2.2.2.2.2.2.2.2.2.2.2.2.2.2.2.2.1)) :: ((.d (.int .i64 r.2.2.2.2.2.2.2.2.2.2.2.2.2.2.2.2.2.2.1)) :: ((.d (.int .i64 r.2.2.2.2.2.2.2.2.2.2.2.2.2.2.2.2.2.2.2.1)) :: ((.d (.int .i64 r.2.2.2.2.2.2.2.2.2.2.2.2.2.2.2.2.2.2.2.2.1)) :: ((.d (.bool r.2.2.2.2.2.2.2.2.2.2.2.2.2.2.2.2.2.2.2.2.2.1)) :: ((.d (.int .i64 r.2.2.2.2.2.2.2.2.2.2.2.2.2.2.2.2.2.2.2.2.2.2.1)) :: ((.d (.int .i64 r.2.2.2.2.2.2.2.2.2.2.2.2.2.2.2.2.2.2.2.2.2.2.2.1)) :: ((.d (.int .i64 r.2.2.2.2.2.2.2.2.2.2.2.2.2.2.2.2.2.2.2.2.2.2.2.2.1)) :: ((.d (.int .i64 r.2.2.2.2.2.2.2.2.2.2.2.2.2.2.2.2.2.2.2.2.2.2.2.2.2.1)) :: ((.d (.int .i64 r.2.2.2.2.2.2.2.2.2.2.2.2.2.2.2.2.2.2.2.2.2.2.2.2.2.2.1)) :: ((.r (.own 1 58 4 r.2.2.2.2.2.2.2.2.2.2.2.2.2.2.2.2.2.2.2.2.2.2.2.2.2.2.2.1.length (e_GCell.cells r.2.2.2.2.2.2.2.2.2.2.2.2.2.2.2.2.2.2.2.2.2.2.2.2.2.2.2.1))) :: ((.d (.str r.2.2.2.2.2.2.2.2.2.2.2.2.2.2.2.2.2.2.2.2.2.2.2.2.2.2.2.2.1)) :: ((.r (.own 2 87 1 r.2.2.2.2.2.2.2.2.2.2.2.2.2.2.2.2.2.2.2.2.2.2.2.2.2.2.2.2.2.length (e_GLine.cells r.2.2.2.2.2.2.2.2.2.2.2.2.2.2.2.2.2.2.2.2.2.2.2.2.2.2.2.2.2))) :: []))))))))))))))))))))))))))))))), []) e st
def f36_l0_J (a1 : GScreen) (x : Int × Int × (List GCell) × Int × Int × (List GCell) × (List GLine) × Int) : St := ⟨(up (up (up (up (up (up (fun _ => .un) 17 (.d (.int .i64 x.2.2.2.2.2.2.2))) 16 (.d (.int .i64 (a1.Past.length : Int)))) 15 (.d (.sl a1.Past.length (e_GLine.cells a1.Past)))) 3 (.r (.msl 32 0 0 x.2.2.2.2.2.2.1.length))) 2 (.r (.ptr 24 0 0))) 1 (.r (.ptr 16 0 0))), (up (up (up (up (up (hB fun _ => 0) 32 ⟨0, some (.own 87 1 (e_GLine.cells x.2.2.2.2.2.2.1))⟩) 24 ⟨0, some (.box ((.d (.int .i64 0)) :: ((.d (.int .i64 0)) :: ((.d (.sl ([] : List GCell).length (e_GCell.cells ([])))) :: ((.d (.int .i64 0)) :: ((.d (.int .i64 0)) :: ((.d (.bool false)) :: ((.d (.int .i64 0)) :: ((.d (.int .i64 0)) :: ((.d (.int .i64 0)) :: ((.d (.int .i64 0)) :: ((.d (.int .i64 0)) :: ((.d (.int .i64 0)) :: (((eInt .u64).row 4 (fun _ => 0)) ++ ((.d (.int .i64 0)) :: ((.d (.int .i64 0)) :: ((.d (.int .i64 0)) :: ((.d (.int .i64 0)) :: ((.d (.int .i64 0)) :: ((.d (.int .i64 0)) :: ((.d (.int .i64 0)) :: ((.d (.int .i64 0)) :: ((.d (.bool false)) :: ((.d (.int .i64 0)) :: ((.d (.int .i64 0)) :: ((.d (.int .i64 0)) :: ((.d (.int .i64 0)) :: ((.d (.int .i64 0)) :: ((.d (.sl ([] : List GCell).length (e_GCell.cells ([])))) :: ((.d (.str ([]))) :: ((.d (.sl ([] : List GLine).length (e_GLine.cells ([])))) :: [])))))))))))))))))))))))))))))))⟩) 96 ⟨0, some (.own 58 4 (e_GCell.cells x.2.2.2.2.2.1))⟩) 72 ⟨0, some (.own 58 4 (e_GCell.cells x.2.2.1))⟩) 16 ⟨0, some (.box ((.d (.int .i64 x.1)) :: ((.d (.int .i64 x.2.1)) :: ((.r (.msl 72 0 0 x.2.2.1.length)) :: ((.d (.int .i64 a1.Row)) :: ((.d (.int .i64 a1.Col)) :: ((.d (.bool a1.Late)) :: ((.d (.int .i64 a1.Top)) :: ((.d (.int .i64 a1.Bottom)) :: ((.d (.int .i64 a1.Pen.Flags)) :: ((.d (.int .i64 a1.Pen.Fore)) :: ((.d (.int .i64 a1.Pen.Back)) :: ((.d (.int .i64 a1.Modes)) :: (((eInt .u64).row 4 a1.Stops.Bits) ++ ((.d (.int .i64 a1.Pages.1)) :: ((.d (.int .i64 a1.Pages.2)) :: ((.d (.int .i64 a1.Shift)) :: ((.d (.int .i64 a1.Saved.Row)) :: ((.d (.int .i64 a1.Saved.Col)) :: ((.d (.int .i64 a1.Saved.Pen.Flags)) :: ((.d (.int .i64 a1.Saved.Pen.Fore)) :: ((.d (.int .i64 a1.Saved.Pen.Back)) :: ((.d (.bool a1.Saved.Origin)) :: ((.d (.int .i64 a1.Saved.Pages.1)) :: ((.d (.int .i64 a1.Saved.Pages.2)) :: ((.d (.int .i64 a1.Saved.Shift)) :: ((.d (.int .i64 x.2.2.2.1)) :: ((.d (.int .i64 x.2.2.2.2.1)) :: ((.r (.msl 96 0 0 x.2.2.2.2.2.1.length)) :: ((.d (.str a1.Title)) :: ((.d (.sl a1.Past.length (e_GLine.cells a1.Past))) :: [])))))))))))))))))))))))))))))))⟩)⟩
def f36_l0_H (a1 : GScreen) (x : Int × Int × (List GCell) × Int × Int × (List GCell) × (List GLine) × Int) (st : St) : Prop := keepSt [1, 2, 3, 15, 16, 17] [(16, .id 16), (72, .id 72), (96, .id 96), (24, .id 24), (32, .id 32)] [.cell 24 2 0 0 1, .cell 24 30 0 0 1, .cell 24 32 0 0 1] st = f36_l0_J a1 x
def f36_l0_e0_J (a1 : GScreen) (p132 : Int) (p133 : Int) (p134 : List GCell) (p135 : Int) (p136 : Int) (p137 : List GCell) (p138 : List GLine) : St := ⟨(up (up (up (fun _ => .un) 3 (.r (.msl 32 0 0 p138.length))) 2 (.r (.ptr 24 0 0))) 1 (.r (.ptr 16 0 0))), (up (up (up (up (up (hB fun _ => 0) 32 ⟨0, some (.own 87 1 (e_GLine.cells p138))⟩) 24 ⟨0, some (.box ((.d (.int .i64 0)) :: ((.d (.int .i64 0)) :: ((.d (.sl ([] : List GCell).length (e_GCell.cells ([])))) :: ((.d (.int .i64 0)) :: ((.d (.int .i64 0)) :: ((.d (.bool false)) :: ((.d (.int .i64 0)) :: ((.d (.int .i64 0)) :: ((.d (.int .i64 0)) :: ((.d (.int .i64 0)) :: ((.d (.int .i64 0)) :: ((.d (.int .i64 0)) :: (((eInt .u64).row 4 (fun _ => 0)) ++ ((.d (.int .i64 0)) :: ((.d (.int .i64 0)) :: ((.d (.int .i64 0)) :: ((.d (.int .i64 0)) :: ((.d (.int .i64 0)) :: ((.d (.int .i64 0)) :: ((.d (.int .i64 0)) :: ((.d (.int .i64 0)) :: ((.d (.bool false)) :: ((.d (.int .i64 0)) :: ((.d (.int .i64 0)) :: ((.d (.int .i64 0)) :: ((.d (.int .i64 0)) :: ((.d (.int .i64 0)) :: ((.d (.sl ([] : List GCell).length (e_GCell.cells ([])))) :: ((.d (.str ([]))) :: ((.d (.sl ([] : List GLine).length (e_GLine.cells ([])))) :: [])))))))))))))))))))))))))))))))⟩) 96 ⟨0, some (.own 58 4 (e_GCell.cells p137))⟩) 72 ⟨0, some (.own 58 4 (e_GCell.cells p134))⟩) 16 ⟨0, some (.box ((.d (.int .i64 p132)) :: ((.d (.int .i64 p133)) :: ((.r (.msl 72 0 0 p134.length)) :: ((.d (.int .i64 a1.Row)) :: ((.d (.int .i64 a1.Col)) :: ((.d (.bool a1.Late)) :: ((.d (.int .i64 a1.Top)) :: ((.d (.int .i64 a1.Bottom)) :: ((.d (.int .i64 a1.Pen.Flags)) :: ((.d (.int .i64 a1.Pen.Fore)) :: ((.d (.int .i64 a1.Pen.Back)) :: ((.d (.int .i64 a1.Modes)) :: (((eInt .u64).row 4 a1.Stops.Bits) ++ ((.d (.int .i64 a1.Pages.1)) :: ((.d (.int .i64 a1.Pages.2)) :: ((.d (.int .i64 a1.Shift)) :: ((.d (.int .i64 a1.Saved.Row)) :: ((.d (.int .i64 a1.Saved.Col)) :: ((.d (.int .i64 a1.Saved.Pen.Flags)) :: ((.d (.int .i64 a1.Saved.Pen.Fore)) :: ((.d (.int .i64 a1.Saved.Pen.Back)) :: ((.d (.bool a1.Saved.Origin)) :: ((.d (.int .i64 a1.Saved.Pages.1)) :: ((.d (.int .i64 a1.Saved.Pages.2)) :: ((.d (.int .i64 a1.Saved.Shift)) :: ((.d (.int .i64 p135)) :: ((.d (.int .i64 p136)) :: ((.r (.msl 96 0 0 p137.length)) :: ((.d (.str a1.Title)) :: ((.d (.sl a1.Past.length (e_GLine.cells a1.Past))) :: [])))))))))))))))))))))))))))))))⟩)⟩
def f36_l0_X (a1 : GScreen) (z : (Int × Int × (List GCell) × Int × Int × (List GCell) × (List GLine))) (e : PX) (st : St) : Prop := e = .exit 0 ∧ st = f36_l0_e0_J a1 z.1 z.2.1 z.2.2.1 z.2.2.2.1 z.2.2.2.2.1 z.2.2.2.2.2.1 z.2.2.2.2.2.2
def f36_l0_j2_J (a1 : GScreen) (p157 : Int) (p158 : Int) (p159 : List GCell) (p160 : Int) (p161 : Int) (p162 : List GCell) (p163 : List GLine) (p164 : Int) : St := ⟨(up (up (up (up (up (up (fun _ => .un) 17 (.d (.int .i64 p164))) 16 (.d (.int .i64 (a1.Past.length : Int)))) 15 (.d (.sl a1.Past.length (e_GLine.cells a1.Past)))) 3 (.r (.msl 32 0 0 p163.length))) 2 (.r (.ptr 24 0 0))) 1 (.r (.ptr 16 0 0))), (up (up (up (up (up (hB fun _ => 0) 32 ⟨0, some (.own 87 1 (e_GLine.cells p163))⟩) 24 ⟨0, some (.box ((.d (.int .i64 0)) :: ((.d (.int .i64 0)) :: ((.d (.sl ([] : List GCell).length (e_GCell.cells ([])))) :: ((.d (.int .i64 0)) :: ((.d (.int .i64 0)) :: ((.d (.bool false)) :: ((.d (.int .i64 0)) :: ((.d (.int .i64 0)) :: ((.d (.int .i64 0)) :: ((.d (.int .i64 0)) :: ((.d (.int .i64 0)) :: ((.d (.int .i64 0)) :: (((eInt .u64).row 4 (fun _ => 0)) ++ ((.d (.int .i64 0)) :: ((.d (.int .i64 0)) :: ((.d (.int .i64 0)) :: ((.d (.int .i64 0)) :: ((.d (.int .i64 0)) :: ((.d (.int .i64 0)) :: ((.d (.int .i64 0)) :: ((.d (.int .i64 0)) :: ((.d (.bool false)) :: ((.d (.int .i64 0)) :: ((.d (.int .i64 0)) :: ((.d (.int .i64 0)) :: ((.d (.int .i64 0)) :: ((.d (.int .i64 0)) :: ((.d (.sl ([] : List GCell).length (e_GCell.cells ([])))) :: ((.d (.str ([]))) :: ((.d (.sl ([] : List GLine).length (e_GLine.cells ([])))) :: [])))))))))))))))))))))))))))))))⟩) 96 ⟨0, some (.own 58 4 (e_GCell.cells p162))⟩) 72 ⟨0, some (.own 58 4 (e_GCell.cells p159))⟩) 16 ⟨0, some (.box ((.d (.int .i64 p157)) :: ((.d (.int .i64 p158)) :: ((.r (.msl 72 0 0 p159.length)) :: ((.d (.int .i64 a1.Row)) :: ((.d (.int .i64 a1.Col)) :: ((.d (.bool a1.Late)) :: ((.d (.int .i64 a1.Top)) :: ((.d (.int .i64 a1.Bottom)) :: ((.d (.int .i64 a1.Pen.Flags)) :: ((.d (.int .i64 a1.Pen.Fore)) :: ((.d (.int .i64 a1.Pen.Back)) :: ((.d (.int .i64 a1.Modes)) :: (((eInt .u64).row 4 a1.Stops.Bits) ++ ((.d (.int .i64 a1.Pages.1)) :: ((.d (.int .i64 a1.Pages.2)) :: ((.d (.int .i64 a1.Shift)) :: ((.d (.int .i64 a1.Saved.Row)) :: ((.d (.int .i64 a1.Saved.Col)) :: ((.d (.int .i64 a1.Saved.Pen.Flags)) :: ((.d (.int .i64 a1.Saved.Pen.Fore)) :: ((.d (.int .i64 a1.Saved.Pen.Back)) :: ((.d (.bool a1.Saved.Origin)) :: ((.d (.int .i64 a1.Saved.Pages.1)) :: ((.d (.int .i64 a1.Saved.Pages.2)) :: ((.d (.int .i64 a1.Saved.Shift)) :: ((.d (.int .i64 p160)) :: ((.d (.int .i64 p161)) :: ((.r (.msl 96 0 0 p162.length)) :: ((.d (.str a1.Title)) :: ((.d (.sl a1.Past.length (e_GLine.cells a1.Past))) :: [])))))))))))))))))))))))))))))))⟩)⟩
noncomputable def f36_l0_j2 (a1 : GScreen) (p157 : Int) (p158 : Int) (p159 : List GCell) (p160 : Int) (p161 : Int) (p162 : List GCell) (p163 : List GLine) (p164 : Int) : Option ((Int × Int × (List GCell) × Int × Int × (List GCell) × (List GLine) × Int) ⊕ ((Int × Int × (List GCell) × Int × Int × (List GCell) × (List GLine)))) := ((idx a1.Past p164).bind fun z23 => ((f60 z23.Cells).bind fun z24 => ((app? 24 p163 ([(GLine.mk z24)] : List GLine)).bind fun z25 => (some (.inl (p157, p158, p159, p160, p161, p162, z25, (IntKind.i64.wrap (p164 + 1))))))))
theorem f36_l0_j2_ok {d : Nat} (hd : 3 ≤ d) (a1 : GScreen) {r : (Int × Int × (List GCell) × Int × Int × (List GCell) × (List GLine) × Int) ⊕ ((Int × Int × (List GCell) × Int × Int × (List GCell) × (List GLine)))} {Q : PX → St → Prop} (hQ : ∀ e st', finL (f36_l0_H a1) (f36_l0_X a1) r e st' → Q e st') (p157 : Int) (p158 : Int) (p159 : List GCell) (p160 : Int) (p161 : Int) (p162 : List GCell) (p163 : List GLine) (p164 : Int) (hS : f36_l0_j2 a1 p157 p158 p159 p160 p161 p162 p163 p164 = some r) {st : St} (he : keepSt [1, 2, 3, 15, 16, 17] [(16, .id 16), (72, .id 72), (96, .id 96), (24, .id 24), (32, .id 32)] [] st = f36_l0_j2_J a1 p157 p158 p159 p160 p161 p162 p163 p164) : ZR (lev codes baseL (d - 1)) Q c36_1 [] st := by
  refine zrKeep he ?_
  unfold f36_l0_j2 at hS
  refine zrSeq ?_
  refine zrBlk ?_
  refine zrSeq ?_
  refine zrReg ?_
  refine bindE hS (fun z23 hz23 hS => ?_)
  refine zlOp (d := some 19) (op := (.ixS 87 1 (.tmp 15) (.tmp 17))) (g := none) (v := (.rptr (e_GLine.enc z23 ++ (e_GLine.cells (a1.Past.drop ((p164 : Int).toNat + 1)))))) (ups := []) (j := 1) rfl (by kernel_rfl) (by kernel_rfl) (ev_ixS e_GLine (kk := .i64) (xs := a1.Past) (j := p164) (by kernel_rfl) (by kernel_rfl) hz23 rfl (by intro h; cases h)) ?_
  refine zlRun (n := 3) (j := 4) rfl (by kernel_rfl) ?_
  refine zlEnd (by kernel_rfl) ?_
  refine zkSeq ?_
  refine zrReg ?_
  refine zlRun (n := 3) (j := 3) rfl (by kernel_rfl) ?_
  refine bindE hS (fun z24 hz24 hS => ?_)
  refine zlOp (d := some 24) (op := (.call 60 [(.tmp 23)])) (g := none) (j := 4) rfl (by kernel_rfl) (by kernel_rfl) (ev_callA (by kernel_rfl) (f60_ok (d - 1) (dpt hd rfl) z23.Cells z24 hz24) (by kernel_rfl) (by kernel_rfl)) ?_
  refine zlRun (n := 1) (j := 5) rfl (by kernel_rfl) ?_
  refine zlOp (d := some 26) (op := (.bsl 87 1 1 [(1, (.slice .none 0 0))] [(0, (1, (.tmp 25)))])) (g := none) (v := (.r (.msl 216 1 0 (([(GLine.mk z24)] : List GLine).length)))) (ups := [(200, ⟨2, none⟩), (216, ⟨1, some (.own 87 1 (e_GLine.cells ([(GLine.mk z24)])))⟩)]) (j := 6) rfl (by kernel_rfl) (by kernel_rfl) ((by kernel_rfl : peval _ _ 26 (ρof _) (.bsl 87 1 1 [(1, (.slice .none 0 0))] [(0, (1, (.tmp 25)))]) = some ((.r (.msl 216 1 0 (([(GLine.mk z24)] : List GLine).length))), [(200, ⟨2, none⟩), (216, ⟨1, some (.own 87 1 [.sl z24.length (((e_GCell.cells z24).drop (0 * e_GCell.k)).take (z24.length * e_GCell.k))])⟩)])).trans (by simp only [Enc.frz]; rfl)) ?_
  refine bindE hS (fun z25 hz25 hS => ?_)
  refine zlOp (d := some 27) (op := (.app 87 1 24 (.tmp 21) (.tmp 26))) (g := none) (v := (.r (.msl 32 1 0 z25.length))) (ups := [(32, ⟨1, some (.own 87 1 (e_GLine.cells z25))⟩)]) (j := 7) rfl (by kernel_rfl) (by kernel_rfl) (ev_app e_GLine (b := 32) (g := 0) (n := p163.length) (xs := p163) (ys := [(GLine.mk z24)]) ((congrArg (asL _) (by kernel_rfl : ρof _ (.tmp 26) = (.r (.msl 216 1 0 (([(GLine.mk z24)] : List GLine).length))))).trans (as_whole e_GLine (e := 87) (k := 1) (xs := [(GLine.mk z24)]) (by kernel_rfl) rfl rfl)) rfl (by kernel_rfl) rfl (by kernel_rfl) rfl hz25) ?_
  refine zlRun (n := 1) (j := 8) rfl (by kernel_rfl) ?_
  refine zlEnd (by kernel_rfl) ?_
  refine zkBlk ?_
  refine zkSeq ?_
  refine zrReg ?_
  refine zlRun (n := 2) (j := 2) rfl (by kernel_rfl) ?_
  refine zlEnd (by kernel_rfl) ?_
  refine zkNil ?_
  exact endQ hS hQ (finL_n (by show keepSt _ _ _ _ = _; kernel_rfl))
def f36_l0_j1_J (a1 : GScreen) (p148 : Int) (p149 : Int) (p150 : List GCell) (p151 : Int) (p152 : Int) (p153 : List GCell) (p154 : List GLine) (p155 : Int) (p156 : Bool) : St := ⟨(up (up (up (up (up (up (up (fun _ => .un) 18 (.d (.bool p156))) 17 (.d (.int .i64 p155))) 16 (.d (.int .i64 (a1.Past.length : Int)))) 15 (.d (.sl a1.Past.length (e_GLine.cells a1.Past)))) 3 (.r (.msl 32 0 0 p154.length))) 2 (.r (.ptr 24 0 0))) 1 (.r (.ptr 16 0 0))), (up (up (up (up (up (hB fun _ => 0) 32 ⟨0, some (.own 87 1 (e_GLine.cells p154))⟩) 24 ⟨0, some (.box ((.d (.int .i64 0)) :: ((.d (.int .i64 0)) :: ((.d (.sl ([] : List GCell).length (e_GCell.cells ([])))) :: ((.d (.int .i64 0)) :: ((.d (.int .i64 0)) :: ((.d (.bool false)) :: ((.d (.int .i64 0)) :: ((.d (.int .i64 0)) :: ((.d (.int .i64 0)) :: ((.d (.int .i64 0)) :: ((.d (.int .i64 0)) :: ((.d (.int .i64 0)) :: (((eInt .u64).row 4 (fun _ => 0)) ++ ((.d (.int .i64 0)) :: ((.d (.int .i64 0)) :: ((.d (.int .i64 0)) :: ((.d (.int .i64 0)) :: ((.d (.int .i64 0)) :: ((.d (.int .i64 0)) :: ((.d (.int .i64 0)) :: ((.d (.int .i64 0)) :: ((.d (.bool false)) :: ((.d (.int .i64 0)) :: ((.d (.int .i64 0)) :: ((.d (.int .i64 0)) :: ((.d (.int .i64 0)) :: ((.d (.int .i64 0)) :: ((.d (.sl ([] : List GCell).length (e_GCell.cells ([])))) :: ((.d (.str ([]))) :: ((.d (.sl ([] : List GLine).length (e_GLine.cells ([])))) :: [])))))))))))))))))))))))))))))))⟩) 96 ⟨0, some (.own 58 4 (e_GCell.cells p153))⟩) 72 ⟨0, some (.own 58 4 (e_GCell.cells p150))⟩) 16 ⟨0, some (.box ((.d (.int .i64 p148)) :: ((.d (.int .i64 p149)) :: ((.r (.msl 72 0 0 p150.length)) :: ((.d (.int .i64 a1.Row)) :: ((.d (.int .i64 a1.Col)) :: ((.d (.bool a1.Late)) :: ((.d (.int .i64 a1.Top)) :: ((.d (.int .i64 a1.Bottom)) :: ((.d (.int .i64 a1.Pen.Flags)) :: ((.d (.int .i64 a1.Pen.Fore)) :: ((.d (.int .i64 a1.Pen.Back)) :: ((.d (.int .i64 a1.Modes)) :: (((eInt .u64).row 4 a1.Stops.Bits) ++ ((.d (.int .i64 a1.Pages.1)) :: ((.d (.int .i64 a1.Pages.2)) :: ((.d (.int .i64 a1.Shift)) :: ((.d (.int .i64 a1.Saved.Row)) :: ((.d (.int .i64 a1.Saved.Col)) :: ((.d (.int .i64 a1.Saved.Pen.Flags)) :: ((.d (.int .i64 a1.Saved.Pen.Fore)) :: ((.d (.int .i64 a1.Saved.Pen.Back)) :: ((.d (.bool a1.Saved.Origin)) :: ((.d (.int .i64 a1.Saved.Pages.1)) :: ((.d (.int .i64 a1.Saved.Pages.2)) :: ((.d (.int .i64 a1.Saved.Shift)) :: ((.d (.int .i64 p151)) :: ((.d (.int .i64 p152)) :: ((.r (.msl 96 0 0 p153.length)) :: ((.d (.str a1.Title)) :: ((.d (.sl a1.Past.length (e_GLine.cells a1.Past))) :: [])))))))))))))))))))))))))))))))⟩)⟩
noncomputable def f36_l0_j1 (a1 : GScreen) (p148 : Int) (p149 : Int) (p150 : List GCell) (p151 : Int) (p152 : Int) (p153 : List GCell) (p154 : List GLine) (p155 : Int) (p156 : Bool) : Option ((Int × Int × (List GCell) × Int × Int × (List GCell) × (List GLine) × Int) ⊕ ((Int × Int × (List GCell) × Int × Int × (List GCell) × (List GLine)))) := (bif p156 then (f36_l0_j2 a1 p148 p149 p150 p151 p152 p153 p154 p155) else (some (.inr (p148, p149, p150, p151, p152, p153, p154))))
theorem f36_l0_j1_ok {d : Nat} (hd : 3 ≤ d) (a1 : GScreen) {r : (Int × Int × (List GCell) × Int × Int × (List GCell) × (List GLine) × Int) ⊕ ((Int × Int × (List GCell) × Int × Int × (List GCell) × (List GLine)))} {Q : PX → St → Prop} (hQ : ∀ e st', finL (f36_l0_H a1) (f36_l0_X a1) r e st' → Q e st') (p148 : Int) (p149 : Int) (p150 : List GCell) (p151 : Int) (p152 : Int) (p153 : List GCell) (p154 : List GLine) (p155 : Int) (p156 : Bool) (hS : f36_l0_j1 a1 p148 p149 p150 p151 p152 p153 p154 p155 p156 = some r) {st : St} (he : keepSt [1, 2, 3, 15, 16, 17, 18] [(16, .id 16), (72, .id 72), (96, .id 96), (24, .id 24), (32, .id 32)] [] st = f36_l0_j1_J a1 p148 p149 p150 p151 p152 p153 p154 p155 p156) : ZR (lev codes baseL (d - 1)) Q c36_2 [] st := by
  refine zrKeep he ?_
  unfold f36_l0_j1 at hS
  refine zrSeq ?_
  refine zrSplit 18 p156 (by kernel_rfl) (fun hc => ?_) (fun hc => ?_)
  · replace hS := cond_t hc hS
    refine zrCondT (by kernel_rfl) ?_
    refine zrSkip ?_
    refine zkSeq ?_
    exact f36_l0_j2_ok hd a1 hQ p148 p149 p150 p151 p152 p153 p154 p155 hS (by kernel_rfl)
  · replace hS := cond_f hc hS
    refine zrCondF (by kernel_rfl) ?_
    refine zrKeep (J := f36_l0_e0_J a1 p148 p149 p150 p151 p152 p153 p154) (by kernel_rfl) ?_
    refine zrExit ?_
    refine zkSeqX ?_
    refine zkNil ?_
    exact endQ hS hQ (finL_x (by intro h; cases h) (by show _ = _ ∧ _ = _; exact ⟨rfl, rfl⟩))
noncomputable def f36_l0 (a1 : GScreen) (x : Int × Int × (List GCell) × Int × Int × (List GCell) × (List GLine) × Int) : Option ((Int × Int × (List GCell) × Int × Int × (List GCell) × (List GLine) × Int) ⊕ ((Int × Int × (List GCell) × Int × Int × (List GCell) × (List GLine)))) := (bif (decide (x.2.2.2.2.2.2.2 < (a1.Past.length : Int))) then (f36_l0_j1 a1 x.1 x.2.1 x.2.2.1 x.2.2.2.1 x.2.2.2.2.1 x.2.2.2.2.2.1 x.2.2.2.2.2.2.1 x.2.2.2.2.2.2.2 true) else (f36_l0_j1 a1 x.1 x.2.1 x.2.2.1 x.2.2.2.1 x.2.2.2.2.1 x.2.2.2.2.2.1 x.2.2.2.2.2.2.1 x.2.2.2.2.2.2.2 false))
theorem f36_l0_ok {d : Nat} (hd : 3 ≤ d) (a1 : GScreen) {r : (Int × Int × (List GCell) × Int × Int × (List GCell) × (List GLine) × Int) ⊕ ((Int × Int × (List GCell) × Int × Int × (List GCell) × (List GLine)))} {Q : PX → St → Prop} (hQ : ∀ e st', finL (f36_l0_H a1) (f36_l0_X a1) r e st' → Q e st') {x : Int × Int × (List GCell) × Int × Int × (List GCell) × (List GLine) × Int} (hS : f36_l0 a1 x = some r) {st : St} (he : f36_l0_H a1 x st) : ZR (lev codes baseL (d - 1)) Q c36_3 [] st := by
  refine zrKeep he ?_
  unfold f36_l0 at hS
  refine zrSeq ?_
  refine zrReg ?_
  refine zlBool (d := 18) (op := (.cmpI .lss (.tmp 17) (.tmp 16))) (g := none) (j := 1) (decide (x.2.2.2.2.2.2.2 < (a1.Past.length : Int))) rfl (by kernel_rfl) (by kernel_rfl) (by kernel_rfl) (fun hc => ?_) (fun hc => ?_)
  · replace hS := cond_t hc hS
    refine zlEnd (by kernel_rfl) ?_
    refine zkSeq ?_
    exact f36_l0_j1_ok hd a1 hQ x.1 x.2.1 x.2.2.1 x.2.2.2.1 x.2.2.2.2.1 x.2.2.2.2.2.1 x.2.2.2.2.2.2.1 x.2.2.2.2.2.2.2 true hS (by kernel_rfl)
  · replace hS := cond_f hc hS
    refine zlEnd (by kernel_rfl) ?_
    refine zkSeq ?_
    exact f36_l0_j1_ok hd a1 hQ x.1 x.2.1 x.2.2.1 x.2.2.2.1 x.2.2.2.2.1 x.2.2.2.2.2.1 x.2.2.2.2.2.2.1 x.2.2.2.2.2.2.2 false hS (by kernel_rfl)
noncomputable def f36 (a1 : GScreen) : Option (Int × Int × (List GCell) × Int × Int × Bool × Int × Int × Int × Int × Int × Int × (Nat → Int) × Int × Int × Int × Int × Int × Int × Int × Int × Bool × Int × Int × Int × Int × Int × (List GCell) × (List UInt8) × (List GLine)) := ((f54 a1.Grid).bind fun z12 => ((f54 a1.Other).bind fun z13 => ((loopO (f36_l0 a1) (z12.1, z12.2.1, z12.2.2, z13.1, z13.2.1, z13.2.2, [], 0)).bind fun z26 => (some (z26.1, z26.2.1, z26.2.2.1, a1.Row, a1.Col, a1.Late, a1.Top, a1.Bottom, a1.Pen.Flags, a1.Pen.Fore, a1.Pen.Back, a1.Modes, a1.Stops.Bits, a1.Pages.1, a1.Pages.2, a1.Shift, a1.Saved.Row, a1.Saved.Col, a1.Saved.Pen.Flags, a1.Saved.Pen.Fore, a1.Saved.Pen.Back, a1.Saved.Origin, a1.Saved.Pages.1, a1.Saved.Pages.2, a1.Saved.Shift, z26.2.2.2.1, z26.2.2.2.2.1, z26.2.2.2.2.2.1, a1.Title, z26.2.2.2.2.2.2)))))
theorem f36_ok (d : Nat) (hd : 3 ≤ d) (a1 : GScreen) (r : Int × Int × (List GCell) × Int × Int × Bool × Int × Int × Int × Int × Int × Int × (Nat → Int) × Int × Int × Int × Int × Int × Int × Int × Int × Bool × Int × Int × Int × Int × Int × (List GCell) × (List UInt8) × (List GLine)) (hS : f36 a1 = some r) : lev codes baseL d 36 [(.agg ((.d (.int .i64 a1.Grid.Wide)) :: ((.d (.int .i64 a1.Grid.High)) :: ((.d (.sl a1.Grid.Cells.length (e_GCell.cells a1.Grid.Cells))) :: ((.d (.int .i64 a1.Row)) :: ((.d (.int .i64 a1.Col)) :: ((.d (.bool a1.Late)) :: ((.d (.int .i64 a1.Top)) :: ((.d (.int .i64 a1.Bottom)) :: ((.d (.int .i64 a1.Pen.Flags)) :: ((.d (.int .i64 a1.Pen.Fore)) :: ((.d (.int .i64 a1.Pen.Back)) :: ((.d (.int .i64 a1.Modes)) :: (((eInt .u64).row 4 a1.Stops.Bits) ++ ((.d (.int .i64 a1.Pages.1)) :: ((.d (.int .i64 a1.Pages.2)) :: ((.d (.int .i64 a1.Shift)) :: ((.d (.int .i64 a1.Saved.Row)) :: ((.d (.int .i64 a1.Saved.Col)) :: ((.d (.int .i64 a1.Saved.Pen.Flags)) :: ((.d (.int .i64 a1.Saved.Pen.Fore)) :: ((.d (.int .i64 a1.Saved.Pen.Back)) :: ((.d (.bool a1.Saved.Origin)) :: ((.d (.int .i64 a1.Saved.Pages.1)) :: ((.d (.int .i64 a1.Saved.Pages.2)) :: ((.d (.int .i64 a1.Saved.Shift)) :: ((.d (.int .i64 a1.Other.Wide)) :: ((.d (.int .i64 a1.Other.High)) :: ((.d (.sl a1.Other.Cells.length (e_GCell.cells a1.Other.Cells))) :: ((.d (.str a1.Title)) :: ((.d (.sl a1.Past.length (e_GLine.cells a1.Past))) :: [])))))))))))))))))))))))))))))))] [] = some ((.agg ((.d (.int .i64 r.1)) :: ((.d (.int .i64 r.2.1)) :: ((.r (.own 0 58 4 r.2.2.1.length (e_GCell.cells r.2.2.1))) :: ((.d (.int .i64 r.2.2.2.1)) :: ((.d (.int .i64 r.2.2.2.2.1)) :: ((.d (.bool r.2.2.2.2.2.1)) :: ((.d (.int .i64 r.2.2.2.2.2.2.1)) :: ((.d (.int .i64 r.2.2.2.2.2.2.2.1)) :: ((.d (.int .i64 r.2.2.2.2.2.2.2.2.1)) :: ((.d (.int .i64 r.2.2.2.2.2.2.2.2.2.1)) :: ((.d (.int .i64 r.2.2.2.2.2.2.2.2.2.2.1)) :: ((.d (.int .i64 r.2.2.2.2.2.2.2.2.2.2.2.1)) :: (((eInt .u64).row 4 r.2.2.2.2.2.2.2.2.2.2.2.2.1) ++ ((.d (.int .i64 r.2.2.2.2.2.2.2.2.2.2.2.2.2.1)) :: ((.d (.int .i64 r.2.2.2.2.2.2.2.2.2.2.2.2.2.2.1)) :: ((.d (.int .i64 r.2.2.2.2.2.2.2.2.2.2.2.2.2.2.2.1)) :: ((.d (.int .i64 r.2.2.2.2.2.2.2.2.2.2.2.2.2.2.2.2.1)) :: ((.d (.int .i64 r.2.2.2.2.2.2.2.2.2.2.2.2.2.2.2.2.2.1)) :: ((.d (.int .i64 r.2.2.2.2.2.2.2.2.2.2.2.2.2.2.2.2.2.2.1)) :: ((.d (.int .i64 r.2.2.2.2.2.2.2.2.2.2.2.2.2.2.2.2.2.2.2.1)) :: ((.d (.int .i64 r.2.2.2.2.2.2.2.2.2.2.2.2.2.2.2.2.2.2.2.2.1)) :: ((.d (.bool r.2.2.2.2.2.2.2.2.2.2.2.2.2.2.2.2.2.2.2.2.2.1)) :: ((.d (.int .i64 r.2.2.2.2.2.2.2.2.2.2.2.2.2.2.2.2.2.2.2.2.2.2.1)) :: ((.d (.int .i64 r.2.2.2.2.2.2.2.2.2.2.2.2.2.2.2.2.2.2.2.2.2.2.2.1)) :: ((.d (.int .i64 r.2.2.2.2.2.2.2.2.2.2.2.2.2.2.2.2.2.2.2.2.2.2.2.2.1)) :: ((.d (.int .i64 r.2.2.2.2.2.2.2.2.2.2.2.2.2.2.2.2.2.2.2.2.2.2.2.2.2.1)) :: ((.d (.int .i64 r.2.2.2.2.2.2.2.2.2.2.2.2.2.2.2.2.2.2.2.2.2.2.2.2.2.2.1)) :: ((.r (.own 1 58 4 r.2.2.2.2.2.2.2.2.2.2.2.2.2.2.2.2.2.2.2.2.2.2.2.2.2.2.2.1.length (e_GCell.cells r.2.2.2.2.2.2.2.2.2.2.2.2.2.2.2.2.2.2.2.2.2.2.2.2.2.2.2.1))) :: ((.d (.str r.2.2.2.2.2.2.2.2.2.2.2.2.2.2.2.2.2.2.2.2.2.2.2.2.2.2.2.2.1)) :: ((.r (.own 2 87 1 r.2.2.2.2.2.2.2.2.2.2.2.2.2.2.2.2.2.2.2.2.2.2.2.2.2.2.2.2.2.length (e_GLine.cells r.2.2.2.2.2.2.2.2.2.2.2.2.2.2.2.2.2.2.2.2.2.2.2.2.2.2.2.2.2))) :: []))))))))))))))))))))))))))))))), []) := by
  refine lev_go codes36 rfl rfl (Nat.le_trans (Nat.le_of_ble_eq_true rfl) hd) fun Q hQ => ?_
  unfold f36 at hS
  show ZR _ Q c36_b [] _
  replace hQ : ∀ e st', f36_Q r e st' → Q e st' := hQ
  refine zrSeq ?_
  refine zrReg ?_
  refine zlRun (n := 2) (j := 2) rfl (by kernel_rfl) ?_
  refine zlEnd (by kernel_rfl) ?_
  refine zkSeq ?_
  refine zrSeq ?_
  refine zrRegD ?_
  refine zdRun (n := 2) (j := 2) (ts := [[], [(16, false)]]) (acc' := [[], [(16, false)]]) rfl (by kernel_rfl) (by kernel_rfl) (by kernel_rfl) ?_
  refine bindE hS (fun z12 hz12 hS => ?_)
  refine zdOp (d := some 8) (op := (.callf 54 [(.tmp 7)])) (g := none) (v := (.agg ((.d (.int .i64 z12.1)) :: ((.d (.int .i64 z12.2.1)) :: ((.r (.msl 72 1 0 z12.2.2.length)) :: []))))) (ups := [(72, ⟨1, some (.own 58 4 (e_GCell.cells z12.2.2))⟩)]) (j := 3) (t1 := [(72, true), (73, true), (74, true), (75, true), (76, true), (77, true), (78, true), (79, true)]) (acc' := [[], [(16, false)], [(72, true), (73, true), (74, true), (75, true), (76, true), (77, true), (78, true), (79, true)]]) (by kernel_rfl) (by kernel_rfl) rfl (by kernel_rfl) (by kernel_rfl) (ev_callF (args := [(.agg ((.d (.int .i64 a1.Grid.Wide)) :: ((.d (.int .i64 a1.Grid.High)) :: ((.d (.sl a1.Grid.Cells.length (e_GCell.cells a1.Grid.Cells))) :: []))))]) (args' := [(.agg ((.d (.int .i64 a1.Grid.Wide)) :: ((.d (.int .i64 a1.Grid.High)) :: ((.d (.sl a1.Grid.Cells.length (e_GCell.cells a1.Grid.Cells))) :: []))))]) (l := [(.agg ((.d (.int .i64 a1.Grid.Wide)) :: ((.d (.int .i64 a1.Grid.High)) :: ((.d (.sl a1.Grid.Cells.length (e_GCell.cells a1.Grid.Cells))) :: []))))]) (refs := []) (r := (.agg ((.d (.int .i64 z12.1)) :: ((.d (.int .i64 z12.2.1)) :: ((.r (.own 0 58 4 z12.2.2.length (e_GCell.cells z12.2.2))) :: []))))) (v := (.agg ((.d (.int .i64 z12.1)) :: ((.d (.int .i64 z12.2.1)) :: ((.r (.msl 72 1 0 z12.2.2.length)) :: []))))) (ups' := [(72, ⟨1, some (.own 58 4 (e_GCell.cells z12.2.2))⟩)]) (by kernel_rfl) (by kernel_rfl) (by kernel_rfl) (fz_cons rfl fz_nil) (by kernel_rfl) (f54_ok (d - 1) (dpt hd rfl) a1.Grid z12 hz12) (by kernel_rfl) (by kernel_rfl) (by kernel_rfl) (by kernel_rfl)) ?_
  refine zdRun (n := 2) (j := 5) (ts := [[], [(16, false)]]) (acc' := [[], [(16, false)], [(72, true), (73, true), (74, true), (75, true), (76, true), (77, true), (78, true), (79, true)], [], [(16, false)]]) rfl (by kernel_rfl) (by kernel_rfl) (by kernel_rfl) ?_
  refine bindE hS (fun z13 hz13 hS => ?_)
  refine zdOp (d := some 11) (op := (.callf 54 [(.tmp 10)])) (g := none) (v := (.agg ((.d (.int .i64 z13.1)) :: ((.d (.int .i64 z13.2.1)) :: ((.r (.msl 96 1 0 z13.2.2.length)) :: []))))) (ups := [(96, ⟨1, some (.own 58 4 (e_GCell.cells z13.2.2))⟩)]) (j := 6) (t1 := [(96, true), (97, true), (98, true), (99, true), (100, true), (101, true), (102, true), (103, true)]) (acc' := [[], [(16, false)], [(72, true), (73, true), (74, true), (75, true), (76, true), (77, true), (78, true), (79, true)], [], [(16, false)], [(96, true), (97, true), (98, true), (99, true), (100, true), (101, true), (102, true), (103, true)]]) (by kernel_rfl) (by kernel_rfl) rfl (by kernel_rfl) (by kernel_rfl) (ev_callF (args := [(.agg ((.d (.int .i64 a1.Other.Wide)) :: ((.d (.int .i64 a1.Other.High)) :: ((.d (.sl a1.Other.Cells.length (e_GCell.cells a1.Other.Cells))) :: []))))]) (args' := [(.agg ((.d (.int .i64 a1.Other.Wide)) :: ((.d (.int .i64 a1.Other.High)) :: ((.d (.sl a1.Other.Cells.length (e_GCell.cells a1.Other.Cells))) :: []))))]) (l := [(.agg ((.d (.int .i64 a1.Other.Wide)) :: ((.d (.int .i64 a1.Other.High)) :: ((.d (.sl a1.Other.Cells.length (e_GCell.cells a1.Other.Cells))) :: []))))]) (refs := []) (r := (.agg ((.d (.int .i64 z13.1)) :: ((.d (.int .i64 z13.2.1)) :: ((.r (.own 0 58 4 z13.2.2.length (e_GCell.cells z13.2.2))) :: []))))) (v := (.agg ((.d (.int .i64 z13.1)) :: ((.d (.int .i64 z13.2.1)) :: ((.r (.msl 96 1 0 z13.2.2.length)) :: []))))) (ups' := [(96, ⟨1, some (.own 58 4 (e_GCell.cells z13.2.2))⟩)]) (by kernel_rfl) (by kernel_rfl) (by kernel_rfl) (fz_cons rfl fz_nil) (by kernel_rfl) (f54_ok (d - 1) (dpt hd rfl) a1.Other z13 hz13) (by kernel_rfl) (by kernel_rfl) (by kernel_rfl) (by kernel_rfl)) ?_
  refine zdRun (n := 4) (j := 10) (ts := [[], [(16, true)], [], [(16, true)]]) (acc' := [[], [(16, false)], [(72, true), (73, true), (74, true), (75, true), (76, true), (77, true), (78, true), (79, true)], [], [(16, false)], [(96, true), (97, true), (98, true), (99, true), (100, true), (101, true), (102, true), (103, true)], [], [(16, true)], [], [(16, true)]]) rfl (by kernel_rfl) (by kernel_rfl) (by kernel_rfl) ?_
  refine zdEnd (by kernel_rfl) (by kernel_rfl) ?_
  refine zkSeq ?_
  refine zrSeq ?_
  refine zrReg ?_
  refine zlRun (n := 1) (j := 1) rfl (by kernel_rfl) ?_
  refine zlEnd (by kernel_rfl) ?_
  refine zkSeq ?_
  refine zrSeq ?_
  refine zrSeq ?_
  refine zrReg ?_
  refine zlRun (n := 4) (j := 4) rfl (by kernel_rfl) ?_
  refine zlEnd (by kernel_rfl) ?_
  refine zkSeq ?_
  refine zrBlk ?_
  refine bindE hS (fun z26 hz26 hS => ?_)
  refine zrLoop (f36_l0_H a1) (f36_l0_X a1) (fun x st r Q h0 hS hQ => f36_l0_ok hd a1 hQ hS h0) (x := (z12.1, z12.2.1, z12.2.2, z13.1, z13.2.1, z13.2.2, [], 0)) (z := z26) (by show keepSt _ _ _ _ = _; kernel_rfl) hz26 ?_
  intro e st' _ hX
  obtain ⟨rfl, rfl⟩ : _ ∧ _ := hX
  refine zkBlkX ?_
  refine zkSeq ?_
  refine zrSeq ?_
  refine zrReg ?_
  refine zlRun (n := 3) (j := 3) rfl (by kernel_rfl) ?_
  refine zlEnd (by kernel_rfl) ?_
  refine zkSeq ?_
  refine zrSeq ?_
  refine zrReg ?_
  refine zlRun (n := 2) (j := 2) rfl (by kernel_rfl) ?_
  refine zlEnd (by kernel_rfl) ?_
  refine zkSeq ?_
  refine zrRet ?_
  refine zkNil ?_
  exact endQ hS hQ (fRet (by kernel_rfl) ((congrArg (fun s => outR s 0 c36.res) (by kernel_rfl : finSt c36.fin _ = f36_fin z26.1 z26.2.1 z26.2.2.1 a1.Row a1.Col a1.Late a1.Top a1.Bottom a1.Pen.Flags a1.Pen.Fore a1.Pen.Back a1.Modes a1.Stops.Bits a1.Pages.1 a1.Pages.2 a1.Shift a1.Saved.Row a1.Saved.Col a1.Saved.Pen.Flags a1.Saved.Pen.Fore a1.Saved.Pen.Back a1.Saved.Origin a1.Saved.Pages.1 a1.Saved.Pages.2 a1.Saved.Shift z26.2.2.2.1 z26.2.2.2.2.1 z26.2.2.2.2.2.1 a1.Title z26.2.2.2.2.2.2)).trans (f36_out z26.1 z26.2.1 z26.2.2.1 a1.Row a1.Col a1.Late a1.Top a1.Bottom a1.Pen.Flags a1.Pen.Fore a1.Pen.Back a1.Modes a1.Stops.Bits a1.Pages.1 a1.Pages.2 a1.Shift a1.Saved.Row a1.Saved.Col a1.Saved.Pen.Flags a1.Saved.Pen.Fore a1.Saved.Pen.Back a1.Saved.Origin a1.Saved.Pages.1 a1.Saved.Pages.2 a1.Saved.Shift z26.2.2.2.1 z26.2.2.2.2.1 z26.2.2.2.2.2.1 a1.Title z26.2.2.2.2.2.2)))
/- farwriter/screen.Resize -/
def f31_fin (p16 : Int) (p17 : Int) (p18 : List GCell) (p19 : Int) (p20 : Int) (p21 : Int) (p22 : Int) (p23 : Int) (p24 : Int) (p25 : Int) (p26 : Nat → Int) (p27 : Int) (p28 : Int) (p29 : Int) (p30 : Int) (p31 : Int) (p32 : Int) (p33 : Int) (p34 : Int) (p35 : Bool) (p36 : Int) (p37 : Int) (p38 : Int) (p39 : Int) (p40 : Int) (p41 : List GCell) (p42 : List UInt8) (p43 : List GLine) (p44 : Int) : St := ⟨(up (up (fun _ => .un) 7 (.d (.int .i64 p44))) 6 (.r (.ptr 56 0 0))), (up (up (up (up (hB fun _ => 0) 370 ⟨0, some (.own 87 1 (e_GLine.cells p43))⟩) 570 ⟨0, some (.own 58 4 (e_GCell.cells p41))⟩) 569 ⟨0, some (.own 58 4 (e_GCell.cells p18))⟩) 56 ⟨0, some (.box ((.d (.int .i64 p16)) :: ((.d (.int .i64 p17)) :: ((.r (.msl 569 0 0 p18.length)) :: ((.d (.int .i64 p19)) :: ((.d (.int .i64 p20)) :: ((.d (.bool false)) :: ((.d (.int .i64 0)) :: ((.d (.int .i64 p21)) :: ((.d (.int .i64 p22)) :: ((.d (.int .i64 p23)) :: ((.d (.int .i64 p24)) :: ((.d (.int .i64 p25)) :: (((eInt .u64).row 4 p26) ++ ((.d (.int .i64 p27)) :: ((.d (.int .i64 p28)) :: ((.d (.int .i64 p29)) :: ((.d (.int .i64 p30)) :: ((.d (.int .i64 p31)) :: ((.d (.int .i64 p32)) :: ((.d (.int .i64 p33)) :: ((.d (.int .i64 p34)) :: ((.d (.bool p35)) :: ((.d (.int .i64 p36)) :: ((.d (.int .i64 p37)) :: ((.d (.int .i64 p38)) :: ((.d (.int .i64 p39)) :: ((.d (.int .i64 p40)) :: ((.r (.msl 570 0 0 p41.length)) :: ((.d (.str p42)) :: ((.r (.msl 370 0 0 p43.length)) :: [])))))))))))))))))))))))))))))))⟩)⟩
theorem f31_out (p16 : Int) (p17 : Int) (p18 : List GCell) (p19 : Int) (p20 : Int) (p21 : Int) (p22 : Int) (p23 : Int) (p24 : Int) (p25 : Int) (p26 : Nat → Int) (p27 : Int) (p28 : Int) (p29 : Int) (p30 : Int) (p31 : Int) (p32 : Int) (p33 : Int) (p34 : Int) (p35 : Bool) (p36 : Int) (p37 : Int) (p38 : Int) (p39 : Int) (p40 : Int) (p41 : List GCell) (p42 : List UInt8) (p43 : List GLine) (p44 : Int) : outR (f31_fin p16 p17 p18 p19 p20 p21 p22 p23 p24 p25 p26 p27 p28 p29 p30 p31 p32 p33 p34 p35 p36 p37 p38 p39 p40 p41 p42 p43 p44) 0 c31.res = some ((.tup [(.agg ((.d (.int .i64 p16)) :: ((.d (.int .i64 p17)) :: ((.r (.own 0 58 4 p18.length (e_GCell.cells p18))) :: ((.d (.int .i64 p19)) :: ((.d (.int .i64 p20)) :: ((.d (.bool false)) :: ((.d (.int .i64 0)) :: ((.d (.int .i64 p21)) :: ((.d (.int .i64 p22)) :: ((.d (.int .i64 p23)) :: ((.d (.int .i64 p24)) :: ((.d (.int .i64 p25)) :: (((eInt .u64).row 4 p26) ++ ((.d (.int .i64 p27)) :: ((.d (.int .i64 p28)) :: ((.d (.int .i64 p29)) :: ((.d (.int .i64 p30)) :: ((.d (.int .i64 p31)) :: ((.d (.int .i64 p32)) :: ((.d (.int .i64 p33)) :: ((.d (.int .i64 p34)) :: ((.d (.bool p35)) :: ((.d (.int .i64 p36)) :: ((.d (.int .i64 p37)) :: ((.d (.int .i64 p38)) :: ((.d (.int .i64 p39)) :: ((.d (.int .i64 p40)) :: ((.r (.own 1 58 4 p41.length (e_GCell.cells p41))) :: ((.d (.str p42)) :: ((.r (.own 2 87 1 p43.length (e_GLine.cells p43))) :: []))))))))))))))))))))))))))))))), (.d (.int .i64 p44))]), []) := by
  exact out_of (ids := []) (ids' := [569, 570, 370]) (l := [(.agg ((.d (.int .i64 p16)) :: ((.d (.int .i64 p17)) :: ((.r (.msl 569 0 0 p18.length)) :: ((.d (.int .i64 p19)) :: ((.d (.int .i64 p20)) :: ((.d (.bool false)) :: ((.d (.int .i64 0)) :: ((.d (.int .i64 p21)) :: ((.d (.int .i64 p22)) :: ((.d (.int .i64 p23)) :: ((.d (.int .i64 p24)) :: ((.d (.int .i64 p25)) :: (((eInt .u64).row 4 p26) ++ ((.d (.int .i64 p27)) :: ((.d (.int .i64 p28)) :: ((.d (.int .i64 p29)) :: ((.d (.int .i64 p30)) :: ((.d (.int .i64 p31)) :: ((.d (.int .i64 p32)) :: ((.d (.int .i64 p33)) :: ((.d (.int .i64 p34)) :: ((.d (.bool p35)) :: ((.d (.int .i64 p36)) :: ((.d (.int .i64 p37)) :: ((.d (.int .i64 p38)) :: ((.d (.int .i64 p39)) :: ((.d (.int .i64 p40)) :: ((.r (.msl 570 0 0 p41.length)) :: ((.d (.str p42)) :: ((.r (.msl 370 0 0 p43.length)) :: []))))))))))))))))))))))))))))))), (.d (.int .i64 p44))]) (by kernel_rfl) (by kernel_rfl) (o_tup (o_cons (o_agg (o_cons rfl (o_cons rfl (o_cons (o_own e_GCell (e := 58) (k := 4) (xs := p18) (by kernel_rfl) rfl rfl rfl rfl) (o_cons rfl (o_cons rfl (o_cons rfl (o_cons rfl (o_cons rfl (o_cons rfl (o_cons rfl (o_cons rfl (o_cons rfl (o_app (o_row (eInt .u64)) (o_cons rfl (o_cons rfl (o_cons rfl (o_cons rfl (o_cons rfl (o_cons rfl (o_cons rfl (o_cons rfl (o_cons rfl (o_cons rfl (o_cons rfl (o_cons rfl (o_cons rfl (o_cons rfl (o_cons (o_own e_GCell (e := 58) (k := 4) (xs := p41) (by kernel_rfl) rfl rfl rfl rfl) (o_cons rfl (o_cons (o_own e_GLine (e := 87) (k := 1) (xs := p43) (by kernel_rfl) rfl rfl rfl rfl) o_nil))))))))))))))))))))))))))))))) (o_cons rfl o_nil)))
def f31_Q (r : Int × Int × (List GCell) × Int × Int × Int × Int × Int × Int × Int × (Nat → Int) × Int × Int × Int × Int × Int × Int × Int × Int × Bool × Int × Int × Int × Int × Int × (List GCell) × (List UInt8) × (List GLine) × Int) (e : PX) (st : St) : Prop := DoneF c31 0 ((.tup [(.agg ((.d (.int .i64 r.1)) :: ((.d (.int .i64 r.2.1)) :: ((.r (.own 0 58 4 r.2.2.1.length (e_GCell.cells r.2.2.1))) :: ((.d (.int .i64 r.2.2.2.1)) :: ((.d (.int .i64 r.2.2.2.2.1)) :: ((.d (.bool false)) :: ((.d (.int .i64 0)) :: ((.d (.int .i64 r.2.2.2.2.2.1)) :: ((.d (.int .i64 r.2.2.2.2.2.2.1)) :: ((.d (.int .i64 r.2.2.2.2.2.2.2.1)) :: ((.d (.int .i64 r.2.2.2.2.2.2.2.2.1)) :: ((.d (.int .i64 r.2.2.2.2.2.2.2.2.2.1)) :: (((eInt .u64).row 4 r.2.2.2.2.2.2.2.2.2.2.1) ++ ((.d (.int .i64 r.2.2.2.2.2.2.2.2.2.2.2.1)) :: ((.d (.int .i64 r.2.2.2.2.2.2.2.2.2.2.2.2.1)) :: ((.d (.int .i64 r.2.2.2.2.2.2.2.2.2.2.2.2.2.1)) :: ((.d (.int .i64 r.2.2.2.2.2.2.2.2.2.2.2.2.2.2.1)) :: ((.d (.int .i64 r.2.2.2.2.2.2.2.2.2.2.2.2.2.2.2.1)) :: ((.d (.int .i64 r.2.2.2.2.2.2.2.2.2.2.2.2.2.2.2.2.1)) :: ((.d (.int .i64 r.2.2.2.2.2.2.2.2.2.2.2.2.2.2.2.2.2.1)) :: ((.d (.int .i64 r.2.2.2.2.2.2.2.2.2.2.2.2.2.2.2.2.2.2.1)) :: ((.d (.bool r.2.2.2.2.2.2.2.2.2.2.2.2.2.2.2.2.2.2.2.1)) :: ((.d (.int .i64 r.2.2.2.2.2.2.2.2.2.2.2.2.2.2.2.2.2.2.2.2.1)) :: ((.d (.int .i64 r.2.2.2.2.2.2.2.2.2.2.2.2.2.2.2.2.2.2.2.2.2.1)) :: ((.d (.int .i64 r.2.2.2.2.2.2.2.2.2.2.2.2.2.2.2.2.2.2.2.2.2.2.1)) :: ((.d (.int .i64 r.2.2.2.2.2.2.2.2.2.2.2.2.2.2.2.2.2.2.2.2.2.2.2.1)) :: ((.d (.int .i64 r.2.2.2.2.2.2.2.2.2.2.2.2.2.2.2.2.2.2.2.2.2.2.2.2.1)) :: ((.r (.own 1 58 4 r.2.2.2.2.2.2.2.2.2.2.2.2.2.2.2.2.2.2.2.2.2.2.2.2.2.1.length (e_GCell.cells r.2.2.2.2.2.2.2.2.2.2.2.2.2.2.2.2.2.2.2.2.2.2.2.2.2.1))) :: ((.d (.str r.2.2.2.2.2.2.2.2.2.2.2.2.2.2.2.2.2.2.2.2.2.2.2.2.2.2.1)) :: ((.r (.own 2 87 1 r.2.2.2.2.2.2.2.2.2.2.2.2.2.2.2.2.2.2.2.2.2.2.2.2.2.2.2.1.length (e_GLine.cells r.2.2.2.2.2.2.2.2.2.2.2.2.2.2.2.2.2.2.2.2.2.2.2.2.2.2.2.1))) :: []))))))))))))))))))))))))))))))), (.d (.int .i64 r.2.2.2.2.2.2.2.2.2.2.2.2.2.2.2.2.2.2.2.2.2.2.2.2.2.2.2.2))]), []) e st
def f31_j2_J (a1 : GScreen) (a2 : Int) (a3 : Int) (p63 : Int) (p64 : Int) (p65 : List GCell) (p66 : Int) (p67 : Int) (p68 : List GCell) : St := ⟨(up (up (up (up (up (up (fun _ => .un) 11 (.r (.ptr 96 0 0))) 9 (.r (.ptr 80 0 0))) 6 (.r (.ptr 56 0 0))) 3 (.r (.ptr 32 0 0))) 2 (.d (.int .i64 a3))) 1 (.d (.int .i64 a2))), (up (up (up (up (up (up (hB fun _ => 0) 304 ⟨0, some (.own 58 4 (e_GCell.cells p68))⟩) 96 ⟨0, some (.box ((.d (.int .i64 p66)) :: ((.d (.int .i64 p67)) :: ((.r (.msl 304 0 0 p68.length)) :: []))))⟩) 200 ⟨0, some (.own 58 4 (e_GCell.cells p65))⟩) 80 ⟨0, some (.box ((.d (.int .i64 p63)) :: ((.d (.int .i64 p64)) :: ((.r (.msl 200 0 0 p65.length)) :: []))))⟩) 56 ⟨0, some (.box ((.d (.int .i64 0)) :: ((.d (.int .i64 0)) :: ((.d (.sl ([] : List GCell).length (e_GCell.cells ([])))) :: ((.d (.int .i64 0)) :: ((.d (.int .i64 0)) :: ((.d (.bool false)) :: ((.d (.int .i64 0)) :: ((.d (.int .i64 0)) :: ((.d (.int .i64 0)) :: ((.d (.int .i64 0)) :: ((.d (.int .i64 0)) :: ((.d (.int .i64 0)) :: (((eInt .u64).row 4 (fun _ => 0)) ++ ((.d (.int .i64 0)) :: ((.d (.int .i64 0)) :: ((.d (.int .i64 0)) :: ((.d (.int .i64 0)) :: ((.d (.int .i64 0)) :: ((.d (.int .i64 0)) :: ((.d (.int .i64 0)) :: ((.d (.int .i64 0)) :: ((.d (.bool false)) :: ((.d (.int .i64 0)) :: ((.d (.int .i64 0)) :: ((.d (.int .i64 0)) :: ((.d (.int .i64 0)) :: ((.d (.int .i64 0)) :: ((.d (.sl ([] : List GCell).length (e_GCell.cells ([])))) :: ((.d (.str ([]))) :: ((.d (.sl ([] : List GLine).length (e_GLine.cells ([])))) :: [])))))))))))))))))))))))))))))))⟩) 32 ⟨0, some (.box ((.d (.int .i64 a1.Grid.Wide)) :: ((.d (.int .i64 a1.Grid.High)) :: ((.d (.sl a1.Grid.Cells.length (e_GCell.cells a1.Grid.Cells))) :: ((.d (.int .i64 a1.Row)) :: ((.d (.int .i64 a1.Col)) :: ((.d (.bool a1.Late)) :: ((.d (.int .i64 a1.Top)) :: ((.d (.int .i64 a1.Bottom)) :: ((.d (.int .i64 a1.Pen.Flags)) :: ((.d (.int .i64 a1.Pen.Fore)) :: ((.d (.int .i64 a1.Pen.Back)) :: ((.d (.int .i64 a1.Modes)) :: (((eInt .u64).row 4 a1.Stops.Bits) ++ ((.d (.int .i64 a1.Pages.1)) :: ((.d (.int .i64 a1.Pages.2)) :: ((.d (.int .i64 a1.Shift)) :: ((.d (.int .i64 a1.Saved.Row)) :: ((.d (.int .i64 a1.Saved.Col)) :: ((.d (.int .i64 a1.Saved.Pen.Flags)) :: ((.d (.int .i64 a1.Saved.Pen.Fore)) :: ((.d (.int .i64 a1.Saved.Pen.Back)) :: ((.d (.bool a1.Saved.Origin)) :: ((.d (.int .i64 a1.Saved.Pages.1)) :: ((.d (.int .i64 a1.Saved.Pages.2)) :: ((.d (.int .i64 a1.Saved.Shift)) :: ((.d (.int .i64 a1.Other.Wide)) :: ((.d (.int .i64 a1.Other.High)) :: ((.d (.sl a1.Other.Cells.length (e_GCell.cells a1.Other.Cells))) :: ((.d (.str a1.Title)) :: ((.d (.sl a1.Past.length (e_GLine.cells a1.Past))) :: [])))))))))))))))))))))))))))))))⟩)⟩
noncomputable def f31_j2 (a1 : GScreen) (a2 : Int) (a3 : Int) (p63 : Int) (p64 : Int) (p65 : List GCell) (p66 : Int) (p67 : Int) (p68 : List GCell) : Option (Int × Int × (List GCell) × Int × Int × Int × Int × Int × Int × Int × (Nat → Int) × Int × Int × Int × Int × Int × Int × Int × Int × Bool × Int × Int × Int × Int × Int × (List GCell) × (List UInt8) × (List GLine) × Int) := ((f36 a1).bind fun z8 => (some (p63, p64, p65, (if (IntKind.i64.wrap (a3 - 1)) < z8.2.2.2.1 then (IntKind.i64.wrap (a3 - 1)) else z8.2.2.2.1), (if (IntKind.i64.wrap (a2 - 1)) < z8.2.2.2.2.1 then (IntKind.i64.wrap (a2 - 1)) else z8.2.2.2.2.1), a3, z8.2.2.2.2.2.2.2.2.1, z8.2.2.2.2.2.2.2.2.2.1, z8.2.2.2.2.2.2.2.2.2.2.1, z8.2.2.2.2.2.2.2.2.2.2.2.1, z8.2.2.2.2.2.2.2.2.2.2.2.2.1, z8.2.2.2.2.2.2.2.2.2.2.2.2.2.1, z8.2.2.2.2.2.2.2.2.2.2.2.2.2.2.1, z8.2.2.2.2.2.2.2.2.2.2.2.2.2.2.2.1, z8.2.2.2.2.2.2.2.2.2.2.2.2.2.2.2.2.1, z8.2.2.2.2.2.2.2.2.2.2.2.2.2.2.2.2.2.1, z8.2.2.2.2.2.2.2.2.2.2.2.2.2.2.2.2.2.2.1, z8.2.2.2.2.2.2.2.2.2.2.2.2.2.2.2.2.2.2.2.1, z8.2.2.2.2.2.2.2.2.2.2.2.2.2.2.2.2.2.2.2.2.1, z8.2.2.2.2.2.2.2.2.2.2.2.2.2.2.2.2.2.2.2.2.2.1, z8.2.2.2.2.2.2.2.2.2.2.2.2.2.2.2.2.2.2.2.2.2.2.1, z8.2.2.2.2.2.2.2.2.2.2.2.2.2.2.2.2.2.2.2.2.2.2.2.1, z8.2.2.2.2.2.2.2.2.2.2.2.2.2.2.2.2.2.2.2.2.2.2.2.2.1, p66, p67, p68, z8.2.2.2.2.2.2.2.2.2.2.2.2.2.2.2.2.2.2.2.2.2.2.2.2.2.2.2.2.1, z8.2.2.2.2.2.2.2.2.2.2.2.2.2.2.2.2.2.2.2.2.2.2.2.2.2.2.2.2.2, 0)))
theorem f31_j2_ok {d : Nat} (hd : 7 ≤ d) (a1 : GScreen) (a2 : Int) (a3 : Int) {r : Int × Int × (List GCell) × Int × Int × Int × Int × Int × Int × Int × (Nat → Int) × Int × Int × Int × Int × Int × Int × Int × Int × Bool × Int × Int × Int × Int × Int × (List GCell) × (List UInt8) × (List GLine) × Int} {Q : PX → St → Prop} (hQ : ∀ e st', f31_Q r e st' → Q e st') (p63 : Int) (p64 : Int) (p65 : List GCell) (p66 : Int) (p67 : Int) (p68 : List GCell) (hS : f31_j2 a1 a2 a3 p63 p64 p65 p66 p67 p68 = some r) {st : St} (he : keepSt [1, 2, 3, 6, 9, 11] [(32, .id 32), (56, .id 56), (80, .id 80), (200, .id 200), (96, .id 96), (304, .id 304)] [] st = f31_j2_J a1 a2 a3 p63 p64 p65 p66 p67 p68) : ZR (lev codes baseL (d - 1)) Q c31_1 [] st := by
  refine zrKeep he ?_
  unfold f31_j2 at hS
  refine zrSeq ?_
  refine zrReg ?_
  refine zlRun (n := 1) (j := 1) rfl (by kernel_rfl) ?_
  refine bindE hS (fun z8 hz8 hS => ?_)
  refine zlOp (d := some 45) (op := (.callf 36 [(.tmp 44)])) (g := none) (v := (.agg ((.d (.int .i64 z8.1)) :: ((.d (.int .i64 z8.2.1)) :: ((.r (.msl 368 1 0 z8.2.2.1.length)) :: ((.d (.int .i64 z8.2.2.2.1)) :: ((.d (.int .i64 z8.2.2.2.2.1)) :: ((.d (.bool z8.2.2.2.2.2.1)) :: ((.d (.int .i64 z8.2.2.2.2.2.2.1)) :: ((.d (.int .i64 z8.2.2.2.2.2.2.2.1)) :: ((.d (.int .i64 z8.2.2.2.2.2.2.2.2.1)) :: ((.d (.int .i64 z8.2.2.2.2.2.2.2.2.2.1)) :: ((.d (.int .i64 z8.2.2.2.2.2.2.2.2.2.2.1)) :: ((.d (.int .i64 z8.2.2.2.2.2.2.2.2.2.2.2.1)) :: (((eInt .u64).row 4 z8.2.2.2.2.2.2.2.2.2.2.2.2.1) ++ ((.d (.int .i64 z8.2.2.2.2.2.2.2.2.2.2.2.2.2.1)) :: ((.d (.int .i64 z8.2.2.2.2.2.2.2.2.2.2.2.2.2.2.1)) :: ((.d (.int .i64 z8.2.2.2.2.2.2.2.2.2.2.2.2.2.2.2.1)) :: ((.d (.int .i64 z8.2.2.2.2.2.2.2.2.2.2.2.2.2.2.2.2.1)) :: ((.d (.int .i64 z8.2.2.2.2.2.2.2.2.2.2.2.2.2.2.2.2.2.1)) :: ((.d (.int .i64 z8.2.2.2.2.2.2.2.2.2.2.2.2.2.2.2.2.2.2.1)) :: ((.d (.int .i64 z8.2.2.2.2.2.2.2.2.2.2.2.2.2.2.2.2.2.2.2.1)) :: ((.d (.int .i64 z8.2.2.2.2.2.2.2.2.2.2.2.2.2.2.2.2.2.2.2.2.1)) :: ((.d (.bool z8.2.2.2.2.2.2.2.2.2.2.2.2.2.2.2.2.2.2.2.2.2.1)) :: ((.d (.int .i64 z8.2.2.2.2.2.2.2.2.2.2.2.2.2.2.2.2.2.2.2.2.2.2.1)) :: ((.d (.int .i64 z8.2.2.2.2.2.2.2.2.2.2.2.2.2.2.2.2.2.2.2.2.2.2.2.1)) :: ((.d (.int .i64 z8.2.2.2.2.2.2.2.2.2.2.2.2.2.2.2.2.2.2.2.2.2.2.2.2.1)) :: ((.d (.int .i64 z8.2.2.2.2.2.2.2.2.2.2.2.2.2.2.2.2.2.2.2.2.2.2.2.2.2.1)) :: ((.d (.int .i64 z8.2.2.2.2.2.2.2.2.2.2.2.2.2.2.2.2.2.2.2.2.2.2.2.2.2.2.1)) :: ((.r (.msl 369 1 0 z8.2.2.2.2.2.2.2.2.2.2.2.2.2.2.2.2.2.2.2.2.2.2.2.2.2.2.2.1.length)) :: ((.d (.str z8.2.2.2.2.2.2.2.2.2.2.2.2.2.2.2.2.2.2.2.2.2.2.2.2.2.2.2.2.1)) :: ((.r (.msl 370 1 0 z8.2.2.2.2.2.2.2.2.2.2.2.2.2.2.2.2.2.2.2.2.2.2.2.2.2.2.2.2.2.length)) :: [])))))))))))))))))))))))))))))))) (ups := [(368, ⟨1, some (.own 58 4 (e_GCell.cells z8.2.2.1))⟩), (369, ⟨1, some (.own 58 4 (e_GCell.cells z8.2.2.2.2.2.2.2.2.2.2.2.2.2.2.2.2.2.2.2.2.2.2.2.2.2.2.2.1))⟩), (370, ⟨1, some (.own 87 1 (e_GLine.cells z8.2.2.2.2.2.2.2.2.2.2.2.2.2.2.2.2.2.2.2.2.2.2.2.2.2.2.2.2.2))⟩)]) (j := 2) rfl (by kernel_rfl) (by kernel_rfl) (ev_callF (args := [(.agg ((.d (.int .i64 a1.Grid.Wide)) :: ((.d (.int .i64 a1.Grid.High)) :: ((.d (.sl a1.Grid.Cells.length (e_GCell.cells a1.Grid.Cells))) :: ((.d (.int .i64 a1.Row)) :: ((.d (.int .i64 a1.Col)) :: ((.d (.bool a1.Late)) :: ((.d (.int .i64 a1.Top)) :: ((.d (.int .i64 a1.Bottom)) :: ((.d (.int .i64 a1.Pen.Flags)) :: ((.d (.int .i64 a1.Pen.Fore)) :: ((.d (.int .i64 a1.Pen.Back)) :: ((.d (.int .i64 a1.Modes)) :: (((eInt .u64).row 4 a1.Stops.Bits) ++ ((.d (.int .i64 a1.Pages.1)) :: ((.d (.int .i64 a1.Pages.2)) :: ((.d (.int .i64 a1.Shift)) :: ((.d (.int .i64 a1.Saved.Row)) :: ((.d (.int .i64 a1.Saved.Col)) :: ((.d (.int .i64 a1.Saved.Pen.Flags)) :: ((.d (.int .i64 a1.Saved.Pen.Fore)) :: ((.d (.int .i64 a1.Saved.Pen.Back)) :: ((.d (.bool a1.Saved.Origin)) :: ((.d (.int .i64 a1.Saved.Pages.1)) :: ((.d (.int .i64 a1.Saved.Pages.2)) :: ((.d (.int .i64 a1.Saved.Shift)) :: ((.d (.int .i64 a1.Other.Wide)) :: ((.d (.int .i64 a1.Other.High)) :: ((.d (.sl a1.Other.Cells.length (e_GCell.cells a1.Other.Cells))) :: ((.d (.str a1.Title)) :: ((.d (.sl a1.Past.length (e_GLine.cells a1.Past))) :: [])))))))))))))))))))))))))))))))]) (args' := [(.agg ((.d (.int .i64 a1.Grid.Wide)) :: ((.d (.int .i64 a1.Grid.High)) :: ((.d (.sl a1.Grid.Cells.length (e_GCell.cells a1.Grid.Cells))) :: ((.d (.int .i64 a1.Row)) :: ((.d (.int .i64 a1.Col)) :: ((.d (.bool a1.Late)) :: ((.d (.int .i64 a1.Top)) :: ((.d (.int .i64 a1.Bottom)) :: ((.d (.int .i64 a1.Pen.Flags)) :: ((.d (.int .i64 a1.Pen.Fore)) :: ((.d (.int .i64 a1.Pen.Back)) :: ((.d (.int .i64 a1.Modes)) :: (((eInt .u64).row 4 a1.Stops.Bits) ++ ((.d (.int .i64 a1.Pages.1)) :: ((.d (.int .i64 a1.Pages.2)) :: ((.d (.int .i64 a1.Shift)) :: ((.d (.int .i64 a1.Saved.Row)) :: ((.d (.int .i64 a1.Saved.Col)) :: ((.d (.int .i64 a1.Saved.Pen.Flags)) :: ((.d (.int .i64 a1.Saved.Pen.Fore)) :: ((.d (.int .i64 a1.Saved.Pen.Back)) :: ((.d (.bool a1.Saved.Origin)) :: ((.d (.int .i64 a1.Saved.Pages.1)) :: ((.d (.int .i64 a1.Saved.Pages.2)) :: ((.d (.int .i64 a1.Saved.Shift)) :: ((.d (.int .i64 a1.Other.Wide)) :: ((.d (.int .i64 a1.Other.High)) :: ((.d (.sl a1.Other.Cells.length (e_GCell.cells a1.Other.Cells))) :: ((.d (.str a1.Title)) :: ((.d (.sl a1.Past.length (e_GLine.cells a1.Past))) :: [])))))))))))))))))))))))))))))))]) (l := [(.agg ((.d (.int .i64 a1.Grid.Wide)) :: ((.d (.int .i64 a1.Grid.High)) :: ((.d (.sl a1.Grid.Cells.length (e_GCell.cells a1.Grid.Cells))) :: ((.d (.int .i64 a1.Row)) :: ((.d (.int .i64 a1.Col)) :: ((.d (.bool a1.Late)) :: ((.d (.int .i64 a1.Top)) :: ((.d (.int .i64 a1.Bottom)) :: ((.d (.int .i64 a1.Pen.Flags)) :: ((.d (.int .i64 a1.Pen.Fore)) :: ((.d (.int .i64 a1.Pen.Back)) :: ((.d (.int .i64 a1.Modes)) :: (((eInt .u64).row 4 a1.Stops.Bits) ++ ((.d (.int .i64 a1.Pages.1)) :: ((.d (.int .i64 a1.Pages.2)) :: ((.d (.int .i64 a1.Shift)) :: ((.d (.int .i64 a1.Saved.Row)) :: ((.d (.int .i64 a1.Saved.Col)) :: ((.d (.int .i64 a1.Saved.Pen.Flags)) :: ((.d (.int .i64 a1.Saved.Pen.Fore)) :: ((.d (.int .i64 a1.Saved.Pen.Back)) :: ((.d (.bool a1.Saved.Origin)) :: ((.d (.int .i64 a1.Saved.Pages.1)) :: ((.d (.int .i64 a1.Saved.Pages.2)) :: ((.d (.int .i64 a1.Saved.Shift)) :: ((.d (.int .i64 a1.Other.Wide)) :: ((.d (.int .i64 a1.Other.High)) :: ((.d (.sl a1.Other.Cells.length (e_GCell.cells a1.Other.Cells))) :: ((.d (.str a1.Title)) :: ((.d (.sl a1.Past.length (e_GLine.cells a1.Past))) :: [])))))))))))))))))))))))))))))))]) (refs := []) (r := (.agg ((.d (.int .i64 z8.1)) :: ((.d (.int .i64 z8.2.1)) :: ((.r (.own 0 58 4 z8.2.2.1.length (e_GCell.cells z8.2.2.1))) :: ((.d (.int .i64 z8.2.2.2.1)) :: ((.d (.int .i64 z8.2.2.2.2.1)) :: ((.d (.bool z8.2.2.2.2.2.1)) :: ((.d (.int .i64 z8.2.2.2.2.2.2.1)) :: ((.d (.int .i64 z8.2.2.2.2.2.2.2.1)) :: ((.d (.int .i64 z8.2.2.2.2.2.2.2.2.1)) :: ((.d (.int .i64 z8.2.2.2.2.2.2.2.2.2.1)) :: ((.d (.int .i64 z8.2.2.2.2.2.2.2.2.2.2.1)) :: ((.d (.int .i64 z8.2.2.2.2.2.2.2.2.2.2.2.1)) :: (((eInt .u64).row 4 z8.2.2.2.2.2.2.2.2.2.2.2.2.1) ++ ((.d (.int .i64 z8.2.2.2.2.2.2.2.2.2.2.2.2.2.1)) :: ((.d (.int .i64 z8.2.2.2.2.2.2.2.2.2.2.2.2.2.2.1)) :: ((.d (.int .i64 z8.2.2.2.2.2.2.2.2.2.2.2.2.2.2.2.1)) :: ((.d (.int .i64 z8.2.2.2.2.2.2.2.2.2.2.2.2.2.2.2.2.1)) :: ((.d (.int .i64 z8.2.2.2.2.2.2.2.2.2.2.2.2.2.2.2.2.2.1)) :: ((.d (.int .i64 z8.2.2.2.2.2.2.2.2.2.2.2.2.2.2.2.2.2.2.1)) :: ((.d (.int .i64 z8.2.2.2.2.2.2.2.2.2.2.2.2.2.2.2.2.2.2.2.1)) :: ((.d (.int .i64 z8.2.2.2.2.2.2.2.2.2.2.2.2.2.2.2.2.2.2.2.2.1)) :: ((.d (.bool z8.2.2.2.2.2.2.2.2.2.2.2.2.2.2.2.2.2.2.2.2.2.1)) :: ((.d (.int .i64 z8.2.2.2.2.2.2.2.2.2.2.2.2.2.2.2.2.2.2.2.2.2.2.1)) :: ((.d (.int .i64 z8.2.2.2.2.2.2.2.2.2.2.2.2.2.2.2.2.2.2.2.2.2.2.2.1)) :: ((.d (.int .i64 z8.2.2.2.2.2.2.2.2.2.2.2.2.2.2.2.2.2.2.2.2.2.2.2.2.1)) :: ((.d (.int .i64 z8.2.2.2.2.2.2.2.2.2.2.2.2.2.2.2.2.2.2.2.2.2.2.2.2.2.1)) :: ((.d (.int .i64 z8.2.2.2.2.2.2.2.2.2.2.2.2.2.2.2.2.2.2.2.2.2.2.2.2.2.2.1)) :: ((.r (.own 1 58 4 z8.2.2.2.2.2.2.2.2.2.2.2.2.2.2.2.2.2.2.2.2.2.2.2.2.2.2.2.1.length (e_GCell.cells z8.2.2.2.2.2.2.2.2.2.2.2.2.2.2.2.2.2.2.2.2.2.2.2.2.2.2.2.1))) :: ((.d (.str z8.2.2.2.2.2.2.2.2.2.2.2.2.2.2.2.2.2.2.2.2.2.2.2.2.2.2.2.2.1)) :: ((.r (.own 2 87 1 z8.2.2.2.2.2.2.2.2.2.2.2.2.2.2.2.2.2.2.2.2.2.2.2.2.2.2.2.2.2.length (e_GLine.cells z8.2.2.2.2.2.2.2.2.2.2.2.2.2.2.2.2.2.2.2.2.2.2.2.2.2.2.2.2.2))) :: [])))))))))))))))))))))))))))))))) (v := (.agg ((.d (.int .i64 z8.1)) :: ((.d (.int .i64 z8.2.1)) :: ((.r (.msl 368 1 0 z8.2.2.1.length)) :: ((.d (.int .i64 z8.2.2.2.1)) :: ((.d (.int .i64 z8.2.2.2.2.1)) :: ((.d (.bool z8.2.2.2.2.2.1)) :: ((.d (.int .i64 z8.2.2.2.2.2.2.1)) :: ((.d (.int .i64 z8.2.2.2.2.2.2.2.1)) :: ((.d (.int .i64 z8.2.2.2.2.2.2.2.2.1)) :: ((.d (.int .i64 z8.2.2.2.2.2.2.2.2.2.1)) :: ((.d (.int .i64 z8.2.2.2.2.2.2.2.2.2.2.1)) :: ((.d (.int .i64 z8.2.2.2.2.2.2.2.2.2.2.2.1)) :: (((eInt .u64).row 4 z8.2.2.2.2.2.2.2.2.2.2.2.2.1) ++ ((.d (.int .i64 z8.2.2.2.2.2.2.2.2.2.2.2.2.2.1)) :: ((.d (.int .i64 z8.2.2.2.2.2.2.2.2.2.2.2.2.2.2.1)) :: ((.d (.int .i64 z8.2.2.2.2.2.2.2.2.2.2.2.2.2.2.2.1)) :: ((.d (.int .i64 z8.2.2.2.2.2.2.2.2.2.2.2.2.2.2.2.2.1)) :: ((.d (.int .i64 z8.2.2.2.2.2.2.2.2.2.2.2.2.2.2.2.2.2.1)) :: ((.d (.int .i64 z8.2.2.2.2.2.2.2.2.2.2.2.2.2.2.2.2.2.2.1)) :: ((.d (.int .i64 z8.2.2.2.2.2.2.2.2.2.2.2.2.2.2.2.2.2.2.2.1)) :: ((.d (.int .i64 z8.2.2.2.2.2.2.2.2.2.2.2.2.2.2.2.2.2.2.2.2.1)) :: ((.d (.bool z8.2.2.2.2.2.2.2.2.2.2.2.2.2.2.2.2.2.2.2.2.2.1)) :: ((.d (.int .i64 z8.2.2.2.2.2.2.2.2.2.2.2.2.2.2.2.2.2.2.2.2.2.2.1)) :: ((.d (.int .i64 z8.2.2.2.2.2.2.2.2.2.2.2.2.2.2.2.2.2.2.2.2.2.2.2.1)) :: ((.d (.int .i64 z8.2.2.2.2.2.2.2.2.2.2.2.2.2.2.2.2.2.2.2.2.2.2.2.2.1)) :: ((.d (.int .i64 z8.2.2.2.2.2.2.2.2.2.2.2.2.2.2.2.2.2.2.2.2.2.2.2.2.2.1)) :: ((.d (.int .i64 z8.2.2.2.2.2.2.2.2.2.2.2.2.2.2.2.2.2.2.2.2.2.2.2.2.2.2.1)) :: ((.r (.msl 369 1 0 z8.2.2.2.2.2.2.2.2.2.2.2.2.2.2.2.2.2.2.2.2.2.2.2.2.2.2.2.1.length)) :: ((.d (.str z8.2.2.2.2.2.2.2.2.2.2.2.2.2.2.2.2.2.2.2.2.2.2.2.2.2.2.2.2.1)) :: ((.r (.msl 370 1 0 z8.2.2.2.2.2.2.2.2.2.2.2.2.2.2.2.2.2.2.2.2.2.2.2.2.2.2.2.2.2.length)) :: [])))))))))))))))))))))))))))))))) (ups' := [(368, ⟨1, some (.own 58 4 (e_GCell.cells z8.2.2.1))⟩), (369, ⟨1, some (.own 58 4 (e_GCell.cells z8.2.2.2.2.2.2.2.2.2.2.2.2.2.2.2.2.2.2.2.2.2.2.2.2.2.2.2.1))⟩), (370, ⟨1, some (.own 87 1 (e_GLine.cells z8.2.2.2.2.2.2.2.2.2.2.2.2.2.2.2.2.2.2.2.2.2.2.2.2.2.2.2.2.2))⟩)]) (by kernel_rfl) (by kernel_rfl) (by kernel_rfl) (fz_cons rfl fz_nil) (by kernel_rfl) (f36_ok (d - 1) (dpt hd rfl) a1 z8 hz8) (by kernel_rfl) (by kernel_rfl) (by kernel_rfl) (by kernel_rfl)) ?_
  refine zlRun (n := 1) (j := 3) rfl (by kernel_rfl) ?_
  refine zlEnd (by kernel_rfl) ?_
  refine zkSeq ?_
  refine zrSeq ?_
  refine zrRegD ?_
  refine zdRun (n := 6) (j := 6) (ts := [[(80, false)], [(96, false)], [], [(32, true)], [], [(32, true)]]) (acc' := [[(80, false)], [(96, false)], [], [(32, true)], [], [(32, true)]]) rfl (by kernel_rfl) (by kernel_rfl) (by kernel_rfl) ?_
  refine zdEnd (by kernel_rfl) (by kernel_rfl) ?_
  refine zkSeq ?_
  refine zrSeq ?_
  refine zrReg ?_
  refine zlRun (n := 14) (j := 14) rfl (by kernel_rfl) ?_
  refine zlEnd (by kernel_rfl) ?_
  refine zkSeq ?_
  refine zrSeq ?_
  refine zrReg ?_
  refine zlRun (n := 7) (j := 7) rfl (by kernel_rfl) ?_
  refine zlEnd (by kernel_rfl) ?_
  refine zkSeq ?_
  refine zrSeq ?_
  refine zrReg ?_
  refine zlRun (n := 3) (j := 3) rfl (by kernel_rfl) ?_
  refine zlEnd (by kernel_rfl) ?_
  refine zkSeq ?_
  refine zrRet ?_
  refine zkNil ?_
  exact endQ hS hQ (fRet (by kernel_rfl) ((congrArg (fun s => outR s 0 c31.res) (by kernel_rfl : finSt c31.fin _ = f31_fin p63 p64 p65 (if (IntKind.i64.wrap (a3 - 1)) < z8.2.2.2.1 then (IntKind.i64.wrap (a3 - 1)) else z8.2.2.2.1) (if (IntKind.i64.wrap (a2 - 1)) < z8.2.2.2.2.1 then (IntKind.i64.wrap (a2 - 1)) else z8.2.2.2.2.1) a3 z8.2.2.2.2.2.2.2.2.1 z8.2.2.2.2.2.2.2.2.2.1 z8.2.2.2.2.2.2.2.2.2.2.1 z8.2.2.2.2.2.2.2.2.2.2.2.1 z8.2.2.2.2.2.2.2.2.2.2.2.2.1 z8.2.2.2.2.2.2.2.2.2.2.2.2.2.1 z8.2.2.2.2.2.2.2.2.2.2.2.2.2.2.1 z8.2.2.2.2.2.2.2.2.2.2.2.2.2.2.2.1 z8.2.2.2.2.2.2.2.2.2.2.2.2.2.2.2.2.1 z8.2.2.2.2.2.2.2.2.2.2.2.2.2.2.2.2.2.1 z8.2.2.2.2.2.2.2.2.2.2.2.2.2.2.2.2.2.2.1 z8.2.2.2.2.2.2.2.2.2.2.2.2.2.2.2.2.2.2.2.1 z8.2.2.2.2.2.2.2.2.2.2.2.2.2.2.2.2.2.2.2.2.1 z8.2.2.2.2.2.2.2.2.2.2.2.2.2.2.2.2.2.2.2.2.2.1 z8.2.2.2.2.2.2.2.2.2.2.2.2.2.2.2.2.2.2.2.2.2.2.1 z8.2.2.2.2.2.2.2.2.2.2.2.2.2.2.2.2.2.2.2.2.2.2.2.1 z8.2.2.2.2.2.2.2.2.2.2.2.2.2.2.2.2.2.2.2.2.2.2.2.2.1 p66 p67 p68 z8.2.2.2.2.2.2.2.2.2.2.2.2.2.2.2.2.2.2.2.2.2.2.2.2.2.2.2.2.1 z8.2.2.2.2.2.2.2.2.2.2.2.2.2.2.2.2.2.2.2.2.2.2.2.2.2.2.2.2.2 0)).trans (f31_out p63 p64 p65 (if (IntKind.i64.wrap (a3 - 1)) < z8.2.2.2.1 then (IntKind.i64.wrap (a3 - 1)) else z8.2.2.2.1) (if (IntKind.i64.wrap (a2 - 1)) < z8.2.2.2.2.1 then (IntKind.i64.wrap (a2 - 1)) else z8.2.2.2.2.1) a3 z8.2.2.2.2.2.2.2.2.1 z8.2.2.2.2.2.2.2.2.2.1 z8.2.2.2.2.2.2.2.2.2.2.1 z8.2.2.2.2.2.2.2.2.2.2.2.1 z8.2.2.2.2.2.2.2.2.2.2.2.2.1 z8.2.2.2.2.2.2.2.2.2.2.2.2.2.1 z8.2.2.2.2.2.2.2.2.2.2.2.2.2.2.1 z8.2.2.2.2.2.2.2.2.2.2.2.2.2.2.2.1 z8.2.2.2.2.2.2.2.2.2.2.2.2.2.2.2.2.1 z8.2.2.2.2.2.2.2.2.2.2.2.2.2.2.2.2.2.1 z8.2.2.2.2.2.2.2.2.2.2.2.2.2.2.2.2.2.2.1 z8.2.2.2.2.2.2.2.2.2.2.2.2.2.2.2.2.2.2.2.1 z8.2.2.2.2.2.2.2.2.2.2.2.2.2.2.2.2.2.2.2.2.1 z8.2.2.2.2.2.2.2.2.2.2.2.2.2.2.2.2.2.2.2.2.2.1 z8.2.2.2.2.2.2.2.2.2.2.2.2.2.2.2.2.2.2.2.2.2.2.1 z8.2.2.2.2.2.2.2.2.2.2.2.2.2.2.2.2.2.2.2.2.2.2.2.1 z8.2.2.2.2.2.2.2.2.2.2.2.2.2.2.2.2.2.2.2.2.2.2.2.2.1 p66 p67 p68 z8.2.2.2.2.2.2.2.2.2.2.2.2.2.2.2.2.2.2.2.2.2.2.2.2.2.2.2.2.1 z8.2.2.2.2.2.2.2.2.2.2.2.2.2.2.2.2.2.2.2.2.2.2.2.2.2.2.2.2.2 0)))
def f31_j1_J (a1 : GScreen) (a2 : Int) (a3 : Int) (p52 : Int) (p53 : Int) (p54 : List GCell) : St := ⟨(up (up (up (up (up (fun _ => .un) 9 (.r (.ptr 80 0 0))) 6 (.r (.ptr 56 0 0))) 3 (.r (.ptr 32 0 0))) 2 (.d (.int .i64 a3))) 1 (.d (.int .i64 a2))), (up (up (up (up (hB fun _ => 0) 200 ⟨0, some (.own 58 4 (e_GCell.cells p54))⟩) 80 ⟨0, some (.box ((.d (.int .i64 p52)) :: ((.d (.int .i64 p53)) :: ((.r (.msl 200 0 0 p54.length)) :: []))))⟩) 56 ⟨0, some (.box ((.d (.int .i64 0)) :: ((.d (.int .i64 0)) :: ((.d (.sl ([] : List GCell).length (e_GCell.cells ([])))) :: ((.d (.int .i64 0)) :: ((.d (.int .i64 0)) :: ((.d (.bool false)) :: ((.d (.int .i64 0)) :: ((.d (.int .i64 0)) :: ((.d (.int .i64 0)) :: ((.d (.int .i64 0)) :: ((.d (.int .i64 0)) :: ((.d (.int .i64 0)) :: (((eInt .u64).row 4 (fun _ => 0)) ++ ((.d (.int .i64 0)) :: ((.d (.int .i64 0)) :: ((.d (.int .i64 0)) :: ((.d (.int .i64 0)) :: ((.d (.int .i64 0)) :: ((.d (.int .i64 0)) :: ((.d (.int .i64 0)) :: ((.d (.int .i64 0)) :: ((.d (.bool false)) :: ((.d (.int .i64 0)) :: ((.d (.int .i64 0)) :: ((.d (.int .i64 0)) :: ((.d (.int .i64 0)) :: ((.d (.int .i64 0)) :: ((.d (.sl ([] : List GCell).length (e_GCell.cells ([])))) :: ((.d (.str ([]))) :: ((.d (.sl ([] : List GLine).length (e_GLine.cells ([])))) :: [])))))))))))))))))))))))))))))))⟩) 32 ⟨0, some (.box ((.d (.int .i64 a1.Grid.Wide)) :: ((.d (.int .i64 a1.Grid.High)) :: ((.d (.sl a1.Grid.Cells.length (e_GCell.cells a1.Grid.Cells))) :: ((.d (.int .i64 a1.Row)) :: ((.d (.int .i64 a1.Col)) :: ((.d (.bool a1.Late)) :: ((.d (.int .i64 a1.Top)) :: ((.d (.int .i64 a1.Bottom)) :: ((.d (.int .i64 a1.Pen.Flags)) :: ((.d (.int .i64 a1.Pen.Fore)) :: ((.d (.int .i64 a1.Pen.Back)) :: ((.d (.int .i64 a1.Modes)) :: (((eInt .u64).row 4 a1.Stops.Bits) ++ ((.d (.int .i64 a1.Pages.1)) :: ((.d (.int .i64 a1.Pages.2)) :: ((.d (.int .i64 a1.Shift)) :: ((.d (.int .i64 a1.Saved.Row)) :: ((.d (.int .i64 a1.Saved.Col)) :: ((.d (.int .i64 a1.Saved.Pen.Flags)) :: ((.d (.int .i64 a1.Saved.Pen.Fore)) :: ((.d (.int .i64 a1.Saved.Pen.Back)) :: ((.d (.bool a1.Saved.Origin)) :: ((.d (.int .i64 a1.Saved.Pages.1)) :: ((.d (.int .i64 a1.Saved.Pages.2)) :: ((.d (.int .i64 a1.Saved.Shift)) :: ((.d (.int .i64 a1.Other.Wide)) :: ((.d (.int .i64 a1.Other.High)) :: ((.d (.sl a1.Other.Cells.length (e_GCell.cells a1.Other.Cells))) :: ((.d (.str a1.Title)) :: ((.d (.sl a1.Past.length (e_GLine.cells a1.Past))) :: [])))))))))))))))))))))))))))))))⟩)⟩
noncomputable def f31_j1 (a1 : GScreen) (a2 : Int) (a3 : Int) (p52 : Int) (p53 : Int) (p54 : List GCell) : Option (Int × Int × (List GCell) × Int × Int × Int × Int × Int × Int × Int × (Nat → Int) × Int × Int × Int × Int × Int × Int × Int × Int × Bool × Int × Int × Int × Int × Int × (List GCell) × (List UInt8) × (List GLine) × Int) := ((f56 a1.Other a2 a3 (GPen.mk 0 0 0)).bind fun z7 => (bif (!decide (z7.2.2.2 = 0)) then (some (0, 0, [], 0, 0, 0, 0, 0, 0, 0, (fun _ => 0), 0, 0, 0, 0, 0, 0, 0, 0, false, 0, 0, 0, 0, 0, [], [], [], z7.2.2.2)) else (f31_j2 a1 a2 a3 p52 p53 p54 z7.1 z7.2.1 z7.2.2.1)))
theorem f31_j1_ok {d : Nat} (hd : 7 ≤ d) (a1 : GScreen) (a2 : Int) (a3 : Int) {r : Int × Int × (List GCell) × Int × Int × Int × Int × Int × Int × Int × (Nat → Int) × Int × Int × Int × Int × Int × Int × Int × Int × Bool × Int × Int × Int × Int × Int × (List GCell) × (List UInt8) × (List GLine) × Int} {Q : PX → St → Prop} (hQ : ∀ e st', f31_Q r e st' → Q e st') (p52 : Int) (p53 : Int) (p54 : List GCell) (hS : f31_j1 a1 a2 a3 p52 p53 p54 = some r) {st : St} (he : keepSt [1, 2, 3, 6, 9] [(32, .id 32), (56, .id 56), (80, .id 80), (200, .id 200)] [] st = f31_j1_J a1 a2 a3 p52 p53 p54) : ZR (lev codes baseL (d - 1)) Q c31_2 [] st := by
  refine zrKeep he ?_
  unfold f31_j1 at hS
  refine zrSeq ?_
  refine zrReg ?_
  refine zlRun (n := 5) (j := 5) rfl (by kernel_rfl) ?_
  refine bindE hS (fun z7 hz7 hS => ?_)
  refine zlOp (d := some 37) (op := (.callf 56 [(.tmp 33), (.tmp 34), (.tmp 35), (.tmp 36)])) (g := none) (v := (.tup [(.agg ((.d (.int .i64 z7.1)) :: ((.d (.int .i64 z7.2.1)) :: ((.r (.msl 304 1 0 z7.2.2.1.length)) :: [])))), (.d (.int .i64 z7.2.2.2))])) (ups := [(304, ⟨1, some (.own 58 4 (e_GCell.cells z7.2.2.1))⟩)]) (j := 6) rfl (by kernel_rfl) (by kernel_rfl) (ev_callF (args := [(.agg ((.d (.int .i64 a1.Other.Wide)) :: ((.d (.int .i64 a1.Other.High)) :: ((.d (.sl a1.Other.Cells.length (e_GCell.cells a1.Other.Cells))) :: [])))), (.d (.int .i64 a2)), (.d (.int .i64 a3)), (.agg ((.d (.int .i64 0)) :: ((.d (.int .i64 0)) :: ((.d (.int .i64 0)) :: []))))]) (args' := [(.agg ((.d (.int .i64 a1.Other.Wide)) :: ((.d (.int .i64 a1.Other.High)) :: ((.d (.sl a1.Other.Cells.length (e_GCell.cells a1.Other.Cells))) :: [])))), (.d (.int .i64 a2)), (.d (.int .i64 a3)), (.agg ((.d (.int .i64 0)) :: ((.d (.int .i64 0)) :: ((.d (.int .i64 0)) :: []))))]) (l := [(.agg ((.d (.int .i64 a1.Other.Wide)) :: ((.d (.int .i64 a1.Other.High)) :: ((.d (.sl a1.Other.Cells.length (e_GCell.cells a1.Other.Cells))) :: [])))), (.d (.int .i64 a2)), (.d (.int .i64 a3)), (.agg ((.d (.int .i64 0)) :: ((.d (.int .i64 0)) :: ((.d (.int .i64 0)) :: []))))]) (refs := []) (r := (.tup [(.agg ((.d (.int .i64 z7.1)) :: ((.d (.int .i64 z7.2.1)) :: ((.r (.own 0 58 4 z7.2.2.1.length (e_GCell.cells z7.2.2.1))) :: [])))), (.d (.int .i64 z7.2.2.2))])) (v := (.tup [(.agg ((.d (.int .i64 z7.1)) :: ((.d (.int .i64 z7.2.1)) :: ((.r (.msl 304 1 0 z7.2.2.1.length)) :: [])))), (.d (.int .i64 z7.2.2.2))])) (ups' := [(304, ⟨1, some (.own 58 4 (e_GCell.cells z7.2.2.1))⟩)]) (by kernel_rfl) (by kernel_rfl) (by kernel_rfl) (fz_cons rfl (fz_cons rfl (fz_cons rfl (fz_cons rfl fz_nil)))) (by kernel_rfl) (f56_ok (d - 1) (dpt hd rfl) a1.Other a2 a3 (GPen.mk 0 0 0) z7 hz7) (by kernel_rfl) (by kernel_rfl) (by kernel_rfl) (by kernel_rfl)) ?_
  refine zlRun (n := 6) (j := 12) rfl (by kernel_rfl) ?_
  refine zlEnd (by kernel_rfl) ?_
  refine zkSeq ?_
  refine zrSeq ?_
  refine zrSeq ?_
  refine zrReg ?_
  refine zlRun (n := 1) (j := 1) rfl (by kernel_rfl) ?_
  refine zlBool (d := 41) (op := (.cmpI .neq (.tmp 40) (.const (.int .i64 0)))) (g := none) (j := 2) (!decide (z7.2.2.2 = 0)) rfl (by kernel_rfl) (by kernel_rfl) (by kernel_rfl) (fun hc => ?_) (fun hc => ?_)
  · replace hS := cond_t hc hS
    refine zlEnd (by kernel_rfl) ?_
    refine zkSeq ?_
    refine zrCondT (by kernel_rfl) ?_
    refine zrSeq ?_
    refine zrReg ?_
    refine zlRun (n := 4) (j := 4) rfl (by kernel_rfl) ?_
    refine zlEnd (by kernel_rfl) ?_
    refine zkSeq ?_
    refine zrRet ?_
    refine zkSeqR ?_
    refine zkNil ?_
    exact endQ hS hQ (fRet (by kernel_rfl) ((congrArg (fun s => outR s 0 c31.res) (by kernel_rfl : finSt c31.fin _ = f31_fin 0 0 [] 0 0 0 0 0 0 0 (fun _ => 0) 0 0 0 0 0 0 0 0 false 0 0 0 0 0 [] [] [] z7.2.2.2)).trans (f31_out 0 0 [] 0 0 0 0 0 0 0 (fun _ => 0) 0 0 0 0 0 0 0 0 false 0 0 0 0 0 [] [] [] z7.2.2.2)))
  · replace hS := cond_f hc hS
    refine zlEnd (by kernel_rfl) ?_
    refine zkSeq ?_
    refine zrCondF (by kernel_rfl) ?_
    refine zrSkip ?_
    refine zkSeq ?_
    exact f31_j2_ok hd a1 a2 a3 hQ p52 p53 p54 z7.1 z7.2.1 z7.2.2.1 hS (by kernel_rfl)
def f31_j0_J (a1 : GScreen) (a2 : Int) (a3 : Int) : St := ⟨(up (up (up (up (fun _ => .un) 6 (.r (.ptr 56 0 0))) 3 (.r (.ptr 32 0 0))) 2 (.d (.int .i64 a3))) 1 (.d (.int .i64 a2))), (up (up (hB fun _ => 0) 56 ⟨0, some (.box ((.d (.int .i64 0)) :: ((.d (.int .i64 0)) :: ((.d (.sl ([] : List GCell).length (e_GCell.cells ([])))) :: ((.d (.int .i64 0)) :: ((.d (.int .i64 0)) :: ((.d (.bool false)) :: ((.d (.int .i64 0)) :: ((.d (.int .i64 0)) :: ((.d (.int .i64 0)) :: ((.d (.int .i64 0)) :: ((.d (.int .i64 0)) :: ((.d (.int .i64 0)) :: (((eInt .u64).row 4 (fun _ => 0)) ++ ((.d (.int .i64 0)) :: ((.d (.int .i64 0)) :: ((.d (.int .i64 0)) :: ((.d (.int .i64 0)) :: ((.d (.int .i64 0)) :: ((.d (.int .i64 0)) :: ((.d (.int .i64 0)) :: ((.d (.int .i64 0)) :: ((.d (.bool false)) :: ((.d (.int .i64 0)) :: ((.d (.int .i64 0)) :: ((.d (.int .i64 0)) :: ((.d (.int .i64 0)) :: ((.d (.int .i64 0)) :: ((.d (.sl ([] : List GCell).length (e_GCell.cells ([])))) :: ((.d (.str ([]))) :: ((.d (.sl ([] : List GLine).length (e_GLine.cells ([])))) :: [])))))))))))))))))))))))))))))))⟩) 32 ⟨0, some (.box ((.d (.int .i64 a1.Grid.Wide)) :: ((.d (.int .i64 a1.Grid.High)) :: ((.d (.sl a1.Grid.Cells.length (e_GCell.cells a1.Grid.Cells))) :: ((.d (.int .i64 a1.Row)) :: ((.d (.int .i64 a1.Col)) :: ((.d (.bool a1.Late)) :: ((.d (.int .i64 a1.Top)) :: ((.d (.int .i64 a1.Bottom)) :: ((.d (.int .i64 a1.Pen.Flags)) :: ((.d (.int .i64 a1.Pen.Fore)) :: ((.d (.int .i64 a1.Pen.Back)) :: ((.d (.int .i64 a1.Modes)) :: (((eInt .u64).row 4 a1.Stops.Bits) ++ ((.d (.int .i64 a1.Pages.1)) :: ((.d (.int .i64 a1.Pages.2)) :: ((.d (.int .i64 a1.Shift)) :: ((.d (.int .i64 a1.Saved.Row)) :: ((.d (.int .i64 a1.Saved.Col)) :: ((.d (.int .i64 a1.Saved.Pen.Flags)) :: ((.d (.int .i64 a1.Saved.Pen.Fore)) :: ((.d (.int .i64 a1.Saved.Pen.Back)) :: ((.d (.bool a1.Saved.Origin)) :: ((.d (.int .i64 a1.Saved.Pages.1)) :: ((.d (.int .i64 a1.Saved.Pages.2)) :: ((.d (.int .i64 a1.Saved.Shift)) :: ((.d (.int .i64 a1.Other.Wide)) :: ((.d (.int .i64 a1.Other.High)) :: ((.d (.sl a1.Other.Cells.length (e_GCell.cells a1.Other.Cells))) :: ((.d (.str a1.Title)) :: ((.d (.sl a1.Past.length (e_GLine.cells a1.Past))) :: [])))))))))))))))))))))))))))))))⟩)⟩
noncomputable def f31_j0 (a1 : GScreen) (a2 : Int) (a3 : Int) : Option (Int × Int × (List GCell) × Int × Int × Int × Int × Int × Int × Int × (Nat → Int) × Int × Int × Int × Int × Int × Int × Int × Int × Bool × Int × Int × Int × Int × Int × (List GCell) × (List UInt8) × (List GLine) × Int) := ((f56 a1.Grid a2 a3 (GPen.mk 0 0 0)).bind fun z6 => (bif (!decide (z6.2.2.2 = 0)) then (some (0, 0, [], 0, 0, 0, 0, 0, 0, 0, (fun _ => 0), 0, 0, 0, 0, 0, 0, 0, 0, false, 0, 0, 0, 0, 0, [], [], [], z6.2.2.2)) else (f31_j1 a1 a2 a3 z6.1 z6.2.1 z6.2.2.1)))
theorem f31_j0_ok {d : Nat} (hd : 7 ≤ d) (a1 : GScreen) (a2 : Int) (a3 : Int) {r : Int × Int × (List GCell) × Int × Int × Int × Int × Int × Int × Int × (Nat → Int) × Int × Int × Int × Int × Int × Int × Int × Int × Bool × Int × Int × Int × Int × Int × (List GCell) × (List UInt8) × (List GLine) × Int} {Q : PX → St → Prop} (hQ : ∀ e st', f31_Q r e st' → Q e st')  (hS : f31_j0 a1 a2 a3 = some r) {st : St} (he : keepSt [1, 2, 3, 6] [(32, .id 32), (56, .id 56)] [.cell 56 2 0 0 1, .cell 56 30 0 0 1, .cell 56 32 0 0 1] st = f31_j0_J a1 a2 a3) : ZR (lev codes baseL (d - 1)) Q c31_3 [] st := by
  refine zrKeep he ?_
  unfold f31_j0 at hS
  refine zrSeq ?_
  refine zrReg ?_
  refine zlRun (n := 5) (j := 5) rfl (by kernel_rfl) ?_
  refine bindE hS (fun z6 hz6 hS => ?_)
  refine zlOp (d := some 24) (op := (.callf 56 [(.tmp 20), (.tmp 21), (.tmp 22), (.tmp 23)])) (g := none) (v := (.tup [(.agg ((.d (.int .i64 z6.1)) :: ((.d (.int .i64 z6.2.1)) :: ((.r (.msl 200 1 0 z6.2.2.1.length)) :: [])))), (.d (.int .i64 z6.2.2.2))])) (ups := [(200, ⟨1, some (.own 58 4 (e_GCell.cells z6.2.2.1))⟩)]) (j := 6) rfl (by kernel_rfl) (by kernel_rfl) (ev_callF (args := [(.agg ((.d (.int .i64 a1.Grid.Wide)) :: ((.d (.int .i64 a1.Grid.High)) :: ((.d (.sl a1.Grid.Cells.length (e_GCell.cells a1.Grid.Cells))) :: [])))), (.d (.int .i64 a2)), (.d (.int .i64 a3)), (.agg ((.d (.int .i64 0)) :: ((.d (.int .i64 0)) :: ((.d (.int .i64 0)) :: []))))]) (args' := [(.agg ((.d (.int .i64 a1.Grid.Wide)) :: ((.d (.int .i64 a1.Grid.High)) :: ((.d (.sl a1.Grid.Cells.length (e_GCell.cells a1.Grid.Cells))) :: [])))), (.d (.int .i64 a2)), (.d (.int .i64 a3)), (.agg ((.d (.int .i64 0)) :: ((.d (.int .i64 0)) :: ((.d (.int .i64 0)) :: []))))]) (l := [(.agg ((.d (.int .i64 a1.Grid.Wide)) :: ((.d (.int .i64 a1.Grid.High)) :: ((.d (.sl a1.Grid.Cells.length (e_GCell.cells a1.Grid.Cells))) :: [])))), (.d (.int .i64 a2)), (.d (.int .i64 a3)), (.agg ((.d (.int .i64 0)) :: ((.d (.int .i64 0)) :: ((.d (.int .i64 0)) :: []))))]) (refs := []) (r := (.tup [(.agg ((.d (.int .i64 z6.1)) :: ((.d (.int .i64 z6.2.1)) :: ((.r (.own 0 58 4 z6.2.2.1.length (e_GCell.cells z6.2.2.1))) :: [])))), (.d (.int .i64 z6.2.2.2))])) (v := (.tup [(.agg ((.d (.int .i64 z6.1)) :: ((.d (.int .i64 z6.2.1)) :: ((.r (.msl 200 1 0 z6.2.2.1.length)) :: [])))), (.d (.int .i64 z6.2.2.2))])) (ups' := [(200, ⟨1, some (.own 58 4 (e_GCell.cells z6.2.2.1))⟩)]) (by kernel_rfl) (by kernel_rfl) (by kernel_rfl) (fz_cons rfl (fz_cons rfl (fz_cons rfl (fz_cons rfl fz_nil)))) (by kernel_rfl) (f56_ok (d - 1) (dpt hd rfl) a1.Grid a2 a3 (GPen.mk 0 0 0) z6 hz6) (by kernel_rfl) (by kernel_rfl) (by kernel_rfl) (by kernel_rfl)) ?_
  refine zlRun (n := 6) (j := 12) rfl (by kernel_rfl) ?_
  refine zlEnd (by kernel_rfl) ?_
  refine zkSeq ?_
  refine zrSeq ?_
  refine zrSeq ?_
  refine zrReg ?_
  refine zlRun (n := 1) (j := 1) rfl (by kernel_rfl) ?_
  refine zlBool (d := 28) (op := (.cmpI .neq (.tmp 27) (.const (.int .i64 0)))) (g := none) (j := 2) (!decide (z6.2.2.2 = 0)) rfl (by kernel_rfl) (by kernel_rfl) (by kernel_rfl) (fun hc => ?_) (fun hc => ?_)
  · replace hS := cond_t hc hS
    refine zlEnd (by kernel_rfl) ?_
    refine zkSeq ?_
    refine zrCondT (by kernel_rfl) ?_
    refine zrSeq ?_
    refine zrReg ?_
    refine zlRun (n := 4) (j := 4) rfl (by kernel_rfl) ?_
    refine zlEnd (by kernel_rfl) ?_
    refine zkSeq ?_
    refine zrRet ?_
    refine zkSeqR ?_
    refine zkNil ?_
    exact endQ hS hQ (fRet (by kernel_rfl) ((congrArg (fun s => outR s 0 c31.res) (by kernel_rfl : finSt c31.fin _ = f31_fin 0 0 [] 0 0 0 0 0 0 0 (fun _ => 0) 0 0 0 0 0 0 0 0 false 0 0 0 0 0 [] [] [] z6.2.2.2)).trans (f31_out 0 0 [] 0 0 0 0 0 0 0 (fun _ => 0) 0 0 0 0 0 0 0 0 false 0 0 0 0 0 [] [] [] z6.2.2.2)))
  · replace hS := cond_f hc hS
    refine zlEnd (by kernel_rfl) ?_
    refine zkSeq ?_
    refine zrCondF (by kernel_rfl) ?_
    refine zrSkip ?_
    refine zkSeq ?_
    exact f31_j1_ok hd a1 a2 a3 hQ z6.1 z6.2.1 z6.2.2.1 hS (by kernel_rfl)
noncomputable def f31 (a1 : GScreen) (a2 : Int) (a3 : Int) : Option (Int × Int × (List GCell) × Int × Int × Int × Int × Int × Int × Int × (Nat → Int) × Int × Int × Int × Int × Int × Int × Int × Int × Bool × Int × Int × Int × Int × Int × (List GCell) × (List UInt8) × (List GLine) × Int) := ((f28 a1).bind fun z9 => (bif (!decide (z9 = 0)) then (some (0, 0, [], 0, 0, 0, 0, 0, 0, 0, (fun _ => 0), 0, 0, 0, 0, 0, 0, 0, 0, false, 0, 0, 0, 0, 0, [], [], [], z9)) else (f31_j0 a1 a2 a3 )))
theorem f31_ok (d : Nat) (hd : 7 ≤ d) (a1 : GScreen) (a2 : Int) (a3 : Int) (r : Int × Int × (List GCell) × Int × Int × Int × Int × Int × Int × Int × (Nat → Int) × Int × Int × Int × Int × Int × Int × Int × Int × Bool × Int × Int × Int × Int × Int × (List GCell) × (List UInt8) × (List GLine) × Int) (hS : f31 a1 a2 a3 = some r) : lev codes baseL d 31 [(.agg ((.d (.int .i64 a1.Grid.Wide)) :: ((.d (.int .i64 a1.Grid.High)) :: ((.d (.sl a1.Grid.Cells.length (e_GCell.cells a1.Grid.Cells))) :: ((.d (.int .i64 a1.Row)) :: ((.d (.int .i64 a1.Col)) :: ((.d (.bool a1.Late)) :: ((.d (.int .i64 a1.Top)) :: ((.d (.int .i64 a1.Bottom)) :: ((.d (.int .i64 a1.Pen.Flags)) :: ((.d (.int .i64 a1.Pen.Fore)) :: ((.d (.int .i64 a1.Pen.Back)) :: ((.d (.int .i64 a1.Modes)) :: (((eInt .u64).row 4 a1.Stops.Bits) ++ ((.d (.int .i64 a1.Pages.1)) :: ((.d (.int .i64 a1.Pages.2)) :: ((.d (.int .i64 a1.Shift)) :: ((.d (.int .i64 a1.Saved.Row)) :: ((.d (.int .i64 a1.Saved.Col)) :: ((.d (.int .i64 a1.Saved.Pen.Flags)) :: ((.d (.int .i64 a1.Saved.Pen.Fore)) :: ((.d (.int .i64 a1.Saved.Pen.Back)) :: ((.d (.bool a1.Saved.Origin)) :: ((.d (.int .i64 a1.Saved.Pages.1)) :: ((.d (.int .i64 a1.Saved.Pages.2)) :: ((.d (.int .i64 a1.Saved.Shift)) :: ((.d (.int .i64 a1.Other.Wide)) :: ((.d (.int .i64 a1.Other.High)) :: ((.d (.sl a1.Other.Cells.length (e_GCell.cells a1.Other.Cells))) :: ((.d (.str a1.Title)) :: ((.d (.sl a1.Past.length (e_GLine.cells a1.Past))) :: []))))))))))))))))))))))))))))))), (.d (.int .i64 a2)), (.d (.int .i64 a3))] [] = some ((.tup [(.agg ((.d (.int .i64 r.1)) :: ((.d (.int .i64 r.2.1)) :: ((.r (.own 0 58 4 r.2.2.1.length (e_GCell.cells r.2.2.1))) :: ((.d (.int .i64 r.2.2.2.1)) :: ((.d (.int .i64 r.2.2.2.2.1)) :: ((.d (.bool false)) :: ((.d (.int .i64 0)) :: ((.d (.int .i64 r.2.2.2.2.2.1)) :: ((.d (.int .i64 r.2.2.2.2.2.2.1)) :: ((.d (.int .i64 r.2.2.2.2.2.2.2.1)) :: ((.d (.int .i64 r.2.2.2.2.2.2.2.2.1)) :: ((.d (.int .i64 r.2.2.2.2.2.2.2.2.2.1)) :: (((eInt .u64).row 4 r.2.2.2.2.2.2.2.2.2.2.1) ++ ((.d (.int .i64 r.2.2.2.2.2.2.2.2.2.2.2.1)) :: ((.d (.int .i64 r.2.2.2.2.2.2.2.2.2.2.2.2.1)) :: ((.d (.int .i64 r.2.2.2.2.2.2.2.2.2.2.2.2.2.1)) :: ((.d (.int .i64 r.2.2.2.2.2.2.2.2.2.2.2.2.2.2.1)) :: ((.d (.int .i64 r.2.2.2.2.2.2.2.2.2.2.2.2.2.2.2.1)) :: ((.d (.int .i64 r.2.2.2.2.2.2.2.2.2.2.2.2.2.2.2.2.1)) :: ((.d (.int .i64 r.2.2.2.2.2.2.2.2.2.2.2.2.2.2.2.2.2.1)) :: ((.d (.int .i64 r.2.2.2.2.2.2.2.2.2.2.2.2.2.2.2.2.2.2.1)) :: ((.d (.bool r.2.2.2.2.2.2.2.2.2.2.2.2.2.2.2.2.2.2.2.1)) :: ((.d (.int .i64 r.2.2.2.2.2.2.2.2.2.2.2.2.2.2.2.2.2.2.2.2.1)) :: ((.d (.int .i64 r.2.2.2.2.2.2.2.2.2.2.2.2.2.2.2.2.2.2.2.2.2.1)) :: ((.d (.int .i64 r.2.2.2.2.2.2.2.2.2.2.2.2.2.2.2.2.2.2.2.2.2.2.1)) :: ((.d (.int .i64 r.2.2.2.2.2.2.2.2.2.2.2.2.2.2.2.2.2.2.2.2.2.2.2.1)) :: ((.d (.int .i64 r.2.2.2.2.2.2.2.2.2.2.2.2.2.2.2.2.2.2.2.2.2.2.2.2.1)) :: ((.r (.own 1 58 4 r.2.2.2.2.2.2.2.2.2.2.2.2.2.2.2.2.2.2.2.2.2.2.2.2.2.1.length (e_GCell.cells r.2.2.2.2.2.2.2.2.2.2.2.2.2.2.2.2.2.2.2.2.2.2.2.2.2.1))) :: ((.d (.str r.2.2.2.2.2.2.2.2.2.2.2.2.2.2.2.2.2.2.2.2.2.2.2.2.2.2.1)) :: ((.r (.own 2 87 1 r.2.2.2.2.2.2.2.2.2.2.2.2.2.2.2.2.2.2.2.2.2.2.2.2.2.2.2.1.length (e_GLine.cells r.2.2.2.2.2.2.2.2.2.2.2.2.2.2.2.2.2.2.2.2.2.2.2.2.2.2.2.1))) :: []))))))))))))))))))))))))))))))), (.d (.int .i64 r.2.2.2.2.2.2.2.2.2.2.2.2.2.2.2.2.2.2.2.2.2.2.2.2.2.2.2.2))]), []) := by
  refine lev_go codes31 rfl rfl (Nat.le_trans (Nat.le_of_ble_eq_true rfl) hd) fun Q hQ => ?_
  unfold f31 at hS
  show ZR _ Q c31_b [] _
  replace hQ : ∀ e st', f31_Q r e st' → Q e st' := hQ
  refine zrSeq ?_
  refine zrReg ?_
  refine zlRun (n := 3) (j := 3) rfl (by kernel_rfl) ?_
  refine zlEnd (by kernel_rfl) ?_
  refine zkSeq ?_
  refine zrSeq ?_
  refine zrSeq ?_
  refine zrReg ?_
  refine zlRun (n := 1) (j := 1) rfl (by kernel_rfl) ?_
  refine bindE hS (fun z9 hz9 hS => ?_)
  refine zlOp (d := some 13) (op := (.call 28 [(.tmp 12)])) (g := none) (j := 2) rfl (by kernel_rfl) (by kernel_rfl) (ev_callA (by kernel_rfl) (f28_ok (d - 1) (dpt hd rfl) a1 z9 hz9) (by kernel_rfl) (by kernel_rfl)) ?_
  refine zlRun (n := 1) (j := 3) rfl (by kernel_rfl) ?_
  refine zlEnd (by kernel_rfl) ?_
  refine zkSeq ?_
  refine zrSeq ?_
  refine zrReg ?_
  refine zlRun (n := 1) (j := 1) rfl (by kernel_rfl) ?_
  refine zlBool (d := 15) (op := (.cmpI .neq (.tmp 14) (.const (.int .i64 0)))) (g := none) (j := 2) (!decide (z9 = 0)) rfl (by kernel_rfl) (by kernel_rfl) (by kernel_rfl) (fun hc => ?_) (fun hc => ?_)
  · replace hS := cond_t hc hS
    refine zlEnd (by kernel_rfl) ?_
    refine zkSeq ?_
    refine zrCondT (by kernel_rfl) ?_
    refine zrSeq ?_
    refine zrReg ?_
    refine zlRun (n := 4) (j := 4) rfl (by kernel_rfl) ?_
    refine zlEnd (by kernel_rfl) ?_
    refine zkSeq ?_
    refine zrRet ?_
    refine zkSeqR ?_
    refine zkNil ?_
    exact endQ hS hQ (fRet (by kernel_rfl) ((congrArg (fun s => outR s 0 c31.res) (by kernel_rfl : finSt c31.fin _ = f31_fin 0 0 [] 0 0 0 0 0 0 0 (fun _ => 0) 0 0 0 0 0 0 0 0 false 0 0 0 0 0 [] [] [] z9)).trans (f31_out 0 0 [] 0 0 0 0 0 0 0 (fun _ => 0) 0 0 0 0 0 0 0 0 false 0 0 0 0 0 [] [] [] z9)))
  · replace hS := cond_f hc hS
    refine zlEnd (by kernel_rfl) ?_
    refine zkSeq ?_
    refine zrCondF (by kernel_rfl) ?_
    refine zrSkip ?_
    refine zkSeq ?_
    exact f31_j0_ok hd a1 a2 a3 hQ  hS (by kernel_rfl)
/- farwriter/farkeep.screenLives -/
theorem libLives_ok (d : Nat) (hd : 0 ≤ d)  (r : Bool) (hS : libLives  = some r) : lev codes baseL d 15 [] [] = some ((.d (.bool r)), []) := lib_call (l := libs) rfl rfl rfl (livesO_ hS) d
/- farwriter/farref.Between -/
def f46_fin (p3 : Bool) : St := ⟨(up (fun _ => .un) 6 (.d (.bool p3))), (hB fun _ => 0)⟩
theorem f46_out (p3 : Bool) : outR (f46_fin p3) 0 c46.res = some ((.d (.bool p3)), []) := by
  kernel_rfl
def f46_Q (r : Bool) (e : PX) (st : St) : Prop := DoneF c46 0 ((.d (.bool r)), []) e st
noncomputable def f46 (a1 : Int) (a2 : Int) (a3 : Int) : Option (Bool) := (bif (decide (a2 ≤ a1)) then (bif (decide (a1 ≤ a3)) then (some true) else (some false)) else (some false))
theorem f46_ok (d : Nat) (hd : 1 ≤ d) (a1 : Int) (a2 : Int) (a3 : Int) (r : Bool) (hS : f46 a1 a2 a3 = some r) : lev codes baseL d 46 [(.d (.int .i64 a1)), (.d (.int .i64 a2)), (.d (.int .i64 a3))] [] = some ((.d (.bool r)), []) := by
  refine lev_go codes46 rfl rfl (Nat.le_trans (Nat.le_of_ble_eq_true rfl) hd) fun Q hQ => ?_
  unfold f46 at hS
  show ZR _ Q c46_b [] _
  replace hQ : ∀ e st', f46_Q r e st' → Q e st' := hQ
  refine zrSeq ?_
  refine zrReg ?_
  refine zlRun (n := 1) (j := 1) rfl (by kernel_rfl) ?_
  refine zlEnd (by kernel_rfl) ?_
  refine zkSeq ?_
  refine zrSeq ?_
  refine zrReg ?_
  refine zlRun (n := 2) (j := 2) rfl (by kernel_rfl) ?_
  refine zlBool (d := 9) (op := (.cmpI .leq (.tmp 7) (.tmp 8))) (g := none) (j := 3) (decide (a2 ≤ a1)) rfl (by kernel_rfl) (by kernel_rfl) (by kernel_rfl) (fun hc => ?_) (fun hc => ?_)
  · replace hS := cond_t hc hS
    refine zlRun (n := 3) (j := 6) rfl (by kernel_rfl) ?_
    refine zlBool (d := 13) (op := (.cmpI .leq (.tmp 11) (.tmp 12))) (g := (some (10, true))) (j := 7) (decide (a1 ≤ a3)) rfl (by kernel_rfl) (by kernel_rfl) (by kernel_rfl) (fun hc => ?_) (fun hc => ?_)
    · replace hS := cond_t hc hS
      refine zlRun (n := 2) (j := 9) rfl (by kernel_rfl) ?_
      refine zlEnd (by kernel_rfl) ?_
      refine zkSeq ?_
      refine zrRet ?_
      refine zkNil ?_
      exact endQ hS hQ (fRet (by kernel_rfl) ((congrArg (fun s => outR s 0 c46.res) (by kernel_rfl : finSt c46.fin _ = f46_fin true)).trans (f46_out true)))
    · replace hS := cond_f hc hS
      refine zlRun (n := 2) (j := 9) rfl (by kernel_rfl) ?_
      refine zlEnd (by kernel_rfl) ?_
      refine zkSeq ?_
      refine zrRet ?_
      refine zkNil ?_
      exact endQ hS hQ (fRet (by kernel_rfl) ((congrArg (fun s => outR s 0 c46.res) (by kernel_rfl : finSt c46.fin _ = f46_fin false)).trans (f46_out false)))
  · replace hS := cond_f hc hS
    refine zlRun (n := 6) (j := 9) rfl (by kernel_rfl) ?_
    refine zlEnd (by kernel_rfl) ?_
    refine zkSeq ?_
    refine zrRet ?_
    refine zkNil ?_
    exact endQ hS hQ (fRet (by kernel_rfl) ((congrArg (fun s => outR s 0 c46.res) (by kernel_rfl : finSt c46.fin _ = f46_fin false)).trans (f46_out false)))
/- farwriter/farref.SizeRight -/
def f69_fin (p2 : Bool) : St := ⟨(up (fun _ => .un) 4 (.d (.bool p2))), (hB fun _ => 0)⟩
theorem f69_out (p2 : Bool) : outR (f69_fin p2) 0 c69.res = some ((.d (.bool p2)), []) := by
  kernel_rfl
def f69_Q (r : Bool) (e : PX) (st : St) : Prop := DoneF c69 0 ((.d (.bool r)), []) e st
noncomputable def f69 (a1 : Int) (a2 : Int) : Option (Bool) := ((f46 a1 1 160).bind fun z3 => (bif z3 then ((f46 a2 1 60).bind fun z4 => (some z4)) else (some false)))
theorem f69_ok (d : Nat) (hd : 2 ≤ d) (a1 : Int) (a2 : Int) (r : Bool) (hS : f69 a1 a2 = some r) : lev codes baseL d 69 [(.d (.int .i64 a1)), (.d (.int .i64 a2))] [] = some ((.d (.bool r)), []) := by
  refine lev_go codes69 rfl rfl (Nat.le_trans (Nat.le_of_ble_eq_true rfl) hd) fun Q hQ => ?_
  unfold f69 at hS
  show ZR _ Q c69_b [] _
  replace hQ : ∀ e st', f69_Q r e st' → Q e st' := hQ
  refine zrSeq ?_
  refine zrReg ?_
  refine zlRun (n := 1) (j := 1) rfl (by kernel_rfl) ?_
  refine zlEnd (by kernel_rfl) ?_
  refine zkSeq ?_
  refine zrSeq ?_
  refine zrReg ?_
  refine zlRun (n := 1) (j := 1) rfl (by kernel_rfl) ?_
  refine bindE hS (fun z3 hz3 hS => ?_)
  refine zlOp (d := some 6) (op := (.call 46 [(.tmp 5), (.const (.int .i64 1)), (.const (.int .i64 160))])) (g := none) (j := 2) rfl (by kernel_rfl) (by kernel_rfl) (ev_callA (by kernel_rfl) (f46_ok (d - 1) (dpt hd rfl) a1 1 160 z3 hz3) (by kernel_rfl) (by kernel_rfl)) ?_
  refine zlRun (n := 1) (j := 3) rfl (by kernel_rfl) ?_
  refine zlSplit 7 z3 (by kernel_rfl) (fun hc => ?_) (fun hc => ?_)
  · replace hS := cond_t hc hS
    refine zlRun (n := 1) (j := 4) rfl (by kernel_rfl) ?_
    refine bindE hS (fun z4 hz4 hS => ?_)
    refine zlOp (d := some 9) (op := (.call 46 [(.tmp 8), (.const (.int .i64 1)), (.const (.int .i64 60))])) (g := (some (7, true))) (j := 5) rfl (by kernel_rfl) (by kernel_rfl) (ev_callA (by kernel_rfl) (f46_ok (d - 1) (dpt hd rfl) a2 1 60 z4 hz4) (by kernel_rfl) (by kernel_rfl)) ?_
    refine zlRun (n := 2) (j := 7) rfl (by kernel_rfl) ?_
    refine zlEnd (by kernel_rfl) ?_
    refine zkSeq ?_
    refine zrRet ?_
    refine zkNil ?_
    exact endQ hS hQ (fRet (by kernel_rfl) ((congrArg (fun s => outR s 0 c69.res) (by kernel_rfl : finSt c69.fin _ = f69_fin z4)).trans (f69_out z4)))
  · replace hS := cond_f hc hS
    refine zlRun (n := 4) (j := 7) rfl (by kernel_rfl) ?_
    refine zlEnd (by kernel_rfl) ?_
    refine zkSeq ?_
    refine zrRet ?_
    refine zkNil ?_
    exact endQ hS hQ (fRet (by kernel_rfl) ((congrArg (fun s => outR s 0 c69.res) (by kernel_rfl : finSt c69.fin _ = f69_fin false)).trans (f69_out false)))
/- farwriter/farref.Rows -/
def f70_fin (p13 : List (List GCell)) : St := ⟨(up (fun _ => .un) 2 (.r (.msl 32 0 0 p13.length))), (up (hB fun _ => 0) 32 ⟨0, some (.own 22 1 ((eSl e_GCell).cells p13))⟩)⟩
theorem f70_out (p13 : List (List GCell)) : outR (f70_fin p13) 0 c70.res = some ((.r (.own 0 22 1 p13.length ((eSl e_GCell).cells p13))), []) := by
  exact out_of (ids := []) (ids' := [32]) (l := [(.r (.msl 32 0 0 p13.length))]) (by kernel_rfl) (by kernel_rfl) (o_own (eSl e_GCell) (e := 22) (k := 1) (xs := p13) (by kernel_rfl) rfl rfl rfl rfl)
def f70_Q (r : (List (List GCell))) (e : PX) (st : St) : Prop := DoneF c70 0 ((.r (.own 0 22 1 r.length ((eSl e_GCell).cells r))), []) e st
def f70_l0_J (a1 : GGrid) (x : (List (List GCell)) × Int) : St := ⟨(up (up (up (fun _ => .un) 4 (.d (.int .i64 x.2))) 3 (.r (.msl 32 0 0 x.1.length))) 1 (.r (.ptr 16 0 0))), (up (up (hB fun _ => 0) 32 ⟨0, some (.own 22 1 ((eSl e_GCell).cells x.1))⟩) 16 ⟨0, some (.box ((.d (.int .i64 a1.Wide)) :: ((.d (.int .i64 a1.High)) :: ((.d (.sl a1.Cells.length (e_GCell.cells a1.Cells))) :: []))))⟩)⟩
def f70_l0_H (a1 : GGrid) (x : (List (List GCell)) × Int) (st : St) : Prop := keepSt [1, 3, 4] [(16, .id 16), (32, .id 32)] [] st = f70_l0_J a1 x
def f70_l0_e0_J (a1 : GGrid) (p12 : List (List GCell)) : St := ⟨(up (fun _ => .un) 3 (.r (.msl 32 0 0 p12.length))), (up (hB fun _ => 0) 32 ⟨0, some (.own 22 1 ((eSl e_GCell).cells p12))⟩)⟩
def f70_l0_X (a1 : GGrid) (z : ((List (List GCell)))) (e : PX) (st : St) : Prop := e = .exit 0 ∧ st = f70_l0_e0_J a1 z
def f70_l0_j1_J (a1 : GGrid) (p17 : List (List GCell)) (p18 : Int) : St := ⟨(up (up (up (fun _ => .un) 4 (.d (.int .i64 p18))) 3 (.r (.msl 32 0 0 p17.length))) 1 (.r (.ptr 16 0 0))), (up (up (hB fun _ => 0) 32 ⟨0, some (.own 22 1 ((eSl e_GCell).cells p17))⟩) 16 ⟨0, some (.box ((.d (.int .i64 a1.Wide)) :: ((.d (.int .i64 a1.High)) :: ((.d (.sl a1.Cells.length (e_GCell.cells a1.Cells))) :: []))))⟩)⟩
noncomputable def f70_l0_j1 (a1 : GGrid) (p17 : List (List GCell)) (p18 : Int) : Option (((List (List GCell)) × Int) ⊕ (((List (List GCell))))) := ((sub? a1.Cells (IntKind.i64.wrap (p18 * a1.Wide)) (IntKind.i64.wrap ((IntKind.i64.wrap (p18 + 1)) * a1.Wide))).bind fun z10 => ((f60 z10).bind fun z11 => ((app? 24 p17 ([z11] : List (List GCell))).bind fun z12 => (some (.inl (z12, (IntKind.i64.wrap (p18 + 1))))))))
theorem f70_l0_j1_ok {d : Nat} (hd : 2 ≤ d) (a1 : GGrid) {r : ((List (List GCell)) × Int) ⊕ (((List (List GCell))))} {Q : PX → St → Prop} (hQ : ∀ e st', finL (f70_l0_H a1) (f70_l0_X a1) r e st' → Q e st') (p17 : List (List GCell)) (p18 : Int) (hS : f70_l0_j1 a1 p17 p18 = some r) {st : St} (he : keepSt [1, 3, 4] [(16, .id 16), (32, .id 32)] [] st = f70_l0_j1_J a1 p17 p18) : ZR (lev codes baseL (d - 1)) Q c70_1 [] st := by
  refine zrKeep he ?_
  unfold f70_l0_j1 at hS
  refine zrSeq ?_
  refine zrBlk ?_
  refine zrReg ?_
  refine zlRun (n := 12) (j := 12) rfl (by kernel_rfl) ?_
  refine bindE hS (fun z10 hz10 hS => ?_)
  refine zlOp (d := some 23) (op := (.slS 58 4 (.tmp 13) (.some (.tmp 17)) (.some (.tmp 22)))) (g := none) (v := (.d (.sl z10.length (e_GCell.cells z10)))) (ups := []) (j := 13) rfl (by kernel_rfl) (by kernel_rfl) (ev_slS e_GCell (xs := a1.Cells) (a := (IntKind.i64.wrap (p18 * a1.Wide))) (c := (IntKind.i64.wrap ((IntKind.i64.wrap (p18 + 1)) * a1.Wide))) (by kernel_rfl) rfl (bnd_s _ (kk := .i64) (j := (IntKind.i64.wrap (p18 * a1.Wide))) (by kernel_rfl)) (bnd_s _ (kk := .i64) (j := (IntKind.i64.wrap ((IntKind.i64.wrap (p18 + 1)) * a1.Wide))) (by kernel_rfl)) hz10) ?_
  refine bindE hS (fun z11 hz11 hS => ?_)
  refine zlOp (d := some 24) (op := (.call 60 [(.tmp 23)])) (g := none) (j := 14) rfl (by kernel_rfl) (by kernel_rfl) (ev_callA (by kernel_rfl) (f60_ok (d - 1) (dpt hd rfl) z10 z11 hz11) (by kernel_rfl) (by kernel_rfl)) ?_
  refine zlOp (d := some 25) (op := (.bsl 22 1 1 [(1, (.slice .none 0 0))] [(0, (1, (.tmp 24)))])) (g := none) (v := (.r (.msl 208 1 0 (([z11] : List (List GCell)).length)))) (ups := [(200, ⟨2, none⟩), (208, ⟨1, some (.own 22 1 ((eSl e_GCell).cells ([z11])))⟩)]) (j := 15) rfl (by kernel_rfl) (by kernel_rfl) ((by kernel_rfl : peval _ _ 25 (ρof _) (.bsl 22 1 1 [(1, (.slice .none 0 0))] [(0, (1, (.tmp 24)))]) = some ((.r (.msl 208 1 0 (([z11] : List (List GCell)).length))), [(200, ⟨2, none⟩), (208, ⟨1, some (.own 22 1 [.sl z11.length (((e_GCell.cells z11).drop (0 * e_GCell.k)).take (z11.length * e_GCell.k))])⟩)])).trans (by simp only [Enc.frz]; rfl)) ?_
  refine bindE hS (fun z12 hz12 hS => ?_)
  refine zlOp (d := some 26) (op := (.app 22 1 24 (.tmp 11) (.tmp 25))) (g := none) (v := (.r (.msl 32 1 0 z12.length))) (ups := [(32, ⟨1, some (.own 22 1 ((eSl e_GCell).cells z12))⟩)]) (j := 16) rfl (by kernel_rfl) (by kernel_rfl) (ev_app (eSl e_GCell) (b := 32) (g := 0) (n := p17.length) (xs := p17) (ys := [z11]) ((congrArg (asL _) (by kernel_rfl : ρof _ (.tmp 25) = (.r (.msl 208 1 0 (([z11] : List (List GCell)).length))))).trans (as_whole (eSl e_GCell) (e := 22) (k := 1) (xs := [z11]) (by kernel_rfl) rfl rfl)) rfl (by kernel_rfl) rfl (by kernel_rfl) rfl hz12) ?_
  refine zlRun (n := 1) (j := 17) rfl (by kernel_rfl) ?_
  refine zlEnd (by kernel_rfl) ?_
  refine zkBlk ?_
  refine zkSeq ?_
  refine zrReg ?_
  refine zlRun (n := 3) (j := 3) rfl (by kernel_rfl) ?_
  refine zlEnd (by kernel_rfl) ?_
  refine zkNil ?_
  exact endQ hS hQ (finL_n (by show keepSt _ _ _ _ = _; kernel_rfl))
noncomputable def f70_l0 (a1 : GGrid) (x : (List (List GCell)) × Int) : Option (((List (List GCell)) × Int) ⊕ (((List (List GCell))))) := (bif (decide (x.2 < a1.High)) then (f70_l0_j1 a1 x.1 x.2) else (some (.inr x.1)))
theorem f70_l0_ok {d : Nat} (hd : 2 ≤ d) (a1 : GGrid) {r : ((List (List GCell)) × Int) ⊕ (((List (List GCell))))} {Q : PX → St → Prop} (hQ : ∀ e st', finL (f70_l0_H a1) (f70_l0_X a1) r e st' → Q e st') {x : (List (List GCell)) × Int} (hS : f70_l0 a1 x = some r) {st : St} (he : f70_l0_H a1 x st) : ZR (lev codes baseL (d - 1)) Q c70_2 [] st := by
  refine zrKeep he ?_
  unfold f70_l0 at hS
  refine zrSeq ?_
  refine zrSeq ?_
  refine zrReg ?_
  refine zlRun (n := 3) (j := 3) rfl (by kernel_rfl) ?_
  refine zlBool (d := 8) (op := (.cmpI .lss (.tmp 5) (.tmp 7))) (g := none) (j := 4) (decide (x.2 < a1.High)) rfl (by kernel_rfl) (by kernel_rfl) (by kernel_rfl) (fun hc => ?_) (fun hc => ?_)
  · replace hS := cond_t hc hS
    refine zlEnd (by kernel_rfl) ?_
    refine zkSeq ?_
    refine zrCondT (by kernel_rfl) ?_
    refine zrSkip ?_
    refine zkSeq ?_
    exact f70_l0_j1_ok hd a1 hQ x.1 x.2 hS (by kernel_rfl)
  · replace hS := cond_f hc hS
    refine zlEnd (by kernel_rfl) ?_
    refine zkSeq ?_
    refine zrCondF (by kernel_rfl) ?_
    refine zrKeep (J := f70_l0_e0_J a1 x.1) (by kernel_rfl) ?_
    refine zrExit ?_
    refine zkSeqX ?_
    refine zkNil ?_
    exact endQ hS hQ (finL_x (by intro h; cases h) (by show _ = _ ∧ _ = _; exact ⟨rfl, rfl⟩))
noncomputable def f70 (a1 : GGrid) : Option ((List (List GCell))) := ((loopO (f70_l0 a1) ([], 0)).bind fun z13 => (some z13))
theorem f70_ok (d : Nat) (hd : 2 ≤ d) (a1 : GGrid) (r : (List (List GCell))) (hS : f70 a1 = some r) : lev codes baseL d 70 [(.agg ((.d (.int .i64 a1.Wide)) :: ((.d (.int .i64 a1.High)) :: ((.d (.sl a1.Cells.length (e_GCell.cells a1.Cells))) :: []))))] [] = some ((.r (.own 0 22 1 r.length ((eSl e_GCell).cells r))), []) := by
  refine lev_go codes70 rfl rfl (Nat.le_trans (Nat.le_of_ble_eq_true rfl) hd) fun Q hQ => ?_
  unfold f70 at hS
  show ZR _ Q c70_b [] _
  replace hQ : ∀ e st', f70_Q r e st' → Q e st' := hQ
  refine zrSeq ?_
  refine zrReg ?_
  refine zlRun (n := 2) (j := 2) rfl (by kernel_rfl) ?_
  refine zlEnd (by kernel_rfl) ?_
  refine zkSeq ?_
  refine zrSeq ?_
  refine zrReg ?_
  refine zlRun (n := 1) (j := 1) rfl (by kernel_rfl) ?_
  refine zlEnd (by kernel_rfl) ?_
  refine zkSeq ?_
  refine zrSeq ?_
  refine zrSeq ?_
  refine zrReg ?_
  refine zlRun (n := 1) (j := 1) rfl (by kernel_rfl) ?_
  refine zlEnd (by kernel_rfl) ?_
  refine zkSeq ?_
  refine zrBlk ?_
  refine bindE hS (fun z13 hz13 hS => ?_)
  refine zrLoop (f70_l0_H a1) (f70_l0_X a1) (fun x st r Q h0 hS hQ => f70_l0_ok hd a1 hQ hS h0) (x := ([], 0)) (z := z13) (by show keepSt _ _ _ _ = _; kernel_rfl) hz13 ?_
  intro e st' _ hX
  obtain ⟨rfl, rfl⟩ : _ ∧ _ := hX
  refine zkBlkX ?_
  refine zkSeq ?_
  refine zrSeq ?_
  refine zrReg ?_
  refine zlRun (n := 2) (j := 2) rfl (by kernel_rfl) ?_
  refine zlEnd (by kernel_rfl) ?_
  refine zkSeq ?_
  refine zrRet ?_
  refine zkNil ?_
  exact endQ hS hQ (fRet (by kernel_rfl) ((congrArg (fun s => outR s 0 c70.res) (by kernel_rfl : finSt c70.fin _ = f70_fin z13)).trans (f70_out z13)))
/- farwriter/farref.Two -/
def f73_fin (p13 : Int) : St := ⟨(up (fun _ => .un) 2 (.d (.int .i64 p13))), (hB fun _ => 0)⟩
theorem f73_out (p13 : Int) : outR (f73_fin p13) 0 c73.res = some ((.d (.int .i64 p13)), []) := by
  kernel_rfl
def f73_Q (r : Int) (e : PX) (st : St) : Prop := DoneF c73 0 ((.d (.int .i64 r)), []) e st
def f73_l0_J (a1 : Int) (x : Int × Int) : St := ⟨(up (up (up (fun _ => .un) 5 (.d (.int .i64 x.2))) 4 (.d (.int .i64 a1))) 3 (.d (.int .i64 x.1))), (hB fun _ => 0)⟩
def f73_l0_H (a1 : Int) (x : Int × Int) (st : St) : Prop := keepSt [3, 4, 5] [] [] st = f73_l0_J a1 x
def f73_l0_e0_J (a1 : Int) (p12 : Int) : St := ⟨(up (fun _ => .un) 3 (.d (.int .i64 p12))), (hB fun _ => 0)⟩
def f73_l0_X (a1 : Int) (z : Int) (e : PX) (st : St) : Prop := e = .exit 0 ∧ st = f73_l0_e0_J a1 z
def f73_l0_j1_J (a1 : Int) (p17 : Int) (p18 : Int) (p19 : Bool) : St := ⟨(up (up (up (up (fun _ => .un) 6 (.d (.bool p19))) 5 (.d (.int .i64 p18))) 4 (.d (.int .i64 a1))) 3 (.d (.int .i64 p17))), (hB fun _ => 0)⟩
noncomputable def f73_l0_j1 (a1 : Int) (p17 : Int) (p18 : Int) (p19 : Bool) : Option ((Int × Int) ⊕ Int) := (bif p19 then (some (.inl ((IntKind.i64.wrap (p17 * 2)), (IntKind.i64.wrap (p18 + 1))))) else (some (.inr p17)))
theorem f73_l0_j1_ok {d : Nat} (hd : 1 ≤ d) (a1 : Int) {r : (Int × Int) ⊕ Int} {Q : PX → St → Prop} (hQ : ∀ e st', finL (f73_l0_H a1) (f73_l0_X a1) r e st' → Q e st') (p17 : Int) (p18 : Int) (p19 : Bool) (hS : f73_l0_j1 a1 p17 p18 p19 = some r) {st : St} (he : keepSt [3, 4, 5, 6] [] [] st = f73_l0_j1_J a1 p17 p18 p19) : ZR (lev codes baseL (d - 1)) Q c73_1 [] st := by
  refine zrKeep he ?_
  unfold f73_l0_j1 at hS
  refine zrSeq ?_
  refine zrSplit 6 p19 (by kernel_rfl) (fun hc => ?_) (fun hc => ?_)
  · replace hS := cond_t hc hS
    refine zrCondT (by kernel_rfl) ?_
    refine zrSkip ?_
    refine zkSeq ?_
    refine zrSeq ?_
    refine zrBlk ?_
    refine zrReg ?_
    refine zlRun (n := 3) (j := 3) rfl (by kernel_rfl) ?_
    refine zlEnd (by kernel_rfl) ?_
    refine zkBlk ?_
    refine zkSeq ?_
    refine zrReg ?_
    refine zlRun (n := 2) (j := 2) rfl (by kernel_rfl) ?_
    refine zlEnd (by kernel_rfl) ?_
    refine zkNil ?_
    exact endQ hS hQ (finL_n (by show keepSt _ _ _ _ = _; kernel_rfl))
  · replace hS := cond_f hc hS
    refine zrCondF (by kernel_rfl) ?_
    refine zrKeep (J := f73_l0_e0_J a1 p17) (by kernel_rfl) ?_
    refine zrExit ?_
    refine zkSeqX ?_
    refine zkNil ?_
    exact endQ hS hQ (finL_x (by intro h; cases h) (by show _ = _ ∧ _ = _; exact ⟨rfl, rfl⟩))
noncomputable def f73_l0 (a1 : Int) (x : Int × Int) : Option ((Int × Int) ⊕ Int) := (bif (decide (x.2 < a1)) then (f73_l0_j1 a1 x.1 x.2 true) else (f73_l0_j1 a1 x.1 x.2 false))
theorem f73_l0_ok {d : Nat} (hd : 1 ≤ d) (a1 : Int) {r : (Int × Int) ⊕ Int} {Q : PX → St → Prop} (hQ : ∀ e st', finL (f73_l0_H a1) (f73_l0_X a1) r e st' → Q e st') {x : Int × Int} (hS : f73_l0 a1 x = some r) {st : St} (he : f73_l0_H a1 x st) : ZR (lev codes baseL (d - 1)) Q c73_2 [] st := by
  refine zrKeep he ?_
  unfold f73_l0 at hS
  refine zrSeq ?_
  refine zrReg ?_
  refine zlBool (d := 6) (op := (.cmpI .lss (.tmp 5) (.tmp 4))) (g := none) (j := 1) (decide (x.2 < a1)) rfl (by kernel_rfl) (by kernel_rfl) (by kernel_rfl) (fun hc => ?_) (fun hc => ?_)
  · replace hS := cond_t hc hS
    refine zlEnd (by kernel_rfl) ?_
    refine zkSeq ?_
    exact f73_l0_j1_ok hd a1 hQ x.1 x.2 true hS (by kernel_rfl)
  · replace hS := cond_f hc hS
    refine zlEnd (by kernel_rfl) ?_
    refine zkSeq ?_
    exact f73_l0_j1_ok hd a1 hQ x.1 x.2 false hS (by kernel_rfl)
noncomputable def f73 (a1 : Int) : Option (Int) := ((loopO (f73_l0 a1) (1, 0)).bind fun z1 => (some z1))
theorem f73_ok (d : Nat) (hd : 1 ≤ d) (a1 : Int) (r : Int) (hS : f73 a1 = some r) : lev codes baseL d 73 [(.d (.int .i64 a1))] [] = some ((.d (.int .i64 r)), []) := by
  refine lev_go codes73 rfl rfl (Nat.le_trans (Nat.le_of_ble_eq_true rfl) hd) fun Q hQ => ?_
  unfold f73 at hS
  show ZR _ Q c73_b [] _
  replace hQ : ∀ e st', f73_Q r e st' → Q e st' := hQ
  refine zrSeq ?_
  refine zrReg ?_
  refine zlRun (n := 1) (j := 1) rfl (by kernel_rfl) ?_
  refine zlEnd (by kernel_rfl) ?_
  refine zkSeq ?_
  refine zrSeq ?_
  refine zrReg ?_
  refine zlRun (n := 1) (j := 1) rfl (by kernel_rfl) ?_
  refine zlEnd (by kernel_rfl) ?_
  refine zkSeq ?_
  refine zrSeq ?_
  refine zrSeq ?_
  refine zrReg ?_
  refine zlRun (n := 2) (j := 2) rfl (by kernel_rfl) ?_
  refine zlEnd (by kernel_rfl) ?_
  refine zkSeq ?_
  refine zrBlk ?_
  refine bindE hS (fun z1 hz1 hS => ?_)
  refine zrLoop (f73_l0_H a1) (f73_l0_X a1) (fun x st r Q h0 hS hQ => f73_l0_ok hd a1 hQ hS h0) (x := (1, 0)) (z := z1) (by show keepSt _ _ _ _ = _; kernel_rfl) hz1 ?_
  intro e st' _ hX
  obtain ⟨rfl, rfl⟩ : _ ∧ _ := hX
  refine zkBlkX ?_
  refine zkSeq ?_
  refine zrSeq ?_
  refine zrReg ?_
  refine zlRun (n := 2) (j := 2) rfl (by kernel_rfl) ?_
  refine zlEnd (by kernel_rfl) ?_
  refine zkSeq ?_
  refine zrRet ?_
  refine zkNil ?_
  exact endQ hS hQ (fRet (by kernel_rfl) ((congrArg (fun s => outR s 0 c73.res) (by kernel_rfl : finSt c73.fin _ = f73_fin z1)).trans (f73_out z1)))
/- farwriter/farref.PenRight -/
def f47_fin (p13 : Int) : St := ⟨(up (fun _ => .un) 2 (.d (.int .i64 p13))), (hB fun _ => 0)⟩
theorem f47_out (p13 : Int) : outR (f47_fin p13) 0 c47.res = some ((.d (.int .i64 p13)), []) := by
  kernel_rfl
def f47_Q (r : Int) (e : PX) (st : St) : Prop := DoneF c47 0 ((.d (.int .i64 r)), []) e st
def f47_j0_J (a1 : GPen) : St := ⟨(up (fun _ => .un) 1 (.r (.ptr 16 0 0))), (up (hB fun _ => 0) 16 ⟨0, some (.box ((.d (.int .i64 a1.Flags)) :: ((.d (.int .i64 a1.Fore)) :: ((.d (.int .i64 a1.Back)) :: []))))⟩)⟩
noncomputable def f47_j0 (a1 : GPen) : Option (Int) := ((f46 a1.Flags 0 255).bind fun z20 => (bif (!z20) then (some 4) else (some 0)))
theorem f47_j0_ok {d : Nat} (hd : 2 ≤ d) (a1 : GPen) {r : Int} {Q : PX → St → Prop} (hQ : ∀ e st', f47_Q r e st' → Q e st')  (hS : f47_j0 a1 = some r) {st : St} (he : keepSt [1] [(16, .id 16)] [] st = f47_j0_J a1) : ZR (lev codes baseL (d - 1)) Q c47_1 [] st := by
  refine zrKeep he ?_
  unfold f47_j0 at hS
  refine zrSeq ?_
  refine zrSeq ?_
  refine zrReg ?_
  refine zlRun (n := 2) (j := 2) rfl (by kernel_rfl) ?_
  refine bindE hS (fun z20 hz20 hS => ?_)
  refine zlOp (d := some 29) (op := (.call 46 [(.tmp 28), (.const (.int .i64 0)), (.const (.int .i64 255))])) (g := none) (j := 3) rfl (by kernel_rfl) (by kernel_rfl) (ev_callA (by kernel_rfl) (f46_ok (d - 1) (dpt hd rfl) a1.Flags 0 255 z20 hz20) (by kernel_rfl) (by kernel_rfl)) ?_
  refine zlRun (n := 1) (j := 4) rfl (by kernel_rfl) ?_
  refine zlEnd (by kernel_rfl) ?_
  refine zkSeq ?_
  refine zrSplit 30 (!z20) (by kernel_rfl) (fun hc => ?_) (fun hc => ?_)
  · replace hS := cond_t hc hS
    refine zrCondT (by kernel_rfl) ?_
    refine zrSeq ?_
    refine zrReg ?_
    refine zlRun (n := 1) (j := 1) rfl (by kernel_rfl) ?_
    refine zlEnd (by kernel_rfl) ?_
    refine zkSeq ?_
    refine zrRet ?_
    refine zkSeqR ?_
    refine zkNil ?_
    exact endQ hS hQ (fRet (by kernel_rfl) ((congrArg (fun s => outR s 0 c47.res) (by kernel_rfl : finSt c47.fin _ = f47_fin 4)).trans (f47_out 4)))
  · replace hS := cond_f hc hS
    refine zrCondF (by kernel_rfl) ?_
    refine zrSkip ?_
    refine zkSeq ?_
    refine zrSeq ?_
    refine zrReg ?_
    refine zlRun (n := 1) (j := 1) rfl (by kernel_rfl) ?_
    refine zlEnd (by kernel_rfl) ?_
    refine zkSeq ?_
    refine zrRet ?_
    refine zkNil ?_
    exact endQ hS hQ (fRet (by kernel_rfl) ((congrArg (fun s => outR s 0 c47.res) (by kernel_rfl : finSt c47.fin _ = f47_fin 0)).trans (f47_out 0)))
def f47_l1_J (a1 : GPen) (x : Int) : St := ⟨(up (up (up (up (fun _ => .un) 11 (.d (.int .i64 x))) 10 (.d (.int .i64 ((([a1.Fore, a1.Back] : List Int).length) : Int)))) 9 (.r (.msl 80 0 0 (([a1.Fore, a1.Back] : List Int).length)))) 1 (.r (.ptr 16 0 0))), (up (up (hB fun _ => 0) 80 ⟨0, some (.own 3 1 ((eInt .i64).cells ([a1.Fore, a1.Back])))⟩) 16 ⟨0, some (.box ((.d (.int .i64 a1.Flags)) :: ((.d (.int .i64 a1.Fore)) :: ((.d (.int .i64 a1.Back)) :: []))))⟩)⟩
def f47_l1_H (a1 : GPen) (x : Int) (st : St) : Prop := keepSt [1, 9, 10, 11] [(16, .id 16), (80, .id 80)] [] st = f47_l1_J a1 x
def f47_l1_e0_J (a1 : GPen) : St := ⟨(up (fun _ => .un) 1 (.r (.ptr 16 0 0))), (up (hB fun _ => 0) 16 ⟨0, some (.box ((.d (.int .i64 a1.Flags)) :: ((.d (.int .i64 a1.Fore)) :: ((.d (.int .i64 a1.Back)) :: []))))⟩)⟩
def f47_l1_X (a1 : GPen) (z : Unit ⊕ Int) (e : PX) (st : St) : Prop := (match z with | .inl z => e = .exit 0 ∧ st = f47_l1_e0_J a1 | .inr z => e = .ret ∧ finSt c47.fin st = f47_fin z)
def f47_l1_j3_J (a1 : GPen) (p18 : Int) : St := ⟨(up (up (up (up (fun _ => .un) 11 (.d (.int .i64 p18))) 10 (.d (.int .i64 ((([a1.Fore, a1.Back] : List Int).length) : Int)))) 9 (.r (.msl 80 0 0 (([a1.Fore, a1.Back] : List Int).length)))) 1 (.r (.ptr 16 0 0))), (up (up (hB fun _ => 0) 80 ⟨0, some (.own 3 1 ((eInt .i64).cells ([a1.Fore, a1.Back])))⟩) 16 ⟨0, some (.box ((.d (.int .i64 a1.Flags)) :: ((.d (.int .i64 a1.Fore)) :: ((.d (.int .i64 a1.Back)) :: []))))⟩)⟩
noncomputable def f47_l1_j3 (a1 : GPen) (p18 : Int) : Option (Int ⊕ (Unit ⊕ Int)) := ((inR p18 (([a1.Fore, a1.Back] : List Int).length)).bind fun m21 => ((([a1.Fore, a1.Back])[m21]?).bind fun z22 => ((f46 z22 0 256).bind fun z23 => (bif (!z23) then ((f73 24).bind fun z24 => ((f73 25).bind fun z25 => ((f46 z22 z24 (IntKind.i64.wrap (z25 - 1))).bind fun z26 => (bif (!z26) then (some (.inr (.inr 4))) else (some (.inl (IntKind.i64.wrap (p18 + 1)))))))) else (some (.inl (IntKind.i64.wrap (p18 + 1))))))))
theorem f47_l1_j3_ok {d : Nat} (hd : 2 ≤ d) (a1 : GPen) {r : Int ⊕ (Unit ⊕ Int)} {Q : PX → St → Prop} (hQ : ∀ e st', finL (f47_l1_H a1) (f47_l1_X a1) r e st' → Q e st') (p18 : Int) (hS : f47_l1_j3 a1 p18 = some r) {st : St} (he : keepSt [1, 9, 10, 11] [(16, .id 16), (80, .id 80)] [] st = f47_l1_j3_J a1 p18) : ZR (lev codes baseL (d - 1)) Q c47_2 [] st := by
  refine zrKeep he ?_
  unfold f47_l1_j3 at hS
  refine zrSeq ?_
  refine zrBlk ?_
  refine zrSeq ?_
  refine zrReg ?_
  refine bindE hS (fun m21 hm21 hS => ?_)
  refine zlOp (d := some 13) (op := (.ixS 3 1 (.tmp 9) (.tmp 11))) (g := none) (v := (.r (.ptr 80 0 ((0 + m21) * 1)))) (ups := []) (j := 1) rfl (by kernel_rfl) (by kernel_rfl) (ev_ixM (kk := .i64) (b := 80) (g := 0) (l := 0) (n := ([a1.Fore, a1.Back] : List Int).length) (j := p18) (cs := (eInt .i64).cells ([a1.Fore, a1.Back])) (by kernel_rfl) (by kernel_rfl) (by kernel_rfl) hm21) ?_
  refine bindE hS (fun z22 hz22 hS => ?_)
  refine zlOp (d := some 14) (op := (.load .false 1 (.tmp 13))) (g := none) (v := (.d (.int .i64 z22))) (ups := []) (j := 2) rfl (by kernel_rfl) (by kernel_rfl) (ev_loadM (eInt .i64) (b := 80) (g := 0) (o := (0 + m21) * 1) (e := 3) (k := 1) (m := m21) (fo := 0) (xs := [a1.Fore, a1.Back]) (by kernel_rfl) (by kernel_rfl) (by rw [Nat.zero_add]; rfl) hz22 (by kernel_rfl) (by kernel_rfl) (by kernel_rfl)) ?_
  refine zlRun (n := 1) (j := 3) rfl (by kernel_rfl) ?_
  refine zlEnd (by kernel_rfl) ?_
  refine zkSeq ?_
  refine zrSeq ?_
  refine zrReg ?_
  refine zlRun (n := 1) (j := 1) rfl (by kernel_rfl) ?_
  refine bindE hS (fun z23 hz23 hS => ?_)
  refine zlOp (d := some 16) (op := (.call 46 [(.tmp 15), (.const (.int .i64 0)), (.const (.int .i64 256))])) (g := none) (j := 2) rfl (by kernel_rfl) (by kernel_rfl) (ev_callA (by kernel_rfl) (f46_ok (d - 1) (dpt hd rfl) z22 0 256 z23 hz23) (by kernel_rfl) (by kernel_rfl)) ?_
  refine zlRun (n := 2) (j := 4) rfl (by kernel_rfl) ?_
  refine zlSplit 18 (!z23) (by kernel_rfl) (fun hc => ?_) (fun hc => ?_)
  · replace hS := cond_t hc hS
    refine zlRun (n := 1) (j := 5) rfl (by kernel_rfl) ?_
    refine bindE hS (fun z24 hz24 hS => ?_)
    refine zlOp (d := some 20) (op := (.call 73 [(.const (.int .i64 24))])) (g := (some (18, true))) (j := 6) rfl (by kernel_rfl) (by kernel_rfl) (ev_callA (by kernel_rfl) (f73_ok (d - 1) (dpt hd rfl) 24 z24 hz24) (by kernel_rfl) (by kernel_rfl)) ?_
    refine bindE hS (fun z25 hz25 hS => ?_)
    refine zlOp (d := some 21) (op := (.call 73 [(.const (.int .i64 25))])) (g := (some (18, true))) (j := 7) rfl (by kernel_rfl) (by kernel_rfl) (ev_callA (by kernel_rfl) (f73_ok (d - 1) (dpt hd rfl) 25 z25 hz25) (by kernel_rfl) (by kernel_rfl)) ?_
    refine zlRun (n := 1) (j := 8) rfl (by kernel_rfl) ?_
    refine bindE hS (fun z26 hz26 hS => ?_)
    refine zlOp (d := some 23) (op := (.call 46 [(.tmp 19), (.tmp 20), (.tmp 22)])) (g := (some (18, true))) (j := 9) rfl (by kernel_rfl) (by kernel_rfl) (ev_callA (by kernel_rfl) (f46_ok (d - 1) (dpt hd rfl) z22 z24 (IntKind.i64.wrap (z25 - 1)) z26 hz26) (by kernel_rfl) (by kernel_rfl)) ?_
    refine zlRun (n := 2) (j := 11) rfl (by kernel_rfl) ?_
    refine zlEnd (by kernel_rfl) ?_
    refine zkSeq ?_
    refine zrSplit 25 (!z26) (by kernel_rfl) (fun hc => ?_) (fun hc => ?_)
    · replace hS := cond_t hc hS
      refine zrCondT (by kernel_rfl) ?_
      refine zrSeq ?_
      refine zrReg ?_
      refine zlRun (n := 1) (j := 1) rfl (by kernel_rfl) ?_
      refine zlEnd (by kernel_rfl) ?_
      refine zkSeq ?_
      refine zrRet ?_
      refine zkBlkR ?_
      refine zkSeqR ?_
      refine zkNil ?_
      exact endQ hS hQ (finL_x (by intro h; cases h) (by show _ = _ ∧ _ = _; exact ⟨rfl, by kernel_rfl⟩))
    · replace hS := cond_f hc hS
      refine zrCondF (by kernel_rfl) ?_
      refine zrSkip ?_
      refine zkBlk ?_
      refine zkSeq ?_
      refine zrReg ?_
      refine zlRun (n := 2) (j := 2) rfl (by kernel_rfl) ?_
      refine zlEnd (by kernel_rfl) ?_
      refine zkNil ?_
      exact endQ hS hQ (finL_n (by show keepSt _ _ _ _ = _; kernel_rfl))
  · replace hS := cond_f hc hS
    refine zlRun (n := 7) (j := 11) rfl (by kernel_rfl) ?_
    refine zlEnd (by kernel_rfl) ?_
    refine zkSeq ?_
    refine zrCondF (by kernel_rfl) ?_
    refine zrSkip ?_
    refine zkBlk ?_
    refine zkSeq ?_
    refine zrReg ?_
    refine zlRun (n := 2) (j := 2) rfl (by kernel_rfl) ?_
    refine zlEnd (by kernel_rfl) ?_
    refine zkNil ?_
    exact endQ hS hQ (finL_n (by show keepSt _ _ _ _ = _; kernel_rfl))
def f47_l1_j2_J (a1 : GPen) (p16 : Int) (p17 : Bool) : St := ⟨(up (up (up (up (up (fun _ => .un) 12 (.d (.bool p17))) 11 (.d (.int .i64 p16))) 10 (.d (.int .i64 ((([a1.Fore, a1.Back] : List Int).length) : Int)))) 9 (.r (.msl 80 0 0 (([a1.Fore, a1.Back] : List Int).length)))) 1 (.r (.ptr 16 0 0))), (up (up (hB fun _ => 0) 80 ⟨0, some (.own 3 1 ((eInt .i64).cells ([a1.Fore, a1.Back])))⟩) 16 ⟨0, some (.box ((.d (.int .i64 a1.Flags)) :: ((.d (.int .i64 a1.Fore)) :: ((.d (.int .i64 a1.Back)) :: []))))⟩)⟩
noncomputable def f47_l1_j2 (a1 : GPen) (p16 : Int) (p17 : Bool) : Option (Int ⊕ (Unit ⊕ Int)) := (bif p17 then (f47_l1_j3 a1 p16) else (some (.inr (.inl ()))))
theorem f47_l1_j2_ok {d : Nat} (hd : 2 ≤ d) (a1 : GPen) {r : Int ⊕ (Unit ⊕ Int)} {Q : PX → St → Prop} (hQ : ∀ e st', finL (f47_l1_H a1) (f47_l1_X a1) r e st' → Q e st') (p16 : Int) (p17 : Bool) (hS : f47_l1_j2 a1 p16 p17 = some r) {st : St} (he : keepSt [1, 9, 10, 11, 12] [(16, .id 16), (80, .id 80)] [] st = f47_l1_j2_J a1 p16 p17) : ZR (lev codes baseL (d - 1)) Q c47_3 [] st := by
  refine zrKeep he ?_
  unfold f47_l1_j2 at hS
  refine zrSeq ?_
  refine zrSplit 12 p17 (by kernel_rfl) (fun hc => ?_) (fun hc => ?_)
  · replace hS := cond_t hc hS
    refine zrCondT (by kernel_rfl) ?_
    refine zrSkip ?_
    refine zkSeq ?_
    exact f47_l1_j3_ok hd a1 hQ p16 hS (by kernel_rfl)
  · replace hS := cond_f hc hS
    refine zrCondF (by kernel_rfl) ?_
    refine zrKeep (J := f47_l1_e0_J a1) (by kernel_rfl) ?_
    refine zrExit ?_
    refine zkSeqX ?_
    refine zkNil ?_
    exact endQ hS hQ (finL_x (by intro h; cases h) (by show _ = _ ∧ _ = _; exact ⟨rfl, rfl⟩))
noncomputable def f47_l1 (a1 : GPen) (x : Int) : Option (Int ⊕ (Unit ⊕ Int)) := (bif (decide (x < ((([a1.Fore, a1.Back] : List Int).length) : Int))) then (f47_l1_j2 a1 x true) else (f47_l1_j2 a1 x false))
theorem f47_l1_ok {d : Nat} (hd : 2 ≤ d) (a1 : GPen) {r : Int ⊕ (Unit ⊕ Int)} {Q : PX → St → Prop} (hQ : ∀ e st', finL (f47_l1_H a1) (f47_l1_X a1) r e st' → Q e st') {x : Int} (hS : f47_l1 a1 x = some r) {st : St} (he : f47_l1_H a1 x st) : ZR (lev codes baseL (d - 1)) Q c47_4 [] st := by
  refine zrKeep he ?_
  unfold f47_l1 at hS
  refine zrSeq ?_
  refine zrReg ?_
  refine zlBool (d := 12) (op := (.cmpI .lss (.tmp 11) (.tmp 10))) (g := none) (j := 1) (decide (x < ((([a1.Fore, a1.Back] : List Int).length) : Int))) rfl (by kernel_rfl) (by kernel_rfl) (by kernel_rfl) (fun hc => ?_) (fun hc => ?_)
  · replace hS := cond_t hc hS
    refine zlEnd (by kernel_rfl) ?_
    refine zkSeq ?_
    exact f47_l1_j2_ok hd a1 hQ x true hS (by kernel_rfl)
  · replace hS := cond_f hc hS
    refine zlEnd (by kernel_rfl) ?_
    refine zkSeq ?_
    exact f47_l1_j2_ok hd a1 hQ x false hS (by kernel_rfl)
noncomputable def f47 (a1 : GPen) : Option (Int) := ((loopO (f47_l1 a1) 0).bind fun z27 => (Sum.elim (fun z28 => (f47_j0 a1 )) (fun z29 => (some z29)) z27))
theorem f47_ok (d : Nat) (hd : 2 ≤ d) (a1 : GPen) (r : Int) (hS : f47 a1 = some r) : lev codes baseL d 47 [(.agg ((.d (.int .i64 a1.Flags)) :: ((.d (.int .i64 a1.Fore)) :: ((.d (.int .i64 a1.Back)) :: []))))] [] = some ((.d (.int .i64 r)), []) := by
  refine lev_go codes47 rfl rfl (Nat.le_trans (Nat.le_of_ble_eq_true rfl) hd) fun Q hQ => ?_
  unfold f47 at hS
  show ZR _ Q c47_b [] _
  replace hQ : ∀ e st', f47_Q r e st' → Q e st' := hQ
  refine zrSeq ?_
  refine zrReg ?_
  refine zlRun (n := 2) (j := 2) rfl (by kernel_rfl) ?_
  refine zlEnd (by kernel_rfl) ?_
  refine zkSeq ?_
  refine zrSeq ?_
  refine zrSeq ?_
  refine zrReg ?_
  refine zlRun (n := 7) (j := 7) rfl (by kernel_rfl) ?_
  refine zlEnd (by kernel_rfl) ?_
  refine zkSeq ?_
  refine zrBlk ?_
  refine bindE hS (fun z27 hz27 hS => ?_)
  refine zrLoop (f47_l1_H a1) (f47_l1_X a1) (fun x st r Q h0 hS hQ => f47_l1_ok hd a1 hQ hS h0) (x := 0) (z := z27) (by show keepSt _ _ _ _ = _; kernel_rfl) hz27 ?_
  rcases z27 with z28 | z29
  · replace hS := (show _ = _ from hS)
    simp only [Sum.elim_inl] at hS
    intro e st' _ hX
    obtain ⟨rfl, rfl⟩ : _ ∧ _ := hX
    refine zkBlkX ?_
    refine zkSeq ?_
    exact f47_j0_ok hd a1 hQ  hS (by kernel_rfl)
  · simp only [Sum.elim_inr] at hS
    intro e st' _ hX
    obtain ⟨rfl, hX⟩ : _ ∧ _ := hX
    refine zkBlkR ?_
    refine zkSeqR ?_
    refine zkNil ?_
    exact endQ hS hQ (fRet (by kernel_rfl) ((congrArg (fun s => outR s 0 c47.res) hX).trans (f47_out z29)))
/- farwriter/farref.Rune -/
def f106_fin (p2 : Bool) : St := ⟨(up (fun _ => .un) 2 (.d (.bool p2))), (hB fun _ => 0)⟩
theorem f106_out (p2 : Bool) : outR (f106_fin p2) 0 c106.res = some ((.d (.bool p2)), []) := by
  kernel_rfl
def f106_Q (r : Bool) (e : PX) (st : St) : Prop := DoneF c106 0 ((.d (.bool r)), []) e st
noncomputable def f106 (a1 : Int) : Option (Bool) := ((f46 a1 0 55295).bind fun z3 => (bif z3 then (some true) else ((f46 a1 57344 1114111).bind fun z4 => (some z4))))
theorem f106_ok (d : Nat) (hd : 2 ≤ d) (a1 : Int) (r : Bool) (hS : f106 a1 = some r) : lev codes baseL d 106 [(.d (.int .i64 a1))] [] = some ((.d (.bool r)), []) := by
  refine lev_go codes106 rfl rfl (Nat.le_trans (Nat.le_of_ble_eq_true rfl) hd) fun Q hQ => ?_
  unfold f106 at hS
  show ZR _ Q c106_b [] _
  replace hQ : ∀ e st', f106_Q r e st' → Q e st' := hQ
  refine zrSeq ?_
  refine zrReg ?_
  refine zlRun (n := 1) (j := 1) rfl (by kernel_rfl) ?_
  refine zlEnd (by kernel_rfl) ?_
  refine zkSeq ?_
  refine zrSeq ?_
  refine zrReg ?_
  refine zlRun (n := 1) (j := 1) rfl (by kernel_rfl) ?_
  refine bindE hS (fun z3 hz3 hS => ?_)
  refine zlOp (d := some 4) (op := (.call 46 [(.tmp 3), (.const (.int .i64 0)), (.const (.int .i64 55295))])) (g := none) (j := 2) rfl (by kernel_rfl) (by kernel_rfl) (ev_callA (by kernel_rfl) (f46_ok (d - 1) (dpt hd rfl) a1 0 55295 z3 hz3) (by kernel_rfl) (by kernel_rfl)) ?_
  refine zlRun (n := 1) (j := 3) rfl (by kernel_rfl) ?_
  refine zlSplit 5 z3 (by kernel_rfl) (fun hc => ?_) (fun hc => ?_)
  · replace hS := cond_t hc hS
    refine zlRun (n := 4) (j := 7) rfl (by kernel_rfl) ?_
    refine zlEnd (by kernel_rfl) ?_
    refine zkSeq ?_
    refine zrRet ?_
    refine zkNil ?_
    exact endQ hS hQ (fRet (by kernel_rfl) ((congrArg (fun s => outR s 0 c106.res) (by kernel_rfl : finSt c106.fin _ = f106_fin true)).trans (f106_out true)))
  · replace hS := cond_f hc hS
    refine zlRun (n := 1) (j := 4) rfl (by kernel_rfl) ?_
    refine bindE hS (fun z4 hz4 hS => ?_)
    refine zlOp (d := some 7) (op := (.call 46 [(.tmp 6), (.const (.int .i64 57344)), (.const (.int .i64 1114111))])) (g := (some (5, false))) (j := 5) rfl (by kernel_rfl) (by kernel_rfl) (ev_callA (by kernel_rfl) (f46_ok (d - 1) (dpt hd rfl) a1 57344 1114111 z4 hz4) (by kernel_rfl) (by kernel_rfl)) ?_
    refine zlRun (n := 2) (j := 7) rfl (by kernel_rfl) ?_
    refine zlEnd (by kernel_rfl) ?_
    refine zkSeq ?_
    refine zrRet ?_
    refine zkNil ?_
    exact endQ hS hQ (fRet (by kernel_rfl) ((congrArg (fun s => outR s 0 c106.res) (by kernel_rfl : finSt c106.fin _ = f106_fin z4)).trans (f106_out z4)))
end Go.Proofs.YtjoccdgmcdkbkaaGreatDoor.Pm
