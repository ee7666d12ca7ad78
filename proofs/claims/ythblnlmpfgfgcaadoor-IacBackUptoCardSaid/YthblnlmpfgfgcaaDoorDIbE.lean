/- Typed functions, and that the codes are these. Printed by dec.py. -/
import Derived.Test.YthblnlmpfgfgcaaDoorDIbD
namespace Go.Proofs.YthblnlmpfgfgcaaDoor.Pm
set_option maxRecDepth 1000000
set_option maxHeartbeats 20000000
set_option linter.unusedVariables false
/- farwriter/farkeep.IacBack -/
def f4_fin (p47 : Bool) : St := ⟨(up (fun _ => .un) 2 (.d (.bool p47))), (hB fun _ => 0)⟩
theorem f4_out (p47 : Bool) : outR (f4_fin p47) 0 c4.res = some ((.d (.bool p47)), []) := by
  kernel_rfl
def f4_Q (r : Bool) (e : PX) (st : St) : Prop := DoneF c4 0 ((.d (.bool r)), []) e st
def f4_j0_J (a1 : List GTok) (p48 : List UInt8) (p49 : List GTok) : St := ⟨(up (up (fun _ => .un) 4 (.r (.msl 40 0 0 p49.length))) 3 (.r (.ptr 32 0 0))), (up (up (up (hB fun _ => 0) 40 ⟨0, some (.own 50 4 (e_GTok.cells p49))⟩) 473 ⟨0, some (.own 5 1 (eU8.cells p48))⟩) 32 ⟨0, some (.box ((.tup [.un, (.d (.int .i64 37))]) :: ((.r (.msl 473 0 0 p48.length)) :: [])))⟩)⟩
noncomputable def f4_j0 (a1 : List GTok) (p48 : List UInt8) (p49 : List GTok) : Option (Bool) := ((f12 (GWire.mk 0 0 0 ([]) false) p48).bind fun z19 => (f13.bind fun z20 => (bif z20 then (bif (decide (z19.2.2 = 0)) then (bif (decide (z19.1.Mode = 0) && (decide (z19.1.Cmd = 0) && (decide (z19.1.Opt = 0) && (decide (z19.1.Buf = ([] : List UInt8)) && (decide (z19.1.Over = false) && true))))) then ((f15 p49).bind fun z21 => ((f14 z19.2.1 z21).bind fun z22 => (some z22))) else (some false)) else (some false)) else (some false))))
theorem f4_j0_ok {d : Nat} (hd : 7 ≤ d) (a1 : List GTok) {r : Bool} {Q : PX → St → Prop} (hQ : ∀ e st', f4_Q r e st' → Q e st') (p48 : List UInt8) (p49 : List GTok) (hS : f4_j0 a1 p48 p49 = some r) {st : St} (he : keepSt [3, 4] [(32, .id 32), (473, .id 473), (40, .id 40)] [] st = f4_j0_J a1 p48 p49) : ZR (lev codes baseL (d - 1)) Q c4_1 [] st := by
  refine zrKeep he ?_
  unfold f4_j0 at hS
  refine zrSeq ?_
  refine zrReg ?_
  refine zlRun (n := 1) (j := 1) rfl (by kernel_rfl) ?_
  refine zlOp (d := some 34) (op := (.callr 9 [(.tmp 3)])) (g := none) (j := 2) rfl (by kernel_rfl) (by kernel_rfl) (ev_callrA (ids := [32, 473]) (by kernel_rfl) (by kernel_rfl) (by kernel_rfl) (libBS_ok (d - 1) (dpt hd rfl) p48) (by kernel_rfl)) ?_
  refine bindE hS (fun z19 hz19 hS => ?_)
  refine zlOp (d := some 35) (op := (.call 12 [(.tmp 33), (.tmp 34)])) (g := none) (j := 3) rfl (by kernel_rfl) (by kernel_rfl) (ev_callA (by kernel_rfl) (f12_ok (d - 1) (dpt hd rfl) (GWire.mk 0 0 0 ([]) false) p48 z19 hz19) (by kernel_rfl) (by kernel_rfl)) ?_
  refine zlRun (n := 8) (j := 11) rfl (by kernel_rfl) ?_
  refine zlEnd (by kernel_rfl) ?_
  refine zkSeq ?_
  refine zrSeq ?_
  refine zrReg ?_
  refine bindE hS (fun z20 hz20 hS => ?_)
  refine zlOp (d := some 39) (op := (.call 13 [])) (g := none) (j := 1) rfl (by kernel_rfl) (by kernel_rfl) (ev_callA (by kernel_rfl) (f13_ok (d - 1) (dpt hd rfl)  z20 hz20) (by kernel_rfl) (by kernel_rfl)) ?_
  refine zlRun (n := 1) (j := 2) rfl (by kernel_rfl) ?_
  refine zlSplit 40 z20 (by kernel_rfl) (fun hc => ?_) (fun hc => ?_)
  · replace hS := cond_t hc hS
    refine zlRun (n := 1) (j := 3) rfl (by kernel_rfl) ?_
    refine zlBool (d := 42) (op := (.cmpI .eql (.tmp 41) (.const (.int .i64 0)))) (g := (some (40, true))) (j := 4) (decide (z19.2.2 = 0)) rfl (by kernel_rfl) (by kernel_rfl) (by kernel_rfl) (fun hc => ?_) (fun hc => ?_)
    · replace hS := cond_t hc hS
      refine zlRun (n := 4) (j := 8) rfl (by kernel_rfl) ?_
      refine zlBool (d := 47) (op := (.eqA .false [(3, .int), (1, .str), (1, .bool)] (.tmp 45) (.tmp 46))) (g := (some (44, true))) (j := 9) (decide (z19.1.Mode = 0) && (decide (z19.1.Cmd = 0) && (decide (z19.1.Opt = 0) && (decide (z19.1.Buf = ([] : List UInt8)) && (decide (z19.1.Over = false) && true))))) rfl (by kernel_rfl) (by kernel_rfl) (by kernel_rfl) (fun hc => ?_) (fun hc => ?_)
      · replace hS := cond_t hc hS
        refine zlRun (n := 4) (j := 13) rfl (by kernel_rfl) ?_
        refine bindE hS (fun z21 hz21 hS => ?_)
        refine zlOp (d := some 52) (op := (.call 15 [(.tmp 51)])) (g := (some (49, true))) (j := 14) rfl (by kernel_rfl) (by kernel_rfl) (ev_callB (args := [(.r (.msl 40 0 0 p49.length))]) (by kernel_rfl) (l_cons (l_own e_GTok (e := 50) (k := 4) (xs := p49) (by kernel_rfl) rfl rfl) l_nil) (f15_ok (d - 1) (dpt hd rfl) p49 z21 hz21) (by simp only [free_own e_GTok (fun _ => rfl), free_tup, free_agg, free_nl, free_cs, free_int, free_bool, free_str, free_un, free_ni, free_s0, Bool.and_true, Bool.or_true, Bool.and_self]) (by kernel_rfl)) ?_
        refine bindE hS (fun z22 hz22 hS => ?_)
        refine zlOp (d := some 53) (op := (.call 14 [(.tmp 50), (.tmp 52)])) (g := (some (49, true))) (j := 15) rfl (by kernel_rfl) (by kernel_rfl) (ev_callB (args := [(.r (.msl 288 1 0 z19.2.1.length)), (.r (.msl 424 1 0 z21.length))]) (by kernel_rfl) (l_cons (l_own e_GTok (e := 50) (k := 4) (xs := z19.2.1) (by kernel_rfl) rfl rfl) (l_cons (l_own e_GTok (e := 50) (k := 4) (xs := z21) (by kernel_rfl) rfl rfl) l_nil)) (f14_ok (d - 1) (dpt hd rfl) z19.2.1 z21 z22 hz22) (by kernel_rfl) (by kernel_rfl)) ?_
        refine zlRun (n := 2) (j := 17) rfl (by kernel_rfl) ?_
        refine zlEnd (by kernel_rfl) ?_
        refine zkSeq ?_
        refine zrRet ?_
        refine zkNil ?_
        exact endQ hS hQ (fRet (by kernel_rfl) ((congrArg (fun s => outR s 0 c4.res) (by kernel_rfl : finSt c4.fin _ = f4_fin z22)).trans (f4_out z22)))
      · replace hS := cond_f hc hS
        refine zlRun (n := 8) (j := 17) rfl (by kernel_rfl) ?_
        refine zlEnd (by kernel_rfl) ?_
        refine zkSeq ?_
        refine zrRet ?_
        refine zkNil ?_
        exact endQ hS hQ (fRet (by kernel_rfl) ((congrArg (fun s => outR s 0 c4.res) (by kernel_rfl : finSt c4.fin _ = f4_fin false)).trans (f4_out false)))
    · replace hS := cond_f hc hS
      refine zlRun (n := 13) (j := 17) rfl (by kernel_rfl) ?_
      refine zlEnd (by kernel_rfl) ?_
      refine zkSeq ?_
      refine zrRet ?_
      refine zkNil ?_
      exact endQ hS hQ (fRet (by kernel_rfl) ((congrArg (fun s => outR s 0 c4.res) (by kernel_rfl : finSt c4.fin _ = f4_fin false)).trans (f4_out false)))
  · replace hS := cond_f hc hS
    refine zlRun (n := 15) (j := 17) rfl (by kernel_rfl) ?_
    refine zlEnd (by kernel_rfl) ?_
    refine zkSeq ?_
    refine zrRet ?_
    refine zkNil ?_
    exact endQ hS hQ (fRet (by kernel_rfl) ((congrArg (fun s => outR s 0 c4.res) (by kernel_rfl : finSt c4.fin _ = f4_fin false)).trans (f4_out false)))
def f4_l1_J (a1 : List GTok) (x : (List UInt8) × (List GTok) × Int) : St := ⟨(up (up (up (up (up (fun _ => .un) 14 (.d (.int .i64 x.2.2))) 13 (.d (.int .i64 (a1.length : Int)))) 12 (.d (.sl a1.length (e_GTok.cells a1)))) 4 (.r (.msl 40 0 0 x.2.1.length))) 3 (.r (.ptr 32 0 0))), (up (up (up (hB fun _ => 0) 40 ⟨0, some (.own 50 4 (e_GTok.cells x.2.1))⟩) 473 ⟨0, some (.own 5 1 (eU8.cells x.1))⟩) 32 ⟨0, some (.box ((.tup [.un, (.d (.int .i64 37))]) :: ((.r (.msl 473 0 0 x.1.length)) :: [])))⟩)⟩
def f4_l1_H (a1 : List GTok) (x : (List UInt8) × (List GTok) × Int) (st : St) : Prop := keepSt [3, 4, 12, 13, 14] [(32, .id 32), (473, (.cell 32 1)), (40, .id 40)] [.cell 32 1 473 5 1] st = f4_l1_J a1 x
def f4_l1_e0_J (a1 : List GTok) (p42 : List UInt8) (p43 : List GTok) : St := ⟨(up (up (fun _ => .un) 4 (.r (.msl 40 0 0 p43.length))) 3 (.r (.ptr 32 0 0))), (up (up (up (hB fun _ => 0) 40 ⟨0, some (.own 50 4 (e_GTok.cells p43))⟩) 473 ⟨0, some (.own 5 1 (eU8.cells p42))⟩) 32 ⟨0, some (.box ((.tup [.un, (.d (.int .i64 37))]) :: ((.r (.msl 473 0 0 p42.length)) :: [])))⟩)⟩
def f4_l1_X (a1 : List GTok) (z : ((List UInt8) × (List GTok))) (e : PX) (st : St) : Prop := e = .exit 0 ∧ st = f4_l1_e0_J a1 z.1 z.2
def f4_l1_j3_J (a1 : List GTok) (p58 : List UInt8) (p59 : List GTok) (p60 : Int) : St := ⟨(up (up (up (up (up (fun _ => .un) 14 (.d (.int .i64 p60))) 13 (.d (.int .i64 (a1.length : Int)))) 12 (.d (.sl a1.length (e_GTok.cells a1)))) 4 (.r (.msl 40 0 0 p59.length))) 3 (.r (.ptr 32 0 0))), (up (up (up (hB fun _ => 0) 40 ⟨0, some (.own 50 4 (e_GTok.cells p59))⟩) 473 ⟨0, some (.own 5 1 (eU8.cells p58))⟩) 32 ⟨0, some (.box ((.tup [.un, (.d (.int .i64 37))]) :: ((.r (.msl 473 0 0 p58.length)) :: [])))⟩)⟩
noncomputable def f4_l1_j3 (a1 : List GTok) (p58 : List UInt8) (p59 : List GTok) (p60 : Int) : Option (((List UInt8) × (List GTok) × Int) ⊕ (((List UInt8) × (List GTok)))) := ((idx a1 p60).bind fun z23 => ((f11 z23).bind fun z24 => (bif (decide (z24.2 = 0)) then ((blw? p58 z24.1).bind fun z25 => ((app? 40 p59 ([z23] : List GTok)).bind fun z26 => (some (.inl (z25, z26, (IntKind.i64.wrap (p60 + 1))))))) else (some (.inl (p58, p59, (IntKind.i64.wrap (p60 + 1))))))))
theorem f4_l1_j3_ok {d : Nat} (hd : 7 ≤ d) (a1 : List GTok) {r : ((List UInt8) × (List GTok) × Int) ⊕ (((List UInt8) × (List GTok)))} {Q : PX → St → Prop} (hQ : ∀ e st', finL (f4_l1_H a1) (f4_l1_X a1) r e st' → Q e st') (p58 : List UInt8) (p59 : List GTok) (p60 : Int) (hS : f4_l1_j3 a1 p58 p59 p60 = some r) {st : St} (he : keepSt [3, 4, 12, 13, 14] [(32, .id 32), (473, .id 473), (40, .id 40)] [] st = f4_l1_j3_J a1 p58 p59 p60) : ZR (lev codes baseL (d - 1)) Q c4_2 [] st := by
  refine zrKeep he ?_
  unfold f4_l1_j3 at hS
  refine zrSeq ?_
  refine zrBlk ?_
  refine zrSeq ?_
  refine zrReg ?_
  refine bindE hS (fun z23 hz23 hS => ?_)
  refine zlOp (d := some 16) (op := (.ixS 50 4 (.tmp 12) (.tmp 14))) (g := none) (v := (.rptr (e_GTok.enc z23 ++ (e_GTok.cells (a1.drop ((p60 : Int).toNat + 1)))))) (ups := []) (j := 1) rfl (by kernel_rfl) (by kernel_rfl) (ev_ixS e_GTok (kk := .i64) (xs := a1) (j := p60) (by kernel_rfl) (by kernel_rfl) hz23 rfl (by intro h; cases h)) ?_
  refine zlRun (n := 3) (j := 4) rfl (by kernel_rfl) ?_
  refine zlEnd (by kernel_rfl) ?_
  refine zkSeq ?_
  refine zrSeq ?_
  refine zrReg ?_
  refine zlRun (n := 1) (j := 1) rfl (by kernel_rfl) ?_
  refine bindE hS (fun z24 hz24 hS => ?_)
  refine zlOp (d := some 20) (op := (.call 11 [(.tmp 19)])) (g := none) (j := 2) rfl (by kernel_rfl) (by kernel_rfl) (ev_callA (by kernel_rfl) (f11_ok (d - 1) (dpt hd rfl) z23 z24 hz24) (by kernel_rfl) (by kernel_rfl)) ?_
  refine zlRun (n := 5) (j := 7) rfl (by kernel_rfl) ?_
  refine zlEnd (by kernel_rfl) ?_
  refine zkSeq ?_
  refine zrSeq ?_
  refine zrReg ?_
  refine zlRun (n := 1) (j := 1) rfl (by kernel_rfl) ?_
  refine zlBool (d := 24) (op := (.cmpI .eql (.tmp 23) (.const (.int .i64 0)))) (g := none) (j := 2) (decide (z24.2 = 0)) rfl (by kernel_rfl) (by kernel_rfl) (by kernel_rfl) (fun hc => ?_) (fun hc => ?_)
  · replace hS := cond_t hc hS
    refine zlEnd (by kernel_rfl) ?_
    refine zkSeq ?_
    refine zrCondT (by kernel_rfl) ?_
    refine zrSeq ?_
    refine zrReg ?_
    refine zlRun (n := 1) (j := 1) rfl (by kernel_rfl) ?_
    refine bindE hS (fun z25 hz25 hS => ?_)
    refine zlOp (d := some 26) (op := (.callr 7 [(.tmp 3), (.tmp 25)])) (g := none) (j := 2) rfl (by kernel_rfl) (by kernel_rfl) (ev_callrA (ids := [32, 473]) (by kernel_rfl) (by kernel_rfl) (by kernel_rfl) (libBW_ok (d - 1) (dpt hd rfl) p58 z24.1 z25 hz25) (by kernel_rfl)) ?_
    refine zlEnd (by kernel_rfl) ?_
    refine zkSeq ?_
    refine zrReg ?_
    refine zlRun (n := 3) (j := 3) rfl (by kernel_rfl) ?_
    refine bindE hS (fun z26 hz26 hS => ?_)
    refine zlOp (d := some 30) (op := (.app 50 4 40 (.tmp 27) (.tmp 29))) (g := none) (v := (.r (.msl 40 1 0 z26.length))) (ups := [(40, ⟨1, some (.own 50 4 (e_GTok.cells z26))⟩)]) (j := 4) rfl (by kernel_rfl) (by kernel_rfl) (ev_app e_GTok (b := 40) (g := 0) (n := p59.length) (xs := p59) (ys := [z23]) ((congrArg (asL _) (by kernel_rfl : ρof _ (.tmp 29) = (.r (.msl 240 1 0 (([z23] : List GTok).length))))).trans (as_whole e_GTok (e := 50) (k := 4) (xs := [z23]) (by kernel_rfl) rfl rfl)) rfl (by kernel_rfl) rfl (by kernel_rfl) rfl hz26) ?_
    refine zlRun (n := 1) (j := 5) rfl (by kernel_rfl) ?_
    refine zlEnd (by kernel_rfl) ?_
    refine zkBlk ?_
    refine zkSeq ?_
    refine zrReg ?_
    refine zlRun (n := 2) (j := 2) rfl (by kernel_rfl) ?_
    refine zlEnd (by kernel_rfl) ?_
    refine zkNil ?_
    exact endQ hS hQ (finL_n (by show keepSt _ _ _ _ = _; kernel_rfl))
  · replace hS := cond_f hc hS
    refine zlEnd (by kernel_rfl) ?_
    refine zkSeq ?_
    refine zrCondF (by kernel_rfl) ?_
    refine zrSkip ?_
    refine zkBlk ?_
    refine zkSeq ?_
    refine zrReg ?_
    refine zlRun (n := 2) (j := 2) rfl (by kernel_rfl) ?_
    refine zlEnd (by kernel_rfl) ?_
    refine zkNil ?_
    exact endQ hS hQ (finL_n (by show keepSt _ _ _ _ = _; kernel_rfl))
def f4_l1_j2_J (a1 : List GTok) (p54 : List UInt8) (p55 : List GTok) (p56 : Int) (p57 : Bool) : St := ⟨(up (up (up (up (up (up (fun _ => .un) 15 (.d (.bool p57))) 14 (.d (.int .i64 p56))) 13 (.d (.int .i64 (a1.length : Int)))) 12 (.d (.sl a1.length (e_GTok.cells a1)))) 4 (.r (.msl 40 0 0 p55.length))) 3 (.r (.ptr 32 0 0))), (up (up (up (hB fun _ => 0) 40 ⟨0, some (.own 50 4 (e_GTok.cells p55))⟩) 473 ⟨0, some (.own 5 1 (eU8.cells p54))⟩) 32 ⟨0, some (.box ((.tup [.un, (.d (.int .i64 37))]) :: ((.r (.msl 473 0 0 p54.length)) :: [])))⟩)⟩
noncomputable def f4_l1_j2 (a1 : List GTok) (p54 : List UInt8) (p55 : List GTok) (p56 : Int) (p57 : Bool) : Option (((List UInt8) × (List GTok) × Int) ⊕ (((List UInt8) × (List GTok)))) := (bif p57 then (f4_l1_j3 a1 p54 p55 p56) else (some (.inr (p54, p55))))
theorem f4_l1_j2_ok {d : Nat} (hd : 7 ≤ d) (a1 : List GTok) {r : ((List UInt8) × (List GTok) × Int) ⊕ (((List UInt8) × (List GTok)))} {Q : PX → St → Prop} (hQ : ∀ e st', finL (f4_l1_H a1) (f4_l1_X a1) r e st' → Q e st') (p54 : List UInt8) (p55 : List GTok) (p56 : Int) (p57 : Bool) (hS : f4_l1_j2 a1 p54 p55 p56 p57 = some r) {st : St} (he : keepSt [3, 4, 12, 13, 14, 15] [(32, .id 32), (473, .id 473), (40, .id 40)] [] st = f4_l1_j2_J a1 p54 p55 p56 p57) : ZR (lev codes baseL (d - 1)) Q c4_3 [] st := by
  refine zrKeep he ?_
  unfold f4_l1_j2 at hS
  refine zrSeq ?_
  refine zrSplit 15 p57 (by kernel_rfl) (fun hc => ?_) (fun hc => ?_)
  · replace hS := cond_t hc hS
    refine zrCondT (by kernel_rfl) ?_
    refine zrSkip ?_
    refine zkSeq ?_
    exact f4_l1_j3_ok hd a1 hQ p54 p55 p56 hS (by kernel_rfl)
  · replace hS := cond_f hc hS
    refine zrCondF (by kernel_rfl) ?_
    refine zrKeep (J := f4_l1_e0_J a1 p54 p55) (by kernel_rfl) ?_
    refine zrExit ?_
    refine zkSeqX ?_
    refine zkNil ?_
    exact endQ hS hQ (finL_x (by intro h; cases h) (by show _ = _ ∧ _ = _; exact ⟨rfl, rfl⟩))
noncomputable def f4_l1 (a1 : List GTok) (x : (List UInt8) × (List GTok) × Int) : Option (((List UInt8) × (List GTok) × Int) ⊕ (((List UInt8) × (List GTok)))) := (bif (decide (x.2.2 < (a1.length : Int))) then (f4_l1_j2 a1 x.1 x.2.1 x.2.2 true) else (f4_l1_j2 a1 x.1 x.2.1 x.2.2 false))
theorem f4_l1_ok {d : Nat} (hd : 7 ≤ d) (a1 : List GTok) {r : ((List UInt8) × (List GTok) × Int) ⊕ (((List UInt8) × (List GTok)))} {Q : PX → St → Prop} (hQ : ∀ e st', finL (f4_l1_H a1) (f4_l1_X a1) r e st' → Q e st') {x : (List UInt8) × (List GTok) × Int} (hS : f4_l1 a1 x = some r) {st : St} (he : f4_l1_H a1 x st) : ZR (lev codes baseL (d - 1)) Q c4_4 [] st := by
  refine zrKeep he ?_
  unfold f4_l1 at hS
  refine zrSeq ?_
  refine zrReg ?_
  refine zlBool (d := 15) (op := (.cmpI .lss (.tmp 14) (.tmp 13))) (g := none) (j := 1) (decide (x.2.2 < (a1.length : Int))) rfl (by kernel_rfl) (by kernel_rfl) (by kernel_rfl) (fun hc => ?_) (fun hc => ?_)
  · replace hS := cond_t hc hS
    refine zlEnd (by kernel_rfl) ?_
    refine zkSeq ?_
    exact f4_l1_j2_ok hd a1 hQ x.1 x.2.1 x.2.2 true hS (by kernel_rfl)
  · replace hS := cond_f hc hS
    refine zlEnd (by kernel_rfl) ?_
    refine zkSeq ?_
    exact f4_l1_j2_ok hd a1 hQ x.1 x.2.1 x.2.2 false hS (by kernel_rfl)
noncomputable def f4 (a1 : List GTok) : Option (Bool) := ((loopO (f4_l1 a1) ([], [], 0)).bind fun z27 => (f4_j0 a1 z27.1 z27.2))
theorem f4_ok (d : Nat) (hd : 7 ≤ d) (a1 : List GTok) (r : Bool) (hS : f4 a1 = some r) : lev codes baseL d 4 [(.d (.sl a1.length (e_GTok.cells a1)))] [] = some ((.d (.bool r)), []) := by
  refine lev_go codes4 rfl rfl (Nat.le_trans (Nat.le_of_ble_eq_true rfl) hd) fun Q hQ => ?_
  unfold f4 at hS
  show ZR _ Q c4_b [] _
  replace hQ : ∀ e st', f4_Q r e st' → Q e st' := hQ
  refine zrSeq ?_
  refine zrReg ?_
  refine zlRun (n := 1) (j := 1) rfl (by kernel_rfl) ?_
  refine zlEnd (by kernel_rfl) ?_
  refine zkSeq ?_
  refine zrSeq ?_
  refine zrReg ?_
  refine zlRun (n := 1) (j := 1) rfl (by kernel_rfl) ?_
  refine zlEnd (by kernel_rfl) ?_
  refine zkSeq ?_
  refine zrSeq ?_
  refine zrReg ?_
  refine zlRun (n := 1) (j := 1) rfl (by kernel_rfl) ?_
  refine zlEnd (by kernel_rfl) ?_
  refine zkSeq ?_
  refine zrSeq ?_
  refine zrSeq ?_
  refine zrReg ?_
  refine zlRun (n := 3) (j := 3) rfl (by kernel_rfl) ?_
  refine zlEnd (by kernel_rfl) ?_
  refine zkSeq ?_
  refine zrBlk ?_
  refine bindE hS (fun z27 hz27 hS => ?_)
  refine zrLoop (f4_l1_H a1) (f4_l1_X a1) (fun x st r Q h0 hS hQ => f4_l1_ok hd a1 hQ hS h0) (x := ([], [], 0)) (z := z27) (by show keepSt _ _ _ _ = _; kernel_rfl) hz27 ?_
  intro e st' _ hX
  obtain ⟨rfl, rfl⟩ : _ ∧ _ := hX
  refine zkBlkX ?_
  refine zkSeq ?_
  exact f4_j0_ok hd a1 hQ z27.1 z27.2 hS (by kernel_rfl)
end Go.Proofs.YthblnlmpfgfgcaaDoor.Pm
