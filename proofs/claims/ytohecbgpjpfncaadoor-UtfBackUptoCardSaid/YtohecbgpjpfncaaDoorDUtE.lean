/- Typed functions, and that the codes are these. Printed by dec.py. -/
import Derived.Test.YtohecbgpjpfncaaDoorDUtD
namespace Go.Proofs.YtohecbgpjpfncaaDoor.Pm
set_option maxRecDepth 1000000
set_option maxHeartbeats 20000000
set_option linter.unusedVariables false
/- farwriter/farkeep.UtfBack -/
def f5_fin (p41 : Bool) : St := ⟨(up (fun _ => .un) 4 (.d (.bool p41))), (hB fun _ => 0)⟩
theorem f5_out (p41 : Bool) : outR (f5_fin p41) 0 c5.res = some ((.d (.bool p41)), []) := by
  kernel_rfl
def f5_Q (r : Bool) (e : PX) (st : St) : Prop := DoneF c5 0 ((.d (.bool r)), []) e st
def f5_j1_J (a1 : List Int) (a2 : Int) (p79 : Int) (p80 : List Int) (p81 : List UInt8) : St := ⟨(up (up (up (fun _ => .un) 8 (.d (.str p81))) 5 (.r (.msl 136 0 0 p80.length))) 1 (.d (.int .i64 p79))), (up (hB fun _ => 0) 136 ⟨0, some (.own 3 1 ((eInt .i64).cells p80))⟩)⟩
noncomputable def f5_j1 (a1 : List Int) (a2 : Int) (p79 : Int) (p80 : List Int) (p81 : List UInt8) : Option (Bool) := ((sub? p81 0 p79).bind fun z49 => ((f7 [] z49).bind fun z50 => ((sub? p81 p79 (p81.length : Int)).bind fun z51 => ((f7 z50.1 z51).bind fun z52 => (f8.bind fun z53 => (bif z53 then (bif (decide (z50.2.2 = 0)) then (bif (decide (z52.2.2 = 0)) then (bif (decide (z52.1 = ([] : List UInt8))) then ((f13 z50.2.1).bind fun z54 => ((app? 8 z54 z52.2.1).bind fun z55 => ((f12 z55 p80).bind fun z56 => (some z56)))) else (some false)) else (some false)) else (some false)) else (some false)))))))
theorem f5_j1_ok {d : Nat} (hd : 6 ≤ d) (a1 : List Int) (a2 : Int) {r : Bool} {Q : PX → St → Prop} (hQ : ∀ e st', f5_Q r e st' → Q e st') (p79 : Int) (p80 : List Int) (p81 : List UInt8) (hS : f5_j1 a1 a2 p79 p80 p81 = some r) {st : St} (he : keepSt [1, 5, 8] [(136, .id 136)] [] st = f5_j1_J a1 a2 p79 p80 p81) : ZR (lev codes baseL (d - 1)) Q c5_1 [] st := by
  refine zrKeep he ?_
  unfold f5_j1 at hS
  refine zrSeq ?_
  refine zrReg ?_
  refine zlRun (n := 2) (j := 2) rfl (by kernel_rfl) ?_
  refine bindE hS (fun z49 hz49 hS => ?_)
  refine zlOp (d := some 44) (op := (.slStr (.tmp 42) .none (.some (.tmp 43)))) (g := none) (v := (.d (.str z49))) (ups := []) (j := 3) rfl (by kernel_rfl) (by kernel_rfl) (ev_slStr (s := p81) (a := 0) (c := p79) (by kernel_rfl) (bnd_n 0) (bnd_s _ (kk := .i64) (j := p79) (by kernel_rfl)) hz49) ?_
  refine bindE hS (fun z50 hz50 hS => ?_)
  refine zlOp (d := some 45) (op := (.call 7 [(.const (.string ⟨#[]⟩)), (.tmp 44)])) (g := none) (v := (.tup [(.d (.str z50.1)), (.r (.msl 368 1 0 z50.2.1.length)), (.d (.int .i64 z50.2.2))])) (ups := [(368, ⟨1, some (.own 3 1 ((eInt .i64).cells z50.2.1))⟩)]) (j := 4) rfl (by kernel_rfl) (by kernel_rfl) (ev_call (args := [(.d (.str ([]))), (.d (.str z49))]) (l := [(.d (.str ([]))), (.d (.str z49))]) (r := (.tup [(.d (.str z50.1)), (.r (.own 0 3 1 z50.2.1.length ((eInt .i64).cells z50.2.1))), (.d (.int .i64 z50.2.2))])) (by kernel_rfl) (by kernel_rfl) (f7_ok (d - 1) (dpt hd rfl) [] z49 z50 hz50) (by kernel_rfl) (by kernel_rfl) (by kernel_rfl)) ?_
  refine zlRun (n := 7) (j := 11) rfl (by kernel_rfl) ?_
  refine zlEnd (by kernel_rfl) ?_
  refine zkSeq ?_
  refine zrSeq ?_
  refine zrReg ?_
  refine zlRun (n := 3) (j := 3) rfl (by kernel_rfl) ?_
  refine bindE hS (fun z51 hz51 hS => ?_)
  refine zlOp (d := some 53) (op := (.slStr (.tmp 51) (.some (.tmp 52)) .none)) (g := none) (v := (.d (.str z51))) (ups := []) (j := 4) rfl (by kernel_rfl) (by kernel_rfl) (ev_slStr (s := p81) (a := p79) (c := (p81.length : Int)) (by kernel_rfl) (bnd_s _ (kk := .i64) (j := p79) (by kernel_rfl)) (bnd_n _) hz51) ?_
  refine bindE hS (fun z52 hz52 hS => ?_)
  refine zlOp (d := some 54) (op := (.call 7 [(.tmp 50), (.tmp 53)])) (g := none) (v := (.tup [(.d (.str z52.1)), (.r (.msl 440 1 0 z52.2.1.length)), (.d (.int .i64 z52.2.2))])) (ups := [(440, ⟨1, some (.own 3 1 ((eInt .i64).cells z52.2.1))⟩)]) (j := 5) rfl (by kernel_rfl) (by kernel_rfl) (ev_call (args := [(.d (.str z50.1)), (.d (.str z51))]) (l := [(.d (.str z50.1)), (.d (.str z51))]) (r := (.tup [(.d (.str z52.1)), (.r (.own 0 3 1 z52.2.1.length ((eInt .i64).cells z52.2.1))), (.d (.int .i64 z52.2.2))])) (by kernel_rfl) (by kernel_rfl) (f7_ok (d - 1) (dpt hd rfl) z50.1 z51 z52 hz52) (by kernel_rfl) (by kernel_rfl) (by kernel_rfl)) ?_
  refine zlRun (n := 7) (j := 12) rfl (by kernel_rfl) ?_
  refine zlEnd (by kernel_rfl) ?_
  refine zkSeq ?_
  refine zrSeq ?_
  refine zrReg ?_
  refine bindE hS (fun z53 hz53 hS => ?_)
  refine zlOp (d := some 58) (op := (.call 8 [])) (g := none) (v := (.d (.bool z53))) (ups := []) (j := 1) rfl (by kernel_rfl) (by kernel_rfl) (ev_call (args := []) (l := []) (r := (.d (.bool z53))) (by kernel_rfl) (by kernel_rfl) (f8_ok (d - 1) (dpt hd rfl)  z53 hz53) (by kernel_rfl) (by kernel_rfl) (by kernel_rfl)) ?_
  refine zlRun (n := 1) (j := 2) rfl (by kernel_rfl) ?_
  refine zlSplit 59 z53 (by kernel_rfl) (fun hc => ?_) (fun hc => ?_)
  · replace hS := cond_t hc hS
    refine zlRun (n := 1) (j := 3) rfl (by kernel_rfl) ?_
    refine zlBool (d := 61) (op := (.cmpI .eql (.tmp 60) (.const (.int .i64 0)))) (g := (some (59, true))) (j := 4) (decide (z50.2.2 = 0)) rfl (by kernel_rfl) (by kernel_rfl) (by kernel_rfl) (fun hc => ?_) (fun hc => ?_)
    · replace hS := cond_t hc hS
      refine zlRun (n := 3) (j := 7) rfl (by kernel_rfl) ?_
      refine zlBool (d := 65) (op := (.cmpI .eql (.tmp 64) (.const (.int .i64 0)))) (g := (some (63, true))) (j := 8) (decide (z52.2.2 = 0)) rfl (by kernel_rfl) (by kernel_rfl) (by kernel_rfl) (fun hc => ?_) (fun hc => ?_)
      · replace hS := cond_t hc hS
        refine zlRun (n := 3) (j := 11) rfl (by kernel_rfl) ?_
        refine zlBool (d := 69) (op := (.strO .eql (.tmp 68) (.const (.string ⟨#[]⟩)))) (g := (some (67, true))) (j := 12) (decide (z52.1 = ([] : List UInt8))) rfl (by kernel_rfl) (by kernel_rfl) (by kernel_rfl) (fun hc => ?_) (fun hc => ?_)
        · replace hS := cond_t hc hS
          refine zlRun (n := 3) (j := 15) rfl (by kernel_rfl) ?_
          refine bindE hS (fun z54 hz54 hS => ?_)
          refine zlOp (d := some 73) (op := (.call 13 [(.tmp 72)])) (g := (some (71, true))) (v := (.r (.msl 592 1 0 z54.length))) (ups := [(592, ⟨1, some (.own 3 1 ((eInt .i64).cells z54))⟩)]) (j := 16) rfl (by kernel_rfl) (by kernel_rfl) (ev_call (args := [(.r (.msl 368 1 0 z50.2.1.length))]) (l := [(.d (.sl z50.2.1.length ((eInt .i64).cells z50.2.1)))]) (r := (.r (.own 0 3 1 z54.length ((eInt .i64).cells z54)))) (by kernel_rfl) (l_cons (l_own (eInt .i64) (e := 3) (k := 1) (xs := z50.2.1) (by kernel_rfl) rfl rfl) l_nil) (f13_ok (d - 1) (dpt hd rfl) z50.2.1 z54 hz54) (by simp only [free_own (eInt .i64) (fun _ => rfl), free_tup, free_agg, free_nl, free_cs, free_int, free_bool, free_str, free_un, free_ni, free_s0, Bool.and_true, Bool.or_true, Bool.and_self]) (by kernel_rfl) (by kernel_rfl)) ?_
          refine zlRun (n := 1) (j := 17) rfl (by kernel_rfl) ?_
          refine bindE hS (fun z55 hz55 hS => ?_)
          refine zlOp (d := some 75) (op := (.app 3 1 8 (.tmp 73) (.tmp 74))) (g := (some (71, true))) (v := (.r (.msl 592 2 0 z55.length))) (ups := [(592, ⟨2, some (.own 3 1 ((eInt .i64).cells z55))⟩)]) (j := 18) rfl (by kernel_rfl) (by kernel_rfl) (ev_app (eInt .i64) (b := 592) (g := 1) (n := z54.length) (xs := z54) (ys := z52.2.1) ((congrArg (asL _) (by kernel_rfl : ρof _ (.tmp 74) = (.r (.msl 440 1 0 z52.2.1.length)))).trans (as_whole (eInt .i64) (e := 3) (k := 1) (xs := z52.2.1) (by kernel_rfl) rfl rfl)) rfl (by kernel_rfl) rfl (by kernel_rfl) rfl hz55) ?_
          refine zlRun (n := 1) (j := 19) rfl (by kernel_rfl) ?_
          refine bindE hS (fun z56 hz56 hS => ?_)
          refine zlOp (d := some 77) (op := (.call 12 [(.tmp 75), (.tmp 76)])) (g := (some (71, true))) (v := (.d (.bool z56))) (ups := []) (j := 20) rfl (by kernel_rfl) (by kernel_rfl) (ev_call (args := [(.r (.msl 592 2 0 z55.length)), (.r (.msl 136 0 0 p80.length))]) (l := [(.d (.sl z55.length ((eInt .i64).cells z55))), (.d (.sl p80.length ((eInt .i64).cells p80)))]) (r := (.d (.bool z56))) (by kernel_rfl) (l_cons (l_own (eInt .i64) (e := 3) (k := 1) (xs := z55) (by kernel_rfl) rfl rfl) (l_cons (l_own (eInt .i64) (e := 3) (k := 1) (xs := p80) (by kernel_rfl) rfl rfl) l_nil)) (f12_ok (d - 1) (dpt hd rfl) z55 p80 z56 hz56) (by kernel_rfl) (by kernel_rfl) (by kernel_rfl)) ?_
          refine zlRun (n := 2) (j := 22) rfl (by kernel_rfl) ?_
          refine zlEnd (by kernel_rfl) ?_
          refine zkSeq ?_
          refine zrRet ?_
          refine zkNil ?_
          exact endQ hS hQ (fRet ((congrArg (fun s => outR s 0 c5.res) (by kernel_rfl : finSt c5.fin _ = f5_fin z56)).trans (f5_out z56)))
        · replace hS := cond_f hc hS
          refine zlRun (n := 10) (j := 22) rfl (by kernel_rfl) ?_
          refine zlEnd (by kernel_rfl) ?_
          refine zkSeq ?_
          refine zrRet ?_
          refine zkNil ?_
          exact endQ hS hQ (fRet ((congrArg (fun s => outR s 0 c5.res) (by kernel_rfl : finSt c5.fin _ = f5_fin false)).trans (f5_out false)))
      · replace hS := cond_f hc hS
        refine zlRun (n := 14) (j := 22) rfl (by kernel_rfl) ?_
        refine zlEnd (by kernel_rfl) ?_
        refine zkSeq ?_
        refine zrRet ?_
        refine zkNil ?_
        exact endQ hS hQ (fRet ((congrArg (fun s => outR s 0 c5.res) (by kernel_rfl : finSt c5.fin _ = f5_fin false)).trans (f5_out false)))
    · replace hS := cond_f hc hS
      refine zlRun (n := 18) (j := 22) rfl (by kernel_rfl) ?_
      refine zlEnd (by kernel_rfl) ?_
      refine zkSeq ?_
      refine zrRet ?_
      refine zkNil ?_
      exact endQ hS hQ (fRet ((congrArg (fun s => outR s 0 c5.res) (by kernel_rfl : finSt c5.fin _ = f5_fin false)).trans (f5_out false)))
  · replace hS := cond_f hc hS
    refine zlRun (n := 20) (j := 22) rfl (by kernel_rfl) ?_
    refine zlEnd (by kernel_rfl) ?_
    refine zkSeq ?_
    refine zrRet ?_
    refine zkNil ?_
    exact endQ hS hQ (fRet ((congrArg (fun s => outR s 0 c5.res) (by kernel_rfl : finSt c5.fin _ = f5_fin false)).trans (f5_out false)))
def f5_j0_J (a1 : List Int) (a2 : Int) (p70 : List Int) : St := ⟨(up (up (up (fun _ => .un) 5 (.r (.msl 136 0 0 p70.length))) 1 (.d (.int .i64 a2))) 0 (.d (.sl a1.length ((eInt .i64).cells a1)))), (up (hB fun _ => 0) 136 ⟨0, some (.own 3 1 ((eInt .i64).cells p70))⟩)⟩
noncomputable def f5_j0 (a1 : List Int) (a2 : Int) (p70 : List Int) : Option (Bool) := ((f14 a1).bind fun z48 => (bif (decide (a2 < 0)) then (f5_j1 a1 a2 0 p70 z48) else (bif (decide ((z48.length : Int) < a2)) then (f5_j1 a1 a2 0 p70 z48) else (f5_j1 a1 a2 a2 p70 z48))))
theorem f5_j0_ok {d : Nat} (hd : 6 ≤ d) (a1 : List Int) (a2 : Int) {r : Bool} {Q : PX → St → Prop} (hQ : ∀ e st', f5_Q r e st' → Q e st') (p70 : List Int) (hS : f5_j0 a1 a2 p70 = some r) {st : St} (he : keepSt [0, 1, 5] [(136, .id 136)] [] st = f5_j0_J a1 a2 p70) : ZR (lev codes baseL (d - 1)) Q c5_2 [] st := by
  refine zrKeep he ?_
  unfold f5_j0 at hS
  refine zrSeq ?_
  refine zrReg ?_
  refine zlRun (n := 1) (j := 1) rfl (by kernel_rfl) ?_
  refine bindE hS (fun z48 hz48 hS => ?_)
  refine zlOp (d := some 32) (op := (.call 14 [(.tmp 31)])) (g := none) (v := (.d (.str z48))) (ups := []) (j := 2) rfl (by kernel_rfl) (by kernel_rfl) (ev_call (args := [(.d (.sl a1.length ((eInt .i64).cells a1)))]) (l := [(.d (.sl a1.length ((eInt .i64).cells a1)))]) (r := (.d (.str z48))) (by kernel_rfl) (by kernel_rfl) (f14_ok (d - 1) (dpt hd rfl) a1 z48 hz48) (by kernel_rfl) (by kernel_rfl) (by kernel_rfl)) ?_
  refine zlRun (n := 1) (j := 3) rfl (by kernel_rfl) ?_
  refine zlEnd (by kernel_rfl) ?_
  refine zkSeq ?_
  refine zrSeq ?_
  refine zrSeq ?_
  refine zrReg ?_
  refine zlRun (n := 1) (j := 1) rfl (by kernel_rfl) ?_
  refine zlBool (d := 34) (op := (.cmpI .lss (.tmp 33) (.const (.int .i64 0)))) (g := none) (j := 2) (decide (a2 < 0)) rfl (by kernel_rfl) (by kernel_rfl) (by kernel_rfl) (fun hc => ?_) (fun hc => ?_)
  · replace hS := cond_t hc hS
    refine zlRun (n := 6) (j := 8) rfl (by kernel_rfl) ?_
    refine zlEnd (by kernel_rfl) ?_
    refine zkSeq ?_
    refine zrCondT (by kernel_rfl) ?_
    refine zrReg ?_
    refine zlRun (n := 1) (j := 1) rfl (by kernel_rfl) ?_
    refine zlEnd (by kernel_rfl) ?_
    refine zkSeq ?_
    exact f5_j1_ok hd a1 a2 hQ 0 p70 z48 hS (by kernel_rfl)
  · replace hS := cond_f hc hS
    refine zlRun (n := 4) (j := 6) rfl (by kernel_rfl) ?_
    refine zlBool (d := 39) (op := (.cmpI .gtr (.tmp 36) (.tmp 38))) (g := (some (35, false))) (j := 7) (decide ((z48.length : Int) < a2)) rfl (by kernel_rfl) (by kernel_rfl) (by kernel_rfl) (fun hc => ?_) (fun hc => ?_)
    · replace hS := cond_t hc hS
      refine zlRun (n := 1) (j := 8) rfl (by kernel_rfl) ?_
      refine zlEnd (by kernel_rfl) ?_
      refine zkSeq ?_
      refine zrCondT (by kernel_rfl) ?_
      refine zrReg ?_
      refine zlRun (n := 1) (j := 1) rfl (by kernel_rfl) ?_
      refine zlEnd (by kernel_rfl) ?_
      refine zkSeq ?_
      exact f5_j1_ok hd a1 a2 hQ 0 p70 z48 hS (by kernel_rfl)
    · replace hS := cond_f hc hS
      refine zlRun (n := 1) (j := 8) rfl (by kernel_rfl) ?_
      refine zlEnd (by kernel_rfl) ?_
      refine zkSeq ?_
      refine zrCondF (by kernel_rfl) ?_
      refine zrSkip ?_
      refine zkSeq ?_
      exact f5_j1_ok hd a1 a2 hQ a2 p70 z48 hS (by kernel_rfl)
def f5_l2_J (a1 : List Int) (a2 : Int) (x : (List Int) × Int × Int) : St := ⟨(up (up (up (up (up (up (fun _ => .un) 19 (.d (.int .i64 x.2.2))) 18 (.d (.int .i64 x.2.1))) 17 (.r (.msl 136 0 0 x.1.length))) 5 (.r (.msl 136 0 0 x.1.length))) 1 (.d (.int .i64 a2))) 0 (.d (.sl a1.length ((eInt .i64).cells a1)))), (up (hB fun _ => 0) 136 ⟨0, some (.own 3 1 ((eInt .i64).cells x.1))⟩)⟩
def f5_l2_H (a1 : List Int) (a2 : Int) (x : (List Int) × Int × Int) (st : St) : Prop := keepSt [0, 1, 5, 17, 18, 19] [(136, .id 136)] [] st = f5_l2_J a1 a2 x
def f5_l2_e0_J (a1 : List Int) (a2 : Int) (p69 : List Int) : St := ⟨(up (up (up (fun _ => .un) 5 (.r (.msl 136 0 0 p69.length))) 1 (.d (.int .i64 a2))) 0 (.d (.sl a1.length ((eInt .i64).cells a1)))), (up (hB fun _ => 0) 136 ⟨0, some (.own 3 1 ((eInt .i64).cells p69))⟩)⟩
def f5_l2_X (a1 : List Int) (a2 : Int) (z : ((List Int))) (e : PX) (st : St) : Prop := e = .exit 0 ∧ st = f5_l2_e0_J a1 a2 z
def f5_l2_j4_J (a1 : List Int) (a2 : Int) (p90 : List Int) (p91 : Int) (p92 : Int) : St := ⟨(up (up (up (up (up (up (fun _ => .un) 19 (.d (.int .i64 p92))) 18 (.d (.int .i64 p91))) 17 (.r (.msl 136 0 0 p90.length))) 5 (.r (.msl 136 0 0 p90.length))) 1 (.d (.int .i64 a2))) 0 (.d (.sl a1.length ((eInt .i64).cells a1)))), (up (hB fun _ => 0) 136 ⟨0, some (.own 3 1 ((eInt .i64).cells p90))⟩)⟩
noncomputable def f5_l2_j4 (a1 : List Int) (a2 : Int) (p90 : List Int) (p91 : Int) (p92 : Int) : Option (((List Int) × Int × Int) ⊕ (((List Int)))) := ((inR p92 p90.length).bind fun m57 => ((p90[m57]?).bind fun z58 => ((f10 z58).bind fun z59 => (bif (!z59) then ((inR p92 p90.length).bind fun m60 => ((p90[m60]?).bind fun z61 => ((some (p90.set m60 65533)).bind fun z62 => (some (.inl (z62, p91, (IntKind.i64.wrap (p92 + 1)))))))) else (some (.inl (p90, p91, (IntKind.i64.wrap (p92 + 1)))))))))
theorem f5_l2_j4_ok {d : Nat} (hd : 6 ≤ d) (a1 : List Int) (a2 : Int) {r : ((List Int) × Int × Int) ⊕ (((List Int)))} {Q : PX → St → Prop} (hQ : ∀ e st', finL (f5_l2_H a1 a2) (f5_l2_X a1 a2) r e st' → Q e st') (p90 : List Int) (p91 : Int) (p92 : Int) (hS : f5_l2_j4 a1 a2 p90 p91 p92 = some r) {st : St} (he : keepSt [0, 1, 5, 17, 18, 19] [(136, .id 136)] [] st = f5_l2_j4_J a1 a2 p90 p91 p92) : ZR (lev codes baseL (d - 1)) Q c5_3 [] st := by
  refine zrKeep he ?_
  unfold f5_l2_j4 at hS
  refine zrSeq ?_
  refine zrBlk ?_
  refine zrSeq ?_
  refine zrReg ?_
  refine zlRun (n := 1) (j := 1) rfl (by kernel_rfl) ?_
  refine bindE hS (fun m57 hm57 hS => ?_)
  refine zlOp (d := some 22) (op := (.ixS 3 1 (.tmp 17) (.tmp 19))) (g := none) (v := (.r (.ptr 136 0 ((0 + m57) * 1)))) (ups := []) (j := 2) rfl (by kernel_rfl) (by kernel_rfl) (ev_ixM (kk := .i64) (b := 136) (g := 0) (l := 0) (n := p90.length) (j := p92) (cs := (eInt .i64).cells p90) (by kernel_rfl) (by kernel_rfl) (by kernel_rfl) hm57) ?_
  refine bindE hS (fun z58 hz58 hS => ?_)
  refine zlOp (d := some 23) (op := (.load .false 1 (.tmp 22))) (g := none) (v := (.d (.int .i64 z58))) (ups := []) (j := 3) rfl (by kernel_rfl) (by kernel_rfl) (ev_loadM (eInt .i64) (b := 136) (g := 0) (o := (0 + m57) * 1) (e := 3) (k := 1) (m := m57) (fo := 0) (xs := p90) (by kernel_rfl) (by kernel_rfl) (by rw [Nat.zero_add]; rfl) hz58 (by kernel_rfl) (by kernel_rfl) (by kernel_rfl)) ?_
  refine zlRun (n := 2) (j := 5) rfl (by kernel_rfl) ?_
  refine zlEnd (by kernel_rfl) ?_
  refine zkSeq ?_
  refine zrSeq ?_
  refine zrReg ?_
  refine zlRun (n := 1) (j := 1) rfl (by kernel_rfl) ?_
  refine bindE hS (fun z59 hz59 hS => ?_)
  refine zlOp (d := some 25) (op := (.call 10 [(.tmp 24)])) (g := none) (v := (.d (.bool z59))) (ups := []) (j := 2) rfl (by kernel_rfl) (by kernel_rfl) (ev_call (args := [(.d (.int .i64 z58))]) (l := [(.d (.int .i64 z58))]) (r := (.d (.bool z59))) (by kernel_rfl) (by kernel_rfl) (f10_ok (d - 1) (dpt hd rfl) z58 z59 hz59) (by kernel_rfl) (by kernel_rfl) (by kernel_rfl)) ?_
  refine zlRun (n := 1) (j := 3) rfl (by kernel_rfl) ?_
  refine zlEnd (by kernel_rfl) ?_
  refine zkSeq ?_
  refine zrSplit 26 (!z59) (by kernel_rfl) (fun hc => ?_) (fun hc => ?_)
  · replace hS := cond_t hc hS
    refine zrCondT (by kernel_rfl) ?_
    refine zrReg ?_
    refine zlRun (n := 2) (j := 2) rfl (by kernel_rfl) ?_
    refine bindE hS (fun m60 hm60 hS => ?_)
    refine zlOp (d := some 29) (op := (.ixS 3 1 (.tmp 27) (.tmp 28))) (g := none) (v := (.r (.ptr 136 0 ((0 + m60) * 1)))) (ups := []) (j := 3) rfl (by kernel_rfl) (by kernel_rfl) (ev_ixM (kk := .i64) (b := 136) (g := 0) (l := 0) (n := p90.length) (j := p92) (cs := (eInt .i64).cells p90) (by kernel_rfl) (by kernel_rfl) (by kernel_rfl) hm60) ?_
    refine bindE hS (fun z61 hz61 hS => ?_)
    refine bindE hS (fun z62 hz62 hS => ?_)
    refine zlOp (d := none) (op := (.store 1 (.tmp 29) (.const (.int .i64 65533)))) (g := none) (v := .un) (ups := [(136, ⟨0, some (.own 3 1 ((eInt .i64).cells (p90.set m60 65533)))⟩)]) (j := 4) rfl (by kernel_rfl) (by kernel_rfl) (ev_storeM (eInt .i64) (b := 136) (g := 0) (o := (0 + m60) * 1) (e := 3) (k := 1) (m := m60) (fo := 0) (xs := p90) (z := z61) (z' := 65533) (by kernel_rfl) (new := ((.d (.int .i64 65533)) :: [])) (ds := [.int .i64 65533]) (by kernel_rfl) (by kernel_rfl) (by kernel_rfl) (by rw [Nat.zero_add]; rfl) hz61 (by kernel_rfl) (by kernel_rfl) (by kernel_rfl)) ?_
    have ez62 := Option.some.inj hz62
    have lz62 : p90.length = z62.length := by rw [← ez62, List.length_set]
    rw [ez62]
    try delta f5_l2_j4_J
    try rw [lz62]
    refine zlEnd (by kernel_rfl) ?_
    refine zkBlk ?_
    refine zkSeq ?_
    refine zrReg ?_
    refine zlRun (n := 2) (j := 2) rfl (by kernel_rfl) ?_
    refine zlEnd (by kernel_rfl) ?_
    refine zkNil ?_
    exact endQ hS hQ (finL_n (by show keepSt _ _ _ _ = _; kernel_rfl))
  · replace hS := cond_f hc hS
    refine zrCondF (by kernel_rfl) ?_
    refine zrSkip ?_
    refine zkBlk ?_
    refine zkSeq ?_
    refine zrReg ?_
    refine zlRun (n := 2) (j := 2) rfl (by kernel_rfl) ?_
    refine zlEnd (by kernel_rfl) ?_
    refine zkNil ?_
    exact endQ hS hQ (finL_n (by show keepSt _ _ _ _ = _; kernel_rfl))
def f5_l2_j3_J (a1 : List Int) (a2 : Int) (p86 : List Int) (p87 : Int) (p88 : Int) (p89 : Bool) : St := ⟨(up (up (up (up (up (up (up (fun _ => .un) 20 (.d (.bool p89))) 19 (.d (.int .i64 p88))) 18 (.d (.int .i64 p87))) 17 (.r (.msl 136 0 0 p86.length))) 5 (.r (.msl 136 0 0 p86.length))) 1 (.d (.int .i64 a2))) 0 (.d (.sl a1.length ((eInt .i64).cells a1)))), (up (hB fun _ => 0) 136 ⟨0, some (.own 3 1 ((eInt .i64).cells p86))⟩)⟩
noncomputable def f5_l2_j3 (a1 : List Int) (a2 : Int) (p86 : List Int) (p87 : Int) (p88 : Int) (p89 : Bool) : Option (((List Int) × Int × Int) ⊕ (((List Int)))) := (bif p89 then (f5_l2_j4 a1 a2 p86 p87 p88) else (some (.inr p86)))
theorem f5_l2_j3_ok {d : Nat} (hd : 6 ≤ d) (a1 : List Int) (a2 : Int) {r : ((List Int) × Int × Int) ⊕ (((List Int)))} {Q : PX → St → Prop} (hQ : ∀ e st', finL (f5_l2_H a1 a2) (f5_l2_X a1 a2) r e st' → Q e st') (p86 : List Int) (p87 : Int) (p88 : Int) (p89 : Bool) (hS : f5_l2_j3 a1 a2 p86 p87 p88 p89 = some r) {st : St} (he : keepSt [0, 1, 5, 17, 18, 19, 20] [(136, .id 136)] [] st = f5_l2_j3_J a1 a2 p86 p87 p88 p89) : ZR (lev codes baseL (d - 1)) Q c5_4 [] st := by
  refine zrKeep he ?_
  unfold f5_l2_j3 at hS
  refine zrSeq ?_
  refine zrSplit 20 p89 (by kernel_rfl) (fun hc => ?_) (fun hc => ?_)
  · replace hS := cond_t hc hS
    refine zrCondT (by kernel_rfl) ?_
    refine zrSkip ?_
    refine zkSeq ?_
    exact f5_l2_j4_ok hd a1 a2 hQ p86 p87 p88 hS (by kernel_rfl)
  · replace hS := cond_f hc hS
    refine zrCondF (by kernel_rfl) ?_
    refine zrKeep (J := f5_l2_e0_J a1 a2 p86) (by kernel_rfl) ?_
    refine zrExit ?_
    refine zkSeqX ?_
    refine zkNil ?_
    exact endQ hS hQ (finL_x (by intro h; cases h) (by show _ = _ ∧ _ = _; exact ⟨rfl, rfl⟩))
noncomputable def f5_l2 (a1 : List Int) (a2 : Int) (x : (List Int) × Int × Int) : Option (((List Int) × Int × Int) ⊕ (((List Int)))) := (bif (decide (x.2.2 < x.2.1)) then (f5_l2_j3 a1 a2 x.1 x.2.1 x.2.2 true) else (f5_l2_j3 a1 a2 x.1 x.2.1 x.2.2 false))
theorem f5_l2_ok {d : Nat} (hd : 6 ≤ d) (a1 : List Int) (a2 : Int) {r : ((List Int) × Int × Int) ⊕ (((List Int)))} {Q : PX → St → Prop} (hQ : ∀ e st', finL (f5_l2_H a1 a2) (f5_l2_X a1 a2) r e st' → Q e st') {x : (List Int) × Int × Int} (hS : f5_l2 a1 a2 x = some r) {st : St} (he : f5_l2_H a1 a2 x st) : ZR (lev codes baseL (d - 1)) Q c5_5 [] st := by
  refine zrKeep he ?_
  unfold f5_l2 at hS
  refine zrSeq ?_
  refine zrReg ?_
  refine zlBool (d := 20) (op := (.cmpI .lss (.tmp 19) (.tmp 18))) (g := none) (j := 1) (decide (x.2.2 < x.2.1)) rfl (by kernel_rfl) (by kernel_rfl) (by kernel_rfl) (fun hc => ?_) (fun hc => ?_)
  · replace hS := cond_t hc hS
    refine zlEnd (by kernel_rfl) ?_
    refine zkSeq ?_
    exact f5_l2_j3_ok hd a1 a2 hQ x.1 x.2.1 x.2.2 true hS (by kernel_rfl)
  · replace hS := cond_f hc hS
    refine zlEnd (by kernel_rfl) ?_
    refine zkSeq ?_
    exact f5_l2_j3_ok hd a1 a2 hQ x.1 x.2.1 x.2.2 false hS (by kernel_rfl)
noncomputable def f5 (a1 : List Int) (a2 : Int) : Option (Bool) := ((f13 a1).bind fun z29 => ((loopO (f5_l2 a1 a2) (z29, (z29.length : Int), 0)).bind fun z63 => (f5_j0 a1 a2 z63)))
theorem f5_ok (d : Nat) (hd : 6 ≤ d) (a1 : List Int) (a2 : Int) (r : Bool) (hS : f5 a1 a2 = some r) : lev codes baseL d 5 [(.d (.sl a1.length ((eInt .i64).cells a1))), (.d (.int .i64 a2))] [] = some ((.d (.bool r)), []) := by
  refine lev_go codes5 rfl rfl (Nat.le_trans (Nat.le_of_ble_eq_true rfl) hd) fun Q hQ => ?_
  unfold f5 at hS
  show ZR _ Q c5_b [] _
  replace hQ : ∀ e st', f5_Q r e st' → Q e st' := hQ
  refine zrSeq ?_
  refine zrReg ?_
  refine zlRun (n := 1) (j := 1) rfl (by kernel_rfl) ?_
  refine zlEnd (by kernel_rfl) ?_
  refine zkSeq ?_
  refine zrSeq ?_
  refine zrReg ?_
  refine zlRun (n := 1) (j := 1) rfl (by kernel_rfl) ?_
  refine bindE hS (fun z29 hz29 hS => ?_)
  refine zlOp (d := some 16) (op := (.call 13 [(.tmp 15)])) (g := none) (v := (.r (.msl 136 1 0 z29.length))) (ups := [(136, ⟨1, some (.own 3 1 ((eInt .i64).cells z29))⟩)]) (j := 2) rfl (by kernel_rfl) (by kernel_rfl) (ev_call (args := [(.d (.sl a1.length ((eInt .i64).cells a1)))]) (l := [(.d (.sl a1.length ((eInt .i64).cells a1)))]) (r := (.r (.own 0 3 1 z29.length ((eInt .i64).cells z29)))) (by kernel_rfl) (by kernel_rfl) (f13_ok (d - 1) (dpt hd rfl) a1 z29 hz29) (by kernel_rfl) (by kernel_rfl) (by kernel_rfl)) ?_
  refine zlRun (n := 1) (j := 3) rfl (by kernel_rfl) ?_
  refine zlEnd (by kernel_rfl) ?_
  refine zkSeq ?_
  refine zrSeq ?_
  refine zrSeq ?_
  refine zrReg ?_
  refine zlRun (n := 3) (j := 3) rfl (by kernel_rfl) ?_
  refine zlEnd (by kernel_rfl) ?_
  refine zkSeq ?_
  refine zrBlk ?_
  refine bindE hS (fun z63 hz63 hS => ?_)
  refine zrLoop (f5_l2_H a1 a2) (f5_l2_X a1 a2) (fun x st r Q h0 hS hQ => f5_l2_ok hd a1 a2 hQ hS h0) (x := (z29, (z29.length : Int), 0)) (z := z63) (by show keepSt _ _ _ _ = _; kernel_rfl) hz63 ?_
  intro e st' _ hX
  obtain ⟨rfl, rfl⟩ : _ ∧ _ := hX
  refine zkBlkX ?_
  refine zkSeq ?_
  exact f5_j0_ok hd a1 a2 hQ z63 hS (by kernel_rfl)
end Go.Proofs.YtohecbgpjpfncaaDoor.Pm
