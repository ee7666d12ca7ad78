/- Typed functions, and that the codes are these. Printed by dec.py. -/
import Derived.Test.YtakmihemhmdpkaaDoorDPaD
namespace Go.Proofs.YtakmihemhmdpkaaDoor.Pm
set_option maxRecDepth 1000000
set_option maxHeartbeats 20000000
set_option linter.unusedVariables false
/- (*farwriter/parse.machine).final -/
def f84_fin (p3 : Int) (p4 : List GAct) : St := ⟨(fun _ => .un), (up (up (hB fun _ => 0) 1 ⟨0, some (.own 31 6 (e_GAct.cells p4))⟩) 0 ⟨0, some (.box ((.d (.int .i64 p3)) :: ((.d (.int .i64 0)) :: ((.d (.str ([]))) :: ((.d (.str ([]))) :: ((.d (.str ([]))) :: ((.r (.msl 1 0 0 p4.length)) :: [])))))))⟩)⟩
theorem f84_out (p3 : Int) (p4 : List GAct) : outR (f84_fin p3 p4) 2 c84.res = some ((.tup []), [(.box ((.d (.int .i64 p3)) :: ((.d (.int .i64 0)) :: ((.d (.str ([]))) :: ((.d (.str ([]))) :: ((.d (.str ([]))) :: ((.r (.msl 1 0 0 p4.length)) :: []))))))), (.own 31 6 (e_GAct.cells p4))]) := by
  kernel_rfl
def f84_Q (r : Int × (List GAct)) (e : PX) (st : St) : Prop := DoneF c84 2 ((.tup []), [(.box ((.d (.int .i64 r.1)) :: ((.d (.int .i64 0)) :: ((.d (.str ([]))) :: ((.d (.str ([]))) :: ((.d (.str ([]))) :: ((.r (.msl 1 0 0 r.2.length)) :: []))))))), (.own 31 6 (e_GAct.cells r.2))]) e st
noncomputable def f84 (a1 : GAct) (a2 : Int) (a3 : Int) (a4 : List UInt8) (a5 : List UInt8) (a6 : List UInt8) (a7 : List GAct) : Option (Int × (List GAct)) := (bif (decide ((a4.length : Int) = 3)) then ((f56 (GAct.mk 6 0 0 ([]) ([]) ([])) a2 a3 a4 a5 a6 a7).bind fun z3 => ((f57 0 z3.1 z3.2.1 z3.2.2.1 z3.2.2.2.1 z3.2.2.2.2.1 z3.2.2.2.2.2).bind fun z4 => (some (z4.1, z4.2)))) else ((f56 a1 a2 a3 a4 a5 a6 a7).bind fun z5 => ((f57 0 z5.1 z5.2.1 z5.2.2.1 z5.2.2.2.1 z5.2.2.2.2.1 z5.2.2.2.2.2).bind fun z6 => (some (z6.1, z6.2)))))
theorem f84_ok (d : Nat) (hd : 2 ≤ d) (a1 : GAct) (a2 : Int) (a3 : Int) (a4 : List UInt8) (a5 : List UInt8) (a6 : List UInt8) (a7 : List GAct) (r : Int × (List GAct)) (hS : f84 a1 a2 a3 a4 a5 a6 a7 = some r) : lev codes baseL d 84 [(.r (.ptr 0 0 0)), (.agg ((.d (.int .i64 a1.Kind)) :: ((.d (.int .i64 a1.Code)) :: ((.d (.int .i64 a1.Mark)) :: ((.d (.str a1.Inter)) :: ((.d (.sl a1.Args.length ((eInt .i64).cells a1.Args))) :: ((.d (.str a1.Text)) :: [])))))))] [(.box ((.d (.int .i64 a2)) :: ((.d (.int .i64 a3)) :: ((.d (.str a4)) :: ((.d (.str a5)) :: ((.d (.str a6)) :: ((.r (.msl 1 0 0 a7.length)) :: []))))))), (.own 31 6 (e_GAct.cells a7))] = some ((.tup []), [(.box ((.d (.int .i64 r.1)) :: ((.d (.int .i64 0)) :: ((.d (.str ([]))) :: ((.d (.str ([]))) :: ((.d (.str ([]))) :: ((.r (.msl 1 0 0 r.2.length)) :: []))))))), (.own 31 6 (e_GAct.cells r.2))]) := by
  refine lev_go codes84 rfl rfl (Nat.le_trans (Nat.le_of_ble_eq_true rfl) hd) fun Q hQ => ?_
  unfold f84 at hS
  show ZR _ Q c84_b [] _
  replace hQ : ∀ e st', f84_Q r e st' → Q e st' := hQ
  refine zrSeq ?_
  refine zrReg ?_
  refine zlRun (n := 1) (j := 1) rfl (by kernel_rfl) ?_
  refine zlEnd (by kernel_rfl) ?_
  refine zkSeq ?_
  refine zrSeq ?_
  refine zrSeq ?_
  refine zrReg ?_
  refine zlRun (n := 6) (j := 6) rfl (by kernel_rfl) ?_
  refine zlBool (d := 10) (op := (.cmpI .eql (.tmp 9) (.const (.int .i64 3)))) (g := none) (j := 7) (decide ((a4.length : Int) = 3)) rfl (by kernel_rfl) (by kernel_rfl) (by kernel_rfl) (fun hc => ?_) (fun hc => ?_)
  · replace hS := cond_t hc hS
    refine zlEnd (by kernel_rfl) ?_
    refine zkSeq ?_
    refine zrCondT (by kernel_rfl) ?_
    refine zrReg ?_
    refine zlRun (n := 2) (j := 2) rfl (by kernel_rfl) ?_
    refine zlEnd (by kernel_rfl) ?_
    refine zkSeq ?_
    refine zrSeq ?_
    refine zrReg ?_
    refine zlRun (n := 2) (j := 2) rfl (by kernel_rfl) ?_
    refine bindE hS (fun z3 hz3 hS => ?_)
    refine zlOp (d := some 14) (op := (.callr 56 [(.tmp 12), (.tmp 13)])) (g := none) (v := (.tup [])) (ups := [(0, ⟨0, some (.box ((.d (.int .i64 z3.1)) :: ((.d (.int .i64 z3.2.1)) :: ((.d (.str z3.2.2.1)) :: ((.d (.str z3.2.2.2.1)) :: ((.d (.str z3.2.2.2.2.1)) :: ((.r (.msl 1 1 0 z3.2.2.2.2.2.length)) :: [])))))))⟩), (1, ⟨1, some (.own 31 6 (e_GAct.cells z3.2.2.2.2.2))⟩)]) (j := 3) rfl (by kernel_rfl) (by kernel_rfl) (ev_callr (args := [(.r (.ptr 0 0 0)), (.agg ((.d (.int .i64 6)) :: ((.d (.int .i64 0)) :: ((.d (.int .i64 0)) :: ((.d (.str ([]))) :: ((.d (.sl ([] : List Int).length ((eInt .i64).cells ([])))) :: ((.d (.str ([]))) :: [])))))))]) (ids := [0, 1]) (bs := [(.box ((.d (.int .i64 a2)) :: ((.d (.int .i64 a3)) :: ((.d (.str a4)) :: ((.d (.str a5)) :: ((.d (.str a6)) :: ((.r (.msl 1 0 0 a7.length)) :: []))))))), (.own 31 6 (e_GAct.cells a7))]) (l := [(.r (.ptr 0 0 0)), (.agg ((.d (.int .i64 6)) :: ((.d (.int .i64 0)) :: ((.d (.int .i64 0)) :: ((.d (.str ([]))) :: ((.d (.sl ([] : List Int).length ((eInt .i64).cells ([])))) :: ((.d (.str ([]))) :: [])))))))]) (bt := [(.box ((.d (.int .i64 a2)) :: ((.d (.int .i64 a3)) :: ((.d (.str a4)) :: ((.d (.str a5)) :: ((.d (.str a6)) :: ((.r (.msl 1 0 0 a7.length)) :: []))))))), (.own 31 6 (e_GAct.cells a7))]) (r := (.tup [])) (bs' := [(.box ((.d (.int .i64 z3.1)) :: ((.d (.int .i64 z3.2.1)) :: ((.d (.str z3.2.2.1)) :: ((.d (.str z3.2.2.2.1)) :: ((.d (.str z3.2.2.2.2.1)) :: ((.r (.msl 1 0 0 z3.2.2.2.2.2.length)) :: []))))))), (.own 31 6 (e_GAct.cells z3.2.2.2.2.2))]) (by kernel_rfl) (by kernel_rfl) (by kernel_rfl) (by kernel_rfl) (by kernel_rfl) (f56_ok (d - 1) (dpt hd rfl) (GAct.mk 6 0 0 ([]) ([]) ([])) a2 a3 a4 a5 a6 a7 z3 hz3) (by kernel_rfl) (by kernel_rfl)) ?_
    refine zlEnd (by kernel_rfl) ?_
    refine zkSeq ?_
    refine zrReg ?_
    refine zlRun (n := 1) (j := 1) rfl (by kernel_rfl) ?_
    refine bindE hS (fun z4 hz4 hS => ?_)
    refine zlOp (d := some 16) (op := (.callr 57 [(.tmp 15), (.const (.int .i64 0))])) (g := none) (v := (.tup [])) (ups := [(0, ⟨0, some (.box ((.d (.int .i64 z4.1)) :: ((.d (.int .i64 0)) :: ((.d (.str ([]))) :: ((.d (.str ([]))) :: ((.d (.str ([]))) :: ((.r (.msl 1 2 0 z4.2.length)) :: [])))))))⟩), (1, ⟨2, some (.own 31 6 (e_GAct.cells z4.2))⟩)]) (j := 2) rfl (by kernel_rfl) (by kernel_rfl) (ev_callr (args := [(.r (.ptr 0 0 0)), (.d (.int .i64 0))]) (ids := [0, 1]) (bs := [(.box ((.d (.int .i64 z3.1)) :: ((.d (.int .i64 z3.2.1)) :: ((.d (.str z3.2.2.1)) :: ((.d (.str z3.2.2.2.1)) :: ((.d (.str z3.2.2.2.2.1)) :: ((.r (.msl 1 1 0 z3.2.2.2.2.2.length)) :: []))))))), (.own 31 6 (e_GAct.cells z3.2.2.2.2.2))]) (l := [(.r (.ptr 0 0 0)), (.d (.int .i64 0))]) (bt := [(.box ((.d (.int .i64 z3.1)) :: ((.d (.int .i64 z3.2.1)) :: ((.d (.str z3.2.2.1)) :: ((.d (.str z3.2.2.2.1)) :: ((.d (.str z3.2.2.2.2.1)) :: ((.r (.msl 1 0 0 z3.2.2.2.2.2.length)) :: []))))))), (.own 31 6 (e_GAct.cells z3.2.2.2.2.2))]) (r := (.tup [])) (bs' := [(.box ((.d (.int .i64 z4.1)) :: ((.d (.int .i64 0)) :: ((.d (.str ([]))) :: ((.d (.str ([]))) :: ((.d (.str ([]))) :: ((.r (.msl 1 0 0 z4.2.length)) :: []))))))), (.own 31 6 (e_GAct.cells z4.2))]) (by kernel_rfl) (by kernel_rfl) (by kernel_rfl) (by kernel_rfl) (by kernel_rfl) (f57_ok (d - 1) (dpt hd rfl) 0 z3.1 z3.2.1 z3.2.2.1 z3.2.2.2.1 z3.2.2.2.2.1 z3.2.2.2.2.2 z4 hz4) (by kernel_rfl) (by kernel_rfl)) ?_
    refine zlEnd (by kernel_rfl) ?_
    refine zkNil ?_
    exact endQ hS hQ (fNorm ((congrArg (fun s => outR s 2 c84.res) (by kernel_rfl : finSt c84.fin _ = f84_fin z4.1 z4.2)).trans (f84_out z4.1 z4.2)))
  · replace hS := cond_f hc hS
    refine zlEnd (by kernel_rfl) ?_
    refine zkSeq ?_
    refine zrCondF (by kernel_rfl) ?_
    refine zrSkip ?_
    refine zkSeq ?_
    refine zrSeq ?_
    refine zrReg ?_
    refine zlRun (n := 2) (j := 2) rfl (by kernel_rfl) ?_
    refine bindE hS (fun z5 hz5 hS => ?_)
    refine zlOp (d := some 14) (op := (.callr 56 [(.tmp 12), (.tmp 13)])) (g := none) (v := (.tup [])) (ups := [(0, ⟨0, some (.box ((.d (.int .i64 z5.1)) :: ((.d (.int .i64 z5.2.1)) :: ((.d (.str z5.2.2.1)) :: ((.d (.str z5.2.2.2.1)) :: ((.d (.str z5.2.2.2.2.1)) :: ((.r (.msl 1 1 0 z5.2.2.2.2.2.length)) :: [])))))))⟩), (1, ⟨1, some (.own 31 6 (e_GAct.cells z5.2.2.2.2.2))⟩)]) (j := 3) rfl (by kernel_rfl) (by kernel_rfl) (ev_callr (args := [(.r (.ptr 0 0 0)), (.agg ((.d (.int .i64 a1.Kind)) :: ((.d (.int .i64 a1.Code)) :: ((.d (.int .i64 a1.Mark)) :: ((.d (.str a1.Inter)) :: ((.d (.sl a1.Args.length ((eInt .i64).cells a1.Args))) :: ((.d (.str a1.Text)) :: [])))))))]) (ids := [0, 1]) (bs := [(.box ((.d (.int .i64 a2)) :: ((.d (.int .i64 a3)) :: ((.d (.str a4)) :: ((.d (.str a5)) :: ((.d (.str a6)) :: ((.r (.msl 1 0 0 a7.length)) :: []))))))), (.own 31 6 (e_GAct.cells a7))]) (l := [(.r (.ptr 0 0 0)), (.agg ((.d (.int .i64 a1.Kind)) :: ((.d (.int .i64 a1.Code)) :: ((.d (.int .i64 a1.Mark)) :: ((.d (.str a1.Inter)) :: ((.d (.sl a1.Args.length ((eInt .i64).cells a1.Args))) :: ((.d (.str a1.Text)) :: [])))))))]) (bt := [(.box ((.d (.int .i64 a2)) :: ((.d (.int .i64 a3)) :: ((.d (.str a4)) :: ((.d (.str a5)) :: ((.d (.str a6)) :: ((.r (.msl 1 0 0 a7.length)) :: []))))))), (.own 31 6 (e_GAct.cells a7))]) (r := (.tup [])) (bs' := [(.box ((.d (.int .i64 z5.1)) :: ((.d (.int .i64 z5.2.1)) :: ((.d (.str z5.2.2.1)) :: ((.d (.str z5.2.2.2.1)) :: ((.d (.str z5.2.2.2.2.1)) :: ((.r (.msl 1 0 0 z5.2.2.2.2.2.length)) :: []))))))), (.own 31 6 (e_GAct.cells z5.2.2.2.2.2))]) (by kernel_rfl) (by kernel_rfl) (by kernel_rfl) (by kernel_rfl) (by kernel_rfl) (f56_ok (d - 1) (dpt hd rfl) a1 a2 a3 a4 a5 a6 a7 z5 hz5) (by kernel_rfl) (by kernel_rfl)) ?_
    refine zlEnd (by kernel_rfl) ?_
    refine zkSeq ?_
    refine zrReg ?_
    refine zlRun (n := 1) (j := 1) rfl (by kernel_rfl) ?_
    refine bindE hS (fun z6 hz6 hS => ?_)
    refine zlOp (d := some 16) (op := (.callr 57 [(.tmp 15), (.const (.int .i64 0))])) (g := none) (v := (.tup [])) (ups := [(0, ⟨0, some (.box ((.d (.int .i64 z6.1)) :: ((.d (.int .i64 0)) :: ((.d (.str ([]))) :: ((.d (.str ([]))) :: ((.d (.str ([]))) :: ((.r (.msl 1 2 0 z6.2.length)) :: [])))))))⟩), (1, ⟨2, some (.own 31 6 (e_GAct.cells z6.2))⟩)]) (j := 2) rfl (by kernel_rfl) (by kernel_rfl) (ev_callr (args := [(.r (.ptr 0 0 0)), (.d (.int .i64 0))]) (ids := [0, 1]) (bs := [(.box ((.d (.int .i64 z5.1)) :: ((.d (.int .i64 z5.2.1)) :: ((.d (.str z5.2.2.1)) :: ((.d (.str z5.2.2.2.1)) :: ((.d (.str z5.2.2.2.2.1)) :: ((.r (.msl 1 1 0 z5.2.2.2.2.2.length)) :: []))))))), (.own 31 6 (e_GAct.cells z5.2.2.2.2.2))]) (l := [(.r (.ptr 0 0 0)), (.d (.int .i64 0))]) (bt := [(.box ((.d (.int .i64 z5.1)) :: ((.d (.int .i64 z5.2.1)) :: ((.d (.str z5.2.2.1)) :: ((.d (.str z5.2.2.2.1)) :: ((.d (.str z5.2.2.2.2.1)) :: ((.r (.msl 1 0 0 z5.2.2.2.2.2.length)) :: []))))))), (.own 31 6 (e_GAct.cells z5.2.2.2.2.2))]) (r := (.tup [])) (bs' := [(.box ((.d (.int .i64 z6.1)) :: ((.d (.int .i64 0)) :: ((.d (.str ([]))) :: ((.d (.str ([]))) :: ((.d (.str ([]))) :: ((.r (.msl 1 0 0 z6.2.length)) :: []))))))), (.own 31 6 (e_GAct.cells z6.2))]) (by kernel_rfl) (by kernel_rfl) (by kernel_rfl) (by kernel_rfl) (by kernel_rfl) (f57_ok (d - 1) (dpt hd rfl) 0 z5.1 z5.2.1 z5.2.2.1 z5.2.2.2.1 z5.2.2.2.2.1 z5.2.2.2.2.2 z6 hz6) (by kernel_rfl) (by kernel_rfl)) ?_
    refine zlEnd (by kernel_rfl) ?_
    refine zkNil ?_
    exact endQ hS hQ (fNorm ((congrArg (fun s => outR s 2 c84.res) (by kernel_rfl : finSt c84.fin _ = f84_fin z6.1 z6.2)).trans (f84_out z6.1 z6.2)))
/- strings.IndexByte -/
theorem libIndexByte_ok (d : Nat) (hd : 0 ≤ d) (a1 : List UInt8) (a2 : UInt8) (r : Int) (hS : libIndexByte a1 a2 = some r) : lev codes baseL d 36 [(.d (.str a1)), (.d (.int .u8 (a2.toNat : Int)))] [] = some ((.d (.int .i64 r)), []) := lib_call (l := libs) rfl rfl rfl (osuI_ hS) d
/- (*farwriter/parse.machine).esc -/
def f60_fin (p6 : Int) (p7 : Int) (p8 : List UInt8) (p9 : List UInt8) (p10 : List UInt8) (p11 : List GAct) : St := ⟨(fun _ => .un), (up (up (hB fun _ => 0) 1 ⟨0, some (.own 31 6 (e_GAct.cells p11))⟩) 0 ⟨0, some (.box ((.d (.int .i64 p6)) :: ((.d (.int .i64 p7)) :: ((.d (.str p8)) :: ((.d (.str p9)) :: ((.d (.str p10)) :: ((.r (.msl 1 0 0 p11.length)) :: [])))))))⟩)⟩
theorem f60_out (p6 : Int) (p7 : Int) (p8 : List UInt8) (p9 : List UInt8) (p10 : List UInt8) (p11 : List GAct) : outR (f60_fin p6 p7 p8 p9 p10 p11) 2 c60.res = some ((.tup []), [(.box ((.d (.int .i64 p6)) :: ((.d (.int .i64 p7)) :: ((.d (.str p8)) :: ((.d (.str p9)) :: ((.d (.str p10)) :: ((.r (.msl 1 0 0 p11.length)) :: []))))))), (.own 31 6 (e_GAct.cells p11))]) := by
  kernel_rfl
def f60_Q (r : Int × Int × (List UInt8) × (List UInt8) × (List UInt8) × (List GAct)) (e : PX) (st : St) : Prop := DoneF c60 2 ((.tup []), [(.box ((.d (.int .i64 r.1)) :: ((.d (.int .i64 r.2.1)) :: ((.d (.str r.2.2.1)) :: ((.d (.str r.2.2.2.1)) :: ((.d (.str r.2.2.2.2.1)) :: ((.r (.msl 1 0 0 r.2.2.2.2.2.length)) :: []))))))), (.own 31 6 (e_GAct.cells r.2.2.2.2.2))]) e st
noncomputable def f60 (a1 : Int) (a2 : Int) (a3 : Int) (a4 : List UInt8) (a5 : List UInt8) (a6 : List UInt8) (a7 : List GAct) : Option (Int × Int × (List UInt8) × (List UInt8) × (List UInt8) × (List GAct)) := (bif (decide (a1 < 48)) then ((f83 a1 a2 a3 a4 a5 a6 a7).bind fun z5 => (some (2, z5.2.1, z5.2.2.1, z5.2.2.2.1, z5.2.2.2.2.1, z5.2.2.2.2.2))) else (bif (decide (a2 = 2)) then ((f84 (GAct.mk 3 a1 0 a4 ([]) ([])) a2 a3 a4 a5 a6 a7).bind fun z6 => (some (z6.1, 0, [], [], [], z6.2))) else (bif (decide (a1 = 91)) then (some (3, a3, a4, a5, a6, a7)) else (bif (decide (a1 = 93)) then (some (7, a3, a4, a5, a6, a7)) else ((libIndexByte [80, 88, 94, 95] (u8 a1)).bind fun z8 => (bif (decide (0 ≤ z8)) then (some (9, a3, a4, a5, a6, a7)) else ((f84 (GAct.mk 3 a1 0 ([]) ([]) ([])) a2 a3 a4 a5 a6 a7).bind fun z9 => (some (z9.1, 0, [], [], [], z9.2)))))))))
theorem f60_ok (d : Nat) (hd : 3 ≤ d) (a1 : Int) (a2 : Int) (a3 : Int) (a4 : List UInt8) (a5 : List UInt8) (a6 : List UInt8) (a7 : List GAct) (r : Int × Int × (List UInt8) × (List UInt8) × (List UInt8) × (List GAct)) (hS : f60 a1 a2 a3 a4 a5 a6 a7 = some r) : lev codes baseL d 60 [(.r (.ptr 0 0 0)), (.d (.int .i64 a1))] [(.box ((.d (.int .i64 a2)) :: ((.d (.int .i64 a3)) :: ((.d (.str a4)) :: ((.d (.str a5)) :: ((.d (.str a6)) :: ((.r (.msl 1 0 0 a7.length)) :: []))))))), (.own 31 6 (e_GAct.cells a7))] = some ((.tup []), [(.box ((.d (.int .i64 r.1)) :: ((.d (.int .i64 r.2.1)) :: ((.d (.str r.2.2.1)) :: ((.d (.str r.2.2.2.1)) :: ((.d (.str r.2.2.2.2.1)) :: ((.r (.msl 1 0 0 r.2.2.2.2.2.length)) :: []))))))), (.own 31 6 (e_GAct.cells r.2.2.2.2.2))]) := by
  refine lev_go codes60 rfl rfl (Nat.le_trans (Nat.le_of_ble_eq_true rfl) hd) fun Q hQ => ?_
  unfold f60 at hS
  show ZR _ Q c60_b [] _
  replace hQ : ∀ e st', f60_Q r e st' → Q e st' := hQ
  refine zrBlk ?_
  refine zrSeq ?_
  refine zrReg ?_
  refine zlRun (n := 1) (j := 1) rfl (by kernel_rfl) ?_
  refine zlBool (d := 10) (op := (.cmpI .lss (.tmp 9) (.const (.int .i64 48)))) (g := none) (j := 2) (decide (a1 < 48)) rfl (by kernel_rfl) (by kernel_rfl) (by kernel_rfl) (fun hc => ?_) (fun hc => ?_)
  · replace hS := cond_t hc hS
    refine zlRun (n := 1) (j := 3) rfl (by kernel_rfl) ?_
    refine zlEnd (by kernel_rfl) ?_
    refine zkSeq ?_
    refine zrCondT (by kernel_rfl) ?_
    refine zrSeq ?_
    refine zrReg ?_
    refine zlRun (n := 2) (j := 2) rfl (by kernel_rfl) ?_
    refine bindE hS (fun z5 hz5 hS => ?_)
    refine zlOp (d := some 13) (op := (.callr 83 [(.tmp 11), (.tmp 12)])) (g := none) (v := (.tup [])) (ups := [(0, ⟨0, some (.box ((.d (.int .i64 z5.1)) :: ((.d (.int .i64 z5.2.1)) :: ((.d (.str z5.2.2.1)) :: ((.d (.str z5.2.2.2.1)) :: ((.d (.str z5.2.2.2.2.1)) :: ((.r (.msl 1 1 0 z5.2.2.2.2.2.length)) :: [])))))))⟩), (1, ⟨1, some (.own 31 6 (e_GAct.cells z5.2.2.2.2.2))⟩)]) (j := 3) rfl (by kernel_rfl) (by kernel_rfl) (ev_callr (args := [(.r (.ptr 0 0 0)), (.d (.int .i64 a1))]) (ids := [0, 1]) (bs := [(.box ((.d (.int .i64 a2)) :: ((.d (.int .i64 a3)) :: ((.d (.str a4)) :: ((.d (.str a5)) :: ((.d (.str a6)) :: ((.r (.msl 1 0 0 a7.length)) :: []))))))), (.own 31 6 (e_GAct.cells a7))]) (l := [(.r (.ptr 0 0 0)), (.d (.int .i64 a1))]) (bt := [(.box ((.d (.int .i64 a2)) :: ((.d (.int .i64 a3)) :: ((.d (.str a4)) :: ((.d (.str a5)) :: ((.d (.str a6)) :: ((.r (.msl 1 0 0 a7.length)) :: []))))))), (.own 31 6 (e_GAct.cells a7))]) (r := (.tup [])) (bs' := [(.box ((.d (.int .i64 z5.1)) :: ((.d (.int .i64 z5.2.1)) :: ((.d (.str z5.2.2.1)) :: ((.d (.str z5.2.2.2.1)) :: ((.d (.str z5.2.2.2.2.1)) :: ((.r (.msl 1 0 0 z5.2.2.2.2.2.length)) :: []))))))), (.own 31 6 (e_GAct.cells z5.2.2.2.2.2))]) (by kernel_rfl) (by kernel_rfl) (by kernel_rfl) (by kernel_rfl) (by kernel_rfl) (f83_ok (d - 1) (dpt hd rfl) a1 a2 a3 a4 a5 a6 a7 z5 hz5) (by kernel_rfl) (by kernel_rfl)) ?_
    refine zlEnd (by kernel_rfl) ?_
    refine zkSeq ?_
    refine zrReg ?_
    refine zlRun (n := 5) (j := 5) rfl (by kernel_rfl) ?_
    refine zlEnd (by kernel_rfl) ?_
    refine zkBlk ?_
    refine zkNil ?_
    exact endQ hS hQ (fNorm ((congrArg (fun s => outR s 2 c60.res) (by kernel_rfl : finSt c60.fin _ = f60_fin 2 z5.2.1 z5.2.2.1 z5.2.2.2.1 z5.2.2.2.2.1 z5.2.2.2.2.2)).trans (f60_out 2 z5.2.1 z5.2.2.1 z5.2.2.2.1 z5.2.2.2.2.1 z5.2.2.2.2.2)))
  · replace hS := cond_f hc hS
    refine zlRun (n := 1) (j := 3) rfl (by kernel_rfl) ?_
    refine zlEnd (by kernel_rfl) ?_
    refine zkSeq ?_
    refine zrCondF (by kernel_rfl) ?_
    refine zrSeq ?_
    refine zrReg ?_
    refine zlRun (n := 5) (j := 5) rfl (by kernel_rfl) ?_
    refine zlBool (d := 24) (op := (.cmpI .eql (.tmp 23) (.const (.int .i64 2)))) (g := none) (j := 6) (decide (a2 = 2)) rfl (by kernel_rfl) (by kernel_rfl) (by kernel_rfl) (fun hc => ?_) (fun hc => ?_)
    · replace hS := cond_t hc hS
      refine zlRun (n := 1) (j := 7) rfl (by kernel_rfl) ?_
      refine zlEnd (by kernel_rfl) ?_
      refine zkSeq ?_
      refine zrCondT (by kernel_rfl) ?_
      refine zrReg ?_
      refine zlRun (n := 8) (j := 8) rfl (by kernel_rfl) ?_
      refine bindE hS (fun z6 hz6 hS => ?_)
      refine zlOp (d := some 33) (op := (.callr 84 [(.tmp 25), (.tmp 32)])) (g := none) (v := (.tup [])) (ups := [(0, ⟨0, some (.box ((.d (.int .i64 z6.1)) :: ((.d (.int .i64 0)) :: ((.d (.str ([]))) :: ((.d (.str ([]))) :: ((.d (.str ([]))) :: ((.r (.msl 1 1 0 z6.2.length)) :: [])))))))⟩), (1, ⟨1, some (.own 31 6 (e_GAct.cells z6.2))⟩)]) (j := 9) rfl (by kernel_rfl) (by kernel_rfl) (ev_callr (args := [(.r (.ptr 0 0 0)), (.agg ((.d (.int .i64 3)) :: ((.d (.int .i64 a1)) :: ((.d (.int .i64 0)) :: ((.d (.str a4)) :: ((.d (.sl ([] : List Int).length ((eInt .i64).cells ([])))) :: ((.d (.str ([]))) :: [])))))))]) (ids := [0, 1]) (bs := [(.box ((.d (.int .i64 a2)) :: ((.d (.int .i64 a3)) :: ((.d (.str a4)) :: ((.d (.str a5)) :: ((.d (.str a6)) :: ((.r (.msl 1 0 0 a7.length)) :: []))))))), (.own 31 6 (e_GAct.cells a7))]) (l := [(.r (.ptr 0 0 0)), (.agg ((.d (.int .i64 3)) :: ((.d (.int .i64 a1)) :: ((.d (.int .i64 0)) :: ((.d (.str a4)) :: ((.d (.sl ([] : List Int).length ((eInt .i64).cells ([])))) :: ((.d (.str ([]))) :: [])))))))]) (bt := [(.box ((.d (.int .i64 a2)) :: ((.d (.int .i64 a3)) :: ((.d (.str a4)) :: ((.d (.str a5)) :: ((.d (.str a6)) :: ((.r (.msl 1 0 0 a7.length)) :: []))))))), (.own 31 6 (e_GAct.cells a7))]) (r := (.tup [])) (bs' := [(.box ((.d (.int .i64 z6.1)) :: ((.d (.int .i64 0)) :: ((.d (.str ([]))) :: ((.d (.str ([]))) :: ((.d (.str ([]))) :: ((.r (.msl 1 0 0 z6.2.length)) :: []))))))), (.own 31 6 (e_GAct.cells z6.2))]) (by kernel_rfl) (by kernel_rfl) (by kernel_rfl) (by kernel_rfl) (by kernel_rfl) (f84_ok (d - 1) (dpt hd rfl) (GAct.mk 3 a1 0 a4 ([]) ([])) a2 a3 a4 a5 a6 a7 z6 hz6) (by kernel_rfl) (by kernel_rfl)) ?_
      refine zlEnd (by kernel_rfl) ?_
      refine zkBlk ?_
      refine zkNil ?_
      exact endQ hS hQ (fNorm ((congrArg (fun s => outR s 2 c60.res) (by kernel_rfl : finSt c60.fin _ = f60_fin z6.1 0 [] [] [] z6.2)).trans (f60_out z6.1 0 [] [] [] z6.2)))
    · replace hS := cond_f hc hS
      refine zlRun (n := 1) (j := 7) rfl (by kernel_rfl) ?_
      refine zlEnd (by kernel_rfl) ?_
      refine zkSeq ?_
      refine zrCondF (by kernel_rfl) ?_
      refine zrSeq ?_
      refine zrReg ?_
      refine zlRun (n := 1) (j := 1) rfl (by kernel_rfl) ?_
      refine zlBool (d := 36) (op := (.cmpI .eql (.tmp 35) (.const (.int .i64 91)))) (g := none) (j := 2) (decide (a1 = 91)) rfl (by kernel_rfl) (by kernel_rfl) (by kernel_rfl) (fun hc => ?_) (fun hc => ?_)
      · replace hS := cond_t hc hS
        refine zlRun (n := 1) (j := 3) rfl (by kernel_rfl) ?_
        refine zlEnd (by kernel_rfl) ?_
        refine zkSeq ?_
        refine zrCondT (by kernel_rfl) ?_
        refine zrReg ?_
        refine zlRun (n := 5) (j := 5) rfl (by kernel_rfl) ?_
        refine zlEnd (by kernel_rfl) ?_
        refine zkBlk ?_
        refine zkNil ?_
        exact endQ hS hQ (fNorm ((congrArg (fun s => outR s 2 c60.res) (by kernel_rfl : finSt c60.fin _ = f60_fin 3 a3 a4 a5 a6 a7)).trans (f60_out 3 a3 a4 a5 a6 a7)))
      · replace hS := cond_f hc hS
        refine zlRun (n := 1) (j := 3) rfl (by kernel_rfl) ?_
        refine zlEnd (by kernel_rfl) ?_
        refine zkSeq ?_
        refine zrCondF (by kernel_rfl) ?_
        refine zrSeq ?_
        refine zrReg ?_
        refine zlRun (n := 1) (j := 1) rfl (by kernel_rfl) ?_
        refine zlBool (d := 43) (op := (.cmpI .eql (.tmp 42) (.const (.int .i64 93)))) (g := none) (j := 2) (decide (a1 = 93)) rfl (by kernel_rfl) (by kernel_rfl) (by kernel_rfl) (fun hc => ?_) (fun hc => ?_)
        · replace hS := cond_t hc hS
          refine zlRun (n := 1) (j := 3) rfl (by kernel_rfl) ?_
          refine zlEnd (by kernel_rfl) ?_
          refine zkSeq ?_
          refine zrCondT (by kernel_rfl) ?_
          refine zrReg ?_
          refine zlRun (n := 5) (j := 5) rfl (by kernel_rfl) ?_
          refine zlEnd (by kernel_rfl) ?_
          refine zkBlk ?_
          refine zkNil ?_
          exact endQ hS hQ (fNorm ((congrArg (fun s => outR s 2 c60.res) (by kernel_rfl : finSt c60.fin _ = f60_fin 7 a3 a4 a5 a6 a7)).trans (f60_out 7 a3 a4 a5 a6 a7)))
        · replace hS := cond_f hc hS
          refine zlRun (n := 1) (j := 3) rfl (by kernel_rfl) ?_
          refine zlEnd (by kernel_rfl) ?_
          refine zkSeq ?_
          refine zrCondF (by kernel_rfl) ?_
          refine zrSeq ?_
          refine zrReg ?_
          refine zlRun (n := 1) (j := 1) rfl (by kernel_rfl) ?_
          refine zlOp (d := some 50) (op := (.cvI .u8 (.tmp 49))) (g := none) (v := (.d (.int .u8 ((u8 a1).toNat : Int)))) (ups := []) (j := 2) rfl (by kernel_rfl) (by kernel_rfl) (ev_cv (kk := .i64) (a := a1) (by kernel_rfl) (u8_wrap _)) ?_
          refine bindE hS (fun z8 hz8 hS => ?_)
          refine zlOp (d := some 51) (op := (.call 36 [(.const (.string ⟨#[80, 88, 94, 95]⟩)), (.tmp 50)])) (g := none) (v := (.d (.int .i64 z8))) (ups := []) (j := 3) rfl (by kernel_rfl) (by kernel_rfl) (ev_call (args := [(.d (.str ([80, 88, 94, 95]))), (.d (.int .u8 ((u8 a1).toNat : Int)))]) (l := [(.d (.str ([80, 88, 94, 95]))), (.d (.int .u8 ((u8 a1).toNat : Int)))]) (r := (.d (.int .i64 z8))) (by kernel_rfl) (by kernel_rfl) (libIndexByte_ok (d - 1) (dpt hd rfl) [80, 88, 94, 95] (u8 a1) z8 hz8) (by kernel_rfl) (by kernel_rfl) (by kernel_rfl)) ?_
          refine zlBool (d := 52) (op := (.cmpI .geq (.tmp 51) (.const (.int .i64 0)))) (g := none) (j := 4) (decide (0 ≤ z8)) rfl (by kernel_rfl) (by kernel_rfl) (by kernel_rfl) (fun hc => ?_) (fun hc => ?_)
          · replace hS := cond_t hc hS
            refine zlRun (n := 1) (j := 5) rfl (by kernel_rfl) ?_
            refine zlEnd (by kernel_rfl) ?_
            refine zkSeq ?_
            refine zrCondT (by kernel_rfl) ?_
            refine zrReg ?_
            refine zlRun (n := 5) (j := 5) rfl (by kernel_rfl) ?_
            refine zlEnd (by kernel_rfl) ?_
            refine zkBlk ?_
            refine zkNil ?_
            exact endQ hS hQ (fNorm ((congrArg (fun s => outR s 2 c60.res) (by kernel_rfl : finSt c60.fin _ = f60_fin 9 a3 a4 a5 a6 a7)).trans (f60_out 9 a3 a4 a5 a6 a7)))
          · replace hS := cond_f hc hS
            refine zlRun (n := 1) (j := 5) rfl (by kernel_rfl) ?_
            refine zlEnd (by kernel_rfl) ?_
            refine zkSeq ?_
            refine zrCondF (by kernel_rfl) ?_
            refine zrReg ?_
            refine zlRun (n := 3) (j := 3) rfl (by kernel_rfl) ?_
            refine bindE hS (fun z9 hz9 hS => ?_)
            refine zlOp (d := some 7) (op := (.callr 84 [(.tmp 4), (.tmp 6)])) (g := none) (v := (.tup [])) (ups := [(0, ⟨0, some (.box ((.d (.int .i64 z9.1)) :: ((.d (.int .i64 0)) :: ((.d (.str ([]))) :: ((.d (.str ([]))) :: ((.d (.str ([]))) :: ((.r (.msl 1 1 0 z9.2.length)) :: [])))))))⟩), (1, ⟨1, some (.own 31 6 (e_GAct.cells z9.2))⟩)]) (j := 4) rfl (by kernel_rfl) (by kernel_rfl) (ev_callr (args := [(.r (.ptr 0 0 0)), (.agg ((.d (.int .i64 3)) :: ((.d (.int .i64 a1)) :: ((.d (.int .i64 0)) :: ((.d (.str ([]))) :: ((.d (.sl ([] : List Int).length ((eInt .i64).cells ([])))) :: ((.d (.str ([]))) :: [])))))))]) (ids := [0, 1]) (bs := [(.box ((.d (.int .i64 a2)) :: ((.d (.int .i64 a3)) :: ((.d (.str a4)) :: ((.d (.str a5)) :: ((.d (.str a6)) :: ((.r (.msl 1 0 0 a7.length)) :: []))))))), (.own 31 6 (e_GAct.cells a7))]) (l := [(.r (.ptr 0 0 0)), (.agg ((.d (.int .i64 3)) :: ((.d (.int .i64 a1)) :: ((.d (.int .i64 0)) :: ((.d (.str ([]))) :: ((.d (.sl ([] : List Int).length ((eInt .i64).cells ([])))) :: ((.d (.str ([]))) :: [])))))))]) (bt := [(.box ((.d (.int .i64 a2)) :: ((.d (.int .i64 a3)) :: ((.d (.str a4)) :: ((.d (.str a5)) :: ((.d (.str a6)) :: ((.r (.msl 1 0 0 a7.length)) :: []))))))), (.own 31 6 (e_GAct.cells a7))]) (r := (.tup [])) (bs' := [(.box ((.d (.int .i64 z9.1)) :: ((.d (.int .i64 0)) :: ((.d (.str ([]))) :: ((.d (.str ([]))) :: ((.d (.str ([]))) :: ((.r (.msl 1 0 0 z9.2.length)) :: []))))))), (.own 31 6 (e_GAct.cells z9.2))]) (by kernel_rfl) (by kernel_rfl) (by kernel_rfl) (by kernel_rfl) (by kernel_rfl) (f84_ok (d - 1) (dpt hd rfl) (GAct.mk 3 a1 0 ([]) ([]) ([])) a2 a3 a4 a5 a6 a7 z9 hz9) (by kernel_rfl) (by kernel_rfl)) ?_
            refine zlEnd (by kernel_rfl) ?_
            refine zkBlk ?_
            refine zkNil ?_
            exact endQ hS hQ (fNorm ((congrArg (fun s => outR s 2 c60.res) (by kernel_rfl : finSt c60.fin _ = f60_fin z9.1 0 [] [] [] z9.2)).trans (f60_out z9.1 0 [] [] [] z9.2)))
/- (*farwriter/parse.machine).ignore -/
def f85_fin (p1 : List GAct) : St := ⟨(fun _ => .un), (up (up (hB fun _ => 0) 1 ⟨0, some (.own 31 6 (e_GAct.cells p1))⟩) 0 ⟨0, some (.box ((.d (.int .i64 6)) :: ((.d (.int .i64 0)) :: ((.d (.str ([]))) :: ((.d (.str ([]))) :: ((.d (.str ([]))) :: ((.r (.msl 1 0 0 p1.length)) :: [])))))))⟩)⟩
theorem f85_out (p1 : List GAct) : outR (f85_fin p1) 2 c85.res = some ((.tup []), [(.box ((.d (.int .i64 6)) :: ((.d (.int .i64 0)) :: ((.d (.str ([]))) :: ((.d (.str ([]))) :: ((.d (.str ([]))) :: ((.r (.msl 1 0 0 p1.length)) :: []))))))), (.own 31 6 (e_GAct.cells p1))]) := by
  kernel_rfl
def f85_Q (r : (List GAct)) (e : PX) (st : St) : Prop := DoneF c85 2 ((.tup []), [(.box ((.d (.int .i64 6)) :: ((.d (.int .i64 0)) :: ((.d (.str ([]))) :: ((.d (.str ([]))) :: ((.d (.str ([]))) :: ((.r (.msl 1 0 0 r.length)) :: []))))))), (.own 31 6 (e_GAct.cells r))]) e st
noncomputable def f85 (a1 : Int) (a2 : Int) (a3 : List UInt8) (a4 : List UInt8) (a5 : List UInt8) (a6 : List GAct) : Option ((List GAct)) := (some a6)
theorem f85_ok (d : Nat) (hd : 1 ≤ d) (a1 : Int) (a2 : Int) (a3 : List UInt8) (a4 : List UInt8) (a5 : List UInt8) (a6 : List GAct) (r : (List GAct)) (hS : f85 a1 a2 a3 a4 a5 a6 = some r) : lev codes baseL d 85 [(.r (.ptr 0 0 0))] [(.box ((.d (.int .i64 a1)) :: ((.d (.int .i64 a2)) :: ((.d (.str a3)) :: ((.d (.str a4)) :: ((.d (.str a5)) :: ((.r (.msl 1 0 0 a6.length)) :: []))))))), (.own 31 6 (e_GAct.cells a6))] = some ((.tup []), [(.box ((.d (.int .i64 6)) :: ((.d (.int .i64 0)) :: ((.d (.str ([]))) :: ((.d (.str ([]))) :: ((.d (.str ([]))) :: ((.r (.msl 1 0 0 r.length)) :: []))))))), (.own 31 6 (e_GAct.cells r))]) := by
  refine lev_go codes85 rfl rfl (Nat.le_trans (Nat.le_of_ble_eq_true rfl) hd) fun Q hQ => ?_
  unfold f85 at hS
  show ZR _ Q c85_b [] _
  replace hQ : ∀ e st', f85_Q r e st' → Q e st' := hQ
  refine zrReg ?_
  refine zlRun (n := 5) (j := 5) rfl (by kernel_rfl) ?_
  refine zlEnd (by kernel_rfl) ?_
  refine zkNil ?_
  exact endQ hS hQ (fNorm ((congrArg (fun s => outR s 2 c85.res) (by kernel_rfl : finSt c85.fin _ = f85_fin a6)).trans (f85_out a6)))
/- (*farwriter/parse.machine).csi -/
def f61_fin (p11 : Int) (p12 : Int) (p13 : List UInt8) (p14 : List UInt8) (p15 : List UInt8) (p16 : List GAct) : St := ⟨(fun _ => .un), (up (up (hB fun _ => 0) 1 ⟨0, some (.own 31 6 (e_GAct.cells p16))⟩) 0 ⟨0, some (.box ((.d (.int .i64 p11)) :: ((.d (.int .i64 p12)) :: ((.d (.str p13)) :: ((.d (.str p14)) :: ((.d (.str p15)) :: ((.r (.msl 1 0 0 p16.length)) :: [])))))))⟩)⟩
theorem f61_out (p11 : Int) (p12 : Int) (p13 : List UInt8) (p14 : List UInt8) (p15 : List UInt8) (p16 : List GAct) : outR (f61_fin p11 p12 p13 p14 p15 p16) 2 c61.res = some ((.tup []), [(.box ((.d (.int .i64 p11)) :: ((.d (.int .i64 p12)) :: ((.d (.str p13)) :: ((.d (.str p14)) :: ((.d (.str p15)) :: ((.r (.msl 1 0 0 p16.length)) :: []))))))), (.own 31 6 (e_GAct.cells p16))]) := by
  kernel_rfl
def f61_Q (r : Int × Int × (List UInt8) × (List UInt8) × (List UInt8) × (List GAct)) (e : PX) (st : St) : Prop := DoneF c61 2 ((.tup []), [(.box ((.d (.int .i64 r.1)) :: ((.d (.int .i64 r.2.1)) :: ((.d (.str r.2.2.1)) :: ((.d (.str r.2.2.2.1)) :: ((.d (.str r.2.2.2.2.1)) :: ((.r (.msl 1 0 0 r.2.2.2.2.2.length)) :: []))))))), (.own 31 6 (e_GAct.cells r.2.2.2.2.2))]) e st
def f61_j0_J (a1 : Int) (a2 : Int) (a3 : Int) (a4 : List UInt8) (a5 : List UInt8) (a6 : List UInt8) (a7 : List GAct) (p17 : List Int) : St := ⟨(up (up (up (fun _ => .un) 4 (.d (.sl p17.length ((eInt .i64).cells p17)))) 1 (.d (.int .i64 a1))) 0 (.r (.ptr 0 0 0))), (up (up (hB fun _ => 0) 1 ⟨0, some (.own 31 6 (e_GAct.cells a7))⟩) 0 ⟨0, some (.box ((.d (.int .i64 a2)) :: ((.d (.int .i64 a3)) :: ((.d (.str a4)) :: ((.d (.str a5)) :: ((.d (.str a6)) :: ((.r (.msl 1 0 0 a7.length)) :: [])))))))⟩)⟩
noncomputable def f61_j0 (a1 : Int) (a2 : Int) (a3 : Int) (a4 : List UInt8) (a5 : List UInt8) (a6 : List UInt8) (a7 : List GAct) (p17 : List Int) : Option (Int × Int × (List UInt8) × (List UInt8) × (List UInt8) × (List GAct)) := ((f84 (GAct.mk 4 a1 a3 a4 p17 ([])) a2 a3 a4 a5 a6 a7).bind fun z11 => (some (z11.1, 0, [], [], [], z11.2)))
theorem f61_j0_ok {d : Nat} (hd : 3 ≤ d) (a1 : Int) (a2 : Int) (a3 : Int) (a4 : List UInt8) (a5 : List UInt8) (a6 : List UInt8) (a7 : List GAct) {r : Int × Int × (List UInt8) × (List UInt8) × (List UInt8) × (List GAct)} {Q : PX → St → Prop} (hQ : ∀ e st', f61_Q r e st' → Q e st') (p17 : List Int) (hS : f61_j0 a1 a2 a3 a4 a5 a6 a7 p17 = some r) {st : St} (he : keepSt [0, 1, 4] [(0, .id 0), (1, .id 1)] [] st = f61_j0_J a1 a2 a3 a4 a5 a6 a7 p17) : ZR (lev codes baseL (d - 1)) Q c61_1 [.blk 0] st := by
  refine zrKeep he ?_
  unfold f61_j0 at hS
  refine zrRegD ?_
  refine zdRun (n := 14) (j := 14) (ts := [[], [], [], [], [], [], [(0, false)], [], [], [], [], [(0, false)], [], []]) (acc' := [[], [], [], [], [], [], [(0, false)], [], [], [], [], [(0, false)], [], []]) rfl (by kernel_rfl) (by kernel_rfl) (by kernel_rfl) ?_
  refine bindE hS (fun z11 hz11 hS => ?_)
  refine zdOp (d := some 55) (op := (.callr 84 [(.tmp 41), (.tmp 54)])) (g := none) (v := (.tup [])) (ups := [(0, ⟨0, some (.box ((.d (.int .i64 z11.1)) :: ((.d (.int .i64 0)) :: ((.d (.str ([]))) :: ((.d (.str ([]))) :: ((.d (.str ([]))) :: ((.r (.msl 1 1 0 z11.2.length)) :: [])))))))⟩), (1, ⟨1, some (.own 31 6 (e_GAct.cells z11.2))⟩)]) (j := 15) (t1 := [(0, true), (1, true), (0, false), (448, true), (449, true), (450, true), (451, true), (452, true), (453, true), (454, true), (455, true)]) (acc' := [[], [], [], [], [], [], [(0, false)], [], [], [], [], [(0, false)], [], [], [(0, true), (1, true), (0, false), (448, true), (449, true), (450, true), (451, true), (452, true), (453, true), (454, true), (455, true)]]) (by kernel_rfl) (by kernel_rfl) rfl (by kernel_rfl) (by kernel_rfl) (ev_callr (args := [(.r (.ptr 0 0 0)), (.agg ((.d (.int .i64 4)) :: ((.d (.int .i64 a1)) :: ((.d (.int .i64 a3)) :: ((.d (.str a4)) :: ((.d (.sl p17.length ((eInt .i64).cells p17))) :: ((.d (.str ([]))) :: [])))))))]) (ids := [0, 1]) (bs := [(.box ((.d (.int .i64 a2)) :: ((.d (.int .i64 a3)) :: ((.d (.str a4)) :: ((.d (.str a5)) :: ((.d (.str a6)) :: ((.r (.msl 1 0 0 a7.length)) :: []))))))), (.own 31 6 (e_GAct.cells a7))]) (l := [(.r (.ptr 0 0 0)), (.agg ((.d (.int .i64 4)) :: ((.d (.int .i64 a1)) :: ((.d (.int .i64 a3)) :: ((.d (.str a4)) :: ((.d (.sl p17.length ((eInt .i64).cells p17))) :: ((.d (.str ([]))) :: [])))))))]) (bt := [(.box ((.d (.int .i64 a2)) :: ((.d (.int .i64 a3)) :: ((.d (.str a4)) :: ((.d (.str a5)) :: ((.d (.str a6)) :: ((.r (.msl 1 0 0 a7.length)) :: []))))))), (.own 31 6 (e_GAct.cells a7))]) (r := (.tup [])) (bs' := [(.box ((.d (.int .i64 z11.1)) :: ((.d (.int .i64 0)) :: ((.d (.str ([]))) :: ((.d (.str ([]))) :: ((.d (.str ([]))) :: ((.r (.msl 1 0 0 z11.2.length)) :: []))))))), (.own 31 6 (e_GAct.cells z11.2))]) (by kernel_rfl) (by kernel_rfl) (by kernel_rfl) (by kernel_rfl) (by kernel_rfl) (f84_ok (d - 1) (dpt hd rfl) (GAct.mk 4 a1 a3 a4 p17 ([])) a2 a3 a4 a5 a6 a7 z11 hz11) (by kernel_rfl) (by kernel_rfl)) ?_
  refine zdEnd (by kernel_rfl) (by kernel_rfl) ?_
  refine zkBlk ?_
  refine zkNil ?_
  exact endQ hS hQ (fNorm ((congrArg (fun s => outR s 2 c61.res) (by kernel_rfl : finSt c61.fin _ = f61_fin z11.1 0 [] [] [] z11.2)).trans (f61_out z11.1 0 [] [] [] z11.2)))
noncomputable def f61 (a1 : Int) (a2 : Int) (a3 : Int) (a4 : List UInt8) (a5 : List UInt8) (a6 : List UInt8) (a7 : List GAct) : Option (Int × Int × (List UInt8) × (List UInt8) × (List UInt8) × (List GAct)) := (bif (decide (a2 = 6)) then (bif (decide (64 ≤ a1)) then ((f58 0 a2 a3 a4 a5 a6 a7).bind fun z8 => (some (z8.1, 0, [], [], [], z8.2))) else (some (a2, a3, a4, a5, a6, a7))) else (bif (decide (a1 < 48)) then ((f83 a1 a2 a3 a4 a5 a6 a7).bind fun z9 => (some (5, z9.2.1, z9.2.2.1, z9.2.2.2.1, z9.2.2.2.2.1, z9.2.2.2.2.2))) else (bif (decide (64 ≤ a1)) then ((f31 a5).bind fun z10 => (f61_j0 a1 a2 a3 a4 a5 a6 a7 z10.1)) else (bif (decide (a2 = 5)) then ((f85 a2 a3 a4 a5 a6 a7).bind fun z12 => (some (6, 0, [], [], [], z12))) else (bif (decide (a1 = 58)) then ((f85 a2 a3 a4 a5 a6 a7).bind fun z13 => (some (6, 0, [], [], [], z13))) else (bif (decide (a1 < 60)) then (bif (decide ((a5.length : Int) < 100)) then ((cat? a5 ((Utf8.encode (IntKind.i32.wrap (a1))).data.toList)).bind fun z14 => (some (4, a3, a4, z14, a6, a7))) else (some (4, a3, a4, a5, a6, a7))) else (bif (decide (a2 = 3)) then (some (4, a1, a4, a5, a6, a7)) else ((f85 a2 a3 a4 a5 a6 a7).bind fun z15 => (some (6, 0, [], [], [], z15))))))))))
theorem f61_ok (d : Nat) (hd : 3 ≤ d) (a1 : Int) (a2 : Int) (a3 : Int) (a4 : List UInt8) (a5 : List UInt8) (a6 : List UInt8) (a7 : List GAct) (r : Int × Int × (List UInt8) × (List UInt8) × (List UInt8) × (List GAct)) (hS : f61 a1 a2 a3 a4 a5 a6 a7 = some r) : lev codes baseL d 61 [(.r (.ptr 0 0 0)), (.d (.int .i64 a1))] [(.box ((.d (.int .i64 a2)) :: ((.d (.int .i64 a3)) :: ((.d (.str a4)) :: ((.d (.str a5)) :: ((.d (.str a6)) :: ((.r (.msl 1 0 0 a7.length)) :: []))))))), (.own 31 6 (e_GAct.cells a7))] = some ((.tup []), [(.box ((.d (.int .i64 r.1)) :: ((.d (.int .i64 r.2.1)) :: ((.d (.str r.2.2.1)) :: ((.d (.str r.2.2.2.1)) :: ((.d (.str r.2.2.2.2.1)) :: ((.r (.msl 1 0 0 r.2.2.2.2.2.length)) :: []))))))), (.own 31 6 (e_GAct.cells r.2.2.2.2.2))]) := by
  refine lev_go codes61 rfl rfl (Nat.le_trans (Nat.le_of_ble_eq_true rfl) hd) fun Q hQ => ?_
  unfold f61 at hS
  show ZR _ Q c61_b [] _
  replace hQ : ∀ e st', f61_Q r e st' → Q e st' := hQ
  refine zrBlk ?_
  refine zrSeq ?_
  refine zrReg ?_
  refine zlRun (n := 5) (j := 5) rfl (by kernel_rfl) ?_
  refine zlBool (d := 14) (op := (.cmpI .eql (.tmp 13) (.const (.int .i64 6)))) (g := none) (j := 6) (decide (a2 = 6)) rfl (by kernel_rfl) (by kernel_rfl) (by kernel_rfl) (fun hc => ?_) (fun hc => ?_)
  · replace hS := cond_t hc hS
    refine zlRun (n := 1) (j := 7) rfl (by kernel_rfl) ?_
    refine zlEnd (by kernel_rfl) ?_
    refine zkSeq ?_
    refine zrCondT (by kernel_rfl) ?_
    refine zrSeq ?_
    refine zrReg ?_
    refine zlRun (n := 1) (j := 1) rfl (by kernel_rfl) ?_
    refine zlBool (d := 16) (op := (.cmpI .geq (.tmp 15) (.const (.int .i64 64)))) (g := none) (j := 2) (decide (64 ≤ a1)) rfl (by kernel_rfl) (by kernel_rfl) (by kernel_rfl) (fun hc => ?_) (fun hc => ?_)
    · replace hS := cond_t hc hS
      refine zlEnd (by kernel_rfl) ?_
      refine zkSeq ?_
      refine zrCondT (by kernel_rfl) ?_
      refine zrReg ?_
      refine zlRun (n := 1) (j := 1) rfl (by kernel_rfl) ?_
      refine bindE hS (fun z8 hz8 hS => ?_)
      refine zlOp (d := some 18) (op := (.callr 58 [(.tmp 17), (.const (.int .i64 0))])) (g := none) (v := (.tup [])) (ups := [(0, ⟨0, some (.box ((.d (.int .i64 z8.1)) :: ((.d (.int .i64 0)) :: ((.d (.str ([]))) :: ((.d (.str ([]))) :: ((.d (.str ([]))) :: ((.r (.msl 1 1 0 z8.2.length)) :: [])))))))⟩), (1, ⟨1, some (.own 31 6 (e_GAct.cells z8.2))⟩)]) (j := 2) rfl (by kernel_rfl) (by kernel_rfl) (ev_callr (args := [(.r (.ptr 0 0 0)), (.d (.int .i64 0))]) (ids := [0, 1]) (bs := [(.box ((.d (.int .i64 a2)) :: ((.d (.int .i64 a3)) :: ((.d (.str a4)) :: ((.d (.str a5)) :: ((.d (.str a6)) :: ((.r (.msl 1 0 0 a7.length)) :: []))))))), (.own 31 6 (e_GAct.cells a7))]) (l := [(.r (.ptr 0 0 0)), (.d (.int .i64 0))]) (bt := [(.box ((.d (.int .i64 a2)) :: ((.d (.int .i64 a3)) :: ((.d (.str a4)) :: ((.d (.str a5)) :: ((.d (.str a6)) :: ((.r (.msl 1 0 0 a7.length)) :: []))))))), (.own 31 6 (e_GAct.cells a7))]) (r := (.tup [])) (bs' := [(.box ((.d (.int .i64 z8.1)) :: ((.d (.int .i64 0)) :: ((.d (.str ([]))) :: ((.d (.str ([]))) :: ((.d (.str ([]))) :: ((.r (.msl 1 0 0 z8.2.length)) :: []))))))), (.own 31 6 (e_GAct.cells z8.2))]) (by kernel_rfl) (by kernel_rfl) (by kernel_rfl) (by kernel_rfl) (by kernel_rfl) (f58_ok (d - 1) (dpt hd rfl) 0 a2 a3 a4 a5 a6 a7 z8 hz8) (by kernel_rfl) (by kernel_rfl)) ?_
      refine zlEnd (by kernel_rfl) ?_
      refine zkBlk ?_
      refine zkNil ?_
      exact endQ hS hQ (fNorm ((congrArg (fun s => outR s 2 c61.res) (by kernel_rfl : finSt c61.fin _ = f61_fin z8.1 0 [] [] [] z8.2)).trans (f61_out z8.1 0 [] [] [] z8.2)))
    · replace hS := cond_f hc hS
      refine zlEnd (by kernel_rfl) ?_
      refine zkSeq ?_
      refine zrCondF (by kernel_rfl) ?_
      refine zrSkip ?_
      refine zkBlk ?_
      refine zkNil ?_
      exact endQ hS hQ (fNorm ((congrArg (fun s => outR s 2 c61.res) (by kernel_rfl : finSt c61.fin _ = f61_fin a2 a3 a4 a5 a6 a7)).trans (f61_out a2 a3 a4 a5 a6 a7)))
  · replace hS := cond_f hc hS
    refine zlRun (n := 1) (j := 7) rfl (by kernel_rfl) ?_
    refine zlEnd (by kernel_rfl) ?_
    refine zkSeq ?_
    refine zrCondF (by kernel_rfl) ?_
    refine zrSeq ?_
    refine zrReg ?_
    refine zlRun (n := 1) (j := 1) rfl (by kernel_rfl) ?_
    refine zlBool (d := 21) (op := (.cmpI .lss (.tmp 20) (.const (.int .i64 48)))) (g := none) (j := 2) (decide (a1 < 48)) rfl (by kernel_rfl) (by kernel_rfl) (by kernel_rfl) (fun hc => ?_) (fun hc => ?_)
    · replace hS := cond_t hc hS
      refine zlRun (n := 1) (j := 3) rfl (by kernel_rfl) ?_
      refine zlEnd (by kernel_rfl) ?_
      refine zkSeq ?_
      refine zrCondT (by kernel_rfl) ?_
      refine zrSeq ?_
      refine zrReg ?_
      refine zlRun (n := 2) (j := 2) rfl (by kernel_rfl) ?_
      refine bindE hS (fun z9 hz9 hS => ?_)
      refine zlOp (d := some 24) (op := (.callr 83 [(.tmp 22), (.tmp 23)])) (g := none) (v := (.tup [])) (ups := [(0, ⟨0, some (.box ((.d (.int .i64 z9.1)) :: ((.d (.int .i64 z9.2.1)) :: ((.d (.str z9.2.2.1)) :: ((.d (.str z9.2.2.2.1)) :: ((.d (.str z9.2.2.2.2.1)) :: ((.r (.msl 1 1 0 z9.2.2.2.2.2.length)) :: [])))))))⟩), (1, ⟨1, some (.own 31 6 (e_GAct.cells z9.2.2.2.2.2))⟩)]) (j := 3) rfl (by kernel_rfl) (by kernel_rfl) (ev_callr (args := [(.r (.ptr 0 0 0)), (.d (.int .i64 a1))]) (ids := [0, 1]) (bs := [(.box ((.d (.int .i64 a2)) :: ((.d (.int .i64 a3)) :: ((.d (.str a4)) :: ((.d (.str a5)) :: ((.d (.str a6)) :: ((.r (.msl 1 0 0 a7.length)) :: []))))))), (.own 31 6 (e_GAct.cells a7))]) (l := [(.r (.ptr 0 0 0)), (.d (.int .i64 a1))]) (bt := [(.box ((.d (.int .i64 a2)) :: ((.d (.int .i64 a3)) :: ((.d (.str a4)) :: ((.d (.str a5)) :: ((.d (.str a6)) :: ((.r (.msl 1 0 0 a7.length)) :: []))))))), (.own 31 6 (e_GAct.cells a7))]) (r := (.tup [])) (bs' := [(.box ((.d (.int .i64 z9.1)) :: ((.d (.int .i64 z9.2.1)) :: ((.d (.str z9.2.2.1)) :: ((.d (.str z9.2.2.2.1)) :: ((.d (.str z9.2.2.2.2.1)) :: ((.r (.msl 1 0 0 z9.2.2.2.2.2.length)) :: []))))))), (.own 31 6 (e_GAct.cells z9.2.2.2.2.2))]) (by kernel_rfl) (by kernel_rfl) (by kernel_rfl) (by kernel_rfl) (by kernel_rfl) (f83_ok (d - 1) (dpt hd rfl) a1 a2 a3 a4 a5 a6 a7 z9 hz9) (by kernel_rfl) (by kernel_rfl)) ?_
      refine zlEnd (by kernel_rfl) ?_
      refine zkSeq ?_
      refine zrReg ?_
      refine zlRun (n := 5) (j := 5) rfl (by kernel_rfl) ?_
      refine zlEnd (by kernel_rfl) ?_
      refine zkBlk ?_
      refine zkNil ?_
      exact endQ hS hQ (fNorm ((congrArg (fun s => outR s 2 c61.res) (by kernel_rfl : finSt c61.fin _ = f61_fin 5 z9.2.1 z9.2.2.1 z9.2.2.2.1 z9.2.2.2.2.1 z9.2.2.2.2.2)).trans (f61_out 5 z9.2.1 z9.2.2.1 z9.2.2.2.1 z9.2.2.2.2.1 z9.2.2.2.2.2)))
    · replace hS := cond_f hc hS
      refine zlRun (n := 1) (j := 3) rfl (by kernel_rfl) ?_
      refine zlEnd (by kernel_rfl) ?_
      refine zkSeq ?_
      refine zrCondF (by kernel_rfl) ?_
      refine zrSeq ?_
      refine zrReg ?_
      refine zlRun (n := 1) (j := 1) rfl (by kernel_rfl) ?_
      refine zlBool (d := 31) (op := (.cmpI .geq (.tmp 30) (.const (.int .i64 64)))) (g := none) (j := 2) (decide (64 ≤ a1)) rfl (by kernel_rfl) (by kernel_rfl) (by kernel_rfl) (fun hc => ?_) (fun hc => ?_)
      · replace hS := cond_t hc hS
        refine zlRun (n := 1) (j := 3) rfl (by kernel_rfl) ?_
        refine zlEnd (by kernel_rfl) ?_
        refine zkSeq ?_
        refine zrCondT (by kernel_rfl) ?_
        refine zrSeq ?_
        refine zrReg ?_
        refine zlRun (n := 5) (j := 5) rfl (by kernel_rfl) ?_
        refine bindE hS (fun z10 hz10 hS => ?_)
        refine zlOp (d := some 38) (op := (.call 31 [(.tmp 37)])) (g := none) (v := (.tup [(.r (.msl 312 1 0 z10.1.length)), (.d (.int .i64 z10.2))])) (ups := [(312, ⟨1, some (.own 3 1 ((eInt .i64).cells z10.1))⟩)]) (j := 6) rfl (by kernel_rfl) (by kernel_rfl) (ev_call (args := [(.d (.str a5))]) (l := [(.d (.str a5))]) (r := (.tup [(.r (.own 0 3 1 z10.1.length ((eInt .i64).cells z10.1))), (.d (.int .i64 z10.2))])) (by kernel_rfl) (by kernel_rfl) (f31_ok (d - 1) (dpt hd rfl) a5 z10 hz10) (by kernel_rfl) (by kernel_rfl) (by kernel_rfl)) ?_
        refine zlRun (n := 5) (j := 11) rfl (by kernel_rfl) ?_
        refine zlEnd (by kernel_rfl) ?_
        refine zkSeq ?_
        exact f61_j0_ok hd a1 a2 a3 a4 a5 a6 a7 hQ z10.1 hS (by exact (by kernel_rfl : _ = (⟨(up (up (up (fun _ => .un) 4 (.d (.sl z10.1.length ((((eInt .i64).cells z10.1).drop (0 * (eInt .i64).k)).take (z10.1.length * (eInt .i64).k))))) 1 (.d (.int .i64 a1))) 0 (.r (.ptr 0 0 0))), (up (up (hB fun _ => 0) 1 ⟨0, some (.own 31 6 (e_GAct.cells a7))⟩) 0 ⟨0, some (.box ((.d (.int .i64 a2)) :: ((.d (.int .i64 a3)) :: ((.d (.str a4)) :: ((.d (.str a5)) :: ((.d (.str a6)) :: ((.r (.msl 1 0 0 a7.length)) :: [])))))))⟩)⟩ : St)).trans (by simp only [Enc.frz]; kernel_rfl))
      · replace hS := cond_f hc hS
        refine zlRun (n := 1) (j := 3) rfl (by kernel_rfl) ?_
        refine zlEnd (by kernel_rfl) ?_
        refine zkSeq ?_
        refine zrCondF (by kernel_rfl) ?_
        refine zrSeq ?_
        refine zrReg ?_
        refine zlRun (n := 5) (j := 5) rfl (by kernel_rfl) ?_
        refine zlBool (d := 62) (op := (.cmpI .eql (.tmp 61) (.const (.int .i64 5)))) (g := none) (j := 6) (decide (a2 = 5)) rfl (by kernel_rfl) (by kernel_rfl) (by kernel_rfl) (fun hc => ?_) (fun hc => ?_)
        · replace hS := cond_t hc hS
          refine zlRun (n := 5) (j := 11) rfl (by kernel_rfl) ?_
          refine zlEnd (by kernel_rfl) ?_
          refine zkSeq ?_
          refine zrCondT (by kernel_rfl) ?_
          refine zrReg ?_
          refine zlRun (n := 1) (j := 1) rfl (by kernel_rfl) ?_
          refine bindE hS (fun z12 hz12 hS => ?_)
          refine zlOp (d := some 68) (op := (.callr 85 [(.tmp 67)])) (g := none) (v := (.tup [])) (ups := [(0, ⟨0, some (.box ((.d (.int .i64 6)) :: ((.d (.int .i64 0)) :: ((.d (.str ([]))) :: ((.d (.str ([]))) :: ((.d (.str ([]))) :: ((.r (.msl 1 1 0 z12.length)) :: [])))))))⟩), (1, ⟨1, some (.own 31 6 (e_GAct.cells z12))⟩)]) (j := 2) rfl (by kernel_rfl) (by kernel_rfl) (ev_callr (args := [(.r (.ptr 0 0 0))]) (ids := [0, 1]) (bs := [(.box ((.d (.int .i64 a2)) :: ((.d (.int .i64 a3)) :: ((.d (.str a4)) :: ((.d (.str a5)) :: ((.d (.str a6)) :: ((.r (.msl 1 0 0 a7.length)) :: []))))))), (.own 31 6 (e_GAct.cells a7))]) (l := [(.r (.ptr 0 0 0))]) (bt := [(.box ((.d (.int .i64 a2)) :: ((.d (.int .i64 a3)) :: ((.d (.str a4)) :: ((.d (.str a5)) :: ((.d (.str a6)) :: ((.r (.msl 1 0 0 a7.length)) :: []))))))), (.own 31 6 (e_GAct.cells a7))]) (r := (.tup [])) (bs' := [(.box ((.d (.int .i64 6)) :: ((.d (.int .i64 0)) :: ((.d (.str ([]))) :: ((.d (.str ([]))) :: ((.d (.str ([]))) :: ((.r (.msl 1 0 0 z12.length)) :: []))))))), (.own 31 6 (e_GAct.cells z12))]) (by kernel_rfl) (by kernel_rfl) (by kernel_rfl) (by kernel_rfl) (by kernel_rfl) (f85_ok (d - 1) (dpt hd rfl) a2 a3 a4 a5 a6 a7 z12 hz12) (by kernel_rfl) (by kernel_rfl)) ?_
          refine zlEnd (by kernel_rfl) ?_
          refine zkBlk ?_
          refine zkNil ?_
          exact endQ hS hQ (fNorm ((congrArg (fun s => outR s 2 c61.res) (by kernel_rfl : finSt c61.fin _ = f61_fin 6 0 [] [] [] z12)).trans (f61_out 6 0 [] [] [] z12)))
        · replace hS := cond_f hc hS
          refine zlRun (n := 2) (j := 8) rfl (by kernel_rfl) ?_
          refine zlBool (d := 65) (op := (.cmpI .eql (.tmp 64) (.const (.int .i64 58)))) (g := (some (63, false))) (j := 9) (decide (a1 = 58)) rfl (by kernel_rfl) (by kernel_rfl) (by kernel_rfl) (fun hc => ?_) (fun hc => ?_)
          · replace hS := cond_t hc hS
            refine zlRun (n := 2) (j := 11) rfl (by kernel_rfl) ?_
            refine zlEnd (by kernel_rfl) ?_
            refine zkSeq ?_
            refine zrCondT (by kernel_rfl) ?_
            refine zrReg ?_
            refine zlRun (n := 1) (j := 1) rfl (by kernel_rfl) ?_
            refine bindE hS (fun z13 hz13 hS => ?_)
            refine zlOp (d := some 68) (op := (.callr 85 [(.tmp 67)])) (g := none) (v := (.tup [])) (ups := [(0, ⟨0, some (.box ((.d (.int .i64 6)) :: ((.d (.int .i64 0)) :: ((.d (.str ([]))) :: ((.d (.str ([]))) :: ((.d (.str ([]))) :: ((.r (.msl 1 1 0 z13.length)) :: [])))))))⟩), (1, ⟨1, some (.own 31 6 (e_GAct.cells z13))⟩)]) (j := 2) rfl (by kernel_rfl) (by kernel_rfl) (ev_callr (args := [(.r (.ptr 0 0 0))]) (ids := [0, 1]) (bs := [(.box ((.d (.int .i64 a2)) :: ((.d (.int .i64 a3)) :: ((.d (.str a4)) :: ((.d (.str a5)) :: ((.d (.str a6)) :: ((.r (.msl 1 0 0 a7.length)) :: []))))))), (.own 31 6 (e_GAct.cells a7))]) (l := [(.r (.ptr 0 0 0))]) (bt := [(.box ((.d (.int .i64 a2)) :: ((.d (.int .i64 a3)) :: ((.d (.str a4)) :: ((.d (.str a5)) :: ((.d (.str a6)) :: ((.r (.msl 1 0 0 a7.length)) :: []))))))), (.own 31 6 (e_GAct.cells a7))]) (r := (.tup [])) (bs' := [(.box ((.d (.int .i64 6)) :: ((.d (.int .i64 0)) :: ((.d (.str ([]))) :: ((.d (.str ([]))) :: ((.d (.str ([]))) :: ((.r (.msl 1 0 0 z13.length)) :: []))))))), (.own 31 6 (e_GAct.cells z13))]) (by kernel_rfl) (by kernel_rfl) (by kernel_rfl) (by kernel_rfl) (by kernel_rfl) (f85_ok (d - 1) (dpt hd rfl) a2 a3 a4 a5 a6 a7 z13 hz13) (by kernel_rfl) (by kernel_rfl)) ?_
            refine zlEnd (by kernel_rfl) ?_
            refine zkBlk ?_
            refine zkNil ?_
            exact endQ hS hQ (fNorm ((congrArg (fun s => outR s 2 c61.res) (by kernel_rfl : finSt c61.fin _ = f61_fin 6 0 [] [] [] z13)).trans (f61_out 6 0 [] [] [] z13)))
          · replace hS := cond_f hc hS
            refine zlRun (n := 2) (j := 11) rfl (by kernel_rfl) ?_
            refine zlEnd (by kernel_rfl) ?_
            refine zkSeq ?_
            refine zrCondF (by kernel_rfl) ?_
            refine zrSeq ?_
            refine zrReg ?_
            refine zlRun (n := 1) (j := 1) rfl (by kernel_rfl) ?_
            refine zlBool (d := 71) (op := (.cmpI .lss (.tmp 70) (.const (.int .i64 60)))) (g := none) (j := 2) (decide (a1 < 60)) rfl (by kernel_rfl) (by kernel_rfl) (by kernel_rfl) (fun hc => ?_) (fun hc => ?_)
            · replace hS := cond_t hc hS
              refine zlRun (n := 1) (j := 3) rfl (by kernel_rfl) ?_
              refine zlEnd (by kernel_rfl) ?_
              refine zkSeq ?_
              refine zrCondT (by kernel_rfl) ?_
              refine zrSeq ?_
              refine zrSeq ?_
              refine zrReg ?_
              refine zlRun (n := 6) (j := 6) rfl (by kernel_rfl) ?_
              refine zlBool (d := 78) (op := (.cmpI .lss (.tmp 77) (.const (.int .i64 100)))) (g := none) (j := 7) (decide ((a5.length : Int) < 100)) rfl (by kernel_rfl) (by kernel_rfl) (by kernel_rfl) (fun hc => ?_) (fun hc => ?_)
              · replace hS := cond_t hc hS
                refine zlEnd (by kernel_rfl) ?_
                refine zkSeq ?_
                refine zrCondT (by kernel_rfl) ?_
                refine zrReg ?_
                refine zlRun (n := 8) (j := 8) rfl (by kernel_rfl) ?_
                refine bindE hS (fun z14 hz14 hS => ?_)
                refine zlOp (d := some 87) (op := (.strO .add (.tmp 83) (.tmp 86))) (g := none) (v := (.d (.str z14))) (ups := []) (j := 9) rfl (by kernel_rfl) (by kernel_rfl) (ev_cat (a := a5) (c := (Utf8.encode (IntKind.i32.wrap (a1))).data.toList) (by kernel_rfl) (by kernel_rfl) hz14) ?_
                refine zlRun (n := 4) (j := 13) rfl (by kernel_rfl) ?_
                refine zlEnd (by kernel_rfl) ?_
                refine zkSeq ?_
                refine zrReg ?_
                refine zlRun (n := 5) (j := 5) rfl (by kernel_rfl) ?_
                refine zlEnd (by kernel_rfl) ?_
                refine zkBlk ?_
                refine zkNil ?_
                exact endQ hS hQ (fNorm ((congrArg (fun s => outR s 2 c61.res) (by kernel_rfl : finSt c61.fin _ = f61_fin 4 a3 a4 z14 a6 a7)).trans (f61_out 4 a3 a4 z14 a6 a7)))
              · replace hS := cond_f hc hS
                refine zlEnd (by kernel_rfl) ?_
                refine zkSeq ?_
                refine zrCondF (by kernel_rfl) ?_
                refine zrSkip ?_
                refine zkSeq ?_
                refine zrReg ?_
                refine zlRun (n := 5) (j := 5) rfl (by kernel_rfl) ?_
                refine zlEnd (by kernel_rfl) ?_
                refine zkBlk ?_
                refine zkNil ?_
                exact endQ hS hQ (fNorm ((congrArg (fun s => outR s 2 c61.res) (by kernel_rfl : finSt c61.fin _ = f61_fin 4 a3 a4 a5 a6 a7)).trans (f61_out 4 a3 a4 a5 a6 a7)))
            · replace hS := cond_f hc hS
              refine zlRun (n := 1) (j := 3) rfl (by kernel_rfl) ?_
              refine zlEnd (by kernel_rfl) ?_
              refine zkSeq ?_
              refine zrCondF (by kernel_rfl) ?_
              refine zrSeq ?_
              refine zrReg ?_
              refine zlRun (n := 5) (j := 5) rfl (by kernel_rfl) ?_
              refine zlBool (d := 101) (op := (.cmpI .eql (.tmp 100) (.const (.int .i64 3)))) (g := none) (j := 6) (decide (a2 = 3)) rfl (by kernel_rfl) (by kernel_rfl) (by kernel_rfl) (fun hc => ?_) (fun hc => ?_)
              · replace hS := cond_t hc hS
                refine zlRun (n := 1) (j := 7) rfl (by kernel_rfl) ?_
                refine zlEnd (by kernel_rfl) ?_
                refine zkSeq ?_
                refine zrCondT (by kernel_rfl) ?_
                refine zrReg ?_
                refine zlRun (n := 11) (j := 11) rfl (by kernel_rfl) ?_
                refine zlEnd (by kernel_rfl) ?_
                refine zkBlk ?_
                refine zkNil ?_
                exact endQ hS hQ (fNorm ((congrArg (fun s => outR s 2 c61.res) (by kernel_rfl : finSt c61.fin _ = f61_fin 4 a1 a4 a5 a6 a7)).trans (f61_out 4 a1 a4 a5 a6 a7)))
              · replace hS := cond_f hc hS
                refine zlRun (n := 1) (j := 7) rfl (by kernel_rfl) ?_
                refine zlEnd (by kernel_rfl) ?_
                refine zkSeq ?_
                refine zrCondF (by kernel_rfl) ?_
                refine zrReg ?_
                refine zlRun (n := 1) (j := 1) rfl (by kernel_rfl) ?_
                refine bindE hS (fun z15 hz15 hS => ?_)
                refine zlOp (d := some 7) (op := (.callr 85 [(.tmp 6)])) (g := none) (v := (.tup [])) (ups := [(0, ⟨0, some (.box ((.d (.int .i64 6)) :: ((.d (.int .i64 0)) :: ((.d (.str ([]))) :: ((.d (.str ([]))) :: ((.d (.str ([]))) :: ((.r (.msl 1 1 0 z15.length)) :: [])))))))⟩), (1, ⟨1, some (.own 31 6 (e_GAct.cells z15))⟩)]) (j := 2) rfl (by kernel_rfl) (by kernel_rfl) (ev_callr (args := [(.r (.ptr 0 0 0))]) (ids := [0, 1]) (bs := [(.box ((.d (.int .i64 a2)) :: ((.d (.int .i64 a3)) :: ((.d (.str a4)) :: ((.d (.str a5)) :: ((.d (.str a6)) :: ((.r (.msl 1 0 0 a7.length)) :: []))))))), (.own 31 6 (e_GAct.cells a7))]) (l := [(.r (.ptr 0 0 0))]) (bt := [(.box ((.d (.int .i64 a2)) :: ((.d (.int .i64 a3)) :: ((.d (.str a4)) :: ((.d (.str a5)) :: ((.d (.str a6)) :: ((.r (.msl 1 0 0 a7.length)) :: []))))))), (.own 31 6 (e_GAct.cells a7))]) (r := (.tup [])) (bs' := [(.box ((.d (.int .i64 6)) :: ((.d (.int .i64 0)) :: ((.d (.str ([]))) :: ((.d (.str ([]))) :: ((.d (.str ([]))) :: ((.r (.msl 1 0 0 z15.length)) :: []))))))), (.own 31 6 (e_GAct.cells z15))]) (by kernel_rfl) (by kernel_rfl) (by kernel_rfl) (by kernel_rfl) (by kernel_rfl) (f85_ok (d - 1) (dpt hd rfl) a2 a3 a4 a5 a6 a7 z15 hz15) (by kernel_rfl) (by kernel_rfl)) ?_
                refine zlEnd (by kernel_rfl) ?_
                refine zkBlk ?_
                refine zkNil ?_
                exact endQ hS hQ (fNorm ((congrArg (fun s => outR s 2 c61.res) (by kernel_rfl : finSt c61.fin _ = f61_fin 6 0 [] [] [] z15)).trans (f61_out 6 0 [] [] [] z15)))
/- (*farwriter/parse.machine).take -/
def f26_fin (p36 : Int) (p37 : Int) (p38 : List UInt8) (p39 : List UInt8) (p40 : List UInt8) (p41 : List GAct) : St := ⟨(fun _ => .un), (up (up (hB fun _ => 0) 1 ⟨0, some (.own 31 6 (e_GAct.cells p41))⟩) 0 ⟨0, some (.box ((.d (.int .i64 p36)) :: ((.d (.int .i64 p37)) :: ((.d (.str p38)) :: ((.d (.str p39)) :: ((.d (.str p40)) :: ((.r (.msl 1 0 0 p41.length)) :: [])))))))⟩)⟩
theorem f26_out (p36 : Int) (p37 : Int) (p38 : List UInt8) (p39 : List UInt8) (p40 : List UInt8) (p41 : List GAct) : outR (f26_fin p36 p37 p38 p39 p40 p41) 2 c26.res = some ((.tup []), [(.box ((.d (.int .i64 p36)) :: ((.d (.int .i64 p37)) :: ((.d (.str p38)) :: ((.d (.str p39)) :: ((.d (.str p40)) :: ((.r (.msl 1 0 0 p41.length)) :: []))))))), (.own 31 6 (e_GAct.cells p41))]) := by
  kernel_rfl
def f26_Q (r : Int × Int × (List UInt8) × (List UInt8) × (List UInt8) × (List GAct)) (e : PX) (st : St) : Prop := DoneF c26 2 ((.tup []), [(.box ((.d (.int .i64 r.1)) :: ((.d (.int .i64 r.2.1)) :: ((.d (.str r.2.2.1)) :: ((.d (.str r.2.2.2.1)) :: ((.d (.str r.2.2.2.2.1)) :: ((.r (.msl 1 0 0 r.2.2.2.2.2.length)) :: []))))))), (.own 31 6 (e_GAct.cells r.2.2.2.2.2))]) e st
def f26_j1_J (a1 : Int) (a2 : Int) (a3 : Int) (a4 : List UInt8) (a5 : List UInt8) (a6 : List UInt8) (a7 : List GAct) (p56 : Int) (p57 : Int) (p58 : List UInt8) (p59 : List UInt8) (p60 : List UInt8) (p61 : List GAct) : St := ⟨(up (up (fun _ => .un) 1 (.d (.int .i64 a1))) 0 (.r (.ptr 0 0 0))), (up (up (hB fun _ => 0) 1 ⟨0, some (.own 31 6 (e_GAct.cells p61))⟩) 0 ⟨0, some (.box ((.d (.int .i64 p56)) :: ((.d (.int .i64 p57)) :: ((.d (.str p58)) :: ((.d (.str p59)) :: ((.d (.str p60)) :: ((.r (.msl 1 0 0 p61.length)) :: [])))))))⟩)⟩
noncomputable def f26_j1 (a1 : Int) (a2 : Int) (a3 : Int) (a4 : List UInt8) (a5 : List UInt8) (a6 : List UInt8) (a7 : List GAct) (p56 : Int) (p57 : Int) (p58 : List UInt8) (p59 : List UInt8) (p60 : List UInt8) (p61 : List GAct) : Option (Int × Int × (List UInt8) × (List UInt8) × (List UInt8) × (List GAct)) := ((f59 a1 p56 p57 p58 p59 p60 p61).bind fun z14 => (bif z14.2.2.2.2.2.2 then (some (z14.1, z14.2.1, z14.2.2.1, z14.2.2.2.1, z14.2.2.2.2.1, z14.2.2.2.2.2.1)) else (bif (decide (z14.1 = 0)) then ((f56 (GAct.mk 1 a1 0 ([]) ([]) ([])) z14.1 z14.2.1 z14.2.2.1 z14.2.2.2.1 z14.2.2.2.2.1 z14.2.2.2.2.2.1).bind fun z15 => (some (z15.1, z15.2.1, z15.2.2.1, z15.2.2.2.1, z15.2.2.2.2.1, z15.2.2.2.2.2))) else (bif (decide (160 ≤ a1)) then ((f58 0 z14.1 z14.2.1 z14.2.2.1 z14.2.2.2.1 z14.2.2.2.2.1 z14.2.2.2.2.2.1).bind fun z16 => (some (z16.1, 0, [], [], [], z16.2))) else (bif (decide (z14.1 ≤ 2)) then ((f60 a1 z14.1 z14.2.1 z14.2.2.1 z14.2.2.2.1 z14.2.2.2.2.1 z14.2.2.2.2.2.1).bind fun z17 => (some (z17.1, z17.2.1, z17.2.2.1, z17.2.2.2.1, z17.2.2.2.2.1, z17.2.2.2.2.2))) else ((f61 a1 z14.1 z14.2.1 z14.2.2.1 z14.2.2.2.1 z14.2.2.2.2.1 z14.2.2.2.2.2.1).bind fun z18 => (some (z18.1, z18.2.1, z18.2.2.1, z18.2.2.2.1, z18.2.2.2.2.1, z18.2.2.2.2.2))))))))
theorem f26_j1_ok {d : Nat} (hd : 5 ≤ d) (a1 : Int) (a2 : Int) (a3 : Int) (a4 : List UInt8) (a5 : List UInt8) (a6 : List UInt8) (a7 : List GAct) {r : Int × Int × (List UInt8) × (List UInt8) × (List UInt8) × (List GAct)} {Q : PX → St → Prop} (hQ : ∀ e st', f26_Q r e st' → Q e st') (p56 : Int) (p57 : Int) (p58 : List UInt8) (p59 : List UInt8) (p60 : List UInt8) (p61 : List GAct) (hS : f26_j1 a1 a2 a3 a4 a5 a6 a7 p56 p57 p58 p59 p60 p61 = some r) {st : St} (he : keepSt [0, 1] [(0, .id 0), (1, .id 1)] [] st = f26_j1_J a1 a2 a3 a4 a5 a6 a7 p56 p57 p58 p59 p60 p61) : ZR (lev codes baseL (d - 1)) Q c26_1 [] st := by
  refine zrKeep he ?_
  unfold f26_j1 at hS
  refine zrBlk ?_
  refine zrSeq ?_
  refine zrReg ?_
  refine zlRun (n := 2) (j := 2) rfl (by kernel_rfl) ?_
  refine bindE hS (fun z14 hz14 hS => ?_)
  refine zlOp (d := some 53) (op := (.callr 59 [(.tmp 51), (.tmp 52)])) (g := none) (v := (.d (.bool z14.2.2.2.2.2.2))) (ups := [(0, ⟨0, some (.box ((.d (.int .i64 z14.1)) :: ((.d (.int .i64 z14.2.1)) :: ((.d (.str z14.2.2.1)) :: ((.d (.str z14.2.2.2.1)) :: ((.d (.str z14.2.2.2.2.1)) :: ((.r (.msl 1 1 0 z14.2.2.2.2.2.1.length)) :: [])))))))⟩), (1, ⟨1, some (.own 31 6 (e_GAct.cells z14.2.2.2.2.2.1))⟩)]) (j := 3) rfl (by kernel_rfl) (by kernel_rfl) (ev_callr (args := [(.r (.ptr 0 0 0)), (.d (.int .i64 a1))]) (ids := [0, 1]) (bs := [(.box ((.d (.int .i64 p56)) :: ((.d (.int .i64 p57)) :: ((.d (.str p58)) :: ((.d (.str p59)) :: ((.d (.str p60)) :: ((.r (.msl 1 0 0 p61.length)) :: []))))))), (.own 31 6 (e_GAct.cells p61))]) (l := [(.r (.ptr 0 0 0)), (.d (.int .i64 a1))]) (bt := [(.box ((.d (.int .i64 p56)) :: ((.d (.int .i64 p57)) :: ((.d (.str p58)) :: ((.d (.str p59)) :: ((.d (.str p60)) :: ((.r (.msl 1 0 0 p61.length)) :: []))))))), (.own 31 6 (e_GAct.cells p61))]) (r := (.d (.bool z14.2.2.2.2.2.2))) (bs' := [(.box ((.d (.int .i64 z14.1)) :: ((.d (.int .i64 z14.2.1)) :: ((.d (.str z14.2.2.1)) :: ((.d (.str z14.2.2.2.1)) :: ((.d (.str z14.2.2.2.2.1)) :: ((.r (.msl 1 0 0 z14.2.2.2.2.2.1.length)) :: []))))))), (.own 31 6 (e_GAct.cells z14.2.2.2.2.2.1))]) (by kernel_rfl) (by kernel_rfl) (by kernel_rfl) (by kernel_rfl) (by kernel_rfl) (f59_ok (d - 1) (dpt hd rfl) a1 p56 p57 p58 p59 p60 p61 z14 hz14) (by kernel_rfl) (by kernel_rfl)) ?_
  refine zlRun (n := 1) (j := 4) rfl (by kernel_rfl) ?_
  refine zlEnd (by kernel_rfl) ?_
  refine zkSeq ?_
  refine zrSplit 50 z14.2.2.2.2.2.2 (by kernel_rfl) (fun hc => ?_) (fun hc => ?_)
  · replace hS := cond_t hc hS
    refine zrCondT (by kernel_rfl) ?_
    refine zrSkip ?_
    refine zkBlk ?_
    refine zkNil ?_
    exact endQ hS hQ (fNorm ((congrArg (fun s => outR s 2 c26.res) (by kernel_rfl : finSt c26.fin _ = f26_fin z14.1 z14.2.1 z14.2.2.1 z14.2.2.2.1 z14.2.2.2.2.1 z14.2.2.2.2.2.1)).trans (f26_out z14.1 z14.2.1 z14.2.2.1 z14.2.2.2.1 z14.2.2.2.2.1 z14.2.2.2.2.2.1)))
  · replace hS := cond_f hc hS
    refine zrCondF (by kernel_rfl) ?_
    refine zrSeq ?_
    refine zrReg ?_
    refine zlRun (n := 5) (j := 5) rfl (by kernel_rfl) ?_
    refine zlBool (d := 60) (op := (.cmpI .eql (.tmp 59) (.const (.int .i64 0)))) (g := none) (j := 6) (decide (z14.1 = 0)) rfl (by kernel_rfl) (by kernel_rfl) (by kernel_rfl) (fun hc => ?_) (fun hc => ?_)
    · replace hS := cond_t hc hS
      refine zlRun (n := 1) (j := 7) rfl (by kernel_rfl) ?_
      refine zlEnd (by kernel_rfl) ?_
      refine zkSeq ?_
      refine zrCondT (by kernel_rfl) ?_
      refine zrReg ?_
      refine zlRun (n := 3) (j := 3) rfl (by kernel_rfl) ?_
      refine bindE hS (fun z15 hz15 hS => ?_)
      refine zlOp (d := some 64) (op := (.callr 56 [(.tmp 61), (.tmp 63)])) (g := none) (v := (.tup [])) (ups := [(0, ⟨0, some (.box ((.d (.int .i64 z15.1)) :: ((.d (.int .i64 z15.2.1)) :: ((.d (.str z15.2.2.1)) :: ((.d (.str z15.2.2.2.1)) :: ((.d (.str z15.2.2.2.2.1)) :: ((.r (.msl 1 2 0 z15.2.2.2.2.2.length)) :: [])))))))⟩), (1, ⟨2, some (.own 31 6 (e_GAct.cells z15.2.2.2.2.2))⟩)]) (j := 4) rfl (by kernel_rfl) (by kernel_rfl) (ev_callr (args := [(.r (.ptr 0 0 0)), (.agg ((.d (.int .i64 1)) :: ((.d (.int .i64 a1)) :: ((.d (.int .i64 0)) :: ((.d (.str ([]))) :: ((.d (.sl ([] : List Int).length ((eInt .i64).cells ([])))) :: ((.d (.str ([]))) :: [])))))))]) (ids := [0, 1]) (bs := [(.box ((.d (.int .i64 z14.1)) :: ((.d (.int .i64 z14.2.1)) :: ((.d (.str z14.2.2.1)) :: ((.d (.str z14.2.2.2.1)) :: ((.d (.str z14.2.2.2.2.1)) :: ((.r (.msl 1 1 0 z14.2.2.2.2.2.1.length)) :: []))))))), (.own 31 6 (e_GAct.cells z14.2.2.2.2.2.1))]) (l := [(.r (.ptr 0 0 0)), (.agg ((.d (.int .i64 1)) :: ((.d (.int .i64 a1)) :: ((.d (.int .i64 0)) :: ((.d (.str ([]))) :: ((.d (.sl ([] : List Int).length ((eInt .i64).cells ([])))) :: ((.d (.str ([]))) :: [])))))))]) (bt := [(.box ((.d (.int .i64 z14.1)) :: ((.d (.int .i64 z14.2.1)) :: ((.d (.str z14.2.2.1)) :: ((.d (.str z14.2.2.2.1)) :: ((.d (.str z14.2.2.2.2.1)) :: ((.r (.msl 1 0 0 z14.2.2.2.2.2.1.length)) :: []))))))), (.own 31 6 (e_GAct.cells z14.2.2.2.2.2.1))]) (r := (.tup [])) (bs' := [(.box ((.d (.int .i64 z15.1)) :: ((.d (.int .i64 z15.2.1)) :: ((.d (.str z15.2.2.1)) :: ((.d (.str z15.2.2.2.1)) :: ((.d (.str z15.2.2.2.2.1)) :: ((.r (.msl 1 0 0 z15.2.2.2.2.2.length)) :: []))))))), (.own 31 6 (e_GAct.cells z15.2.2.2.2.2))]) (by kernel_rfl) (by kernel_rfl) (by kernel_rfl) (by kernel_rfl) (by kernel_rfl) (f56_ok (d - 1) (dpt hd rfl) (GAct.mk 1 a1 0 ([]) ([]) ([])) z14.1 z14.2.1 z14.2.2.1 z14.2.2.2.1 z14.2.2.2.2.1 z14.2.2.2.2.2.1 z15 hz15) (by kernel_rfl) (by kernel_rfl)) ?_
      refine zlEnd (by kernel_rfl) ?_
      refine zkBlk ?_
      refine zkNil ?_
      exact endQ hS hQ (fNorm ((congrArg (fun s => outR s 2 c26.res) (by kernel_rfl : finSt c26.fin _ = f26_fin z15.1 z15.2.1 z15.2.2.1 z15.2.2.2.1 z15.2.2.2.2.1 z15.2.2.2.2.2)).trans (f26_out z15.1 z15.2.1 z15.2.2.1 z15.2.2.2.1 z15.2.2.2.2.1 z15.2.2.2.2.2)))
    · replace hS := cond_f hc hS
      refine zlRun (n := 1) (j := 7) rfl (by kernel_rfl) ?_
      refine zlEnd (by kernel_rfl) ?_
      refine zkSeq ?_
      refine zrCondF (by kernel_rfl) ?_
      refine zrSeq ?_
      refine zrReg ?_
      refine zlRun (n := 1) (j := 1) rfl (by kernel_rfl) ?_
      refine zlBool (d := 67) (op := (.cmpI .geq (.tmp 66) (.const (.int .i64 160)))) (g := none) (j := 2) (decide (160 ≤ a1)) rfl (by kernel_rfl) (by kernel_rfl) (by kernel_rfl) (fun hc => ?_) (fun hc => ?_)
      · replace hS := cond_t hc hS
        refine zlRun (n := 1) (j := 3) rfl (by kernel_rfl) ?_
        refine zlEnd (by kernel_rfl) ?_
        refine zkSeq ?_
        refine zrCondT (by kernel_rfl) ?_
        refine zrReg ?_
        refine zlRun (n := 1) (j := 1) rfl (by kernel_rfl) ?_
        refine bindE hS (fun z16 hz16 hS => ?_)
        refine zlOp (d := some 69) (op := (.callr 58 [(.tmp 68), (.const (.int .i64 0))])) (g := none) (v := (.tup [])) (ups := [(0, ⟨0, some (.box ((.d (.int .i64 z16.1)) :: ((.d (.int .i64 0)) :: ((.d (.str ([]))) :: ((.d (.str ([]))) :: ((.d (.str ([]))) :: ((.r (.msl 1 2 0 z16.2.length)) :: [])))))))⟩), (1, ⟨2, some (.own 31 6 (e_GAct.cells z16.2))⟩)]) (j := 2) rfl (by kernel_rfl) (by kernel_rfl) (ev_callr (args := [(.r (.ptr 0 0 0)), (.d (.int .i64 0))]) (ids := [0, 1]) (bs := [(.box ((.d (.int .i64 z14.1)) :: ((.d (.int .i64 z14.2.1)) :: ((.d (.str z14.2.2.1)) :: ((.d (.str z14.2.2.2.1)) :: ((.d (.str z14.2.2.2.2.1)) :: ((.r (.msl 1 1 0 z14.2.2.2.2.2.1.length)) :: []))))))), (.own 31 6 (e_GAct.cells z14.2.2.2.2.2.1))]) (l := [(.r (.ptr 0 0 0)), (.d (.int .i64 0))]) (bt := [(.box ((.d (.int .i64 z14.1)) :: ((.d (.int .i64 z14.2.1)) :: ((.d (.str z14.2.2.1)) :: ((.d (.str z14.2.2.2.1)) :: ((.d (.str z14.2.2.2.2.1)) :: ((.r (.msl 1 0 0 z14.2.2.2.2.2.1.length)) :: []))))))), (.own 31 6 (e_GAct.cells z14.2.2.2.2.2.1))]) (r := (.tup [])) (bs' := [(.box ((.d (.int .i64 z16.1)) :: ((.d (.int .i64 0)) :: ((.d (.str ([]))) :: ((.d (.str ([]))) :: ((.d (.str ([]))) :: ((.r (.msl 1 0 0 z16.2.length)) :: []))))))), (.own 31 6 (e_GAct.cells z16.2))]) (by kernel_rfl) (by kernel_rfl) (by kernel_rfl) (by kernel_rfl) (by kernel_rfl) (f58_ok (d - 1) (dpt hd rfl) 0 z14.1 z14.2.1 z14.2.2.1 z14.2.2.2.1 z14.2.2.2.2.1 z14.2.2.2.2.2.1 z16 hz16) (by kernel_rfl) (by kernel_rfl)) ?_
        refine zlEnd (by kernel_rfl) ?_
        refine zkBlk ?_
        refine zkNil ?_
        exact endQ hS hQ (fNorm ((congrArg (fun s => outR s 2 c26.res) (by kernel_rfl : finSt c26.fin _ = f26_fin z16.1 0 [] [] [] z16.2)).trans (f26_out z16.1 0 [] [] [] z16.2)))
      · replace hS := cond_f hc hS
        refine zlRun (n := 1) (j := 3) rfl (by kernel_rfl) ?_
        refine zlEnd (by kernel_rfl) ?_
        refine zkSeq ?_
        refine zrCondF (by kernel_rfl) ?_
        refine zrSeq ?_
        refine zrReg ?_
        refine zlRun (n := 5) (j := 5) rfl (by kernel_rfl) ?_
        refine zlBool (d := 76) (op := (.cmpI .leq (.tmp 75) (.const (.int .i64 2)))) (g := none) (j := 6) (decide (z14.1 ≤ 2)) rfl (by kernel_rfl) (by kernel_rfl) (by kernel_rfl) (fun hc => ?_) (fun hc => ?_)
        · replace hS := cond_t hc hS
          refine zlRun (n := 1) (j := 7) rfl (by kernel_rfl) ?_
          refine zlEnd (by kernel_rfl) ?_
          refine zkSeq ?_
          refine zrCondT (by kernel_rfl) ?_
          refine zrReg ?_
          refine zlRun (n := 2) (j := 2) rfl (by kernel_rfl) ?_
          refine bindE hS (fun z17 hz17 hS => ?_)
          refine zlOp (d := some 79) (op := (.callr 60 [(.tmp 77), (.tmp 78)])) (g := none) (v := (.tup [])) (ups := [(0, ⟨0, some (.box ((.d (.int .i64 z17.1)) :: ((.d (.int .i64 z17.2.1)) :: ((.d (.str z17.2.2.1)) :: ((.d (.str z17.2.2.2.1)) :: ((.d (.str z17.2.2.2.2.1)) :: ((.r (.msl 1 2 0 z17.2.2.2.2.2.length)) :: [])))))))⟩), (1, ⟨2, some (.own 31 6 (e_GAct.cells z17.2.2.2.2.2))⟩)]) (j := 3) rfl (by kernel_rfl) (by kernel_rfl) (ev_callr (args := [(.r (.ptr 0 0 0)), (.d (.int .i64 a1))]) (ids := [0, 1]) (bs := [(.box ((.d (.int .i64 z14.1)) :: ((.d (.int .i64 z14.2.1)) :: ((.d (.str z14.2.2.1)) :: ((.d (.str z14.2.2.2.1)) :: ((.d (.str z14.2.2.2.2.1)) :: ((.r (.msl 1 1 0 z14.2.2.2.2.2.1.length)) :: []))))))), (.own 31 6 (e_GAct.cells z14.2.2.2.2.2.1))]) (l := [(.r (.ptr 0 0 0)), (.d (.int .i64 a1))]) (bt := [(.box ((.d (.int .i64 z14.1)) :: ((.d (.int .i64 z14.2.1)) :: ((.d (.str z14.2.2.1)) :: ((.d (.str z14.2.2.2.1)) :: ((.d (.str z14.2.2.2.2.1)) :: ((.r (.msl 1 0 0 z14.2.2.2.2.2.1.length)) :: []))))))), (.own 31 6 (e_GAct.cells z14.2.2.2.2.2.1))]) (r := (.tup [])) (bs' := [(.box ((.d (.int .i64 z17.1)) :: ((.d (.int .i64 z17.2.1)) :: ((.d (.str z17.2.2.1)) :: ((.d (.str z17.2.2.2.1)) :: ((.d (.str z17.2.2.2.2.1)) :: ((.r (.msl 1 0 0 z17.2.2.2.2.2.length)) :: []))))))), (.own 31 6 (e_GAct.cells z17.2.2.2.2.2))]) (by kernel_rfl) (by kernel_rfl) (by kernel_rfl) (by kernel_rfl) (by kernel_rfl) (f60_ok (d - 1) (dpt hd rfl) a1 z14.1 z14.2.1 z14.2.2.1 z14.2.2.2.1 z14.2.2.2.2.1 z14.2.2.2.2.2.1 z17 hz17) (by kernel_rfl) (by kernel_rfl)) ?_
          refine zlEnd (by kernel_rfl) ?_
          refine zkBlk ?_
          refine zkNil ?_
          exact endQ hS hQ (fNorm ((congrArg (fun s => outR s 2 c26.res) (by kernel_rfl : finSt c26.fin _ = f26_fin z17.1 z17.2.1 z17.2.2.1 z17.2.2.2.1 z17.2.2.2.2.1 z17.2.2.2.2.2)).trans (f26_out z17.1 z17.2.1 z17.2.2.1 z17.2.2.2.1 z17.2.2.2.2.1 z17.2.2.2.2.2)))
        · replace hS := cond_f hc hS
          refine zlRun (n := 1) (j := 7) rfl (by kernel_rfl) ?_
          refine zlEnd (by kernel_rfl) ?_
          refine zkSeq ?_
          refine zrCondF (by kernel_rfl) ?_
          refine zrReg ?_
          refine zlRun (n := 2) (j := 2) rfl (by kernel_rfl) ?_
          refine bindE hS (fun z18 hz18 hS => ?_)
          refine zlOp (d := some 49) (op := (.callr 61 [(.tmp 47), (.tmp 48)])) (g := none) (v := (.tup [])) (ups := [(0, ⟨0, some (.box ((.d (.int .i64 z18.1)) :: ((.d (.int .i64 z18.2.1)) :: ((.d (.str z18.2.2.1)) :: ((.d (.str z18.2.2.2.1)) :: ((.d (.str z18.2.2.2.2.1)) :: ((.r (.msl 1 2 0 z18.2.2.2.2.2.length)) :: [])))))))⟩), (1, ⟨2, some (.own 31 6 (e_GAct.cells z18.2.2.2.2.2))⟩)]) (j := 3) rfl (by kernel_rfl) (by kernel_rfl) (ev_callr (args := [(.r (.ptr 0 0 0)), (.d (.int .i64 a1))]) (ids := [0, 1]) (bs := [(.box ((.d (.int .i64 z14.1)) :: ((.d (.int .i64 z14.2.1)) :: ((.d (.str z14.2.2.1)) :: ((.d (.str z14.2.2.2.1)) :: ((.d (.str z14.2.2.2.2.1)) :: ((.r (.msl 1 1 0 z14.2.2.2.2.2.1.length)) :: []))))))), (.own 31 6 (e_GAct.cells z14.2.2.2.2.2.1))]) (l := [(.r (.ptr 0 0 0)), (.d (.int .i64 a1))]) (bt := [(.box ((.d (.int .i64 z14.1)) :: ((.d (.int .i64 z14.2.1)) :: ((.d (.str z14.2.2.1)) :: ((.d (.str z14.2.2.2.1)) :: ((.d (.str z14.2.2.2.2.1)) :: ((.r (.msl 1 0 0 z14.2.2.2.2.2.1.length)) :: []))))))), (.own 31 6 (e_GAct.cells z14.2.2.2.2.2.1))]) (r := (.tup [])) (bs' := [(.box ((.d (.int .i64 z18.1)) :: ((.d (.int .i64 z18.2.1)) :: ((.d (.str z18.2.2.1)) :: ((.d (.str z18.2.2.2.1)) :: ((.d (.str z18.2.2.2.2.1)) :: ((.r (.msl 1 0 0 z18.2.2.2.2.2.length)) :: []))))))), (.own 31 6 (e_GAct.cells z18.2.2.2.2.2))]) (by kernel_rfl) (by kernel_rfl) (by kernel_rfl) (by kernel_rfl) (by kernel_rfl) (f61_ok (d - 1) (dpt hd rfl) a1 z14.1 z14.2.1 z14.2.2.1 z14.2.2.2.1 z14.2.2.2.2.1 z14.2.2.2.2.2.1 z18 hz18) (by kernel_rfl) (by kernel_rfl)) ?_
          refine zlEnd (by kernel_rfl) ?_
          refine zkBlk ?_
          refine zkNil ?_
          exact endQ hS hQ (fNorm ((congrArg (fun s => outR s 2 c26.res) (by kernel_rfl : finSt c26.fin _ = f26_fin z18.1 z18.2.1 z18.2.2.1 z18.2.2.2.1 z18.2.2.2.2.1 z18.2.2.2.2.2)).trans (f26_out z18.1 z18.2.1 z18.2.2.1 z18.2.2.2.1 z18.2.2.2.2.1 z18.2.2.2.2.2)))
def f26_j3_J (a1 : Int) (a2 : Int) (a3 : Int) (a4 : List UInt8) (a5 : List UInt8) (a6 : List UInt8) (a7 : List GAct) (p67 : Bool) : St := ⟨(up (up (up (fun _ => .un) 22 (.d (.bool p67))) 1 (.d (.int .i64 a1))) 0 (.r (.ptr 0 0 0))), (up (up (hB fun _ => 0) 1 ⟨0, some (.own 31 6 (e_GAct.cells a7))⟩) 0 ⟨0, some (.box ((.d (.int .i64 a2)) :: ((.d (.int .i64 a3)) :: ((.d (.str a4)) :: ((.d (.str a5)) :: ((.d (.str a6)) :: ((.r (.msl 1 0 0 a7.length)) :: [])))))))⟩)⟩
noncomputable def f26_j3 (a1 : Int) (a2 : Int) (a3 : Int) (a4 : List UInt8) (a5 : List UInt8) (a6 : List UInt8) (a7 : List GAct) (p67 : Bool) : Option (Int × Int × (List UInt8) × (List UInt8) × (List UInt8) × (List GAct)) := (bif p67 then (bif (decide (a1 = 92)) then (bif (decide (a2 = 8)) then ((f56 (GAct.mk 5 0 0 ([]) ([]) a6) a2 a3 a4 a5 a6 a7).bind fun z20 => ((f57 0 z20.1 z20.2.1 z20.2.2.1 z20.2.2.2.1 z20.2.2.2.2.1 z20.2.2.2.2.2).bind fun z21 => (some (z21.1, 0, [], [], [], z21.2)))) else ((f56 (GAct.mk 6 0 0 ([]) ([]) ([])) a2 a3 a4 a5 a6 a7).bind fun z22 => ((f57 0 z22.1 z22.2.1 z22.2.2.1 z22.2.2.2.1 z22.2.2.2.2.1 z22.2.2.2.2.2).bind fun z23 => (some (z23.1, 0, [], [], [], z23.2))))) else ((f58 1 a2 a3 a4 a5 a6 a7).bind fun z24 => (f26_j1 a1 a2 a3 a4 a5 a6 a7 z24.1 0 [] [] [] z24.2))) else (f26_j1 a1 a2 a3 a4 a5 a6 a7 a2 a3 a4 a5 a6 a7))
theorem f26_j3_ok {d : Nat} (hd : 5 ≤ d) (a1 : Int) (a2 : Int) (a3 : Int) (a4 : List UInt8) (a5 : List UInt8) (a6 : List UInt8) (a7 : List GAct) {r : Int × Int × (List UInt8) × (List UInt8) × (List UInt8) × (List GAct)} {Q : PX → St → Prop} (hQ : ∀ e st', f26_Q r e st' → Q e st') (p67 : Bool) (hS : f26_j3 a1 a2 a3 a4 a5 a6 a7 p67 = some r) {st : St} (he : keepSt [0, 1, 22] [(0, .id 0), (1, .id 1)] [] st = f26_j3_J a1 a2 a3 a4 a5 a6 a7 p67) : ZR (lev codes baseL (d - 1)) Q c26_2 [.blk 0, .seq c26_1] st := by
  refine zrKeep he ?_
  unfold f26_j3 at hS
  refine zrSplit 22 p67 (by kernel_rfl) (fun hc => ?_) (fun hc => ?_)
  · replace hS := cond_t hc hS
    refine zrCondT (by kernel_rfl) ?_
    refine zrSeq ?_
    refine zrSeq ?_
    refine zrReg ?_
    refine zlRun (n := 1) (j := 1) rfl (by kernel_rfl) ?_
    refine zlBool (d := 26) (op := (.cmpI .eql (.tmp 25) (.const (.int .i64 92)))) (g := none) (j := 2) (decide (a1 = 92)) rfl (by kernel_rfl) (by kernel_rfl) (by kernel_rfl) (fun hc => ?_) (fun hc => ?_)
    · replace hS := cond_t hc hS
      refine zlEnd (by kernel_rfl) ?_
      refine zkSeq ?_
      refine zrCondT (by kernel_rfl) ?_
      refine zrSeq ?_
      refine zrReg ?_
      refine zlRun (n := 3) (j := 3) rfl (by kernel_rfl) ?_
      refine zlEnd (by kernel_rfl) ?_
      refine zkSeq ?_
      refine zrSeq ?_
      refine zrSeq ?_
      refine zrReg ?_
      refine zlRun (n := 5) (j := 5) rfl (by kernel_rfl) ?_
      refine zlBool (d := 33) (op := (.cmpI .eql (.tmp 32) (.const (.int .i64 8)))) (g := none) (j := 6) (decide (a2 = 8)) rfl (by kernel_rfl) (by kernel_rfl) (by kernel_rfl) (fun hc => ?_) (fun hc => ?_)
      · replace hS := cond_t hc hS
        refine zlEnd (by kernel_rfl) ?_
        refine zkSeq ?_
        refine zrCondT (by kernel_rfl) ?_
        refine zrReg ?_
        refine zlRun (n := 7) (j := 7) rfl (by kernel_rfl) ?_
        refine zlEnd (by kernel_rfl) ?_
        refine zkSeq ?_
        refine zrSeq ?_
        refine zrReg ?_
        refine zlRun (n := 2) (j := 2) rfl (by kernel_rfl) ?_
        refine bindE hS (fun z20 hz20 hS => ?_)
        refine zlOp (d := some 42) (op := (.callr 56 [(.tmp 40), (.tmp 41)])) (g := none) (v := (.tup [])) (ups := [(0, ⟨0, some (.box ((.d (.int .i64 z20.1)) :: ((.d (.int .i64 z20.2.1)) :: ((.d (.str z20.2.2.1)) :: ((.d (.str z20.2.2.2.1)) :: ((.d (.str z20.2.2.2.2.1)) :: ((.r (.msl 1 1 0 z20.2.2.2.2.2.length)) :: [])))))))⟩), (1, ⟨1, some (.own 31 6 (e_GAct.cells z20.2.2.2.2.2))⟩)]) (j := 3) rfl (by kernel_rfl) (by kernel_rfl) (ev_callr (args := [(.r (.ptr 0 0 0)), (.agg ((.d (.int .i64 5)) :: ((.d (.int .i64 0)) :: ((.d (.int .i64 0)) :: ((.d (.str ([]))) :: ((.d (.sl ([] : List Int).length ((eInt .i64).cells ([])))) :: ((.d (.str a6)) :: [])))))))]) (ids := [0, 1]) (bs := [(.box ((.d (.int .i64 a2)) :: ((.d (.int .i64 a3)) :: ((.d (.str a4)) :: ((.d (.str a5)) :: ((.d (.str a6)) :: ((.r (.msl 1 0 0 a7.length)) :: []))))))), (.own 31 6 (e_GAct.cells a7))]) (l := [(.r (.ptr 0 0 0)), (.agg ((.d (.int .i64 5)) :: ((.d (.int .i64 0)) :: ((.d (.int .i64 0)) :: ((.d (.str ([]))) :: ((.d (.sl ([] : List Int).length ((eInt .i64).cells ([])))) :: ((.d (.str a6)) :: [])))))))]) (bt := [(.box ((.d (.int .i64 a2)) :: ((.d (.int .i64 a3)) :: ((.d (.str a4)) :: ((.d (.str a5)) :: ((.d (.str a6)) :: ((.r (.msl 1 0 0 a7.length)) :: []))))))), (.own 31 6 (e_GAct.cells a7))]) (r := (.tup [])) (bs' := [(.box ((.d (.int .i64 z20.1)) :: ((.d (.int .i64 z20.2.1)) :: ((.d (.str z20.2.2.1)) :: ((.d (.str z20.2.2.2.1)) :: ((.d (.str z20.2.2.2.2.1)) :: ((.r (.msl 1 0 0 z20.2.2.2.2.2.length)) :: []))))))), (.own 31 6 (e_GAct.cells z20.2.2.2.2.2))]) (by kernel_rfl) (by kernel_rfl) (by kernel_rfl) (by kernel_rfl) (by kernel_rfl) (f56_ok (d - 1) (dpt hd rfl) (GAct.mk 5 0 0 ([]) ([]) a6) a2 a3 a4 a5 a6 a7 z20 hz20) (by kernel_rfl) (by kernel_rfl)) ?_
        refine zlEnd (by kernel_rfl) ?_
        refine zkSeq ?_
        refine zrSeq ?_
        refine zrReg ?_
        refine zlRun (n := 1) (j := 1) rfl (by kernel_rfl) ?_
        refine bindE hS (fun z21 hz21 hS => ?_)
        refine zlOp (d := some 44) (op := (.callr 57 [(.tmp 43), (.const (.int .i64 0))])) (g := none) (v := (.tup [])) (ups := [(0, ⟨0, some (.box ((.d (.int .i64 z21.1)) :: ((.d (.int .i64 0)) :: ((.d (.str ([]))) :: ((.d (.str ([]))) :: ((.d (.str ([]))) :: ((.r (.msl 1 2 0 z21.2.length)) :: [])))))))⟩), (1, ⟨2, some (.own 31 6 (e_GAct.cells z21.2))⟩)]) (j := 2) rfl (by kernel_rfl) (by kernel_rfl) (ev_callr (args := [(.r (.ptr 0 0 0)), (.d (.int .i64 0))]) (ids := [0, 1]) (bs := [(.box ((.d (.int .i64 z20.1)) :: ((.d (.int .i64 z20.2.1)) :: ((.d (.str z20.2.2.1)) :: ((.d (.str z20.2.2.2.1)) :: ((.d (.str z20.2.2.2.2.1)) :: ((.r (.msl 1 1 0 z20.2.2.2.2.2.length)) :: []))))))), (.own 31 6 (e_GAct.cells z20.2.2.2.2.2))]) (l := [(.r (.ptr 0 0 0)), (.d (.int .i64 0))]) (bt := [(.box ((.d (.int .i64 z20.1)) :: ((.d (.int .i64 z20.2.1)) :: ((.d (.str z20.2.2.1)) :: ((.d (.str z20.2.2.2.1)) :: ((.d (.str z20.2.2.2.2.1)) :: ((.r (.msl 1 0 0 z20.2.2.2.2.2.length)) :: []))))))), (.own 31 6 (e_GAct.cells z20.2.2.2.2.2))]) (r := (.tup [])) (bs' := [(.box ((.d (.int .i64 z21.1)) :: ((.d (.int .i64 0)) :: ((.d (.str ([]))) :: ((.d (.str ([]))) :: ((.d (.str ([]))) :: ((.r (.msl 1 0 0 z21.2.length)) :: []))))))), (.own 31 6 (e_GAct.cells z21.2))]) (by kernel_rfl) (by kernel_rfl) (by kernel_rfl) (by kernel_rfl) (by kernel_rfl) (f57_ok (d - 1) (dpt hd rfl) 0 z20.1 z20.2.1 z20.2.2.1 z20.2.2.2.1 z20.2.2.2.2.1 z20.2.2.2.2.2 z21 hz21) (by kernel_rfl) (by kernel_rfl)) ?_
        refine zlEnd (by kernel_rfl) ?_
        refine zkSeq ?_
        refine zrRet ?_
        refine zkSeqR ?_
        refine zkBlkR ?_
        refine zkSeqR ?_
        refine zkNil ?_
        exact endQ hS hQ (fRet ((congrArg (fun s => outR s 2 c26.res) (by kernel_rfl : finSt c26.fin _ = f26_fin z21.1 0 [] [] [] z21.2)).trans (f26_out z21.1 0 [] [] [] z21.2)))
      · replace hS := cond_f hc hS
        refine zlEnd (by kernel_rfl) ?_
        refine zkSeq ?_
        refine zrCondF (by kernel_rfl) ?_
        refine zrSkip ?_
        refine zkSeq ?_
        refine zrSeq ?_
        refine zrReg ?_
        refine zlRun (n := 2) (j := 2) rfl (by kernel_rfl) ?_
        refine bindE hS (fun z22 hz22 hS => ?_)
        refine zlOp (d := some 42) (op := (.callr 56 [(.tmp 40), (.tmp 41)])) (g := none) (v := (.tup [])) (ups := [(0, ⟨0, some (.box ((.d (.int .i64 z22.1)) :: ((.d (.int .i64 z22.2.1)) :: ((.d (.str z22.2.2.1)) :: ((.d (.str z22.2.2.2.1)) :: ((.d (.str z22.2.2.2.2.1)) :: ((.r (.msl 1 1 0 z22.2.2.2.2.2.length)) :: [])))))))⟩), (1, ⟨1, some (.own 31 6 (e_GAct.cells z22.2.2.2.2.2))⟩)]) (j := 3) rfl (by kernel_rfl) (by kernel_rfl) (ev_callr (args := [(.r (.ptr 0 0 0)), (.agg ((.d (.int .i64 6)) :: ((.d (.int .i64 0)) :: ((.d (.int .i64 0)) :: ((.d (.str ([]))) :: ((.d (.sl ([] : List Int).length ((eInt .i64).cells ([])))) :: ((.d (.str ([]))) :: [])))))))]) (ids := [0, 1]) (bs := [(.box ((.d (.int .i64 a2)) :: ((.d (.int .i64 a3)) :: ((.d (.str a4)) :: ((.d (.str a5)) :: ((.d (.str a6)) :: ((.r (.msl 1 0 0 a7.length)) :: []))))))), (.own 31 6 (e_GAct.cells a7))]) (l := [(.r (.ptr 0 0 0)), (.agg ((.d (.int .i64 6)) :: ((.d (.int .i64 0)) :: ((.d (.int .i64 0)) :: ((.d (.str ([]))) :: ((.d (.sl ([] : List Int).length ((eInt .i64).cells ([])))) :: ((.d (.str ([]))) :: [])))))))]) (bt := [(.box ((.d (.int .i64 a2)) :: ((.d (.int .i64 a3)) :: ((.d (.str a4)) :: ((.d (.str a5)) :: ((.d (.str a6)) :: ((.r (.msl 1 0 0 a7.length)) :: []))))))), (.own 31 6 (e_GAct.cells a7))]) (r := (.tup [])) (bs' := [(.box ((.d (.int .i64 z22.1)) :: ((.d (.int .i64 z22.2.1)) :: ((.d (.str z22.2.2.1)) :: ((.d (.str z22.2.2.2.1)) :: ((.d (.str z22.2.2.2.2.1)) :: ((.r (.msl 1 0 0 z22.2.2.2.2.2.length)) :: []))))))), (.own 31 6 (e_GAct.cells z22.2.2.2.2.2))]) (by kernel_rfl) (by kernel_rfl) (by kernel_rfl) (by kernel_rfl) (by kernel_rfl) (f56_ok (d - 1) (dpt hd rfl) (GAct.mk 6 0 0 ([]) ([]) ([])) a2 a3 a4 a5 a6 a7 z22 hz22) (by kernel_rfl) (by kernel_rfl)) ?_
        refine zlEnd (by kernel_rfl) ?_
        refine zkSeq ?_
        refine zrSeq ?_
        refine zrReg ?_
        refine zlRun (n := 1) (j := 1) rfl (by kernel_rfl) ?_
        refine bindE hS (fun z23 hz23 hS => ?_)
        refine zlOp (d := some 44) (op := (.callr 57 [(.tmp 43), (.const (.int .i64 0))])) (g := none) (v := (.tup [])) (ups := [(0, ⟨0, some (.box ((.d (.int .i64 z23.1)) :: ((.d (.int .i64 0)) :: ((.d (.str ([]))) :: ((.d (.str ([]))) :: ((.d (.str ([]))) :: ((.r (.msl 1 2 0 z23.2.length)) :: [])))))))⟩), (1, ⟨2, some (.own 31 6 (e_GAct.cells z23.2))⟩)]) (j := 2) rfl (by kernel_rfl) (by kernel_rfl) (ev_callr (args := [(.r (.ptr 0 0 0)), (.d (.int .i64 0))]) (ids := [0, 1]) (bs := [(.box ((.d (.int .i64 z22.1)) :: ((.d (.int .i64 z22.2.1)) :: ((.d (.str z22.2.2.1)) :: ((.d (.str z22.2.2.2.1)) :: ((.d (.str z22.2.2.2.2.1)) :: ((.r (.msl 1 1 0 z22.2.2.2.2.2.length)) :: []))))))), (.own 31 6 (e_GAct.cells z22.2.2.2.2.2))]) (l := [(.r (.ptr 0 0 0)), (.d (.int .i64 0))]) (bt := [(.box ((.d (.int .i64 z22.1)) :: ((.d (.int .i64 z22.2.1)) :: ((.d (.str z22.2.2.1)) :: ((.d (.str z22.2.2.2.1)) :: ((.d (.str z22.2.2.2.2.1)) :: ((.r (.msl 1 0 0 z22.2.2.2.2.2.length)) :: []))))))), (.own 31 6 (e_GAct.cells z22.2.2.2.2.2))]) (r := (.tup [])) (bs' := [(.box ((.d (.int .i64 z23.1)) :: ((.d (.int .i64 0)) :: ((.d (.str ([]))) :: ((.d (.str ([]))) :: ((.d (.str ([]))) :: ((.r (.msl 1 0 0 z23.2.length)) :: []))))))), (.own 31 6 (e_GAct.cells z23.2))]) (by kernel_rfl) (by kernel_rfl) (by kernel_rfl) (by kernel_rfl) (by kernel_rfl) (f57_ok (d - 1) (dpt hd rfl) 0 z22.1 z22.2.1 z22.2.2.1 z22.2.2.2.1 z22.2.2.2.2.1 z22.2.2.2.2.2 z23 hz23) (by kernel_rfl) (by kernel_rfl)) ?_
        refine zlEnd (by kernel_rfl) ?_
        refine zkSeq ?_
        refine zrRet ?_
        refine zkSeqR ?_
        refine zkBlkR ?_
        refine zkSeqR ?_
        refine zkNil ?_
        exact endQ hS hQ (fRet ((congrArg (fun s => outR s 2 c26.res) (by kernel_rfl : finSt c26.fin _ = f26_fin z23.1 0 [] [] [] z23.2)).trans (f26_out z23.1 0 [] [] [] z23.2)))
    · replace hS := cond_f hc hS
      refine zlEnd (by kernel_rfl) ?_
      refine zkSeq ?_
      refine zrCondF (by kernel_rfl) ?_
      refine zrSkip ?_
      refine zkSeq ?_
      refine zrReg ?_
      refine zlRun (n := 1) (j := 1) rfl (by kernel_rfl) ?_
      refine bindE hS (fun z24 hz24 hS => ?_)
      refine zlOp (d := some 46) (op := (.callr 58 [(.tmp 45), (.const (.int .i64 1))])) (g := none) (v := (.tup [])) (ups := [(0, ⟨0, some (.box ((.d (.int .i64 z24.1)) :: ((.d (.int .i64 0)) :: ((.d (.str ([]))) :: ((.d (.str ([]))) :: ((.d (.str ([]))) :: ((.r (.msl 1 1 0 z24.2.length)) :: [])))))))⟩), (1, ⟨1, some (.own 31 6 (e_GAct.cells z24.2))⟩)]) (j := 2) rfl (by kernel_rfl) (by kernel_rfl) (ev_callr (args := [(.r (.ptr 0 0 0)), (.d (.int .i64 1))]) (ids := [0, 1]) (bs := [(.box ((.d (.int .i64 a2)) :: ((.d (.int .i64 a3)) :: ((.d (.str a4)) :: ((.d (.str a5)) :: ((.d (.str a6)) :: ((.r (.msl 1 0 0 a7.length)) :: []))))))), (.own 31 6 (e_GAct.cells a7))]) (l := [(.r (.ptr 0 0 0)), (.d (.int .i64 1))]) (bt := [(.box ((.d (.int .i64 a2)) :: ((.d (.int .i64 a3)) :: ((.d (.str a4)) :: ((.d (.str a5)) :: ((.d (.str a6)) :: ((.r (.msl 1 0 0 a7.length)) :: []))))))), (.own 31 6 (e_GAct.cells a7))]) (r := (.tup [])) (bs' := [(.box ((.d (.int .i64 z24.1)) :: ((.d (.int .i64 0)) :: ((.d (.str ([]))) :: ((.d (.str ([]))) :: ((.d (.str ([]))) :: ((.r (.msl 1 0 0 z24.2.length)) :: []))))))), (.own 31 6 (e_GAct.cells z24.2))]) (by kernel_rfl) (by kernel_rfl) (by kernel_rfl) (by kernel_rfl) (by kernel_rfl) (f58_ok (d - 1) (dpt hd rfl) 1 a2 a3 a4 a5 a6 a7 z24 hz24) (by kernel_rfl) (by kernel_rfl)) ?_
      refine zlEnd (by kernel_rfl) ?_
      refine zkBlk ?_
      refine zkSeq ?_
      exact f26_j1_ok hd a1 a2 a3 a4 a5 a6 a7 hQ z24.1 0 [] [] [] z24.2 hS (by kernel_rfl)
  · replace hS := cond_f hc hS
    refine zrCondF (by kernel_rfl) ?_
    refine zrSkip ?_
    refine zkBlk ?_
    refine zkSeq ?_
    exact f26_j1_ok hd a1 a2 a3 a4 a5 a6 a7 hQ a2 a3 a4 a5 a6 a7 hS (by kernel_rfl)
def f26_j2_J (a1 : Int) (a2 : Int) (a3 : Int) (a4 : List UInt8) (a5 : List UInt8) (a6 : List UInt8) (a7 : List GAct) (p64 : Bool) : St := ⟨(up (up (up (up (fun _ => .un) 16 (.d (.bool p64))) 15 (.d (.int .i64 a2))) 1 (.d (.int .i64 a1))) 0 (.r (.ptr 0 0 0))), (up (up (hB fun _ => 0) 1 ⟨0, some (.own 31 6 (e_GAct.cells a7))⟩) 0 ⟨0, some (.box ((.d (.int .i64 a2)) :: ((.d (.int .i64 a3)) :: ((.d (.str a4)) :: ((.d (.str a5)) :: ((.d (.str a6)) :: ((.r (.msl 1 0 0 a7.length)) :: [])))))))⟩)⟩
noncomputable def f26_j2 (a1 : Int) (a2 : Int) (a3 : Int) (a4 : List UInt8) (a5 : List UInt8) (a6 : List UInt8) (a7 : List GAct) (p64 : Bool) : Option (Int × Int × (List UInt8) × (List UInt8) × (List UInt8) × (List GAct)) := (bif p64 then ((f55 a1 a2 a3 a4 a5 a6 a7).bind fun z19 => (some (z19.1, z19.2.1, z19.2.2.1, z19.2.2.2.1, z19.2.2.2.2.1, z19.2.2.2.2.2))) else (bif (decide (a2 = 8)) then (f26_j3 a1 a2 a3 a4 a5 a6 a7 true) else (bif (decide (a2 = 10)) then (f26_j3 a1 a2 a3 a4 a5 a6 a7 true) else (f26_j3 a1 a2 a3 a4 a5 a6 a7 false))))
theorem f26_j2_ok {d : Nat} (hd : 5 ≤ d) (a1 : Int) (a2 : Int) (a3 : Int) (a4 : List UInt8) (a5 : List UInt8) (a6 : List UInt8) (a7 : List GAct) {r : Int × Int × (List UInt8) × (List UInt8) × (List UInt8) × (List GAct)} {Q : PX → St → Prop} (hQ : ∀ e st', f26_Q r e st' → Q e st') (p64 : Bool) (hS : f26_j2 a1 a2 a3 a4 a5 a6 a7 p64 = some r) {st : St} (he : keepSt [0, 1, 15, 16] [(0, .id 0), (1, .id 1)] [] st = f26_j2_J a1 a2 a3 a4 a5 a6 a7 p64) : ZR (lev codes baseL (d - 1)) Q c26_3 [.blk 0, .seq c26_1] st := by
  refine zrKeep he ?_
  unfold f26_j2 at hS
  refine zrSplit 16 p64 (by kernel_rfl) (fun hc => ?_) (fun hc => ?_)
  · replace hS := cond_t hc hS
    refine zrCondT (by kernel_rfl) ?_
    refine zrSeq ?_
    refine zrReg ?_
    refine zlRun (n := 2) (j := 2) rfl (by kernel_rfl) ?_
    refine bindE hS (fun z19 hz19 hS => ?_)
    refine zlOp (d := some 21) (op := (.callr 55 [(.tmp 19), (.tmp 20)])) (g := none) (v := (.tup [])) (ups := [(0, ⟨0, some (.box ((.d (.int .i64 z19.1)) :: ((.d (.int .i64 z19.2.1)) :: ((.d (.str z19.2.2.1)) :: ((.d (.str z19.2.2.2.1)) :: ((.d (.str z19.2.2.2.2.1)) :: ((.r (.msl 1 1 0 z19.2.2.2.2.2.length)) :: [])))))))⟩), (1, ⟨1, some (.own 31 6 (e_GAct.cells z19.2.2.2.2.2))⟩)]) (j := 3) rfl (by kernel_rfl) (by kernel_rfl) (ev_callr (args := [(.r (.ptr 0 0 0)), (.d (.int .i64 a1))]) (ids := [0, 1]) (bs := [(.box ((.d (.int .i64 a2)) :: ((.d (.int .i64 a3)) :: ((.d (.str a4)) :: ((.d (.str a5)) :: ((.d (.str a6)) :: ((.r (.msl 1 0 0 a7.length)) :: []))))))), (.own 31 6 (e_GAct.cells a7))]) (l := [(.r (.ptr 0 0 0)), (.d (.int .i64 a1))]) (bt := [(.box ((.d (.int .i64 a2)) :: ((.d (.int .i64 a3)) :: ((.d (.str a4)) :: ((.d (.str a5)) :: ((.d (.str a6)) :: ((.r (.msl 1 0 0 a7.length)) :: []))))))), (.own 31 6 (e_GAct.cells a7))]) (r := (.tup [])) (bs' := [(.box ((.d (.int .i64 z19.1)) :: ((.d (.int .i64 z19.2.1)) :: ((.d (.str z19.2.2.1)) :: ((.d (.str z19.2.2.2.1)) :: ((.d (.str z19.2.2.2.2.1)) :: ((.r (.msl 1 0 0 z19.2.2.2.2.2.length)) :: []))))))), (.own 31 6 (e_GAct.cells z19.2.2.2.2.2))]) (by kernel_rfl) (by kernel_rfl) (by kernel_rfl) (by kernel_rfl) (by kernel_rfl) (f55_ok (d - 1) (dpt hd rfl) a1 a2 a3 a4 a5 a6 a7 z19 hz19) (by kernel_rfl) (by kernel_rfl)) ?_
    refine zlEnd (by kernel_rfl) ?_
    refine zkSeq ?_
    refine zrRet ?_
    refine zkBlkR ?_
    refine zkSeqR ?_
    refine zkNil ?_
    exact endQ hS hQ (fRet ((congrArg (fun s => outR s 2 c26.res) (by kernel_rfl : finSt c26.fin _ = f26_fin z19.1 z19.2.1 z19.2.2.1 z19.2.2.2.1 z19.2.2.2.2.1 z19.2.2.2.2.2)).trans (f26_out z19.1 z19.2.1 z19.2.2.1 z19.2.2.2.1 z19.2.2.2.2.1 z19.2.2.2.2.2)))
  · replace hS := cond_f hc hS
    refine zrCondF (by kernel_rfl) ?_
    refine zrSeq ?_
    refine zrSeq ?_
    refine zrReg ?_
    refine zlBool (d := 23) (op := (.cmpI .eql (.tmp 15) (.const (.int .i64 8)))) (g := none) (j := 1) (decide (a2 = 8)) rfl (by kernel_rfl) (by kernel_rfl) (by kernel_rfl) (fun hc => ?_) (fun hc => ?_)
    · replace hS := cond_t hc hS
      refine zlRun (n := 1) (j := 2) rfl (by kernel_rfl) ?_
      refine zlEnd (by kernel_rfl) ?_
      refine zkSeq ?_
      refine zrCondT (by kernel_rfl) ?_
      refine zrSkip ?_
      refine zkSeq ?_
      exact f26_j3_ok hd a1 a2 a3 a4 a5 a6 a7 hQ true hS (by kernel_rfl)
    · replace hS := cond_f hc hS
      refine zlRun (n := 1) (j := 2) rfl (by kernel_rfl) ?_
      refine zlEnd (by kernel_rfl) ?_
      refine zkSeq ?_
      refine zrCondF (by kernel_rfl) ?_
      refine zrReg ?_
      refine zlBool (d := 24) (op := (.cmpI .eql (.tmp 15) (.const (.int .i64 10)))) (g := none) (j := 1) (decide (a2 = 10)) rfl (by kernel_rfl) (by kernel_rfl) (by kernel_rfl) (fun hc => ?_) (fun hc => ?_)
      · replace hS := cond_t hc hS
        refine zlRun (n := 1) (j := 2) rfl (by kernel_rfl) ?_
        refine zlEnd (by kernel_rfl) ?_
        refine zkSeq ?_
        exact f26_j3_ok hd a1 a2 a3 a4 a5 a6 a7 hQ true hS (by kernel_rfl)
      · replace hS := cond_f hc hS
        refine zlRun (n := 1) (j := 2) rfl (by kernel_rfl) ?_
        refine zlEnd (by kernel_rfl) ?_
        refine zkSeq ?_
        exact f26_j3_ok hd a1 a2 a3 a4 a5 a6 a7 hQ false hS (by kernel_rfl)
def f26_j0_J (a1 : Int) (a2 : Int) (a3 : Int) (a4 : List UInt8) (a5 : List UInt8) (a6 : List UInt8) (a7 : List GAct) : St := ⟨(up (up (fun _ => .un) 1 (.d (.int .i64 a1))) 0 (.r (.ptr 0 0 0))), (up (up (hB fun _ => 0) 1 ⟨0, some (.own 31 6 (e_GAct.cells a7))⟩) 0 ⟨0, some (.box ((.d (.int .i64 a2)) :: ((.d (.int .i64 a3)) :: ((.d (.str a4)) :: ((.d (.str a5)) :: ((.d (.str a6)) :: ((.r (.msl 1 0 0 a7.length)) :: [])))))))⟩)⟩
noncomputable def f26_j0 (a1 : Int) (a2 : Int) (a3 : Int) (a4 : List UInt8) (a5 : List UInt8) (a6 : List UInt8) (a7 : List GAct) : Option (Int × Int × (List UInt8) × (List UInt8) × (List UInt8) × (List GAct)) := (bif (decide (a2 = 7)) then (f26_j2 a1 a2 a3 a4 a5 a6 a7 true) else (bif (decide (a2 = 9)) then (f26_j2 a1 a2 a3 a4 a5 a6 a7 true) else (f26_j2 a1 a2 a3 a4 a5 a6 a7 false)))
theorem f26_j0_ok {d : Nat} (hd : 5 ≤ d) (a1 : Int) (a2 : Int) (a3 : Int) (a4 : List UInt8) (a5 : List UInt8) (a6 : List UInt8) (a7 : List GAct) {r : Int × Int × (List UInt8) × (List UInt8) × (List UInt8) × (List GAct)} {Q : PX → St → Prop} (hQ : ∀ e st', f26_Q r e st' → Q e st')  (hS : f26_j0 a1 a2 a3 a4 a5 a6 a7 = some r) {st : St} (he : keepSt [0, 1] [(0, .id 0), (1, .id 1)] [] st = f26_j0_J a1 a2 a3 a4 a5 a6 a7) : ZR (lev codes baseL (d - 1)) Q c26_4 [] st := by
  refine zrKeep he ?_
  unfold f26_j0 at hS
  refine zrSeq ?_
  refine zrSeq ?_
  refine zrReg ?_
  refine zlRun (n := 5) (j := 5) rfl (by kernel_rfl) ?_
  refine zlEnd (by kernel_rfl) ?_
  refine zkSeq ?_
  refine zrBlk ?_
  refine zrSeq ?_
  refine zrSeq ?_
  refine zrReg ?_
  refine zlBool (d := 17) (op := (.cmpI .eql (.tmp 15) (.const (.int .i64 7)))) (g := none) (j := 1) (decide (a2 = 7)) rfl (by kernel_rfl) (by kernel_rfl) (by kernel_rfl) (fun hc => ?_) (fun hc => ?_)
  · replace hS := cond_t hc hS
    refine zlRun (n := 1) (j := 2) rfl (by kernel_rfl) ?_
    refine zlEnd (by kernel_rfl) ?_
    refine zkSeq ?_
    refine zrCondT (by kernel_rfl) ?_
    refine zrSkip ?_
    refine zkSeq ?_
    exact f26_j2_ok hd a1 a2 a3 a4 a5 a6 a7 hQ true hS (by kernel_rfl)
  · replace hS := cond_f hc hS
    refine zlRun (n := 1) (j := 2) rfl (by kernel_rfl) ?_
    refine zlEnd (by kernel_rfl) ?_
    refine zkSeq ?_
    refine zrCondF (by kernel_rfl) ?_
    refine zrReg ?_
    refine zlBool (d := 18) (op := (.cmpI .eql (.tmp 15) (.const (.int .i64 9)))) (g := none) (j := 1) (decide (a2 = 9)) rfl (by kernel_rfl) (by kernel_rfl) (by kernel_rfl) (fun hc => ?_) (fun hc => ?_)
    · replace hS := cond_t hc hS
      refine zlRun (n := 1) (j := 2) rfl (by kernel_rfl) ?_
      refine zlEnd (by kernel_rfl) ?_
      refine zkSeq ?_
      exact f26_j2_ok hd a1 a2 a3 a4 a5 a6 a7 hQ true hS (by kernel_rfl)
    · replace hS := cond_f hc hS
      refine zlRun (n := 1) (j := 2) rfl (by kernel_rfl) ?_
      refine zlEnd (by kernel_rfl) ?_
      refine zkSeq ?_
      exact f26_j2_ok hd a1 a2 a3 a4 a5 a6 a7 hQ false hS (by kernel_rfl)
noncomputable def f26 (a1 : Int) (a2 : Int) (a3 : Int) (a4 : List UInt8) (a5 : List UInt8) (a6 : List UInt8) (a7 : List GAct) : Option (Int × Int × (List UInt8) × (List UInt8) × (List UInt8) × (List GAct)) := (bif (decide (a1 < 0)) then (some (a2, a3, a4, a5, a6, a7)) else (bif (decide (1114111 < a1)) then (some (a2, a3, a4, a5, a6, a7)) else (f26_j0 a1 a2 a3 a4 a5 a6 a7 )))
theorem f26_ok (d : Nat) (hd : 5 ≤ d) (a1 : Int) (a2 : Int) (a3 : Int) (a4 : List UInt8) (a5 : List UInt8) (a6 : List UInt8) (a7 : List GAct) (r : Int × Int × (List UInt8) × (List UInt8) × (List UInt8) × (List GAct)) (hS : f26 a1 a2 a3 a4 a5 a6 a7 = some r) : lev codes baseL d 26 [(.r (.ptr 0 0 0)), (.d (.int .i64 a1))] [(.box ((.d (.int .i64 a2)) :: ((.d (.int .i64 a3)) :: ((.d (.str a4)) :: ((.d (.str a5)) :: ((.d (.str a6)) :: ((.r (.msl 1 0 0 a7.length)) :: []))))))), (.own 31 6 (e_GAct.cells a7))] = some ((.tup []), [(.box ((.d (.int .i64 r.1)) :: ((.d (.int .i64 r.2.1)) :: ((.d (.str r.2.2.1)) :: ((.d (.str r.2.2.2.1)) :: ((.d (.str r.2.2.2.2.1)) :: ((.r (.msl 1 0 0 r.2.2.2.2.2.length)) :: []))))))), (.own 31 6 (e_GAct.cells r.2.2.2.2.2))]) := by
  refine lev_go codes26 rfl rfl (Nat.le_trans (Nat.le_of_ble_eq_true rfl) hd) fun Q hQ => ?_
  unfold f26 at hS
  show ZR _ Q c26_b [] _
  replace hQ : ∀ e st', f26_Q r e st' → Q e st' := hQ
  refine zrSeq ?_
  refine zrSeq ?_
  refine zrReg ?_
  refine zlRun (n := 1) (j := 1) rfl (by kernel_rfl) ?_
  refine zlBool (d := 6) (op := (.cmpI .lss (.tmp 5) (.const (.int .i64 0)))) (g := none) (j := 2) (decide (a1 < 0)) rfl (by kernel_rfl) (by kernel_rfl) (by kernel_rfl) (fun hc => ?_) (fun hc => ?_)
  · replace hS := cond_t hc hS
    refine zlRun (n := 4) (j := 6) rfl (by kernel_rfl) ?_
    refine zlEnd (by kernel_rfl) ?_
    refine zkSeq ?_
    refine zrCondT (by kernel_rfl) ?_
    refine zrRet ?_
    refine zkSeqR ?_
    refine zkNil ?_
    exact endQ hS hQ (fRet ((congrArg (fun s => outR s 2 c26.res) (by kernel_rfl : finSt c26.fin _ = f26_fin a2 a3 a4 a5 a6 a7)).trans (f26_out a2 a3 a4 a5 a6 a7)))
  · replace hS := cond_f hc hS
    refine zlRun (n := 2) (j := 4) rfl (by kernel_rfl) ?_
    refine zlBool (d := 9) (op := (.cmpI .gtr (.tmp 8) (.const (.int .i64 1114111)))) (g := (some (7, false))) (j := 5) (decide (1114111 < a1)) rfl (by kernel_rfl) (by kernel_rfl) (by kernel_rfl) (fun hc => ?_) (fun hc => ?_)
    · replace hS := cond_t hc hS
      refine zlRun (n := 1) (j := 6) rfl (by kernel_rfl) ?_
      refine zlEnd (by kernel_rfl) ?_
      refine zkSeq ?_
      refine zrCondT (by kernel_rfl) ?_
      refine zrRet ?_
      refine zkSeqR ?_
      refine zkNil ?_
      exact endQ hS hQ (fRet ((congrArg (fun s => outR s 2 c26.res) (by kernel_rfl : finSt c26.fin _ = f26_fin a2 a3 a4 a5 a6 a7)).trans (f26_out a2 a3 a4 a5 a6 a7)))
    · replace hS := cond_f hc hS
      refine zlRun (n := 1) (j := 6) rfl (by kernel_rfl) ?_
      refine zlEnd (by kernel_rfl) ?_
      refine zkSeq ?_
      refine zrCondF (by kernel_rfl) ?_
      refine zrSkip ?_
      refine zkSeq ?_
      exact f26_j0_ok hd a1 a2 a3 a4 a5 a6 a7 hQ  hS (by kernel_rfl)
/- farwriter/parse.Feed -/
def f11_fin (p42 : GParser) (p43 : List GAct) (p44 : Int) : St := ⟨(up (up (up (fun _ => .un) 6 (.d (.int .i64 p44))) 5 (.r (.msl 338 0 0 p43.length))) 4 (.r (.ptr 40 0 0))), (up (up (hB fun _ => 0) 338 ⟨0, some (.own 31 6 (e_GAct.cells p43))⟩) 40 ⟨0, some (.box ((.d (.int .i64 p42.State)) :: ((.d (.int .i64 p42.Mark)) :: ((.d (.str p42.Inter)) :: ((.d (.str p42.Args)) :: ((.d (.str p42.Text)) :: []))))))⟩)⟩
theorem f11_out (p42 : GParser) (p43 : List GAct) (p44 : Int) : outR (f11_fin p42 p43 p44) 0 c11.res = some ((.tup [(.agg ((.d (.int .i64 p42.State)) :: ((.d (.int .i64 p42.Mark)) :: ((.d (.str p42.Inter)) :: ((.d (.str p42.Args)) :: ((.d (.str p42.Text)) :: [])))))), (.r (.own 0 31 6 p43.length (e_GAct.cells p43))), (.d (.int .i64 p44))]), []) := by
  exact out_of (ids := []) (ids' := [338]) (l := [(.agg ((.d (.int .i64 p42.State)) :: ((.d (.int .i64 p42.Mark)) :: ((.d (.str p42.Inter)) :: ((.d (.str p42.Args)) :: ((.d (.str p42.Text)) :: [])))))), (.r (.msl 338 0 0 p43.length)), (.d (.int .i64 p44))]) (by kernel_rfl) (by kernel_rfl) (o_tup (o_cons rfl (o_cons (o_own e_GAct (e := 31) (k := 6) (xs := p43) (by kernel_rfl) rfl rfl rfl rfl) (o_cons rfl o_nil))))
def f11_Q (r : GParser × (List GAct) × Int) (e : PX) (st : St) : Prop := DoneF c11 0 ((.tup [(.agg ((.d (.int .i64 r.1.State)) :: ((.d (.int .i64 r.1.Mark)) :: ((.d (.str r.1.Inter)) :: ((.d (.str r.1.Args)) :: ((.d (.str r.1.Text)) :: [])))))), (.r (.own 0 31 6 r.2.1.length (e_GAct.cells r.2.1))), (.d (.int .i64 r.2.2))]), []) e st
def f11_j1_J (a1 : GParser) (a2 : List Int) (p47 : Int) (p48 : Int) (p49 : List UInt8) (p50 : List UInt8) (p51 : List UInt8) (p52 : List GAct) : St := ⟨(up (up (fun _ => .un) 8 (.r (.ptr 160 0 0))) 4 (.r (.ptr 40 0 0))), (up (up (up (hB fun _ => 0) 337 ⟨0, some (.own 31 6 (e_GAct.cells p52))⟩) 160 ⟨0, some (.box ((.d (.int .i64 p47)) :: ((.d (.int .i64 p48)) :: ((.d (.str p49)) :: ((.d (.str p50)) :: ((.d (.str p51)) :: ((.r (.msl 337 0 0 p52.length)) :: [])))))))⟩) 40 ⟨0, some (.box ((.d (.int .i64 0)) :: ((.d (.int .i64 0)) :: ((.d (.str ([]))) :: ((.d (.str ([]))) :: ((.d (.str ([]))) :: []))))))⟩)⟩
noncomputable def f11_j1 (a1 : GParser) (a2 : List Int) (p47 : Int) (p48 : Int) (p49 : List UInt8) (p50 : List UInt8) (p51 : List UInt8) (p52 : List GAct) : Option (GParser × (List GAct) × Int) := (some ((GParser.mk p47 p48 p49 p50 p51), p52, 0))
theorem f11_j1_ok {d : Nat} (hd : 6 ≤ d) (a1 : GParser) (a2 : List Int) {r : GParser × (List GAct) × Int} {Q : PX → St → Prop} (hQ : ∀ e st', f11_Q r e st' → Q e st') (p47 : Int) (p48 : Int) (p49 : List UInt8) (p50 : List UInt8) (p51 : List UInt8) (p52 : List GAct) (hS : f11_j1 a1 a2 p47 p48 p49 p50 p51 p52 = some r) {st : St} (he : keepSt [4, 8] [(40, .id 40), (160, .id 160), (337, .id 337)] [] st = f11_j1_J a1 a2 p47 p48 p49 p50 p51 p52) : ZR (lev codes baseL (d - 1)) Q c11_1 [] st := by
  refine zrKeep he ?_
  unfold f11_j1 at hS
  refine zrSeq ?_
  refine zrRegD ?_
  refine zdRun (n := 11) (j := 11) (ts := [[], [], [], [(160, false)], [], [], [], [(160, false)], [(40, true)], [], []]) (acc' := [[], [], [], [(160, false)], [], [], [], [(160, false)], [(40, true)], [], []]) rfl (by kernel_rfl) (by kernel_rfl) (by kernel_rfl) ?_
  refine zdEnd (by kernel_rfl) (by kernel_rfl) ?_
  refine zkSeq ?_
  refine zrRet ?_
  refine zkNil ?_
  exact endQ hS hQ (fRet ((congrArg (fun s => outR s 0 c11.res) (by kernel_rfl : finSt c11.fin _ = f11_fin (GParser.mk p47 p48 p49 p50 p51) p52 0)).trans (f11_out (GParser.mk p47 p48 p49 p50 p51) p52 0)))
def f11_l2_J (a1 : GParser) (a2 : List Int) (x : Int × Int × (List UInt8) × (List UInt8) × (List UInt8) × (List GAct) × Int) : St := ⟨(up (up (up (up (up (fun _ => .un) 22 (.d (.int .i64 x.2.2.2.2.2.2))) 21 (.d (.int .i64 (a2.length : Int)))) 20 (.d (.sl a2.length ((eInt .i64).cells a2)))) 8 (.r (.ptr 160 0 0))) 4 (.r (.ptr 40 0 0))), (up (up (up (hB fun _ => 0) 337 ⟨0, some (.own 31 6 (e_GAct.cells x.2.2.2.2.2.1))⟩) 160 ⟨0, some (.box ((.d (.int .i64 x.1)) :: ((.d (.int .i64 x.2.1)) :: ((.d (.str x.2.2.1)) :: ((.d (.str x.2.2.2.1)) :: ((.d (.str x.2.2.2.2.1)) :: ((.r (.msl 337 0 0 x.2.2.2.2.2.1.length)) :: [])))))))⟩) 40 ⟨0, some (.box ((.d (.int .i64 0)) :: ((.d (.int .i64 0)) :: ((.d (.str ([]))) :: ((.d (.str ([]))) :: ((.d (.str ([]))) :: []))))))⟩)⟩
def f11_l2_H (a1 : GParser) (a2 : List Int) (x : Int × Int × (List UInt8) × (List UInt8) × (List UInt8) × (List GAct) × Int) (st : St) : Prop := keepSt [4, 8, 20, 21, 22] [(40, .id 40), (160, .id 160), (337, (.cell 160 5))] [.cell 160 5 337 31 6] st = f11_l2_J a1 a2 x
def f11_l2_e0_J (a1 : GParser) (a2 : List Int) (p36 : Int) (p37 : Int) (p38 : List UInt8) (p39 : List UInt8) (p40 : List UInt8) (p41 : List GAct) : St := ⟨(up (up (fun _ => .un) 8 (.r (.ptr 160 0 0))) 4 (.r (.ptr 40 0 0))), (up (up (up (hB fun _ => 0) 337 ⟨0, some (.own 31 6 (e_GAct.cells p41))⟩) 160 ⟨0, some (.box ((.d (.int .i64 p36)) :: ((.d (.int .i64 p37)) :: ((.d (.str p38)) :: ((.d (.str p39)) :: ((.d (.str p40)) :: ((.r (.msl 337 0 0 p41.length)) :: [])))))))⟩) 40 ⟨0, some (.box ((.d (.int .i64 0)) :: ((.d (.int .i64 0)) :: ((.d (.str ([]))) :: ((.d (.str ([]))) :: ((.d (.str ([]))) :: []))))))⟩)⟩
def f11_l2_X (a1 : GParser) (a2 : List Int) (z : (Int × Int × (List UInt8) × (List UInt8) × (List UInt8) × (List GAct))) (e : PX) (st : St) : Prop := e = .exit 0 ∧ st = f11_l2_e0_J a1 a2 z.1 z.2.1 z.2.2.1 z.2.2.2.1 z.2.2.2.2.1 z.2.2.2.2.2
def f11_l2_j4_J (a1 : GParser) (a2 : List Int) (p69 : Int) (p70 : Int) (p71 : List UInt8) (p72 : List UInt8) (p73 : List UInt8) (p74 : List GAct) (p75 : Int) : St := ⟨(up (up (up (up (up (fun _ => .un) 22 (.d (.int .i64 p75))) 21 (.d (.int .i64 (a2.length : Int)))) 20 (.d (.sl a2.length ((eInt .i64).cells a2)))) 8 (.r (.ptr 160 0 0))) 4 (.r (.ptr 40 0 0))), (up (up (up (hB fun _ => 0) 337 ⟨0, some (.own 31 6 (e_GAct.cells p74))⟩) 160 ⟨0, some (.box ((.d (.int .i64 p69)) :: ((.d (.int .i64 p70)) :: ((.d (.str p71)) :: ((.d (.str p72)) :: ((.d (.str p73)) :: ((.r (.msl 337 0 0 p74.length)) :: [])))))))⟩) 40 ⟨0, some (.box ((.d (.int .i64 0)) :: ((.d (.int .i64 0)) :: ((.d (.str ([]))) :: ((.d (.str ([]))) :: ((.d (.str ([]))) :: []))))))⟩)⟩
noncomputable def f11_l2_j4 (a1 : GParser) (a2 : List Int) (p69 : Int) (p70 : Int) (p71 : List UInt8) (p72 : List UInt8) (p73 : List UInt8) (p74 : List GAct) (p75 : Int) : Option ((Int × Int × (List UInt8) × (List UInt8) × (List UInt8) × (List GAct) × Int) ⊕ ((Int × Int × (List UInt8) × (List UInt8) × (List UInt8) × (List GAct)))) := ((idx a2 p75).bind fun z9 => ((f26 z9 p69 p70 p71 p72 p73 p74).bind fun z10 => (some (.inl (z10.1, z10.2.1, z10.2.2.1, z10.2.2.2.1, z10.2.2.2.2.1, z10.2.2.2.2.2, (IntKind.i64.wrap (p75 + 1)))))))
theorem f11_l2_j4_ok {d : Nat} (hd : 6 ≤ d) (a1 : GParser) (a2 : List Int) {r : (Int × Int × (List UInt8) × (List UInt8) × (List UInt8) × (List GAct) × Int) ⊕ ((Int × Int × (List UInt8) × (List UInt8) × (List UInt8) × (List GAct)))} {Q : PX → St → Prop} (hQ : ∀ e st', finL (f11_l2_H a1 a2) (f11_l2_X a1 a2) r e st' → Q e st') (p69 : Int) (p70 : Int) (p71 : List UInt8) (p72 : List UInt8) (p73 : List UInt8) (p74 : List GAct) (p75 : Int) (hS : f11_l2_j4 a1 a2 p69 p70 p71 p72 p73 p74 p75 = some r) {st : St} (he : keepSt [4, 8, 20, 21, 22] [(40, .id 40), (160, .id 160), (337, .id 337)] [] st = f11_l2_j4_J a1 a2 p69 p70 p71 p72 p73 p74 p75) : ZR (lev codes baseL (d - 1)) Q c11_2 [] st := by
  refine zrKeep he ?_
  unfold f11_l2_j4 at hS
  refine zrSeq ?_
  refine zrBlk ?_
  refine zrSeq ?_
  refine zrReg ?_
  refine bindE hS (fun z9 hz9 hS => ?_)
  refine zlOp (d := some 24) (op := (.ixS 3 1 (.tmp 20) (.tmp 22))) (g := none) (v := (.rptr ((eInt .i64).enc z9 ++ ((eInt .i64).cells (a2.drop ((p75 : Int).toNat + 1)))))) (ups := []) (j := 1) rfl (by kernel_rfl) (by kernel_rfl) (ev_ixS (eInt .i64) (kk := .i64) (xs := a2) (j := p75) (by kernel_rfl) (by kernel_rfl) hz9 rfl (by intro h; cases h)) ?_
  refine zlRun (n := 2) (j := 3) rfl (by kernel_rfl) ?_
  refine zlEnd (by kernel_rfl) ?_
  refine zkSeq ?_
  refine zrReg ?_
  refine zlRun (n := 2) (j := 2) rfl (by kernel_rfl) ?_
  refine bindE hS (fun z10 hz10 hS => ?_)
  refine zlOp (d := some 28) (op := (.callr 26 [(.tmp 26), (.tmp 27)])) (g := none) (v := (.tup [])) (ups := [(160, ⟨0, some (.box ((.d (.int .i64 z10.1)) :: ((.d (.int .i64 z10.2.1)) :: ((.d (.str z10.2.2.1)) :: ((.d (.str z10.2.2.2.1)) :: ((.d (.str z10.2.2.2.2.1)) :: ((.r (.msl 337 1 0 z10.2.2.2.2.2.length)) :: [])))))))⟩), (337, ⟨1, some (.own 31 6 (e_GAct.cells z10.2.2.2.2.2))⟩)]) (j := 3) rfl (by kernel_rfl) (by kernel_rfl) (ev_callr (args := [(.r (.ptr 160 0 0)), (.d (.int .i64 z9))]) (ids := [160, 337]) (bs := [(.box ((.d (.int .i64 p69)) :: ((.d (.int .i64 p70)) :: ((.d (.str p71)) :: ((.d (.str p72)) :: ((.d (.str p73)) :: ((.r (.msl 337 0 0 p74.length)) :: []))))))), (.own 31 6 (e_GAct.cells p74))]) (l := [(.r (.ptr 0 0 0)), (.d (.int .i64 z9))]) (bt := [(.box ((.d (.int .i64 p69)) :: ((.d (.int .i64 p70)) :: ((.d (.str p71)) :: ((.d (.str p72)) :: ((.d (.str p73)) :: ((.r (.msl 1 0 0 p74.length)) :: []))))))), (.own 31 6 (e_GAct.cells p74))]) (r := (.tup [])) (bs' := [(.box ((.d (.int .i64 z10.1)) :: ((.d (.int .i64 z10.2.1)) :: ((.d (.str z10.2.2.1)) :: ((.d (.str z10.2.2.2.1)) :: ((.d (.str z10.2.2.2.2.1)) :: ((.r (.msl 1 0 0 z10.2.2.2.2.2.length)) :: []))))))), (.own 31 6 (e_GAct.cells z10.2.2.2.2.2))]) (by kernel_rfl) (by kernel_rfl) (by kernel_rfl) (by kernel_rfl) (by kernel_rfl) (f26_ok (d - 1) (dpt hd rfl) z9 p69 p70 p71 p72 p73 p74 z10 hz10) (by kernel_rfl) (by kernel_rfl)) ?_
  refine zlEnd (by kernel_rfl) ?_
  refine zkBlk ?_
  refine zkSeq ?_
  refine zrReg ?_
  refine zlRun (n := 2) (j := 2) rfl (by kernel_rfl) ?_
  refine zlEnd (by kernel_rfl) ?_
  refine zkNil ?_
  exact endQ hS hQ (finL_n (by show keepSt _ _ _ _ = _; kernel_rfl))
def f11_l2_j3_J (a1 : GParser) (a2 : List Int) (p61 : Int) (p62 : Int) (p63 : List UInt8) (p64 : List UInt8) (p65 : List UInt8) (p66 : List GAct) (p67 : Int) (p68 : Bool) : St := ⟨(up (up (up (up (up (up (fun _ => .un) 23 (.d (.bool p68))) 22 (.d (.int .i64 p67))) 21 (.d (.int .i64 (a2.length : Int)))) 20 (.d (.sl a2.length ((eInt .i64).cells a2)))) 8 (.r (.ptr 160 0 0))) 4 (.r (.ptr 40 0 0))), (up (up (up (hB fun _ => 0) 337 ⟨0, some (.own 31 6 (e_GAct.cells p66))⟩) 160 ⟨0, some (.box ((.d (.int .i64 p61)) :: ((.d (.int .i64 p62)) :: ((.d (.str p63)) :: ((.d (.str p64)) :: ((.d (.str p65)) :: ((.r (.msl 337 0 0 p66.length)) :: [])))))))⟩) 40 ⟨0, some (.box ((.d (.int .i64 0)) :: ((.d (.int .i64 0)) :: ((.d (.str ([]))) :: ((.d (.str ([]))) :: ((.d (.str ([]))) :: []))))))⟩)⟩
noncomputable def f11_l2_j3 (a1 : GParser) (a2 : List Int) (p61 : Int) (p62 : Int) (p63 : List UInt8) (p64 : List UInt8) (p65 : List UInt8) (p66 : List GAct) (p67 : Int) (p68 : Bool) : Option ((Int × Int × (List UInt8) × (List UInt8) × (List UInt8) × (List GAct) × Int) ⊕ ((Int × Int × (List UInt8) × (List UInt8) × (List UInt8) × (List GAct)))) := (bif p68 then (f11_l2_j4 a1 a2 p61 p62 p63 p64 p65 p66 p67) else (some (.inr (p61, p62, p63, p64, p65, p66))))
theorem f11_l2_j3_ok {d : Nat} (hd : 6 ≤ d) (a1 : GParser) (a2 : List Int) {r : (Int × Int × (List UInt8) × (List UInt8) × (List UInt8) × (List GAct) × Int) ⊕ ((Int × Int × (List UInt8) × (List UInt8) × (List UInt8) × (List GAct)))} {Q : PX → St → Prop} (hQ : ∀ e st', finL (f11_l2_H a1 a2) (f11_l2_X a1 a2) r e st' → Q e st') (p61 : Int) (p62 : Int) (p63 : List UInt8) (p64 : List UInt8) (p65 : List UInt8) (p66 : List GAct) (p67 : Int) (p68 : Bool) (hS : f11_l2_j3 a1 a2 p61 p62 p63 p64 p65 p66 p67 p68 = some r) {st : St} (he : keepSt [4, 8, 20, 21, 22, 23] [(40, .id 40), (160, .id 160), (337, .id 337)] [] st = f11_l2_j3_J a1 a2 p61 p62 p63 p64 p65 p66 p67 p68) : ZR (lev codes baseL (d - 1)) Q c11_3 [] st := by
  refine zrKeep he ?_
  unfold f11_l2_j3 at hS
  refine zrSeq ?_
  refine zrSplit 23 p68 (by kernel_rfl) (fun hc => ?_) (fun hc => ?_)
  · replace hS := cond_t hc hS
    refine zrCondT (by kernel_rfl) ?_
    refine zrSkip ?_
    refine zkSeq ?_
    exact f11_l2_j4_ok hd a1 a2 hQ p61 p62 p63 p64 p65 p66 p67 hS (by kernel_rfl)
  · replace hS := cond_f hc hS
    refine zrCondF (by kernel_rfl) ?_
    refine zrKeep (J := f11_l2_e0_J a1 a2 p61 p62 p63 p64 p65 p66) (by kernel_rfl) ?_
    refine zrExit ?_
    refine zkSeqX ?_
    refine zkNil ?_
    exact endQ hS hQ (finL_x (by intro h; cases h) (by show _ = _ ∧ _ = _; exact ⟨rfl, rfl⟩))
noncomputable def f11_l2 (a1 : GParser) (a2 : List Int) (x : Int × Int × (List UInt8) × (List UInt8) × (List UInt8) × (List GAct) × Int) : Option ((Int × Int × (List UInt8) × (List UInt8) × (List UInt8) × (List GAct) × Int) ⊕ ((Int × Int × (List UInt8) × (List UInt8) × (List UInt8) × (List GAct)))) := (bif (decide (x.2.2.2.2.2.2 < (a2.length : Int))) then (f11_l2_j3 a1 a2 x.1 x.2.1 x.2.2.1 x.2.2.2.1 x.2.2.2.2.1 x.2.2.2.2.2.1 x.2.2.2.2.2.2 true) else (f11_l2_j3 a1 a2 x.1 x.2.1 x.2.2.1 x.2.2.2.1 x.2.2.2.2.1 x.2.2.2.2.2.1 x.2.2.2.2.2.2 false))
theorem f11_l2_ok {d : Nat} (hd : 6 ≤ d) (a1 : GParser) (a2 : List Int) {r : (Int × Int × (List UInt8) × (List UInt8) × (List UInt8) × (List GAct) × Int) ⊕ ((Int × Int × (List UInt8) × (List UInt8) × (List UInt8) × (List GAct)))} {Q : PX → St → Prop} (hQ : ∀ e st', finL (f11_l2_H a1 a2) (f11_l2_X a1 a2) r e st' → Q e st') {x : Int × Int × (List UInt8) × (List UInt8) × (List UInt8) × (List GAct) × Int} (hS : f11_l2 a1 a2 x = some r) {st : St} (he : f11_l2_H a1 a2 x st) : ZR (lev codes baseL (d - 1)) Q c11_4 [] st := by
  refine zrKeep he ?_
  unfold f11_l2 at hS
  refine zrSeq ?_
  refine zrReg ?_
  refine zlBool (d := 23) (op := (.cmpI .lss (.tmp 22) (.tmp 21))) (g := none) (j := 1) (decide (x.2.2.2.2.2.2 < (a2.length : Int))) rfl (by kernel_rfl) (by kernel_rfl) (by kernel_rfl) (fun hc => ?_) (fun hc => ?_)
  · replace hS := cond_t hc hS
    refine zlEnd (by kernel_rfl) ?_
    refine zkSeq ?_
    exact f11_l2_j3_ok hd a1 a2 hQ x.1 x.2.1 x.2.2.1 x.2.2.2.1 x.2.2.2.2.1 x.2.2.2.2.2.1 x.2.2.2.2.2.2 true hS (by kernel_rfl)
  · replace hS := cond_f hc hS
    refine zlEnd (by kernel_rfl) ?_
    refine zkSeq ?_
    exact f11_l2_j3_ok hd a1 a2 hQ x.1 x.2.1 x.2.2.1 x.2.2.2.1 x.2.2.2.2.1 x.2.2.2.2.2.1 x.2.2.2.2.2.2 false hS (by kernel_rfl)
def f11_j0_J (a1 : GParser) (a2 : List Int) : St := ⟨(up (up (up (fun _ => .un) 4 (.r (.ptr 40 0 0))) 2 (.r (.ptr 24 0 0))) 1 (.d (.sl a2.length ((eInt .i64).cells a2)))), (up (up (hB fun _ => 0) 40 ⟨0, some (.box ((.d (.int .i64 0)) :: ((.d (.int .i64 0)) :: ((.d (.str ([]))) :: ((.d (.str ([]))) :: ((.d (.str ([]))) :: []))))))⟩) 24 ⟨0, some (.box ((.d (.int .i64 a1.State)) :: ((.d (.int .i64 a1.Mark)) :: ((.d (.str a1.Inter)) :: ((.d (.str a1.Args)) :: ((.d (.str a1.Text)) :: []))))))⟩)⟩
noncomputable def f11_j0 (a1 : GParser) (a2 : List Int) : Option (GParser × (List GAct) × Int) := ((loopO (f11_l2 a1 a2) (a1.State, a1.Mark, a1.Inter, a1.Args, a1.Text, [], 0)).bind fun z11 => (f11_j1 a1 a2 z11.1 z11.2.1 z11.2.2.1 z11.2.2.2.1 z11.2.2.2.2.1 z11.2.2.2.2.2))
theorem f11_j0_ok {d : Nat} (hd : 6 ≤ d) (a1 : GParser) (a2 : List Int) {r : GParser × (List GAct) × Int} {Q : PX → St → Prop} (hQ : ∀ e st', f11_Q r e st' → Q e st')  (hS : f11_j0 a1 a2 = some r) {st : St} (he : keepSt [1, 2, 4] [(24, .id 24), (40, .id 40)] [] st = f11_j0_J a1 a2) : ZR (lev codes baseL (d - 1)) Q c11_5 [] st := by
  refine zrKeep he ?_
  unfold f11_j0 at hS
  refine zrSeq ?_
  refine zrReg ?_
  refine zlRun (n := 4) (j := 4) rfl (by kernel_rfl) ?_
  refine zlEnd (by kernel_rfl) ?_
  refine zkSeq ?_
  refine zrSeq ?_
  refine zrSeq ?_
  refine zrReg ?_
  refine zlRun (n := 3) (j := 3) rfl (by kernel_rfl) ?_
  refine zlEnd (by kernel_rfl) ?_
  refine zkSeq ?_
  refine zrBlk ?_
  refine bindE hS (fun z11 hz11 hS => ?_)
  refine zrLoop (f11_l2_H a1 a2) (f11_l2_X a1 a2) (fun x st r Q h0 hS hQ => f11_l2_ok hd a1 a2 hQ hS h0) (x := (a1.State, a1.Mark, a1.Inter, a1.Args, a1.Text, [], 0)) (z := z11) (by show keepSt _ _ _ _ = _; kernel_rfl) hz11 ?_
  intro e st' _ hX
  obtain ⟨rfl, rfl⟩ : _ ∧ _ := hX
  refine zkBlkX ?_
  refine zkSeq ?_
  exact f11_j1_ok hd a1 a2 hQ z11.1 z11.2.1 z11.2.2.1 z11.2.2.2.1 z11.2.2.2.2.1 z11.2.2.2.2.2 hS (by kernel_rfl)
noncomputable def f11 (a1 : GParser) (a2 : List Int) : Option (GParser × (List GAct) × Int) := ((f15 a1).bind fun z12 => (bif (!decide (z12 = 0)) then (some (a1, [], z12)) else (f11_j0 a1 a2 )))
theorem f11_ok (d : Nat) (hd : 6 ≤ d) (a1 : GParser) (a2 : List Int) (r : GParser × (List GAct) × Int) (hS : f11 a1 a2 = some r) : lev codes baseL d 11 [(.agg ((.d (.int .i64 a1.State)) :: ((.d (.int .i64 a1.Mark)) :: ((.d (.str a1.Inter)) :: ((.d (.str a1.Args)) :: ((.d (.str a1.Text)) :: [])))))), (.d (.sl a2.length ((eInt .i64).cells a2)))] [] = some ((.tup [(.agg ((.d (.int .i64 r.1.State)) :: ((.d (.int .i64 r.1.Mark)) :: ((.d (.str r.1.Inter)) :: ((.d (.str r.1.Args)) :: ((.d (.str r.1.Text)) :: [])))))), (.r (.own 0 31 6 r.2.1.length (e_GAct.cells r.2.1))), (.d (.int .i64 r.2.2))]), []) := by
  refine lev_go codes11 rfl rfl (Nat.le_trans (Nat.le_of_ble_eq_true rfl) hd) fun Q hQ => ?_
  unfold f11 at hS
  show ZR _ Q c11_b [] _
  replace hQ : ∀ e st', f11_Q r e st' → Q e st' := hQ
  refine zrSeq ?_
  refine zrReg ?_
  refine zlRun (n := 4) (j := 4) rfl (by kernel_rfl) ?_
  refine zlEnd (by kernel_rfl) ?_
  refine zkSeq ?_
  refine zrSeq ?_
  refine zrSeq ?_
  refine zrReg ?_
  refine zlRun (n := 1) (j := 1) rfl (by kernel_rfl) ?_
  refine bindE hS (fun z12 hz12 hS => ?_)
  refine zlOp (d := some 12) (op := (.call 15 [(.tmp 11)])) (g := none) (v := (.d (.int .i64 z12))) (ups := []) (j := 2) rfl (by kernel_rfl) (by kernel_rfl) (ev_call (args := [(.agg ((.d (.int .i64 a1.State)) :: ((.d (.int .i64 a1.Mark)) :: ((.d (.str a1.Inter)) :: ((.d (.str a1.Args)) :: ((.d (.str a1.Text)) :: []))))))]) (l := [(.agg ((.d (.int .i64 a1.State)) :: ((.d (.int .i64 a1.Mark)) :: ((.d (.str a1.Inter)) :: ((.d (.str a1.Args)) :: ((.d (.str a1.Text)) :: []))))))]) (r := (.d (.int .i64 z12))) (by kernel_rfl) (by kernel_rfl) (f15_ok (d - 1) (dpt hd rfl) a1 z12 hz12) (by kernel_rfl) (by kernel_rfl) (by kernel_rfl)) ?_
  refine zlRun (n := 1) (j := 3) rfl (by kernel_rfl) ?_
  refine zlEnd (by kernel_rfl) ?_
  refine zkSeq ?_
  refine zrSeq ?_
  refine zrReg ?_
  refine zlRun (n := 1) (j := 1) rfl (by kernel_rfl) ?_
  refine zlBool (d := 14) (op := (.cmpI .neq (.tmp 13) (.const (.int .i64 0)))) (g := none) (j := 2) (!decide (z12 = 0)) rfl (by kernel_rfl) (by kernel_rfl) (by kernel_rfl) (fun hc => ?_) (fun hc => ?_)
  · replace hS := cond_t hc hS
    refine zlEnd (by kernel_rfl) ?_
    refine zkSeq ?_
    refine zrCondT (by kernel_rfl) ?_
    refine zrSeq ?_
    refine zrReg ?_
    refine zlRun (n := 5) (j := 5) rfl (by kernel_rfl) ?_
    refine zlEnd (by kernel_rfl) ?_
    refine zkSeq ?_
    refine zrRet ?_
    refine zkSeqR ?_
    refine zkNil ?_
    exact endQ hS hQ (fRet ((congrArg (fun s => outR s 0 c11.res) (by kernel_rfl : finSt c11.fin _ = f11_fin a1 [] z12)).trans (f11_out a1 [] z12)))
  · replace hS := cond_f hc hS
    refine zlEnd (by kernel_rfl) ?_
    refine zkSeq ?_
    refine zrCondF (by kernel_rfl) ?_
    refine zrSkip ?_
    refine zkSeq ?_
    exact f11_j0_ok hd a1 a2 hQ  hS (by kernel_rfl)
/- farwriter/farkeep.runesIn -/
def f27_fin (p11 : List Int) : St := ⟨(up (fun _ => .un) 2 (.r (.msl 32 0 0 p11.length))), (up (hB fun _ => 0) 32 ⟨0, some (.own 3 1 ((eInt .i64).cells p11))⟩)⟩
theorem f27_out (p11 : List Int) : outR (f27_fin p11) 0 c27.res = some ((.r (.own 0 3 1 p11.length ((eInt .i64).cells p11))), []) := by
  exact out_of (ids := []) (ids' := [32]) (l := [(.r (.msl 32 0 0 p11.length))]) (by kernel_rfl) (by kernel_rfl) (o_own (eInt .i64) (e := 3) (k := 1) (xs := p11) (by kernel_rfl) rfl rfl rfl rfl)
def f27_Q (r : (List Int)) (e : PX) (st : St) : Prop := DoneF c27 0 ((.r (.own 0 3 1 r.length ((eInt .i64).cells r))), []) e st
def f27_l0_J (a1 : List UInt8) (x : (List Int) × Int) : St := ⟨(up (up (fun _ => .un) 7 (.r (.ptr 64 0 0))) 3 (.r (.msl 32 0 0 x.1.length))), (up (up (hB fun _ => 0) 64 ⟨0, some (.box ((.tup [(.d (.str a1)), (.d (.int .i64 x.2))]) :: []))⟩) 32 ⟨0, some (.own 3 1 ((eInt .i64).cells x.1))⟩)⟩
def f27_l0_H (a1 : List UInt8) (x : (List Int) × Int) (st : St) : Prop := keepSt [3, 7] [(32, .id 32), (64, .id 64)] [] st = f27_l0_J a1 x
def f27_l0_e0_J (a1 : List UInt8) (p10 : List Int) : St := ⟨(up (fun _ => .un) 3 (.r (.msl 32 0 0 p10.length))), (up (hB fun _ => 0) 32 ⟨0, some (.own 3 1 ((eInt .i64).cells p10))⟩)⟩
def f27_l0_X (a1 : List UInt8) (z : ((List Int))) (e : PX) (st : St) : Prop := e = .exit 0 ∧ st = f27_l0_e0_J a1 z
def f27_l0_j1_J (a1 : List UInt8) (p12 : List Int) (p13 : Int) (p14 : Int) (p15 : Int) : St := ⟨(up (up (up (fun _ => .un) 8 (.tup [(.d (.bool true)), (.d (.int .i64 p14)), (.d (.int .i32 p15))])) 7 (.r (.ptr 64 0 0))) 3 (.r (.msl 32 0 0 p12.length))), (up (up (hB fun _ => 0) 64 ⟨0, some (.box ((.tup [(.d (.str a1)), (.d (.int .i64 p13))]) :: []))⟩) 32 ⟨0, some (.own 3 1 ((eInt .i64).cells p12))⟩)⟩
noncomputable def f27_l0_j1 (a1 : List UInt8) (p12 : List Int) (p13 : Int) (p14 : Int) (p15 : Int) : Option (((List Int) × Int) ⊕ (((List Int)))) := ((app? 8 p12 ([(IntKind.i64.wrap (p15))] : List Int)).bind fun z9 => (some (.inl (z9, p13))))
theorem f27_l0_j1_ok {d : Nat} (hd : 1 ≤ d) (a1 : List UInt8) {r : ((List Int) × Int) ⊕ (((List Int)))} {Q : PX → St → Prop} (hQ : ∀ e st', finL (f27_l0_H a1) (f27_l0_X a1) r e st' → Q e st') (p12 : List Int) (p13 : Int) (p14 : Int) (p15 : Int) (hS : f27_l0_j1 a1 p12 p13 p14 p15 = some r) {st : St} (he : keepSt [3, 7, 8] [(32, .id 32), (64, .id 64)] [] st = f27_l0_j1_J a1 p12 p13 p14 p15) : ZR (lev codes baseL (d - 1)) Q c27_1 [] st := by
  refine zrKeep he ?_
  unfold f27_l0_j1 at hS
  refine zrBlk ?_
  refine zrSeq ?_
  refine zrReg ?_
  refine zlRun (n := 2) (j := 2) rfl (by kernel_rfl) ?_
  refine zlEnd (by kernel_rfl) ?_
  refine zkSeq ?_
  refine zrReg ?_
  refine zlRun (n := 4) (j := 4) rfl (by kernel_rfl) ?_
  refine bindE hS (fun z9 hz9 hS => ?_)
  refine zlOp (d := some 15) (op := (.app 3 1 8 (.tmp 11) (.tmp 14))) (g := none) (v := (.r (.msl 32 1 0 z9.length))) (ups := [(32, ⟨1, some (.own 3 1 ((eInt .i64).cells z9))⟩)]) (j := 5) rfl (by kernel_rfl) (by kernel_rfl) (ev_app (eInt .i64) (b := 32) (g := 0) (n := p12.length) (xs := p12) (ys := [(IntKind.i64.wrap (p15))]) ((congrArg (asL _) (by kernel_rfl : ρof _ (.tmp 14) = (.r (.msl 120 1 0 (([(IntKind.i64.wrap (p15))] : List Int).length))))).trans (as_whole (eInt .i64) (e := 3) (k := 1) (xs := [(IntKind.i64.wrap (p15))]) (by kernel_rfl) rfl rfl)) rfl (by kernel_rfl) rfl (by kernel_rfl) rfl hz9) ?_
  refine zlRun (n := 1) (j := 6) rfl (by kernel_rfl) ?_
  refine zlEnd (by kernel_rfl) ?_
  refine zkBlk ?_
  refine zkNil ?_
  exact endQ hS hQ (finL_n (by show keepSt _ _ _ _ = _; kernel_rfl))
noncomputable def f27_l0 (a1 : List UInt8) (x : (List Int) × Int) : Option (((List Int) × Int) ⊕ (((List Int)))) := ((chk (decide (0 ≤ x.2))).bind fun z8 => (bif (decide (x.2 < (a1.length : Int))) then (f27_l0_j1 a1 x.1 (((x.2 : Int).toNat + (Utf8.decode ⟨a1.toArray⟩ (x.2 : Int).toNat).2 : Nat) : Int) x.2 ((Utf8.decode ⟨a1.toArray⟩ (x.2 : Int).toNat).1 : Int)) else (some (.inr x.1))))
theorem f27_l0_ok {d : Nat} (hd : 1 ≤ d) (a1 : List UInt8) {r : ((List Int) × Int) ⊕ (((List Int)))} {Q : PX → St → Prop} (hQ : ∀ e st', finL (f27_l0_H a1) (f27_l0_X a1) r e st' → Q e st') {x : (List Int) × Int} (hS : f27_l0 a1 x = some r) {st : St} (he : f27_l0_H a1 x st) : ZR (lev codes baseL (d - 1)) Q c27_2 [] st := by
  refine zrKeep he ?_
  unfold f27_l0 at hS
  refine zrSeq ?_
  refine zrReg ?_
  refine bindE hS (fun z8 hz8 hS => ?_)
  refine boolC (decide (x.2 < (a1.length : Int))) (fun hc => ?_) (fun hc => ?_)
  · replace hS := cond_t hc hS
    refine zlOp (d := some 8) (op := (.nxt (.tmp 7))) (g := none) (v := (.tup [(.d (.bool true)), (.d (.int .i64 x.2)), (.d (.int .i32 ((Utf8.decode ⟨a1.toArray⟩ (x.2 : Int).toNat).1 : Int)))])) (ups := [(64, ⟨0, some (.box ((.tup [(.d (.str a1)), (.d (.int .i64 (((x.2 : Int).toNat + (Utf8.decode ⟨a1.toArray⟩ (x.2 : Int).toNat).2 : Nat) : Int)))]) :: []))⟩)]) (j := 1) rfl (by kernel_rfl) (by kernel_rfl) (ev_nxtT (s := a1) (p := x.2) (b := 64) (g := 0) (by kernel_rfl) (by kernel_rfl) hz8 hc) ?_
    refine zlRun (n := 1) (j := 2) rfl (by kernel_rfl) ?_
    refine zlEnd (by kernel_rfl) ?_
    refine zkSeq ?_
    refine zrSeq ?_
    refine zrCondT (by kernel_rfl) ?_
    refine zrSkip ?_
    refine zkSeq ?_
    exact f27_l0_j1_ok hd a1 hQ x.1 (((x.2 : Int).toNat + (Utf8.decode ⟨a1.toArray⟩ (x.2 : Int).toNat).2 : Nat) : Int) x.2 ((Utf8.decode ⟨a1.toArray⟩ (x.2 : Int).toNat).1 : Int) hS (by kernel_rfl)
  · replace hS := cond_f hc hS
    refine zlOp (d := some 8) (op := (.nxt (.tmp 7))) (g := none) (v := (.tup [(.d (.bool false))])) (ups := []) (j := 1) rfl (by kernel_rfl) (by kernel_rfl) (ev_nxtF (s := a1) (p := x.2) (b := 64) (g := 0) (by kernel_rfl) (by kernel_rfl) hz8 hc) ?_
    refine zlRun (n := 1) (j := 2) rfl (by kernel_rfl) ?_
    refine zlEnd (by kernel_rfl) ?_
    refine zkSeq ?_
    refine zrSeq ?_
    refine zrCondF (by kernel_rfl) ?_
    refine zrKeep (J := f27_l0_e0_J a1 x.1) (by kernel_rfl) ?_
    refine zrExit ?_
    refine zkSeqX ?_
    refine zkNil ?_
    exact endQ hS hQ (finL_x (by intro h; cases h) (by show _ = _ ∧ _ = _; exact ⟨rfl, rfl⟩))
noncomputable def f27 (a1 : List UInt8) : Option ((List Int)) := ((loopO (f27_l0 a1) ([], 0)).bind fun z10 => (some z10))
theorem f27_ok (d : Nat) (hd : 1 ≤ d) (a1 : List UInt8) (r : (List Int)) (hS : f27 a1 = some r) : lev codes baseL d 27 [(.d (.str a1))] [] = some ((.r (.own 0 3 1 r.length ((eInt .i64).cells r))), []) := by
  refine lev_go codes27 rfl rfl (Nat.le_trans (Nat.le_of_ble_eq_true rfl) hd) fun Q hQ => ?_
  unfold f27 at hS
  show ZR _ Q c27_b [] _
  replace hQ : ∀ e st', f27_Q r e st' → Q e st' := hQ
  refine zrSeq ?_
  refine zrReg ?_
  refine zlRun (n := 1) (j := 1) rfl (by kernel_rfl) ?_
  refine zlEnd (by kernel_rfl) ?_
  refine zkSeq ?_
  refine zrSeq ?_
  refine zrReg ?_
  refine zlRun (n := 1) (j := 1) rfl (by kernel_rfl) ?_
  refine zlEnd (by kernel_rfl) ?_
  refine zkSeq ?_
  refine zrSeq ?_
  refine zrSeq ?_
  refine zrReg ?_
  refine zlRun (n := 2) (j := 2) rfl (by kernel_rfl) ?_
  refine zlEnd (by kernel_rfl) ?_
  refine zkSeq ?_
  refine zrBlk ?_
  refine bindE hS (fun z10 hz10 hS => ?_)
  refine zrLoop (f27_l0_H a1) (f27_l0_X a1) (fun x st r Q h0 hS hQ => f27_l0_ok hd a1 hQ hS h0) (x := ([], 0)) (z := z10) (by show keepSt _ _ _ _ = _; kernel_rfl) hz10 ?_
  intro e st' _ hX
  obtain ⟨rfl, rfl⟩ : _ ∧ _ := hX
  refine zkBlkX ?_
  refine zkSeq ?_
  refine zrSeq ?_
  refine zrReg ?_
  refine zlRun (n := 2) (j := 2) rfl (by kernel_rfl) ?_
  refine zlEnd (by kernel_rfl) ?_
  refine zkSeq ?_
  refine zrRet ?_
  refine zkNil ?_
  exact endQ hS hQ (fRet ((congrArg (fun s => outR s 0 c27.res) (by kernel_rfl : finSt c27.fin _ = f27_fin z10)).trans (f27_out z10)))
/- slices.Equal[[]int,int] -/
def f62_fin (p14 : Bool) : St := ⟨(up (fun _ => .un) 4 (.d (.bool p14))), (hB fun _ => 0)⟩
theorem f62_out (p14 : Bool) : outR (f62_fin p14) 0 c62.res = some ((.d (.bool p14)), []) := by
  kernel_rfl
def f62_Q (r : Bool) (e : PX) (st : St) : Prop := DoneF c62 0 ((.d (.bool r)), []) e st
def f62_l1_J (a1 : List Int) (a2 : List Int) (x : Int) : St := ⟨(up (up (up (up (fun _ => .un) 13 (.d (.int .i64 x))) 12 (.d (.int .i64 (a1.length : Int)))) 1 (.d (.sl a2.length ((eInt .i64).cells a2)))) 0 (.d (.sl a1.length ((eInt .i64).cells a1)))), (hB fun _ => 0)⟩
def f62_l1_H (a1 : List Int) (a2 : List Int) (x : Int) (st : St) : Prop := keepSt [0, 1, 12, 13] [] [] st = f62_l1_J a1 a2 x
def f62_l1_e0_J (a1 : List Int) (a2 : List Int) : St := ⟨(fun _ => .un), (hB fun _ => 0)⟩
def f62_l1_X (a1 : List Int) (a2 : List Int) (z : Unit ⊕ Bool) (e : PX) (st : St) : Prop := (match z with | .inl z => e = .exit 0 ∧ st = f62_l1_e0_J a1 a2 | .inr z => e = .ret ∧ finSt c62.fin st = f62_fin z)
def f62_l1_j3_J (a1 : List Int) (a2 : List Int) (p20 : Int) : St := ⟨(up (up (up (up (fun _ => .un) 13 (.d (.int .i64 p20))) 12 (.d (.int .i64 (a1.length : Int)))) 1 (.d (.sl a2.length ((eInt .i64).cells a2)))) 0 (.d (.sl a1.length ((eInt .i64).cells a1)))), (hB fun _ => 0)⟩
noncomputable def f62_l1_j3 (a1 : List Int) (a2 : List Int) (p20 : Int) : Option (Int ⊕ (Unit ⊕ Bool)) := ((idx a1 p20).bind fun z7 => ((idx a2 p20).bind fun z8 => (bif (!decide (z7 = z8)) then (some (.inr (.inr false))) else (some (.inl (IntKind.i64.wrap (p20 + 1)))))))
theorem f62_l1_j3_ok {d : Nat} (hd : 1 ≤ d) (a1 : List Int) (a2 : List Int) {r : Int ⊕ (Unit ⊕ Bool)} {Q : PX → St → Prop} (hQ : ∀ e st', finL (f62_l1_H a1 a2) (f62_l1_X a1 a2) r e st' → Q e st') (p20 : Int) (hS : f62_l1_j3 a1 a2 p20 = some r) {st : St} (he : keepSt [0, 1, 12, 13] [] [] st = f62_l1_j3_J a1 a2 p20) : ZR (lev codes baseL (d - 1)) Q c62_1 [] st := by
  refine zrKeep he ?_
  unfold f62_l1_j3 at hS
  refine zrSeq ?_
  refine zrBlk ?_
  refine zrSeq ?_
  refine zrReg ?_
  refine zlRun (n := 2) (j := 2) rfl (by kernel_rfl) ?_
  refine zlEnd (by kernel_rfl) ?_
  refine zkSeq ?_
  refine zrSeq ?_
  refine zrRegD ?_
  refine zdRun (n := 2) (j := 2) (ts := [[], []]) (acc' := [[], []]) rfl (by kernel_rfl) (by kernel_rfl) (by kernel_rfl) ?_
  refine bindE hS (fun z7 hz7 hS => ?_)
  refine zdOp (d := some 18) (op := (.ixS 3 1 (.tmp 16) (.tmp 17))) (g := none) (v := (.rptr ((eInt .i64).enc z7 ++ ((eInt .i64).cells (a1.drop ((p20 : Int).toNat + 1)))))) (ups := []) (j := 3) (t1 := []) (acc' := [[], [], []]) (by kernel_rfl) (by kernel_rfl) rfl (by kernel_rfl) (by kernel_rfl) (ev_ixS (eInt .i64) (kk := .i64) (xs := a1) (j := p20) (by kernel_rfl) (by kernel_rfl) hz7 rfl (by intro h; cases h)) ?_
  refine zdRun (n := 3) (j := 6) (ts := [[], [], []]) (acc' := [[], [], [], [], [], []]) rfl (by kernel_rfl) (by kernel_rfl) (by kernel_rfl) ?_
  refine bindE hS (fun z8 hz8 hS => ?_)
  refine zdOp (d := some 22) (op := (.ixS 3 1 (.tmp 20) (.tmp 21))) (g := none) (v := (.rptr ((eInt .i64).enc z8 ++ ((eInt .i64).cells (a2.drop ((p20 : Int).toNat + 1)))))) (ups := []) (j := 7) (t1 := []) (acc' := [[], [], [], [], [], [], []]) (by kernel_rfl) (by kernel_rfl) rfl (by kernel_rfl) (by kernel_rfl) (ev_ixS (eInt .i64) (kk := .i64) (xs := a2) (j := p20) (by kernel_rfl) (by kernel_rfl) hz8 rfl (by intro h; cases h)) ?_
  refine zdRun (n := 1) (j := 8) (ts := [[]]) (acc' := [[], [], [], [], [], [], [], []]) rfl (by kernel_rfl) (by kernel_rfl) (by kernel_rfl) ?_
  refine zdBool (d := 24) (op := (.cmpI .neq (.tmp 19) (.tmp 23))) (g := none) (j := 9) (t1 := []) (acc' := [[], [], [], [], [], [], [], [], []]) (!decide (z7 = z8)) (by kernel_rfl) (by kernel_rfl) rfl (by kernel_rfl) (by kernel_rfl) (by kernel_rfl) (fun hc => ?_) (fun hc => ?_)
  · replace hS := cond_t hc hS
    refine zdEnd (by kernel_rfl) (by kernel_rfl) ?_
    refine zkSeq ?_
    refine zrCondT (by kernel_rfl) ?_
    refine zrSeq ?_
    refine zrReg ?_
    refine zlRun (n := 1) (j := 1) rfl (by kernel_rfl) ?_
    refine zlEnd (by kernel_rfl) ?_
    refine zkSeq ?_
    refine zrRet ?_
    refine zkBlkR ?_
    refine zkSeqR ?_
    refine zkNil ?_
    exact endQ hS hQ (finL_x (by intro h; cases h) (by show _ = _ ∧ _ = _; exact ⟨rfl, by kernel_rfl⟩))
  · replace hS := cond_f hc hS
    refine zdEnd (by kernel_rfl) (by kernel_rfl) ?_
    refine zkSeq ?_
    refine zrCondF (by kernel_rfl) ?_
    refine zrSkip ?_
    refine zkBlk ?_
    refine zkSeq ?_
    refine zrReg ?_
    refine zlRun (n := 2) (j := 2) rfl (by kernel_rfl) ?_
    refine zlEnd (by kernel_rfl) ?_
    refine zkNil ?_
    exact endQ hS hQ (finL_n (by show keepSt _ _ _ _ = _; kernel_rfl))
def f62_l1_j2_J (a1 : List Int) (a2 : List Int) (p18 : Int) (p19 : Bool) : St := ⟨(up (up (up (up (up (fun _ => .un) 14 (.d (.bool p19))) 13 (.d (.int .i64 p18))) 12 (.d (.int .i64 (a1.length : Int)))) 1 (.d (.sl a2.length ((eInt .i64).cells a2)))) 0 (.d (.sl a1.length ((eInt .i64).cells a1)))), (hB fun _ => 0)⟩
noncomputable def f62_l1_j2 (a1 : List Int) (a2 : List Int) (p18 : Int) (p19 : Bool) : Option (Int ⊕ (Unit ⊕ Bool)) := (bif p19 then (f62_l1_j3 a1 a2 p18) else (some (.inr (.inl ()))))
theorem f62_l1_j2_ok {d : Nat} (hd : 1 ≤ d) (a1 : List Int) (a2 : List Int) {r : Int ⊕ (Unit ⊕ Bool)} {Q : PX → St → Prop} (hQ : ∀ e st', finL (f62_l1_H a1 a2) (f62_l1_X a1 a2) r e st' → Q e st') (p18 : Int) (p19 : Bool) (hS : f62_l1_j2 a1 a2 p18 p19 = some r) {st : St} (he : keepSt [0, 1, 12, 13, 14] [] [] st = f62_l1_j2_J a1 a2 p18 p19) : ZR (lev codes baseL (d - 1)) Q c62_2 [] st := by
  refine zrKeep he ?_
  unfold f62_l1_j2 at hS
  refine zrSeq ?_
  refine zrSplit 14 p19 (by kernel_rfl) (fun hc => ?_) (fun hc => ?_)
  · replace hS := cond_t hc hS
    refine zrCondT (by kernel_rfl) ?_
    refine zrSkip ?_
    refine zkSeq ?_
    exact f62_l1_j3_ok hd a1 a2 hQ p18 hS (by kernel_rfl)
  · replace hS := cond_f hc hS
    refine zrCondF (by kernel_rfl) ?_
    refine zrKeep (J := f62_l1_e0_J a1 a2) (by kernel_rfl) ?_
    refine zrExit ?_
    refine zkSeqX ?_
    refine zkNil ?_
    exact endQ hS hQ (finL_x (by intro h; cases h) (by show _ = _ ∧ _ = _; exact ⟨rfl, rfl⟩))
noncomputable def f62_l1 (a1 : List Int) (a2 : List Int) (x : Int) : Option (Int ⊕ (Unit ⊕ Bool)) := (bif (decide (x < (a1.length : Int))) then (f62_l1_j2 a1 a2 x true) else (f62_l1_j2 a1 a2 x false))
theorem f62_l1_ok {d : Nat} (hd : 1 ≤ d) (a1 : List Int) (a2 : List Int) {r : Int ⊕ (Unit ⊕ Bool)} {Q : PX → St → Prop} (hQ : ∀ e st', finL (f62_l1_H a1 a2) (f62_l1_X a1 a2) r e st' → Q e st') {x : Int} (hS : f62_l1 a1 a2 x = some r) {st : St} (he : f62_l1_H a1 a2 x st) : ZR (lev codes baseL (d - 1)) Q c62_3 [] st := by
  refine zrKeep he ?_
  unfold f62_l1 at hS
  refine zrSeq ?_
  refine zrReg ?_
  refine zlBool (d := 14) (op := (.cmpI .lss (.tmp 13) (.tmp 12))) (g := none) (j := 1) (decide (x < (a1.length : Int))) rfl (by kernel_rfl) (by kernel_rfl) (by kernel_rfl) (fun hc => ?_) (fun hc => ?_)
  · replace hS := cond_t hc hS
    refine zlEnd (by kernel_rfl) ?_
    refine zkSeq ?_
    exact f62_l1_j2_ok hd a1 a2 hQ x true hS (by kernel_rfl)
  · replace hS := cond_f hc hS
    refine zlEnd (by kernel_rfl) ?_
    refine zkSeq ?_
    exact f62_l1_j2_ok hd a1 a2 hQ x false hS (by kernel_rfl)
def f62_j0_J (a1 : List Int) (a2 : List Int) : St := ⟨(up (up (fun _ => .un) 1 (.d (.sl a2.length ((eInt .i64).cells a2)))) 0 (.d (.sl a1.length ((eInt .i64).cells a1)))), (hB fun _ => 0)⟩
noncomputable def f62_j0 (a1 : List Int) (a2 : List Int) : Option (Bool) := ((loopO (f62_l1 a1 a2) 0).bind fun z9 => (Sum.elim (fun z10 => (some true)) (fun z11 => (some z11)) z9))
theorem f62_j0_ok {d : Nat} (hd : 1 ≤ d) (a1 : List Int) (a2 : List Int) {r : Bool} {Q : PX → St → Prop} (hQ : ∀ e st', f62_Q r e st' → Q e st')  (hS : f62_j0 a1 a2 = some r) {st : St} (he : keepSt [0, 1] [] [] st = f62_j0_J a1 a2) : ZR (lev codes baseL (d - 1)) Q c62_4 [] st := by
  refine zrKeep he ?_
  unfold f62_j0 at hS
  refine zrSeq ?_
  refine zrSeq ?_
  refine zrReg ?_
  refine zlRun (n := 3) (j := 3) rfl (by kernel_rfl) ?_
  refine zlEnd (by kernel_rfl) ?_
  refine zkSeq ?_
  refine zrBlk ?_
  refine bindE hS (fun z9 hz9 hS => ?_)
  refine zrLoop (f62_l1_H a1 a2) (f62_l1_X a1 a2) (fun x st r Q h0 hS hQ => f62_l1_ok hd a1 a2 hQ hS h0) (x := 0) (z := z9) (by show keepSt _ _ _ _ = _; kernel_rfl) hz9 ?_
  rcases z9 with z10 | z11
  · replace hS := (show _ = _ from hS)
    simp only [Sum.elim_inl] at hS
    intro e st' _ hX
    obtain ⟨rfl, rfl⟩ : _ ∧ _ := hX
    refine zkBlkX ?_
    refine zkSeq ?_
    refine zrSeq ?_
    refine zrReg ?_
    refine zlRun (n := 1) (j := 1) rfl (by kernel_rfl) ?_
    refine zlEnd (by kernel_rfl) ?_
    refine zkSeq ?_
    refine zrRet ?_
    refine zkNil ?_
    exact endQ hS hQ (fRet ((congrArg (fun s => outR s 0 c62.res) (by kernel_rfl : finSt c62.fin _ = f62_fin true)).trans (f62_out true)))
  · simp only [Sum.elim_inr] at hS
    intro e st' _ hX
    obtain ⟨rfl, hX⟩ : _ ∧ _ := hX
    refine zkBlkR ?_
    refine zkSeqR ?_
    refine zkNil ?_
    exact endQ hS hQ (fRet ((congrArg (fun s => outR s 0 c62.res) hX).trans (f62_out z11)))
noncomputable def f62 (a1 : List Int) (a2 : List Int) : Option (Bool) := (bif (!decide ((a1.length : Int) = (a2.length : Int))) then (some false) else (f62_j0 a1 a2 ))
theorem f62_ok (d : Nat) (hd : 1 ≤ d) (a1 : List Int) (a2 : List Int) (r : Bool) (hS : f62 a1 a2 = some r) : lev codes baseL d 62 [(.d (.sl a1.length ((eInt .i64).cells a1))), (.d (.sl a2.length ((eInt .i64).cells a2)))] [] = some ((.d (.bool r)), []) := by
  refine lev_go codes62 rfl rfl (Nat.le_trans (Nat.le_of_ble_eq_true rfl) hd) fun Q hQ => ?_
  unfold f62 at hS
  show ZR _ Q c62_b [] _
  replace hQ : ∀ e st', f62_Q r e st' → Q e st' := hQ
  refine zrSeq ?_
  refine zrReg ?_
  refine zlRun (n := 1) (j := 1) rfl (by kernel_rfl) ?_
  refine zlEnd (by kernel_rfl) ?_
  refine zkSeq ?_
  refine zrSeq ?_
  refine zrSeq ?_
  refine zrReg ?_
  refine zlRun (n := 4) (j := 4) rfl (by kernel_rfl) ?_
  refine zlBool (d := 10) (op := (.cmpI .neq (.tmp 7) (.tmp 9))) (g := none) (j := 5) (!decide ((a1.length : Int) = (a2.length : Int))) rfl (by kernel_rfl) (by kernel_rfl) (by kernel_rfl) (fun hc => ?_) (fun hc => ?_)
  · replace hS := cond_t hc hS
    refine zlEnd (by kernel_rfl) ?_
    refine zkSeq ?_
    refine zrCondT (by kernel_rfl) ?_
    refine zrSeq ?_
    refine zrReg ?_
    refine zlRun (n := 1) (j := 1) rfl (by kernel_rfl) ?_
    refine zlEnd (by kernel_rfl) ?_
    refine zkSeq ?_
    refine zrRet ?_
    refine zkSeqR ?_
    refine zkNil ?_
    exact endQ hS hQ (fRet ((congrArg (fun s => outR s 0 c62.res) (by kernel_rfl : finSt c62.fin _ = f62_fin false)).trans (f62_out false)))
  · replace hS := cond_f hc hS
    refine zlEnd (by kernel_rfl) ?_
    refine zkSeq ?_
    refine zrCondF (by kernel_rfl) ?_
    refine zrSkip ?_
    refine zkSeq ?_
    exact f62_j0_ok hd a1 a2 hQ  hS (by kernel_rfl)
/- farwriter/farref.SameAct -/
def f29_fin (p6 : Bool) : St := ⟨(up (fun _ => .un) 4 (.d (.bool p6))), (hB fun _ => 0)⟩
theorem f29_out (p6 : Bool) : outR (f29_fin p6) 0 c29.res = some ((.d (.bool p6)), []) := by
  kernel_rfl
def f29_Q (r : Bool) (e : PX) (st : St) : Prop := DoneF c29 0 ((.d (.bool r)), []) e st
noncomputable def f29 (a1 : GAct) (a2 : GAct) : Option (Bool) := (bif (decide (a1.Kind = a2.Kind)) then (bif (decide (a1.Code = a2.Code)) then (bif (decide (a1.Mark = a2.Mark)) then (bif (decide (a1.Inter = a2.Inter)) then (bif (decide (a1.Text = a2.Text)) then ((f62 a1.Args a2.Args).bind fun z2 => (some z2)) else (some false)) else (some false)) else (some false)) else (some false)) else (some false))
theorem f29_ok (d : Nat) (hd : 2 ≤ d) (a1 : GAct) (a2 : GAct) (r : Bool) (hS : f29 a1 a2 = some r) : lev codes baseL d 29 [(.agg ((.d (.int .i64 a1.Kind)) :: ((.d (.int .i64 a1.Code)) :: ((.d (.int .i64 a1.Mark)) :: ((.d (.str a1.Inter)) :: ((.d (.sl a1.Args.length ((eInt .i64).cells a1.Args))) :: ((.d (.str a1.Text)) :: []))))))), (.agg ((.d (.int .i64 a2.Kind)) :: ((.d (.int .i64 a2.Code)) :: ((.d (.int .i64 a2.Mark)) :: ((.d (.str a2.Inter)) :: ((.d (.sl a2.Args.length ((eInt .i64).cells a2.Args))) :: ((.d (.str a2.Text)) :: [])))))))] [] = some ((.d (.bool r)), []) := by
  refine lev_go codes29 rfl rfl (Nat.le_trans (Nat.le_of_ble_eq_true rfl) hd) fun Q hQ => ?_
  unfold f29 at hS
  show ZR _ Q c29_b [] _
  replace hQ : ∀ e st', f29_Q r e st' → Q e st' := hQ
  refine zrSeq ?_
  refine zrReg ?_
  refine zlRun (n := 3) (j := 3) rfl (by kernel_rfl) ?_
  refine zlEnd (by kernel_rfl) ?_
  refine zkSeq ?_
  refine zrSeq ?_
  refine zrReg ?_
  refine zlRun (n := 4) (j := 4) rfl (by kernel_rfl) ?_
  refine zlBool (d := 9) (op := (.cmpI .eql (.tmp 6) (.tmp 8))) (g := none) (j := 5) (decide (a1.Kind = a2.Kind)) rfl (by kernel_rfl) (by kernel_rfl) (by kernel_rfl) (fun hc => ?_) (fun hc => ?_)
  · replace hS := cond_t hc hS
    refine zlRun (n := 5) (j := 10) rfl (by kernel_rfl) ?_
    refine zlBool (d := 15) (op := (.cmpI .eql (.tmp 12) (.tmp 14))) (g := (some (10, true))) (j := 11) (decide (a1.Code = a2.Code)) rfl (by kernel_rfl) (by kernel_rfl) (by kernel_rfl) (fun hc => ?_) (fun hc => ?_)
    · replace hS := cond_t hc hS
      refine zlRun (n := 6) (j := 17) rfl (by kernel_rfl) ?_
      refine zlBool (d := 22) (op := (.cmpI .eql (.tmp 19) (.tmp 21))) (g := (some (17, true))) (j := 18) (decide (a1.Mark = a2.Mark)) rfl (by kernel_rfl) (by kernel_rfl) (by kernel_rfl) (fun hc => ?_) (fun hc => ?_)
      · replace hS := cond_t hc hS
        refine zlRun (n := 6) (j := 24) rfl (by kernel_rfl) ?_
        refine zlBool (d := 29) (op := (.strO .eql (.tmp 26) (.tmp 28))) (g := (some (24, true))) (j := 25) (decide (a1.Inter = a2.Inter)) rfl (by kernel_rfl) (by kernel_rfl) (by kernel_rfl) (fun hc => ?_) (fun hc => ?_)
        · replace hS := cond_t hc hS
          refine zlRun (n := 6) (j := 31) rfl (by kernel_rfl) ?_
          refine zlBool (d := 36) (op := (.strO .eql (.tmp 33) (.tmp 35))) (g := (some (31, true))) (j := 32) (decide (a1.Text = a2.Text)) rfl (by kernel_rfl) (by kernel_rfl) (by kernel_rfl) (fun hc => ?_) (fun hc => ?_)
          · replace hS := cond_t hc hS
            refine zlRun (n := 6) (j := 38) rfl (by kernel_rfl) ?_
            refine bindE hS (fun z2 hz2 hS => ?_)
            refine zlOp (d := some 43) (op := (.call 62 [(.tmp 40), (.tmp 42)])) (g := (some (38, true))) (v := (.d (.bool z2))) (ups := []) (j := 39) rfl (by kernel_rfl) (by kernel_rfl) (ev_call (args := [(.d (.sl a1.Args.length ((eInt .i64).cells a1.Args))), (.d (.sl a2.Args.length ((eInt .i64).cells a2.Args)))]) (l := [(.d (.sl a1.Args.length ((eInt .i64).cells a1.Args))), (.d (.sl a2.Args.length ((eInt .i64).cells a2.Args)))]) (r := (.d (.bool z2))) (by kernel_rfl) (by kernel_rfl) (f62_ok (d - 1) (dpt hd rfl) a1.Args a2.Args z2 hz2) (by kernel_rfl) (by kernel_rfl) (by kernel_rfl)) ?_
            refine zlRun (n := 2) (j := 41) rfl (by kernel_rfl) ?_
            refine zlEnd (by kernel_rfl) ?_
            refine zkSeq ?_
            refine zrRet ?_
            refine zkNil ?_
            exact endQ hS hQ (fRet ((congrArg (fun s => outR s 0 c29.res) (by kernel_rfl : finSt c29.fin _ = f29_fin z2)).trans (f29_out z2)))
          · replace hS := cond_f hc hS
            refine zlRun (n := 9) (j := 41) rfl (by kernel_rfl) ?_
            refine zlEnd (by kernel_rfl) ?_
            refine zkSeq ?_
            refine zrRet ?_
            refine zkNil ?_
            exact endQ hS hQ (fRet ((congrArg (fun s => outR s 0 c29.res) (by kernel_rfl : finSt c29.fin _ = f29_fin false)).trans (f29_out false)))
        · replace hS := cond_f hc hS
          refine zlRun (n := 16) (j := 41) rfl (by kernel_rfl) ?_
          refine zlEnd (by kernel_rfl) ?_
          refine zkSeq ?_
          refine zrRet ?_
          refine zkNil ?_
          exact endQ hS hQ (fRet ((congrArg (fun s => outR s 0 c29.res) (by kernel_rfl : finSt c29.fin _ = f29_fin false)).trans (f29_out false)))
      · replace hS := cond_f hc hS
        refine zlRun (n := 23) (j := 41) rfl (by kernel_rfl) ?_
        refine zlEnd (by kernel_rfl) ?_
        refine zkSeq ?_
        refine zrRet ?_
        refine zkNil ?_
        exact endQ hS hQ (fRet ((congrArg (fun s => outR s 0 c29.res) (by kernel_rfl : finSt c29.fin _ = f29_fin false)).trans (f29_out false)))
    · replace hS := cond_f hc hS
      refine zlRun (n := 30) (j := 41) rfl (by kernel_rfl) ?_
      refine zlEnd (by kernel_rfl) ?_
      refine zkSeq ?_
      refine zrRet ?_
      refine zkNil ?_
      exact endQ hS hQ (fRet ((congrArg (fun s => outR s 0 c29.res) (by kernel_rfl : finSt c29.fin _ = f29_fin false)).trans (f29_out false)))
  · replace hS := cond_f hc hS
    refine zlRun (n := 36) (j := 41) rfl (by kernel_rfl) ?_
    refine zlEnd (by kernel_rfl) ?_
    refine zkSeq ?_
    refine zrRet ?_
    refine zkNil ?_
    exact endQ hS hQ (fRet ((congrArg (fun s => outR s 0 c29.res) (by kernel_rfl : finSt c29.fin _ = f29_fin false)).trans (f29_out false)))
/- slices.EqualFunc[[]farwriter/api.Act,[]farwriter/api.Act,farwriter/api.Act,farwriter/api.Act] -/
def f28_fin (p9 : Bool) : St := ⟨(up (fun _ => .un) 6 (.d (.bool p9))), (hB fun _ => 0)⟩
theorem f28_out (p9 : Bool) : outR (f28_fin p9) 0 c28.res = some ((.d (.bool p9)), []) := by
  kernel_rfl
def f28_Q (r : Bool) (e : PX) (st : St) : Prop := DoneF c28 0 ((.d (.bool r)), []) e st
def f28_l1_J (a1 : List GAct) (a2 : List GAct) (x : Int) : St := ⟨(up (up (up (up (up (fun _ => .un) 17 (.d (.int .i64 x))) 16 (.d (.int .i64 (a1.length : Int)))) 15 (.d (.sl a1.length (e_GAct.cells a1)))) 2 (.fn 29 [])) 1 (.d (.sl a2.length (e_GAct.cells a2)))), (hB fun _ => 0)⟩
def f28_l1_H (a1 : List GAct) (a2 : List GAct) (x : Int) (st : St) : Prop := keepSt [1, 2, 15, 16, 17] [] [] st = f28_l1_J a1 a2 x
def f28_l1_e0_J (a1 : List GAct) (a2 : List GAct) : St := ⟨(fun _ => .un), (hB fun _ => 0)⟩
def f28_l1_X (a1 : List GAct) (a2 : List GAct) (z : Unit ⊕ Bool) (e : PX) (st : St) : Prop := (match z with | .inl z => e = .exit 0 ∧ st = f28_l1_e0_J a1 a2 | .inr z => e = .ret ∧ finSt c28.fin st = f28_fin z)
def f28_l1_j3_J (a1 : List GAct) (a2 : List GAct) (p15 : Int) : St := ⟨(up (up (up (up (up (fun _ => .un) 17 (.d (.int .i64 p15))) 16 (.d (.int .i64 (a1.length : Int)))) 15 (.d (.sl a1.length (e_GAct.cells a1)))) 2 (.fn 29 [])) 1 (.d (.sl a2.length (e_GAct.cells a2)))), (hB fun _ => 0)⟩
noncomputable def f28_l1_j3 (a1 : List GAct) (a2 : List GAct) (p15 : Int) : Option (Int ⊕ (Unit ⊕ Bool)) := ((idx a1 p15).bind fun z10 => ((idx a2 p15).bind fun z11 => ((f29 z10 z11).bind fun z12 => (bif (!z12) then (some (.inr (.inr false))) else (some (.inl (IntKind.i64.wrap (p15 + 1))))))))
theorem f28_l1_j3_ok {d : Nat} (hd : 3 ≤ d) (a1 : List GAct) (a2 : List GAct) {r : Int ⊕ (Unit ⊕ Bool)} {Q : PX → St → Prop} (hQ : ∀ e st', finL (f28_l1_H a1 a2) (f28_l1_X a1 a2) r e st' → Q e st') (p15 : Int) (hS : f28_l1_j3 a1 a2 p15 = some r) {st : St} (he : keepSt [1, 2, 15, 16, 17] [] [] st = f28_l1_j3_J a1 a2 p15) : ZR (lev codes baseL (d - 1)) Q c28_1 [] st := by
  refine zrKeep he ?_
  unfold f28_l1_j3 at hS
  refine zrSeq ?_
  refine zrBlk ?_
  refine zrSeq ?_
  refine zrReg ?_
  refine zlRun (n := 1) (j := 1) rfl (by kernel_rfl) ?_
  refine bindE hS (fun z10 hz10 hS => ?_)
  refine zlOp (d := some 20) (op := (.ixS 31 6 (.tmp 15) (.tmp 17))) (g := none) (v := (.rptr (e_GAct.enc z10 ++ (e_GAct.cells (a1.drop ((p15 : Int).toNat + 1)))))) (ups := []) (j := 2) rfl (by kernel_rfl) (by kernel_rfl) (ev_ixS e_GAct (kk := .i64) (xs := a1) (j := p15) (by kernel_rfl) (by kernel_rfl) hz10 rfl (by intro h; cases h)) ?_
  refine zlRun (n := 4) (j := 6) rfl (by kernel_rfl) ?_
  refine zlEnd (by kernel_rfl) ?_
  refine zkSeq ?_
  refine zrSeq ?_
  refine zrReg ?_
  refine zlRun (n := 2) (j := 2) rfl (by kernel_rfl) ?_
  refine bindE hS (fun z11 hz11 hS => ?_)
  refine zlOp (d := some 24) (op := (.ixS 31 6 (.tmp 22) (.tmp 23))) (g := none) (v := (.rptr (e_GAct.enc z11 ++ (e_GAct.cells (a2.drop ((p15 : Int).toNat + 1)))))) (ups := []) (j := 3) rfl (by kernel_rfl) (by kernel_rfl) (ev_ixS e_GAct (kk := .i64) (xs := a2) (j := p15) (by kernel_rfl) (by kernel_rfl) hz11 rfl (by intro h; cases h)) ?_
  refine zlRun (n := 3) (j := 6) rfl (by kernel_rfl) ?_
  refine zlEnd (by kernel_rfl) ?_
  refine zkSeq ?_
  refine zrSeq ?_
  refine zrReg ?_
  refine zlRun (n := 3) (j := 3) rfl (by kernel_rfl) ?_
  refine bindE hS (fun z12 hz12 hS => ?_)
  refine zlOp (d := some 29) (op := (.callv (.tmp 26) [(.tmp 27), (.tmp 28)])) (g := none) (v := (.d (.bool z12))) (ups := []) (j := 4) rfl (by kernel_rfl) (by kernel_rfl) (ev_callv (f := 29) (cs := []) (by kernel_rfl) (args := [(.agg ((.d (.int .i64 z10.Kind)) :: ((.d (.int .i64 z10.Code)) :: ((.d (.int .i64 z10.Mark)) :: ((.d (.str z10.Inter)) :: ((.d (.sl z10.Args.length ((eInt .i64).cells z10.Args))) :: ((.d (.str z10.Text)) :: []))))))), (.agg ((.d (.int .i64 z11.Kind)) :: ((.d (.int .i64 z11.Code)) :: ((.d (.int .i64 z11.Mark)) :: ((.d (.str z11.Inter)) :: ((.d (.sl z11.Args.length ((eInt .i64).cells z11.Args))) :: ((.d (.str z11.Text)) :: [])))))))]) (l := [(.agg ((.d (.int .i64 z10.Kind)) :: ((.d (.int .i64 z10.Code)) :: ((.d (.int .i64 z10.Mark)) :: ((.d (.str z10.Inter)) :: ((.d (.sl z10.Args.length ((eInt .i64).cells z10.Args))) :: ((.d (.str z10.Text)) :: []))))))), (.agg ((.d (.int .i64 z11.Kind)) :: ((.d (.int .i64 z11.Code)) :: ((.d (.int .i64 z11.Mark)) :: ((.d (.str z11.Inter)) :: ((.d (.sl z11.Args.length ((eInt .i64).cells z11.Args))) :: ((.d (.str z11.Text)) :: [])))))))]) (r := (.d (.bool z12))) (by kernel_rfl) (by kernel_rfl) (f29_ok (d - 1) (dpt hd rfl) z10 z11 z12 hz12) (by kernel_rfl) (by kernel_rfl) (by kernel_rfl)) ?_
  refine zlRun (n := 1) (j := 5) rfl (by kernel_rfl) ?_
  refine zlEnd (by kernel_rfl) ?_
  refine zkSeq ?_
  refine zrSplit 30 (!z12) (by kernel_rfl) (fun hc => ?_) (fun hc => ?_)
  · replace hS := cond_t hc hS
    refine zrCondT (by kernel_rfl) ?_
    refine zrSeq ?_
    refine zrReg ?_
    refine zlRun (n := 1) (j := 1) rfl (by kernel_rfl) ?_
    refine zlEnd (by kernel_rfl) ?_
    refine zkSeq ?_
    refine zrRet ?_
    refine zkBlkR ?_
    refine zkSeqR ?_
    refine zkNil ?_
    exact endQ hS hQ (finL_x (by intro h; cases h) (by show _ = _ ∧ _ = _; exact ⟨rfl, by kernel_rfl⟩))
  · replace hS := cond_f hc hS
    refine zrCondF (by kernel_rfl) ?_
    refine zrSkip ?_
    refine zkBlk ?_
    refine zkSeq ?_
    refine zrReg ?_
    refine zlRun (n := 2) (j := 2) rfl (by kernel_rfl) ?_
    refine zlEnd (by kernel_rfl) ?_
    refine zkNil ?_
    exact endQ hS hQ (finL_n (by show keepSt _ _ _ _ = _; kernel_rfl))
def f28_l1_j2_J (a1 : List GAct) (a2 : List GAct) (p13 : Int) (p14 : Bool) : St := ⟨(up (up (up (up (up (up (fun _ => .un) 18 (.d (.bool p14))) 17 (.d (.int .i64 p13))) 16 (.d (.int .i64 (a1.length : Int)))) 15 (.d (.sl a1.length (e_GAct.cells a1)))) 2 (.fn 29 [])) 1 (.d (.sl a2.length (e_GAct.cells a2)))), (hB fun _ => 0)⟩
noncomputable def f28_l1_j2 (a1 : List GAct) (a2 : List GAct) (p13 : Int) (p14 : Bool) : Option (Int ⊕ (Unit ⊕ Bool)) := (bif p14 then (f28_l1_j3 a1 a2 p13) else (some (.inr (.inl ()))))
theorem f28_l1_j2_ok {d : Nat} (hd : 3 ≤ d) (a1 : List GAct) (a2 : List GAct) {r : Int ⊕ (Unit ⊕ Bool)} {Q : PX → St → Prop} (hQ : ∀ e st', finL (f28_l1_H a1 a2) (f28_l1_X a1 a2) r e st' → Q e st') (p13 : Int) (p14 : Bool) (hS : f28_l1_j2 a1 a2 p13 p14 = some r) {st : St} (he : keepSt [1, 2, 15, 16, 17, 18] [] [] st = f28_l1_j2_J a1 a2 p13 p14) : ZR (lev codes baseL (d - 1)) Q c28_2 [] st := by
  refine zrKeep he ?_
  unfold f28_l1_j2 at hS
  refine zrSeq ?_
  refine zrSplit 18 p14 (by kernel_rfl) (fun hc => ?_) (fun hc => ?_)
  · replace hS := cond_t hc hS
    refine zrCondT (by kernel_rfl) ?_
    refine zrSkip ?_
    refine zkSeq ?_
    exact f28_l1_j3_ok hd a1 a2 hQ p13 hS (by kernel_rfl)
  · replace hS := cond_f hc hS
    refine zrCondF (by kernel_rfl) ?_
    refine zrKeep (J := f28_l1_e0_J a1 a2) (by kernel_rfl) ?_
    refine zrExit ?_
    refine zkSeqX ?_
    refine zkNil ?_
    exact endQ hS hQ (finL_x (by intro h; cases h) (by show _ = _ ∧ _ = _; exact ⟨rfl, rfl⟩))
noncomputable def f28_l1 (a1 : List GAct) (a2 : List GAct) (x : Int) : Option (Int ⊕ (Unit ⊕ Bool)) := (bif (decide (x < (a1.length : Int))) then (f28_l1_j2 a1 a2 x true) else (f28_l1_j2 a1 a2 x false))
theorem f28_l1_ok {d : Nat} (hd : 3 ≤ d) (a1 : List GAct) (a2 : List GAct) {r : Int ⊕ (Unit ⊕ Bool)} {Q : PX → St → Prop} (hQ : ∀ e st', finL (f28_l1_H a1 a2) (f28_l1_X a1 a2) r e st' → Q e st') {x : Int} (hS : f28_l1 a1 a2 x = some r) {st : St} (he : f28_l1_H a1 a2 x st) : ZR (lev codes baseL (d - 1)) Q c28_3 [] st := by
  refine zrKeep he ?_
  unfold f28_l1 at hS
  refine zrSeq ?_
  refine zrReg ?_
  refine zlBool (d := 18) (op := (.cmpI .lss (.tmp 17) (.tmp 16))) (g := none) (j := 1) (decide (x < (a1.length : Int))) rfl (by kernel_rfl) (by kernel_rfl) (by kernel_rfl) (fun hc => ?_) (fun hc => ?_)
  · replace hS := cond_t hc hS
    refine zlEnd (by kernel_rfl) ?_
    refine zkSeq ?_
    exact f28_l1_j2_ok hd a1 a2 hQ x true hS (by kernel_rfl)
  · replace hS := cond_f hc hS
    refine zlEnd (by kernel_rfl) ?_
    refine zkSeq ?_
    exact f28_l1_j2_ok hd a1 a2 hQ x false hS (by kernel_rfl)
def f28_j0_J (a1 : List GAct) (a2 : List GAct) : St := ⟨(up (up (up (fun _ => .un) 2 (.fn 29 [])) 1 (.d (.sl a2.length (e_GAct.cells a2)))) 0 (.d (.sl a1.length (e_GAct.cells a1)))), (hB fun _ => 0)⟩
noncomputable def f28_j0 (a1 : List GAct) (a2 : List GAct) : Option (Bool) := ((loopO (f28_l1 a1 a2) 0).bind fun z13 => (Sum.elim (fun z14 => (some true)) (fun z15 => (some z15)) z13))
theorem f28_j0_ok {d : Nat} (hd : 3 ≤ d) (a1 : List GAct) (a2 : List GAct) {r : Bool} {Q : PX → St → Prop} (hQ : ∀ e st', f28_Q r e st' → Q e st')  (hS : f28_j0 a1 a2 = some r) {st : St} (he : keepSt [0, 1, 2] [] [] st = f28_j0_J a1 a2) : ZR (lev codes baseL (d - 1)) Q c28_4 [] st := by
  refine zrKeep he ?_
  unfold f28_j0 at hS
  refine zrSeq ?_
  refine zrSeq ?_
  refine zrReg ?_
  refine zlRun (n := 3) (j := 3) rfl (by kernel_rfl) ?_
  refine zlEnd (by kernel_rfl) ?_
  refine zkSeq ?_
  refine zrBlk ?_
  refine bindE hS (fun z13 hz13 hS => ?_)
  refine zrLoop (f28_l1_H a1 a2) (f28_l1_X a1 a2) (fun x st r Q h0 hS hQ => f28_l1_ok hd a1 a2 hQ hS h0) (x := 0) (z := z13) (by show keepSt _ _ _ _ = _; kernel_rfl) hz13 ?_
  rcases z13 with z14 | z15
  · replace hS := (show _ = _ from hS)
    simp only [Sum.elim_inl] at hS
    intro e st' _ hX
    obtain ⟨rfl, rfl⟩ : _ ∧ _ := hX
    refine zkBlkX ?_
    refine zkSeq ?_
    refine zrSeq ?_
    refine zrReg ?_
    refine zlRun (n := 1) (j := 1) rfl (by kernel_rfl) ?_
    refine zlEnd (by kernel_rfl) ?_
    refine zkSeq ?_
    refine zrRet ?_
    refine zkNil ?_
    exact endQ hS hQ (fRet ((congrArg (fun s => outR s 0 c28.res) (by kernel_rfl : finSt c28.fin _ = f28_fin true)).trans (f28_out true)))
  · simp only [Sum.elim_inr] at hS
    intro e st' _ hX
    obtain ⟨rfl, hX⟩ : _ ∧ _ := hX
    refine zkBlkR ?_
    refine zkSeqR ?_
    refine zkNil ?_
    exact endQ hS hQ (fRet ((congrArg (fun s => outR s 0 c28.res) hX).trans (f28_out z15)))
noncomputable def f28 (a1 : List GAct) (a2 : List GAct) : Option (Bool) := (bif (!decide ((a1.length : Int) = (a2.length : Int))) then (some false) else (f28_j0 a1 a2 ))
theorem f28_ok (d : Nat) (hd : 3 ≤ d) (a1 : List GAct) (a2 : List GAct) (r : Bool) (hS : f28 a1 a2 = some r) : lev codes baseL d 28 [(.d (.sl a1.length (e_GAct.cells a1))), (.d (.sl a2.length (e_GAct.cells a2))), (.fn 29 [])] [] = some ((.d (.bool r)), []) := by
  refine lev_go codes28 rfl rfl (Nat.le_trans (Nat.le_of_ble_eq_true rfl) hd) fun Q hQ => ?_
  unfold f28 at hS
  show ZR _ Q c28_b [] _
  replace hQ : ∀ e st', f28_Q r e st' → Q e st' := hQ
  refine zrSeq ?_
  refine zrReg ?_
  refine zlRun (n := 1) (j := 1) rfl (by kernel_rfl) ?_
  refine zlEnd (by kernel_rfl) ?_
  refine zkSeq ?_
  refine zrSeq ?_
  refine zrSeq ?_
  refine zrReg ?_
  refine zlRun (n := 4) (j := 4) rfl (by kernel_rfl) ?_
  refine zlBool (d := 14) (op := (.cmpI .neq (.tmp 11) (.tmp 13))) (g := none) (j := 5) (!decide ((a1.length : Int) = (a2.length : Int))) rfl (by kernel_rfl) (by kernel_rfl) (by kernel_rfl) (fun hc => ?_) (fun hc => ?_)
  · replace hS := cond_t hc hS
    refine zlEnd (by kernel_rfl) ?_
    refine zkSeq ?_
    refine zrCondT (by kernel_rfl) ?_
    refine zrSeq ?_
    refine zrReg ?_
    refine zlRun (n := 1) (j := 1) rfl (by kernel_rfl) ?_
    refine zlEnd (by kernel_rfl) ?_
    refine zkSeq ?_
    refine zrRet ?_
    refine zkSeqR ?_
    refine zkNil ?_
    exact endQ hS hQ (fRet ((congrArg (fun s => outR s 0 c28.res) (by kernel_rfl : finSt c28.fin _ = f28_fin false)).trans (f28_out false)))
  · replace hS := cond_f hc hS
    refine zlEnd (by kernel_rfl) ?_
    refine zkSeq ?_
    refine zrCondF (by kernel_rfl) ?_
    refine zrSkip ?_
    refine zkSeq ?_
    exact f28_j0_ok hd a1 a2 hQ  hS (by kernel_rfl)
/- farwriter/farref.SameActs -/
def f13_fin (p1 : Bool) : St := ⟨(up (fun _ => .un) 4 (.d (.bool p1))), (hB fun _ => 0)⟩
theorem f13_out (p1 : Bool) : outR (f13_fin p1) 0 c13.res = some ((.d (.bool p1)), []) := by
  kernel_rfl
def f13_Q (r : Bool) (e : PX) (st : St) : Prop := DoneF c13 0 ((.d (.bool r)), []) e st
noncomputable def f13 (a1 : List GAct) (a2 : List GAct) : Option (Bool) := ((f28 a1 a2).bind fun z2 => (some z2))
theorem f13_ok (d : Nat) (hd : 4 ≤ d) (a1 : List GAct) (a2 : List GAct) (r : Bool) (hS : f13 a1 a2 = some r) : lev codes baseL d 13 [(.d (.sl a1.length (e_GAct.cells a1))), (.d (.sl a2.length (e_GAct.cells a2)))] [] = some ((.d (.bool r)), []) := by
  refine lev_go codes13 rfl rfl (Nat.le_trans (Nat.le_of_ble_eq_true rfl) hd) fun Q hQ => ?_
  unfold f13 at hS
  show ZR _ Q c13_b [] _
  replace hQ : ∀ e st', f13_Q r e st' → Q e st' := hQ
  refine zrSeq ?_
  refine zrReg ?_
  refine zlRun (n := 1) (j := 1) rfl (by kernel_rfl) ?_
  refine zlEnd (by kernel_rfl) ?_
  refine zkSeq ?_
  refine zrSeq ?_
  refine zrReg ?_
  refine zlRun (n := 2) (j := 2) rfl (by kernel_rfl) ?_
  refine bindE hS (fun z2 hz2 hS => ?_)
  refine zlOp (d := some 7) (op := (.call 28 [(.tmp 5), (.tmp 6), (.func 29)])) (g := none) (v := (.d (.bool z2))) (ups := []) (j := 3) rfl (by kernel_rfl) (by kernel_rfl) (ev_call (args := [(.d (.sl a1.length (e_GAct.cells a1))), (.d (.sl a2.length (e_GAct.cells a2))), (.fn 29 [])]) (l := [(.d (.sl a1.length (e_GAct.cells a1))), (.d (.sl a2.length (e_GAct.cells a2))), (.fn 29 [])]) (r := (.d (.bool z2))) (by kernel_rfl) (by kernel_rfl) (f28_ok (d - 1) (dpt hd rfl) a1 a2 z2 hz2) (by kernel_rfl) (by kernel_rfl) (by kernel_rfl)) ?_
  refine zlRun (n := 1) (j := 4) rfl (by kernel_rfl) ?_
  refine zlEnd (by kernel_rfl) ?_
  refine zkSeq ?_
  refine zrRet ?_
  refine zkNil ?_
  exact endQ hS hQ (fRet ((congrArg (fun s => outR s 0 c13.res) (by kernel_rfl : finSt c13.fin _ = f13_fin z2)).trans (f13_out z2)))
/- farwriter/farkeep.parseLives -/
def f12_fin (p3 : Bool) : St := ⟨(up (fun _ => .un) 0 (.d (.bool p3))), (hB fun _ => 0)⟩
theorem f12_out (p3 : Bool) : outR (f12_fin p3) 0 c12.res = some ((.d (.bool p3)), []) := by
  kernel_rfl
def f12_Q (r : Bool) (e : PX) (st : St) : Prop := DoneF c12 0 ((.d (.bool r)), []) e st
noncomputable def f12  : Option (Bool) := ((f27 [97, 27, 91, 63, 50, 53, 104, 27, 93, 48, 59, 116, 7, 27, 40]).bind fun z4 => ((f11 (GParser.mk 0 0 ([]) ([]) ([])) z4).bind fun z5 => (bif (decide (z5.2.2 = 0)) then (bif (decide (z5.1.State = 2) && (decide (z5.1.Mark = 0) && (decide (z5.1.Inter = ([40] : List UInt8)) && (decide (z5.1.Args = ([] : List UInt8)) && (decide (z5.1.Text = ([] : List UInt8)) && true))))) then ((f13 z5.2.1 [(GAct.mk 1 97 0 ([]) ([]) ([])), (GAct.mk 4 104 63 ([]) ([25]) ([])), (GAct.mk 5 0 0 ([]) ([]) ([48, 59, 116]))]).bind fun z6 => (some z6)) else (some false)) else (some false))))
theorem f12_ok (d : Nat) (hd : 7 ≤ d)  (r : Bool) (hS : f12 = some r) : lev codes baseL d 12 [] [] = some ((.d (.bool r)), []) := by
  refine lev_go codes12 rfl rfl (Nat.le_trans (Nat.le_of_ble_eq_true rfl) hd) fun Q hQ => ?_
  unfold f12 at hS
  show ZR _ Q c12_b [] _
  replace hQ : ∀ e st', f12_Q r e st' → Q e st' := hQ
  refine zrSeq ?_
  refine zrReg ?_
  refine zlRun (n := 1) (j := 1) rfl (by kernel_rfl) ?_
  refine zlEnd (by kernel_rfl) ?_
  refine zkSeq ?_
  refine zrSeq ?_
  refine zrReg ?_
  refine zlRun (n := 1) (j := 1) rfl (by kernel_rfl) ?_
  refine bindE hS (fun z4 hz4 hS => ?_)
  refine zlOp (d := some 6) (op := (.call 27 [(.const (.string ⟨#[97, 27, 91, 63, 50, 53, 104, 27, 93, 48, 59, 116, 7, 27, 40]⟩))])) (g := none) (v := (.r (.msl 56 1 0 z4.length))) (ups := [(56, ⟨1, some (.own 3 1 ((eInt .i64).cells z4))⟩)]) (j := 2) rfl (by kernel_rfl) (by kernel_rfl) (ev_call (args := [(.d (.str ([97, 27, 91, 63, 50, 53, 104, 27, 93, 48, 59, 116, 7, 27, 40])))]) (l := [(.d (.str ([97, 27, 91, 63, 50, 53, 104, 27, 93, 48, 59, 116, 7, 27, 40])))]) (r := (.r (.own 0 3 1 z4.length ((eInt .i64).cells z4)))) (by kernel_rfl) (by kernel_rfl) (f27_ok (d - 1) (dpt hd rfl) [97, 27, 91, 63, 50, 53, 104, 27, 93, 48, 59, 116, 7, 27, 40] z4 hz4) (by kernel_rfl) (by kernel_rfl) (by kernel_rfl)) ?_
  refine bindE hS (fun z5 hz5 hS => ?_)
  refine zlOp (d := some 7) (op := (.callf 11 [(.tmp 5), (.tmp 6)])) (g := none) (v := (.tup [(.agg ((.d (.int .i64 z5.1.State)) :: ((.d (.int .i64 z5.1.Mark)) :: ((.d (.str z5.1.Inter)) :: ((.d (.str z5.1.Args)) :: ((.d (.str z5.1.Text)) :: [])))))), (.r (.msl 64 1 0 z5.2.1.length)), (.d (.int .i64 z5.2.2))])) (ups := [(56, ⟨2, none⟩), (64, ⟨1, some (.own 31 6 (e_GAct.cells z5.2.1))⟩)]) (j := 3) rfl (by kernel_rfl) (by kernel_rfl) (ev_callF (args := [(.agg ((.d (.int .i64 0)) :: ((.d (.int .i64 0)) :: ((.d (.str ([]))) :: ((.d (.str ([]))) :: ((.d (.str ([]))) :: [])))))), (.r (.msl 56 1 0 z4.length))]) (args' := [(.agg ((.d (.int .i64 0)) :: ((.d (.int .i64 0)) :: ((.d (.str ([]))) :: ((.d (.str ([]))) :: ((.d (.str ([]))) :: [])))))), (.d (.sl z4.length ((eInt .i64).cells z4)))]) (l := [(.agg ((.d (.int .i64 0)) :: ((.d (.int .i64 0)) :: ((.d (.str ([]))) :: ((.d (.str ([]))) :: ((.d (.str ([]))) :: [])))))), (.d (.sl z4.length ((eInt .i64).cells z4)))]) (refs := [56]) (r := (.tup [(.agg ((.d (.int .i64 z5.1.State)) :: ((.d (.int .i64 z5.1.Mark)) :: ((.d (.str z5.1.Inter)) :: ((.d (.str z5.1.Args)) :: ((.d (.str z5.1.Text)) :: [])))))), (.r (.own 0 31 6 z5.2.1.length (e_GAct.cells z5.2.1))), (.d (.int .i64 z5.2.2))])) (v := (.tup [(.agg ((.d (.int .i64 z5.1.State)) :: ((.d (.int .i64 z5.1.Mark)) :: ((.d (.str z5.1.Inter)) :: ((.d (.str z5.1.Args)) :: ((.d (.str z5.1.Text)) :: [])))))), (.r (.msl 64 1 0 z5.2.1.length)), (.d (.int .i64 z5.2.2))])) (ups' := [(64, ⟨1, some (.own 31 6 (e_GAct.cells z5.2.1))⟩)]) (by kernel_rfl) (by kernel_rfl) (by kernel_rfl) (fz_cons rfl (fz_cons (fz_own (eInt .i64) (e := 3) (k := 1) (xs := z4) (by kernel_rfl) (by kernel_rfl) rfl rfl) fz_nil)) (by kernel_rfl) (f11_ok (d - 1) (dpt hd rfl) (GParser.mk 0 0 ([]) ([]) ([])) z4 z5 hz5) (by kernel_rfl) (by kernel_rfl) (by kernel_rfl) (by kernel_rfl)) ?_
  refine zlRun (n := 8) (j := 11) rfl (by kernel_rfl) ?_
  refine zlEnd (by kernel_rfl) ?_
  refine zkSeq ?_
  refine zrSeq ?_
  refine zrReg ?_
  refine zlRun (n := 1) (j := 1) rfl (by kernel_rfl) ?_
  refine zlBool (d := 12) (op := (.cmpI .eql (.tmp 11) (.const (.int .i64 0)))) (g := none) (j := 2) (decide (z5.2.2 = 0)) rfl (by kernel_rfl) (by kernel_rfl) (by kernel_rfl) (fun hc => ?_) (fun hc => ?_)
  · replace hS := cond_t hc hS
    refine zlRun (n := 3) (j := 5) rfl (by kernel_rfl) ?_
    refine zlBool (d := 16) (op := (.eqA .false [(2, .int), (3, .str)] (.tmp 14) (.tmp 15))) (g := (some (13, true))) (j := 6) (decide (z5.1.State = 2) && (decide (z5.1.Mark = 0) && (decide (z5.1.Inter = ([40] : List UInt8)) && (decide (z5.1.Args = ([] : List UInt8)) && (decide (z5.1.Text = ([] : List UInt8)) && true))))) rfl (by kernel_rfl) (by kernel_rfl) (by kernel_rfl) (fun hc => ?_) (fun hc => ?_)
    · replace hS := cond_t hc hS
      refine zlRun (n := 7) (j := 13) rfl (by kernel_rfl) ?_
      refine zlOp (d := some 24) (op := (.bsl 31 6 3 [(3, (.int .i64 0)), (1, (.string ⟨#[]⟩)), (1, (.slice .none 0 0)), (1, (.string ⟨#[]⟩)), (3, (.int .i64 0)), (1, (.string ⟨#[]⟩)), (1, (.slice .none 0 0)), (1, (.string ⟨#[]⟩)), (3, (.int .i64 0)), (1, (.string ⟨#[]⟩)), (1, (.slice .none 0 0)), (1, (.string ⟨#[]⟩))] [(0, (6, (.tmp 20))), (6, (6, (.tmp 22))), (12, (6, (.tmp 23)))])) (g := (some (18, true))) (v := (.r (.msl 200 1 0 (([(GAct.mk 1 97 0 ([]) ([]) ([])), (GAct.mk 4 104 63 ([]) ([25]) ([])), (GAct.mk 5 0 0 ([]) ([]) ([48, 59, 116]))] : List GAct).length)))) (ups := [(176, ⟨2, none⟩), (200, ⟨1, some (.own 31 6 (e_GAct.cells ([(GAct.mk 1 97 0 ([]) ([]) ([])), (GAct.mk 4 104 63 ([]) ([25]) ([])), (GAct.mk 5 0 0 ([]) ([]) ([48, 59, 116]))])))⟩)]) (j := 14) rfl (by kernel_rfl) (by kernel_rfl) ((by kernel_rfl : peval _ _ 24 (ρof _) (.bsl 31 6 3 [(3, (.int .i64 0)), (1, (.string ⟨#[]⟩)), (1, (.slice .none 0 0)), (1, (.string ⟨#[]⟩)), (3, (.int .i64 0)), (1, (.string ⟨#[]⟩)), (1, (.slice .none 0 0)), (1, (.string ⟨#[]⟩)), (3, (.int .i64 0)), (1, (.string ⟨#[]⟩)), (1, (.slice .none 0 0)), (1, (.string ⟨#[]⟩))] [(0, (6, (.tmp 20))), (6, (6, (.tmp 22))), (12, (6, (.tmp 23)))]) = some ((.r (.msl 200 1 0 (([(GAct.mk 1 97 0 ([]) ([]) ([])), (GAct.mk 4 104 63 ([]) ([25]) ([])), (GAct.mk 5 0 0 ([]) ([]) ([48, 59, 116]))] : List GAct).length))), [(176, ⟨2, none⟩), (200, ⟨1, some (.own 31 6 [.int .i64 1, .int .i64 97, .int .i64 0, .str ([]), .sl 0 [], .str ([]), .int .i64 4, .int .i64 104, .int .i64 63, .str ([]), .sl ([25] : List Int).length ((((eInt .i64).cells ([25])).drop (0 * (eInt .i64).k)).take (([25] : List Int).length * (eInt .i64).k)), .str ([]), .int .i64 5, .int .i64 0, .int .i64 0, .str ([]), .sl 0 [], .str ([48, 59, 116])])⟩)])).trans (by simp only [Enc.frz]; rfl)) ?_
      refine bindE hS (fun z6 hz6 hS => ?_)
      refine zlOp (d := some 25) (op := (.call 13 [(.tmp 19), (.tmp 24)])) (g := (some (18, true))) (v := (.d (.bool z6))) (ups := []) (j := 15) rfl (by kernel_rfl) (by kernel_rfl) (ev_call (args := [(.r (.msl 64 1 0 z5.2.1.length)), (.r (.msl 200 1 0 (([(GAct.mk 1 97 0 ([]) ([]) ([])), (GAct.mk 4 104 63 ([]) ([25]) ([])), (GAct.mk 5 0 0 ([]) ([]) ([48, 59, 116]))] : List GAct).length)))]) (l := [(.d (.sl z5.2.1.length (e_GAct.cells z5.2.1))), (.d (.sl ([(GAct.mk 1 97 0 ([]) ([]) ([])), (GAct.mk 4 104 63 ([]) ([25]) ([])), (GAct.mk 5 0 0 ([]) ([]) ([48, 59, 116]))] : List GAct).length (e_GAct.cells ([(GAct.mk 1 97 0 ([]) ([]) ([])), (GAct.mk 4 104 63 ([]) ([25]) ([])), (GAct.mk 5 0 0 ([]) ([]) ([48, 59, 116]))]))))]) (r := (.d (.bool z6))) (by kernel_rfl) (l_cons (l_own e_GAct (e := 31) (k := 6) (xs := z5.2.1) (by kernel_rfl) rfl rfl) (l_cons (l_own e_GAct (e := 31) (k := 6) (xs := [(GAct.mk 1 97 0 ([]) ([]) ([])), (GAct.mk 4 104 63 ([]) ([25]) ([])), (GAct.mk 5 0 0 ([]) ([]) ([48, 59, 116]))]) (by kernel_rfl) rfl rfl) l_nil)) (f13_ok (d - 1) (dpt hd rfl) z5.2.1 [(GAct.mk 1 97 0 ([]) ([]) ([])), (GAct.mk 4 104 63 ([]) ([25]) ([])), (GAct.mk 5 0 0 ([]) ([]) ([48, 59, 116]))] z6 hz6) (by kernel_rfl) (by kernel_rfl) (by kernel_rfl)) ?_
      refine zlRun (n := 2) (j := 17) rfl (by kernel_rfl) ?_
      refine zlEnd (by kernel_rfl) ?_
      refine zkSeq ?_
      refine zrRet ?_
      refine zkNil ?_
      exact endQ hS hQ (fRet ((congrArg (fun s => outR s 0 c12.res) (by kernel_rfl : finSt c12.fin _ = f12_fin z6)).trans (f12_out z6)))
    · replace hS := cond_f hc hS
      refine zlRun (n := 11) (j := 17) rfl (by kernel_rfl) ?_
      refine zlEnd (by kernel_rfl) ?_
      refine zkSeq ?_
      refine zrRet ?_
      refine zkNil ?_
      exact endQ hS hQ (fRet ((congrArg (fun s => outR s 0 c12.res) (by kernel_rfl : finSt c12.fin _ = f12_fin false)).trans (f12_out false)))
  · replace hS := cond_f hc hS
    refine zlRun (n := 15) (j := 17) rfl (by kernel_rfl) ?_
    refine zlEnd (by kernel_rfl) ?_
    refine zkSeq ?_
    refine zrRet ?_
    refine zkNil ?_
    exact endQ hS hQ (fRet ((congrArg (fun s => outR s 0 c12.res) (by kernel_rfl : finSt c12.fin _ = f12_fin false)).trans (f12_out false)))
end Go.Proofs.YtakmihemhmdpkaaDoor.Pm
