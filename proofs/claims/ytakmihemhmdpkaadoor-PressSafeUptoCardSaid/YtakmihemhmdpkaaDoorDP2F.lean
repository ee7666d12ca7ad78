/- Typed functions, and that the codes are these. Printed by dec.py. -/
import Derived.Test.YtakmihemhmdpkaaDoorDP2E
namespace Go.Proofs.YtakmihemhmdpkaaDoor.Pm
set_option maxRecDepth 1000000
set_option maxHeartbeats 20000000
set_option linter.unusedVariables false
/- (*farwriter/parse.machine).control -/
def f59_fin (p14 : Int) (p15 : Int) (p16 : List UInt8) (p17 : List UInt8) (p18 : List UInt8) (p19 : List GAct) (p20 : Bool) : St := ⟨(up (fun _ => .un) 4 (.d (.bool p20))), (up (up (hB fun _ => 0) 1 ⟨0, some (.own 31 6 (e_GAct.cells p19))⟩) 0 ⟨0, some (.box ((.d (.int .i64 p14)) :: ((.d (.int .i64 p15)) :: ((.d (.str p16)) :: ((.d (.str p17)) :: ((.d (.str p18)) :: ((.r (.msl 1 0 0 p19.length)) :: [])))))))⟩)⟩
theorem f59_out (p14 : Int) (p15 : Int) (p16 : List UInt8) (p17 : List UInt8) (p18 : List UInt8) (p19 : List GAct) (p20 : Bool) : outR (f59_fin p14 p15 p16 p17 p18 p19 p20) 2 c59.res = some ((.d (.bool p20)), [(.box ((.d (.int .i64 p14)) :: ((.d (.int .i64 p15)) :: ((.d (.str p16)) :: ((.d (.str p17)) :: ((.d (.str p18)) :: ((.r (.msl 1 0 0 p19.length)) :: []))))))), (.own 31 6 (e_GAct.cells p19))]) := by
  kernel_rfl
def f59_Q (r : Int × Int × (List UInt8) × (List UInt8) × (List UInt8) × (List GAct) × Bool) (e : PX) (st : St) : Prop := DoneF c59 2 ((.d (.bool r.2.2.2.2.2.2)), [(.box ((.d (.int .i64 r.1)) :: ((.d (.int .i64 r.2.1)) :: ((.d (.str r.2.2.1)) :: ((.d (.str r.2.2.2.1)) :: ((.d (.str r.2.2.2.2.1)) :: ((.r (.msl 1 0 0 r.2.2.2.2.2.1.length)) :: []))))))), (.own 31 6 (e_GAct.cells r.2.2.2.2.2.1))]) e st
def f59_j0_J (a1 : Int) (a2 : Int) (a3 : Int) (a4 : List UInt8) (a5 : List UInt8) (a6 : List UInt8) (a7 : List GAct) (p25 : Int) : St := ⟨(up (up (fun _ => .un) 5 (.d (.int .i64 p25))) 0 (.r (.ptr 0 0 0))), (up (up (hB fun _ => 0) 1 ⟨0, some (.own 31 6 (e_GAct.cells a7))⟩) 0 ⟨0, some (.box ((.d (.int .i64 a2)) :: ((.d (.int .i64 a3)) :: ((.d (.str a4)) :: ((.d (.str a5)) :: ((.d (.str a6)) :: ((.r (.msl 1 0 0 a7.length)) :: [])))))))⟩)⟩
noncomputable def f59_j0 (a1 : Int) (a2 : Int) (a3 : Int) (a4 : List UInt8) (a5 : List UInt8) (a6 : List UInt8) (a7 : List GAct) (p25 : Int) : Option (Int × Int × (List UInt8) × (List UInt8) × (List UInt8) × (List GAct) × Bool) := (bif (!decide (a2 = 0)) then ((f56 (GAct.mk 6 0 0 ([]) ([]) ([])) a2 a3 a4 a5 a6 a7).bind fun z7 => ((f57 p25 z7.1 z7.2.1 z7.2.2.1 z7.2.2.2.1 z7.2.2.2.2.1 z7.2.2.2.2.2).bind fun z8 => (some (z8.1, 0, [], [], [], z8.2, true)))) else ((f57 p25 a2 a3 a4 a5 a6 a7).bind fun z9 => (some (z9.1, 0, [], [], [], z9.2, true))))
theorem f59_j0_ok {d : Nat} (hd : 2 ≤ d) (a1 : Int) (a2 : Int) (a3 : Int) (a4 : List UInt8) (a5 : List UInt8) (a6 : List UInt8) (a7 : List GAct) {r : Int × Int × (List UInt8) × (List UInt8) × (List UInt8) × (List GAct) × Bool} {Q : PX → St → Prop} (hQ : ∀ e st', f59_Q r e st' → Q e st') (p25 : Int) (hS : f59_j0 a1 a2 a3 a4 a5 a6 a7 p25 = some r) {st : St} (he : keepSt [0, 5] [(0, .id 0), (1, .id 1)] [] st = f59_j0_J a1 a2 a3 a4 a5 a6 a7 p25) : ZR (lev codes baseL (d - 1)) Q c59_1 [] st := by
  refine zrKeep he ?_
  unfold f59_j0 at hS
  refine zrSeq ?_
  refine zrSeq ?_
  refine zrReg ?_
  refine zlRun (n := 5) (j := 5) rfl (by kernel_rfl) ?_
  refine zlBool (d := 30) (op := (.cmpI .neq (.tmp 29) (.const (.int .i64 0)))) (g := none) (j := 6) (!decide (a2 = 0)) rfl (by kernel_rfl) (by kernel_rfl) (by kernel_rfl) (fun hc => ?_) (fun hc => ?_)
  · replace hS := cond_t hc hS
    refine zlEnd (by kernel_rfl) ?_
    refine zkSeq ?_
    refine zrCondT (by kernel_rfl) ?_
    refine zrReg ?_
    refine zlRun (n := 2) (j := 2) rfl (by kernel_rfl) ?_
    refine bindE hS (fun z7 hz7 hS => ?_)
    refine zlOp (d := some 33) (op := (.callr 56 [(.tmp 31), (.tmp 32)])) (g := none) (v := (.tup [])) (ups := [(0, ⟨0, some (.box ((.d (.int .i64 z7.1)) :: ((.d (.int .i64 z7.2.1)) :: ((.d (.str z7.2.2.1)) :: ((.d (.str z7.2.2.2.1)) :: ((.d (.str z7.2.2.2.2.1)) :: ((.r (.msl 1 1 0 z7.2.2.2.2.2.length)) :: [])))))))⟩), (1, ⟨1, some (.own 31 6 (e_GAct.cells z7.2.2.2.2.2))⟩)]) (j := 3) rfl (by kernel_rfl) (by kernel_rfl) (ev_callr (args := [(.r (.ptr 0 0 0)), (.agg ((.d (.int .i64 6)) :: ((.d (.int .i64 0)) :: ((.d (.int .i64 0)) :: ((.d (.str ([]))) :: ((.d (.sl ([] : List Int).length ((eInt .i64).cells ([])))) :: ((.d (.str ([]))) :: [])))))))]) (ids := [0, 1]) (bs := [(.box ((.d (.int .i64 a2)) :: ((.d (.int .i64 a3)) :: ((.d (.str a4)) :: ((.d (.str a5)) :: ((.d (.str a6)) :: ((.r (.msl 1 0 0 a7.length)) :: []))))))), (.own 31 6 (e_GAct.cells a7))]) (l := [(.r (.ptr 0 0 0)), (.agg ((.d (.int .i64 6)) :: ((.d (.int .i64 0)) :: ((.d (.int .i64 0)) :: ((.d (.str ([]))) :: ((.d (.sl ([] : List Int).length ((eInt .i64).cells ([])))) :: ((.d (.str ([]))) :: [])))))))]) (bt := [(.box ((.d (.int .i64 a2)) :: ((.d (.int .i64 a3)) :: ((.d (.str a4)) :: ((.d (.str a5)) :: ((.d (.str a6)) :: ((.r (.msl 1 0 0 a7.length)) :: []))))))), (.own 31 6 (e_GAct.cells a7))]) (r := (.tup [])) (bs' := [(.box ((.d (.int .i64 z7.1)) :: ((.d (.int .i64 z7.2.1)) :: ((.d (.str z7.2.2.1)) :: ((.d (.str z7.2.2.2.1)) :: ((.d (.str z7.2.2.2.2.1)) :: ((.r (.msl 1 0 0 z7.2.2.2.2.2.length)) :: []))))))), (.own 31 6 (e_GAct.cells z7.2.2.2.2.2))]) (by kernel_rfl) (by kernel_rfl) (by kernel_rfl) (by kernel_rfl) (by kernel_rfl) (f56_ok (d - 1) (dpt hd rfl) (GAct.mk 6 0 0 ([]) ([]) ([])) a2 a3 a4 a5 a6 a7 z7 hz7) (by kernel_rfl) (by kernel_rfl)) ?_
    refine zlEnd (by kernel_rfl) ?_
    refine zkSeq ?_
    refine zrSeq ?_
    refine zrReg ?_
    refine zlRun (n := 2) (j := 2) rfl (by kernel_rfl) ?_
    refine bindE hS (fun z8 hz8 hS => ?_)
    refine zlOp (d := some 36) (op := (.callr 57 [(.tmp 34), (.tmp 35)])) (g := none) (v := (.tup [])) (ups := [(0, ⟨0, some (.box ((.d (.int .i64 z8.1)) :: ((.d (.int .i64 0)) :: ((.d (.str ([]))) :: ((.d (.str ([]))) :: ((.d (.str ([]))) :: ((.r (.msl 1 2 0 z8.2.length)) :: [])))))))⟩), (1, ⟨2, some (.own 31 6 (e_GAct.cells z8.2))⟩)]) (j := 3) rfl (by kernel_rfl) (by kernel_rfl) (ev_callr (args := [(.r (.ptr 0 0 0)), (.d (.int .i64 p25))]) (ids := [0, 1]) (bs := [(.box ((.d (.int .i64 z7.1)) :: ((.d (.int .i64 z7.2.1)) :: ((.d (.str z7.2.2.1)) :: ((.d (.str z7.2.2.2.1)) :: ((.d (.str z7.2.2.2.2.1)) :: ((.r (.msl 1 1 0 z7.2.2.2.2.2.length)) :: []))))))), (.own 31 6 (e_GAct.cells z7.2.2.2.2.2))]) (l := [(.r (.ptr 0 0 0)), (.d (.int .i64 p25))]) (bt := [(.box ((.d (.int .i64 z7.1)) :: ((.d (.int .i64 z7.2.1)) :: ((.d (.str z7.2.2.1)) :: ((.d (.str z7.2.2.2.1)) :: ((.d (.str z7.2.2.2.2.1)) :: ((.r (.msl 1 0 0 z7.2.2.2.2.2.length)) :: []))))))), (.own 31 6 (e_GAct.cells z7.2.2.2.2.2))]) (r := (.tup [])) (bs' := [(.box ((.d (.int .i64 z8.1)) :: ((.d (.int .i64 0)) :: ((.d (.str ([]))) :: ((.d (.str ([]))) :: ((.d (.str ([]))) :: ((.r (.msl 1 0 0 z8.2.length)) :: []))))))), (.own 31 6 (e_GAct.cells z8.2))]) (by kernel_rfl) (by kernel_rfl) (by kernel_rfl) (by kernel_rfl) (by kernel_rfl) (f57_ok (d - 1) (dpt hd rfl) p25 z7.1 z7.2.1 z7.2.2.1 z7.2.2.2.1 z7.2.2.2.2.1 z7.2.2.2.2.2 z8 hz8) (by kernel_rfl) (by kernel_rfl)) ?_
    refine zlEnd (by kernel_rfl) ?_
    refine zkSeq ?_
    refine zrSeq ?_
    refine zrReg ?_
    refine zlRun (n := 1) (j := 1) rfl (by kernel_rfl) ?_
    refine zlEnd (by kernel_rfl) ?_
    refine zkSeq ?_
    refine zrRet ?_
    refine zkNil ?_
    exact endQ hS hQ (fRet ((congrArg (fun s => outR s 2 c59.res) (by kernel_rfl : finSt c59.fin _ = f59_fin z8.1 0 [] [] [] z8.2 true)).trans (f59_out z8.1 0 [] [] [] z8.2 true)))
  · replace hS := cond_f hc hS
    refine zlEnd (by kernel_rfl) ?_
    refine zkSeq ?_
    refine zrCondF (by kernel_rfl) ?_
    refine zrSkip ?_
    refine zkSeq ?_
    refine zrSeq ?_
    refine zrReg ?_
    refine zlRun (n := 2) (j := 2) rfl (by kernel_rfl) ?_
    refine bindE hS (fun z9 hz9 hS => ?_)
    refine zlOp (d := some 36) (op := (.callr 57 [(.tmp 34), (.tmp 35)])) (g := none) (v := (.tup [])) (ups := [(0, ⟨0, some (.box ((.d (.int .i64 z9.1)) :: ((.d (.int .i64 0)) :: ((.d (.str ([]))) :: ((.d (.str ([]))) :: ((.d (.str ([]))) :: ((.r (.msl 1 1 0 z9.2.length)) :: [])))))))⟩), (1, ⟨1, some (.own 31 6 (e_GAct.cells z9.2))⟩)]) (j := 3) rfl (by kernel_rfl) (by kernel_rfl) (ev_callr (args := [(.r (.ptr 0 0 0)), (.d (.int .i64 p25))]) (ids := [0, 1]) (bs := [(.box ((.d (.int .i64 a2)) :: ((.d (.int .i64 a3)) :: ((.d (.str a4)) :: ((.d (.str a5)) :: ((.d (.str a6)) :: ((.r (.msl 1 0 0 a7.length)) :: []))))))), (.own 31 6 (e_GAct.cells a7))]) (l := [(.r (.ptr 0 0 0)), (.d (.int .i64 p25))]) (bt := [(.box ((.d (.int .i64 a2)) :: ((.d (.int .i64 a3)) :: ((.d (.str a4)) :: ((.d (.str a5)) :: ((.d (.str a6)) :: ((.r (.msl 1 0 0 a7.length)) :: []))))))), (.own 31 6 (e_GAct.cells a7))]) (r := (.tup [])) (bs' := [(.box ((.d (.int .i64 z9.1)) :: ((.d (.int .i64 0)) :: ((.d (.str ([]))) :: ((.d (.str ([]))) :: ((.d (.str ([]))) :: ((.r (.msl 1 0 0 z9.2.length)) :: []))))))), (.own 31 6 (e_GAct.cells z9.2))]) (by kernel_rfl) (by kernel_rfl) (by kernel_rfl) (by kernel_rfl) (by kernel_rfl) (f57_ok (d - 1) (dpt hd rfl) p25 a2 a3 a4 a5 a6 a7 z9 hz9) (by kernel_rfl) (by kernel_rfl)) ?_
    refine zlEnd (by kernel_rfl) ?_
    refine zkSeq ?_
    refine zrSeq ?_
    refine zrReg ?_
    refine zlRun (n := 1) (j := 1) rfl (by kernel_rfl) ?_
    refine zlEnd (by kernel_rfl) ?_
    refine zkSeq ?_
    refine zrRet ?_
    refine zkNil ?_
    exact endQ hS hQ (fRet ((congrArg (fun s => outR s 2 c59.res) (by kernel_rfl : finSt c59.fin _ = f59_fin z9.1 0 [] [] [] z9.2 true)).trans (f59_out z9.1 0 [] [] [] z9.2 true)))
def f59_j1_J (a1 : Int) (a2 : Int) (a3 : Int) (a4 : List UInt8) (a5 : List UInt8) (a6 : List UInt8) (a7 : List GAct) : St := ⟨(up (up (fun _ => .un) 5 (.d (.int .i64 0))) 0 (.r (.ptr 0 0 0))), (up (up (hB fun _ => 0) 1 ⟨0, some (.own 31 6 (e_GAct.cells a7))⟩) 0 ⟨0, some (.box ((.d (.int .i64 a2)) :: ((.d (.int .i64 a3)) :: ((.d (.str a4)) :: ((.d (.str a5)) :: ((.d (.str a6)) :: ((.r (.msl 1 0 0 a7.length)) :: [])))))))⟩)⟩
noncomputable def f59_j1 (a1 : Int) (a2 : Int) (a3 : Int) (a4 : List UInt8) (a5 : List UInt8) (a6 : List UInt8) (a7 : List GAct) : Option (Int × Int × (List UInt8) × (List UInt8) × (List UInt8) × (List GAct) × Bool) := (f59_j0 a1 a2 a3 a4 a5 a6 a7 0)
theorem f59_j1_ok {d : Nat} (hd : 2 ≤ d) (a1 : Int) (a2 : Int) (a3 : Int) (a4 : List UInt8) (a5 : List UInt8) (a6 : List UInt8) (a7 : List GAct) {r : Int × Int × (List UInt8) × (List UInt8) × (List UInt8) × (List GAct) × Bool} {Q : PX → St → Prop} (hQ : ∀ e st', f59_Q r e st' → Q e st')  (hS : f59_j1 a1 a2 a3 a4 a5 a6 a7 = some r) {st : St} (he : keepSt [0, 5] [(0, .id 0), (1, .id 1)] [] st = f59_j1_J a1 a2 a3 a4 a5 a6 a7) : ZR (lev codes baseL (d - 1)) Q c59_2 [.blk 0, .seq c59_1] st := by
  refine zrKeep he ?_
  unfold f59_j1 at hS
  refine zrSkip ?_
  refine zkBlk ?_
  refine zkSeq ?_
  exact f59_j0_ok hd a1 a2 a3 a4 a5 a6 a7 hQ 0 hS (by kernel_rfl)
noncomputable def f59 (a1 : Int) (a2 : Int) (a3 : Int) (a4 : List UInt8) (a5 : List UInt8) (a6 : List UInt8) (a7 : List GAct) : Option (Int × Int × (List UInt8) × (List UInt8) × (List UInt8) × (List GAct) × Bool) := (bif (decide (a1 = 27)) then (f59_j0 a1 a2 a3 a4 a5 a6 a7 1) else (bif (decide (a1 = 24)) then (f59_j1 a1 a2 a3 a4 a5 a6 a7 ) else (bif (decide (a1 = 26)) then (f59_j1 a1 a2 a3 a4 a5 a6 a7 ) else (bif (decide (a1 < 32)) then ((f56 (GAct.mk 2 a1 0 ([]) ([]) ([])) a2 a3 a4 a5 a6 a7).bind fun z10 => (some (z10.1, z10.2.1, z10.2.2.1, z10.2.2.2.1, z10.2.2.2.2.1, z10.2.2.2.2.2, true))) else ((f32 a1 127 159).bind fun z11 => (some (a2, a3, a4, a5, a6, a7, z11)))))))
theorem f59_ok (d : Nat) (hd : 2 ≤ d) (a1 : Int) (a2 : Int) (a3 : Int) (a4 : List UInt8) (a5 : List UInt8) (a6 : List UInt8) (a7 : List GAct) (r : Int × Int × (List UInt8) × (List UInt8) × (List UInt8) × (List GAct) × Bool) (hS : f59 a1 a2 a3 a4 a5 a6 a7 = some r) : lev codes baseL d 59 [(.r (.ptr 0 0 0)), (.d (.int .i64 a1))] [(.box ((.d (.int .i64 a2)) :: ((.d (.int .i64 a3)) :: ((.d (.str a4)) :: ((.d (.str a5)) :: ((.d (.str a6)) :: ((.r (.msl 1 0 0 a7.length)) :: []))))))), (.own 31 6 (e_GAct.cells a7))] = some ((.d (.bool r.2.2.2.2.2.2)), [(.box ((.d (.int .i64 r.1)) :: ((.d (.int .i64 r.2.1)) :: ((.d (.str r.2.2.1)) :: ((.d (.str r.2.2.2.1)) :: ((.d (.str r.2.2.2.2.1)) :: ((.r (.msl 1 0 0 r.2.2.2.2.2.1.length)) :: []))))))), (.own 31 6 (e_GAct.cells r.2.2.2.2.2.1))]) := by
  refine lev_go codes59 rfl rfl (Nat.le_trans (Nat.le_of_ble_eq_true rfl) hd) fun Q hQ => ?_
  unfold f59 at hS
  show ZR _ Q c59_b [] _
  replace hQ : ∀ e st', f59_Q r e st' → Q e st' := hQ
  refine zrSeq ?_
  refine zrReg ?_
  refine zlRun (n := 1) (j := 1) rfl (by kernel_rfl) ?_
  refine zlEnd (by kernel_rfl) ?_
  refine zkSeq ?_
  refine zrSeq ?_
  refine zrReg ?_
  refine zlRun (n := 1) (j := 1) rfl (by kernel_rfl) ?_
  refine zlEnd (by kernel_rfl) ?_
  refine zkSeq ?_
  refine zrSeq ?_
  refine zrBlk ?_
  refine zrSeq ?_
  refine zrReg ?_
  refine zlRun (n := 1) (j := 1) rfl (by kernel_rfl) ?_
  refine zlBool (d := 10) (op := (.cmpI .eql (.tmp 9) (.const (.int .i64 27)))) (g := none) (j := 2) (decide (a1 = 27)) rfl (by kernel_rfl) (by kernel_rfl) (by kernel_rfl) (fun hc => ?_) (fun hc => ?_)
  · replace hS := cond_t hc hS
    refine zlRun (n := 1) (j := 3) rfl (by kernel_rfl) ?_
    refine zlEnd (by kernel_rfl) ?_
    refine zkSeq ?_
    refine zrCondT (by kernel_rfl) ?_
    refine zrReg ?_
    refine zlRun (n := 1) (j := 1) rfl (by kernel_rfl) ?_
    refine zlEnd (by kernel_rfl) ?_
    refine zkBlk ?_
    refine zkSeq ?_
    exact f59_j0_ok hd a1 a2 a3 a4 a5 a6 a7 hQ 1 hS (by kernel_rfl)
  · replace hS := cond_f hc hS
    refine zlRun (n := 1) (j := 3) rfl (by kernel_rfl) ?_
    refine zlEnd (by kernel_rfl) ?_
    refine zkSeq ?_
    refine zrCondF (by kernel_rfl) ?_
    refine zrSeq ?_
    refine zrReg ?_
    refine zlRun (n := 1) (j := 1) rfl (by kernel_rfl) ?_
    refine zlBool (d := 13) (op := (.cmpI .eql (.tmp 12) (.const (.int .i64 24)))) (g := none) (j := 2) (decide (a1 = 24)) rfl (by kernel_rfl) (by kernel_rfl) (by kernel_rfl) (fun hc => ?_) (fun hc => ?_)
    · replace hS := cond_t hc hS
      refine zlRun (n := 5) (j := 7) rfl (by kernel_rfl) ?_
      refine zlEnd (by kernel_rfl) ?_
      refine zkSeq ?_
      refine zrCondT (by kernel_rfl) ?_
      exact f59_j1_ok hd a1 a2 a3 a4 a5 a6 a7 hQ  hS (by kernel_rfl)
    · replace hS := cond_f hc hS
      refine zlRun (n := 2) (j := 4) rfl (by kernel_rfl) ?_
      refine zlBool (d := 16) (op := (.cmpI .eql (.tmp 15) (.const (.int .i64 26)))) (g := (some (14, false))) (j := 5) (decide (a1 = 26)) rfl (by kernel_rfl) (by kernel_rfl) (by kernel_rfl) (fun hc => ?_) (fun hc => ?_)
      · replace hS := cond_t hc hS
        refine zlRun (n := 2) (j := 7) rfl (by kernel_rfl) ?_
        refine zlEnd (by kernel_rfl) ?_
        refine zkSeq ?_
        refine zrCondT (by kernel_rfl) ?_
        exact f59_j1_ok hd a1 a2 a3 a4 a5 a6 a7 hQ  hS (by kernel_rfl)
      · replace hS := cond_f hc hS
        refine zlRun (n := 2) (j := 7) rfl (by kernel_rfl) ?_
        refine zlEnd (by kernel_rfl) ?_
        refine zkSeq ?_
        refine zrCondF (by kernel_rfl) ?_
        refine zrSeq ?_
        refine zrReg ?_
        refine zlRun (n := 1) (j := 1) rfl (by kernel_rfl) ?_
        refine zlBool (d := 20) (op := (.cmpI .lss (.tmp 19) (.const (.int .i64 32)))) (g := none) (j := 2) (decide (a1 < 32)) rfl (by kernel_rfl) (by kernel_rfl) (by kernel_rfl) (fun hc => ?_) (fun hc => ?_)
        · replace hS := cond_t hc hS
          refine zlRun (n := 1) (j := 3) rfl (by kernel_rfl) ?_
          refine zlEnd (by kernel_rfl) ?_
          refine zkSeq ?_
          refine zrCondT (by kernel_rfl) ?_
          refine zrSeq ?_
          refine zrReg ?_
          refine zlRun (n := 3) (j := 3) rfl (by kernel_rfl) ?_
          refine bindE hS (fun z10 hz10 hS => ?_)
          refine zlOp (d := some 24) (op := (.callr 56 [(.tmp 21), (.tmp 23)])) (g := none) (v := (.tup [])) (ups := [(0, ⟨0, some (.box ((.d (.int .i64 z10.1)) :: ((.d (.int .i64 z10.2.1)) :: ((.d (.str z10.2.2.1)) :: ((.d (.str z10.2.2.2.1)) :: ((.d (.str z10.2.2.2.2.1)) :: ((.r (.msl 1 1 0 z10.2.2.2.2.2.length)) :: [])))))))⟩), (1, ⟨1, some (.own 31 6 (e_GAct.cells z10.2.2.2.2.2))⟩)]) (j := 4) rfl (by kernel_rfl) (by kernel_rfl) (ev_callr (args := [(.r (.ptr 0 0 0)), (.agg ((.d (.int .i64 2)) :: ((.d (.int .i64 a1)) :: ((.d (.int .i64 0)) :: ((.d (.str ([]))) :: ((.d (.sl ([] : List Int).length ((eInt .i64).cells ([])))) :: ((.d (.str ([]))) :: [])))))))]) (ids := [0, 1]) (bs := [(.box ((.d (.int .i64 a2)) :: ((.d (.int .i64 a3)) :: ((.d (.str a4)) :: ((.d (.str a5)) :: ((.d (.str a6)) :: ((.r (.msl 1 0 0 a7.length)) :: []))))))), (.own 31 6 (e_GAct.cells a7))]) (l := [(.r (.ptr 0 0 0)), (.agg ((.d (.int .i64 2)) :: ((.d (.int .i64 a1)) :: ((.d (.int .i64 0)) :: ((.d (.str ([]))) :: ((.d (.sl ([] : List Int).length ((eInt .i64).cells ([])))) :: ((.d (.str ([]))) :: [])))))))]) (bt := [(.box ((.d (.int .i64 a2)) :: ((.d (.int .i64 a3)) :: ((.d (.str a4)) :: ((.d (.str a5)) :: ((.d (.str a6)) :: ((.r (.msl 1 0 0 a7.length)) :: []))))))), (.own 31 6 (e_GAct.cells a7))]) (r := (.tup [])) (bs' := [(.box ((.d (.int .i64 z10.1)) :: ((.d (.int .i64 z10.2.1)) :: ((.d (.str z10.2.2.1)) :: ((.d (.str z10.2.2.2.1)) :: ((.d (.str z10.2.2.2.2.1)) :: ((.r (.msl 1 0 0 z10.2.2.2.2.2.length)) :: []))))))), (.own 31 6 (e_GAct.cells z10.2.2.2.2.2))]) (by kernel_rfl) (by kernel_rfl) (by kernel_rfl) (by kernel_rfl) (by kernel_rfl) (f56_ok (d - 1) (dpt hd rfl) (GAct.mk 2 a1 0 ([]) ([]) ([])) a2 a3 a4 a5 a6 a7 z10 hz10) (by kernel_rfl) (by kernel_rfl)) ?_
          refine zlEnd (by kernel_rfl) ?_
          refine zkSeq ?_
          refine zrSeq ?_
          refine zrReg ?_
          refine zlRun (n := 1) (j := 1) rfl (by kernel_rfl) ?_
          refine zlEnd (by kernel_rfl) ?_
          refine zkSeq ?_
          refine zrRet ?_
          refine zkBlkR ?_
          refine zkSeqR ?_
          refine zkNil ?_
          exact endQ hS hQ (fRet ((congrArg (fun s => outR s 2 c59.res) (by kernel_rfl : finSt c59.fin _ = f59_fin z10.1 z10.2.1 z10.2.2.1 z10.2.2.2.1 z10.2.2.2.2.1 z10.2.2.2.2.2 true)).trans (f59_out z10.1 z10.2.1 z10.2.2.1 z10.2.2.2.1 z10.2.2.2.2.1 z10.2.2.2.2.2 true)))
        · replace hS := cond_f hc hS
          refine zlRun (n := 1) (j := 3) rfl (by kernel_rfl) ?_
          refine zlEnd (by kernel_rfl) ?_
          refine zkSeq ?_
          refine zrCondF (by kernel_rfl) ?_
          refine zrSeq ?_
          refine zrReg ?_
          refine zlRun (n := 1) (j := 1) rfl (by kernel_rfl) ?_
          refine bindE hS (fun z11 hz11 hS => ?_)
          refine zlOp (d := some 7) (op := (.call 32 [(.tmp 6), (.const (.int .i64 127)), (.const (.int .i64 159))])) (g := none) (v := (.d (.bool z11))) (ups := []) (j := 2) rfl (by kernel_rfl) (by kernel_rfl) (ev_call (args := [(.d (.int .i64 a1)), (.d (.int .i64 127)), (.d (.int .i64 159))]) (l := [(.d (.int .i64 a1)), (.d (.int .i64 127)), (.d (.int .i64 159))]) (r := (.d (.bool z11))) (by kernel_rfl) (by kernel_rfl) (f32_ok (d - 1) (dpt hd rfl) a1 127 159 z11 hz11) (by kernel_rfl) (by kernel_rfl) (by kernel_rfl)) ?_
          refine zlRun (n := 1) (j := 3) rfl (by kernel_rfl) ?_
          refine zlEnd (by kernel_rfl) ?_
          refine zkSeq ?_
          refine zrRet ?_
          refine zkBlkR ?_
          refine zkSeqR ?_
          refine zkNil ?_
          exact endQ hS hQ (fRet ((congrArg (fun s => outR s 2 c59.res) (by kernel_rfl : finSt c59.fin _ = f59_fin a2 a3 a4 a5 a6 a7 z11)).trans (f59_out a2 a3 a4 a5 a6 a7 z11)))
/- (*farwriter/parse.machine).more -/
def f83_fin (p2 : Int) (p3 : Int) (p4 : List UInt8) (p5 : List UInt8) (p6 : List UInt8) (p7 : List GAct) : St := ⟨(fun _ => .un), (up (up (hB fun _ => 0) 1 ⟨0, some (.own 31 6 (e_GAct.cells p7))⟩) 0 ⟨0, some (.box ((.d (.int .i64 p2)) :: ((.d (.int .i64 p3)) :: ((.d (.str p4)) :: ((.d (.str p5)) :: ((.d (.str p6)) :: ((.r (.msl 1 0 0 p7.length)) :: [])))))))⟩)⟩
theorem f83_out (p2 : Int) (p3 : Int) (p4 : List UInt8) (p5 : List UInt8) (p6 : List UInt8) (p7 : List GAct) : outR (f83_fin p2 p3 p4 p5 p6 p7) 2 c83.res = some ((.tup []), [(.box ((.d (.int .i64 p2)) :: ((.d (.int .i64 p3)) :: ((.d (.str p4)) :: ((.d (.str p5)) :: ((.d (.str p6)) :: ((.r (.msl 1 0 0 p7.length)) :: []))))))), (.own 31 6 (e_GAct.cells p7))]) := by
  kernel_rfl
def f83_Q (r : Int × Int × (List UInt8) × (List UInt8) × (List UInt8) × (List GAct)) (e : PX) (st : St) : Prop := DoneF c83 2 ((.tup []), [(.box ((.d (.int .i64 r.1)) :: ((.d (.int .i64 r.2.1)) :: ((.d (.str r.2.2.1)) :: ((.d (.str r.2.2.2.1)) :: ((.d (.str r.2.2.2.2.1)) :: ((.r (.msl 1 0 0 r.2.2.2.2.2.length)) :: []))))))), (.own 31 6 (e_GAct.cells r.2.2.2.2.2))]) e st
noncomputable def f83 (a1 : Int) (a2 : Int) (a3 : Int) (a4 : List UInt8) (a5 : List UInt8) (a6 : List UInt8) (a7 : List GAct) : Option (Int × Int × (List UInt8) × (List UInt8) × (List UInt8) × (List GAct)) := (bif (decide ((a4.length : Int) < 3)) then ((cat? a4 ((Utf8.encode (IntKind.i32.wrap (a1))).data.toList)).bind fun z2 => (some (a2, a3, z2, a5, a6, a7))) else (some (a2, a3, a4, a5, a6, a7)))
theorem f83_ok (d : Nat) (hd : 1 ≤ d) (a1 : Int) (a2 : Int) (a3 : Int) (a4 : List UInt8) (a5 : List UInt8) (a6 : List UInt8) (a7 : List GAct) (r : Int × Int × (List UInt8) × (List UInt8) × (List UInt8) × (List GAct)) (hS : f83 a1 a2 a3 a4 a5 a6 a7 = some r) : lev codes baseL d 83 [(.r (.ptr 0 0 0)), (.d (.int .i64 a1))] [(.box ((.d (.int .i64 a2)) :: ((.d (.int .i64 a3)) :: ((.d (.str a4)) :: ((.d (.str a5)) :: ((.d (.str a6)) :: ((.r (.msl 1 0 0 a7.length)) :: []))))))), (.own 31 6 (e_GAct.cells a7))] = some ((.tup []), [(.box ((.d (.int .i64 r.1)) :: ((.d (.int .i64 r.2.1)) :: ((.d (.str r.2.2.1)) :: ((.d (.str r.2.2.2.1)) :: ((.d (.str r.2.2.2.2.1)) :: ((.r (.msl 1 0 0 r.2.2.2.2.2.length)) :: []))))))), (.own 31 6 (e_GAct.cells r.2.2.2.2.2))]) := by
  refine lev_go codes83 rfl rfl (Nat.le_trans (Nat.le_of_ble_eq_true rfl) hd) fun Q hQ => ?_
  unfold f83 at hS
  show ZR _ Q c83_b [] _
  replace hQ : ∀ e st', f83_Q r e st' → Q e st' := hQ
  refine zrSeq ?_
  refine zrReg ?_
  refine zlRun (n := 6) (j := 6) rfl (by kernel_rfl) ?_
  refine zlBool (d := 10) (op := (.cmpI .lss (.tmp 9) (.const (.int .i64 3)))) (g := none) (j := 7) (decide ((a4.length : Int) < 3)) rfl (by kernel_rfl) (by kernel_rfl) (by kernel_rfl) (fun hc => ?_) (fun hc => ?_)
  · replace hS := cond_t hc hS
    refine zlEnd (by kernel_rfl) ?_
    refine zkSeq ?_
    refine zrCondT (by kernel_rfl) ?_
    refine zrReg ?_
    refine zlRun (n := 8) (j := 8) rfl (by kernel_rfl) ?_
    refine bindE hS (fun z2 hz2 hS => ?_)
    refine zlOp (d := some 19) (op := (.strO .add (.tmp 15) (.tmp 18))) (g := none) (v := (.d (.str z2))) (ups := []) (j := 9) rfl (by kernel_rfl) (by kernel_rfl) (ev_cat (a := a4) (c := (Utf8.encode (IntKind.i32.wrap (a1))).data.toList) (by kernel_rfl) (by kernel_rfl) hz2) ?_
    refine zlRun (n := 4) (j := 13) rfl (by kernel_rfl) ?_
    refine zlEnd (by kernel_rfl) ?_
    refine zkNil ?_
    exact endQ hS hQ (fNorm ((congrArg (fun s => outR s 2 c83.res) (by kernel_rfl : finSt c83.fin _ = f83_fin a2 a3 z2 a5 a6 a7)).trans (f83_out a2 a3 z2 a5 a6 a7)))
  · replace hS := cond_f hc hS
    refine zlEnd (by kernel_rfl) ?_
    refine zkSeq ?_
    refine zrCondF (by kernel_rfl) ?_
    refine zrSkip ?_
    refine zkNil ?_
    exact endQ hS hQ (fNorm ((congrArg (fun s => outR s 2 c83.res) (by kernel_rfl : finSt c83.fin _ = f83_fin a2 a3 a4 a5 a6 a7)).trans (f83_out a2 a3 a4 a5 a6 a7)))
/- (*farwriter/parse.machine).final -/
def f84_fin (p3 : Int) (p4 : List GAct) : St := ⟨(fun _ => .un), (up (up (hB fun _ => 0) 1 ⟨0, some (.own 31 6 (e_GAct.cells p4))⟩) 0 ⟨0, some (.box ((.d (.int .i64 p3)) :: ((.d (.int .i64 0)) :: ((.d (.str ([]))) :: ((.d (.str ([]))) :: ((.d (.str ([]))) :: ((.r (.msl 1 0 0 p4.length)) :: [])))))))⟩)⟩
theorem f84_out (p3 : Int) (p4 : List GAct) : outR (f84_fin p3 p4) 2 c84.res = some ((.tup []), [(.box ((.d (.int .i64 p3)) :: ((.d (.int .i64 0)) :: ((.d (.str ([]))) :: ((.d (.str ([]))) :: ((.d (.str ([]))) :: ((.r (.msl 1 0 0 p4.length)) :: []))))))), (.own 31 6 (e_GAct.cells p4))]) := by
  kernel_rfl
def f84_Q (r : Int × (List GAct)) (e : PX) (st : St) : Prop := DoneF c84 2 ((.tup []), [(.box ((.d (.int .i64 r.1)) :: ((.d (.int .i64 0)) :: ((.d (.str ([]))) :: ((.d (.str ([]))) :: ((.d (.str ([]))) :: ((.r (.msl 1 0 0 r.2.length)) :: []))))))), (.own 31 6 (e_GAct.cells r.2))]) e st
noncomputable def f84 (a1 : GAct) (a2 : Int) (a3 : Int) (a4 : List UInt8) (a5 : List UInt8) (a6 : List UInt8) (a7 : List GAct) : Option (Int × (List GAct)) := (bif (decide ((a4.length : Int) = 3)) then ((f56 (GAct.mk 6 0 0 ([]) ([]) ([])) a2 a3 a4 a5 a6 a7).bind fun z3 => ((f57 0 z3.1 z3.2.1 z3.2.2.1 z3.2.2.2.1 z3.2.2.2.2.1 z3.2.2.2.2.2).bind fun z4 => (some (z4.1, z4.2)))) else ((f56 a1 a2 a3 a4 a5 a6 a7).bind fun z5 => ((f57 0 z5.1 z5.2.1 z5.2.2.1 z5.2.2.2.1 z5.2.2.2.2.1 z5.2.2.2.2.2).bind fun z6 => (some (z6.1, z6.2)))))
theorem f84_ok (d : Nat) (hd : 2 ≤ d) (a1 : GAct) (a2 : Int) (a3 : Int) (a4 : List UInt8) (a5 : List UInt8) (a6 : List UInt8) (a7 : List GAct) (r : Int × (List GAct)) (hS : f84 a1 a2 a3 a4 a5 a6 a7 = some r) : lev codes baseL d 84 [(.r (.ptr 0 0 0)), (.agg ((.d (.int .i64 a1.Kind)) :: ((.d (.int .i64 a1.Code)) :: ((.d (.int .i64 a1.Mark)) :: ((.d (.str a1.Inter)) :: ((.d (.sl a1.Args.length ((eInt .i64).cells a1.Args))) :: ((.d (.str a1.Text)) :: [])))))))] [(.box ((.d (.int .i64 a2)) :: ((.d (.int .i64 a3)) :: ((.d (.str a4)) :: ((.d (.str a5)) :: ((.d (.str a6)) :: ((.r (.msl 1 0 0 a7.length)) :: []))))))), (.own 31 6 (e_GAct.cells a7))] = some ((.tup []), [(.box ((.d (.int .i64 r.1)) :: ((.d (.int .i64 0)) :: ((.d (.str ([]))) :: ((.d (.str ([]))) :: ((.d (.str ([]))) :: ((.r (.msl 1 0 0 r.2.length)) :: []))))))), (.own 31 6 (e_GAct.cells r.2))]) := by
  refine lev_go codes84 rfl rfl (Nat.le_trans (Nat.le_of_ble_eq_true rfl) hd) fun Q hQ => ?_
  unfold f84 at hS
  show ZR _ Q c84_b [] _
  replace hQ : ∀ e st', f84_Q r e st' → Q e st' := hQ
  refine zrSeq ?_
  refine zrReg ?_
  refine zlRun (n := 1) (j := 1) rfl (by kernel_rfl) ?_
  refine zlEnd (by kernel_rfl) ?_
  refine zkSeq ?_
  refine zrSeq ?_
  refine zrSeq ?_
  refine zrReg ?_
  refine zlRun (n := 6) (j := 6) rfl (by kernel_rfl) ?_
  refine zlBool (d := 10) (op := (.cmpI .eql (.tmp 9) (.const (.int .i64 3)))) (g := none) (j := 7) (decide ((a4.length : Int) = 3)) rfl (by kernel_rfl) (by kernel_rfl) (by kernel_rfl) (fun hc => ?_) (fun hc => ?_)
  · replace hS := cond_t hc hS
    refine zlEnd (by kernel_rfl) ?_
    refine zkSeq ?_
    refine zrCondT (by kernel_rfl) ?_
    refine zrReg ?_
    refine zlRun (n := 2) (j := 2) rfl (by kernel_rfl) ?_
    refine zlEnd (by kernel_rfl) ?_
    refine zkSeq ?_
    refine zrSeq ?_
    refine zrReg ?_
    refine zlRun (n := 2) (j := 2) rfl (by kernel_rfl) ?_
    refine bindE hS (fun z3 hz3 hS => ?_)
    refine zlOp (d := some 14) (op := (.callr 56 [(.tmp 12), (.tmp 13)])) (g := none) (v := (.tup [])) (ups := [(0, ⟨0, some (.box ((.d (.int .i64 z3.1)) :: ((.d (.int .i64 z3.2.1)) :: ((.d (.str z3.2.2.1)) :: ((.d (.str z3.2.2.2.1)) :: ((.d (.str z3.2.2.2.2.1)) :: ((.r (.msl 1 1 0 z3.2.2.2.2.2.length)) :: [])))))))⟩), (1, ⟨1, some (.own 31 6 (e_GAct.cells z3.2.2.2.2.2))⟩)]) (j := 3) rfl (by kernel_rfl) (by kernel_rfl) (ev_callr (args := [(.r (.ptr 0 0 0)), (.agg ((.d (.int .i64 6)) :: ((.d (.int .i64 0)) :: ((.d (.int .i64 0)) :: ((.d (.str ([]))) :: ((.d (.sl ([] : List Int).length ((eInt .i64).cells ([])))) :: ((.d (.str ([]))) :: [])))))))]) (ids := [0, 1]) (bs := [(.box ((.d (.int .i64 a2)) :: ((.d (.int .i64 a3)) :: ((.d (.str a4)) :: ((.d (.str a5)) :: ((.d (.str a6)) :: ((.r (.msl 1 0 0 a7.length)) :: []))))))), (.own 31 6 (e_GAct.cells a7))]) (l := [(.r (.ptr 0 0 0)), (.agg ((.d (.int .i64 6)) :: ((.d (.int .i64 0)) :: ((.d (.int .i64 0)) :: ((.d (.str ([]))) :: ((.d (.sl ([] : List Int).length ((eInt .i64).cells ([])))) :: ((.d (.str ([]))) :: [])))))))]) (bt := [(.box ((.d (.int .i64 a2)) :: ((.d (.int .i64 a3)) :: ((.d (.str a4)) :: ((.d (.str a5)) :: ((.d (.str a6)) :: ((.r (.msl 1 0 0 a7.length)) :: []))))))), (.own 31 6 (e_GAct.cells a7))]) (r := (.tup [])) (bs' := [(.box ((.d (.int .i64 z3.1)) :: ((.d (.int .i64 z3.2.1)) :: ((.d (.str z3.2.2.1)) :: ((.d (.str z3.2.2.2.1)) :: ((.d (.str z3.2.2.2.2.1)) :: ((.r (.msl 1 0 0 z3.2.2.2.2.2.length)) :: []))))))), (.own 31 6 (e_GAct.cells z3.2.2.2.2.2))]) (by kernel_rfl) (by kernel_rfl) (by kernel_rfl) (by kernel_rfl) (by kernel_rfl) (f56_ok (d - 1) (dpt hd rfl) (GAct.mk 6 0 0 ([]) ([]) ([])) a2 a3 a4 a5 a6 a7 z3 hz3) (by kernel_rfl) (by kernel_rfl)) ?_
    refine zlEnd (by kernel_rfl) ?_
    refine zkSeq ?_
    refine zrReg ?_
    refine zlRun (n := 1) (j := 1) rfl (by kernel_rfl) ?_
    refine bindE hS (fun z4 hz4 hS => ?_)
    refine zlOp (d := some 16) (op := (.callr 57 [(.tmp 15), (.const (.int .i64 0))])) (g := none) (v := (.tup [])) (ups := [(0, ⟨0, some (.box ((.d (.int .i64 z4.1)) :: ((.d (.int .i64 0)) :: ((.d (.str ([]))) :: ((.d (.str ([]))) :: ((.d (.str ([]))) :: ((.r (.msl 1 2 0 z4.2.length)) :: [])))))))⟩), (1, ⟨2, some (.own 31 6 (e_GAct.cells z4.2))⟩)]) (j := 2) rfl (by kernel_rfl) (by kernel_rfl) (ev_callr (args := [(.r (.ptr 0 0 0)), (.d (.int .i64 0))]) (ids := [0, 1]) (bs := [(.box ((.d (.int .i64 z3.1)) :: ((.d (.int .i64 z3.2.1)) :: ((.d (.str z3.2.2.1)) :: ((.d (.str z3.2.2.2.1)) :: ((.d (.str z3.2.2.2.2.1)) :: ((.r (.msl 1 1 0 z3.2.2.2.2.2.length)) :: []))))))), (.own 31 6 (e_GAct.cells z3.2.2.2.2.2))]) (l := [(.r (.ptr 0 0 0)), (.d (.int .i64 0))]) (bt := [(.box ((.d (.int .i64 z3.1)) :: ((.d (.int .i64 z3.2.1)) :: ((.d (.str z3.2.2.1)) :: ((.d (.str z3.2.2.2.1)) :: ((.d (.str z3.2.2.2.2.1)) :: ((.r (.msl 1 0 0 z3.2.2.2.2.2.length)) :: []))))))), (.own 31 6 (e_GAct.cells z3.2.2.2.2.2))]) (r := (.tup [])) (bs' := [(.box ((.d (.int .i64 z4.1)) :: ((.d (.int .i64 0)) :: ((.d (.str ([]))) :: ((.d (.str ([]))) :: ((.d (.str ([]))) :: ((.r (.msl 1 0 0 z4.2.length)) :: []))))))), (.own 31 6 (e_GAct.cells z4.2))]) (by kernel_rfl) (by kernel_rfl) (by kernel_rfl) (by kernel_rfl) (by kernel_rfl) (f57_ok (d - 1) (dpt hd rfl) 0 z3.1 z3.2.1 z3.2.2.1 z3.2.2.2.1 z3.2.2.2.2.1 z3.2.2.2.2.2 z4 hz4) (by kernel_rfl) (by kernel_rfl)) ?_
    refine zlEnd (by kernel_rfl) ?_
    refine zkNil ?_
    exact endQ hS hQ (fNorm ((congrArg (fun s => outR s 2 c84.res) (by kernel_rfl : finSt c84.fin _ = f84_fin z4.1 z4.2)).trans (f84_out z4.1 z4.2)))
  · replace hS := cond_f hc hS
    refine zlEnd (by kernel_rfl) ?_
    refine zkSeq ?_
    refine zrCondF (by kernel_rfl) ?_
    refine zrSkip ?_
    refine zkSeq ?_
    refine zrSeq ?_
    refine zrReg ?_
    refine zlRun (n := 2) (j := 2) rfl (by kernel_rfl) ?_
    refine bindE hS (fun z5 hz5 hS => ?_)
    refine zlOp (d := some 14) (op := (.callr 56 [(.tmp 12), (.tmp 13)])) (g := none) (v := (.tup [])) (ups := [(0, ⟨0, some (.box ((.d (.int .i64 z5.1)) :: ((.d (.int .i64 z5.2.1)) :: ((.d (.str z5.2.2.1)) :: ((.d (.str z5.2.2.2.1)) :: ((.d (.str z5.2.2.2.2.1)) :: ((.r (.msl 1 1 0 z5.2.2.2.2.2.length)) :: [])))))))⟩), (1, ⟨1, some (.own 31 6 (e_GAct.cells z5.2.2.2.2.2))⟩)]) (j := 3) rfl (by kernel_rfl) (by kernel_rfl) (ev_callr (args := [(.r (.ptr 0 0 0)), (.agg ((.d (.int .i64 a1.Kind)) :: ((.d (.int .i64 a1.Code)) :: ((.d (.int .i64 a1.Mark)) :: ((.d (.str a1.Inter)) :: ((.d (.sl a1.Args.length ((eInt .i64).cells a1.Args))) :: ((.d (.str a1.Text)) :: [])))))))]) (ids := [0, 1]) (bs := [(.box ((.d (.int .i64 a2)) :: ((.d (.int .i64 a3)) :: ((.d (.str a4)) :: ((.d (.str a5)) :: ((.d (.str a6)) :: ((.r (.msl 1 0 0 a7.length)) :: []))))))), (.own 31 6 (e_GAct.cells a7))]) (l := [(.r (.ptr 0 0 0)), (.agg ((.d (.int .i64 a1.Kind)) :: ((.d (.int .i64 a1.Code)) :: ((.d (.int .i64 a1.Mark)) :: ((.d (.str a1.Inter)) :: ((.d (.sl a1.Args.length ((eInt .i64).cells a1.Args))) :: ((.d (.str a1.Text)) :: [])))))))]) (bt := [(.box ((.d (.int .i64 a2)) :: ((.d (.int .i64 a3)) :: ((.d (.str a4)) :: ((.d (.str a5)) :: ((.d (.str a6)) :: ((.r (.msl 1 0 0 a7.length)) :: []))))))), (.own 31 6 (e_GAct.cells a7))]) (r := (.tup [])) (bs' := [(.box ((.d (.int .i64 z5.1)) :: ((.d (.int .i64 z5.2.1)) :: ((.d (.str z5.2.2.1)) :: ((.d (.str z5.2.2.2.1)) :: ((.d (.str z5.2.2.2.2.1)) :: ((.r (.msl 1 0 0 z5.2.2.2.2.2.length)) :: []))))))), (.own 31 6 (e_GAct.cells z5.2.2.2.2.2))]) (by kernel_rfl) (by kernel_rfl) (by kernel_rfl) (by kernel_rfl) (by kernel_rfl) (f56_ok (d - 1) (dpt hd rfl) a1 a2 a3 a4 a5 a6 a7 z5 hz5) (by kernel_rfl) (by kernel_rfl)) ?_
    refine zlEnd (by kernel_rfl) ?_
    refine zkSeq ?_
    refine zrReg ?_
    refine zlRun (n := 1) (j := 1) rfl (by kernel_rfl) ?_
    refine bindE hS (fun z6 hz6 hS => ?_)
    refine zlOp (d := some 16) (op := (.callr 57 [(.tmp 15), (.const (.int .i64 0))])) (g := none) (v := (.tup [])) (ups := [(0, ⟨0, some (.box ((.d (.int .i64 z6.1)) :: ((.d (.int .i64 0)) :: ((.d (.str ([]))) :: ((.d (.str ([]))) :: ((.d (.str ([]))) :: ((.r (.msl 1 2 0 z6.2.length)) :: [])))))))⟩), (1, ⟨2, some (.own 31 6 (e_GAct.cells z6.2))⟩)]) (j := 2) rfl (by kernel_rfl) (by kernel_rfl) (ev_callr (args := [(.r (.ptr 0 0 0)), (.d (.int .i64 0))]) (ids := [0, 1]) (bs := [(.box ((.d (.int .i64 z5.1)) :: ((.d (.int .i64 z5.2.1)) :: ((.d (.str z5.2.2.1)) :: ((.d (.str z5.2.2.2.1)) :: ((.d (.str z5.2.2.2.2.1)) :: ((.r (.msl 1 1 0 z5.2.2.2.2.2.length)) :: []))))))), (.own 31 6 (e_GAct.cells z5.2.2.2.2.2))]) (l := [(.r (.ptr 0 0 0)), (.d (.int .i64 0))]) (bt := [(.box ((.d (.int .i64 z5.1)) :: ((.d (.int .i64 z5.2.1)) :: ((.d (.str z5.2.2.1)) :: ((.d (.str z5.2.2.2.1)) :: ((.d (.str z5.2.2.2.2.1)) :: ((.r (.msl 1 0 0 z5.2.2.2.2.2.length)) :: []))))))), (.own 31 6 (e_GAct.cells z5.2.2.2.2.2))]) (r := (.tup [])) (bs' := [(.box ((.d (.int .i64 z6.1)) :: ((.d (.int .i64 0)) :: ((.d (.str ([]))) :: ((.d (.str ([]))) :: ((.d (.str ([]))) :: ((.r (.msl 1 0 0 z6.2.length)) :: []))))))), (.own 31 6 (e_GAct.cells z6.2))]) (by kernel_rfl) (by kernel_rfl) (by kernel_rfl) (by kernel_rfl) (by kernel_rfl) (f57_ok (d - 1) (dpt hd rfl) 0 z5.1 z5.2.1 z5.2.2.1 z5.2.2.2.1 z5.2.2.2.2.1 z5.2.2.2.2.2 z6 hz6) (by kernel_rfl) (by kernel_rfl)) ?_
    refine zlEnd (by kernel_rfl) ?_
    refine zkNil ?_
    exact endQ hS hQ (fNorm ((congrArg (fun s => outR s 2 c84.res) (by kernel_rfl : finSt c84.fin _ = f84_fin z6.1 z6.2)).trans (f84_out z6.1 z6.2)))
/- strings.IndexByte -/
theorem libIndexByte_ok (d : Nat) (hd : 0 ≤ d) (a1 : List UInt8) (a2 : UInt8) (r : Int) (hS : libIndexByte a1 a2 = some r) : lev codes baseL d 36 [(.d (.str a1)), (.d (.int .u8 (a2.toNat : Int)))] [] = some ((.d (.int .i64 r)), []) := lib_call (l := libs) rfl rfl rfl (osuI_ hS) d
/- (*farwriter/parse.machine).esc -/
def f60_fin (p6 : Int) (p7 : Int) (p8 : List UInt8) (p9 : List UInt8) (p10 : List UInt8) (p11 : List GAct) : St := ⟨(fun _ => .un), (up (up (hB fun _ => 0) 1 ⟨0, some (.own 31 6 (e_GAct.cells p11))⟩) 0 ⟨0, some (.box ((.d (.int .i64 p6)) :: ((.d (.int .i64 p7)) :: ((.d (.str p8)) :: ((.d (.str p9)) :: ((.d (.str p10)) :: ((.r (.msl 1 0 0 p11.length)) :: [])))))))⟩)⟩
theorem f60_out (p6 : Int) (p7 : Int) (p8 : List UInt8) (p9 : List UInt8) (p10 : List UInt8) (p11 : List GAct) : outR (f60_fin p6 p7 p8 p9 p10 p11) 2 c60.res = some ((.tup []), [(.box ((.d (.int .i64 p6)) :: ((.d (.int .i64 p7)) :: ((.d (.str p8)) :: ((.d (.str p9)) :: ((.d (.str p10)) :: ((.r (.msl 1 0 0 p11.length)) :: []))))))), (.own 31 6 (e_GAct.cells p11))]) := by
  kernel_rfl
def f60_Q (r : Int × Int × (List UInt8) × (List UInt8) × (List UInt8) × (List GAct)) (e : PX) (st : St) : Prop := DoneF c60 2 ((.tup []), [(.box ((.d (.int .i64 r.1)) :: ((.d (.int .i64 r.2.1)) :: ((.d (.str r.2.2.1)) :: ((.d (.str r.2.2.2.1)) :: ((.d (.str r.2.2.2.2.1)) :: ((.r (.msl 1 0 0 r.2.2.2.2.2.length)) :: []))))))), (.own 31 6 (e_GAct.cells r.2.2.2.2.2))]) e st
noncomputable def f60 (a1 : Int) (a2 : Int) (a3 : Int) (a4 : List UInt8) (a5 : List UInt8) (a6 : List UInt8) (a7 : List GAct) : Option (Int × Int × (List UInt8) × (List UInt8) × (List UInt8) × (List GAct)) := (bif (decide (a1 < 48)) then ((f83 a1 a2 a3 a4 a5 a6 a7).bind fun z5 => (some (2, z5.2.1, z5.2.2.1, z5.2.2.2.1, z5.2.2.2.2.1, z5.2.2.2.2.2))) else (bif (decide (a2 = 2)) then ((f84 (GAct.mk 3 a1 0 a4 ([]) ([])) a2 a3 a4 a5 a6 a7).bind fun z6 => (some (z6.1, 0, [], [], [], z6.2))) else (bif (decide (a1 = 91)) then (some (3, a3, a4, a5, a6, a7)) else (bif (decide (a1 = 93)) then (some (7, a3, a4, a5, a6, a7)) else ((libIndexByte [80, 88, 94, 95] (u8 a1)).bind fun z8 => (bif (decide (0 ≤ z8)) then (some (9, a3, a4, a5, a6, a7)) else ((f84 (GAct.mk 3 a1 0 ([]) ([]) ([])) a2 a3 a4 a5 a6 a7).bind fun z9 => (some (z9.1, 0, [], [], [], z9.2)))))))))
theorem f60_ok (d : Nat) (hd : 3 ≤ d) (a1 : Int) (a2 : Int) (a3 : Int) (a4 : List UInt8) (a5 : List UInt8) (a6 : List UInt8) (a7 : List GAct) (r : Int × Int × (List UInt8) × (List UInt8) × (List UInt8) × (List GAct)) (hS : f60 a1 a2 a3 a4 a5 a6 a7 = some r) : lev codes baseL d 60 [(.r (.ptr 0 0 0)), (.d (.int .i64 a1))] [(.box ((.d (.int .i64 a2)) :: ((.d (.int .i64 a3)) :: ((.d (.str a4)) :: ((.d (.str a5)) :: ((.d (.str a6)) :: ((.r (.msl 1 0 0 a7.length)) :: []))))))), (.own 31 6 (e_GAct.cells a7))] = some ((.tup []), [(.box ((.d (.int .i64 r.1)) :: ((.d (.int .i64 r.2.1)) :: ((.d (.str r.2.2.1)) :: ((.d (.str r.2.2.2.1)) :: ((.d (.str r.2.2.2.2.1)) :: ((.r (.msl 1 0 0 r.2.2.2.2.2.length)) :: []))))))), (.own 31 6 (e_GAct.cells r.2.2.2.2.2))]) := by
  refine lev_go codes60 rfl rfl (Nat.le_trans (Nat.le_of_ble_eq_true rfl) hd) fun Q hQ => ?_
  unfold f60 at hS
  show ZR _ Q c60_b [] _
  replace hQ : ∀ e st', f60_Q r e st' → Q e st' := hQ
  refine zrBlk ?_
  refine zrSeq ?_
  refine zrReg ?_
  refine zlRun (n := 1) (j := 1) rfl (by kernel_rfl) ?_
  refine zlBool (d := 10) (op := (.cmpI .lss (.tmp 9) (.const (.int .i64 48)))) (g := none) (j := 2) (decide (a1 < 48)) rfl (by kernel_rfl) (by kernel_rfl) (by kernel_rfl) (fun hc => ?_) (fun hc => ?_)
  · replace hS := cond_t hc hS
    refine zlRun (n := 1) (j := 3) rfl (by kernel_rfl) ?_
    refine zlEnd (by kernel_rfl) ?_
    refine zkSeq ?_
    refine zrCondT (by kernel_rfl) ?_
    refine zrSeq ?_
    refine zrReg ?_
    refine zlRun (n := 2) (j := 2) rfl (by kernel_rfl) ?_
    refine bindE hS (fun z5 hz5 hS => ?_)
    refine zlOp (d := some 13) (op := (.callr 83 [(.tmp 11), (.tmp 12)])) (g := none) (v := (.tup [])) (ups := [(0, ⟨0, some (.box ((.d (.int .i64 z5.1)) :: ((.d (.int .i64 z5.2.1)) :: ((.d (.str z5.2.2.1)) :: ((.d (.str z5.2.2.2.1)) :: ((.d (.str z5.2.2.2.2.1)) :: ((.r (.msl 1 1 0 z5.2.2.2.2.2.length)) :: [])))))))⟩), (1, ⟨1, some (.own 31 6 (e_GAct.cells z5.2.2.2.2.2))⟩)]) (j := 3) rfl (by kernel_rfl) (by kernel_rfl) (ev_callr (args := [(.r (.ptr 0 0 0)), (.d (.int .i64 a1))]) (ids := [0, 1]) (bs := [(.box ((.d (.int .i64 a2)) :: ((.d (.int .i64 a3)) :: ((.d (.str a4)) :: ((.d (.str a5)) :: ((.d (.str a6)) :: ((.r (.msl 1 0 0 a7.length)) :: []))))))), (.own 31 6 (e_GAct.cells a7))]) (l := [(.r (.ptr 0 0 0)), (.d (.int .i64 a1))]) (bt := [(.box ((.d (.int .i64 a2)) :: ((.d (.int .i64 a3)) :: ((.d (.str a4)) :: ((.d (.str a5)) :: ((.d (.str a6)) :: ((.r (.msl 1 0 0 a7.length)) :: []))))))), (.own 31 6 (e_GAct.cells a7))]) (r := (.tup [])) (bs' := [(.box ((.d (.int .i64 z5.1)) :: ((.d (.int .i64 z5.2.1)) :: ((.d (.str z5.2.2.1)) :: ((.d (.str z5.2.2.2.1)) :: ((.d (.str z5.2.2.2.2.1)) :: ((.r (.msl 1 0 0 z5.2.2.2.2.2.length)) :: []))))))), (.own 31 6 (e_GAct.cells z5.2.2.2.2.2))]) (by kernel_rfl) (by kernel_rfl) (by kernel_rfl) (by kernel_rfl) (by kernel_rfl) (f83_ok (d - 1) (dpt hd rfl) a1 a2 a3 a4 a5 a6 a7 z5 hz5) (by kernel_rfl) (by kernel_rfl)) ?_
    refine zlEnd (by kernel_rfl) ?_
    refine zkSeq ?_
    refine zrReg ?_
    refine zlRun (n := 5) (j := 5) rfl (by kernel_rfl) ?_
    refine zlEnd (by kernel_rfl) ?_
    refine zkBlk ?_
    refine zkNil ?_
    exact endQ hS hQ (fNorm ((congrArg (fun s => outR s 2 c60.res) (by kernel_rfl : finSt c60.fin _ = f60_fin 2 z5.2.1 z5.2.2.1 z5.2.2.2.1 z5.2.2.2.2.1 z5.2.2.2.2.2)).trans (f60_out 2 z5.2.1 z5.2.2.1 z5.2.2.2.1 z5.2.2.2.2.1 z5.2.2.2.2.2)))
  · replace hS := cond_f hc hS
    refine zlRun (n := 1) (j := 3) rfl (by kernel_rfl) ?_
    refine zlEnd (by kernel_rfl) ?_
    refine zkSeq ?_
    refine zrCondF (by kernel_rfl) ?_
    refine zrSeq ?_
    refine zrReg ?_
    refine zlRun (n := 5) (j := 5) rfl (by kernel_rfl) ?_
    refine zlBool (d := 24) (op := (.cmpI .eql (.tmp 23) (.const (.int .i64 2)))) (g := none) (j := 6) (decide (a2 = 2)) rfl (by kernel_rfl) (by kernel_rfl) (by kernel_rfl) (fun hc => ?_) (fun hc => ?_)
    · replace hS := cond_t hc hS
      refine zlRun (n := 1) (j := 7) rfl (by kernel_rfl) ?_
      refine zlEnd (by kernel_rfl) ?_
      refine zkSeq ?_
      refine zrCondT (by kernel_rfl) ?_
      refine zrReg ?_
      refine zlRun (n := 8) (j := 8) rfl (by kernel_rfl) ?_
      refine bindE hS (fun z6 hz6 hS => ?_)
      refine zlOp (d := some 33) (op := (.callr 84 [(.tmp 25), (.tmp 32)])) (g := none) (v := (.tup [])) (ups := [(0, ⟨0, some (.box ((.d (.int .i64 z6.1)) :: ((.d (.int .i64 0)) :: ((.d (.str ([]))) :: ((.d (.str ([]))) :: ((.d (.str ([]))) :: ((.r (.msl 1 1 0 z6.2.length)) :: [])))))))⟩), (1, ⟨1, some (.own 31 6 (e_GAct.cells z6.2))⟩)]) (j := 9) rfl (by kernel_rfl) (by kernel_rfl) (ev_callr (args := [(.r (.ptr 0 0 0)), (.agg ((.d (.int .i64 3)) :: ((.d (.int .i64 a1)) :: ((.d (.int .i64 0)) :: ((.d (.str a4)) :: ((.d (.sl ([] : List Int).length ((eInt .i64).cells ([])))) :: ((.d (.str ([]))) :: [])))))))]) (ids := [0, 1]) (bs := [(.box ((.d (.int .i64 a2)) :: ((.d (.int .i64 a3)) :: ((.d (.str a4)) :: ((.d (.str a5)) :: ((.d (.str a6)) :: ((.r (.msl 1 0 0 a7.length)) :: []))))))), (.own 31 6 (e_GAct.cells a7))]) (l := [(.r (.ptr 0 0 0)), (.agg ((.d (.int .i64 3)) :: ((.d (.int .i64 a1)) :: ((.d (.int .i64 0)) :: ((.d (.str a4)) :: ((.d (.sl ([] : List Int).length ((eInt .i64).cells ([])))) :: ((.d (.str ([]))) :: [])))))))]) (bt := [(.box ((.d (.int .i64 a2)) :: ((.d (.int .i64 a3)) :: ((.d (.str a4)) :: ((.d (.str a5)) :: ((.d (.str a6)) :: ((.r (.msl 1 0 0 a7.length)) :: []))))))), (.own 31 6 (e_GAct.cells a7))]) (r := (.tup [])) (bs' := [(.box ((.d (.int .i64 z6.1)) :: ((.d (.int .i64 0)) :: ((.d (.str ([]))) :: ((.d (.str ([]))) :: ((.d (.str ([]))) :: ((.r (.msl 1 0 0 z6.2.length)) :: []))))))), (.own 31 6 (e_GAct.cells z6.2))]) (by kernel_rfl) (by kernel_rfl) (by kernel_rfl) (by kernel_rfl) (by kernel_rfl) (f84_ok (d - 1) (dpt hd rfl) (GAct.mk 3 a1 0 a4 ([]) ([])) a2 a3 a4 a5 a6 a7 z6 hz6) (by kernel_rfl) (by kernel_rfl)) ?_
      refine zlEnd (by kernel_rfl) ?_
      refine zkBlk ?_
      refine zkNil ?_
      exact endQ hS hQ (fNorm ((congrArg (fun s => outR s 2 c60.res) (by kernel_rfl : finSt c60.fin _ = f60_fin z6.1 0 [] [] [] z6.2)).trans (f60_out z6.1 0 [] [] [] z6.2)))
    · replace hS := cond_f hc hS
      refine zlRun (n := 1) (j := 7) rfl (by kernel_rfl) ?_
      refine zlEnd (by kernel_rfl) ?_
      refine zkSeq ?_
      refine zrCondF (by kernel_rfl) ?_
      refine zrSeq ?_
      refine zrReg ?_
      refine zlRun (n := 1) (j := 1) rfl (by kernel_rfl) ?_
      refine zlBool (d := 36) (op := (.cmpI .eql (.tmp 35) (.const (.int .i64 91)))) (g := none) (j := 2) (decide (a1 = 91)) rfl (by kernel_rfl) (by kernel_rfl) (by kernel_rfl) (fun hc => ?_) (fun hc => ?_)
      · replace hS := cond_t hc hS
        refine zlRun (n := 1) (j := 3) rfl (by kernel_rfl) ?_
        refine zlEnd (by kernel_rfl) ?_
        refine zkSeq ?_
        refine zrCondT (by kernel_rfl) ?_
        refine zrReg ?_
        refine zlRun (n := 5) (j := 5) rfl (by kernel_rfl) ?_
        refine zlEnd (by kernel_rfl) ?_
        refine zkBlk ?_
        refine zkNil ?_
        exact endQ hS hQ (fNorm ((congrArg (fun s => outR s 2 c60.res) (by kernel_rfl : finSt c60.fin _ = f60_fin 3 a3 a4 a5 a6 a7)).trans (f60_out 3 a3 a4 a5 a6 a7)))
      · replace hS := cond_f hc hS
        refine zlRun (n := 1) (j := 3) rfl (by kernel_rfl) ?_
        refine zlEnd (by kernel_rfl) ?_
        refine zkSeq ?_
        refine zrCondF (by kernel_rfl) ?_
        refine zrSeq ?_
        refine zrReg ?_
        refine zlRun (n := 1) (j := 1) rfl (by kernel_rfl) ?_
        refine zlBool (d := 43) (op := (.cmpI .eql (.tmp 42) (.const (.int .i64 93)))) (g := none) (j := 2) (decide (a1 = 93)) rfl (by kernel_rfl) (by kernel_rfl) (by kernel_rfl) (fun hc => ?_) (fun hc => ?_)
        · replace hS := cond_t hc hS
          refine zlRun (n := 1) (j := 3) rfl (by kernel_rfl) ?_
          refine zlEnd (by kernel_rfl) ?_
          refine zkSeq ?_
          refine zrCondT (by kernel_rfl) ?_
          refine zrReg ?_
          refine zlRun (n := 5) (j := 5) rfl (by kernel_rfl) ?_
          refine zlEnd (by kernel_rfl) ?_
          refine zkBlk ?_
          refine zkNil ?_
          exact endQ hS hQ (fNorm ((congrArg (fun s => outR s 2 c60.res) (by kernel_rfl : finSt c60.fin _ = f60_fin 7 a3 a4 a5 a6 a7)).trans (f60_out 7 a3 a4 a5 a6 a7)))
        · replace hS := cond_f hc hS
          refine zlRun (n := 1) (j := 3) rfl (by kernel_rfl) ?_
          refine zlEnd (by kernel_rfl) ?_
          refine zkSeq ?_
          refine zrCondF (by kernel_rfl) ?_
          refine zrSeq ?_
          refine zrReg ?_
          refine zlRun (n := 1) (j := 1) rfl (by kernel_rfl) ?_
          refine zlOp (d := some 50) (op := (.cvI .u8 (.tmp 49))) (g := none) (v := (.d (.int .u8 ((u8 a1).toNat : Int)))) (ups := []) (j := 2) rfl (by kernel_rfl) (by kernel_rfl) (ev_cv (kk := .i64) (a := a1) (by kernel_rfl) (u8_wrap _)) ?_
          refine bindE hS (fun z8 hz8 hS => ?_)
          refine zlOp (d := some 51) (op := (.call 36 [(.const (.string ⟨#[80, 88, 94, 95]⟩)), (.tmp 50)])) (g := none) (v := (.d (.int .i64 z8))) (ups := []) (j := 3) rfl (by kernel_rfl) (by kernel_rfl) (ev_call (args := [(.d (.str ([80, 88, 94, 95]))), (.d (.int .u8 ((u8 a1).toNat : Int)))]) (l := [(.d (.str ([80, 88, 94, 95]))), (.d (.int .u8 ((u8 a1).toNat : Int)))]) (r := (.d (.int .i64 z8))) (by kernel_rfl) (by kernel_rfl) (libIndexByte_ok (d - 1) (dpt hd rfl) [80, 88, 94, 95] (u8 a1) z8 hz8) (by kernel_rfl) (by kernel_rfl) (by kernel_rfl)) ?_
          refine zlBool (d := 52) (op := (.cmpI .geq (.tmp 51) (.const (.int .i64 0)))) (g := none) (j := 4) (decide (0 ≤ z8)) rfl (by kernel_rfl) (by kernel_rfl) (by kernel_rfl) (fun hc => ?_) (fun hc => ?_)
          · replace hS := cond_t hc hS
            refine zlRun (n := 1) (j := 5) rfl (by kernel_rfl) ?_
            refine zlEnd (by kernel_rfl) ?_
            refine zkSeq ?_
            refine zrCondT (by kernel_rfl) ?_
            refine zrReg ?_
            refine zlRun (n := 5) (j := 5) rfl (by kernel_rfl) ?_
            refine zlEnd (by kernel_rfl) ?_
            refine zkBlk ?_
            refine zkNil ?_
            exact endQ hS hQ (fNorm ((congrArg (fun s => outR s 2 c60.res) (by kernel_rfl : finSt c60.fin _ = f60_fin 9 a3 a4 a5 a6 a7)).trans (f60_out 9 a3 a4 a5 a6 a7)))
          · replace hS := cond_f hc hS
            refine zlRun (n := 1) (j := 5) rfl (by kernel_rfl) ?_
            refine zlEnd (by kernel_rfl) ?_
            refine zkSeq ?_
            refine zrCondF (by kernel_rfl) ?_
            refine zrReg ?_
            refine zlRun (n := 3) (j := 3) rfl (by kernel_rfl) ?_
            refine bindE hS (fun z9 hz9 hS => ?_)
            refine zlOp (d := some 7) (op := (.callr 84 [(.tmp 4), (.tmp 6)])) (g := none) (v := (.tup [])) (ups := [(0, ⟨0, some (.box ((.d (.int .i64 z9.1)) :: ((.d (.int .i64 0)) :: ((.d (.str ([]))) :: ((.d (.str ([]))) :: ((.d (.str ([]))) :: ((.r (.msl 1 1 0 z9.2.length)) :: [])))))))⟩), (1, ⟨1, some (.own 31 6 (e_GAct.cells z9.2))⟩)]) (j := 4) rfl (by kernel_rfl) (by kernel_rfl) (ev_callr (args := [(.r (.ptr 0 0 0)), (.agg ((.d (.int .i64 3)) :: ((.d (.int .i64 a1)) :: ((.d (.int .i64 0)) :: ((.d (.str ([]))) :: ((.d (.sl ([] : List Int).length ((eInt .i64).cells ([])))) :: ((.d (.str ([]))) :: [])))))))]) (ids := [0, 1]) (bs := [(.box ((.d (.int .i64 a2)) :: ((.d (.int .i64 a3)) :: ((.d (.str a4)) :: ((.d (.str a5)) :: ((.d (.str a6)) :: ((.r (.msl 1 0 0 a7.length)) :: []))))))), (.own 31 6 (e_GAct.cells a7))]) (l := [(.r (.ptr 0 0 0)), (.agg ((.d (.int .i64 3)) :: ((.d (.int .i64 a1)) :: ((.d (.int .i64 0)) :: ((.d (.str ([]))) :: ((.d (.sl ([] : List Int).length ((eInt .i64).cells ([])))) :: ((.d (.str ([]))) :: [])))))))]) (bt := [(.box ((.d (.int .i64 a2)) :: ((.d (.int .i64 a3)) :: ((.d (.str a4)) :: ((.d (.str a5)) :: ((.d (.str a6)) :: ((.r (.msl 1 0 0 a7.length)) :: []))))))), (.own 31 6 (e_GAct.cells a7))]) (r := (.tup [])) (bs' := [(.box ((.d (.int .i64 z9.1)) :: ((.d (.int .i64 0)) :: ((.d (.str ([]))) :: ((.d (.str ([]))) :: ((.d (.str ([]))) :: ((.r (.msl 1 0 0 z9.2.length)) :: []))))))), (.own 31 6 (e_GAct.cells z9.2))]) (by kernel_rfl) (by kernel_rfl) (by kernel_rfl) (by kernel_rfl) (by kernel_rfl) (f84_ok (d - 1) (dpt hd rfl) (GAct.mk 3 a1 0 ([]) ([]) ([])) a2 a3 a4 a5 a6 a7 z9 hz9) (by kernel_rfl) (by kernel_rfl)) ?_
            refine zlEnd (by kernel_rfl) ?_
            refine zkBlk ?_
            refine zkNil ?_
            exact endQ hS hQ (fNorm ((congrArg (fun s => outR s 2 c60.res) (by kernel_rfl : finSt c60.fin _ = f60_fin z9.1 0 [] [] [] z9.2)).trans (f60_out z9.1 0 [] [] [] z9.2)))
/- (*farwriter/parse.machine).ignore -/
def f85_fin (p1 : List GAct) : St := ⟨(fun _ => .un), (up (up (hB fun _ => 0) 1 ⟨0, some (.own 31 6 (e_GAct.cells p1))⟩) 0 ⟨0, some (.box ((.d (.int .i64 6)) :: ((.d (.int .i64 0)) :: ((.d (.str ([]))) :: ((.d (.str ([]))) :: ((.d (.str ([]))) :: ((.r (.msl 1 0 0 p1.length)) :: [])))))))⟩)⟩
theorem f85_out (p1 : List GAct) : outR (f85_fin p1) 2 c85.res = some ((.tup []), [(.box ((.d (.int .i64 6)) :: ((.d (.int .i64 0)) :: ((.d (.str ([]))) :: ((.d (.str ([]))) :: ((.d (.str ([]))) :: ((.r (.msl 1 0 0 p1.length)) :: []))))))), (.own 31 6 (e_GAct.cells p1))]) := by
  kernel_rfl
def f85_Q (r : (List GAct)) (e : PX) (st : St) : Prop := DoneF c85 2 ((.tup []), [(.box ((.d (.int .i64 6)) :: ((.d (.int .i64 0)) :: ((.d (.str ([]))) :: ((.d (.str ([]))) :: ((.d (.str ([]))) :: ((.r (.msl 1 0 0 r.length)) :: []))))))), (.own 31 6 (e_GAct.cells r))]) e st
noncomputable def f85 (a1 : Int) (a2 : Int) (a3 : List UInt8) (a4 : List UInt8) (a5 : List UInt8) (a6 : List GAct) : Option ((List GAct)) := (some a6)
theorem f85_ok (d : Nat) (hd : 1 ≤ d) (a1 : Int) (a2 : Int) (a3 : List UInt8) (a4 : List UInt8) (a5 : List UInt8) (a6 : List GAct) (r : (List GAct)) (hS : f85 a1 a2 a3 a4 a5 a6 = some r) : lev codes baseL d 85 [(.r (.ptr 0 0 0))] [(.box ((.d (.int .i64 a1)) :: ((.d (.int .i64 a2)) :: ((.d (.str a3)) :: ((.d (.str a4)) :: ((.d (.str a5)) :: ((.r (.msl 1 0 0 a6.length)) :: []))))))), (.own 31 6 (e_GAct.cells a6))] = some ((.tup []), [(.box ((.d (.int .i64 6)) :: ((.d (.int .i64 0)) :: ((.d (.str ([]))) :: ((.d (.str ([]))) :: ((.d (.str ([]))) :: ((.r (.msl 1 0 0 r.length)) :: []))))))), (.own 31 6 (e_GAct.cells r))]) := by
  refine lev_go codes85 rfl rfl (Nat.le_trans (Nat.le_of_ble_eq_true rfl) hd) fun Q hQ => ?_
  unfold f85 at hS
  show ZR _ Q c85_b [] _
  replace hQ : ∀ e st', f85_Q r e st' → Q e st' := hQ
  refine zrReg ?_
  refine zlRun (n := 5) (j := 5) rfl (by kernel_rfl) ?_
  refine zlEnd (by kernel_rfl) ?_
  refine zkNil ?_
  exact endQ hS hQ (fNorm ((congrArg (fun s => outR s 2 c85.res) (by kernel_rfl : finSt c85.fin _ = f85_fin a6)).trans (f85_out a6)))
/- (*farwriter/parse.machine).csi -/
def f61_fin (p11 : Int) (p12 : Int) (p13 : List UInt8) (p14 : List UInt8) (p15 : List UInt8) (p16 : List GAct) : St := ⟨(fun _ => .un), (up (up (hB fun _ => 0) 1 ⟨0, some (.own 31 6 (e_GAct.cells p16))⟩) 0 ⟨0, some (.box ((.d (.int .i64 p11)) :: ((.d (.int .i64 p12)) :: ((.d (.str p13)) :: ((.d (.str p14)) :: ((.d (.str p15)) :: ((.r (.msl 1 0 0 p16.length)) :: [])))))))⟩)⟩
theorem f61_out (p11 : Int) (p12 : Int) (p13 : List UInt8) (p14 : List UInt8) (p15 : List UInt8) (p16 : List GAct) : outR (f61_fin p11 p12 p13 p14 p15 p16) 2 c61.res = some ((.tup []), [(.box ((.d (.int .i64 p11)) :: ((.d (.int .i64 p12)) :: ((.d (.str p13)) :: ((.d (.str p14)) :: ((.d (.str p15)) :: ((.r (.msl 1 0 0 p16.length)) :: []))))))), (.own 31 6 (e_GAct.cells p16))]) := by
  kernel_rfl
def f61_Q (r : Int × Int × (List UInt8) × (List UInt8) × (List UInt8) × (List GAct)) (e : PX) (st : St) : Prop := DoneF c61 2 ((.tup []), [(.box ((.d (.int .i64 r.1)) :: ((.d (.int .i64 r.2.1)) :: ((.d (.str r.2.2.1)) :: ((.d (.str r.2.2.2.1)) :: ((.d (.str r.2.2.2.2.1)) :: ((.r (.msl 1 0 0 r.2.2.2.2.2.length)) :: []))))))), (.own 31 6 (e_GAct.cells r.2.2.2.2.2))]) e st
def f61_j0_J (a1 : Int) (a2 : Int) (a3 : Int) (a4 : List UInt8) (a5 : List UInt8) (a6 : List UInt8) (a7 : List GAct) (p17 : List Int) : St := ⟨(up (up (up (fun _ => .un) 4 (.d (.sl p17.length ((eInt .i64).cells p17)))) 1 (.d (.int .i64 a1))) 0 (.r (.ptr 0 0 0))), (up (up (hB fun _ => 0) 1 ⟨0, some (.own 31 6 (e_GAct.cells a7))⟩) 0 ⟨0, some (.box ((.d (.int .i64 a2)) :: ((.d (.int .i64 a3)) :: ((.d (.str a4)) :: ((.d (.str a5)) :: ((.d (.str a6)) :: ((.r (.msl 1 0 0 a7.length)) :: [])))))))⟩)⟩
noncomputable def f61_j0 (a1 : Int) (a2 : Int) (a3 : Int) (a4 : List UInt8) (a5 : List UInt8) (a6 : List UInt8) (a7 : List GAct) (p17 : List Int) : Option (Int × Int × (List UInt8) × (List UInt8) × (List UInt8) × (List GAct)) := ((f84 (GAct.mk 4 a1 a3 a4 p17 ([])) a2 a3 a4 a5 a6 a7).bind fun z11 => (some (z11.1, 0, [], [], [], z11.2)))
theorem f61_j0_ok {d : Nat} (hd : 3 ≤ d) (a1 : Int) (a2 : Int) (a3 : Int) (a4 : List UInt8) (a5 : List UInt8) (a6 : List UInt8) (a7 : List GAct) {r : Int × Int × (List UInt8) × (List UInt8) × (List UInt8) × (List GAct)} {Q : PX → St → Prop} (hQ : ∀ e st', f61_Q r e st' → Q e st') (p17 : List Int) (hS : f61_j0 a1 a2 a3 a4 a5 a6 a7 p17 = some r) {st : St} (he : keepSt [0, 1, 4] [(0, .id 0), (1, .id 1)] [] st = f61_j0_J a1 a2 a3 a4 a5 a6 a7 p17) : ZR (lev codes baseL (d - 1)) Q c61_1 [.blk 0] st := by
  refine zrKeep he ?_
  unfold f61_j0 at hS
  refine zrRegD ?_
  refine zdRun (n := 14) (j := 14) (ts := [[], [], [], [], [], [], [(0, false)], [], [], [], [], [(0, false)], [], []]) (acc' := [[], [], [], [], [], [], [(0, false)], [], [], [], [], [(0, false)], [], []]) rfl (by kernel_rfl) (by kernel_rfl) (by kernel_rfl) ?_
  refine bindE hS (fun z11 hz11 hS => ?_)
  refine zdOp (d := some 55) (op := (.callr 84 [(.tmp 41), (.tmp 54)])) (g := none) (v := (.tup [])) (ups := [(0, ⟨0, some (.box ((.d (.int .i64 z11.1)) :: ((.d (.int .i64 0)) :: ((.d (.str ([]))) :: ((.d (.str ([]))) :: ((.d (.str ([]))) :: ((.r (.msl 1 1 0 z11.2.length)) :: [])))))))⟩), (1, ⟨1, some (.own 31 6 (e_GAct.cells z11.2))⟩)]) (j := 15) (t1 := [(0, true), (1, true), (0, false), (448, true), (449, true), (450, true), (451, true), (452, true), (453, true), (454, true), (455, true)]) (acc' := [[], [], [], [], [], [], [(0, false)], [], [], [], [], [(0, false)], [], [], [(0, true), (1, true), (0, false), (448, true), (449, true), (450, true), (451, true), (452, true), (453, true), (454, true), (455, true)]]) (by kernel_rfl) (by kernel_rfl) rfl (by kernel_rfl) (by kernel_rfl) (ev_callr (args := [(.r (.ptr 0 0 0)), (.agg ((.d (.int .i64 4)) :: ((.d (.int .i64 a1)) :: ((.d (.int .i64 a3)) :: ((.d (.str a4)) :: ((.d (.sl p17.length ((eInt .i64).cells p17))) :: ((.d (.str ([]))) :: [])))))))]) (ids := [0, 1]) (bs := [(.box ((.d (.int .i64 a2)) :: ((.d (.int .i64 a3)) :: ((.d (.str a4)) :: ((.d (.str a5)) :: ((.d (.str a6)) :: ((.r (.msl 1 0 0 a7.length)) :: []))))))), (.own 31 6 (e_GAct.cells a7))]) (l := [(.r (.ptr 0 0 0)), (.agg ((.d (.int .i64 4)) :: ((.d (.int .i64 a1)) :: ((.d (.int .i64 a3)) :: ((.d (.str a4)) :: ((.d (.sl p17.length ((eInt .i64).cells p17))) :: ((.d (.str ([]))) :: [])))))))]) (bt := [(.box ((.d (.int .i64 a2)) :: ((.d (.int .i64 a3)) :: ((.d (.str a4)) :: ((.d (.str a5)) :: ((.d (.str a6)) :: ((.r (.msl 1 0 0 a7.length)) :: []))))))), (.own 31 6 (e_GAct.cells a7))]) (r := (.tup [])) (bs' := [(.box ((.d (.int .i64 z11.1)) :: ((.d (.int .i64 0)) :: ((.d (.str ([]))) :: ((.d (.str ([]))) :: ((.d (.str ([]))) :: ((.r (.msl 1 0 0 z11.2.length)) :: []))))))), (.own 31 6 (e_GAct.cells z11.2))]) (by kernel_rfl) (by kernel_rfl) (by kernel_rfl) (by kernel_rfl) (by kernel_rfl) (f84_ok (d - 1) (dpt hd rfl) (GAct.mk 4 a1 a3 a4 p17 ([])) a2 a3 a4 a5 a6 a7 z11 hz11) (by kernel_rfl) (by kernel_rfl)) ?_
  refine zdEnd (by kernel_rfl) (by kernel_rfl) ?_
  refine zkBlk ?_
  refine zkNil ?_
  exact endQ hS hQ (fNorm ((congrArg (fun s => outR s 2 c61.res) (by kernel_rfl : finSt c61.fin _ = f61_fin z11.1 0 [] [] [] z11.2)).trans (f61_out z11.1 0 [] [] [] z11.2)))
noncomputable def f61 (a1 : Int) (a2 : Int) (a3 : Int) (a4 : List UInt8) (a5 : List UInt8) (a6 : List UInt8) (a7 : List GAct) : Option (Int × Int × (List UInt8) × (List UInt8) × (List UInt8) × (List GAct)) := (bif (decide (a2 = 6)) then (bif (decide (64 ≤ a1)) then ((f58 0 a2 a3 a4 a5 a6 a7).bind fun z8 => (some (z8.1, 0, [], [], [], z8.2))) else (some (a2, a3, a4, a5, a6, a7))) else (bif (decide (a1 < 48)) then ((f83 a1 a2 a3 a4 a5 a6 a7).bind fun z9 => (some (5, z9.2.1, z9.2.2.1, z9.2.2.2.1, z9.2.2.2.2.1, z9.2.2.2.2.2))) else (bif (decide (64 ≤ a1)) then ((f31 a5).bind fun z10 => (f61_j0 a1 a2 a3 a4 a5 a6 a7 z10.1)) else (bif (decide (a2 = 5)) then ((f85 a2 a3 a4 a5 a6 a7).bind fun z12 => (some (6, 0, [], [], [], z12))) else (bif (decide (a1 = 58)) then ((f85 a2 a3 a4 a5 a6 a7).bind fun z13 => (some (6, 0, [], [], [], z13))) else (bif (decide (a1 < 60)) then (bif (decide ((a5.length : Int) < 100)) then ((cat? a5 ((Utf8.encode (IntKind.i32.wrap (a1))).data.toList)).bind fun z14 => (some (4, a3, a4, z14, a6, a7))) else (some (4, a3, a4, a5, a6, a7))) else (bif (decide (a2 = 3)) then (some (4, a1, a4, a5, a6, a7)) else ((f85 a2 a3 a4 a5 a6 a7).bind fun z15 => (some (6, 0, [], [], [], z15))))))))))
theorem f61_ok (d : Nat) (hd : 3 ≤ d) (a1 : Int) (a2 : Int) (a3 : Int) (a4 : List UInt8) (a5 : List UInt8) (a6 : List UInt8) (a7 : List GAct) (r : Int × Int × (List UInt8) × (List UInt8) × (List UInt8) × (List GAct)) (hS : f61 a1 a2 a3 a4 a5 a6 a7 = some r) : lev codes baseL d 61 [(.r (.ptr 0 0 0)), (.d (.int .i64 a1))] [(.box ((.d (.int .i64 a2)) :: ((.d (.int .i64 a3)) :: ((.d (.str a4)) :: ((.d (.str a5)) :: ((.d (.str a6)) :: ((.r (.msl 1 0 0 a7.length)) :: []))))))), (.own 31 6 (e_GAct.cells a7))] = some ((.tup []), [(.box ((.d (.int .i64 r.1)) :: ((.d (.int .i64 r.2.1)) :: ((.d (.str r.2.2.1)) :: ((.d (.str r.2.2.2.1)) :: ((.d (.str r.2.2.2.2.1)) :: ((.r (.msl 1 0 0 r.2.2.2.2.2.length)) :: []))))))), (.own 31 6 (e_GAct.cells r.2.2.2.2.2))]) := by
  refine lev_go codes61 rfl rfl (Nat.le_trans (Nat.le_of_ble_eq_true rfl) hd) fun Q hQ => ?_
  unfold f61 at hS
  show ZR _ Q c61_b [] _
  replace hQ : ∀ e st', f61_Q r e st' → Q e st' := hQ
  refine zrBlk ?_
  refine zrSeq ?_
  refine zrReg ?_
  refine zlRun (n := 5) (j := 5) rfl (by kernel_rfl) ?_
  refine zlBool (d := 14) (op := (.cmpI .eql (.tmp 13) (.const (.int .i64 6)))) (g := none) (j := 6) (decide (a2 = 6)) rfl (by kernel_rfl) (by kernel_rfl) (by kernel_rfl) (fun hc => ?_) (fun hc => ?_)
  · replace hS := cond_t hc hS
    refine zlRun (n := 1) (j := 7) rfl (by kernel_rfl) ?_
    refine zlEnd (by kernel_rfl) ?_
    refine zkSeq ?_
    refine zrCondT (by kernel_rfl) ?_
    refine zrSeq ?_
    refine zrReg ?_
    refine zlRun (n := 1) (j := 1) rfl (by kernel_rfl) ?_
    refine zlBool (d := 16) (op := (.cmpI .geq (.tmp 15) (.const (.int .i64 64)))) (g := none) (j := 2) (decide (64 ≤ a1)) rfl (by kernel_rfl) (by kernel_rfl) (by kernel_rfl) (fun hc => ?_) (fun hc => ?_)
    · replace hS := cond_t hc hS
      refine zlEnd (by kernel_rfl) ?_
      refine zkSeq ?_
      refine zrCondT (by kernel_rfl) ?_
      refine zrReg ?_
      refine zlRun (n := 1) (j := 1) rfl (by kernel_rfl) ?_
      refine bindE hS (fun z8 hz8 hS => ?_)
      refine zlOp (d := some 18) (op := (.callr 58 [(.tmp 17), (.const (.int .i64 0))])) (g := none) (v := (.tup [])) (ups := [(0, ⟨0, some (.box ((.d (.int .i64 z8.1)) :: ((.d (.int .i64 0)) :: ((.d (.str ([]))) :: ((.d (.str ([]))) :: ((.d (.str ([]))) :: ((.r (.msl 1 1 0 z8.2.length)) :: [])))))))⟩), (1, ⟨1, some (.own 31 6 (e_GAct.cells z8.2))⟩)]) (j := 2) rfl (by kernel_rfl) (by kernel_rfl) (ev_callr (args := [(.r (.ptr 0 0 0)), (.d (.int .i64 0))]) (ids := [0, 1]) (bs := [(.box ((.d (.int .i64 a2)) :: ((.d (.int .i64 a3)) :: ((.d (.str a4)) :: ((.d (.str a5)) :: ((.d (.str a6)) :: ((.r (.msl 1 0 0 a7.length)) :: []))))))), (.own 31 6 (e_GAct.cells a7))]) (l := [(.r (.ptr 0 0 0)), (.d (.int .i64 0))]) (bt := [(.box ((.d (.int .i64 a2)) :: ((.d (.int .i64 a3)) :: ((.d (.str a4)) :: ((.d (.str a5)) :: ((.d (.str a6)) :: ((.r (.msl 1 0 0 a7.length)) :: []))))))), (.own 31 6 (e_GAct.cells a7))]) (r := (.tup [])) (bs' := [(.box ((.d (.int .i64 z8.1)) :: ((.d (.int .i64 0)) :: ((.d (.str ([]))) :: ((.d (.str ([]))) :: ((.d (.str ([]))) :: ((.r (.msl 1 0 0 z8.2.length)) :: []))))))), (.own 31 6 (e_GAct.cells z8.2))]) (by kernel_rfl) (by kernel_rfl) (by kernel_rfl) (by kernel_rfl) (by kernel_rfl) (f58_ok (d - 1) (dpt hd rfl) 0 a2 a3 a4 a5 a6 a7 z8 hz8) (by kernel_rfl) (by kernel_rfl)) ?_
      refine zlEnd (by kernel_rfl) ?_
      refine zkBlk ?_
      refine zkNil ?_
      exact endQ hS hQ (fNorm ((congrArg (fun s => outR s 2 c61.res) (by kernel_rfl : finSt c61.fin _ = f61_fin z8.1 0 [] [] [] z8.2)).trans (f61_out z8.1 0 [] [] [] z8.2)))
    · replace hS := cond_f hc hS
      refine zlEnd (by kernel_rfl) ?_
      refine zkSeq ?_
      refine zrCondF (by kernel_rfl) ?_
      refine zrSkip ?_
      refine zkBlk ?_
      refine zkNil ?_
      exact endQ hS hQ (fNorm ((congrArg (fun s => outR s 2 c61.res) (by kernel_rfl : finSt c61.fin _ = f61_fin a2 a3 a4 a5 a6 a7)).trans (f61_out a2 a3 a4 a5 a6 a7)))
  · replace hS := cond_f hc hS
    refine zlRun (n := 1) (j := 7) rfl (by kernel_rfl) ?_
    refine zlEnd (by kernel_rfl) ?_
    refine zkSeq ?_
    refine zrCondF (by kernel_rfl) ?_
    refine zrSeq ?_
    refine zrReg ?_
    refine zlRun (n := 1) (j := 1) rfl (by kernel_rfl) ?_
    refine zlBool (d := 21) (op := (.cmpI .lss (.tmp 20) (.const (.int .i64 48)))) (g := none) (j := 2) (decide (a1 < 48)) rfl (by kernel_rfl) (by kernel_rfl) (by kernel_rfl) (fun hc => ?_) (fun hc => ?_)
    · replace hS := cond_t hc hS
      refine zlRun (n := 1) (j := 3) rfl (by kernel_rfl) ?_
      refine zlEnd (by kernel_rfl) ?_
      refine zkSeq ?_
      refine zrCondT (by kernel_rfl) ?_
      refine zrSeq ?_
      refine zrReg ?_
      refine zlRun (n := 2) (j := 2) rfl (by kernel_rfl) ?_
      refine bindE hS (fun z9 hz9 hS => ?_)
      refine zlOp (d := some 24) (op := (.callr 83 [(.tmp 22), (.tmp 23)])) (g := none) (v := (.tup [])) (ups := [(0, ⟨0, some (.box ((.d (.int .i64 z9.1)) :: ((.d (.int .i64 z9.2.1)) :: ((.d (.str z9.2.2.1)) :: ((.d (.str z9.2.2.2.1)) :: ((.d (.str z9.2.2.2.2.1)) :: ((.r (.msl 1 1 0 z9.2.2.2.2.2.length)) :: [])))))))⟩), (1, ⟨1, some (.own 31 6 (e_GAct.cells z9.2.2.2.2.2))⟩)]) (j := 3) rfl (by kernel_rfl) (by kernel_rfl) (ev_callr (args := [(.r (.ptr 0 0 0)), (.d (.int .i64 a1))]) (ids := [0, 1]) (bs := [(.box ((.d (.int .i64 a2)) :: ((.d (.int .i64 a3)) :: ((.d (.str a4)) :: ((.d (.str a5)) :: ((.d (.str a6)) :: ((.r (.msl 1 0 0 a7.length)) :: []))))))), (.own 31 6 (e_GAct.cells a7))]) (l := [(.r (.ptr 0 0 0)), (.d (.int .i64 a1))]) (bt := [(.box ((.d (.int .i64 a2)) :: ((.d (.int .i64 a3)) :: ((.d (.str a4)) :: ((.d (.str a5)) :: ((.d (.str a6)) :: ((.r (.msl 1 0 0 a7.length)) :: []))))))), (.own 31 6 (e_GAct.cells a7))]) (r := (.tup [])) (bs' := [(.box ((.d (.int .i64 z9.1)) :: ((.d (.int .i64 z9.2.1)) :: ((.d (.str z9.2.2.1)) :: ((.d (.str z9.2.2.2.1)) :: ((.d (.str z9.2.2.2.2.1)) :: ((.r (.msl 1 0 0 z9.2.2.2.2.2.length)) :: []))))))), (.own 31 6 (e_GAct.cells z9.2.2.2.2.2))]) (by kernel_rfl) (by kernel_rfl) (by kernel_rfl) (by kernel_rfl) (by kernel_rfl) (f83_ok (d - 1) (dpt hd rfl) a1 a2 a3 a4 a5 a6 a7 z9 hz9) (by kernel_rfl) (by kernel_rfl)) ?_
      refine zlEnd (by kernel_rfl) ?_
      refine zkSeq ?_
      refine zrReg ?_
      refine zlRun (n := 5) (j := 5) rfl (by kernel_rfl) ?_
      refine zlEnd (by kernel_rfl) ?_
      refine zkBlk ?_
      refine zkNil ?_
      exact endQ hS hQ (fNorm ((congrArg (fun s => outR s 2 c61.res) (by kernel_rfl : finSt c61.fin _ = f61_fin 5 z9.2.1 z9.2.2.1 z9.2.2.2.1 z9.2.2.2.2.1 z9.2.2.2.2.2)).trans (f61_out 5 z9.2.1 z9.2.2.1 z9.2.2.2.1 z9.2.2.2.2.1 z9.2.2.2.2.2)))
    · replace hS := cond_f hc hS
      refine zlRun (n := 1) (j := 3) rfl (by kernel_rfl) ?_
      refine zlEnd (by kernel_rfl) ?_
      refine zkSeq ?_
      refine zrCondF (by kernel_rfl) ?_
      refine zrSeq ?_
      refine zrReg ?_
      refine zlRun (n := 1) (j := 1) rfl (by kernel_rfl) ?_
      refine zlBool (d := 31) (op := (.cmpI .geq (.tmp 30) (.const (.int .i64 64)))) (g := none) (j := 2) (decide (64 ≤ a1)) rfl (by kernel_rfl) (by kernel_rfl) (by kernel_rfl) (fun hc => ?_) (fun hc => ?_)
      · replace hS := cond_t hc hS
        refine zlRun (n := 1) (j := 3) rfl (by kernel_rfl) ?_
        refine zlEnd (by kernel_rfl) ?_
        refine zkSeq ?_
        refine zrCondT (by kernel_rfl) ?_
        refine zrSeq ?_
        refine zrReg ?_
        refine zlRun (n := 5) (j := 5) rfl (by kernel_rfl) ?_
        refine bindE hS (fun z10 hz10 hS => ?_)
        refine zlOp (d := some 38) (op := (.call 31 [(.tmp 37)])) (g := none) (v := (.tup [(.r (.msl 312 1 0 z10.1.length)), (.d (.int .i64 z10.2))])) (ups := [(312, ⟨1, some (.own 3 1 ((eInt .i64).cells z10.1))⟩)]) (j := 6) rfl (by kernel_rfl) (by kernel_rfl) (ev_call (args := [(.d (.str a5))]) (l := [(.d (.str a5))]) (r := (.tup [(.r (.own 0 3 1 z10.1.length ((eInt .i64).cells z10.1))), (.d (.int .i64 z10.2))])) (by kernel_rfl) (by kernel_rfl) (f31_ok (d - 1) (dpt hd rfl) a5 z10 hz10) (by kernel_rfl) (by kernel_rfl) (by kernel_rfl)) ?_
        refine zlRun (n := 5) (j := 11) rfl (by kernel_rfl) ?_
        refine zlEnd (by kernel_rfl) ?_
        refine zkSeq ?_
        exact f61_j0_ok hd a1 a2 a3 a4 a5 a6 a7 hQ z10.1 hS (by exact (by kernel_rfl : _ = (⟨(up (up (up (fun _ => .un) 4 (.d (.sl z10.1.length ((((eInt .i64).cells z10.1).drop (0 * (eInt .i64).k)).take (z10.1.length * (eInt .i64).k))))) 1 (.d (.int .i64 a1))) 0 (.r (.ptr 0 0 0))), (up (up (hB fun _ => 0) 1 ⟨0, some (.own 31 6 (e_GAct.cells a7))⟩) 0 ⟨0, some (.box ((.d (.int .i64 a2)) :: ((.d (.int .i64 a3)) :: ((.d (.str a4)) :: ((.d (.str a5)) :: ((.d (.str a6)) :: ((.r (.msl 1 0 0 a7.length)) :: [])))))))⟩)⟩ : St)).trans (by simp only [Enc.frz]; kernel_rfl))
      · replace hS := cond_f hc hS
        refine zlRun (n := 1) (j := 3) rfl (by kernel_rfl) ?_
        refine zlEnd (by kernel_rfl) ?_
        refine zkSeq ?_
        refine zrCondF (by kernel_rfl) ?_
        refine zrSeq ?_
        refine zrReg ?_
        refine zlRun (n := 5) (j := 5) rfl (by kernel_rfl) ?_
        refine zlBool (d := 62) (op := (.cmpI .eql (.tmp 61) (.const (.int .i64 5)))) (g := none) (j := 6) (decide (a2 = 5)) rfl (by kernel_rfl) (by kernel_rfl) (by kernel_rfl) (fun hc => ?_) (fun hc => ?_)
        · replace hS := cond_t hc hS
          refine zlRun (n := 5) (j := 11) rfl (by kernel_rfl) ?_
          refine zlEnd (by kernel_rfl) ?_
          refine zkSeq ?_
          refine zrCondT (by kernel_rfl) ?_
          refine zrReg ?_
          refine zlRun (n := 1) (j := 1) rfl (by kernel_rfl) ?_
          refine bindE hS (fun z12 hz12 hS => ?_)
          refine zlOp (d := some 68) (op := (.callr 85 [(.tmp 67)])) (g := none) (v := (.tup [])) (ups := [(0, ⟨0, some (.box ((.d (.int .i64 6)) :: ((.d (.int .i64 0)) :: ((.d (.str ([]))) :: ((.d (.str ([]))) :: ((.d (.str ([]))) :: ((.r (.msl 1 1 0 z12.length)) :: [])))))))⟩), (1, ⟨1, some (.own 31 6 (e_GAct.cells z12))⟩)]) (j := 2) rfl (by kernel_rfl) (by kernel_rfl) (ev_callr (args := [(.r (.ptr 0 0 0))]) (ids := [0, 1]) (bs := [(.box ((.d (.int .i64 a2)) :: ((.d (.int .i64 a3)) :: ((.d (.str a4)) :: ((.d (.str a5)) :: ((.d (.str a6)) :: ((.r (.msl 1 0 0 a7.length)) :: []))))))), (.own 31 6 (e_GAct.cells a7))]) (l := [(.r (.ptr 0 0 0))]) (bt := [(.box ((.d (.int .i64 a2)) :: ((.d (.int .i64 a3)) :: ((.d (.str a4)) :: ((.d (.str a5)) :: ((.d (.str a6)) :: ((.r (.msl 1 0 0 a7.length)) :: []))))))), (.own 31 6 (e_GAct.cells a7))]) (r := (.tup [])) (bs' := [(.box ((.d (.int .i64 6)) :: ((.d (.int .i64 0)) :: ((.d (.str ([]))) :: ((.d (.str ([]))) :: ((.d (.str ([]))) :: ((.r (.msl 1 0 0 z12.length)) :: []))))))), (.own 31 6 (e_GAct.cells z12))]) (by kernel_rfl) (by kernel_rfl) (by kernel_rfl) (by kernel_rfl) (by kernel_rfl) (f85_ok (d - 1) (dpt hd rfl) a2 a3 a4 a5 a6 a7 z12 hz12) (by kernel_rfl) (by kernel_rfl)) ?_
          refine zlEnd (by kernel_rfl) ?_
          refine zkBlk ?_
          refine zkNil ?_
          exact endQ hS hQ (fNorm ((congrArg (fun s => outR s 2 c61.res) (by kernel_rfl : finSt c61.fin _ = f61_fin 6 0 [] [] [] z12)).trans (f61_out 6 0 [] [] [] z12)))
        · replace hS := cond_f hc hS
          refine zlRun (n := 2) (j := 8) rfl (by kernel_rfl) ?_
          refine zlBool (d := 65) (op := (.cmpI .eql (.tmp 64) (.const (.int .i64 58)))) (g := (some (63, false))) (j := 9) (decide (a1 = 58)) rfl (by kernel_rfl) (by kernel_rfl) (by kernel_rfl) (fun hc => ?_) (fun hc => ?_)
          · replace hS := cond_t hc hS
            refine zlRun (n := 2) (j := 11) rfl (by kernel_rfl) ?_
            refine zlEnd (by kernel_rfl) ?_
            refine zkSeq ?_
            refine zrCondT (by kernel_rfl) ?_
            refine zrReg ?_
            refine zlRun (n := 1) (j := 1) rfl (by kernel_rfl) ?_
            refine bindE hS (fun z13 hz13 hS => ?_)
            refine zlOp (d := some 68) (op := (.callr 85 [(.tmp 67)])) (g := none) (v := (.tup [])) (ups := [(0, ⟨0, some (.box ((.d (.int .i64 6)) :: ((.d (.int .i64 0)) :: ((.d (.str ([]))) :: ((.d (.str ([]))) :: ((.d (.str ([]))) :: ((.r (.msl 1 1 0 z13.length)) :: [])))))))⟩), (1, ⟨1, some (.own 31 6 (e_GAct.cells z13))⟩)]) (j := 2) rfl (by kernel_rfl) (by kernel_rfl) (ev_callr (args := [(.r (.ptr 0 0 0))]) (ids := [0, 1]) (bs := [(.box ((.d (.int .i64 a2)) :: ((.d (.int .i64 a3)) :: ((.d (.str a4)) :: ((.d (.str a5)) :: ((.d (.str a6)) :: ((.r (.msl 1 0 0 a7.length)) :: []))))))), (.own 31 6 (e_GAct.cells a7))]) (l := [(.r (.ptr 0 0 0))]) (bt := [(.box ((.d (.int .i64 a2)) :: ((.d (.int .i64 a3)) :: ((.d (.str a4)) :: ((.d (.str a5)) :: ((.d (.str a6)) :: ((.r (.msl 1 0 0 a7.length)) :: []))))))), (.own 31 6 (e_GAct.cells a7))]) (r := (.tup [])) (bs' := [(.box ((.d (.int .i64 6)) :: ((.d (.int .i64 0)) :: ((.d (.str ([]))) :: ((.d (.str ([]))) :: ((.d (.str ([]))) :: ((.r (.msl 1 0 0 z13.length)) :: []))))))), (.own 31 6 (e_GAct.cells z13))]) (by kernel_rfl) (by kernel_rfl) (by kernel_rfl) (by kernel_rfl) (by kernel_rfl) (f85_ok (d - 1) (dpt hd rfl) a2 a3 a4 a5 a6 a7 z13 hz13) (by kernel_rfl) (by kernel_rfl)) ?_
            refine zlEnd (by kernel_rfl) ?_
            refine zkBlk ?_
            refine zkNil ?_
            exact endQ hS hQ (fNorm ((congrArg (fun s => outR s 2 c61.res) (by kernel_rfl : finSt c61.fin _ = f61_fin 6 0 [] [] [] z13)).trans (f61_out 6 0 [] [] [] z13)))
          · replace hS := cond_f hc hS
            refine zlRun (n := 2) (j := 11) rfl (by kernel_rfl) ?_
            refine zlEnd (by kernel_rfl) ?_
            refine zkSeq ?_
            refine zrCondF (by kernel_rfl) ?_
            refine zrSeq ?_
            refine zrReg ?_
            refine zlRun (n := 1) (j := 1) rfl (by kernel_rfl) ?_
            refine zlBool (d := 71) (op := (.cmpI .lss (.tmp 70) (.const (.int .i64 60)))) (g := none) (j := 2) (decide (a1 < 60)) rfl (by kernel_rfl) (by kernel_rfl) (by kernel_rfl) (fun hc => ?_) (fun hc => ?_)
            · replace hS := cond_t hc hS
              refine zlRun (n := 1) (j := 3) rfl (by kernel_rfl) ?_
              refine zlEnd (by kernel_rfl) ?_
              refine zkSeq ?_
              refine zrCondT (by kernel_rfl) ?_
              refine zrSeq ?_
              refine zrSeq ?_
              refine zrReg ?_
              refine zlRun (n := 6) (j := 6) rfl (by kernel_rfl) ?_
              refine zlBool (d := 78) (op := (.cmpI .lss (.tmp 77) (.const (.int .i64 100)))) (g := none) (j := 7) (decide ((a5.length : Int) < 100)) rfl (by kernel_rfl) (by kernel_rfl) (by kernel_rfl) (fun hc => ?_) (fun hc => ?_)
              · replace hS := cond_t hc hS
                refine zlEnd (by kernel_rfl) ?_
                refine zkSeq ?_
                refine zrCondT (by kernel_rfl) ?_
                refine zrReg ?_
                refine zlRun (n := 8) (j := 8) rfl (by kernel_rfl) ?_
                refine bindE hS (fun z14 hz14 hS => ?_)
                refine zlOp (d := some 87) (op := (.strO .add (.tmp 83) (.tmp 86))) (g := none) (v := (.d (.str z14))) (ups := []) (j := 9) rfl (by kernel_rfl) (by kernel_rfl) (ev_cat (a := a5) (c := (Utf8.encode (IntKind.i32.wrap (a1))).data.toList) (by kernel_rfl) (by kernel_rfl) hz14) ?_
                refine zlRun (n := 4) (j := 13) rfl (by kernel_rfl) ?_
                refine zlEnd (by kernel_rfl) ?_
                refine zkSeq ?_
                refine zrReg ?_
                refine zlRun (n := 5) (j := 5) rfl (by kernel_rfl) ?_
                refine zlEnd (by kernel_rfl) ?_
                refine zkBlk ?_
                refine zkNil ?_
                exact endQ hS hQ (fNorm ((congrArg (fun s => outR s 2 c61.res) (by kernel_rfl : finSt c61.fin _ = f61_fin 4 a3 a4 z14 a6 a7)).trans (f61_out 4 a3 a4 z14 a6 a7)))
              · replace hS := cond_f hc hS
                refine zlEnd (by kernel_rfl) ?_
                refine zkSeq ?_
                refine zrCondF (by kernel_rfl) ?_
                refine zrSkip ?_
                refine zkSeq ?_
                refine zrReg ?_
                refine zlRun (n := 5) (j := 5) rfl (by kernel_rfl) ?_
                refine zlEnd (by kernel_rfl) ?_
                refine zkBlk ?_
                refine zkNil ?_
                exact endQ hS hQ (fNorm ((congrArg (fun s => outR s 2 c61.res) (by kernel_rfl : finSt c61.fin _ = f61_fin 4 a3 a4 a5 a6 a7)).trans (f61_out 4 a3 a4 a5 a6 a7)))
            · replace hS := cond_f hc hS
              refine zlRun (n := 1) (j := 3) rfl (by kernel_rfl) ?_
              refine zlEnd (by kernel_rfl) ?_
              refine zkSeq ?_
              refine zrCondF (by kernel_rfl) ?_
              refine zrSeq ?_
              refine zrReg ?_
              refine zlRun (n := 5) (j := 5) rfl (by kernel_rfl) ?_
              refine zlBool (d := 101) (op := (.cmpI .eql (.tmp 100) (.const (.int .i64 3)))) (g := none) (j := 6) (decide (a2 = 3)) rfl (by kernel_rfl) (by kernel_rfl) (by kernel_rfl) (fun hc => ?_) (fun hc => ?_)
              · replace hS := cond_t hc hS
                refine zlRun (n := 1) (j := 7) rfl (by kernel_rfl) ?_
                refine zlEnd (by kernel_rfl) ?_
                refine zkSeq ?_
                refine zrCondT (by kernel_rfl) ?_
                refine zrReg ?_
                refine zlRun (n := 11) (j := 11) rfl (by kernel_rfl) ?_
                refine zlEnd (by kernel_rfl) ?_
                refine zkBlk ?_
                refine zkNil ?_
                exact endQ hS hQ (fNorm ((congrArg (fun s => outR s 2 c61.res) (by kernel_rfl : finSt c61.fin _ = f61_fin 4 a1 a4 a5 a6 a7)).trans (f61_out 4 a1 a4 a5 a6 a7)))
              · replace hS := cond_f hc hS
                refine zlRun (n := 1) (j := 7) rfl (by kernel_rfl) ?_
                refine zlEnd (by kernel_rfl) ?_
                refine zkSeq ?_
                refine zrCondF (by kernel_rfl) ?_
                refine zrReg ?_
                refine zlRun (n := 1) (j := 1) rfl (by kernel_rfl) ?_
                refine bindE hS (fun z15 hz15 hS => ?_)
                refine zlOp (d := some 7) (op := (.callr 85 [(.tmp 6)])) (g := none) (v := (.tup [])) (ups := [(0, ⟨0, some (.box ((.d (.int .i64 6)) :: ((.d (.int .i64 0)) :: ((.d (.str ([]))) :: ((.d (.str ([]))) :: ((.d (.str ([]))) :: ((.r (.msl 1 1 0 z15.length)) :: [])))))))⟩), (1, ⟨1, some (.own 31 6 (e_GAct.cells z15))⟩)]) (j := 2) rfl (by kernel_rfl) (by kernel_rfl) (ev_callr (args := [(.r (.ptr 0 0 0))]) (ids := [0, 1]) (bs := [(.box ((.d (.int .i64 a2)) :: ((.d (.int .i64 a3)) :: ((.d (.str a4)) :: ((.d (.str a5)) :: ((.d (.str a6)) :: ((.r (.msl 1 0 0 a7.length)) :: []))))))), (.own 31 6 (e_GAct.cells a7))]) (l := [(.r (.ptr 0 0 0))]) (bt := [(.box ((.d (.int .i64 a2)) :: ((.d (.int .i64 a3)) :: ((.d (.str a4)) :: ((.d (.str a5)) :: ((.d (.str a6)) :: ((.r (.msl 1 0 0 a7.length)) :: []))))))), (.own 31 6 (e_GAct.cells a7))]) (r := (.tup [])) (bs' := [(.box ((.d (.int .i64 6)) :: ((.d (.int .i64 0)) :: ((.d (.str ([]))) :: ((.d (.str ([]))) :: ((.d (.str ([]))) :: ((.r (.msl 1 0 0 z15.length)) :: []))))))), (.own 31 6 (e_GAct.cells z15))]) (by kernel_rfl) (by kernel_rfl) (by kernel_rfl) (by kernel_rfl) (by kernel_rfl) (f85_ok (d - 1) (dpt hd rfl) a2 a3 a4 a5 a6 a7 z15 hz15) (by kernel_rfl) (by kernel_rfl)) ?_
                refine zlEnd (by kernel_rfl) ?_
                refine zkBlk ?_
                refine zkNil ?_
                exact endQ hS hQ (fNorm ((congrArg (fun s => outR s 2 c61.res) (by kernel_rfl : finSt c61.fin _ = f61_fin 6 0 [] [] [] z15)).trans (f61_out 6 0 [] [] [] z15)))
/- (*farwriter/parse.machine).take -/
def f26_fin (p36 : Int) (p37 : Int) (p38 : List UInt8) (p39 : List UInt8) (p40 : List UInt8) (p41 : List GAct) : St := ⟨(fun _ => .un), (up (up (hB fun _ => 0) 1 ⟨0, some (.own 31 6 (e_GAct.cells p41))⟩) 0 ⟨0, some (.box ((.d (.int .i64 p36)) :: ((.d (.int .i64 p37)) :: ((.d (.str p38)) :: ((.d (.str p39)) :: ((.d (.str p40)) :: ((.r (.msl 1 0 0 p41.length)) :: [])))))))⟩)⟩
theorem f26_out (p36 : Int) (p37 : Int) (p38 : List UInt8) (p39 : List UInt8) (p40 : List UInt8) (p41 : List GAct) : outR (f26_fin p36 p37 p38 p39 p40 p41) 2 c26.res = some ((.tup []), [(.box ((.d (.int .i64 p36)) :: ((.d (.int .i64 p37)) :: ((.d (.str p38)) :: ((.d (.str p39)) :: ((.d (.str p40)) :: ((.r (.msl 1 0 0 p41.length)) :: []))))))), (.own 31 6 (e_GAct.cells p41))]) := by
  kernel_rfl
def f26_Q (r : Int × Int × (List UInt8) × (List UInt8) × (List UInt8) × (List GAct)) (e : PX) (st : St) : Prop := DoneF c26 2 ((.tup []), [(.box ((.d (.int .i64 r.1)) :: ((.d (.int .i64 r.2.1)) :: ((.d (.str r.2.2.1)) :: ((.d (.str r.2.2.2.1)) :: ((.d (.str r.2.2.2.2.1)) :: ((.r (.msl 1 0 0 r.2.2.2.2.2.length)) :: []))))))), (.own 31 6 (e_GAct.cells r.2.2.2.2.2))]) e st
def f26_j1_J (a1 : Int) (a2 : Int) (a3 : Int) (a4 : List UInt8) (a5 : List UInt8) (a6 : List UInt8) (a7 : List GAct) (p56 : Int) (p57 : Int) (p58 : List UInt8) (p59 : List UInt8) (p60 : List UInt8) (p61 : List GAct) : St := ⟨(up (up (fun _ => .un) 1 (.d (.int .i64 a1))) 0 (.r (.ptr 0 0 0))), (up (up (hB fun _ => 0) 1 ⟨0, some (.own 31 6 (e_GAct.cells p61))⟩) 0 ⟨0, some (.box ((.d (.int .i64 p56)) :: ((.d (.int .i64 p57)) :: ((.d (.str p58)) :: ((.d (.str p59)) :: ((.d (.str p60)) :: ((.r (.msl 1 0 0 p61.length)) :: [])))))))⟩)⟩
noncomputable def f26_j1 (a1 : Int) (a2 : Int) (a3 : Int) (a4 : List UInt8) (a5 : List UInt8) (a6 : List UInt8) (a7 : List GAct) (p56 : Int) (p57 : Int) (p58 : List UInt8) (p59 : List UInt8) (p60 : List UInt8) (p61 : List GAct) : Option (Int × Int × (List UInt8) × (List UInt8) × (List UInt8) × (List GAct)) := ((f59 a1 p56 p57 p58 p59 p60 p61).bind fun z14 => (bif z14.2.2.2.2.2.2 then (some (z14.1, z14.2.1, z14.2.2.1, z14.2.2.2.1, z14.2.2.2.2.1, z14.2.2.2.2.2.1)) else (bif (decide (z14.1 = 0)) then ((f56 (GAct.mk 1 a1 0 ([]) ([]) ([])) z14.1 z14.2.1 z14.2.2.1 z14.2.2.2.1 z14.2.2.2.2.1 z14.2.2.2.2.2.1).bind fun z15 => (some (z15.1, z15.2.1, z15.2.2.1, z15.2.2.2.1, z15.2.2.2.2.1, z15.2.2.2.2.2))) else (bif (decide (160 ≤ a1)) then ((f58 0 z14.1 z14.2.1 z14.2.2.1 z14.2.2.2.1 z14.2.2.2.2.1 z14.2.2.2.2.2.1).bind fun z16 => (some (z16.1, 0, [], [], [], z16.2))) else (bif (decide (z14.1 ≤ 2)) then ((f60 a1 z14.1 z14.2.1 z14.2.2.1 z14.2.2.2.1 z14.2.2.2.2.1 z14.2.2.2.2.2.1).bind fun z17 => (some (z17.1, z17.2.1, z17.2.2.1, z17.2.2.2.1, z17.2.2.2.2.1, z17.2.2.2.2.2))) else ((f61 a1 z14.1 z14.2.1 z14.2.2.1 z14.2.2.2.1 z14.2.2.2.2.1 z14.2.2.2.2.2.1).bind fun z18 => (some (z18.1, z18.2.1, z18.2.2.1, z18.2.2.2.1, z18.2.2.2.2.1, z18.2.2.2.2.2))))))))
theorem f26_j1_ok {d : Nat} (hd : 5 ≤ d) (a1 : Int) (a2 : Int) (a3 : Int) (a4 : List UInt8) (a5 : List UInt8) (a6 : List UInt8) (a7 : List GAct) {r : Int × Int × (List UInt8) × (List UInt8) × (List UInt8) × (List GAct)} {Q : PX → St → Prop} (hQ : ∀ e st', f26_Q r e st' → Q e st') (p56 : Int) (p57 : Int) (p58 : List UInt8) (p59 : List UInt8) (p60 : List UInt8) (p61 : List GAct) (hS : f26_j1 a1 a2 a3 a4 a5 a6 a7 p56 p57 p58 p59 p60 p61 = some r) {st : St} (he : keepSt [0, 1] [(0, .id 0), (1, .id 1)] [] st = f26_j1_J a1 a2 a3 a4 a5 a6 a7 p56 p57 p58 p59 p60 p61) : ZR (lev codes baseL (d - 1)) Q c26_1 [] st := by
  refine zrKeep he ?_
  unfold f26_j1 at hS
  refine zrBlk ?_
  refine zrSeq ?_
  refine zrReg ?_
  refine zlRun (n := 2) (j := 2) rfl (by kernel_rfl) ?_
  refine bindE hS (fun z14 hz14 hS => ?_)
  refine zlOp (d := some 53) (op := (.callr 59 [(.tmp 51), (.tmp 52)])) (g := none) (v := (.d (.bool z14.2.2.2.2.2.2))) (ups := [(0, ⟨0, some (.box ((.d (.int .i64 z14.1)) :: ((.d (.int .i64 z14.2.1)) :: ((.d (.str z14.2.2.1)) :: ((.d (.str z14.2.2.2.1)) :: ((.d (.str z14.2.2.2.2.1)) :: ((.r (.msl 1 1 0 z14.2.2.2.2.2.1.length)) :: [])))))))⟩), (1, ⟨1, some (.own 31 6 (e_GAct.cells z14.2.2.2.2.2.1))⟩)]) (j := 3) rfl (by kernel_rfl) (by kernel_rfl) (ev_callr (args := [(.r (.ptr 0 0 0)), (.d (.int .i64 a1))]) (ids := [0, 1]) (bs := [(.box ((.d (.int .i64 p56)) :: ((.d (.int .i64 p57)) :: ((.d (.str p58)) :: ((.d (.str p59)) :: ((.d (.str p60)) :: ((.r (.msl 1 0 0 p61.length)) :: []))))))), (.own 31 6 (e_GAct.cells p61))]) (l := [(.r (.ptr 0 0 0)), (.d (.int .i64 a1))]) (bt := [(.box ((.d (.int .i64 p56)) :: ((.d (.int .i64 p57)) :: ((.d (.str p58)) :: ((.d (.str p59)) :: ((.d (.str p60)) :: ((.r (.msl 1 0 0 p61.length)) :: []))))))), (.own 31 6 (e_GAct.cells p61))]) (r := (.d (.bool z14.2.2.2.2.2.2))) (bs' := [(.box ((.d (.int .i64 z14.1)) :: ((.d (.int .i64 z14.2.1)) :: ((.d (.str z14.2.2.1)) :: ((.d (.str z14.2.2.2.1)) :: ((.d (.str z14.2.2.2.2.1)) :: ((.r (.msl 1 0 0 z14.2.2.2.2.2.1.length)) :: []))))))), (.own 31 6 (e_GAct.cells z14.2.2.2.2.2.1))]) (by kernel_rfl) (by kernel_rfl) (by kernel_rfl) (by kernel_rfl) (by kernel_rfl) (f59_ok (d - 1) (dpt hd rfl) a1 p56 p57 p58 p59 p60 p61 z14 hz14) (by kernel_rfl) (by kernel_rfl)) ?_
  refine zlRun (n := 1) (j := 4) rfl (by kernel_rfl) ?_
  refine zlEnd (by kernel_rfl) ?_
  refine zkSeq ?_
  refine zrSplit 50 z14.2.2.2.2.2.2 (by kernel_rfl) (fun hc => ?_) (fun hc => ?_)
  · replace hS := cond_t hc hS
    refine zrCondT (by kernel_rfl) ?_
    refine zrSkip ?_
    refine zkBlk ?_
    refine zkNil ?_
    exact endQ hS hQ (fNorm ((congrArg (fun s => outR s 2 c26.res) (by kernel_rfl : finSt c26.fin _ = f26_fin z14.1 z14.2.1 z14.2.2.1 z14.2.2.2.1 z14.2.2.2.2.1 z14.2.2.2.2.2.1)).trans (f26_out z14.1 z14.2.1 z14.2.2.1 z14.2.2.2.1 z14.2.2.2.2.1 z14.2.2.2.2.2.1)))
  · replace hS := cond_f hc hS
    refine zrCondF (by kernel_rfl) ?_
    refine zrSeq ?_
    refine zrReg ?_
    refine zlRun (n := 5) (j := 5) rfl (by kernel_rfl) ?_
    refine zlBool (d := 60) (op := (.cmpI .eql (.tmp 59) (.const (.int .i64 0)))) (g := none) (j := 6) (decide (z14.1 = 0)) rfl (by kernel_rfl) (by kernel_rfl) (by kernel_rfl) (fun hc => ?_) (fun hc => ?_)
    · replace hS := cond_t hc hS
      refine zlRun (n := 1) (j := 7) rfl (by kernel_rfl) ?_
      refine zlEnd (by kernel_rfl) ?_
      refine zkSeq ?_
      refine zrCondT (by kernel_rfl) ?_
      refine zrReg ?_
      refine zlRun (n := 3) (j := 3) rfl (by kernel_rfl) ?_
      refine bindE hS (fun z15 hz15 hS => ?_)
      refine zlOp (d := some 64) (op := (.callr 56 [(.tmp 61), (.tmp 63)])) (g := none) (v := (.tup [])) (ups := [(0, ⟨0, some (.box ((.d (.int .i64 z15.1)) :: ((.d (.int .i64 z15.2.1)) :: ((.d (.str z15.2.2.1)) :: ((.d (.str z15.2.2.2.1)) :: ((.d (.str z15.2.2.2.2.1)) :: ((.r (.msl 1 2 0 z15.2.2.2.2.2.length)) :: [])))))))⟩), (1, ⟨2, some (.own 31 6 (e_GAct.cells z15.2.2.2.2.2))⟩)]) (j := 4) rfl (by kernel_rfl) (by kernel_rfl) (ev_callr (args := [(.r (.ptr 0 0 0)), (.agg ((.d (.int .i64 1)) :: ((.d (.int .i64 a1)) :: ((.d (.int .i64 0)) :: ((.d (.str ([]))) :: ((.d (.sl ([] : List Int).length ((eInt .i64).cells ([])))) :: ((.d (.str ([]))) :: [])))))))]) (ids := [0, 1]) (bs := [(.box ((.d (.int .i64 z14.1)) :: ((.d (.int .i64 z14.2.1)) :: ((.d (.str z14.2.2.1)) :: ((.d (.str z14.2.2.2.1)) :: ((.d (.str z14.2.2.2.2.1)) :: ((.r (.msl 1 1 0 z14.2.2.2.2.2.1.length)) :: []))))))), (.own 31 6 (e_GAct.cells z14.2.2.2.2.2.1))]) (l := [(.r (.ptr 0 0 0)), (.agg ((.d (.int .i64 1)) :: ((.d (.int .i64 a1)) :: ((.d (.int .i64 0)) :: ((.d (.str ([]))) :: ((.d (.sl ([] : List Int).length ((eInt .i64).cells ([])))) :: ((.d (.str ([]))) :: [])))))))]) (bt := [(.box ((.d (.int .i64 z14.1)) :: ((.d (.int .i64 z14.2.1)) :: ((.d (.str z14.2.2.1)) :: ((.d (.str z14.2.2.2.1)) :: ((.d (.str z14.2.2.2.2.1)) :: ((.r (.msl 1 0 0 z14.2.2.2.2.2.1.length)) :: []))))))), (.own 31 6 (e_GAct.cells z14.2.2.2.2.2.1))]) (r := (.tup [])) (bs' := [(.box ((.d (.int .i64 z15.1)) :: ((.d (.int .i64 z15.2.1)) :: ((.d (.str z15.2.2.1)) :: ((.d (.str z15.2.2.2.1)) :: ((.d (.str z15.2.2.2.2.1)) :: ((.r (.msl 1 0 0 z15.2.2.2.2.2.length)) :: []))))))), (.own 31 6 (e_GAct.cells z15.2.2.2.2.2))]) (by kernel_rfl) (by kernel_rfl) (by kernel_rfl) (by kernel_rfl) (by kernel_rfl) (f56_ok (d - 1) (dpt hd rfl) (GAct.mk 1 a1 0 ([]) ([]) ([])) z14.1 z14.2.1 z14.2.2.1 z14.2.2.2.1 z14.2.2.2.2.1 z14.2.2.2.2.2.1 z15 hz15) (by kernel_rfl) (by kernel_rfl)) ?_
      refine zlEnd (by kernel_rfl) ?_
      refine zkBlk ?_
      refine zkNil ?_
      exact endQ hS hQ (fNorm ((congrArg (fun s => outR s 2 c26.res) (by kernel_rfl : finSt c26.fin _ = f26_fin z15.1 z15.2.1 z15.2.2.1 z15.2.2.2.1 z15.2.2.2.2.1 z15.2.2.2.2.2)).trans (f26_out z15.1 z15.2.1 z15.2.2.1 z15.2.2.2.1 z15.2.2.2.2.1 z15.2.2.2.2.2)))
    · replace hS := cond_f hc hS
      refine zlRun (n := 1) (j := 7) rfl (by kernel_rfl) ?_
      refine zlEnd (by kernel_rfl) ?_
      refine zkSeq ?_
      refine zrCondF (by kernel_rfl) ?_
      refine zrSeq ?_
      refine zrReg ?_
      refine zlRun (n := 1) (j := 1) rfl (by kernel_rfl) ?_
      refine zlBool (d := 67) (op := (.cmpI .geq (.tmp 66) (.const (.int .i64 160)))) (g := none) (j := 2) (decide (160 ≤ a1)) rfl (by kernel_rfl) (by kernel_rfl) (by kernel_rfl) (fun hc => ?_) (fun hc => ?_)
      · replace hS := cond_t hc hS
        refine zlRun (n := 1) (j := 3) rfl (by kernel_rfl) ?_
        refine zlEnd (by kernel_rfl) ?_
        refine zkSeq ?_
        refine zrCondT (by kernel_rfl) ?_
        refine zrReg ?_
        refine zlRun (n := 1) (j := 1) rfl (by kernel_rfl) ?_
        refine bindE hS (fun z16 hz16 hS => ?_)
        refine zlOp (d := some 69) (op := (.callr 58 [(.tmp 68), (.const (.int .i64 0))])) (g := none) (v := (.tup [])) (ups := [(0, ⟨0, some (.box ((.d (.int .i64 z16.1)) :: ((.d (.int .i64 0)) :: ((.d (.str ([]))) :: ((.d (.str ([]))) :: ((.d (.str ([]))) :: ((.r (.msl 1 2 0 z16.2.length)) :: [])))))))⟩), (1, ⟨2, some (.own 31 6 (e_GAct.cells z16.2))⟩)]) (j := 2) rfl (by kernel_rfl) (by kernel_rfl) (ev_callr (args := [(.r (.ptr 0 0 0)), (.d (.int .i64 0))]) (ids := [0, 1]) (bs := [(.box ((.d (.int .i64 z14.1)) :: ((.d (.int .i64 z14.2.1)) :: ((.d (.str z14.2.2.1)) :: ((.d (.str z14.2.2.2.1)) :: ((.d (.str z14.2.2.2.2.1)) :: ((.r (.msl 1 1 0 z14.2.2.2.2.2.1.length)) :: []))))))), (.own 31 6 (e_GAct.cells z14.2.2.2.2.2.1))]) (l := [(.r (.ptr 0 0 0)), (.d (.int .i64 0))]) (bt := [(.box ((.d (.int .i64 z14.1)) :: ((.d (.int .i64 z14.2.1)) :: ((.d (.str z14.2.2.1)) :: ((.d (.str z14.2.2.2.1)) :: ((.d (.str z14.2.2.2.2.1)) :: ((.r (.msl 1 0 0 z14.2.2.2.2.2.1.length)) :: []))))))), (.own 31 6 (e_GAct.cells z14.2.2.2.2.2.1))]) (r := (.tup [])) (bs' := [(.box ((.d (.int .i64 z16.1)) :: ((.d (.int .i64 0)) :: ((.d (.str ([]))) :: ((.d (.str ([]))) :: ((.d (.str ([]))) :: ((.r (.msl 1 0 0 z16.2.length)) :: []))))))), (.own 31 6 (e_GAct.cells z16.2))]) (by kernel_rfl) (by kernel_rfl) (by kernel_rfl) (by kernel_rfl) (by kernel_rfl) (f58_ok (d - 1) (dpt hd rfl) 0 z14.1 z14.2.1 z14.2.2.1 z14.2.2.2.1 z14.2.2.2.2.1 z14.2.2.2.2.2.1 z16 hz16) (by kernel_rfl) (by kernel_rfl)) ?_
        refine zlEnd (by kernel_rfl) ?_
        refine zkBlk ?_
        refine zkNil ?_
        exact endQ hS hQ (fNorm ((congrArg (fun s => outR s 2 c26.res) (by kernel_rfl : finSt c26.fin _ = f26_fin z16.1 0 [] [] [] z16.2)).trans (f26_out z16.1 0 [] [] [] z16.2)))
      · replace hS := cond_f hc hS
        refine zlRun (n := 1) (j := 3) rfl (by kernel_rfl) ?_
        refine zlEnd (by kernel_rfl) ?_
        refine zkSeq ?_
        refine zrCondF (by kernel_rfl) ?_
        refine zrSeq ?_
        refine zrReg ?_
        refine zlRun (n := 5) (j := 5) rfl (by kernel_rfl) ?_
        refine zlBool (d := 76) (op := (.cmpI .leq (.tmp 75) (.const (.int .i64 2)))) (g := none) (j := 6) (decide (z14.1 ≤ 2)) rfl (by kernel_rfl) (by kernel_rfl) (by kernel_rfl) (fun hc => ?_) (fun hc => ?_)
        · replace hS := cond_t hc hS
          refine zlRun (n := 1) (j := 7) rfl (by kernel_rfl) ?_
          refine zlEnd (by kernel_rfl) ?_
          refine zkSeq ?_
          refine zrCondT (by kernel_rfl) ?_
          refine zrReg ?_
          refine zlRun (n := 2) (j := 2) rfl (by kernel_rfl) ?_
          refine bindE hS (fun z17 hz17 hS => ?_)
          refine zlOp (d := some 79) (op := (.callr 60 [(.tmp 77), (.tmp 78)])) (g := none) (v := (.tup [])) (ups := [(0, ⟨0, some (.box ((.d (.int .i64 z17.1)) :: ((.d (.int .i64 z17.2.1)) :: ((.d (.str z17.2.2.1)) :: ((.d (.str z17.2.2.2.1)) :: ((.d (.str z17.2.2.2.2.1)) :: ((.r (.msl 1 2 0 z17.2.2.2.2.2.length)) :: [])))))))⟩), (1, ⟨2, some (.own 31 6 (e_GAct.cells z17.2.2.2.2.2))⟩)]) (j := 3) rfl (by kernel_rfl) (by kernel_rfl) (ev_callr (args := [(.r (.ptr 0 0 0)), (.d (.int .i64 a1))]) (ids := [0, 1]) (bs := [(.box ((.d (.int .i64 z14.1)) :: ((.d (.int .i64 z14.2.1)) :: ((.d (.str z14.2.2.1)) :: ((.d (.str z14.2.2.2.1)) :: ((.d (.str z14.2.2.2.2.1)) :: ((.r (.msl 1 1 0 z14.2.2.2.2.2.1.length)) :: []))))))), (.own 31 6 (e_GAct.cells z14.2.2.2.2.2.1))]) (l := [(.r (.ptr 0 0 0)), (.d (.int .i64 a1))]) (bt := [(.box ((.d (.int .i64 z14.1)) :: ((.d (.int .i64 z14.2.1)) :: ((.d (.str z14.2.2.1)) :: ((.d (.str z14.2.2.2.1)) :: ((.d (.str z14.2.2.2.2.1)) :: ((.r (.msl 1 0 0 z14.2.2.2.2.2.1.length)) :: []))))))), (.own 31 6 (e_GAct.cells z14.2.2.2.2.2.1))]) (r := (.tup [])) (bs' := [(.box ((.d (.int .i64 z17.1)) :: ((.d (.int .i64 z17.2.1)) :: ((.d (.str z17.2.2.1)) :: ((.d (.str z17.2.2.2.1)) :: ((.d (.str z17.2.2.2.2.1)) :: ((.r (.msl 1 0 0 z17.2.2.2.2.2.length)) :: []))))))), (.own 31 6 (e_GAct.cells z17.2.2.2.2.2))]) (by kernel_rfl) (by kernel_rfl) (by kernel_rfl) (by kernel_rfl) (by kernel_rfl) (f60_ok (d - 1) (dpt hd rfl) a1 z14.1 z14.2.1 z14.2.2.1 z14.2.2.2.1 z14.2.2.2.2.1 z14.2.2.2.2.2.1 z17 hz17) (by kernel_rfl) (by kernel_rfl)) ?_
          refine zlEnd (by kernel_rfl) ?_
          refine zkBlk ?_
          refine zkNil ?_
          exact endQ hS hQ (fNorm ((congrArg (fun s => outR s 2 c26.res) (by kernel_rfl : finSt c26.fin _ = f26_fin z17.1 z17.2.1 z17.2.2.1 z17.2.2.2.1 z17.2.2.2.2.1 z17.2.2.2.2.2)).trans (f26_out z17.1 z17.2.1 z17.2.2.1 z17.2.2.2.1 z17.2.2.2.2.1 z17.2.2.2.2.2)))
        · replace hS := cond_f hc hS
          refine zlRun (n := 1) (j := 7) rfl (by kernel_rfl) ?_
          refine zlEnd (by kernel_rfl) ?_
          refine zkSeq ?_
          refine zrCondF (by kernel_rfl) ?_
          refine zrReg ?_
          refine zlRun (n := 2) (j := 2) rfl (by kernel_rfl) ?_
          refine bindE hS (fun z18 hz18 hS => ?_)
          refine zlOp (d := some 49) (op := (.callr 61 [(.tmp 47), (.tmp 48)])) (g := none) (v := (.tup [])) (ups := [(0, ⟨0, some (.box ((.d (.int .i64 z18.1)) :: ((.d (.int .i64 z18.2.1)) :: ((.d (.str z18.2.2.1)) :: ((.d (.str z18.2.2.2.1)) :: ((.d (.str z18.2.2.2.2.1)) :: ((.r (.msl 1 2 0 z18.2.2.2.2.2.length)) :: [])))))))⟩), (1, ⟨2, some (.own 31 6 (e_GAct.cells z18.2.2.2.2.2))⟩)]) (j := 3) rfl (by kernel_rfl) (by kernel_rfl) (ev_callr (args := [(.r (.ptr 0 0 0)), (.d (.int .i64 a1))]) (ids := [0, 1]) (bs := [(.box ((.d (.int .i64 z14.1)) :: ((.d (.int .i64 z14.2.1)) :: ((.d (.str z14.2.2.1)) :: ((.d (.str z14.2.2.2.1)) :: ((.d (.str z14.2.2.2.2.1)) :: ((.r (.msl 1 1 0 z14.2.2.2.2.2.1.length)) :: []))))))), (.own 31 6 (e_GAct.cells z14.2.2.2.2.2.1))]) (l := [(.r (.ptr 0 0 0)), (.d (.int .i64 a1))]) (bt := [(.box ((.d (.int .i64 z14.1)) :: ((.d (.int .i64 z14.2.1)) :: ((.d (.str z14.2.2.1)) :: ((.d (.str z14.2.2.2.1)) :: ((.d (.str z14.2.2.2.2.1)) :: ((.r (.msl 1 0 0 z14.2.2.2.2.2.1.length)) :: []))))))), (.own 31 6 (e_GAct.cells z14.2.2.2.2.2.1))]) (r := (.tup [])) (bs' := [(.box ((.d (.int .i64 z18.1)) :: ((.d (.int .i64 z18.2.1)) :: ((.d (.str z18.2.2.1)) :: ((.d (.str z18.2.2.2.1)) :: ((.d (.str z18.2.2.2.2.1)) :: ((.r (.msl 1 0 0 z18.2.2.2.2.2.length)) :: []))))))), (.own 31 6 (e_GAct.cells z18.2.2.2.2.2))]) (by kernel_rfl) (by kernel_rfl) (by kernel_rfl) (by kernel_rfl) (by kernel_rfl) (f61_ok (d - 1) (dpt hd rfl) a1 z14.1 z14.2.1 z14.2.2.1 z14.2.2.2.1 z14.2.2.2.2.1 z14.2.2.2.2.2.1 z18 hz18) (by kernel_rfl) (by kernel_rfl)) ?_
          refine zlEnd (by kernel_rfl) ?_
          refine zkBlk ?_
          refine zkNil ?_
          exact endQ hS hQ (fNorm ((congrArg (fun s => outR s 2 c26.res) (by kernel_rfl : finSt c26.fin _ = f26_fin z18.1 z18.2.1 z18.2.2.1 z18.2.2.2.1 z18.2.2.2.2.1 z18.2.2.2.2.2)).trans (f26_out z18.1 z18.2.1 z18.2.2.1 z18.2.2.2.1 z18.2.2.2.2.1 z18.2.2.2.2.2)))
def f26_j3_J (a1 : Int) (a2 : Int) (a3 : Int) (a4 : List UInt8) (a5 : List UInt8) (a6 : List UInt8) (a7 : List GAct) (p67 : Bool) : St := ⟨(up (up (up (fun _ => .un) 22 (.d (.bool p67))) 1 (.d (.int .i64 a1))) 0 (.r (.ptr 0 0 0))), (up (up (hB fun _ => 0) 1 ⟨0, some (.own 31 6 (e_GAct.cells a7))⟩) 0 ⟨0, some (.box ((.d (.int .i64 a2)) :: ((.d (.int .i64 a3)) :: ((.d (.str a4)) :: ((.d (.str a5)) :: ((.d (.str a6)) :: ((.r (.msl 1 0 0 a7.length)) :: [])))))))⟩)⟩
noncomputable def f26_j3 (a1 : Int) (a2 : Int) (a3 : Int) (a4 : List UInt8) (a5 : List UInt8) (a6 : List UInt8) (a7 : List GAct) (p67 : Bool) : Option (Int × Int × (List UInt8) × (List UInt8) × (List UInt8) × (List GAct)) := (bif p67 then (bif (decide (a1 = 92)) then (bif (decide (a2 = 8)) then ((f56 (GAct.mk 5 0 0 ([]) ([]) a6) a2 a3 a4 a5 a6 a7).bind fun z20 => ((f57 0 z20.1 z20.2.1 z20.2.2.1 z20.2.2.2.1 z20.2.2.2.2.1 z20.2.2.2.2.2).bind fun z21 => (some (z21.1, 0, [], [], [], z21.2)))) else ((f56 (GAct.mk 6 0 0 ([]) ([]) ([])) a2 a3 a4 a5 a6 a7).bind fun z22 => ((f57 0 z22.1 z22.2.1 z22.2.2.1 z22.2.2.2.1 z22.2.2.2.2.1 z22.2.2.2.2.2).bind fun z23 => (some (z23.1, 0, [], [], [], z23.2))))) else ((f58 1 a2 a3 a4 a5 a6 a7).bind fun z24 => (f26_j1 a1 a2 a3 a4 a5 a6 a7 z24.1 0 [] [] [] z24.2))) else (f26_j1 a1 a2 a3 a4 a5 a6 a7 a2 a3 a4 a5 a6 a7))
theorem f26_j3_ok {d : Nat} (hd : 5 ≤ d) (a1 : Int) (a2 : Int) (a3 : Int) (a4 : List UInt8) (a5 : List UInt8) (a6 : List UInt8) (a7 : List GAct) {r : Int × Int × (List UInt8) × (List UInt8) × (List UInt8) × (List GAct)} {Q : PX → St → Prop} (hQ : ∀ e st', f26_Q r e st' → Q e st') (p67 : Bool) (hS : f26_j3 a1 a2 a3 a4 a5 a6 a7 p67 = some r) {st : St} (he : keepSt [0, 1, 22] [(0, .id 0), (1, .id 1)] [] st = f26_j3_J a1 a2 a3 a4 a5 a6 a7 p67) : ZR (lev codes baseL (d - 1)) Q c26_2 [.blk 0, .seq c26_1] st := by
  refine zrKeep he ?_
  unfold f26_j3 at hS
  refine zrSplit 22 p67 (by kernel_rfl) (fun hc => ?_) (fun hc => ?_)
  · replace hS := cond_t hc hS
    refine zrCondT (by kernel_rfl) ?_
    refine zrSeq ?_
    refine zrSeq ?_
    refine zrReg ?_
    refine zlRun (n := 1) (j := 1) rfl (by kernel_rfl) ?_
    refine zlBool (d := 26) (op := (.cmpI .eql (.tmp 25) (.const (.int .i64 92)))) (g := none) (j := 2) (decide (a1 = 92)) rfl (by kernel_rfl) (by kernel_rfl) (by kernel_rfl) (fun hc => ?_) (fun hc => ?_)
    · replace hS := cond_t hc hS
      refine zlEnd (by kernel_rfl) ?_
      refine zkSeq ?_
      refine zrCondT (by kernel_rfl) ?_
      refine zrSeq ?_
      refine zrReg ?_
      refine zlRun (n := 3) (j := 3) rfl (by kernel_rfl) ?_
      refine zlEnd (by kernel_rfl) ?_
      refine zkSeq ?_
      refine zrSeq ?_
      refine zrSeq ?_
      refine zrReg ?_
      refine zlRun (n := 5) (j := 5) rfl (by kernel_rfl) ?_
      refine zlBool (d := 33) (op := (.cmpI .eql (.tmp 32) (.const (.int .i64 8)))) (g := none) (j := 6) (decide (a2 = 8)) rfl (by kernel_rfl) (by kernel_rfl) (by kernel_rfl) (fun hc => ?_) (fun hc => ?_)
      · replace hS := cond_t hc hS
        refine zlEnd (by kernel_rfl) ?_
        refine zkSeq ?_
        refine zrCondT (by kernel_rfl) ?_
        refine zrReg ?_
        refine zlRun (n := 7) (j := 7) rfl (by kernel_rfl) ?_
        refine zlEnd (by kernel_rfl) ?_
        refine zkSeq ?_
        refine zrSeq ?_
        refine zrReg ?_
        refine zlRun (n := 2) (j := 2) rfl (by kernel_rfl) ?_
        refine bindE hS (fun z20 hz20 hS => ?_)
        refine zlOp (d := some 42) (op := (.callr 56 [(.tmp 40), (.tmp 41)])) (g := none) (v := (.tup [])) (ups := [(0, ⟨0, some (.box ((.d (.int .i64 z20.1)) :: ((.d (.int .i64 z20.2.1)) :: ((.d (.str z20.2.2.1)) :: ((.d (.str z20.2.2.2.1)) :: ((.d (.str z20.2.2.2.2.1)) :: ((.r (.msl 1 1 0 z20.2.2.2.2.2.length)) :: [])))))))⟩), (1, ⟨1, some (.own 31 6 (e_GAct.cells z20.2.2.2.2.2))⟩)]) (j := 3) rfl (by kernel_rfl) (by kernel_rfl) (ev_callr (args := [(.r (.ptr 0 0 0)), (.agg ((.d (.int .i64 5)) :: ((.d (.int .i64 0)) :: ((.d (.int .i64 0)) :: ((.d (.str ([]))) :: ((.d (.sl ([] : List Int).length ((eInt .i64).cells ([])))) :: ((.d (.str a6)) :: [])))))))]) (ids := [0, 1]) (bs := [(.box ((.d (.int .i64 a2)) :: ((.d (.int .i64 a3)) :: ((.d (.str a4)) :: ((.d (.str a5)) :: ((.d (.str a6)) :: ((.r (.msl 1 0 0 a7.length)) :: []))))))), (.own 31 6 (e_GAct.cells a7))]) (l := [(.r (.ptr 0 0 0)), (.agg ((.d (.int .i64 5)) :: ((.d (.int .i64 0)) :: ((.d (.int .i64 0)) :: ((.d (.str ([]))) :: ((.d (.sl ([] : List Int).length ((eInt .i64).cells ([])))) :: ((.d (.str a6)) :: [])))))))]) (bt := [(.box ((.d (.int .i64 a2)) :: ((.d (.int .i64 a3)) :: ((.d (.str a4)) :: ((.d (.str a5)) :: ((.d (.str a6)) :: ((.r (.msl 1 0 0 a7.length)) :: []))))))), (.own 31 6 (e_GAct.cells a7))]) (r := (.tup [])) (bs' := [(.box ((.d (.int .i64 z20.1)) :: ((.d (.int .i64 z20.2.1)) :: ((.d (.str z20.2.2.1)) :: ((.d (.str z20.2.2.2.1)) :: ((.d (.str z20.2.2.2.2.1)) :: ((.r (.msl 1 0 0 z20.2.2.2.2.2.length)) :: []))))))), (.own 31 6 (e_GAct.cells z20.2.2.2.2.2))]) (by kernel_rfl) (by kernel_rfl) (by kernel_rfl) (by kernel_rfl) (by kernel_rfl) (f56_ok (d - 1) (dpt hd rfl) (GAct.mk 5 0 0 ([]) ([]) a6) a2 a3 a4 a5 a6 a7 z20 hz20) (by kernel_rfl) (by kernel_rfl)) ?_
        refine zlEnd (by kernel_rfl) ?_
        refine zkSeq ?_
        refine zrSeq ?_
        refine zrReg ?_
        refine zlRun (n := 1) (j := 1) rfl (by kernel_rfl) ?_
        refine bindE hS (fun z21 hz21 hS => ?_)
        refine zlOp (d := some 44) (op := (.callr 57 [(.tmp 43), (.const (.int .i64 0))])) (g := none) (v := (.tup [])) (ups := [(0, ⟨0, some (.box ((.d (.int .i64 z21.1)) :: ((.d (.int .i64 0)) :: ((.d (.str ([]))) :: ((.d (.str ([]))) :: ((.d (.str ([]))) :: ((.r (.msl 1 2 0 z21.2.length)) :: [])))))))⟩), (1, ⟨2, some (.own 31 6 (e_GAct.cells z21.2))⟩)]) (j := 2) rfl (by kernel_rfl) (by kernel_rfl) (ev_callr (args := [(.r (.ptr 0 0 0)), (.d (.int .i64 0))]) (ids := [0, 1]) (bs := [(.box ((.d (.int .i64 z20.1)) :: ((.d (.int .i64 z20.2.1)) :: ((.d (.str z20.2.2.1)) :: ((.d (.str z20.2.2.2.1)) :: ((.d (.str z20.2.2.2.2.1)) :: ((.r (.msl 1 1 0 z20.2.2.2.2.2.length)) :: []))))))), (.own 31 6 (e_GAct.cells z20.2.2.2.2.2))]) (l := [(.r (.ptr 0 0 0)), (.d (.int .i64 0))]) (bt := [(.box ((.d (.int .i64 z20.1)) :: ((.d (.int .i64 z20.2.1)) :: ((.d (.str z20.2.2.1)) :: ((.d (.str z20.2.2.2.1)) :: ((.d (.str z20.2.2.2.2.1)) :: ((.r (.msl 1 0 0 z20.2.2.2.2.2.length)) :: []))))))), (.own 31 6 (e_GAct.cells z20.2.2.2.2.2))]) (r := (.tup [])) (bs' := [(.box ((.d (.int .i64 z21.1)) :: ((.d (.int .i64 0)) :: ((.d (.str ([]))) :: ((.d (.str ([]))) :: ((.d (.str ([]))) :: ((.r (.msl 1 0 0 z21.2.length)) :: []))))))), (.own 31 6 (e_GAct.cells z21.2))]) (by kernel_rfl) (by kernel_rfl) (by kernel_rfl) (by kernel_rfl) (by kernel_rfl) (f57_ok (d - 1) (dpt hd rfl) 0 z20.1 z20.2.1 z20.2.2.1 z20.2.2.2.1 z20.2.2.2.2.1 z20.2.2.2.2.2 z21 hz21) (by kernel_rfl) (by kernel_rfl)) ?_
        refine zlEnd (by kernel_rfl) ?_
        refine zkSeq ?_
        refine zrRet ?_
        refine zkSeqR ?_
        refine zkBlkR ?_
        refine zkSeqR ?_
        refine zkNil ?_
        exact endQ hS hQ (fRet ((congrArg (fun s => outR s 2 c26.res) (by kernel_rfl : finSt c26.fin _ = f26_fin z21.1 0 [] [] [] z21.2)).trans (f26_out z21.1 0 [] [] [] z21.2)))
      · replace hS := cond_f hc hS
        refine zlEnd (by kernel_rfl) ?_
        refine zkSeq ?_
        refine zrCondF (by kernel_rfl) ?_
        refine zrSkip ?_
        refine zkSeq ?_
        refine zrSeq ?_
        refine zrReg ?_
        refine zlRun (n := 2) (j := 2) rfl (by kernel_rfl) ?_
        refine bindE hS (fun z22 hz22 hS => ?_)
        refine zlOp (d := some 42) (op := (.callr 56 [(.tmp 40), (.tmp 41)])) (g := none) (v := (.tup [])) (ups := [(0, ⟨0, some (.box ((.d (.int .i64 z22.1)) :: ((.d (.int .i64 z22.2.1)) :: ((.d (.str z22.2.2.1)) :: ((.d (.str z22.2.2.2.1)) :: ((.d (.str z22.2.2.2.2.1)) :: ((.r (.msl 1 1 0 z22.2.2.2.2.2.length)) :: [])))))))⟩), (1, ⟨1, some (.own 31 6 (e_GAct.cells z22.2.2.2.2.2))⟩)]) (j := 3) rfl (by kernel_rfl) (by kernel_rfl) (ev_callr (args := [(.r (.ptr 0 0 0)), (.agg ((.d (.int .i64 6)) :: ((.d (.int .i64 0)) :: ((.d (.int .i64 0)) :: ((.d (.str ([]))) :: ((.d (.sl ([] : List Int).length ((eInt .i64).cells ([])))) :: ((.d (.str ([]))) :: [])))))))]) (ids := [0, 1]) (bs := [(.box ((.d (.int .i64 a2)) :: ((.d (.int .i64 a3)) :: ((.d (.str a4)) :: ((.d (.str a5)) :: ((.d (.str a6)) :: ((.r (.msl 1 0 0 a7.length)) :: []))))))), (.own 31 6 (e_GAct.cells a7))]) (l := [(.r (.ptr 0 0 0)), (.agg ((.d (.int .i64 6)) :: ((.d (.int .i64 0)) :: ((.d (.int .i64 0)) :: ((.d (.str ([]))) :: ((.d (.sl ([] : List Int).length ((eInt .i64).cells ([])))) :: ((.d (.str ([]))) :: [])))))))]) (bt := [(.box ((.d (.int .i64 a2)) :: ((.d (.int .i64 a3)) :: ((.d (.str a4)) :: ((.d (.str a5)) :: ((.d (.str a6)) :: ((.r (.msl 1 0 0 a7.length)) :: []))))))), (.own 31 6 (e_GAct.cells a7))]) (r := (.tup [])) (bs' := [(.box ((.d (.int .i64 z22.1)) :: ((.d (.int .i64 z22.2.1)) :: ((.d (.str z22.2.2.1)) :: ((.d (.str z22.2.2.2.1)) :: ((.d (.str z22.2.2.2.2.1)) :: ((.r (.msl 1 0 0 z22.2.2.2.2.2.length)) :: []))))))), (.own 31 6 (e_GAct.cells z22.2.2.2.2.2))]) (by kernel_rfl) (by kernel_rfl) (by kernel_rfl) (by kernel_rfl) (by kernel_rfl) (f56_ok (d - 1) (dpt hd rfl) (GAct.mk 6 0 0 ([]) ([]) ([])) a2 a3 a4 a5 a6 a7 z22 hz22) (by kernel_rfl) (by kernel_rfl)) ?_
        refine zlEnd (by kernel_rfl) ?_
        refine zkSeq ?_
        refine zrSeq ?_
        refine zrReg ?_
        refine zlRun (n := 1) (j := 1) rfl (by kernel_rfl) ?_
        refine bindE hS (fun z23 hz23 hS => ?_)
        refine zlOp (d := some 44) (op := (.callr 57 [(.tmp 43), (.const (.int .i64 0))])) (g := none) (v := (.tup [])) (ups := [(0, ⟨0, some (.box ((.d (.int .i64 z23.1)) :: ((.d (.int .i64 0)) :: ((.d (.str ([]))) :: ((.d (.str ([]))) :: ((.d (.str ([]))) :: ((.r (.msl 1 2 0 z23.2.length)) :: [])))))))⟩), (1, ⟨2, some (.own 31 6 (e_GAct.cells z23.2))⟩)]) (j := 2) rfl (by kernel_rfl) (by kernel_rfl) (ev_callr (args := [(.r (.ptr 0 0 0)), (.d (.int .i64 0))]) (ids := [0, 1]) (bs := [(.box ((.d (.int .i64 z22.1)) :: ((.d (.int .i64 z22.2.1)) :: ((.d (.str z22.2.2.1)) :: ((.d (.str z22.2.2.2.1)) :: ((.d (.str z22.2.2.2.2.1)) :: ((.r (.msl 1 1 0 z22.2.2.2.2.2.length)) :: []))))))), (.own 31 6 (e_GAct.cells z22.2.2.2.2.2))]) (l := [(.r (.ptr 0 0 0)), (.d (.int .i64 0))]) (bt := [(.box ((.d (.int .i64 z22.1)) :: ((.d (.int .i64 z22.2.1)) :: ((.d (.str z22.2.2.1)) :: ((.d (.str z22.2.2.2.1)) :: ((.d (.str z22.2.2.2.2.1)) :: ((.r (.msl 1 0 0 z22.2.2.2.2.2.length)) :: []))))))), (.own 31 6 (e_GAct.cells z22.2.2.2.2.2))]) (r := (.tup [])) (bs' := [(.box ((.d (.int .i64 z23.1)) :: ((.d (.int .i64 0)) :: ((.d (.str ([]))) :: ((.d (.str ([]))) :: ((.d (.str ([]))) :: ((.r (.msl 1 0 0 z23.2.length)) :: []))))))), (.own 31 6 (e_GAct.cells z23.2))]) (by kernel_rfl) (by kernel_rfl) (by kernel_rfl) (by kernel_rfl) (by kernel_rfl) (f57_ok (d - 1) (dpt hd rfl) 0 z22.1 z22.2.1 z22.2.2.1 z22.2.2.2.1 z22.2.2.2.2.1 z22.2.2.2.2.2 z23 hz23) (by kernel_rfl) (by kernel_rfl)) ?_
        refine zlEnd (by kernel_rfl) ?_
        refine zkSeq ?_
        refine zrRet ?_
        refine zkSeqR ?_
        refine zkBlkR ?_
        refine zkSeqR ?_
        refine zkNil ?_
        exact endQ hS hQ (fRet ((congrArg (fun s => outR s 2 c26.res) (by kernel_rfl : finSt c26.fin _ = f26_fin z23.1 0 [] [] [] z23.2)).trans (f26_out z23.1 0 [] [] [] z23.2)))
    · replace hS := cond_f hc hS
      refine zlEnd (by kernel_rfl) ?_
      refine zkSeq ?_
      refine zrCondF (by kernel_rfl) ?_
      refine zrSkip ?_
      refine zkSeq ?_
      refine zrReg ?_
      refine zlRun (n := 1) (j := 1) rfl (by kernel_rfl) ?_
      refine bindE hS (fun z24 hz24 hS => ?_)
      refine zlOp (d := some 46) (op := (.callr 58 [(.tmp 45), (.const (.int .i64 1))])) (g := none) (v := (.tup [])) (ups := [(0, ⟨0, some (.box ((.d (.int .i64 z24.1)) :: ((.d (.int .i64 0)) :: ((.d (.str ([]))) :: ((.d (.str ([]))) :: ((.d (.str ([]))) :: ((.r (.msl 1 1 0 z24.2.length)) :: [])))))))⟩), (1, ⟨1, some (.own 31 6 (e_GAct.cells z24.2))⟩)]) (j := 2) rfl (by kernel_rfl) (by kernel_rfl) (ev_callr (args := [(.r (.ptr 0 0 0)), (.d (.int .i64 1))]) (ids := [0, 1]) (bs := [(.box ((.d (.int .i64 a2)) :: ((.d (.int .i64 a3)) :: ((.d (.str a4)) :: ((.d (.str a5)) :: ((.d (.str a6)) :: ((.r (.msl 1 0 0 a7.length)) :: []))))))), (.own 31 6 (e_GAct.cells a7))]) (l := [(.r (.ptr 0 0 0)), (.d (.int .i64 1))]) (bt := [(.box ((.d (.int .i64 a2)) :: ((.d (.int .i64 a3)) :: ((.d (.str a4)) :: ((.d (.str a5)) :: ((.d (.str a6)) :: ((.r (.msl 1 0 0 a7.length)) :: []))))))), (.own 31 6 (e_GAct.cells a7))]) (r := (.tup [])) (bs' := [(.box ((.d (.int .i64 z24.1)) :: ((.d (.int .i64 0)) :: ((.d (.str ([]))) :: ((.d (.str ([]))) :: ((.d (.str ([]))) :: ((.r (.msl 1 0 0 z24.2.length)) :: []))))))), (.own 31 6 (e_GAct.cells z24.2))]) (by kernel_rfl) (by kernel_rfl) (by kernel_rfl) (by kernel_rfl) (by kernel_rfl) (f58_ok (d - 1) (dpt hd rfl) 1 a2 a3 a4 a5 a6 a7 z24 hz24) (by kernel_rfl) (by kernel_rfl)) ?_
      refine zlEnd (by kernel_rfl) ?_
      refine zkBlk ?_
      refine zkSeq ?_
      exact f26_j1_ok hd a1 a2 a3 a4 a5 a6 a7 hQ z24.1 0 [] [] [] z24.2 hS (by kernel_rfl)
  · replace hS := cond_f hc hS
    refine zrCondF (by kernel_rfl) ?_
    refine zrSkip ?_
    refine zkBlk ?_
    refine zkSeq ?_
    exact f26_j1_ok hd a1 a2 a3 a4 a5 a6 a7 hQ a2 a3 a4 a5 a6 a7 hS (by kernel_rfl)
def f26_j2_J (a1 : Int) (a2 : Int) (a3 : Int) (a4 : List UInt8) (a5 : List UInt8) (a6 : List UInt8) (a7 : List GAct) (p64 : Bool) : St := ⟨(up (up (up (up (fun _ => .un) 16 (.d (.bool p64))) 15 (.d (.int .i64 a2))) 1 (.d (.int .i64 a1))) 0 (.r (.ptr 0 0 0))), (up (up (hB fun _ => 0) 1 ⟨0, some (.own 31 6 (e_GAct.cells a7))⟩) 0 ⟨0, some (.box ((.d (.int .i64 a2)) :: ((.d (.int .i64 a3)) :: ((.d (.str a4)) :: ((.d (.str a5)) :: ((.d (.str a6)) :: ((.r (.msl 1 0 0 a7.length)) :: [])))))))⟩)⟩
noncomputable def f26_j2 (a1 : Int) (a2 : Int) (a3 : Int) (a4 : List UInt8) (a5 : List UInt8) (a6 : List UInt8) (a7 : List GAct) (p64 : Bool) : Option (Int × Int × (List UInt8) × (List UInt8) × (List UInt8) × (List GAct)) := (bif p64 then ((f55 a1 a2 a3 a4 a5 a6 a7).bind fun z19 => (some (z19.1, z19.2.1, z19.2.2.1, z19.2.2.2.1, z19.2.2.2.2.1, z19.2.2.2.2.2))) else (bif (decide (a2 = 8)) then (f26_j3 a1 a2 a3 a4 a5 a6 a7 true) else (bif (decide (a2 = 10)) then (f26_j3 a1 a2 a3 a4 a5 a6 a7 true) else (f26_j3 a1 a2 a3 a4 a5 a6 a7 false))))
theorem f26_j2_ok {d : Nat} (hd : 5 ≤ d) (a1 : Int) (a2 : Int) (a3 : Int) (a4 : List UInt8) (a5 : List UInt8) (a6 : List UInt8) (a7 : List GAct) {r : Int × Int × (List UInt8) × (List UInt8) × (List UInt8) × (List GAct)} {Q : PX → St → Prop} (hQ : ∀ e st', f26_Q r e st' → Q e st') (p64 : Bool) (hS : f26_j2 a1 a2 a3 a4 a5 a6 a7 p64 = some r) {st : St} (he : keepSt [0, 1, 15, 16] [(0, .id 0), (1, .id 1)] [] st = f26_j2_J a1 a2 a3 a4 a5 a6 a7 p64) : ZR (lev codes baseL (d - 1)) Q c26_3 [.blk 0, .seq c26_1] st := by
  refine zrKeep he ?_
  unfold f26_j2 at hS
  refine zrSplit 16 p64 (by kernel_rfl) (fun hc => ?_) (fun hc => ?_)
  · replace hS := cond_t hc hS
    refine zrCondT (by kernel_rfl) ?_
    refine zrSeq ?_
    refine zrReg ?_
    refine zlRun (n := 2) (j := 2) rfl (by kernel_rfl) ?_
    refine bindE hS (fun z19 hz19 hS => ?_)
    refine zlOp (d := some 21) (op := (.callr 55 [(.tmp 19), (.tmp 20)])) (g := none) (v := (.tup [])) (ups := [(0, ⟨0, some (.box ((.d (.int .i64 z19.1)) :: ((.d (.int .i64 z19.2.1)) :: ((.d (.str z19.2.2.1)) :: ((.d (.str z19.2.2.2.1)) :: ((.d (.str z19.2.2.2.2.1)) :: ((.r (.msl 1 1 0 z19.2.2.2.2.2.length)) :: [])))))))⟩), (1, ⟨1, some (.own 31 6 (e_GAct.cells z19.2.2.2.2.2))⟩)]) (j := 3) rfl (by kernel_rfl) (by kernel_rfl) (ev_callr (args := [(.r (.ptr 0 0 0)), (.d (.int .i64 a1))]) (ids := [0, 1]) (bs := [(.box ((.d (.int .i64 a2)) :: ((.d (.int .i64 a3)) :: ((.d (.str a4)) :: ((.d (.str a5)) :: ((.d (.str a6)) :: ((.r (.msl 1 0 0 a7.length)) :: []))))))), (.own 31 6 (e_GAct.cells a7))]) (l := [(.r (.ptr 0 0 0)), (.d (.int .i64 a1))]) (bt := [(.box ((.d (.int .i64 a2)) :: ((.d (.int .i64 a3)) :: ((.d (.str a4)) :: ((.d (.str a5)) :: ((.d (.str a6)) :: ((.r (.msl 1 0 0 a7.length)) :: []))))))), (.own 31 6 (e_GAct.cells a7))]) (r := (.tup [])) (bs' := [(.box ((.d (.int .i64 z19.1)) :: ((.d (.int .i64 z19.2.1)) :: ((.d (.str z19.2.2.1)) :: ((.d (.str z19.2.2.2.1)) :: ((.d (.str z19.2.2.2.2.1)) :: ((.r (.msl 1 0 0 z19.2.2.2.2.2.length)) :: []))))))), (.own 31 6 (e_GAct.cells z19.2.2.2.2.2))]) (by kernel_rfl) (by kernel_rfl) (by kernel_rfl) (by kernel_rfl) (by kernel_rfl) (f55_ok (d - 1) (dpt hd rfl) a1 a2 a3 a4 a5 a6 a7 z19 hz19) (by kernel_rfl) (by kernel_rfl)) ?_
    refine zlEnd (by kernel_rfl) ?_
    refine zkSeq ?_
    refine zrRet ?_
    refine zkBlkR ?_
    refine zkSeqR ?_
    refine zkNil ?_
    exact endQ hS hQ (fRet ((congrArg (fun s => outR s 2 c26.res) (by kernel_rfl : finSt c26.fin _ = f26_fin z19.1 z19.2.1 z19.2.2.1 z19.2.2.2.1 z19.2.2.2.2.1 z19.2.2.2.2.2)).trans (f26_out z19.1 z19.2.1 z19.2.2.1 z19.2.2.2.1 z19.2.2.2.2.1 z19.2.2.2.2.2)))
  · replace hS := cond_f hc hS
    refine zrCondF (by kernel_rfl) ?_
    refine zrSeq ?_
    refine zrSeq ?_
    refine zrReg ?_
    refine zlBool (d := 23) (op := (.cmpI .eql (.tmp 15) (.const (.int .i64 8)))) (g := none) (j := 1) (decide (a2 = 8)) rfl (by kernel_rfl) (by kernel_rfl) (by kernel_rfl) (fun hc => ?_) (fun hc => ?_)
    · replace hS := cond_t hc hS
      refine zlRun (n := 1) (j := 2) rfl (by kernel_rfl) ?_
      refine zlEnd (by kernel_rfl) ?_
      refine zkSeq ?_
      refine zrCondT (by kernel_rfl) ?_
      refine zrSkip ?_
      refine zkSeq ?_
      exact f26_j3_ok hd a1 a2 a3 a4 a5 a6 a7 hQ true hS (by kernel_rfl)
    · replace hS := cond_f hc hS
      refine zlRun (n := 1) (j := 2) rfl (by kernel_rfl) ?_
      refine zlEnd (by kernel_rfl) ?_
      refine zkSeq ?_
      refine zrCondF (by kernel_rfl) ?_
      refine zrReg ?_
      refine zlBool (d := 24) (op := (.cmpI .eql (.tmp 15) (.const (.int .i64 10)))) (g := none) (j := 1) (decide (a2 = 10)) rfl (by kernel_rfl) (by kernel_rfl) (by kernel_rfl) (fun hc => ?_) (fun hc => ?_)
      · replace hS := cond_t hc hS
        refine zlRun (n := 1) (j := 2) rfl (by kernel_rfl) ?_
        refine zlEnd (by kernel_rfl) ?_
        refine zkSeq ?_
        exact f26_j3_ok hd a1 a2 a3 a4 a5 a6 a7 hQ true hS (by kernel_rfl)
      · replace hS := cond_f hc hS
        refine zlRun (n := 1) (j := 2) rfl (by kernel_rfl) ?_
        refine zlEnd (by kernel_rfl) ?_
        refine zkSeq ?_
        exact f26_j3_ok hd a1 a2 a3 a4 a5 a6 a7 hQ false hS (by kernel_rfl)
def f26_j0_J (a1 : Int) (a2 : Int) (a3 : Int) (a4 : List UInt8) (a5 : List UInt8) (a6 : List UInt8) (a7 : List GAct) : St := ⟨(up (up (fun _ => .un) 1 (.d (.int .i64 a1))) 0 (.r (.ptr 0 0 0))), (up (up (hB fun _ => 0) 1 ⟨0, some (.own 31 6 (e_GAct.cells a7))⟩) 0 ⟨0, some (.box ((.d (.int .i64 a2)) :: ((.d (.int .i64 a3)) :: ((.d (.str a4)) :: ((.d (.str a5)) :: ((.d (.str a6)) :: ((.r (.msl 1 0 0 a7.length)) :: [])))))))⟩)⟩
noncomputable def f26_j0 (a1 : Int) (a2 : Int) (a3 : Int) (a4 : List UInt8) (a5 : List UInt8) (a6 : List UInt8) (a7 : List GAct) : Option (Int × Int × (List UInt8) × (List UInt8) × (List UInt8) × (List GAct)) := (bif (decide (a2 = 7)) then (f26_j2 a1 a2 a3 a4 a5 a6 a7 true) else (bif (decide (a2 = 9)) then (f26_j2 a1 a2 a3 a4 a5 a6 a7 true) else (f26_j2 a1 a2 a3 a4 a5 a6 a7 false)))
theorem f26_j0_ok {d : Nat} (hd : 5 ≤ d) (a1 : Int) (a2 : Int) (a3 : Int) (a4 : List UInt8) (a5 : List UInt8) (a6 : List UInt8) (a7 : List GAct) {r : Int × Int × (List UInt8) × (List UInt8) × (List UInt8) × (List GAct)} {Q : PX → St → Prop} (hQ : ∀ e st', f26_Q r e st' → Q e st')  (hS : f26_j0 a1 a2 a3 a4 a5 a6 a7 = some r) {st : St} (he : keepSt [0, 1] [(0, .id 0), (1, .id 1)] [] st = f26_j0_J a1 a2 a3 a4 a5 a6 a7) : ZR (lev codes baseL (d - 1)) Q c26_4 [] st := by
  refine zrKeep he ?_
  unfold f26_j0 at hS
  refine zrSeq ?_
  refine zrSeq ?_
  refine zrReg ?_
  refine zlRun (n := 5) (j := 5) rfl (by kernel_rfl) ?_
  refine zlEnd (by kernel_rfl) ?_
  refine zkSeq ?_
  refine zrBlk ?_
  refine zrSeq ?_
  refine zrSeq ?_
  refine zrReg ?_
  refine zlBool (d := 17) (op := (.cmpI .eql (.tmp 15) (.const (.int .i64 7)))) (g := none) (j := 1) (decide (a2 = 7)) rfl (by kernel_rfl) (by kernel_rfl) (by kernel_rfl) (fun hc => ?_) (fun hc => ?_)
  · replace hS := cond_t hc hS
    refine zlRun (n := 1) (j := 2) rfl (by kernel_rfl) ?_
    refine zlEnd (by kernel_rfl) ?_
    refine zkSeq ?_
    refine zrCondT (by kernel_rfl) ?_
    refine zrSkip ?_
    refine zkSeq ?_
    exact f26_j2_ok hd a1 a2 a3 a4 a5 a6 a7 hQ true hS (by kernel_rfl)
  · replace hS := cond_f hc hS
    refine zlRun (n := 1) (j := 2) rfl (by kernel_rfl) ?_
    refine zlEnd (by kernel_rfl) ?_
    refine zkSeq ?_
    refine zrCondF (by kernel_rfl) ?_
    refine zrReg ?_
    refine zlBool (d := 18) (op := (.cmpI .eql (.tmp 15) (.const (.int .i64 9)))) (g := none) (j := 1) (decide (a2 = 9)) rfl (by kernel_rfl) (by kernel_rfl) (by kernel_rfl) (fun hc => ?_) (fun hc => ?_)
    · replace hS := cond_t hc hS
      refine zlRun (n := 1) (j := 2) rfl (by kernel_rfl) ?_
      refine zlEnd (by kernel_rfl) ?_
      refine zkSeq ?_
      exact f26_j2_ok hd a1 a2 a3 a4 a5 a6 a7 hQ true hS (by kernel_rfl)
    · replace hS := cond_f hc hS
      refine zlRun (n := 1) (j := 2) rfl (by kernel_rfl) ?_
      refine zlEnd (by kernel_rfl) ?_
      refine zkSeq ?_
      exact f26_j2_ok hd a1 a2 a3 a4 a5 a6 a7 hQ false hS (by kernel_rfl)
noncomputable def f26 (a1 : Int) (a2 : Int) (a3 : Int) (a4 : List UInt8) (a5 : List UInt8) (a6 : List UInt8) (a7 : List GAct) : Option (Int × Int × (List UInt8) × (List UInt8) × (List UInt8) × (List GAct)) := (bif (decide (a1 < 0)) then (some (a2, a3, a4, a5, a6, a7)) else (bif (decide (1114111 < a1)) then (some (a2, a3, a4, a5, a6, a7)) else (f26_j0 a1 a2 a3 a4 a5 a6 a7 )))
theorem f26_ok (d : Nat) (hd : 5 ≤ d) (a1 : Int) (a2 : Int) (a3 : Int) (a4 : List UInt8) (a5 : List UInt8) (a6 : List UInt8) (a7 : List GAct) (r : Int × Int × (List UInt8) × (List UInt8) × (List UInt8) × (List GAct)) (hS : f26 a1 a2 a3 a4 a5 a6 a7 = some r) : lev codes baseL d 26 [(.r (.ptr 0 0 0)), (.d (.int .i64 a1))] [(.box ((.d (.int .i64 a2)) :: ((.d (.int .i64 a3)) :: ((.d (.str a4)) :: ((.d (.str a5)) :: ((.d (.str a6)) :: ((.r (.msl 1 0 0 a7.length)) :: []))))))), (.own 31 6 (e_GAct.cells a7))] = some ((.tup []), [(.box ((.d (.int .i64 r.1)) :: ((.d (.int .i64 r.2.1)) :: ((.d (.str r.2.2.1)) :: ((.d (.str r.2.2.2.1)) :: ((.d (.str r.2.2.2.2.1)) :: ((.r (.msl 1 0 0 r.2.2.2.2.2.length)) :: []))))))), (.own 31 6 (e_GAct.cells r.2.2.2.2.2))]) := by
  refine lev_go codes26 rfl rfl (Nat.le_trans (Nat.le_of_ble_eq_true rfl) hd) fun Q hQ => ?_
  unfold f26 at hS
  show ZR _ Q c26_b [] _
  replace hQ : ∀ e st', f26_Q r e st' → Q e st' := hQ
  refine zrSeq ?_
  refine zrSeq ?_
  refine zrReg ?_
  refine zlRun (n := 1) (j := 1) rfl (by kernel_rfl) ?_
  refine zlBool (d := 6) (op := (.cmpI .lss (.tmp 5) (.const (.int .i64 0)))) (g := none) (j := 2) (decide (a1 < 0)) rfl (by kernel_rfl) (by kernel_rfl) (by kernel_rfl) (fun hc => ?_) (fun hc => ?_)
  · replace hS := cond_t hc hS
    refine zlRun (n := 4) (j := 6) rfl (by kernel_rfl) ?_
    refine zlEnd (by kernel_rfl) ?_
    refine zkSeq ?_
    refine zrCondT (by kernel_rfl) ?_
    refine zrRet ?_
    refine zkSeqR ?_
    refine zkNil ?_
    exact endQ hS hQ (fRet ((congrArg (fun s => outR s 2 c26.res) (by kernel_rfl : finSt c26.fin _ = f26_fin a2 a3 a4 a5 a6 a7)).trans (f26_out a2 a3 a4 a5 a6 a7)))
  · replace hS := cond_f hc hS
    refine zlRun (n := 2) (j := 4) rfl (by kernel_rfl) ?_
    refine zlBool (d := 9) (op := (.cmpI .gtr (.tmp 8) (.const (.int .i64 1114111)))) (g := (some (7, false))) (j := 5) (decide (1114111 < a1)) rfl (by kernel_rfl) (by kernel_rfl) (by kernel_rfl) (fun hc => ?_) (fun hc => ?_)
    · replace hS := cond_t hc hS
      refine zlRun (n := 1) (j := 6) rfl (by kernel_rfl) ?_
      refine zlEnd (by kernel_rfl) ?_
      refine zkSeq ?_
      refine zrCondT (by kernel_rfl) ?_
      refine zrRet ?_
      refine zkSeqR ?_
      refine zkNil ?_
      exact endQ hS hQ (fRet ((congrArg (fun s => outR s 2 c26.res) (by kernel_rfl : finSt c26.fin _ = f26_fin a2 a3 a4 a5 a6 a7)).trans (f26_out a2 a3 a4 a5 a6 a7)))
    · replace hS := cond_f hc hS
      refine zlRun (n := 1) (j := 6) rfl (by kernel_rfl) ?_
      refine zlEnd (by kernel_rfl) ?_
      refine zkSeq ?_
      refine zrCondF (by kernel_rfl) ?_
      refine zrSkip ?_
      refine zkSeq ?_
      exact f26_j0_ok hd a1 a2 a3 a4 a5 a6 a7 hQ  hS (by kernel_rfl)
/- farwriter/parse.Feed -/
def f11_fin (p42 : GParser) (p43 : List GAct) (p44 : Int) : St := ⟨(up (up (up (fun _ => .un) 6 (.d (.int .i64 p44))) 5 (.r (.msl 338 0 0 p43.length))) 4 (.r (.ptr 40 0 0))), (up (up (hB fun _ => 0) 338 ⟨0, some (.own 31 6 (e_GAct.cells p43))⟩) 40 ⟨0, some (.box ((.d (.int .i64 p42.State)) :: ((.d (.int .i64 p42.Mark)) :: ((.d (.str p42.Inter)) :: ((.d (.str p42.Args)) :: ((.d (.str p42.Text)) :: []))))))⟩)⟩
theorem f11_out (p42 : GParser) (p43 : List GAct) (p44 : Int) : outR (f11_fin p42 p43 p44) 0 c11.res = some ((.tup [(.agg ((.d (.int .i64 p42.State)) :: ((.d (.int .i64 p42.Mark)) :: ((.d (.str p42.Inter)) :: ((.d (.str p42.Args)) :: ((.d (.str p42.Text)) :: [])))))), (.r (.own 0 31 6 p43.length (e_GAct.cells p43))), (.d (.int .i64 p44))]), []) := by
  exact out_of (ids := []) (ids' := [338]) (l := [(.agg ((.d (.int .i64 p42.State)) :: ((.d (.int .i64 p42.Mark)) :: ((.d (.str p42.Inter)) :: ((.d (.str p42.Args)) :: ((.d (.str p42.Text)) :: [])))))), (.r (.msl 338 0 0 p43.length)), (.d (.int .i64 p44))]) (by kernel_rfl) (by kernel_rfl) (o_tup (o_cons rfl (o_cons (o_own e_GAct (e := 31) (k := 6) (xs := p43) (by kernel_rfl) rfl rfl rfl rfl) (o_cons rfl o_nil))))
def f11_Q (r : GParser × (List GAct) × Int) (e : PX) (st : St) : Prop := DoneF c11 0 ((.tup [(.agg ((.d (.int .i64 r.1.State)) :: ((.d (.int .i64 r.1.Mark)) :: ((.d (.str r.1.Inter)) :: ((.d (.str r.1.Args)) :: ((.d (.str r.1.Text)) :: [])))))), (.r (.own 0 31 6 r.2.1.length (e_GAct.cells r.2.1))), (.d (.int .i64 r.2.2))]), []) e st
def f11_j1_J (a1 : GParser) (a2 : List Int) (p47 : Int) (p48 : Int) (p49 : List UInt8) (p50 : List UInt8) (p51 : List UInt8) (p52 : List GAct) : St := ⟨(up (up (fun _ => .un) 8 (.r (.ptr 160 0 0))) 4 (.r (.ptr 40 0 0))), (up (up (up (hB fun _ => 0) 337 ⟨0, some (.own 31 6 (e_GAct.cells p52))⟩) 160 ⟨0, some (.box ((.d (.int .i64 p47)) :: ((.d (.int .i64 p48)) :: ((.d (.str p49)) :: ((.d (.str p50)) :: ((.d (.str p51)) :: ((.r (.msl 337 0 0 p52.length)) :: [])))))))⟩) 40 ⟨0, some (.box ((.d (.int .i64 0)) :: ((.d (.int .i64 0)) :: ((.d (.str ([]))) :: ((.d (.str ([]))) :: ((.d (.str ([]))) :: []))))))⟩)⟩
noncomputable def f11_j1 (a1 : GParser) (a2 : List Int) (p47 : Int) (p48 : Int) (p49 : List UInt8) (p50 : List UInt8) (p51 : List UInt8) (p52 : List GAct) : Option (GParser × (List GAct) × Int) := (some ((GParser.mk p47 p48 p49 p50 p51), p52, 0))
theorem f11_j1_ok {d : Nat} (hd : 6 ≤ d) (a1 : GParser) (a2 : List Int) {r : GParser × (List GAct) × Int} {Q : PX → St → Prop} (hQ : ∀ e st', f11_Q r e st' → Q e st') (p47 : Int) (p48 : Int) (p49 : List UInt8) (p50 : List UInt8) (p51 : List UInt8) (p52 : List GAct) (hS : f11_j1 a1 a2 p47 p48 p49 p50 p51 p52 = some r) {st : St} (he : keepSt [4, 8] [(40, .id 40), (160, .id 160), (337, .id 337)] [] st = f11_j1_J a1 a2 p47 p48 p49 p50 p51 p52) : ZR (lev codes baseL (d - 1)) Q c11_1 [] st := by
  refine zrKeep he ?_
  unfold f11_j1 at hS
  refine zrSeq ?_
  refine zrRegD ?_
  refine zdRun (n := 11) (j := 11) (ts := [[], [], [], [(160, false)], [], [], [], [(160, false)], [(40, true)], [], []]) (acc' := [[], [], [], [(160, false)], [], [], [], [(160, false)], [(40, true)], [], []]) rfl (by kernel_rfl) (by kernel_rfl) (by kernel_rfl) ?_
  refine zdEnd (by kernel_rfl) (by kernel_rfl) ?_
  refine zkSeq ?_
  refine zrRet ?_
  refine zkNil ?_
  exact endQ hS hQ (fRet ((congrArg (fun s => outR s 0 c11.res) (by kernel_rfl : finSt c11.fin _ = f11_fin (GParser.mk p47 p48 p49 p50 p51) p52 0)).trans (f11_out (GParser.mk p47 p48 p49 p50 p51) p52 0)))
def f11_l2_J (a1 : GParser) (a2 : List Int) (x : Int × Int × (List UInt8) × (List UInt8) × (List UInt8) × (List GAct) × Int) : St := ⟨(up (up (up (up (up (fun _ => .un) 22 (.d (.int .i64 x.2.2.2.2.2.2))) 21 (.d (.int .i64 (a2.length : Int)))) 20 (.d (.sl a2.length ((eInt .i64).cells a2)))) 8 (.r (.ptr 160 0 0))) 4 (.r (.ptr 40 0 0))), (up (up (up (hB fun _ => 0) 337 ⟨0, some (.own 31 6 (e_GAct.cells x.2.2.2.2.2.1))⟩) 160 ⟨0, some (.box ((.d (.int .i64 x.1)) :: ((.d (.int .i64 x.2.1)) :: ((.d (.str x.2.2.1)) :: ((.d (.str x.2.2.2.1)) :: ((.d (.str x.2.2.2.2.1)) :: ((.r (.msl 337 0 0 x.2.2.2.2.2.1.length)) :: [])))))))⟩) 40 ⟨0, some (.box ((.d (.int .i64 0)) :: ((.d (.int .i64 0)) :: ((.d (.str ([]))) :: ((.d (.str ([]))) :: ((.d (.str ([]))) :: []))))))⟩)⟩
def f11_l2_H (a1 : GParser) (a2 : List Int) (x : Int × Int × (List UInt8) × (List UInt8) × (List UInt8) × (List GAct) × Int) (st : St) : Prop := keepSt [4, 8, 20, 21, 22] [(40, .id 40), (160, .id 160), (337, (.cell 160 5))] [.cell 160 5 337 31 6] st = f11_l2_J a1 a2 x
def f11_l2_e0_J (a1 : GParser) (a2 : List Int) (p36 : Int) (p37 : Int) (p38 : List UInt8) (p39 : List UInt8) (p40 : List UInt8) (p41 : List GAct) : St := ⟨(up (up (fun _ => .un) 8 (.r (.ptr 160 0 0))) 4 (.r (.ptr 40 0 0))), (up (up (up (hB fun _ => 0) 337 ⟨0, some (.own 31 6 (e_GAct.cells p41))⟩) 160 ⟨0, some (.box ((.d (.int .i64 p36)) :: ((.d (.int .i64 p37)) :: ((.d (.str p38)) :: ((.d (.str p39)) :: ((.d (.str p40)) :: ((.r (.msl 337 0 0 p41.length)) :: [])))))))⟩) 40 ⟨0, some (.box ((.d (.int .i64 0)) :: ((.d (.int .i64 0)) :: ((.d (.str ([]))) :: ((.d (.str ([]))) :: ((.d (.str ([]))) :: []))))))⟩)⟩
def f11_l2_X (a1 : GParser) (a2 : List Int) (z : (Int × Int × (List UInt8) × (List UInt8) × (List UInt8) × (List GAct))) (e : PX) (st : St) : Prop := e = .exit 0 ∧ st = f11_l2_e0_J a1 a2 z.1 z.2.1 z.2.2.1 z.2.2.2.1 z.2.2.2.2.1 z.2.2.2.2.2
def f11_l2_j4_J (a1 : GParser) (a2 : List Int) (p69 : Int) (p70 : Int) (p71 : List UInt8) (p72 : List UInt8) (p73 : List UInt8) (p74 : List GAct) (p75 : Int) : St := ⟨(up (up (up (up (up (fun _ => .un) 22 (.d (.int .i64 p75))) 21 (.d (.int .i64 (a2.length : Int)))) 20 (.d (.sl a2.length ((eInt .i64).cells a2)))) 8 (.r (.ptr 160 0 0))) 4 (.r (.ptr 40 0 0))), (up (up (up (hB fun _ => 0) 337 ⟨0, some (.own 31 6 (e_GAct.cells p74))⟩) 160 ⟨0, some (.box ((.d (.int .i64 p69)) :: ((.d (.int .i64 p70)) :: ((.d (.str p71)) :: ((.d (.str p72)) :: ((.d (.str p73)) :: ((.r (.msl 337 0 0 p74.length)) :: [])))))))⟩) 40 ⟨0, some (.box ((.d (.int .i64 0)) :: ((.d (.int .i64 0)) :: ((.d (.str ([]))) :: ((.d (.str ([]))) :: ((.d (.str ([]))) :: []))))))⟩)⟩
noncomputable def f11_l2_j4 (a1 : GParser) (a2 : List Int) (p69 : Int) (p70 : Int) (p71 : List UInt8) (p72 : List UInt8) (p73 : List UInt8) (p74 : List GAct) (p75 : Int) : Option ((Int × Int × (List UInt8) × (List UInt8) × (List UInt8) × (List GAct) × Int) ⊕ ((Int × Int × (List UInt8) × (List UInt8) × (List UInt8) × (List GAct)))) := ((idx a2 p75).bind fun z9 => ((f26 z9 p69 p70 p71 p72 p73 p74).bind fun z10 => (some (.inl (z10.1, z10.2.1, z10.2.2.1, z10.2.2.2.1, z10.2.2.2.2.1, z10.2.2.2.2.2, (IntKind.i64.wrap (p75 + 1)))))))
theorem f11_l2_j4_ok {d : Nat} (hd : 6 ≤ d) (a1 : GParser) (a2 : List Int) {r : (Int × Int × (List UInt8) × (List UInt8) × (List UInt8) × (List GAct) × Int) ⊕ ((Int × Int × (List UInt8) × (List UInt8) × (List UInt8) × (List GAct)))} {Q : PX → St → Prop} (hQ : ∀ e st', finL (f11_l2_H a1 a2) (f11_l2_X a1 a2) r e st' → Q e st') (p69 : Int) (p70 : Int) (p71 : List UInt8) (p72 : List UInt8) (p73 : List UInt8) (p74 : List GAct) (p75 : Int) (hS : f11_l2_j4 a1 a2 p69 p70 p71 p72 p73 p74 p75 = some r) {st : St} (he : keepSt [4, 8, 20, 21, 22] [(40, .id 40), (160, .id 160), (337, .id 337)] [] st = f11_l2_j4_J a1 a2 p69 p70 p71 p72 p73 p74 p75) : ZR (lev codes baseL (d - 1)) Q c11_2 [] st := by
  refine zrKeep he ?_
  unfold f11_l2_j4 at hS
  refine zrSeq ?_
  refine zrBlk ?_
  refine zrSeq ?_
  refine zrReg ?_
  refine bindE hS (fun z9 hz9 hS => ?_)
  refine zlOp (d := some 24) (op := (.ixS 3 1 (.tmp 20) (.tmp 22))) (g := none) (v := (.rptr ((eInt .i64).enc z9 ++ ((eInt .i64).cells (a2.drop ((p75 : Int).toNat + 1)))))) (ups := []) (j := 1) rfl (by kernel_rfl) (by kernel_rfl) (ev_ixS (eInt .i64) (kk := .i64) (xs := a2) (j := p75) (by kernel_rfl) (by kernel_rfl) hz9 rfl (by intro h; cases h)) ?_
  refine zlRun (n := 2) (j := 3) rfl (by kernel_rfl) ?_
  refine zlEnd (by kernel_rfl) ?_
  refine zkSeq ?_
  refine zrReg ?_
  refine zlRun (n := 2) (j := 2) rfl (by kernel_rfl) ?_
  refine bindE hS (fun z10 hz10 hS => ?_)
  refine zlOp (d := some 28) (op := (.callr 26 [(.tmp 26), (.tmp 27)])) (g := none) (v := (.tup [])) (ups := [(160, ⟨0, some (.box ((.d (.int .i64 z10.1)) :: ((.d (.int .i64 z10.2.1)) :: ((.d (.str z10.2.2.1)) :: ((.d (.str z10.2.2.2.1)) :: ((.d (.str z10.2.2.2.2.1)) :: ((.r (.msl 337 1 0 z10.2.2.2.2.2.length)) :: [])))))))⟩), (337, ⟨1, some (.own 31 6 (e_GAct.cells z10.2.2.2.2.2))⟩)]) (j := 3) rfl (by kernel_rfl) (by kernel_rfl) (ev_callr (args := [(.r (.ptr 160 0 0)), (.d (.int .i64 z9))]) (ids := [160, 337]) (bs := [(.box ((.d (.int .i64 p69)) :: ((.d (.int .i64 p70)) :: ((.d (.str p71)) :: ((.d (.str p72)) :: ((.d (.str p73)) :: ((.r (.msl 337 0 0 p74.length)) :: []))))))), (.own 31 6 (e_GAct.cells p74))]) (l := [(.r (.ptr 0 0 0)), (.d (.int .i64 z9))]) (bt := [(.box ((.d (.int .i64 p69)) :: ((.d (.int .i64 p70)) :: ((.d (.str p71)) :: ((.d (.str p72)) :: ((.d (.str p73)) :: ((.r (.msl 1 0 0 p74.length)) :: []))))))), (.own 31 6 (e_GAct.cells p74))]) (r := (.tup [])) (bs' := [(.box ((.d (.int .i64 z10.1)) :: ((.d (.int .i64 z10.2.1)) :: ((.d (.str z10.2.2.1)) :: ((.d (.str z10.2.2.2.1)) :: ((.d (.str z10.2.2.2.2.1)) :: ((.r (.msl 1 0 0 z10.2.2.2.2.2.length)) :: []))))))), (.own 31 6 (e_GAct.cells z10.2.2.2.2.2))]) (by kernel_rfl) (by kernel_rfl) (by kernel_rfl) (by kernel_rfl) (by kernel_rfl) (f26_ok (d - 1) (dpt hd rfl) z9 p69 p70 p71 p72 p73 p74 z10 hz10) (by kernel_rfl) (by kernel_rfl)) ?_
  refine zlEnd (by kernel_rfl) ?_
  refine zkBlk ?_
  refine zkSeq ?_
  refine zrReg ?_
  refine zlRun (n := 2) (j := 2) rfl (by kernel_rfl) ?_
  refine zlEnd (by kernel_rfl) ?_
  refine zkNil ?_
  exact endQ hS hQ (finL_n (by show keepSt _ _ _ _ = _; kernel_rfl))
def f11_l2_j3_J (a1 : GParser) (a2 : List Int) (p61 : Int) (p62 : Int) (p63 : List UInt8) (p64 : List UInt8) (p65 : List UInt8) (p66 : List GAct) (p67 : Int) (p68 : Bool) : St := ⟨(up (up (up (up (up (up (fun _ => .un) 23 (.d (.bool p68))) 22 (.d (.int .i64 p67))) 21 (.d (.int .i64 (a2.length : Int)))) 20 (.d (.sl a2.length ((eInt .i64).cells a2)))) 8 (.r (.ptr 160 0 0))) 4 (.r (.ptr 40 0 0))), (up (up (up (hB fun _ => 0) 337 ⟨0, some (.own 31 6 (e_GAct.cells p66))⟩) 160 ⟨0, some (.box ((.d (.int .i64 p61)) :: ((.d (.int .i64 p62)) :: ((.d (.str p63)) :: ((.d (.str p64)) :: ((.d (.str p65)) :: ((.r (.msl 337 0 0 p66.length)) :: [])))))))⟩) 40 ⟨0, some (.box ((.d (.int .i64 0)) :: ((.d (.int .i64 0)) :: ((.d (.str ([]))) :: ((.d (.str ([]))) :: ((.d (.str ([]))) :: []))))))⟩)⟩
noncomputable def f11_l2_j3 (a1 : GParser) (a2 : List Int) (p61 : Int) (p62 : Int) (p63 : List UInt8) (p64 : List UInt8) (p65 : List UInt8) (p66 : List GAct) (p67 : Int) (p68 : Bool) : Option ((Int × Int × (List UInt8) × (List UInt8) × (List UInt8) × (List GAct) × Int) ⊕ ((Int × Int × (List UInt8) × (List UInt8) × (List UInt8) × (List GAct)))) := (bif p68 then (f11_l2_j4 a1 a2 p61 p62 p63 p64 p65 p66 p67) else (some (.inr (p61, p62, p63, p64, p65, p66))))
theorem f11_l2_j3_ok {d : Nat} (hd : 6 ≤ d) (a1 : GParser) (a2 : List Int) {r : (Int × Int × (List UInt8) × (List UInt8) × (List UInt8) × (List GAct) × Int) ⊕ ((Int × Int × (List UInt8) × (List UInt8) × (List UInt8) × (List GAct)))} {Q : PX → St → Prop} (hQ : ∀ e st', finL (f11_l2_H a1 a2) (f11_l2_X a1 a2) r e st' → Q e st') (p61 : Int) (p62 : Int) (p63 : List UInt8) (p64 : List UInt8) (p65 : List UInt8) (p66 : List GAct) (p67 : Int) (p68 : Bool) (hS : f11_l2_j3 a1 a2 p61 p62 p63 p64 p65 p66 p67 p68 = some r) {st : St} (he : keepSt [4, 8, 20, 21, 22, 23] [(40, .id 40), (160, .id 160), (337, .id 337)] [] st = f11_l2_j3_J a1 a2 p61 p62 p63 p64 p65 p66 p67 p68) : ZR (lev codes baseL (d - 1)) Q c11_3 [] st := by
  refine zrKeep he ?_
  unfold f11_l2_j3 at hS
  refine zrSeq ?_
  refine zrSplit 23 p68 (by kernel_rfl) (fun hc => ?_) (fun hc => ?_)
  · replace hS := cond_t hc hS
    refine zrCondT (by kernel_rfl) ?_
    refine zrSkip ?_
    refine zkSeq ?_
    exact f11_l2_j4_ok hd a1 a2 hQ p61 p62 p63 p64 p65 p66 p67 hS (by kernel_rfl)
  · replace hS := cond_f hc hS
    refine zrCondF (by kernel_rfl) ?_
    refine zrKeep (J := f11_l2_e0_J a1 a2 p61 p62 p63 p64 p65 p66) (by kernel_rfl) ?_
    refine zrExit ?_
    refine zkSeqX ?_
    refine zkNil ?_
    exact endQ hS hQ (finL_x (by intro h; cases h) (by show _ = _ ∧ _ = _; exact ⟨rfl, rfl⟩))
noncomputable def f11_l2 (a1 : GParser) (a2 : List Int) (x : Int × Int × (List UInt8) × (List UInt8) × (List UInt8) × (List GAct) × Int) : Option ((Int × Int × (List UInt8) × (List UInt8) × (List UInt8) × (List GAct) × Int) ⊕ ((Int × Int × (List UInt8) × (List UInt8) × (List UInt8) × (List GAct)))) := (bif (decide (x.2.2.2.2.2.2 < (a2.length : Int))) then (f11_l2_j3 a1 a2 x.1 x.2.1 x.2.2.1 x.2.2.2.1 x.2.2.2.2.1 x.2.2.2.2.2.1 x.2.2.2.2.2.2 true) else (f11_l2_j3 a1 a2 x.1 x.2.1 x.2.2.1 x.2.2.2.1 x.2.2.2.2.1 x.2.2.2.2.2.1 x.2.2.2.2.2.2 false))
theorem f11_l2_ok {d : Nat} (hd : 6 ≤ d) (a1 : GParser) (a2 : List Int) {r : (Int × Int × (List UInt8) × (List UInt8) × (List UInt8) × (List GAct) × Int) ⊕ ((Int × Int × (List UInt8) × (List UInt8) × (List UInt8) × (List GAct)))} {Q : PX → St → Prop} (hQ : ∀ e st', finL (f11_l2_H a1 a2) (f11_l2_X a1 a2) r e st' → Q e st') {x : Int × Int × (List UInt8) × (List UInt8) × (List UInt8) × (List GAct) × Int} (hS : f11_l2 a1 a2 x = some r) {st : St} (he : f11_l2_H a1 a2 x st) : ZR (lev codes baseL (d - 1)) Q c11_4 [] st := by
  refine zrKeep he ?_
  unfold f11_l2 at hS
  refine zrSeq ?_
  refine zrReg ?_
  refine zlBool (d := 23) (op := (.cmpI .lss (.tmp 22) (.tmp 21))) (g := none) (j := 1) (decide (x.2.2.2.2.2.2 < (a2.length : Int))) rfl (by kernel_rfl) (by kernel_rfl) (by kernel_rfl) (fun hc => ?_) (fun hc => ?_)
  · replace hS := cond_t hc hS
    refine zlEnd (by kernel_rfl) ?_
    refine zkSeq ?_
    exact f11_l2_j3_ok hd a1 a2 hQ x.1 x.2.1 x.2.2.1 x.2.2.2.1 x.2.2.2.2.1 x.2.2.2.2.2.1 x.2.2.2.2.2.2 true hS (by kernel_rfl)
  · replace hS := cond_f hc hS
    refine zlEnd (by kernel_rfl) ?_
    refine zkSeq ?_
    exact f11_l2_j3_ok hd a1 a2 hQ x.1 x.2.1 x.2.2.1 x.2.2.2.1 x.2.2.2.2.1 x.2.2.2.2.2.1 x.2.2.2.2.2.2 false hS (by kernel_rfl)
def f11_j0_J (a1 : GParser) (a2 : List Int) : St := ⟨(up (up (up (fun _ => .un) 4 (.r (.ptr 40 0 0))) 2 (.r (.ptr 24 0 0))) 1 (.d (.sl a2.length ((eInt .i64).cells a2)))), (up (up (hB fun _ => 0) 40 ⟨0, some (.box ((.d (.int .i64 0)) :: ((.d (.int .i64 0)) :: ((.d (.str ([]))) :: ((.d (.str ([]))) :: ((.d (.str ([]))) :: []))))))⟩) 24 ⟨0, some (.box ((.d (.int .i64 a1.State)) :: ((.d (.int .i64 a1.Mark)) :: ((.d (.str a1.Inter)) :: ((.d (.str a1.Args)) :: ((.d (.str a1.Text)) :: []))))))⟩)⟩
noncomputable def f11_j0 (a1 : GParser) (a2 : List Int) : Option (GParser × (List GAct) × Int) := ((loopO (f11_l2 a1 a2) (a1.State, a1.Mark, a1.Inter, a1.Args, a1.Text, [], 0)).bind fun z11 => (f11_j1 a1 a2 z11.1 z11.2.1 z11.2.2.1 z11.2.2.2.1 z11.2.2.2.2.1 z11.2.2.2.2.2))
theorem f11_j0_ok {d : Nat} (hd : 6 ≤ d) (a1 : GParser) (a2 : List Int) {r : GParser × (List GAct) × Int} {Q : PX → St → Prop} (hQ : ∀ e st', f11_Q r e st' → Q e st')  (hS : f11_j0 a1 a2 = some r) {st : St} (he : keepSt [1, 2, 4] [(24, .id 24), (40, .id 40)] [] st = f11_j0_J a1 a2) : ZR (lev codes baseL (d - 1)) Q c11_5 [] st := by
  refine zrKeep he ?_
  unfold f11_j0 at hS
  refine zrSeq ?_
  refine zrReg ?_
  refine zlRun (n := 4) (j := 4) rfl (by kernel_rfl) ?_
  refine zlEnd (by kernel_rfl) ?_
  refine zkSeq ?_
  refine zrSeq ?_
  refine zrSeq ?_
  refine zrReg ?_
  refine zlRun (n := 3) (j := 3) rfl (by kernel_rfl) ?_
  refine zlEnd (by kernel_rfl) ?_
  refine zkSeq ?_
  refine zrBlk ?_
  refine bindE hS (fun z11 hz11 hS => ?_)
  refine zrLoop (f11_l2_H a1 a2) (f11_l2_X a1 a2) (fun x st r Q h0 hS hQ => f11_l2_ok hd a1 a2 hQ hS h0) (x := (a1.State, a1.Mark, a1.Inter, a1.Args, a1.Text, [], 0)) (z := z11) (by show keepSt _ _ _ _ = _; kernel_rfl) hz11 ?_
  intro e st' _ hX
  obtain ⟨rfl, rfl⟩ : _ ∧ _ := hX
  refine zkBlkX ?_
  refine zkSeq ?_
  exact f11_j1_ok hd a1 a2 hQ z11.1 z11.2.1 z11.2.2.1 z11.2.2.2.1 z11.2.2.2.2.1 z11.2.2.2.2.2 hS (by kernel_rfl)
noncomputable def f11 (a1 : GParser) (a2 : List Int) : Option (GParser × (List GAct) × Int) := ((f15 a1).bind fun z12 => (bif (!decide (z12 = 0)) then (some (a1, [], z12)) else (f11_j0 a1 a2 )))
theorem f11_ok (d : Nat) (hd : 6 ≤ d) (a1 : GParser) (a2 : List Int) (r : GParser × (List GAct) × Int) (hS : f11 a1 a2 = some r) : lev codes baseL d 11 [(.agg ((.d (.int .i64 a1.State)) :: ((.d (.int .i64 a1.Mark)) :: ((.d (.str a1.Inter)) :: ((.d (.str a1.Args)) :: ((.d (.str a1.Text)) :: [])))))), (.d (.sl a2.length ((eInt .i64).cells a2)))] [] = some ((.tup [(.agg ((.d (.int .i64 r.1.State)) :: ((.d (.int .i64 r.1.Mark)) :: ((.d (.str r.1.Inter)) :: ((.d (.str r.1.Args)) :: ((.d (.str r.1.Text)) :: [])))))), (.r (.own 0 31 6 r.2.1.length (e_GAct.cells r.2.1))), (.d (.int .i64 r.2.2))]), []) := by
  refine lev_go codes11 rfl rfl (Nat.le_trans (Nat.le_of_ble_eq_true rfl) hd) fun Q hQ => ?_
  unfold f11 at hS
  show ZR _ Q c11_b [] _
  replace hQ : ∀ e st', f11_Q r e st' → Q e st' := hQ
  refine zrSeq ?_
  refine zrReg ?_
  refine zlRun (n := 4) (j := 4) rfl (by kernel_rfl) ?_
  refine zlEnd (by kernel_rfl) ?_
  refine zkSeq ?_
  refine zrSeq ?_
  refine zrSeq ?_
  refine zrReg ?_
  refine zlRun (n := 1) (j := 1) rfl (by kernel_rfl) ?_
  refine bindE hS (fun z12 hz12 hS => ?_)
  refine zlOp (d := some 12) (op := (.call 15 [(.tmp 11)])) (g := none) (v := (.d (.int .i64 z12))) (ups := []) (j := 2) rfl (by kernel_rfl) (by kernel_rfl) (ev_call (args := [(.agg ((.d (.int .i64 a1.State)) :: ((.d (.int .i64 a1.Mark)) :: ((.d (.str a1.Inter)) :: ((.d (.str a1.Args)) :: ((.d (.str a1.Text)) :: []))))))]) (l := [(.agg ((.d (.int .i64 a1.State)) :: ((.d (.int .i64 a1.Mark)) :: ((.d (.str a1.Inter)) :: ((.d (.str a1.Args)) :: ((.d (.str a1.Text)) :: []))))))]) (r := (.d (.int .i64 z12))) (by kernel_rfl) (by kernel_rfl) (f15_ok (d - 1) (dpt hd rfl) a1 z12 hz12) (by kernel_rfl) (by kernel_rfl) (by kernel_rfl)) ?_
  refine zlRun (n := 1) (j := 3) rfl (by kernel_rfl) ?_
  refine zlEnd (by kernel_rfl) ?_
  refine zkSeq ?_
  refine zrSeq ?_
  refine zrReg ?_
  refine zlRun (n := 1) (j := 1) rfl (by kernel_rfl) ?_
  refine zlBool (d := 14) (op := (.cmpI .neq (.tmp 13) (.const (.int .i64 0)))) (g := none) (j := 2) (!decide (z12 = 0)) rfl (by kernel_rfl) (by kernel_rfl) (by kernel_rfl) (fun hc => ?_) (fun hc => ?_)
  · replace hS := cond_t hc hS
    refine zlEnd (by kernel_rfl) ?_
    refine zkSeq ?_
    refine zrCondT (by kernel_rfl) ?_
    refine zrSeq ?_
    refine zrReg ?_
    refine zlRun (n := 5) (j := 5) rfl (by kernel_rfl) ?_
    refine zlEnd (by kernel_rfl) ?_
    refine zkSeq ?_
    refine zrRet ?_
    refine zkSeqR ?_
    refine zkNil ?_
    exact endQ hS hQ (fRet ((congrArg (fun s => outR s 0 c11.res) (by kernel_rfl : finSt c11.fin _ = f11_fin a1 [] z12)).trans (f11_out a1 [] z12)))
  · replace hS := cond_f hc hS
    refine zlEnd (by kernel_rfl) ?_
    refine zkSeq ?_
    refine zrCondF (by kernel_rfl) ?_
    refine zrSkip ?_
    refine zkSeq ?_
    exact f11_j0_ok hd a1 a2 hQ  hS (by kernel_rfl)
/- farwriter/farkeep.PressSafe -/
def f9_fin (p383 : Bool) : St := ⟨(up (fun _ => .un) 4 (.d (.bool p383))), (hB fun _ => 0)⟩
theorem f9_out (p383 : Bool) : outR (f9_fin p383) 0 c9.res = some ((.d (.bool p383)), []) := by
  kernel_rfl
def f9_Q (r : Bool) (e : PX) (st : St) : Prop := DoneF c9 0 ((.d (.bool r)), []) e st
def f9_j2_J (a1 : List Int) (a2 : Int) (p763 : List UInt8) (p764 : List UInt8) (p765 : List UInt8) (p766 : List Int) (p767 : List GAct) : St := ⟨(up (up (up (up (up (fun _ => .un) 13 (.r (.msl 472 0 0 p767.length))) 10 (.d (.sl p766.length ((eInt .i64).cells p766)))) 9 (.d (.str p765))) 7 (.d (.str p764))) 5 (.d (.str p763))), (up (hB fun _ => 0) 472 ⟨0, some (.own 31 6 (e_GAct.cells p767))⟩)⟩
noncomputable def f9_j2 (a1 : List Int) (a2 : Int) (p763 : List UInt8) (p764 : List UInt8) (p765 : List UInt8) (p766 : List Int) (p767 : List GAct) : Option (Bool) := ((f23 p766 0).bind fun z28 => (bif (decide (p765 = ([] : List UInt8))) then (bif (decide ((p767.length : Int) = (p766.length : Int))) then ((cat? ([27, 91, 50, 48, 48, 126] : List UInt8) p763).bind fun z29 => ((cat? z29 ([27, 91, 50, 48, 49, 126] : List UInt8)).bind fun z30 => (bif (decide (p764 = z30)) then (bif (decide (z28.2 = 0)) then (bif (decide (z28.1 = p763)) then (some true) else (some false)) else (some false)) else (some false)))) else (some false)) else (some false)))
theorem f9_j2_ok {d : Nat} (hd : 8 ≤ d) (a1 : List Int) (a2 : Int) {r : Bool} {Q : PX → St → Prop} (hQ : ∀ e st', f9_Q r e st' → Q e st') (p763 : List UInt8) (p764 : List UInt8) (p765 : List UInt8) (p766 : List Int) (p767 : List GAct) (hS : f9_j2 a1 a2 p763 p764 p765 p766 p767 = some r) {st : St} (he : keepSt [5, 7, 9, 10, 13] [(472, .id 472)] [] st = f9_j2_J a1 a2 p763 p764 p765 p766 p767) : ZR (lev codes baseL (d - 1)) Q c9_1 [] st := by
  refine zrKeep he ?_
  unfold f9_j2 at hS
  refine zrSeq ?_
  refine zrReg ?_
  refine zlRun (n := 1) (j := 1) rfl (by kernel_rfl) ?_
  refine bindE hS (fun z28 hz28 hS => ?_)
  refine zlOp (d := some 89) (op := (.call 23 [(.tmp 88), (.const (.int .i64 0))])) (g := none) (v := (.tup [(.d (.str z28.1)), (.d (.int .i64 z28.2))])) (ups := []) (j := 2) rfl (by kernel_rfl) (by kernel_rfl) (ev_call (args := [(.d (.sl p766.length ((eInt .i64).cells p766))), (.d (.int .i64 0))]) (l := [(.d (.sl p766.length ((eInt .i64).cells p766))), (.d (.int .i64 0))]) (r := (.tup [(.d (.str z28.1)), (.d (.int .i64 z28.2))])) (by kernel_rfl) (by kernel_rfl) (f23_ok (d - 1) (dpt hd rfl) p766 0 z28 hz28) (by kernel_rfl) (by kernel_rfl) (by kernel_rfl)) ?_
  refine zlRun (n := 5) (j := 7) rfl (by kernel_rfl) ?_
  refine zlEnd (by kernel_rfl) ?_
  refine zkSeq ?_
  refine zrSeq ?_
  refine zrReg ?_
  refine zlRun (n := 1) (j := 1) rfl (by kernel_rfl) ?_
  refine zlBool (d := 93) (op := (.strO .eql (.tmp 92) (.const (.string ⟨#[]⟩)))) (g := none) (j := 2) (decide (p765 = ([] : List UInt8))) rfl (by kernel_rfl) (by kernel_rfl) (by kernel_rfl) (fun hc => ?_) (fun hc => ?_)
  · replace hS := cond_t hc hS
    refine zlRun (n := 5) (j := 7) rfl (by kernel_rfl) ?_
    refine zlBool (d := 99) (op := (.cmpI .eql (.tmp 96) (.tmp 98))) (g := (some (94, true))) (j := 8) (decide ((p767.length : Int) = (p766.length : Int))) rfl (by kernel_rfl) (by kernel_rfl) (by kernel_rfl) (fun hc => ?_) (fun hc => ?_)
    · replace hS := cond_t hc hS
      refine zlRun (n := 4) (j := 12) rfl (by kernel_rfl) ?_
      refine bindE hS (fun z29 hz29 hS => ?_)
      refine zlOp (d := some 104) (op := (.strO .add (.const (.string ⟨#[27, 91, 50, 48, 48, 126]⟩)) (.tmp 103))) (g := (some (101, true))) (v := (.d (.str z29))) (ups := []) (j := 13) rfl (by kernel_rfl) (by kernel_rfl) (ev_cat (a := [27, 91, 50, 48, 48, 126]) (c := p763) (by kernel_rfl) (by kernel_rfl) hz29) ?_
      refine bindE hS (fun z30 hz30 hS => ?_)
      refine zlOp (d := some 105) (op := (.strO .add (.tmp 104) (.const (.string ⟨#[27, 91, 50, 48, 49, 126]⟩)))) (g := (some (101, true))) (v := (.d (.str z30))) (ups := []) (j := 14) rfl (by kernel_rfl) (by kernel_rfl) (ev_cat (a := z29) (c := [27, 91, 50, 48, 49, 126]) (by kernel_rfl) (by kernel_rfl) hz30) ?_
      refine zlBool (d := 106) (op := (.strO .eql (.tmp 102) (.tmp 105))) (g := (some (101, true))) (j := 15) (decide (p764 = z30)) rfl (by kernel_rfl) (by kernel_rfl) (by kernel_rfl) (fun hc => ?_) (fun hc => ?_)
      · replace hS := cond_t hc hS
        refine zlRun (n := 3) (j := 18) rfl (by kernel_rfl) ?_
        refine zlBool (d := 110) (op := (.cmpI .eql (.tmp 109) (.const (.int .i64 0)))) (g := (some (108, true))) (j := 19) (decide (z28.2 = 0)) rfl (by kernel_rfl) (by kernel_rfl) (by kernel_rfl) (fun hc => ?_) (fun hc => ?_)
        · replace hS := cond_t hc hS
          refine zlRun (n := 4) (j := 23) rfl (by kernel_rfl) ?_
          refine zlBool (d := 115) (op := (.strO .eql (.tmp 113) (.tmp 114))) (g := (some (112, true))) (j := 24) (decide (z28.1 = p763)) rfl (by kernel_rfl) (by kernel_rfl) (by kernel_rfl) (fun hc => ?_) (fun hc => ?_)
          · replace hS := cond_t hc hS
            refine zlRun (n := 2) (j := 26) rfl (by kernel_rfl) ?_
            refine zlEnd (by kernel_rfl) ?_
            refine zkSeq ?_
            refine zrRet ?_
            refine zkNil ?_
            exact endQ hS hQ (fRet ((congrArg (fun s => outR s 0 c9.res) (by kernel_rfl : finSt c9.fin _ = f9_fin true)).trans (f9_out true)))
          · replace hS := cond_f hc hS
            refine zlRun (n := 2) (j := 26) rfl (by kernel_rfl) ?_
            refine zlEnd (by kernel_rfl) ?_
            refine zkSeq ?_
            refine zrRet ?_
            refine zkNil ?_
            exact endQ hS hQ (fRet ((congrArg (fun s => outR s 0 c9.res) (by kernel_rfl : finSt c9.fin _ = f9_fin false)).trans (f9_out false)))
        · replace hS := cond_f hc hS
          refine zlRun (n := 7) (j := 26) rfl (by kernel_rfl) ?_
          refine zlEnd (by kernel_rfl) ?_
          refine zkSeq ?_
          refine zrRet ?_
          refine zkNil ?_
          exact endQ hS hQ (fRet ((congrArg (fun s => outR s 0 c9.res) (by kernel_rfl : finSt c9.fin _ = f9_fin false)).trans (f9_out false)))
      · replace hS := cond_f hc hS
        refine zlRun (n := 11) (j := 26) rfl (by kernel_rfl) ?_
        refine zlEnd (by kernel_rfl) ?_
        refine zkSeq ?_
        refine zrRet ?_
        refine zkNil ?_
        exact endQ hS hQ (fRet ((congrArg (fun s => outR s 0 c9.res) (by kernel_rfl : finSt c9.fin _ = f9_fin false)).trans (f9_out false)))
    · replace hS := cond_f hc hS
      refine zlRun (n := 18) (j := 26) rfl (by kernel_rfl) ?_
      refine zlEnd (by kernel_rfl) ?_
      refine zkSeq ?_
      refine zrRet ?_
      refine zkNil ?_
      exact endQ hS hQ (fRet ((congrArg (fun s => outR s 0 c9.res) (by kernel_rfl : finSt c9.fin _ = f9_fin false)).trans (f9_out false)))
  · replace hS := cond_f hc hS
    refine zlRun (n := 24) (j := 26) rfl (by kernel_rfl) ?_
    refine zlEnd (by kernel_rfl) ?_
    refine zkSeq ?_
    refine zrRet ?_
    refine zkNil ?_
    exact endQ hS hQ (fRet ((congrArg (fun s => outR s 0 c9.res) (by kernel_rfl : finSt c9.fin _ = f9_fin false)).trans (f9_out false)))
def f9_l3_J (a1 : List Int) (a2 : Int) (x : (List UInt8) × (List UInt8) × (List UInt8) × (List Int) × (List GAct) × Int × Int) : St := ⟨(up (up (up (up (up (up (up (up (fun _ => .un) 64 (.d (.int .i64 x.2.2.2.2.2.2))) 63 (.d (.int .i64 x.2.2.2.2.2.1))) 62 (.r (.msl 472 0 0 x.2.2.2.2.1.length))) 13 (.r (.msl 472 0 0 x.2.2.2.2.1.length))) 10 (.d (.sl x.2.2.2.1.length ((eInt .i64).cells x.2.2.2.1)))) 9 (.d (.str x.2.2.1))) 7 (.d (.str x.2.1))) 5 (.d (.str x.1))), (up (hB fun _ => 0) 472 ⟨0, some (.own 31 6 (e_GAct.cells x.2.2.2.2.1))⟩)⟩
def f9_l3_H (a1 : List Int) (a2 : Int) (x : (List UInt8) × (List UInt8) × (List UInt8) × (List Int) × (List GAct) × Int × Int) (st : St) : Prop := keepSt [5, 7, 9, 10, 13, 62, 63, 64] [(472, .id 472)] [] st = f9_l3_J a1 a2 x
def f9_l3_e0_J (a1 : List Int) (a2 : Int) (p758 : List UInt8) (p759 : List UInt8) (p760 : List UInt8) (p761 : List Int) (p762 : List GAct) : St := ⟨(up (up (up (up (up (fun _ => .un) 13 (.r (.msl 472 0 0 p762.length))) 10 (.d (.sl p761.length ((eInt .i64).cells p761)))) 9 (.d (.str p760))) 7 (.d (.str p759))) 5 (.d (.str p758))), (up (hB fun _ => 0) 472 ⟨0, some (.own 31 6 (e_GAct.cells p762))⟩)⟩
def f9_l3_X (a1 : List Int) (a2 : Int) (z : ((List UInt8) × (List UInt8) × (List UInt8) × (List Int) × (List GAct)) ⊕ Bool) (e : PX) (st : St) : Prop := (match z with | .inl z => e = .exit 0 ∧ st = f9_l3_e0_J a1 a2 z.1 z.2.1 z.2.2.1 z.2.2.2.1 z.2.2.2.2 | .inr z => e = .ret ∧ finSt c9.fin st = f9_fin z)
def f9_l3_j5_J (a1 : List Int) (a2 : Int) (p784 : List UInt8) (p785 : List UInt8) (p786 : List UInt8) (p787 : List Int) (p788 : List GAct) (p789 : Int) (p790 : Int) : St := ⟨(up (up (up (up (up (up (up (up (fun _ => .un) 64 (.d (.int .i64 p790))) 63 (.d (.int .i64 p789))) 62 (.r (.msl 472 0 0 p788.length))) 13 (.r (.msl 472 0 0 p788.length))) 10 (.d (.sl p787.length ((eInt .i64).cells p787)))) 9 (.d (.str p786))) 7 (.d (.str p785))) 5 (.d (.str p784))), (up (hB fun _ => 0) 472 ⟨0, some (.own 31 6 (e_GAct.cells p788))⟩)⟩
noncomputable def f9_l3_j5 (a1 : List Int) (a2 : Int) (p784 : List UInt8) (p785 : List UInt8) (p786 : List UInt8) (p787 : List Int) (p788 : List GAct) (p789 : Int) (p790 : Int) : Option (((List UInt8) × (List UInt8) × (List UInt8) × (List Int) × (List GAct) × Int × Int) ⊕ (((List UInt8) × (List UInt8) × (List UInt8) × (List Int) × (List GAct)) ⊕ Bool)) := ((inR p790 p788.length).bind fun m31 => ((p788[m31]?).bind fun z32 => (bif (!decide (z32.Kind = 1)) then (bif (!decide (z32.Kind = 2)) then (some (.inr (.inr false))) else (bif (!decide (z32.Code = 9)) then (bif (!decide (z32.Code = 13)) then (some (.inr (.inr false))) else (some (.inl (p784, p785, p786, p787, p788, p789, (IntKind.i64.wrap (p790 + 1)))))) else (some (.inl (p784, p785, p786, p787, p788, p789, (IntKind.i64.wrap (p790 + 1))))))) else (some (.inl (p784, p785, p786, p787, p788, p789, (IntKind.i64.wrap (p790 + 1))))))))
theorem f9_l3_j5_ok {d : Nat} (hd : 8 ≤ d) (a1 : List Int) (a2 : Int) {r : ((List UInt8) × (List UInt8) × (List UInt8) × (List Int) × (List GAct) × Int × Int) ⊕ (((List UInt8) × (List UInt8) × (List UInt8) × (List Int) × (List GAct)) ⊕ Bool)} {Q : PX → St → Prop} (hQ : ∀ e st', finL (f9_l3_H a1 a2) (f9_l3_X a1 a2) r e st' → Q e st') (p784 : List UInt8) (p785 : List UInt8) (p786 : List UInt8) (p787 : List Int) (p788 : List GAct) (p789 : Int) (p790 : Int) (hS : f9_l3_j5 a1 a2 p784 p785 p786 p787 p788 p789 p790 = some r) {st : St} (he : keepSt [5, 7, 9, 10, 13, 62, 63, 64] [(472, .id 472)] [] st = f9_l3_j5_J a1 a2 p784 p785 p786 p787 p788 p789 p790) : ZR (lev codes baseL (d - 1)) Q c9_2 [] st := by
  refine zrKeep he ?_
  unfold f9_l3_j5 at hS
  refine zrSeq ?_
  refine zrBlk ?_
  refine zrSeq ?_
  refine zrReg ?_
  refine bindE hS (fun m31 hm31 hS => ?_)
  refine zlOp (d := some 66) (op := (.ixS 31 6 (.tmp 62) (.tmp 64))) (g := none) (v := (.r (.ptr 472 0 ((0 + m31) * 6)))) (ups := []) (j := 1) rfl (by kernel_rfl) (by kernel_rfl) (ev_ixM (kk := .i64) (b := 472) (g := 0) (l := 0) (n := p788.length) (j := p790) (cs := e_GAct.cells p788) (by kernel_rfl) (by kernel_rfl) (by kernel_rfl) hm31) ?_
  refine bindE hS (fun z32 hz32 hS => ?_)
  refine zlOp (d := some 67) (op := (.load .true 6 (.tmp 66))) (g := none) (v := (.agg ((.d (.int .i64 z32.Kind)) :: ((.d (.int .i64 z32.Code)) :: ((.d (.int .i64 z32.Mark)) :: ((.d (.str z32.Inter)) :: ((.d (.sl z32.Args.length ((eInt .i64).cells z32.Args))) :: ((.d (.str z32.Text)) :: [])))))))) (ups := []) (j := 2) rfl (by kernel_rfl) (by kernel_rfl) (ev_loadM e_GAct (b := 472) (g := 0) (o := (0 + m31) * 6) (e := 31) (k := 6) (m := m31) (fo := 0) (xs := p788) (by kernel_rfl) (by kernel_rfl) (by rw [Nat.zero_add]; rfl) hz32 (by kernel_rfl) (by kernel_rfl) (by kernel_rfl)) ?_
  refine zlRun (n := 2) (j := 4) rfl (by kernel_rfl) ?_
  refine zlEnd (by kernel_rfl) ?_
  refine zkSeq ?_
  refine zrSeq ?_
  refine zrReg ?_
  refine zlRun (n := 2) (j := 2) rfl (by kernel_rfl) ?_
  refine zlBool (d := 70) (op := (.cmpI .neq (.tmp 69) (.const (.int .i64 1)))) (g := none) (j := 3) (!decide (z32.Kind = 1)) rfl (by kernel_rfl) (by kernel_rfl) (by kernel_rfl) (fun hc => ?_) (fun hc => ?_)
  · replace hS := cond_t hc hS
    refine zlRun (n := 3) (j := 6) rfl (by kernel_rfl) ?_
    refine zlBool (d := 74) (op := (.cmpI .neq (.tmp 73) (.const (.int .i64 2)))) (g := (some (71, true))) (j := 7) (!decide (z32.Kind = 2)) rfl (by kernel_rfl) (by kernel_rfl) (by kernel_rfl) (fun hc => ?_) (fun hc => ?_)
    · replace hS := cond_t hc hS
      refine zlRun (n := 11) (j := 18) rfl (by kernel_rfl) ?_
      refine zlEnd (by kernel_rfl) ?_
      refine zkSeq ?_
      refine zrCondT (by kernel_rfl) ?_
      refine zrSeq ?_
      refine zrReg ?_
      refine zlRun (n := 1) (j := 1) rfl (by kernel_rfl) ?_
      refine zlEnd (by kernel_rfl) ?_
      refine zkSeq ?_
      refine zrRet ?_
      refine zkBlkR ?_
      refine zkSeqR ?_
      refine zkNil ?_
      exact endQ hS hQ (finL_x (by intro h; cases h) (by show _ = _ ∧ _ = _; exact ⟨rfl, by kernel_rfl⟩))
    · replace hS := cond_f hc hS
      refine zlRun (n := 3) (j := 10) rfl (by kernel_rfl) ?_
      refine zlBool (d := 78) (op := (.cmpI .neq (.tmp 77) (.const (.int .i64 9)))) (g := (some (75, false))) (j := 11) (!decide (z32.Code = 9)) rfl (by kernel_rfl) (by kernel_rfl) (by kernel_rfl) (fun hc => ?_) (fun hc => ?_)
      · replace hS := cond_t hc hS
        refine zlRun (n := 3) (j := 14) rfl (by kernel_rfl) ?_
        refine zlBool (d := 82) (op := (.cmpI .neq (.tmp 81) (.const (.int .i64 13)))) (g := (some (79, true))) (j := 15) (!decide (z32.Code = 13)) rfl (by kernel_rfl) (by kernel_rfl) (by kernel_rfl) (fun hc => ?_) (fun hc => ?_)
        · replace hS := cond_t hc hS
          refine zlRun (n := 3) (j := 18) rfl (by kernel_rfl) ?_
          refine zlEnd (by kernel_rfl) ?_
          refine zkSeq ?_
          refine zrCondT (by kernel_rfl) ?_
          refine zrSeq ?_
          refine zrReg ?_
          refine zlRun (n := 1) (j := 1) rfl (by kernel_rfl) ?_
          refine zlEnd (by kernel_rfl) ?_
          refine zkSeq ?_
          refine zrRet ?_
          refine zkBlkR ?_
          refine zkSeqR ?_
          refine zkNil ?_
          exact endQ hS hQ (finL_x (by intro h; cases h) (by show _ = _ ∧ _ = _; exact ⟨rfl, by kernel_rfl⟩))
        · replace hS := cond_f hc hS
          refine zlRun (n := 3) (j := 18) rfl (by kernel_rfl) ?_
          refine zlEnd (by kernel_rfl) ?_
          refine zkSeq ?_
          refine zrCondF (by kernel_rfl) ?_
          refine zrSkip ?_
          refine zkBlk ?_
          refine zkSeq ?_
          refine zrReg ?_
          refine zlRun (n := 2) (j := 2) rfl (by kernel_rfl) ?_
          refine zlEnd (by kernel_rfl) ?_
          refine zkNil ?_
          exact endQ hS hQ (finL_n (by show keepSt _ _ _ _ = _; kernel_rfl))
      · replace hS := cond_f hc hS
        refine zlRun (n := 7) (j := 18) rfl (by kernel_rfl) ?_
        refine zlEnd (by kernel_rfl) ?_
        refine zkSeq ?_
        refine zrCondF (by kernel_rfl) ?_
        refine zrSkip ?_
        refine zkBlk ?_
        refine zkSeq ?_
        refine zrReg ?_
        refine zlRun (n := 2) (j := 2) rfl (by kernel_rfl) ?_
        refine zlEnd (by kernel_rfl) ?_
        refine zkNil ?_
        exact endQ hS hQ (finL_n (by show keepSt _ _ _ _ = _; kernel_rfl))
  · replace hS := cond_f hc hS
    refine zlRun (n := 15) (j := 18) rfl (by kernel_rfl) ?_
    refine zlEnd (by kernel_rfl) ?_
    refine zkSeq ?_
    refine zrCondF (by kernel_rfl) ?_
    refine zrSkip ?_
    refine zkBlk ?_
    refine zkSeq ?_
    refine zrReg ?_
    refine zlRun (n := 2) (j := 2) rfl (by kernel_rfl) ?_
    refine zlEnd (by kernel_rfl) ?_
    refine zkNil ?_
    exact endQ hS hQ (finL_n (by show keepSt _ _ _ _ = _; kernel_rfl))
def f9_l3_j4_J (a1 : List Int) (a2 : Int) (p776 : List UInt8) (p777 : List UInt8) (p778 : List UInt8) (p779 : List Int) (p780 : List GAct) (p781 : Int) (p782 : Int) (p783 : Bool) : St := ⟨(up (up (up (up (up (up (up (up (up (fun _ => .un) 65 (.d (.bool p783))) 64 (.d (.int .i64 p782))) 63 (.d (.int .i64 p781))) 62 (.r (.msl 472 0 0 p780.length))) 13 (.r (.msl 472 0 0 p780.length))) 10 (.d (.sl p779.length ((eInt .i64).cells p779)))) 9 (.d (.str p778))) 7 (.d (.str p777))) 5 (.d (.str p776))), (up (hB fun _ => 0) 472 ⟨0, some (.own 31 6 (e_GAct.cells p780))⟩)⟩
noncomputable def f9_l3_j4 (a1 : List Int) (a2 : Int) (p776 : List UInt8) (p777 : List UInt8) (p778 : List UInt8) (p779 : List Int) (p780 : List GAct) (p781 : Int) (p782 : Int) (p783 : Bool) : Option (((List UInt8) × (List UInt8) × (List UInt8) × (List Int) × (List GAct) × Int × Int) ⊕ (((List UInt8) × (List UInt8) × (List UInt8) × (List Int) × (List GAct)) ⊕ Bool)) := (bif p783 then (f9_l3_j5 a1 a2 p776 p777 p778 p779 p780 p781 p782) else (some (.inr (.inl (p776, p777, p778, p779, p780)))))
theorem f9_l3_j4_ok {d : Nat} (hd : 8 ≤ d) (a1 : List Int) (a2 : Int) {r : ((List UInt8) × (List UInt8) × (List UInt8) × (List Int) × (List GAct) × Int × Int) ⊕ (((List UInt8) × (List UInt8) × (List UInt8) × (List Int) × (List GAct)) ⊕ Bool)} {Q : PX → St → Prop} (hQ : ∀ e st', finL (f9_l3_H a1 a2) (f9_l3_X a1 a2) r e st' → Q e st') (p776 : List UInt8) (p777 : List UInt8) (p778 : List UInt8) (p779 : List Int) (p780 : List GAct) (p781 : Int) (p782 : Int) (p783 : Bool) (hS : f9_l3_j4 a1 a2 p776 p777 p778 p779 p780 p781 p782 p783 = some r) {st : St} (he : keepSt [5, 7, 9, 10, 13, 62, 63, 64, 65] [(472, .id 472)] [] st = f9_l3_j4_J a1 a2 p776 p777 p778 p779 p780 p781 p782 p783) : ZR (lev codes baseL (d - 1)) Q c9_3 [] st := by
  refine zrKeep he ?_
  unfold f9_l3_j4 at hS
  refine zrSeq ?_
  refine zrSplit 65 p783 (by kernel_rfl) (fun hc => ?_) (fun hc => ?_)
  · replace hS := cond_t hc hS
    refine zrCondT (by kernel_rfl) ?_
    refine zrSkip ?_
    refine zkSeq ?_
    exact f9_l3_j5_ok hd a1 a2 hQ p776 p777 p778 p779 p780 p781 p782 hS (by kernel_rfl)
  · replace hS := cond_f hc hS
    refine zrCondF (by kernel_rfl) ?_
    refine zrKeep (J := f9_l3_e0_J a1 a2 p776 p777 p778 p779 p780) (by kernel_rfl) ?_
    refine zrExit ?_
    refine zkSeqX ?_
    refine zkNil ?_
    exact endQ hS hQ (finL_x (by intro h; cases h) (by show _ = _ ∧ _ = _; exact ⟨rfl, rfl⟩))
noncomputable def f9_l3 (a1 : List Int) (a2 : Int) (x : (List UInt8) × (List UInt8) × (List UInt8) × (List Int) × (List GAct) × Int × Int) : Option (((List UInt8) × (List UInt8) × (List UInt8) × (List Int) × (List GAct) × Int × Int) ⊕ (((List UInt8) × (List UInt8) × (List UInt8) × (List Int) × (List GAct)) ⊕ Bool)) := (bif (decide (x.2.2.2.2.2.2 < x.2.2.2.2.2.1)) then (f9_l3_j4 a1 a2 x.1 x.2.1 x.2.2.1 x.2.2.2.1 x.2.2.2.2.1 x.2.2.2.2.2.1 x.2.2.2.2.2.2 true) else (f9_l3_j4 a1 a2 x.1 x.2.1 x.2.2.1 x.2.2.2.1 x.2.2.2.2.1 x.2.2.2.2.2.1 x.2.2.2.2.2.2 false))
theorem f9_l3_ok {d : Nat} (hd : 8 ≤ d) (a1 : List Int) (a2 : Int) {r : ((List UInt8) × (List UInt8) × (List UInt8) × (List Int) × (List GAct) × Int × Int) ⊕ (((List UInt8) × (List UInt8) × (List UInt8) × (List Int) × (List GAct)) ⊕ Bool)} {Q : PX → St → Prop} (hQ : ∀ e st', finL (f9_l3_H a1 a2) (f9_l3_X a1 a2) r e st' → Q e st') {x : (List UInt8) × (List UInt8) × (List UInt8) × (List Int) × (List GAct) × Int × Int} (hS : f9_l3 a1 a2 x = some r) {st : St} (he : f9_l3_H a1 a2 x st) : ZR (lev codes baseL (d - 1)) Q c9_4 [] st := by
  refine zrKeep he ?_
  unfold f9_l3 at hS
  refine zrSeq ?_
  refine zrReg ?_
  refine zlBool (d := 65) (op := (.cmpI .lss (.tmp 64) (.tmp 63))) (g := none) (j := 1) (decide (x.2.2.2.2.2.2 < x.2.2.2.2.2.1)) rfl (by kernel_rfl) (by kernel_rfl) (by kernel_rfl) (fun hc => ?_) (fun hc => ?_)
  · replace hS := cond_t hc hS
    refine zlEnd (by kernel_rfl) ?_
    refine zkSeq ?_
    exact f9_l3_j4_ok hd a1 a2 hQ x.1 x.2.1 x.2.2.1 x.2.2.2.1 x.2.2.2.2.1 x.2.2.2.2.2.1 x.2.2.2.2.2.2 true hS (by kernel_rfl)
  · replace hS := cond_f hc hS
    refine zlEnd (by kernel_rfl) ?_
    refine zkSeq ?_
    exact f9_l3_j4_ok hd a1 a2 hQ x.1 x.2.1 x.2.2.1 x.2.2.2.1 x.2.2.2.2.1 x.2.2.2.2.2.1 x.2.2.2.2.2.2 false hS (by kernel_rfl)
def f9_j1_J (a1 : List Int) (a2 : Int) (p401 : List UInt8) (p402 : List UInt8) (p403 : List UInt8) (p404 : List Int) : St := ⟨(up (up (up (up (fun _ => .un) 10 (.d (.sl p404.length ((eInt .i64).cells p404)))) 9 (.d (.str p403))) 7 (.d (.str p402))) 5 (.d (.str p401))), (hB fun _ => 0)⟩
noncomputable def f9_j1 (a1 : List Int) (a2 : Int) (p401 : List UInt8) (p402 : List UInt8) (p403 : List UInt8) (p404 : List Int) : Option (Bool) := ((f11 (GParser.mk 0 0 ([]) ([]) ([])) p404).bind fun z21 => ((loopO (f9_l3 a1 a2) (p401, p402, p403, p404, z21.2.1, (z21.2.1.length : Int), 0)).bind fun z33 => (Sum.elim (fun z34 => (f9_j2 a1 a2 z34.1 z34.2.1 z34.2.2.1 z34.2.2.2.1 z34.2.2.2.2)) (fun z35 => (some z35)) z33)))
theorem f9_j1_ok {d : Nat} (hd : 8 ≤ d) (a1 : List Int) (a2 : Int) {r : Bool} {Q : PX → St → Prop} (hQ : ∀ e st', f9_Q r e st' → Q e st') (p401 : List UInt8) (p402 : List UInt8) (p403 : List UInt8) (p404 : List Int) (hS : f9_j1 a1 a2 p401 p402 p403 p404 = some r) {st : St} (he : keepSt [5, 7, 9, 10] [] [] st = f9_j1_J a1 a2 p401 p402 p403 p404) : ZR (lev codes baseL (d - 1)) Q c9_5 [] st := by
  refine zrKeep he ?_
  unfold f9_j1 at hS
  refine zrSeq ?_
  refine zrReg ?_
  refine zlRun (n := 2) (j := 2) rfl (by kernel_rfl) ?_
  refine bindE hS (fun z21 hz21 hS => ?_)
  refine zlOp (d := some 58) (op := (.callf 11 [(.tmp 56), (.tmp 57)])) (g := none) (v := (.tup [(.agg ((.d (.int .i64 z21.1.State)) :: ((.d (.int .i64 z21.1.Mark)) :: ((.d (.str z21.1.Inter)) :: ((.d (.str z21.1.Args)) :: ((.d (.str z21.1.Text)) :: [])))))), (.r (.msl 472 1 0 z21.2.1.length)), (.d (.int .i64 z21.2.2))])) (ups := [(472, ⟨1, some (.own 31 6 (e_GAct.cells z21.2.1))⟩)]) (j := 3) rfl (by kernel_rfl) (by kernel_rfl) (ev_callF (args := [(.agg ((.d (.int .i64 0)) :: ((.d (.int .i64 0)) :: ((.d (.str ([]))) :: ((.d (.str ([]))) :: ((.d (.str ([]))) :: [])))))), (.d (.sl p404.length ((eInt .i64).cells p404)))]) (args' := [(.agg ((.d (.int .i64 0)) :: ((.d (.int .i64 0)) :: ((.d (.str ([]))) :: ((.d (.str ([]))) :: ((.d (.str ([]))) :: [])))))), (.d (.sl p404.length ((eInt .i64).cells p404)))]) (l := [(.agg ((.d (.int .i64 0)) :: ((.d (.int .i64 0)) :: ((.d (.str ([]))) :: ((.d (.str ([]))) :: ((.d (.str ([]))) :: [])))))), (.d (.sl p404.length ((eInt .i64).cells p404)))]) (refs := []) (r := (.tup [(.agg ((.d (.int .i64 z21.1.State)) :: ((.d (.int .i64 z21.1.Mark)) :: ((.d (.str z21.1.Inter)) :: ((.d (.str z21.1.Args)) :: ((.d (.str z21.1.Text)) :: [])))))), (.r (.own 0 31 6 z21.2.1.length (e_GAct.cells z21.2.1))), (.d (.int .i64 z21.2.2))])) (v := (.tup [(.agg ((.d (.int .i64 z21.1.State)) :: ((.d (.int .i64 z21.1.Mark)) :: ((.d (.str z21.1.Inter)) :: ((.d (.str z21.1.Args)) :: ((.d (.str z21.1.Text)) :: [])))))), (.r (.msl 472 1 0 z21.2.1.length)), (.d (.int .i64 z21.2.2))])) (ups' := [(472, ⟨1, some (.own 31 6 (e_GAct.cells z21.2.1))⟩)]) (by kernel_rfl) (by kernel_rfl) (by kernel_rfl) (fz_cons rfl (fz_cons rfl fz_nil)) (by kernel_rfl) (f11_ok (d - 1) (dpt hd rfl) (GParser.mk 0 0 ([]) ([]) ([])) p404 z21 hz21) (by kernel_rfl) (by kernel_rfl) (by kernel_rfl) (by kernel_rfl)) ?_
  refine zlRun (n := 8) (j := 11) rfl (by kernel_rfl) ?_
  refine zlEnd (by kernel_rfl) ?_
  refine zkSeq ?_
  refine zrSeq ?_
  refine zrSeq ?_
  refine zrReg ?_
  refine zlRun (n := 3) (j := 3) rfl (by kernel_rfl) ?_
  refine zlEnd (by kernel_rfl) ?_
  refine zkSeq ?_
  refine zrBlk ?_
  refine bindE hS (fun z33 hz33 hS => ?_)
  refine zrLoop (f9_l3_H a1 a2) (f9_l3_X a1 a2) (fun x st r Q h0 hS hQ => f9_l3_ok hd a1 a2 hQ hS h0) (x := (p401, p402, p403, p404, z21.2.1, (z21.2.1.length : Int), 0)) (z := z33) (by show keepSt _ _ _ _ = _; kernel_rfl) hz33 ?_
  rcases z33 with z34 | z35
  · replace hS := (show _ = _ from hS)
    simp only [Sum.elim_inl] at hS
    intro e st' _ hX
    obtain ⟨rfl, rfl⟩ : _ ∧ _ := hX
    refine zkBlkX ?_
    refine zkSeq ?_
    exact f9_j2_ok hd a1 a2 hQ z34.1 z34.2.1 z34.2.2.1 z34.2.2.2.1 z34.2.2.2.2 hS (by kernel_rfl)
  · simp only [Sum.elim_inr] at hS
    intro e st' _ hX
    obtain ⟨rfl, hX⟩ : _ ∧ _ := hX
    refine zkBlkR ?_
    refine zkSeqR ?_
    refine zkNil ?_
    exact endQ hS hQ (fRet ((congrArg (fun s => outR s 0 c9.res) hX).trans (f9_out z35)))
def f9_j0_J (a1 : List Int) (a2 : Int) (p399 : List UInt8) (p400 : List UInt8) : St := ⟨(up (up (fun _ => .un) 7 (.d (.str p400))) 5 (.d (.str p399))), (hB fun _ => 0)⟩
noncomputable def f9_j0 (a1 : List Int) (a2 : Int) (p399 : List UInt8) (p400 : List UInt8) : Option (Bool) := ((f21 [] p399).bind fun z20 => (f9_j1 a1 a2 p399 p400 z20.1 z20.2.1))
theorem f9_j0_ok {d : Nat} (hd : 8 ≤ d) (a1 : List Int) (a2 : Int) {r : Bool} {Q : PX → St → Prop} (hQ : ∀ e st', f9_Q r e st' → Q e st') (p399 : List UInt8) (p400 : List UInt8) (hS : f9_j0 a1 a2 p399 p400 = some r) {st : St} (he : keepSt [5, 7] [] [] st = f9_j0_J a1 a2 p399 p400) : ZR (lev codes baseL (d - 1)) Q c9_6 [] st := by
  refine zrKeep he ?_
  unfold f9_j0 at hS
  refine zrSeq ?_
  refine zrReg ?_
  refine zlRun (n := 1) (j := 1) rfl (by kernel_rfl) ?_
  refine bindE hS (fun z20 hz20 hS => ?_)
  refine zlOp (d := some 51) (op := (.call 21 [(.const (.string ⟨#[]⟩)), (.tmp 50)])) (g := none) (v := (.tup [(.d (.str z20.1)), (.r (.msl 416 1 0 z20.2.1.length)), (.d (.int .i64 z20.2.2))])) (ups := [(416, ⟨1, some (.own 3 1 ((eInt .i64).cells z20.2.1))⟩)]) (j := 2) rfl (by kernel_rfl) (by kernel_rfl) (ev_call (args := [(.d (.str ([]))), (.d (.str p399))]) (l := [(.d (.str ([]))), (.d (.str p399))]) (r := (.tup [(.d (.str z20.1)), (.r (.own 0 3 1 z20.2.1.length ((eInt .i64).cells z20.2.1))), (.d (.int .i64 z20.2.2))])) (by kernel_rfl) (by kernel_rfl) (f21_ok (d - 1) (dpt hd rfl) [] p399 z20 hz20) (by kernel_rfl) (by kernel_rfl) (by kernel_rfl)) ?_
  refine zlRun (n := 7) (j := 9) rfl (by kernel_rfl) ?_
  refine zlEnd (by kernel_rfl) ?_
  refine zkSeq ?_
  exact f9_j1_ok hd a1 a2 hQ p399 p400 z20.1 z20.2.1 hS (by exact (by kernel_rfl : _ = (⟨(up (up (up (up (fun _ => .un) 10 (.d (.sl z20.2.1.length ((((eInt .i64).cells z20.2.1).drop (0 * (eInt .i64).k)).take (z20.2.1.length * (eInt .i64).k))))) 9 (.d (.str z20.1))) 7 (.d (.str p400))) 5 (.d (.str p399))), (hB fun _ => 0)⟩ : St)).trans (by simp only [Enc.frz]; kernel_rfl))
def f9_j6_J (a1 : List Int) (a2 : Int) (p795 : Int) (p796 : Int) : St := ⟨(up (up (fun _ => .un) 8 (.d (.int .i64 p796))) 6 (.d (.int .i64 p795))), (hB fun _ => 0)⟩
noncomputable def f9_j6 (a1 : List Int) (a2 : Int) (p795 : Int) (p796 : Int) : Option (Bool) := (f20.bind fun z37 => (bif z37 then (bif (decide (p795 = p796)) then (some true) else (some false)) else (some false)))
theorem f9_j6_ok {d : Nat} (hd : 8 ≤ d) (a1 : List Int) (a2 : Int) {r : Bool} {Q : PX → St → Prop} (hQ : ∀ e st', f9_Q r e st' → Q e st') (p795 : Int) (p796 : Int) (hS : f9_j6 a1 a2 p795 p796 = some r) {st : St} (he : keepSt [6, 8] [] [] st = f9_j6_J a1 a2 p795 p796) : ZR (lev codes baseL (d - 1)) Q c9_7 [.seq c9_6] st := by
  refine zrKeep he ?_
  unfold f9_j6 at hS
  refine zrSeq ?_
  refine zrReg ?_
  refine bindE hS (fun z37 hz37 hS => ?_)
  refine zlOp (d := some 43) (op := (.call 20 [])) (g := none) (v := (.d (.bool z37))) (ups := []) (j := 1) rfl (by kernel_rfl) (by kernel_rfl) (ev_call (args := []) (l := []) (r := (.d (.bool z37))) (by kernel_rfl) (by kernel_rfl) (f20_ok (d - 1) (dpt hd rfl)  z37 hz37) (by kernel_rfl) (by kernel_rfl) (by kernel_rfl)) ?_
  refine zlRun (n := 1) (j := 2) rfl (by kernel_rfl) ?_
  refine zlSplit 44 z37 (by kernel_rfl) (fun hc => ?_) (fun hc => ?_)
  · replace hS := cond_t hc hS
    refine zlRun (n := 2) (j := 4) rfl (by kernel_rfl) ?_
    refine zlBool (d := 47) (op := (.cmpI .eql (.tmp 45) (.tmp 46))) (g := (some (44, true))) (j := 5) (decide (p795 = p796)) rfl (by kernel_rfl) (by kernel_rfl) (by kernel_rfl) (fun hc => ?_) (fun hc => ?_)
    · replace hS := cond_t hc hS
      refine zlRun (n := 2) (j := 7) rfl (by kernel_rfl) ?_
      refine zlEnd (by kernel_rfl) ?_
      refine zkSeq ?_
      refine zrRet ?_
      refine zkSeqR ?_
      refine zkNil ?_
      exact endQ hS hQ (fRet ((congrArg (fun s => outR s 0 c9.res) (by kernel_rfl : finSt c9.fin _ = f9_fin true)).trans (f9_out true)))
    · replace hS := cond_f hc hS
      refine zlRun (n := 2) (j := 7) rfl (by kernel_rfl) ?_
      refine zlEnd (by kernel_rfl) ?_
      refine zkSeq ?_
      refine zrRet ?_
      refine zkSeqR ?_
      refine zkNil ?_
      exact endQ hS hQ (fRet ((congrArg (fun s => outR s 0 c9.res) (by kernel_rfl : finSt c9.fin _ = f9_fin false)).trans (f9_out false)))
  · replace hS := cond_f hc hS
    refine zlRun (n := 5) (j := 7) rfl (by kernel_rfl) ?_
    refine zlEnd (by kernel_rfl) ?_
    refine zkSeq ?_
    refine zrRet ?_
    refine zkSeqR ?_
    refine zkNil ?_
    exact endQ hS hQ (fRet ((congrArg (fun s => outR s 0 c9.res) (by kernel_rfl : finSt c9.fin _ = f9_fin false)).trans (f9_out false)))
noncomputable def f9 (a1 : List Int) (a2 : Int) : Option (Bool) := ((f23 a1 (bitI .andNot .i64 a2 64)).bind fun z16 => ((f23 a1 (bitI .or .i64 a2 64)).bind fun z17 => (f20.bind fun z38 => (bif (!z38) then (f9_j6 a1 a2 z16.2 z17.2) else (bif (!decide (z16.2 = 0)) then (f9_j6 a1 a2 z16.2 z17.2) else (bif (!decide (z17.2 = 0)) then (f9_j6 a1 a2 z16.2 z17.2) else (f9_j0 a1 a2 z16.1 z17.1)))))))
theorem f9_ok (d : Nat) (hd : 8 ≤ d) (a1 : List Int) (a2 : Int) (r : Bool) (hS : f9 a1 a2 = some r) : lev codes baseL d 9 [(.d (.sl a1.length ((eInt .i64).cells a1))), (.d (.int .i64 a2))] [] = some ((.d (.bool r)), []) := by
  refine lev_go codes9 rfl rfl (Nat.le_trans (Nat.le_of_ble_eq_true rfl) hd) fun Q hQ => ?_
  unfold f9 at hS
  show ZR _ Q c9_b [] _
  replace hQ : ∀ e st', f9_Q r e st' → Q e st' := hQ
  refine zrSeq ?_
  refine zrReg ?_
  refine zlRun (n := 1) (j := 1) rfl (by kernel_rfl) ?_
  refine zlEnd (by kernel_rfl) ?_
  refine zkSeq ?_
  refine zrSeq ?_
  refine zrReg ?_
  refine zlRun (n := 3) (j := 3) rfl (by kernel_rfl) ?_
  refine bindE hS (fun z16 hz16 hS => ?_)
  refine zlOp (d := some 23) (op := (.call 23 [(.tmp 20), (.tmp 22)])) (g := none) (v := (.tup [(.d (.str z16.1)), (.d (.int .i64 z16.2))])) (ups := []) (j := 4) rfl (by kernel_rfl) (by kernel_rfl) (ev_call (args := [(.d (.sl a1.length ((eInt .i64).cells a1))), (.d (.int .i64 (bitI .andNot .i64 a2 64)))]) (l := [(.d (.sl a1.length ((eInt .i64).cells a1))), (.d (.int .i64 (bitI .andNot .i64 a2 64)))]) (r := (.tup [(.d (.str z16.1)), (.d (.int .i64 z16.2))])) (by kernel_rfl) (by kernel_rfl) (f23_ok (d - 1) (dpt hd rfl) a1 (bitI .andNot .i64 a2 64) z16 hz16) (by kernel_rfl) (by kernel_rfl) (by kernel_rfl)) ?_
  refine zlRun (n := 5) (j := 9) rfl (by kernel_rfl) ?_
  refine zlEnd (by kernel_rfl) ?_
  refine zkSeq ?_
  refine zrSeq ?_
  refine zrReg ?_
  refine zlRun (n := 3) (j := 3) rfl (by kernel_rfl) ?_
  refine bindE hS (fun z17 hz17 hS => ?_)
  refine zlOp (d := some 30) (op := (.call 23 [(.tmp 27), (.tmp 29)])) (g := none) (v := (.tup [(.d (.str z17.1)), (.d (.int .i64 z17.2))])) (ups := []) (j := 4) rfl (by kernel_rfl) (by kernel_rfl) (ev_call (args := [(.d (.sl a1.length ((eInt .i64).cells a1))), (.d (.int .i64 (bitI .or .i64 a2 64)))]) (l := [(.d (.sl a1.length ((eInt .i64).cells a1))), (.d (.int .i64 (bitI .or .i64 a2 64)))]) (r := (.tup [(.d (.str z17.1)), (.d (.int .i64 z17.2))])) (by kernel_rfl) (by kernel_rfl) (f23_ok (d - 1) (dpt hd rfl) a1 (bitI .or .i64 a2 64) z17 hz17) (by kernel_rfl) (by kernel_rfl) (by kernel_rfl)) ?_
  refine zlRun (n := 5) (j := 9) rfl (by kernel_rfl) ?_
  refine zlEnd (by kernel_rfl) ?_
  refine zkSeq ?_
  refine zrSeq ?_
  refine zrSeq ?_
  refine zrReg ?_
  refine bindE hS (fun z38 hz38 hS => ?_)
  refine zlOp (d := some 33) (op := (.call 20 [])) (g := none) (v := (.d (.bool z38))) (ups := []) (j := 1) rfl (by kernel_rfl) (by kernel_rfl) (ev_call (args := []) (l := []) (r := (.d (.bool z38))) (by kernel_rfl) (by kernel_rfl) (f20_ok (d - 1) (dpt hd rfl)  z38 hz38) (by kernel_rfl) (by kernel_rfl) (by kernel_rfl)) ?_
  refine zlRun (n := 2) (j := 3) rfl (by kernel_rfl) ?_
  refine zlSplit 35 (!z38) (by kernel_rfl) (fun hc => ?_) (fun hc => ?_)
  · replace hS := cond_t hc hS
    refine zlRun (n := 7) (j := 10) rfl (by kernel_rfl) ?_
    refine zlEnd (by kernel_rfl) ?_
    refine zkSeq ?_
    refine zrCondT (by kernel_rfl) ?_
    exact f9_j6_ok hd a1 a2 hQ z16.2 z17.2 hS (by kernel_rfl)
  · replace hS := cond_f hc hS
    refine zlRun (n := 1) (j := 4) rfl (by kernel_rfl) ?_
    refine zlBool (d := 37) (op := (.cmpI .neq (.tmp 36) (.const (.int .i64 0)))) (g := (some (35, false))) (j := 5) (!decide (z16.2 = 0)) rfl (by kernel_rfl) (by kernel_rfl) (by kernel_rfl) (fun hc => ?_) (fun hc => ?_)
    · replace hS := cond_t hc hS
      refine zlRun (n := 5) (j := 10) rfl (by kernel_rfl) ?_
      refine zlEnd (by kernel_rfl) ?_
      refine zkSeq ?_
      refine zrCondT (by kernel_rfl) ?_
      exact f9_j6_ok hd a1 a2 hQ z16.2 z17.2 hS (by kernel_rfl)
    · replace hS := cond_f hc hS
      refine zlRun (n := 3) (j := 8) rfl (by kernel_rfl) ?_
      refine zlBool (d := 41) (op := (.cmpI .neq (.tmp 40) (.const (.int .i64 0)))) (g := (some (39, false))) (j := 9) (!decide (z17.2 = 0)) rfl (by kernel_rfl) (by kernel_rfl) (by kernel_rfl) (fun hc => ?_) (fun hc => ?_)
      · replace hS := cond_t hc hS
        refine zlRun (n := 1) (j := 10) rfl (by kernel_rfl) ?_
        refine zlEnd (by kernel_rfl) ?_
        refine zkSeq ?_
        refine zrCondT (by kernel_rfl) ?_
        exact f9_j6_ok hd a1 a2 hQ z16.2 z17.2 hS (by kernel_rfl)
      · replace hS := cond_f hc hS
        refine zlRun (n := 1) (j := 10) rfl (by kernel_rfl) ?_
        refine zlEnd (by kernel_rfl) ?_
        refine zkSeq ?_
        refine zrCondF (by kernel_rfl) ?_
        refine zrSkip ?_
        refine zkSeq ?_
        exact f9_j0_ok hd a1 a2 hQ z16.1 z17.1 hS (by kernel_rfl)
end Go.Proofs.YtakmihemhmdpkaaDoor.Pm
