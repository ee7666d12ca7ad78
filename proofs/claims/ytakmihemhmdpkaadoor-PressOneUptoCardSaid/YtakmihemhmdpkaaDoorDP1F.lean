/- Typed functions, and that the codes are these. Printed by dec.py. -/
import Derived.Test.YtakmihemhmdpkaaDoorDP1E
namespace Go.Proofs.YtakmihemhmdpkaaDoor.Pm
set_option maxRecDepth 1000000
set_option maxHeartbeats 20000000
set_option linter.unusedVariables false
/- (*farwriter/parse.machine).ignore -/
def f85_fin (p1 : List GAct) : St := ⟨(fun _ => .un), (up (up (hB fun _ => 0) 1 ⟨0, some (.own 31 6 (e_GAct.cells p1))⟩) 0 ⟨0, some (.box ((.d (.int .i64 6)) :: ((.d (.int .i64 0)) :: ((.d (.str ([]))) :: ((.d (.str ([]))) :: ((.d (.str ([]))) :: ((.r (.msl 1 0 0 p1.length)) :: [])))))))⟩)⟩
theorem f85_out (p1 : List GAct) : outR (f85_fin p1) 2 c85.res = some ((.tup []), [(.box ((.d (.int .i64 6)) :: ((.d (.int .i64 0)) :: ((.d (.str ([]))) :: ((.d (.str ([]))) :: ((.d (.str ([]))) :: ((.r (.msl 1 0 0 p1.length)) :: []))))))), (.own 31 6 (e_GAct.cells p1))]) := by
  kernel_rfl
def f85_Q (r : (List GAct)) (e : PX) (st : St) : Prop := DoneF c85 2 ((.tup []), [(.box ((.d (.int .i64 6)) :: ((.d (.int .i64 0)) :: ((.d (.str ([]))) :: ((.d (.str ([]))) :: ((.d (.str ([]))) :: ((.r (.msl 1 0 0 r.length)) :: []))))))), (.own 31 6 (e_GAct.cells r))]) e st
noncomputable def f85 (a1 : Int) (a2 : Int) (a3 : List UInt8) (a4 : List UInt8) (a5 : List UInt8) (a6 : List GAct) : Option ((List GAct)) := (some a6)
theorem f85_ok (d : Nat) (hd : 1 ≤ d) (a1 : Int) (a2 : Int) (a3 : List UInt8) (a4 : List UInt8) (a5 : List UInt8) (a6 : List GAct) (r : (List GAct)) (hS : f85 a1 a2 a3 a4 a5 a6 = some r) : lev codes baseL d 85 [(.r (.ptr 0 0 0))] [(.box ((.d (.int .i64 a1)) :: ((.d (.int .i64 a2)) :: ((.d (.str a3)) :: ((.d (.str a4)) :: ((.d (.str a5)) :: ((.r (.msl 1 0 0 a6.length)) :: []))))))), (.own 31 6 (e_GAct.cells a6))] = some ((.tup []), [(.box ((.d (.int .i64 6)) :: ((.d (.int .i64 0)) :: ((.d (.str ([]))) :: ((.d (.str ([]))) :: ((.d (.str ([]))) :: ((.r (.msl 1 0 0 r.length)) :: []))))))), (.own 31 6 (e_GAct.cells r))]) := by
  refine lev_go codes85 rfl rfl (Nat.le_trans (Nat.le_of_ble_eq_true rfl) hd) fun Q hQ => ?_
  unfold f85 at hS
  show ZR _ Q c85_b [] _
  replace hQ : ∀ e st', f85_Q r e st' → Q e st' := hQ
  refine zrReg ?_
  refine zlRun (n := 5) (j := 5) rfl (by kernel_rfl) ?_
  refine zlEnd (by kernel_rfl) ?_
  refine zkNil ?_
  exact endQ hS hQ (fNorm ((congrArg (fun s => outR s 2 c85.res) (by kernel_rfl : finSt c85.fin _ = f85_fin a6)).trans (f85_out a6)))
/- (*farwriter/parse.machine).csi -/
def f61_fin (p11 : Int) (p12 : Int) (p13 : List UInt8) (p14 : List UInt8) (p15 : List UInt8) (p16 : List GAct) : St := ⟨(fun _ => .un), (up (up (hB fun _ => 0) 1 ⟨0, some (.own 31 6 (e_GAct.cells p16))⟩) 0 ⟨0, some (.box ((.d (.int .i64 p11)) :: ((.d (.int .i64 p12)) :: ((.d (.str p13)) :: ((.d (.str p14)) :: ((.d (.str p15)) :: ((.r (.msl 1 0 0 p16.length)) :: [])))))))⟩)⟩
theorem f61_out (p11 : Int) (p12 : Int) (p13 : List UInt8) (p14 : List UInt8) (p15 : List UInt8) (p16 : List GAct) : outR (f61_fin p11 p12 p13 p14 p15 p16) 2 c61.res = some ((.tup []), [(.box ((.d (.int .i64 p11)) :: ((.d (.int .i64 p12)) :: ((.d (.str p13)) :: ((.d (.str p14)) :: ((.d (.str p15)) :: ((.r (.msl 1 0 0 p16.length)) :: []))))))), (.own 31 6 (e_GAct.cells p16))]) := by
  kernel_rfl
def f61_Q (r : Int × Int × (List UInt8) × (List UInt8) × (List UInt8) × (List GAct)) (e : PX) (st : St) : Prop := DoneF c61 2 ((.tup []), [(.box ((.d (.int .i64 r.1)) :: ((.d (.int .i64 r.2.1)) :: ((.d (.str r.2.2.1)) :: ((.d (.str r.2.2.2.1)) :: ((.d (.str r.2.2.2.2.1)) :: ((.r (.msl 1 0 0 r.2.2.2.2.2.length)) :: []))))))), (.own 31 6 (e_GAct.cells r.2.2.2.2.2))]) e st
def f61_j0_J (a1 : Int) (a2 : Int) (a3 : Int) (a4 : List UInt8) (a5 : List UInt8) (a6 : List UInt8) (a7 : List GAct) (p17 : List Int) : St := ⟨(up (up (up (fun _ => .un) 4 (.d (.sl p17.length ((eInt .i64).cells p17)))) 1 (.d (.int .i64 a1))) 0 (.r (.ptr 0 0 0))), (up (up (hB fun _ => 0) 1 ⟨0, some (.own 31 6 (e_GAct.cells a7))⟩) 0 ⟨0, some (.box ((.d (.int .i64 a2)) :: ((.d (.int .i64 a3)) :: ((.d (.str a4)) :: ((.d (.str a5)) :: ((.d (.str a6)) :: ((.r (.msl 1 0 0 a7.length)) :: [])))))))⟩)⟩
noncomputable def f61_j0 (a1 : Int) (a2 : Int) (a3 : Int) (a4 : List UInt8) (a5 : List UInt8) (a6 : List UInt8) (a7 : List GAct) (p17 : List Int) : Option (Int × Int × (List UInt8) × (List UInt8) × (List UInt8) × (List GAct)) := ((f84 (GAct.mk 4 a1 a3 a4 p17 ([])) a2 a3 a4 a5 a6 a7).bind fun z11 => (some (z11.1, 0, [], [], [], z11.2)))
theorem f61_j0_ok {d : Nat} (hd : 3 ≤ d) (a1 : Int) (a2 : Int) (a3 : Int) (a4 : List UInt8) (a5 : List UInt8) (a6 : List UInt8) (a7 : List GAct) {r : Int × Int × (List UInt8) × (List UInt8) × (List UInt8) × (List GAct)} {Q : PX → St → Prop} (hQ : ∀ e st', f61_Q r e st' → Q e st') (p17 : List Int) (hS : f61_j0 a1 a2 a3 a4 a5 a6 a7 p17 = some r) {st : St} (he : keepSt [0, 1, 4] [(0, .id 0), (1, .id 1)] [] st = f61_j0_J a1 a2 a3 a4 a5 a6 a7 p17) : ZR (lev codes baseL (d - 1)) Q c61_1 [.blk 0] st := by
  refine zrKeep he ?_
  unfold f61_j0 at hS
  refine zrRegD ?_
  refine zdRun (n := 14) (j := 14) (ts := [[], [], [], [], [], [], [(0, false)], [], [], [], [], [(0, false)], [], []]) (acc' := [[], [], [], [], [], [], [(0, false)], [], [], [], [], [(0, false)], [], []]) rfl (by kernel_rfl) (by kernel_rfl) (by kernel_rfl) ?_
  refine bindE hS (fun z11 hz11 hS => ?_)
  refine zdOp (d := some 55) (op := (.callr 84 [(.tmp 41), (.tmp 54)])) (g := none) (v := (.tup [])) (ups := [(0, ⟨0, some (.box ((.d (.int .i64 z11.1)) :: ((.d (.int .i64 0)) :: ((.d (.str ([]))) :: ((.d (.str ([]))) :: ((.d (.str ([]))) :: ((.r (.msl 1 1 0 z11.2.length)) :: [])))))))⟩), (1, ⟨1, some (.own 31 6 (e_GAct.cells z11.2))⟩)]) (j := 15) (t1 := [(0, true), (1, true), (0, false), (448, true), (449, true), (450, true), (451, true), (452, true), (453, true), (454, true), (455, true)]) (acc' := [[], [], [], [], [], [], [(0, false)], [], [], [], [], [(0, false)], [], [], [(0, true), (1, true), (0, false), (448, true), (449, true), (450, true), (451, true), (452, true), (453, true), (454, true), (455, true)]]) (by kernel_rfl) (by kernel_rfl) rfl (by kernel_rfl) (by kernel_rfl) (ev_callr (args := [(.r (.ptr 0 0 0)), (.agg ((.d (.int .i64 4)) :: ((.d (.int .i64 a1)) :: ((.d (.int .i64 a3)) :: ((.d (.str a4)) :: ((.d (.sl p17.length ((eInt .i64).cells p17))) :: ((.d (.str ([]))) :: [])))))))]) (ids := [0, 1]) (bs := [(.box ((.d (.int .i64 a2)) :: ((.d (.int .i64 a3)) :: ((.d (.str a4)) :: ((.d (.str a5)) :: ((.d (.str a6)) :: ((.r (.msl 1 0 0 a7.length)) :: []))))))), (.own 31 6 (e_GAct.cells a7))]) (l := [(.r (.ptr 0 0 0)), (.agg ((.d (.int .i64 4)) :: ((.d (.int .i64 a1)) :: ((.d (.int .i64 a3)) :: ((.d (.str a4)) :: ((.d (.sl p17.length ((eInt .i64).cells p17))) :: ((.d (.str ([]))) :: [])))))))]) (bt := [(.box ((.d (.int .i64 a2)) :: ((.d (.int .i64 a3)) :: ((.d (.str a4)) :: ((.d (.str a5)) :: ((.d (.str a6)) :: ((.r (.msl 1 0 0 a7.length)) :: []))))))), (.own 31 6 (e_GAct.cells a7))]) (r := (.tup [])) (bs' := [(.box ((.d (.int .i64 z11.1)) :: ((.d (.int .i64 0)) :: ((.d (.str ([]))) :: ((.d (.str ([]))) :: ((.d (.str ([]))) :: ((.r (.msl 1 0 0 z11.2.length)) :: []))))))), (.own 31 6 (e_GAct.cells z11.2))]) (by kernel_rfl) (by kernel_rfl) (by kernel_rfl) (by kernel_rfl) (by kernel_rfl) (f84_ok (d - 1) (dpt hd rfl) (GAct.mk 4 a1 a3 a4 p17 ([])) a2 a3 a4 a5 a6 a7 z11 hz11) (by kernel_rfl) (by kernel_rfl)) ?_
  refine zdEnd (by kernel_rfl) (by kernel_rfl) ?_
  refine zkBlk ?_
  refine zkNil ?_
  exact endQ hS hQ (fNorm ((congrArg (fun s => outR s 2 c61.res) (by kernel_rfl : finSt c61.fin _ = f61_fin z11.1 0 [] [] [] z11.2)).trans (f61_out z11.1 0 [] [] [] z11.2)))
noncomputable def f61 (a1 : Int) (a2 : Int) (a3 : Int) (a4 : List UInt8) (a5 : List UInt8) (a6 : List UInt8) (a7 : List GAct) : Option (Int × Int × (List UInt8) × (List UInt8) × (List UInt8) × (List GAct)) := (bif (decide (a2 = 6)) then (bif (decide (64 ≤ a1)) then ((f58 0 a2 a3 a4 a5 a6 a7).bind fun z8 => (some (z8.1, 0, [], [], [], z8.2))) else (some (a2, a3, a4, a5, a6, a7))) else (bif (decide (a1 < 48)) then ((f83 a1 a2 a3 a4 a5 a6 a7).bind fun z9 => (some (5, z9.2.1, z9.2.2.1, z9.2.2.2.1, z9.2.2.2.2.1, z9.2.2.2.2.2))) else (bif (decide (64 ≤ a1)) then ((f31 a5).bind fun z10 => (f61_j0 a1 a2 a3 a4 a5 a6 a7 z10.1)) else (bif (decide (a2 = 5)) then ((f85 a2 a3 a4 a5 a6 a7).bind fun z12 => (some (6, 0, [], [], [], z12))) else (bif (decide (a1 = 58)) then ((f85 a2 a3 a4 a5 a6 a7).bind fun z13 => (some (6, 0, [], [], [], z13))) else (bif (decide (a1 < 60)) then (bif (decide ((a5.length : Int) < 100)) then ((cat? a5 ((Utf8.encode (IntKind.i32.wrap (a1))).data.toList)).bind fun z14 => (some (4, a3, a4, z14, a6, a7))) else (some (4, a3, a4, a5, a6, a7))) else (bif (decide (a2 = 3)) then (some (4, a1, a4, a5, a6, a7)) else ((f85 a2 a3 a4 a5 a6 a7).bind fun z15 => (some (6, 0, [], [], [], z15))))))))))
theorem f61_ok (d : Nat) (hd : 3 ≤ d) (a1 : Int) (a2 : Int) (a3 : Int) (a4 : List UInt8) (a5 : List UInt8) (a6 : List UInt8) (a7 : List GAct) (r : Int × Int × (List UInt8) × (List UInt8) × (List UInt8) × (List GAct)) (hS : f61 a1 a2 a3 a4 a5 a6 a7 = some r) : lev codes baseL d 61 [(.r (.ptr 0 0 0)), (.d (.int .i64 a1))] [(.box ((.d (.int .i64 a2)) :: ((.d (.int .i64 a3)) :: ((.d (.str a4)) :: ((.d (.str a5)) :: ((.d (.str a6)) :: ((.r (.msl 1 0 0 a7.length)) :: []))))))), (.own 31 6 (e_GAct.cells a7))] = some ((.tup []), [(.box ((.d (.int .i64 r.1)) :: ((.d (.int .i64 r.2.1)) :: ((.d (.str r.2.2.1)) :: ((.d (.str r.2.2.2.1)) :: ((.d (.str r.2.2.2.2.1)) :: ((.r (.msl 1 0 0 r.2.2.2.2.2.length)) :: []))))))), (.own 31 6 (e_GAct.cells r.2.2.2.2.2))]) := by
  refine lev_go codes61 rfl rfl (Nat.le_trans (Nat.le_of_ble_eq_true rfl) hd) fun Q hQ => ?_
  unfold f61 at hS
  show ZR _ Q c61_b [] _
  replace hQ : ∀ e st', f61_Q r e st' → Q e st' := hQ
  refine zrBlk ?_
  refine zrSeq ?_
  refine zrReg ?_
  refine zlRun (n := 5) (j := 5) rfl (by kernel_rfl) ?_
  refine zlBool (d := 14) (op := (.cmpI .eql (.tmp 13) (.const (.int .i64 6)))) (g := none) (j := 6) (decide (a2 = 6)) rfl (by kernel_rfl) (by kernel_rfl) (by kernel_rfl) (fun hc => ?_) (fun hc => ?_)
  · replace hS := cond_t hc hS
    refine zlRun (n := 1) (j := 7) rfl (by kernel_rfl) ?_
    refine zlEnd (by kernel_rfl) ?_
    refine zkSeq ?_
    refine zrCondT (by kernel_rfl) ?_
    refine zrSeq ?_
    refine zrReg ?_
    refine zlRun (n := 1) (j := 1) rfl (by kernel_rfl) ?_
    refine zlBool (d := 16) (op := (.cmpI .geq (.tmp 15) (.const (.int .i64 64)))) (g := none) (j := 2) (decide (64 ≤ a1)) rfl (by kernel_rfl) (by kernel_rfl) (by kernel_rfl) (fun hc => ?_) (fun hc => ?_)
    · replace hS := cond_t hc hS
      refine zlEnd (by kernel_rfl) ?_
      refine zkSeq ?_
      refine zrCondT (by kernel_rfl) ?_
      refine zrReg ?_
      refine zlRun (n := 1) (j := 1) rfl (by kernel_rfl) ?_
      refine bindE hS (fun z8 hz8 hS => ?_)
      refine zlOp (d := some 18) (op := (.callr 58 [(.tmp 17), (.const (.int .i64 0))])) (g := none) (v := (.tup [])) (ups := [(0, ⟨0, some (.box ((.d (.int .i64 z8.1)) :: ((.d (.int .i64 0)) :: ((.d (.str ([]))) :: ((.d (.str ([]))) :: ((.d (.str ([]))) :: ((.r (.msl 1 1 0 z8.2.length)) :: [])))))))⟩), (1, ⟨1, some (.own 31 6 (e_GAct.cells z8.2))⟩)]) (j := 2) rfl (by kernel_rfl) (by kernel_rfl) (ev_callr (args := [(.r (.ptr 0 0 0)), (.d (.int .i64 0))]) (ids := [0, 1]) (bs := [(.box ((.d (.int .i64 a2)) :: ((.d (.int .i64 a3)) :: ((.d (.str a4)) :: ((.d (.str a5)) :: ((.d (.str a6)) :: ((.r (.msl 1 0 0 a7.length)) :: []))))))), (.own 31 6 (e_GAct.cells a7))]) (l := [(.r (.ptr 0 0 0)), (.d (.int .i64 0))]) (bt := [(.box ((.d (.int .i64 a2)) :: ((.d (.int .i64 a3)) :: ((.d (.str a4)) :: ((.d (.str a5)) :: ((.d (.str a6)) :: ((.r (.msl 1 0 0 a7.length)) :: []))))))), (.own 31 6 (e_GAct.cells a7))]) (r := (.tup [])) (bs' := [(.box ((.d (.int .i64 z8.1)) :: ((.d (.int .i64 0)) :: ((.d (.str ([]))) :: ((.d (.str ([]))) :: ((.d (.str ([]))) :: ((.r (.msl 1 0 0 z8.2.length)) :: []))))))), (.own 31 6 (e_GAct.cells z8.2))]) (by kernel_rfl) (by kernel_rfl) (by kernel_rfl) (by kernel_rfl) (by kernel_rfl) (f58_ok (d - 1) (dpt hd rfl) 0 a2 a3 a4 a5 a6 a7 z8 hz8) (by kernel_rfl) (by kernel_rfl)) ?_
      refine zlEnd (by kernel_rfl) ?_
      refine zkBlk ?_
      refine zkNil ?_
      exact endQ hS hQ (fNorm ((congrArg (fun s => outR s 2 c61.res) (by kernel_rfl : finSt c61.fin _ = f61_fin z8.1 0 [] [] [] z8.2)).trans (f61_out z8.1 0 [] [] [] z8.2)))
    · replace hS := cond_f hc hS
      refine zlEnd (by kernel_rfl) ?_
      refine zkSeq ?_
      refine zrCondF (by kernel_rfl) ?_
      refine zrSkip ?_
      refine zkBlk ?_
      refine zkNil ?_
      exact endQ hS hQ (fNorm ((congrArg (fun s => outR s 2 c61.res) (by kernel_rfl : finSt c61.fin _ = f61_fin a2 a3 a4 a5 a6 a7)).trans (f61_out a2 a3 a4 a5 a6 a7)))
  · replace hS := cond_f hc hS
    refine zlRun (n := 1) (j := 7) rfl (by kernel_rfl) ?_
    refine zlEnd (by kernel_rfl) ?_
    refine zkSeq ?_
    refine zrCondF (by kernel_rfl) ?_
    refine zrSeq ?_
    refine zrReg ?_
    refine zlRun (n := 1) (j := 1) rfl (by kernel_rfl) ?_
    refine zlBool (d := 21) (op := (.cmpI .lss (.tmp 20) (.const (.int .i64 48)))) (g := none) (j := 2) (decide (a1 < 48)) rfl (by kernel_rfl) (by kernel_rfl) (by kernel_rfl) (fun hc => ?_) (fun hc => ?_)
    · replace hS := cond_t hc hS
      refine zlRun (n := 1) (j := 3) rfl (by kernel_rfl) ?_
      refine zlEnd (by kernel_rfl) ?_
      refine zkSeq ?_
      refine zrCondT (by kernel_rfl) ?_
      refine zrSeq ?_
      refine zrReg ?_
      refine zlRun (n := 2) (j := 2) rfl (by kernel_rfl) ?_
      refine bindE hS (fun z9 hz9 hS => ?_)
      refine zlOp (d := some 24) (op := (.callr 83 [(.tmp 22), (.tmp 23)])) (g := none) (v := (.tup [])) (ups := [(0, ⟨0, some (.box ((.d (.int .i64 z9.1)) :: ((.d (.int .i64 z9.2.1)) :: ((.d (.str z9.2.2.1)) :: ((.d (.str z9.2.2.2.1)) :: ((.d (.str z9.2.2.2.2.1)) :: ((.r (.msl 1 1 0 z9.2.2.2.2.2.length)) :: [])))))))⟩), (1, ⟨1, some (.own 31 6 (e_GAct.cells z9.2.2.2.2.2))⟩)]) (j := 3) rfl (by kernel_rfl) (by kernel_rfl) (ev_callr (args := [(.r (.ptr 0 0 0)), (.d (.int .i64 a1))]) (ids := [0, 1]) (bs := [(.box ((.d (.int .i64 a2)) :: ((.d (.int .i64 a3)) :: ((.d (.str a4)) :: ((.d (.str a5)) :: ((.d (.str a6)) :: ((.r (.msl 1 0 0 a7.length)) :: []))))))), (.own 31 6 (e_GAct.cells a7))]) (l := [(.r (.ptr 0 0 0)), (.d (.int .i64 a1))]) (bt := [(.box ((.d (.int .i64 a2)) :: ((.d (.int .i64 a3)) :: ((.d (.str a4)) :: ((.d (.str a5)) :: ((.d (.str a6)) :: ((.r (.msl 1 0 0 a7.length)) :: []))))))), (.own 31 6 (e_GAct.cells a7))]) (r := (.tup [])) (bs' := [(.box ((.d (.int .i64 z9.1)) :: ((.d (.int .i64 z9.2.1)) :: ((.d (.str z9.2.2.1)) :: ((.d (.str z9.2.2.2.1)) :: ((.d (.str z9.2.2.2.2.1)) :: ((.r (.msl 1 0 0 z9.2.2.2.2.2.length)) :: []))))))), (.own 31 6 (e_GAct.cells z9.2.2.2.2.2))]) (by kernel_rfl) (by kernel_rfl) (by kernel_rfl) (by kernel_rfl) (by kernel_rfl) (f83_ok (d - 1) (dpt hd rfl) a1 a2 a3 a4 a5 a6 a7 z9 hz9) (by kernel_rfl) (by kernel_rfl)) ?_
      refine zlEnd (by kernel_rfl) ?_
      refine zkSeq ?_
      refine zrReg ?_
      refine zlRun (n := 5) (j := 5) rfl (by kernel_rfl) ?_
      refine zlEnd (by kernel_rfl) ?_
      refine zkBlk ?_
      refine zkNil ?_
      exact endQ hS hQ (fNorm ((congrArg (fun s => outR s 2 c61.res) (by kernel_rfl : finSt c61.fin _ = f61_fin 5 z9.2.1 z9.2.2.1 z9.2.2.2.1 z9.2.2.2.2.1 z9.2.2.2.2.2)).trans (f61_out 5 z9.2.1 z9.2.2.1 z9.2.2.2.1 z9.2.2.2.2.1 z9.2.2.2.2.2)))
    · replace hS := cond_f hc hS
      refine zlRun (n := 1) (j := 3) rfl (by kernel_rfl) ?_
      refine zlEnd (by kernel_rfl) ?_
      refine zkSeq ?_
      refine zrCondF (by kernel_rfl) ?_
      refine zrSeq ?_
      refine zrReg ?_
      refine zlRun (n := 1) (j := 1) rfl (by kernel_rfl) ?_
      refine zlBool (d := 31) (op := (.cmpI .geq (.tmp 30) (.const (.int .i64 64)))) (g := none) (j := 2) (decide (64 ≤ a1)) rfl (by kernel_rfl) (by kernel_rfl) (by kernel_rfl) (fun hc => ?_) (fun hc => ?_)
      · replace hS := cond_t hc hS
        refine zlRun (n := 1) (j := 3) rfl (by kernel_rfl) ?_
        refine zlEnd (by kernel_rfl) ?_
        refine zkSeq ?_
        refine zrCondT (by kernel_rfl) ?_
        refine zrSeq ?_
        refine zrReg ?_
        refine zlRun (n := 5) (j := 5) rfl (by kernel_rfl) ?_
        refine bindE hS (fun z10 hz10 hS => ?_)
        refine zlOp (d := some 38) (op := (.call 31 [(.tmp 37)])) (g := none) (v := (.tup [(.r (.msl 312 1 0 z10.1.length)), (.d (.int .i64 z10.2))])) (ups := [(312, ⟨1, some (.own 3 1 ((eInt .i64).cells z10.1))⟩)]) (j := 6) rfl (by kernel_rfl) (by kernel_rfl) (ev_call (args := [(.d (.str a5))]) (l := [(.d (.str a5))]) (r := (.tup [(.r (.own 0 3 1 z10.1.length ((eInt .i64).cells z10.1))), (.d (.int .i64 z10.2))])) (by kernel_rfl) (by kernel_rfl) (f31_ok (d - 1) (dpt hd rfl) a5 z10 hz10) (by kernel_rfl) (by kernel_rfl) (by kernel_rfl)) ?_
        refine zlRun (n := 5) (j := 11) rfl (by kernel_rfl) ?_
        refine zlEnd (by kernel_rfl) ?_
        refine zkSeq ?_
        exact f61_j0_ok hd a1 a2 a3 a4 a5 a6 a7 hQ z10.1 hS (by exact (by kernel_rfl : _ = (⟨(up (up (up (fun _ => .un) 4 (.d (.sl z10.1.length ((((eInt .i64).cells z10.1).drop (0 * (eInt .i64).k)).take (z10.1.length * (eInt .i64).k))))) 1 (.d (.int .i64 a1))) 0 (.r (.ptr 0 0 0))), (up (up (hB fun _ => 0) 1 ⟨0, some (.own 31 6 (e_GAct.cells a7))⟩) 0 ⟨0, some (.box ((.d (.int .i64 a2)) :: ((.d (.int .i64 a3)) :: ((.d (.str a4)) :: ((.d (.str a5)) :: ((.d (.str a6)) :: ((.r (.msl 1 0 0 a7.length)) :: [])))))))⟩)⟩ : St)).trans (by simp only [Enc.frz]; kernel_rfl))
      · replace hS := cond_f hc hS
        refine zlRun (n := 1) (j := 3) rfl (by kernel_rfl) ?_
        refine zlEnd (by kernel_rfl) ?_
        refine zkSeq ?_
        refine zrCondF (by kernel_rfl) ?_
        refine zrSeq ?_
        refine zrReg ?_
        refine zlRun (n := 5) (j := 5) rfl (by kernel_rfl) ?_
        refine zlBool (d := 62) (op := (.cmpI .eql (.tmp 61) (.const (.int .i64 5)))) (g := none) (j := 6) (decide (a2 = 5)) rfl (by kernel_rfl) (by kernel_rfl) (by kernel_rfl) (fun hc => ?_) (fun hc => ?_)
        · replace hS := cond_t hc hS
          refine zlRun (n := 5) (j := 11) rfl (by kernel_rfl) ?_
          refine zlEnd (by kernel_rfl) ?_
          refine zkSeq ?_
          refine zrCondT (by kernel_rfl) ?_
          refine zrReg ?_
          refine zlRun (n := 1) (j := 1) rfl (by kernel_rfl) ?_
          refine bindE hS (fun z12 hz12 hS => ?_)
          refine zlOp (d := some 68) (op := (.callr 85 [(.tmp 67)])) (g := none) (v := (.tup [])) (ups := [(0, ⟨0, some (.box ((.d (.int .i64 6)) :: ((.d (.int .i64 0)) :: ((.d (.str ([]))) :: ((.d (.str ([]))) :: ((.d (.str ([]))) :: ((.r (.msl 1 1 0 z12.length)) :: [])))))))⟩), (1, ⟨1, some (.own 31 6 (e_GAct.cells z12))⟩)]) (j := 2) rfl (by kernel_rfl) (by kernel_rfl) (ev_callr (args := [(.r (.ptr 0 0 0))]) (ids := [0, 1]) (bs := [(.box ((.d (.int .i64 a2)) :: ((.d (.int .i64 a3)) :: ((.d (.str a4)) :: ((.d (.str a5)) :: ((.d (.str a6)) :: ((.r (.msl 1 0 0 a7.length)) :: []))))))), (.own 31 6 (e_GAct.cells a7))]) (l := [(.r (.ptr 0 0 0))]) (bt := [(.box ((.d (.int .i64 a2)) :: ((.d (.int .i64 a3)) :: ((.d (.str a4)) :: ((.d (.str a5)) :: ((.d (.str a6)) :: ((.r (.msl 1 0 0 a7.length)) :: []))))))), (.own 31 6 (e_GAct.cells a7))]) (r := (.tup [])) (bs' := [(.box ((.d (.int .i64 6)) :: ((.d (.int .i64 0)) :: ((.d (.str ([]))) :: ((.d (.str ([]))) :: ((.d (.str ([]))) :: ((.r (.msl 1 0 0 z12.length)) :: []))))))), (.own 31 6 (e_GAct.cells z12))]) (by kernel_rfl) (by kernel_rfl) (by kernel_rfl) (by kernel_rfl) (by kernel_rfl) (f85_ok (d - 1) (dpt hd rfl) a2 a3 a4 a5 a6 a7 z12 hz12) (by kernel_rfl) (by kernel_rfl)) ?_
          refine zlEnd (by kernel_rfl) ?_
          refine zkBlk ?_
          refine zkNil ?_
          exact endQ hS hQ (fNorm ((congrArg (fun s => outR s 2 c61.res) (by kernel_rfl : finSt c61.fin _ = f61_fin 6 0 [] [] [] z12)).trans (f61_out 6 0 [] [] [] z12)))
        · replace hS := cond_f hc hS
          refine zlRun (n := 2) (j := 8) rfl (by kernel_rfl) ?_
          refine zlBool (d := 65) (op := (.cmpI .eql (.tmp 64) (.const (.int .i64 58)))) (g := (some (63, false))) (j := 9) (decide (a1 = 58)) rfl (by kernel_rfl) (by kernel_rfl) (by kernel_rfl) (fun hc => ?_) (fun hc => ?_)
          · replace hS := cond_t hc hS
            refine zlRun (n := 2) (j := 11) rfl (by kernel_rfl) ?_
            refine zlEnd (by kernel_rfl) ?_
            refine zkSeq ?_
            refine zrCondT (by kernel_rfl) ?_
            refine zrReg ?_
            refine zlRun (n := 1) (j := 1) rfl (by kernel_rfl) ?_
            refine bindE hS (fun z13 hz13 hS => ?_)
            refine zlOp (d := some 68) (op := (.callr 85 [(.tmp 67)])) (g := none) (v := (.tup [])) (ups := [(0, ⟨0, some (.box ((.d (.int .i64 6)) :: ((.d (.int .i64 0)) :: ((.d (.str ([]))) :: ((.d (.str ([]))) :: ((.d (.str ([]))) :: ((.r (.msl 1 1 0 z13.length)) :: [])))))))⟩), (1, ⟨1, some (.own 31 6 (e_GAct.cells z13))⟩)]) (j := 2) rfl (by kernel_rfl) (by kernel_rfl) (ev_callr (args := [(.r (.ptr 0 0 0))]) (ids := [0, 1]) (bs := [(.box ((.d (.int .i64 a2)) :: ((.d (.int .i64 a3)) :: ((.d (.str a4)) :: ((.d (.str a5)) :: ((.d (.str a6)) :: ((.r (.msl 1 0 0 a7.length)) :: []))))))), (.own 31 6 (e_GAct.cells a7))]) (l := [(.r (.ptr 0 0 0))]) (bt := [(.box ((.d (.int .i64 a2)) :: ((.d (.int .i64 a3)) :: ((.d (.str a4)) :: ((.d (.str a5)) :: ((.d (.str a6)) :: ((.r (.msl 1 0 0 a7.length)) :: []))))))), (.own 31 6 (e_GAct.cells a7))]) (r := (.tup [])) (bs' := [(.box ((.d (.int .i64 6)) :: ((.d (.int .i64 0)) :: ((.d (.str ([]))) :: ((.d (.str ([]))) :: ((.d (.str ([]))) :: ((.r (.msl 1 0 0 z13.length)) :: []))))))), (.own 31 6 (e_GAct.cells z13))]) (by kernel_rfl) (by kernel_rfl) (by kernel_rfl) (by kernel_rfl) (by kernel_rfl) (f85_ok (d - 1) (dpt hd rfl) a2 a3 a4 a5 a6 a7 z13 hz13) (by kernel_rfl) (by kernel_rfl)) ?_
            refine zlEnd (by kernel_rfl) ?_
            refine zkBlk ?_
            refine zkNil ?_
            exact endQ hS hQ (fNorm ((congrArg (fun s => outR s 2 c61.res) (by kernel_rfl : finSt c61.fin _ = f61_fin 6 0 [] [] [] z13)).trans (f61_out 6 0 [] [] [] z13)))
          · replace hS := cond_f hc hS
            refine zlRun (n := 2) (j := 11) rfl (by kernel_rfl) ?_
            refine zlEnd (by kernel_rfl) ?_
            refine zkSeq ?_
            refine zrCondF (by kernel_rfl) ?_
            refine zrSeq ?_
            refine zrReg ?_
            refine zlRun (n := 1) (j := 1) rfl (by kernel_rfl) ?_
            refine zlBool (d := 71) (op := (.cmpI .lss (.tmp 70) (.const (.int .i64 60)))) (g := none) (j := 2) (decide (a1 < 60)) rfl (by kernel_rfl) (by kernel_rfl) (by kernel_rfl) (fun hc => ?_) (fun hc => ?_)
            · replace hS := cond_t hc hS
              refine zlRun (n := 1) (j := 3) rfl (by kernel_rfl) ?_
              refine zlEnd (by kernel_rfl) ?_
              refine zkSeq ?_
              refine zrCondT (by kernel_rfl) ?_
              refine zrSeq ?_
              refine zrSeq ?_
              refine zrReg ?_
              refine zlRun (n := 6) (j := 6) rfl (by kernel_rfl) ?_
              refine zlBool (d := 78) (op := (.cmpI .lss (.tmp 77) (.const (.int .i64 100)))) (g := none) (j := 7) (decide ((a5.length : Int) < 100)) rfl (by kernel_rfl) (by kernel_rfl) (by kernel_rfl) (fun hc => ?_) (fun hc => ?_)
              · replace hS := cond_t hc hS
                refine zlEnd (by kernel_rfl) ?_
                refine zkSeq ?_
                refine zrCondT (by kernel_rfl) ?_
                refine zrReg ?_
                refine zlRun (n := 8) (j := 8) rfl (by kernel_rfl) ?_
                refine bindE hS (fun z14 hz14 hS => ?_)
                refine zlOp (d := some 87) (op := (.strO .add (.tmp 83) (.tmp 86))) (g := none) (v := (.d (.str z14))) (ups := []) (j := 9) rfl (by kernel_rfl) (by kernel_rfl) (ev_cat (a := a5) (c := (Utf8.encode (IntKind.i32.wrap (a1))).data.toList) (by kernel_rfl) (by kernel_rfl) hz14) ?_
                refine zlRun (n := 4) (j := 13) rfl (by kernel_rfl) ?_
                refine zlEnd (by kernel_rfl) ?_
                refine zkSeq ?_
                refine zrReg ?_
                refine zlRun (n := 5) (j := 5) rfl (by kernel_rfl) ?_
                refine zlEnd (by kernel_rfl) ?_
                refine zkBlk ?_
                refine zkNil ?_
                exact endQ hS hQ (fNorm ((congrArg (fun s => outR s 2 c61.res) (by kernel_rfl : finSt c61.fin _ = f61_fin 4 a3 a4 z14 a6 a7)).trans (f61_out 4 a3 a4 z14 a6 a7)))
              · replace hS := cond_f hc hS
                refine zlEnd (by kernel_rfl) ?_
                refine zkSeq ?_
                refine zrCondF (by kernel_rfl) ?_
                refine zrSkip ?_
                refine zkSeq ?_
                refine zrReg ?_
                refine zlRun (n := 5) (j := 5) rfl (by kernel_rfl) ?_
                refine zlEnd (by kernel_rfl) ?_
                refine zkBlk ?_
                refine zkNil ?_
                exact endQ hS hQ (fNorm ((congrArg (fun s => outR s 2 c61.res) (by kernel_rfl : finSt c61.fin _ = f61_fin 4 a3 a4 a5 a6 a7)).trans (f61_out 4 a3 a4 a5 a6 a7)))
            · replace hS := cond_f hc hS
              refine zlRun (n := 1) (j := 3) rfl (by kernel_rfl) ?_
              refine zlEnd (by kernel_rfl) ?_
              refine zkSeq ?_
              refine zrCondF (by kernel_rfl) ?_
              refine zrSeq ?_
              refine zrReg ?_
              refine zlRun (n := 5) (j := 5) rfl (by kernel_rfl) ?_
              refine zlBool (d := 101) (op := (.cmpI .eql (.tmp 100) (.const (.int .i64 3)))) (g := none) (j := 6) (decide (a2 = 3)) rfl (by kernel_rfl) (by kernel_rfl) (by kernel_rfl) (fun hc => ?_) (fun hc => ?_)
              · replace hS := cond_t hc hS
                refine zlRun (n := 1) (j := 7) rfl (by kernel_rfl) ?_
                refine zlEnd (by kernel_rfl) ?_
                refine zkSeq ?_
                refine zrCondT (by kernel_rfl) ?_
                refine zrReg ?_
                refine zlRun (n := 11) (j := 11) rfl (by kernel_rfl) ?_
                refine zlEnd (by kernel_rfl) ?_
                refine zkBlk ?_
                refine zkNil ?_
                exact endQ hS hQ (fNorm ((congrArg (fun s => outR s 2 c61.res) (by kernel_rfl : finSt c61.fin _ = f61_fin 4 a1 a4 a5 a6 a7)).trans (f61_out 4 a1 a4 a5 a6 a7)))
              · replace hS := cond_f hc hS
                refine zlRun (n := 1) (j := 7) rfl (by kernel_rfl) ?_
                refine zlEnd (by kernel_rfl) ?_
                refine zkSeq ?_
                refine zrCondF (by kernel_rfl) ?_
                refine zrReg ?_
                refine zlRun (n := 1) (j := 1) rfl (by kernel_rfl) ?_
                refine bindE hS (fun z15 hz15 hS => ?_)
                refine zlOp (d := some 7) (op := (.callr 85 [(.tmp 6)])) (g := none) (v := (.tup [])) (ups := [(0, ⟨0, some (.box ((.d (.int .i64 6)) :: ((.d (.int .i64 0)) :: ((.d (.str ([]))) :: ((.d (.str ([]))) :: ((.d (.str ([]))) :: ((.r (.msl 1 1 0 z15.length)) :: [])))))))⟩), (1, ⟨1, some (.own 31 6 (e_GAct.cells z15))⟩)]) (j := 2) rfl (by kernel_rfl) (by kernel_rfl) (ev_callr (args := [(.r (.ptr 0 0 0))]) (ids := [0, 1]) (bs := [(.box ((.d (.int .i64 a2)) :: ((.d (.int .i64 a3)) :: ((.d (.str a4)) :: ((.d (.str a5)) :: ((.d (.str a6)) :: ((.r (.msl 1 0 0 a7.length)) :: []))))))), (.own 31 6 (e_GAct.cells a7))]) (l := [(.r (.ptr 0 0 0))]) (bt := [(.box ((.d (.int .i64 a2)) :: ((.d (.int .i64 a3)) :: ((.d (.str a4)) :: ((.d (.str a5)) :: ((.d (.str a6)) :: ((.r (.msl 1 0 0 a7.length)) :: []))))))), (.own 31 6 (e_GAct.cells a7))]) (r := (.tup [])) (bs' := [(.box ((.d (.int .i64 6)) :: ((.d (.int .i64 0)) :: ((.d (.str ([]))) :: ((.d (.str ([]))) :: ((.d (.str ([]))) :: ((.r (.msl 1 0 0 z15.length)) :: []))))))), (.own 31 6 (e_GAct.cells z15))]) (by kernel_rfl) (by kernel_rfl) (by kernel_rfl) (by kernel_rfl) (by kernel_rfl) (f85_ok (d - 1) (dpt hd rfl) a2 a3 a4 a5 a6 a7 z15 hz15) (by kernel_rfl) (by kernel_rfl)) ?_
                refine zlEnd (by kernel_rfl) ?_
                refine zkBlk ?_
                refine zkNil ?_
                exact endQ hS hQ (fNorm ((congrArg (fun s => outR s 2 c61.res) (by kernel_rfl : finSt c61.fin _ = f61_fin 6 0 [] [] [] z15)).trans (f61_out 6 0 [] [] [] z15)))
/- (*farwriter/parse.machine).take -/
def f26_fin (p36 : Int) (p37 : Int) (p38 : List UInt8) (p39 : List UInt8) (p40 : List UInt8) (p41 : List GAct) : St := ⟨(fun _ => .un), (up (up (hB fun _ => 0) 1 ⟨0, some (.own 31 6 (e_GAct.cells p41))⟩) 0 ⟨0, some (.box ((.d (.int .i64 p36)) :: ((.d (.int .i64 p37)) :: ((.d (.str p38)) :: ((.d (.str p39)) :: ((.d (.str p40)) :: ((.r (.msl 1 0 0 p41.length)) :: [])))))))⟩)⟩
theorem f26_out (p36 : Int) (p37 : Int) (p38 : List UInt8) (p39 : List UInt8) (p40 : List UInt8) (p41 : List GAct) : outR (f26_fin p36 p37 p38 p39 p40 p41) 2 c26.res = some ((.tup []), [(.box ((.d (.int .i64 p36)) :: ((.d (.int .i64 p37)) :: ((.d (.str p38)) :: ((.d (.str p39)) :: ((.d (.str p40)) :: ((.r (.msl 1 0 0 p41.length)) :: []))))))), (.own 31 6 (e_GAct.cells p41))]) := by
  kernel_rfl
def f26_Q (r : Int × Int × (List UInt8) × (List UInt8) × (List UInt8) × (List GAct)) (e : PX) (st : St) : Prop := DoneF c26 2 ((.tup []), [(.box ((.d (.int .i64 r.1)) :: ((.d (.int .i64 r.2.1)) :: ((.d (.str r.2.2.1)) :: ((.d (.str r.2.2.2.1)) :: ((.d (.str r.2.2.2.2.1)) :: ((.r (.msl 1 0 0 r.2.2.2.2.2.length)) :: []))))))), (.own 31 6 (e_GAct.cells r.2.2.2.2.2))]) e st
def f26_j1_J (a1 : Int) (a2 : Int) (a3 : Int) (a4 : List UInt8) (a5 : List UInt8) (a6 : List UInt8) (a7 : List GAct) (p56 : Int) (p57 : Int) (p58 : List UInt8) (p59 : List UInt8) (p60 : List UInt8) (p61 : List GAct) : St := ⟨(up (up (fun _ => .un) 1 (.d (.int .i64 a1))) 0 (.r (.ptr 0 0 0))), (up (up (hB fun _ => 0) 1 ⟨0, some (.own 31 6 (e_GAct.cells p61))⟩) 0 ⟨0, some (.box ((.d (.int .i64 p56)) :: ((.d (.int .i64 p57)) :: ((.d (.str p58)) :: ((.d (.str p59)) :: ((.d (.str p60)) :: ((.r (.msl 1 0 0 p61.length)) :: [])))))))⟩)⟩
noncomputable def f26_j1 (a1 : Int) (a2 : Int) (a3 : Int) (a4 : List UInt8) (a5 : List UInt8) (a6 : List UInt8) (a7 : List GAct) (p56 : Int) (p57 : Int) (p58 : List UInt8) (p59 : List UInt8) (p60 : List UInt8) (p61 : List GAct) : Option (Int × Int × (List UInt8) × (List UInt8) × (List UInt8) × (List GAct)) := ((f59 a1 p56 p57 p58 p59 p60 p61).bind fun z14 => (bif z14.2.2.2.2.2.2 then (some (z14.1, z14.2.1, z14.2.2.1, z14.2.2.2.1, z14.2.2.2.2.1, z14.2.2.2.2.2.1)) else (bif (decide (z14.1 = 0)) then ((f56 (GAct.mk 1 a1 0 ([]) ([]) ([])) z14.1 z14.2.1 z14.2.2.1 z14.2.2.2.1 z14.2.2.2.2.1 z14.2.2.2.2.2.1).bind fun z15 => (some (z15.1, z15.2.1, z15.2.2.1, z15.2.2.2.1, z15.2.2.2.2.1, z15.2.2.2.2.2))) else (bif (decide (160 ≤ a1)) then ((f58 0 z14.1 z14.2.1 z14.2.2.1 z14.2.2.2.1 z14.2.2.2.2.1 z14.2.2.2.2.2.1).bind fun z16 => (some (z16.1, 0, [], [], [], z16.2))) else (bif (decide (z14.1 ≤ 2)) then ((f60 a1 z14.1 z14.2.1 z14.2.2.1 z14.2.2.2.1 z14.2.2.2.2.1 z14.2.2.2.2.2.1).bind fun z17 => (some (z17.1, z17.2.1, z17.2.2.1, z17.2.2.2.1, z17.2.2.2.2.1, z17.2.2.2.2.2))) else ((f61 a1 z14.1 z14.2.1 z14.2.2.1 z14.2.2.2.1 z14.2.2.2.2.1 z14.2.2.2.2.2.1).bind fun z18 => (some (z18.1, z18.2.1, z18.2.2.1, z18.2.2.2.1, z18.2.2.2.2.1, z18.2.2.2.2.2))))))))
theorem f26_j1_ok {d : Nat} (hd : 5 ≤ d) (a1 : Int) (a2 : Int) (a3 : Int) (a4 : List UInt8) (a5 : List UInt8) (a6 : List UInt8) (a7 : List GAct) {r : Int × Int × (List UInt8) × (List UInt8) × (List UInt8) × (List GAct)} {Q : PX → St → Prop} (hQ : ∀ e st', f26_Q r e st' → Q e st') (p56 : Int) (p57 : Int) (p58 : List UInt8) (p59 : List UInt8) (p60 : List UInt8) (p61 : List GAct) (hS : f26_j1 a1 a2 a3 a4 a5 a6 a7 p56 p57 p58 p59 p60 p61 = some r) {st : St} (he : keepSt [0, 1] [(0, .id 0), (1, .id 1)] [] st = f26_j1_J a1 a2 a3 a4 a5 a6 a7 p56 p57 p58 p59 p60 p61) : ZR (lev codes baseL (d - 1)) Q c26_1 [] st := by
  refine zrKeep he ?_
  unfold f26_j1 at hS
  refine zrBlk ?_
  refine zrSeq ?_
  refine zrReg ?_
  refine zlRun (n := 2) (j := 2) rfl (by kernel_rfl) ?_
  refine bindE hS (fun z14 hz14 hS => ?_)
  refine zlOp (d := some 53) (op := (.callr 59 [(.tmp 51), (.tmp 52)])) (g := none) (v := (.d (.bool z14.2.2.2.2.2.2))) (ups := [(0, ⟨0, some (.box ((.d (.int .i64 z14.1)) :: ((.d (.int .i64 z14.2.1)) :: ((.d (.str z14.2.2.1)) :: ((.d (.str z14.2.2.2.1)) :: ((.d (.str z14.2.2.2.2.1)) :: ((.r (.msl 1 1 0 z14.2.2.2.2.2.1.length)) :: [])))))))⟩), (1, ⟨1, some (.own 31 6 (e_GAct.cells z14.2.2.2.2.2.1))⟩)]) (j := 3) rfl (by kernel_rfl) (by kernel_rfl) (ev_callr (args := [(.r (.ptr 0 0 0)), (.d (.int .i64 a1))]) (ids := [0, 1]) (bs := [(.box ((.d (.int .i64 p56)) :: ((.d (.int .i64 p57)) :: ((.d (.str p58)) :: ((.d (.str p59)) :: ((.d (.str p60)) :: ((.r (.msl 1 0 0 p61.length)) :: []))))))), (.own 31 6 (e_GAct.cells p61))]) (l := [(.r (.ptr 0 0 0)), (.d (.int .i64 a1))]) (bt := [(.box ((.d (.int .i64 p56)) :: ((.d (.int .i64 p57)) :: ((.d (.str p58)) :: ((.d (.str p59)) :: ((.d (.str p60)) :: ((.r (.msl 1 0 0 p61.length)) :: []))))))), (.own 31 6 (e_GAct.cells p61))]) (r := (.d (.bool z14.2.2.2.2.2.2))) (bs' := [(.box ((.d (.int .i64 z14.1)) :: ((.d (.int .i64 z14.2.1)) :: ((.d (.str z14.2.2.1)) :: ((.d (.str z14.2.2.2.1)) :: ((.d (.str z14.2.2.2.2.1)) :: ((.r (.msl 1 0 0 z14.2.2.2.2.2.1.length)) :: []))))))), (.own 31 6 (e_GAct.cells z14.2.2.2.2.2.1))]) (by kernel_rfl) (by kernel_rfl) (by kernel_rfl) (by kernel_rfl) (by kernel_rfl) (f59_ok (d - 1) (dpt hd rfl) a1 p56 p57 p58 p59 p60 p61 z14 hz14) (by kernel_rfl) (by kernel_rfl)) ?_
  refine zlRun (n := 1) (j := 4) rfl (by kernel_rfl) ?_
  refine zlEnd (by kernel_rfl) ?_
  refine zkSeq ?_
  refine zrSplit 50 z14.2.2.2.2.2.2 (by kernel_rfl) (fun hc => ?_) (fun hc => ?_)
  · replace hS := cond_t hc hS
    refine zrCondT (by kernel_rfl) ?_
    refine zrSkip ?_
    refine zkBlk ?_
    refine zkNil ?_
    exact endQ hS hQ (fNorm ((congrArg (fun s => outR s 2 c26.res) (by kernel_rfl : finSt c26.fin _ = f26_fin z14.1 z14.2.1 z14.2.2.1 z14.2.2.2.1 z14.2.2.2.2.1 z14.2.2.2.2.2.1)).trans (f26_out z14.1 z14.2.1 z14.2.2.1 z14.2.2.2.1 z14.2.2.2.2.1 z14.2.2.2.2.2.1)))
  · replace hS := cond_f hc hS
    refine zrCondF (by kernel_rfl) ?_
    refine zrSeq ?_
    refine zrReg ?_
    refine zlRun (n := 5) (j := 5) rfl (by kernel_rfl) ?_
    refine zlBool (d := 60) (op := (.cmpI .eql (.tmp 59) (.const (.int .i64 0)))) (g := none) (j := 6) (decide (z14.1 = 0)) rfl (by kernel_rfl) (by kernel_rfl) (by kernel_rfl) (fun hc => ?_) (fun hc => ?_)
    · replace hS := cond_t hc hS
      refine zlRun (n := 1) (j := 7) rfl (by kernel_rfl) ?_
      refine zlEnd (by kernel_rfl) ?_
      refine zkSeq ?_
      refine zrCondT (by kernel_rfl) ?_
      refine zrReg ?_
      refine zlRun (n := 3) (j := 3) rfl (by kernel_rfl) ?_
      refine bindE hS (fun z15 hz15 hS => ?_)
      refine zlOp (d := some 64) (op := (.callr 56 [(.tmp 61), (.tmp 63)])) (g := none) (v := (.tup [])) (ups := [(0, ⟨0, some (.box ((.d (.int .i64 z15.1)) :: ((.d (.int .i64 z15.2.1)) :: ((.d (.str z15.2.2.1)) :: ((.d (.str z15.2.2.2.1)) :: ((.d (.str z15.2.2.2.2.1)) :: ((.r (.msl 1 2 0 z15.2.2.2.2.2.length)) :: [])))))))⟩), (1, ⟨2, some (.own 31 6 (e_GAct.cells z15.2.2.2.2.2))⟩)]) (j := 4) rfl (by kernel_rfl) (by kernel_rfl) (ev_callr (args := [(.r (.ptr 0 0 0)), (.agg ((.d (.int .i64 1)) :: ((.d (.int .i64 a1)) :: ((.d (.int .i64 0)) :: ((.d (.str ([]))) :: ((.d (.sl ([] : List Int).length ((eInt .i64).cells ([])))) :: ((.d (.str ([]))) :: [])))))))]) (ids := [0, 1]) (bs := [(.box ((.d (.int .i64 z14.1)) :: ((.d (.int .i64 z14.2.1)) :: ((.d (.str z14.2.2.1)) :: ((.d (.str z14.2.2.2.1)) :: ((.d (.str z14.2.2.2.2.1)) :: ((.r (.msl 1 1 0 z14.2.2.2.2.2.1.length)) :: []))))))), (.own 31 6 (e_GAct.cells z14.2.2.2.2.2.1))]) (l := [(.r (.ptr 0 0 0)), (.agg ((.d (.int .i64 1)) :: ((.d (.int .i64 a1)) :: ((.d (.int .i64 0)) :: ((.d (.str ([]))) :: ((.d (.sl ([] : List Int).length ((eInt .i64).cells ([])))) :: ((.d (.str ([]))) :: [])))))))]) (bt := [(.box ((.d (.int .i64 z14.1)) :: ((.d (.int .i64 z14.2.1)) :: ((.d (.str z14.2.2.1)) :: ((.d (.str z14.2.2.2.1)) :: ((.d (.str z14.2.2.2.2.1)) :: ((.r (.msl 1 0 0 z14.2.2.2.2.2.1.length)) :: []))))))), (.own 31 6 (e_GAct.cells z14.2.2.2.2.2.1))]) (r := (.tup [])) (bs' := [(.box ((.d (.int .i64 z15.1)) :: ((.d (.int .i64 z15.2.1)) :: ((.d (.str z15.2.2.1)) :: ((.d (.str z15.2.2.2.1)) :: ((.d (.str z15.2.2.2.2.1)) :: ((.r (.msl 1 0 0 z15.2.2.2.2.2.length)) :: []))))))), (.own 31 6 (e_GAct.cells z15.2.2.2.2.2))]) (by kernel_rfl) (by kernel_rfl) (by kernel_rfl) (by kernel_rfl) (by kernel_rfl) (f56_ok (d - 1) (dpt hd rfl) (GAct.mk 1 a1 0 ([]) ([]) ([])) z14.1 z14.2.1 z14.2.2.1 z14.2.2.2.1 z14.2.2.2.2.1 z14.2.2.2.2.2.1 z15 hz15) (by kernel_rfl) (by kernel_rfl)) ?_
      refine zlEnd (by kernel_rfl) ?_
      refine zkBlk ?_
      refine zkNil ?_
      exact endQ hS hQ (fNorm ((congrArg (fun s => outR s 2 c26.res) (by kernel_rfl : finSt c26.fin _ = f26_fin z15.1 z15.2.1 z15.2.2.1 z15.2.2.2.1 z15.2.2.2.2.1 z15.2.2.2.2.2)).trans (f26_out z15.1 z15.2.1 z15.2.2.1 z15.2.2.2.1 z15.2.2.2.2.1 z15.2.2.2.2.2)))
    · replace hS := cond_f hc hS
      refine zlRun (n := 1) (j := 7) rfl (by kernel_rfl) ?_
      refine zlEnd (by kernel_rfl) ?_
      refine zkSeq ?_
      refine zrCondF (by kernel_rfl) ?_
      refine zrSeq ?_
      refine zrReg ?_
      refine zlRun (n := 1) (j := 1) rfl (by kernel_rfl) ?_
      refine zlBool (d := 67) (op := (.cmpI .geq (.tmp 66) (.const (.int .i64 160)))) (g := none) (j := 2) (decide (160 ≤ a1)) rfl (by kernel_rfl) (by kernel_rfl) (by kernel_rfl) (fun hc => ?_) (fun hc => ?_)
      · replace hS := cond_t hc hS
        refine zlRun (n := 1) (j := 3) rfl (by kernel_rfl) ?_
        refine zlEnd (by kernel_rfl) ?_
        refine zkSeq ?_
        refine zrCondT (by kernel_rfl) ?_
        refine zrReg ?_
        refine zlRun (n := 1) (j := 1) rfl (by kernel_rfl) ?_
        refine bindE hS (fun z16 hz16 hS => ?_)
        refine zlOp (d := some 69) (op := (.callr 58 [(.tmp 68), (.const (.int .i64 0))])) (g := none) (v := (.tup [])) (ups := [(0, ⟨0, some (.box ((.d (.int .i64 z16.1)) :: ((.d (.int .i64 0)) :: ((.d (.str ([]))) :: ((.d (.str ([]))) :: ((.d (.str ([]))) :: ((.r (.msl 1 2 0 z16.2.length)) :: [])))))))⟩), (1, ⟨2, some (.own 31 6 (e_GAct.cells z16.2))⟩)]) (j := 2) rfl (by kernel_rfl) (by kernel_rfl) (ev_callr (args := [(.r (.ptr 0 0 0)), (.d (.int .i64 0))]) (ids := [0, 1]) (bs := [(.box ((.d (.int .i64 z14.1)) :: ((.d (.int .i64 z14.2.1)) :: ((.d (.str z14.2.2.1)) :: ((.d (.str z14.2.2.2.1)) :: ((.d (.str z14.2.2.2.2.1)) :: ((.r (.msl 1 1 0 z14.2.2.2.2.2.1.length)) :: []))))))), (.own 31 6 (e_GAct.cells z14.2.2.2.2.2.1))]) (l := [(.r (.ptr 0 0 0)), (.d (.int .i64 0))]) (bt := [(.box ((.d (.int .i64 z14.1)) :: ((.d (.int .i64 z14.2.1)) :: ((.d (.str z14.2.2.1)) :: ((.d (.str z14.2.2.2.1)) :: ((.d (.str z14.2.2.2.2.1)) :: ((.r (.msl 1 0 0 z14.2.2.2.2.2.1.length)) :: []))))))), (.own 31 6 (e_GAct.cells z14.2.2.2.2.2.1))]) (r := (.tup [])) (bs' := [(.box ((.d (.int .i64 z16.1)) :: ((.d (.int .i64 0)) :: ((.d (.str ([]))) :: ((.d (.str ([]))) :: ((.d (.str ([]))) :: ((.r (.msl 1 0 0 z16.2.length)) :: []))))))), (.own 31 6 (e_GAct.cells z16.2))]) (by kernel_rfl) (by kernel_rfl) (by kernel_rfl) (by kernel_rfl) (by kernel_rfl) (f58_ok (d - 1) (dpt hd rfl) 0 z14.1 z14.2.1 z14.2.2.1 z14.2.2.2.1 z14.2.2.2.2.1 z14.2.2.2.2.2.1 z16 hz16) (by kernel_rfl) (by kernel_rfl)) ?_
        refine zlEnd (by kernel_rfl) ?_
        refine zkBlk ?_
        refine zkNil ?_
        exact endQ hS hQ (fNorm ((congrArg (fun s => outR s 2 c26.res) (by kernel_rfl : finSt c26.fin _ = f26_fin z16.1 0 [] [] [] z16.2)).trans (f26_out z16.1 0 [] [] [] z16.2)))
      · replace hS := cond_f hc hS
        refine zlRun (n := 1) (j := 3) rfl (by kernel_rfl) ?_
        refine zlEnd (by kernel_rfl) ?_
        refine zkSeq ?_
        refine zrCondF (by kernel_rfl) ?_
        refine zrSeq ?_
        refine zrReg ?_
        refine zlRun (n := 5) (j := 5) rfl (by kernel_rfl) ?_
        refine zlBool (d := 76) (op := (.cmpI .leq (.tmp 75) (.const (.int .i64 2)))) (g := none) (j := 6) (decide (z14.1 ≤ 2)) rfl (by kernel_rfl) (by kernel_rfl) (by kernel_rfl) (fun hc => ?_) (fun hc => ?_)
        · replace hS := cond_t hc hS
          refine zlRun (n := 1) (j := 7) rfl (by kernel_rfl) ?_
          refine zlEnd (by kernel_rfl) ?_
          refine zkSeq ?_
          refine zrCondT (by kernel_rfl) ?_
          refine zrReg ?_
          refine zlRun (n := 2) (j := 2) rfl (by kernel_rfl) ?_
          refine bindE hS (fun z17 hz17 hS => ?_)
          refine zlOp (d := some 79) (op := (.callr 60 [(.tmp 77), (.tmp 78)])) (g := none) (v := (.tup [])) (ups := [(0, ⟨0, some (.box ((.d (.int .i64 z17.1)) :: ((.d (.int .i64 z17.2.1)) :: ((.d (.str z17.2.2.1)) :: ((.d (.str z17.2.2.2.1)) :: ((.d (.str z17.2.2.2.2.1)) :: ((.r (.msl 1 2 0 z17.2.2.2.2.2.length)) :: [])))))))⟩), (1, ⟨2, some (.own 31 6 (e_GAct.cells z17.2.2.2.2.2))⟩)]) (j := 3) rfl (by kernel_rfl) (by kernel_rfl) (ev_callr (args := [(.r (.ptr 0 0 0)), (.d (.int .i64 a1))]) (ids := [0, 1]) (bs := [(.box ((.d (.int .i64 z14.1)) :: ((.d (.int .i64 z14.2.1)) :: ((.d (.str z14.2.2.1)) :: ((.d (.str z14.2.2.2.1)) :: ((.d (.str z14.2.2.2.2.1)) :: ((.r (.msl 1 1 0 z14.2.2.2.2.2.1.length)) :: []))))))), (.own 31 6 (e_GAct.cells z14.2.2.2.2.2.1))]) (l := [(.r (.ptr 0 0 0)), (.d (.int .i64 a1))]) (bt := [(.box ((.d (.int .i64 z14.1)) :: ((.d (.int .i64 z14.2.1)) :: ((.d (.str z14.2.2.1)) :: ((.d (.str z14.2.2.2.1)) :: ((.d (.str z14.2.2.2.2.1)) :: ((.r (.msl 1 0 0 z14.2.2.2.2.2.1.length)) :: []))))))), (.own 31 6 (e_GAct.cells z14.2.2.2.2.2.1))]) (r := (.tup [])) (bs' := [(.box ((.d (.int .i64 z17.1)) :: ((.d (.int .i64 z17.2.1)) :: ((.d (.str z17.2.2.1)) :: ((.d (.str z17.2.2.2.1)) :: ((.d (.str z17.2.2.2.2.1)) :: ((.r (.msl 1 0 0 z17.2.2.2.2.2.length)) :: []))))))), (.own 31 6 (e_GAct.cells z17.2.2.2.2.2))]) (by kernel_rfl) (by kernel_rfl) (by kernel_rfl) (by kernel_rfl) (by kernel_rfl) (f60_ok (d - 1) (dpt hd rfl) a1 z14.1 z14.2.1 z14.2.2.1 z14.2.2.2.1 z14.2.2.2.2.1 z14.2.2.2.2.2.1 z17 hz17) (by kernel_rfl) (by kernel_rfl)) ?_
          refine zlEnd (by kernel_rfl) ?_
          refine zkBlk ?_
          refine zkNil ?_
          exact endQ hS hQ (fNorm ((congrArg (fun s => outR s 2 c26.res) (by kernel_rfl : finSt c26.fin _ = f26_fin z17.1 z17.2.1 z17.2.2.1 z17.2.2.2.1 z17.2.2.2.2.1 z17.2.2.2.2.2)).trans (f26_out z17.1 z17.2.1 z17.2.2.1 z17.2.2.2.1 z17.2.2.2.2.1 z17.2.2.2.2.2)))
        · replace hS := cond_f hc hS
          refine zlRun (n := 1) (j := 7) rfl (by kernel_rfl) ?_
          refine zlEnd (by kernel_rfl) ?_
          refine zkSeq ?_
          refine zrCondF (by kernel_rfl) ?_
          refine zrReg ?_
          refine zlRun (n := 2) (j := 2) rfl (by kernel_rfl) ?_
          refine bindE hS (fun z18 hz18 hS => ?_)
          refine zlOp (d := some 49) (op := (.callr 61 [(.tmp 47), (.tmp 48)])) (g := none) (v := (.tup [])) (ups := [(0, ⟨0, some (.box ((.d (.int .i64 z18.1)) :: ((.d (.int .i64 z18.2.1)) :: ((.d (.str z18.2.2.1)) :: ((.d (.str z18.2.2.2.1)) :: ((.d (.str z18.2.2.2.2.1)) :: ((.r (.msl 1 2 0 z18.2.2.2.2.2.length)) :: [])))))))⟩), (1, ⟨2, some (.own 31 6 (e_GAct.cells z18.2.2.2.2.2))⟩)]) (j := 3) rfl (by kernel_rfl) (by kernel_rfl) (ev_callr (args := [(.r (.ptr 0 0 0)), (.d (.int .i64 a1))]) (ids := [0, 1]) (bs := [(.box ((.d (.int .i64 z14.1)) :: ((.d (.int .i64 z14.2.1)) :: ((.d (.str z14.2.2.1)) :: ((.d (.str z14.2.2.2.1)) :: ((.d (.str z14.2.2.2.2.1)) :: ((.r (.msl 1 1 0 z14.2.2.2.2.2.1.length)) :: []))))))), (.own 31 6 (e_GAct.cells z14.2.2.2.2.2.1))]) (l := [(.r (.ptr 0 0 0)), (.d (.int .i64 a1))]) (bt := [(.box ((.d (.int .i64 z14.1)) :: ((.d (.int .i64 z14.2.1)) :: ((.d (.str z14.2.2.1)) :: ((.d (.str z14.2.2.2.1)) :: ((.d (.str z14.2.2.2.2.1)) :: ((.r (.msl 1 0 0 z14.2.2.2.2.2.1.length)) :: []))))))), (.own 31 6 (e_GAct.cells z14.2.2.2.2.2.1))]) (r := (.tup [])) (bs' := [(.box ((.d (.int .i64 z18.1)) :: ((.d (.int .i64 z18.2.1)) :: ((.d (.str z18.2.2.1)) :: ((.d (.str z18.2.2.2.1)) :: ((.d (.str z18.2.2.2.2.1)) :: ((.r (.msl 1 0 0 z18.2.2.2.2.2.length)) :: []))))))), (.own 31 6 (e_GAct.cells z18.2.2.2.2.2))]) (by kernel_rfl) (by kernel_rfl) (by kernel_rfl) (by kernel_rfl) (by kernel_rfl) (f61_ok (d - 1) (dpt hd rfl) a1 z14.1 z14.2.1 z14.2.2.1 z14.2.2.2.1 z14.2.2.2.2.1 z14.2.2.2.2.2.1 z18 hz18) (by kernel_rfl) (by kernel_rfl)) ?_
          refine zlEnd (by kernel_rfl) ?_
          refine zkBlk ?_
          refine zkNil ?_
          exact endQ hS hQ (fNorm ((congrArg (fun s => outR s 2 c26.res) (by kernel_rfl : finSt c26.fin _ = f26_fin z18.1 z18.2.1 z18.2.2.1 z18.2.2.2.1 z18.2.2.2.2.1 z18.2.2.2.2.2)).trans (f26_out z18.1 z18.2.1 z18.2.2.1 z18.2.2.2.1 z18.2.2.2.2.1 z18.2.2.2.2.2)))
def f26_j3_J (a1 : Int) (a2 : Int) (a3 : Int) (a4 : List UInt8) (a5 : List UInt8) (a6 : List UInt8) (a7 : List GAct) (p67 : Bool) : St := ⟨(up (up (up (fun _ => .un) 22 (.d (.bool p67))) 1 (.d (.int .i64 a1))) 0 (.r (.ptr 0 0 0))), (up (up (hB fun _ => 0) 1 ⟨0, some (.own 31 6 (e_GAct.cells a7))⟩) 0 ⟨0, some (.box ((.d (.int .i64 a2)) :: ((.d (.int .i64 a3)) :: ((.d (.str a4)) :: ((.d (.str a5)) :: ((.d (.str a6)) :: ((.r (.msl 1 0 0 a7.length)) :: [])))))))⟩)⟩
noncomputable def f26_j3 (a1 : Int) (a2 : Int) (a3 : Int) (a4 : List UInt8) (a5 : List UInt8) (a6 : List UInt8) (a7 : List GAct) (p67 : Bool) : Option (Int × Int × (List UInt8) × (List UInt8) × (List UInt8) × (List GAct)) := (bif p67 then (bif (decide (a1 = 92)) then (bif (decide (a2 = 8)) then ((f56 (GAct.mk 5 0 0 ([]) ([]) a6) a2 a3 a4 a5 a6 a7).bind fun z20 => ((f57 0 z20.1 z20.2.1 z20.2.2.1 z20.2.2.2.1 z20.2.2.2.2.1 z20.2.2.2.2.2).bind fun z21 => (some (z21.1, 0, [], [], [], z21.2)))) else ((f56 (GAct.mk 6 0 0 ([]) ([]) ([])) a2 a3 a4 a5 a6 a7).bind fun z22 => ((f57 0 z22.1 z22.2.1 z22.2.2.1 z22.2.2.2.1 z22.2.2.2.2.1 z22.2.2.2.2.2).bind fun z23 => (some (z23.1, 0, [], [], [], z23.2))))) else ((f58 1 a2 a3 a4 a5 a6 a7).bind fun z24 => (f26_j1 a1 a2 a3 a4 a5 a6 a7 z24.1 0 [] [] [] z24.2))) else (f26_j1 a1 a2 a3 a4 a5 a6 a7 a2 a3 a4 a5 a6 a7))
theorem f26_j3_ok {d : Nat} (hd : 5 ≤ d) (a1 : Int) (a2 : Int) (a3 : Int) (a4 : List UInt8) (a5 : List UInt8) (a6 : List UInt8) (a7 : List GAct) {r : Int × Int × (List UInt8) × (List UInt8) × (List UInt8) × (List GAct)} {Q : PX → St → Prop} (hQ : ∀ e st', f26_Q r e st' → Q e st') (p67 : Bool) (hS : f26_j3 a1 a2 a3 a4 a5 a6 a7 p67 = some r) {st : St} (he : keepSt [0, 1, 22] [(0, .id 0), (1, .id 1)] [] st = f26_j3_J a1 a2 a3 a4 a5 a6 a7 p67) : ZR (lev codes baseL (d - 1)) Q c26_2 [.blk 0, .seq c26_1] st := by
  refine zrKeep he ?_
  unfold f26_j3 at hS
  refine zrSplit 22 p67 (by kernel_rfl) (fun hc => ?_) (fun hc => ?_)
  · replace hS := cond_t hc hS
    refine zrCondT (by kernel_rfl) ?_
    refine zrSeq ?_
    refine zrSeq ?_
    refine zrReg ?_
    refine zlRun (n := 1) (j := 1) rfl (by kernel_rfl) ?_
    refine zlBool (d := 26) (op := (.cmpI .eql (.tmp 25) (.const (.int .i64 92)))) (g := none) (j := 2) (decide (a1 = 92)) rfl (by kernel_rfl) (by kernel_rfl) (by kernel_rfl) (fun hc => ?_) (fun hc => ?_)
    · replace hS := cond_t hc hS
      refine zlEnd (by kernel_rfl) ?_
      refine zkSeq ?_
      refine zrCondT (by kernel_rfl) ?_
      refine zrSeq ?_
      refine zrReg ?_
      refine zlRun (n := 3) (j := 3) rfl (by kernel_rfl) ?_
      refine zlEnd (by kernel_rfl) ?_
      refine zkSeq ?_
      refine zrSeq ?_
      refine zrSeq ?_
      refine zrReg ?_
      refine zlRun (n := 5) (j := 5) rfl (by kernel_rfl) ?_
      refine zlBool (d := 33) (op := (.cmpI .eql (.tmp 32) (.const (.int .i64 8)))) (g := none) (j := 6) (decide (a2 = 8)) rfl (by kernel_rfl) (by kernel_rfl) (by kernel_rfl) (fun hc => ?_) (fun hc => ?_)
      · replace hS := cond_t hc hS
        refine zlEnd (by kernel_rfl) ?_
        refine zkSeq ?_
        refine zrCondT (by kernel_rfl) ?_
        refine zrReg ?_
        refine zlRun (n := 7) (j := 7) rfl (by kernel_rfl) ?_
        refine zlEnd (by kernel_rfl) ?_
        refine zkSeq ?_
        refine zrSeq ?_
        refine zrReg ?_
        refine zlRun (n := 2) (j := 2) rfl (by kernel_rfl) ?_
        refine bindE hS (fun z20 hz20 hS => ?_)
        refine zlOp (d := some 42) (op := (.callr 56 [(.tmp 40), (.tmp 41)])) (g := none) (v := (.tup [])) (ups := [(0, ⟨0, some (.box ((.d (.int .i64 z20.1)) :: ((.d (.int .i64 z20.2.1)) :: ((.d (.str z20.2.2.1)) :: ((.d (.str z20.2.2.2.1)) :: ((.d (.str z20.2.2.2.2.1)) :: ((.r (.msl 1 1 0 z20.2.2.2.2.2.length)) :: [])))))))⟩), (1, ⟨1, some (.own 31 6 (e_GAct.cells z20.2.2.2.2.2))⟩)]) (j := 3) rfl (by kernel_rfl) (by kernel_rfl) (ev_callr (args := [(.r (.ptr 0 0 0)), (.agg ((.d (.int .i64 5)) :: ((.d (.int .i64 0)) :: ((.d (.int .i64 0)) :: ((.d (.str ([]))) :: ((.d (.sl ([] : List Int).length ((eInt .i64).cells ([])))) :: ((.d (.str a6)) :: [])))))))]) (ids := [0, 1]) (bs := [(.box ((.d (.int .i64 a2)) :: ((.d (.int .i64 a3)) :: ((.d (.str a4)) :: ((.d (.str a5)) :: ((.d (.str a6)) :: ((.r (.msl 1 0 0 a7.length)) :: []))))))), (.own 31 6 (e_GAct.cells a7))]) (l := [(.r (.ptr 0 0 0)), (.agg ((.d (.int .i64 5)) :: ((.d (.int .i64 0)) :: ((.d (.int .i64 0)) :: ((.d (.str ([]))) :: ((.d (.sl ([] : List Int).length ((eInt .i64).cells ([])))) :: ((.d (.str a6)) :: [])))))))]) (bt := [(.box ((.d (.int .i64 a2)) :: ((.d (.int .i64 a3)) :: ((.d (.str a4)) :: ((.d (.str a5)) :: ((.d (.str a6)) :: ((.r (.msl 1 0 0 a7.length)) :: []))))))), (.own 31 6 (e_GAct.cells a7))]) (r := (.tup [])) (bs' := [(.box ((.d (.int .i64 z20.1)) :: ((.d (.int .i64 z20.2.1)) :: ((.d (.str z20.2.2.1)) :: ((.d (.str z20.2.2.2.1)) :: ((.d (.str z20.2.2.2.2.1)) :: ((.r (.msl 1 0 0 z20.2.2.2.2.2.length)) :: []))))))), (.own 31 6 (e_GAct.cells z20.2.2.2.2.2))]) (by kernel_rfl) (by kernel_rfl) (by kernel_rfl) (by kernel_rfl) (by kernel_rfl) (f56_ok (d - 1) (dpt hd rfl) (GAct.mk 5 0 0 ([]) ([]) a6) a2 a3 a4 a5 a6 a7 z20 hz20) (by kernel_rfl) (by kernel_rfl)) ?_
        refine zlEnd (by kernel_rfl) ?_
        refine zkSeq ?_
        refine zrSeq ?_
        refine zrReg ?_
        refine zlRun (n := 1) (j := 1) rfl (by kernel_rfl) ?_
        refine bindE hS (fun z21 hz21 hS => ?_)
        refine zlOp (d := some 44) (op := (.callr 57 [(.tmp 43), (.const (.int .i64 0))])) (g := none) (v := (.tup [])) (ups := [(0, ⟨0, some (.box ((.d (.int .i64 z21.1)) :: ((.d (.int .i64 0)) :: ((.d (.str ([]))) :: ((.d (.str ([]))) :: ((.d (.str ([]))) :: ((.r (.msl 1 2 0 z21.2.length)) :: [])))))))⟩), (1, ⟨2, some (.own 31 6 (e_GAct.cells z21.2))⟩)]) (j := 2) rfl (by kernel_rfl) (by kernel_rfl) (ev_callr (args := [(.r (.ptr 0 0 0)), (.d (.int .i64 0))]) (ids := [0, 1]) (bs := [(.box ((.d (.int .i64 z20.1)) :: ((.d (.int .i64 z20.2.1)) :: ((.d (.str z20.2.2.1)) :: ((.d (.str z20.2.2.2.1)) :: ((.d (.str z20.2.2.2.2.1)) :: ((.r (.msl 1 1 0 z20.2.2.2.2.2.length)) :: []))))))), (.own 31 6 (e_GAct.cells z20.2.2.2.2.2))]) (l := [(.r (.ptr 0 0 0)), (.d (.int .i64 0))]) (bt := [(.box ((.d (.int .i64 z20.1)) :: ((.d (.int .i64 z20.2.1)) :: ((.d (.str z20.2.2.1)) :: ((.d (.str z20.2.2.2.1)) :: ((.d (.str z20.2.2.2.2.1)) :: ((.r (.msl 1 0 0 z20.2.2.2.2.2.length)) :: []))))))), (.own 31 6 (e_GAct.cells z20.2.2.2.2.2))]) (r := (.tup [])) (bs' := [(.box ((.d (.int .i64 z21.1)) :: ((.d (.int .i64 0)) :: ((.d (.str ([]))) :: ((.d (.str ([]))) :: ((.d (.str ([]))) :: ((.r (.msl 1 0 0 z21.2.length)) :: []))))))), (.own 31 6 (e_GAct.cells z21.2))]) (by kernel_rfl) (by kernel_rfl) (by kernel_rfl) (by kernel_rfl) (by kernel_rfl) (f57_ok (d - 1) (dpt hd rfl) 0 z20.1 z20.2.1 z20.2.2.1 z20.2.2.2.1 z20.2.2.2.2.1 z20.2.2.2.2.2 z21 hz21) (by kernel_rfl) (by kernel_rfl)) ?_
        refine zlEnd (by kernel_rfl) ?_
        refine zkSeq ?_
        refine zrRet ?_
        refine zkSeqR ?_
        refine zkBlkR ?_
        refine zkSeqR ?_
        refine zkNil ?_
        exact endQ hS hQ (fRet ((congrArg (fun s => outR s 2 c26.res) (by kernel_rfl : finSt c26.fin _ = f26_fin z21.1 0 [] [] [] z21.2)).trans (f26_out z21.1 0 [] [] [] z21.2)))
      · replace hS := cond_f hc hS
        refine zlEnd (by kernel_rfl) ?_
        refine zkSeq ?_
        refine zrCondF (by kernel_rfl) ?_
        refine zrSkip ?_
        refine zkSeq ?_
        refine zrSeq ?_
        refine zrReg ?_
        refine zlRun (n := 2) (j := 2) rfl (by kernel_rfl) ?_
        refine bindE hS (fun z22 hz22 hS => ?_)
        refine zlOp (d := some 42) (op := (.callr 56 [(.tmp 40), (.tmp 41)])) (g := none) (v := (.tup [])) (ups := [(0, ⟨0, some (.box ((.d (.int .i64 z22.1)) :: ((.d (.int .i64 z22.2.1)) :: ((.d (.str z22.2.2.1)) :: ((.d (.str z22.2.2.2.1)) :: ((.d (.str z22.2.2.2.2.1)) :: ((.r (.msl 1 1 0 z22.2.2.2.2.2.length)) :: [])))))))⟩), (1, ⟨1, some (.own 31 6 (e_GAct.cells z22.2.2.2.2.2))⟩)]) (j := 3) rfl (by kernel_rfl) (by kernel_rfl) (ev_callr (args := [(.r (.ptr 0 0 0)), (.agg ((.d (.int .i64 6)) :: ((.d (.int .i64 0)) :: ((.d (.int .i64 0)) :: ((.d (.str ([]))) :: ((.d (.sl ([] : List Int).length ((eInt .i64).cells ([])))) :: ((.d (.str ([]))) :: [])))))))]) (ids := [0, 1]) (bs := [(.box ((.d (.int .i64 a2)) :: ((.d (.int .i64 a3)) :: ((.d (.str a4)) :: ((.d (.str a5)) :: ((.d (.str a6)) :: ((.r (.msl 1 0 0 a7.length)) :: []))))))), (.own 31 6 (e_GAct.cells a7))]) (l := [(.r (.ptr 0 0 0)), (.agg ((.d (.int .i64 6)) :: ((.d (.int .i64 0)) :: ((.d (.int .i64 0)) :: ((.d (.str ([]))) :: ((.d (.sl ([] : List Int).length ((eInt .i64).cells ([])))) :: ((.d (.str ([]))) :: [])))))))]) (bt := [(.box ((.d (.int .i64 a2)) :: ((.d (.int .i64 a3)) :: ((.d (.str a4)) :: ((.d (.str a5)) :: ((.d (.str a6)) :: ((.r (.msl 1 0 0 a7.length)) :: []))))))), (.own 31 6 (e_GAct.cells a7))]) (r := (.tup [])) (bs' := [(.box ((.d (.int .i64 z22.1)) :: ((.d (.int .i64 z22.2.1)) :: ((.d (.str z22.2.2.1)) :: ((.d (.str z22.2.2.2.1)) :: ((.d (.str z22.2.2.2.2.1)) :: ((.r (.msl 1 0 0 z22.2.2.2.2.2.length)) :: []))))))), (.own 31 6 (e_GAct.cells z22.2.2.2.2.2))]) (by kernel_rfl) (by kernel_rfl) (by kernel_rfl) (by kernel_rfl) (by kernel_rfl) (f56_ok (d - 1) (dpt hd rfl) (GAct.mk 6 0 0 ([]) ([]) ([])) a2 a3 a4 a5 a6 a7 z22 hz22) (by kernel_rfl) (by kernel_rfl)) ?_
        refine zlEnd (by kernel_rfl) ?_
        refine zkSeq ?_
        refine zrSeq ?_
        refine zrReg ?_
        refine zlRun (n := 1) (j := 1) rfl (by kernel_rfl) ?_
        refine bindE hS (fun z23 hz23 hS => ?_)
        refine zlOp (d := some 44) (op := (.callr 57 [(.tmp 43), (.const (.int .i64 0))])) (g := none) (v := (.tup [])) (ups := [(0, ⟨0, some (.box ((.d (.int .i64 z23.1)) :: ((.d (.int .i64 0)) :: ((.d (.str ([]))) :: ((.d (.str ([]))) :: ((.d (.str ([]))) :: ((.r (.msl 1 2 0 z23.2.length)) :: [])))))))⟩), (1, ⟨2, some (.own 31 6 (e_GAct.cells z23.2))⟩)]) (j := 2) rfl (by kernel_rfl) (by kernel_rfl) (ev_callr (args := [(.r (.ptr 0 0 0)), (.d (.int .i64 0))]) (ids := [0, 1]) (bs := [(.box ((.d (.int .i64 z22.1)) :: ((.d (.int .i64 z22.2.1)) :: ((.d (.str z22.2.2.1)) :: ((.d (.str z22.2.2.2.1)) :: ((.d (.str z22.2.2.2.2.1)) :: ((.r (.msl 1 1 0 z22.2.2.2.2.2.length)) :: []))))))), (.own 31 6 (e_GAct.cells z22.2.2.2.2.2))]) (l := [(.r (.ptr 0 0 0)), (.d (.int .i64 0))]) (bt := [(.box ((.d (.int .i64 z22.1)) :: ((.d (.int .i64 z22.2.1)) :: ((.d (.str z22.2.2.1)) :: ((.d (.str z22.2.2.2.1)) :: ((.d (.str z22.2.2.2.2.1)) :: ((.r (.msl 1 0 0 z22.2.2.2.2.2.length)) :: []))))))), (.own 31 6 (e_GAct.cells z22.2.2.2.2.2))]) (r := (.tup [])) (bs' := [(.box ((.d (.int .i64 z23.1)) :: ((.d (.int .i64 0)) :: ((.d (.str ([]))) :: ((.d (.str ([]))) :: ((.d (.str ([]))) :: ((.r (.msl 1 0 0 z23.2.length)) :: []))))))), (.own 31 6 (e_GAct.cells z23.2))]) (by kernel_rfl) (by kernel_rfl) (by kernel_rfl) (by kernel_rfl) (by kernel_rfl) (f57_ok (d - 1) (dpt hd rfl) 0 z22.1 z22.2.1 z22.2.2.1 z22.2.2.2.1 z22.2.2.2.2.1 z22.2.2.2.2.2 z23 hz23) (by kernel_rfl) (by kernel_rfl)) ?_
        refine zlEnd (by kernel_rfl) ?_
        refine zkSeq ?_
        refine zrRet ?_
        refine zkSeqR ?_
        refine zkBlkR ?_
        refine zkSeqR ?_
        refine zkNil ?_
        exact endQ hS hQ (fRet ((congrArg (fun s => outR s 2 c26.res) (by kernel_rfl : finSt c26.fin _ = f26_fin z23.1 0 [] [] [] z23.2)).trans (f26_out z23.1 0 [] [] [] z23.2)))
    · replace hS := cond_f hc hS
      refine zlEnd (by kernel_rfl) ?_
      refine zkSeq ?_
      refine zrCondF (by kernel_rfl) ?_
      refine zrSkip ?_
      refine zkSeq ?_
      refine zrReg ?_
      refine zlRun (n := 1) (j := 1) rfl (by kernel_rfl) ?_
      refine bindE hS (fun z24 hz24 hS => ?_)
      refine zlOp (d := some 46) (op := (.callr 58 [(.tmp 45), (.const (.int .i64 1))])) (g := none) (v := (.tup [])) (ups := [(0, ⟨0, some (.box ((.d (.int .i64 z24.1)) :: ((.d (.int .i64 0)) :: ((.d (.str ([]))) :: ((.d (.str ([]))) :: ((.d (.str ([]))) :: ((.r (.msl 1 1 0 z24.2.length)) :: [])))))))⟩), (1, ⟨1, some (.own 31 6 (e_GAct.cells z24.2))⟩)]) (j := 2) rfl (by kernel_rfl) (by kernel_rfl) (ev_callr (args := [(.r (.ptr 0 0 0)), (.d (.int .i64 1))]) (ids := [0, 1]) (bs := [(.box ((.d (.int .i64 a2)) :: ((.d (.int .i64 a3)) :: ((.d (.str a4)) :: ((.d (.str a5)) :: ((.d (.str a6)) :: ((.r (.msl 1 0 0 a7.length)) :: []))))))), (.own 31 6 (e_GAct.cells a7))]) (l := [(.r (.ptr 0 0 0)), (.d (.int .i64 1))]) (bt := [(.box ((.d (.int .i64 a2)) :: ((.d (.int .i64 a3)) :: ((.d (.str a4)) :: ((.d (.str a5)) :: ((.d (.str a6)) :: ((.r (.msl 1 0 0 a7.length)) :: []))))))), (.own 31 6 (e_GAct.cells a7))]) (r := (.tup [])) (bs' := [(.box ((.d (.int .i64 z24.1)) :: ((.d (.int .i64 0)) :: ((.d (.str ([]))) :: ((.d (.str ([]))) :: ((.d (.str ([]))) :: ((.r (.msl 1 0 0 z24.2.length)) :: []))))))), (.own 31 6 (e_GAct.cells z24.2))]) (by kernel_rfl) (by kernel_rfl) (by kernel_rfl) (by kernel_rfl) (by kernel_rfl) (f58_ok (d - 1) (dpt hd rfl) 1 a2 a3 a4 a5 a6 a7 z24 hz24) (by kernel_rfl) (by kernel_rfl)) ?_
      refine zlEnd (by kernel_rfl) ?_
      refine zkBlk ?_
      refine zkSeq ?_
      exact f26_j1_ok hd a1 a2 a3 a4 a5 a6 a7 hQ z24.1 0 [] [] [] z24.2 hS (by kernel_rfl)
  · replace hS := cond_f hc hS
    refine zrCondF (by kernel_rfl) ?_
    refine zrSkip ?_
    refine zkBlk ?_
    refine zkSeq ?_
    exact f26_j1_ok hd a1 a2 a3 a4 a5 a6 a7 hQ a2 a3 a4 a5 a6 a7 hS (by kernel_rfl)
def f26_j2_J (a1 : Int) (a2 : Int) (a3 : Int) (a4 : List UInt8) (a5 : List UInt8) (a6 : List UInt8) (a7 : List GAct) (p64 : Bool) : St := ⟨(up (up (up (up (fun _ => .un) 16 (.d (.bool p64))) 15 (.d (.int .i64 a2))) 1 (.d (.int .i64 a1))) 0 (.r (.ptr 0 0 0))), (up (up (hB fun _ => 0) 1 ⟨0, some (.own 31 6 (e_GAct.cells a7))⟩) 0 ⟨0, some (.box ((.d (.int .i64 a2)) :: ((.d (.int .i64 a3)) :: ((.d (.str a4)) :: ((.d (.str a5)) :: ((.d (.str a6)) :: ((.r (.msl 1 0 0 a7.length)) :: [])))))))⟩)⟩
noncomputable def f26_j2 (a1 : Int) (a2 : Int) (a3 : Int) (a4 : List UInt8) (a5 : List UInt8) (a6 : List UInt8) (a7 : List GAct) (p64 : Bool) : Option (Int × Int × (List UInt8) × (List UInt8) × (List UInt8) × (List GAct)) := (bif p64 then ((f55 a1 a2 a3 a4 a5 a6 a7).bind fun z19 => (some (z19.1, z19.2.1, z19.2.2.1, z19.2.2.2.1, z19.2.2.2.2.1, z19.2.2.2.2.2))) else (bif (decide (a2 = 8)) then (f26_j3 a1 a2 a3 a4 a5 a6 a7 true) else (bif (decide (a2 = 10)) then (f26_j3 a1 a2 a3 a4 a5 a6 a7 true) else (f26_j3 a1 a2 a3 a4 a5 a6 a7 false))))
theorem f26_j2_ok {d : Nat} (hd : 5 ≤ d) (a1 : Int) (a2 : Int) (a3 : Int) (a4 : List UInt8) (a5 : List UInt8) (a6 : List UInt8) (a7 : List GAct) {r : Int × Int × (List UInt8) × (List UInt8) × (List UInt8) × (List GAct)} {Q : PX → St → Prop} (hQ : ∀ e st', f26_Q r e st' → Q e st') (p64 : Bool) (hS : f26_j2 a1 a2 a3 a4 a5 a6 a7 p64 = some r) {st : St} (he : keepSt [0, 1, 15, 16] [(0, .id 0), (1, .id 1)] [] st = f26_j2_J a1 a2 a3 a4 a5 a6 a7 p64) : ZR (lev codes baseL (d - 1)) Q c26_3 [.blk 0, .seq c26_1] st := by
  refine zrKeep he ?_
  unfold f26_j2 at hS
  refine zrSplit 16 p64 (by kernel_rfl) (fun hc => ?_) (fun hc => ?_)
  · replace hS := cond_t hc hS
    refine zrCondT (by kernel_rfl) ?_
    refine zrSeq ?_
    refine zrReg ?_
    refine zlRun (n := 2) (j := 2) rfl (by kernel_rfl) ?_
    refine bindE hS (fun z19 hz19 hS => ?_)
    refine zlOp (d := some 21) (op := (.callr 55 [(.tmp 19), (.tmp 20)])) (g := none) (v := (.tup [])) (ups := [(0, ⟨0, some (.box ((.d (.int .i64 z19.1)) :: ((.d (.int .i64 z19.2.1)) :: ((.d (.str z19.2.2.1)) :: ((.d (.str z19.2.2.2.1)) :: ((.d (.str z19.2.2.2.2.1)) :: ((.r (.msl 1 1 0 z19.2.2.2.2.2.length)) :: [])))))))⟩), (1, ⟨1, some (.own 31 6 (e_GAct.cells z19.2.2.2.2.2))⟩)]) (j := 3) rfl (by kernel_rfl) (by kernel_rfl) (ev_callr (args := [(.r (.ptr 0 0 0)), (.d (.int .i64 a1))]) (ids := [0, 1]) (bs := [(.box ((.d (.int .i64 a2)) :: ((.d (.int .i64 a3)) :: ((.d (.str a4)) :: ((.d (.str a5)) :: ((.d (.str a6)) :: ((.r (.msl 1 0 0 a7.length)) :: []))))))), (.own 31 6 (e_GAct.cells a7))]) (l := [(.r (.ptr 0 0 0)), (.d (.int .i64 a1))]) (bt := [(.box ((.d (.int .i64 a2)) :: ((.d (.int .i64 a3)) :: ((.d (.str a4)) :: ((.d (.str a5)) :: ((.d (.str a6)) :: ((.r (.msl 1 0 0 a7.length)) :: []))))))), (.own 31 6 (e_GAct.cells a7))]) (r := (.tup [])) (bs' := [(.box ((.d (.int .i64 z19.1)) :: ((.d (.int .i64 z19.2.1)) :: ((.d (.str z19.2.2.1)) :: ((.d (.str z19.2.2.2.1)) :: ((.d (.str z19.2.2.2.2.1)) :: ((.r (.msl 1 0 0 z19.2.2.2.2.2.length)) :: []))))))), (.own 31 6 (e_GAct.cells z19.2.2.2.2.2))]) (by kernel_rfl) (by kernel_rfl) (by kernel_rfl) (by kernel_rfl) (by kernel_rfl) (f55_ok (d - 1) (dpt hd rfl) a1 a2 a3 a4 a5 a6 a7 z19 hz19) (by kernel_rfl) (by kernel_rfl)) ?_
    refine zlEnd (by kernel_rfl) ?_
    refine zkSeq ?_
    refine zrRet ?_
    refine zkBlkR ?_
    refine zkSeqR ?_
    refine zkNil ?_
    exact endQ hS hQ (fRet ((congrArg (fun s => outR s 2 c26.res) (by kernel_rfl : finSt c26.fin _ = f26_fin z19.1 z19.2.1 z19.2.2.1 z19.2.2.2.1 z19.2.2.2.2.1 z19.2.2.2.2.2)).trans (f26_out z19.1 z19.2.1 z19.2.2.1 z19.2.2.2.1 z19.2.2.2.2.1 z19.2.2.2.2.2)))
  · replace hS := cond_f hc hS
    refine zrCondF (by kernel_rfl) ?_
    refine zrSeq ?_
    refine zrSeq ?_
    refine zrReg ?_
    refine zlBool (d := 23) (op := (.cmpI .eql (.tmp 15) (.const (.int .i64 8)))) (g := none) (j := 1) (decide (a2 = 8)) rfl (by kernel_rfl) (by kernel_rfl) (by kernel_rfl) (fun hc => ?_) (fun hc => ?_)
    · replace hS := cond_t hc hS
      refine zlRun (n := 1) (j := 2) rfl (by kernel_rfl) ?_
      refine zlEnd (by kernel_rfl) ?_
      refine zkSeq ?_
      refine zrCondT (by kernel_rfl) ?_
      refine zrSkip ?_
      refine zkSeq ?_
      exact f26_j3_ok hd a1 a2 a3 a4 a5 a6 a7 hQ true hS (by kernel_rfl)
    · replace hS := cond_f hc hS
      refine zlRun (n := 1) (j := 2) rfl (by kernel_rfl) ?_
      refine zlEnd (by kernel_rfl) ?_
      refine zkSeq ?_
      refine zrCondF (by kernel_rfl) ?_
      refine zrReg ?_
      refine zlBool (d := 24) (op := (.cmpI .eql (.tmp 15) (.const (.int .i64 10)))) (g := none) (j := 1) (decide (a2 = 10)) rfl (by kernel_rfl) (by kernel_rfl) (by kernel_rfl) (fun hc => ?_) (fun hc => ?_)
      · replace hS := cond_t hc hS
        refine zlRun (n := 1) (j := 2) rfl (by kernel_rfl) ?_
        refine zlEnd (by kernel_rfl) ?_
        refine zkSeq ?_
        exact f26_j3_ok hd a1 a2 a3 a4 a5 a6 a7 hQ true hS (by kernel_rfl)
      · replace hS := cond_f hc hS
        refine zlRun (n := 1) (j := 2) rfl (by kernel_rfl) ?_
        refine zlEnd (by kernel_rfl) ?_
        refine zkSeq ?_
        exact f26_j3_ok hd a1 a2 a3 a4 a5 a6 a7 hQ false hS (by kernel_rfl)
def f26_j0_J (a1 : Int) (a2 : Int) (a3 : Int) (a4 : List UInt8) (a5 : List UInt8) (a6 : List UInt8) (a7 : List GAct) : St := ⟨(up (up (fun _ => .un) 1 (.d (.int .i64 a1))) 0 (.r (.ptr 0 0 0))), (up (up (hB fun _ => 0) 1 ⟨0, some (.own 31 6 (e_GAct.cells a7))⟩) 0 ⟨0, some (.box ((.d (.int .i64 a2)) :: ((.d (.int .i64 a3)) :: ((.d (.str a4)) :: ((.d (.str a5)) :: ((.d (.str a6)) :: ((.r (.msl 1 0 0 a7.length)) :: [])))))))⟩)⟩
noncomputable def f26_j0 (a1 : Int) (a2 : Int) (a3 : Int) (a4 : List UInt8) (a5 : List UInt8) (a6 : List UInt8) (a7 : List GAct) : Option (Int × Int × (List UInt8) × (List UInt8) × (List UInt8) × (List GAct)) := (bif (decide (a2 = 7)) then (f26_j2 a1 a2 a3 a4 a5 a6 a7 true) else (bif (decide (a2 = 9)) then (f26_j2 a1 a2 a3 a4 a5 a6 a7 true) else (f26_j2 a1 a2 a3 a4 a5 a6 a7 false)))
theorem f26_j0_ok {d : Nat} (hd : 5 ≤ d) (a1 : Int) (a2 : Int) (a3 : Int) (a4 : List UInt8) (a5 : List UInt8) (a6 : List UInt8) (a7 : List GAct) {r : Int × Int × (List UInt8) × (List UInt8) × (List UInt8) × (List GAct)} {Q : PX → St → Prop} (hQ : ∀ e st', f26_Q r e st' → Q e st')  (hS : f26_j0 a1 a2 a3 a4 a5 a6 a7 = some r) {st : St} (he : keepSt [0, 1] [(0, .id 0), (1, .id 1)] [] st = f26_j0_J a1 a2 a3 a4 a5 a6 a7) : ZR (lev codes baseL (d - 1)) Q c26_4 [] st := by
  refine zrKeep he ?_
  unfold f26_j0 at hS
  refine zrSeq ?_
  refine zrSeq ?_
  refine zrReg ?_
  refine zlRun (n := 5) (j := 5) rfl (by kernel_rfl) ?_
  refine zlEnd (by kernel_rfl) ?_
  refine zkSeq ?_
  refine zrBlk ?_
  refine zrSeq ?_
  refine zrSeq ?_
  refine zrReg ?_
  refine zlBool (d := 17) (op := (.cmpI .eql (.tmp 15) (.const (.int .i64 7)))) (g := none) (j := 1) (decide (a2 = 7)) rfl (by kernel_rfl) (by kernel_rfl) (by kernel_rfl) (fun hc => ?_) (fun hc => ?_)
  · replace hS := cond_t hc hS
    refine zlRun (n := 1) (j := 2) rfl (by kernel_rfl) ?_
    refine zlEnd (by kernel_rfl) ?_
    refine zkSeq ?_
    refine zrCondT (by kernel_rfl) ?_
    refine zrSkip ?_
    refine zkSeq ?_
    exact f26_j2_ok hd a1 a2 a3 a4 a5 a6 a7 hQ true hS (by kernel_rfl)
  · replace hS := cond_f hc hS
    refine zlRun (n := 1) (j := 2) rfl (by kernel_rfl) ?_
    refine zlEnd (by kernel_rfl) ?_
    refine zkSeq ?_
    refine zrCondF (by kernel_rfl) ?_
    refine zrReg ?_
    refine zlBool (d := 18) (op := (.cmpI .eql (.tmp 15) (.const (.int .i64 9)))) (g := none) (j := 1) (decide (a2 = 9)) rfl (by kernel_rfl) (by kernel_rfl) (by kernel_rfl) (fun hc => ?_) (fun hc => ?_)
    · replace hS := cond_t hc hS
      refine zlRun (n := 1) (j := 2) rfl (by kernel_rfl) ?_
      refine zlEnd (by kernel_rfl) ?_
      refine zkSeq ?_
      exact f26_j2_ok hd a1 a2 a3 a4 a5 a6 a7 hQ true hS (by kernel_rfl)
    · replace hS := cond_f hc hS
      refine zlRun (n := 1) (j := 2) rfl (by kernel_rfl) ?_
      refine zlEnd (by kernel_rfl) ?_
      refine zkSeq ?_
      exact f26_j2_ok hd a1 a2 a3 a4 a5 a6 a7 hQ false hS (by kernel_rfl)
noncomputable def f26 (a1 : Int) (a2 : Int) (a3 : Int) (a4 : List UInt8) (a5 : List UInt8) (a6 : List UInt8) (a7 : List GAct) : Option (Int × Int × (List UInt8) × (List UInt8) × (List UInt8) × (List GAct)) := (bif (decide (a1 < 0)) then (some (a2, a3, a4, a5, a6, a7)) else (bif (decide (1114111 < a1)) then (some (a2, a3, a4, a5, a6, a7)) else (f26_j0 a1 a2 a3 a4 a5 a6 a7 )))
theorem f26_ok (d : Nat) (hd : 5 ≤ d) (a1 : Int) (a2 : Int) (a3 : Int) (a4 : List UInt8) (a5 : List UInt8) (a6 : List UInt8) (a7 : List GAct) (r : Int × Int × (List UInt8) × (List UInt8) × (List UInt8) × (List GAct)) (hS : f26 a1 a2 a3 a4 a5 a6 a7 = some r) : lev codes baseL d 26 [(.r (.ptr 0 0 0)), (.d (.int .i64 a1))] [(.box ((.d (.int .i64 a2)) :: ((.d (.int .i64 a3)) :: ((.d (.str a4)) :: ((.d (.str a5)) :: ((.d (.str a6)) :: ((.r (.msl 1 0 0 a7.length)) :: []))))))), (.own 31 6 (e_GAct.cells a7))] = some ((.tup []), [(.box ((.d (.int .i64 r.1)) :: ((.d (.int .i64 r.2.1)) :: ((.d (.str r.2.2.1)) :: ((.d (.str r.2.2.2.1)) :: ((.d (.str r.2.2.2.2.1)) :: ((.r (.msl 1 0 0 r.2.2.2.2.2.length)) :: []))))))), (.own 31 6 (e_GAct.cells r.2.2.2.2.2))]) := by
  refine lev_go codes26 rfl rfl (Nat.le_trans (Nat.le_of_ble_eq_true rfl) hd) fun Q hQ => ?_
  unfold f26 at hS
  show ZR _ Q c26_b [] _
  replace hQ : ∀ e st', f26_Q r e st' → Q e st' := hQ
  refine zrSeq ?_
  refine zrSeq ?_
  refine zrReg ?_
  refine zlRun (n := 1) (j := 1) rfl (by kernel_rfl) ?_
  refine zlBool (d := 6) (op := (.cmpI .lss (.tmp 5) (.const (.int .i64 0)))) (g := none) (j := 2) (decide (a1 < 0)) rfl (by kernel_rfl) (by kernel_rfl) (by kernel_rfl) (fun hc => ?_) (fun hc => ?_)
  · replace hS := cond_t hc hS
    refine zlRun (n := 4) (j := 6) rfl (by kernel_rfl) ?_
    refine zlEnd (by kernel_rfl) ?_
    refine zkSeq ?_
    refine zrCondT (by kernel_rfl) ?_
    refine zrRet ?_
    refine zkSeqR ?_
    refine zkNil ?_
    exact endQ hS hQ (fRet ((congrArg (fun s => outR s 2 c26.res) (by kernel_rfl : finSt c26.fin _ = f26_fin a2 a3 a4 a5 a6 a7)).trans (f26_out a2 a3 a4 a5 a6 a7)))
  · replace hS := cond_f hc hS
    refine zlRun (n := 2) (j := 4) rfl (by kernel_rfl) ?_
    refine zlBool (d := 9) (op := (.cmpI .gtr (.tmp 8) (.const (.int .i64 1114111)))) (g := (some (7, false))) (j := 5) (decide (1114111 < a1)) rfl (by kernel_rfl) (by kernel_rfl) (by kernel_rfl) (fun hc => ?_) (fun hc => ?_)
    · replace hS := cond_t hc hS
      refine zlRun (n := 1) (j := 6) rfl (by kernel_rfl) ?_
      refine zlEnd (by kernel_rfl) ?_
      refine zkSeq ?_
      refine zrCondT (by kernel_rfl) ?_
      refine zrRet ?_
      refine zkSeqR ?_
      refine zkNil ?_
      exact endQ hS hQ (fRet ((congrArg (fun s => outR s 2 c26.res) (by kernel_rfl : finSt c26.fin _ = f26_fin a2 a3 a4 a5 a6 a7)).trans (f26_out a2 a3 a4 a5 a6 a7)))
    · replace hS := cond_f hc hS
      refine zlRun (n := 1) (j := 6) rfl (by kernel_rfl) ?_
      refine zlEnd (by kernel_rfl) ?_
      refine zkSeq ?_
      refine zrCondF (by kernel_rfl) ?_
      refine zrSkip ?_
      refine zkSeq ?_
      exact f26_j0_ok hd a1 a2 a3 a4 a5 a6 a7 hQ  hS (by kernel_rfl)
/- farwriter/parse.Feed -/
def f11_fin (p42 : GParser) (p43 : List GAct) (p44 : Int) : St := ⟨(up (up (up (fun _ => .un) 6 (.d (.int .i64 p44))) 5 (.r (.msl 338 0 0 p43.length))) 4 (.r (.ptr 40 0 0))), (up (up (hB fun _ => 0) 338 ⟨0, some (.own 31 6 (e_GAct.cells p43))⟩) 40 ⟨0, some (.box ((.d (.int .i64 p42.State)) :: ((.d (.int .i64 p42.Mark)) :: ((.d (.str p42.Inter)) :: ((.d (.str p42.Args)) :: ((.d (.str p42.Text)) :: []))))))⟩)⟩
theorem f11_out (p42 : GParser) (p43 : List GAct) (p44 : Int) : outR (f11_fin p42 p43 p44) 0 c11.res = some ((.tup [(.agg ((.d (.int .i64 p42.State)) :: ((.d (.int .i64 p42.Mark)) :: ((.d (.str p42.Inter)) :: ((.d (.str p42.Args)) :: ((.d (.str p42.Text)) :: [])))))), (.r (.own 0 31 6 p43.length (e_GAct.cells p43))), (.d (.int .i64 p44))]), []) := by
  exact out_of (ids := []) (ids' := [338]) (l := [(.agg ((.d (.int .i64 p42.State)) :: ((.d (.int .i64 p42.Mark)) :: ((.d (.str p42.Inter)) :: ((.d (.str p42.Args)) :: ((.d (.str p42.Text)) :: [])))))), (.r (.msl 338 0 0 p43.length)), (.d (.int .i64 p44))]) (by kernel_rfl) (by kernel_rfl) (o_tup (o_cons rfl (o_cons (o_own e_GAct (e := 31) (k := 6) (xs := p43) (by kernel_rfl) rfl rfl rfl rfl) (o_cons rfl o_nil))))
def f11_Q (r : GParser × (List GAct) × Int) (e : PX) (st : St) : Prop := DoneF c11 0 ((.tup [(.agg ((.d (.int .i64 r.1.State)) :: ((.d (.int .i64 r.1.Mark)) :: ((.d (.str r.1.Inter)) :: ((.d (.str r.1.Args)) :: ((.d (.str r.1.Text)) :: [])))))), (.r (.own 0 31 6 r.2.1.length (e_GAct.cells r.2.1))), (.d (.int .i64 r.2.2))]), []) e st
def f11_j1_J (a1 : GParser) (a2 : List Int) (p47 : Int) (p48 : Int) (p49 : List UInt8) (p50 : List UInt8) (p51 : List UInt8) (p52 : List GAct) : St := ⟨(up (up (fun _ => .un) 8 (.r (.ptr 160 0 0))) 4 (.r (.ptr 40 0 0))), (up (up (up (hB fun _ => 0) 337 ⟨0, some (.own 31 6 (e_GAct.cells p52))⟩) 160 ⟨0, some (.box ((.d (.int .i64 p47)) :: ((.d (.int .i64 p48)) :: ((.d (.str p49)) :: ((.d (.str p50)) :: ((.d (.str p51)) :: ((.r (.msl 337 0 0 p52.length)) :: [])))))))⟩) 40 ⟨0, some (.box ((.d (.int .i64 0)) :: ((.d (.int .i64 0)) :: ((.d (.str ([]))) :: ((.d (.str ([]))) :: ((.d (.str ([]))) :: []))))))⟩)⟩
noncomputable def f11_j1 (a1 : GParser) (a2 : List Int) (p47 : Int) (p48 : Int) (p49 : List UInt8) (p50 : List UInt8) (p51 : List UInt8) (p52 : List GAct) : Option (GParser × (List GAct) × Int) := (some ((GParser.mk p47 p48 p49 p50 p51), p52, 0))
theorem f11_j1_ok {d : Nat} (hd : 6 ≤ d) (a1 : GParser) (a2 : List Int) {r : GParser × (List GAct) × Int} {Q : PX → St → Prop} (hQ : ∀ e st', f11_Q r e st' → Q e st') (p47 : Int) (p48 : Int) (p49 : List UInt8) (p50 : List UInt8) (p51 : List UInt8) (p52 : List GAct) (hS : f11_j1 a1 a2 p47 p48 p49 p50 p51 p52 = some r) {st : St} (he : keepSt [4, 8] [(40, .id 40), (160, .id 160), (337, .id 337)] [] st = f11_j1_J a1 a2 p47 p48 p49 p50 p51 p52) : ZR (lev codes baseL (d - 1)) Q c11_1 [] st := by
  refine zrKeep he ?_
  unfold f11_j1 at hS
  refine zrSeq ?_
  refine zrRegD ?_
  refine zdRun (n := 11) (j := 11) (ts := [[], [], [], [(160, false)], [], [], [], [(160, false)], [(40, true)], [], []]) (acc' := [[], [], [], [(160, false)], [], [], [], [(160, false)], [(40, true)], [], []]) rfl (by kernel_rfl) (by kernel_rfl) (by kernel_rfl) ?_
  refine zdEnd (by kernel_rfl) (by kernel_rfl) ?_
  refine zkSeq ?_
  refine zrRet ?_
  refine zkNil ?_
  exact endQ hS hQ (fRet ((congrArg (fun s => outR s 0 c11.res) (by kernel_rfl : finSt c11.fin _ = f11_fin (GParser.mk p47 p48 p49 p50 p51) p52 0)).trans (f11_out (GParser.mk p47 p48 p49 p50 p51) p52 0)))
def f11_l2_J (a1 : GParser) (a2 : List Int) (x : Int × Int × (List UInt8) × (List UInt8) × (List UInt8) × (List GAct) × Int) : St := ⟨(up (up (up (up (up (fun _ => .un) 22 (.d (.int .i64 x.2.2.2.2.2.2))) 21 (.d (.int .i64 (a2.length : Int)))) 20 (.d (.sl a2.length ((eInt .i64).cells a2)))) 8 (.r (.ptr 160 0 0))) 4 (.r (.ptr 40 0 0))), (up (up (up (hB fun _ => 0) 337 ⟨0, some (.own 31 6 (e_GAct.cells x.2.2.2.2.2.1))⟩) 160 ⟨0, some (.box ((.d (.int .i64 x.1)) :: ((.d (.int .i64 x.2.1)) :: ((.d (.str x.2.2.1)) :: ((.d (.str x.2.2.2.1)) :: ((.d (.str x.2.2.2.2.1)) :: ((.r (.msl 337 0 0 x.2.2.2.2.2.1.length)) :: [])))))))⟩) 40 ⟨0, some (.box ((.d (.int .i64 0)) :: ((.d (.int .i64 0)) :: ((.d (.str ([]))) :: ((.d (.str ([]))) :: ((.d (.str ([]))) :: []))))))⟩)⟩
def f11_l2_H (a1 : GParser) (a2 : List Int) (x : Int × Int × (List UInt8) × (List UInt8) × (List UInt8) × (List GAct) × Int) (st : St) : Prop := keepSt [4, 8, 20, 21, 22] [(40, .id 40), (160, .id 160), (337, (.cell 160 5))] [.cell 160 5 337 31 6] st = f11_l2_J a1 a2 x
def f11_l2_e0_J (a1 : GParser) (a2 : List Int) (p36 : Int) (p37 : Int) (p38 : List UInt8) (p39 : List UInt8) (p40 : List UInt8) (p41 : List GAct) : St := ⟨(up (up (fun _ => .un) 8 (.r (.ptr 160 0 0))) 4 (.r (.ptr 40 0 0))), (up (up (up (hB fun _ => 0) 337 ⟨0, some (.own 31 6 (e_GAct.cells p41))⟩) 160 ⟨0, some (.box ((.d (.int .i64 p36)) :: ((.d (.int .i64 p37)) :: ((.d (.str p38)) :: ((.d (.str p39)) :: ((.d (.str p40)) :: ((.r (.msl 337 0 0 p41.length)) :: [])))))))⟩) 40 ⟨0, some (.box ((.d (.int .i64 0)) :: ((.d (.int .i64 0)) :: ((.d (.str ([]))) :: ((.d (.str ([]))) :: ((.d (.str ([]))) :: []))))))⟩)⟩
def f11_l2_X (a1 : GParser) (a2 : List Int) (z : (Int × Int × (List UInt8) × (List UInt8) × (List UInt8) × (List GAct))) (e : PX) (st : St) : Prop := e = .exit 0 ∧ st = f11_l2_e0_J a1 a2 z.1 z.2.1 z.2.2.1 z.2.2.2.1 z.2.2.2.2.1 z.2.2.2.2.2
def f11_l2_j4_J (a1 : GParser) (a2 : List Int) (p69 : Int) (p70 : Int) (p71 : List UInt8) (p72 : List UInt8) (p73 : List UInt8) (p74 : List GAct) (p75 : Int) : St := ⟨(up (up (up (up (up (fun _ => .un) 22 (.d (.int .i64 p75))) 21 (.d (.int .i64 (a2.length : Int)))) 20 (.d (.sl a2.length ((eInt .i64).cells a2)))) 8 (.r (.ptr 160 0 0))) 4 (.r (.ptr 40 0 0))), (up (up (up (hB fun _ => 0) 337 ⟨0, some (.own 31 6 (e_GAct.cells p74))⟩) 160 ⟨0, some (.box ((.d (.int .i64 p69)) :: ((.d (.int .i64 p70)) :: ((.d (.str p71)) :: ((.d (.str p72)) :: ((.d (.str p73)) :: ((.r (.msl 337 0 0 p74.length)) :: [])))))))⟩) 40 ⟨0, some (.box ((.d (.int .i64 0)) :: ((.d (.int .i64 0)) :: ((.d (.str ([]))) :: ((.d (.str ([]))) :: ((.d (.str ([]))) :: []))))))⟩)⟩
noncomputable def f11_l2_j4 (a1 : GParser) (a2 : List Int) (p69 : Int) (p70 : Int) (p71 : List UInt8) (p72 : List UInt8) (p73 : List UInt8) (p74 : List GAct) (p75 : Int) : Option ((Int × Int × (List UInt8) × (List UInt8) × (List UInt8) × (List GAct) × Int) ⊕ ((Int × Int × (List UInt8) × (List UInt8) × (List UInt8) × (List GAct)))) := ((idx a2 p75).bind fun z9 => ((f26 z9 p69 p70 p71 p72 p73 p74).bind fun z10 => (some (.inl (z10.1, z10.2.1, z10.2.2.1, z10.2.2.2.1, z10.2.2.2.2.1, z10.2.2.2.2.2, (IntKind.i64.wrap (p75 + 1)))))))
theorem f11_l2_j4_ok {d : Nat} (hd : 6 ≤ d) (a1 : GParser) (a2 : List Int) {r : (Int × Int × (List UInt8) × (List UInt8) × (List UInt8) × (List GAct) × Int) ⊕ ((Int × Int × (List UInt8) × (List UInt8) × (List UInt8) × (List GAct)))} {Q : PX → St → Prop} (hQ : ∀ e st', finL (f11_l2_H a1 a2) (f11_l2_X a1 a2) r e st' → Q e st') (p69 : Int) (p70 : Int) (p71 : List UInt8) (p72 : List UInt8) (p73 : List UInt8) (p74 : List GAct) (p75 : Int) (hS : f11_l2_j4 a1 a2 p69 p70 p71 p72 p73 p74 p75 = some r) {st : St} (he : keepSt [4, 8, 20, 21, 22] [(40, .id 40), (160, .id 160), (337, .id 337)] [] st = f11_l2_j4_J a1 a2 p69 p70 p71 p72 p73 p74 p75) : ZR (lev codes baseL (d - 1)) Q c11_2 [] st := by
  refine zrKeep he ?_
  unfold f11_l2_j4 at hS
  refine zrSeq ?_
  refine zrBlk ?_
  refine zrSeq ?_
  refine zrReg ?_
  refine bindE hS (fun z9 hz9 hS => ?_)
  refine zlOp (d := some 24) (op := (.ixS 3 1 (.tmp 20) (.tmp 22))) (g := none) (v := (.rptr ((eInt .i64).enc z9 ++ ((eInt .i64).cells (a2.drop ((p75 : Int).toNat + 1)))))) (ups := []) (j := 1) rfl (by kernel_rfl) (by kernel_rfl) (ev_ixS (eInt .i64) (kk := .i64) (xs := a2) (j := p75) (by kernel_rfl) (by kernel_rfl) hz9 rfl (by intro h; cases h)) ?_
  refine zlRun (n := 2) (j := 3) rfl (by kernel_rfl) ?_
  refine zlEnd (by kernel_rfl) ?_
  refine zkSeq ?_
  refine zrReg ?_
  refine zlRun (n := 2) (j := 2) rfl (by kernel_rfl) ?_
  refine bindE hS (fun z10 hz10 hS => ?_)
  refine zlOp (d := some 28) (op := (.callr 26 [(.tmp 26), (.tmp 27)])) (g := none) (v := (.tup [])) (ups := [(160, ⟨0, some (.box ((.d (.int .i64 z10.1)) :: ((.d (.int .i64 z10.2.1)) :: ((.d (.str z10.2.2.1)) :: ((.d (.str z10.2.2.2.1)) :: ((.d (.str z10.2.2.2.2.1)) :: ((.r (.msl 337 1 0 z10.2.2.2.2.2.length)) :: [])))))))⟩), (337, ⟨1, some (.own 31 6 (e_GAct.cells z10.2.2.2.2.2))⟩)]) (j := 3) rfl (by kernel_rfl) (by kernel_rfl) (ev_callr (args := [(.r (.ptr 160 0 0)), (.d (.int .i64 z9))]) (ids := [160, 337]) (bs := [(.box ((.d (.int .i64 p69)) :: ((.d (.int .i64 p70)) :: ((.d (.str p71)) :: ((.d (.str p72)) :: ((.d (.str p73)) :: ((.r (.msl 337 0 0 p74.length)) :: []))))))), (.own 31 6 (e_GAct.cells p74))]) (l := [(.r (.ptr 0 0 0)), (.d (.int .i64 z9))]) (bt := [(.box ((.d (.int .i64 p69)) :: ((.d (.int .i64 p70)) :: ((.d (.str p71)) :: ((.d (.str p72)) :: ((.d (.str p73)) :: ((.r (.msl 1 0 0 p74.length)) :: []))))))), (.own 31 6 (e_GAct.cells p74))]) (r := (.tup [])) (bs' := [(.box ((.d (.int .i64 z10.1)) :: ((.d (.int .i64 z10.2.1)) :: ((.d (.str z10.2.2.1)) :: ((.d (.str z10.2.2.2.1)) :: ((.d (.str z10.2.2.2.2.1)) :: ((.r (.msl 1 0 0 z10.2.2.2.2.2.length)) :: []))))))), (.own 31 6 (e_GAct.cells z10.2.2.2.2.2))]) (by kernel_rfl) (by kernel_rfl) (by kernel_rfl) (by kernel_rfl) (by kernel_rfl) (f26_ok (d - 1) (dpt hd rfl) z9 p69 p70 p71 p72 p73 p74 z10 hz10) (by kernel_rfl) (by kernel_rfl)) ?_
  refine zlEnd (by kernel_rfl) ?_
  refine zkBlk ?_
  refine zkSeq ?_
  refine zrReg ?_
  refine zlRun (n := 2) (j := 2) rfl (by kernel_rfl) ?_
  refine zlEnd (by kernel_rfl) ?_
  refine zkNil ?_
  exact endQ hS hQ (finL_n (by show keepSt _ _ _ _ = _; kernel_rfl))
def f11_l2_j3_J (a1 : GParser) (a2 : List Int) (p61 : Int) (p62 : Int) (p63 : List UInt8) (p64 : List UInt8) (p65 : List UInt8) (p66 : List GAct) (p67 : Int) (p68 : Bool) : St := ⟨(up (up (up (up (up (up (fun _ => .un) 23 (.d (.bool p68))) 22 (.d (.int .i64 p67))) 21 (.d (.int .i64 (a2.length : Int)))) 20 (.d (.sl a2.length ((eInt .i64).cells a2)))) 8 (.r (.ptr 160 0 0))) 4 (.r (.ptr 40 0 0))), (up (up (up (hB fun _ => 0) 337 ⟨0, some (.own 31 6 (e_GAct.cells p66))⟩) 160 ⟨0, some (.box ((.d (.int .i64 p61)) :: ((.d (.int .i64 p62)) :: ((.d (.str p63)) :: ((.d (.str p64)) :: ((.d (.str p65)) :: ((.r (.msl 337 0 0 p66.length)) :: [])))))))⟩) 40 ⟨0, some (.box ((.d (.int .i64 0)) :: ((.d (.int .i64 0)) :: ((.d (.str ([]))) :: ((.d (.str ([]))) :: ((.d (.str ([]))) :: []))))))⟩)⟩
noncomputable def f11_l2_j3 (a1 : GParser) (a2 : List Int) (p61 : Int) (p62 : Int) (p63 : List UInt8) (p64 : List UInt8) (p65 : List UInt8) (p66 : List GAct) (p67 : Int) (p68 : Bool) : Option ((Int × Int × (List UInt8) × (List UInt8) × (List UInt8) × (List GAct) × Int) ⊕ ((Int × Int × (List UInt8) × (List UInt8) × (List UInt8) × (List GAct)))) := (bif p68 then (f11_l2_j4 a1 a2 p61 p62 p63 p64 p65 p66 p67) else (some (.inr (p61, p62, p63, p64, p65, p66))))
theorem f11_l2_j3_ok {d : Nat} (hd : 6 ≤ d) (a1 : GParser) (a2 : List Int) {r : (Int × Int × (List UInt8) × (List UInt8) × (List UInt8) × (List GAct) × Int) ⊕ ((Int × Int × (List UInt8) × (List UInt8) × (List UInt8) × (List GAct)))} {Q : PX → St → Prop} (hQ : ∀ e st', finL (f11_l2_H a1 a2) (f11_l2_X a1 a2) r e st' → Q e st') (p61 : Int) (p62 : Int) (p63 : List UInt8) (p64 : List UInt8) (p65 : List UInt8) (p66 : List GAct) (p67 : Int) (p68 : Bool) (hS : f11_l2_j3 a1 a2 p61 p62 p63 p64 p65 p66 p67 p68 = some r) {st : St} (he : keepSt [4, 8, 20, 21, 22, 23] [(40, .id 40), (160, .id 160), (337, .id 337)] [] st = f11_l2_j3_J a1 a2 p61 p62 p63 p64 p65 p66 p67 p68) : ZR (lev codes baseL (d - 1)) Q c11_3 [] st := by
  refine zrKeep he ?_
  unfold f11_l2_j3 at hS
  refine zrSeq ?_
  refine zrSplit 23 p68 (by kernel_rfl) (fun hc => ?_) (fun hc => ?_)
  · replace hS := cond_t hc hS
    refine zrCondT (by kernel_rfl) ?_
    refine zrSkip ?_
    refine zkSeq ?_
    exact f11_l2_j4_ok hd a1 a2 hQ p61 p62 p63 p64 p65 p66 p67 hS (by kernel_rfl)
  · replace hS := cond_f hc hS
    refine zrCondF (by kernel_rfl) ?_
    refine zrKeep (J := f11_l2_e0_J a1 a2 p61 p62 p63 p64 p65 p66) (by kernel_rfl) ?_
    refine zrExit ?_
    refine zkSeqX ?_
    refine zkNil ?_
    exact endQ hS hQ (finL_x (by intro h; cases h) (by show _ = _ ∧ _ = _; exact ⟨rfl, rfl⟩))
noncomputable def f11_l2 (a1 : GParser) (a2 : List Int) (x : Int × Int × (List UInt8) × (List UInt8) × (List UInt8) × (List GAct) × Int) : Option ((Int × Int × (List UInt8) × (List UInt8) × (List UInt8) × (List GAct) × Int) ⊕ ((Int × Int × (List UInt8) × (List UInt8) × (List UInt8) × (List GAct)))) := (bif (decide (x.2.2.2.2.2.2 < (a2.length : Int))) then (f11_l2_j3 a1 a2 x.1 x.2.1 x.2.2.1 x.2.2.2.1 x.2.2.2.2.1 x.2.2.2.2.2.1 x.2.2.2.2.2.2 true) else (f11_l2_j3 a1 a2 x.1 x.2.1 x.2.2.1 x.2.2.2.1 x.2.2.2.2.1 x.2.2.2.2.2.1 x.2.2.2.2.2.2 false))
theorem f11_l2_ok {d : Nat} (hd : 6 ≤ d) (a1 : GParser) (a2 : List Int) {r : (Int × Int × (List UInt8) × (List UInt8) × (List UInt8) × (List GAct) × Int) ⊕ ((Int × Int × (List UInt8) × (List UInt8) × (List UInt8) × (List GAct)))} {Q : PX → St → Prop} (hQ : ∀ e st', finL (f11_l2_H a1 a2) (f11_l2_X a1 a2) r e st' → Q e st') {x : Int × Int × (List UInt8) × (List UInt8) × (List UInt8) × (List GAct) × Int} (hS : f11_l2 a1 a2 x = some r) {st : St} (he : f11_l2_H a1 a2 x st) : ZR (lev codes baseL (d - 1)) Q c11_4 [] st := by
  refine zrKeep he ?_
  unfold f11_l2 at hS
  refine zrSeq ?_
  refine zrReg ?_
  refine zlBool (d := 23) (op := (.cmpI .lss (.tmp 22) (.tmp 21))) (g := none) (j := 1) (decide (x.2.2.2.2.2.2 < (a2.length : Int))) rfl (by kernel_rfl) (by kernel_rfl) (by kernel_rfl) (fun hc => ?_) (fun hc => ?_)
  · replace hS := cond_t hc hS
    refine zlEnd (by kernel_rfl) ?_
    refine zkSeq ?_
    exact f11_l2_j3_ok hd a1 a2 hQ x.1 x.2.1 x.2.2.1 x.2.2.2.1 x.2.2.2.2.1 x.2.2.2.2.2.1 x.2.2.2.2.2.2 true hS (by kernel_rfl)
  · replace hS := cond_f hc hS
    refine zlEnd (by kernel_rfl) ?_
    refine zkSeq ?_
    exact f11_l2_j3_ok hd a1 a2 hQ x.1 x.2.1 x.2.2.1 x.2.2.2.1 x.2.2.2.2.1 x.2.2.2.2.2.1 x.2.2.2.2.2.2 false hS (by kernel_rfl)
def f11_j0_J (a1 : GParser) (a2 : List Int) : St := ⟨(up (up (up (fun _ => .un) 4 (.r (.ptr 40 0 0))) 2 (.r (.ptr 24 0 0))) 1 (.d (.sl a2.length ((eInt .i64).cells a2)))), (up (up (hB fun _ => 0) 40 ⟨0, some (.box ((.d (.int .i64 0)) :: ((.d (.int .i64 0)) :: ((.d (.str ([]))) :: ((.d (.str ([]))) :: ((.d (.str ([]))) :: []))))))⟩) 24 ⟨0, some (.box ((.d (.int .i64 a1.State)) :: ((.d (.int .i64 a1.Mark)) :: ((.d (.str a1.Inter)) :: ((.d (.str a1.Args)) :: ((.d (.str a1.Text)) :: []))))))⟩)⟩
noncomputable def f11_j0 (a1 : GParser) (a2 : List Int) : Option (GParser × (List GAct) × Int) := ((loopO (f11_l2 a1 a2) (a1.State, a1.Mark, a1.Inter, a1.Args, a1.Text, [], 0)).bind fun z11 => (f11_j1 a1 a2 z11.1 z11.2.1 z11.2.2.1 z11.2.2.2.1 z11.2.2.2.2.1 z11.2.2.2.2.2))
theorem f11_j0_ok {d : Nat} (hd : 6 ≤ d) (a1 : GParser) (a2 : List Int) {r : GParser × (List GAct) × Int} {Q : PX → St → Prop} (hQ : ∀ e st', f11_Q r e st' → Q e st')  (hS : f11_j0 a1 a2 = some r) {st : St} (he : keepSt [1, 2, 4] [(24, .id 24), (40, .id 40)] [] st = f11_j0_J a1 a2) : ZR (lev codes baseL (d - 1)) Q c11_5 [] st := by
  refine zrKeep he ?_
  unfold f11_j0 at hS
  refine zrSeq ?_
  refine zrReg ?_
  refine zlRun (n := 4) (j := 4) rfl (by kernel_rfl) ?_
  refine zlEnd (by kernel_rfl) ?_
  refine zkSeq ?_
  refine zrSeq ?_
  refine zrSeq ?_
  refine zrReg ?_
  refine zlRun (n := 3) (j := 3) rfl (by kernel_rfl) ?_
  refine zlEnd (by kernel_rfl) ?_
  refine zkSeq ?_
  refine zrBlk ?_
  refine bindE hS (fun z11 hz11 hS => ?_)
  refine zrLoop (f11_l2_H a1 a2) (f11_l2_X a1 a2) (fun x st r Q h0 hS hQ => f11_l2_ok hd a1 a2 hQ hS h0) (x := (a1.State, a1.Mark, a1.Inter, a1.Args, a1.Text, [], 0)) (z := z11) (by show keepSt _ _ _ _ = _; kernel_rfl) hz11 ?_
  intro e st' _ hX
  obtain ⟨rfl, rfl⟩ : _ ∧ _ := hX
  refine zkBlkX ?_
  refine zkSeq ?_
  exact f11_j1_ok hd a1 a2 hQ z11.1 z11.2.1 z11.2.2.1 z11.2.2.2.1 z11.2.2.2.2.1 z11.2.2.2.2.2 hS (by kernel_rfl)
noncomputable def f11 (a1 : GParser) (a2 : List Int) : Option (GParser × (List GAct) × Int) := ((f15 a1).bind fun z12 => (bif (!decide (z12 = 0)) then (some (a1, [], z12)) else (f11_j0 a1 a2 )))
theorem f11_ok (d : Nat) (hd : 6 ≤ d) (a1 : GParser) (a2 : List Int) (r : GParser × (List GAct) × Int) (hS : f11 a1 a2 = some r) : lev codes baseL d 11 [(.agg ((.d (.int .i64 a1.State)) :: ((.d (.int .i64 a1.Mark)) :: ((.d (.str a1.Inter)) :: ((.d (.str a1.Args)) :: ((.d (.str a1.Text)) :: [])))))), (.d (.sl a2.length ((eInt .i64).cells a2)))] [] = some ((.tup [(.agg ((.d (.int .i64 r.1.State)) :: ((.d (.int .i64 r.1.Mark)) :: ((.d (.str r.1.Inter)) :: ((.d (.str r.1.Args)) :: ((.d (.str r.1.Text)) :: [])))))), (.r (.own 0 31 6 r.2.1.length (e_GAct.cells r.2.1))), (.d (.int .i64 r.2.2))]), []) := by
  refine lev_go codes11 rfl rfl (Nat.le_trans (Nat.le_of_ble_eq_true rfl) hd) fun Q hQ => ?_
  unfold f11 at hS
  show ZR _ Q c11_b [] _
  replace hQ : ∀ e st', f11_Q r e st' → Q e st' := hQ
  refine zrSeq ?_
  refine zrReg ?_
  refine zlRun (n := 4) (j := 4) rfl (by kernel_rfl) ?_
  refine zlEnd (by kernel_rfl) ?_
  refine zkSeq ?_
  refine zrSeq ?_
  refine zrSeq ?_
  refine zrReg ?_
  refine zlRun (n := 1) (j := 1) rfl (by kernel_rfl) ?_
  refine bindE hS (fun z12 hz12 hS => ?_)
  refine zlOp (d := some 12) (op := (.call 15 [(.tmp 11)])) (g := none) (v := (.d (.int .i64 z12))) (ups := []) (j := 2) rfl (by kernel_rfl) (by kernel_rfl) (ev_call (args := [(.agg ((.d (.int .i64 a1.State)) :: ((.d (.int .i64 a1.Mark)) :: ((.d (.str a1.Inter)) :: ((.d (.str a1.Args)) :: ((.d (.str a1.Text)) :: []))))))]) (l := [(.agg ((.d (.int .i64 a1.State)) :: ((.d (.int .i64 a1.Mark)) :: ((.d (.str a1.Inter)) :: ((.d (.str a1.Args)) :: ((.d (.str a1.Text)) :: []))))))]) (r := (.d (.int .i64 z12))) (by kernel_rfl) (by kernel_rfl) (f15_ok (d - 1) (dpt hd rfl) a1 z12 hz12) (by kernel_rfl) (by kernel_rfl) (by kernel_rfl)) ?_
  refine zlRun (n := 1) (j := 3) rfl (by kernel_rfl) ?_
  refine zlEnd (by kernel_rfl) ?_
  refine zkSeq ?_
  refine zrSeq ?_
  refine zrReg ?_
  refine zlRun (n := 1) (j := 1) rfl (by kernel_rfl) ?_
  refine zlBool (d := 14) (op := (.cmpI .neq (.tmp 13) (.const (.int .i64 0)))) (g := none) (j := 2) (!decide (z12 = 0)) rfl (by kernel_rfl) (by kernel_rfl) (by kernel_rfl) (fun hc => ?_) (fun hc => ?_)
  · replace hS := cond_t hc hS
    refine zlEnd (by kernel_rfl) ?_
    refine zkSeq ?_
    refine zrCondT (by kernel_rfl) ?_
    refine zrSeq ?_
    refine zrReg ?_
    refine zlRun (n := 5) (j := 5) rfl (by kernel_rfl) ?_
    refine zlEnd (by kernel_rfl) ?_
    refine zkSeq ?_
    refine zrRet ?_
    refine zkSeqR ?_
    refine zkNil ?_
    exact endQ hS hQ (fRet ((congrArg (fun s => outR s 0 c11.res) (by kernel_rfl : finSt c11.fin _ = f11_fin a1 [] z12)).trans (f11_out a1 [] z12)))
  · replace hS := cond_f hc hS
    refine zlEnd (by kernel_rfl) ?_
    refine zkSeq ?_
    refine zrCondF (by kernel_rfl) ?_
    refine zrSkip ?_
    refine zkSeq ?_
    exact f11_j0_ok hd a1 a2 hQ  hS (by kernel_rfl)
/- strings.HasPrefix -/
theorem libHasPrefix_ok (d : Nat) (hd : 0 ≤ d) (a1 : List UInt8) (a2 : List UInt8) (r : Bool) (hS : libHasPrefix a1 a2 = some r) : lev codes baseL d 22 [(.d (.str a1)), (.d (.str a2))] [] = some ((.d (.bool r)), []) := lib_call (l := libs) rfl rfl rfl (ossB_ hS) d
/- farwriter/farkeep.PressOne -/
def f8_fin (p26 : Bool) : St := ⟨(up (fun _ => .un) 6 (.d (.bool p26))), (hB fun _ => 0)⟩
theorem f8_out (p26 : Bool) : outR (f8_fin p26) 0 c8.res = some ((.d (.bool p26)), []) := by
  kernel_rfl
def f8_Q (r : Bool) (e : PX) (st : St) : Prop := DoneF c8 0 ((.d (.bool r)), []) e st
def f8_j3_J (a1 : Int) (a2 : Int) (a3 : Int) (p46 : List GAct) : St := ⟨(up (up (fun _ => .un) 13 (.r (.msl 384 0 0 p46.length))) 1 (.d (.int .i64 a2))), (up (hB fun _ => 0) 384 ⟨0, some (.own 31 6 (e_GAct.cells p46))⟩)⟩
noncomputable def f8_j3 (a1 : Int) (a2 : Int) (a3 : Int) (p46 : List GAct) : Option (Bool) := (bif (decide ((p46.length : Int) = 1)) then ((inR 0 p46.length).bind fun m31 => ((p46[m31]?).bind fun z32 => (bif (decide (z32.Kind = 4)) then ((inR 0 p46.length).bind fun m33 => ((p46[m33]?).bind fun z34 => (bif (decide (z34.Mark = 0)) then (bif (decide (a2 = 0)) then ((inR 0 p46.length).bind fun m35 => ((p46[m35]?).bind fun z36 => (bif (decide ((z36.Args.length : Int) = 1)) then (bif (decide (a2 = 0)) then (some true) else ((inR 0 p46.length).bind fun m37 => ((p46[m37]?).bind fun z38 => ((idx z38.Args 1).bind fun z39 => (bif (decide (z39 = (IntKind.i64.wrap (a2 + 1)))) then (some true) else (some false)))))) else (some false)))) else ((inR 0 p46.length).bind fun m40 => ((p46[m40]?).bind fun z41 => (bif (decide ((z41.Args.length : Int) = 1)) then (some false) else (bif (decide (a2 = 0)) then (some true) else ((inR 0 p46.length).bind fun m42 => ((p46[m42]?).bind fun z43 => ((idx z43.Args 1).bind fun z44 => (bif (decide (z44 = (IntKind.i64.wrap (a2 + 1)))) then (some true) else (some false)))))))))) else (some false)))) else (some false)))) else (some false))
theorem f8_j3_ok {d : Nat} (hd : 8 ≤ d) (a1 : Int) (a2 : Int) (a3 : Int) {r : Bool} {Q : PX → St → Prop} (hQ : ∀ e st', f8_Q r e st' → Q e st') (p46 : List GAct) (hS : f8_j3 a1 a2 a3 p46 = some r) {st : St} (he : keepSt [1, 13] [(384, .id 384)] [] st = f8_j3_J a1 a2 a3 p46) : ZR (lev codes baseL (d - 1)) Q c8_1 [] st := by
  refine zrKeep he ?_
  unfold f8_j3 at hS
  refine zrSeq ?_
  refine zrReg ?_
  refine zlRun (n := 2) (j := 2) rfl (by kernel_rfl) ?_
  refine zlBool (d := 81) (op := (.cmpI .eql (.tmp 80) (.const (.int .i64 1)))) (g := none) (j := 3) (decide ((p46.length : Int) = 1)) rfl (by kernel_rfl) (by kernel_rfl) (by kernel_rfl) (fun hc => ?_) (fun hc => ?_)
  · replace hS := cond_t hc hS
    refine zlRun (n := 2) (j := 5) rfl (by kernel_rfl) ?_
    refine bindE hS (fun m31 hm31 hS => ?_)
    refine zlOp (d := some 84) (op := (.ixS 31 6 (.tmp 83) (.const (.int .i64 0)))) (g := (some (82, true))) (v := (.r (.ptr 384 0 ((0 + m31) * 6)))) (ups := []) (j := 6) rfl (by kernel_rfl) (by kernel_rfl) (ev_ixM (kk := .i64) (b := 384) (g := 0) (l := 0) (n := p46.length) (j := 0) (cs := e_GAct.cells p46) (by kernel_rfl) (by kernel_rfl) (by kernel_rfl) hm31) ?_
    refine zlRun (n := 1) (j := 7) rfl (by kernel_rfl) ?_
    refine bindE hS (fun z32 hz32 hS => ?_)
    refine zlOp (d := some 86) (op := (.load .false 1 (.tmp 85))) (g := (some (82, true))) (v := (.d (.int .i64 z32.Kind))) (ups := []) (j := 8) rfl (by kernel_rfl) (by kernel_rfl) (ev_loadM e_GAct (b := 384) (g := 0) (o := (0 + m31) * 6 + 0) (e := 31) (k := 6) (m := m31) (fo := 0) (xs := p46) (by kernel_rfl) (by kernel_rfl) (by rw [Nat.zero_add]; rfl) hz32 (by kernel_rfl) (by kernel_rfl) (by kernel_rfl)) ?_
    refine zlBool (d := 87) (op := (.cmpI .eql (.tmp 86) (.const (.int .i64 4)))) (g := (some (82, true))) (j := 9) (decide (z32.Kind = 4)) rfl (by kernel_rfl) (by kernel_rfl) (by kernel_rfl) (fun hc => ?_) (fun hc => ?_)
    · replace hS := cond_t hc hS
      refine zlRun (n := 3) (j := 12) rfl (by kernel_rfl) ?_
      refine bindE hS (fun m33 hm33 hS => ?_)
      refine zlOp (d := some 91) (op := (.ixS 31 6 (.tmp 90) (.const (.int .i64 0)))) (g := (some (89, true))) (v := (.r (.ptr 384 0 ((0 + m33) * 6)))) (ups := []) (j := 13) rfl (by kernel_rfl) (by kernel_rfl) (ev_ixM (kk := .i64) (b := 384) (g := 0) (l := 0) (n := p46.length) (j := 0) (cs := e_GAct.cells p46) (by kernel_rfl) (by kernel_rfl) (by kernel_rfl) hm33) ?_
      refine zlRun (n := 1) (j := 14) rfl (by kernel_rfl) ?_
      refine bindE hS (fun z34 hz34 hS => ?_)
      refine zlOp (d := some 93) (op := (.load .false 1 (.tmp 92))) (g := (some (89, true))) (v := (.d (.int .i64 z34.Mark))) (ups := []) (j := 15) rfl (by kernel_rfl) (by kernel_rfl) (ev_loadM e_GAct (b := 384) (g := 0) (o := (0 + m33) * 6 + 2) (e := 31) (k := 6) (m := m33) (fo := 2) (xs := p46) (by kernel_rfl) (by kernel_rfl) (by rw [Nat.zero_add]; rfl) hz34 (by kernel_rfl) (by kernel_rfl) (by kernel_rfl)) ?_
      refine zlBool (d := 94) (op := (.cmpI .eql (.tmp 93) (.const (.int .i64 0)))) (g := (some (89, true))) (j := 16) (decide (z34.Mark = 0)) rfl (by kernel_rfl) (by kernel_rfl) (by kernel_rfl) (fun hc => ?_) (fun hc => ?_)
      · replace hS := cond_t hc hS
        refine zlRun (n := 3) (j := 19) rfl (by kernel_rfl) ?_
        refine zlBool (d := 98) (op := (.cmpI .eql (.tmp 97) (.const (.int .i64 0)))) (g := (some (96, true))) (j := 20) (decide (a2 = 0)) rfl (by kernel_rfl) (by kernel_rfl) (by kernel_rfl) (fun hc => ?_) (fun hc => ?_)
        · replace hS := cond_t hc hS
          refine zlRun (n := 1) (j := 21) rfl (by kernel_rfl) ?_
          refine bindE hS (fun m35 hm35 hS => ?_)
          refine zlOp (d := some 100) (op := (.ixS 31 6 (.tmp 99) (.const (.int .i64 0)))) (g := (some (96, true))) (v := (.r (.ptr 384 0 ((0 + m35) * 6)))) (ups := []) (j := 22) rfl (by kernel_rfl) (by kernel_rfl) (ev_ixM (kk := .i64) (b := 384) (g := 0) (l := 0) (n := p46.length) (j := 0) (cs := e_GAct.cells p46) (by kernel_rfl) (by kernel_rfl) (by kernel_rfl) hm35) ?_
          refine zlRun (n := 1) (j := 23) rfl (by kernel_rfl) ?_
          refine bindE hS (fun z36 hz36 hS => ?_)
          refine zlOp (d := some 102) (op := (.load .false 1 (.tmp 101))) (g := (some (96, true))) (v := (.d (.sl z36.Args.length ((eInt .i64).cells z36.Args)))) (ups := []) (j := 24) rfl (by kernel_rfl) (by kernel_rfl) (ev_loadM e_GAct (b := 384) (g := 0) (o := (0 + m35) * 6 + 4) (e := 31) (k := 6) (m := m35) (fo := 4) (xs := p46) (by kernel_rfl) (by kernel_rfl) (by rw [Nat.zero_add]; rfl) hz36 (by kernel_rfl) (by kernel_rfl) (by kernel_rfl)) ?_
          refine zlRun (n := 1) (j := 25) rfl (by kernel_rfl) ?_
          refine zlBool (d := 104) (op := (.cmpI .eql (.tmp 103) (.const (.int .i64 1)))) (g := (some (96, true))) (j := 26) (decide ((z36.Args.length : Int) = 1)) rfl (by kernel_rfl) (by kernel_rfl) (by kernel_rfl) (fun hc => ?_) (fun hc => ?_)
          · replace hS := cond_t hc hS
            refine zlRun (n := 4) (j := 30) rfl (by kernel_rfl) ?_
            refine zlBool (d := 109) (op := (.cmpI .eql (.tmp 108) (.const (.int .i64 0)))) (g := (some (107, true))) (j := 31) (decide (a2 = 0)) rfl (by kernel_rfl) (by kernel_rfl) (by kernel_rfl) (fun hc => ?_) (fun hc => ?_)
            · replace hS := cond_t hc hS
              refine zlRun (n := 13) (j := 44) rfl (by kernel_rfl) ?_
              refine zlEnd (by kernel_rfl) ?_
              refine zkSeq ?_
              refine zrRet ?_
              refine zkNil ?_
              exact endQ hS hQ (fRet ((congrArg (fun s => outR s 0 c8.res) (by kernel_rfl : finSt c8.fin _ = f8_fin true)).trans (f8_out true)))
            · replace hS := cond_f hc hS
              refine zlRun (n := 2) (j := 33) rfl (by kernel_rfl) ?_
              refine bindE hS (fun m37 hm37 hS => ?_)
              refine zlOp (d := some 112) (op := (.ixS 31 6 (.tmp 111) (.const (.int .i64 0)))) (g := (some (110, false))) (v := (.r (.ptr 384 0 ((0 + m37) * 6)))) (ups := []) (j := 34) rfl (by kernel_rfl) (by kernel_rfl) (ev_ixM (kk := .i64) (b := 384) (g := 0) (l := 0) (n := p46.length) (j := 0) (cs := e_GAct.cells p46) (by kernel_rfl) (by kernel_rfl) (by kernel_rfl) hm37) ?_
              refine zlRun (n := 1) (j := 35) rfl (by kernel_rfl) ?_
              refine bindE hS (fun z38 hz38 hS => ?_)
              refine zlOp (d := some 114) (op := (.load .false 1 (.tmp 113))) (g := (some (110, false))) (v := (.d (.sl z38.Args.length ((eInt .i64).cells z38.Args)))) (ups := []) (j := 36) rfl (by kernel_rfl) (by kernel_rfl) (ev_loadM e_GAct (b := 384) (g := 0) (o := (0 + m37) * 6 + 4) (e := 31) (k := 6) (m := m37) (fo := 4) (xs := p46) (by kernel_rfl) (by kernel_rfl) (by rw [Nat.zero_add]; rfl) hz38 (by kernel_rfl) (by kernel_rfl) (by kernel_rfl)) ?_
              refine bindE hS (fun z39 hz39 hS => ?_)
              refine zlOp (d := some 115) (op := (.ixS 3 1 (.tmp 114) (.const (.int .i64 1)))) (g := (some (110, false))) (v := (.rptr ((eInt .i64).enc z39 ++ ((eInt .i64).cells (z38.Args.drop ((1 : Int).toNat + 1)))))) (ups := []) (j := 37) rfl (by kernel_rfl) (by kernel_rfl) (ev_ixS (eInt .i64) (kk := .i64) (xs := z38.Args) (j := 1) (by kernel_rfl) (by kernel_rfl) hz39 rfl (by intro h; cases h)) ?_
              refine zlRun (n := 3) (j := 40) rfl (by kernel_rfl) ?_
              refine zlBool (d := 119) (op := (.cmpI .eql (.tmp 116) (.tmp 118))) (g := (some (110, false))) (j := 41) (decide (z39 = (IntKind.i64.wrap (a2 + 1)))) rfl (by kernel_rfl) (by kernel_rfl) (by kernel_rfl) (fun hc => ?_) (fun hc => ?_)
              · replace hS := cond_t hc hS
                refine zlRun (n := 3) (j := 44) rfl (by kernel_rfl) ?_
                refine zlEnd (by kernel_rfl) ?_
                refine zkSeq ?_
                refine zrRet ?_
                refine zkNil ?_
                exact endQ hS hQ (fRet ((congrArg (fun s => outR s 0 c8.res) (by kernel_rfl : finSt c8.fin _ = f8_fin true)).trans (f8_out true)))
              · replace hS := cond_f hc hS
                refine zlRun (n := 3) (j := 44) rfl (by kernel_rfl) ?_
                refine zlEnd (by kernel_rfl) ?_
                refine zkSeq ?_
                refine zrRet ?_
                refine zkNil ?_
                exact endQ hS hQ (fRet ((congrArg (fun s => outR s 0 c8.res) (by kernel_rfl : finSt c8.fin _ = f8_fin false)).trans (f8_out false)))
          · replace hS := cond_f hc hS
            refine zlRun (n := 18) (j := 44) rfl (by kernel_rfl) ?_
            refine zlEnd (by kernel_rfl) ?_
            refine zkSeq ?_
            refine zrRet ?_
            refine zkNil ?_
            exact endQ hS hQ (fRet ((congrArg (fun s => outR s 0 c8.res) (by kernel_rfl : finSt c8.fin _ = f8_fin false)).trans (f8_out false)))
        · replace hS := cond_f hc hS
          refine zlRun (n := 1) (j := 21) rfl (by kernel_rfl) ?_
          refine bindE hS (fun m40 hm40 hS => ?_)
          refine zlOp (d := some 100) (op := (.ixS 31 6 (.tmp 99) (.const (.int .i64 0)))) (g := (some (96, true))) (v := (.r (.ptr 384 0 ((0 + m40) * 6)))) (ups := []) (j := 22) rfl (by kernel_rfl) (by kernel_rfl) (ev_ixM (kk := .i64) (b := 384) (g := 0) (l := 0) (n := p46.length) (j := 0) (cs := e_GAct.cells p46) (by kernel_rfl) (by kernel_rfl) (by kernel_rfl) hm40) ?_
          refine zlRun (n := 1) (j := 23) rfl (by kernel_rfl) ?_
          refine bindE hS (fun z41 hz41 hS => ?_)
          refine zlOp (d := some 102) (op := (.load .false 1 (.tmp 101))) (g := (some (96, true))) (v := (.d (.sl z41.Args.length ((eInt .i64).cells z41.Args)))) (ups := []) (j := 24) rfl (by kernel_rfl) (by kernel_rfl) (ev_loadM e_GAct (b := 384) (g := 0) (o := (0 + m40) * 6 + 4) (e := 31) (k := 6) (m := m40) (fo := 4) (xs := p46) (by kernel_rfl) (by kernel_rfl) (by rw [Nat.zero_add]; rfl) hz41 (by kernel_rfl) (by kernel_rfl) (by kernel_rfl)) ?_
          refine zlRun (n := 1) (j := 25) rfl (by kernel_rfl) ?_
          refine zlBool (d := 104) (op := (.cmpI .eql (.tmp 103) (.const (.int .i64 1)))) (g := (some (96, true))) (j := 26) (decide ((z41.Args.length : Int) = 1)) rfl (by kernel_rfl) (by kernel_rfl) (by kernel_rfl) (fun hc => ?_) (fun hc => ?_)
          · replace hS := cond_t hc hS
            refine zlRun (n := 18) (j := 44) rfl (by kernel_rfl) ?_
            refine zlEnd (by kernel_rfl) ?_
            refine zkSeq ?_
            refine zrRet ?_
            refine zkNil ?_
            exact endQ hS hQ (fRet ((congrArg (fun s => outR s 0 c8.res) (by kernel_rfl : finSt c8.fin _ = f8_fin false)).trans (f8_out false)))
          · replace hS := cond_f hc hS
            refine zlRun (n := 4) (j := 30) rfl (by kernel_rfl) ?_
            refine zlBool (d := 109) (op := (.cmpI .eql (.tmp 108) (.const (.int .i64 0)))) (g := (some (107, true))) (j := 31) (decide (a2 = 0)) rfl (by kernel_rfl) (by kernel_rfl) (by kernel_rfl) (fun hc => ?_) (fun hc => ?_)
            · replace hS := cond_t hc hS
              refine zlRun (n := 13) (j := 44) rfl (by kernel_rfl) ?_
              refine zlEnd (by kernel_rfl) ?_
              refine zkSeq ?_
              refine zrRet ?_
              refine zkNil ?_
              exact endQ hS hQ (fRet ((congrArg (fun s => outR s 0 c8.res) (by kernel_rfl : finSt c8.fin _ = f8_fin true)).trans (f8_out true)))
            · replace hS := cond_f hc hS
              refine zlRun (n := 2) (j := 33) rfl (by kernel_rfl) ?_
              refine bindE hS (fun m42 hm42 hS => ?_)
              refine zlOp (d := some 112) (op := (.ixS 31 6 (.tmp 111) (.const (.int .i64 0)))) (g := (some (110, false))) (v := (.r (.ptr 384 0 ((0 + m42) * 6)))) (ups := []) (j := 34) rfl (by kernel_rfl) (by kernel_rfl) (ev_ixM (kk := .i64) (b := 384) (g := 0) (l := 0) (n := p46.length) (j := 0) (cs := e_GAct.cells p46) (by kernel_rfl) (by kernel_rfl) (by kernel_rfl) hm42) ?_
              refine zlRun (n := 1) (j := 35) rfl (by kernel_rfl) ?_
              refine bindE hS (fun z43 hz43 hS => ?_)
              refine zlOp (d := some 114) (op := (.load .false 1 (.tmp 113))) (g := (some (110, false))) (v := (.d (.sl z43.Args.length ((eInt .i64).cells z43.Args)))) (ups := []) (j := 36) rfl (by kernel_rfl) (by kernel_rfl) (ev_loadM e_GAct (b := 384) (g := 0) (o := (0 + m42) * 6 + 4) (e := 31) (k := 6) (m := m42) (fo := 4) (xs := p46) (by kernel_rfl) (by kernel_rfl) (by rw [Nat.zero_add]; rfl) hz43 (by kernel_rfl) (by kernel_rfl) (by kernel_rfl)) ?_
              refine bindE hS (fun z44 hz44 hS => ?_)
              refine zlOp (d := some 115) (op := (.ixS 3 1 (.tmp 114) (.const (.int .i64 1)))) (g := (some (110, false))) (v := (.rptr ((eInt .i64).enc z44 ++ ((eInt .i64).cells (z43.Args.drop ((1 : Int).toNat + 1)))))) (ups := []) (j := 37) rfl (by kernel_rfl) (by kernel_rfl) (ev_ixS (eInt .i64) (kk := .i64) (xs := z43.Args) (j := 1) (by kernel_rfl) (by kernel_rfl) hz44 rfl (by intro h; cases h)) ?_
              refine zlRun (n := 3) (j := 40) rfl (by kernel_rfl) ?_
              refine zlBool (d := 119) (op := (.cmpI .eql (.tmp 116) (.tmp 118))) (g := (some (110, false))) (j := 41) (decide (z44 = (IntKind.i64.wrap (a2 + 1)))) rfl (by kernel_rfl) (by kernel_rfl) (by kernel_rfl) (fun hc => ?_) (fun hc => ?_)
              · replace hS := cond_t hc hS
                refine zlRun (n := 3) (j := 44) rfl (by kernel_rfl) ?_
                refine zlEnd (by kernel_rfl) ?_
                refine zkSeq ?_
                refine zrRet ?_
                refine zkNil ?_
                exact endQ hS hQ (fRet ((congrArg (fun s => outR s 0 c8.res) (by kernel_rfl : finSt c8.fin _ = f8_fin true)).trans (f8_out true)))
              · replace hS := cond_f hc hS
                refine zlRun (n := 3) (j := 44) rfl (by kernel_rfl) ?_
                refine zlEnd (by kernel_rfl) ?_
                refine zkSeq ?_
                refine zrRet ?_
                refine zkNil ?_
                exact endQ hS hQ (fRet ((congrArg (fun s => outR s 0 c8.res) (by kernel_rfl : finSt c8.fin _ = f8_fin false)).trans (f8_out false)))
      · replace hS := cond_f hc hS
        refine zlRun (n := 28) (j := 44) rfl (by kernel_rfl) ?_
        refine zlEnd (by kernel_rfl) ?_
        refine zkSeq ?_
        refine zrRet ?_
        refine zkNil ?_
        exact endQ hS hQ (fRet ((congrArg (fun s => outR s 0 c8.res) (by kernel_rfl : finSt c8.fin _ = f8_fin false)).trans (f8_out false)))
    · replace hS := cond_f hc hS
      refine zlRun (n := 35) (j := 44) rfl (by kernel_rfl) ?_
      refine zlEnd (by kernel_rfl) ?_
      refine zkSeq ?_
      refine zrRet ?_
      refine zkNil ?_
      exact endQ hS hQ (fRet ((congrArg (fun s => outR s 0 c8.res) (by kernel_rfl : finSt c8.fin _ = f8_fin false)).trans (f8_out false)))
  · replace hS := cond_f hc hS
    refine zlRun (n := 41) (j := 44) rfl (by kernel_rfl) ?_
    refine zlEnd (by kernel_rfl) ?_
    refine zkSeq ?_
    refine zrRet ?_
    refine zkNil ?_
    exact endQ hS hQ (fRet ((congrArg (fun s => outR s 0 c8.res) (by kernel_rfl : finSt c8.fin _ = f8_fin false)).trans (f8_out false)))
def f8_j2_J (a1 : Int) (a2 : Int) (a3 : Int) (p40 : List UInt8) (p41 : List GAct) : St := ⟨(up (up (up (fun _ => .un) 13 (.r (.msl 384 0 0 p41.length))) 7 (.d (.str p40))) 1 (.d (.int .i64 a2))), (up (hB fun _ => 0) 384 ⟨0, some (.own 31 6 (e_GAct.cells p41))⟩)⟩
noncomputable def f8_j2 (a1 : Int) (a2 : Int) (a3 : Int) (p40 : List UInt8) (p41 : List GAct) : Option (Bool) := ((libHasPrefix p40 [27, 79]).bind fun z45 => (bif z45 then (bif (decide (a2 = 0)) then (bif (decide ((p40.length : Int) = 3)) then (bif (decide ((p41.length : Int) = 2)) then ((inR 1 p41.length).bind fun m46 => ((p41[m46]?).bind fun z47 => (bif (decide (z47.Kind = 1)) then (some true) else (some false)))) else (some false)) else (some false)) else (some false)) else (f8_j3 a1 a2 a3 p41)))
theorem f8_j2_ok {d : Nat} (hd : 8 ≤ d) (a1 : Int) (a2 : Int) (a3 : Int) {r : Bool} {Q : PX → St → Prop} (hQ : ∀ e st', f8_Q r e st' → Q e st') (p40 : List UInt8) (p41 : List GAct) (hS : f8_j2 a1 a2 a3 p40 p41 = some r) {st : St} (he : keepSt [1, 7, 13] [(384, .id 384)] [] st = f8_j2_J a1 a2 a3 p40 p41) : ZR (lev codes baseL (d - 1)) Q c8_2 [] st := by
  refine zrKeep he ?_
  unfold f8_j2 at hS
  refine zrSeq ?_
  refine zrSeq ?_
  refine zrReg ?_
  refine zlRun (n := 1) (j := 1) rfl (by kernel_rfl) ?_
  refine bindE hS (fun z45 hz45 hS => ?_)
  refine zlOp (d := some 59) (op := (.call 22 [(.tmp 58), (.const (.string ⟨#[27, 79]⟩))])) (g := none) (v := (.d (.bool z45))) (ups := []) (j := 2) rfl (by kernel_rfl) (by kernel_rfl) (ev_call (args := [(.d (.str p40)), (.d (.str ([27, 79])))]) (l := [(.d (.str p40)), (.d (.str ([27, 79])))]) (r := (.d (.bool z45))) (by kernel_rfl) (by kernel_rfl) (libHasPrefix_ok (d - 1) (dpt hd rfl) p40 [27, 79] z45 hz45) (by kernel_rfl) (by kernel_rfl) (by kernel_rfl)) ?_
  refine zlEnd (by kernel_rfl) ?_
  refine zkSeq ?_
  refine zrSplit 59 z45 (by kernel_rfl) (fun hc => ?_) (fun hc => ?_)
  · replace hS := cond_t hc hS
    refine zrCondT (by kernel_rfl) ?_
    refine zrSeq ?_
    refine zrReg ?_
    refine zlRun (n := 1) (j := 1) rfl (by kernel_rfl) ?_
    refine zlBool (d := 61) (op := (.cmpI .eql (.tmp 60) (.const (.int .i64 0)))) (g := none) (j := 2) (decide (a2 = 0)) rfl (by kernel_rfl) (by kernel_rfl) (by kernel_rfl) (fun hc => ?_) (fun hc => ?_)
    · replace hS := cond_t hc hS
      refine zlRun (n := 3) (j := 5) rfl (by kernel_rfl) ?_
      refine zlBool (d := 65) (op := (.cmpI .eql (.tmp 64) (.const (.int .i64 3)))) (g := (some (62, true))) (j := 6) (decide ((p40.length : Int) = 3)) rfl (by kernel_rfl) (by kernel_rfl) (by kernel_rfl) (fun hc => ?_) (fun hc => ?_)
      · replace hS := cond_t hc hS
        refine zlRun (n := 4) (j := 10) rfl (by kernel_rfl) ?_
        refine zlBool (d := 70) (op := (.cmpI .eql (.tmp 69) (.const (.int .i64 2)))) (g := (some (67, true))) (j := 11) (decide ((p41.length : Int) = 2)) rfl (by kernel_rfl) (by kernel_rfl) (by kernel_rfl) (fun hc => ?_) (fun hc => ?_)
        · replace hS := cond_t hc hS
          refine zlRun (n := 3) (j := 14) rfl (by kernel_rfl) ?_
          refine bindE hS (fun m46 hm46 hS => ?_)
          refine zlOp (d := some 74) (op := (.ixS 31 6 (.tmp 73) (.const (.int .i64 1)))) (g := (some (72, true))) (v := (.r (.ptr 384 0 ((0 + m46) * 6)))) (ups := []) (j := 15) rfl (by kernel_rfl) (by kernel_rfl) (ev_ixM (kk := .i64) (b := 384) (g := 0) (l := 0) (n := p41.length) (j := 1) (cs := e_GAct.cells p41) (by kernel_rfl) (by kernel_rfl) (by kernel_rfl) hm46) ?_
          refine zlRun (n := 1) (j := 16) rfl (by kernel_rfl) ?_
          refine bindE hS (fun z47 hz47 hS => ?_)
          refine zlOp (d := some 76) (op := (.load .false 1 (.tmp 75))) (g := (some (72, true))) (v := (.d (.int .i64 z47.Kind))) (ups := []) (j := 17) rfl (by kernel_rfl) (by kernel_rfl) (ev_loadM e_GAct (b := 384) (g := 0) (o := (0 + m46) * 6 + 0) (e := 31) (k := 6) (m := m46) (fo := 0) (xs := p41) (by kernel_rfl) (by kernel_rfl) (by rw [Nat.zero_add]; rfl) hz47 (by kernel_rfl) (by kernel_rfl) (by kernel_rfl)) ?_
          refine zlBool (d := 77) (op := (.cmpI .eql (.tmp 76) (.const (.int .i64 1)))) (g := (some (72, true))) (j := 18) (decide (z47.Kind = 1)) rfl (by kernel_rfl) (by kernel_rfl) (by kernel_rfl) (fun hc => ?_) (fun hc => ?_)
          · replace hS := cond_t hc hS
            refine zlRun (n := 2) (j := 20) rfl (by kernel_rfl) ?_
            refine zlEnd (by kernel_rfl) ?_
            refine zkSeq ?_
            refine zrRet ?_
            refine zkSeqR ?_
            refine zkNil ?_
            exact endQ hS hQ (fRet ((congrArg (fun s => outR s 0 c8.res) (by kernel_rfl : finSt c8.fin _ = f8_fin true)).trans (f8_out true)))
          · replace hS := cond_f hc hS
            refine zlRun (n := 2) (j := 20) rfl (by kernel_rfl) ?_
            refine zlEnd (by kernel_rfl) ?_
            refine zkSeq ?_
            refine zrRet ?_
            refine zkSeqR ?_
            refine zkNil ?_
            exact endQ hS hQ (fRet ((congrArg (fun s => outR s 0 c8.res) (by kernel_rfl : finSt c8.fin _ = f8_fin false)).trans (f8_out false)))
        · replace hS := cond_f hc hS
          refine zlRun (n := 9) (j := 20) rfl (by kernel_rfl) ?_
          refine zlEnd (by kernel_rfl) ?_
          refine zkSeq ?_
          refine zrRet ?_
          refine zkSeqR ?_
          refine zkNil ?_
          exact endQ hS hQ (fRet ((congrArg (fun s => outR s 0 c8.res) (by kernel_rfl : finSt c8.fin _ = f8_fin false)).trans (f8_out false)))
      · replace hS := cond_f hc hS
        refine zlRun (n := 14) (j := 20) rfl (by kernel_rfl) ?_
        refine zlEnd (by kernel_rfl) ?_
        refine zkSeq ?_
        refine zrRet ?_
        refine zkSeqR ?_
        refine zkNil ?_
        exact endQ hS hQ (fRet ((congrArg (fun s => outR s 0 c8.res) (by kernel_rfl : finSt c8.fin _ = f8_fin false)).trans (f8_out false)))
    · replace hS := cond_f hc hS
      refine zlRun (n := 18) (j := 20) rfl (by kernel_rfl) ?_
      refine zlEnd (by kernel_rfl) ?_
      refine zkSeq ?_
      refine zrRet ?_
      refine zkSeqR ?_
      refine zkNil ?_
      exact endQ hS hQ (fRet ((congrArg (fun s => outR s 0 c8.res) (by kernel_rfl : finSt c8.fin _ = f8_fin false)).trans (f8_out false)))
  · replace hS := cond_f hc hS
    refine zrCondF (by kernel_rfl) ?_
    refine zrSkip ?_
    refine zkSeq ?_
    exact f8_j3_ok hd a1 a2 a3 hQ p41 hS (by kernel_rfl)
def f8_j1_J (a1 : Int) (a2 : Int) (a3 : Int) (p33 : List UInt8) (p34 : List Int) : St := ⟨(up (up (up (fun _ => .un) 10 (.d (.sl p34.length ((eInt .i64).cells p34)))) 7 (.d (.str p33))) 1 (.d (.int .i64 a2))), (hB fun _ => 0)⟩
noncomputable def f8_j1 (a1 : Int) (a2 : Int) (a3 : Int) (p33 : List UInt8) (p34 : List Int) : Option (Bool) := ((f11 (GParser.mk 0 0 ([]) ([]) ([])) p34).bind fun z27 => (bif (!decide (z27.2.2 = 0)) then (some false) else (bif (!(decide (z27.1.State = 0) && (decide (z27.1.Mark = 0) && (decide (z27.1.Inter = ([] : List UInt8)) && (decide (z27.1.Args = ([] : List UInt8)) && (decide (z27.1.Text = ([] : List UInt8)) && true)))))) then (some false) else (f8_j2 a1 a2 a3 p33 z27.2.1))))
theorem f8_j1_ok {d : Nat} (hd : 8 ≤ d) (a1 : Int) (a2 : Int) (a3 : Int) {r : Bool} {Q : PX → St → Prop} (hQ : ∀ e st', f8_Q r e st' → Q e st') (p33 : List UInt8) (p34 : List Int) (hS : f8_j1 a1 a2 a3 p33 p34 = some r) {st : St} (he : keepSt [1, 7, 10] [] [] st = f8_j1_J a1 a2 a3 p33 p34) : ZR (lev codes baseL (d - 1)) Q c8_3 [] st := by
  refine zrKeep he ?_
  unfold f8_j1 at hS
  refine zrSeq ?_
  refine zrReg ?_
  refine zlRun (n := 2) (j := 2) rfl (by kernel_rfl) ?_
  refine bindE hS (fun z27 hz27 hS => ?_)
  refine zlOp (d := some 47) (op := (.callf 11 [(.tmp 45), (.tmp 46)])) (g := none) (v := (.tup [(.agg ((.d (.int .i64 z27.1.State)) :: ((.d (.int .i64 z27.1.Mark)) :: ((.d (.str z27.1.Inter)) :: ((.d (.str z27.1.Args)) :: ((.d (.str z27.1.Text)) :: [])))))), (.r (.msl 384 1 0 z27.2.1.length)), (.d (.int .i64 z27.2.2))])) (ups := [(384, ⟨1, some (.own 31 6 (e_GAct.cells z27.2.1))⟩)]) (j := 3) rfl (by kernel_rfl) (by kernel_rfl) (ev_callF (args := [(.agg ((.d (.int .i64 0)) :: ((.d (.int .i64 0)) :: ((.d (.str ([]))) :: ((.d (.str ([]))) :: ((.d (.str ([]))) :: [])))))), (.d (.sl p34.length ((eInt .i64).cells p34)))]) (args' := [(.agg ((.d (.int .i64 0)) :: ((.d (.int .i64 0)) :: ((.d (.str ([]))) :: ((.d (.str ([]))) :: ((.d (.str ([]))) :: [])))))), (.d (.sl p34.length ((eInt .i64).cells p34)))]) (l := [(.agg ((.d (.int .i64 0)) :: ((.d (.int .i64 0)) :: ((.d (.str ([]))) :: ((.d (.str ([]))) :: ((.d (.str ([]))) :: [])))))), (.d (.sl p34.length ((eInt .i64).cells p34)))]) (refs := []) (r := (.tup [(.agg ((.d (.int .i64 z27.1.State)) :: ((.d (.int .i64 z27.1.Mark)) :: ((.d (.str z27.1.Inter)) :: ((.d (.str z27.1.Args)) :: ((.d (.str z27.1.Text)) :: [])))))), (.r (.own 0 31 6 z27.2.1.length (e_GAct.cells z27.2.1))), (.d (.int .i64 z27.2.2))])) (v := (.tup [(.agg ((.d (.int .i64 z27.1.State)) :: ((.d (.int .i64 z27.1.Mark)) :: ((.d (.str z27.1.Inter)) :: ((.d (.str z27.1.Args)) :: ((.d (.str z27.1.Text)) :: [])))))), (.r (.msl 384 1 0 z27.2.1.length)), (.d (.int .i64 z27.2.2))])) (ups' := [(384, ⟨1, some (.own 31 6 (e_GAct.cells z27.2.1))⟩)]) (by kernel_rfl) (by kernel_rfl) (by kernel_rfl) (fz_cons rfl (fz_cons rfl fz_nil)) (by kernel_rfl) (f11_ok (d - 1) (dpt hd rfl) (GParser.mk 0 0 ([]) ([]) ([])) p34 z27 hz27) (by kernel_rfl) (by kernel_rfl) (by kernel_rfl) (by kernel_rfl)) ?_
  refine zlRun (n := 8) (j := 11) rfl (by kernel_rfl) ?_
  refine zlEnd (by kernel_rfl) ?_
  refine zkSeq ?_
  refine zrSeq ?_
  refine zrSeq ?_
  refine zrReg ?_
  refine zlRun (n := 1) (j := 1) rfl (by kernel_rfl) ?_
  refine zlBool (d := 52) (op := (.cmpI .neq (.tmp 51) (.const (.int .i64 0)))) (g := none) (j := 2) (!decide (z27.2.2 = 0)) rfl (by kernel_rfl) (by kernel_rfl) (by kernel_rfl) (fun hc => ?_) (fun hc => ?_)
  · replace hS := cond_t hc hS
    refine zlRun (n := 5) (j := 7) rfl (by kernel_rfl) ?_
    refine zlEnd (by kernel_rfl) ?_
    refine zkSeq ?_
    refine zrCondT (by kernel_rfl) ?_
    refine zrSeq ?_
    refine zrReg ?_
    refine zlRun (n := 1) (j := 1) rfl (by kernel_rfl) ?_
    refine zlEnd (by kernel_rfl) ?_
    refine zkSeq ?_
    refine zrRet ?_
    refine zkSeqR ?_
    refine zkNil ?_
    exact endQ hS hQ (fRet ((congrArg (fun s => outR s 0 c8.res) (by kernel_rfl : finSt c8.fin _ = f8_fin false)).trans (f8_out false)))
  · replace hS := cond_f hc hS
    refine zlRun (n := 3) (j := 5) rfl (by kernel_rfl) ?_
    refine zlBool (d := 56) (op := (.eqA .true [(2, .int), (3, .str)] (.tmp 54) (.tmp 55))) (g := (some (53, false))) (j := 6) (!(decide (z27.1.State = 0) && (decide (z27.1.Mark = 0) && (decide (z27.1.Inter = ([] : List UInt8)) && (decide (z27.1.Args = ([] : List UInt8)) && (decide (z27.1.Text = ([] : List UInt8)) && true)))))) rfl (by kernel_rfl) (by kernel_rfl) (by kernel_rfl) (fun hc => ?_) (fun hc => ?_)
    · replace hS := cond_t hc hS
      refine zlRun (n := 1) (j := 7) rfl (by kernel_rfl) ?_
      refine zlEnd (by kernel_rfl) ?_
      refine zkSeq ?_
      refine zrCondT (by kernel_rfl) ?_
      refine zrSeq ?_
      refine zrReg ?_
      refine zlRun (n := 1) (j := 1) rfl (by kernel_rfl) ?_
      refine zlEnd (by kernel_rfl) ?_
      refine zkSeq ?_
      refine zrRet ?_
      refine zkSeqR ?_
      refine zkNil ?_
      exact endQ hS hQ (fRet ((congrArg (fun s => outR s 0 c8.res) (by kernel_rfl : finSt c8.fin _ = f8_fin false)).trans (f8_out false)))
    · replace hS := cond_f hc hS
      refine zlRun (n := 1) (j := 7) rfl (by kernel_rfl) ?_
      refine zlEnd (by kernel_rfl) ?_
      refine zkSeq ?_
      refine zrCondF (by kernel_rfl) ?_
      refine zrSkip ?_
      refine zkSeq ?_
      exact f8_j2_ok hd a1 a2 a3 hQ p33 z27.2.1 hS (by kernel_rfl)
def f8_j0_J (a1 : Int) (a2 : Int) (a3 : Int) (p32 : List UInt8) : St := ⟨(up (up (fun _ => .un) 7 (.d (.str p32))) 1 (.d (.int .i64 a2))), (hB fun _ => 0)⟩
noncomputable def f8_j0 (a1 : Int) (a2 : Int) (a3 : Int) (p32 : List UInt8) : Option (Bool) := ((f21 [] p32).bind fun z26 => (f8_j1 a1 a2 a3 p32 z26.2.1))
theorem f8_j0_ok {d : Nat} (hd : 8 ≤ d) (a1 : Int) (a2 : Int) (a3 : Int) {r : Bool} {Q : PX → St → Prop} (hQ : ∀ e st', f8_Q r e st' → Q e st') (p32 : List UInt8) (hS : f8_j0 a1 a2 a3 p32 = some r) {st : St} (he : keepSt [1, 7] [] [] st = f8_j0_J a1 a2 a3 p32) : ZR (lev codes baseL (d - 1)) Q c8_4 [] st := by
  refine zrKeep he ?_
  unfold f8_j0 at hS
  refine zrSeq ?_
  refine zrReg ?_
  refine zlRun (n := 1) (j := 1) rfl (by kernel_rfl) ?_
  refine bindE hS (fun z26 hz26 hS => ?_)
  refine zlOp (d := some 40) (op := (.call 21 [(.const (.string ⟨#[]⟩)), (.tmp 39)])) (g := none) (v := (.tup [(.d (.str z26.1)), (.r (.msl 328 1 0 z26.2.1.length)), (.d (.int .i64 z26.2.2))])) (ups := [(328, ⟨1, some (.own 3 1 ((eInt .i64).cells z26.2.1))⟩)]) (j := 2) rfl (by kernel_rfl) (by kernel_rfl) (ev_call (args := [(.d (.str ([]))), (.d (.str p32))]) (l := [(.d (.str ([]))), (.d (.str p32))]) (r := (.tup [(.d (.str z26.1)), (.r (.own 0 3 1 z26.2.1.length ((eInt .i64).cells z26.2.1))), (.d (.int .i64 z26.2.2))])) (by kernel_rfl) (by kernel_rfl) (f21_ok (d - 1) (dpt hd rfl) [] p32 z26 hz26) (by kernel_rfl) (by kernel_rfl) (by kernel_rfl)) ?_
  refine zlRun (n := 7) (j := 9) rfl (by kernel_rfl) ?_
  refine zlEnd (by kernel_rfl) ?_
  refine zkSeq ?_
  exact f8_j1_ok hd a1 a2 a3 hQ p32 z26.2.1 hS (by exact (by kernel_rfl : _ = (⟨(up (up (up (fun _ => .un) 10 (.d (.sl z26.2.1.length ((((eInt .i64).cells z26.2.1).drop (0 * (eInt .i64).k)).take (z26.2.1.length * (eInt .i64).k))))) 7 (.d (.str p32))) 1 (.d (.int .i64 a2))), (hB fun _ => 0)⟩ : St)).trans (by simp only [Enc.frz]; kernel_rfl))
noncomputable def f8 (a1 : Int) (a2 : Int) (a3 : Int) : Option (Bool) := ((f19 (GKey.mk a1 0 a2) a3).bind fun z23 => (f20.bind fun z48 => (bif (!z48) then (f20.bind fun z49 => (some z49)) else (bif (!decide (z23.2 = 0)) then (f20.bind fun z50 => (some z50)) else (bif (decide (a1 < 1)) then (f20.bind fun z51 => (some z51)) else (bif (decide (22 < a1)) then (f20.bind fun z52 => (some z52)) else (f8_j0 a1 a2 a3 z23.1)))))))
theorem f8_ok (d : Nat) (hd : 8 ≤ d) (a1 : Int) (a2 : Int) (a3 : Int) (r : Bool) (hS : f8 a1 a2 a3 = some r) : lev codes baseL d 8 [(.d (.int .i64 a1)), (.d (.int .i64 a2)), (.d (.int .i64 a3))] [] = some ((.d (.bool r)), []) := by
  refine lev_go codes8 rfl rfl (Nat.le_trans (Nat.le_of_ble_eq_true rfl) hd) fun Q hQ => ?_
  unfold f8 at hS
  show ZR _ Q c8_b [] _
  replace hQ : ∀ e st', f8_Q r e st' → Q e st' := hQ
  refine zrSeq ?_
  refine zrReg ?_
  refine zlRun (n := 1) (j := 1) rfl (by kernel_rfl) ?_
  refine zlEnd (by kernel_rfl) ?_
  refine zkSeq ?_
  refine zrSeq ?_
  refine zrReg ?_
  refine zlRun (n := 4) (j := 4) rfl (by kernel_rfl) ?_
  refine bindE hS (fun z23 hz23 hS => ?_)
  refine zlOp (d := some 20) (op := (.call 19 [(.tmp 18), (.tmp 19)])) (g := none) (v := (.tup [(.d (.str z23.1)), (.d (.int .i64 z23.2))])) (ups := []) (j := 5) rfl (by kernel_rfl) (by kernel_rfl) (ev_call (args := [(.agg ((.d (.int .i64 a1)) :: ((.d (.int .i64 0)) :: ((.d (.int .i64 a2)) :: [])))), (.d (.int .i64 a3))]) (l := [(.agg ((.d (.int .i64 a1)) :: ((.d (.int .i64 0)) :: ((.d (.int .i64 a2)) :: [])))), (.d (.int .i64 a3))]) (r := (.tup [(.d (.str z23.1)), (.d (.int .i64 z23.2))])) (by kernel_rfl) (by kernel_rfl) (f19_ok (d - 1) (dpt hd rfl) (GKey.mk a1 0 a2) a3 z23 hz23) (by kernel_rfl) (by kernel_rfl) (by kernel_rfl)) ?_
  refine zlRun (n := 5) (j := 10) rfl (by kernel_rfl) ?_
  refine zlEnd (by kernel_rfl) ?_
  refine zkSeq ?_
  refine zrSeq ?_
  refine zrSeq ?_
  refine zrReg ?_
  refine bindE hS (fun z48 hz48 hS => ?_)
  refine zlOp (d := some 23) (op := (.call 20 [])) (g := none) (v := (.d (.bool z48))) (ups := []) (j := 1) rfl (by kernel_rfl) (by kernel_rfl) (ev_call (args := []) (l := []) (r := (.d (.bool z48))) (by kernel_rfl) (by kernel_rfl) (f20_ok (d - 1) (dpt hd rfl)  z48 hz48) (by kernel_rfl) (by kernel_rfl) (by kernel_rfl)) ?_
  refine zlRun (n := 2) (j := 3) rfl (by kernel_rfl) ?_
  refine zlSplit 25 (!z48) (by kernel_rfl) (fun hc => ?_) (fun hc => ?_)
  · replace hS := cond_t hc hS
    refine zlRun (n := 11) (j := 14) rfl (by kernel_rfl) ?_
    refine zlEnd (by kernel_rfl) ?_
    refine zkSeq ?_
    refine zrCondT (by kernel_rfl) ?_
    refine zrSeq ?_
    refine zrReg ?_
    refine bindE hS (fun z49 hz49 hS => ?_)
    refine zlOp (d := some 37) (op := (.call 20 [])) (g := none) (v := (.d (.bool z49))) (ups := []) (j := 1) rfl (by kernel_rfl) (by kernel_rfl) (ev_call (args := []) (l := []) (r := (.d (.bool z49))) (by kernel_rfl) (by kernel_rfl) (f20_ok (d - 1) (dpt hd rfl)  z49 hz49) (by kernel_rfl) (by kernel_rfl) (by kernel_rfl)) ?_
    refine zlRun (n := 1) (j := 2) rfl (by kernel_rfl) ?_
    refine zlEnd (by kernel_rfl) ?_
    refine zkSeq ?_
    refine zrRet ?_
    refine zkSeqR ?_
    refine zkNil ?_
    exact endQ hS hQ (fRet ((congrArg (fun s => outR s 0 c8.res) (by kernel_rfl : finSt c8.fin _ = f8_fin z49)).trans (f8_out z49)))
  · replace hS := cond_f hc hS
    refine zlRun (n := 1) (j := 4) rfl (by kernel_rfl) ?_
    refine zlBool (d := 27) (op := (.cmpI .neq (.tmp 26) (.const (.int .i64 0)))) (g := (some (25, false))) (j := 5) (!decide (z23.2 = 0)) rfl (by kernel_rfl) (by kernel_rfl) (by kernel_rfl) (fun hc => ?_) (fun hc => ?_)
    · replace hS := cond_t hc hS
      refine zlRun (n := 9) (j := 14) rfl (by kernel_rfl) ?_
      refine zlEnd (by kernel_rfl) ?_
      refine zkSeq ?_
      refine zrCondT (by kernel_rfl) ?_
      refine zrSeq ?_
      refine zrReg ?_
      refine bindE hS (fun z50 hz50 hS => ?_)
      refine zlOp (d := some 37) (op := (.call 20 [])) (g := none) (v := (.d (.bool z50))) (ups := []) (j := 1) rfl (by kernel_rfl) (by kernel_rfl) (ev_call (args := []) (l := []) (r := (.d (.bool z50))) (by kernel_rfl) (by kernel_rfl) (f20_ok (d - 1) (dpt hd rfl)  z50 hz50) (by kernel_rfl) (by kernel_rfl) (by kernel_rfl)) ?_
      refine zlRun (n := 1) (j := 2) rfl (by kernel_rfl) ?_
      refine zlEnd (by kernel_rfl) ?_
      refine zkSeq ?_
      refine zrRet ?_
      refine zkSeqR ?_
      refine zkNil ?_
      exact endQ hS hQ (fRet ((congrArg (fun s => outR s 0 c8.res) (by kernel_rfl : finSt c8.fin _ = f8_fin z50)).trans (f8_out z50)))
    · replace hS := cond_f hc hS
      refine zlRun (n := 3) (j := 8) rfl (by kernel_rfl) ?_
      refine zlBool (d := 31) (op := (.cmpI .lss (.tmp 30) (.const (.int .i64 1)))) (g := (some (29, false))) (j := 9) (decide (a1 < 1)) rfl (by kernel_rfl) (by kernel_rfl) (by kernel_rfl) (fun hc => ?_) (fun hc => ?_)
      · replace hS := cond_t hc hS
        refine zlRun (n := 5) (j := 14) rfl (by kernel_rfl) ?_
        refine zlEnd (by kernel_rfl) ?_
        refine zkSeq ?_
        refine zrCondT (by kernel_rfl) ?_
        refine zrSeq ?_
        refine zrReg ?_
        refine bindE hS (fun z51 hz51 hS => ?_)
        refine zlOp (d := some 37) (op := (.call 20 [])) (g := none) (v := (.d (.bool z51))) (ups := []) (j := 1) rfl (by kernel_rfl) (by kernel_rfl) (ev_call (args := []) (l := []) (r := (.d (.bool z51))) (by kernel_rfl) (by kernel_rfl) (f20_ok (d - 1) (dpt hd rfl)  z51 hz51) (by kernel_rfl) (by kernel_rfl) (by kernel_rfl)) ?_
        refine zlRun (n := 1) (j := 2) rfl (by kernel_rfl) ?_
        refine zlEnd (by kernel_rfl) ?_
        refine zkSeq ?_
        refine zrRet ?_
        refine zkSeqR ?_
        refine zkNil ?_
        exact endQ hS hQ (fRet ((congrArg (fun s => outR s 0 c8.res) (by kernel_rfl : finSt c8.fin _ = f8_fin z51)).trans (f8_out z51)))
      · replace hS := cond_f hc hS
        refine zlRun (n := 3) (j := 12) rfl (by kernel_rfl) ?_
        refine zlBool (d := 35) (op := (.cmpI .gtr (.tmp 34) (.const (.int .i64 22)))) (g := (some (33, false))) (j := 13) (decide (22 < a1)) rfl (by kernel_rfl) (by kernel_rfl) (by kernel_rfl) (fun hc => ?_) (fun hc => ?_)
        · replace hS := cond_t hc hS
          refine zlRun (n := 1) (j := 14) rfl (by kernel_rfl) ?_
          refine zlEnd (by kernel_rfl) ?_
          refine zkSeq ?_
          refine zrCondT (by kernel_rfl) ?_
          refine zrSeq ?_
          refine zrReg ?_
          refine bindE hS (fun z52 hz52 hS => ?_)
          refine zlOp (d := some 37) (op := (.call 20 [])) (g := none) (v := (.d (.bool z52))) (ups := []) (j := 1) rfl (by kernel_rfl) (by kernel_rfl) (ev_call (args := []) (l := []) (r := (.d (.bool z52))) (by kernel_rfl) (by kernel_rfl) (f20_ok (d - 1) (dpt hd rfl)  z52 hz52) (by kernel_rfl) (by kernel_rfl) (by kernel_rfl)) ?_
          refine zlRun (n := 1) (j := 2) rfl (by kernel_rfl) ?_
          refine zlEnd (by kernel_rfl) ?_
          refine zkSeq ?_
          refine zrRet ?_
          refine zkSeqR ?_
          refine zkNil ?_
          exact endQ hS hQ (fRet ((congrArg (fun s => outR s 0 c8.res) (by kernel_rfl : finSt c8.fin _ = f8_fin z52)).trans (f8_out z52)))
        · replace hS := cond_f hc hS
          refine zlRun (n := 1) (j := 14) rfl (by kernel_rfl) ?_
          refine zlEnd (by kernel_rfl) ?_
          refine zkSeq ?_
          refine zrCondF (by kernel_rfl) ?_
          refine zrSkip ?_
          refine zkSeq ?_
          exact f8_j0_ok hd a1 a2 a3 hQ z23.1 hS (by kernel_rfl)
end Go.Proofs.YtakmihemhmdpkaaDoor.Pm
