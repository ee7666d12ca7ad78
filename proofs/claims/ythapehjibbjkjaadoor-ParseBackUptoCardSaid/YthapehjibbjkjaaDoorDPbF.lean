/- Typed functions, and that the codes are these. Printed by dec.py. -/
import Derived.Test.YthapehjibbjkjaaDoorDPbE
namespace Go.Proofs.YthapehjibbjkjaaDoor.Pm
set_option maxRecDepth 1000000
set_option maxHeartbeats 20000000
set_option linter.unusedVariables false
/- (*farwriter/parse.machine).csi -/
def f34_fin (p11 : Int) (p12 : Int) (p13 : List UInt8) (p14 : List UInt8) (p15 : List UInt8) (p16 : List GAct) : St := ⟨(up (fun _ => .un) 1000001 .un), (up (up (hB fun _ => 0) 1 ⟨1, some (.own 25 6 (e_GAct.cells p16))⟩) 0 ⟨0, some (.box ((.d (.int .i64 p11)) :: ((.d (.int .i64 p12)) :: ((.d (.str p13)) :: ((.d (.str p14)) :: ((.d (.str p15)) :: ((.r (.msl 1 1 0 p16.length)) :: [])))))))⟩)⟩
theorem f34_out (p11 : Int) (p12 : Int) (p13 : List UInt8) (p14 : List UInt8) (p15 : List UInt8) (p16 : List GAct) : outR (f34_fin p11 p12 p13 p14 p15 p16) 2 c34.res = some ((.tup []), [(.box ((.d (.int .i64 p11)) :: ((.d (.int .i64 p12)) :: ((.d (.str p13)) :: ((.d (.str p14)) :: ((.d (.str p15)) :: ((.r (.msl 1 0 0 p16.length)) :: []))))))), (.own 25 6 (e_GAct.cells p16))]) := by
  kernel_rfl
def f34_Q (r : Int × Int × (List UInt8) × (List UInt8) × (List UInt8) × (List GAct)) (e : PX) (st : St) : Prop := DoneF c34 2 ((.tup []), [(.box ((.d (.int .i64 r.1)) :: ((.d (.int .i64 r.2.1)) :: ((.d (.str r.2.2.1)) :: ((.d (.str r.2.2.2.1)) :: ((.d (.str r.2.2.2.2.1)) :: ((.r (.msl 1 0 0 r.2.2.2.2.2.length)) :: []))))))), (.own 25 6 (e_GAct.cells r.2.2.2.2.2))]) e st
def f34_j0_J (a1 : Int) (a2 : Int) (a3 : Int) (a4 : List UInt8) (a5 : List UInt8) (a6 : List UInt8) (a7 : List GAct) (p17 : List Int) : St := ⟨(up (up (up (up (fun _ => .un) 1000001 .un) 4 (.d (.sl p17.length ((eInt .i64).cells p17)))) 1 (.d (.int .i64 a1))) 0 (.r (.ptr 0 0 0))), (up (up (hB fun _ => 0) 1 ⟨1, some (.own 25 6 (e_GAct.cells a7))⟩) 0 ⟨0, some (.box ((.d (.int .i64 a2)) :: ((.d (.int .i64 a3)) :: ((.d (.str a4)) :: ((.d (.str a5)) :: ((.d (.str a6)) :: ((.r (.msl 1 1 0 a7.length)) :: [])))))))⟩)⟩
noncomputable def f34_j0 (a1 : Int) (a2 : Int) (a3 : Int) (a4 : List UInt8) (a5 : List UInt8) (a6 : List UInt8) (a7 : List GAct) (p17 : List Int) : Option (Int × Int × (List UInt8) × (List UInt8) × (List UInt8) × (List GAct)) := ((f47 (GAct.mk 4 a1 a3 a4 p17 ([])) a2 a3 a4 a5 a6 a7).bind fun z11 => (some (z11.1, 0, [], [], [], z11.2)))
theorem f34_j0_ok {d : Nat} (hd : 3 ≤ d) (a1 : Int) (a2 : Int) (a3 : Int) (a4 : List UInt8) (a5 : List UInt8) (a6 : List UInt8) (a7 : List GAct) {r : Int × Int × (List UInt8) × (List UInt8) × (List UInt8) × (List GAct)} {Q : PX → St → Prop} (hQ : ∀ e st', f34_Q r e st' → Q e st') (p17 : List Int) (hS : f34_j0 a1 a2 a3 a4 a5 a6 a7 p17 = some r) {st : St} (he : keepSt [0, 1, 4, 1000001] [(0, .id 0), (1, .id 1)] [] st = f34_j0_J a1 a2 a3 a4 a5 a6 a7 p17) : ZR (lev codes baseL (d - 1)) Q c34_1 [.blk 0] st := by
  refine zrKeep he ?_
  unfold f34_j0 at hS
  refine zrRegD ?_
  refine zdRun (n := 14) (j := 14) (ts := [[], [], [], [], [], [], [(0, false)], [], [], [], [], [(0, false)], [], []]) (acc' := [[], [], [], [], [], [], [(0, false)], [], [], [], [], [(0, false)], [], []]) rfl (by kernel_rfl) (by kernel_rfl) (by kernel_rfl) ?_
  refine bindE hS (fun z11 hz11 hS => ?_)
  refine zdOp (d := some 55) (op := (.callr 47 [(.tmp 41), (.tmp 54)])) (g := none) (j := 15) (t1 := [(0, true), (1, true), (0, false), (448, true), (449, true), (450, true), (451, true), (452, true), (453, true), (454, true), (455, true)]) (acc' := [[], [], [], [], [], [], [(0, false)], [], [], [], [], [(0, false)], [], [], [(0, true), (1, true), (0, false), (448, true), (449, true), (450, true), (451, true), (452, true), (453, true), (454, true), (455, true)]]) (by kernel_rfl) (by kernel_rfl) rfl (by kernel_rfl) (by kernel_rfl) (ev_callrA (ids := [0, 1]) (by kernel_rfl) (by kernel_rfl) (by kernel_rfl) (f47_ok (d - 1) (dpt hd rfl) (GAct.mk 4 a1 a3 a4 p17 ([])) a2 a3 a4 a5 a6 a7 z11 hz11) (by kernel_rfl)) ?_
  refine zdEnd (by kernel_rfl) (by kernel_rfl) ?_
  refine zkBlk ?_
  refine zkNil ?_
  exact endQ hS hQ (fNorm (by kernel_rfl) ((congrArg (fun s => outR s 2 c34.res) (by kernel_rfl : finSt c34.fin _ = f34_fin z11.1 0 [] [] [] z11.2)).trans (f34_out z11.1 0 [] [] [] z11.2)))
noncomputable def f34 (a1 : Int) (a2 : Int) (a3 : Int) (a4 : List UInt8) (a5 : List UInt8) (a6 : List UInt8) (a7 : List GAct) : Option (Int × Int × (List UInt8) × (List UInt8) × (List UInt8) × (List GAct)) := (bif (decide (a2 = 6)) then (bif (decide (64 ≤ a1)) then ((f31 0 a2 a3 a4 a5 a6 a7).bind fun z8 => (some (z8.1, 0, [], [], [], z8.2))) else (some (a2, a3, a4, a5, a6, a7))) else (bif (decide (a1 < 48)) then ((f46 a1 a2 a3 a4 a5 a6 a7).bind fun z9 => (some (5, z9.2.1, z9.2.2.1, z9.2.2.2.1, z9.2.2.2.2.1, z9.2.2.2.2.2))) else (bif (decide (64 ≤ a1)) then ((f27 a5).bind fun z10 => (f34_j0 a1 a2 a3 a4 a5 a6 a7 z10.1)) else (bif (decide (a2 = 5)) then ((f48 a2 a3 a4 a5 a6 a7).bind fun z12 => (some (6, 0, [], [], [], z12))) else (bif (decide (a1 = 58)) then ((f48 a2 a3 a4 a5 a6 a7).bind fun z13 => (some (6, 0, [], [], [], z13))) else (bif (decide (a1 < 60)) then (bif (decide ((a5.length : Int) < 100)) then ((cat? a5 ((Utf8.encode (IntKind.i32.wrap (a1))).data.toList)).bind fun z14 => (some (4, a3, a4, z14, a6, a7))) else (some (4, a3, a4, a5, a6, a7))) else (bif (decide (a2 = 3)) then (some (4, a1, a4, a5, a6, a7)) else ((f48 a2 a3 a4 a5 a6 a7).bind fun z15 => (some (6, 0, [], [], [], z15))))))))))
theorem f34_ok (d : Nat) (hd : 3 ≤ d) (a1 : Int) (a2 : Int) (a3 : Int) (a4 : List UInt8) (a5 : List UInt8) (a6 : List UInt8) (a7 : List GAct) (r : Int × Int × (List UInt8) × (List UInt8) × (List UInt8) × (List GAct)) (hS : f34 a1 a2 a3 a4 a5 a6 a7 = some r) : lev codes baseL d 34 [(.r (.ptr 0 0 0)), (.d (.int .i64 a1))] [(.box ((.d (.int .i64 a2)) :: ((.d (.int .i64 a3)) :: ((.d (.str a4)) :: ((.d (.str a5)) :: ((.d (.str a6)) :: ((.r (.msl 1 0 0 a7.length)) :: []))))))), (.own 25 6 (e_GAct.cells a7))] = some ((.tup []), [(.box ((.d (.int .i64 r.1)) :: ((.d (.int .i64 r.2.1)) :: ((.d (.str r.2.2.1)) :: ((.d (.str r.2.2.2.1)) :: ((.d (.str r.2.2.2.2.1)) :: ((.r (.msl 1 0 0 r.2.2.2.2.2.length)) :: []))))))), (.own 25 6 (e_GAct.cells r.2.2.2.2.2))]) := by
  refine lev_go codes34 rfl rfl (Nat.le_trans (Nat.le_of_ble_eq_true rfl) hd) fun Q hQ => ?_
  unfold f34 at hS
  show ZR _ Q c34_b [] _
  replace hQ : ∀ e st', f34_Q r e st' → Q e st' := hQ
  refine zrBlk ?_
  refine zrSeq ?_
  refine zrReg ?_
  refine zlRun (n := 5) (j := 5) rfl (by kernel_rfl) ?_
  refine zlBool (d := 14) (op := (.cmpI .eql (.tmp 13) (.const (.int .i64 6)))) (g := none) (j := 6) (decide (a2 = 6)) rfl (by kernel_rfl) (by kernel_rfl) (by kernel_rfl) (fun hc => ?_) (fun hc => ?_)
  · replace hS := cond_t hc hS
    refine zlRun (n := 1) (j := 7) rfl (by kernel_rfl) ?_
    refine zlEnd (by kernel_rfl) ?_
    refine zkSeq ?_
    refine zrCondT (by kernel_rfl) ?_
    refine zrSeq ?_
    refine zrReg ?_
    refine zlRun (n := 1) (j := 1) rfl (by kernel_rfl) ?_
    refine zlBool (d := 16) (op := (.cmpI .geq (.tmp 15) (.const (.int .i64 64)))) (g := none) (j := 2) (decide (64 ≤ a1)) rfl (by kernel_rfl) (by kernel_rfl) (by kernel_rfl) (fun hc => ?_) (fun hc => ?_)
    · replace hS := cond_t hc hS
      refine zlEnd (by kernel_rfl) ?_
      refine zkSeq ?_
      refine zrCondT (by kernel_rfl) ?_
      refine zrReg ?_
      refine zlRun (n := 1) (j := 1) rfl (by kernel_rfl) ?_
      refine bindE hS (fun z8 hz8 hS => ?_)
      refine zlOp (d := some 18) (op := (.callr 31 [(.tmp 17), (.const (.int .i64 0))])) (g := none) (j := 2) rfl (by kernel_rfl) (by kernel_rfl) (ev_callrA (ids := [0, 1]) (by kernel_rfl) (by kernel_rfl) (by kernel_rfl) (f31_ok (d - 1) (dpt hd rfl) 0 a2 a3 a4 a5 a6 a7 z8 hz8) (by kernel_rfl)) ?_
      refine zlEnd (by kernel_rfl) ?_
      refine zkBlk ?_
      refine zkNil ?_
      exact endQ hS hQ (fNorm (by kernel_rfl) ((congrArg (fun s => outR s 2 c34.res) (by kernel_rfl : finSt c34.fin _ = f34_fin z8.1 0 [] [] [] z8.2)).trans (f34_out z8.1 0 [] [] [] z8.2)))
    · replace hS := cond_f hc hS
      refine zlEnd (by kernel_rfl) ?_
      refine zkSeq ?_
      refine zrCondF (by kernel_rfl) ?_
      refine zrSkip ?_
      refine zkBlk ?_
      refine zkNil ?_
      exact endQ hS hQ (fNorm (by kernel_rfl) ((congrArg (fun s => outR s 2 c34.res) (by kernel_rfl : finSt c34.fin _ = f34_fin a2 a3 a4 a5 a6 a7)).trans (f34_out a2 a3 a4 a5 a6 a7)))
  · replace hS := cond_f hc hS
    refine zlRun (n := 1) (j := 7) rfl (by kernel_rfl) ?_
    refine zlEnd (by kernel_rfl) ?_
    refine zkSeq ?_
    refine zrCondF (by kernel_rfl) ?_
    refine zrSeq ?_
    refine zrReg ?_
    refine zlRun (n := 1) (j := 1) rfl (by kernel_rfl) ?_
    refine zlBool (d := 21) (op := (.cmpI .lss (.tmp 20) (.const (.int .i64 48)))) (g := none) (j := 2) (decide (a1 < 48)) rfl (by kernel_rfl) (by kernel_rfl) (by kernel_rfl) (fun hc => ?_) (fun hc => ?_)
    · replace hS := cond_t hc hS
      refine zlRun (n := 1) (j := 3) rfl (by kernel_rfl) ?_
      refine zlEnd (by kernel_rfl) ?_
      refine zkSeq ?_
      refine zrCondT (by kernel_rfl) ?_
      refine zrSeq ?_
      refine zrReg ?_
      refine zlRun (n := 2) (j := 2) rfl (by kernel_rfl) ?_
      refine bindE hS (fun z9 hz9 hS => ?_)
      refine zlOp (d := some 24) (op := (.callr 46 [(.tmp 22), (.tmp 23)])) (g := none) (j := 3) rfl (by kernel_rfl) (by kernel_rfl) (ev_callrA (ids := [0, 1]) (by kernel_rfl) (by kernel_rfl) (by kernel_rfl) (f46_ok (d - 1) (dpt hd rfl) a1 a2 a3 a4 a5 a6 a7 z9 hz9) (by kernel_rfl)) ?_
      refine zlEnd (by kernel_rfl) ?_
      refine zkSeq ?_
      refine zrReg ?_
      refine zlRun (n := 5) (j := 5) rfl (by kernel_rfl) ?_
      refine zlEnd (by kernel_rfl) ?_
      refine zkBlk ?_
      refine zkNil ?_
      exact endQ hS hQ (fNorm (by kernel_rfl) ((congrArg (fun s => outR s 2 c34.res) (by kernel_rfl : finSt c34.fin _ = f34_fin 5 z9.2.1 z9.2.2.1 z9.2.2.2.1 z9.2.2.2.2.1 z9.2.2.2.2.2)).trans (f34_out 5 z9.2.1 z9.2.2.1 z9.2.2.2.1 z9.2.2.2.2.1 z9.2.2.2.2.2)))
    · replace hS := cond_f hc hS
      refine zlRun (n := 1) (j := 3) rfl (by kernel_rfl) ?_
      refine zlEnd (by kernel_rfl) ?_
      refine zkSeq ?_
      refine zrCondF (by kernel_rfl) ?_
      refine zrSeq ?_
      refine zrReg ?_
      refine zlRun (n := 1) (j := 1) rfl (by kernel_rfl) ?_
      refine zlBool (d := 31) (op := (.cmpI .geq (.tmp 30) (.const (.int .i64 64)))) (g := none) (j := 2) (decide (64 ≤ a1)) rfl (by kernel_rfl) (by kernel_rfl) (by kernel_rfl) (fun hc => ?_) (fun hc => ?_)
      · replace hS := cond_t hc hS
        refine zlRun (n := 1) (j := 3) rfl (by kernel_rfl) ?_
        refine zlEnd (by kernel_rfl) ?_
        refine zkSeq ?_
        refine zrCondT (by kernel_rfl) ?_
        refine zrSeq ?_
        refine zrReg ?_
        refine zlRun (n := 5) (j := 5) rfl (by kernel_rfl) ?_
        refine bindE hS (fun z10 hz10 hS => ?_)
        refine zlOp (d := some 38) (op := (.call 27 [(.tmp 37)])) (g := none) (j := 6) rfl (by kernel_rfl) (by kernel_rfl) (ev_callA (by kernel_rfl) (f27_ok (d - 1) (dpt hd rfl) a5 z10 hz10) (by kernel_rfl) (by kernel_rfl)) ?_
        refine zlRun (n := 5) (j := 11) rfl (by kernel_rfl) ?_
        refine zlEnd (by kernel_rfl) ?_
        refine zkSeq ?_
        exact f34_j0_ok hd a1 a2 a3 a4 a5 a6 a7 hQ z10.1 hS (by exact (by kernel_rfl : _ = (⟨(up (up (up (up (fun _ => .un) 1000001 .un) 4 (.d (.sl z10.1.length ((((eInt .i64).cells z10.1).drop (0 * (eInt .i64).k)).take (z10.1.length * (eInt .i64).k))))) 1 (.d (.int .i64 a1))) 0 (.r (.ptr 0 0 0))), (up (up (hB fun _ => 0) 1 ⟨1, some (.own 25 6 (e_GAct.cells a7))⟩) 0 ⟨0, some (.box ((.d (.int .i64 a2)) :: ((.d (.int .i64 a3)) :: ((.d (.str a4)) :: ((.d (.str a5)) :: ((.d (.str a6)) :: ((.r (.msl 1 1 0 a7.length)) :: [])))))))⟩)⟩ : St)).trans (by simp only [Enc.frz]; kernel_rfl))
      · replace hS := cond_f hc hS
        refine zlRun (n := 1) (j := 3) rfl (by kernel_rfl) ?_
        refine zlEnd (by kernel_rfl) ?_
        refine zkSeq ?_
        refine zrCondF (by kernel_rfl) ?_
        refine zrSeq ?_
        refine zrReg ?_
        refine zlRun (n := 5) (j := 5) rfl (by kernel_rfl) ?_
        refine zlBool (d := 62) (op := (.cmpI .eql (.tmp 61) (.const (.int .i64 5)))) (g := none) (j := 6) (decide (a2 = 5)) rfl (by kernel_rfl) (by kernel_rfl) (by kernel_rfl) (fun hc => ?_) (fun hc => ?_)
        · replace hS := cond_t hc hS
          refine zlRun (n := 5) (j := 11) rfl (by kernel_rfl) ?_
          refine zlEnd (by kernel_rfl) ?_
          refine zkSeq ?_
          refine zrCondT (by kernel_rfl) ?_
          refine zrReg ?_
          refine zlRun (n := 1) (j := 1) rfl (by kernel_rfl) ?_
          refine bindE hS (fun z12 hz12 hS => ?_)
          refine zlOp (d := some 68) (op := (.callr 48 [(.tmp 67)])) (g := none) (j := 2) rfl (by kernel_rfl) (by kernel_rfl) (ev_callrA (ids := [0, 1]) (by kernel_rfl) (by kernel_rfl) (by kernel_rfl) (f48_ok (d - 1) (dpt hd rfl) a2 a3 a4 a5 a6 a7 z12 hz12) (by kernel_rfl)) ?_
          refine zlEnd (by kernel_rfl) ?_
          refine zkBlk ?_
          refine zkNil ?_
          exact endQ hS hQ (fNorm (by kernel_rfl) ((congrArg (fun s => outR s 2 c34.res) (by kernel_rfl : finSt c34.fin _ = f34_fin 6 0 [] [] [] z12)).trans (f34_out 6 0 [] [] [] z12)))
        · replace hS := cond_f hc hS
          refine zlRun (n := 2) (j := 8) rfl (by kernel_rfl) ?_
          refine zlBool (d := 65) (op := (.cmpI .eql (.tmp 64) (.const (.int .i64 58)))) (g := (some (63, false))) (j := 9) (decide (a1 = 58)) rfl (by kernel_rfl) (by kernel_rfl) (by kernel_rfl) (fun hc => ?_) (fun hc => ?_)
          · replace hS := cond_t hc hS
            refine zlRun (n := 2) (j := 11) rfl (by kernel_rfl) ?_
            refine zlEnd (by kernel_rfl) ?_
            refine zkSeq ?_
            refine zrCondT (by kernel_rfl) ?_
            refine zrReg ?_
            refine zlRun (n := 1) (j := 1) rfl (by kernel_rfl) ?_
            refine bindE hS (fun z13 hz13 hS => ?_)
            refine zlOp (d := some 68) (op := (.callr 48 [(.tmp 67)])) (g := none) (j := 2) rfl (by kernel_rfl) (by kernel_rfl) (ev_callrA (ids := [0, 1]) (by kernel_rfl) (by kernel_rfl) (by kernel_rfl) (f48_ok (d - 1) (dpt hd rfl) a2 a3 a4 a5 a6 a7 z13 hz13) (by kernel_rfl)) ?_
            refine zlEnd (by kernel_rfl) ?_
            refine zkBlk ?_
            refine zkNil ?_
            exact endQ hS hQ (fNorm (by kernel_rfl) ((congrArg (fun s => outR s 2 c34.res) (by kernel_rfl : finSt c34.fin _ = f34_fin 6 0 [] [] [] z13)).trans (f34_out 6 0 [] [] [] z13)))
          · replace hS := cond_f hc hS
            refine zlRun (n := 2) (j := 11) rfl (by kernel_rfl) ?_
            refine zlEnd (by kernel_rfl) ?_
            refine zkSeq ?_
            refine zrCondF (by kernel_rfl) ?_
            refine zrSeq ?_
            refine zrReg ?_
            refine zlRun (n := 1) (j := 1) rfl (by kernel_rfl) ?_
            refine zlBool (d := 71) (op := (.cmpI .lss (.tmp 70) (.const (.int .i64 60)))) (g := none) (j := 2) (decide (a1 < 60)) rfl (by kernel_rfl) (by kernel_rfl) (by kernel_rfl) (fun hc => ?_) (fun hc => ?_)
            · replace hS := cond_t hc hS
              refine zlRun (n := 1) (j := 3) rfl (by kernel_rfl) ?_
              refine zlEnd (by kernel_rfl) ?_
              refine zkSeq ?_
              refine zrCondT (by kernel_rfl) ?_
              refine zrSeq ?_
              refine zrSeq ?_
              refine zrReg ?_
              refine zlRun (n := 6) (j := 6) rfl (by kernel_rfl) ?_
              refine zlBool (d := 78) (op := (.cmpI .lss (.tmp 77) (.const (.int .i64 100)))) (g := none) (j := 7) (decide ((a5.length : Int) < 100)) rfl (by kernel_rfl) (by kernel_rfl) (by kernel_rfl) (fun hc => ?_) (fun hc => ?_)
              · replace hS := cond_t hc hS
                refine zlEnd (by kernel_rfl) ?_
                refine zkSeq ?_
                refine zrCondT (by kernel_rfl) ?_
                refine zrReg ?_
                refine zlRun (n := 8) (j := 8) rfl (by kernel_rfl) ?_
                refine bindE hS (fun z14 hz14 hS => ?_)
                refine zlOp (d := some 87) (op := (.strO .add (.tmp 83) (.tmp 86))) (g := none) (v := (.d (.str z14))) (ups := []) (j := 9) rfl (by kernel_rfl) (by kernel_rfl) (ev_cat (a := a5) (c := (Utf8.encode (IntKind.i32.wrap (a1))).data.toList) (by kernel_rfl) (by kernel_rfl) hz14) ?_
                refine zlRun (n := 4) (j := 13) rfl (by kernel_rfl) ?_
                refine zlEnd (by kernel_rfl) ?_
                refine zkSeq ?_
                refine zrReg ?_
                refine zlRun (n := 5) (j := 5) rfl (by kernel_rfl) ?_
                refine zlEnd (by kernel_rfl) ?_
                refine zkBlk ?_
                refine zkNil ?_
                exact endQ hS hQ (fNorm (by kernel_rfl) ((congrArg (fun s => outR s 2 c34.res) (by kernel_rfl : finSt c34.fin _ = f34_fin 4 a3 a4 z14 a6 a7)).trans (f34_out 4 a3 a4 z14 a6 a7)))
              · replace hS := cond_f hc hS
                refine zlEnd (by kernel_rfl) ?_
                refine zkSeq ?_
                refine zrCondF (by kernel_rfl) ?_
                refine zrSkip ?_
                refine zkSeq ?_
                refine zrReg ?_
                refine zlRun (n := 5) (j := 5) rfl (by kernel_rfl) ?_
                refine zlEnd (by kernel_rfl) ?_
                refine zkBlk ?_
                refine zkNil ?_
                exact endQ hS hQ (fNorm (by kernel_rfl) ((congrArg (fun s => outR s 2 c34.res) (by kernel_rfl : finSt c34.fin _ = f34_fin 4 a3 a4 a5 a6 a7)).trans (f34_out 4 a3 a4 a5 a6 a7)))
            · replace hS := cond_f hc hS
              refine zlRun (n := 1) (j := 3) rfl (by kernel_rfl) ?_
              refine zlEnd (by kernel_rfl) ?_
              refine zkSeq ?_
              refine zrCondF (by kernel_rfl) ?_
              refine zrSeq ?_
              refine zrReg ?_
              refine zlRun (n := 5) (j := 5) rfl (by kernel_rfl) ?_
              refine zlBool (d := 101) (op := (.cmpI .eql (.tmp 100) (.const (.int .i64 3)))) (g := none) (j := 6) (decide (a2 = 3)) rfl (by kernel_rfl) (by kernel_rfl) (by kernel_rfl) (fun hc => ?_) (fun hc => ?_)
              · replace hS := cond_t hc hS
                refine zlRun (n := 1) (j := 7) rfl (by kernel_rfl) ?_
                refine zlEnd (by kernel_rfl) ?_
                refine zkSeq ?_
                refine zrCondT (by kernel_rfl) ?_
                refine zrReg ?_
                refine zlRun (n := 11) (j := 11) rfl (by kernel_rfl) ?_
                refine zlEnd (by kernel_rfl) ?_
                refine zkBlk ?_
                refine zkNil ?_
                exact endQ hS hQ (fNorm (by kernel_rfl) ((congrArg (fun s => outR s 2 c34.res) (by kernel_rfl : finSt c34.fin _ = f34_fin 4 a1 a4 a5 a6 a7)).trans (f34_out 4 a1 a4 a5 a6 a7)))
              · replace hS := cond_f hc hS
                refine zlRun (n := 1) (j := 7) rfl (by kernel_rfl) ?_
                refine zlEnd (by kernel_rfl) ?_
                refine zkSeq ?_
                refine zrCondF (by kernel_rfl) ?_
                refine zrReg ?_
                refine zlRun (n := 1) (j := 1) rfl (by kernel_rfl) ?_
                refine bindE hS (fun z15 hz15 hS => ?_)
                refine zlOp (d := some 7) (op := (.callr 48 [(.tmp 6)])) (g := none) (j := 2) rfl (by kernel_rfl) (by kernel_rfl) (ev_callrA (ids := [0, 1]) (by kernel_rfl) (by kernel_rfl) (by kernel_rfl) (f48_ok (d - 1) (dpt hd rfl) a2 a3 a4 a5 a6 a7 z15 hz15) (by kernel_rfl)) ?_
                refine zlEnd (by kernel_rfl) ?_
                refine zkBlk ?_
                refine zkNil ?_
                exact endQ hS hQ (fNorm (by kernel_rfl) ((congrArg (fun s => outR s 2 c34.res) (by kernel_rfl : finSt c34.fin _ = f34_fin 6 0 [] [] [] z15)).trans (f34_out 6 0 [] [] [] z15)))
/- (*farwriter/parse.machine).take -/
def f17_fin (p36 : Int) (p37 : Int) (p38 : List UInt8) (p39 : List UInt8) (p40 : List UInt8) (p41 : List GAct) : St := ⟨(up (fun _ => .un) 1000001 .un), (up (up (hB fun _ => 0) 1 ⟨1, some (.own 25 6 (e_GAct.cells p41))⟩) 0 ⟨0, some (.box ((.d (.int .i64 p36)) :: ((.d (.int .i64 p37)) :: ((.d (.str p38)) :: ((.d (.str p39)) :: ((.d (.str p40)) :: ((.r (.msl 1 1 0 p41.length)) :: [])))))))⟩)⟩
theorem f17_out (p36 : Int) (p37 : Int) (p38 : List UInt8) (p39 : List UInt8) (p40 : List UInt8) (p41 : List GAct) : outR (f17_fin p36 p37 p38 p39 p40 p41) 2 c17.res = some ((.tup []), [(.box ((.d (.int .i64 p36)) :: ((.d (.int .i64 p37)) :: ((.d (.str p38)) :: ((.d (.str p39)) :: ((.d (.str p40)) :: ((.r (.msl 1 0 0 p41.length)) :: []))))))), (.own 25 6 (e_GAct.cells p41))]) := by
  kernel_rfl
def f17_Q (r : Int × Int × (List UInt8) × (List UInt8) × (List UInt8) × (List GAct)) (e : PX) (st : St) : Prop := DoneF c17 2 ((.tup []), [(.box ((.d (.int .i64 r.1)) :: ((.d (.int .i64 r.2.1)) :: ((.d (.str r.2.2.1)) :: ((.d (.str r.2.2.2.1)) :: ((.d (.str r.2.2.2.2.1)) :: ((.r (.msl 1 0 0 r.2.2.2.2.2.length)) :: []))))))), (.own 25 6 (e_GAct.cells r.2.2.2.2.2))]) e st
def f17_j1_J (a1 : Int) (a2 : Int) (a3 : Int) (a4 : List UInt8) (a5 : List UInt8) (a6 : List UInt8) (a7 : List GAct) (p56 : Int) (p57 : Int) (p58 : List UInt8) (p59 : List UInt8) (p60 : List UInt8) (p61 : List GAct) : St := ⟨(up (up (up (fun _ => .un) 1000001 .un) 1 (.d (.int .i64 a1))) 0 (.r (.ptr 0 0 0))), (up (up (hB fun _ => 0) 1 ⟨1, some (.own 25 6 (e_GAct.cells p61))⟩) 0 ⟨0, some (.box ((.d (.int .i64 p56)) :: ((.d (.int .i64 p57)) :: ((.d (.str p58)) :: ((.d (.str p59)) :: ((.d (.str p60)) :: ((.r (.msl 1 1 0 p61.length)) :: [])))))))⟩)⟩
noncomputable def f17_j1 (a1 : Int) (a2 : Int) (a3 : Int) (a4 : List UInt8) (a5 : List UInt8) (a6 : List UInt8) (a7 : List GAct) (p56 : Int) (p57 : Int) (p58 : List UInt8) (p59 : List UInt8) (p60 : List UInt8) (p61 : List GAct) : Option (Int × Int × (List UInt8) × (List UInt8) × (List UInt8) × (List GAct)) := ((f32 a1 p56 p57 p58 p59 p60 p61).bind fun z14 => (bif z14.2.2.2.2.2.2 then (some (z14.1, z14.2.1, z14.2.2.1, z14.2.2.2.1, z14.2.2.2.2.1, z14.2.2.2.2.2.1)) else (bif (decide (z14.1 = 0)) then ((f29 (GAct.mk 1 a1 0 ([]) ([]) ([])) z14.1 z14.2.1 z14.2.2.1 z14.2.2.2.1 z14.2.2.2.2.1 z14.2.2.2.2.2.1).bind fun z15 => (some (z15.1, z15.2.1, z15.2.2.1, z15.2.2.2.1, z15.2.2.2.2.1, z15.2.2.2.2.2))) else (bif (decide (160 ≤ a1)) then ((f31 0 z14.1 z14.2.1 z14.2.2.1 z14.2.2.2.1 z14.2.2.2.2.1 z14.2.2.2.2.2.1).bind fun z16 => (some (z16.1, 0, [], [], [], z16.2))) else (bif (decide (z14.1 ≤ 2)) then ((f33 a1 z14.1 z14.2.1 z14.2.2.1 z14.2.2.2.1 z14.2.2.2.2.1 z14.2.2.2.2.2.1).bind fun z17 => (some (z17.1, z17.2.1, z17.2.2.1, z17.2.2.2.1, z17.2.2.2.2.1, z17.2.2.2.2.2))) else ((f34 a1 z14.1 z14.2.1 z14.2.2.1 z14.2.2.2.1 z14.2.2.2.2.1 z14.2.2.2.2.2.1).bind fun z18 => (some (z18.1, z18.2.1, z18.2.2.1, z18.2.2.2.1, z18.2.2.2.2.1, z18.2.2.2.2.2))))))))
theorem f17_j1_ok {d : Nat} (hd : 5 ≤ d) (a1 : Int) (a2 : Int) (a3 : Int) (a4 : List UInt8) (a5 : List UInt8) (a6 : List UInt8) (a7 : List GAct) {r : Int × Int × (List UInt8) × (List UInt8) × (List UInt8) × (List GAct)} {Q : PX → St → Prop} (hQ : ∀ e st', f17_Q r e st' → Q e st') (p56 : Int) (p57 : Int) (p58 : List UInt8) (p59 : List UInt8) (p60 : List UInt8) (p61 : List GAct) (hS : f17_j1 a1 a2 a3 a4 a5 a6 a7 p56 p57 p58 p59 p60 p61 = some r) {st : St} (he : keepSt [0, 1, 1000001] [(0, .id 0), (1, .id 1)] [] st = f17_j1_J a1 a2 a3 a4 a5 a6 a7 p56 p57 p58 p59 p60 p61) : ZR (lev codes baseL (d - 1)) Q c17_1 [] st := by
  refine zrKeep he ?_
  unfold f17_j1 at hS
  refine zrBlk ?_
  refine zrSeq ?_
  refine zrReg ?_
  refine zlRun (n := 2) (j := 2) rfl (by kernel_rfl) ?_
  refine bindE hS (fun z14 hz14 hS => ?_)
  refine zlOp (d := some 53) (op := (.callr 32 [(.tmp 51), (.tmp 52)])) (g := none) (j := 3) rfl (by kernel_rfl) (by kernel_rfl) (ev_callrA (ids := [0, 1]) (by kernel_rfl) (by kernel_rfl) (by kernel_rfl) (f32_ok (d - 1) (dpt hd rfl) a1 p56 p57 p58 p59 p60 p61 z14 hz14) (by kernel_rfl)) ?_
  refine zlRun (n := 1) (j := 4) rfl (by kernel_rfl) ?_
  refine zlEnd (by kernel_rfl) ?_
  refine zkSeq ?_
  refine zrSplit 50 z14.2.2.2.2.2.2 (by kernel_rfl) (fun hc => ?_) (fun hc => ?_)
  · replace hS := cond_t hc hS
    refine zrCondT (by kernel_rfl) ?_
    refine zrSkip ?_
    refine zkBlk ?_
    refine zkNil ?_
    exact endQ hS hQ (fNorm (by kernel_rfl) ((congrArg (fun s => outR s 2 c17.res) (by kernel_rfl : finSt c17.fin _ = f17_fin z14.1 z14.2.1 z14.2.2.1 z14.2.2.2.1 z14.2.2.2.2.1 z14.2.2.2.2.2.1)).trans (f17_out z14.1 z14.2.1 z14.2.2.1 z14.2.2.2.1 z14.2.2.2.2.1 z14.2.2.2.2.2.1)))
  · replace hS := cond_f hc hS
    refine zrCondF (by kernel_rfl) ?_
    refine zrSeq ?_
    refine zrReg ?_
    refine zlRun (n := 5) (j := 5) rfl (by kernel_rfl) ?_
    refine zlBool (d := 60) (op := (.cmpI .eql (.tmp 59) (.const (.int .i64 0)))) (g := none) (j := 6) (decide (z14.1 = 0)) rfl (by kernel_rfl) (by kernel_rfl) (by kernel_rfl) (fun hc => ?_) (fun hc => ?_)
    · replace hS := cond_t hc hS
      refine zlRun (n := 1) (j := 7) rfl (by kernel_rfl) ?_
      refine zlEnd (by kernel_rfl) ?_
      refine zkSeq ?_
      refine zrCondT (by kernel_rfl) ?_
      refine zrReg ?_
      refine zlRun (n := 3) (j := 3) rfl (by kernel_rfl) ?_
      refine bindE hS (fun z15 hz15 hS => ?_)
      refine zlOp (d := some 64) (op := (.callr 29 [(.tmp 61), (.tmp 63)])) (g := none) (j := 4) rfl (by kernel_rfl) (by kernel_rfl) (ev_callrA (ids := [0, 1]) (by kernel_rfl) (by kernel_rfl) (by kernel_rfl) (f29_ok (d - 1) (dpt hd rfl) (GAct.mk 1 a1 0 ([]) ([]) ([])) z14.1 z14.2.1 z14.2.2.1 z14.2.2.2.1 z14.2.2.2.2.1 z14.2.2.2.2.2.1 z15 hz15) (by kernel_rfl)) ?_
      refine zlEnd (by kernel_rfl) ?_
      refine zkBlk ?_
      refine zkNil ?_
      exact endQ hS hQ (fNorm (by kernel_rfl) ((congrArg (fun s => outR s 2 c17.res) (by kernel_rfl : finSt c17.fin _ = f17_fin z15.1 z15.2.1 z15.2.2.1 z15.2.2.2.1 z15.2.2.2.2.1 z15.2.2.2.2.2)).trans (f17_out z15.1 z15.2.1 z15.2.2.1 z15.2.2.2.1 z15.2.2.2.2.1 z15.2.2.2.2.2)))
    · replace hS := cond_f hc hS
      refine zlRun (n := 1) (j := 7) rfl (by kernel_rfl) ?_
      refine zlEnd (by kernel_rfl) ?_
      refine zkSeq ?_
      refine zrCondF (by kernel_rfl) ?_
      refine zrSeq ?_
      refine zrReg ?_
      refine zlRun (n := 1) (j := 1) rfl (by kernel_rfl) ?_
      refine zlBool (d := 67) (op := (.cmpI .geq (.tmp 66) (.const (.int .i64 160)))) (g := none) (j := 2) (decide (160 ≤ a1)) rfl (by kernel_rfl) (by kernel_rfl) (by kernel_rfl) (fun hc => ?_) (fun hc => ?_)
      · replace hS := cond_t hc hS
        refine zlRun (n := 1) (j := 3) rfl (by kernel_rfl) ?_
        refine zlEnd (by kernel_rfl) ?_
        refine zkSeq ?_
        refine zrCondT (by kernel_rfl) ?_
        refine zrReg ?_
        refine zlRun (n := 1) (j := 1) rfl (by kernel_rfl) ?_
        refine bindE hS (fun z16 hz16 hS => ?_)
        refine zlOp (d := some 69) (op := (.callr 31 [(.tmp 68), (.const (.int .i64 0))])) (g := none) (j := 2) rfl (by kernel_rfl) (by kernel_rfl) (ev_callrA (ids := [0, 1]) (by kernel_rfl) (by kernel_rfl) (by kernel_rfl) (f31_ok (d - 1) (dpt hd rfl) 0 z14.1 z14.2.1 z14.2.2.1 z14.2.2.2.1 z14.2.2.2.2.1 z14.2.2.2.2.2.1 z16 hz16) (by kernel_rfl)) ?_
        refine zlEnd (by kernel_rfl) ?_
        refine zkBlk ?_
        refine zkNil ?_
        exact endQ hS hQ (fNorm (by kernel_rfl) ((congrArg (fun s => outR s 2 c17.res) (by kernel_rfl : finSt c17.fin _ = f17_fin z16.1 0 [] [] [] z16.2)).trans (f17_out z16.1 0 [] [] [] z16.2)))
      · replace hS := cond_f hc hS
        refine zlRun (n := 1) (j := 3) rfl (by kernel_rfl) ?_
        refine zlEnd (by kernel_rfl) ?_
        refine zkSeq ?_
        refine zrCondF (by kernel_rfl) ?_
        refine zrSeq ?_
        refine zrReg ?_
        refine zlRun (n := 5) (j := 5) rfl (by kernel_rfl) ?_
        refine zlBool (d := 76) (op := (.cmpI .leq (.tmp 75) (.const (.int .i64 2)))) (g := none) (j := 6) (decide (z14.1 ≤ 2)) rfl (by kernel_rfl) (by kernel_rfl) (by kernel_rfl) (fun hc => ?_) (fun hc => ?_)
        · replace hS := cond_t hc hS
          refine zlRun (n := 1) (j := 7) rfl (by kernel_rfl) ?_
          refine zlEnd (by kernel_rfl) ?_
          refine zkSeq ?_
          refine zrCondT (by kernel_rfl) ?_
          refine zrReg ?_
          refine zlRun (n := 2) (j := 2) rfl (by kernel_rfl) ?_
          refine bindE hS (fun z17 hz17 hS => ?_)
          refine zlOp (d := some 79) (op := (.callr 33 [(.tmp 77), (.tmp 78)])) (g := none) (j := 3) rfl (by kernel_rfl) (by kernel_rfl) (ev_callrA (ids := [0, 1]) (by kernel_rfl) (by kernel_rfl) (by kernel_rfl) (f33_ok (d - 1) (dpt hd rfl) a1 z14.1 z14.2.1 z14.2.2.1 z14.2.2.2.1 z14.2.2.2.2.1 z14.2.2.2.2.2.1 z17 hz17) (by kernel_rfl)) ?_
          refine zlEnd (by kernel_rfl) ?_
          refine zkBlk ?_
          refine zkNil ?_
          exact endQ hS hQ (fNorm (by kernel_rfl) ((congrArg (fun s => outR s 2 c17.res) (by kernel_rfl : finSt c17.fin _ = f17_fin z17.1 z17.2.1 z17.2.2.1 z17.2.2.2.1 z17.2.2.2.2.1 z17.2.2.2.2.2)).trans (f17_out z17.1 z17.2.1 z17.2.2.1 z17.2.2.2.1 z17.2.2.2.2.1 z17.2.2.2.2.2)))
        · replace hS := cond_f hc hS
          refine zlRun (n := 1) (j := 7) rfl (by kernel_rfl) ?_
          refine zlEnd (by kernel_rfl) ?_
          refine zkSeq ?_
          refine zrCondF (by kernel_rfl) ?_
          refine zrReg ?_
          refine zlRun (n := 2) (j := 2) rfl (by kernel_rfl) ?_
          refine bindE hS (fun z18 hz18 hS => ?_)
          refine zlOp (d := some 49) (op := (.callr 34 [(.tmp 47), (.tmp 48)])) (g := none) (j := 3) rfl (by kernel_rfl) (by kernel_rfl) (ev_callrA (ids := [0, 1]) (by kernel_rfl) (by kernel_rfl) (by kernel_rfl) (f34_ok (d - 1) (dpt hd rfl) a1 z14.1 z14.2.1 z14.2.2.1 z14.2.2.2.1 z14.2.2.2.2.1 z14.2.2.2.2.2.1 z18 hz18) (by kernel_rfl)) ?_
          refine zlEnd (by kernel_rfl) ?_
          refine zkBlk ?_
          refine zkNil ?_
          exact endQ hS hQ (fNorm (by kernel_rfl) ((congrArg (fun s => outR s 2 c17.res) (by kernel_rfl : finSt c17.fin _ = f17_fin z18.1 z18.2.1 z18.2.2.1 z18.2.2.2.1 z18.2.2.2.2.1 z18.2.2.2.2.2)).trans (f17_out z18.1 z18.2.1 z18.2.2.1 z18.2.2.2.1 z18.2.2.2.2.1 z18.2.2.2.2.2)))
def f17_j3_J (a1 : Int) (a2 : Int) (a3 : Int) (a4 : List UInt8) (a5 : List UInt8) (a6 : List UInt8) (a7 : List GAct) (p67 : Bool) : St := ⟨(up (up (up (up (fun _ => .un) 1000001 .un) 22 (.d (.bool p67))) 1 (.d (.int .i64 a1))) 0 (.r (.ptr 0 0 0))), (up (up (hB fun _ => 0) 1 ⟨1, some (.own 25 6 (e_GAct.cells a7))⟩) 0 ⟨0, some (.box ((.d (.int .i64 a2)) :: ((.d (.int .i64 a3)) :: ((.d (.str a4)) :: ((.d (.str a5)) :: ((.d (.str a6)) :: ((.r (.msl 1 1 0 a7.length)) :: [])))))))⟩)⟩
noncomputable def f17_j3 (a1 : Int) (a2 : Int) (a3 : Int) (a4 : List UInt8) (a5 : List UInt8) (a6 : List UInt8) (a7 : List GAct) (p67 : Bool) : Option (Int × Int × (List UInt8) × (List UInt8) × (List UInt8) × (List GAct)) := (bif p67 then (bif (decide (a1 = 92)) then (bif (decide (a2 = 8)) then ((f29 (GAct.mk 5 0 0 ([]) ([]) a6) a2 a3 a4 a5 a6 a7).bind fun z20 => ((f30 0 z20.1 z20.2.1 z20.2.2.1 z20.2.2.2.1 z20.2.2.2.2.1 z20.2.2.2.2.2).bind fun z21 => (some (z21.1, 0, [], [], [], z21.2)))) else ((f29 (GAct.mk 6 0 0 ([]) ([]) ([])) a2 a3 a4 a5 a6 a7).bind fun z22 => ((f30 0 z22.1 z22.2.1 z22.2.2.1 z22.2.2.2.1 z22.2.2.2.2.1 z22.2.2.2.2.2).bind fun z23 => (some (z23.1, 0, [], [], [], z23.2))))) else ((f31 1 a2 a3 a4 a5 a6 a7).bind fun z24 => (f17_j1 a1 a2 a3 a4 a5 a6 a7 z24.1 0 [] [] [] z24.2))) else (f17_j1 a1 a2 a3 a4 a5 a6 a7 a2 a3 a4 a5 a6 a7))
theorem f17_j3_ok {d : Nat} (hd : 5 ≤ d) (a1 : Int) (a2 : Int) (a3 : Int) (a4 : List UInt8) (a5 : List UInt8) (a6 : List UInt8) (a7 : List GAct) {r : Int × Int × (List UInt8) × (List UInt8) × (List UInt8) × (List GAct)} {Q : PX → St → Prop} (hQ : ∀ e st', f17_Q r e st' → Q e st') (p67 : Bool) (hS : f17_j3 a1 a2 a3 a4 a5 a6 a7 p67 = some r) {st : St} (he : keepSt [0, 1, 22, 1000001] [(0, .id 0), (1, .id 1)] [] st = f17_j3_J a1 a2 a3 a4 a5 a6 a7 p67) : ZR (lev codes baseL (d - 1)) Q c17_2 [.blk 0, .seq c17_1] st := by
  refine zrKeep he ?_
  unfold f17_j3 at hS
  refine zrSplit 22 p67 (by kernel_rfl) (fun hc => ?_) (fun hc => ?_)
  · replace hS := cond_t hc hS
    refine zrCondT (by kernel_rfl) ?_
    refine zrSeq ?_
    refine zrSeq ?_
    refine zrReg ?_
    refine zlRun (n := 1) (j := 1) rfl (by kernel_rfl) ?_
    refine zlBool (d := 26) (op := (.cmpI .eql (.tmp 25) (.const (.int .i64 92)))) (g := none) (j := 2) (decide (a1 = 92)) rfl (by kernel_rfl) (by kernel_rfl) (by kernel_rfl) (fun hc => ?_) (fun hc => ?_)
    · replace hS := cond_t hc hS
      refine zlEnd (by kernel_rfl) ?_
      refine zkSeq ?_
      refine zrCondT (by kernel_rfl) ?_
      refine zrSeq ?_
      refine zrReg ?_
      refine zlRun (n := 3) (j := 3) rfl (by kernel_rfl) ?_
      refine zlEnd (by kernel_rfl) ?_
      refine zkSeq ?_
      refine zrSeq ?_
      refine zrSeq ?_
      refine zrReg ?_
      refine zlRun (n := 5) (j := 5) rfl (by kernel_rfl) ?_
      refine zlBool (d := 33) (op := (.cmpI .eql (.tmp 32) (.const (.int .i64 8)))) (g := none) (j := 6) (decide (a2 = 8)) rfl (by kernel_rfl) (by kernel_rfl) (by kernel_rfl) (fun hc => ?_) (fun hc => ?_)
      · replace hS := cond_t hc hS
        refine zlEnd (by kernel_rfl) ?_
        refine zkSeq ?_
        refine zrCondT (by kernel_rfl) ?_
        refine zrReg ?_
        refine zlRun (n := 7) (j := 7) rfl (by kernel_rfl) ?_
        refine zlEnd (by kernel_rfl) ?_
        refine zkSeq ?_
        refine zrSeq ?_
        refine zrReg ?_
        refine zlRun (n := 2) (j := 2) rfl (by kernel_rfl) ?_
        refine bindE hS (fun z20 hz20 hS => ?_)
        refine zlOp (d := some 42) (op := (.callr 29 [(.tmp 40), (.tmp 41)])) (g := none) (j := 3) rfl (by kernel_rfl) (by kernel_rfl) (ev_callrA (ids := [0, 1]) (by kernel_rfl) (by kernel_rfl) (by kernel_rfl) (f29_ok (d - 1) (dpt hd rfl) (GAct.mk 5 0 0 ([]) ([]) a6) a2 a3 a4 a5 a6 a7 z20 hz20) (by kernel_rfl)) ?_
        refine zlEnd (by kernel_rfl) ?_
        refine zkSeq ?_
        refine zrSeq ?_
        refine zrReg ?_
        refine zlRun (n := 1) (j := 1) rfl (by kernel_rfl) ?_
        refine bindE hS (fun z21 hz21 hS => ?_)
        refine zlOp (d := some 44) (op := (.callr 30 [(.tmp 43), (.const (.int .i64 0))])) (g := none) (j := 2) rfl (by kernel_rfl) (by kernel_rfl) (ev_callrA (ids := [0, 1]) (by kernel_rfl) (by kernel_rfl) (by kernel_rfl) (f30_ok (d - 1) (dpt hd rfl) 0 z20.1 z20.2.1 z20.2.2.1 z20.2.2.2.1 z20.2.2.2.2.1 z20.2.2.2.2.2 z21 hz21) (by kernel_rfl)) ?_
        refine zlEnd (by kernel_rfl) ?_
        refine zkSeq ?_
        refine zrRet ?_
        refine zkSeqR ?_
        refine zkBlkR ?_
        refine zkSeqR ?_
        refine zkNil ?_
        exact endQ hS hQ (fRet (by kernel_rfl) ((congrArg (fun s => outR s 2 c17.res) (by kernel_rfl : finSt c17.fin _ = f17_fin z21.1 0 [] [] [] z21.2)).trans (f17_out z21.1 0 [] [] [] z21.2)))
      · replace hS := cond_f hc hS
        refine zlEnd (by kernel_rfl) ?_
        refine zkSeq ?_
        refine zrCondF (by kernel_rfl) ?_
        refine zrSkip ?_
        refine zkSeq ?_
        refine zrSeq ?_
        refine zrReg ?_
        refine zlRun (n := 2) (j := 2) rfl (by kernel_rfl) ?_
        refine bindE hS (fun z22 hz22 hS => ?_)
        refine zlOp (d := some 42) (op := (.callr 29 [(.tmp 40), (.tmp 41)])) (g := none) (j := 3) rfl (by kernel_rfl) (by kernel_rfl) (ev_callrA (ids := [0, 1]) (by kernel_rfl) (by kernel_rfl) (by kernel_rfl) (f29_ok (d - 1) (dpt hd rfl) (GAct.mk 6 0 0 ([]) ([]) ([])) a2 a3 a4 a5 a6 a7 z22 hz22) (by kernel_rfl)) ?_
        refine zlEnd (by kernel_rfl) ?_
        refine zkSeq ?_
        refine zrSeq ?_
        refine zrReg ?_
        refine zlRun (n := 1) (j := 1) rfl (by kernel_rfl) ?_
        refine bindE hS (fun z23 hz23 hS => ?_)
        refine zlOp (d := some 44) (op := (.callr 30 [(.tmp 43), (.const (.int .i64 0))])) (g := none) (j := 2) rfl (by kernel_rfl) (by kernel_rfl) (ev_callrA (ids := [0, 1]) (by kernel_rfl) (by kernel_rfl) (by kernel_rfl) (f30_ok (d - 1) (dpt hd rfl) 0 z22.1 z22.2.1 z22.2.2.1 z22.2.2.2.1 z22.2.2.2.2.1 z22.2.2.2.2.2 z23 hz23) (by kernel_rfl)) ?_
        refine zlEnd (by kernel_rfl) ?_
        refine zkSeq ?_
        refine zrRet ?_
        refine zkSeqR ?_
        refine zkBlkR ?_
        refine zkSeqR ?_
        refine zkNil ?_
        exact endQ hS hQ (fRet (by kernel_rfl) ((congrArg (fun s => outR s 2 c17.res) (by kernel_rfl : finSt c17.fin _ = f17_fin z23.1 0 [] [] [] z23.2)).trans (f17_out z23.1 0 [] [] [] z23.2)))
    · replace hS := cond_f hc hS
      refine zlEnd (by kernel_rfl) ?_
      refine zkSeq ?_
      refine zrCondF (by kernel_rfl) ?_
      refine zrSkip ?_
      refine zkSeq ?_
      refine zrReg ?_
      refine zlRun (n := 1) (j := 1) rfl (by kernel_rfl) ?_
      refine bindE hS (fun z24 hz24 hS => ?_)
      refine zlOp (d := some 46) (op := (.callr 31 [(.tmp 45), (.const (.int .i64 1))])) (g := none) (j := 2) rfl (by kernel_rfl) (by kernel_rfl) (ev_callrA (ids := [0, 1]) (by kernel_rfl) (by kernel_rfl) (by kernel_rfl) (f31_ok (d - 1) (dpt hd rfl) 1 a2 a3 a4 a5 a6 a7 z24 hz24) (by kernel_rfl)) ?_
      refine zlEnd (by kernel_rfl) ?_
      refine zkBlk ?_
      refine zkSeq ?_
      exact f17_j1_ok hd a1 a2 a3 a4 a5 a6 a7 hQ z24.1 0 [] [] [] z24.2 hS (by kernel_rfl)
  · replace hS := cond_f hc hS
    refine zrCondF (by kernel_rfl) ?_
    refine zrSkip ?_
    refine zkBlk ?_
    refine zkSeq ?_
    exact f17_j1_ok hd a1 a2 a3 a4 a5 a6 a7 hQ a2 a3 a4 a5 a6 a7 hS (by kernel_rfl)
def f17_j2_J (a1 : Int) (a2 : Int) (a3 : Int) (a4 : List UInt8) (a5 : List UInt8) (a6 : List UInt8) (a7 : List GAct) (p64 : Bool) : St := ⟨(up (up (up (up (up (fun _ => .un) 1000001 .un) 16 (.d (.bool p64))) 15 (.d (.int .i64 a2))) 1 (.d (.int .i64 a1))) 0 (.r (.ptr 0 0 0))), (up (up (hB fun _ => 0) 1 ⟨1, some (.own 25 6 (e_GAct.cells a7))⟩) 0 ⟨0, some (.box ((.d (.int .i64 a2)) :: ((.d (.int .i64 a3)) :: ((.d (.str a4)) :: ((.d (.str a5)) :: ((.d (.str a6)) :: ((.r (.msl 1 1 0 a7.length)) :: [])))))))⟩)⟩
noncomputable def f17_j2 (a1 : Int) (a2 : Int) (a3 : Int) (a4 : List UInt8) (a5 : List UInt8) (a6 : List UInt8) (a7 : List GAct) (p64 : Bool) : Option (Int × Int × (List UInt8) × (List UInt8) × (List UInt8) × (List GAct)) := (bif p64 then ((f28 a1 a2 a3 a4 a5 a6 a7).bind fun z19 => (some (z19.1, z19.2.1, z19.2.2.1, z19.2.2.2.1, z19.2.2.2.2.1, z19.2.2.2.2.2))) else (bif (decide (a2 = 8)) then (f17_j3 a1 a2 a3 a4 a5 a6 a7 true) else (bif (decide (a2 = 10)) then (f17_j3 a1 a2 a3 a4 a5 a6 a7 true) else (f17_j3 a1 a2 a3 a4 a5 a6 a7 false))))
theorem f17_j2_ok {d : Nat} (hd : 5 ≤ d) (a1 : Int) (a2 : Int) (a3 : Int) (a4 : List UInt8) (a5 : List UInt8) (a6 : List UInt8) (a7 : List GAct) {r : Int × Int × (List UInt8) × (List UInt8) × (List UInt8) × (List GAct)} {Q : PX → St → Prop} (hQ : ∀ e st', f17_Q r e st' → Q e st') (p64 : Bool) (hS : f17_j2 a1 a2 a3 a4 a5 a6 a7 p64 = some r) {st : St} (he : keepSt [0, 1, 15, 16, 1000001] [(0, .id 0), (1, .id 1)] [] st = f17_j2_J a1 a2 a3 a4 a5 a6 a7 p64) : ZR (lev codes baseL (d - 1)) Q c17_3 [.blk 0, .seq c17_1] st := by
  refine zrKeep he ?_
  unfold f17_j2 at hS
  refine zrSplit 16 p64 (by kernel_rfl) (fun hc => ?_) (fun hc => ?_)
  · replace hS := cond_t hc hS
    refine zrCondT (by kernel_rfl) ?_
    refine zrSeq ?_
    refine zrReg ?_
    refine zlRun (n := 2) (j := 2) rfl (by kernel_rfl) ?_
    refine bindE hS (fun z19 hz19 hS => ?_)
    refine zlOp (d := some 21) (op := (.callr 28 [(.tmp 19), (.tmp 20)])) (g := none) (j := 3) rfl (by kernel_rfl) (by kernel_rfl) (ev_callrA (ids := [0, 1]) (by kernel_rfl) (by kernel_rfl) (by kernel_rfl) (f28_ok (d - 1) (dpt hd rfl) a1 a2 a3 a4 a5 a6 a7 z19 hz19) (by kernel_rfl)) ?_
    refine zlEnd (by kernel_rfl) ?_
    refine zkSeq ?_
    refine zrRet ?_
    refine zkBlkR ?_
    refine zkSeqR ?_
    refine zkNil ?_
    exact endQ hS hQ (fRet (by kernel_rfl) ((congrArg (fun s => outR s 2 c17.res) (by kernel_rfl : finSt c17.fin _ = f17_fin z19.1 z19.2.1 z19.2.2.1 z19.2.2.2.1 z19.2.2.2.2.1 z19.2.2.2.2.2)).trans (f17_out z19.1 z19.2.1 z19.2.2.1 z19.2.2.2.1 z19.2.2.2.2.1 z19.2.2.2.2.2)))
  · replace hS := cond_f hc hS
    refine zrCondF (by kernel_rfl) ?_
    refine zrSeq ?_
    refine zrSeq ?_
    refine zrReg ?_
    refine zlBool (d := 23) (op := (.cmpI .eql (.tmp 15) (.const (.int .i64 8)))) (g := none) (j := 1) (decide (a2 = 8)) rfl (by kernel_rfl) (by kernel_rfl) (by kernel_rfl) (fun hc => ?_) (fun hc => ?_)
    · replace hS := cond_t hc hS
      refine zlRun (n := 1) (j := 2) rfl (by kernel_rfl) ?_
      refine zlEnd (by kernel_rfl) ?_
      refine zkSeq ?_
      refine zrCondT (by kernel_rfl) ?_
      refine zrSkip ?_
      refine zkSeq ?_
      exact f17_j3_ok hd a1 a2 a3 a4 a5 a6 a7 hQ true hS (by kernel_rfl)
    · replace hS := cond_f hc hS
      refine zlRun (n := 1) (j := 2) rfl (by kernel_rfl) ?_
      refine zlEnd (by kernel_rfl) ?_
      refine zkSeq ?_
      refine zrCondF (by kernel_rfl) ?_
      refine zrReg ?_
      refine zlBool (d := 24) (op := (.cmpI .eql (.tmp 15) (.const (.int .i64 10)))) (g := none) (j := 1) (decide (a2 = 10)) rfl (by kernel_rfl) (by kernel_rfl) (by kernel_rfl) (fun hc => ?_) (fun hc => ?_)
      · replace hS := cond_t hc hS
        refine zlRun (n := 1) (j := 2) rfl (by kernel_rfl) ?_
        refine zlEnd (by kernel_rfl) ?_
        refine zkSeq ?_
        exact f17_j3_ok hd a1 a2 a3 a4 a5 a6 a7 hQ true hS (by kernel_rfl)
      · replace hS := cond_f hc hS
        refine zlRun (n := 1) (j := 2) rfl (by kernel_rfl) ?_
        refine zlEnd (by kernel_rfl) ?_
        refine zkSeq ?_
        exact f17_j3_ok hd a1 a2 a3 a4 a5 a6 a7 hQ false hS (by kernel_rfl)
def f17_j0_J (a1 : Int) (a2 : Int) (a3 : Int) (a4 : List UInt8) (a5 : List UInt8) (a6 : List UInt8) (a7 : List GAct) : St := ⟨(up (up (up (fun _ => .un) 1000001 .un) 1 (.d (.int .i64 a1))) 0 (.r (.ptr 0 0 0))), (up (up (hB fun _ => 0) 1 ⟨1, some (.own 25 6 (e_GAct.cells a7))⟩) 0 ⟨0, some (.box ((.d (.int .i64 a2)) :: ((.d (.int .i64 a3)) :: ((.d (.str a4)) :: ((.d (.str a5)) :: ((.d (.str a6)) :: ((.r (.msl 1 1 0 a7.length)) :: [])))))))⟩)⟩
noncomputable def f17_j0 (a1 : Int) (a2 : Int) (a3 : Int) (a4 : List UInt8) (a5 : List UInt8) (a6 : List UInt8) (a7 : List GAct) : Option (Int × Int × (List UInt8) × (List UInt8) × (List UInt8) × (List GAct)) := (bif (decide (a2 = 7)) then (f17_j2 a1 a2 a3 a4 a5 a6 a7 true) else (bif (decide (a2 = 9)) then (f17_j2 a1 a2 a3 a4 a5 a6 a7 true) else (f17_j2 a1 a2 a3 a4 a5 a6 a7 false)))
theorem f17_j0_ok {d : Nat} (hd : 5 ≤ d) (a1 : Int) (a2 : Int) (a3 : Int) (a4 : List UInt8) (a5 : List UInt8) (a6 : List UInt8) (a7 : List GAct) {r : Int × Int × (List UInt8) × (List UInt8) × (List UInt8) × (List GAct)} {Q : PX → St → Prop} (hQ : ∀ e st', f17_Q r e st' → Q e st')  (hS : f17_j0 a1 a2 a3 a4 a5 a6 a7 = some r) {st : St} (he : keepSt [0, 1, 1000001] [(0, .id 0), (1, .id 1)] [] st = f17_j0_J a1 a2 a3 a4 a5 a6 a7) : ZR (lev codes baseL (d - 1)) Q c17_4 [] st := by
  refine zrKeep he ?_
  unfold f17_j0 at hS
  refine zrSeq ?_
  refine zrSeq ?_
  refine zrReg ?_
  refine zlRun (n := 5) (j := 5) rfl (by kernel_rfl) ?_
  refine zlEnd (by kernel_rfl) ?_
  refine zkSeq ?_
  refine zrBlk ?_
  refine zrSeq ?_
  refine zrSeq ?_
  refine zrReg ?_
  refine zlBool (d := 17) (op := (.cmpI .eql (.tmp 15) (.const (.int .i64 7)))) (g := none) (j := 1) (decide (a2 = 7)) rfl (by kernel_rfl) (by kernel_rfl) (by kernel_rfl) (fun hc => ?_) (fun hc => ?_)
  · replace hS := cond_t hc hS
    refine zlRun (n := 1) (j := 2) rfl (by kernel_rfl) ?_
    refine zlEnd (by kernel_rfl) ?_
    refine zkSeq ?_
    refine zrCondT (by kernel_rfl) ?_
    refine zrSkip ?_
    refine zkSeq ?_
    exact f17_j2_ok hd a1 a2 a3 a4 a5 a6 a7 hQ true hS (by kernel_rfl)
  · replace hS := cond_f hc hS
    refine zlRun (n := 1) (j := 2) rfl (by kernel_rfl) ?_
    refine zlEnd (by kernel_rfl) ?_
    refine zkSeq ?_
    refine zrCondF (by kernel_rfl) ?_
    refine zrReg ?_
    refine zlBool (d := 18) (op := (.cmpI .eql (.tmp 15) (.const (.int .i64 9)))) (g := none) (j := 1) (decide (a2 = 9)) rfl (by kernel_rfl) (by kernel_rfl) (by kernel_rfl) (fun hc => ?_) (fun hc => ?_)
    · replace hS := cond_t hc hS
      refine zlRun (n := 1) (j := 2) rfl (by kernel_rfl) ?_
      refine zlEnd (by kernel_rfl) ?_
      refine zkSeq ?_
      exact f17_j2_ok hd a1 a2 a3 a4 a5 a6 a7 hQ true hS (by kernel_rfl)
    · replace hS := cond_f hc hS
      refine zlRun (n := 1) (j := 2) rfl (by kernel_rfl) ?_
      refine zlEnd (by kernel_rfl) ?_
      refine zkSeq ?_
      exact f17_j2_ok hd a1 a2 a3 a4 a5 a6 a7 hQ false hS (by kernel_rfl)
noncomputable def f17 (a1 : Int) (a2 : Int) (a3 : Int) (a4 : List UInt8) (a5 : List UInt8) (a6 : List UInt8) (a7 : List GAct) : Option (Int × Int × (List UInt8) × (List UInt8) × (List UInt8) × (List GAct)) := (bif (decide (a1 < 0)) then (some (a2, a3, a4, a5, a6, a7)) else (bif (decide (1114111 < a1)) then (some (a2, a3, a4, a5, a6, a7)) else (f17_j0 a1 a2 a3 a4 a5 a6 a7 )))
theorem f17_ok (d : Nat) (hd : 5 ≤ d) (a1 : Int) (a2 : Int) (a3 : Int) (a4 : List UInt8) (a5 : List UInt8) (a6 : List UInt8) (a7 : List GAct) (r : Int × Int × (List UInt8) × (List UInt8) × (List UInt8) × (List GAct)) (hS : f17 a1 a2 a3 a4 a5 a6 a7 = some r) : lev codes baseL d 17 [(.r (.ptr 0 0 0)), (.d (.int .i64 a1))] [(.box ((.d (.int .i64 a2)) :: ((.d (.int .i64 a3)) :: ((.d (.str a4)) :: ((.d (.str a5)) :: ((.d (.str a6)) :: ((.r (.msl 1 0 0 a7.length)) :: []))))))), (.own 25 6 (e_GAct.cells a7))] = some ((.tup []), [(.box ((.d (.int .i64 r.1)) :: ((.d (.int .i64 r.2.1)) :: ((.d (.str r.2.2.1)) :: ((.d (.str r.2.2.2.1)) :: ((.d (.str r.2.2.2.2.1)) :: ((.r (.msl 1 0 0 r.2.2.2.2.2.length)) :: []))))))), (.own 25 6 (e_GAct.cells r.2.2.2.2.2))]) := by
  refine lev_go codes17 rfl rfl (Nat.le_trans (Nat.le_of_ble_eq_true rfl) hd) fun Q hQ => ?_
  unfold f17 at hS
  show ZR _ Q c17_b [] _
  replace hQ : ∀ e st', f17_Q r e st' → Q e st' := hQ
  refine zrSeq ?_
  refine zrSeq ?_
  refine zrReg ?_
  refine zlRun (n := 1) (j := 1) rfl (by kernel_rfl) ?_
  refine zlBool (d := 6) (op := (.cmpI .lss (.tmp 5) (.const (.int .i64 0)))) (g := none) (j := 2) (decide (a1 < 0)) rfl (by kernel_rfl) (by kernel_rfl) (by kernel_rfl) (fun hc => ?_) (fun hc => ?_)
  · replace hS := cond_t hc hS
    refine zlRun (n := 4) (j := 6) rfl (by kernel_rfl) ?_
    refine zlEnd (by kernel_rfl) ?_
    refine zkSeq ?_
    refine zrCondT (by kernel_rfl) ?_
    refine zrRet ?_
    refine zkSeqR ?_
    refine zkNil ?_
    exact endQ hS hQ (fRet (by kernel_rfl) ((congrArg (fun s => outR s 2 c17.res) (by kernel_rfl : finSt c17.fin _ = f17_fin a2 a3 a4 a5 a6 a7)).trans (f17_out a2 a3 a4 a5 a6 a7)))
  · replace hS := cond_f hc hS
    refine zlRun (n := 2) (j := 4) rfl (by kernel_rfl) ?_
    refine zlBool (d := 9) (op := (.cmpI .gtr (.tmp 8) (.const (.int .i64 1114111)))) (g := (some (7, false))) (j := 5) (decide (1114111 < a1)) rfl (by kernel_rfl) (by kernel_rfl) (by kernel_rfl) (fun hc => ?_) (fun hc => ?_)
    · replace hS := cond_t hc hS
      refine zlRun (n := 1) (j := 6) rfl (by kernel_rfl) ?_
      refine zlEnd (by kernel_rfl) ?_
      refine zkSeq ?_
      refine zrCondT (by kernel_rfl) ?_
      refine zrRet ?_
      refine zkSeqR ?_
      refine zkNil ?_
      exact endQ hS hQ (fRet (by kernel_rfl) ((congrArg (fun s => outR s 2 c17.res) (by kernel_rfl : finSt c17.fin _ = f17_fin a2 a3 a4 a5 a6 a7)).trans (f17_out a2 a3 a4 a5 a6 a7)))
    · replace hS := cond_f hc hS
      refine zlRun (n := 1) (j := 6) rfl (by kernel_rfl) ?_
      refine zlEnd (by kernel_rfl) ?_
      refine zkSeq ?_
      refine zrCondF (by kernel_rfl) ?_
      refine zrSkip ?_
      refine zkSeq ?_
      exact f17_j0_ok hd a1 a2 a3 a4 a5 a6 a7 hQ  hS (by kernel_rfl)
/- farwriter/parse.Feed -/
def f5_fin (p42 : GParser) (p43 : List GAct) (p44 : Int) : St := ⟨(up (up (up (fun _ => .un) 6 (.d (.int .i64 p44))) 5 (.r (.msl 338 0 0 p43.length))) 4 (.r (.ptr 40 0 0))), (up (up (hB fun _ => 0) 338 ⟨0, some (.own 25 6 (e_GAct.cells p43))⟩) 40 ⟨0, some (.box ((.d (.int .i64 p42.State)) :: ((.d (.int .i64 p42.Mark)) :: ((.d (.str p42.Inter)) :: ((.d (.str p42.Args)) :: ((.d (.str p42.Text)) :: []))))))⟩)⟩
theorem f5_out (p42 : GParser) (p43 : List GAct) (p44 : Int) : outR (f5_fin p42 p43 p44) 0 c5.res = some ((.tup [(.agg ((.d (.int .i64 p42.State)) :: ((.d (.int .i64 p42.Mark)) :: ((.d (.str p42.Inter)) :: ((.d (.str p42.Args)) :: ((.d (.str p42.Text)) :: [])))))), (.r (.own 0 25 6 p43.length (e_GAct.cells p43))), (.d (.int .i64 p44))]), []) := by
  exact out_of (ids := []) (ids' := [338]) (l := [(.agg ((.d (.int .i64 p42.State)) :: ((.d (.int .i64 p42.Mark)) :: ((.d (.str p42.Inter)) :: ((.d (.str p42.Args)) :: ((.d (.str p42.Text)) :: [])))))), (.r (.msl 338 0 0 p43.length)), (.d (.int .i64 p44))]) (by kernel_rfl) (by kernel_rfl) (o_tup (o_cons rfl (o_cons (o_own e_GAct (e := 25) (k := 6) (xs := p43) (by kernel_rfl) rfl rfl rfl rfl) (o_cons rfl o_nil))))
def f5_Q (r : GParser × (List GAct) × Int) (e : PX) (st : St) : Prop := DoneF c5 0 ((.tup [(.agg ((.d (.int .i64 r.1.State)) :: ((.d (.int .i64 r.1.Mark)) :: ((.d (.str r.1.Inter)) :: ((.d (.str r.1.Args)) :: ((.d (.str r.1.Text)) :: [])))))), (.r (.own 0 25 6 r.2.1.length (e_GAct.cells r.2.1))), (.d (.int .i64 r.2.2))]), []) e st
def f5_j1_J (a1 : GParser) (a2 : List Int) (p47 : Int) (p48 : Int) (p49 : List UInt8) (p50 : List UInt8) (p51 : List UInt8) (p52 : List GAct) : St := ⟨(up (up (fun _ => .un) 8 (.r (.ptr 160 0 0))) 4 (.r (.ptr 40 0 0))), (up (up (up (hB fun _ => 0) 337 ⟨0, some (.own 25 6 (e_GAct.cells p52))⟩) 160 ⟨0, some (.box ((.d (.int .i64 p47)) :: ((.d (.int .i64 p48)) :: ((.d (.str p49)) :: ((.d (.str p50)) :: ((.d (.str p51)) :: ((.r (.msl 337 0 0 p52.length)) :: [])))))))⟩) 40 ⟨0, some (.box ((.d (.int .i64 0)) :: ((.d (.int .i64 0)) :: ((.d (.str ([]))) :: ((.d (.str ([]))) :: ((.d (.str ([]))) :: []))))))⟩)⟩
noncomputable def f5_j1 (a1 : GParser) (a2 : List Int) (p47 : Int) (p48 : Int) (p49 : List UInt8) (p50 : List UInt8) (p51 : List UInt8) (p52 : List GAct) : Option (GParser × (List GAct) × Int) := (some ((GParser.mk p47 p48 p49 p50 p51), p52, 0))
theorem f5_j1_ok {d : Nat} (hd : 6 ≤ d) (a1 : GParser) (a2 : List Int) {r : GParser × (List GAct) × Int} {Q : PX → St → Prop} (hQ : ∀ e st', f5_Q r e st' → Q e st') (p47 : Int) (p48 : Int) (p49 : List UInt8) (p50 : List UInt8) (p51 : List UInt8) (p52 : List GAct) (hS : f5_j1 a1 a2 p47 p48 p49 p50 p51 p52 = some r) {st : St} (he : keepSt [4, 8] [(40, .id 40), (160, .id 160), (337, .id 337)] [] st = f5_j1_J a1 a2 p47 p48 p49 p50 p51 p52) : ZR (lev codes baseL (d - 1)) Q c5_1 [] st := by
  refine zrKeep he ?_
  unfold f5_j1 at hS
  refine zrSeq ?_
  refine zrRegD ?_
  refine zdRun (n := 11) (j := 11) (ts := [[], [], [], [(160, false)], [], [], [], [(160, false)], [(40, true)], [], []]) (acc' := [[], [], [], [(160, false)], [], [], [], [(160, false)], [(40, true)], [], []]) rfl (by kernel_rfl) (by kernel_rfl) (by kernel_rfl) ?_
  refine zdEnd (by kernel_rfl) (by kernel_rfl) ?_
  refine zkSeq ?_
  refine zrRet ?_
  refine zkNil ?_
  exact endQ hS hQ (fRet (by kernel_rfl) ((congrArg (fun s => outR s 0 c5.res) (by kernel_rfl : finSt c5.fin _ = f5_fin (GParser.mk p47 p48 p49 p50 p51) p52 0)).trans (f5_out (GParser.mk p47 p48 p49 p50 p51) p52 0)))
def f5_l2_J (a1 : GParser) (a2 : List Int) (x : Int × Int × (List UInt8) × (List UInt8) × (List UInt8) × (List GAct) × Int) : St := ⟨(up (up (up (up (up (fun _ => .un) 22 (.d (.int .i64 x.2.2.2.2.2.2))) 21 (.d (.int .i64 (a2.length : Int)))) 20 (.d (.sl a2.length ((eInt .i64).cells a2)))) 8 (.r (.ptr 160 0 0))) 4 (.r (.ptr 40 0 0))), (up (up (up (hB fun _ => 0) 337 ⟨0, some (.own 25 6 (e_GAct.cells x.2.2.2.2.2.1))⟩) 160 ⟨0, some (.box ((.d (.int .i64 x.1)) :: ((.d (.int .i64 x.2.1)) :: ((.d (.str x.2.2.1)) :: ((.d (.str x.2.2.2.1)) :: ((.d (.str x.2.2.2.2.1)) :: ((.r (.msl 337 0 0 x.2.2.2.2.2.1.length)) :: [])))))))⟩) 40 ⟨0, some (.box ((.d (.int .i64 0)) :: ((.d (.int .i64 0)) :: ((.d (.str ([]))) :: ((.d (.str ([]))) :: ((.d (.str ([]))) :: []))))))⟩)⟩
def f5_l2_H (a1 : GParser) (a2 : List Int) (x : Int × Int × (List UInt8) × (List UInt8) × (List UInt8) × (List GAct) × Int) (st : St) : Prop := keepSt [4, 8, 20, 21, 22] [(40, .id 40), (160, .id 160), (337, (.cell 160 5))] [.cell 160 5 337 25 6] st = f5_l2_J a1 a2 x
def f5_l2_e0_J (a1 : GParser) (a2 : List Int) (p36 : Int) (p37 : Int) (p38 : List UInt8) (p39 : List UInt8) (p40 : List UInt8) (p41 : List GAct) : St := ⟨(up (up (fun _ => .un) 8 (.r (.ptr 160 0 0))) 4 (.r (.ptr 40 0 0))), (up (up (up (hB fun _ => 0) 337 ⟨0, some (.own 25 6 (e_GAct.cells p41))⟩) 160 ⟨0, some (.box ((.d (.int .i64 p36)) :: ((.d (.int .i64 p37)) :: ((.d (.str p38)) :: ((.d (.str p39)) :: ((.d (.str p40)) :: ((.r (.msl 337 0 0 p41.length)) :: [])))))))⟩) 40 ⟨0, some (.box ((.d (.int .i64 0)) :: ((.d (.int .i64 0)) :: ((.d (.str ([]))) :: ((.d (.str ([]))) :: ((.d (.str ([]))) :: []))))))⟩)⟩
def f5_l2_X (a1 : GParser) (a2 : List Int) (z : (Int × Int × (List UInt8) × (List UInt8) × (List UInt8) × (List GAct))) (e : PX) (st : St) : Prop := e = .exit 0 ∧ st = f5_l2_e0_J a1 a2 z.1 z.2.1 z.2.2.1 z.2.2.2.1 z.2.2.2.2.1 z.2.2.2.2.2
def f5_l2_j4_J (a1 : GParser) (a2 : List Int) (p69 : Int) (p70 : Int) (p71 : List UInt8) (p72 : List UInt8) (p73 : List UInt8) (p74 : List GAct) (p75 : Int) : St := ⟨(up (up (up (up (up (fun _ => .un) 22 (.d (.int .i64 p75))) 21 (.d (.int .i64 (a2.length : Int)))) 20 (.d (.sl a2.length ((eInt .i64).cells a2)))) 8 (.r (.ptr 160 0 0))) 4 (.r (.ptr 40 0 0))), (up (up (up (hB fun _ => 0) 337 ⟨0, some (.own 25 6 (e_GAct.cells p74))⟩) 160 ⟨0, some (.box ((.d (.int .i64 p69)) :: ((.d (.int .i64 p70)) :: ((.d (.str p71)) :: ((.d (.str p72)) :: ((.d (.str p73)) :: ((.r (.msl 337 0 0 p74.length)) :: [])))))))⟩) 40 ⟨0, some (.box ((.d (.int .i64 0)) :: ((.d (.int .i64 0)) :: ((.d (.str ([]))) :: ((.d (.str ([]))) :: ((.d (.str ([]))) :: []))))))⟩)⟩
noncomputable def f5_l2_j4 (a1 : GParser) (a2 : List Int) (p69 : Int) (p70 : Int) (p71 : List UInt8) (p72 : List UInt8) (p73 : List UInt8) (p74 : List GAct) (p75 : Int) : Option ((Int × Int × (List UInt8) × (List UInt8) × (List UInt8) × (List GAct) × Int) ⊕ ((Int × Int × (List UInt8) × (List UInt8) × (List UInt8) × (List GAct)))) := ((idx a2 p75).bind fun z9 => ((f17 z9 p69 p70 p71 p72 p73 p74).bind fun z10 => (some (.inl (z10.1, z10.2.1, z10.2.2.1, z10.2.2.2.1, z10.2.2.2.2.1, z10.2.2.2.2.2, (IntKind.i64.wrap (p75 + 1)))))))
theorem f5_l2_j4_ok {d : Nat} (hd : 6 ≤ d) (a1 : GParser) (a2 : List Int) {r : (Int × Int × (List UInt8) × (List UInt8) × (List UInt8) × (List GAct) × Int) ⊕ ((Int × Int × (List UInt8) × (List UInt8) × (List UInt8) × (List GAct)))} {Q : PX → St → Prop} (hQ : ∀ e st', finL (f5_l2_H a1 a2) (f5_l2_X a1 a2) r e st' → Q e st') (p69 : Int) (p70 : Int) (p71 : List UInt8) (p72 : List UInt8) (p73 : List UInt8) (p74 : List GAct) (p75 : Int) (hS : f5_l2_j4 a1 a2 p69 p70 p71 p72 p73 p74 p75 = some r) {st : St} (he : keepSt [4, 8, 20, 21, 22] [(40, .id 40), (160, .id 160), (337, .id 337)] [] st = f5_l2_j4_J a1 a2 p69 p70 p71 p72 p73 p74 p75) : ZR (lev codes baseL (d - 1)) Q c5_2 [] st := by
  refine zrKeep he ?_
  unfold f5_l2_j4 at hS
  refine zrSeq ?_
  refine zrBlk ?_
  refine zrSeq ?_
  refine zrReg ?_
  refine bindE hS (fun z9 hz9 hS => ?_)
  refine zlOp (d := some 24) (op := (.ixS 3 1 (.tmp 20) (.tmp 22))) (g := none) (v := (.rptr ((eInt .i64).enc z9 ++ ((eInt .i64).cells (a2.drop ((p75 : Int).toNat + 1)))))) (ups := []) (j := 1) rfl (by kernel_rfl) (by kernel_rfl) (ev_ixS (eInt .i64) (kk := .i64) (xs := a2) (j := p75) (by kernel_rfl) (by kernel_rfl) hz9 rfl (by intro h; cases h)) ?_
  refine zlRun (n := 2) (j := 3) rfl (by kernel_rfl) ?_
  refine zlEnd (by kernel_rfl) ?_
  refine zkSeq ?_
  refine zrReg ?_
  refine zlRun (n := 2) (j := 2) rfl (by kernel_rfl) ?_
  refine bindE hS (fun z10 hz10 hS => ?_)
  refine zlOp (d := some 28) (op := (.callr 17 [(.tmp 26), (.tmp 27)])) (g := none) (j := 3) rfl (by kernel_rfl) (by kernel_rfl) (ev_callrA (ids := [160, 337]) (by kernel_rfl) (by kernel_rfl) (by kernel_rfl) (f17_ok (d - 1) (dpt hd rfl) z9 p69 p70 p71 p72 p73 p74 z10 hz10) (by kernel_rfl)) ?_
  refine zlEnd (by kernel_rfl) ?_
  refine zkBlk ?_
  refine zkSeq ?_
  refine zrReg ?_
  refine zlRun (n := 2) (j := 2) rfl (by kernel_rfl) ?_
  refine zlEnd (by kernel_rfl) ?_
  refine zkNil ?_
  exact endQ hS hQ (finL_n (by show keepSt _ _ _ _ = _; kernel_rfl))
def f5_l2_j3_J (a1 : GParser) (a2 : List Int) (p61 : Int) (p62 : Int) (p63 : List UInt8) (p64 : List UInt8) (p65 : List UInt8) (p66 : List GAct) (p67 : Int) (p68 : Bool) : St := ⟨(up (up (up (up (up (up (fun _ => .un) 23 (.d (.bool p68))) 22 (.d (.int .i64 p67))) 21 (.d (.int .i64 (a2.length : Int)))) 20 (.d (.sl a2.length ((eInt .i64).cells a2)))) 8 (.r (.ptr 160 0 0))) 4 (.r (.ptr 40 0 0))), (up (up (up (hB fun _ => 0) 337 ⟨0, some (.own 25 6 (e_GAct.cells p66))⟩) 160 ⟨0, some (.box ((.d (.int .i64 p61)) :: ((.d (.int .i64 p62)) :: ((.d (.str p63)) :: ((.d (.str p64)) :: ((.d (.str p65)) :: ((.r (.msl 337 0 0 p66.length)) :: [])))))))⟩) 40 ⟨0, some (.box ((.d (.int .i64 0)) :: ((.d (.int .i64 0)) :: ((.d (.str ([]))) :: ((.d (.str ([]))) :: ((.d (.str ([]))) :: []))))))⟩)⟩
noncomputable def f5_l2_j3 (a1 : GParser) (a2 : List Int) (p61 : Int) (p62 : Int) (p63 : List UInt8) (p64 : List UInt8) (p65 : List UInt8) (p66 : List GAct) (p67 : Int) (p68 : Bool) : Option ((Int × Int × (List UInt8) × (List UInt8) × (List UInt8) × (List GAct) × Int) ⊕ ((Int × Int × (List UInt8) × (List UInt8) × (List UInt8) × (List GAct)))) := (bif p68 then (f5_l2_j4 a1 a2 p61 p62 p63 p64 p65 p66 p67) else (some (.inr (p61, p62, p63, p64, p65, p66))))
theorem f5_l2_j3_ok {d : Nat} (hd : 6 ≤ d) (a1 : GParser) (a2 : List Int) {r : (Int × Int × (List UInt8) × (List UInt8) × (List UInt8) × (List GAct) × Int) ⊕ ((Int × Int × (List UInt8) × (List UInt8) × (List UInt8) × (List GAct)))} {Q : PX → St → Prop} (hQ : ∀ e st', finL (f5_l2_H a1 a2) (f5_l2_X a1 a2) r e st' → Q e st') (p61 : Int) (p62 : Int) (p63 : List UInt8) (p64 : List UInt8) (p65 : List UInt8) (p66 : List GAct) (p67 : Int) (p68 : Bool) (hS : f5_l2_j3 a1 a2 p61 p62 p63 p64 p65 p66 p67 p68 = some r) {st : St} (he : keepSt [4, 8, 20, 21, 22, 23] [(40, .id 40), (160, .id 160), (337, .id 337)] [] st = f5_l2_j3_J a1 a2 p61 p62 p63 p64 p65 p66 p67 p68) : ZR (lev codes baseL (d - 1)) Q c5_3 [] st := by
  refine zrKeep he ?_
  unfold f5_l2_j3 at hS
  refine zrSeq ?_
  refine zrSplit 23 p68 (by kernel_rfl) (fun hc => ?_) (fun hc => ?_)
  · replace hS := cond_t hc hS
    refine zrCondT (by kernel_rfl) ?_
    refine zrSkip ?_
    refine zkSeq ?_
    exact f5_l2_j4_ok hd a1 a2 hQ p61 p62 p63 p64 p65 p66 p67 hS (by kernel_rfl)
  · replace hS := cond_f hc hS
    refine zrCondF (by kernel_rfl) ?_
    refine zrKeep (J := f5_l2_e0_J a1 a2 p61 p62 p63 p64 p65 p66) (by kernel_rfl) ?_
    refine zrExit ?_
    refine zkSeqX ?_
    refine zkNil ?_
    exact endQ hS hQ (finL_x (by intro h; cases h) (by show _ = _ ∧ _ = _; exact ⟨rfl, rfl⟩))
noncomputable def f5_l2 (a1 : GParser) (a2 : List Int) (x : Int × Int × (List UInt8) × (List UInt8) × (List UInt8) × (List GAct) × Int) : Option ((Int × Int × (List UInt8) × (List UInt8) × (List UInt8) × (List GAct) × Int) ⊕ ((Int × Int × (List UInt8) × (List UInt8) × (List UInt8) × (List GAct)))) := (bif (decide (x.2.2.2.2.2.2 < (a2.length : Int))) then (f5_l2_j3 a1 a2 x.1 x.2.1 x.2.2.1 x.2.2.2.1 x.2.2.2.2.1 x.2.2.2.2.2.1 x.2.2.2.2.2.2 true) else (f5_l2_j3 a1 a2 x.1 x.2.1 x.2.2.1 x.2.2.2.1 x.2.2.2.2.1 x.2.2.2.2.2.1 x.2.2.2.2.2.2 false))
theorem f5_l2_ok {d : Nat} (hd : 6 ≤ d) (a1 : GParser) (a2 : List Int) {r : (Int × Int × (List UInt8) × (List UInt8) × (List UInt8) × (List GAct) × Int) ⊕ ((Int × Int × (List UInt8) × (List UInt8) × (List UInt8) × (List GAct)))} {Q : PX → St → Prop} (hQ : ∀ e st', finL (f5_l2_H a1 a2) (f5_l2_X a1 a2) r e st' → Q e st') {x : Int × Int × (List UInt8) × (List UInt8) × (List UInt8) × (List GAct) × Int} (hS : f5_l2 a1 a2 x = some r) {st : St} (he : f5_l2_H a1 a2 x st) : ZR (lev codes baseL (d - 1)) Q c5_4 [] st := by
  refine zrKeep he ?_
  unfold f5_l2 at hS
  refine zrSeq ?_
  refine zrReg ?_
  refine zlBool (d := 23) (op := (.cmpI .lss (.tmp 22) (.tmp 21))) (g := none) (j := 1) (decide (x.2.2.2.2.2.2 < (a2.length : Int))) rfl (by kernel_rfl) (by kernel_rfl) (by kernel_rfl) (fun hc => ?_) (fun hc => ?_)
  · replace hS := cond_t hc hS
    refine zlEnd (by kernel_rfl) ?_
    refine zkSeq ?_
    exact f5_l2_j3_ok hd a1 a2 hQ x.1 x.2.1 x.2.2.1 x.2.2.2.1 x.2.2.2.2.1 x.2.2.2.2.2.1 x.2.2.2.2.2.2 true hS (by kernel_rfl)
  · replace hS := cond_f hc hS
    refine zlEnd (by kernel_rfl) ?_
    refine zkSeq ?_
    exact f5_l2_j3_ok hd a1 a2 hQ x.1 x.2.1 x.2.2.1 x.2.2.2.1 x.2.2.2.2.1 x.2.2.2.2.2.1 x.2.2.2.2.2.2 false hS (by kernel_rfl)
def f5_j0_J (a1 : GParser) (a2 : List Int) : St := ⟨(up (up (up (fun _ => .un) 4 (.r (.ptr 40 0 0))) 2 (.r (.ptr 24 0 0))) 1 (.d (.sl a2.length ((eInt .i64).cells a2)))), (up (up (hB fun _ => 0) 40 ⟨0, some (.box ((.d (.int .i64 0)) :: ((.d (.int .i64 0)) :: ((.d (.str ([]))) :: ((.d (.str ([]))) :: ((.d (.str ([]))) :: []))))))⟩) 24 ⟨0, some (.box ((.d (.int .i64 a1.State)) :: ((.d (.int .i64 a1.Mark)) :: ((.d (.str a1.Inter)) :: ((.d (.str a1.Args)) :: ((.d (.str a1.Text)) :: []))))))⟩)⟩
noncomputable def f5_j0 (a1 : GParser) (a2 : List Int) : Option (GParser × (List GAct) × Int) := ((loopO (f5_l2 a1 a2) (a1.State, a1.Mark, a1.Inter, a1.Args, a1.Text, [], 0)).bind fun z11 => (f5_j1 a1 a2 z11.1 z11.2.1 z11.2.2.1 z11.2.2.2.1 z11.2.2.2.2.1 z11.2.2.2.2.2))
theorem f5_j0_ok {d : Nat} (hd : 6 ≤ d) (a1 : GParser) (a2 : List Int) {r : GParser × (List GAct) × Int} {Q : PX → St → Prop} (hQ : ∀ e st', f5_Q r e st' → Q e st')  (hS : f5_j0 a1 a2 = some r) {st : St} (he : keepSt [1, 2, 4] [(24, .id 24), (40, .id 40)] [] st = f5_j0_J a1 a2) : ZR (lev codes baseL (d - 1)) Q c5_5 [] st := by
  refine zrKeep he ?_
  unfold f5_j0 at hS
  refine zrSeq ?_
  refine zrReg ?_
  refine zlRun (n := 4) (j := 4) rfl (by kernel_rfl) ?_
  refine zlEnd (by kernel_rfl) ?_
  refine zkSeq ?_
  refine zrSeq ?_
  refine zrSeq ?_
  refine zrReg ?_
  refine zlRun (n := 3) (j := 3) rfl (by kernel_rfl) ?_
  refine zlEnd (by kernel_rfl) ?_
  refine zkSeq ?_
  refine zrBlk ?_
  refine bindE hS (fun z11 hz11 hS => ?_)
  refine zrLoop (f5_l2_H a1 a2) (f5_l2_X a1 a2) (fun x st r Q h0 hS hQ => f5_l2_ok hd a1 a2 hQ hS h0) (x := (a1.State, a1.Mark, a1.Inter, a1.Args, a1.Text, [], 0)) (z := z11) (by show keepSt _ _ _ _ = _; kernel_rfl) hz11 ?_
  intro e st' _ hX
  obtain ⟨rfl, rfl⟩ : _ ∧ _ := hX
  refine zkBlkX ?_
  refine zkSeq ?_
  exact f5_j1_ok hd a1 a2 hQ z11.1 z11.2.1 z11.2.2.1 z11.2.2.2.1 z11.2.2.2.2.1 z11.2.2.2.2.2 hS (by kernel_rfl)
noncomputable def f5 (a1 : GParser) (a2 : List Int) : Option (GParser × (List GAct) × Int) := ((f16 a1).bind fun z12 => (bif (!decide (z12 = 0)) then (some (a1, [], z12)) else (f5_j0 a1 a2 )))
theorem f5_ok (d : Nat) (hd : 6 ≤ d) (a1 : GParser) (a2 : List Int) (r : GParser × (List GAct) × Int) (hS : f5 a1 a2 = some r) : lev codes baseL d 5 [(.agg ((.d (.int .i64 a1.State)) :: ((.d (.int .i64 a1.Mark)) :: ((.d (.str a1.Inter)) :: ((.d (.str a1.Args)) :: ((.d (.str a1.Text)) :: [])))))), (.d (.sl a2.length ((eInt .i64).cells a2)))] [] = some ((.tup [(.agg ((.d (.int .i64 r.1.State)) :: ((.d (.int .i64 r.1.Mark)) :: ((.d (.str r.1.Inter)) :: ((.d (.str r.1.Args)) :: ((.d (.str r.1.Text)) :: [])))))), (.r (.own 0 25 6 r.2.1.length (e_GAct.cells r.2.1))), (.d (.int .i64 r.2.2))]), []) := by
  refine lev_go codes5 rfl rfl (Nat.le_trans (Nat.le_of_ble_eq_true rfl) hd) fun Q hQ => ?_
  unfold f5 at hS
  show ZR _ Q c5_b [] _
  replace hQ : ∀ e st', f5_Q r e st' → Q e st' := hQ
  refine zrSeq ?_
  refine zrReg ?_
  refine zlRun (n := 4) (j := 4) rfl (by kernel_rfl) ?_
  refine zlEnd (by kernel_rfl) ?_
  refine zkSeq ?_
  refine zrSeq ?_
  refine zrSeq ?_
  refine zrReg ?_
  refine zlRun (n := 1) (j := 1) rfl (by kernel_rfl) ?_
  refine bindE hS (fun z12 hz12 hS => ?_)
  refine zlOp (d := some 12) (op := (.call 16 [(.tmp 11)])) (g := none) (j := 2) rfl (by kernel_rfl) (by kernel_rfl) (ev_callA (by kernel_rfl) (f16_ok (d - 1) (dpt hd rfl) a1 z12 hz12) (by kernel_rfl) (by kernel_rfl)) ?_
  refine zlRun (n := 1) (j := 3) rfl (by kernel_rfl) ?_
  refine zlEnd (by kernel_rfl) ?_
  refine zkSeq ?_
  refine zrSeq ?_
  refine zrReg ?_
  refine zlRun (n := 1) (j := 1) rfl (by kernel_rfl) ?_
  refine zlBool (d := 14) (op := (.cmpI .neq (.tmp 13) (.const (.int .i64 0)))) (g := none) (j := 2) (!decide (z12 = 0)) rfl (by kernel_rfl) (by kernel_rfl) (by kernel_rfl) (fun hc => ?_) (fun hc => ?_)
  · replace hS := cond_t hc hS
    refine zlEnd (by kernel_rfl) ?_
    refine zkSeq ?_
    refine zrCondT (by kernel_rfl) ?_
    refine zrSeq ?_
    refine zrReg ?_
    refine zlRun (n := 5) (j := 5) rfl (by kernel_rfl) ?_
    refine zlEnd (by kernel_rfl) ?_
    refine zkSeq ?_
    refine zrRet ?_
    refine zkSeqR ?_
    refine zkNil ?_
    exact endQ hS hQ (fRet (by kernel_rfl) ((congrArg (fun s => outR s 0 c5.res) (by kernel_rfl : finSt c5.fin _ = f5_fin a1 [] z12)).trans (f5_out a1 [] z12)))
  · replace hS := cond_f hc hS
    refine zlEnd (by kernel_rfl) ?_
    refine zkSeq ?_
    refine zrCondF (by kernel_rfl) ?_
    refine zrSkip ?_
    refine zkSeq ?_
    exact f5_j0_ok hd a1 a2 hQ  hS (by kernel_rfl)
/- farwriter/farkeep.runesIn -/
def f18_fin (p11 : List Int) : St := ⟨(up (fun _ => .un) 2 (.r (.msl 32 0 0 p11.length))), (up (hB fun _ => 0) 32 ⟨0, some (.own 3 1 ((eInt .i64).cells p11))⟩)⟩
theorem f18_out (p11 : List Int) : outR (f18_fin p11) 0 c18.res = some ((.r (.own 0 3 1 p11.length ((eInt .i64).cells p11))), []) := by
  exact out_of (ids := []) (ids' := [32]) (l := [(.r (.msl 32 0 0 p11.length))]) (by kernel_rfl) (by kernel_rfl) (o_own (eInt .i64) (e := 3) (k := 1) (xs := p11) (by kernel_rfl) rfl rfl rfl rfl)
def f18_Q (r : (List Int)) (e : PX) (st : St) : Prop := DoneF c18 0 ((.r (.own 0 3 1 r.length ((eInt .i64).cells r))), []) e st
def f18_l0_J (a1 : List UInt8) (x : (List Int) × Int) : St := ⟨(up (up (fun _ => .un) 7 (.r (.ptr 64 0 0))) 3 (.r (.msl 32 0 0 x.1.length))), (up (up (hB fun _ => 0) 64 ⟨0, some (.box ((.tup [(.d (.str a1)), (.d (.int .i64 x.2))]) :: []))⟩) 32 ⟨0, some (.own 3 1 ((eInt .i64).cells x.1))⟩)⟩
def f18_l0_H (a1 : List UInt8) (x : (List Int) × Int) (st : St) : Prop := keepSt [3, 7] [(32, .id 32), (64, .id 64)] [] st = f18_l0_J a1 x
def f18_l0_e0_J (a1 : List UInt8) (p10 : List Int) : St := ⟨(up (fun _ => .un) 3 (.r (.msl 32 0 0 p10.length))), (up (hB fun _ => 0) 32 ⟨0, some (.own 3 1 ((eInt .i64).cells p10))⟩)⟩
def f18_l0_X (a1 : List UInt8) (z : ((List Int))) (e : PX) (st : St) : Prop := e = .exit 0 ∧ st = f18_l0_e0_J a1 z
def f18_l0_j1_J (a1 : List UInt8) (p12 : List Int) (p13 : Int) (p14 : Int) (p15 : Int) : St := ⟨(up (up (up (fun _ => .un) 8 (.tup [(.d (.bool true)), (.d (.int .i64 p14)), (.d (.int .i32 p15))])) 7 (.r (.ptr 64 0 0))) 3 (.r (.msl 32 0 0 p12.length))), (up (up (hB fun _ => 0) 64 ⟨0, some (.box ((.tup [(.d (.str a1)), (.d (.int .i64 p13))]) :: []))⟩) 32 ⟨0, some (.own 3 1 ((eInt .i64).cells p12))⟩)⟩
noncomputable def f18_l0_j1 (a1 : List UInt8) (p12 : List Int) (p13 : Int) (p14 : Int) (p15 : Int) : Option (((List Int) × Int) ⊕ (((List Int)))) := ((app? 8 p12 ([(IntKind.i64.wrap (p15))] : List Int)).bind fun z9 => (some (.inl (z9, p13))))
theorem f18_l0_j1_ok {d : Nat} (hd : 1 ≤ d) (a1 : List UInt8) {r : ((List Int) × Int) ⊕ (((List Int)))} {Q : PX → St → Prop} (hQ : ∀ e st', finL (f18_l0_H a1) (f18_l0_X a1) r e st' → Q e st') (p12 : List Int) (p13 : Int) (p14 : Int) (p15 : Int) (hS : f18_l0_j1 a1 p12 p13 p14 p15 = some r) {st : St} (he : keepSt [3, 7, 8] [(32, .id 32), (64, .id 64)] [] st = f18_l0_j1_J a1 p12 p13 p14 p15) : ZR (lev codes baseL (d - 1)) Q c18_1 [] st := by
  refine zrKeep he ?_
  unfold f18_l0_j1 at hS
  refine zrBlk ?_
  refine zrSeq ?_
  refine zrReg ?_
  refine zlRun (n := 2) (j := 2) rfl (by kernel_rfl) ?_
  refine zlEnd (by kernel_rfl) ?_
  refine zkSeq ?_
  refine zrReg ?_
  refine zlRun (n := 4) (j := 4) rfl (by kernel_rfl) ?_
  refine bindE hS (fun z9 hz9 hS => ?_)
  refine zlOp (d := some 15) (op := (.app 3 1 8 (.tmp 11) (.tmp 14))) (g := none) (v := (.r (.msl 32 1 0 z9.length))) (ups := [(32, ⟨1, some (.own 3 1 ((eInt .i64).cells z9))⟩)]) (j := 5) rfl (by kernel_rfl) (by kernel_rfl) (ev_app (eInt .i64) (b := 32) (g := 0) (n := p12.length) (xs := p12) (ys := [(IntKind.i64.wrap (p15))]) ((congrArg (asL _) (by kernel_rfl : ρof _ (.tmp 14) = (.r (.msl 120 1 0 (([(IntKind.i64.wrap (p15))] : List Int).length))))).trans (as_whole (eInt .i64) (e := 3) (k := 1) (xs := [(IntKind.i64.wrap (p15))]) (by kernel_rfl) rfl rfl)) rfl (by kernel_rfl) rfl (by kernel_rfl) rfl hz9) ?_
  refine zlRun (n := 1) (j := 6) rfl (by kernel_rfl) ?_
  refine zlEnd (by kernel_rfl) ?_
  refine zkBlk ?_
  refine zkNil ?_
  exact endQ hS hQ (finL_n (by show keepSt _ _ _ _ = _; kernel_rfl))
noncomputable def f18_l0 (a1 : List UInt8) (x : (List Int) × Int) : Option (((List Int) × Int) ⊕ (((List Int)))) := ((chk (decide (0 ≤ x.2))).bind fun z8 => (bif (decide (x.2 < (a1.length : Int))) then (f18_l0_j1 a1 x.1 (((x.2 : Int).toNat + (Utf8.decode ⟨a1.toArray⟩ (x.2 : Int).toNat).2 : Nat) : Int) x.2 ((Utf8.decode ⟨a1.toArray⟩ (x.2 : Int).toNat).1 : Int)) else (some (.inr x.1))))
theorem f18_l0_ok {d : Nat} (hd : 1 ≤ d) (a1 : List UInt8) {r : ((List Int) × Int) ⊕ (((List Int)))} {Q : PX → St → Prop} (hQ : ∀ e st', finL (f18_l0_H a1) (f18_l0_X a1) r e st' → Q e st') {x : (List Int) × Int} (hS : f18_l0 a1 x = some r) {st : St} (he : f18_l0_H a1 x st) : ZR (lev codes baseL (d - 1)) Q c18_2 [] st := by
  refine zrKeep he ?_
  unfold f18_l0 at hS
  refine zrSeq ?_
  refine zrReg ?_
  refine bindE hS (fun z8 hz8 hS => ?_)
  refine boolC (decide (x.2 < (a1.length : Int))) (fun hc => ?_) (fun hc => ?_)
  · replace hS := cond_t hc hS
    refine zlOp (d := some 8) (op := (.nxt (.tmp 7))) (g := none) (v := (.tup [(.d (.bool true)), (.d (.int .i64 x.2)), (.d (.int .i32 ((Utf8.decode ⟨a1.toArray⟩ (x.2 : Int).toNat).1 : Int)))])) (ups := [(64, ⟨0, some (.box ((.tup [(.d (.str a1)), (.d (.int .i64 (((x.2 : Int).toNat + (Utf8.decode ⟨a1.toArray⟩ (x.2 : Int).toNat).2 : Nat) : Int)))]) :: []))⟩)]) (j := 1) rfl (by kernel_rfl) (by kernel_rfl) (ev_nxtT (s := a1) (p := x.2) (b := 64) (g := 0) (by kernel_rfl) (by kernel_rfl) hz8 hc) ?_
    refine zlRun (n := 1) (j := 2) rfl (by kernel_rfl) ?_
    refine zlEnd (by kernel_rfl) ?_
    refine zkSeq ?_
    refine zrSeq ?_
    refine zrCondT (by kernel_rfl) ?_
    refine zrSkip ?_
    refine zkSeq ?_
    exact f18_l0_j1_ok hd a1 hQ x.1 (((x.2 : Int).toNat + (Utf8.decode ⟨a1.toArray⟩ (x.2 : Int).toNat).2 : Nat) : Int) x.2 ((Utf8.decode ⟨a1.toArray⟩ (x.2 : Int).toNat).1 : Int) hS (by kernel_rfl)
  · replace hS := cond_f hc hS
    refine zlOp (d := some 8) (op := (.nxt (.tmp 7))) (g := none) (v := (.tup [(.d (.bool false))])) (ups := []) (j := 1) rfl (by kernel_rfl) (by kernel_rfl) (ev_nxtF (s := a1) (p := x.2) (b := 64) (g := 0) (by kernel_rfl) (by kernel_rfl) hz8 hc) ?_
    refine zlRun (n := 1) (j := 2) rfl (by kernel_rfl) ?_
    refine zlEnd (by kernel_rfl) ?_
    refine zkSeq ?_
    refine zrSeq ?_
    refine zrCondF (by kernel_rfl) ?_
    refine zrKeep (J := f18_l0_e0_J a1 x.1) (by kernel_rfl) ?_
    refine zrExit ?_
    refine zkSeqX ?_
    refine zkNil ?_
    exact endQ hS hQ (finL_x (by intro h; cases h) (by show _ = _ ∧ _ = _; exact ⟨rfl, rfl⟩))
noncomputable def f18 (a1 : List UInt8) : Option ((List Int)) := ((loopO (f18_l0 a1) ([], 0)).bind fun z10 => (some z10))
theorem f18_ok (d : Nat) (hd : 1 ≤ d) (a1 : List UInt8) (r : (List Int)) (hS : f18 a1 = some r) : lev codes baseL d 18 [(.d (.str a1))] [] = some ((.r (.own 0 3 1 r.length ((eInt .i64).cells r))), []) := by
  refine lev_go codes18 rfl rfl (Nat.le_trans (Nat.le_of_ble_eq_true rfl) hd) fun Q hQ => ?_
  unfold f18 at hS
  show ZR _ Q c18_b [] _
  replace hQ : ∀ e st', f18_Q r e st' → Q e st' := hQ
  refine zrSeq ?_
  refine zrReg ?_
  refine zlRun (n := 1) (j := 1) rfl (by kernel_rfl) ?_
  refine zlEnd (by kernel_rfl) ?_
  refine zkSeq ?_
  refine zrSeq ?_
  refine zrReg ?_
  refine zlRun (n := 1) (j := 1) rfl (by kernel_rfl) ?_
  refine zlEnd (by kernel_rfl) ?_
  refine zkSeq ?_
  refine zrSeq ?_
  refine zrSeq ?_
  refine zrReg ?_
  refine zlRun (n := 2) (j := 2) rfl (by kernel_rfl) ?_
  refine zlEnd (by kernel_rfl) ?_
  refine zkSeq ?_
  refine zrBlk ?_
  refine bindE hS (fun z10 hz10 hS => ?_)
  refine zrLoop (f18_l0_H a1) (f18_l0_X a1) (fun x st r Q h0 hS hQ => f18_l0_ok hd a1 hQ hS h0) (x := ([], 0)) (z := z10) (by show keepSt _ _ _ _ = _; kernel_rfl) hz10 ?_
  intro e st' _ hX
  obtain ⟨rfl, rfl⟩ : _ ∧ _ := hX
  refine zkBlkX ?_
  refine zkSeq ?_
  refine zrSeq ?_
  refine zrReg ?_
  refine zlRun (n := 2) (j := 2) rfl (by kernel_rfl) ?_
  refine zlEnd (by kernel_rfl) ?_
  refine zkSeq ?_
  refine zrRet ?_
  refine zkNil ?_
  exact endQ hS hQ (fRet (by kernel_rfl) ((congrArg (fun s => outR s 0 c18.res) (by kernel_rfl : finSt c18.fin _ = f18_fin z10)).trans (f18_out z10)))
/- slices.Equal[[]int,int] -/
def f35_fin (p14 : Bool) : St := ⟨(up (fun _ => .un) 4 (.d (.bool p14))), (hB fun _ => 0)⟩
theorem f35_out (p14 : Bool) : outR (f35_fin p14) 0 c35.res = some ((.d (.bool p14)), []) := by
  kernel_rfl
def f35_Q (r : Bool) (e : PX) (st : St) : Prop := DoneF c35 0 ((.d (.bool r)), []) e st
def f35_l1_J (a1 : List Int) (a2 : List Int) (x : Int) : St := ⟨(up (up (up (up (fun _ => .un) 13 (.d (.int .i64 x))) 12 (.d (.int .i64 (a1.length : Int)))) 1 (.d (.sl a2.length ((eInt .i64).cells a2)))) 0 (.d (.sl a1.length ((eInt .i64).cells a1)))), (hB fun _ => 0)⟩
def f35_l1_H (a1 : List Int) (a2 : List Int) (x : Int) (st : St) : Prop := keepSt [0, 1, 12, 13] [] [] st = f35_l1_J a1 a2 x
def f35_l1_e0_J (a1 : List Int) (a2 : List Int) : St := ⟨(fun _ => .un), (hB fun _ => 0)⟩
def f35_l1_X (a1 : List Int) (a2 : List Int) (z : Unit ⊕ Bool) (e : PX) (st : St) : Prop := (match z with | .inl z => e = .exit 0 ∧ st = f35_l1_e0_J a1 a2 | .inr z => e = .ret ∧ finSt c35.fin st = f35_fin z)
def f35_l1_j3_J (a1 : List Int) (a2 : List Int) (p20 : Int) : St := ⟨(up (up (up (up (fun _ => .un) 13 (.d (.int .i64 p20))) 12 (.d (.int .i64 (a1.length : Int)))) 1 (.d (.sl a2.length ((eInt .i64).cells a2)))) 0 (.d (.sl a1.length ((eInt .i64).cells a1)))), (hB fun _ => 0)⟩
noncomputable def f35_l1_j3 (a1 : List Int) (a2 : List Int) (p20 : Int) : Option (Int ⊕ (Unit ⊕ Bool)) := ((idx a1 p20).bind fun z7 => ((idx a2 p20).bind fun z8 => (bif (!decide (z7 = z8)) then (some (.inr (.inr false))) else (some (.inl (IntKind.i64.wrap (p20 + 1)))))))
theorem f35_l1_j3_ok {d : Nat} (hd : 1 ≤ d) (a1 : List Int) (a2 : List Int) {r : Int ⊕ (Unit ⊕ Bool)} {Q : PX → St → Prop} (hQ : ∀ e st', finL (f35_l1_H a1 a2) (f35_l1_X a1 a2) r e st' → Q e st') (p20 : Int) (hS : f35_l1_j3 a1 a2 p20 = some r) {st : St} (he : keepSt [0, 1, 12, 13] [] [] st = f35_l1_j3_J a1 a2 p20) : ZR (lev codes baseL (d - 1)) Q c35_1 [] st := by
  refine zrKeep he ?_
  unfold f35_l1_j3 at hS
  refine zrSeq ?_
  refine zrBlk ?_
  refine zrSeq ?_
  refine zrReg ?_
  refine zlRun (n := 2) (j := 2) rfl (by kernel_rfl) ?_
  refine zlEnd (by kernel_rfl) ?_
  refine zkSeq ?_
  refine zrSeq ?_
  refine zrRegD ?_
  refine zdRun (n := 2) (j := 2) (ts := [[], []]) (acc' := [[], []]) rfl (by kernel_rfl) (by kernel_rfl) (by kernel_rfl) ?_
  refine bindE hS (fun z7 hz7 hS => ?_)
  refine zdOp (d := some 18) (op := (.ixS 3 1 (.tmp 16) (.tmp 17))) (g := none) (v := (.rptr ((eInt .i64).enc z7 ++ ((eInt .i64).cells (a1.drop ((p20 : Int).toNat + 1)))))) (ups := []) (j := 3) (t1 := []) (acc' := [[], [], []]) (by kernel_rfl) (by kernel_rfl) rfl (by kernel_rfl) (by kernel_rfl) (ev_ixS (eInt .i64) (kk := .i64) (xs := a1) (j := p20) (by kernel_rfl) (by kernel_rfl) hz7 rfl (by intro h; cases h)) ?_
  refine zdRun (n := 3) (j := 6) (ts := [[], [], []]) (acc' := [[], [], [], [], [], []]) rfl (by kernel_rfl) (by kernel_rfl) (by kernel_rfl) ?_
  refine bindE hS (fun z8 hz8 hS => ?_)
  refine zdOp (d := some 22) (op := (.ixS 3 1 (.tmp 20) (.tmp 21))) (g := none) (v := (.rptr ((eInt .i64).enc z8 ++ ((eInt .i64).cells (a2.drop ((p20 : Int).toNat + 1)))))) (ups := []) (j := 7) (t1 := []) (acc' := [[], [], [], [], [], [], []]) (by kernel_rfl) (by kernel_rfl) rfl (by kernel_rfl) (by kernel_rfl) (ev_ixS (eInt .i64) (kk := .i64) (xs := a2) (j := p20) (by kernel_rfl) (by kernel_rfl) hz8 rfl (by intro h; cases h)) ?_
  refine zdRun (n := 1) (j := 8) (ts := [[]]) (acc' := [[], [], [], [], [], [], [], []]) rfl (by kernel_rfl) (by kernel_rfl) (by kernel_rfl) ?_
  refine zdBool (d := 24) (op := (.cmpI .neq (.tmp 19) (.tmp 23))) (g := none) (j := 9) (t1 := []) (acc' := [[], [], [], [], [], [], [], [], []]) (!decide (z7 = z8)) (by kernel_rfl) (by kernel_rfl) rfl (by kernel_rfl) (by kernel_rfl) (by kernel_rfl) (fun hc => ?_) (fun hc => ?_)
  · replace hS := cond_t hc hS
    refine zdEnd (by kernel_rfl) (by kernel_rfl) ?_
    refine zkSeq ?_
    refine zrCondT (by kernel_rfl) ?_
    refine zrSeq ?_
    refine zrReg ?_
    refine zlRun (n := 1) (j := 1) rfl (by kernel_rfl) ?_
    refine zlEnd (by kernel_rfl) ?_
    refine zkSeq ?_
    refine zrRet ?_
    refine zkBlkR ?_
    refine zkSeqR ?_
    refine zkNil ?_
    exact endQ hS hQ (finL_x (by intro h; cases h) (by show _ = _ ∧ _ = _; exact ⟨rfl, by kernel_rfl⟩))
  · replace hS := cond_f hc hS
    refine zdEnd (by kernel_rfl) (by kernel_rfl) ?_
    refine zkSeq ?_
    refine zrCondF (by kernel_rfl) ?_
    refine zrSkip ?_
    refine zkBlk ?_
    refine zkSeq ?_
    refine zrReg ?_
    refine zlRun (n := 2) (j := 2) rfl (by kernel_rfl) ?_
    refine zlEnd (by kernel_rfl) ?_
    refine zkNil ?_
    exact endQ hS hQ (finL_n (by show keepSt _ _ _ _ = _; kernel_rfl))
def f35_l1_j2_J (a1 : List Int) (a2 : List Int) (p18 : Int) (p19 : Bool) : St := ⟨(up (up (up (up (up (fun _ => .un) 14 (.d (.bool p19))) 13 (.d (.int .i64 p18))) 12 (.d (.int .i64 (a1.length : Int)))) 1 (.d (.sl a2.length ((eInt .i64).cells a2)))) 0 (.d (.sl a1.length ((eInt .i64).cells a1)))), (hB fun _ => 0)⟩
noncomputable def f35_l1_j2 (a1 : List Int) (a2 : List Int) (p18 : Int) (p19 : Bool) : Option (Int ⊕ (Unit ⊕ Bool)) := (bif p19 then (f35_l1_j3 a1 a2 p18) else (some (.inr (.inl ()))))
theorem f35_l1_j2_ok {d : Nat} (hd : 1 ≤ d) (a1 : List Int) (a2 : List Int) {r : Int ⊕ (Unit ⊕ Bool)} {Q : PX → St → Prop} (hQ : ∀ e st', finL (f35_l1_H a1 a2) (f35_l1_X a1 a2) r e st' → Q e st') (p18 : Int) (p19 : Bool) (hS : f35_l1_j2 a1 a2 p18 p19 = some r) {st : St} (he : keepSt [0, 1, 12, 13, 14] [] [] st = f35_l1_j2_J a1 a2 p18 p19) : ZR (lev codes baseL (d - 1)) Q c35_2 [] st := by
  refine zrKeep he ?_
  unfold f35_l1_j2 at hS
  refine zrSeq ?_
  refine zrSplit 14 p19 (by kernel_rfl) (fun hc => ?_) (fun hc => ?_)
  · replace hS := cond_t hc hS
    refine zrCondT (by kernel_rfl) ?_
    refine zrSkip ?_
    refine zkSeq ?_
    exact f35_l1_j3_ok hd a1 a2 hQ p18 hS (by kernel_rfl)
  · replace hS := cond_f hc hS
    refine zrCondF (by kernel_rfl) ?_
    refine zrKeep (J := f35_l1_e0_J a1 a2) (by kernel_rfl) ?_
    refine zrExit ?_
    refine zkSeqX ?_
    refine zkNil ?_
    exact endQ hS hQ (finL_x (by intro h; cases h) (by show _ = _ ∧ _ = _; exact ⟨rfl, rfl⟩))
noncomputable def f35_l1 (a1 : List Int) (a2 : List Int) (x : Int) : Option (Int ⊕ (Unit ⊕ Bool)) := (bif (decide (x < (a1.length : Int))) then (f35_l1_j2 a1 a2 x true) else (f35_l1_j2 a1 a2 x false))
theorem f35_l1_ok {d : Nat} (hd : 1 ≤ d) (a1 : List Int) (a2 : List Int) {r : Int ⊕ (Unit ⊕ Bool)} {Q : PX → St → Prop} (hQ : ∀ e st', finL (f35_l1_H a1 a2) (f35_l1_X a1 a2) r e st' → Q e st') {x : Int} (hS : f35_l1 a1 a2 x = some r) {st : St} (he : f35_l1_H a1 a2 x st) : ZR (lev codes baseL (d - 1)) Q c35_3 [] st := by
  refine zrKeep he ?_
  unfold f35_l1 at hS
  refine zrSeq ?_
  refine zrReg ?_
  refine zlBool (d := 14) (op := (.cmpI .lss (.tmp 13) (.tmp 12))) (g := none) (j := 1) (decide (x < (a1.length : Int))) rfl (by kernel_rfl) (by kernel_rfl) (by kernel_rfl) (fun hc => ?_) (fun hc => ?_)
  · replace hS := cond_t hc hS
    refine zlEnd (by kernel_rfl) ?_
    refine zkSeq ?_
    exact f35_l1_j2_ok hd a1 a2 hQ x true hS (by kernel_rfl)
  · replace hS := cond_f hc hS
    refine zlEnd (by kernel_rfl) ?_
    refine zkSeq ?_
    exact f35_l1_j2_ok hd a1 a2 hQ x false hS (by kernel_rfl)
def f35_j0_J (a1 : List Int) (a2 : List Int) : St := ⟨(up (up (fun _ => .un) 1 (.d (.sl a2.length ((eInt .i64).cells a2)))) 0 (.d (.sl a1.length ((eInt .i64).cells a1)))), (hB fun _ => 0)⟩
noncomputable def f35_j0 (a1 : List Int) (a2 : List Int) : Option (Bool) := ((loopO (f35_l1 a1 a2) 0).bind fun z9 => (Sum.elim (fun z10 => (some true)) (fun z11 => (some z11)) z9))
theorem f35_j0_ok {d : Nat} (hd : 1 ≤ d) (a1 : List Int) (a2 : List Int) {r : Bool} {Q : PX → St → Prop} (hQ : ∀ e st', f35_Q r e st' → Q e st')  (hS : f35_j0 a1 a2 = some r) {st : St} (he : keepSt [0, 1] [] [] st = f35_j0_J a1 a2) : ZR (lev codes baseL (d - 1)) Q c35_4 [] st := by
  refine zrKeep he ?_
  unfold f35_j0 at hS
  refine zrSeq ?_
  refine zrSeq ?_
  refine zrReg ?_
  refine zlRun (n := 3) (j := 3) rfl (by kernel_rfl) ?_
  refine zlEnd (by kernel_rfl) ?_
  refine zkSeq ?_
  refine zrBlk ?_
  refine bindE hS (fun z9 hz9 hS => ?_)
  refine zrLoop (f35_l1_H a1 a2) (f35_l1_X a1 a2) (fun x st r Q h0 hS hQ => f35_l1_ok hd a1 a2 hQ hS h0) (x := 0) (z := z9) (by show keepSt _ _ _ _ = _; kernel_rfl) hz9 ?_
  rcases z9 with z10 | z11
  · replace hS := (show _ = _ from hS)
    simp only [Sum.elim_inl] at hS
    intro e st' _ hX
    obtain ⟨rfl, rfl⟩ : _ ∧ _ := hX
    refine zkBlkX ?_
    refine zkSeq ?_
    refine zrSeq ?_
    refine zrReg ?_
    refine zlRun (n := 1) (j := 1) rfl (by kernel_rfl) ?_
    refine zlEnd (by kernel_rfl) ?_
    refine zkSeq ?_
    refine zrRet ?_
    refine zkNil ?_
    exact endQ hS hQ (fRet (by kernel_rfl) ((congrArg (fun s => outR s 0 c35.res) (by kernel_rfl : finSt c35.fin _ = f35_fin true)).trans (f35_out true)))
  · simp only [Sum.elim_inr] at hS
    intro e st' _ hX
    obtain ⟨rfl, hX⟩ : _ ∧ _ := hX
    refine zkBlkR ?_
    refine zkSeqR ?_
    refine zkNil ?_
    exact endQ hS hQ (fRet (by kernel_rfl) ((congrArg (fun s => outR s 0 c35.res) hX).trans (f35_out z11)))
noncomputable def f35 (a1 : List Int) (a2 : List Int) : Option (Bool) := (bif (!decide ((a1.length : Int) = (a2.length : Int))) then (some false) else (f35_j0 a1 a2 ))
theorem f35_ok (d : Nat) (hd : 1 ≤ d) (a1 : List Int) (a2 : List Int) (r : Bool) (hS : f35 a1 a2 = some r) : lev codes baseL d 35 [(.d (.sl a1.length ((eInt .i64).cells a1))), (.d (.sl a2.length ((eInt .i64).cells a2)))] [] = some ((.d (.bool r)), []) := by
  refine lev_go codes35 rfl rfl (Nat.le_trans (Nat.le_of_ble_eq_true rfl) hd) fun Q hQ => ?_
  unfold f35 at hS
  show ZR _ Q c35_b [] _
  replace hQ : ∀ e st', f35_Q r e st' → Q e st' := hQ
  refine zrSeq ?_
  refine zrReg ?_
  refine zlRun (n := 1) (j := 1) rfl (by kernel_rfl) ?_
  refine zlEnd (by kernel_rfl) ?_
  refine zkSeq ?_
  refine zrSeq ?_
  refine zrSeq ?_
  refine zrReg ?_
  refine zlRun (n := 4) (j := 4) rfl (by kernel_rfl) ?_
  refine zlBool (d := 10) (op := (.cmpI .neq (.tmp 7) (.tmp 9))) (g := none) (j := 5) (!decide ((a1.length : Int) = (a2.length : Int))) rfl (by kernel_rfl) (by kernel_rfl) (by kernel_rfl) (fun hc => ?_) (fun hc => ?_)
  · replace hS := cond_t hc hS
    refine zlEnd (by kernel_rfl) ?_
    refine zkSeq ?_
    refine zrCondT (by kernel_rfl) ?_
    refine zrSeq ?_
    refine zrReg ?_
    refine zlRun (n := 1) (j := 1) rfl (by kernel_rfl) ?_
    refine zlEnd (by kernel_rfl) ?_
    refine zkSeq ?_
    refine zrRet ?_
    refine zkSeqR ?_
    refine zkNil ?_
    exact endQ hS hQ (fRet (by kernel_rfl) ((congrArg (fun s => outR s 0 c35.res) (by kernel_rfl : finSt c35.fin _ = f35_fin false)).trans (f35_out false)))
  · replace hS := cond_f hc hS
    refine zlEnd (by kernel_rfl) ?_
    refine zkSeq ?_
    refine zrCondF (by kernel_rfl) ?_
    refine zrSkip ?_
    refine zkSeq ?_
    exact f35_j0_ok hd a1 a2 hQ  hS (by kernel_rfl)
/- farwriter/farref.SameAct -/
def f20_fin (p6 : Bool) : St := ⟨(up (fun _ => .un) 4 (.d (.bool p6))), (hB fun _ => 0)⟩
theorem f20_out (p6 : Bool) : outR (f20_fin p6) 0 c20.res = some ((.d (.bool p6)), []) := by
  kernel_rfl
def f20_Q (r : Bool) (e : PX) (st : St) : Prop := DoneF c20 0 ((.d (.bool r)), []) e st
noncomputable def f20 (a1 : GAct) (a2 : GAct) : Option (Bool) := (bif (decide (a1.Kind = a2.Kind)) then (bif (decide (a1.Code = a2.Code)) then (bif (decide (a1.Mark = a2.Mark)) then (bif (decide (a1.Inter = a2.Inter)) then (bif (decide (a1.Text = a2.Text)) then ((f35 a1.Args a2.Args).bind fun z2 => (some z2)) else (some false)) else (some false)) else (some false)) else (some false)) else (some false))
theorem f20_ok (d : Nat) (hd : 2 ≤ d) (a1 : GAct) (a2 : GAct) (r : Bool) (hS : f20 a1 a2 = some r) : lev codes baseL d 20 [(.agg ((.d (.int .i64 a1.Kind)) :: ((.d (.int .i64 a1.Code)) :: ((.d (.int .i64 a1.Mark)) :: ((.d (.str a1.Inter)) :: ((.d (.sl a1.Args.length ((eInt .i64).cells a1.Args))) :: ((.d (.str a1.Text)) :: []))))))), (.agg ((.d (.int .i64 a2.Kind)) :: ((.d (.int .i64 a2.Code)) :: ((.d (.int .i64 a2.Mark)) :: ((.d (.str a2.Inter)) :: ((.d (.sl a2.Args.length ((eInt .i64).cells a2.Args))) :: ((.d (.str a2.Text)) :: [])))))))] [] = some ((.d (.bool r)), []) := by
  refine lev_go codes20 rfl rfl (Nat.le_trans (Nat.le_of_ble_eq_true rfl) hd) fun Q hQ => ?_
  unfold f20 at hS
  show ZR _ Q c20_b [] _
  replace hQ : ∀ e st', f20_Q r e st' → Q e st' := hQ
  refine zrSeq ?_
  refine zrReg ?_
  refine zlRun (n := 3) (j := 3) rfl (by kernel_rfl) ?_
  refine zlEnd (by kernel_rfl) ?_
  refine zkSeq ?_
  refine zrSeq ?_
  refine zrReg ?_
  refine zlRun (n := 4) (j := 4) rfl (by kernel_rfl) ?_
  refine zlBool (d := 9) (op := (.cmpI .eql (.tmp 6) (.tmp 8))) (g := none) (j := 5) (decide (a1.Kind = a2.Kind)) rfl (by kernel_rfl) (by kernel_rfl) (by kernel_rfl) (fun hc => ?_) (fun hc => ?_)
  · replace hS := cond_t hc hS
    refine zlRun (n := 5) (j := 10) rfl (by kernel_rfl) ?_
    refine zlBool (d := 15) (op := (.cmpI .eql (.tmp 12) (.tmp 14))) (g := (some (10, true))) (j := 11) (decide (a1.Code = a2.Code)) rfl (by kernel_rfl) (by kernel_rfl) (by kernel_rfl) (fun hc => ?_) (fun hc => ?_)
    · replace hS := cond_t hc hS
      refine zlRun (n := 6) (j := 17) rfl (by kernel_rfl) ?_
      refine zlBool (d := 22) (op := (.cmpI .eql (.tmp 19) (.tmp 21))) (g := (some (17, true))) (j := 18) (decide (a1.Mark = a2.Mark)) rfl (by kernel_rfl) (by kernel_rfl) (by kernel_rfl) (fun hc => ?_) (fun hc => ?_)
      · replace hS := cond_t hc hS
        refine zlRun (n := 6) (j := 24) rfl (by kernel_rfl) ?_
        refine zlBool (d := 29) (op := (.strO .eql (.tmp 26) (.tmp 28))) (g := (some (24, true))) (j := 25) (decide (a1.Inter = a2.Inter)) rfl (by kernel_rfl) (by kernel_rfl) (by kernel_rfl) (fun hc => ?_) (fun hc => ?_)
        · replace hS := cond_t hc hS
          refine zlRun (n := 6) (j := 31) rfl (by kernel_rfl) ?_
          refine zlBool (d := 36) (op := (.strO .eql (.tmp 33) (.tmp 35))) (g := (some (31, true))) (j := 32) (decide (a1.Text = a2.Text)) rfl (by kernel_rfl) (by kernel_rfl) (by kernel_rfl) (fun hc => ?_) (fun hc => ?_)
          · replace hS := cond_t hc hS
            refine zlRun (n := 6) (j := 38) rfl (by kernel_rfl) ?_
            refine bindE hS (fun z2 hz2 hS => ?_)
            refine zlOp (d := some 43) (op := (.call 35 [(.tmp 40), (.tmp 42)])) (g := (some (38, true))) (j := 39) rfl (by kernel_rfl) (by kernel_rfl) (ev_callA (by kernel_rfl) (f35_ok (d - 1) (dpt hd rfl) a1.Args a2.Args z2 hz2) (by kernel_rfl) (by kernel_rfl)) ?_
            refine zlRun (n := 2) (j := 41) rfl (by kernel_rfl) ?_
            refine zlEnd (by kernel_rfl) ?_
            refine zkSeq ?_
            refine zrRet ?_
            refine zkNil ?_
            exact endQ hS hQ (fRet (by kernel_rfl) ((congrArg (fun s => outR s 0 c20.res) (by kernel_rfl : finSt c20.fin _ = f20_fin z2)).trans (f20_out z2)))
          · replace hS := cond_f hc hS
            refine zlRun (n := 9) (j := 41) rfl (by kernel_rfl) ?_
            refine zlEnd (by kernel_rfl) ?_
            refine zkSeq ?_
            refine zrRet ?_
            refine zkNil ?_
            exact endQ hS hQ (fRet (by kernel_rfl) ((congrArg (fun s => outR s 0 c20.res) (by kernel_rfl : finSt c20.fin _ = f20_fin false)).trans (f20_out false)))
        · replace hS := cond_f hc hS
          refine zlRun (n := 16) (j := 41) rfl (by kernel_rfl) ?_
          refine zlEnd (by kernel_rfl) ?_
          refine zkSeq ?_
          refine zrRet ?_
          refine zkNil ?_
          exact endQ hS hQ (fRet (by kernel_rfl) ((congrArg (fun s => outR s 0 c20.res) (by kernel_rfl : finSt c20.fin _ = f20_fin false)).trans (f20_out false)))
      · replace hS := cond_f hc hS
        refine zlRun (n := 23) (j := 41) rfl (by kernel_rfl) ?_
        refine zlEnd (by kernel_rfl) ?_
        refine zkSeq ?_
        refine zrRet ?_
        refine zkNil ?_
        exact endQ hS hQ (fRet (by kernel_rfl) ((congrArg (fun s => outR s 0 c20.res) (by kernel_rfl : finSt c20.fin _ = f20_fin false)).trans (f20_out false)))
    · replace hS := cond_f hc hS
      refine zlRun (n := 30) (j := 41) rfl (by kernel_rfl) ?_
      refine zlEnd (by kernel_rfl) ?_
      refine zkSeq ?_
      refine zrRet ?_
      refine zkNil ?_
      exact endQ hS hQ (fRet (by kernel_rfl) ((congrArg (fun s => outR s 0 c20.res) (by kernel_rfl : finSt c20.fin _ = f20_fin false)).trans (f20_out false)))
  · replace hS := cond_f hc hS
    refine zlRun (n := 36) (j := 41) rfl (by kernel_rfl) ?_
    refine zlEnd (by kernel_rfl) ?_
    refine zkSeq ?_
    refine zrRet ?_
    refine zkNil ?_
    exact endQ hS hQ (fRet (by kernel_rfl) ((congrArg (fun s => outR s 0 c20.res) (by kernel_rfl : finSt c20.fin _ = f20_fin false)).trans (f20_out false)))
/- slices.EqualFunc[[]farwriter/api.Act,[]farwriter/api.Act,farwriter/api.Act,farwriter/api.Act] -/
def f19_fin (p9 : Bool) : St := ⟨(up (fun _ => .un) 6 (.d (.bool p9))), (hB fun _ => 0)⟩
theorem f19_out (p9 : Bool) : outR (f19_fin p9) 0 c19.res = some ((.d (.bool p9)), []) := by
  kernel_rfl
def f19_Q (r : Bool) (e : PX) (st : St) : Prop := DoneF c19 0 ((.d (.bool r)), []) e st
def f19_l1_J (a1 : List GAct) (a2 : List GAct) (x : Int) : St := ⟨(up (up (up (up (up (fun _ => .un) 17 (.d (.int .i64 x))) 16 (.d (.int .i64 (a1.length : Int)))) 15 (.d (.sl a1.length (e_GAct.cells a1)))) 2 (.fn 20 [])) 1 (.d (.sl a2.length (e_GAct.cells a2)))), (hB fun _ => 0)⟩
def f19_l1_H (a1 : List GAct) (a2 : List GAct) (x : Int) (st : St) : Prop := keepSt [1, 2, 15, 16, 17] [] [] st = f19_l1_J a1 a2 x
def f19_l1_e0_J (a1 : List GAct) (a2 : List GAct) : St := ⟨(fun _ => .un), (hB fun _ => 0)⟩
def f19_l1_X (a1 : List GAct) (a2 : List GAct) (z : Unit ⊕ Bool) (e : PX) (st : St) : Prop := (match z with | .inl z => e = .exit 0 ∧ st = f19_l1_e0_J a1 a2 | .inr z => e = .ret ∧ finSt c19.fin st = f19_fin z)
def f19_l1_j3_J (a1 : List GAct) (a2 : List GAct) (p15 : Int) : St := ⟨(up (up (up (up (up (fun _ => .un) 17 (.d (.int .i64 p15))) 16 (.d (.int .i64 (a1.length : Int)))) 15 (.d (.sl a1.length (e_GAct.cells a1)))) 2 (.fn 20 [])) 1 (.d (.sl a2.length (e_GAct.cells a2)))), (hB fun _ => 0)⟩
noncomputable def f19_l1_j3 (a1 : List GAct) (a2 : List GAct) (p15 : Int) : Option (Int ⊕ (Unit ⊕ Bool)) := ((idx a1 p15).bind fun z10 => ((idx a2 p15).bind fun z11 => ((f20 z10 z11).bind fun z12 => (bif (!z12) then (some (.inr (.inr false))) else (some (.inl (IntKind.i64.wrap (p15 + 1))))))))
theorem f19_l1_j3_ok {d : Nat} (hd : 3 ≤ d) (a1 : List GAct) (a2 : List GAct) {r : Int ⊕ (Unit ⊕ Bool)} {Q : PX → St → Prop} (hQ : ∀ e st', finL (f19_l1_H a1 a2) (f19_l1_X a1 a2) r e st' → Q e st') (p15 : Int) (hS : f19_l1_j3 a1 a2 p15 = some r) {st : St} (he : keepSt [1, 2, 15, 16, 17] [] [] st = f19_l1_j3_J a1 a2 p15) : ZR (lev codes baseL (d - 1)) Q c19_1 [] st := by
  refine zrKeep he ?_
  unfold f19_l1_j3 at hS
  refine zrSeq ?_
  refine zrBlk ?_
  refine zrSeq ?_
  refine zrReg ?_
  refine zlRun (n := 1) (j := 1) rfl (by kernel_rfl) ?_
  refine bindE hS (fun z10 hz10 hS => ?_)
  refine zlOp (d := some 20) (op := (.ixS 25 6 (.tmp 15) (.tmp 17))) (g := none) (v := (.rptr (e_GAct.enc z10 ++ (e_GAct.cells (a1.drop ((p15 : Int).toNat + 1)))))) (ups := []) (j := 2) rfl (by kernel_rfl) (by kernel_rfl) (ev_ixS e_GAct (kk := .i64) (xs := a1) (j := p15) (by kernel_rfl) (by kernel_rfl) hz10 rfl (by intro h; cases h)) ?_
  refine zlRun (n := 4) (j := 6) rfl (by kernel_rfl) ?_
  refine zlEnd (by kernel_rfl) ?_
  refine zkSeq ?_
  refine zrSeq ?_
  refine zrReg ?_
  refine zlRun (n := 2) (j := 2) rfl (by kernel_rfl) ?_
  refine bindE hS (fun z11 hz11 hS => ?_)
  refine zlOp (d := some 24) (op := (.ixS 25 6 (.tmp 22) (.tmp 23))) (g := none) (v := (.rptr (e_GAct.enc z11 ++ (e_GAct.cells (a2.drop ((p15 : Int).toNat + 1)))))) (ups := []) (j := 3) rfl (by kernel_rfl) (by kernel_rfl) (ev_ixS e_GAct (kk := .i64) (xs := a2) (j := p15) (by kernel_rfl) (by kernel_rfl) hz11 rfl (by intro h; cases h)) ?_
  refine zlRun (n := 3) (j := 6) rfl (by kernel_rfl) ?_
  refine zlEnd (by kernel_rfl) ?_
  refine zkSeq ?_
  refine zrSeq ?_
  refine zrReg ?_
  refine zlRun (n := 3) (j := 3) rfl (by kernel_rfl) ?_
  refine bindE hS (fun z12 hz12 hS => ?_)
  refine zlOp (d := some 29) (op := (.callv (.tmp 26) [(.tmp 27), (.tmp 28)])) (g := none) (v := (.d (.bool z12))) (ups := []) (j := 4) rfl (by kernel_rfl) (by kernel_rfl) (ev_callv (f := 20) (cs := []) (by kernel_rfl) (args := [(.agg ((.d (.int .i64 z10.Kind)) :: ((.d (.int .i64 z10.Code)) :: ((.d (.int .i64 z10.Mark)) :: ((.d (.str z10.Inter)) :: ((.d (.sl z10.Args.length ((eInt .i64).cells z10.Args))) :: ((.d (.str z10.Text)) :: []))))))), (.agg ((.d (.int .i64 z11.Kind)) :: ((.d (.int .i64 z11.Code)) :: ((.d (.int .i64 z11.Mark)) :: ((.d (.str z11.Inter)) :: ((.d (.sl z11.Args.length ((eInt .i64).cells z11.Args))) :: ((.d (.str z11.Text)) :: [])))))))]) (l := [(.agg ((.d (.int .i64 z10.Kind)) :: ((.d (.int .i64 z10.Code)) :: ((.d (.int .i64 z10.Mark)) :: ((.d (.str z10.Inter)) :: ((.d (.sl z10.Args.length ((eInt .i64).cells z10.Args))) :: ((.d (.str z10.Text)) :: []))))))), (.agg ((.d (.int .i64 z11.Kind)) :: ((.d (.int .i64 z11.Code)) :: ((.d (.int .i64 z11.Mark)) :: ((.d (.str z11.Inter)) :: ((.d (.sl z11.Args.length ((eInt .i64).cells z11.Args))) :: ((.d (.str z11.Text)) :: [])))))))]) (r := (.d (.bool z12))) (by kernel_rfl) (by kernel_rfl) (f20_ok (d - 1) (dpt hd rfl) z10 z11 z12 hz12) (by kernel_rfl) (by kernel_rfl) (by kernel_rfl)) ?_
  refine zlRun (n := 1) (j := 5) rfl (by kernel_rfl) ?_
  refine zlEnd (by kernel_rfl) ?_
  refine zkSeq ?_
  refine zrSplit 30 (!z12) (by kernel_rfl) (fun hc => ?_) (fun hc => ?_)
  · replace hS := cond_t hc hS
    refine zrCondT (by kernel_rfl) ?_
    refine zrSeq ?_
    refine zrReg ?_
    refine zlRun (n := 1) (j := 1) rfl (by kernel_rfl) ?_
    refine zlEnd (by kernel_rfl) ?_
    refine zkSeq ?_
    refine zrRet ?_
    refine zkBlkR ?_
    refine zkSeqR ?_
    refine zkNil ?_
    exact endQ hS hQ (finL_x (by intro h; cases h) (by show _ = _ ∧ _ = _; exact ⟨rfl, by kernel_rfl⟩))
  · replace hS := cond_f hc hS
    refine zrCondF (by kernel_rfl) ?_
    refine zrSkip ?_
    refine zkBlk ?_
    refine zkSeq ?_
    refine zrReg ?_
    refine zlRun (n := 2) (j := 2) rfl (by kernel_rfl) ?_
    refine zlEnd (by kernel_rfl) ?_
    refine zkNil ?_
    exact endQ hS hQ (finL_n (by show keepSt _ _ _ _ = _; kernel_rfl))
def f19_l1_j2_J (a1 : List GAct) (a2 : List GAct) (p13 : Int) (p14 : Bool) : St := ⟨(up (up (up (up (up (up (fun _ => .un) 18 (.d (.bool p14))) 17 (.d (.int .i64 p13))) 16 (.d (.int .i64 (a1.length : Int)))) 15 (.d (.sl a1.length (e_GAct.cells a1)))) 2 (.fn 20 [])) 1 (.d (.sl a2.length (e_GAct.cells a2)))), (hB fun _ => 0)⟩
noncomputable def f19_l1_j2 (a1 : List GAct) (a2 : List GAct) (p13 : Int) (p14 : Bool) : Option (Int ⊕ (Unit ⊕ Bool)) := (bif p14 then (f19_l1_j3 a1 a2 p13) else (some (.inr (.inl ()))))
theorem f19_l1_j2_ok {d : Nat} (hd : 3 ≤ d) (a1 : List GAct) (a2 : List GAct) {r : Int ⊕ (Unit ⊕ Bool)} {Q : PX → St → Prop} (hQ : ∀ e st', finL (f19_l1_H a1 a2) (f19_l1_X a1 a2) r e st' → Q e st') (p13 : Int) (p14 : Bool) (hS : f19_l1_j2 a1 a2 p13 p14 = some r) {st : St} (he : keepSt [1, 2, 15, 16, 17, 18] [] [] st = f19_l1_j2_J a1 a2 p13 p14) : ZR (lev codes baseL (d - 1)) Q c19_2 [] st := by
  refine zrKeep he ?_
  unfold f19_l1_j2 at hS
  refine zrSeq ?_
  refine zrSplit 18 p14 (by kernel_rfl) (fun hc => ?_) (fun hc => ?_)
  · replace hS := cond_t hc hS
    refine zrCondT (by kernel_rfl) ?_
    refine zrSkip ?_
    refine zkSeq ?_
    exact f19_l1_j3_ok hd a1 a2 hQ p13 hS (by kernel_rfl)
  · replace hS := cond_f hc hS
    refine zrCondF (by kernel_rfl) ?_
    refine zrKeep (J := f19_l1_e0_J a1 a2) (by kernel_rfl) ?_
    refine zrExit ?_
    refine zkSeqX ?_
    refine zkNil ?_
    exact endQ hS hQ (finL_x (by intro h; cases h) (by show _ = _ ∧ _ = _; exact ⟨rfl, rfl⟩))
noncomputable def f19_l1 (a1 : List GAct) (a2 : List GAct) (x : Int) : Option (Int ⊕ (Unit ⊕ Bool)) := (bif (decide (x < (a1.length : Int))) then (f19_l1_j2 a1 a2 x true) else (f19_l1_j2 a1 a2 x false))
theorem f19_l1_ok {d : Nat} (hd : 3 ≤ d) (a1 : List GAct) (a2 : List GAct) {r : Int ⊕ (Unit ⊕ Bool)} {Q : PX → St → Prop} (hQ : ∀ e st', finL (f19_l1_H a1 a2) (f19_l1_X a1 a2) r e st' → Q e st') {x : Int} (hS : f19_l1 a1 a2 x = some r) {st : St} (he : f19_l1_H a1 a2 x st) : ZR (lev codes baseL (d - 1)) Q c19_3 [] st := by
  refine zrKeep he ?_
  unfold f19_l1 at hS
  refine zrSeq ?_
  refine zrReg ?_
  refine zlBool (d := 18) (op := (.cmpI .lss (.tmp 17) (.tmp 16))) (g := none) (j := 1) (decide (x < (a1.length : Int))) rfl (by kernel_rfl) (by kernel_rfl) (by kernel_rfl) (fun hc => ?_) (fun hc => ?_)
  · replace hS := cond_t hc hS
    refine zlEnd (by kernel_rfl) ?_
    refine zkSeq ?_
    exact f19_l1_j2_ok hd a1 a2 hQ x true hS (by kernel_rfl)
  · replace hS := cond_f hc hS
    refine zlEnd (by kernel_rfl) ?_
    refine zkSeq ?_
    exact f19_l1_j2_ok hd a1 a2 hQ x false hS (by kernel_rfl)
def f19_j0_J (a1 : List GAct) (a2 : List GAct) : St := ⟨(up (up (up (fun _ => .un) 2 (.fn 20 [])) 1 (.d (.sl a2.length (e_GAct.cells a2)))) 0 (.d (.sl a1.length (e_GAct.cells a1)))), (hB fun _ => 0)⟩
noncomputable def f19_j0 (a1 : List GAct) (a2 : List GAct) : Option (Bool) := ((loopO (f19_l1 a1 a2) 0).bind fun z13 => (Sum.elim (fun z14 => (some true)) (fun z15 => (some z15)) z13))
theorem f19_j0_ok {d : Nat} (hd : 3 ≤ d) (a1 : List GAct) (a2 : List GAct) {r : Bool} {Q : PX → St → Prop} (hQ : ∀ e st', f19_Q r e st' → Q e st')  (hS : f19_j0 a1 a2 = some r) {st : St} (he : keepSt [0, 1, 2] [] [] st = f19_j0_J a1 a2) : ZR (lev codes baseL (d - 1)) Q c19_4 [] st := by
  refine zrKeep he ?_
  unfold f19_j0 at hS
  refine zrSeq ?_
  refine zrSeq ?_
  refine zrReg ?_
  refine zlRun (n := 3) (j := 3) rfl (by kernel_rfl) ?_
  refine zlEnd (by kernel_rfl) ?_
  refine zkSeq ?_
  refine zrBlk ?_
  refine bindE hS (fun z13 hz13 hS => ?_)
  refine zrLoop (f19_l1_H a1 a2) (f19_l1_X a1 a2) (fun x st r Q h0 hS hQ => f19_l1_ok hd a1 a2 hQ hS h0) (x := 0) (z := z13) (by show keepSt _ _ _ _ = _; kernel_rfl) hz13 ?_
  rcases z13 with z14 | z15
  · replace hS := (show _ = _ from hS)
    simp only [Sum.elim_inl] at hS
    intro e st' _ hX
    obtain ⟨rfl, rfl⟩ : _ ∧ _ := hX
    refine zkBlkX ?_
    refine zkSeq ?_
    refine zrSeq ?_
    refine zrReg ?_
    refine zlRun (n := 1) (j := 1) rfl (by kernel_rfl) ?_
    refine zlEnd (by kernel_rfl) ?_
    refine zkSeq ?_
    refine zrRet ?_
    refine zkNil ?_
    exact endQ hS hQ (fRet (by kernel_rfl) ((congrArg (fun s => outR s 0 c19.res) (by kernel_rfl : finSt c19.fin _ = f19_fin true)).trans (f19_out true)))
  · simp only [Sum.elim_inr] at hS
    intro e st' _ hX
    obtain ⟨rfl, hX⟩ : _ ∧ _ := hX
    refine zkBlkR ?_
    refine zkSeqR ?_
    refine zkNil ?_
    exact endQ hS hQ (fRet (by kernel_rfl) ((congrArg (fun s => outR s 0 c19.res) hX).trans (f19_out z15)))
noncomputable def f19 (a1 : List GAct) (a2 : List GAct) : Option (Bool) := (bif (!decide ((a1.length : Int) = (a2.length : Int))) then (some false) else (f19_j0 a1 a2 ))
theorem f19_ok (d : Nat) (hd : 3 ≤ d) (a1 : List GAct) (a2 : List GAct) (r : Bool) (hS : f19 a1 a2 = some r) : lev codes baseL d 19 [(.d (.sl a1.length (e_GAct.cells a1))), (.d (.sl a2.length (e_GAct.cells a2))), (.fn 20 [])] [] = some ((.d (.bool r)), []) := by
  refine lev_go codes19 rfl rfl (Nat.le_trans (Nat.le_of_ble_eq_true rfl) hd) fun Q hQ => ?_
  unfold f19 at hS
  show ZR _ Q c19_b [] _
  replace hQ : ∀ e st', f19_Q r e st' → Q e st' := hQ
  refine zrSeq ?_
  refine zrReg ?_
  refine zlRun (n := 1) (j := 1) rfl (by kernel_rfl) ?_
  refine zlEnd (by kernel_rfl) ?_
  refine zkSeq ?_
  refine zrSeq ?_
  refine zrSeq ?_
  refine zrReg ?_
  refine zlRun (n := 4) (j := 4) rfl (by kernel_rfl) ?_
  refine zlBool (d := 14) (op := (.cmpI .neq (.tmp 11) (.tmp 13))) (g := none) (j := 5) (!decide ((a1.length : Int) = (a2.length : Int))) rfl (by kernel_rfl) (by kernel_rfl) (by kernel_rfl) (fun hc => ?_) (fun hc => ?_)
  · replace hS := cond_t hc hS
    refine zlEnd (by kernel_rfl) ?_
    refine zkSeq ?_
    refine zrCondT (by kernel_rfl) ?_
    refine zrSeq ?_
    refine zrReg ?_
    refine zlRun (n := 1) (j := 1) rfl (by kernel_rfl) ?_
    refine zlEnd (by kernel_rfl) ?_
    refine zkSeq ?_
    refine zrRet ?_
    refine zkSeqR ?_
    refine zkNil ?_
    exact endQ hS hQ (fRet (by kernel_rfl) ((congrArg (fun s => outR s 0 c19.res) (by kernel_rfl : finSt c19.fin _ = f19_fin false)).trans (f19_out false)))
  · replace hS := cond_f hc hS
    refine zlEnd (by kernel_rfl) ?_
    refine zkSeq ?_
    refine zrCondF (by kernel_rfl) ?_
    refine zrSkip ?_
    refine zkSeq ?_
    exact f19_j0_ok hd a1 a2 hQ  hS (by kernel_rfl)
/- farwriter/farref.SameActs -/
def f7_fin (p1 : Bool) : St := ⟨(up (fun _ => .un) 4 (.d (.bool p1))), (hB fun _ => 0)⟩
theorem f7_out (p1 : Bool) : outR (f7_fin p1) 0 c7.res = some ((.d (.bool p1)), []) := by
  kernel_rfl
def f7_Q (r : Bool) (e : PX) (st : St) : Prop := DoneF c7 0 ((.d (.bool r)), []) e st
noncomputable def f7 (a1 : List GAct) (a2 : List GAct) : Option (Bool) := ((f19 a1 a2).bind fun z2 => (some z2))
theorem f7_ok (d : Nat) (hd : 4 ≤ d) (a1 : List GAct) (a2 : List GAct) (r : Bool) (hS : f7 a1 a2 = some r) : lev codes baseL d 7 [(.d (.sl a1.length (e_GAct.cells a1))), (.d (.sl a2.length (e_GAct.cells a2)))] [] = some ((.d (.bool r)), []) := by
  refine lev_go codes7 rfl rfl (Nat.le_trans (Nat.le_of_ble_eq_true rfl) hd) fun Q hQ => ?_
  unfold f7 at hS
  show ZR _ Q c7_b [] _
  replace hQ : ∀ e st', f7_Q r e st' → Q e st' := hQ
  refine zrSeq ?_
  refine zrReg ?_
  refine zlRun (n := 1) (j := 1) rfl (by kernel_rfl) ?_
  refine zlEnd (by kernel_rfl) ?_
  refine zkSeq ?_
  refine zrSeq ?_
  refine zrReg ?_
  refine zlRun (n := 2) (j := 2) rfl (by kernel_rfl) ?_
  refine bindE hS (fun z2 hz2 hS => ?_)
  refine zlOp (d := some 7) (op := (.call 19 [(.tmp 5), (.tmp 6), (.func 20)])) (g := none) (j := 3) rfl (by kernel_rfl) (by kernel_rfl) (ev_callA (by kernel_rfl) (f19_ok (d - 1) (dpt hd rfl) a1 a2 z2 hz2) (by kernel_rfl) (by kernel_rfl)) ?_
  refine zlRun (n := 1) (j := 4) rfl (by kernel_rfl) ?_
  refine zlEnd (by kernel_rfl) ?_
  refine zkSeq ?_
  refine zrRet ?_
  refine zkNil ?_
  exact endQ hS hQ (fRet (by kernel_rfl) ((congrArg (fun s => outR s 0 c7.res) (by kernel_rfl : finSt c7.fin _ = f7_fin z2)).trans (f7_out z2)))
/- farwriter/farkeep.parseLives -/
def f6_fin (p3 : Bool) : St := ⟨(up (fun _ => .un) 0 (.d (.bool p3))), (hB fun _ => 0)⟩
theorem f6_out (p3 : Bool) : outR (f6_fin p3) 0 c6.res = some ((.d (.bool p3)), []) := by
  kernel_rfl
def f6_Q (r : Bool) (e : PX) (st : St) : Prop := DoneF c6 0 ((.d (.bool r)), []) e st
noncomputable def f6  : Option (Bool) := ((f18 [97, 27, 91, 63, 50, 53, 104, 27, 93, 48, 59, 116, 7, 27, 40]).bind fun z4 => ((f5 (GParser.mk 0 0 ([]) ([]) ([])) z4).bind fun z5 => (bif (decide (z5.2.2 = 0)) then (bif (decide (z5.1.State = 2) && (decide (z5.1.Mark = 0) && (decide (z5.1.Inter = ([40] : List UInt8)) && (decide (z5.1.Args = ([] : List UInt8)) && (decide (z5.1.Text = ([] : List UInt8)) && true))))) then ((f7 z5.2.1 [(GAct.mk 1 97 0 ([]) ([]) ([])), (GAct.mk 4 104 63 ([]) ([25]) ([])), (GAct.mk 5 0 0 ([]) ([]) ([48, 59, 116]))]).bind fun z6 => (some z6)) else (some false)) else (some false))))
theorem f6_ok (d : Nat) (hd : 7 ≤ d)  (r : Bool) (hS : f6 = some r) : lev codes baseL d 6 [] [] = some ((.d (.bool r)), []) := by
  refine lev_go codes6 rfl rfl (Nat.le_trans (Nat.le_of_ble_eq_true rfl) hd) fun Q hQ => ?_
  unfold f6 at hS
  show ZR _ Q c6_b [] _
  replace hQ : ∀ e st', f6_Q r e st' → Q e st' := hQ
  refine zrSeq ?_
  refine zrReg ?_
  refine zlRun (n := 1) (j := 1) rfl (by kernel_rfl) ?_
  refine zlEnd (by kernel_rfl) ?_
  refine zkSeq ?_
  refine zrSeq ?_
  refine zrReg ?_
  refine zlRun (n := 1) (j := 1) rfl (by kernel_rfl) ?_
  refine bindE hS (fun z4 hz4 hS => ?_)
  refine zlOp (d := some 6) (op := (.call 18 [(.const (.string ⟨#[97, 27, 91, 63, 50, 53, 104, 27, 93, 48, 59, 116, 7, 27, 40]⟩))])) (g := none) (j := 2) rfl (by kernel_rfl) (by kernel_rfl) (ev_callA (by kernel_rfl) (f18_ok (d - 1) (dpt hd rfl) [97, 27, 91, 63, 50, 53, 104, 27, 93, 48, 59, 116, 7, 27, 40] z4 hz4) (by kernel_rfl) (by kernel_rfl)) ?_
  refine bindE hS (fun z5 hz5 hS => ?_)
  refine zlOp (d := some 7) (op := (.callf 5 [(.tmp 5), (.tmp 6)])) (g := none) (v := (.tup [(.agg ((.d (.int .i64 z5.1.State)) :: ((.d (.int .i64 z5.1.Mark)) :: ((.d (.str z5.1.Inter)) :: ((.d (.str z5.1.Args)) :: ((.d (.str z5.1.Text)) :: [])))))), (.r (.msl 64 1 0 z5.2.1.length)), (.d (.int .i64 z5.2.2))])) (ups := [(56, ⟨2, none⟩), (64, ⟨1, some (.own 25 6 (e_GAct.cells z5.2.1))⟩)]) (j := 3) rfl (by kernel_rfl) (by kernel_rfl) (ev_callF (args := [(.agg ((.d (.int .i64 0)) :: ((.d (.int .i64 0)) :: ((.d (.str ([]))) :: ((.d (.str ([]))) :: ((.d (.str ([]))) :: [])))))), (.r (.msl 56 1 0 z4.length))]) (args' := [(.agg ((.d (.int .i64 0)) :: ((.d (.int .i64 0)) :: ((.d (.str ([]))) :: ((.d (.str ([]))) :: ((.d (.str ([]))) :: [])))))), (.d (.sl z4.length ((eInt .i64).cells z4)))]) (l := [(.agg ((.d (.int .i64 0)) :: ((.d (.int .i64 0)) :: ((.d (.str ([]))) :: ((.d (.str ([]))) :: ((.d (.str ([]))) :: [])))))), (.d (.sl z4.length ((eInt .i64).cells z4)))]) (refs := [56]) (r := (.tup [(.agg ((.d (.int .i64 z5.1.State)) :: ((.d (.int .i64 z5.1.Mark)) :: ((.d (.str z5.1.Inter)) :: ((.d (.str z5.1.Args)) :: ((.d (.str z5.1.Text)) :: [])))))), (.r (.own 0 25 6 z5.2.1.length (e_GAct.cells z5.2.1))), (.d (.int .i64 z5.2.2))])) (v := (.tup [(.agg ((.d (.int .i64 z5.1.State)) :: ((.d (.int .i64 z5.1.Mark)) :: ((.d (.str z5.1.Inter)) :: ((.d (.str z5.1.Args)) :: ((.d (.str z5.1.Text)) :: [])))))), (.r (.msl 64 1 0 z5.2.1.length)), (.d (.int .i64 z5.2.2))])) (ups' := [(64, ⟨1, some (.own 25 6 (e_GAct.cells z5.2.1))⟩)]) (by kernel_rfl) (by kernel_rfl) (by kernel_rfl) (fz_cons rfl (fz_cons (fz_own (eInt .i64) (e := 3) (k := 1) (xs := z4) (by kernel_rfl) (by kernel_rfl) rfl rfl) fz_nil)) (by kernel_rfl) (f5_ok (d - 1) (dpt hd rfl) (GParser.mk 0 0 ([]) ([]) ([])) z4 z5 hz5) (by kernel_rfl) (by kernel_rfl) (by kernel_rfl) (by kernel_rfl)) ?_
  refine zlRun (n := 8) (j := 11) rfl (by kernel_rfl) ?_
  refine zlEnd (by kernel_rfl) ?_
  refine zkSeq ?_
  refine zrSeq ?_
  refine zrReg ?_
  refine zlRun (n := 1) (j := 1) rfl (by kernel_rfl) ?_
  refine zlBool (d := 12) (op := (.cmpI .eql (.tmp 11) (.const (.int .i64 0)))) (g := none) (j := 2) (decide (z5.2.2 = 0)) rfl (by kernel_rfl) (by kernel_rfl) (by kernel_rfl) (fun hc => ?_) (fun hc => ?_)
  · replace hS := cond_t hc hS
    refine zlRun (n := 3) (j := 5) rfl (by kernel_rfl) ?_
    refine zlBool (d := 16) (op := (.eqA .false [(2, .int), (3, .str)] (.tmp 14) (.tmp 15))) (g := (some (13, true))) (j := 6) (decide (z5.1.State = 2) && (decide (z5.1.Mark = 0) && (decide (z5.1.Inter = ([40] : List UInt8)) && (decide (z5.1.Args = ([] : List UInt8)) && (decide (z5.1.Text = ([] : List UInt8)) && true))))) rfl (by kernel_rfl) (by kernel_rfl) (by kernel_rfl) (fun hc => ?_) (fun hc => ?_)
    · replace hS := cond_t hc hS
      refine zlRun (n := 7) (j := 13) rfl (by kernel_rfl) ?_
      refine zlOp (d := some 24) (op := (.bsl 25 6 3 [(3, (.int .i64 0)), (1, (.string ⟨#[]⟩)), (1, (.slice .none 0 0)), (1, (.string ⟨#[]⟩)), (3, (.int .i64 0)), (1, (.string ⟨#[]⟩)), (1, (.slice .none 0 0)), (1, (.string ⟨#[]⟩)), (3, (.int .i64 0)), (1, (.string ⟨#[]⟩)), (1, (.slice .none 0 0)), (1, (.string ⟨#[]⟩))] [(0, (6, (.tmp 20))), (6, (6, (.tmp 22))), (12, (6, (.tmp 23)))])) (g := (some (18, true))) (v := (.r (.msl 200 1 0 (([(GAct.mk 1 97 0 ([]) ([]) ([])), (GAct.mk 4 104 63 ([]) ([25]) ([])), (GAct.mk 5 0 0 ([]) ([]) ([48, 59, 116]))] : List GAct).length)))) (ups := [(176, ⟨2, none⟩), (200, ⟨1, some (.own 25 6 (e_GAct.cells ([(GAct.mk 1 97 0 ([]) ([]) ([])), (GAct.mk 4 104 63 ([]) ([25]) ([])), (GAct.mk 5 0 0 ([]) ([]) ([48, 59, 116]))])))⟩)]) (j := 14) rfl (by kernel_rfl) (by kernel_rfl) ((by kernel_rfl : peval _ _ 24 (ρof _) (.bsl 25 6 3 [(3, (.int .i64 0)), (1, (.string ⟨#[]⟩)), (1, (.slice .none 0 0)), (1, (.string ⟨#[]⟩)), (3, (.int .i64 0)), (1, (.string ⟨#[]⟩)), (1, (.slice .none 0 0)), (1, (.string ⟨#[]⟩)), (3, (.int .i64 0)), (1, (.string ⟨#[]⟩)), (1, (.slice .none 0 0)), (1, (.string ⟨#[]⟩))] [(0, (6, (.tmp 20))), (6, (6, (.tmp 22))), (12, (6, (.tmp 23)))]) = some ((.r (.msl 200 1 0 (([(GAct.mk 1 97 0 ([]) ([]) ([])), (GAct.mk 4 104 63 ([]) ([25]) ([])), (GAct.mk 5 0 0 ([]) ([]) ([48, 59, 116]))] : List GAct).length))), [(176, ⟨2, none⟩), (200, ⟨1, some (.own 25 6 [.int .i64 1, .int .i64 97, .int .i64 0, .str ([]), .sl 0 [], .str ([]), .int .i64 4, .int .i64 104, .int .i64 63, .str ([]), .sl ([25] : List Int).length ((((eInt .i64).cells ([25])).drop (0 * (eInt .i64).k)).take (([25] : List Int).length * (eInt .i64).k)), .str ([]), .int .i64 5, .int .i64 0, .int .i64 0, .str ([]), .sl 0 [], .str ([48, 59, 116])])⟩)])).trans (by simp only [Enc.frz]; rfl)) ?_
      refine bindE hS (fun z6 hz6 hS => ?_)
      refine zlOp (d := some 25) (op := (.call 7 [(.tmp 19), (.tmp 24)])) (g := (some (18, true))) (j := 15) rfl (by kernel_rfl) (by kernel_rfl) (ev_callB (args := [(.r (.msl 64 1 0 z5.2.1.length)), (.r (.msl 200 1 0 (([(GAct.mk 1 97 0 ([]) ([]) ([])), (GAct.mk 4 104 63 ([]) ([25]) ([])), (GAct.mk 5 0 0 ([]) ([]) ([48, 59, 116]))] : List GAct).length)))]) (by kernel_rfl) (l_cons (l_own e_GAct (e := 25) (k := 6) (xs := z5.2.1) (by kernel_rfl) rfl rfl) (l_cons (l_own e_GAct (e := 25) (k := 6) (xs := [(GAct.mk 1 97 0 ([]) ([]) ([])), (GAct.mk 4 104 63 ([]) ([25]) ([])), (GAct.mk 5 0 0 ([]) ([]) ([48, 59, 116]))]) (by kernel_rfl) rfl rfl) l_nil)) (f7_ok (d - 1) (dpt hd rfl) z5.2.1 [(GAct.mk 1 97 0 ([]) ([]) ([])), (GAct.mk 4 104 63 ([]) ([25]) ([])), (GAct.mk 5 0 0 ([]) ([]) ([48, 59, 116]))] z6 hz6) (by kernel_rfl) (by kernel_rfl)) ?_
      refine zlRun (n := 2) (j := 17) rfl (by kernel_rfl) ?_
      refine zlEnd (by kernel_rfl) ?_
      refine zkSeq ?_
      refine zrRet ?_
      refine zkNil ?_
      exact endQ hS hQ (fRet (by kernel_rfl) ((congrArg (fun s => outR s 0 c6.res) (by kernel_rfl : finSt c6.fin _ = f6_fin z6)).trans (f6_out z6)))
    · replace hS := cond_f hc hS
      refine zlRun (n := 11) (j := 17) rfl (by kernel_rfl) ?_
      refine zlEnd (by kernel_rfl) ?_
      refine zkSeq ?_
      refine zrRet ?_
      refine zkNil ?_
      exact endQ hS hQ (fRet (by kernel_rfl) ((congrArg (fun s => outR s 0 c6.res) (by kernel_rfl : finSt c6.fin _ = f6_fin false)).trans (f6_out false)))
  · replace hS := cond_f hc hS
    refine zlRun (n := 15) (j := 17) rfl (by kernel_rfl) ?_
    refine zlEnd (by kernel_rfl) ?_
    refine zkSeq ?_
    refine zrRet ?_
    refine zkNil ?_
    exact endQ hS hQ (fRet (by kernel_rfl) ((congrArg (fun s => outR s 0 c6.res) (by kernel_rfl : finSt c6.fin _ = f6_fin false)).trans (f6_out false)))
/- farwriter/farkeep.ParseBack -/
def f3_fin (p46 : Bool) : St := ⟨(up (fun _ => .un) 2 (.d (.bool p46))), (hB fun _ => 0)⟩
theorem f3_out (p46 : Bool) : outR (f3_fin p46) 0 c3.res = some ((.d (.bool p46)), []) := by
  kernel_rfl
def f3_Q (r : Bool) (e : PX) (st : St) : Prop := DoneF c3 0 ((.d (.bool r)), []) e st
def f3_j0_J (a1 : List GAct) (p47 : List Int) (p48 : List GAct) : St := ⟨(up (up (fun _ => .un) 4 (.r (.msl 40 0 0 p48.length))) 3 (.r (.msl 32 0 0 p47.length))), (up (up (hB fun _ => 0) 40 ⟨0, some (.own 25 6 (e_GAct.cells p48))⟩) 32 ⟨0, some (.own 3 1 ((eInt .i64).cells p47))⟩)⟩
noncomputable def f3_j0 (a1 : List GAct) (p47 : List Int) (p48 : List GAct) : Option (Bool) := ((f5 (GParser.mk 0 0 ([]) ([]) ([])) p47).bind fun z16 => (f6.bind fun z17 => (bif z17 then (bif (decide (z16.2.2 = 0)) then (bif (decide (z16.1.State = 0) && (decide (z16.1.Mark = 0) && (decide (z16.1.Inter = ([] : List UInt8)) && (decide (z16.1.Args = ([] : List UInt8)) && (decide (z16.1.Text = ([] : List UInt8)) && true))))) then ((f7 z16.2.1 p48).bind fun z18 => (some z18)) else (some false)) else (some false)) else (some false))))
theorem f3_j0_ok {d : Nat} (hd : 8 ≤ d) (a1 : List GAct) {r : Bool} {Q : PX → St → Prop} (hQ : ∀ e st', f3_Q r e st' → Q e st') (p47 : List Int) (p48 : List GAct) (hS : f3_j0 a1 p47 p48 = some r) {st : St} (he : keepSt [3, 4] [(32, .id 32), (40, .id 40)] [] st = f3_j0_J a1 p47 p48) : ZR (lev codes baseL (d - 1)) Q c3_1 [] st := by
  refine zrKeep he ?_
  unfold f3_j0 at hS
  refine zrSeq ?_
  refine zrReg ?_
  refine zlRun (n := 2) (j := 2) rfl (by kernel_rfl) ?_
  refine bindE hS (fun z16 hz16 hS => ?_)
  refine zlOp (d := some 36) (op := (.callf 5 [(.tmp 34), (.tmp 35)])) (g := none) (v := (.tup [(.agg ((.d (.int .i64 z16.1.State)) :: ((.d (.int .i64 z16.1.Mark)) :: ((.d (.str z16.1.Inter)) :: ((.d (.str z16.1.Args)) :: ((.d (.str z16.1.Text)) :: [])))))), (.r (.msl 296 1 0 z16.2.1.length)), (.d (.int .i64 z16.2.2))])) (ups := [(32, ⟨1, none⟩), (296, ⟨1, some (.own 25 6 (e_GAct.cells z16.2.1))⟩)]) (j := 3) rfl (by kernel_rfl) (by kernel_rfl) (ev_callF (args := [(.agg ((.d (.int .i64 0)) :: ((.d (.int .i64 0)) :: ((.d (.str ([]))) :: ((.d (.str ([]))) :: ((.d (.str ([]))) :: [])))))), (.r (.msl 32 0 0 p47.length))]) (args' := [(.agg ((.d (.int .i64 0)) :: ((.d (.int .i64 0)) :: ((.d (.str ([]))) :: ((.d (.str ([]))) :: ((.d (.str ([]))) :: [])))))), (.d (.sl p47.length ((eInt .i64).cells p47)))]) (l := [(.agg ((.d (.int .i64 0)) :: ((.d (.int .i64 0)) :: ((.d (.str ([]))) :: ((.d (.str ([]))) :: ((.d (.str ([]))) :: [])))))), (.d (.sl p47.length ((eInt .i64).cells p47)))]) (refs := [32]) (r := (.tup [(.agg ((.d (.int .i64 z16.1.State)) :: ((.d (.int .i64 z16.1.Mark)) :: ((.d (.str z16.1.Inter)) :: ((.d (.str z16.1.Args)) :: ((.d (.str z16.1.Text)) :: [])))))), (.r (.own 0 25 6 z16.2.1.length (e_GAct.cells z16.2.1))), (.d (.int .i64 z16.2.2))])) (v := (.tup [(.agg ((.d (.int .i64 z16.1.State)) :: ((.d (.int .i64 z16.1.Mark)) :: ((.d (.str z16.1.Inter)) :: ((.d (.str z16.1.Args)) :: ((.d (.str z16.1.Text)) :: [])))))), (.r (.msl 296 1 0 z16.2.1.length)), (.d (.int .i64 z16.2.2))])) (ups' := [(296, ⟨1, some (.own 25 6 (e_GAct.cells z16.2.1))⟩)]) (by kernel_rfl) (by kernel_rfl) (by kernel_rfl) (fz_cons rfl (fz_cons (fz_own (eInt .i64) (e := 3) (k := 1) (xs := p47) (by kernel_rfl) (by kernel_rfl) rfl rfl) fz_nil)) (by kernel_rfl) (f5_ok (d - 1) (dpt hd rfl) (GParser.mk 0 0 ([]) ([]) ([])) p47 z16 hz16) (by kernel_rfl) (by kernel_rfl) (by kernel_rfl) (by kernel_rfl)) ?_
  refine zlRun (n := 8) (j := 11) rfl (by kernel_rfl) ?_
  refine zlEnd (by kernel_rfl) ?_
  refine zkSeq ?_
  refine zrSeq ?_
  refine zrReg ?_
  refine bindE hS (fun z17 hz17 hS => ?_)
  refine zlOp (d := some 40) (op := (.call 6 [])) (g := none) (j := 1) rfl (by kernel_rfl) (by kernel_rfl) (ev_callA (by kernel_rfl) (f6_ok (d - 1) (dpt hd rfl)  z17 hz17) (by kernel_rfl) (by kernel_rfl)) ?_
  refine zlRun (n := 1) (j := 2) rfl (by kernel_rfl) ?_
  refine zlSplit 41 z17 (by kernel_rfl) (fun hc => ?_) (fun hc => ?_)
  · replace hS := cond_t hc hS
    refine zlRun (n := 1) (j := 3) rfl (by kernel_rfl) ?_
    refine zlBool (d := 43) (op := (.cmpI .eql (.tmp 42) (.const (.int .i64 0)))) (g := (some (41, true))) (j := 4) (decide (z16.2.2 = 0)) rfl (by kernel_rfl) (by kernel_rfl) (by kernel_rfl) (fun hc => ?_) (fun hc => ?_)
    · replace hS := cond_t hc hS
      refine zlRun (n := 4) (j := 8) rfl (by kernel_rfl) ?_
      refine zlBool (d := 48) (op := (.eqA .false [(2, .int), (3, .str)] (.tmp 46) (.tmp 47))) (g := (some (45, true))) (j := 9) (decide (z16.1.State = 0) && (decide (z16.1.Mark = 0) && (decide (z16.1.Inter = ([] : List UInt8)) && (decide (z16.1.Args = ([] : List UInt8)) && (decide (z16.1.Text = ([] : List UInt8)) && true))))) rfl (by kernel_rfl) (by kernel_rfl) (by kernel_rfl) (fun hc => ?_) (fun hc => ?_)
      · replace hS := cond_t hc hS
        refine zlRun (n := 4) (j := 13) rfl (by kernel_rfl) ?_
        refine bindE hS (fun z18 hz18 hS => ?_)
        refine zlOp (d := some 53) (op := (.call 7 [(.tmp 51), (.tmp 52)])) (g := (some (50, true))) (j := 14) rfl (by kernel_rfl) (by kernel_rfl) (ev_callB (args := [(.r (.msl 296 1 0 z16.2.1.length)), (.r (.msl 40 0 0 p48.length))]) (by kernel_rfl) (l_cons (l_own e_GAct (e := 25) (k := 6) (xs := z16.2.1) (by kernel_rfl) rfl rfl) (l_cons (l_own e_GAct (e := 25) (k := 6) (xs := p48) (by kernel_rfl) rfl rfl) l_nil)) (f7_ok (d - 1) (dpt hd rfl) z16.2.1 p48 z18 hz18) (by kernel_rfl) (by kernel_rfl)) ?_
        refine zlRun (n := 2) (j := 16) rfl (by kernel_rfl) ?_
        refine zlEnd (by kernel_rfl) ?_
        refine zkSeq ?_
        refine zrRet ?_
        refine zkNil ?_
        exact endQ hS hQ (fRet (by kernel_rfl) ((congrArg (fun s => outR s 0 c3.res) (by kernel_rfl : finSt c3.fin _ = f3_fin z18)).trans (f3_out z18)))
      · replace hS := cond_f hc hS
        refine zlRun (n := 7) (j := 16) rfl (by kernel_rfl) ?_
        refine zlEnd (by kernel_rfl) ?_
        refine zkSeq ?_
        refine zrRet ?_
        refine zkNil ?_
        exact endQ hS hQ (fRet (by kernel_rfl) ((congrArg (fun s => outR s 0 c3.res) (by kernel_rfl : finSt c3.fin _ = f3_fin false)).trans (f3_out false)))
    · replace hS := cond_f hc hS
      refine zlRun (n := 12) (j := 16) rfl (by kernel_rfl) ?_
      refine zlEnd (by kernel_rfl) ?_
      refine zkSeq ?_
      refine zrRet ?_
      refine zkNil ?_
      exact endQ hS hQ (fRet (by kernel_rfl) ((congrArg (fun s => outR s 0 c3.res) (by kernel_rfl : finSt c3.fin _ = f3_fin false)).trans (f3_out false)))
  · replace hS := cond_f hc hS
    refine zlRun (n := 14) (j := 16) rfl (by kernel_rfl) ?_
    refine zlEnd (by kernel_rfl) ?_
    refine zkSeq ?_
    refine zrRet ?_
    refine zkNil ?_
    exact endQ hS hQ (fRet (by kernel_rfl) ((congrArg (fun s => outR s 0 c3.res) (by kernel_rfl : finSt c3.fin _ = f3_fin false)).trans (f3_out false)))
def f3_l1_J (a1 : List GAct) (x : (List Int) × (List GAct) × Int) : St := ⟨(up (up (up (up (up (fun _ => .un) 14 (.d (.int .i64 x.2.2))) 13 (.d (.int .i64 (a1.length : Int)))) 12 (.d (.sl a1.length (e_GAct.cells a1)))) 4 (.r (.msl 40 0 0 x.2.1.length))) 3 (.r (.msl 32 0 0 x.1.length))), (up (up (hB fun _ => 0) 40 ⟨0, some (.own 25 6 (e_GAct.cells x.2.1))⟩) 32 ⟨0, some (.own 3 1 ((eInt .i64).cells x.1))⟩)⟩
def f3_l1_H (a1 : List GAct) (x : (List Int) × (List GAct) × Int) (st : St) : Prop := keepSt [3, 4, 12, 13, 14] [(32, .id 32), (40, .id 40)] [] st = f3_l1_J a1 x
def f3_l1_e0_J (a1 : List GAct) (p39 : List Int) (p40 : List GAct) : St := ⟨(up (up (fun _ => .un) 4 (.r (.msl 40 0 0 p40.length))) 3 (.r (.msl 32 0 0 p39.length))), (up (up (hB fun _ => 0) 40 ⟨0, some (.own 25 6 (e_GAct.cells p40))⟩) 32 ⟨0, some (.own 3 1 ((eInt .i64).cells p39))⟩)⟩
def f3_l1_X (a1 : List GAct) (z : ((List Int) × (List GAct))) (e : PX) (st : St) : Prop := e = .exit 0 ∧ st = f3_l1_e0_J a1 z.1 z.2
def f3_l1_j3_J (a1 : List GAct) (p57 : List Int) (p58 : List GAct) (p59 : Int) : St := ⟨(up (up (up (up (up (fun _ => .un) 14 (.d (.int .i64 p59))) 13 (.d (.int .i64 (a1.length : Int)))) 12 (.d (.sl a1.length (e_GAct.cells a1)))) 4 (.r (.msl 40 0 0 p58.length))) 3 (.r (.msl 32 0 0 p57.length))), (up (up (hB fun _ => 0) 40 ⟨0, some (.own 25 6 (e_GAct.cells p58))⟩) 32 ⟨0, some (.own 3 1 ((eInt .i64).cells p57))⟩)⟩
noncomputable def f3_l1_j3 (a1 : List GAct) (p57 : List Int) (p58 : List GAct) (p59 : Int) : Option (((List Int) × (List GAct) × Int) ⊕ (((List Int) × (List GAct)))) := ((idx a1 p59).bind fun z19 => ((f4 z19).bind fun z20 => (bif (decide (z20.2 = 0)) then ((app? 8 p57 z20.1).bind fun z21 => ((app? 80 p58 ([z19] : List GAct)).bind fun z22 => (some (.inl (z21, z22, (IntKind.i64.wrap (p59 + 1))))))) else (some (.inl (p57, p58, (IntKind.i64.wrap (p59 + 1))))))))
theorem f3_l1_j3_ok {d : Nat} (hd : 8 ≤ d) (a1 : List GAct) {r : ((List Int) × (List GAct) × Int) ⊕ (((List Int) × (List GAct)))} {Q : PX → St → Prop} (hQ : ∀ e st', finL (f3_l1_H a1) (f3_l1_X a1) r e st' → Q e st') (p57 : List Int) (p58 : List GAct) (p59 : Int) (hS : f3_l1_j3 a1 p57 p58 p59 = some r) {st : St} (he : keepSt [3, 4, 12, 13, 14] [(32, .id 32), (40, .id 40)] [] st = f3_l1_j3_J a1 p57 p58 p59) : ZR (lev codes baseL (d - 1)) Q c3_2 [] st := by
  refine zrKeep he ?_
  unfold f3_l1_j3 at hS
  refine zrSeq ?_
  refine zrBlk ?_
  refine zrSeq ?_
  refine zrReg ?_
  refine bindE hS (fun z19 hz19 hS => ?_)
  refine zlOp (d := some 16) (op := (.ixS 25 6 (.tmp 12) (.tmp 14))) (g := none) (v := (.rptr (e_GAct.enc z19 ++ (e_GAct.cells (a1.drop ((p59 : Int).toNat + 1)))))) (ups := []) (j := 1) rfl (by kernel_rfl) (by kernel_rfl) (ev_ixS e_GAct (kk := .i64) (xs := a1) (j := p59) (by kernel_rfl) (by kernel_rfl) hz19 rfl (by intro h; cases h)) ?_
  refine zlRun (n := 3) (j := 4) rfl (by kernel_rfl) ?_
  refine zlEnd (by kernel_rfl) ?_
  refine zkSeq ?_
  refine zrSeq ?_
  refine zrReg ?_
  refine zlRun (n := 1) (j := 1) rfl (by kernel_rfl) ?_
  refine bindE hS (fun z20 hz20 hS => ?_)
  refine zlOp (d := some 20) (op := (.call 4 [(.tmp 19)])) (g := none) (j := 2) rfl (by kernel_rfl) (by kernel_rfl) (ev_callA (by kernel_rfl) (f4_ok (d - 1) (dpt hd rfl) z19 z20 hz20) (by kernel_rfl) (by kernel_rfl)) ?_
  refine zlRun (n := 5) (j := 7) rfl (by kernel_rfl) ?_
  refine zlEnd (by kernel_rfl) ?_
  refine zkSeq ?_
  refine zrSeq ?_
  refine zrReg ?_
  refine zlRun (n := 1) (j := 1) rfl (by kernel_rfl) ?_
  refine zlBool (d := 24) (op := (.cmpI .eql (.tmp 23) (.const (.int .i64 0)))) (g := none) (j := 2) (decide (z20.2 = 0)) rfl (by kernel_rfl) (by kernel_rfl) (by kernel_rfl) (fun hc => ?_) (fun hc => ?_)
  · replace hS := cond_t hc hS
    refine zlEnd (by kernel_rfl) ?_
    refine zkSeq ?_
    refine zrCondT (by kernel_rfl) ?_
    refine zrRegD ?_
    refine zdRun (n := 2) (j := 2) (ts := [[], []]) (acc' := [[], []]) rfl (by kernel_rfl) (by kernel_rfl) (by kernel_rfl) ?_
    refine bindE hS (fun z21 hz21 hS => ?_)
    refine zdOp (d := some 27) (op := (.app 3 1 8 (.tmp 25) (.tmp 26))) (g := none) (v := (.r (.msl 32 1 0 z21.length))) (ups := [(32, ⟨1, some (.own 3 1 ((eInt .i64).cells z21))⟩)]) (j := 3) (t1 := [(224, true), (32, true), (168, false)]) (acc' := [[], [], [(224, true), (32, true), (168, false)]]) (by kernel_rfl) (by kernel_rfl) rfl (by kernel_rfl) (by kernel_rfl) (ev_app (eInt .i64) (b := 32) (g := 0) (n := p57.length) (xs := p57) (ys := z20.1) ((congrArg (asL _) (by kernel_rfl : ρof _ (.tmp 26) = (.r (.msl 168 1 0 z20.1.length)))).trans (as_whole (eInt .i64) (e := 3) (k := 1) (xs := z20.1) (by kernel_rfl) rfl rfl)) rfl (by kernel_rfl) rfl (by kernel_rfl) rfl hz21) ?_
    refine zdRun (n := 3) (j := 6) (ts := [[], [(56, false)], [(248, true)]]) (acc' := [[], [], [(224, true), (32, true), (168, false)], [], [(56, false)], [(248, true)]]) rfl (by kernel_rfl) (by kernel_rfl) (by kernel_rfl) ?_
    refine bindE hS (fun z22 hz22 hS => ?_)
    refine zdOp (d := some 31) (op := (.app 25 6 80 (.tmp 28) (.tmp 30))) (g := none) (v := (.r (.msl 40 1 0 z22.length))) (ups := [(40, ⟨1, some (.own 25 6 (e_GAct.cells z22))⟩)]) (j := 7) (t1 := [(256, true), (40, true), (248, false)]) (acc' := [[], [], [(224, true), (32, true), (168, false)], [], [(56, false)], [(248, true)], [(256, true), (40, true), (248, false)]]) (by kernel_rfl) (by kernel_rfl) rfl (by kernel_rfl) (by kernel_rfl) (ev_app e_GAct (b := 40) (g := 0) (n := p58.length) (xs := p58) (ys := [z19]) ((congrArg (asL _) (by kernel_rfl : ρof _ (.tmp 30) = (.r (.msl 248 1 0 (([z19] : List GAct).length))))).trans (as_whole e_GAct (e := 25) (k := 6) (xs := [z19]) (by kernel_rfl) rfl rfl)) rfl (by kernel_rfl) rfl (by kernel_rfl) rfl hz22) ?_
    refine zdRun (n := 2) (j := 9) (ts := [[], []]) (acc' := [[], [], [(224, true), (32, true), (168, false)], [], [(56, false)], [(248, true)], [(256, true), (40, true), (248, false)], [], []]) rfl (by kernel_rfl) (by kernel_rfl) (by kernel_rfl) ?_
    refine zdEnd (by kernel_rfl) (by kernel_rfl) ?_
    refine zkBlk ?_
    refine zkSeq ?_
    refine zrReg ?_
    refine zlRun (n := 2) (j := 2) rfl (by kernel_rfl) ?_
    refine zlEnd (by kernel_rfl) ?_
    refine zkNil ?_
    exact endQ hS hQ (finL_n (by show keepSt _ _ _ _ = _; kernel_rfl))
  · replace hS := cond_f hc hS
    refine zlEnd (by kernel_rfl) ?_
    refine zkSeq ?_
    refine zrCondF (by kernel_rfl) ?_
    refine zrSkip ?_
    refine zkBlk ?_
    refine zkSeq ?_
    refine zrReg ?_
    refine zlRun (n := 2) (j := 2) rfl (by kernel_rfl) ?_
    refine zlEnd (by kernel_rfl) ?_
    refine zkNil ?_
    exact endQ hS hQ (finL_n (by show keepSt _ _ _ _ = _; kernel_rfl))
def f3_l1_j2_J (a1 : List GAct) (p53 : List Int) (p54 : List GAct) (p55 : Int) (p56 : Bool) : St := ⟨(up (up (up (up (up (up (fun _ => .un) 15 (.d (.bool p56))) 14 (.d (.int .i64 p55))) 13 (.d (.int .i64 (a1.length : Int)))) 12 (.d (.sl a1.length (e_GAct.cells a1)))) 4 (.r (.msl 40 0 0 p54.length))) 3 (.r (.msl 32 0 0 p53.length))), (up (up (hB fun _ => 0) 40 ⟨0, some (.own 25 6 (e_GAct.cells p54))⟩) 32 ⟨0, some (.own 3 1 ((eInt .i64).cells p53))⟩)⟩
noncomputable def f3_l1_j2 (a1 : List GAct) (p53 : List Int) (p54 : List GAct) (p55 : Int) (p56 : Bool) : Option (((List Int) × (List GAct) × Int) ⊕ (((List Int) × (List GAct)))) := (bif p56 then (f3_l1_j3 a1 p53 p54 p55) else (some (.inr (p53, p54))))
theorem f3_l1_j2_ok {d : Nat} (hd : 8 ≤ d) (a1 : List GAct) {r : ((List Int) × (List GAct) × Int) ⊕ (((List Int) × (List GAct)))} {Q : PX → St → Prop} (hQ : ∀ e st', finL (f3_l1_H a1) (f3_l1_X a1) r e st' → Q e st') (p53 : List Int) (p54 : List GAct) (p55 : Int) (p56 : Bool) (hS : f3_l1_j2 a1 p53 p54 p55 p56 = some r) {st : St} (he : keepSt [3, 4, 12, 13, 14, 15] [(32, .id 32), (40, .id 40)] [] st = f3_l1_j2_J a1 p53 p54 p55 p56) : ZR (lev codes baseL (d - 1)) Q c3_3 [] st := by
  refine zrKeep he ?_
  unfold f3_l1_j2 at hS
  refine zrSeq ?_
  refine zrSplit 15 p56 (by kernel_rfl) (fun hc => ?_) (fun hc => ?_)
  · replace hS := cond_t hc hS
    refine zrCondT (by kernel_rfl) ?_
    refine zrSkip ?_
    refine zkSeq ?_
    exact f3_l1_j3_ok hd a1 hQ p53 p54 p55 hS (by kernel_rfl)
  · replace hS := cond_f hc hS
    refine zrCondF (by kernel_rfl) ?_
    refine zrKeep (J := f3_l1_e0_J a1 p53 p54) (by kernel_rfl) ?_
    refine zrExit ?_
    refine zkSeqX ?_
    refine zkNil ?_
    exact endQ hS hQ (finL_x (by intro h; cases h) (by show _ = _ ∧ _ = _; exact ⟨rfl, rfl⟩))
noncomputable def f3_l1 (a1 : List GAct) (x : (List Int) × (List GAct) × Int) : Option (((List Int) × (List GAct) × Int) ⊕ (((List Int) × (List GAct)))) := (bif (decide (x.2.2 < (a1.length : Int))) then (f3_l1_j2 a1 x.1 x.2.1 x.2.2 true) else (f3_l1_j2 a1 x.1 x.2.1 x.2.2 false))
theorem f3_l1_ok {d : Nat} (hd : 8 ≤ d) (a1 : List GAct) {r : ((List Int) × (List GAct) × Int) ⊕ (((List Int) × (List GAct)))} {Q : PX → St → Prop} (hQ : ∀ e st', finL (f3_l1_H a1) (f3_l1_X a1) r e st' → Q e st') {x : (List Int) × (List GAct) × Int} (hS : f3_l1 a1 x = some r) {st : St} (he : f3_l1_H a1 x st) : ZR (lev codes baseL (d - 1)) Q c3_4 [] st := by
  refine zrKeep he ?_
  unfold f3_l1 at hS
  refine zrSeq ?_
  refine zrReg ?_
  refine zlBool (d := 15) (op := (.cmpI .lss (.tmp 14) (.tmp 13))) (g := none) (j := 1) (decide (x.2.2 < (a1.length : Int))) rfl (by kernel_rfl) (by kernel_rfl) (by kernel_rfl) (fun hc => ?_) (fun hc => ?_)
  · replace hS := cond_t hc hS
    refine zlEnd (by kernel_rfl) ?_
    refine zkSeq ?_
    exact f3_l1_j2_ok hd a1 hQ x.1 x.2.1 x.2.2 true hS (by kernel_rfl)
  · replace hS := cond_f hc hS
    refine zlEnd (by kernel_rfl) ?_
    refine zkSeq ?_
    exact f3_l1_j2_ok hd a1 hQ x.1 x.2.1 x.2.2 false hS (by kernel_rfl)
noncomputable def f3 (a1 : List GAct) : Option (Bool) := ((loopO (f3_l1 a1) ([], [], 0)).bind fun z23 => (f3_j0 a1 z23.1 z23.2))
theorem f3_ok (d : Nat) (hd : 8 ≤ d) (a1 : List GAct) (r : Bool) (hS : f3 a1 = some r) : lev codes baseL d 3 [(.d (.sl a1.length (e_GAct.cells a1)))] [] = some ((.d (.bool r)), []) := by
  refine lev_go codes3 rfl rfl (Nat.le_trans (Nat.le_of_ble_eq_true rfl) hd) fun Q hQ => ?_
  unfold f3 at hS
  show ZR _ Q c3_b [] _
  replace hQ : ∀ e st', f3_Q r e st' → Q e st' := hQ
  refine zrSeq ?_
  refine zrReg ?_
  refine zlRun (n := 1) (j := 1) rfl (by kernel_rfl) ?_
  refine zlEnd (by kernel_rfl) ?_
  refine zkSeq ?_
  refine zrSeq ?_
  refine zrReg ?_
  refine zlRun (n := 1) (j := 1) rfl (by kernel_rfl) ?_
  refine zlEnd (by kernel_rfl) ?_
  refine zkSeq ?_
  refine zrSeq ?_
  refine zrReg ?_
  refine zlRun (n := 1) (j := 1) rfl (by kernel_rfl) ?_
  refine zlEnd (by kernel_rfl) ?_
  refine zkSeq ?_
  refine zrSeq ?_
  refine zrSeq ?_
  refine zrReg ?_
  refine zlRun (n := 3) (j := 3) rfl (by kernel_rfl) ?_
  refine zlEnd (by kernel_rfl) ?_
  refine zkSeq ?_
  refine zrBlk ?_
  refine bindE hS (fun z23 hz23 hS => ?_)
  refine zrLoop (f3_l1_H a1) (f3_l1_X a1) (fun x st r Q h0 hS hQ => f3_l1_ok hd a1 hQ hS h0) (x := ([], [], 0)) (z := z23) (by show keepSt _ _ _ _ = _; kernel_rfl) hz23 ?_
  intro e st' _ hX
  obtain ⟨rfl, rfl⟩ : _ ∧ _ := hX
  refine zkBlkX ?_
  refine zkSeq ?_
  exact f3_j0_ok hd a1 hQ z23.1 z23.2 hS (by kernel_rfl)
end Go.Proofs.YthapehjibbjkjaaDoor.Pm
