/- Typed functions, and that the codes are these. Printed by dec.py. -/
import Derived.Test.YtanhpibphkblnaaDoorDLpD
namespace Go.Proofs.YtanhpibphkblnaaDoor.Pm
set_option maxRecDepth 1000000
set_option maxHeartbeats 20000000
set_option linter.unusedVariables false
/- slices.Clone[[]string,string] -/
def f27_fin (p1 : List (List UInt8)) : St := ⟨(up (fun _ => .un) 2 (.r (.msl 97 0 0 p1.length))), (up (hB fun _ => 0) 97 ⟨0, some (.own 9 1 (eStr.cells p1))⟩)⟩
theorem f27_out (p1 : List (List UInt8)) : outR (f27_fin p1) 0 c27.res = some ((.r (.own 0 9 1 p1.length (eStr.cells p1))), []) := by
  exact out_of (ids := []) (ids' := [97]) (l := [(.r (.msl 97 0 0 p1.length))]) (by kernel_rfl) (by kernel_rfl) (o_own eStr (e := 9) (k := 1) (xs := p1) (by kernel_rfl) rfl rfl rfl rfl)
def f27_Q (r : List (List UInt8)) (e : PX) (st : St) : Prop := DoneF c27 0 ((.r (.own 0 9 1 r.length (eStr.cells r))), []) e st
noncomputable def f27 (a1 : List (List UInt8)) : Option (List (List UInt8)) := ((app? 16 ([] : List (List UInt8)) a1).bind fun z2 => (some z2))
theorem f27_ok (d : Nat) (hd : 1 ≤ d) (a1 : List (List UInt8)) (r : List (List UInt8)) (hS : f27 a1 = some r) : lev codes baseL d 27 [(.d (.sl a1.length (eStr.cells a1)))] [] = some ((.r (.own 0 9 1 r.length (eStr.cells r))), []) := by
  refine lev_goZ codes27 rfl rfl (Nat.le_trans (Nat.le_of_ble_eq_true rfl) hd) (fun Q hQ => ?_) (fun h0 Q hQ => ?_)
  · unfold f27 at hS
    show ZR _ Q c27_b [] _
    refine zrSeq ?_
    refine zrReg ?_
    refine zlRun (n := 1) (j := 1) rfl (by kernel_rfl) ?_
    refine zlEnd (by kernel_rfl) ?_
    refine zkSeq ?_
    refine zrSeq ?_
    refine zrSeq ?_
    refine zrReg ?_
    refine zlRun (n := 2) (j := 2) rfl (by kernel_rfl) ?_
    refine zlEnd (by kernel_rfl) ?_
    refine zkSeq ?_
    refine zrCondF (by kernel_rfl) ?_
    refine zrSkip ?_
    refine zkSeq ?_
    refine zrSeq ?_
    refine zrReg ?_
    refine zlRun (n := 2) (j := 2) rfl (by kernel_rfl) ?_
    refine bindE hS (fun z2 hz2 hS => ?_)
    refine zlOp (d := some 7) (op := (.app 9 1 16 (.tmp 5) (.tmp 6))) (g := none) (v := (.r (.msl 48 2 0 z2.length))) (ups := [(48, ⟨2, some (.own 9 1 (eStr.cells z2))⟩)]) (j := 3) rfl (by kernel_rfl) (by kernel_rfl) (ev_app eStr (b := 48) (g := 1) (n := ([] : List (List UInt8)).length) (xs := []) (ys := a1) ((congrArg (asL _) (by kernel_rfl : ρof _ (.tmp 6) = (.slz false a1.length (eStr.cells a1)))).trans rfl) rfl (by kernel_rfl) rfl (by kernel_rfl) rfl hz2) ?_
    refine zlRun (n := 1) (j := 4) rfl (by kernel_rfl) ?_
    refine zlEnd (by kernel_rfl) ?_
    refine zkSeq ?_
    refine zrRet ?_
    refine zkNil ?_
    exact endQ (F := f27_Q) hS hQ (fRet ((congrArg (fun s => outR s 0 c27.res) (by kernel_rfl : finSt c27.fin _ = f27_fin z2)).trans (f27_out z2)))
  · have hS : (some []) = some r := by
      have hl := List.eq_nil_of_length_eq_zero h0
      subst hl
      simpa [f27, app?] using hS
    show ZR _ Q c27_b [] _
    refine zrSeq ?_
    refine zrReg ?_
    refine zlRun (n := 1) (j := 1) rfl (by kernel_rfl) ?_
    refine zlEnd (by kernel_rfl) ?_
    refine zkSeq ?_
    refine zrSeq ?_
    refine zrSeq ?_
    refine zrReg ?_
    refine zlRun (n := 2) (j := 2) rfl (by kernel_rfl) ?_
    refine zlEnd (by kernel_rfl) ?_
    refine zkSeq ?_
    refine zrCondT (by kernel_rfl) ?_
    refine zrSeq ?_
    refine zrReg ?_
    refine zlRun (n := 1) (j := 1) rfl (by kernel_rfl) ?_
    refine zlEnd (by kernel_rfl) ?_
    refine zkSeq ?_
    refine zrRet ?_
    refine zkSeqR ?_
    refine zkNil ?_
    exact endQ (F := f27_Q) hS hQ (fRet ((congrArg (fun s => outR s 0 c27.res) (by kernel_rfl : finSt c27.fin _ = f27_fin [])).trans (f27_out [])))
/- farwriter/farref.InMask -/
def f31_fin (p2 : Bool) : St := ⟨(up (fun _ => .un) 4 (.d (.bool p2))), (hB fun _ => 0)⟩
theorem f31_out (p2 : Bool) : outR (f31_fin p2) 0 c31.res = some ((.d (.bool p2)), []) := by
  kernel_rfl
def f31_Q (r : Bool) (e : PX) (st : St) : Prop := DoneF c31 0 ((.d (.bool r)), []) e st
noncomputable def f31 (a1 : GMask) (a2 : Int) : Option (Bool) := ((inR (IntKind.i64.wrap (Int.tdiv a2 64)) 4).bind fun m4 => ((chk (decide (0 ≤ (Int.tmod a2 64)))).bind fun z5 => ((chk (!decide ((IntKind.u64.wrap (1 * 2 ^ (min ((Int.tmod a2 64) : Int).toNat 64))) = 0))).bind fun z6 => (bif (decide ((Int.tmod (IntKind.u64.wrap (Int.tdiv (a1.Bits m4) (IntKind.u64.wrap (1 * 2 ^ (min ((Int.tmod a2 64) : Int).toNat 64))))) 2) = 1)) then (some true) else (some false)))))
theorem f31_ok (d : Nat) (hd : 1 ≤ d) (a1 : GMask) (a2 : Int) (r : Bool) (hS : f31 a1 a2 = some r) : lev codes baseL d 31 [(.agg (((eInt .u64).row 4 a1.Bits) ++ [])), (.d (.int .i64 a2))] [] = some ((.d (.bool r)), []) := by
  refine lev_go codes31 rfl rfl (Nat.le_trans (Nat.le_of_ble_eq_true rfl) hd) fun Q hQ => ?_
  unfold f31 at hS
  show ZR _ Q c31_b [] _
  replace hQ : ∀ e st', f31_Q r e st' → Q e st' := hQ
  refine zrSeq ?_
  refine zrReg ?_
  refine zlRun (n := 2) (j := 2) rfl (by kernel_rfl) ?_
  refine zlEnd (by kernel_rfl) ?_
  refine zkSeq ?_
  refine zrSeq ?_
  refine zrRegD ?_
  refine zdRun (n := 3) (j := 3) (ts := [[], [], []]) (acc' := [[], [], []]) rfl (by kernel_rfl) (by kernel_rfl) (by kernel_rfl) ?_
  refine bindE hS (fun m4 hm4 hS => ?_)
  refine zdOp (d := some 8) (op := (.ixA 4 1 (.tmp 7) (.tmp 6))) (g := none) (v := (.r (.ptr 24 1 (0 + m4 * 1)))) (ups := []) (j := 4) (t1 := []) (acc' := [[], [], [], []]) (by kernel_rfl) (by kernel_rfl) rfl (by kernel_rfl) (by kernel_rfl) (ev_ixA (kk := .i64) (b := 24) (g := 1) (o := 0) (j := (IntKind.i64.wrap (Int.tdiv a2 64))) (by kernel_rfl) (by kernel_rfl) hm4) ?_
  refine zdOp (d := some 9) (op := (.load .false 1 (.tmp 8))) (g := none) (v := (.d (.int .u64 (a1.Bits m4)))) (ups := []) (j := 5) (t1 := [(24, false)]) (acc' := [[], [], [], [], [(24, false)]]) (by kernel_rfl) (by kernel_rfl) rfl (by kernel_rfl) (by kernel_rfl) (ev_loadA (eInt .u64) (b := 24) (g := 1) (o := 0 + m4 * 1) (f := a1.Bits) (nn := 4) (m := m4) (fo := 0) (pre := []) (post := []) (by kernel_rfl) (by kernel_rfl) (by kernel_rfl) (inR_lt hm4) (by kernel_rfl) (by kernel_rfl) (by kernel_rfl)) ?_
  refine zdRun (n := 2) (j := 7) (ts := [[], []]) (acc' := [[], [], [], [], [(24, false)], [], []]) rfl (by kernel_rfl) (by kernel_rfl) (by kernel_rfl) ?_
  refine bindE hS (fun z5 hz5 hS => ?_)
  refine zdOp (d := some 12) (op := (.sh .shl (.const (.int .u64 1)) (.tmp 11))) (g := none) (v := (.d (.int .u64 (IntKind.u64.wrap (1 * 2 ^ (min ((Int.tmod a2 64) : Int).toNat 64)))))) (ups := []) (j := 8) (t1 := []) (acc' := [[], [], [], [], [(24, false)], [], [], []]) (by kernel_rfl) (by kernel_rfl) rfl (by kernel_rfl) (by kernel_rfl) (ev_sh (kk := .u64) (k2 := .i64) (a := 1) (c := (Int.tmod a2 64)) (by kernel_rfl) (by kernel_rfl) (sh_l hz5)) ?_
  refine bindE hS (fun z6 hz6 hS => ?_)
  refine zdOp (d := some 13) (op := (.arI .quo (.tmp 9) (.tmp 12))) (g := none) (v := (.d (.int .u64 (IntKind.u64.wrap (Int.tdiv (a1.Bits m4) (IntKind.u64.wrap (1 * 2 ^ (min ((Int.tmod a2 64) : Int).toNat 64)))))))) (ups := []) (j := 9) (t1 := []) (acc' := [[], [], [], [], [(24, false)], [], [], [], []]) (by kernel_rfl) (by kernel_rfl) rfl (by kernel_rfl) (by kernel_rfl) (ev_arI (kk := .u64) (a := (a1.Bits m4)) (c := (IntKind.u64.wrap (1 * 2 ^ (min ((Int.tmod a2 64) : Int).toNat 64)))) (by kernel_rfl) (by kernel_rfl) (div_ok hz6)) ?_
  refine zdRun (n := 1) (j := 10) (ts := [[]]) (acc' := [[], [], [], [], [(24, false)], [], [], [], [], []]) rfl (by kernel_rfl) (by kernel_rfl) (by kernel_rfl) ?_
  refine zdBool (d := 15) (op := (.cmpI .eql (.tmp 14) (.const (.int .u64 1)))) (g := none) (j := 11) (t1 := []) (acc' := [[], [], [], [], [(24, false)], [], [], [], [], [], []]) (decide ((Int.tmod (IntKind.u64.wrap (Int.tdiv (a1.Bits m4) (IntKind.u64.wrap (1 * 2 ^ (min ((Int.tmod a2 64) : Int).toNat 64))))) 2) = 1)) (by kernel_rfl) (by kernel_rfl) rfl (by kernel_rfl) (by kernel_rfl) (by kernel_rfl) (fun hc => ?_) (fun hc => ?_)
  · replace hS := cond_t hc hS
    refine zdRun (n := 1) (j := 12) (ts := [[]]) (acc' := [[], [], [], [], [(24, false)], [], [], [], [], [], [], []]) rfl (by kernel_rfl) (by kernel_rfl) (by kernel_rfl) ?_
    refine zdEnd (by kernel_rfl) (by kernel_rfl) ?_
    refine zkSeq ?_
    refine zrRet ?_
    refine zkNil ?_
    exact endQ hS hQ (fRet ((congrArg (fun s => outR s 0 c31.res) (by kernel_rfl : finSt c31.fin _ = f31_fin true)).trans (f31_out true)))
  · replace hS := cond_f hc hS
    refine zdRun (n := 1) (j := 12) (ts := [[]]) (acc' := [[], [], [], [], [(24, false)], [], [], [], [], [], [], []]) rfl (by kernel_rfl) (by kernel_rfl) (by kernel_rfl) ?_
    refine zdEnd (by kernel_rfl) (by kernel_rfl) ?_
    refine zkSeq ?_
    refine zrRet ?_
    refine zkNil ?_
    exact endQ hS hQ (fRet ((congrArg (fun s => outR s 0 c31.res) (by kernel_rfl : finSt c31.fin _ = f31_fin false)).trans (f31_out false)))
/- farwriter/farref.KeyOf -/
def f32_fin (p2 : Int) : St := ⟨(up (fun _ => .un) 4 (.d (.int .i64 p2))), (hB fun _ => 0)⟩
theorem f32_out (p2 : Int) : outR (f32_fin p2) 0 c32.res = some ((.d (.int .i64 p2)), []) := by
  kernel_rfl
def f32_Q (r : Int) (e : PX) (st : St) : Prop := DoneF c32 0 ((.d (.int .i64 r)), []) e st
noncomputable def f32 (a1 : GKeys) (a2 : Int) : Option (Int) := ((inR a2 19).bind fun m3 => (bif (decide (((a1.Levels m3).toNat : Int) = 0)) then (some (-1)) else ((inR a2 19).bind fun m4 => (some ((a1.Chars m4).toNat : Int)))))
theorem f32_ok (d : Nat) (hd : 1 ≤ d) (a1 : GKeys) (a2 : Int) (r : Int) (hS : f32 a1 a2 = some r) : lev codes baseL d 32 [(.agg ((eU8.row 19 a1.Levels) ++ ((eU8.row 19 a1.Chars) ++ []))), (.d (.int .i64 a2))] [] = some ((.d (.int .i64 r)), []) := by
  refine lev_go codes32 rfl rfl (Nat.le_trans (Nat.le_of_ble_eq_true rfl) hd) fun Q hQ => ?_
  unfold f32 at hS
  show ZR _ Q c32_b [] _
  replace hQ : ∀ e st', f32_Q r e st' → Q e st' := hQ
  refine zrSeq ?_
  refine zrReg ?_
  refine zlRun (n := 2) (j := 2) rfl (by kernel_rfl) ?_
  refine zlEnd (by kernel_rfl) ?_
  refine zkSeq ?_
  refine zrSeq ?_
  refine zrSeq ?_
  refine zrReg ?_
  refine zlRun (n := 2) (j := 2) rfl (by kernel_rfl) ?_
  refine bindE hS (fun m3 hm3 hS => ?_)
  refine zlOp (d := some 7) (op := (.ixA 19 1 (.tmp 6) (.tmp 5))) (g := none) (v := (.r (.ptr 24 1 (0 + m3 * 1)))) (ups := []) (j := 3) rfl (by kernel_rfl) (by kernel_rfl) (ev_ixA (kk := .i64) (b := 24) (g := 1) (o := 0) (j := a2) (by kernel_rfl) (by kernel_rfl) hm3) ?_
  refine zlOp (d := some 8) (op := (.load .false 1 (.tmp 7))) (g := none) (v := (.d (.int .u8 ((a1.Levels m3).toNat : Int)))) (ups := []) (j := 4) rfl (by kernel_rfl) (by kernel_rfl) (ev_loadA eU8 (b := 24) (g := 1) (o := 0 + m3 * 1) (f := a1.Levels) (nn := 19) (m := m3) (fo := 0) (pre := []) (post := ((eU8.row 19 a1.Chars) ++ [])) (by kernel_rfl) (by kernel_rfl) (by kernel_rfl) (inR_lt hm3) (by kernel_rfl) (by kernel_rfl) (by kernel_rfl)) ?_
  refine zlBool (d := 9) (op := (.cmpI .eql (.tmp 8) (.const (.int .u8 0)))) (g := none) (j := 5) (decide (((a1.Levels m3).toNat : Int) = 0)) rfl (by kernel_rfl) (by kernel_rfl) (by kernel_rfl) (fun hc => ?_) (fun hc => ?_)
  · replace hS := cond_t hc hS
    refine zlEnd (by kernel_rfl) ?_
    refine zkSeq ?_
    refine zrCondT (by kernel_rfl) ?_
    refine zrSeq ?_
    refine zrReg ?_
    refine zlRun (n := 1) (j := 1) rfl (by kernel_rfl) ?_
    refine zlEnd (by kernel_rfl) ?_
    refine zkSeq ?_
    refine zrRet ?_
    refine zkSeqR ?_
    refine zkNil ?_
    exact endQ hS hQ (fRet ((congrArg (fun s => outR s 0 c32.res) (by kernel_rfl : finSt c32.fin _ = f32_fin (-1))).trans (f32_out (-1))))
  · replace hS := cond_f hc hS
    refine zlEnd (by kernel_rfl) ?_
    refine zkSeq ?_
    refine zrCondF (by kernel_rfl) ?_
    refine zrSkip ?_
    refine zkSeq ?_
    refine zrSeq ?_
    refine zrReg ?_
    refine zlRun (n := 2) (j := 2) rfl (by kernel_rfl) ?_
    refine bindE hS (fun m4 hm4 hS => ?_)
    refine zlOp (d := some 12) (op := (.ixA 19 1 (.tmp 11) (.tmp 10))) (g := none) (v := (.r (.ptr 24 1 (19 + m4 * 1)))) (ups := []) (j := 3) rfl (by kernel_rfl) (by kernel_rfl) (ev_ixA (kk := .i64) (b := 24) (g := 1) (o := 19) (j := a2) (by kernel_rfl) (by kernel_rfl) hm4) ?_
    refine zlOp (d := some 13) (op := (.load .false 1 (.tmp 12))) (g := none) (v := (.d (.int .u8 ((a1.Chars m4).toNat : Int)))) (ups := []) (j := 4) rfl (by kernel_rfl) (by kernel_rfl) (ev_loadA eU8 (b := 24) (g := 1) (o := 19 + m4 * 1) (f := a1.Chars) (nn := 19) (m := m4) (fo := 0) (pre := ((eU8.row 19 a1.Levels) ++ [])) (post := []) (by kernel_rfl) (by kernel_rfl) (by kernel_rfl) (inR_lt hm4) (by kernel_rfl) (by kernel_rfl) (by kernel_rfl)) ?_
    refine zlOp (d := some 14) (op := (.cvI .i64 (.tmp 13))) (g := none) (v := (.d (.int .i64 ((a1.Chars m4).toNat : Int)))) (ups := []) (j := 5) rfl (by kernel_rfl) (by kernel_rfl) (ev_cv (kk := .u8) (a := ((a1.Chars m4).toNat : Int)) (by kernel_rfl) (cv_i64 _)) ?_
    refine zlRun (n := 1) (j := 6) rfl (by kernel_rfl) ?_
    refine zlEnd (by kernel_rfl) ?_
    refine zkSeq ?_
    refine zrRet ?_
    refine zkNil ?_
    exact endQ hS hQ (fRet ((congrArg (fun s => outR s 0 c32.res) (by kernel_rfl : finSt c32.fin _ = f32_fin ((a1.Chars m4).toNat : Int))).trans (f32_out ((a1.Chars m4).toNat : Int))))
/- farwriter/farkeep.LinePlain$1 -/
def f30_fin (p2 : Bool) : St := ⟨(up (fun _ => .un) 4 (.d (.bool p2))), (hB fun _ => 0)⟩
theorem f30_out (p2 : Bool) : outR (f30_fin p2) 0 c30.res = some ((.d (.bool p2)), []) := by
  kernel_rfl
def f30_Q (r : Bool) (e : PX) (st : St) : Prop := DoneF c30 0 ((.d (.bool r)), []) e st
noncomputable def f30 (a1 : UInt8) (a2 : GMask) (a3 : List PD) (a4 : GKeys) (a5 : List PD) : Option (Bool) := (bif (decide ((a1.toNat : Int) = 13)) then (some true) else (bif (decide ((a1.toNat : Int) = 10)) then (some true) else ((f31 a2 (a1.toNat : Int)).bind fun z4 => (bif z4 then (some true) else ((f32 a4 17).bind fun z5 => (bif (decide ((a1.toNat : Int) = z5)) then (some true) else ((f32 a4 18).bind fun z6 => (bif (decide ((a1.toNat : Int) = z6)) then (some true) else (some false)))))))))
theorem f30_ok (d : Nat) (hd : 2 ≤ d) (a1 : UInt8) (a2 : GMask) (a3 : List PD) (a4 : GKeys) (a5 : List PD) (r : Bool) (hS : f30 a1 a2 a3 a4 a5 = some r) : lev codes baseL d 30 [(.d (.int .u8 (a1.toNat : Int))), (.rptr (e_RGMask.enc a2 ++ a3)), (.rptr (e_RGKeys.enc a4 ++ a5))] [] = some ((.d (.bool r)), []) := by
  refine lev_go codes30 rfl rfl (Nat.le_trans (Nat.le_of_ble_eq_true rfl) hd) fun Q hQ => ?_
  unfold f30 at hS
  show ZR _ Q c30_b [] _
  replace hQ : ∀ e st', f30_Q r e st' → Q e st' := hQ
  refine zrSeq ?_
  refine zrReg ?_
  refine zlRun (n := 1) (j := 1) rfl (by kernel_rfl) ?_
  refine zlEnd (by kernel_rfl) ?_
  refine zkSeq ?_
  refine zrSeq ?_
  refine zrReg ?_
  refine zlRun (n := 1) (j := 1) rfl (by kernel_rfl) ?_
  refine zlBool (d := 6) (op := (.cmpI .eql (.tmp 5) (.const (.int .u8 13)))) (g := none) (j := 2) (decide ((a1.toNat : Int) = 13)) rfl (by kernel_rfl) (by kernel_rfl) (by kernel_rfl) (fun hc => ?_) (fun hc => ?_)
  · replace hS := cond_t hc hS
    refine zlRun (n := 25) (j := 27) rfl (by kernel_rfl) ?_
    refine zlEnd (by kernel_rfl) ?_
    refine zkSeq ?_
    refine zrRet ?_
    refine zkNil ?_
    exact endQ hS hQ (fRet ((congrArg (fun s => outR s 0 c30.res) (by kernel_rfl : finSt c30.fin _ = f30_fin true)).trans (f30_out true)))
  · replace hS := cond_f hc hS
    refine zlRun (n := 2) (j := 4) rfl (by kernel_rfl) ?_
    refine zlBool (d := 9) (op := (.cmpI .eql (.tmp 8) (.const (.int .u8 10)))) (g := (some (7, false))) (j := 5) (decide ((a1.toNat : Int) = 10)) rfl (by kernel_rfl) (by kernel_rfl) (by kernel_rfl) (fun hc => ?_) (fun hc => ?_)
    · replace hS := cond_t hc hS
      refine zlRun (n := 22) (j := 27) rfl (by kernel_rfl) ?_
      refine zlEnd (by kernel_rfl) ?_
      refine zkSeq ?_
      refine zrRet ?_
      refine zkNil ?_
      exact endQ hS hQ (fRet ((congrArg (fun s => outR s 0 c30.res) (by kernel_rfl : finSt c30.fin _ = f30_fin true)).trans (f30_out true)))
    · replace hS := cond_f hc hS
      refine zlRun (n := 4) (j := 9) rfl (by kernel_rfl) ?_
      refine zlOp (d := some 14) (op := (.cvI .i64 (.tmp 13))) (g := (some (11, false))) (v := (.d (.int .i64 (a1.toNat : Int)))) (ups := []) (j := 10) rfl (by kernel_rfl) (by kernel_rfl) (ev_cv (kk := .u8) (a := (a1.toNat : Int)) (by kernel_rfl) (cv_i64 _)) ?_
      refine bindE hS (fun z4 hz4 hS => ?_)
      refine zlOp (d := some 15) (op := (.call 31 [(.tmp 12), (.tmp 14)])) (g := (some (11, false))) (v := (.d (.bool z4))) (ups := []) (j := 11) rfl (by kernel_rfl) (by kernel_rfl) (ev_call (args := [(.agg (((eInt .u64).row 4 a2.Bits) ++ [])), (.d (.int .i64 (a1.toNat : Int)))]) (l := [(.agg (((eInt .u64).row 4 a2.Bits) ++ [])), (.d (.int .i64 (a1.toNat : Int)))]) (r := (.d (.bool z4))) (by kernel_rfl) (by kernel_rfl) (f31_ok (d - 1) (dpt hd rfl) a2 (a1.toNat : Int) z4 hz4) (by kernel_rfl) (by kernel_rfl) (by kernel_rfl)) ?_
      refine zlRun (n := 2) (j := 13) rfl (by kernel_rfl) ?_
      refine zlSplit 17 z4 (by kernel_rfl) (fun hc => ?_) (fun hc => ?_)
      · replace hS := cond_t hc hS
        refine zlRun (n := 14) (j := 27) rfl (by kernel_rfl) ?_
        refine zlEnd (by kernel_rfl) ?_
        refine zkSeq ?_
        refine zrRet ?_
        refine zkNil ?_
        exact endQ hS hQ (fRet ((congrArg (fun s => outR s 0 c30.res) (by kernel_rfl : finSt c30.fin _ = f30_fin true)).trans (f30_out true)))
      · replace hS := cond_f hc hS
        refine zlRun (n := 1) (j := 14) rfl (by kernel_rfl) ?_
        refine zlOp (d := some 19) (op := (.cvI .i64 (.tmp 18))) (g := (some (17, false))) (v := (.d (.int .i64 (a1.toNat : Int)))) (ups := []) (j := 15) rfl (by kernel_rfl) (by kernel_rfl) (ev_cv (kk := .u8) (a := (a1.toNat : Int)) (by kernel_rfl) (cv_i64 _)) ?_
        refine zlRun (n := 1) (j := 16) rfl (by kernel_rfl) ?_
        refine bindE hS (fun z5 hz5 hS => ?_)
        refine zlOp (d := some 21) (op := (.call 32 [(.tmp 20), (.const (.int .i64 17))])) (g := (some (17, false))) (v := (.d (.int .i64 z5))) (ups := []) (j := 17) rfl (by kernel_rfl) (by kernel_rfl) (ev_call (args := [(.agg ((eU8.row 19 a4.Levels) ++ ((eU8.row 19 a4.Chars) ++ []))), (.d (.int .i64 17))]) (l := [(.agg ((eU8.row 19 a4.Levels) ++ ((eU8.row 19 a4.Chars) ++ []))), (.d (.int .i64 17))]) (r := (.d (.int .i64 z5))) (by kernel_rfl) (by kernel_rfl) (f32_ok (d - 1) (dpt hd rfl) a4 17 z5 hz5) (by kernel_rfl) (by kernel_rfl) (by kernel_rfl)) ?_
        refine zlBool (d := 22) (op := (.cmpI .eql (.tmp 19) (.tmp 21))) (g := (some (17, false))) (j := 18) (decide ((a1.toNat : Int) = z5)) rfl (by kernel_rfl) (by kernel_rfl) (by kernel_rfl) (fun hc => ?_) (fun hc => ?_)
        · replace hS := cond_t hc hS
          refine zlRun (n := 9) (j := 27) rfl (by kernel_rfl) ?_
          refine zlEnd (by kernel_rfl) ?_
          refine zkSeq ?_
          refine zrRet ?_
          refine zkNil ?_
          exact endQ hS hQ (fRet ((congrArg (fun s => outR s 0 c30.res) (by kernel_rfl : finSt c30.fin _ = f30_fin true)).trans (f30_out true)))
        · replace hS := cond_f hc hS
          refine zlRun (n := 3) (j := 21) rfl (by kernel_rfl) ?_
          refine zlOp (d := some 26) (op := (.cvI .i64 (.tmp 25))) (g := (some (24, false))) (v := (.d (.int .i64 (a1.toNat : Int)))) (ups := []) (j := 22) rfl (by kernel_rfl) (by kernel_rfl) (ev_cv (kk := .u8) (a := (a1.toNat : Int)) (by kernel_rfl) (cv_i64 _)) ?_
          refine zlRun (n := 1) (j := 23) rfl (by kernel_rfl) ?_
          refine bindE hS (fun z6 hz6 hS => ?_)
          refine zlOp (d := some 28) (op := (.call 32 [(.tmp 27), (.const (.int .i64 18))])) (g := (some (24, false))) (v := (.d (.int .i64 z6))) (ups := []) (j := 24) rfl (by kernel_rfl) (by kernel_rfl) (ev_call (args := [(.agg ((eU8.row 19 a4.Levels) ++ ((eU8.row 19 a4.Chars) ++ []))), (.d (.int .i64 18))]) (l := [(.agg ((eU8.row 19 a4.Levels) ++ ((eU8.row 19 a4.Chars) ++ []))), (.d (.int .i64 18))]) (r := (.d (.int .i64 z6))) (by kernel_rfl) (by kernel_rfl) (f32_ok (d - 1) (dpt hd rfl) a4 18 z6 hz6) (by kernel_rfl) (by kernel_rfl) (by kernel_rfl)) ?_
          refine zlBool (d := 29) (op := (.cmpI .eql (.tmp 26) (.tmp 28))) (g := (some (24, false))) (j := 25) (decide ((a1.toNat : Int) = z6)) rfl (by kernel_rfl) (by kernel_rfl) (by kernel_rfl) (fun hc => ?_) (fun hc => ?_)
          · replace hS := cond_t hc hS
            refine zlRun (n := 2) (j := 27) rfl (by kernel_rfl) ?_
            refine zlEnd (by kernel_rfl) ?_
            refine zkSeq ?_
            refine zrRet ?_
            refine zkNil ?_
            exact endQ hS hQ (fRet ((congrArg (fun s => outR s 0 c30.res) (by kernel_rfl : finSt c30.fin _ = f30_fin true)).trans (f30_out true)))
          · replace hS := cond_f hc hS
            refine zlRun (n := 2) (j := 27) rfl (by kernel_rfl) ?_
            refine zlEnd (by kernel_rfl) ?_
            refine zkSeq ?_
            refine zrRet ?_
            refine zkNil ?_
            exact endQ hS hQ (fRet ((congrArg (fun s => outR s 0 c30.res) (by kernel_rfl : finSt c30.fin _ = f30_fin false)).trans (f30_out false)))
/- strings.Join -/
theorem libJoin_ok (d : Nat) (hd : 0 ≤ d) (a1 : List (List UInt8)) (a2 : List UInt8) (r : List UInt8) (hS : libJoin a1 a2 = some r) : lev codes baseL d 33 [(.d (.sl a1.length (eStr.cells a1))), (.d (.str a2))] [] = some ((.d (.str r)), []) := lib_call (l := libs) rfl rfl rfl (oSsS_ hS) d
/- farwriter/farkeep.LinePlain -/
def f9_fin (p438 : Bool) : St := ⟨(up (fun _ => .un) 6 (.d (.bool p438))), (hB fun _ => 0)⟩
theorem f9_out (p438 : Bool) : outR (f9_fin p438) 0 c9.res = some ((.d (.bool p438)), []) := by
  kernel_rfl
def f9_Q (r : Bool) (e : PX) (st : St) : Prop := DoneF c9 0 ((.d (.bool r)), []) e st
def f9_j3_J (a1 : GKeys) (a2 : GMask) (a3 : List UInt8) (p883 : GEditor) (p884 : List (List UInt8)) (p885 : List UInt8) : St := ⟨(up (up (up (up (fun _ => .un) 9 (.d (.str p885))) 8 (.r (.msl 192 0 0 p884.length))) 7 (.r (.ptr 64 0 0))) 2 (.d (.str a3))), (up (up (hB fun _ => 0) 192 ⟨0, some (.own 9 1 (eStr.cells p884))⟩) 64 ⟨0, some (.box ((.d (.str p883.Buf)) :: ((.d (.bool p883.Quote)) :: [])))⟩)⟩
noncomputable def f9_j3 (a1 : GKeys) (a2 : GMask) (a3 : List UInt8) (p883 : GEditor) (p884 : List (List UInt8)) (p885 : List UInt8) : Option (Bool) := ((libJoin p884 []).bind fun z97 => ((cat? z97 p883.Buf).bind fun z98 => (bif (decide (z98 = a3)) then (bif (decide (p885 = a3)) then (some (!p883.Quote)) else (some false)) else (some false))))
theorem f9_j3_ok {d : Nat} (hd : 6 ≤ d) (a1 : GKeys) (a2 : GMask) (a3 : List UInt8) {r : Bool} {Q : PX → St → Prop} (hQ : ∀ e st', f9_Q r e st' → Q e st') (p883 : GEditor) (p884 : List (List UInt8)) (p885 : List UInt8) (hS : f9_j3 a1 a2 a3 p883 p884 p885 = some r) {st : St} (he : keepSt [2, 7, 8, 9] [(64, .id 64), (192, .id 192)] [] st = f9_j3_J a1 a2 a3 p883 p884 p885) : ZR (lev codes baseL (d - 1)) Q c9_1 [] st := by
  refine zrKeep he ?_
  unfold f9_j3 at hS
  refine zrSeq ?_
  refine zrRegD ?_
  refine zdRun (n := 1) (j := 1) (ts := [[]]) (acc' := [[]]) rfl (by kernel_rfl) (by kernel_rfl) (by kernel_rfl) ?_
  refine bindE hS (fun z97 hz97 hS => ?_)
  refine zdOp (d := some 96) (op := (.call 33 [(.tmp 95), (.const (.string ⟨#[]⟩))])) (g := none) (v := (.d (.str z97))) (ups := []) (j := 2) (t1 := [(192, false), (776, true), (777, true), (778, true), (779, true), (780, true), (781, true), (782, true), (783, true)]) (acc' := [[], [(192, false), (776, true), (777, true), (778, true), (779, true), (780, true), (781, true), (782, true), (783, true)]]) (by kernel_rfl) (by kernel_rfl) rfl (by kernel_rfl) (by kernel_rfl) (ev_call (args := [(.r (.msl 192 0 0 p884.length)), (.d (.str ([])))]) (l := [(.d (.sl p884.length (eStr.cells p884))), (.d (.str ([])))]) (r := (.d (.str z97))) (by kernel_rfl) (l_cons (l_own eStr (e := 9) (k := 1) (xs := p884) (by kernel_rfl) rfl rfl) (l_cons (by kernel_rfl) l_nil)) (libJoin_ok (d - 1) (dpt hd rfl) p884 [] z97 hz97) (by kernel_rfl) (by kernel_rfl) (by kernel_rfl)) ?_
  refine zdRun (n := 2) (j := 4) (ts := [[], [(64, false)]]) (acc' := [[], [(192, false), (776, true), (777, true), (778, true), (779, true), (780, true), (781, true), (782, true), (783, true)], [], [(64, false)]]) rfl (by kernel_rfl) (by kernel_rfl) (by kernel_rfl) ?_
  refine bindE hS (fun z98 hz98 hS => ?_)
  refine zdOp (d := some 99) (op := (.strO .add (.tmp 96) (.tmp 98))) (g := none) (v := (.d (.str z98))) (ups := []) (j := 5) (t1 := []) (acc' := [[], [(192, false), (776, true), (777, true), (778, true), (779, true), (780, true), (781, true), (782, true), (783, true)], [], [(64, false)], []]) (by kernel_rfl) (by kernel_rfl) rfl (by kernel_rfl) (by kernel_rfl) (ev_cat (a := z97) (c := p883.Buf) (by kernel_rfl) (by kernel_rfl) hz98) ?_
  refine zdRun (n := 1) (j := 6) (ts := [[]]) (acc' := [[], [(192, false), (776, true), (777, true), (778, true), (779, true), (780, true), (781, true), (782, true), (783, true)], [], [(64, false)], [], []]) rfl (by kernel_rfl) (by kernel_rfl) (by kernel_rfl) ?_
  refine zdBool (d := 101) (op := (.strO .eql (.tmp 99) (.tmp 100))) (g := none) (j := 7) (t1 := []) (acc' := [[], [(192, false), (776, true), (777, true), (778, true), (779, true), (780, true), (781, true), (782, true), (783, true)], [], [(64, false)], [], [], []]) (decide (z98 = a3)) (by kernel_rfl) (by kernel_rfl) rfl (by kernel_rfl) (by kernel_rfl) (by kernel_rfl) (fun hc => ?_) (fun hc => ?_)
  · replace hS := cond_t hc hS
    refine zdRun (n := 3) (j := 10) (ts := [[], [], []]) (acc' := [[], [(192, false), (776, true), (777, true), (778, true), (779, true), (780, true), (781, true), (782, true), (783, true)], [], [(64, false)], [], [], [], [], [], []]) rfl (by kernel_rfl) (by kernel_rfl) (by kernel_rfl) ?_
    refine zdBool (d := 105) (op := (.strO .eql (.tmp 103) (.tmp 104))) (g := (some (102, true))) (j := 11) (t1 := []) (acc' := [[], [(192, false), (776, true), (777, true), (778, true), (779, true), (780, true), (781, true), (782, true), (783, true)], [], [(64, false)], [], [], [], [], [], [], []]) (decide (p885 = a3)) (by kernel_rfl) (by kernel_rfl) rfl (by kernel_rfl) (by kernel_rfl) (by kernel_rfl) (fun hc => ?_) (fun hc => ?_)
    · replace hS := cond_t hc hS
      refine zdRun (n := 7) (j := 18) (ts := [[], [], [], [(64, false)], [], [], []]) (acc' := [[], [(192, false), (776, true), (777, true), (778, true), (779, true), (780, true), (781, true), (782, true), (783, true)], [], [(64, false)], [], [], [], [], [], [], [], [], [], [], [(64, false)], [], [], []]) rfl (by kernel_rfl) (by kernel_rfl) (by kernel_rfl) ?_
      refine zdEnd (by kernel_rfl) (by kernel_rfl) ?_
      refine zkSeq ?_
      refine zrRet ?_
      refine zkNil ?_
      exact endQ hS hQ (fRet ((congrArg (fun s => outR s 0 c9.res) (by kernel_rfl : finSt c9.fin _ = f9_fin (!p883.Quote))).trans (f9_out (!p883.Quote))))
    · replace hS := cond_f hc hS
      refine zdRun (n := 7) (j := 18) (ts := [[], [], [], [], [], [], []]) (acc' := [[], [(192, false), (776, true), (777, true), (778, true), (779, true), (780, true), (781, true), (782, true), (783, true)], [], [(64, false)], [], [], [], [], [], [], [], [], [], [], [], [], [], []]) rfl (by kernel_rfl) (by kernel_rfl) (by kernel_rfl) ?_
      refine zdEnd (by kernel_rfl) (by kernel_rfl) ?_
      refine zkSeq ?_
      refine zrRet ?_
      refine zkNil ?_
      exact endQ hS hQ (fRet ((congrArg (fun s => outR s 0 c9.res) (by kernel_rfl : finSt c9.fin _ = f9_fin false)).trans (f9_out false)))
  · replace hS := cond_f hc hS
    refine zdRun (n := 11) (j := 18) (ts := [[], [], [], [], [], [], [], [], [], [], []]) (acc' := [[], [(192, false), (776, true), (777, true), (778, true), (779, true), (780, true), (781, true), (782, true), (783, true)], [], [(64, false)], [], [], [], [], [], [], [], [], [], [], [], [], [], []]) rfl (by kernel_rfl) (by kernel_rfl) (by kernel_rfl) ?_
    refine zdEnd (by kernel_rfl) (by kernel_rfl) ?_
    refine zkSeq ?_
    refine zrRet ?_
    refine zkNil ?_
    exact endQ hS hQ (fRet ((congrArg (fun s => outR s 0 c9.res) (by kernel_rfl : finSt c9.fin _ = f9_fin false)).trans (f9_out false)))
def f9_l4_J (a1 : GKeys) (a2 : GMask) (a3 : List UInt8) (x : GEditor × (List (List UInt8)) × (List UInt8) × Int × Int) : St := ⟨(up (up (up (up (up (up (up (up (fun _ => .un) 73 (.d (.int .i64 x.2.2.2.2))) 72 (.d (.int .i64 x.2.2.2.1))) 71 (.r (.msl 192 0 0 x.2.1.length))) 12 (.fn 30 [(.r (.ptr 40 0 0)), (.r (.ptr 32 0 0))])) 9 (.d (.str x.2.2.1))) 8 (.r (.msl 192 0 0 x.2.1.length))) 7 (.r (.ptr 64 0 0))) 2 (.d (.str a3))), (up (up (up (up (hB fun _ => 0) 32 ⟨0, some (.box ((eU8.row 19 a1.Levels) ++ ((eU8.row 19 a1.Chars) ++ [])))⟩) 40 ⟨0, some (.box (((eInt .u64).row 4 a2.Bits) ++ []))⟩) 192 ⟨0, some (.own 9 1 (eStr.cells x.2.1))⟩) 64 ⟨0, some (.box ((.d (.str x.1.Buf)) :: ((.d (.bool x.1.Quote)) :: [])))⟩)⟩
def f9_l4_H (a1 : GKeys) (a2 : GMask) (a3 : List UInt8) (x : GEditor × (List (List UInt8)) × (List UInt8) × Int × Int) (st : St) : Prop := keepSt [2, 7, 8, 9, 12, 71, 72, 73] [(64, .id 64), (192, .id 192), (40, .id 40), (32, .id 32)] [] st = f9_l4_J a1 a2 a3 x
def f9_l4_e6_J (a1 : GKeys) (a2 : GMask) (a3 : List UInt8) (p880 : GEditor) (p881 : List (List UInt8)) (p882 : List UInt8) : St := ⟨(up (up (up (up (fun _ => .un) 9 (.d (.str p882))) 8 (.r (.msl 192 0 0 p881.length))) 7 (.r (.ptr 64 0 0))) 2 (.d (.str a3))), (up (up (hB fun _ => 0) 192 ⟨0, some (.own 9 1 (eStr.cells p881))⟩) 64 ⟨0, some (.box ((.d (.str p880.Buf)) :: ((.d (.bool p880.Quote)) :: [])))⟩)⟩
def f9_l4_X (a1 : GKeys) (a2 : GMask) (a3 : List UInt8) (z : (GEditor × (List (List UInt8)) × (List UInt8)) ⊕ Bool) (e : PX) (st : St) : Prop := (match z with | .inl z => e = .exit 6 ∧ st = f9_l4_e6_J a1 a2 a3 z.1 z.2.1 z.2.2 | .inr z => e = .ret ∧ finSt c9.fin st = f9_fin z)
def f9_l4_j6_J (a1 : GKeys) (a2 : GMask) (a3 : List UInt8) (p898 : GEditor) (p899 : List (List UInt8)) (p900 : List UInt8) (p901 : Int) (p902 : Int) : St := ⟨(up (up (up (up (up (up (up (up (fun _ => .un) 73 (.d (.int .i64 p902))) 72 (.d (.int .i64 p901))) 71 (.r (.msl 192 0 0 p899.length))) 12 (.fn 30 [(.r (.ptr 40 0 0)), (.r (.ptr 32 0 0))])) 9 (.d (.str p900))) 8 (.r (.msl 192 0 0 p899.length))) 7 (.r (.ptr 64 0 0))) 2 (.d (.str a3))), (up (up (up (up (hB fun _ => 0) 32 ⟨0, some (.box ((eU8.row 19 a1.Levels) ++ ((eU8.row 19 a1.Chars) ++ [])))⟩) 40 ⟨0, some (.box (((eInt .u64).row 4 a2.Bits) ++ []))⟩) 192 ⟨0, some (.own 9 1 (eStr.cells p899))⟩) 64 ⟨0, some (.box ((.d (.str p898.Buf)) :: ((.d (.bool p898.Quote)) :: [])))⟩)⟩
noncomputable def f9_l4_j6 (a1 : GKeys) (a2 : GMask) (a3 : List UInt8) (p898 : GEditor) (p899 : List (List UInt8)) (p900 : List UInt8) (p901 : Int) (p902 : Int) : Option ((GEditor × (List (List UInt8)) × (List UInt8) × Int × Int) ⊕ ((GEditor × (List (List UInt8)) × (List UInt8)) ⊕ Bool)) := ((inR p902 p899.length).bind fun m99 => ((p899[m99]?).bind fun z100 => (bif (decide (z100 = ([] : List UInt8))) then (some (.inr (.inr false))) else ((idx z100 (IntKind.i64.wrap ((z100.length : Int) - 1))).bind fun z101 => ((f30 z101 a2 [] a1 []).bind fun z102 => (bif (!z102) then (bif (!decide ((z100.length : Int) = 1024)) then (some (.inr (.inr false))) else (some (.inl (p898, p899, p900, p901, (IntKind.i64.wrap (p902 + 1)))))) else (some (.inl (p898, p899, p900, p901, (IntKind.i64.wrap (p902 + 1)))))))))))
theorem f9_l4_j6_ok {d : Nat} (hd : 6 ≤ d) (a1 : GKeys) (a2 : GMask) (a3 : List UInt8) {r : (GEditor × (List (List UInt8)) × (List UInt8) × Int × Int) ⊕ ((GEditor × (List (List UInt8)) × (List UInt8)) ⊕ Bool)} {Q : PX → St → Prop} (hQ : ∀ e st', finL (f9_l4_H a1 a2 a3) (f9_l4_X a1 a2 a3) r e st' → Q e st') (p898 : GEditor) (p899 : List (List UInt8)) (p900 : List UInt8) (p901 : Int) (p902 : Int) (hS : f9_l4_j6 a1 a2 a3 p898 p899 p900 p901 p902 = some r) {st : St} (he : keepSt [2, 7, 8, 9, 12, 71, 72, 73] [(64, .id 64), (192, .id 192), (40, .id 40), (32, .id 32)] [] st = f9_l4_j6_J a1 a2 a3 p898 p899 p900 p901 p902) : ZR (lev codes baseL (d - 1)) Q c9_2 [] st := by
  refine zrKeep he ?_
  unfold f9_l4_j6 at hS
  refine zrSeq ?_
  refine zrBlk ?_
  refine zrSeq ?_
  refine zrReg ?_
  refine bindE hS (fun m99 hm99 hS => ?_)
  refine zlOp (d := some 75) (op := (.ixS 9 1 (.tmp 71) (.tmp 73))) (g := none) (v := (.r (.ptr 192 0 ((0 + m99) * 1)))) (ups := []) (j := 1) rfl (by kernel_rfl) (by kernel_rfl) (ev_ixM (kk := .i64) (b := 192) (g := 0) (l := 0) (n := p899.length) (j := p902) (cs := eStr.cells p899) (by kernel_rfl) (by kernel_rfl) (by kernel_rfl) hm99) ?_
  refine bindE hS (fun z100 hz100 hS => ?_)
  refine zlOp (d := some 76) (op := (.load .false 1 (.tmp 75))) (g := none) (v := (.d (.str z100))) (ups := []) (j := 2) rfl (by kernel_rfl) (by kernel_rfl) (ev_loadM eStr (b := 192) (g := 0) (o := (0 + m99) * 1) (e := 9) (k := 1) (m := m99) (fo := 0) (xs := p899) (by kernel_rfl) (by kernel_rfl) (by rw [Nat.zero_add]; rfl) hz100 (by kernel_rfl) (by kernel_rfl) (by kernel_rfl)) ?_
  refine zlRun (n := 1) (j := 3) rfl (by kernel_rfl) ?_
  refine zlEnd (by kernel_rfl) ?_
  refine zkSeq ?_
  refine zrSeq ?_
  refine zrReg ?_
  refine zlRun (n := 1) (j := 1) rfl (by kernel_rfl) ?_
  refine zlBool (d := 78) (op := (.strO .eql (.tmp 77) (.const (.string ⟨#[]⟩)))) (g := none) (j := 2) (decide (z100 = ([] : List UInt8))) rfl (by kernel_rfl) (by kernel_rfl) (by kernel_rfl) (fun hc => ?_) (fun hc => ?_)
  · replace hS := cond_t hc hS
    refine zlRun (n := 15) (j := 17) rfl (by kernel_rfl) ?_
    refine zlEnd (by kernel_rfl) ?_
    refine zkSeq ?_
    refine zrCondT (by kernel_rfl) ?_
    refine zrSeq ?_
    refine zrReg ?_
    refine zlRun (n := 1) (j := 1) rfl (by kernel_rfl) ?_
    refine zlEnd (by kernel_rfl) ?_
    refine zkSeq ?_
    refine zrRet ?_
    refine zkBlkR ?_
    refine zkSeqR ?_
    refine zkNil ?_
    exact endQ hS hQ (finL_x (by intro h; cases h) (by show _ = _ ∧ _ = _; exact ⟨rfl, by kernel_rfl⟩))
  · replace hS := cond_f hc hS
    refine zlRun (n := 6) (j := 8) rfl (by kernel_rfl) ?_
    refine bindE hS (fun z101 hz101 hS => ?_)
    refine zlOp (d := some 85) (op := (.ixStr (.tmp 81) (.tmp 84))) (g := (some (79, false))) (v := (.d (.int .u8 (z101.toNat : Int)))) (ups := []) (j := 9) rfl (by kernel_rfl) (by kernel_rfl) (ev_ixStr (kk := .i64) (s := z100) (j := (IntKind.i64.wrap ((z100.length : Int) - 1))) (by kernel_rfl) (by kernel_rfl) hz101) ?_
    refine bindE hS (fun z102 hz102 hS => ?_)
    refine zlOp (d := some 86) (op := (.callv (.tmp 80) [(.tmp 85)])) (g := (some (79, false))) (v := (.d (.bool z102))) (ups := []) (j := 10) rfl (by kernel_rfl) (by kernel_rfl) (ev_callv (f := 30) (cs := [(.r (.ptr 40 0 0)), (.r (.ptr 32 0 0))]) (by kernel_rfl) (args := [(.d (.int .u8 (z101.toNat : Int))), (.r (.ptr 40 0 0)), (.r (.ptr 32 0 0))]) (l := [(.d (.int .u8 (z101.toNat : Int))), (.rptr (e_RGMask.enc a2 ++ [])), (.rptr (e_RGKeys.enc a1 ++ []))]) (r := (.d (.bool z102))) (by kernel_rfl) (by kernel_rfl) (f30_ok (d - 1) (dpt hd rfl) z101 a2 [] a1 [] z102 hz102) (by kernel_rfl) (by kernel_rfl) (by kernel_rfl)) ?_
    refine zlRun (n := 2) (j := 12) rfl (by kernel_rfl) ?_
    refine zlSplit 88 (!z102) (by kernel_rfl) (fun hc => ?_) (fun hc => ?_)
    · replace hS := cond_t hc hS
      refine zlRun (n := 2) (j := 14) rfl (by kernel_rfl) ?_
      refine zlBool (d := 91) (op := (.cmpI .neq (.tmp 90) (.const (.int .i64 1024)))) (g := (some (88, true))) (j := 15) (!decide ((z100.length : Int) = 1024)) rfl (by kernel_rfl) (by kernel_rfl) (by kernel_rfl) (fun hc => ?_) (fun hc => ?_)
      · replace hS := cond_t hc hS
        refine zlRun (n := 2) (j := 17) rfl (by kernel_rfl) ?_
        refine zlEnd (by kernel_rfl) ?_
        refine zkSeq ?_
        refine zrCondT (by kernel_rfl) ?_
        refine zrSeq ?_
        refine zrReg ?_
        refine zlRun (n := 1) (j := 1) rfl (by kernel_rfl) ?_
        refine zlEnd (by kernel_rfl) ?_
        refine zkSeq ?_
        refine zrRet ?_
        refine zkBlkR ?_
        refine zkSeqR ?_
        refine zkNil ?_
        exact endQ hS hQ (finL_x (by intro h; cases h) (by show _ = _ ∧ _ = _; exact ⟨rfl, by kernel_rfl⟩))
      · replace hS := cond_f hc hS
        refine zlRun (n := 2) (j := 17) rfl (by kernel_rfl) ?_
        refine zlEnd (by kernel_rfl) ?_
        refine zkSeq ?_
        refine zrCondF (by kernel_rfl) ?_
        refine zrSkip ?_
        refine zkBlk ?_
        refine zkSeq ?_
        refine zrReg ?_
        refine zlRun (n := 2) (j := 2) rfl (by kernel_rfl) ?_
        refine zlEnd (by kernel_rfl) ?_
        refine zkNil ?_
        exact endQ hS hQ (finL_n (by show keepSt _ _ _ _ = _; kernel_rfl))
    · replace hS := cond_f hc hS
      refine zlRun (n := 5) (j := 17) rfl (by kernel_rfl) ?_
      refine zlEnd (by kernel_rfl) ?_
      refine zkSeq ?_
      refine zrCondF (by kernel_rfl) ?_
      refine zrSkip ?_
      refine zkBlk ?_
      refine zkSeq ?_
      refine zrReg ?_
      refine zlRun (n := 2) (j := 2) rfl (by kernel_rfl) ?_
      refine zlEnd (by kernel_rfl) ?_
      refine zkNil ?_
      exact endQ hS hQ (finL_n (by show keepSt _ _ _ _ = _; kernel_rfl))
def f9_l4_j5_J (a1 : GKeys) (a2 : GMask) (a3 : List UInt8) (p892 : GEditor) (p893 : List (List UInt8)) (p894 : List UInt8) (p895 : Int) (p896 : Int) (p897 : Bool) : St := ⟨(up (up (up (up (up (up (up (up (up (fun _ => .un) 74 (.d (.bool p897))) 73 (.d (.int .i64 p896))) 72 (.d (.int .i64 p895))) 71 (.r (.msl 192 0 0 p893.length))) 12 (.fn 30 [(.r (.ptr 40 0 0)), (.r (.ptr 32 0 0))])) 9 (.d (.str p894))) 8 (.r (.msl 192 0 0 p893.length))) 7 (.r (.ptr 64 0 0))) 2 (.d (.str a3))), (up (up (up (up (hB fun _ => 0) 32 ⟨0, some (.box ((eU8.row 19 a1.Levels) ++ ((eU8.row 19 a1.Chars) ++ [])))⟩) 40 ⟨0, some (.box (((eInt .u64).row 4 a2.Bits) ++ []))⟩) 192 ⟨0, some (.own 9 1 (eStr.cells p893))⟩) 64 ⟨0, some (.box ((.d (.str p892.Buf)) :: ((.d (.bool p892.Quote)) :: [])))⟩)⟩
noncomputable def f9_l4_j5 (a1 : GKeys) (a2 : GMask) (a3 : List UInt8) (p892 : GEditor) (p893 : List (List UInt8)) (p894 : List UInt8) (p895 : Int) (p896 : Int) (p897 : Bool) : Option ((GEditor × (List (List UInt8)) × (List UInt8) × Int × Int) ⊕ ((GEditor × (List (List UInt8)) × (List UInt8)) ⊕ Bool)) := (bif p897 then (f9_l4_j6 a1 a2 a3 p892 p893 p894 p895 p896) else (some (.inr (.inl (p892, p893, p894)))))
theorem f9_l4_j5_ok {d : Nat} (hd : 6 ≤ d) (a1 : GKeys) (a2 : GMask) (a3 : List UInt8) {r : (GEditor × (List (List UInt8)) × (List UInt8) × Int × Int) ⊕ ((GEditor × (List (List UInt8)) × (List UInt8)) ⊕ Bool)} {Q : PX → St → Prop} (hQ : ∀ e st', finL (f9_l4_H a1 a2 a3) (f9_l4_X a1 a2 a3) r e st' → Q e st') (p892 : GEditor) (p893 : List (List UInt8)) (p894 : List UInt8) (p895 : Int) (p896 : Int) (p897 : Bool) (hS : f9_l4_j5 a1 a2 a3 p892 p893 p894 p895 p896 p897 = some r) {st : St} (he : keepSt [2, 7, 8, 9, 12, 71, 72, 73, 74] [(64, .id 64), (192, .id 192), (40, .id 40), (32, .id 32)] [] st = f9_l4_j5_J a1 a2 a3 p892 p893 p894 p895 p896 p897) : ZR (lev codes baseL (d - 1)) Q c9_3 [] st := by
  refine zrKeep he ?_
  unfold f9_l4_j5 at hS
  refine zrSeq ?_
  refine zrSplit 74 p897 (by kernel_rfl) (fun hc => ?_) (fun hc => ?_)
  · replace hS := cond_t hc hS
    refine zrCondT (by kernel_rfl) ?_
    refine zrSkip ?_
    refine zkSeq ?_
    exact f9_l4_j6_ok hd a1 a2 a3 hQ p892 p893 p894 p895 p896 hS (by kernel_rfl)
  · replace hS := cond_f hc hS
    refine zrCondF (by kernel_rfl) ?_
    refine zrKeep (J := f9_l4_e6_J a1 a2 a3 p892 p893 p894) (by kernel_rfl) ?_
    refine zrExit ?_
    refine zkSeqX ?_
    refine zkNil ?_
    exact endQ hS hQ (finL_x (by intro h; cases h) (by show _ = _ ∧ _ = _; exact ⟨rfl, rfl⟩))
noncomputable def f9_l4 (a1 : GKeys) (a2 : GMask) (a3 : List UInt8) (x : GEditor × (List (List UInt8)) × (List UInt8) × Int × Int) : Option ((GEditor × (List (List UInt8)) × (List UInt8) × Int × Int) ⊕ ((GEditor × (List (List UInt8)) × (List UInt8)) ⊕ Bool)) := (bif (decide (x.2.2.2.2 < x.2.2.2.1)) then (f9_l4_j5 a1 a2 a3 x.1 x.2.1 x.2.2.1 x.2.2.2.1 x.2.2.2.2 true) else (f9_l4_j5 a1 a2 a3 x.1 x.2.1 x.2.2.1 x.2.2.2.1 x.2.2.2.2 false))
theorem f9_l4_ok {d : Nat} (hd : 6 ≤ d) (a1 : GKeys) (a2 : GMask) (a3 : List UInt8) {r : (GEditor × (List (List UInt8)) × (List UInt8) × Int × Int) ⊕ ((GEditor × (List (List UInt8)) × (List UInt8)) ⊕ Bool)} {Q : PX → St → Prop} (hQ : ∀ e st', finL (f9_l4_H a1 a2 a3) (f9_l4_X a1 a2 a3) r e st' → Q e st') {x : GEditor × (List (List UInt8)) × (List UInt8) × Int × Int} (hS : f9_l4 a1 a2 a3 x = some r) {st : St} (he : f9_l4_H a1 a2 a3 x st) : ZR (lev codes baseL (d - 1)) Q c9_4 [] st := by
  refine zrKeep he ?_
  unfold f9_l4 at hS
  refine zrSeq ?_
  refine zrReg ?_
  refine zlBool (d := 74) (op := (.cmpI .lss (.tmp 73) (.tmp 72))) (g := none) (j := 1) (decide (x.2.2.2.2 < x.2.2.2.1)) rfl (by kernel_rfl) (by kernel_rfl) (by kernel_rfl) (fun hc => ?_) (fun hc => ?_)
  · replace hS := cond_t hc hS
    refine zlEnd (by kernel_rfl) ?_
    refine zkSeq ?_
    exact f9_l4_j5_ok hd a1 a2 a3 hQ x.1 x.2.1 x.2.2.1 x.2.2.2.1 x.2.2.2.2 true hS (by kernel_rfl)
  · replace hS := cond_f hc hS
    refine zlEnd (by kernel_rfl) ?_
    refine zkSeq ?_
    exact f9_l4_j5_ok hd a1 a2 a3 hQ x.1 x.2.1 x.2.2.1 x.2.2.2.1 x.2.2.2.2 false hS (by kernel_rfl)
def f9_j2_J (a1 : GKeys) (a2 : GMask) (a3 : List UInt8) (p678 : GEditor) (p679 : List (List UInt8)) (p680 : List UInt8) : St := ⟨(up (up (up (up (up (fun _ => .un) 12 (.fn 30 [(.r (.ptr 40 0 0)), (.r (.ptr 32 0 0))])) 9 (.d (.str p680))) 8 (.r (.msl 192 0 0 p679.length))) 7 (.r (.ptr 64 0 0))) 2 (.d (.str a3))), (up (up (up (up (hB fun _ => 0) 32 ⟨0, some (.box ((eU8.row 19 a1.Levels) ++ ((eU8.row 19 a1.Chars) ++ [])))⟩) 40 ⟨0, some (.box (((eInt .u64).row 4 a2.Bits) ++ []))⟩) 192 ⟨0, some (.own 9 1 (eStr.cells p679))⟩) 64 ⟨0, some (.box ((.d (.str p678.Buf)) :: ((.d (.bool p678.Quote)) :: [])))⟩)⟩
noncomputable def f9_j2 (a1 : GKeys) (a2 : GMask) (a3 : List UInt8) (p678 : GEditor) (p679 : List (List UInt8)) (p680 : List UInt8) : Option (Bool) := ((loopO (f9_l4 a1 a2 a3) (p678, p679, p680, (p679.length : Int), 0)).bind fun z103 => (Sum.elim (fun z104 => (f9_j3 a1 a2 a3 z104.1 z104.2.1 z104.2.2)) (fun z105 => (some z105)) z103))
theorem f9_j2_ok {d : Nat} (hd : 6 ≤ d) (a1 : GKeys) (a2 : GMask) (a3 : List UInt8) {r : Bool} {Q : PX → St → Prop} (hQ : ∀ e st', f9_Q r e st' → Q e st') (p678 : GEditor) (p679 : List (List UInt8)) (p680 : List UInt8) (hS : f9_j2 a1 a2 a3 p678 p679 p680 = some r) {st : St} (he : keepSt [2, 7, 8, 9, 12] [(64, .id 64), (192, .id 192), (40, .id 40), (32, .id 32)] [] st = f9_j2_J a1 a2 a3 p678 p679 p680) : ZR (lev codes baseL (d - 1)) Q c9_5 [] st := by
  refine zrKeep he ?_
  unfold f9_j2 at hS
  refine zrSeq ?_
  refine zrSeq ?_
  refine zrReg ?_
  refine zlRun (n := 3) (j := 3) rfl (by kernel_rfl) ?_
  refine zlEnd (by kernel_rfl) ?_
  refine zkSeq ?_
  refine zrBlk ?_
  refine bindE hS (fun z103 hz103 hS => ?_)
  refine zrLoop (f9_l4_H a1 a2 a3) (f9_l4_X a1 a2 a3) (fun x st r Q h0 hS hQ => f9_l4_ok hd a1 a2 a3 hQ hS h0) (x := (p678, p679, p680, (p679.length : Int), 0)) (z := z103) (by show keepSt _ _ _ _ = _; kernel_rfl) hz103 ?_
  rcases z103 with z104 | z105
  · replace hS := (show _ = _ from hS)
    simp only [Sum.elim_inl] at hS
    intro e st' _ hX
    obtain ⟨rfl, rfl⟩ : _ ∧ _ := hX
    refine zkBlkX ?_
    refine zkSeq ?_
    exact f9_j3_ok hd a1 a2 a3 hQ z104.1 z104.2.1 z104.2.2 hS (by kernel_rfl)
  · simp only [Sum.elim_inr] at hS
    intro e st' _ hX
    obtain ⟨rfl, hX⟩ : _ ∧ _ := hX
    refine zkBlkR ?_
    refine zkSeqR ?_
    refine zkNil ?_
    exact endQ hS hQ (fRet ((congrArg (fun s => outR s 0 c9.res) hX).trans (f9_out z105)))
def f9_l7_J (a1 : GKeys) (a2 : GMask) (a3 : List UInt8) (x : GEditor × (List (List UInt8)) × (List UInt8) × (List (List UInt8)) × Int × Int) : St := ⟨(up (up (up (up (up (up (up (up (fun _ => .un) 54 (.d (.int .i64 x.2.2.2.2.2))) 53 (.d (.int .i64 x.2.2.2.2.1))) 52 (.r (.msl 392 0 0 x.2.2.2.1.length))) 12 (.fn 30 [(.r (.ptr 40 0 0)), (.r (.ptr 32 0 0))])) 9 (.d (.str x.2.2.1))) 8 (.r (.msl 192 0 0 x.2.1.length))) 7 (.r (.ptr 64 0 0))) 2 (.d (.str a3))), (up (up (up (up (up (hB fun _ => 0) 392 ⟨0, some (.own 9 1 (eStr.cells x.2.2.2.1))⟩) 32 ⟨0, some (.box ((eU8.row 19 a1.Levels) ++ ((eU8.row 19 a1.Chars) ++ [])))⟩) 40 ⟨0, some (.box (((eInt .u64).row 4 a2.Bits) ++ []))⟩) 192 ⟨0, some (.own 9 1 (eStr.cells x.2.1))⟩) 64 ⟨0, some (.box ((.d (.str x.1.Buf)) :: ((.d (.bool x.1.Quote)) :: [])))⟩)⟩
def f9_l7_H (a1 : GKeys) (a2 : GMask) (a3 : List UInt8) (x : GEditor × (List (List UInt8)) × (List UInt8) × (List (List UInt8)) × Int × Int) (st : St) : Prop := keepSt [2, 7, 8, 9, 12, 52, 53, 54] [(64, .id 64), (192, .id 192), (40, .id 40), (32, .id 32), (392, .id 392)] [] st = f9_l7_J a1 a2 a3 x
def f9_l7_e2_J (a1 : GKeys) (a2 : GMask) (a3 : List UInt8) (p1098 : GEditor) (p1099 : List (List UInt8)) (p1100 : List UInt8) : St := ⟨(up (up (up (up (up (fun _ => .un) 12 (.fn 30 [(.r (.ptr 40 0 0)), (.r (.ptr 32 0 0))])) 9 (.d (.str p1100))) 8 (.r (.msl 192 0 0 p1099.length))) 7 (.r (.ptr 64 0 0))) 2 (.d (.str a3))), (up (up (up (up (hB fun _ => 0) 32 ⟨0, some (.box ((eU8.row 19 a1.Levels) ++ ((eU8.row 19 a1.Chars) ++ [])))⟩) 40 ⟨0, some (.box (((eInt .u64).row 4 a2.Bits) ++ []))⟩) 192 ⟨0, some (.own 9 1 (eStr.cells p1099))⟩) 64 ⟨0, some (.box ((.d (.str p1098.Buf)) :: ((.d (.bool p1098.Quote)) :: [])))⟩)⟩
def f9_l7_X (a1 : GKeys) (a2 : GMask) (a3 : List UInt8) (z : (GEditor × (List (List UInt8)) × (List UInt8)) ⊕ Bool) (e : PX) (st : St) : Prop := (match z with | .inl z => e = .exit 2 ∧ st = f9_l7_e2_J a1 a2 a3 z.1 z.2.1 z.2.2 | .inr z => e = .ret ∧ finSt c9.fin st = f9_fin z)
def f9_l7_l10_J (a1 : GKeys) (a2 : GMask) (a3 : List UInt8) (x : GEditor × (List (List UInt8)) × (List UInt8) × (List UInt8) × Int × (List (List UInt8)) × Int × Int) : St := ⟨(up (up (up (up (up (up (up (up (up (up (fun _ => .un) 54 (.d (.int .i64 x.2.2.2.2.2.2.2))) 53 (.d (.int .i64 x.2.2.2.2.2.2.1))) 52 (.r (.msl 392 0 0 x.2.2.2.2.2.1.length))) 15 (.d (.int .i64 x.2.2.2.2.1))) 14 (.d (.str x.2.2.2.1))) 12 (.fn 30 [(.r (.ptr 40 0 0)), (.r (.ptr 32 0 0))])) 9 (.d (.str x.2.2.1))) 8 (.r (.msl 192 0 0 x.2.1.length))) 7 (.r (.ptr 64 0 0))) 2 (.d (.str a3))), (up (up (up (up (up (hB fun _ => 0) 392 ⟨0, some (.own 9 1 (eStr.cells x.2.2.2.2.2.1))⟩) 32 ⟨0, some (.box ((eU8.row 19 a1.Levels) ++ ((eU8.row 19 a1.Chars) ++ [])))⟩) 40 ⟨0, some (.box (((eInt .u64).row 4 a2.Bits) ++ []))⟩) 192 ⟨0, some (.own 9 1 (eStr.cells x.2.1))⟩) 64 ⟨0, some (.box ((.d (.str x.1.Buf)) :: ((.d (.bool x.1.Quote)) :: [])))⟩)⟩
def f9_l7_l10_H (a1 : GKeys) (a2 : GMask) (a3 : List UInt8) (x : GEditor × (List (List UInt8)) × (List UInt8) × (List UInt8) × Int × (List (List UInt8)) × Int × Int) (st : St) : Prop := keepSt [2, 7, 8, 9, 12, 14, 15, 52, 53, 54] [(64, .id 64), (192, .id 192), (40, .id 40), (32, .id 32), (392, .id 392)] [] st = f9_l7_l10_J a1 a2 a3 x
def f9_l7_l10_e4_J (a1 : GKeys) (a2 : GMask) (a3 : List UInt8) (p1170 : GEditor) (p1171 : List (List UInt8)) (p1172 : List UInt8) (p1173 : List (List UInt8)) (p1174 : Int) (p1175 : Int) : St := ⟨(up (up (up (up (up (up (up (up (fun _ => .un) 54 (.d (.int .i64 p1175))) 53 (.d (.int .i64 p1174))) 52 (.r (.msl 392 0 0 p1173.length))) 12 (.fn 30 [(.r (.ptr 40 0 0)), (.r (.ptr 32 0 0))])) 9 (.d (.str p1172))) 8 (.r (.msl 192 0 0 p1171.length))) 7 (.r (.ptr 64 0 0))) 2 (.d (.str a3))), (up (up (up (up (up (hB fun _ => 0) 392 ⟨0, some (.own 9 1 (eStr.cells p1173))⟩) 32 ⟨0, some (.box ((eU8.row 19 a1.Levels) ++ ((eU8.row 19 a1.Chars) ++ [])))⟩) 40 ⟨0, some (.box (((eInt .u64).row 4 a2.Bits) ++ []))⟩) 192 ⟨0, some (.own 9 1 (eStr.cells p1171))⟩) 64 ⟨0, some (.box ((.d (.str p1170.Buf)) :: ((.d (.bool p1170.Quote)) :: [])))⟩)⟩
def f9_l7_l10_X (a1 : GKeys) (a2 : GMask) (a3 : List UInt8) (z : (GEditor × (List (List UInt8)) × (List UInt8) × (List (List UInt8)) × Int × Int) ⊕ Bool) (e : PX) (st : St) : Prop := (match z with | .inl z => e = .exit 4 ∧ st = f9_l7_l10_e4_J a1 a2 a3 z.1 z.2.1 z.2.2.1 z.2.2.2.1 z.2.2.2.2.1 z.2.2.2.2.2 | .inr z => e = .ret ∧ finSt c9.fin st = f9_fin z)
def f9_l7_l10_j11_J (a1 : GKeys) (a2 : GMask) (a3 : List UInt8) (p1185 : GEditor) (p1186 : List (List UInt8)) (p1187 : List UInt8) (p1188 : List UInt8) (p1189 : Int) (p1190 : List (List UInt8)) (p1191 : Int) (p1192 : Int) : St := ⟨(up (up (up (up (up (up (up (up (up (up (fun _ => .un) 54 (.d (.int .i64 p1192))) 53 (.d (.int .i64 p1191))) 52 (.r (.msl 392 0 0 p1190.length))) 15 (.d (.int .i64 p1189))) 14 (.d (.str p1188))) 12 (.fn 30 [(.r (.ptr 40 0 0)), (.r (.ptr 32 0 0))])) 9 (.d (.str p1187))) 8 (.r (.msl 192 0 0 p1186.length))) 7 (.r (.ptr 64 0 0))) 2 (.d (.str a3))), (up (up (up (up (up (hB fun _ => 0) 392 ⟨0, some (.own 9 1 (eStr.cells p1190))⟩) 32 ⟨0, some (.box ((eU8.row 19 a1.Levels) ++ ((eU8.row 19 a1.Chars) ++ [])))⟩) 40 ⟨0, some (.box (((eInt .u64).row 4 a2.Bits) ++ []))⟩) 192 ⟨0, some (.own 9 1 (eStr.cells p1186))⟩) 64 ⟨0, some (.box ((.d (.str p1185.Buf)) :: ((.d (.bool p1185.Quote)) :: [])))⟩)⟩
noncomputable def f9_l7_l10_j11 (a1 : GKeys) (a2 : GMask) (a3 : List UInt8) (p1185 : GEditor) (p1186 : List (List UInt8)) (p1187 : List UInt8) (p1188 : List UInt8) (p1189 : Int) (p1190 : List (List UInt8)) (p1191 : Int) (p1192 : Int) : Option ((GEditor × (List (List UInt8)) × (List UInt8) × (List UInt8) × Int × (List (List UInt8)) × Int × Int) ⊕ ((GEditor × (List (List UInt8)) × (List UInt8) × (List (List UInt8)) × Int × Int) ⊕ Bool)) := ((idx p1188 p1189).bind fun z140 => ((f30 z140 a2 [] a1 []).bind fun z141 => (bif z141 then (some (.inr (.inr false))) else (some (.inl (p1185, p1186, p1187, p1188, (IntKind.i64.wrap (p1189 + 1)), p1190, p1191, p1192))))))
theorem f9_l7_l10_j11_ok {d : Nat} (hd : 6 ≤ d) (a1 : GKeys) (a2 : GMask) (a3 : List UInt8) {r : (GEditor × (List (List UInt8)) × (List UInt8) × (List UInt8) × Int × (List (List UInt8)) × Int × Int) ⊕ ((GEditor × (List (List UInt8)) × (List UInt8) × (List (List UInt8)) × Int × Int) ⊕ Bool)} {Q : PX → St → Prop} (hQ : ∀ e st', finL (f9_l7_l10_H a1 a2 a3) (f9_l7_l10_X a1 a2 a3) r e st' → Q e st') (p1185 : GEditor) (p1186 : List (List UInt8)) (p1187 : List UInt8) (p1188 : List UInt8) (p1189 : Int) (p1190 : List (List UInt8)) (p1191 : Int) (p1192 : Int) (hS : f9_l7_l10_j11 a1 a2 a3 p1185 p1186 p1187 p1188 p1189 p1190 p1191 p1192 = some r) {st : St} (he : keepSt [2, 7, 8, 9, 12, 14, 15, 52, 53, 54] [(64, .id 64), (192, .id 192), (40, .id 40), (32, .id 32), (392, .id 392)] [] st = f9_l7_l10_j11_J a1 a2 a3 p1185 p1186 p1187 p1188 p1189 p1190 p1191 p1192) : ZR (lev codes baseL (d - 1)) Q c9_6 [] st := by
  refine zrKeep he ?_
  unfold f9_l7_l10_j11 at hS
  refine zrSeq ?_
  refine zrBlk ?_
  refine zrSeq ?_
  refine zrReg ?_
  refine zlRun (n := 3) (j := 3) rfl (by kernel_rfl) ?_
  refine bindE hS (fun z140 hz140 hS => ?_)
  refine zlOp (d := some 68) (op := (.ixStr (.tmp 66) (.tmp 67))) (g := none) (v := (.d (.int .u8 (z140.toNat : Int)))) (ups := []) (j := 4) rfl (by kernel_rfl) (by kernel_rfl) (ev_ixStr (kk := .i64) (s := p1188) (j := p1189) (by kernel_rfl) (by kernel_rfl) hz140) ?_
  refine bindE hS (fun z141 hz141 hS => ?_)
  refine zlOp (d := some 69) (op := (.callv (.tmp 65) [(.tmp 68)])) (g := none) (v := (.d (.bool z141))) (ups := []) (j := 5) rfl (by kernel_rfl) (by kernel_rfl) (ev_callv (f := 30) (cs := [(.r (.ptr 40 0 0)), (.r (.ptr 32 0 0))]) (by kernel_rfl) (args := [(.d (.int .u8 (z140.toNat : Int))), (.r (.ptr 40 0 0)), (.r (.ptr 32 0 0))]) (l := [(.d (.int .u8 (z140.toNat : Int))), (.rptr (e_RGMask.enc a2 ++ [])), (.rptr (e_RGKeys.enc a1 ++ []))]) (r := (.d (.bool z141))) (by kernel_rfl) (by kernel_rfl) (f30_ok (d - 1) (dpt hd rfl) z140 a2 [] a1 [] z141 hz141) (by kernel_rfl) (by kernel_rfl) (by kernel_rfl)) ?_
  refine zlEnd (by kernel_rfl) ?_
  refine zkSeq ?_
  refine zrSplit 69 z141 (by kernel_rfl) (fun hc => ?_) (fun hc => ?_)
  · replace hS := cond_t hc hS
    refine zrCondT (by kernel_rfl) ?_
    refine zrSeq ?_
    refine zrReg ?_
    refine zlRun (n := 1) (j := 1) rfl (by kernel_rfl) ?_
    refine zlEnd (by kernel_rfl) ?_
    refine zkSeq ?_
    refine zrRet ?_
    refine zkBlkR ?_
    refine zkSeqR ?_
    refine zkNil ?_
    exact endQ hS hQ (finL_x (by intro h; cases h) (by show _ = _ ∧ _ = _; exact ⟨rfl, by kernel_rfl⟩))
  · replace hS := cond_f hc hS
    refine zrCondF (by kernel_rfl) ?_
    refine zrSkip ?_
    refine zkBlk ?_
    refine zkSeq ?_
    refine zrReg ?_
    refine zlRun (n := 3) (j := 3) rfl (by kernel_rfl) ?_
    refine zlEnd (by kernel_rfl) ?_
    refine zkNil ?_
    exact endQ hS hQ (finL_n (by show keepSt _ _ _ _ = _; kernel_rfl))
noncomputable def f9_l7_l10 (a1 : GKeys) (a2 : GMask) (a3 : List UInt8) (x : GEditor × (List (List UInt8)) × (List UInt8) × (List UInt8) × Int × (List (List UInt8)) × Int × Int) : Option ((GEditor × (List (List UInt8)) × (List UInt8) × (List UInt8) × Int × (List (List UInt8)) × Int × Int) ⊕ ((GEditor × (List (List UInt8)) × (List UInt8) × (List (List UInt8)) × Int × Int) ⊕ Bool)) := (bif (decide ((IntKind.i64.wrap (x.2.2.2.2.1 + 1)) < (x.2.2.2.1.length : Int))) then (f9_l7_l10_j11 a1 a2 a3 x.1 x.2.1 x.2.2.1 x.2.2.2.1 x.2.2.2.2.1 x.2.2.2.2.2.1 x.2.2.2.2.2.2.1 x.2.2.2.2.2.2.2) else (some (.inr (.inl (x.1, x.2.1, x.2.2.1, x.2.2.2.2.2.1, x.2.2.2.2.2.2.1, x.2.2.2.2.2.2.2)))))
theorem f9_l7_l10_ok {d : Nat} (hd : 6 ≤ d) (a1 : GKeys) (a2 : GMask) (a3 : List UInt8) {r : (GEditor × (List (List UInt8)) × (List UInt8) × (List UInt8) × Int × (List (List UInt8)) × Int × Int) ⊕ ((GEditor × (List (List UInt8)) × (List UInt8) × (List (List UInt8)) × Int × Int) ⊕ Bool)} {Q : PX → St → Prop} (hQ : ∀ e st', finL (f9_l7_l10_H a1 a2 a3) (f9_l7_l10_X a1 a2 a3) r e st' → Q e st') {x : GEditor × (List (List UInt8)) × (List UInt8) × (List UInt8) × Int × (List (List UInt8)) × Int × Int} (hS : f9_l7_l10 a1 a2 a3 x = some r) {st : St} (he : f9_l7_l10_H a1 a2 a3 x st) : ZR (lev codes baseL (d - 1)) Q c9_7 [] st := by
  refine zrKeep he ?_
  unfold f9_l7_l10 at hS
  refine zrSeq ?_
  refine zrSeq ?_
  refine zrReg ?_
  refine zlRun (n := 4) (j := 4) rfl (by kernel_rfl) ?_
  refine zlBool (d := 62) (op := (.cmpI .lss (.tmp 59) (.tmp 61))) (g := none) (j := 5) (decide ((IntKind.i64.wrap (x.2.2.2.2.1 + 1)) < (x.2.2.2.1.length : Int))) rfl (by kernel_rfl) (by kernel_rfl) (by kernel_rfl) (fun hc => ?_) (fun hc => ?_)
  · replace hS := cond_t hc hS
    refine zlEnd (by kernel_rfl) ?_
    refine zkSeq ?_
    refine zrCondT (by kernel_rfl) ?_
    refine zrSkip ?_
    refine zkSeq ?_
    exact f9_l7_l10_j11_ok hd a1 a2 a3 hQ x.1 x.2.1 x.2.2.1 x.2.2.2.1 x.2.2.2.2.1 x.2.2.2.2.2.1 x.2.2.2.2.2.2.1 x.2.2.2.2.2.2.2 hS (by kernel_rfl)
  · replace hS := cond_f hc hS
    refine zlEnd (by kernel_rfl) ?_
    refine zkSeq ?_
    refine zrCondF (by kernel_rfl) ?_
    refine zrKeep (J := f9_l7_l10_e4_J a1 a2 a3 x.1 x.2.1 x.2.2.1 x.2.2.2.2.2.1 x.2.2.2.2.2.2.1 x.2.2.2.2.2.2.2) (by kernel_rfl) ?_
    refine zrExit ?_
    refine zkSeqX ?_
    refine zkNil ?_
    exact endQ hS hQ (finL_x (by intro h; cases h) (by show _ = _ ∧ _ = _; exact ⟨rfl, rfl⟩))
def f9_l7_j9_J (a1 : GKeys) (a2 : GMask) (a3 : List UInt8) (p1115 : GEditor) (p1116 : List (List UInt8)) (p1117 : List UInt8) (p1118 : List (List UInt8)) (p1119 : Int) (p1120 : Int) : St := ⟨(up (up (up (up (up (up (up (up (fun _ => .un) 54 (.d (.int .i64 p1120))) 53 (.d (.int .i64 p1119))) 52 (.r (.msl 392 0 0 p1118.length))) 12 (.fn 30 [(.r (.ptr 40 0 0)), (.r (.ptr 32 0 0))])) 9 (.d (.str p1117))) 8 (.r (.msl 192 0 0 p1116.length))) 7 (.r (.ptr 64 0 0))) 2 (.d (.str a3))), (up (up (up (up (up (hB fun _ => 0) 392 ⟨0, some (.own 9 1 (eStr.cells p1118))⟩) 32 ⟨0, some (.box ((eU8.row 19 a1.Levels) ++ ((eU8.row 19 a1.Chars) ++ [])))⟩) 40 ⟨0, some (.box (((eInt .u64).row 4 a2.Bits) ++ []))⟩) 192 ⟨0, some (.own 9 1 (eStr.cells p1116))⟩) 64 ⟨0, some (.box ((.d (.str p1115.Buf)) :: ((.d (.bool p1115.Quote)) :: [])))⟩)⟩
noncomputable def f9_l7_j9 (a1 : GKeys) (a2 : GMask) (a3 : List UInt8) (p1115 : GEditor) (p1116 : List (List UInt8)) (p1117 : List UInt8) (p1118 : List (List UInt8)) (p1119 : Int) (p1120 : Int) : Option ((GEditor × (List (List UInt8)) × (List UInt8) × (List (List UInt8)) × Int × Int) ⊕ ((GEditor × (List (List UInt8)) × (List UInt8)) ⊕ Bool)) := ((inR p1120 p1118.length).bind fun m132 => ((p1118[m132]?).bind fun z133 => ((loopO (f9_l7_l10 a1 a2 a3) (p1115, p1116, p1117, z133, 0, p1118, p1119, p1120)).bind fun z142 => (Sum.elim (fun z143 => (some (.inl (z143.1, z143.2.1, z143.2.2.1, z143.2.2.2.1, z143.2.2.2.2.1, (IntKind.i64.wrap (z143.2.2.2.2.2 + 1)))))) (fun z144 => (some (.inr (.inr z144)))) z142))))
theorem f9_l7_j9_ok {d : Nat} (hd : 6 ≤ d) (a1 : GKeys) (a2 : GMask) (a3 : List UInt8) {r : (GEditor × (List (List UInt8)) × (List UInt8) × (List (List UInt8)) × Int × Int) ⊕ ((GEditor × (List (List UInt8)) × (List UInt8)) ⊕ Bool)} {Q : PX → St → Prop} (hQ : ∀ e st', finL (f9_l7_H a1 a2 a3) (f9_l7_X a1 a2 a3) r e st' → Q e st') (p1115 : GEditor) (p1116 : List (List UInt8)) (p1117 : List UInt8) (p1118 : List (List UInt8)) (p1119 : Int) (p1120 : Int) (hS : f9_l7_j9 a1 a2 a3 p1115 p1116 p1117 p1118 p1119 p1120 = some r) {st : St} (he : keepSt [2, 7, 8, 9, 12, 52, 53, 54] [(64, .id 64), (192, .id 192), (40, .id 40), (32, .id 32), (392, .id 392)] [] st = f9_l7_j9_J a1 a2 a3 p1115 p1116 p1117 p1118 p1119 p1120) : ZR (lev codes baseL (d - 1)) Q c9_8 [] st := by
  refine zrKeep he ?_
  unfold f9_l7_j9 at hS
  refine zrSeq ?_
  refine zrBlk ?_
  refine zrSeq ?_
  refine zrReg ?_
  refine bindE hS (fun m132 hm132 hS => ?_)
  refine zlOp (d := some 56) (op := (.ixS 9 1 (.tmp 52) (.tmp 54))) (g := none) (v := (.r (.ptr 392 0 ((0 + m132) * 1)))) (ups := []) (j := 1) rfl (by kernel_rfl) (by kernel_rfl) (ev_ixM (kk := .i64) (b := 392) (g := 0) (l := 0) (n := p1118.length) (j := p1120) (cs := eStr.cells p1118) (by kernel_rfl) (by kernel_rfl) (by kernel_rfl) hm132) ?_
  refine bindE hS (fun z133 hz133 hS => ?_)
  refine zlOp (d := some 57) (op := (.load .false 1 (.tmp 56))) (g := none) (v := (.d (.str z133))) (ups := []) (j := 2) rfl (by kernel_rfl) (by kernel_rfl) (ev_loadM eStr (b := 392) (g := 0) (o := (0 + m132) * 1) (e := 9) (k := 1) (m := m132) (fo := 0) (xs := p1118) (by kernel_rfl) (by kernel_rfl) (by rw [Nat.zero_add]; rfl) hz133 (by kernel_rfl) (by kernel_rfl) (by kernel_rfl)) ?_
  refine zlRun (n := 1) (j := 3) rfl (by kernel_rfl) ?_
  refine zlEnd (by kernel_rfl) ?_
  refine zkSeq ?_
  refine zrSeq ?_
  refine zrReg ?_
  refine zlRun (n := 1) (j := 1) rfl (by kernel_rfl) ?_
  refine zlEnd (by kernel_rfl) ?_
  refine zkSeq ?_
  refine zrBlk ?_
  refine bindE hS (fun z142 hz142 hS => ?_)
  refine zrLoop (f9_l7_l10_H a1 a2 a3) (f9_l7_l10_X a1 a2 a3) (fun x st r Q h0 hS hQ => f9_l7_l10_ok hd a1 a2 a3 hQ hS h0) (x := (p1115, p1116, p1117, z133, 0, p1118, p1119, p1120)) (z := z142) (by show keepSt _ _ _ _ = _; kernel_rfl) hz142 ?_
  rcases z142 with z143 | z144
  · replace hS := (show _ = _ from hS)
    simp only [Sum.elim_inl] at hS
    intro e st' _ hX
    obtain ⟨rfl, rfl⟩ : _ ∧ _ := hX
    refine zkBlkX ?_
    refine zkBlk ?_
    refine zkSeq ?_
    refine zrReg ?_
    refine zlRun (n := 2) (j := 2) rfl (by kernel_rfl) ?_
    refine zlEnd (by kernel_rfl) ?_
    refine zkNil ?_
    exact endQ hS hQ (finL_n (by show keepSt _ _ _ _ = _; kernel_rfl))
  · simp only [Sum.elim_inr] at hS
    intro e st' _ hX
    obtain ⟨rfl, hX⟩ : _ ∧ _ := hX
    refine zkBlkR ?_
    refine zkBlkR ?_
    refine zkSeqR ?_
    refine zkNil ?_
    exact endQ hS hQ (finL_x (by intro h; cases h) (by show _ = _ ∧ _ = _; exact ⟨rfl, hX⟩))
def f9_l7_j8_J (a1 : GKeys) (a2 : GMask) (a3 : List UInt8) (p1108 : GEditor) (p1109 : List (List UInt8)) (p1110 : List UInt8) (p1111 : List (List UInt8)) (p1112 : Int) (p1113 : Int) (p1114 : Bool) : St := ⟨(up (up (up (up (up (up (up (up (up (fun _ => .un) 55 (.d (.bool p1114))) 54 (.d (.int .i64 p1113))) 53 (.d (.int .i64 p1112))) 52 (.r (.msl 392 0 0 p1111.length))) 12 (.fn 30 [(.r (.ptr 40 0 0)), (.r (.ptr 32 0 0))])) 9 (.d (.str p1110))) 8 (.r (.msl 192 0 0 p1109.length))) 7 (.r (.ptr 64 0 0))) 2 (.d (.str a3))), (up (up (up (up (up (hB fun _ => 0) 392 ⟨0, some (.own 9 1 (eStr.cells p1111))⟩) 32 ⟨0, some (.box ((eU8.row 19 a1.Levels) ++ ((eU8.row 19 a1.Chars) ++ [])))⟩) 40 ⟨0, some (.box (((eInt .u64).row 4 a2.Bits) ++ []))⟩) 192 ⟨0, some (.own 9 1 (eStr.cells p1109))⟩) 64 ⟨0, some (.box ((.d (.str p1108.Buf)) :: ((.d (.bool p1108.Quote)) :: [])))⟩)⟩
noncomputable def f9_l7_j8 (a1 : GKeys) (a2 : GMask) (a3 : List UInt8) (p1108 : GEditor) (p1109 : List (List UInt8)) (p1110 : List UInt8) (p1111 : List (List UInt8)) (p1112 : Int) (p1113 : Int) (p1114 : Bool) : Option ((GEditor × (List (List UInt8)) × (List UInt8) × (List (List UInt8)) × Int × Int) ⊕ ((GEditor × (List (List UInt8)) × (List UInt8)) ⊕ Bool)) := (bif p1114 then (f9_l7_j9 a1 a2 a3 p1108 p1109 p1110 p1111 p1112 p1113) else (some (.inr (.inl (p1108, p1109, p1110)))))
theorem f9_l7_j8_ok {d : Nat} (hd : 6 ≤ d) (a1 : GKeys) (a2 : GMask) (a3 : List UInt8) {r : (GEditor × (List (List UInt8)) × (List UInt8) × (List (List UInt8)) × Int × Int) ⊕ ((GEditor × (List (List UInt8)) × (List UInt8)) ⊕ Bool)} {Q : PX → St → Prop} (hQ : ∀ e st', finL (f9_l7_H a1 a2 a3) (f9_l7_X a1 a2 a3) r e st' → Q e st') (p1108 : GEditor) (p1109 : List (List UInt8)) (p1110 : List UInt8) (p1111 : List (List UInt8)) (p1112 : Int) (p1113 : Int) (p1114 : Bool) (hS : f9_l7_j8 a1 a2 a3 p1108 p1109 p1110 p1111 p1112 p1113 p1114 = some r) {st : St} (he : keepSt [2, 7, 8, 9, 12, 52, 53, 54, 55] [(64, .id 64), (192, .id 192), (40, .id 40), (32, .id 32), (392, .id 392)] [] st = f9_l7_j8_J a1 a2 a3 p1108 p1109 p1110 p1111 p1112 p1113 p1114) : ZR (lev codes baseL (d - 1)) Q c9_9 [] st := by
  refine zrKeep he ?_
  unfold f9_l7_j8 at hS
  refine zrSeq ?_
  refine zrSplit 55 p1114 (by kernel_rfl) (fun hc => ?_) (fun hc => ?_)
  · replace hS := cond_t hc hS
    refine zrCondT (by kernel_rfl) ?_
    refine zrSkip ?_
    refine zkSeq ?_
    exact f9_l7_j9_ok hd a1 a2 a3 hQ p1108 p1109 p1110 p1111 p1112 p1113 hS (by kernel_rfl)
  · replace hS := cond_f hc hS
    refine zrCondF (by kernel_rfl) ?_
    refine zrKeep (J := f9_l7_e2_J a1 a2 a3 p1108 p1109 p1110) (by kernel_rfl) ?_
    refine zrExit ?_
    refine zkSeqX ?_
    refine zkNil ?_
    exact endQ hS hQ (finL_x (by intro h; cases h) (by show _ = _ ∧ _ = _; exact ⟨rfl, rfl⟩))
noncomputable def f9_l7 (a1 : GKeys) (a2 : GMask) (a3 : List UInt8) (x : GEditor × (List (List UInt8)) × (List UInt8) × (List (List UInt8)) × Int × Int) : Option ((GEditor × (List (List UInt8)) × (List UInt8) × (List (List UInt8)) × Int × Int) ⊕ ((GEditor × (List (List UInt8)) × (List UInt8)) ⊕ Bool)) := (bif (decide (x.2.2.2.2.2 < x.2.2.2.2.1)) then (f9_l7_j8 a1 a2 a3 x.1 x.2.1 x.2.2.1 x.2.2.2.1 x.2.2.2.2.1 x.2.2.2.2.2 true) else (f9_l7_j8 a1 a2 a3 x.1 x.2.1 x.2.2.1 x.2.2.2.1 x.2.2.2.2.1 x.2.2.2.2.2 false))
theorem f9_l7_ok {d : Nat} (hd : 6 ≤ d) (a1 : GKeys) (a2 : GMask) (a3 : List UInt8) {r : (GEditor × (List (List UInt8)) × (List UInt8) × (List (List UInt8)) × Int × Int) ⊕ ((GEditor × (List (List UInt8)) × (List UInt8)) ⊕ Bool)} {Q : PX → St → Prop} (hQ : ∀ e st', finL (f9_l7_H a1 a2 a3) (f9_l7_X a1 a2 a3) r e st' → Q e st') {x : GEditor × (List (List UInt8)) × (List UInt8) × (List (List UInt8)) × Int × Int} (hS : f9_l7 a1 a2 a3 x = some r) {st : St} (he : f9_l7_H a1 a2 a3 x st) : ZR (lev codes baseL (d - 1)) Q c9_10 [] st := by
  refine zrKeep he ?_
  unfold f9_l7 at hS
  refine zrSeq ?_
  refine zrReg ?_
  refine zlBool (d := 55) (op := (.cmpI .lss (.tmp 54) (.tmp 53))) (g := none) (j := 1) (decide (x.2.2.2.2.2 < x.2.2.2.2.1)) rfl (by kernel_rfl) (by kernel_rfl) (by kernel_rfl) (fun hc => ?_) (fun hc => ?_)
  · replace hS := cond_t hc hS
    refine zlEnd (by kernel_rfl) ?_
    refine zkSeq ?_
    exact f9_l7_j8_ok hd a1 a2 a3 hQ x.1 x.2.1 x.2.2.1 x.2.2.2.1 x.2.2.2.2.1 x.2.2.2.2.2 true hS (by kernel_rfl)
  · replace hS := cond_f hc hS
    refine zlEnd (by kernel_rfl) ?_
    refine zkSeq ?_
    exact f9_l7_j8_ok hd a1 a2 a3 hQ x.1 x.2.1 x.2.2.1 x.2.2.2.1 x.2.2.2.2.1 x.2.2.2.2.2 false hS (by kernel_rfl)
def f9_j1_J (a1 : GKeys) (a2 : GMask) (a3 : List UInt8) (p477 : GEditor) (p478 : List (List UInt8)) (p479 : List UInt8) : St := ⟨(up (up (up (up (up (up (fun _ => .un) 9 (.d (.str p479))) 8 (.r (.msl 192 0 0 p478.length))) 7 (.r (.ptr 64 0 0))) 4 (.r (.ptr 40 0 0))) 3 (.r (.ptr 32 0 0))) 2 (.d (.str a3))), (up (up (up (up (hB fun _ => 0) 192 ⟨0, some (.own 9 1 (eStr.cells p478))⟩) 64 ⟨0, some (.box ((.d (.str p477.Buf)) :: ((.d (.bool p477.Quote)) :: [])))⟩) 40 ⟨0, some (.box (((eInt .u64).row 4 a2.Bits) ++ []))⟩) 32 ⟨0, some (.box ((eU8.row 19 a1.Levels) ++ ((eU8.row 19 a1.Chars) ++ [])))⟩)⟩
noncomputable def f9_j1 (a1 : GKeys) (a2 : GMask) (a3 : List UInt8) (p477 : GEditor) (p478 : List (List UInt8)) (p479 : List UInt8) : Option (Bool) := ((f27 p478).bind fun z106 => ((app? 16 z106 ([p477.Buf] : List (List UInt8))).bind fun z107 => ((loopO (f9_l7 a1 a2 a3) (p477, p478, p479, z107, (z107.length : Int), 0)).bind fun z145 => (Sum.elim (fun z146 => (f9_j2 a1 a2 a3 z146.1 z146.2.1 z146.2.2)) (fun z147 => (some z147)) z145))))
theorem f9_j1_ok {d : Nat} (hd : 6 ≤ d) (a1 : GKeys) (a2 : GMask) (a3 : List UInt8) {r : Bool} {Q : PX → St → Prop} (hQ : ∀ e st', f9_Q r e st' → Q e st') (p477 : GEditor) (p478 : List (List UInt8)) (p479 : List UInt8) (hS : f9_j1 a1 a2 a3 p477 p478 p479 = some r) {st : St} (he : keepSt [2, 3, 4, 7, 8, 9] [(32, .id 32), (40, .id 40), (64, .id 64), (192, .id 192)] [] st = f9_j1_J a1 a2 a3 p477 p478 p479) : ZR (lev codes baseL (d - 1)) Q c9_11 [] st := by
  refine zrKeep he ?_
  unfold f9_j1 at hS
  refine zrSeq ?_
  refine zrReg ?_
  refine zlRun (n := 2) (j := 2) rfl (by kernel_rfl) ?_
  refine zlEnd (by kernel_rfl) ?_
  refine zkSeq ?_
  refine zrSeq ?_
  refine zrSeq ?_
  refine zrRegD ?_
  refine zdRun (n := 1) (j := 1) (ts := [[]]) (acc' := [[]]) rfl (by kernel_rfl) (by kernel_rfl) (by kernel_rfl) ?_
  refine bindE hS (fun z106 hz106 hS => ?_)
  refine zdOp (d := some 48) (op := (.call 27 [(.tmp 47)])) (g := none) (v := (.r (.msl 392 1 0 z106.length))) (ups := [(392, ⟨1, some (.own 9 1 (eStr.cells z106))⟩)]) (j := 2) (t1 := [(192, false), (392, true), (393, true), (394, true), (395, true), (396, true), (397, true), (398, true), (399, true)]) (acc' := [[], [(192, false), (392, true), (393, true), (394, true), (395, true), (396, true), (397, true), (398, true), (399, true)]]) (by kernel_rfl) (by kernel_rfl) rfl (by kernel_rfl) (by kernel_rfl) (ev_call (args := [(.r (.msl 192 0 0 p478.length))]) (l := [(.d (.sl p478.length (eStr.cells p478)))]) (r := (.r (.own 0 9 1 z106.length (eStr.cells z106)))) (by kernel_rfl) (l_cons (l_own eStr (e := 9) (k := 1) (xs := p478) (by kernel_rfl) rfl rfl) l_nil) (f27_ok (d - 1) (dpt hd rfl) p478 z106 hz106) (by simp only [free_own eStr (fun _ => rfl), free_tup, free_agg, free_nl, free_cs, free_int, free_bool, free_str, free_un, free_ni, free_s0, Bool.and_true, Bool.or_true, Bool.and_self]) (by kernel_rfl) (by kernel_rfl)) ?_
  refine zdRun (n := 3) (j := 5) (ts := [[], [(64, false)], [(416, true)]]) (acc' := [[], [(192, false), (392, true), (393, true), (394, true), (395, true), (396, true), (397, true), (398, true), (399, true)], [], [(64, false)], [(416, true)]]) rfl (by kernel_rfl) (by kernel_rfl) (by kernel_rfl) ?_
  refine bindE hS (fun z107 hz107 hS => ?_)
  refine zdOp (d := some 52) (op := (.app 9 1 16 (.tmp 48) (.tmp 51))) (g := none) (v := (.r (.msl 392 2 0 z107.length))) (ups := [(392, ⟨2, some (.own 9 1 (eStr.cells z107))⟩)]) (j := 6) (t1 := [(424, true), (392, true), (416, false)]) (acc' := [[], [(192, false), (392, true), (393, true), (394, true), (395, true), (396, true), (397, true), (398, true), (399, true)], [], [(64, false)], [(416, true)], [(424, true), (392, true), (416, false)]]) (by kernel_rfl) (by kernel_rfl) rfl (by kernel_rfl) (by kernel_rfl) (ev_app eStr (b := 392) (g := 1) (n := z106.length) (xs := z106) (ys := [p477.Buf]) ((congrArg (asL _) (by kernel_rfl : ρof _ (.tmp 51) = (.r (.msl 416 1 0 (([p477.Buf] : List (List UInt8)).length))))).trans (as_whole eStr (e := 9) (k := 1) (xs := [p477.Buf]) (by kernel_rfl) rfl rfl)) rfl (by kernel_rfl) rfl (by kernel_rfl) rfl hz107) ?_
  refine zdRun (n := 2) (j := 8) (ts := [[(392, false)], []]) (acc' := [[], [(192, false), (392, true), (393, true), (394, true), (395, true), (396, true), (397, true), (398, true), (399, true)], [], [(64, false)], [(416, true)], [(424, true), (392, true), (416, false)], [(392, false)], []]) rfl (by kernel_rfl) (by kernel_rfl) (by kernel_rfl) ?_
  refine zdEnd (by kernel_rfl) (by kernel_rfl) ?_
  refine zkSeq ?_
  refine zrBlk ?_
  refine bindE hS (fun z145 hz145 hS => ?_)
  refine zrLoop (f9_l7_H a1 a2 a3) (f9_l7_X a1 a2 a3) (fun x st r Q h0 hS hQ => f9_l7_ok hd a1 a2 a3 hQ hS h0) (x := (p477, p478, p479, z107, (z107.length : Int), 0)) (z := z145) (by show keepSt _ _ _ _ = _; kernel_rfl) hz145 ?_
  rcases z145 with z146 | z147
  · replace hS := (show _ = _ from hS)
    simp only [Sum.elim_inl] at hS
    intro e st' _ hX
    obtain ⟨rfl, rfl⟩ : _ ∧ _ := hX
    refine zkBlkX ?_
    refine zkSeq ?_
    exact f9_j2_ok hd a1 a2 a3 hQ z146.1 z146.2.1 z146.2.2 hS (by kernel_rfl)
  · simp only [Sum.elim_inr] at hS
    intro e st' _ hX
    obtain ⟨rfl, hX⟩ : _ ∧ _ := hX
    refine zkBlkR ?_
    refine zkSeqR ?_
    refine zkNil ?_
    exact endQ hS hQ (fRet ((congrArg (fun s => outR s 0 c9.res) hX).trans (f9_out z147)))
def f9_l12_J (a1 : GKeys) (a2 : GMask) (a3 : List UInt8) (x : GEditor × (List (List UInt8)) × (List UInt8) × Int) : St := ⟨(up (up (up (up (up (up (up (up (fun _ => .un) 37 (.d (.int .i64 x.2.2.2))) 36 (.d (.int .i64 (a3.length : Int)))) 9 (.d (.str x.2.2.1))) 8 (.r (.msl 192 0 0 x.2.1.length))) 7 (.r (.ptr 64 0 0))) 4 (.r (.ptr 40 0 0))) 3 (.r (.ptr 32 0 0))) 2 (.d (.str a3))), (up (up (up (up (hB fun _ => 0) 192 ⟨0, some (.own 9 1 (eStr.cells x.2.1))⟩) 64 ⟨0, some (.box ((.d (.str x.1.Buf)) :: ((.d (.bool x.1.Quote)) :: [])))⟩) 40 ⟨0, some (.box (((eInt .u64).row 4 a2.Bits) ++ []))⟩) 32 ⟨0, some (.box ((eU8.row 19 a1.Levels) ++ ((eU8.row 19 a1.Chars) ++ [])))⟩)⟩
def f9_l12_H (a1 : GKeys) (a2 : GMask) (a3 : List UInt8) (x : GEditor × (List (List UInt8)) × (List UInt8) × Int) (st : St) : Prop := keepSt [2, 3, 4, 7, 8, 9, 36, 37] [(32, .id 32), (40, .id 40), (64, .id 64), (192, .id 192)] [] st = f9_l12_J a1 a2 a3 x
def f9_l12_e0_J (a1 : GKeys) (a2 : GMask) (a3 : List UInt8) (p474 : GEditor) (p475 : List (List UInt8)) (p476 : List UInt8) : St := ⟨(up (up (up (up (up (up (fun _ => .un) 9 (.d (.str p476))) 8 (.r (.msl 192 0 0 p475.length))) 7 (.r (.ptr 64 0 0))) 4 (.r (.ptr 40 0 0))) 3 (.r (.ptr 32 0 0))) 2 (.d (.str a3))), (up (up (up (up (hB fun _ => 0) 192 ⟨0, some (.own 9 1 (eStr.cells p475))⟩) 64 ⟨0, some (.box ((.d (.str p474.Buf)) :: ((.d (.bool p474.Quote)) :: [])))⟩) 40 ⟨0, some (.box (((eInt .u64).row 4 a2.Bits) ++ []))⟩) 32 ⟨0, some (.box ((eU8.row 19 a1.Levels) ++ ((eU8.row 19 a1.Chars) ++ [])))⟩)⟩
def f9_l12_X (a1 : GKeys) (a2 : GMask) (a3 : List UInt8) (z : (GEditor × (List (List UInt8)) × (List UInt8)) ⊕ Bool) (e : PX) (st : St) : Prop := (match z with | .inl z => e = .exit 0 ∧ st = f9_l12_e0_J a1 a2 a3 z.1 z.2.1 z.2.2 | .inr z => e = .ret ∧ finSt c9.fin st = f9_fin z)
def f9_l12_j14_J (a1 : GKeys) (a2 : GMask) (a3 : List UInt8) (p1203 : GEditor) (p1204 : List (List UInt8)) (p1205 : List UInt8) (p1206 : Int) : St := ⟨(up (up (up (up (up (up (up (up (fun _ => .un) 37 (.d (.int .i64 p1206))) 36 (.d (.int .i64 (a3.length : Int)))) 9 (.d (.str p1205))) 8 (.r (.msl 192 0 0 p1204.length))) 7 (.r (.ptr 64 0 0))) 4 (.r (.ptr 40 0 0))) 3 (.r (.ptr 32 0 0))) 2 (.d (.str a3))), (up (up (up (up (hB fun _ => 0) 192 ⟨0, some (.own 9 1 (eStr.cells p1204))⟩) 64 ⟨0, some (.box ((.d (.str p1203.Buf)) :: ((.d (.bool p1203.Quote)) :: [])))⟩) 40 ⟨0, some (.box (((eInt .u64).row 4 a2.Bits) ++ []))⟩) 32 ⟨0, some (.box ((eU8.row 19 a1.Levels) ++ ((eU8.row 19 a1.Chars) ++ [])))⟩)⟩
noncomputable def f9_l12_j14 (a1 : GKeys) (a2 : GMask) (a3 : List UInt8) (p1203 : GEditor) (p1204 : List (List UInt8)) (p1205 : List UInt8) (p1206 : Int) : Option ((GEditor × (List (List UInt8)) × (List UInt8) × Int) ⊕ ((GEditor × (List (List UInt8)) × (List UInt8)) ⊕ Bool)) := ((idx a3 p1206).bind fun z148 => ((f29 a1 z148).bind fun z149 => (bif z149 then (some (.inr (.inr true))) else (some (.inl (p1203, p1204, p1205, (IntKind.i64.wrap (p1206 + 1))))))))
theorem f9_l12_j14_ok {d : Nat} (hd : 6 ≤ d) (a1 : GKeys) (a2 : GMask) (a3 : List UInt8) {r : (GEditor × (List (List UInt8)) × (List UInt8) × Int) ⊕ ((GEditor × (List (List UInt8)) × (List UInt8)) ⊕ Bool)} {Q : PX → St → Prop} (hQ : ∀ e st', finL (f9_l12_H a1 a2 a3) (f9_l12_X a1 a2 a3) r e st' → Q e st') (p1203 : GEditor) (p1204 : List (List UInt8)) (p1205 : List UInt8) (p1206 : Int) (hS : f9_l12_j14 a1 a2 a3 p1203 p1204 p1205 p1206 = some r) {st : St} (he : keepSt [2, 3, 4, 7, 8, 9, 36, 37] [(32, .id 32), (40, .id 40), (64, .id 64), (192, .id 192)] [] st = f9_l12_j14_J a1 a2 a3 p1203 p1204 p1205 p1206) : ZR (lev codes baseL (d - 1)) Q c9_12 [] st := by
  refine zrKeep he ?_
  unfold f9_l12_j14 at hS
  refine zrSeq ?_
  refine zrBlk ?_
  refine zrSeq ?_
  refine zrReg ?_
  refine zlRun (n := 2) (j := 2) rfl (by kernel_rfl) ?_
  refine zlEnd (by kernel_rfl) ?_
  refine zkSeq ?_
  refine zrSeq ?_
  refine zrRegD ?_
  refine zdRun (n := 3) (j := 3) (ts := [[(32, false)], [], []]) (acc' := [[(32, false)], [], []]) rfl (by kernel_rfl) (by kernel_rfl) (by kernel_rfl) ?_
  refine bindE hS (fun z148 hz148 hS => ?_)
  refine zdOp (d := some 43) (op := (.ixStr (.tmp 41) (.tmp 42))) (g := none) (v := (.d (.int .u8 (z148.toNat : Int)))) (ups := []) (j := 4) (t1 := []) (acc' := [[(32, false)], [], [], []]) (by kernel_rfl) (by kernel_rfl) rfl (by kernel_rfl) (by kernel_rfl) (ev_ixStr (kk := .i64) (s := a3) (j := p1206) (by kernel_rfl) (by kernel_rfl) hz148) ?_
  refine bindE hS (fun z149 hz149 hS => ?_)
  refine zdOp (d := some 44) (op := (.call 29 [(.tmp 40), (.tmp 43)])) (g := none) (v := (.d (.bool z149))) (ups := []) (j := 5) (t1 := [(360, true), (361, true), (362, true), (363, true), (364, true), (365, true), (366, true), (367, true)]) (acc' := [[(32, false)], [], [], [], [(360, true), (361, true), (362, true), (363, true), (364, true), (365, true), (366, true), (367, true)]]) (by kernel_rfl) (by kernel_rfl) rfl (by kernel_rfl) (by kernel_rfl) (ev_call (args := [(.agg ((eU8.row 19 a1.Levels) ++ ((eU8.row 19 a1.Chars) ++ []))), (.d (.int .u8 (z148.toNat : Int)))]) (l := [(.agg ((eU8.row 19 a1.Levels) ++ ((eU8.row 19 a1.Chars) ++ []))), (.d (.int .u8 (z148.toNat : Int)))]) (r := (.d (.bool z149))) (by kernel_rfl) (by kernel_rfl) (f29_ok (d - 1) (dpt hd rfl) a1 z148 z149 hz149) (by kernel_rfl) (by kernel_rfl) (by kernel_rfl)) ?_
  refine zdEnd (by kernel_rfl) (by kernel_rfl) ?_
  refine zkSeq ?_
  refine zrSplit 44 z149 (by kernel_rfl) (fun hc => ?_) (fun hc => ?_)
  · replace hS := cond_t hc hS
    refine zrCondT (by kernel_rfl) ?_
    refine zrSeq ?_
    refine zrReg ?_
    refine zlRun (n := 1) (j := 1) rfl (by kernel_rfl) ?_
    refine zlEnd (by kernel_rfl) ?_
    refine zkSeq ?_
    refine zrRet ?_
    refine zkBlkR ?_
    refine zkSeqR ?_
    refine zkNil ?_
    exact endQ hS hQ (finL_x (by intro h; cases h) (by show _ = _ ∧ _ = _; exact ⟨rfl, by kernel_rfl⟩))
  · replace hS := cond_f hc hS
    refine zrCondF (by kernel_rfl) ?_
    refine zrSkip ?_
    refine zkBlk ?_
    refine zkSeq ?_
    refine zrReg ?_
    refine zlRun (n := 2) (j := 2) rfl (by kernel_rfl) ?_
    refine zlEnd (by kernel_rfl) ?_
    refine zkNil ?_
    exact endQ hS hQ (finL_n (by show keepSt _ _ _ _ = _; kernel_rfl))
def f9_l12_j13_J (a1 : GKeys) (a2 : GMask) (a3 : List UInt8) (p1198 : GEditor) (p1199 : List (List UInt8)) (p1200 : List UInt8) (p1201 : Int) (p1202 : Bool) : St := ⟨(up (up (up (up (up (up (up (up (up (fun _ => .un) 38 (.d (.bool p1202))) 37 (.d (.int .i64 p1201))) 36 (.d (.int .i64 (a3.length : Int)))) 9 (.d (.str p1200))) 8 (.r (.msl 192 0 0 p1199.length))) 7 (.r (.ptr 64 0 0))) 4 (.r (.ptr 40 0 0))) 3 (.r (.ptr 32 0 0))) 2 (.d (.str a3))), (up (up (up (up (hB fun _ => 0) 192 ⟨0, some (.own 9 1 (eStr.cells p1199))⟩) 64 ⟨0, some (.box ((.d (.str p1198.Buf)) :: ((.d (.bool p1198.Quote)) :: [])))⟩) 40 ⟨0, some (.box (((eInt .u64).row 4 a2.Bits) ++ []))⟩) 32 ⟨0, some (.box ((eU8.row 19 a1.Levels) ++ ((eU8.row 19 a1.Chars) ++ [])))⟩)⟩
noncomputable def f9_l12_j13 (a1 : GKeys) (a2 : GMask) (a3 : List UInt8) (p1198 : GEditor) (p1199 : List (List UInt8)) (p1200 : List UInt8) (p1201 : Int) (p1202 : Bool) : Option ((GEditor × (List (List UInt8)) × (List UInt8) × Int) ⊕ ((GEditor × (List (List UInt8)) × (List UInt8)) ⊕ Bool)) := (bif p1202 then (f9_l12_j14 a1 a2 a3 p1198 p1199 p1200 p1201) else (some (.inr (.inl (p1198, p1199, p1200)))))
theorem f9_l12_j13_ok {d : Nat} (hd : 6 ≤ d) (a1 : GKeys) (a2 : GMask) (a3 : List UInt8) {r : (GEditor × (List (List UInt8)) × (List UInt8) × Int) ⊕ ((GEditor × (List (List UInt8)) × (List UInt8)) ⊕ Bool)} {Q : PX → St → Prop} (hQ : ∀ e st', finL (f9_l12_H a1 a2 a3) (f9_l12_X a1 a2 a3) r e st' → Q e st') (p1198 : GEditor) (p1199 : List (List UInt8)) (p1200 : List UInt8) (p1201 : Int) (p1202 : Bool) (hS : f9_l12_j13 a1 a2 a3 p1198 p1199 p1200 p1201 p1202 = some r) {st : St} (he : keepSt [2, 3, 4, 7, 8, 9, 36, 37, 38] [(32, .id 32), (40, .id 40), (64, .id 64), (192, .id 192)] [] st = f9_l12_j13_J a1 a2 a3 p1198 p1199 p1200 p1201 p1202) : ZR (lev codes baseL (d - 1)) Q c9_13 [] st := by
  refine zrKeep he ?_
  unfold f9_l12_j13 at hS
  refine zrSeq ?_
  refine zrSplit 38 p1202 (by kernel_rfl) (fun hc => ?_) (fun hc => ?_)
  · replace hS := cond_t hc hS
    refine zrCondT (by kernel_rfl) ?_
    refine zrSkip ?_
    refine zkSeq ?_
    exact f9_l12_j14_ok hd a1 a2 a3 hQ p1198 p1199 p1200 p1201 hS (by kernel_rfl)
  · replace hS := cond_f hc hS
    refine zrCondF (by kernel_rfl) ?_
    refine zrKeep (J := f9_l12_e0_J a1 a2 a3 p1198 p1199 p1200) (by kernel_rfl) ?_
    refine zrExit ?_
    refine zkSeqX ?_
    refine zkNil ?_
    exact endQ hS hQ (finL_x (by intro h; cases h) (by show _ = _ ∧ _ = _; exact ⟨rfl, rfl⟩))
noncomputable def f9_l12 (a1 : GKeys) (a2 : GMask) (a3 : List UInt8) (x : GEditor × (List (List UInt8)) × (List UInt8) × Int) : Option ((GEditor × (List (List UInt8)) × (List UInt8) × Int) ⊕ ((GEditor × (List (List UInt8)) × (List UInt8)) ⊕ Bool)) := (bif (decide (x.2.2.2 < (a3.length : Int))) then (f9_l12_j13 a1 a2 a3 x.1 x.2.1 x.2.2.1 x.2.2.2 true) else (f9_l12_j13 a1 a2 a3 x.1 x.2.1 x.2.2.1 x.2.2.2 false))
theorem f9_l12_ok {d : Nat} (hd : 6 ≤ d) (a1 : GKeys) (a2 : GMask) (a3 : List UInt8) {r : (GEditor × (List (List UInt8)) × (List UInt8) × Int) ⊕ ((GEditor × (List (List UInt8)) × (List UInt8)) ⊕ Bool)} {Q : PX → St → Prop} (hQ : ∀ e st', finL (f9_l12_H a1 a2 a3) (f9_l12_X a1 a2 a3) r e st' → Q e st') {x : GEditor × (List (List UInt8)) × (List UInt8) × Int} (hS : f9_l12 a1 a2 a3 x = some r) {st : St} (he : f9_l12_H a1 a2 a3 x st) : ZR (lev codes baseL (d - 1)) Q c9_14 [] st := by
  refine zrKeep he ?_
  unfold f9_l12 at hS
  refine zrSeq ?_
  refine zrReg ?_
  refine zlBool (d := 38) (op := (.cmpI .lss (.tmp 37) (.tmp 36))) (g := none) (j := 1) (decide (x.2.2.2 < (a3.length : Int))) rfl (by kernel_rfl) (by kernel_rfl) (by kernel_rfl) (fun hc => ?_) (fun hc => ?_)
  · replace hS := cond_t hc hS
    refine zlEnd (by kernel_rfl) ?_
    refine zkSeq ?_
    exact f9_l12_j13_ok hd a1 a2 a3 hQ x.1 x.2.1 x.2.2.1 x.2.2.2 true hS (by kernel_rfl)
  · replace hS := cond_f hc hS
    refine zlEnd (by kernel_rfl) ?_
    refine zkSeq ?_
    exact f9_l12_j13_ok hd a1 a2 a3 hQ x.1 x.2.1 x.2.2.1 x.2.2.2 false hS (by kernel_rfl)
def f9_j0_J (a1 : GKeys) (a2 : GMask) (a3 : List UInt8) (p446 : GEditor) (p447 : List (List UInt8)) (p448 : List UInt8) : St := ⟨(up (up (up (up (up (up (fun _ => .un) 9 (.d (.str p448))) 8 (.r (.msl 192 0 0 p447.length))) 7 (.r (.ptr 64 0 0))) 4 (.r (.ptr 40 0 0))) 3 (.r (.ptr 32 0 0))) 2 (.d (.str a3))), (up (up (up (up (hB fun _ => 0) 192 ⟨0, some (.own 9 1 (eStr.cells p447))⟩) 64 ⟨0, some (.box ((.d (.str p446.Buf)) :: ((.d (.bool p446.Quote)) :: [])))⟩) 40 ⟨0, some (.box (((eInt .u64).row 4 a2.Bits) ++ []))⟩) 32 ⟨0, some (.box ((eU8.row 19 a1.Levels) ++ ((eU8.row 19 a1.Chars) ++ [])))⟩)⟩
noncomputable def f9_j0 (a1 : GKeys) (a2 : GMask) (a3 : List UInt8) (p446 : GEditor) (p447 : List (List UInt8)) (p448 : List UInt8) : Option (Bool) := ((loopO (f9_l12 a1 a2 a3) (p446, p447, p448, 0)).bind fun z150 => (Sum.elim (fun z151 => (f9_j1 a1 a2 a3 z151.1 z151.2.1 z151.2.2)) (fun z152 => (some z152)) z150))
theorem f9_j0_ok {d : Nat} (hd : 6 ≤ d) (a1 : GKeys) (a2 : GMask) (a3 : List UInt8) {r : Bool} {Q : PX → St → Prop} (hQ : ∀ e st', f9_Q r e st' → Q e st') (p446 : GEditor) (p447 : List (List UInt8)) (p448 : List UInt8) (hS : f9_j0 a1 a2 a3 p446 p447 p448 = some r) {st : St} (he : keepSt [2, 3, 4, 7, 8, 9] [(32, .id 32), (40, .id 40), (64, .id 64), (192, .id 192)] [] st = f9_j0_J a1 a2 a3 p446 p447 p448) : ZR (lev codes baseL (d - 1)) Q c9_15 [] st := by
  refine zrKeep he ?_
  unfold f9_j0 at hS
  refine zrSeq ?_
  refine zrSeq ?_
  refine zrReg ?_
  refine zlRun (n := 3) (j := 3) rfl (by kernel_rfl) ?_
  refine zlEnd (by kernel_rfl) ?_
  refine zkSeq ?_
  refine zrBlk ?_
  refine bindE hS (fun z150 hz150 hS => ?_)
  refine zrLoop (f9_l12_H a1 a2 a3) (f9_l12_X a1 a2 a3) (fun x st r Q h0 hS hQ => f9_l12_ok hd a1 a2 a3 hQ hS h0) (x := (p446, p447, p448, 0)) (z := z150) (by show keepSt _ _ _ _ = _; kernel_rfl) hz150 ?_
  rcases z150 with z151 | z152
  · replace hS := (show _ = _ from hS)
    simp only [Sum.elim_inl] at hS
    intro e st' _ hX
    obtain ⟨rfl, rfl⟩ : _ ∧ _ := hX
    refine zkBlkX ?_
    refine zkSeq ?_
    exact f9_j1_ok hd a1 a2 a3 hQ z151.1 z151.2.1 z151.2.2 hS (by kernel_rfl)
  · simp only [Sum.elim_inr] at hS
    intro e st' _ hX
    obtain ⟨rfl, hX⟩ : _ ∧ _ := hX
    refine zkBlkR ?_
    refine zkSeqR ?_
    refine zkNil ?_
    exact endQ hS hQ (fRet ((congrArg (fun s => outR s 0 c9.res) hX).trans (f9_out z152)))
noncomputable def f9 (a1 : GKeys) (a2 : GMask) (a3 : List UInt8) : Option (Bool) := ((f24 (GEditor.mk ([]) false) a1 a2 a3).bind fun z50 => (f25.bind fun z153 => (bif (!z153) then (f25.bind fun z154 => (some z154)) else (bif (!decide (z50.2.2.2 = 0)) then (f25.bind fun z155 => (some z155)) else (f9_j0 a1 a2 a3 z50.1 z50.2.1 z50.2.2.1)))))
theorem f9_ok (d : Nat) (hd : 6 ≤ d) (a1 : GKeys) (a2 : GMask) (a3 : List UInt8) (r : Bool) (hS : f9 a1 a2 a3 = some r) : lev codes baseL d 9 [(.agg ((eU8.row 19 a1.Levels) ++ ((eU8.row 19 a1.Chars) ++ []))), (.agg (((eInt .u64).row 4 a2.Bits) ++ [])), (.d (.str a3))] [] = some ((.d (.bool r)), []) := by
  refine lev_go codes9 rfl rfl (Nat.le_trans (Nat.le_of_ble_eq_true rfl) hd) fun Q hQ => ?_
  unfold f9 at hS
  show ZR _ Q c9_b [] _
  replace hQ : ∀ e st', f9_Q r e st' → Q e st' := hQ
  refine zrSeq ?_
  refine zrReg ?_
  refine zlRun (n := 3) (j := 3) rfl (by kernel_rfl) ?_
  refine zlEnd (by kernel_rfl) ?_
  refine zkSeq ?_
  refine zrSeq ?_
  refine zrReg ?_
  refine zlRun (n := 4) (j := 4) rfl (by kernel_rfl) ?_
  refine bindE hS (fun z50 hz50 hS => ?_)
  refine zlOp (d := some 23) (op := (.call 24 [(.tmp 19), (.tmp 20), (.tmp 21), (.tmp 22)])) (g := none) (v := (.tup [(.agg ((.d (.str z50.1.Buf)) :: ((.d (.bool z50.1.Quote)) :: []))), (.r (.msl 192 1 0 z50.2.1.length)), (.d (.str z50.2.2.1)), (.d (.int .i64 z50.2.2.2))])) (ups := [(192, ⟨1, some (.own 9 1 (eStr.cells z50.2.1))⟩)]) (j := 5) rfl (by kernel_rfl) (by kernel_rfl) (ev_call (args := [(.agg ((.d (.str ([]))) :: ((.d (.bool false)) :: []))), (.agg ((eU8.row 19 a1.Levels) ++ ((eU8.row 19 a1.Chars) ++ []))), (.agg (((eInt .u64).row 4 a2.Bits) ++ [])), (.d (.str a3))]) (l := [(.agg ((.d (.str ([]))) :: ((.d (.bool false)) :: []))), (.agg ((eU8.row 19 a1.Levels) ++ ((eU8.row 19 a1.Chars) ++ []))), (.agg (((eInt .u64).row 4 a2.Bits) ++ [])), (.d (.str a3))]) (r := (.tup [(.agg ((.d (.str z50.1.Buf)) :: ((.d (.bool z50.1.Quote)) :: []))), (.r (.own 0 9 1 z50.2.1.length (eStr.cells z50.2.1))), (.d (.str z50.2.2.1)), (.d (.int .i64 z50.2.2.2))])) (by kernel_rfl) (by kernel_rfl) (f24_ok (d - 1) (dpt hd rfl) (GEditor.mk ([]) false) a1 a2 a3 z50 hz50) (by kernel_rfl) (by kernel_rfl) (by kernel_rfl)) ?_
  refine zlRun (n := 10) (j := 15) rfl (by kernel_rfl) ?_
  refine zlEnd (by kernel_rfl) ?_
  refine zkSeq ?_
  refine zrSeq ?_
  refine zrSeq ?_
  refine zrReg ?_
  refine bindE hS (fun z153 hz153 hS => ?_)
  refine zlOp (d := some 28) (op := (.call 25 [])) (g := none) (v := (.d (.bool z153))) (ups := []) (j := 1) rfl (by kernel_rfl) (by kernel_rfl) (ev_call (args := []) (l := []) (r := (.d (.bool z153))) (by kernel_rfl) (by kernel_rfl) (f25_ok (d - 1) (dpt hd rfl)  z153 hz153) (by kernel_rfl) (by kernel_rfl) (by kernel_rfl)) ?_
  refine zlRun (n := 2) (j := 3) rfl (by kernel_rfl) ?_
  refine zlSplit 30 (!z153) (by kernel_rfl) (fun hc => ?_) (fun hc => ?_)
  · replace hS := cond_t hc hS
    refine zlRun (n := 3) (j := 6) rfl (by kernel_rfl) ?_
    refine zlEnd (by kernel_rfl) ?_
    refine zkSeq ?_
    refine zrCondT (by kernel_rfl) ?_
    refine zrSeq ?_
    refine zrReg ?_
    refine bindE hS (fun z154 hz154 hS => ?_)
    refine zlOp (d := some 34) (op := (.call 25 [])) (g := none) (v := (.d (.bool z154))) (ups := []) (j := 1) rfl (by kernel_rfl) (by kernel_rfl) (ev_call (args := []) (l := []) (r := (.d (.bool z154))) (by kernel_rfl) (by kernel_rfl) (f25_ok (d - 1) (dpt hd rfl)  z154 hz154) (by kernel_rfl) (by kernel_rfl) (by kernel_rfl)) ?_
    refine zlRun (n := 1) (j := 2) rfl (by kernel_rfl) ?_
    refine zlEnd (by kernel_rfl) ?_
    refine zkSeq ?_
    refine zrRet ?_
    refine zkSeqR ?_
    refine zkNil ?_
    exact endQ hS hQ (fRet ((congrArg (fun s => outR s 0 c9.res) (by kernel_rfl : finSt c9.fin _ = f9_fin z154)).trans (f9_out z154)))
  · replace hS := cond_f hc hS
    refine zlRun (n := 1) (j := 4) rfl (by kernel_rfl) ?_
    refine zlBool (d := 32) (op := (.cmpI .neq (.tmp 31) (.const (.int .i64 0)))) (g := (some (30, false))) (j := 5) (!decide (z50.2.2.2 = 0)) rfl (by kernel_rfl) (by kernel_rfl) (by kernel_rfl) (fun hc => ?_) (fun hc => ?_)
    · replace hS := cond_t hc hS
      refine zlRun (n := 1) (j := 6) rfl (by kernel_rfl) ?_
      refine zlEnd (by kernel_rfl) ?_
      refine zkSeq ?_
      refine zrCondT (by kernel_rfl) ?_
      refine zrSeq ?_
      refine zrReg ?_
      refine bindE hS (fun z155 hz155 hS => ?_)
      refine zlOp (d := some 34) (op := (.call 25 [])) (g := none) (v := (.d (.bool z155))) (ups := []) (j := 1) rfl (by kernel_rfl) (by kernel_rfl) (ev_call (args := []) (l := []) (r := (.d (.bool z155))) (by kernel_rfl) (by kernel_rfl) (f25_ok (d - 1) (dpt hd rfl)  z155 hz155) (by kernel_rfl) (by kernel_rfl) (by kernel_rfl)) ?_
      refine zlRun (n := 1) (j := 2) rfl (by kernel_rfl) ?_
      refine zlEnd (by kernel_rfl) ?_
      refine zkSeq ?_
      refine zrRet ?_
      refine zkSeqR ?_
      refine zkNil ?_
      exact endQ hS hQ (fRet ((congrArg (fun s => outR s 0 c9.res) (by kernel_rfl : finSt c9.fin _ = f9_fin z155)).trans (f9_out z155)))
    · replace hS := cond_f hc hS
      refine zlRun (n := 1) (j := 6) rfl (by kernel_rfl) ?_
      refine zlEnd (by kernel_rfl) ?_
      refine zkSeq ?_
      refine zrCondF (by kernel_rfl) ?_
      refine zrSkip ?_
      refine zkSeq ?_
      exact f9_j0_ok hd a1 a2 a3 hQ z50.1 z50.2.1 z50.2.2.1 hS (by kernel_rfl)
end Go.Proofs.YtanhpibphkblnaaDoor.Pm
