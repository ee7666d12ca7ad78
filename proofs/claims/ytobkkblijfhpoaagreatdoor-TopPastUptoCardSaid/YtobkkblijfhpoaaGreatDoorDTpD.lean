/- Typed functions, and that the codes are these. Printed by dec.py. -/
import Derived.Test.YtobkkblijfhpoaaGreatDoorDTpC
namespace Go.Proofs.YtobkkblijfhpoaaGreatDoor.Pm
noncomputable section
set_option maxRecDepth 1000000
set_option maxHeartbeats 20000000
set_option linter.unusedVariables false
set_option linter.unusedSimpArgs false
variable {d : Nat} {Q : PQ} {st : St}
/- farwriter/grid.size -/
def f89_fin (p2 : Int) : St := ⟨(up u0 4 (dI p2)), h0⟩
theorem f89_out (p2 : Int) : outR (f89_fin p2) 0 c89.res = some ((dI p2), []) := by
 kernel_rfl
def f89_Q (r : Int) (e : PX) (st : St) : Prop := DoneF c89 0 ((dI r), []) e st
def f89 (a1 : Int) (a2 : Int) : Option (Int) := (bif (decide (a1 < 1)) then (some 1) else (bif (decide (160 < a1)) then (some 1) else (bif (decide (a2 < 1)) then (some 1) else (bif (decide (60 < a2)) then (some 1) else (some 0)))))
theorem f89_ok (d : Nat) (hd : 1 ≤ d) (a1 : Int) (a2 : Int) (r : Int) (hS : f89 a1 a2 = some r) : lev codes baseL d 89 [(dI a1), (dI a2)] [] = some ((dI r), []) := by
 refine lvG hd (fun Q hQ => ?_) codes89
 unfold f89 at hS
 show ZR _ Q c89_b [] _
 replace hQ : FQ (f89_Q r) Q := hQ
 refine zS (zL 1 1 (zK (zrSeq (zS (zL 1 1 ?_)))))
 refine sB 6 2 (.cmpI .lss (tm 5) (ki 1)) hS (fun hS => ?_) (fun hS => ?_)
 ·refine zL 12 14 (zK (zT (zS (zL 1 1 (zK ?_)))))
  exact zrRet (zkSeqR (zkNil (endQ hS hQ (fR (f89_out 1)))))
 ·refine zL 2 4 (sH 9 5 7 false (.cmpI .gtr (tm 8) (ki 160)) hS (fun hS => ?_) (fun hS => ?_))
  ·refine zL 9 14 (zK (zT (zS (zL 1 1 (zK ?_)))))
   exact zrRet (zkSeqR (zkNil (endQ hS hQ (fR (f89_out 1)))))
  ·refine zL 3 8 (sH 13 9 11 false (.cmpI .lss (tm 12) (ki 1)) hS (fun hS => ?_) (fun hS => ?_))
   ·refine zL 5 14 (zK (zT (zS (zL 1 1 (zK ?_)))))
    exact zrRet (zkSeqR (zkNil (endQ hS hQ (fR (f89_out 1)))))
   ·refine zL 3 12 (sH 17 13 15 false (.cmpI .gtr (tm 16) (ki 60)) hS (fun hS => ?_) (fun hS => ?_))
    ·refine zL 1 14 (zK (zT (zS (zL 1 1 (zK ?_)))))
     exact zrRet (zkSeqR (zkNil (endQ hS hQ (fR (f89_out 1)))))
    ·refine zL 1 14 (zK (zF ?_))
     refine zrSkip (zkSeq (zS (zL 1 1 (zK ?_))))
     exact zrRet (zkNil (endQ hS hQ (fR (f89_out 0))))
/- farwriter/pen.color -/
def f148_fin (p6 : Bool) : St := ⟨(up u0 2 (dB p6)), h0⟩
theorem f148_out (p6 : Bool) : outR (f148_fin p6) 0 c148.res = some ((dB p6), []) := by
 kernel_rfl
def f148_Q (r : Bool) (e : PX) (st : St) : Prop := DoneF c148 0 ((dB r), []) e st
def f148 (a1 : Int) : Option (Bool) := (bif (decide (0 ≤ a1)) then (bif (decide (a1 ≤ 256)) then (some true) else (bif (decide (16777216 ≤ a1)) then (bif (decide (a1 < 33554432)) then (some true) else (some false)) else (some false))) else (bif (decide (16777216 ≤ a1)) then (bif (decide (a1 < 33554432)) then (some true) else (some false)) else (some false)))
theorem f148_ok (d : Nat) (hd : 1 ≤ d) (a1 : Int) (r : Bool) (hS : f148 a1 = some r) : lev codes baseL d 148 [(dI a1)] [] = some ((dB r), []) := by
 refine lvG hd (fun Q hQ => ?_) codes148
 unfold f148 at hS
 show ZR _ Q c148_b [] _
 replace hQ : FQ (f148_Q r) Q := hQ
 refine zS (zL 1 1 (zK (zS (zL 1 1 ?_))))
 refine sB 4 2 (.cmpI .geq (tm 3) (ki 0)) hS (fun hS => ?_) (fun hS => ?_)
 ·refine zL 2 4 (sH 7 5 5 true (.cmpI .leq (tm 6) (ki 256)) hS (fun hS => ?_) (fun hS => ?_))
  ·refine zL 10 15 (zK ?_)
   exact zrRet (zkNil (endQ hS hQ (fR (f148_out true))))
  ·refine zL 3 8 (sH 11 9 9 false (.cmpI .geq (tm 10) (ki 16777216)) hS (fun hS => ?_) (fun hS => ?_))
   ·refine zL 2 11 (sH 14 12 12 true (.cmpI .lss (tm 13) (ki 33554432)) hS (fun hS => ?_) (fun hS => ?_))
    ·refine zL 3 15 (zK ?_)
     exact zrRet (zkNil (endQ hS hQ (fR (f148_out true))))
    ·refine zL 3 15 (zK ?_)
     exact zrRet (zkNil (endQ hS hQ (fR (f148_out false))))
   ·refine zL 6 15 (zK ?_)
    exact zrRet (zkNil (endQ hS hQ (fR (f148_out false))))
 ·refine zL 6 8 (sH 11 9 9 false (.cmpI .geq (tm 10) (ki 16777216)) hS (fun hS => ?_) (fun hS => ?_))
  ·refine zL 2 11 (sH 14 12 12 true (.cmpI .lss (tm 13) (ki 33554432)) hS (fun hS => ?_) (fun hS => ?_))
   ·refine zL 3 15 (zK ?_)
    exact zrRet (zkNil (endQ hS hQ (fR (f148_out true))))
   ·refine zL 3 15 (zK ?_)
    exact zrRet (zkNil (endQ hS hQ (fR (f148_out false))))
  ·refine zL 6 15 (zK ?_)
   exact zrRet (zkNil (endQ hS hQ (fR (f148_out false))))
/- farwriter/pen.Check -/
def f84_fin (p2 : Int) : St := ⟨(up u0 2 (dI p2)), h0⟩
theorem f84_out (p2 : Int) : outR (f84_fin p2) 0 c84.res = some ((dI p2), []) := by
 kernel_rfl
def f84_Q (r : Int) (e : PX) (st : St) : Prop := DoneF c84 0 ((dI r), []) e st
def f84 (a1 : GPen) : Option (Int) := (bif (decide (a1.Flags < 0)) then (some 4) else (bif (decide (255 < a1.Flags)) then (some 4) else ((f148 a1.Fore).bind fun z3 => (bif (!z3) then (some 4) else ((f148 a1.Back).bind fun z4 => (bif (!z4) then (some 4) else (some 0)))))))
theorem f84_ok (d : Nat) (hd : 2 ≤ d) (a1 : GPen) (r : Int) (hS : f84 a1 = some r) : lev codes baseL d 84 [(q24_ a1)] [] = some ((dI r), []) := by
 refine lvG hd (fun Q hQ => ?_) codes84
 unfold f84 at hS
 show ZR _ Q c84_b [] _
 replace hQ : FQ (f84_Q r) Q := hQ
 refine zS (zL 2 2 (zK (zrSeq (zS (zL 2 2 ?_)))))
 refine sB 5 3 (.cmpI .lss (tm 4) (ki 0)) hS (fun hS => ?_) (fun hS => ?_)
 ·refine zL 17 20 (zK (zT (zS (zL 1 1 (zK ?_)))))
  exact zrRet (zkSeqR (zkNil (endQ hS hQ (fR (f84_out 4)))))
 ·refine zL 3 6 (sH 9 7 6 false (.cmpI .gtr (tm 8) (ki 255)) hS (fun hS => ?_) (fun hS => ?_))
  ·refine zL 13 20 (zK (zT (zS (zL 1 1 (zK ?_)))))
   exact zrRet (zkSeqR (zkNil (endQ hS hQ (fR (f84_out 4)))))
  ·refine zL 4 11 (bindE hS (fun z3 hz3 hS => zG (some 14) 12 11 false (c1 148 13) (ev_cA (f148_ok (d - 1) (dpt hd rfl) a1.Fore z3 hz3)) (zL 3 15 (sL 17 hS (fun hS => ?_) (fun hS => ?_)))))
   ·refine zL 5 20 (zK (zT (zS (zL 1 1 (zK ?_)))))
    exact zrRet (zkSeqR (zkNil (endQ hS hQ (fR (f84_out 4)))))
   ·refine zL 2 17 (bindE hS (fun z4 hz4 hS => zG (some 20) 18 17 false (c1 148 19) (ev_cA (f148_ok (d - 1) (dpt hd rfl) a1.Back z4 hz4)) (zL 2 20 (zK ?_))))
    refine sR 22 hS (fun hS => ?_) (fun hS => ?_)
    ·refine zT (zS (zL 1 1 (zK ?_)))
     exact zrRet (zkSeqR (zkNil (endQ hS hQ (fR (f84_out 4)))))
    ·refine zF (zrSkip (zkSeq (zS (zL 1 1 (zK ?_)))))
     exact zrRet (zkNil (endQ hS hQ (fR (f84_out 0))))
/- farwriter/grid.Blank -/
def f152_fin (p1 : GCell) : St := ⟨(up u0 2 (pt 24)), (up h0 24 ⟨0, some (.box (q30_ p1))⟩)⟩
theorem f152_out (p1 : GCell) : outR (f152_fin p1) 0 c152.res = some ((.agg (q30_ p1)), []) := by
 kernel_rfl
def f152_Q (r : GCell) (e : PX) (st : St) : Prop := DoneF c152 0 ((.agg (q30_ r)), []) e st
def f152 (a1 : GPen) : Option (GCell) := (some (GCell.mk 32 a1))
theorem f152_ok (d : Nat) (hd : 1 ≤ d) (a1 : GPen) (r : GCell) (hS : f152 a1 = some r) : lev codes baseL d 152 [(q24_ a1)] [] = some ((.agg (q30_ r)), []) := by
 refine lvG hd (fun Q hQ => ?_) codes152
 unfold f152 at hS
 show ZR _ Q c152_b [] _
 replace hQ : FQ (f152_Q r) Q := hQ
 refine zS (zL 2 2 (zK (zS (zL 3 3 (zK ?_)))))
 exact zrRet (zkNil (endQ hS hQ (fR (f152_out (GCell.mk 32 a1)))))
/- math/bits.Mul64 -/
def f236_fin (p1 : Int) (p2 : Int) : St := ⟨(up (up u0 5 (.d (.int .u64 p2))) 4 (.d (.int .u64 p1))), h0⟩
theorem f236_out (p1 : Int) (p2 : Int) : outR (f236_fin p1 p2) 0 c236.res = some ((.tup [(.d (.int .u64 p1)), (.d (.int .u64 p2))]), []) := by
 kernel_rfl
def f236_Q (r : Int × Int) (e : PX) (st : St) : Prop := DoneF c236 0 ((.tup [(.d (.int .u64 r.1)), (.d (.int .u64 r.2))]), []) e st
def f236 (a1 : Int) (a2 : Int) : Option (Int × Int) := (some ((IntKind.u64.wrap ((IntKind.u64.wrap ((IntKind.u64.wrap ((Int.fdiv a1 (2 ^ 32)) * (Int.fdiv a2 (2 ^ 32)))) + (Int.fdiv (IntKind.u64.wrap ((IntKind.u64.wrap ((Int.fdiv a1 (2 ^ 32)) * (bitI .and .u64 a2 4294967295))) + (Int.fdiv (IntKind.u64.wrap ((bitI .and .u64 a1 4294967295) * (bitI .and .u64 a2 4294967295))) (2 ^ 32)))) (2 ^ 32)))) + (Int.fdiv (IntKind.u64.wrap ((bitI .and .u64 (IntKind.u64.wrap ((IntKind.u64.wrap ((Int.fdiv a1 (2 ^ 32)) * (bitI .and .u64 a2 4294967295))) + (Int.fdiv (IntKind.u64.wrap ((bitI .and .u64 a1 4294967295) * (bitI .and .u64 a2 4294967295))) (2 ^ 32)))) 4294967295) + (IntKind.u64.wrap ((bitI .and .u64 a1 4294967295) * (Int.fdiv a2 (2 ^ 32)))))) (2 ^ 32)))), (IntKind.u64.wrap (a1 * a2))))
theorem f236_ok (d : Nat) (hd : 1 ≤ d) (a1 : Int) (a2 : Int) (r : Int × Int) (hS : f236 a1 a2 = some r) : lev codes baseL d 236 [(.d (.int .u64 a1)), (.d (.int .u64 a2))] [] = some ((.tup [(.d (.int .u64 r.1)), (.d (.int .u64 r.2))]), []) := by
 refine lvG hd (fun Q hQ => ?_) codes236
 unfold f236 at hS
 show ZR _ Q c236_b [] _
 replace hQ : FQ (f236_Q r) Q := hQ
 refine zS (zL 2 2 (zK (zS (zL 3 3 (zK (zS (zL 3 3 (zK (zS (zL 3 3 (zK (zS (zL 3 3 (zK (zS (zL 4 4 (zK (zS (zL 7 7 (zK (zS (zL 3 3 (zK (zS (zL 3 3 (zK (zS (zL 6 6 (zK (zS (zL 9 9 (zK (zS (zL 4 4 (zK ?_)))))))))))))))))))))))))))))))))))
 exact zrRet (zkNil (endQ hS hQ (fR (f236_out (IntKind.u64.wrap ((IntKind.u64.wrap ((IntKind.u64.wrap ((Int.fdiv a1 (2 ^ 32)) * (Int.fdiv a2 (2 ^ 32)))) + (Int.fdiv (IntKind.u64.wrap ((IntKind.u64.wrap ((Int.fdiv a1 (2 ^ 32)) * (bitI .and .u64 a2 4294967295))) + (Int.fdiv (IntKind.u64.wrap ((bitI .and .u64 a1 4294967295) * (bitI .and .u64 a2 4294967295))) (2 ^ 32)))) (2 ^ 32)))) + (Int.fdiv (IntKind.u64.wrap ((bitI .and .u64 (IntKind.u64.wrap ((IntKind.u64.wrap ((Int.fdiv a1 (2 ^ 32)) * (bitI .and .u64 a2 4294967295))) + (Int.fdiv (IntKind.u64.wrap ((bitI .and .u64 a1 4294967295) * (bitI .and .u64 a2 4294967295))) (2 ^ 32)))) 4294967295) + (IntKind.u64.wrap ((bitI .and .u64 a1 4294967295) * (Int.fdiv a2 (2 ^ 32)))))) (2 ^ 32)))) (IntKind.u64.wrap (a1 * a2))))))
/- math/bits.Mul -/
def f198_fin (p1 : Int) (p2 : Int) : St := ⟨(up (up u0 5 (.d (.int .u64 p2))) 4 (.d (.int .u64 p1))), h0⟩
theorem f198_out (p1 : Int) (p2 : Int) : outR (f198_fin p1 p2) 0 c198.res = some ((.tup [(.d (.int .u64 p1)), (.d (.int .u64 p2))]), []) := by
 kernel_rfl
def f198_Q (r : Int × Int) (e : PX) (st : St) : Prop := DoneF c198 0 ((.tup [(.d (.int .u64 r.1)), (.d (.int .u64 r.2))]), []) e st
def f198_j0_J (a1 : Int) (a2 : Int) : St := ⟨(up (up u0 1 (.d (.int .u64 a2))) 0 (.d (.int .u64 a1))), h0⟩
def f198_j0 (a1 : Int) (a2 : Int) : Option (Int × Int) := ((f236 a1 a2).bind fun z2 => (some (z2.1, z2.2)))
theorem f198_j0_ok (hd : 2 ≤ d) (a1 : Int) (a2 : Int) {r : Int × Int} (hQ : FQ (f198_Q r) Q)  (hS : f198_j0 a1 a2 = some r) (he : keepSt [0, 1] [] [] st = f198_j0_J a1 a2) : ZX d Q c198_1 [] st := by
 refine zrKeep he ?_
 unfold f198_j0 at hS
 refine zS (zL 2 2 ?_)
 refine bindE hS (fun z2 hz2 hS => zO (some 25) 3 (.call 236 [(tm 23), (tm 24)]) (ev_cA (f236_ok (d - 1) (dpt hd rfl) a1 a2 z2 hz2)) (zL 5 8 (zK (zS (zL 4 4 (zK ?_))))))
 exact zrRet (zkNil (endQ hS hQ (fR (f198_out z2.1 z2.2))))
def f198 (a1 : Int) (a2 : Int) : Option (Int × Int) := (f198_j0 a1 a2 )
theorem f198_ok (d : Nat) (hd : 2 ≤ d) (a1 : Int) (a2 : Int) (r : Int × Int) (hS : f198 a1 a2 = some r) : lev codes baseL d 198 [(.d (.int .u64 a1)), (.d (.int .u64 a2))] [] = some ((.tup [(.d (.int .u64 r.1)), (.d (.int .u64 r.2))]), []) := by
 refine lvG hd (fun Q hQ => ?_) codes198
 unfold f198 at hS
 show ZR _ Q c198_b [] _
 replace hQ : FQ (f198_Q r) Q := hQ
 refine zS (zL 2 2 (zK (zrSeq (zF ?_))))
 exact zrSkip (zkSeq (f198_j0_ok hd a1 a2 hQ  hS (by kernel_rfl)))
/- slices.Repeat[[]farwriter/api.Cell,farwriter/api.Cell] -/
def f151_fin (p17 : List GCell) : St := ⟨(up u0 4 (.r (.msl 248 0 0 p17.length))), (up h0 248 ⟨0, some (.own 100 4 (e_GCell.cells p17))⟩)⟩
theorem f151_out (p17 : List GCell) : outR (f151_fin p17) 0 c151.res = some ((.r (.own 0 100 4 p17.length (e_GCell.cells p17))), []) := by
 exact out_of (ids := []) (ids' := [248]) (l := [(.r (.msl 248 0 0 p17.length))]) (by kernel_rfl) (by kernel_rfl) (o_own e_GCell (e := 100) (k := 4) (xs := p17) (by kernel_rfl) rfl rfl rfl rfl)
def f151_Q (r : (List GCell)) (e : PX) (st : St) : Prop := DoneF c151 0 ((.r (.own 0 100 4 r.length (e_GCell.cells r))), []) e st
def f151_l2_J (a1 : List GCell) (a2 : Int) (x : (List GCell) × Int) : St := ⟨(up (up u0 8 (dI x.2)) 7 (.r (.msl 248 0 0 x.1.length))), (up h0 248 ⟨0, some (.own 100 4 (e_GCell.cells x.1))⟩)⟩
def f151_l2_H (a1 : List GCell) (a2 : Int) (x : (List GCell) × Int) (st : St) : Prop := keepSt [7, 8] [(248, .id 248)] [] st = f151_l2_J a1 a2 x
def f151_l2_e0_J (a1 : List GCell) (a2 : Int) (p34 : List GCell) : St := ⟨(up u0 7 (.r (.msl 248 0 0 p34.length))), (up h0 248 ⟨0, some (.own 100 4 (e_GCell.cells p34))⟩)⟩
def f151_l2_X (a1 : List GCell) (a2 : Int) (z : ((List GCell))) (e : PX) (st : St) : Prop := e = .exit 0 ∧ st = f151_l2_e0_J a1 a2 z
def f151_l2_j3_J (a1 : List GCell) (a2 : Int) (p38 : List GCell) (p39 : Int) : St := ⟨(up (up u0 8 (dI p39)) 7 (.r (.msl 248 0 0 p38.length))), (up h0 248 ⟨0, some (.own 100 4 (e_GCell.cells p38))⟩)⟩
def f151_l2_j3 (a1 : List GCell) (a2 : Int) (p38 : List GCell) (p39 : Int) : Option (((List GCell) × Int) ⊕ (((List GCell)))) := ((chk (decide (0 ≤ p39) && decide (p39 ≤ (p38.length : Int)) && decide ((p38.length : Int) ≤ (p38.length : Int)))).bind fun z37 => ((chk (decide (0 ≤ 0) && decide (0 ≤ p39) && decide (p39 ≤ (p38.length : Int)))).bind fun z38 => ((part? p38 0 ((p39 : Int).toNat - (0 : Int).toNat)).bind fun z39 => ((chk (decide (((p39 : Int).toNat) + (((p38.length : Int) : Int).toNat - (p39 : Int).toNat) ≤ p38.length))).bind fun z40 => ((some (cpyL p38 ((p39 : Int).toNat) (((p38.length : Int) : Int).toNat - (p39 : Int).toNat) z39)).bind fun z41 => (some (.inl (z41, (IntKind.i64.wrap (p39 + ((min z39.length (((z41.length : Int) : Int).toNat - (p39 : Int).toNat) : Nat) : Int)))))))))))
theorem f151_l2_j3_ok (hd : 3 ≤ d) (a1 : List GCell) (a2 : Int) {r : ((List GCell) × Int) ⊕ (((List GCell)))} (hQ : FQ (finL (f151_l2_H a1 a2) (f151_l2_X a1 a2) r) Q) (p38 : List GCell) (p39 : Int) (hS : f151_l2_j3 a1 a2 p38 p39 = some r) (he : keepSt [7, 8] [(248, .id 248)] [] st = f151_l2_j3_J a1 a2 p38 p39) : ZX d Q c151_1 [] st := by
 refine zrKeep he ?_
 unfold f151_l2_j3 at hS
 refine zrBlk (zrRegD (zdR 3 3 (bindE hS (fun z37 hz37 hS => zdO (v := (.r (.msl 248 0 ((p39 : Int).toNat) (((p38.length : Int) : Int).toNat - (p39 : Int).toNat)))) (ups := []) (some 41) 4 none (.slS 100 4 (tm 39) (.some (tm 40)) .none) (ev_slM (b := 248) (g := 0) (e := 100) (a := p39) (c := (p38.length : Int)) (l := 0) (n := p38.length) (l' := ((p39 : Int).toNat)) (n' := (((p38.length : Int) : Int).toNat - (p39 : Int).toNat)) (cs := e_GCell.cells p38) (by kernel_rfl) (by kernel_rfl) (bnd_s _ (kk := .i64) (j := p39) (by kernel_rfl)) (bnd_n _) hz37 (by simp) rfl) (zdR 2 6 (bindE hS (fun z38 hz38 hS => zdO (v := (.r (.msl 248 0 0 ((p39 : Int).toNat - (0 : Int).toNat)))) (ups := []) (some 44) 7 none (.slS 100 4 (tm 42) .none (.some (tm 43))) (ev_slM (b := 248) (g := 0) (e := 100) (a := 0) (c := p39) (l := 0) (n := p38.length) (l' := 0) (n' := ((p39 : Int).toNat - (0 : Int).toNat)) (cs := e_GCell.cells p38) (by kernel_rfl) (by kernel_rfl) (bnd_n 0) (bnd_s _ (kk := .i64) (j := p39) (by kernel_rfl)) hz38 (by simp) rfl) (bindE hS (fun z39 hz39 hS => bindE hS (fun z40 hz40 hS => bindE hS (fun z41 hz41 hS => zdO (v := (dI ((min z39.length (((p38.length : Int) : Int).toNat - (p39 : Int).toNat) : Nat) : Int))) (ups := [(248, ⟨0, some (.own 100 4 (e_GCell.cells (cpyL p38 ((p39 : Int).toNat) (((p38.length : Int) : Int).toNat - (p39 : Int).toNat) z39)))⟩)]) (some 45) 8 none (.cpy 4 (tm 41) (tm 44)) (ev_cpy e_GCell (b := 248) (g := 0) (l := ((p39 : Int).toNat)) (n := (((p38.length : Int) : Int).toNat - (p39 : Int).toNat)) (e := 100) (xs := p38) (ys := z39) (by kernel_rfl) (by kernel_rfl) rfl ((congrArg (asL _) (by kernel_rfl : ρof _ (.tmp 44) = (.r (.msl 248 0 0 ((p39 : Int).toNat - (0 : Int).toNat))))).trans (as_part e_GCell (e := 100) (k := 4) (xs := p38) (by kernel_rfl) rfl hz39)) hz40) ?_)))))))))))
 have ez41 := Option.some.inj hz41
 have lz41 : p38.length = z41.length := by rw [← ez41]; exact (cpyL_len (of_decide_eq_true (chk_t hz40))).symm
 rw [ez41]
 try delta f151_l2_j3_J
 try delta q2_ q3_ q5_ q6_ q7_ q10_ q11_ q14_ q15_ q19_ q27_ q29_ q34_
 try delta bm_GScreen
 try rw [lz41]
 exact zdR 2 10 (zdE (zkBlk (zkNil (eN1 hS hQ))))
def f151_l2 (a1 : List GCell) (a2 : Int) (x : (List GCell) × Int) : Option (((List GCell) × Int) ⊕ (((List GCell)))) := (bif (decide (x.2 < (x.1.length : Int))) then (f151_l2_j3 a1 a2 x.1 x.2) else (some (.inr x.1)))
theorem f151_l2_ok (hd : 3 ≤ d) (a1 : List GCell) (a2 : Int) {r : ((List GCell) × Int) ⊕ (((List GCell)))} (hQ : FQ (finL (f151_l2_H a1 a2) (f151_l2_X a1 a2) r) Q) {x : (List GCell) × Int} (hS : f151_l2 a1 a2 x = some r) (he : f151_l2_H a1 a2 x st) : ZX d Q c151_2 [] st := by
 refine zrKeep he ?_
 unfold f151_l2 at hS
 refine zrSeq (zS (zL 3 3 ?_))
 refine sB 37 4 (.cmpI .lss (tm 34) (tm 36)) hS (fun hS => ?_) (fun hS => ?_)
 ·refine zK (zT ?_)
  exact zrSkip (zkSeq (f151_l2_j3_ok hd a1 a2 hQ x.1 x.2 hS (by kernel_rfl)))
 ·refine zK (zF ?_)
  exact zrKeep (J := f151_l2_e0_J a1 a2 x.1) (by kernel_rfl) (zrExit (zkSeqX (zkNil (eX0 hS hQ))))
def f151_j1_J (a1 : List GCell) (a2 : Int) (p23 : Int) : St := ⟨(up (up u0 6 (.d (.int .u64 p23))) 0 (dE e_GCell a1)), h0⟩
def f151_j1 (a1 : List GCell) (a2 : Int) (p23 : Int) : Option ((List GCell)) := ((mk? 32 (IntKind.i64.wrap (p23)) (IntKind.i64.wrap (p23)) (GCell.mk 0 (GPen.mk 0 0 0))).bind fun z24 => ((chk (decide (0 + z24.length ≤ z24.length))).bind fun z25 => ((some (cpyL z24 0 z24.length a1)).bind fun z26 => ((loopO (f151_l2 a1 a2) (z26, ((min a1.length z26.length : Nat) : Int))).bind fun z42 => (some z42)))))
theorem f151_j1_ok (hd : 3 ≤ d) (a1 : List GCell) (a2 : Int) {r : (List GCell)} (hQ : FQ (f151_Q r) Q) (p23 : Int) (hS : f151_j1 a1 a2 p23 = some r) (he : keepSt [0, 6] [] [] st = f151_j1_J a1 a2 p23) : ZX d Q c151_3 [] st := by
 refine zrKeep he ?_
 unfold f151_j1 at hS
 refine zS (zL 2 2 ?_)
 refine bindE hS (fun z24 hz24 hS => zO (v := (.r (.msl 248 1 0 z24.length))) (ups := [(248, ⟨1, some (.own 100 4 (e_GCell.cells z24))⟩)]) (some 30) 3 (.mks 100 4 32 [(4, (.int .i64 0))] (tm 29) (tm 29)) (ev_mks e_GCell (kl := .i64) (kc := .i64) (z0 := (GCell.mk 0 (GPen.mk 0 0 0))) (a := (IntKind.i64.wrap (p23))) (c := (IntKind.i64.wrap (p23))) (by kernel_rfl) (by kernel_rfl) (by kernel_rfl) rfl hz24) (zL 1 4 (zK (zS (zL 2 2 ?_)))))
 refine bindE hS (fun z25 hz25 hS => bindE hS (fun z26 hz26 hS => zO (v := (dI ((min a1.length z24.length : Nat) : Int))) (ups := [(248, ⟨1, some (.own 100 4 (e_GCell.cells (cpyL z24 0 z24.length a1)))⟩)]) (some 33) 3 (.cpy 4 (tm 31) (tm 32)) (ev_cpy e_GCell (b := 248) (g := 1) (l := 0) (n := z24.length) (e := 100) (xs := z24) (ys := a1) (by kernel_rfl) (by kernel_rfl) rfl ((congrArg (asL _) (by kernel_rfl : ρof _ (.tmp 32) = (dE e_GCell a1))).trans (as_d _ _)) hz25) ?_))
 have ez26 := Option.some.inj hz26
 have lz26 : z24.length = z26.length := by rw [← ez26]; exact (cpyL_len (of_decide_eq_true (chk_t hz25))).symm
 rw [ez26]
 try delta f151_j1_J
 try delta q2_ q3_ q5_ q6_ q7_ q10_ q11_ q14_ q15_ q19_ q27_ q29_ q34_
 try delta bm_GScreen
 try rw [lz26]
 refine zL 1 4 (zK (zrSeq ?_))
 refine zrBlk (bindE hS (fun z42 hz42 hS => zrLoop (f151_l2_H a1 a2) (f151_l2_X a1 a2) (fun x st r Q h0 hS hQ => f151_l2_ok hd a1 a2 hQ hS h0) (x := (z26, ((min a1.length z26.length : Nat) : Int))) (z := z42) (by show keepSt _ _ _ _ = _; kernel_rfl) hz42 ?_))
 intro e st' _ hX
 obtain ⟨rfl, rfl⟩ : _ ∧ _ := hX
 refine zkBlkX (zkSeq (zS (zL 2 2 (zK ?_))))
 exact zrRet (zkNil (endQ hS hQ (fR (f151_out z42))))
def f151_j0_J (a1 : List GCell) (a2 : Int) : St := ⟨(up (up u0 1 (dI a2)) 0 (dE e_GCell a1)), h0⟩
def f151_j0 (a1 : List GCell) (a2 : Int) : Option ((List GCell)) := ((f198 (IntKind.u64.wrap ((a1.length : Int))) (IntKind.u64.wrap (a2))).bind fun z21 => (bif (decide (0 < z21.1)) then ((chk false).bind fun z43 => ((chk false).bind fun z44 => (f151_j1 a1 a2 z21.2))) else (bif (decide (9223372036854775807 < z21.2)) then ((chk false).bind fun z45 => ((chk false).bind fun z46 => (f151_j1 a1 a2 z21.2))) else (f151_j1 a1 a2 z21.2))))
theorem f151_j0_ok (hd : 3 ≤ d) (a1 : List GCell) (a2 : Int) {r : (List GCell)} (hQ : FQ (f151_Q r) Q)  (hS : f151_j0 a1 a2 = some r) (he : keepSt [0, 1] [] [] st = f151_j0_J a1 a2) : ZX d Q c151_4 [] st := by
 refine zrKeep he ?_
 unfold f151_j0 at hS
 refine zS (zL 5 5 ?_)
 refine bindE hS (fun z21 hz21 hS => zO (some 18) 6 (.call 198 [(tm 15), (tm 17)]) (ev_cA (f198_ok (d - 1) (dpt hd rfl) (IntKind.u64.wrap ((a1.length : Int))) (IntKind.u64.wrap (a2)) z21 hz21)) (zL 5 11 (zK (zrSeq (zS (zL 1 1 ?_))))))
 refine sB 22 2 (.cmpI .gtr (tm 21) (.const (.int .u64 0))) hS (fun hS => ?_) (fun hS => ?_)
 ·refine zL 4 6 (zK (zT (zrReg ?_)))
  refine bindE hS (fun z43 hz43 hS => zO (v := .un) (ups := []) (some 27) 1 (.mx []) (by exact absurd hz43 (by simp [chk])) (bindE hS (fun z44 hz44 hS => zO (v := .un) (ups := []) none 2 (.mx []) (by exact absurd hz44 (by simp [chk])) (zK ?_))))
  exact f151_j1_ok hd a1 a2 hQ z21.2 hS (by kernel_rfl)
 ·refine zL 2 4 (sH 25 5 23 false (.cmpI .gtr (tm 24) (.const (.int .u64 9223372036854775807))) hS (fun hS => ?_) (fun hS => ?_))
  ·refine zL 1 6 (zK (zT (zrReg ?_)))
   refine bindE hS (fun z45 hz45 hS => zO (v := .un) (ups := []) (some 27) 1 (.mx []) (by exact absurd hz45 (by simp [chk])) (bindE hS (fun z46 hz46 hS => zO (v := .un) (ups := []) none 2 (.mx []) (by exact absurd hz46 (by simp [chk])) (zK ?_))))
   exact f151_j1_ok hd a1 a2 hQ z21.2 hS (by kernel_rfl)
  ·refine zL 1 6 (zK (zF ?_))
   exact zrSkip (zkSeq (f151_j1_ok hd a1 a2 hQ z21.2 hS (by kernel_rfl)))
def f151 (a1 : List GCell) (a2 : Int) : Option ((List GCell)) := (bif (decide (a2 < 0)) then ((chk false).bind fun z47 => ((chk false).bind fun z48 => (f151_j0 a1 a2 ))) else (f151_j0 a1 a2 ))
theorem f151_ok (d : Nat) (hd : 3 ≤ d) (a1 : List GCell) (a2 : Int) (r : (List GCell)) (hS : f151 a1 a2 = some r) : lev codes baseL d 151 [(dE e_GCell a1), (dI a2)] [] = some ((.r (.own 0 100 4 r.length (e_GCell.cells r))), []) := by
 refine lvG hd (fun Q hQ => ?_) codes151
 unfold f151 at hS
 show ZR _ Q c151_b [] _
 replace hQ : FQ (f151_Q r) Q := hQ
 refine zS (zL 1 1 (zK (zrSeq (zS (zL 1 1 ?_)))))
 refine sB 10 2 (.cmpI .lss (tm 9) (ki 0)) hS (fun hS => ?_) (fun hS => ?_)
 ·refine zK (zT (zrReg ?_))
  refine bindE hS (fun z47 hz47 hS => zO (v := .un) (ups := []) (some 11) 1 (.mx []) (by exact absurd hz47 (by simp [chk])) (bindE hS (fun z48 hz48 hS => zO (v := .un) (ups := []) none 2 (.mx []) (by exact absurd hz48 (by simp [chk])) (zK ?_))))
  exact f151_j0_ok hd a1 a2 hQ  hS (by kernel_rfl)
 ·refine zK (zF ?_)
  exact zrSkip (zkSeq (f151_j0_ok hd a1 a2 hQ  hS (by kernel_rfl)))
/- farwriter/grid.blanks -/
def f90_fin (p1 : Int) (p2 : Int) (p3 : List GCell) : St := ⟨(up u0 6 (pt 56)), (up (up h0 128 ⟨0, some (.own 100 4 (e_GCell.cells p3))⟩) 56 ⟨0, some (.box ((dI p1) :: ((dI p2) :: ((.r (.msl 128 0 0 p3.length)) :: []))))⟩)⟩
theorem f90_out (p1 : Int) (p2 : Int) (p3 : List GCell) : outR (f90_fin p1 p2 p3) 0 c90.res = some ((.agg ((dI p1) :: ((dI p2) :: ((.r (.own 0 100 4 p3.length (e_GCell.cells p3))) :: [])))), []) := by
 exact out_of (ids := []) (ids' := [128]) (l := [(.agg ((dI p1) :: ((dI p2) :: ((.r (.msl 128 0 0 p3.length)) :: []))))]) (by kernel_rfl) (by kernel_rfl) (o_agg (o_cons rfl (o_cons rfl (o_cons (o_own e_GCell (e := 100) (k := 4) (xs := p3) (by kernel_rfl) rfl rfl rfl rfl) o_nil))))
def f90_Q (r : Int × Int × (List GCell)) (e : PX) (st : St) : Prop := DoneF c90 0 ((.agg ((dI r.1) :: ((dI r.2.1) :: ((.r (.own 0 100 4 r.2.2.length (e_GCell.cells r.2.2))) :: [])))), []) e st
def f90 (a1 : Int) (a2 : Int) (a3 : GPen) : Option (Int × Int × (List GCell)) := ((f152 a3).bind fun z3 => ((f151 [z3] (IntKind.i64.wrap (a1 * a2))).bind fun z4 => (some (a1, a2, z4))))
theorem f90_ok (d : Nat) (hd : 4 ≤ d) (a1 : Int) (a2 : Int) (a3 : GPen) (r : Int × Int × (List GCell)) (hS : f90 a1 a2 a3 = some r) : lev codes baseL d 90 [(dI a1), (dI a2), (q24_ a3)] [] = some ((.agg ((dI r.1) :: ((dI r.2.1) :: ((.r (.own 0 100 4 r.2.2.length (e_GCell.cells r.2.2))) :: [])))), []) := by
 refine lvG hd (fun Q hQ => ?_) codes90
 unfold f90 at hS
 show ZR _ Q c90_b [] _
 replace hQ : FQ (f90_Q r) Q := hQ
 refine zS (zL 2 2 (zK (zS (zL 3 3 ?_))))
 refine bindE hS (fun z3 hz3 hS => zO (some 10) 4 (c1 152 9) (ev_cA (f152_ok (d - 1) (dpt hd rfl) a3 z3 hz3)) (zL 4 8 (bindE hS (fun z4 hz4 hS => zO (some 15) 9 (.call 151 [(tm 11), (tm 14)]) (ev_callB (args := [(.r (.msl 96 1 0 (([z3] : List GCell).length))), (dI (IntKind.i64.wrap (a1 * a2)))]) (by kernel_rfl) (l_cons (l_own e_GCell (e := 100) (k := 4) (xs := [z3]) (by kernel_rfl) rfl rfl) (lk l_nil)) (f151_ok (d - 1) (dpt hd rfl) [z3] (IntKind.i64.wrap (a1 * a2)) z4 hz4) (by simp only [free_own e_GCell (fun _ => rfl), free_tup, free_agg, free_nl, free_cs, free_int, free_bool, free_str, free_un, free_ni, free_s0, Bool.and_true, Bool.or_true, Bool.and_self]) (by kernel_rfl)) (zL 2 11 (zK ?_))))))
 exact zrRet (zkNil (endQ hS hQ (fR (f90_out a1 a2 z4))))
/- farwriter/grid.New -/
def f44_fin (p1 : Int) (p2 : Int) (p3 : List GCell) : St := ⟨(up (up u0 7 (dI 0)) 6 (pt 56)), (up (up h0 216 ⟨0, some (.own 100 4 (e_GCell.cells p3))⟩) 56 ⟨0, some (.box ((dI p1) :: ((dI p2) :: ((.r (.msl 216 0 0 p3.length)) :: []))))⟩)⟩
theorem f44_out (p1 : Int) (p2 : Int) (p3 : List GCell) : outR (f44_fin p1 p2 p3) 0 c44.res = some ((.tup [(.agg ((dI p1) :: ((dI p2) :: ((.r (.own 0 100 4 p3.length (e_GCell.cells p3))) :: [])))), (dI 0)]), []) := by
 exact out_of (ids := []) (ids' := [216]) (l := [(.agg ((dI p1) :: ((dI p2) :: ((.r (.msl 216 0 0 p3.length)) :: [])))), (dI 0)]) (by kernel_rfl) (by kernel_rfl) (o_tup (o_cons (o_agg (o_cons rfl (o_cons rfl (o_cons (o_own e_GCell (e := 100) (k := 4) (xs := p3) (by kernel_rfl) rfl rfl rfl rfl) o_nil)))) (o_cons rfl o_nil)))
def f44_Q (r : Int × Int × (List GCell)) (e : PX) (st : St) : Prop := DoneF c44 0 ((.tup [(.agg ((dI r.1) :: ((dI r.2.1) :: ((.r (.own 0 100 4 r.2.2.length (e_GCell.cells r.2.2))) :: [])))), (dI 0)]), []) e st
def f44_j0_J (a1 : Int) (a2 : Int) (a3 : GPen) : St := ⟨(up (up (up (up u0 6 (pt 56)) 5 (pt 48)) 1 (dI a2)) 0 (dI a1)), (up q34_ 48 (q21_ a3))⟩
def f44_j0 (a1 : Int) (a2 : Int) (a3 : GPen) : Option (Int × Int × (List GCell)) := ((f84 a3).bind fun z5 => (bif (!decide (z5 = 0)) then none else ((f90 a1 a2 a3).bind fun z6 => (some (z6.1, z6.2.1, z6.2.2)))))
theorem f44_j0_ok (hd : 5 ≤ d) (a1 : Int) (a2 : Int) (a3 : GPen) {r : Int × Int × (List GCell)} (hQ : FQ (f44_Q r) Q)  (hS : f44_j0 a1 a2 a3 = some r) (he : keepSt [0, 1, 5, 6] [(48, .id 48), (56, .id 56)] [.cell 56 2 0 0 1] st = f44_j0_J a1 a2 a3) : ZX d Q c44_1 [] st := by
 refine zrKeep he ?_
 unfold f44_j0 at hS
 refine zrSeq (zS (zL 1 1 ?_))
 refine bindE hS (fun z5 hz5 hS => zO (some 18) 2 (c1 84 17) (ev_cA (f84_ok (d - 1) (dpt hd rfl) a3 z5 hz5)) (zL 1 3 (zK (zS (zL 1 1 ?_)))))
 refine sB 20 2 (.cmpI .neq (tm 19) (ki 0)) hS (fun hS => ?_) (fun hS => ?_)
 ·cases hS
 ·refine zK (zF ?_)
  refine zrSkip (zkSeq (zS (zL 3 3 ?_)))
  refine bindE hS (fun z6 hz6 hS => zO (some 26) 4 (.call 90 [(tm 23), (tm 24), (tm 25)]) (ev_cA (f90_ok (d - 1) (dpt hd rfl) a1 a2 a3 z6 hz6)) (zL 2 6 (zK ?_)))
  exact zrRet (zkNil (endQ hS hQ (fR (f44_out z6.1 z6.2.1 z6.2.2))))
def f44 (a1 : Int) (a2 : Int) (a3 : GPen) : Option (Int × Int × (List GCell)) := ((f89 a1 a2).bind fun z7 => (bif (!decide (z7 = 0)) then none else (f44_j0 a1 a2 a3 )))
theorem f44_ok (d : Nat) (hd : 5 ≤ d) (a1 : Int) (a2 : Int) (a3 : GPen) (r : Int × Int × (List GCell)) (hS : f44 a1 a2 a3 = some r) : lev codes baseL d 44 [(dI a1), (dI a2), (q24_ a3)] [] = some ((.tup [(.agg ((dI r.1) :: ((dI r.2.1) :: ((.r (.own 0 100 4 r.2.2.length (e_GCell.cells r.2.2))) :: [])))), (dI 0)]), []) := by
 refine lvG hd (fun Q hQ => ?_) codes44
 unfold f44 at hS
 show ZR _ Q c44_b [] _
 replace hQ : FQ (f44_Q r) Q := hQ
 refine zS (zL 3 3 (zK (zrSeq (zS (zL 2 2 ?_)))))
 refine bindE hS (fun z7 hz7 hS => zO (some 12) 3 (.call 89 [(tm 10), (tm 11)]) (ev_cA (f89_ok (d - 1) (dpt hd rfl) a1 a2 z7 hz7)) (zL 1 4 (zK (zS (zL 1 1 ?_)))))
 refine sB 14 2 (.cmpI .neq (tm 13) (ki 0)) hS (fun hS => ?_) (fun hS => ?_)
 ·cases hS
 ·refine zK (zF ?_)
  exact zrSkip (zkSeq (f44_j0_ok hd a1 a2 a3 hQ  hS (by kernel_rfl)))
/- slices.Clone[[]farwriter/api.Cell,farwriter/api.Cell] -/
def f91_fin (p1 : List GCell) : St := ⟨(up u0 2 (.r (.msl 97 0 0 p1.length))), (up h0 97 ⟨0, some (.own 100 4 (e_GCell.cells p1))⟩)⟩
theorem f91_out (p1 : List GCell) : outR (f91_fin p1) 0 c91.res = some ((.r (.own 0 100 4 p1.length (e_GCell.cells p1))), []) := by
 exact out_of (ids := []) (ids' := [97]) (l := [(.r (.msl 97 0 0 p1.length))]) (by kernel_rfl) (by kernel_rfl) (o_own e_GCell (e := 100) (k := 4) (xs := p1) (by kernel_rfl) rfl rfl rfl rfl)
def f91_Q (r : List GCell) (e : PX) (st : St) : Prop := DoneF c91 0 ((.r (.own 0 100 4 r.length (e_GCell.cells r))), []) e st
def f91 (a1 : List GCell) : Option (List GCell) := ((app? 32 ([] : List GCell) a1).bind fun z2 => (some z2))
theorem f91_ok (d : Nat) (hd : 1 ≤ d) (a1 : List GCell) (r : List GCell) (hS : f91 a1 = some r) : lev codes baseL d 91 [(dE e_GCell a1)] [] = some ((.r (.own 0 100 4 r.length (e_GCell.cells r))), []) := by
 refine lev_goZ codes91 rfl rfl (Nat.le_trans (Nat.le_of_ble_eq_true rfl) hd) (fun Q hQ => ?_) (fun h0 Q hQ => ?_)
 ·unfold f91 at hS
  show ZR _ Q c91_b [] _
  refine zS (zL 1 1 (zK (zrSeq (zS (zL 2 2 (zK (zF ?_)))))))
  refine zrSkip (zkSeq (zS (zL 2 2 ?_)))
  refine bindE hS (fun z2 hz2 hS => zO (v := (.r (.msl 48 2 0 z2.length))) (ups := [(48, ⟨2, some (.own 100 4 (e_GCell.cells z2))⟩)]) (some 7) 3 (.app 100 4 32 (tm 5) (tm 6)) (ev_app e_GCell (b := 48) (g := 1) (n := ([] : List GCell).length) (xs := []) (ys := a1) ((congrArg (asL _) (by kernel_rfl : ρof _ (.tmp 6) = (.slz false a1.length (e_GCell.cells a1)))).trans rfl) rfl (by kernel_rfl) rfl (by kernel_rfl) rfl hz2) (zL 1 4 (zK ?_)))
  exact zrRet (zkNil (endQ (F := f91_Q) hS hQ (fRet (by kernel_rfl) ((congrArg (fun s => outR s 0 c91.res) (by kernel_rfl : finSt c91.fin _ = f91_fin z2)).trans (f91_out z2)))))
 ·have hS : (some []) = some r := by
   have hl := List.eq_nil_of_length_eq_zero h0
   subst hl
   simpa [f91, app?] using hS
  show ZR _ Q c91_b [] _
  refine zS (zL 1 1 (zK (zrSeq (zS (zL 2 2 (zK (zT (zS (zL 1 1 (zK ?_))))))))))
  exact zrRet (zkSeqR (zkNil (endQ (F := f91_Q) hS hQ (fRet (by kernel_rfl) ((congrArg (fun s => outR s 0 c91.res) (by kernel_rfl : finSt c91.fin _ = f91_fin [])).trans (f91_out []))))))
/- farwriter/grid.Clone -/
def f45_fin (p1 : Int) (p2 : Int) (p3 : List GCell) : St := ⟨(up u0 2 (pt 24)), (up (up h0 48 ⟨0, some (.own 100 4 (e_GCell.cells p3))⟩) 24 ⟨0, some (.box ((dI p1) :: ((dI p2) :: ((.r (.msl 48 0 0 p3.length)) :: []))))⟩)⟩
theorem f45_out (p1 : Int) (p2 : Int) (p3 : List GCell) : outR (f45_fin p1 p2 p3) 0 c45.res = some ((.agg ((dI p1) :: ((dI p2) :: ((.r (.own 0 100 4 p3.length (e_GCell.cells p3))) :: [])))), []) := by
 exact out_of (ids := []) (ids' := [48]) (l := [(.agg ((dI p1) :: ((dI p2) :: ((.r (.msl 48 0 0 p3.length)) :: []))))]) (by kernel_rfl) (by kernel_rfl) (o_agg (o_cons rfl (o_cons rfl (o_cons (o_own e_GCell (e := 100) (k := 4) (xs := p3) (by kernel_rfl) rfl rfl rfl rfl) o_nil))))
def f45_Q (r : Int × Int × (List GCell)) (e : PX) (st : St) : Prop := DoneF c45 0 ((.agg ((dI r.1) :: ((dI r.2.1) :: ((.r (.own 0 100 4 r.2.2.length (e_GCell.cells r.2.2))) :: [])))), []) e st
def f45 (a1 : GGrid) : Option (Int × Int × (List GCell)) := ((f91 a1.Cells).bind fun z2 => (some (a1.Wide, a1.High, z2)))
theorem f45_ok (d : Nat) (hd : 2 ≤ d) (a1 : GGrid) (r : Int × Int × (List GCell)) (hS : f45 a1 = some r) : lev codes baseL d 45 [(.agg (q20_ a1))] [] = some ((.agg ((dI r.1) :: ((dI r.2.1) :: ((.r (.own 0 100 4 r.2.2.length (e_GCell.cells r.2.2))) :: [])))), []) := by
 refine lvG hd (fun Q hQ => ?_) codes45
 unfold f45 at hS
 show ZR _ Q c45_b [] _
 replace hQ : FQ (f45_Q r) Q := hQ
 refine zS (zL 2 2 (zK (zS (zL 2 2 ?_))))
 refine bindE hS (fun z2 hz2 hS => zO (some 5) 3 (c1 91 4) (ev_cA (f91_ok (d - 1) (dpt hd rfl) a1.Cells z2 hz2)) (zL 2 5 (zK (zS (zL 2 2 (zK ?_))))))
 exact zrRet (zkNil (endQ hS hQ (fR (f45_out a1.Wide a1.High z2))))
/- farwriter/tabs.Usual -/
def f46_fin (p12 : GStops) : St := ⟨(up u0 0 (pt 8)), (up h0 8 ⟨0, some (.box (((eInt .u64).row 4 p12.Bits) ++ []))⟩)⟩
theorem f46_out (p12 : GStops) : outR (f46_fin p12) 0 c46.res = some ((.agg (((eInt .u64).row 4 p12.Bits) ++ [])), []) := by
 kernel_rfl
def f46_Q (r : GStops) (e : PX) (st : St) : Prop := DoneF c46 0 ((.agg (((eInt .u64).row 4 r.Bits) ++ [])), []) e st
def f46_l0_J  (x : GStops × Int) : St := ⟨(up (up (up u0 2 (dI x.2)) 1 (pt 16)) 0 (pt 8)), (up (up h0 16 ⟨0, some (.box (((eInt .u64).row 4 x.1.Bits) ++ []))⟩) 8 ⟨0, some (.box (((eInt .u64).row 4 (fun _ => 0)) ++ []))⟩)⟩
def f46_l0_H  (x : GStops × Int) (st : St) : Prop := keepSt [0, 1, 2] [(8, .id 8), (16, .id 16)] [] st = f46_l0_J x
def f46_l0_e0_J (p11 : GStops) : St := ⟨(up (up u0 1 (pt 16)) 0 (pt 8)), (up (up h0 16 ⟨0, some (.box (((eInt .u64).row 4 p11.Bits) ++ []))⟩) 8 ⟨0, some (.box (((eInt .u64).row 4 (fun _ => 0)) ++ []))⟩)⟩
def f46_l0_X  (z : GStops) (e : PX) (st : St) : Prop := e = .exit 0 ∧ st = f46_l0_e0_J z
def f46_l0_j1_J (p16 : GStops) (p17 : Int) : St := ⟨(up (up (up u0 2 (dI p17)) 1 (pt 16)) 0 (pt 8)), (up (up h0 16 ⟨0, some (.box (((eInt .u64).row 4 p16.Bits) ++ []))⟩) 8 ⟨0, some (.box (((eInt .u64).row 4 (fun _ => 0)) ++ []))⟩)⟩
def f46_l0_j1 (p16 : GStops) (p17 : Int) : Option ((GStops × Int) ⊕ GStops) := ((inR (IntKind.i64.wrap (Int.tdiv p17 64)) 4).bind fun m7 => ((chk (decide (0 ≤ (Int.tmod p17 64)))).bind fun z8 => ((inR (IntKind.i64.wrap (Int.tdiv p17 64)) 4).bind fun m9 => (some (.inl ((GStops.mk (upd p16.Bits m9 (bitI .or .u64 (p16.Bits m7) (IntKind.u64.wrap (1 * 2 ^ (min ((Int.tmod p17 64) : Int).toNat 64)))))), (IntKind.i64.wrap (p17 + 8))))))))
theorem f46_l0_j1_ok (hd : 1 ≤ d)  {r : (GStops × Int) ⊕ GStops} (hQ : FQ (finL (f46_l0_H ) (f46_l0_X ) r) Q) (p16 : GStops) (p17 : Int) (hS : f46_l0_j1 p16 p17 = some r) (he : keepSt [0, 1, 2] [(8, .id 8), (16, .id 16)] [] st = f46_l0_j1_J p16 p17) : ZX d Q c46_1 [] st := by
 refine zrKeep he ?_
 unfold f46_l0_j1 at hS
 refine zrSeq (zrBlk (zrRegD (zdR 3 3 (bindE hS (fun m7 hm7 hS => zdO (v := (.r (.ptr 16 0 (0 + m7 * 1)))) (ups := []) (some 10) 4 none (.ixA 4 1 (tm 9) (tm 8)) (ev_ixA (kk := .i64) (b := 16) (g := 0) (o := 0) (j := (IntKind.i64.wrap (Int.tdiv p17 64))) (by kernel_rfl) (by kernel_rfl) hm7) (zdO (v := (.d (.int .u64 (p16.Bits m7)))) (ups := []) (some 11) 5 none (lf 1 10) (ev_loadA (eInt .u64) (b := 16) (g := 0) (o := 0 + m7 * 1) (f := p16.Bits) (nn := 4) (m := m7) (fo := 0) (pre := []) (post := []) (by kernel_rfl) (by kernel_rfl) (by kernel_rfl) (inR_lt hm7) (by kernel_rfl) (by kernel_rfl) (by kernel_rfl)) (zdR 2 7 (bindE hS (fun z8 hz8 hS => zdO (v := (.d (.int .u64 (IntKind.u64.wrap (1 * 2 ^ (min ((Int.tmod p17 64) : Int).toNat 64)))))) (ups := []) (some 14) 8 none (.sh .shl (.const (.int .u64 1)) (tm 13)) (ev_sh (kk := .u64) (k2 := .i64) (a := 1) (c := (Int.tmod p17 64)) (by kernel_rfl) (by kernel_rfl) (sh_l hz8)) (zdR 2 10 (bindE hS (fun m9 hm9 hS => zdO (v := (.r (.ptr 16 0 (0 + m9 * 1)))) (ups := []) (some 17) 11 none (.ixA 4 1 (tm 16) (tm 8)) (ev_ixA (kk := .i64) (b := 16) (g := 0) (o := 0) (j := (IntKind.i64.wrap (Int.tdiv p17 64))) (by kernel_rfl) (by kernel_rfl) hm9) (zdO (v := .un) (ups := [(16, ⟨0, some (.box (((eInt .u64).row 4 (upd p16.Bits m9 (bitI .or .u64 (p16.Bits m7) (IntKind.u64.wrap (1 * 2 ^ (min ((Int.tmod p17 64) : Int).toNat 64)))))) ++ []))⟩)]) none 12 none (.store 1 (tm 17) (tm 15)) (ev_storeA (eInt .u64) (b := 16) (g := 0) (o := 0 + m9 * 1) (f := p16.Bits) (nn := 4) (m := m9) (fo := 0) (pre := []) (post := []) (by kernel_rfl) (by kernel_rfl) (by kernel_rfl) (inR_lt hm9) (new := ((.d (.int .u64 (bitI .or .u64 (p16.Bits m7) (IntKind.u64.wrap (1 * 2 ^ (min ((Int.tmod p17 64) : Int).toNat 64)))))) :: [])) (ds := [.int .u64 (bitI .or .u64 (p16.Bits m7) (IntKind.u64.wrap (1 * 2 ^ (min ((Int.tmod p17 64) : Int).toNat 64))))]) (z' := (bitI .or .u64 (p16.Bits m7) (IntKind.u64.wrap (1 * 2 ^ (min ((Int.tmod p17 64) : Int).toNat 64))))) (by kernel_rfl) (by kernel_rfl) (by kernel_rfl) (by kernel_rfl) (by kernel_rfl) (by kernel_rfl)) (zdE (zkBlk (zkSeq (zrReg (zL 3 3 (zE ?_)))))))))))))))))))
 exact zkNil (eN1 hS hQ)
def f46_l0  (x : GStops × Int) : Option ((GStops × Int) ⊕ GStops) := (bif (decide (x.2 ≤ 248)) then (f46_l0_j1  x.1 x.2) else (some (.inr x.1)))
theorem f46_l0_ok (hd : 1 ≤ d)  {r : (GStops × Int) ⊕ GStops} (hQ : FQ (finL (f46_l0_H ) (f46_l0_X ) r) Q) {x : GStops × Int} (hS : f46_l0 x = some r) (he : f46_l0_H x st) : ZX d Q c46_2 [] st := by
 refine zrKeep he ?_
 unfold f46_l0 at hS
 refine zrSeq (zS (zL 1 1 ?_))
 refine sB 4 2 (.cmpI .leq (tm 3) (ki 248)) hS (fun hS => ?_) (fun hS => ?_)
 ·refine zK (zT ?_)
  exact zrSkip (zkSeq (f46_l0_j1_ok hd  hQ x.1 x.2 hS (by kernel_rfl)))
 ·refine zK (zF ?_)
  exact zrKeep (J := f46_l0_e0_J x.1) (by kernel_rfl) (zrExit (zkSeqX (zkNil (eX0 hS hQ))))
def f46  : Option (GStops) := ((loopO (f46_l0 ) ((GStops.mk (fun _ => 0)), 8)).bind fun z10 => (some z10))
theorem f46_ok (d : Nat) (hd : 1 ≤ d)  (r : GStops) (hS : f46 = some r) : lev codes baseL d 46 [] [] = some ((.agg (((eInt .u64).row 4 r.Bits) ++ [])), []) := by
 refine lvG hd (fun Q hQ => ?_) codes46
 unfold f46 at hS
 show ZR _ Q c46_b [] _
 replace hQ : FQ (f46_Q r) Q := hQ
 refine zS (zL 1 1 (zK (zS (zL 1 1 (zK (zrSeq (zS (zL 1 1 (zK ?_)))))))))
 refine zrBlk (bindE hS (fun z10 hz10 hS => zrLoop (f46_l0_H ) (f46_l0_X ) (fun x st r Q h0 hS hQ => f46_l0_ok hd  hQ hS h0) (x := ((GStops.mk (fun _ => 0)), 8)) (z := z10) (by show keepSt _ _ _ _ = _; kernel_rfl) hz10 ?_))
 intro e st' _ hX
 obtain ⟨rfl, rfl⟩ : _ ∧ _ := hX
 refine zkBlkX (zkSeq (zS (zL 2 2 (zK ?_))))
 exact zrRet (zkNil (endQ hS hQ (fR (f46_out z10))))
/- farwriter/screen.New -/
def f23_fin (p1 : GScreen) : St := ⟨(up (up u0 5 (dI 0)) 4 (pt 40)), (up (up (up h0 192 ⟨0, some (go1_GScreen p1)⟩) 112 ⟨0, some (go0_GScreen p1)⟩) 40 ⟨0, some (.box (bx_GScreen p1 (.r (.msl 112 0 0 p1.Grid.Cells.length)) (.r (.msl 192 0 0 p1.Other.Cells.length)) .nil))⟩)⟩
theorem f23_out (p1 : GScreen) : outR (f23_fin p1) 0 c23.res = some ((q17_ p1), []) := by
 exact out_of (ids := []) (ids' := [112, 192]) (l := [(.agg ((dI p1.Grid.Wide) :: ((dI p1.Grid.High) :: ((.r (.msl 112 0 0 p1.Grid.Cells.length)) :: ((dI p1.Row) :: ((dI p1.Col) :: ((dB p1.Late) :: ((dI p1.Top) :: ((dI p1.Bottom) :: ((dI p1.Pen.Flags) :: ((dI p1.Pen.Fore) :: ((dI p1.Pen.Back) :: ((dI p1.Modes) :: (((eInt .u64).row 4 p1.Stops.Bits) ++ ((dI p1.Pages.1) :: ((dI p1.Pages.2) :: ((dI p1.Shift) :: ((dI p1.Saved.Row) :: ((dI p1.Saved.Col) :: ((dI p1.Saved.Pen.Flags) :: ((dI p1.Saved.Pen.Fore) :: ((dI p1.Saved.Pen.Back) :: ((dB p1.Saved.Origin) :: ((dI p1.Saved.Pages.1) :: ((dI p1.Saved.Pages.2) :: ((dI p1.Saved.Shift) :: ((dI p1.Other.Wide) :: ((dI p1.Other.High) :: ((.r (.msl 192 0 0 p1.Other.Cells.length)) :: ((.d (.str p1.Title)) :: (.nil :: []))))))))))))))))))))))))))))))), (dI 0)]) (by kernel_rfl) (by kernel_rfl) (o_tup (o_cons (o_agg (o_cons rfl (o_cons rfl (o_cons (o_own e_GCell (e := 100) (k := 4) (xs := p1.Grid.Cells) (by kernel_rfl) rfl rfl rfl rfl) (o_cons rfl (o_cons rfl (o_cons rfl (o_cons rfl (o_cons rfl (o_cons rfl (o_cons rfl (o_cons rfl (o_cons rfl (o_app (o_row (eInt .u64)) (o_cons rfl (o_cons rfl (o_cons rfl (o_cons rfl (o_cons rfl (o_cons rfl (o_cons rfl (o_cons rfl (o_cons rfl (o_cons rfl (o_cons rfl (o_cons rfl (o_cons rfl (o_cons rfl (o_cons (o_own e_GCell (e := 100) (k := 4) (xs := p1.Other.Cells) (by kernel_rfl) rfl rfl rfl rfl) (o_cons rfl (o_cons rfl o_nil))))))))))))))))))))))))))))))) (o_cons rfl o_nil)))
def f23_Q (r : GScreen) (e : PX) (st : St) : Prop := DoneF c23 0 ((q17_ r), []) e st
def f23_j0_J (a1 : Int) (a2 : Int) (p2 : Int) (p3 : Int) (p4 : List GCell) : St := ⟨(up (up (up u0 6 (pt 56)) 4 (pt 40)) 1 (dI a2)), (up (up (up h0 112 ⟨0, some (.own 100 4 (e_GCell.cells p4))⟩) 56 ⟨0, some (.box ((dI p2) :: ((dI p3) :: ((.r (.msl 112 0 0 p4.length)) :: []))))⟩) 40 q6_)⟩
def f23_j0 (a1 : Int) (a2 : Int) (p2 : Int) (p3 : Int) (p4 : List GCell) : Option (GScreen) := ((f45 (GGrid.mk p2 p3 p4)).bind fun z5 => (f46.bind fun z6 => (some (GScreen.mk (GGrid.mk p2 p3 p4) 0 0 false 0 a2 (GPen.mk 0 0 0) 12 z6 (1, 1) 0 (GSaved.mk 0 0 (GPen.mk 0 0 0) false (1, 1) 0) (GGrid.mk z5.1 z5.2.1 z5.2.2) ([]) ([])))))
theorem f23_j0_ok (hd : 6 ≤ d) (a1 : Int) (a2 : Int) {r : GScreen} (hQ : FQ (f23_Q r) Q) (p2 : Int) (p3 : Int) (p4 : List GCell) (hS : f23_j0 a1 a2 p2 p3 p4 = some r) (he : keepSt [1, 4, 6] [(40, .id 40), (56, .id 56), (112, .id 112)] [.cell 40 2 0 0 1, .cell 40 30 0 0 1, .cell 40 32 0 0 1] st = f23_j0_J a1 a2 p2 p3 p4) : ZX d Q c23_1 [] st := by
 refine zrKeep he ?_
 unfold f23_j0 at hS
 refine zS (zL 3 3 (zK (zrSeq ?_)))
 exact zrRegD (zdR 2 2 (bindE hS (fun z5 hz5 hS => zdO (some 23) 3 none (c1 45 22) (ev_callB (args := [(.agg ((dI p2) :: ((dI p3) :: ((.r (.msl 112 0 0 p4.length)) :: []))))]) (by kernel_rfl) (l_cons (l_agg (lk (lk (l_cons (l_own e_GCell (e := 100) (k := 4) (xs := p4) (by kernel_rfl) rfl rfl) l_nil)))) l_nil) (f45_ok (d - 1) (dpt hd rfl) (GGrid.mk p2 p3 p4) z5 hz5) (by simp only [free_own e_GCell (fun _ => rfl), free_tup, free_agg, free_nl, free_cs, free_int, free_bool, free_str, free_un, free_ni, free_s0, Bool.and_true, Bool.or_true, Bool.and_self]) (by kernel_rfl)) (zdR 1 4 (bindE hS (fun z6 hz6 hS => zdO (some 25) 5 none (.call 46 []) (ev_cA (f46_ok (d - 1) (dpt hd rfl)  z6 hz6)) (zdR 6 11 (zdE (zkSeq (zrRet (zkNil (endQ hS hQ (fR (f23_out (GScreen.mk (GGrid.mk p2 p3 p4) 0 0 false 0 a2 (GPen.mk 0 0 0) 12 z6 (1, 1) 0 (GSaved.mk 0 0 (GPen.mk 0 0 0) false (1, 1) 0) (GGrid.mk z5.1 z5.2.1 z5.2.2) ([]) ([]))))))))))))))))
def f23 (a1 : Int) (a2 : Int) : Option (GScreen) := ((f44 a1 a2 (GPen.mk 0 0 0)).bind fun z4 => (f23_j0 a1 a2 z4.1 z4.2.1 z4.2.2))
theorem f23_ok (d : Nat) (hd : 6 ≤ d) (a1 : Int) (a2 : Int) (r : GScreen) (hS : f23 a1 a2 = some r) : lev codes baseL d 23 [(dI a1), (dI a2)] [] = some ((q17_ r), []) := by
 refine lvG hd (fun Q hQ => ?_) codes23
 unfold f23 at hS
 show ZR _ Q c23_b [] _
 replace hQ : FQ (f23_Q r) Q := hQ
 refine zS (zL 2 2 (zK (zS (zL 3 3 ?_))))
 refine bindE hS (fun z4 hz4 hS => zO (some 13) 4 (.call 44 [(tm 10), (tm 11), (tm 12)]) (ev_cA (f44_ok (d - 1) (dpt hd rfl) a1 a2 (GPen.mk 0 0 0) z4 hz4)) (zL 6 10 (zK (zrSeq (zS (zL 2 2 (zK (zF ?_))))))))
 exact zrSkip (zkSeq (f23_j0_ok hd a1 a2 hQ z4.1 z4.2.1 z4.2.2 hS (by kernel_rfl)))
/- slices.Clone[[]string,string] -/
def f24_fin (p1 : List S8) : St := ⟨(up u0 2 (.r (.msl 97 0 0 p1.length))), (up h0 97 ⟨0, some (.own 9 1 (eStr.cells p1))⟩)⟩
theorem f24_out (p1 : List S8) : outR (f24_fin p1) 0 c24.res = some ((.r (.own 0 9 1 p1.length (eStr.cells p1))), []) := by
 exact out_of (ids := []) (ids' := [97]) (l := [(.r (.msl 97 0 0 p1.length))]) (by kernel_rfl) (by kernel_rfl) (o_own eStr (e := 9) (k := 1) (xs := p1) (by kernel_rfl) rfl rfl rfl rfl)
def f24_Q (r : List S8) (e : PX) (st : St) : Prop := DoneF c24 0 ((.r (.own 0 9 1 r.length (eStr.cells r))), []) e st
def f24 (a1 : List S8) : Option (List S8) := ((app? 16 ([] : List S8) a1).bind fun z2 => (some z2))
theorem f24_ok (d : Nat) (hd : 1 ≤ d) (a1 : List S8) (r : List S8) (hS : f24 a1 = some r) : lev codes baseL d 24 [(dE eStr a1)] [] = some ((.r (.own 0 9 1 r.length (eStr.cells r))), []) := by
 refine lev_goZ codes24 rfl rfl (Nat.le_trans (Nat.le_of_ble_eq_true rfl) hd) (fun Q hQ => ?_) (fun h0 Q hQ => ?_)
 ·unfold f24 at hS
  show ZR _ Q c24_b [] _
  refine zS (zL 1 1 (zK (zrSeq (zS (zL 2 2 (zK (zF ?_)))))))
  refine zrSkip (zkSeq (zS (zL 2 2 ?_)))
  refine bindE hS (fun z2 hz2 hS => zO (v := (.r (.msl 48 2 0 z2.length))) (ups := [(48, ⟨2, some (.own 9 1 (eStr.cells z2))⟩)]) (some 7) 3 (.app 9 1 16 (tm 5) (tm 6)) (ev_app eStr (b := 48) (g := 1) (n := ([] : List S8).length) (xs := []) (ys := a1) ((congrArg (asL _) (by kernel_rfl : ρof _ (.tmp 6) = (.slz false a1.length (eStr.cells a1)))).trans rfl) rfl (by kernel_rfl) rfl (by kernel_rfl) rfl hz2) (zL 1 4 (zK ?_)))
  exact zrRet (zkNil (endQ (F := f24_Q) hS hQ (fRet (by kernel_rfl) ((congrArg (fun s => outR s 0 c24.res) (by kernel_rfl : finSt c24.fin _ = f24_fin z2)).trans (f24_out z2)))))
 ·have hS : (some []) = some r := by
   have hl := List.eq_nil_of_length_eq_zero h0
   subst hl
   simpa [f24, app?] using hS
  show ZR _ Q c24_b [] _
  refine zS (zL 1 1 (zK (zrSeq (zS (zL 2 2 (zK (zT (zS (zL 1 1 (zK ?_))))))))))
  exact zrRet (zkSeqR (zkNil (endQ (F := f24_Q) hS hQ (fRet (by kernel_rfl) ((congrArg (fun s => outR s 0 c24.res) (by kernel_rfl : finSt c24.fin _ = f24_fin [])).trans (f24_out []))))))
/- slices.Clone[[]farwriter/api.Var,farwriter/api.Var] -/
def f25_fin (p1 : List GVar) : St := ⟨(up u0 2 (.r (.msl 97 0 0 p1.length))), (up h0 97 ⟨0, some (.own 107 4 (e_GVar.cells p1))⟩)⟩
theorem f25_out (p1 : List GVar) : outR (f25_fin p1) 0 c25.res = some ((.r (.own 0 107 4 p1.length (e_GVar.cells p1))), []) := by
 exact out_of (ids := []) (ids' := [97]) (l := [(.r (.msl 97 0 0 p1.length))]) (by kernel_rfl) (by kernel_rfl) (o_own e_GVar (e := 107) (k := 4) (xs := p1) (by kernel_rfl) rfl rfl rfl rfl)
def f25_Q (r : List GVar) (e : PX) (st : St) : Prop := DoneF c25 0 ((.r (.own 0 107 4 r.length (e_GVar.cells r))), []) e st
def f25 (a1 : List GVar) : Option (List GVar) := ((app? 40 ([] : List GVar) a1).bind fun z2 => (some z2))
theorem f25_ok (d : Nat) (hd : 1 ≤ d) (a1 : List GVar) (r : List GVar) (hS : f25 a1 = some r) : lev codes baseL d 25 [(dE e_GVar a1)] [] = some ((.r (.own 0 107 4 r.length (e_GVar.cells r))), []) := by
 refine lev_goZ codes25 rfl rfl (Nat.le_trans (Nat.le_of_ble_eq_true rfl) hd) (fun Q hQ => ?_) (fun h0 Q hQ => ?_)
 ·unfold f25 at hS
  show ZR _ Q c25_b [] _
  refine zS (zL 1 1 (zK (zrSeq (zS (zL 2 2 (zK (zF ?_)))))))
  refine zrSkip (zkSeq (zS (zL 2 2 ?_)))
  refine bindE hS (fun z2 hz2 hS => zO (v := (.r (.msl 48 2 0 z2.length))) (ups := [(48, ⟨2, some (.own 107 4 (e_GVar.cells z2))⟩)]) (some 7) 3 (.app 107 4 40 (tm 5) (tm 6)) (ev_app e_GVar (b := 48) (g := 1) (n := ([] : List GVar).length) (xs := []) (ys := a1) ((congrArg (asL _) (by kernel_rfl : ρof _ (.tmp 6) = (.slz false a1.length (e_GVar.cells a1)))).trans rfl) rfl (by kernel_rfl) rfl (by kernel_rfl) rfl hz2) (zL 1 4 (zK ?_)))
  exact zrRet (zkNil (endQ (F := f25_Q) hS hQ (fRet (by kernel_rfl) ((congrArg (fun s => outR s 0 c25.res) (by kernel_rfl : finSt c25.fin _ = f25_fin z2)).trans (f25_out z2)))))
 ·have hS : (some []) = some r := by
   have hl := List.eq_nil_of_length_eq_zero h0
   subst hl
   simpa [f25, app?] using hS
  show ZR _ Q c25_b [] _
  refine zS (zL 1 1 (zK (zrSeq (zS (zL 2 2 (zK (zT (zS (zL 1 1 (zK ?_))))))))))
  exact zrRet (zkSeqR (zkNil (endQ (F := f25_Q) hS hQ (fRet (by kernel_rfl) ((congrArg (fun s => outR s 0 c25.res) (by kernel_rfl : finSt c25.fin _ = f25_fin [])).trans (f25_out []))))))
/- farwriter/about.Name -/
def f47_fin  : St := ⟨(up u0 2 (dB true)), h0⟩
theorem f47_out  : outR (f47_fin ) 0 c47.res = some ((dB true), []) := by
 kernel_rfl
def f47_Q (r : Unit) (e : PX) (st : St) : Prop := DoneF c47 0 ((dB true), []) e st
def f47_j0_J (a1 : S8) : St := ⟨(up u0 0 (.d (.str a1))), h0⟩
def f47_j0 (a1 : S8) : Option (Unit) := (bif (!decide (a1 = ([] : S8))) then (bif (decide ((a1.length : Int) ≤ 40)) then (some ()) else none) else none)
theorem f47_j0_ok (hd : 1 ≤ d) (a1 : S8) {r : Unit} (hQ : FQ (f47_Q r) Q)  (hS : f47_j0 a1 = some r) (he : keepSt [0] [] [] st = f47_j0_J a1) : ZX d Q c47_1 [] st := by
 refine zrKeep he ?_
 unfold f47_j0 at hS
 refine zS (zL 1 1 ?_)
 refine sB 21 2 (.strO .neq (tm 20) (.const (.string ⟨#[]⟩))) hS (fun hS => ?_) (fun hS => ?_)
 ·refine zL 3 5 (sH 25 6 22 true (.cmpI .leq (tm 24) (ki 40)) hS (fun hS => ?_) (fun hS => ?_))
  ·refine zL 2 8 (zK ?_)
   exact zrRet (zkNil (endQ hS hQ (fR (f47_out ))))
  ·cases hS
 ·cases hS
def f47_l1_J (a1 : S8) (x : Int) : St := ⟨(up (up (up u0 6 (dI x)) 5 (dI (a1.length : Int))) 0 (.d (.str a1))), h0⟩
def f47_l1_H (a1 : S8) (x : Int) (st : St) : Prop := keepSt [0, 5, 6] [] [] st = f47_l1_J a1 x
def f47_l1_e0_J (a1 : S8) : St := ⟨(up u0 0 (.d (.str a1))), h0⟩
def f47_l1_X (a1 : S8) (z : Unit) (e : PX) (st : St) : Prop := e = .exit 0 ∧ st = f47_l1_e0_J a1
def f47_l1_j3_J (a1 : S8) (p12 : Int) : St := ⟨(up (up (up u0 6 (dI p12)) 5 (dI (a1.length : Int))) 0 (.d (.str a1))), h0⟩
def f47_l1_j3 (a1 : S8) (p12 : Int) : Option (Int ⊕ Unit) := ((idx a1 p12).bind fun z7 => (bif (decide ((z7.toNat : Int) < 33)) then none else ((idx a1 p12).bind fun z8 => (bif (decide (126 < (z8.toNat : Int))) then none else (some (.inl (IntKind.i64.wrap (p12 + 1))))))))
theorem f47_l1_j3_ok (hd : 1 ≤ d) (a1 : S8) {r : Int ⊕ Unit} (hQ : FQ (finL (f47_l1_H a1) (f47_l1_X a1) r) Q) (p12 : Int) (hS : f47_l1_j3 a1 p12 = some r) (he : keepSt [0, 5, 6] [] [] st = f47_l1_j3_J a1 p12) : ZX d Q c47_2 [] st := by
 refine zrKeep he ?_
 unfold f47_l1_j3 at hS
 refine zrSeq (zrBlk (zS (zL 2 2 (zK (zS (zL 2 2 ?_))))))
 refine bindE hS (fun z7 hz7 hS => zO (v := (.d (.int .u8 (z7.toNat : Int)))) (ups := []) (some 11) 3 (.ixStr (tm 9) (tm 10)) (ev_ixStr (kk := .i64) (s := a1) (j := p12) (by kernel_rfl) (by kernel_rfl) hz7) (sB 12 4 (.cmpI .lss (tm 11) (.const (.int .u8 33))) hS (fun hS => ?_) (fun hS => ?_)))
 ·cases hS
 ·refine zL 3 7 (bindE hS (fun z8 hz8 hS => zG (v := (.d (.int .u8 (z8.toNat : Int)))) (ups := []) (some 16) 8 13 false (.ixStr (tm 14) (tm 15)) (ev_ixStr (kk := .i64) (s := a1) (j := p12) (by kernel_rfl) (by kernel_rfl) hz8) (sH 17 9 13 false (.cmpI .gtr (tm 16) (.const (.int .u8 126))) hS (fun hS => ?_) (fun hS => ?_))))
  ·cases hS
  ·refine zL 1 10 (zK (zF ?_))
   refine zrSkip (zkBlk (zkSeq (zrReg (zL 2 2 (zE ?_)))))
   exact zkNil (eN1 hS hQ)
def f47_l1_j2_J (a1 : S8) (p10 : Int) (p11 : Bool) : St := ⟨(up (up (up (up u0 7 (dB p11)) 6 (dI p10)) 5 (dI (a1.length : Int))) 0 (.d (.str a1))), h0⟩
def f47_l1_j2 (a1 : S8) (p10 : Int) (p11 : Bool) : Option (Int ⊕ Unit) := (bif p11 then (f47_l1_j3 a1 p10) else (some (.inr ())))
theorem f47_l1_j2_ok (hd : 1 ≤ d) (a1 : S8) {r : Int ⊕ Unit} (hQ : FQ (finL (f47_l1_H a1) (f47_l1_X a1) r) Q) (p10 : Int) (p11 : Bool) (hS : f47_l1_j2 a1 p10 p11 = some r) (he : keepSt [0, 5, 6, 7] [] [] st = f47_l1_j2_J a1 p10 p11) : ZX d Q c47_3 [] st := by
 refine zrKeep he ?_
 unfold f47_l1_j2 at hS
 refine zrSeq (sR 7 hS (fun hS => ?_) (fun hS => ?_))
 ·exact zT (zrSkip (zkSeq (f47_l1_j3_ok hd a1 hQ p10 hS (by kernel_rfl))))
 ·exact zF (zrKeep (J := f47_l1_e0_J a1) (by kernel_rfl) (zrExit (zkSeqX (zkNil (eX0 hS hQ)))))
def f47_l1 (a1 : S8) (x : Int) : Option (Int ⊕ Unit) := (bif (decide (x < (a1.length : Int))) then (f47_l1_j2 a1 x true) else (f47_l1_j2 a1 x false))
theorem f47_l1_ok (hd : 1 ≤ d) (a1 : S8) {r : Int ⊕ Unit} (hQ : FQ (finL (f47_l1_H a1) (f47_l1_X a1) r) Q) {x : Int} (hS : f47_l1 a1 x = some r) (he : f47_l1_H a1 x st) : ZX d Q c47_4 [] st := by
 refine zrKeep he ?_
 unfold f47_l1 at hS
 refine zS ?_
 refine sB 7 1 (.cmpI .lss (tm 6) (tm 5)) hS (fun hS => ?_) (fun hS => ?_)
 ·refine zK ?_
  exact f47_l1_j2_ok hd a1 hQ x true hS (by kernel_rfl)
 ·refine zK ?_
  exact f47_l1_j2_ok hd a1 hQ x false hS (by kernel_rfl)
def f47 (a1 : S8) : Option (Unit) := ((loopO (f47_l1 a1) 0).bind fun z9 => (f47_j0 a1 ))
theorem f47_ok (d : Nat) (hd : 1 ≤ d) (a1 : S8) (r : Unit) (hS : f47 a1 = some r) : lev codes baseL d 47 [(.d (.str a1))] [] = some ((dB true), []) := by
 refine lvG hd (fun Q hQ => ?_) codes47
 unfold f47 at hS
 show ZR _ Q c47_b [] _
 replace hQ : FQ (f47_Q r) Q := hQ
 refine zS (zL 1 1 (zK (zrSeq (zS (zL 3 3 (zK ?_))))))
 refine zrBlk (bindE hS (fun z9 hz9 hS => zrLoop (f47_l1_H a1) (f47_l1_X a1) (fun x st r Q h0 hS hQ => f47_l1_ok hd a1 hQ hS h0) (x := 0) (z := z9) (by show keepSt _ _ _ _ = _; kernel_rfl) hz9 ?_))
 intro e st' _ hX
 obtain ⟨rfl, rfl⟩ : _ ∧ _ := hX
 exact zkBlkX (zkSeq (f47_j0_ok hd a1 hQ  hS (by kernel_rfl)))
/- slices.Index[[]string,string] -/
def f92_fin  : St := ⟨(up u0 4 (dI (-1))), h0⟩
theorem f92_out  : outR (f92_fin ) 0 c92.res = some ((dI (-1)), []) := by
 kernel_rfl
def f92_Q (r : Unit) (e : PX) (st : St) : Prop := DoneF c92 0 ((dI (-1)), []) e st
def f92 (a1 : List S8) (a2 : S8) : Option (Unit) := (bif (decide (0 < (a1.length : Int))) then none else (some ()))
theorem f92_ok (d : Nat) (hd : 1 ≤ d) (a1 : List S8) (a2 : S8) (r : Unit) (hS : f92 a1 a2 = some r) : lev codes baseL d 92 [(dE eStr a1), (.d (.str a2))] [] = some ((dI (-1)), []) := by
 refine lvG hd (fun Q hQ => ?_) codes92
 unfold f92 at hS
 show ZR _ Q c92_b [] _
 replace hQ : FQ (f92_Q r) Q := hQ
 refine zS (zL 1 1 (zK (zrSeq (zS (zL 3 3 (zK ?_))))))
 refine zrBlk (zrLoop1 (zS ?_))
 refine sB 9 1 (.cmpI .lss (tm 8) (tm 7)) hS (fun hS => ?_) (fun hS => ?_)
 ·cases hS
 ·refine zK (zrSeq (zF ?_))
  refine zrExit (zkSeqX (zkSeqX (zkBlkX (zkSeq (zS (zL 1 1 (zK ?_)))))))
  exact zrRet (zkNil (endQ hS hQ (fR (f92_out ))))
/- slices.Contains[[]string,string] -/
def f48_fin  : St := ⟨(up u0 4 (dB false)), h0⟩
theorem f48_out  : outR (f48_fin ) 0 c48.res = some ((dB false), []) := by
 kernel_rfl
def f48_Q (r : Unit) (e : PX) (st : St) : Prop := DoneF c48 0 ((dB false), []) e st
def f48 (a1 : List S8) (a2 : S8) : Option (Unit) := ((f92 a1 a2).bind fun z2 => (some ()))
theorem f48_ok (d : Nat) (hd : 2 ≤ d) (a1 : List S8) (a2 : S8) (r : Unit) (hS : f48 a1 a2 = some r) : lev codes baseL d 48 [(dE eStr a1), (.d (.str a2))] [] = some ((dB false), []) := by
 refine lvG hd (fun Q hQ => ?_) codes48
 unfold f48 at hS
 show ZR _ Q c48_b [] _
 replace hQ : FQ (f48_Q r) Q := hQ
 refine zS (zL 1 1 (zK (zS (zL 2 2 ?_))))
 refine bindE hS (fun z2 hz2 hS => zO (some 7) 3 (.call 92 [(tm 5), (tm 6)]) (ev_cA (f92_ok (d - 1) (dpt hd rfl) a1 a2 z2 hz2)) (zL 2 5 (zK ?_)))
 exact zrRet (zkNil (endQ hS hQ (fR (f48_out ))))
/- farwriter/about.Check -/
def f26_fin  : St := ⟨(up u0 2 (dI 0)), h0⟩
theorem f26_out  : outR (f26_fin ) 0 c26.res = some ((dI 0), []) := by
 kernel_rfl
def f26_Q (r : Unit) (e : PX) (st : St) : Prop := DoneF c26 0 ((dI 0), []) e st
def f26_j1_J (a1 : GSorts) : St := ⟨(up u0 1 (pt 16)), (q31_ a1)⟩
def f26_j1 (a1 : GSorts) : Option (Unit) := (bif (decide (a1.At < 0)) then none else (bif (decide ((a1.Names.length : Int) < a1.At)) then none else (some ())))
theorem f26_j1_ok (hd : 3 ≤ d) (a1 : GSorts) {r : Unit} (hQ : FQ (f26_Q r) Q)  (hS : f26_j1 a1 = some r) (he : keepSt [1] [(16, .id 16)] [] st = f26_j1_J a1) : ZX d Q c26_1 [] st := by
 refine zrKeep he ?_
 unfold f26_j1 at hS
 refine zrSeq (zS (zL 2 2 ?_))
 refine sB 37 3 (.cmpI .lss (tm 36) (ki 0)) hS (fun hS => ?_) (fun hS => ?_)
 ·cases hS
 ·refine zL 6 9 (sH 44 10 38 false (.cmpI .gtr (tm 40) (tm 43)) hS (fun hS => ?_) (fun hS => ?_))
  ·cases hS
  ·refine zL 1 11 (zK (zF ?_))
   refine zrSkip (zkSeq (zS (zL 1 1 (zK ?_))))
   exact zrRet (zkNil (endQ hS hQ (fR (f26_out ))))
def f26_l2_J (a1 : GSorts) (x : Int) : St := ⟨(up (up (up (up u0 18 (dI x)) 17 (dI (a1.Names.length : Int))) 16 (dE eStr a1.Names)) 1 (pt 16)), (q31_ a1)⟩
def f26_l2_H (a1 : GSorts) (x : Int) (st : St) : Prop := keepSt [1, 16, 17, 18] [(16, .id 16)] [] st = f26_l2_J a1 x
def f26_l2_e0_J (a1 : GSorts) : St := ⟨(up u0 1 (pt 16)), (q31_ a1)⟩
def f26_l2_X (a1 : GSorts) (z : Unit) (e : PX) (st : St) : Prop := e = .exit 0 ∧ st = f26_l2_e0_J a1
def f26_l2_j4_J (a1 : GSorts) (p19 : Int) : St := ⟨(up (up (up (up u0 18 (dI p19)) 17 (dI (a1.Names.length : Int))) 16 (dE eStr a1.Names)) 1 (pt 16)), (q31_ a1)⟩
def f26_l2_j4 (a1 : GSorts) (p19 : Int) : Option (Int ⊕ Unit) := ((idx a1.Names p19).bind fun z25 => ((f47 z25).bind fun z26 => ((sub? a1.Names 0 p19).bind fun z27 => ((f48 z27 z25).bind fun z28 => (some (.inl (IntKind.i64.wrap (p19 + 1))))))))
theorem f26_l2_j4_ok (hd : 3 ≤ d) (a1 : GSorts) {r : Int ⊕ Unit} (hQ : FQ (finL (f26_l2_H a1) (f26_l2_X a1) r) Q) (p19 : Int) (hS : f26_l2_j4 a1 p19 = some r) (he : keepSt [1, 16, 17, 18] [(16, .id 16)] [] st = f26_l2_j4_J a1 p19) : ZX d Q c26_2 [] st := by
 refine zrKeep he ?_
 unfold f26_l2_j4 at hS
 refine zrSeq (zrBlk (zS (zL 1 1 ?_)))
 refine bindE hS (fun z25 hz25 hS => zO (v := (.rptr (eStr.enc z25 ++ (eStr.cells (a1.Names.drop ((p19 : Int).toNat + 1)))))) (ups := []) (some 21) 2 (.ixS 9 1 (tm 16) (tm 18)) (ev_ixS eStr (kk := .i64) (xs := a1.Names) (j := p19) (by kernel_rfl) (by kernel_rfl) hz25 rfl (by intro h; cases h)) (zL 3 5 (zK (zS (zL 1 1 ?_)))))
 refine bindE hS (fun z26 hz26 hS => zO (some 24) 2 (c1 47 23) (ev_cA (f47_ok (d - 1) (dpt hd rfl) z25 z26 hz26)) (zL 5 7 (bindE hS (fun z27 hz27 hS => zG (v := (dE eStr z27)) (ups := []) (some 30) 8 26 false (.slS 9 1 (tm 28) .none (.some (tm 29))) (ev_slS eStr (xs := a1.Names) (a := 0) (c := p19) (by kernel_rfl) rfl (bnd_n 0) (bnd_s _ (kk := .i64) (j := p19) (by kernel_rfl)) hz27) (zL 1 9 (bindE hS (fun z28 hz28 hS => zG (some 32) 10 26 false (.call 48 [(tm 30), (tm 31)]) (ev_cA (f48_ok (d - 1) (dpt hd rfl) z27 z25 z28 hz28)) (zL 1 11 (zK (zF ?_))))))))))
 refine zrSkip (zkBlk (zkSeq (zrReg (zL 2 2 (zE ?_)))))
 exact zkNil (eN1 hS hQ)
def f26_l2_j3_J (a1 : GSorts) (p17 : Int) (p18 : Bool) : St := ⟨(up (up (up (up (up u0 19 (dB p18)) 18 (dI p17)) 17 (dI (a1.Names.length : Int))) 16 (dE eStr a1.Names)) 1 (pt 16)), (q31_ a1)⟩
def f26_l2_j3 (a1 : GSorts) (p17 : Int) (p18 : Bool) : Option (Int ⊕ Unit) := (bif p18 then (f26_l2_j4 a1 p17) else (some (.inr ())))
theorem f26_l2_j3_ok (hd : 3 ≤ d) (a1 : GSorts) {r : Int ⊕ Unit} (hQ : FQ (finL (f26_l2_H a1) (f26_l2_X a1) r) Q) (p17 : Int) (p18 : Bool) (hS : f26_l2_j3 a1 p17 p18 = some r) (he : keepSt [1, 16, 17, 18, 19] [(16, .id 16)] [] st = f26_l2_j3_J a1 p17 p18) : ZX d Q c26_3 [] st := by
 refine zrKeep he ?_
 unfold f26_l2_j3 at hS
 refine zrSeq (sR 19 hS (fun hS => ?_) (fun hS => ?_))
 ·exact zT (zrSkip (zkSeq (f26_l2_j4_ok hd a1 hQ p17 hS (by kernel_rfl))))
 ·exact zF (zrKeep (J := f26_l2_e0_J a1) (by kernel_rfl) (zrExit (zkSeqX (zkNil (eX0 hS hQ)))))
def f26_l2 (a1 : GSorts) (x : Int) : Option (Int ⊕ Unit) := (bif (decide (x < (a1.Names.length : Int))) then (f26_l2_j3 a1 x true) else (f26_l2_j3 a1 x false))
theorem f26_l2_ok (hd : 3 ≤ d) (a1 : GSorts) {r : Int ⊕ Unit} (hQ : FQ (finL (f26_l2_H a1) (f26_l2_X a1) r) Q) {x : Int} (hS : f26_l2 a1 x = some r) (he : f26_l2_H a1 x st) : ZX d Q c26_4 [] st := by
 refine zrKeep he ?_
 unfold f26_l2 at hS
 refine zS ?_
 refine sB 19 1 (.cmpI .lss (tm 18) (tm 17)) hS (fun hS => ?_) (fun hS => ?_)
 ·refine zK ?_
  exact f26_l2_j3_ok hd a1 hQ x true hS (by kernel_rfl)
 ·refine zK ?_
  exact f26_l2_j3_ok hd a1 hQ x false hS (by kernel_rfl)
def f26_j0_J (a1 : GSorts) : St := ⟨(up u0 1 (pt 16)), (q31_ a1)⟩
def f26_j0 (a1 : GSorts) : Option (Unit) := ((loopO (f26_l2 a1) 0).bind fun z29 => (f26_j1 a1 ))
theorem f26_j0_ok (hd : 3 ≤ d) (a1 : GSorts) {r : Unit} (hQ : FQ (f26_Q r) Q)  (hS : f26_j0 a1 = some r) (he : keepSt [1] [(16, .id 16)] [] st = f26_j0_J a1) : ZX d Q c26_5 [] st := by
 refine zrKeep he ?_
 unfold f26_j0 at hS
 refine zrSeq (zS (zL 4 4 (zK ?_)))
 refine zrBlk (bindE hS (fun z29 hz29 hS => zrLoop (f26_l2_H a1) (f26_l2_X a1) (fun x st r Q h0 hS hQ => f26_l2_ok hd a1 hQ hS h0) (x := 0) (z := z29) (by show keepSt _ _ _ _ = _; kernel_rfl) hz29 ?_))
 intro e st' _ hX
 obtain ⟨rfl, rfl⟩ : _ ∧ _ := hX
 exact zkBlkX (zkSeq (f26_j1_ok hd a1 hQ  hS (by kernel_rfl)))
def f26 (a1 : GSorts) : Option (Unit) := (bif (decide ((a1.Names.length : Int) < 1)) then none else (bif (decide (8 < (a1.Names.length : Int))) then none else (f26_j0 a1 )))
theorem f26_ok (d : Nat) (hd : 3 ≤ d) (a1 : GSorts) (r : Unit) (hS : f26 a1 = some r) : lev codes baseL d 26 [(.agg ((dE eStr a1.Names) :: ((dI a1.At) :: [])))] [] = some ((dI 0), []) := by
 refine lvG hd (fun Q hQ => ?_) codes26
 unfold f26 at hS
 show ZR _ Q c26_b [] _
 replace hQ : FQ (f26_Q r) Q := hQ
 refine zS (zL 2 2 (zK (zrSeq (zS (zL 3 3 ?_)))))
 refine sB 8 4 (.cmpI .lss (tm 7) (ki 1)) hS (fun hS => ?_) (fun hS => ?_)
 ·cases hS
 ·refine zL 4 8 (sH 13 9 9 false (.cmpI .gtr (tm 12) (ki 8)) hS (fun hS => ?_) (fun hS => ?_))
  ·cases hS
  ·refine zL 1 10 (zK (zF ?_))
   exact zrSkip (zkSeq (f26_j0_ok hd a1 hQ  hS (by kernel_rfl)))
/- slices.IndexFunc[[]farwriter/api.Var,farwriter/api.Var] -/
def f93_fin  : St := ⟨(up u0 4 (dI (-1))), h0⟩
theorem f93_out  : outR (f93_fin ) 0 c93.res = some ((dI (-1)), []) := by
 kernel_rfl
def f93_Q (r : Unit) (e : PX) (st : St) : Prop := DoneF c93 0 ((dI (-1)), []) e st
def f93 (a1 : List GVar) : Option (Unit) := (bif (decide (0 < (a1.length : Int))) then none else (some ()))
theorem f93_ok (d : Nat) (hd : 1 ≤ d) (a1 : List GVar) (r : Unit) (hS : f93 a1 = some r) : lev codes baseL d 93 [(dE e_GVar a1), (.fn 50 [])] [] = some ((dI (-1)), []) := by
 refine lvG hd (fun Q hQ => ?_) codes93
 unfold f93 at hS
 show ZR _ Q c93_b [] _
 replace hQ : FQ (f93_Q r) Q := hQ
 refine zS (zL 1 1 (zK (zrSeq (zS (zL 3 3 (zK ?_))))))
 refine zrBlk (zrLoop1 (zS ?_))
 refine sB 9 1 (.cmpI .lss (tm 8) (tm 7)) hS (fun hS => ?_) (fun hS => ?_)
 ·cases hS
 ·refine zK (zrSeq (zF ?_))
  refine zrExit (zkSeqX (zkSeqX (zkBlkX (zkSeq (zS (zL 1 1 (zK ?_)))))))
  exact zrRet (zkNil (endQ hS hQ (fR (f93_out ))))
/- slices.ContainsFunc[[]farwriter/api.Var,farwriter/api.Var] -/
def f49_fin  : St := ⟨(up u0 4 (dB false)), h0⟩
theorem f49_out  : outR (f49_fin ) 0 c49.res = some ((dB false), []) := by
 kernel_rfl
def f49_Q (r : Unit) (e : PX) (st : St) : Prop := DoneF c49 0 ((dB false), []) e st
def f49 (a1 : List GVar) : Option (Unit) := ((f93 a1).bind fun z2 => (some ()))
theorem f49_ok (d : Nat) (hd : 2 ≤ d) (a1 : List GVar) (r : Unit) (hS : f49 a1 = some r) : lev codes baseL d 49 [(dE e_GVar a1), (.fn 50 [])] [] = some ((dB false), []) := by
 refine lvG hd (fun Q hQ => ?_) codes49
 unfold f49 at hS
 show ZR _ Q c49_b [] _
 replace hQ : FQ (f49_Q r) Q := hQ
 refine zS (zL 1 1 (zK (zS (zL 2 2 ?_))))
 refine bindE hS (fun z2 hz2 hS => zO (some 7) 3 (.call 93 [(tm 5), (tm 6)]) (ev_cA (f93_ok (d - 1) (dpt hd rfl) a1 z2 hz2)) (zL 2 5 (zK ?_)))
 exact zrRet (zkNil (endQ hS hQ (fR (f49_out ))))
/- farwriter/environ.Write -/
def f27_fin  : St := ⟨(up (up u0 3 (dI 0)) 2 (.d (.str ([] : S8)))), h0⟩
theorem f27_out  : outR (f27_fin ) 0 c27.res = some ((.tup [(.d (.str ([] : S8))), (dI 0)]), []) := by
 kernel_rfl
def f27_Q (r : Unit) (e : PX) (st : St) : Prop := DoneF c27 0 ((.tup [(.d (.str ([] : S8))), (dI 0)]), []) e st
def f27_j0_J (a1 : List GVar) : St := ⟨(up u0 0 (dE e_GVar a1)), h0⟩
def f27_j0 (a1 : List GVar) : Option (Unit) := (bif (decide (0 < (a1.length : Int))) then none else (some ()))
theorem f27_j0_ok (hd : 3 ≤ d) (a1 : List GVar) {r : Unit} (hQ : FQ (f27_Q r) Q)  (hS : f27_j0 a1 = some r) (he : keepSt [0] [] [] st = f27_j0_J a1) : ZX d Q c27_1 [] st := by
 refine zrKeep he ?_
 unfold f27_j0 at hS
 refine zS (zL 1 1 (zK (zrSeq (zS (zL 3 3 (zK ?_))))))
 refine zrBlk (zrLoop1 (zS ?_))
 refine sB 18 1 (.cmpI .lss (tm 17) (tm 16)) hS (fun hS => ?_) (fun hS => ?_)
 ·cases hS
 ·refine zK (zrSeq (zF ?_))
  refine zrExit (zkSeqX (zkSeqX (zkBlkX (zkSeq (zS (zL 1 1 ?_))))))
  refine zO (v := (.d (.str ([] : S8)))) (ups := []) (some 48) 2 (.cvBS (tm 47)) (ev_cvBS (s := []) ((congrArg (asL _) (by kernel_rfl : ρof _ (.tmp 47) = (.r (.msl 40 1 0 (([] : S8).length))))).trans (as_whole eU8 (e := 5) (k := 1) (xs := []) (by kernel_rfl) rfl rfl)) rfl) (zL 2 4 (zK ?_))
  exact zrRet (zkNil (endQ hS hQ (fR (f27_out ))))
def f27 (a1 : List GVar) : Option (Unit) := (bif (decide (20 < (a1.length : Int))) then none else ((f49 a1).bind fun z3 => (f27_j0 a1 )))
theorem f27_ok (d : Nat) (hd : 3 ≤ d) (a1 : List GVar) (r : Unit) (hS : f27 a1 = some r) : lev codes baseL d 27 [(dE e_GVar a1)] [] = some ((.tup [(.d (.str ([] : S8))), (dI 0)]), []) := by
 refine lvG hd (fun Q hQ => ?_) codes27
 unfold f27 at hS
 show ZR _ Q c27_b [] _
 replace hQ : FQ (f27_Q r) Q := hQ
 refine zS (zL 2 2 (zK (zrSeq (zS (zL 2 2 ?_)))))
 refine sB 10 3 (.cmpI .gtr (tm 9) (ki 20)) hS (fun hS => ?_) (fun hS => ?_)
 ·cases hS
 ·refine zL 2 5 (bindE hS (fun z3 hz3 hS => zG (some 13) 6 11 false (.call 49 [(tm 12), (.func 50)]) (ev_cA (f49_ok (d - 1) (dpt hd rfl) a1 z3 hz3)) (zL 1 7 (zK (zF ?_)))))
  exact zrSkip (zkSeq (f27_j0_ok hd a1 hQ  hS (by kernel_rfl)))
/- farwriter/client.New -/
def f11_fin (p1 : GClient) : St := ⟨(up (up u0 11 (dI 0)) 10 (pt 88)), (up (up (up (up (up h0 288 ⟨0, some (.own 107 4 (e_GVar.cells p1.Vars))⟩) 264 ⟨0, some (.own 9 1 (eStr.cells p1.Sorts.Names))⟩) 193 ⟨0, some (go1_GScreen p1.Screen)⟩) 192 ⟨0, some (go0_GScreen p1.Screen)⟩) 88 ⟨0, some (.box (bx_GClient p1 (.r (.msl 192 0 0 p1.Screen.Grid.Cells.length)) (.r (.msl 193 0 0 p1.Screen.Other.Cells.length)) .nil (.r (.msl 264 0 0 p1.Sorts.Names.length)) (.r (.msl 288 0 0 p1.Vars.length))))⟩)⟩
theorem f11_out (p1 : GClient) : outR (f11_fin p1) 0 c11.res = some ((q2_ p1), []) := by
 exact out_of (ids := []) (ids' := [192, 193, 264, 288]) (l := [(.agg ((dI p1.Wire.Mode) :: ((dI p1.Wire.Cmd) :: ((dI p1.Wire.Opt) :: ((.d (.str p1.Wire.Buf)) :: ((dB p1.Wire.Over) :: ((dB p1.Cr) :: ((.d (.str p1.Part)) :: ((dI p1.Psr.State) :: ((dI p1.Psr.Mark) :: ((.d (.str p1.Psr.Inter)) :: ((.d (.str p1.Psr.Args)) :: ((.d (.str p1.Psr.Text)) :: ((dI p1.Screen.Grid.Wide) :: ((dI p1.Screen.Grid.High) :: ((.r (.msl 192 0 0 p1.Screen.Grid.Cells.length)) :: ((dI p1.Screen.Row) :: ((dI p1.Screen.Col) :: ((dB p1.Screen.Late) :: ((dI p1.Screen.Top) :: ((dI p1.Screen.Bottom) :: ((dI p1.Screen.Pen.Flags) :: ((dI p1.Screen.Pen.Fore) :: ((dI p1.Screen.Pen.Back) :: ((dI p1.Screen.Modes) :: (((eInt .u64).row 4 p1.Screen.Stops.Bits) ++ ((dI p1.Screen.Pages.1) :: ((dI p1.Screen.Pages.2) :: ((dI p1.Screen.Shift) :: ((dI p1.Screen.Saved.Row) :: ((dI p1.Screen.Saved.Col) :: ((dI p1.Screen.Saved.Pen.Flags) :: ((dI p1.Screen.Saved.Pen.Fore) :: ((dI p1.Screen.Saved.Pen.Back) :: ((dB p1.Screen.Saved.Origin) :: ((dI p1.Screen.Saved.Pages.1) :: ((dI p1.Screen.Saved.Pages.2) :: ((dI p1.Screen.Saved.Shift) :: ((dI p1.Screen.Other.Wide) :: ((dI p1.Screen.Other.High) :: ((.r (.msl 193 0 0 p1.Screen.Other.Cells.length)) :: ((.d (.str p1.Screen.Title)) :: (.nil :: ((eU8.row 256 p1.Neg.Us) ++ ((eU8.row 256 p1.Neg.Him) ++ (((eInt .u64).row 4 p1.Neg.UsOk) ++ (((eInt .u64).row 4 p1.Neg.HimOk) ++ ((.r (.msl 264 0 0 p1.Sorts.Names.length)) :: ((dI p1.Sorts.At) :: ((.r (.msl 288 0 0 p1.Vars.length)) :: ((eU8.row 19 p1.Keys.Levels) ++ ((eU8.row 19 p1.Keys.Chars) ++ (((eInt .u64).row 4 p1.Mask.Bits) ++ ((.d (.str p1.Editor.Buf)) :: ((dB p1.Editor.Quote) :: ((dB p1.Edit) :: [])))))))))))))))))))))))))))))))))))))))))))))))))))))))), (dI 0)]) (by kernel_rfl) (by kernel_rfl) (o_tup (o_cons (o_agg (o_cons rfl (o_cons rfl (o_cons rfl (o_cons rfl (o_cons rfl (o_cons rfl (o_cons rfl (o_cons rfl (o_cons rfl (o_cons rfl (o_cons rfl (o_cons rfl (o_cons rfl (o_cons rfl (o_cons (o_own e_GCell (e := 100) (k := 4) (xs := p1.Screen.Grid.Cells) (by kernel_rfl) rfl rfl rfl rfl) (o_cons rfl (o_cons rfl (o_cons rfl (o_cons rfl (o_cons rfl (o_cons rfl (o_cons rfl (o_cons rfl (o_cons rfl (o_app (o_row (eInt .u64)) (o_cons rfl (o_cons rfl (o_cons rfl (o_cons rfl (o_cons rfl (o_cons rfl (o_cons rfl (o_cons rfl (o_cons rfl (o_cons rfl (o_cons rfl (o_cons rfl (o_cons rfl (o_cons rfl (o_cons (o_own e_GCell (e := 100) (k := 4) (xs := p1.Screen.Other.Cells) (by kernel_rfl) rfl rfl rfl rfl) (o_cons rfl (o_cons rfl (o_app (o_row eU8) (o_app (o_row eU8) (o_app (o_row (eInt .u64)) (o_app (o_row (eInt .u64)) (o_cons (o_own eStr (e := 9) (k := 1) (xs := p1.Sorts.Names) (by kernel_rfl) rfl rfl rfl rfl) (o_cons rfl (o_cons (o_own e_GVar (e := 107) (k := 4) (xs := p1.Vars) (by kernel_rfl) rfl rfl rfl rfl) (o_app (o_row eU8) (o_app (o_row eU8) (o_app (o_row (eInt .u64)) (o_cons rfl (o_cons rfl (o_cons rfl o_nil)))))))))))))))))))))))))))))))))))))))))))))))))))))))) (o_cons rfl o_nil)))
def f11_Q (r : GClient) (e : PX) (st : St) : Prop := DoneF c11 0 ((q2_ r), []) e st
def f11_j2_J (a1 : Int) (a2 : Int) (a3 : List S8) (a4 : List GVar) (a5 : GEnds) (p4 : GClient) : St := ⟨(up (up u0 14 (pt 120)) 10 (pt 88)), (q27_ p4)⟩
def f11_j2 (a1 : Int) (a2 : Int) (a3 : List S8) (a4 : List GVar) (a5 : GEnds) (p4 : GClient) : Option (GClient) := (some (q35_ p4))
theorem f11_j2_ok (hd : 7 ≤ d) (a1 : Int) (a2 : Int) (a3 : List S8) (a4 : List GVar) (a5 : GEnds) {r : GClient} (hQ : FQ (f11_Q r) Q) (p4 : GClient) (hS : f11_j2 a1 a2 a3 a4 a5 p4 = some r) (he : keepSt [10, 14] [(88, .id 88), (120, .id 120), (192, .id 192), (193, .id 193), (264, .id 264), (288, .id 288)] [] st = f11_j2_J a1 a2 a3 a4 a5 p4) : ZX d Q c11_1 [] st := by
 refine zrKeep he ?_
 unfold f11_j2 at hS
 refine zS (zL 45 45 (zK (zS (zL 3 3 (zK ?_)))))
 exact zrRet (zkNil (endQ hS hQ (fR (f11_out (q35_ p4)))))
def f11_j1_J (a1 : Int) (a2 : Int) (a3 : List S8) (a4 : List GVar) (a5 : GEnds) (p3 : GClient) : St := ⟨(up (up (up u0 14 (pt 120)) 10 (pt 88)) 3 (dE e_GVar a4)), (q27_ p3)⟩
def f11_j1 (a1 : Int) (a2 : Int) (a3 : List S8) (a4 : List GVar) (a5 : GEnds) (p3 : GClient) : Option (GClient) := ((f27 a4).bind fun z11 => (f11_j2 a1 a2 a3 a4 a5 ({ p3 with Screen := { p3.Screen with Past := [] } })))
theorem f11_j1_ok (hd : 7 ≤ d) (a1 : Int) (a2 : Int) (a3 : List S8) (a4 : List GVar) (a5 : GEnds) {r : GClient} (hQ : FQ (f11_Q r) Q) (p3 : GClient) (hS : f11_j1 a1 a2 a3 a4 a5 p3 = some r) (he : keepSt [3, 10, 14] [(88, .id 88), (120, .id 120), (192, .id 192), (193, .id 193), (264, .id 264), (288, .id 288)] [] st = f11_j1_J a1 a2 a3 a4 a5 p3) : ZX d Q c11_2 [] st := by
 refine zrKeep he ?_
 unfold f11_j1 at hS
 refine zrSeq (zS (zL 1 1 ?_))
 refine bindE hS (fun z11 hz11 hS => zO (some 51) 2 (c1 27 50) (ev_cA (f27_ok (d - 1) (dpt hd rfl) a4 z11 hz11)) (zL 5 7 (zK (zS (zL 2 2 (zK (zF ?_)))))))
 exact zrSkip (zkSeq (f11_j2_ok hd a1 a2 a3 a4 a5 hQ ({ p3 with Screen := { p3.Screen with Past := [] } }) hS (by kernel_rfl)))
def f11_j0_J (a1 : Int) (a2 : Int) (a3 : List S8) (a4 : List GVar) (a5 : GEnds) (p2 : GScreen) : St := ⟨(up (up (up (up (up u0 12 (pt 104)) 10 (pt 88)) 9 (pt 80)) 3 (dE e_GVar a4)) 2 (dE eStr a3)), (up (up (up (up (up h0 193 ⟨0, some (go1_GScreen p2)⟩) 192 ⟨0, some (go0_GScreen p2)⟩) 104 ⟨0, some (.box (bx_GScreen p2 (.r (.msl 192 0 0 p2.Grid.Cells.length)) (.r (.msl 193 0 0 p2.Other.Cells.length)) .nil))⟩) 88 q5_) 80 ⟨0, some (.box (((eInt .u64).row 4 a5.UsOk) ++ (((eInt .u64).row 4 a5.HimOk) ++ [])))⟩)⟩
def f11_j0 (a1 : Int) (a2 : Int) (a3 : List S8) (a4 : List GVar) (a5 : GEnds) (p2 : GScreen) : Option (GClient) := ((f24 a3).bind fun z7 => ((f25 a4).bind fun z8 => ((f26 (GSorts.mk z7 0)).bind fun z12 => (f11_j1 a1 a2 a3 a4 a5 (GClient.mk (GWire.mk 0 0 0 ([]) false) false ([]) (GParser.mk 0 0 ([]) ([]) ([])) ({ p2 with Past := [] }) (GNeg.mk (fun _ => 0) (fun _ => 0) a5.UsOk a5.HimOk) (GSorts.mk z7 0) z8 (GKeys.mk (fun _ => 0) (fun _ => 0)) (GMask.mk (fun _ => 0)) (GEditor.mk ([]) false) false)))))
theorem f11_j0_ok (hd : 7 ≤ d) (a1 : Int) (a2 : Int) (a3 : List S8) (a4 : List GVar) (a5 : GEnds) {r : GClient} (hQ : FQ (f11_Q r) Q) (p2 : GScreen) (hS : f11_j0 a1 a2 a3 a4 a5 p2 = some r) (he : keepSt [2, 3, 9, 10, 12] [(80, .id 80), (88, .id 88), (104, .id 104), (192, .id 192), (193, .id 193)] [.cell 88 14 0 0 1, .cell 88 42 0 0 1, .cell 88 44 0 0 1, .cell 88 565 0 0 1, .cell 88 567 0 0 1] st = f11_j0_J a1 a2 a3 a4 a5 p2) : ZX d Q c11_3 [] st := by
 refine zrKeep he ?_
 unfold f11_j0 at hS
 refine zrSeq (zrRegD (zdR 2 2 (bindE hS (fun z7 hz7 hS => zdO (some 32) 3 none (c1 24 31) (ev_cA (f24_ok (d - 1) (dpt hd rfl) a3 z7 hz7)) (zdR 2 5 (bindE hS (fun z8 hz8 hS => zdO (some 35) 6 none (c1 25 34) (ev_cA (f25_ok (d - 1) (dpt hd rfl) a4 z8 hz8)) (zdR 8 14 (zdE (zkSeq (zrSeq (zS (zL 2 2 ?_)))))))))))))
 refine bindE hS (fun z12 hz12 hS => zO (some 44) 3 (c1 26 43) (ev_callB (args := [(.agg ((.r (.msl 264 1 0 z7.length)) :: ((dI 0) :: [])))]) (by kernel_rfl) (l_cons (l_agg (l_cons (l_own eStr (e := 9) (k := 1) (xs := z7) (by kernel_rfl) rfl rfl) (lk l_nil))) l_nil) (f26_ok (d - 1) (dpt hd rfl) (GSorts.mk z7 0) z12 hz12) (by kernel_rfl) (by kernel_rfl)) (zL 1 4 (zK (zS (zL 2 2 (zK (zF ?_)))))))
 exact zrSkip (zkSeq (f11_j1_ok hd a1 a2 a3 a4 a5 hQ (GClient.mk (GWire.mk 0 0 0 ([]) false) false ([]) (GParser.mk 0 0 ([]) ([]) ([])) ({ p2 with Past := [] }) (GNeg.mk (fun _ => 0) (fun _ => 0) a5.UsOk a5.HimOk) (GSorts.mk z7 0) z8 (GKeys.mk (fun _ => 0) (fun _ => 0)) (GMask.mk (fun _ => 0)) (GEditor.mk ([]) false) false) hS (by kernel_rfl)))
def f11 (a1 : Int) (a2 : Int) (a3 : List S8) (a4 : List GVar) (a5 : GEnds) : Option (GClient) := ((f23 a1 a2).bind fun z6 => (f11_j0 a1 a2 a3 a4 a5 ({ z6 with Past := [] })))
theorem f11_ok (d : Nat) (hd : 7 ≤ d) (a1 : Int) (a2 : Int) (a3 : List S8) (a4 : List GVar) (a5 : GEnds) (r : GClient) (hS : f11 a1 a2 a3 a4 a5 = some r) : lev codes baseL d 11 [(dI a1), (dI a2), (dE eStr a3), (dE e_GVar a4), (.agg (((eInt .u64).row 4 a5.UsOk) ++ (((eInt .u64).row 4 a5.HimOk) ++ [])))] [] = some ((q2_ r), []) := by
 refine lvG hd (fun Q hQ => ?_) codes11
 unfold f11 at hS
 show ZR _ Q c11_b [] _
 replace hQ : FQ (f11_Q r) Q := hQ
 refine zS (zL 3 3 (zK (zS (zL 2 2 ?_))))
 refine bindE hS (fun z6 hz6 hS => zO (some 23) 3 (.call 23 [(tm 21), (tm 22)]) (ev_cA (f23_ok (d - 1) (dpt hd rfl) a1 a2 z6 hz6)) (zL 6 9 (zK (zrSeq (zS (zL 2 2 (zK (zF ?_))))))))
 exact zrSkip (zkSeq (f11_j0_ok hd a1 a2 a3 a4 a5 hQ ({ z6 with Past := [] }) hS (by kernel_rfl)))
/- farwriter/fartop.fresh -/
def f6_fin (p1 : GClient) : St := ⟨(up (up u0 7 (dI 0)) 6 (pt 56)), (up (up (up (up (up h0 107 ⟨0, some (.own 107 4 (e_GVar.cells p1.Vars))⟩) 106 ⟨0, some (.own 9 1 (eStr.cells p1.Sorts.Names))⟩) 105 ⟨0, some (go1_GScreen p1.Screen)⟩) 104 ⟨0, some (go0_GScreen p1.Screen)⟩) 56 ⟨0, some (.box (bx_GClient p1 (.r (.msl 104 0 0 p1.Screen.Grid.Cells.length)) (.r (.msl 105 0 0 p1.Screen.Other.Cells.length)) .nil (.r (.msl 106 0 0 p1.Sorts.Names.length)) (.r (.msl 107 0 0 p1.Vars.length))))⟩)⟩
theorem f6_out (p1 : GClient) : outR (f6_fin p1) 0 c6.res = some ((q2_ p1), []) := by
 exact out_of (ids := []) (ids' := [104, 105, 106, 107]) (l := [(.agg ((dI p1.Wire.Mode) :: ((dI p1.Wire.Cmd) :: ((dI p1.Wire.Opt) :: ((.d (.str p1.Wire.Buf)) :: ((dB p1.Wire.Over) :: ((dB p1.Cr) :: ((.d (.str p1.Part)) :: ((dI p1.Psr.State) :: ((dI p1.Psr.Mark) :: ((.d (.str p1.Psr.Inter)) :: ((.d (.str p1.Psr.Args)) :: ((.d (.str p1.Psr.Text)) :: ((dI p1.Screen.Grid.Wide) :: ((dI p1.Screen.Grid.High) :: ((.r (.msl 104 0 0 p1.Screen.Grid.Cells.length)) :: ((dI p1.Screen.Row) :: ((dI p1.Screen.Col) :: ((dB p1.Screen.Late) :: ((dI p1.Screen.Top) :: ((dI p1.Screen.Bottom) :: ((dI p1.Screen.Pen.Flags) :: ((dI p1.Screen.Pen.Fore) :: ((dI p1.Screen.Pen.Back) :: ((dI p1.Screen.Modes) :: (((eInt .u64).row 4 p1.Screen.Stops.Bits) ++ ((dI p1.Screen.Pages.1) :: ((dI p1.Screen.Pages.2) :: ((dI p1.Screen.Shift) :: ((dI p1.Screen.Saved.Row) :: ((dI p1.Screen.Saved.Col) :: ((dI p1.Screen.Saved.Pen.Flags) :: ((dI p1.Screen.Saved.Pen.Fore) :: ((dI p1.Screen.Saved.Pen.Back) :: ((dB p1.Screen.Saved.Origin) :: ((dI p1.Screen.Saved.Pages.1) :: ((dI p1.Screen.Saved.Pages.2) :: ((dI p1.Screen.Saved.Shift) :: ((dI p1.Screen.Other.Wide) :: ((dI p1.Screen.Other.High) :: ((.r (.msl 105 0 0 p1.Screen.Other.Cells.length)) :: ((.d (.str p1.Screen.Title)) :: (.nil :: ((eU8.row 256 p1.Neg.Us) ++ ((eU8.row 256 p1.Neg.Him) ++ (((eInt .u64).row 4 p1.Neg.UsOk) ++ (((eInt .u64).row 4 p1.Neg.HimOk) ++ ((.r (.msl 106 0 0 p1.Sorts.Names.length)) :: ((dI p1.Sorts.At) :: ((.r (.msl 107 0 0 p1.Vars.length)) :: ((eU8.row 19 p1.Keys.Levels) ++ ((eU8.row 19 p1.Keys.Chars) ++ (((eInt .u64).row 4 p1.Mask.Bits) ++ ((.d (.str p1.Editor.Buf)) :: ((dB p1.Editor.Quote) :: ((dB p1.Edit) :: [])))))))))))))))))))))))))))))))))))))))))))))))))))))))), (dI 0)]) (by kernel_rfl) (by kernel_rfl) (o_tup (o_cons (o_agg (o_cons rfl (o_cons rfl (o_cons rfl (o_cons rfl (o_cons rfl (o_cons rfl (o_cons rfl (o_cons rfl (o_cons rfl (o_cons rfl (o_cons rfl (o_cons rfl (o_cons rfl (o_cons rfl (o_cons (o_own e_GCell (e := 100) (k := 4) (xs := p1.Screen.Grid.Cells) (by kernel_rfl) rfl rfl rfl rfl) (o_cons rfl (o_cons rfl (o_cons rfl (o_cons rfl (o_cons rfl (o_cons rfl (o_cons rfl (o_cons rfl (o_cons rfl (o_app (o_row (eInt .u64)) (o_cons rfl (o_cons rfl (o_cons rfl (o_cons rfl (o_cons rfl (o_cons rfl (o_cons rfl (o_cons rfl (o_cons rfl (o_cons rfl (o_cons rfl (o_cons rfl (o_cons rfl (o_cons rfl (o_cons (o_own e_GCell (e := 100) (k := 4) (xs := p1.Screen.Other.Cells) (by kernel_rfl) rfl rfl rfl rfl) (o_cons rfl (o_cons rfl (o_app (o_row eU8) (o_app (o_row eU8) (o_app (o_row (eInt .u64)) (o_app (o_row (eInt .u64)) (o_cons (o_own eStr (e := 9) (k := 1) (xs := p1.Sorts.Names) (by kernel_rfl) rfl rfl rfl rfl) (o_cons rfl (o_cons (o_own e_GVar (e := 107) (k := 4) (xs := p1.Vars) (by kernel_rfl) rfl rfl rfl rfl) (o_app (o_row eU8) (o_app (o_row eU8) (o_app (o_row (eInt .u64)) (o_cons rfl (o_cons rfl (o_cons rfl o_nil)))))))))))))))))))))))))))))))))))))))))))))))))))))))) (o_cons rfl o_nil)))
def f6_Q (r : GClient) (e : PX) (st : St) : Prop := DoneF c6 0 ((q2_ r), []) e st
def f6 (a1 : Int) (a2 : Int) (a3 : GEnds) : Option (GClient) := ((f11 a1 a2 [[88, 84, 69, 82, 77]] [] a3).bind fun z2 => (some ({ z2 with Screen := { z2.Screen with Past := [] } })))
theorem f6_ok (d : Nat) (hd : 8 ≤ d) (a1 : Int) (a2 : Int) (a3 : GEnds) (r : GClient) (hS : f6 a1 a2 a3 = some r) : lev codes baseL d 6 [(dI a1), (dI a2), (.agg (((eInt .u64).row 4 a3.UsOk) ++ (((eInt .u64).row 4 a3.HimOk) ++ [])))] [] = some ((q2_ r), []) := by
 refine lvG hd (fun Q hQ => ?_) codes6
 unfold f6 at hS
 show ZR _ Q c6_b [] _
 replace hQ : FQ (f6_Q r) Q := hQ
 refine zS (zL 3 3 (zK (zS (zL 4 4 ?_))))
 refine bindE hS (fun z2 hz2 hS => zO (v := (q15_ z2)) (ups := [(88, ⟨2, none⟩), (104, ⟨1, some (go0_GScreen z2.Screen)⟩), (105, ⟨1, some (go1_GScreen z2.Screen)⟩), (106, ⟨1, some (.own 9 1 (eStr.cells z2.Sorts.Names))⟩), (107, ⟨1, some (.own 107 4 (e_GVar.cells z2.Vars))⟩)]) (some 12) 5 (.callf 11 [(tm 8), (tm 9), (tm 10), (.const (.slice .none 0 0)), (tm 11)]) (ev_callF (args := [(dI a1), (dI a2), (.r (.msl 88 1 0 (([[88, 84, 69, 82, 77]] : List S8).length))), .nil, (.agg (((eInt .u64).row 4 a3.UsOk) ++ (((eInt .u64).row 4 a3.HimOk) ++ [])))]) (args' := [(dI a1), (dI a2), (.d (.sl ([[88, 84, 69, 82, 77]] : List S8).length (eStr.cells ([[88, 84, 69, 82, 77]])))), .nil, (.agg (((eInt .u64).row 4 a3.UsOk) ++ (((eInt .u64).row 4 a3.HimOk) ++ [])))]) (l := [(dI a1), (dI a2), (.d (.sl ([[88, 84, 69, 82, 77]] : List S8).length (eStr.cells ([[88, 84, 69, 82, 77]])))), (.d (.sl ([] : List GVar).length (e_GVar.cells ([])))), (.agg (((eInt .u64).row 4 a3.UsOk) ++ (((eInt .u64).row 4 a3.HimOk) ++ [])))]) (refs := [88]) (r := (q2_ z2)) (v := (q15_ z2)) (ups' := [(104, ⟨1, some (go0_GScreen z2.Screen)⟩), (105, ⟨1, some (go1_GScreen z2.Screen)⟩), (106, ⟨1, some (.own 9 1 (eStr.cells z2.Sorts.Names))⟩), (107, ⟨1, some (.own 107 4 (e_GVar.cells z2.Vars))⟩)]) (by kernel_rfl) (by kernel_rfl) (by kernel_rfl) (fz_cons rfl (fz_cons rfl (fz_cons (fz_own eStr (e := 9) (k := 1) (xs := [[88, 84, 69, 82, 77]]) (by kernel_rfl) (by kernel_rfl) rfl rfl) (fz_cons rfl (fz_cons rfl fz_nil))))) (by kernel_rfl) (f11_ok (d - 1) (dpt hd rfl) a1 a2 [[88, 84, 69, 82, 77]] [] a3 z2 hz2) (by kernel_rfl) (by kernel_rfl) (by kernel_rfl) (by kernel_rfl)) (zL 4 9 (zK ?_)))
 exact zrRet (zkNil (endQ hS hQ (fR (f6_out ({ z2 with Screen := { z2.Screen with Past := [] } })))))
/- farwriter/fartop.lives -/
theorem libLives_ok (d : Nat) (hd : 0 ≤ d)  (r : Bool) (hS : libLives  = some r) : lev codes baseL d 7 [] [] = some ((dB r), []) := lib_call (l := libs) rfl rfl rfl (livesO_ hS) d
/- farwriter/fartop.bytes -/
def f17_fin (p1 : GEvent) : St := ⟨(up u0 2 (pt 24)), (up h0 24 ⟨0, some (.box (bx_GEvent p1 (dL p1.Runes)))⟩)⟩
theorem f17_out (p1 : GEvent) : outR (f17_fin p1) 0 c17.res = some ((q12_ p1), []) := by
 kernel_rfl
def f17_Q (r : GEvent) (e : PX) (st : St) : Prop := DoneF c17 0 ((q12_ r), []) e st
def f17 (a1 : S8) : Option (GEvent) := (some (GEvent.mk 1 a1 (GKey.mk 0 0 0) (GMouse.mk 0 0 0 0 false) ([]) 0 0 false 0 false))
theorem f17_ok (d : Nat) (hd : 1 ≤ d) (a1 : S8) (r : GEvent) (hS : f17 a1 = some r) : lev codes baseL d 17 [(.d (.str a1))] [] = some ((q12_ r), []) := by
 refine lvG hd (fun Q hQ => ?_) codes17
 unfold f17 at hS
 show ZR _ Q c17_b [] _
 replace hQ : FQ (f17_Q r) Q := hQ
 refine zS (zL 1 1 (zK (zS (zL 3 3 (zK ?_)))))
 exact zrRet (zkNil (endQ hS hQ (fR (f17_out (GEvent.mk 1 a1 (GKey.mk 0 0 0) (GMouse.mk 0 0 0 0 false) ([]) 0 0 false 0 false)))))
/- farwriter/iac.Check -/
def f52_fin (p1 : Int) : St := ⟨(up u0 2 (dI p1)), h0⟩
theorem f52_out (p1 : Int) : outR (f52_fin p1) 0 c52.res = some ((dI p1), []) := by
 kernel_rfl
def f52_Q (r : Int) (e : PX) (st : St) : Prop := DoneF c52 0 ((dI r), []) e st
def f52_j0_J (a1 : GWire) : St := ⟨(up (up (up u0 4 (dB true)) 3 (dB false)) 1 (pt 16)), (up h0 16 ⟨0, some (.box (q22_ a1))⟩)⟩
def f52_j0 (a1 : GWire) : Option (Int) := (bif (decide (a1.Opt = 0)) then (bif (decide (a1.Buf = ([] : S8))) then (bif (!(!a1.Over)) then (some 4) else (some 0)) else none) else none)
theorem f52_j0_ok (hd : 1 ≤ d) (a1 : GWire) {r : Int} (hQ : FQ (f52_Q r) Q)  (hS : f52_j0 a1 = some r) (he : keepSt [1, 3, 4] [(16, .id 16)] [] st = f52_j0_J a1) : ZX d Q c52_1 [] st := by
 refine zrKeep he ?_
 unfold f52_j0 at hS
 refine zrSeq (zS (zL 1 1 (zK (zF (zrReg (zL 4 4 ?_))))))
 refine sH 73 5 70 true (ck 72 0) hS (fun hS => ?_) (fun hS => ?_)
 ·refine zL 4 9 (sH 78 10 75 true (.strO .eql (tm 77) (.const (.string ⟨#[]⟩))) hS (fun hS => ?_) (fun hS => ?_))
  ·refine zL 7 17 (zK (zrSeq (zS (zL 2 2 (zK ?_)))))
   refine sR 86 hS (fun hS => ?_) (fun hS => ?_)
   ·refine zT (zS (zL 1 1 (zK ?_)))
    exact zrRet (zkSeqR (zkNil (endQ hS hQ (fR (f52_out 4)))))
   ·refine zF (zrSkip (zkSeq (zS (zL 1 1 (zK ?_)))))
    exact zrRet (zkNil (endQ hS hQ (fR (f52_out 0))))
  ·cases hS
 ·cases hS
def f52 (a1 : GWire) : Option (Int) := (bif (decide (a1.Mode = 4)) then none else (bif (decide (a1.Mode = 5)) then none else (bif (decide (0 ≤ a1.Mode)) then (bif (decide (a1.Mode ≤ 5)) then (bif (decide (a1.Mode = 2)) then none else (bif (decide (a1.Cmd = 0)) then (f52_j0 a1 ) else none)) else none) else none)))
theorem f52_ok (d : Nat) (hd : 1 ≤ d) (a1 : GWire) (r : Int) (hS : f52 a1 = some r) : lev codes baseL d 52 [(.agg (q22_ a1))] [] = some ((dI r), []) := by
 refine lvG hd (fun Q hQ => ?_) codes52
 unfold f52 at hS
 show ZR _ Q c52_b [] _
 replace hQ : FQ (f52_Q r) Q := hQ
 refine zS (zL 2 2 (zK (zS (zL 2 2 ?_))))
 refine sB 7 3 (ck 6 4) hS (fun hS => ?_) (fun hS => ?_)
 ·cases hS
 ·refine zL 3 6 (sH 11 7 8 false (ck 10 5) hS (fun hS => ?_) (fun hS => ?_))
  ·cases hS
  ·refine zL 2 9 (zK (zS (zL 2 2 ?_)))
   refine sB 15 3 (.cmpI .geq (tm 14) (ki 0)) hS (fun hS => ?_) (fun hS => ?_)
   ·refine zL 3 6 (sH 19 7 16 true (.cmpI .leq (tm 18) (ki 5)) hS (fun hS => ?_) (fun hS => ?_))
    ·refine zL 2 9 (zK (zrSeq (zS (zL 2 2 ?_))))
     refine sB 23 3 (ck 22 2) hS (fun hS => ?_) (fun hS => ?_)
     ·cases hS
     ·refine zK (zF (zrReg (zL 4 4 ?_)))
      refine sH 39 5 36 true (ck 38 0) hS (fun hS => ?_) (fun hS => ?_)
      ·refine zL 2 7 (zK ?_)
       exact f52_j0_ok hd a1 hQ  hS (by kernel_rfl)
      ·cases hS
    ·cases hS
   ·cases hS
/- farwriter/utf.Check -/
def f53_fin  : St := ⟨(up u0 2 (dI 0)), h0⟩
theorem f53_out  : outR (f53_fin ) 0 c53.res = some ((dI 0), []) := by
 kernel_rfl
def f53_Q (r : Unit) (e : PX) (st : St) : Prop := DoneF c53 0 ((dI 0), []) e st
def f53 (a1 : S8) : Option (Unit) := (bif (decide (a1 = ([] : S8))) then (some ()) else none)
theorem f53_ok (d : Nat) (hd : 1 ≤ d) (a1 : S8) (r : Unit) (hS : f53 a1 = some r) : lev codes baseL d 53 [(.d (.str a1))] [] = some ((dI 0), []) := by
 refine lvG hd (fun Q hQ => ?_) codes53
 unfold f53 at hS
 show ZR _ Q c53_b [] _
 replace hQ : FQ (f53_Q r) Q := hQ
 refine zS (zL 1 1 (zK (zrSeq (zS (zL 1 1 ?_)))))
 refine sB 6 2 (.strO .eql (tm 5) (.const (.string ⟨#[]⟩))) hS (fun hS => ?_) (fun hS => ?_)
 ·refine zK (zT (zS (zL 1 1 (zK ?_))))
  exact zrRet (zkSeqR (zkNil (endQ hS hQ (fR (f53_out )))))
 ·cases hS
/- strings.Trim -/
theorem libTrim_ok (d : Nat) (hd : 0 ≤ d) (a1 : S8) (a2 : S8) (r : S8) (hS : libTrim a1 a2 = some r) : lev codes baseL d 154 [(.d (.str a1)), (.d (.str a2))] [] = some ((.d (.str r)), []) := lib_call (l := libs) rfl rfl rfl (ossS_ hS) d
/- strings.Split -/
theorem libSplit_ok (d : Nat) (hd : 0 ≤ d) (a1 : S8) (a2 : S8) (r : List S8) (hS : libSplit a1 a2 = some r) : lev codes baseL d 155 [(.d (.str a1)), (.d (.str a2))] [] = some ((dE eStr r), []) := lib_call (l := libs) rfl rfl rfl (ossL_ hS) d
end
end Go.Proofs.YtobkkblijfhpoaaGreatDoor.Pm
