/- Typed functions, and that the codes are these. Printed by dec.py. -/
import Derived.Test.YtbokpgemkkebnaaGreatDoorDWyG
namespace Go.Proofs.YtbokpgemkkebnaaGreatDoor.Pm
noncomputable section
set_option maxRecDepth 1000000
set_option maxHeartbeats 20000000
set_option linter.unusedVariables false
/- farwriter/pen.one -/
def f151_fin (p26 : GPen) : St := ⟨u0, (up h0 0 ⟨0, some (.box ((dI p26.Flags) :: ((dI p26.Fore) :: ((dI p26.Back) :: []))))⟩)⟩
theorem f151_out (p26 : GPen) : outR (f151_fin p26) 1 c151.res = some ((.tup []), [(.box ((dI p26.Flags) :: ((dI p26.Fore) :: ((dI p26.Back) :: []))))]) := by
 kernel_rfl
def f151_Q (r : GPen) (e : PX) (st : St) : Prop := DoneF c151 1 ((.tup []), [(.box ((dI r.Flags) :: ((dI r.Fore) :: ((dI r.Back) :: []))))]) e st
def f151_j2_J (a1 : Int) (a2 : GPen) : St := ⟨(up (up (up u0 5 (dI 40)) 4 (.r (.ptr 0 0 2))) 1 (dI a1)), (up h0 0 ⟨0, some (.box ((dI a2.Flags) :: ((dI a2.Fore) :: ((dI a2.Back) :: []))))⟩)⟩
def f151_j2 (a1 : Int) (a2 : GPen) : Option (GPen) := (bif (decide (a1 = 49)) then (some (GPen.mk a2.Flags a2.Fore 0)) else (bif (decide (100 ≤ a1)) then (bif (decide (a1 ≤ 107)) then (some (GPen.mk a2.Flags a2.Fore (IntKind.i64.wrap ((IntKind.i64.wrap ((IntKind.i64.wrap (a1 - 40)) - 60)) + 9)))) else (some a2)) else (some a2)))
theorem f151_j2_ok {d : Nat} (hd : 2 ≤ d) (a1 : Int) (a2 : GPen) {r : GPen} {Q : PQ} (hQ : FQ (f151_Q r) Q)  (hS : f151_j2 a1 a2 = some r) {st : St} (he : keepSt [1, 4, 5] [(0, .id 0)] [] st = f151_j2_J a1 a2) : ZR (lev codes baseL (d - 1)) Q c151_1 [.blk 0] st := by
 refine zrKeep he ?_
 unfold f151_j2 at hS
 refine zrSeq (zrReg (zL 3 3 ?_))
 refine sB 91 4 (.cmpI .eql (tm 88) (tm 90)) hS (fun hS => ?_) (fun hS => ?_)
 ·refine zL 1 5 (zE (zkSeq (zT (zrReg (zL 3 3 (zE ?_))))))
  exact zkBlk (zkNil (endQ hS hQ (fN (f151_out (GPen.mk a2.Flags a2.Fore 0)))))
 ·refine zL 1 5 (zE (zkSeq (zF (zrSeq (zrReg (zL 3 3 ?_))))))
  refine sB 98 4 (.cmpI .geq (tm 95) (tm 97)) hS (fun hS => ?_) (fun hS => ?_)
  ·refine zL 4 8 (sH 103 9 99 true (.cmpI .leq (tm 100) (tm 102)) hS (fun hS => ?_) (fun hS => ?_))
   ·refine zL 2 11 (zE (zkSeq (zT (zrReg (zL 8 8 (zE ?_))))))
    exact zkBlk (zkNil (endQ hS hQ (fN (f151_out (GPen.mk a2.Flags a2.Fore (IntKind.i64.wrap ((IntKind.i64.wrap ((IntKind.i64.wrap (a1 - 40)) - 60)) + 9)))))))
   ·refine zL 2 11 (zE (zkSeq (zF ?_)))
    exact zrSkip (zkBlk (zkNil (endQ hS hQ (fN (f151_out a2)))))
  ·refine zL 7 11 (zE (zkSeq (zF ?_)))
   exact zrSkip (zkBlk (zkNil (endQ hS hQ (fN (f151_out a2)))))
def f151_j1_J (a1 : Int) (a2 : GPen) : St := ⟨(up (up (up u0 5 (dI 40)) 4 (.r (.ptr 0 0 2))) 1 (dI a1)), (up h0 0 ⟨0, some (.box ((dI a2.Flags) :: ((dI a2.Fore) :: ((dI a2.Back) :: []))))⟩)⟩
def f151_j1 (a1 : Int) (a2 : GPen) : Option (GPen) := (bif (decide (40 ≤ a1)) then (bif (decide (a1 ≤ 47)) then (some (GPen.mk a2.Flags a2.Fore (IntKind.i64.wrap ((IntKind.i64.wrap (a1 - 40)) + 1)))) else (f151_j2 a1 a2 )) else (f151_j2 a1 a2 ))
theorem f151_j1_ok {d : Nat} (hd : 2 ≤ d) (a1 : Int) (a2 : GPen) {r : GPen} {Q : PQ} (hQ : FQ (f151_Q r) Q)  (hS : f151_j1 a1 a2 = some r) {st : St} (he : keepSt [1, 4, 5] [(0, .id 0)] [] st = f151_j1_J a1 a2) : ZR (lev codes baseL (d - 1)) Q c151_2 [.blk 0] st := by
 refine zrKeep he ?_
 unfold f151_j1 at hS
 refine zrSeq (zrReg (zL 2 2 ?_))
 refine sB 74 3 (.cmpI .geq (tm 72) (tm 73)) hS (fun hS => ?_) (fun hS => ?_)
 ·refine zL 4 7 (sH 79 8 75 true (.cmpI .leq (tm 76) (tm 78)) hS (fun hS => ?_) (fun hS => ?_))
  ·refine zL 2 10 (zE (zkSeq (zT (zrReg (zL 7 7 (zE ?_))))))
   exact zkBlk (zkNil (endQ hS hQ (fN (f151_out (GPen.mk a2.Flags a2.Fore (IntKind.i64.wrap ((IntKind.i64.wrap (a1 - 40)) + 1)))))))
  ·refine zL 2 10 (zE (zkSeq (zF ?_)))
   exact f151_j2_ok hd a1 a2 hQ  hS (by kernel_rfl)
 ·refine zL 7 10 (zE (zkSeq (zF ?_)))
  exact f151_j2_ok hd a1 a2 hQ  hS (by kernel_rfl)
def f151_j0_J (a1 : Int) (a2 : GPen) : St := ⟨(up (up (up (up u0 5 (dI 40)) 4 (.r (.ptr 0 0 2))) 1 (dI a1)) 0 (pt 0)), (up h0 0 ⟨0, some (.box ((dI a2.Flags) :: ((dI a2.Fore) :: ((dI a2.Back) :: []))))⟩)⟩
def f151_j0 (a1 : Int) (a2 : GPen) : Option (GPen) := (bif (decide (a1 = 0)) then (some (GPen.mk 0 0 0)) else (bif (decide (a1 ≤ 9)) then ((f48 a1).bind fun z5 => (some (GPen.mk (bitI .or .i64 a2.Flags z5) a2.Fore a2.Back))) else (bif (decide (a1 = 22)) then (some (GPen.mk (bitI .andNot .i64 a2.Flags 3) a2.Fore a2.Back)) else (bif (decide (23 ≤ a1)) then (bif (decide (a1 ≤ 29)) then ((f48 (IntKind.i64.wrap (a1 - 20))).bind fun z6 => (some (GPen.mk (bitI .andNot .i64 a2.Flags z6) a2.Fore a2.Back))) else (f151_j1 a1 a2 )) else (f151_j1 a1 a2 )))))
theorem f151_j0_ok {d : Nat} (hd : 2 ≤ d) (a1 : Int) (a2 : GPen) {r : GPen} {Q : PQ} (hQ : FQ (f151_Q r) Q)  (hS : f151_j0 a1 a2 = some r) {st : St} (he : keepSt [0, 1, 4, 5] [(0, .id 0)] [] st = f151_j0_J a1 a2) : ZR (lev codes baseL (d - 1)) Q c151_3 [] st := by
 refine zrKeep he ?_
 unfold f151_j0 at hS
 refine zrBlk (zrSeq (zrReg (zL 1 1 ?_)))
 refine sB 28 2 (ck 27 0) hS (fun hS => ?_) (fun hS => ?_)
 ·refine zL 1 3 (zE (zkSeq (zT (zrReg (zL 4 4 (zE ?_))))))
  exact zkBlk (zkNil (endQ hS hQ (fN (f151_out (GPen.mk 0 0 0)))))
 ·refine zL 1 3 (zE (zkSeq (zF (zrSeq (zrReg (zL 1 1 ?_))))))
  refine sB 34 2 (.cmpI .leq (tm 33) (ki 9)) hS (fun hS => ?_) (fun hS => ?_)
  ·refine zL 1 3 (zE (zkSeq (zT ?_)))
   exact zrRegD (zdR 5 5 (bindE hS (fun z5 hz5 hS => zdO (some 40) 6 none (c1 48 39) (ev_cA (f48_ok (d - 1) (dpt hd rfl) a1 z5 hz5)) (zdR 4 10 (zdE (zkBlk (zkNil (endQ hS hQ (fN (f151_out (GPen.mk (bitI .or .i64 a2.Flags z5) a2.Fore a2.Back)))))))))))
  ·refine zL 1 3 (zE (zkSeq (zF (zrSeq (zrReg (zL 1 1 ?_))))))
   refine sB 46 2 (ck 45 22) hS (fun hS => ?_) (fun hS => ?_)
   ·refine zL 1 3 (zE (zkSeq (zT (zrReg (zL 8 8 (zE ?_))))))
    exact zkBlk (zkNil (endQ hS hQ (fN (f151_out (GPen.mk (bitI .andNot .i64 a2.Flags 3) a2.Fore a2.Back)))))
   ·refine zL 1 3 (zE (zkSeq (zF (zrSeq (zrReg (zL 1 1 ?_))))))
    refine sB 56 2 (.cmpI .geq (tm 55) (ki 23)) hS (fun hS => ?_) (fun hS => ?_)
    ·refine zL 2 4 (sH 59 5 57 true (.cmpI .leq (tm 58) (ki 29)) hS (fun hS => ?_) (fun hS => ?_))
     ·refine zL 2 7 (zE (zkSeq (zT ?_)))
      exact zrRegD (zdR 6 6 (bindE hS (fun z6 hz6 hS => zdO (some 67) 7 none (c1 48 66) (ev_cA (f48_ok (d - 1) (dpt hd rfl) (IntKind.i64.wrap (a1 - 20)) z6 hz6)) (zdR 4 11 (zdE (zkBlk (zkNil (endQ hS hQ (fN (f151_out (GPen.mk (bitI .andNot .i64 a2.Flags z6) a2.Fore a2.Back)))))))))))
     ·refine zL 2 7 (zE (zkSeq (zF ?_)))
      exact f151_j1_ok hd a1 a2 hQ  hS (by kernel_rfl)
    ·refine zL 5 7 (zE (zkSeq (zF ?_)))
     exact f151_j1_ok hd a1 a2 hQ  hS (by kernel_rfl)
def f151_j5_J (a1 : Int) (a2 : GPen) : St := ⟨(up (up (up u0 5 (dI 30)) 4 (.r (.ptr 0 0 1))) 1 (dI a1)), (up h0 0 ⟨0, some (.box ((dI a2.Flags) :: ((dI a2.Fore) :: ((dI a2.Back) :: []))))⟩)⟩
def f151_j5 (a1 : Int) (a2 : GPen) : Option (GPen) := (bif (decide (a1 = 39)) then (some (GPen.mk a2.Flags 0 a2.Back)) else (bif (decide (90 ≤ a1)) then (bif (decide (a1 ≤ 97)) then (some (GPen.mk a2.Flags (IntKind.i64.wrap ((IntKind.i64.wrap ((IntKind.i64.wrap (a1 - 30)) - 60)) + 9)) a2.Back)) else (some a2)) else (some a2)))
theorem f151_j5_ok {d : Nat} (hd : 2 ≤ d) (a1 : Int) (a2 : GPen) {r : GPen} {Q : PQ} (hQ : FQ (f151_Q r) Q)  (hS : f151_j5 a1 a2 = some r) {st : St} (he : keepSt [1, 4, 5] [(0, .id 0)] [] st = f151_j5_J a1 a2) : ZR (lev codes baseL (d - 1)) Q c151_1 [.blk 0] st := by
 refine zrKeep he ?_
 unfold f151_j5 at hS
 refine zrSeq (zrReg (zL 3 3 ?_))
 refine sB 91 4 (.cmpI .eql (tm 88) (tm 90)) hS (fun hS => ?_) (fun hS => ?_)
 ·refine zL 1 5 (zE (zkSeq (zT (zrReg (zL 3 3 (zE ?_))))))
  exact zkBlk (zkNil (endQ hS hQ (fN (f151_out (GPen.mk a2.Flags 0 a2.Back)))))
 ·refine zL 1 5 (zE (zkSeq (zF (zrSeq (zrReg (zL 3 3 ?_))))))
  refine sB 98 4 (.cmpI .geq (tm 95) (tm 97)) hS (fun hS => ?_) (fun hS => ?_)
  ·refine zL 4 8 (sH 103 9 99 true (.cmpI .leq (tm 100) (tm 102)) hS (fun hS => ?_) (fun hS => ?_))
   ·refine zL 2 11 (zE (zkSeq (zT (zrReg (zL 8 8 (zE ?_))))))
    exact zkBlk (zkNil (endQ hS hQ (fN (f151_out (GPen.mk a2.Flags (IntKind.i64.wrap ((IntKind.i64.wrap ((IntKind.i64.wrap (a1 - 30)) - 60)) + 9)) a2.Back)))))
   ·refine zL 2 11 (zE (zkSeq (zF ?_)))
    exact zrSkip (zkBlk (zkNil (endQ hS hQ (fN (f151_out a2)))))
  ·refine zL 7 11 (zE (zkSeq (zF ?_)))
   exact zrSkip (zkBlk (zkNil (endQ hS hQ (fN (f151_out a2)))))
def f151_j4_J (a1 : Int) (a2 : GPen) : St := ⟨(up (up (up u0 5 (dI 30)) 4 (.r (.ptr 0 0 1))) 1 (dI a1)), (up h0 0 ⟨0, some (.box ((dI a2.Flags) :: ((dI a2.Fore) :: ((dI a2.Back) :: []))))⟩)⟩
def f151_j4 (a1 : Int) (a2 : GPen) : Option (GPen) := (bif (decide (30 ≤ a1)) then (bif (decide (a1 ≤ 37)) then (some (GPen.mk a2.Flags (IntKind.i64.wrap ((IntKind.i64.wrap (a1 - 30)) + 1)) a2.Back)) else (f151_j5 a1 a2 )) else (f151_j5 a1 a2 ))
theorem f151_j4_ok {d : Nat} (hd : 2 ≤ d) (a1 : Int) (a2 : GPen) {r : GPen} {Q : PQ} (hQ : FQ (f151_Q r) Q)  (hS : f151_j4 a1 a2 = some r) {st : St} (he : keepSt [1, 4, 5] [(0, .id 0)] [] st = f151_j4_J a1 a2) : ZR (lev codes baseL (d - 1)) Q c151_2 [.blk 0] st := by
 refine zrKeep he ?_
 unfold f151_j4 at hS
 refine zrSeq (zrReg (zL 2 2 ?_))
 refine sB 74 3 (.cmpI .geq (tm 72) (tm 73)) hS (fun hS => ?_) (fun hS => ?_)
 ·refine zL 4 7 (sH 79 8 75 true (.cmpI .leq (tm 76) (tm 78)) hS (fun hS => ?_) (fun hS => ?_))
  ·refine zL 2 10 (zE (zkSeq (zT (zrReg (zL 7 7 (zE ?_))))))
   exact zkBlk (zkNil (endQ hS hQ (fN (f151_out (GPen.mk a2.Flags (IntKind.i64.wrap ((IntKind.i64.wrap (a1 - 30)) + 1)) a2.Back)))))
  ·refine zL 2 10 (zE (zkSeq (zF ?_)))
   exact f151_j5_ok hd a1 a2 hQ  hS (by kernel_rfl)
 ·refine zL 7 10 (zE (zkSeq (zF ?_)))
  exact f151_j5_ok hd a1 a2 hQ  hS (by kernel_rfl)
def f151_j3_J (a1 : Int) (a2 : GPen) : St := ⟨(up (up (up (up u0 5 (dI 30)) 4 (.r (.ptr 0 0 1))) 1 (dI a1)) 0 (pt 0)), (up h0 0 ⟨0, some (.box ((dI a2.Flags) :: ((dI a2.Fore) :: ((dI a2.Back) :: []))))⟩)⟩
def f151_j3 (a1 : Int) (a2 : GPen) : Option (GPen) := (bif (decide (a1 = 0)) then (some (GPen.mk 0 0 0)) else (bif (decide (a1 ≤ 9)) then ((f48 a1).bind fun z7 => (some (GPen.mk (bitI .or .i64 a2.Flags z7) a2.Fore a2.Back))) else (bif (decide (a1 = 22)) then (some (GPen.mk (bitI .andNot .i64 a2.Flags 3) a2.Fore a2.Back)) else (bif (decide (23 ≤ a1)) then (bif (decide (a1 ≤ 29)) then ((f48 (IntKind.i64.wrap (a1 - 20))).bind fun z8 => (some (GPen.mk (bitI .andNot .i64 a2.Flags z8) a2.Fore a2.Back))) else (f151_j4 a1 a2 )) else (f151_j4 a1 a2 )))))
theorem f151_j3_ok {d : Nat} (hd : 2 ≤ d) (a1 : Int) (a2 : GPen) {r : GPen} {Q : PQ} (hQ : FQ (f151_Q r) Q)  (hS : f151_j3 a1 a2 = some r) {st : St} (he : keepSt [0, 1, 4, 5] [(0, .id 0)] [] st = f151_j3_J a1 a2) : ZR (lev codes baseL (d - 1)) Q c151_3 [] st := by
 refine zrKeep he ?_
 unfold f151_j3 at hS
 refine zrBlk (zrSeq (zrReg (zL 1 1 ?_)))
 refine sB 28 2 (ck 27 0) hS (fun hS => ?_) (fun hS => ?_)
 ·refine zL 1 3 (zE (zkSeq (zT (zrReg (zL 4 4 (zE ?_))))))
  exact zkBlk (zkNil (endQ hS hQ (fN (f151_out (GPen.mk 0 0 0)))))
 ·refine zL 1 3 (zE (zkSeq (zF (zrSeq (zrReg (zL 1 1 ?_))))))
  refine sB 34 2 (.cmpI .leq (tm 33) (ki 9)) hS (fun hS => ?_) (fun hS => ?_)
  ·refine zL 1 3 (zE (zkSeq (zT ?_)))
   exact zrRegD (zdR 5 5 (bindE hS (fun z7 hz7 hS => zdO (some 40) 6 none (c1 48 39) (ev_cA (f48_ok (d - 1) (dpt hd rfl) a1 z7 hz7)) (zdR 4 10 (zdE (zkBlk (zkNil (endQ hS hQ (fN (f151_out (GPen.mk (bitI .or .i64 a2.Flags z7) a2.Fore a2.Back)))))))))))
  ·refine zL 1 3 (zE (zkSeq (zF (zrSeq (zrReg (zL 1 1 ?_))))))
   refine sB 46 2 (ck 45 22) hS (fun hS => ?_) (fun hS => ?_)
   ·refine zL 1 3 (zE (zkSeq (zT (zrReg (zL 8 8 (zE ?_))))))
    exact zkBlk (zkNil (endQ hS hQ (fN (f151_out (GPen.mk (bitI .andNot .i64 a2.Flags 3) a2.Fore a2.Back)))))
   ·refine zL 1 3 (zE (zkSeq (zF (zrSeq (zrReg (zL 1 1 ?_))))))
    refine sB 56 2 (.cmpI .geq (tm 55) (ki 23)) hS (fun hS => ?_) (fun hS => ?_)
    ·refine zL 2 4 (sH 59 5 57 true (.cmpI .leq (tm 58) (ki 29)) hS (fun hS => ?_) (fun hS => ?_))
     ·refine zL 2 7 (zE (zkSeq (zT ?_)))
      exact zrRegD (zdR 6 6 (bindE hS (fun z8 hz8 hS => zdO (some 67) 7 none (c1 48 66) (ev_cA (f48_ok (d - 1) (dpt hd rfl) (IntKind.i64.wrap (a1 - 20)) z8 hz8)) (zdR 4 11 (zdE (zkBlk (zkNil (endQ hS hQ (fN (f151_out (GPen.mk (bitI .andNot .i64 a2.Flags z8) a2.Fore a2.Back)))))))))))
     ·refine zL 2 7 (zE (zkSeq (zF ?_)))
      exact f151_j4_ok hd a1 a2 hQ  hS (by kernel_rfl)
    ·refine zL 5 7 (zE (zkSeq (zF ?_)))
     exact f151_j4_ok hd a1 a2 hQ  hS (by kernel_rfl)
def f151_j6_J (a1 : Int) (a2 : GPen) : St := ⟨(up (up u0 1 (dI a1)) 0 (pt 0)), (up h0 0 ⟨0, some (.box ((dI a2.Flags) :: ((dI a2.Fore) :: ((dI a2.Back) :: []))))⟩)⟩
def f151_j6 (a1 : Int) (a2 : GPen) : Option (GPen) := (f151_j0 a1 a2 )
theorem f151_j6_ok {d : Nat} (hd : 2 ≤ d) (a1 : Int) (a2 : GPen) {r : GPen} {Q : PQ} (hQ : FQ (f151_Q r) Q)  (hS : f151_j6 a1 a2 = some r) {st : St} (he : keepSt [0, 1] [(0, .id 0)] [] st = f151_j6_J a1 a2) : ZR (lev codes baseL (d - 1)) Q c151_4 [.seq c151_3] st := by
 refine zrKeep he ?_
 unfold f151_j6 at hS
 refine zrReg (zL 5 5 (zE (zkSeq ?_)))
 exact f151_j0_ok hd a1 a2 hQ  hS (by kernel_rfl)
def f151_j7_J (a1 : Int) (a2 : GPen) : St := ⟨(up (up (up (up u0 5 (dI 30)) 4 (.r (.ptr 0 0 1))) 1 (dI a1)) 0 (pt 0)), (up h0 0 ⟨0, some (.box ((dI a2.Flags) :: ((dI a2.Fore) :: ((dI a2.Back) :: []))))⟩)⟩
def f151_j7 (a1 : Int) (a2 : GPen) : Option (GPen) := (f151_j3 a1 a2 )
theorem f151_j7_ok {d : Nat} (hd : 2 ≤ d) (a1 : Int) (a2 : GPen) {r : GPen} {Q : PQ} (hQ : FQ (f151_Q r) Q)  (hS : f151_j7 a1 a2 = some r) {st : St} (he : keepSt [0, 1, 4, 5] [(0, .id 0)] [] st = f151_j7_J a1 a2) : ZR (lev codes baseL (d - 1)) Q c151_5 [.seq c151_3] st := by
 refine zrKeep he ?_
 unfold f151_j7 at hS
 exact zrSkip (zkSeq (f151_j3_ok hd a1 a2 hQ  hS (by kernel_rfl)))
def f151 (a1 : Int) (a2 : GPen) : Option (GPen) := (bif (decide (40 ≤ a1)) then (bif (decide (a1 ≤ 49)) then (f151_j6 a1 a2 ) else (bif (decide (100 ≤ a1)) then (bif (decide (a1 ≤ 107)) then (f151_j6 a1 a2 ) else (f151_j7 a1 a2 )) else (f151_j7 a1 a2 ))) else (bif (decide (100 ≤ a1)) then (bif (decide (a1 ≤ 107)) then (f151_j6 a1 a2 ) else (f151_j7 a1 a2 )) else (f151_j7 a1 a2 )))
theorem f151_ok (d : Nat) (hd : 2 ≤ d) (a1 : Int) (a2 : GPen) (r : GPen) (hS : f151 a1 a2 = some r) : lev codes baseL d 151 [(pt 0), (dI a1)] [(.box ((dI a2.Flags) :: ((dI a2.Fore) :: ((dI a2.Back) :: []))))] = some ((.tup []), [(.box ((dI r.Flags) :: ((dI r.Fore) :: ((dI r.Back) :: []))))]) := by
 refine lev_go codes151 rfl rfl (Nat.le_trans (Nat.le_of_ble_eq_true rfl) hd) fun Q hQ => ?_
 unfold f151 at hS
 show ZR _ Q c151_b [] _
 replace hQ : FQ (f151_Q r) Q := hQ
 refine zrSeq (zrReg (zL 5 5 (zE (zkSeq (zrSeq (zrSeq (zrReg (zL 1 1 ?_))))))))
 refine sB 10 2 (.cmpI .geq (tm 9) (ki 40)) hS (fun hS => ?_) (fun hS => ?_)
 ·refine zL 2 4 (sH 13 5 11 true (.cmpI .leq (tm 12) (ki 49)) hS (fun hS => ?_) (fun hS => ?_))
  ·refine zL 9 14 (zE (zkSeq (zT ?_)))
   exact f151_j6_ok hd a1 a2 hQ  hS (by kernel_rfl)
  ·refine zL 3 8 (sH 17 9 15 false (.cmpI .geq (tm 16) (ki 100)) hS (fun hS => ?_) (fun hS => ?_))
   ·refine zL 2 11 (sH 20 12 18 true (.cmpI .leq (tm 19) (ki 107)) hS (fun hS => ?_) (fun hS => ?_))
    ·refine zL 2 14 (zE (zkSeq (zT ?_)))
     exact f151_j6_ok hd a1 a2 hQ  hS (by kernel_rfl)
    ·refine zL 2 14 (zE (zkSeq (zF ?_)))
     exact f151_j7_ok hd a1 a2 hQ  hS (by kernel_rfl)
   ·refine zL 5 14 (zE (zkSeq (zF ?_)))
    exact f151_j7_ok hd a1 a2 hQ  hS (by kernel_rfl)
 ·refine zL 6 8 (sH 17 9 15 false (.cmpI .geq (tm 16) (ki 100)) hS (fun hS => ?_) (fun hS => ?_))
  ·refine zL 2 11 (sH 20 12 18 true (.cmpI .leq (tm 19) (ki 107)) hS (fun hS => ?_) (fun hS => ?_))
   ·refine zL 2 14 (zE (zkSeq (zT ?_)))
    exact f151_j6_ok hd a1 a2 hQ  hS (by kernel_rfl)
   ·refine zL 2 14 (zE (zkSeq (zF ?_)))
    exact f151_j7_ok hd a1 a2 hQ  hS (by kernel_rfl)
  ·refine zL 5 14 (zE (zkSeq (zF ?_)))
   exact f151_j7_ok hd a1 a2 hQ  hS (by kernel_rfl)
/- farwriter/pen.extended$1 -/
def f165_fin (p2 : Bool) : St := ⟨(up u0 2 (dB p2)), h0⟩
theorem f165_out (p2 : Bool) : outR (f165_fin p2) 0 c165.res = some ((dB p2), []) := by
 kernel_rfl
def f165_Q (r : Bool) (e : PX) (st : St) : Prop := DoneF c165 0 ((dB r), []) e st
def f165 (a1 : Int) : Option (Bool) := (bif (decide (255 < a1)) then (some true) else (some false))
theorem f165_ok (d : Nat) (hd : 1 ≤ d) (a1 : Int) (r : Bool) (hS : f165 a1 = some r) : lev codes baseL d 165 [(dI a1)] [] = some ((dB r), []) := by
 refine lev_go codes165 rfl rfl (Nat.le_trans (Nat.le_of_ble_eq_true rfl) hd) fun Q hQ => ?_
 unfold f165 at hS
 show ZR _ Q c165_b [] _
 replace hQ : FQ (f165_Q r) Q := hQ
 refine zrSeq (zrReg (zL 1 1 (zE (zkSeq (zrSeq (zrReg (zL 1 1 ?_)))))))
 refine sB 4 2 (.cmpI .gtr (tm 3) (ki 255)) hS (fun hS => ?_) (fun hS => ?_)
 ·refine zL 1 3 (zE (zkSeq ?_))
  exact zrRet (zkNil (endQ hS hQ (fR (f165_out true))))
 ·refine zL 1 3 (zE (zkSeq ?_))
  exact zrRet (zkNil (endQ hS hQ (fR (f165_out false))))
/- slices.IndexFunc[[]int,int] -/
def f82v3_fin (p8 : Int) : St := ⟨(up u0 4 (dI p8)), h0⟩
theorem f82v3_out (p8 : Int) : outR (f82v3_fin p8) 0 c82.res = some ((dI p8), []) := by
 kernel_rfl
def f82v3_Q (r : Int) (e : PX) (st : St) : Prop := DoneF c82 0 ((dI r), []) e st
def f82v3_l0_J (a1 : List Int) (x : Int) : St := ⟨(up (up (up (up u0 8 (dI x)) 7 (dI (a1.length : Int))) 1 (.fn 165 [])) 0 (dL a1)), h0⟩
def f82v3_l0_H (a1 : List Int) (x : Int) (st : St) : Prop := keepSt [0, 1, 7, 8] [] [] st = f82v3_l0_J a1 x
def f82v3_l0_e0_J (a1 : List Int) : St := ⟨u0, h0⟩
def f82v3_l0_X (a1 : List Int) (z : Unit ⊕ Int) (e : PX) (st : St) : Prop := (match z with | .inl z => e = .exit 0 ∧ st = f82v3_l0_e0_J a1 | .inr z => e = .ret ∧ finSt c82.fin st = f82v3_fin z)
def f82v3_l0_j2_J (a1 : List Int) (p13 : Int) : St := ⟨(up (up (up (up u0 8 (dI p13)) 7 (dI (a1.length : Int))) 1 (.fn 165 [])) 0 (dL a1)), h0⟩
def f82v3_l0_j2 (a1 : List Int) (p13 : Int) : Option (Int ⊕ (Unit ⊕ Int)) := ((idx a1 p13).bind fun z7 => ((f165 z7).bind fun z8 => (bif z8 then (some (.inr (.inr p13))) else (some (.inl (IntKind.i64.wrap (p13 + 1)))))))
theorem f82v3_l0_j2_ok {d : Nat} (hd : 2 ≤ d) (a1 : List Int) {r : Int ⊕ (Unit ⊕ Int)} {Q : PQ} (hQ : FQ (finL (f82v3_l0_H a1) (f82v3_l0_X a1) r) Q) (p13 : Int) (hS : f82v3_l0_j2 a1 p13 = some r) {st : St} (he : keepSt [0, 1, 7, 8] [] [] st = f82v3_l0_j2_J a1 p13) : ZR (lev codes baseL (d - 1)) Q c82_1 [] st := by
 refine zrKeep he ?_
 unfold f82v3_l0_j2 at hS
 refine zrSeq (zrBlk (zrSeq (zrReg (zL 2 2 (zE (zkSeq (zrSeq (zrReg (zL 3 3 ?_)))))))))
 refine bindE hS (fun z7 hz7 hS => zO (v := (.rptr (eI.enc z7 ++ (eI.cells (a1.drop ((p13 : Int).toNat + 1)))))) (ups := []) (some 14) 4 (.ixS 3 1 (tm 12) (tm 13)) (ev_ixS eI (kk := .i64) (xs := a1) (j := p13) (by kernel_rfl) (by kernel_rfl) hz7 rfl (by intro h; cases h)) (zL 1 5 (bindE hS (fun z8 hz8 hS => zO (v := (dB z8)) (ups := []) (some 16) 6 (.callv (tm 11) [(tm 15)]) (ev_callv (f := 165) (cs := []) (by kernel_rfl) (args := [(dI z7)]) (l := [(dI z7)]) (r := (dB z8)) (by kernel_rfl) (by kernel_rfl) (f165_ok (d - 1) (dpt hd rfl) z7 z8 hz8) (by kernel_rfl) (by kernel_rfl) (by kernel_rfl)) (zE (zkSeq ?_))))))
 refine sR 16 hS (fun hS => ?_) (fun hS => ?_)
 ·refine zT (zrSeq (zrReg (zL 2 2 (zE (zkSeq ?_)))))
  exact zrRet (zkBlkR (zkSeqR (zkNil (eX1 hS hQ))))
 ·refine zF (zrSkip (zkBlk (zkSeq (zrReg (zL 2 2 (zE ?_))))))
  exact zkNil (eN1 hS hQ)
def f82v3_l0_j1_J (a1 : List Int) (p11 : Int) (p12 : Bool) : St := ⟨(up (up (up (up (up u0 9 (dB p12)) 8 (dI p11)) 7 (dI (a1.length : Int))) 1 (.fn 165 [])) 0 (dL a1)), h0⟩
def f82v3_l0_j1 (a1 : List Int) (p11 : Int) (p12 : Bool) : Option (Int ⊕ (Unit ⊕ Int)) := (bif p12 then (f82v3_l0_j2 a1 p11) else (some (.inr (.inl ()))))
theorem f82v3_l0_j1_ok {d : Nat} (hd : 2 ≤ d) (a1 : List Int) {r : Int ⊕ (Unit ⊕ Int)} {Q : PQ} (hQ : FQ (finL (f82v3_l0_H a1) (f82v3_l0_X a1) r) Q) (p11 : Int) (p12 : Bool) (hS : f82v3_l0_j1 a1 p11 p12 = some r) {st : St} (he : keepSt [0, 1, 7, 8, 9] [] [] st = f82v3_l0_j1_J a1 p11 p12) : ZR (lev codes baseL (d - 1)) Q c82_2 [] st := by
 refine zrKeep he ?_
 unfold f82v3_l0_j1 at hS
 refine zrSeq (sR 9 hS (fun hS => ?_) (fun hS => ?_))
 ·exact zT (zrSkip (zkSeq (f82v3_l0_j2_ok hd a1 hQ p11 hS (by kernel_rfl))))
 ·exact zF (zrKeep (J := f82v3_l0_e0_J a1) (by kernel_rfl) (zrExit (zkSeqX (zkNil (eX0 hS hQ)))))
def f82v3_l0 (a1 : List Int) (x : Int) : Option (Int ⊕ (Unit ⊕ Int)) := (bif (decide (x < (a1.length : Int))) then (f82v3_l0_j1 a1 x true) else (f82v3_l0_j1 a1 x false))
theorem f82v3_l0_ok {d : Nat} (hd : 2 ≤ d) (a1 : List Int) {r : Int ⊕ (Unit ⊕ Int)} {Q : PQ} (hQ : FQ (finL (f82v3_l0_H a1) (f82v3_l0_X a1) r) Q) {x : Int} (hS : f82v3_l0 a1 x = some r) {st : St} (he : f82v3_l0_H a1 x st) : ZR (lev codes baseL (d - 1)) Q c82_3 [] st := by
 refine zrKeep he ?_
 unfold f82v3_l0 at hS
 refine zrSeq (zrReg ?_)
 refine sB 9 1 (.cmpI .lss (tm 8) (tm 7)) hS (fun hS => ?_) (fun hS => ?_)
 ·refine zE (zkSeq ?_)
  exact f82v3_l0_j1_ok hd a1 hQ x true hS (by kernel_rfl)
 ·refine zE (zkSeq ?_)
  exact f82v3_l0_j1_ok hd a1 hQ x false hS (by kernel_rfl)
def f82v3 (a1 : List Int) : Option (Int) := ((loopO (f82v3_l0 a1) 0).bind fun z9 => (Sum.elim (fun z10 => (some (-1))) (fun z11 => (some z11)) z9))
theorem f82v3_ok (d : Nat) (hd : 2 ≤ d) (a1 : List Int) (r : Int) (hS : f82v3 a1 = some r) : lev codes baseL d 82 [(dL a1), (.fn 165 [])] [] = some ((dI r), []) := by
 refine lev_go codes82 rfl rfl (Nat.le_trans (Nat.le_of_ble_eq_true rfl) hd) fun Q hQ => ?_
 unfold f82v3 at hS
 show ZR _ Q c82_b [] _
 replace hQ : FQ (f82v3_Q r) Q := hQ
 refine zrSeq (zrReg (zL 1 1 (zE (zkSeq (zrSeq (zrSeq (zrReg (zL 3 3 (zE (zkSeq ?_))))))))))
 refine zrBlk (bindE hS (fun z9 hz9 hS => zrLoop (f82v3_l0_H a1) (f82v3_l0_X a1) (fun x st r Q h0 hS hQ => f82v3_l0_ok hd a1 hQ hS h0) (x := 0) (z := z9) (by show keepSt _ _ _ _ = _; kernel_rfl) hz9 ?_))
 rcases z9 with z10 | z11
 ·replace hS := (show _ = _ from hS)
  simp only [Sum.elim_inl] at hS
  intro e st' _ hX
  obtain ⟨rfl, rfl⟩ : _ ∧ _ := hX
  refine zkBlkX (zkSeq (zrSeq (zrReg (zL 1 1 (zE (zkSeq ?_))))))
  exact zrRet (zkNil (endQ hS hQ (fR (f82v3_out (-1)))))
 ·simp only [Sum.elim_inr] at hS
  intro e st' _ hX
  obtain ⟨rfl, hX⟩ : _ ∧ _ := hX
  exact zkBlkR (zkSeqR (zkNil (endQ hS hQ (fRet (by kernel_rfl) ((congrArg (fun s => outR s 0 c82.res) hX).trans (f82v3_out z11))))))
/- slices.ContainsFunc[[]int,int] -/
def f59v3_fin (p2 : Bool) : St := ⟨(up u0 4 (dB p2)), h0⟩
theorem f59v3_out (p2 : Bool) : outR (f59v3_fin p2) 0 c59.res = some ((dB p2), []) := by
 kernel_rfl
def f59v3_Q (r : Bool) (e : PX) (st : St) : Prop := DoneF c59 0 ((dB r), []) e st
def f59v3 (a1 : List Int) : Option (Bool) := ((f82v3 a1).bind fun z2 => (bif (decide (0 ≤ z2)) then (some true) else (some false)))
theorem f59v3_ok (d : Nat) (hd : 3 ≤ d) (a1 : List Int) (r : Bool) (hS : f59v3 a1 = some r) : lev codes baseL d 59 [(dL a1), (.fn 165 [])] [] = some ((dB r), []) := by
 refine lev_go codes59 rfl rfl (Nat.le_trans (Nat.le_of_ble_eq_true rfl) hd) fun Q hQ => ?_
 unfold f59v3 at hS
 show ZR _ Q c59_b [] _
 replace hQ : FQ (f59v3_Q r) Q := hQ
 refine zrSeq (zrReg (zL 1 1 (zE (zkSeq (zrSeq (zrReg (zL 2 2 ?_)))))))
 refine bindE hS (fun z2 hz2 hS => zO (some 7) 3 (.call 82 [(tm 5), (tm 6)]) (ev_cA (f82v3_ok (d - 1) (dpt hd rfl) a1 z2 hz2)) (sB 8 4 (.cmpI .geq (tm 7) (ki 0)) hS (fun hS => ?_) (fun hS => ?_)))
 ·refine zL 1 5 (zE (zkSeq ?_))
  exact zrRet (zkNil (endQ hS hQ (fR (f59v3_out true))))
 ·refine zL 1 5 (zE (zkSeq ?_))
  exact zrRet (zkNil (endQ hS hQ (fR (f59v3_out false))))
/- farwriter/pen.extended -/
def f152_fin (p5 : Int) (p6 : Int) : St := ⟨(up (up u0 3 (dI p6)) 2 (dI p5)), h0⟩
theorem f152_out (p5 : Int) (p6 : Int) : outR (f152_fin p5 p6) 0 c152.res = some ((.tup [(dI p5), (dI p6)]), []) := by
 kernel_rfl
def f152_Q (r : Int × Int) (e : PX) (st : St) : Prop := DoneF c152 0 ((.tup [(dI r.1), (dI r.2)]), []) e st
def f152_j1_J (a1 : List Int) (p12 : Bool) : St := ⟨(up (up u0 27 (dB p12)) 0 (dL a1)), h0⟩
def f152_j1 (a1 : List Int) (p12 : Bool) : Option (Int × Int) := (bif p12 then ((idx a1 1).bind fun z18 => ((idx a1 2).bind fun z19 => ((idx a1 3).bind fun z20 => (some ((IntKind.i64.wrap ((IntKind.i64.wrap ((IntKind.i64.wrap (16777216 + (IntKind.i64.wrap (z18 * 2 ^ 16)))) + (IntKind.i64.wrap (z19 * 2 ^ 8)))) + z20)), 4))))) else (some (0, 0)))
theorem f152_j1_ok {d : Nat} (hd : 4 ≤ d) (a1 : List Int) {r : Int × Int} {Q : PQ} (hQ : FQ (f152_Q r) Q) (p12 : Bool) (hS : f152_j1 a1 p12 = some r) {st : St} (he : keepSt [0, 27] [] [] st = f152_j1_J a1 p12) : ZR (lev codes baseL (d - 1)) Q c152_1 [.blk 0, .seq c152_2] st := by
 refine zrKeep he ?_
 unfold f152_j1 at hS
 refine sR 27 hS (fun hS => ?_) (fun hS => ?_)
 ·refine zT (zrSeq ?_)
  exact zrRegD (zdR 1 1 (bindE hS (fun z18 hz18 hS => zdO (v := (.rptr (eI.enc z18 ++ (eI.cells (a1.drop ((1 : Int).toNat + 1)))))) (ups := []) (some 45) 2 none (.ixS 3 1 (tm 44) (ki 1)) (ev_ixS eI (kk := .i64) (xs := a1) (j := 1) (by kernel_rfl) (by kernel_rfl) hz18 rfl (by intro h; cases h)) (zdR 4 6 (bindE hS (fun z19 hz19 hS => zdO (v := (.rptr (eI.enc z19 ++ (eI.cells (a1.drop ((2 : Int).toNat + 1)))))) (ups := []) (some 50) 7 none (.ixS 3 1 (tm 49) (ki 2)) (ev_ixS eI (kk := .i64) (xs := a1) (j := 2) (by kernel_rfl) (by kernel_rfl) hz19 rfl (by intro h; cases h)) (zdR 4 11 (bindE hS (fun z20 hz20 hS => zdO (v := (.rptr (eI.enc z20 ++ (eI.cells (a1.drop ((3 : Int).toNat + 1)))))) (ups := []) (some 55) 12 none (.ixS 3 1 (tm 54) (ki 3)) (ev_ixS eI (kk := .i64) (xs := a1) (j := 3) (by kernel_rfl) (by kernel_rfl) hz20 rfl (by intro h; cases h)) (zdR 4 16 (zdE (zkSeq (zrRet (zkBlkR (zkSeqR (zkNil (endQ hS hQ (fR (f152_out (IntKind.i64.wrap ((IntKind.i64.wrap ((IntKind.i64.wrap (16777216 + (IntKind.i64.wrap (z18 * 2 ^ 16)))) + (IntKind.i64.wrap (z19 * 2 ^ 8)))) + z20)) 4)))))))))))))))))))
 ·refine zF (zrSkip (zkBlk (zkSeq (zrSeq (zrReg (zL 2 2 (zE (zkSeq ?_))))))))
  exact zrRet (zkNil (endQ hS hQ (fR (f152_out 0 0))))
def f152_j0_J (a1 : List Int) (p9 : Bool) : St := ⟨(up (up (up u0 5 (dB p9)) 4 (.fn 165 [])) 0 (dL a1)), h0⟩
def f152_j0 (a1 : List Int) (p9 : Bool) : Option (Int × Int) := (bif p9 then ((idx a1 1).bind fun z14 => (some ((IntKind.i64.wrap (z14 + 1)), 2))) else (bif (decide (4 ≤ (a1.length : Int))) then ((idx a1 0).bind fun z21 => (bif (decide (z21 = 2)) then ((sub? a1 1 4).bind fun z22 => ((f59v3 z22).bind fun z23 => (f152_j1 a1 (!z23)))) else (f152_j1 a1 false))) else (f152_j1 a1 false)))
theorem f152_j0_ok {d : Nat} (hd : 4 ≤ d) (a1 : List Int) {r : Int × Int} {Q : PQ} (hQ : FQ (f152_Q r) Q) (p9 : Bool) (hS : f152_j0 a1 p9 = some r) {st : St} (he : keepSt [0, 4, 5] [] [] st = f152_j0_J a1 p9) : ZR (lev codes baseL (d - 1)) Q c152_3 [.blk 0, .seq c152_2] st := by
 refine zrKeep he ?_
 unfold f152_j0 at hS
 refine sR 5 hS (fun hS => ?_) (fun hS => ?_)
 ·refine zT (zrSeq (zrReg (zL 1 1 ?_)))
  refine bindE hS (fun z14 hz14 hS => zO (v := (.rptr (eI.enc z14 ++ (eI.cells (a1.drop ((1 : Int).toNat + 1)))))) (ups := []) (some 24) 2 (.ixS 3 1 (tm 23) (ki 1)) (ev_ixS eI (kk := .i64) (xs := a1) (j := 1) (by kernel_rfl) (by kernel_rfl) hz14 rfl (by intro h; cases h)) (zL 4 6 (zE (zkSeq ?_))))
  exact zrRet (zkBlkR (zkSeqR (zkNil (endQ hS hQ (fR (f152_out (IntKind.i64.wrap (z14 + 1)) 2))))))
 ·refine zF (zrSeq (zrReg (zL 2 2 ?_)))
  refine sB 30 3 (.cmpI .geq (tm 29) (ki 4)) hS (fun hS => ?_) (fun hS => ?_)
  ·refine zL 2 5 (bindE hS (fun z21 hz21 hS => zG (v := (.rptr (eI.enc z21 ++ (eI.cells (a1.drop ((0 : Int).toNat + 1)))))) (ups := []) (some 33) 6 31 true (.ixS 3 1 (tm 32) (ki 0)) (ev_ixS eI (kk := .i64) (xs := a1) (j := 0) (by kernel_rfl) (by kernel_rfl) hz21 rfl (by intro h; cases h)) (zL 1 7 (sH 35 8 31 true (ck 34 2) hS (fun hS => ?_) (fun hS => ?_)))))
   ·refine zL 3 11 (bindE hS (fun z22 hz22 hS => zG (v := (dL z22)) (ups := []) (some 39) 12 37 true (.slS 3 1 (tm 38) (.some (ki 1)) (.some (ki 4))) (ev_slS eI (xs := a1) (a := 1) (c := 4) (by kernel_rfl) rfl (bnd_s _ (kk := .i64) (j := 1) (by kernel_rfl)) (bnd_s _ (kk := .i64) (j := 4) (by kernel_rfl)) hz22) (zL 1 13 (bindE hS (fun z23 hz23 hS => zG (some 41) 14 37 true (.call 59 [(tm 39), (tm 40)]) (ev_cA (f59v3_ok (d - 1) (dpt hd rfl) z22 z23 hz23)) (zL 3 17 (zE (zkSeq ?_))))))))
    exact f152_j1_ok hd a1 hQ (!z23) hS (by kernel_rfl)
   ·refine zL 9 17 (zE (zkSeq ?_))
    exact f152_j1_ok hd a1 hQ false hS (by kernel_rfl)
  ·refine zL 14 17 (zE (zkSeq ?_))
   exact f152_j1_ok hd a1 hQ false hS (by kernel_rfl)
def f152 (a1 : List Int) : Option (Int × Int) := (bif (decide (2 ≤ (a1.length : Int))) then ((idx a1 0).bind fun z24 => (bif (decide (z24 = 5)) then ((idx a1 1).bind fun z25 => ((f165 z25).bind fun z26 => (f152_j0 a1 (!z26)))) else (f152_j0 a1 false))) else (f152_j0 a1 false))
theorem f152_ok (d : Nat) (hd : 4 ≤ d) (a1 : List Int) (r : Int × Int) (hS : f152 a1 = some r) : lev codes baseL d 152 [(dL a1)] [] = some ((.tup [(dI r.1), (dI r.2)]), []) := by
 refine lev_go codes152 rfl rfl (Nat.le_trans (Nat.le_of_ble_eq_true rfl) hd) fun Q hQ => ?_
 unfold f152 at hS
 show ZR _ Q c152_b [] _
 replace hQ : FQ (f152_Q r) Q := hQ
 refine zrSeq (zrReg (zL 2 2 (zE (zkSeq (zrSeq (zrReg (zL 1 1 (zE (zkSeq (zrSeq ?_))))))))))
 refine zrBlk (zrSeq (zrReg (zL 2 2 ?_)))
 refine sB 8 3 (.cmpI .geq (tm 7) (ki 2)) hS (fun hS => ?_) (fun hS => ?_)
 ·refine zL 2 5 (bindE hS (fun z24 hz24 hS => zG (v := (.rptr (eI.enc z24 ++ (eI.cells (a1.drop ((0 : Int).toNat + 1)))))) (ups := []) (some 11) 6 9 true (.ixS 3 1 (tm 10) (ki 0)) (ev_ixS eI (kk := .i64) (xs := a1) (j := 0) (by kernel_rfl) (by kernel_rfl) hz24 rfl (by intro h; cases h)) (zL 1 7 (sH 13 8 9 true (ck 12 5) hS (fun hS => ?_) (fun hS => ?_)))))
  ·refine zL 4 12 (bindE hS (fun z25 hz25 hS => zG (v := (.rptr (eI.enc z25 ++ (eI.cells (a1.drop ((1 : Int).toNat + 1)))))) (ups := []) (some 18) 13 15 true (.ixS 3 1 (tm 17) (ki 1)) (ev_ixS eI (kk := .i64) (xs := a1) (j := 1) (by kernel_rfl) (by kernel_rfl) hz25 rfl (by intro h; cases h)) (zL 1 14 (bindE hS (fun z26 hz26 hS => zG (v := (dB z26)) (ups := []) (some 20) 15 15 true (.callv (tm 16) [(tm 19)]) (ev_callv (f := 165) (cs := []) (by kernel_rfl) (args := [(dI z25)]) (l := [(dI z25)]) (r := (dB z26)) (by kernel_rfl) (by kernel_rfl) (f165_ok (d - 1) (dpt hd rfl) z25 z26 hz26) (by kernel_rfl) (by kernel_rfl) (by kernel_rfl)) (zL 3 18 (zE (zkSeq ?_))))))))
   exact f152_j0_ok hd a1 hQ (!z26) hS (by kernel_rfl)
  ·refine zL 10 18 (zE (zkSeq ?_))
   exact f152_j0_ok hd a1 hQ false hS (by kernel_rfl)
 ·refine zL 15 18 (zE (zkSeq ?_))
  exact f152_j0_ok hd a1 hQ false hS (by kernel_rfl)
/- farwriter/pen.Sgr -/
def f132_fin (p113 : GPen) (p114 : Int) : St := ⟨(up (up u0 5 (dI p114)) 4 (pt 40)), (up h0 40 ⟨0, some (.box ((dI p113.Flags) :: ((dI p113.Fore) :: ((dI p113.Back) :: []))))⟩)⟩
theorem f132_out (p113 : GPen) (p114 : Int) : outR (f132_fin p113 p114) 0 c132.res = some ((.tup [(.agg ((dI p113.Flags) :: ((dI p113.Fore) :: ((dI p113.Back) :: [])))), (dI p114)]), []) := by
 kernel_rfl
def f132_Q (r : GPen × Int) (e : PX) (st : St) : Prop := DoneF c132 0 ((.tup [(.agg ((dI r.1.Flags) :: ((dI r.1.Fore) :: ((dI r.1.Back) :: [])))), (dI r.2)]), []) e st
def f132_l4_J (a1 : GPen) (a2 : List Int) (x : GPen × (List Int) × Int) : St := ⟨(up (up (up (up u0 10 (dI x.2.2)) 7 (.r (.msl 64 0 0 x.2.1.length))) 4 (pt 40)) 2 (pt 24)), (up (up (up h0 64 ⟨0, some (.own 3 1 (eI.cells x.2.1))⟩) 40 ⟨0, some (.box ((dI 0) :: ((dI 0) :: ((dI 0) :: []))))⟩) 24 ⟨0, some (.box ((dI x.1.Flags) :: ((dI x.1.Fore) :: ((dI x.1.Back) :: []))))⟩)⟩
def f132_l4_H (a1 : GPen) (a2 : List Int) (x : GPen × (List Int) × Int) (st : St) : Prop := keepSt [2, 4, 7, 10] [(24, .id 24), (40, .id 40), (64, .id 64)] [] st = f132_l4_J a1 a2 x
def f132_l4_e2_J (a1 : GPen) (a2 : List Int) (p215 : GPen) : St := ⟨(up (up u0 4 (pt 40)) 2 (pt 24)), (up (up h0 40 ⟨0, some (.box ((dI 0) :: ((dI 0) :: ((dI 0) :: []))))⟩) 24 ⟨0, some (.box ((dI p215.Flags) :: ((dI p215.Fore) :: ((dI p215.Back) :: []))))⟩)⟩
def f132_l4_X (a1 : GPen) (a2 : List Int) (z : GPen) (e : PX) (st : St) : Prop := e = .exit 2 ∧ st = f132_l4_e2_J a1 a2 z
def f132_l4_j7_J (a1 : GPen) (a2 : List Int) (p243 : GPen) (p244 : List Int) (p245 : Int) (p246 : Int) (p247 : Int) : St := ⟨(up (up (up (up (up (up u0 12 (dI p247)) 11 (dI p246)) 10 (dI p245)) 7 (.r (.msl 64 0 0 p244.length))) 4 (pt 40)) 2 (pt 24)), (up (up (up h0 64 ⟨0, some (.own 3 1 (eI.cells p244))⟩) 40 ⟨0, some (.box ((dI 0) :: ((dI 0) :: ((dI 0) :: []))))⟩) 24 ⟨0, some (.box ((dI p243.Flags) :: ((dI p243.Fore) :: ((dI p243.Back) :: []))))⟩)⟩
def f132_l4_j7 (a1 : GPen) (a2 : List Int) (p243 : GPen) (p244 : List Int) (p245 : Int) (p246 : Int) (p247 : Int) : Option ((GPen × (List Int) × Int) ⊕ GPen) := ((inR p245 p244.length).bind fun m95 => ((p244[m95]?).bind fun z96 => (bif (decide (z96 = 38)) then (some (.inl ((GPen.mk p243.Flags p246 p243.Back), p244, (IntKind.i64.wrap ((IntKind.i64.wrap (p245 + p247)) + 1))))) else (some (.inl ((GPen.mk p243.Flags p243.Fore p246), p244, (IntKind.i64.wrap ((IntKind.i64.wrap (p245 + p247)) + 1))))))))
theorem f132_l4_j7_ok {d : Nat} (hd : 5 ≤ d) (a1 : GPen) (a2 : List Int) {r : (GPen × (List Int) × Int) ⊕ GPen} {Q : PQ} (hQ : FQ (finL (f132_l4_H a1 a2) (f132_l4_X a1 a2) r) Q) (p243 : GPen) (p244 : List Int) (p245 : Int) (p246 : Int) (p247 : Int) (hS : f132_l4_j7 a1 a2 p243 p244 p245 p246 p247 = some r) {st : St} (he : keepSt [2, 4, 7, 10, 11, 12] [(24, .id 24), (40, .id 40), (64, .id 64)] [] st = f132_l4_j7_J a1 a2 p243 p244 p245 p246 p247) : ZR (lev codes baseL (d - 1)) Q c132_1 [.blk 3, .seq c132_2] st := by
 refine zrKeep he ?_
 unfold f132_l4_j7 at hS
 refine zrSeq (zrSeq (zrReg (zL 2 2 ?_)))
 refine bindE hS (fun m95 hm95 hS => zO (v := (.r (.ptr 64 0 ((0 + m95) * 1)))) (ups := []) (some 78) 3 (.ixS 3 1 (tm 76) (tm 77)) (ev_ixM (kk := .i64) (b := 64) (g := 0) (l := 0) (n := p244.length) (j := p245) (cs := eI.cells p244) (by kernel_rfl) (by kernel_rfl) (by kernel_rfl) hm95) (bindE hS (fun z96 hz96 hS => zO (v := (dI z96)) (ups := []) (some 79) 4 (lf 1 78) (ev_loadM eI (b := 64) (g := 0) (o := (0 + m95) * 1) (e := 3) (k := 1) (m := m95) (fo := 0) (xs := p244) (by kernel_rfl) (by kernel_rfl) (by rw [Nat.zero_add]; rfl) hz96 (by kernel_rfl) (by kernel_rfl) (by kernel_rfl)) (sB 80 5 (ck 79 38) hS (fun hS => ?_) (fun hS => ?_)))))
 ·refine zE (zkSeq (zT (zrReg (zL 3 3 (zE (zkSeq (zrReg (zL 4 4 (zE ?_)))))))))
  refine zkBlk (zkSeq (zrReg (zL 3 3 (zE ?_))))
  exact zkNil (eN1 hS hQ)
 ·refine zE (zkSeq (zF (zrReg (zL 3 3 (zE (zkSeq (zrReg (zL 4 4 (zE ?_)))))))))
  refine zkBlk (zkSeq (zrReg (zL 3 3 (zE ?_))))
  exact zkNil (eN1 hS hQ)
def f132_l4_j6_J (a1 : GPen) (a2 : List Int) (p234 : GPen) (p235 : List Int) (p236 : Int) : St := ⟨(up (up (up (up u0 10 (dI p236)) 7 (.r (.msl 64 0 0 p235.length))) 4 (pt 40)) 2 (pt 24)), (up (up (up h0 64 ⟨0, some (.own 3 1 (eI.cells p235))⟩) 40 ⟨0, some (.box ((dI 0) :: ((dI 0) :: ((dI 0) :: []))))⟩) 24 ⟨0, some (.box ((dI p234.Flags) :: ((dI p234.Fore) :: ((dI p234.Back) :: []))))⟩)⟩
def f132_l4_j6 (a1 : GPen) (a2 : List Int) (p234 : GPen) (p235 : List Int) (p236 : Int) : Option ((GPen × (List Int) × Int) ⊕ GPen) := ((chk (decide (0 ≤ (IntKind.i64.wrap (p236 + 1))) && decide ((IntKind.i64.wrap (p236 + 1)) ≤ (p235.length : Int)) && decide ((p235.length : Int) ≤ (p235.length : Int)))).bind fun z90 => ((part? p235 (((IntKind.i64.wrap (p236 + 1)) : Int).toNat) (((p235.length : Int) : Int).toNat - ((IntKind.i64.wrap (p236 + 1)) : Int).toNat)).bind fun z91 => ((f152 z91).bind fun z92 => (bif (decide (z92.2 = 0)) then (some (.inr p234)) else (f132_l4_j7 a1 a2 p234 p235 p236 z92.1 z92.2)))))
theorem f132_l4_j6_ok {d : Nat} (hd : 5 ≤ d) (a1 : GPen) (a2 : List Int) {r : (GPen × (List Int) × Int) ⊕ GPen} {Q : PQ} (hQ : FQ (finL (f132_l4_H a1 a2) (f132_l4_X a1 a2) r) Q) (p234 : GPen) (p235 : List Int) (p236 : Int) (hS : f132_l4_j6 a1 a2 p234 p235 p236 = some r) {st : St} (he : keepSt [2, 4, 7, 10] [(24, .id 24), (40, .id 40), (64, .id 64)] [] st = f132_l4_j6_J a1 a2 p234 p235 p236) : ZR (lev codes baseL (d - 1)) Q c132_3 [.blk 3, .seq c132_2] st := by
 refine zrKeep he ?_
 unfold f132_l4_j6 at hS
 refine zrSeq (zrReg (zL 3 3 ?_))
 refine bindE hS (fun z90 hz90 hS => zO (v := (.r (.msl 64 0 (((IntKind.i64.wrap (p236 + 1)) : Int).toNat) (((p235.length : Int) : Int).toNat - ((IntKind.i64.wrap (p236 + 1)) : Int).toNat)))) (ups := []) (some 70) 4 (.slS 3 1 (tm 67) (.some (tm 69)) .none) (ev_slM (b := 64) (g := 0) (e := 3) (a := (IntKind.i64.wrap (p236 + 1))) (c := (p235.length : Int)) (l := 0) (n := p235.length) (l' := (((IntKind.i64.wrap (p236 + 1)) : Int).toNat)) (n' := (((p235.length : Int) : Int).toNat - ((IntKind.i64.wrap (p236 + 1)) : Int).toNat)) (cs := eI.cells p235) (by kernel_rfl) (by kernel_rfl) (bnd_s _ (kk := .i64) (j := (IntKind.i64.wrap (p236 + 1))) (by kernel_rfl)) (bnd_n _) hz90 (by simp) rfl) (bindE hS (fun z91 hz91 hS => bindE hS (fun z92 hz92 hS => zO (some 71) 5 (c1 152 70) (ev_callB (args := [(.r (.msl 64 0 (((IntKind.i64.wrap (p236 + 1)) : Int).toNat) (((p235.length : Int) : Int).toNat - ((IntKind.i64.wrap (p236 + 1)) : Int).toNat)))]) (by kernel_rfl) (l_cons (l_part eI (e := 3) (k := 1) (xs := p235) (by kernel_rfl) rfl hz91) l_nil) (f152_ok (d - 1) (dpt hd rfl) z91 z92 hz92) (by kernel_rfl) (by kernel_rfl)) (zL 5 10 (zE (zkSeq (zrSeq (zrSeq (zrReg (zL 1 1 ?_)))))))))))
 refine sB 75 2 (ck 74 0) hS (fun hS => ?_) (fun hS => ?_)
 ·refine zE (zkSeq (zT ?_))
  exact zrKeep (J := f132_l4_e2_J a1 a2 p234) (by kernel_rfl) (zrExit (zkSeqX (zkBlkY rfl (zkSeqX (zkNil (eX0 hS hQ))))))
 ·refine zE (zkSeq (zF ?_))
  exact zrSkip (zkSeq (f132_l4_j7_ok hd a1 a2 hQ p234 p235 p236 z92.1 z92.2 hS (by kernel_rfl)))
def f132_l4_j8_J (a1 : GPen) (a2 : List Int) (p251 : GPen) (p252 : List Int) (p253 : Int) : St := ⟨(up (up (up (up u0 10 (dI p253)) 7 (.r (.msl 64 0 0 p252.length))) 4 (pt 40)) 2 (pt 24)), (up (up (up h0 64 ⟨0, some (.own 3 1 (eI.cells p252))⟩) 40 ⟨0, some (.box ((dI 0) :: ((dI 0) :: ((dI 0) :: []))))⟩) 24 ⟨0, some (.box ((dI p251.Flags) :: ((dI p251.Fore) :: ((dI p251.Back) :: []))))⟩)⟩
def f132_l4_j8 (a1 : GPen) (a2 : List Int) (p251 : GPen) (p252 : List Int) (p253 : Int) : Option ((GPen × (List Int) × Int) ⊕ GPen) := (f132_l4_j6 a1 a2 p251 p252 p253)
theorem f132_l4_j8_ok {d : Nat} (hd : 5 ≤ d) (a1 : GPen) (a2 : List Int) {r : (GPen × (List Int) × Int) ⊕ GPen} {Q : PQ} (hQ : FQ (finL (f132_l4_H a1 a2) (f132_l4_X a1 a2) r) Q) (p251 : GPen) (p252 : List Int) (p253 : Int) (hS : f132_l4_j8 a1 a2 p251 p252 p253 = some r) {st : St} (he : keepSt [2, 4, 7, 10] [(24, .id 24), (40, .id 40), (64, .id 64)] [] st = f132_l4_j8_J a1 a2 p251 p252 p253) : ZR (lev codes baseL (d - 1)) Q c132_4 [.seq c132_3, .blk 3, .seq c132_2] st := by
 refine zrKeep he ?_
 unfold f132_l4_j8 at hS
 exact zrSkip (zkSeq (f132_l4_j6_ok hd a1 a2 hQ p251 p252 p253 hS (by kernel_rfl)))
def f132_l4_j5_J (a1 : GPen) (a2 : List Int) (p220 : GPen) (p221 : List Int) (p222 : Int) : St := ⟨(up (up (up (up u0 10 (dI p222)) 7 (.r (.msl 64 0 0 p221.length))) 4 (pt 40)) 2 (pt 24)), (up (up (up h0 64 ⟨0, some (.own 3 1 (eI.cells p221))⟩) 40 ⟨0, some (.box ((dI 0) :: ((dI 0) :: ((dI 0) :: []))))⟩) 24 ⟨0, some (.box ((dI p220.Flags) :: ((dI p220.Fore) :: ((dI p220.Back) :: []))))⟩)⟩
def f132_l4_j5 (a1 : GPen) (a2 : List Int) (p220 : GPen) (p221 : List Int) (p222 : Int) : Option ((GPen × (List Int) × Int) ⊕ GPen) := ((inR p222 p221.length).bind fun m101 => ((p221[m101]?).bind fun z102 => (bif (!decide (z102 = 38)) then ((inR p222 p221.length).bind fun m103 => ((p221[m103]?).bind fun z104 => (bif (!decide (z104 = 48)) then ((inR p222 p221.length).bind fun m105 => ((p221[m105]?).bind fun z106 => ((f151 z106 p220).bind fun z107 => (some (.inl (z107, p221, (IntKind.i64.wrap (p222 + 1)))))))) else (f132_l4_j8 a1 a2 p220 p221 p222)))) else (f132_l4_j8 a1 a2 p220 p221 p222))))
theorem f132_l4_j5_ok {d : Nat} (hd : 5 ≤ d) (a1 : GPen) (a2 : List Int) {r : (GPen × (List Int) × Int) ⊕ GPen} {Q : PQ} (hQ : FQ (finL (f132_l4_H a1 a2) (f132_l4_X a1 a2) r) Q) (p220 : GPen) (p221 : List Int) (p222 : Int) (hS : f132_l4_j5 a1 a2 p220 p221 p222 = some r) {st : St} (he : keepSt [2, 4, 7, 10] [(24, .id 24), (40, .id 40), (64, .id 64)] [] st = f132_l4_j5_J a1 a2 p220 p221 p222) : ZR (lev codes baseL (d - 1)) Q c132_5 [] st := by
 refine zrKeep he ?_
 unfold f132_l4_j5 at hS
 refine zrSeq (zrBlk (zrSeq (zrSeq (zrReg (zL 2 2 ?_)))))
 refine bindE hS (fun m101 hm101 hS => zO (v := (.r (.ptr 64 0 ((0 + m101) * 1)))) (ups := []) (some 51) 3 (.ixS 3 1 (tm 49) (tm 50)) (ev_ixM (kk := .i64) (b := 64) (g := 0) (l := 0) (n := p221.length) (j := p222) (cs := eI.cells p221) (by kernel_rfl) (by kernel_rfl) (by kernel_rfl) hm101) (bindE hS (fun z102 hz102 hS => zO (v := (dI z102)) (ups := []) (some 52) 4 (lf 1 51) (ev_loadM eI (b := 64) (g := 0) (o := (0 + m101) * 1) (e := 3) (k := 1) (m := m101) (fo := 0) (xs := p221) (by kernel_rfl) (by kernel_rfl) (by rw [Nat.zero_add]; rfl) hz102 (by kernel_rfl) (by kernel_rfl) (by kernel_rfl)) (sB 53 5 (.cmpI .neq (tm 52) (ki 38)) hS (fun hS => ?_) (fun hS => ?_)))))
 ·refine zL 3 8 (bindE hS (fun m103 hm103 hS => zG (v := (.r (.ptr 64 0 ((0 + m103) * 1)))) (ups := []) (some 57) 9 54 true (.ixS 3 1 (tm 55) (tm 56)) (ev_ixM (kk := .i64) (b := 64) (g := 0) (l := 0) (n := p221.length) (j := p222) (cs := eI.cells p221) (by kernel_rfl) (by kernel_rfl) (by kernel_rfl) hm103) (bindE hS (fun z104 hz104 hS => zG (v := (dI z104)) (ups := []) (some 58) 10 54 true (lf 1 57) (ev_loadM eI (b := 64) (g := 0) (o := (0 + m103) * 1) (e := 3) (k := 1) (m := m103) (fo := 0) (xs := p221) (by kernel_rfl) (by kernel_rfl) (by rw [Nat.zero_add]; rfl) hz104 (by kernel_rfl) (by kernel_rfl) (by kernel_rfl)) (sH 59 11 54 true (.cmpI .neq (tm 58) (ki 48)) hS (fun hS => ?_) (fun hS => ?_))))))
  ·refine zL 1 12 (zE (zkSeq (zT (zrSeq (zrReg (zL 2 2 ?_))))))
   refine bindE hS (fun m105 hm105 hS => zO (v := (.r (.ptr 64 0 ((0 + m105) * 1)))) (ups := []) (some 63) 3 (.ixS 3 1 (tm 61) (tm 62)) (ev_ixM (kk := .i64) (b := 64) (g := 0) (l := 0) (n := p221.length) (j := p222) (cs := eI.cells p221) (by kernel_rfl) (by kernel_rfl) (by kernel_rfl) hm105) (bindE hS (fun z106 hz106 hS => zO (v := (dI z106)) (ups := []) (some 64) 4 (lf 1 63) (ev_loadM eI (b := 64) (g := 0) (o := (0 + m105) * 1) (e := 3) (k := 1) (m := m105) (fo := 0) (xs := p221) (by kernel_rfl) (by kernel_rfl) (by rw [Nat.zero_add]; rfl) hz106 (by kernel_rfl) (by kernel_rfl) (by kernel_rfl)) (bindE hS (fun z107 hz107 hS => zO (some 65) 5 (.callr 151 [(tm 2), (tm 64)]) (ev_cR [24] (f151_ok (d - 1) (dpt hd rfl) z106 p220 z107 hz107)) (zE (zkSeq ?_)))))))
   refine zrExit (zkSeqX (zkBlkX (zkSeq (zrReg (zL 3 3 (zE ?_))))))
   exact zkNil (eN1 hS hQ)
  ·refine zL 1 12 (zE (zkSeq (zF ?_)))
   exact f132_l4_j8_ok hd a1 a2 hQ p220 p221 p222 hS (by kernel_rfl)
 ·refine zL 7 12 (zE (zkSeq (zF ?_)))
  exact f132_l4_j8_ok hd a1 a2 hQ p220 p221 p222 hS (by kernel_rfl)
def f132_l4 (a1 : GPen) (a2 : List Int) (x : GPen × (List Int) × Int) : Option ((GPen × (List Int) × Int) ⊕ GPen) := (bif (decide (x.2.2 < (x.2.1.length : Int))) then (f132_l4_j5 a1 a2 x.1 x.2.1 x.2.2) else (some (.inr x.1)))
theorem f132_l4_ok {d : Nat} (hd : 5 ≤ d) (a1 : GPen) (a2 : List Int) {r : (GPen × (List Int) × Int) ⊕ GPen} {Q : PQ} (hQ : FQ (finL (f132_l4_H a1 a2) (f132_l4_X a1 a2) r) Q) {x : GPen × (List Int) × Int} (hS : f132_l4 a1 a2 x = some r) {st : St} (he : f132_l4_H a1 a2 x st) : ZR (lev codes baseL (d - 1)) Q c132_6 [] st := by
 refine zrKeep he ?_
 unfold f132_l4 at hS
 refine zrSeq (zrSeq (zrReg (zL 3 3 ?_)))
 refine sB 46 4 (.cmpI .lss (tm 43) (tm 45)) hS (fun hS => ?_) (fun hS => ?_)
 ·refine zE (zkSeq (zT ?_))
  exact zrSkip (zkSeq (f132_l4_j5_ok hd a1 a2 hQ x.1 x.2.1 x.2.2 hS (by kernel_rfl)))
 ·refine zE (zkSeq (zF ?_))
  exact zrKeep (J := f132_l4_e2_J a1 a2 x.1) (by kernel_rfl) (zrExit (zkSeqX (zkNil (eX0 hS hQ))))
def f132_j3_J (a1 : GPen) (a2 : List Int) (p119 : List Int) : St := ⟨(up (up (up u0 7 (.r (.msl 64 0 0 p119.length))) 4 (pt 40)) 2 (pt 24)), (up (up (up h0 64 ⟨0, some (.own 3 1 (eI.cells p119))⟩) 40 ⟨0, some (.box ((dI 0) :: ((dI 0) :: ((dI 0) :: []))))⟩) 24 ⟨0, some (.box ((dI a1.Flags) :: ((dI a1.Fore) :: ((dI a1.Back) :: []))))⟩)⟩
def f132_j3 (a1 : GPen) (a2 : List Int) (p119 : List Int) : Option (GPen × Int) := ((loopO (f132_l4 a1 a2) (a1, p119, 0)).bind fun z108 => (some (z108, 0)))
theorem f132_j3_ok {d : Nat} (hd : 5 ≤ d) (a1 : GPen) (a2 : List Int) {r : GPen × Int} {Q : PQ} (hQ : FQ (f132_Q r) Q) (p119 : List Int) (hS : f132_j3 a1 a2 p119 = some r) {st : St} (he : keepSt [2, 4, 7] [(24, .id 24), (40, .id 40), (64, .id 64)] [] st = f132_j3_J a1 a2 p119) : ZR (lev codes baseL (d - 1)) Q c132_7 [] st := by
 refine zrKeep he ?_
 unfold f132_j3 at hS
 refine zrSeq (zrSeq (zrReg (zL 1 1 (zE (zkSeq ?_)))))
 refine zrBlk (bindE hS (fun z108 hz108 hS => zrLoop (f132_l4_H a1 a2) (f132_l4_X a1 a2) (fun x st r Q h0 hS hQ => f132_l4_ok hd a1 a2 hQ hS h0) (x := (a1, p119, 0)) (z := z108) (by show keepSt _ _ _ _ = _; kernel_rfl) hz108 ?_))
 intro e st' _ hX
 obtain ⟨rfl, rfl⟩ : _ ∧ _ := hX
 refine zkBlkX (zkSeq (zrSeq (zrReg (zL 3 3 (zE (zkSeq ?_))))))
 exact zrRet (zkNil (endQ hS hQ (fR (f132_out z108 0))))
def f132_l9_J (a1 : GPen) (a2 : List Int) (x : (List Int) × Int) : St := ⟨(up (up (up (up (up (up u0 33 (dI x.2)) 32 (dI (a2.length : Int))) 31 (dL a2)) 7 (.r (.msl 64 0 0 x.1.length))) 4 (pt 40)) 2 (pt 24)), (up (up (up h0 64 ⟨0, some (.own 3 1 (eI.cells x.1))⟩) 40 ⟨0, some (.box ((dI 0) :: ((dI 0) :: ((dI 0) :: []))))⟩) 24 ⟨0, some (.box ((dI a1.Flags) :: ((dI a1.Fore) :: ((dI a1.Back) :: []))))⟩)⟩
def f132_l9_H (a1 : GPen) (a2 : List Int) (x : (List Int) × Int) (st : St) : Prop := keepSt [2, 4, 7, 31, 32, 33] [(24, .id 24), (40, .id 40), (64, .id 64)] [] st = f132_l9_J a1 a2 x
def f132_l9_e0_J (a1 : GPen) (a2 : List Int) (p16 : List Int) : St := ⟨(up (up (up u0 7 (.r (.msl 64 0 0 p16.length))) 4 (pt 40)) 2 (pt 24)), (up (up (up h0 64 ⟨0, some (.own 3 1 (eI.cells p16))⟩) 40 ⟨0, some (.box ((dI 0) :: ((dI 0) :: ((dI 0) :: []))))⟩) 24 ⟨0, some (.box ((dI a1.Flags) :: ((dI a1.Fore) :: ((dI a1.Back) :: []))))⟩)⟩
def f132_l9_X (a1 : GPen) (a2 : List Int) (z : ((List Int))) (e : PX) (st : St) : Prop := e = .exit 0 ∧ st = f132_l9_e0_J a1 a2 z
def f132_l9_j11_J (a1 : GPen) (a2 : List Int) (p260 : List Int) (p261 : Int) : St := ⟨(up (up (up (up (up (up u0 33 (dI p261)) 32 (dI (a2.length : Int))) 31 (dL a2)) 7 (.r (.msl 64 0 0 p260.length))) 4 (pt 40)) 2 (pt 24)), (up (up (up h0 64 ⟨0, some (.own 3 1 (eI.cells p260))⟩) 40 ⟨0, some (.box ((dI 0) :: ((dI 0) :: ((dI 0) :: []))))⟩) 24 ⟨0, some (.box ((dI a1.Flags) :: ((dI a1.Fore) :: ((dI a1.Back) :: []))))⟩)⟩
def f132_l9_j11 (a1 : GPen) (a2 : List Int) (p260 : List Int) (p261 : Int) : Option (((List Int) × Int) ⊕ (((List Int)))) := ((idx a2 p261).bind fun z109 => ((app? 8 p260 ([(if 0 > z109 then 0 else z109)] : List Int)).bind fun z110 => (some (.inl (z110, (IntKind.i64.wrap (p261 + 1)))))))
theorem f132_l9_j11_ok {d : Nat} (hd : 5 ≤ d) (a1 : GPen) (a2 : List Int) {r : ((List Int) × Int) ⊕ (((List Int)))} {Q : PQ} (hQ : FQ (finL (f132_l9_H a1 a2) (f132_l9_X a1 a2) r) Q) (p260 : List Int) (p261 : Int) (hS : f132_l9_j11 a1 a2 p260 p261 = some r) {st : St} (he : keepSt [2, 4, 7, 31, 32, 33] [(24, .id 24), (40, .id 40), (64, .id 64)] [] st = f132_l9_j11_J a1 a2 p260 p261) : ZR (lev codes baseL (d - 1)) Q c132_8 [] st := by
 refine zrKeep he ?_
 unfold f132_l9_j11 at hS
 refine zrSeq (zrBlk (zrSeq (zrReg ?_)))
 refine bindE hS (fun z109 hz109 hS => zO (v := (.rptr (eI.enc z109 ++ (eI.cells (a2.drop ((p261 : Int).toNat + 1)))))) (ups := []) (some 35) 1 (.ixS 3 1 (tm 31) (tm 33)) (ev_ixS eI (kk := .i64) (xs := a2) (j := p261) (by kernel_rfl) (by kernel_rfl) hz109 rfl (by intro h; cases h)) (zL 2 3 (zE (zkSeq (zrReg (zL 4 4 ?_))))))
 refine bindE hS (fun z110 hz110 hS => zO (v := (.r (.msl 64 1 0 z110.length))) (ups := [(64, ⟨1, some (.own 3 1 (eI.cells z110))⟩)]) (some 41) 5 (.app 3 1 8 (tm 37) (tm 40)) (ev_app eI (b := 64) (g := 0) (n := p260.length) (xs := p260) (ys := [(if 0 > z109 then 0 else z109)]) ((congrArg (asL _) (by kernel_rfl : ρof _ (.tmp 40) = (.r (.msl 328 1 0 (([(if 0 > z109 then 0 else z109)] : List Int).length))))).trans (as_whole eI (e := 3) (k := 1) (xs := [(if 0 > z109 then 0 else z109)]) (by kernel_rfl) rfl rfl)) rfl (by kernel_rfl) rfl (by kernel_rfl) rfl hz110) (zL 1 6 (zE ?_)))
 refine zkBlk (zkSeq (zrReg (zL 2 2 (zE ?_))))
 exact zkNil (eN1 hS hQ)
def f132_l9_j10_J (a1 : GPen) (a2 : List Int) (p257 : List Int) (p258 : Int) (p259 : Bool) : St := ⟨(up (up (up (up (up (up (up u0 34 (dB p259)) 33 (dI p258)) 32 (dI (a2.length : Int))) 31 (dL a2)) 7 (.r (.msl 64 0 0 p257.length))) 4 (pt 40)) 2 (pt 24)), (up (up (up h0 64 ⟨0, some (.own 3 1 (eI.cells p257))⟩) 40 ⟨0, some (.box ((dI 0) :: ((dI 0) :: ((dI 0) :: []))))⟩) 24 ⟨0, some (.box ((dI a1.Flags) :: ((dI a1.Fore) :: ((dI a1.Back) :: []))))⟩)⟩
def f132_l9_j10 (a1 : GPen) (a2 : List Int) (p257 : List Int) (p258 : Int) (p259 : Bool) : Option (((List Int) × Int) ⊕ (((List Int)))) := (bif p259 then (f132_l9_j11 a1 a2 p257 p258) else (some (.inr p257)))
theorem f132_l9_j10_ok {d : Nat} (hd : 5 ≤ d) (a1 : GPen) (a2 : List Int) {r : ((List Int) × Int) ⊕ (((List Int)))} {Q : PQ} (hQ : FQ (finL (f132_l9_H a1 a2) (f132_l9_X a1 a2) r) Q) (p257 : List Int) (p258 : Int) (p259 : Bool) (hS : f132_l9_j10 a1 a2 p257 p258 p259 = some r) {st : St} (he : keepSt [2, 4, 7, 31, 32, 33, 34] [(24, .id 24), (40, .id 40), (64, .id 64)] [] st = f132_l9_j10_J a1 a2 p257 p258 p259) : ZR (lev codes baseL (d - 1)) Q c132_9 [] st := by
 refine zrKeep he ?_
 unfold f132_l9_j10 at hS
 refine zrSeq (sR 34 hS (fun hS => ?_) (fun hS => ?_))
 ·exact zT (zrSkip (zkSeq (f132_l9_j11_ok hd a1 a2 hQ p257 p258 hS (by kernel_rfl))))
 ·exact zF (zrKeep (J := f132_l9_e0_J a1 a2 p257) (by kernel_rfl) (zrExit (zkSeqX (zkNil (eX0 hS hQ)))))
def f132_l9 (a1 : GPen) (a2 : List Int) (x : (List Int) × Int) : Option (((List Int) × Int) ⊕ (((List Int)))) := (bif (decide (x.2 < (a2.length : Int))) then (f132_l9_j10 a1 a2 x.1 x.2 true) else (f132_l9_j10 a1 a2 x.1 x.2 false))
theorem f132_l9_ok {d : Nat} (hd : 5 ≤ d) (a1 : GPen) (a2 : List Int) {r : ((List Int) × Int) ⊕ (((List Int)))} {Q : PQ} (hQ : FQ (finL (f132_l9_H a1 a2) (f132_l9_X a1 a2) r) Q) {x : (List Int) × Int} (hS : f132_l9 a1 a2 x = some r) {st : St} (he : f132_l9_H a1 a2 x st) : ZR (lev codes baseL (d - 1)) Q c132_10 [] st := by
 refine zrKeep he ?_
 unfold f132_l9 at hS
 refine zrSeq (zrReg ?_)
 refine sB 34 1 (.cmpI .lss (tm 33) (tm 32)) hS (fun hS => ?_) (fun hS => ?_)
 ·refine zE (zkSeq ?_)
  exact f132_l9_j10_ok hd a1 a2 hQ x.1 x.2 true hS (by kernel_rfl)
 ·refine zE (zkSeq ?_)
  exact f132_l9_j10_ok hd a1 a2 hQ x.1 x.2 false hS (by kernel_rfl)
def f132_j2_J (a1 : GPen) (a2 : List Int) : St := ⟨(up (up (up u0 4 (pt 40)) 2 (pt 24)) 1 (dL a2)), (up (up h0 40 ⟨0, some (.box ((dI 0) :: ((dI 0) :: ((dI 0) :: []))))⟩) 24 ⟨0, some (.box ((dI a1.Flags) :: ((dI a1.Fore) :: ((dI a1.Back) :: []))))⟩)⟩
def f132_j2 (a1 : GPen) (a2 : List Int) : Option (GPen × Int) := ((loopO (f132_l9 a1 a2) ([], 0)).bind fun z111 => (f132_j3 a1 a2 z111))
theorem f132_j2_ok {d : Nat} (hd : 5 ≤ d) (a1 : GPen) (a2 : List Int) {r : GPen × Int} {Q : PQ} (hQ : FQ (f132_Q r) Q)  (hS : f132_j2 a1 a2 = some r) {st : St} (he : keepSt [1, 2, 4] [(24, .id 24), (40, .id 40)] [] st = f132_j2_J a1 a2) : ZR (lev codes baseL (d - 1)) Q c132_11 [] st := by
 refine zrKeep he ?_
 unfold f132_j2 at hS
 refine zrSeq (zrReg (zL 1 1 (zE (zkSeq (zrSeq (zrSeq (zrReg (zL 3 3 (zE (zkSeq ?_))))))))))
 refine zrBlk (bindE hS (fun z111 hz111 hS => zrLoop (f132_l9_H a1 a2) (f132_l9_X a1 a2) (fun x st r Q h0 hS hQ => f132_l9_ok hd a1 a2 hQ hS h0) (x := ([], 0)) (z := z111) (by show keepSt _ _ _ _ = _; kernel_rfl) hz111 ?_))
 intro e st' _ hX
 obtain ⟨rfl, rfl⟩ : _ ∧ _ := hX
 exact zkBlkX (zkSeq (f132_j3_ok hd a1 a2 hQ z111 hS (by kernel_rfl)))
def f132_j1_J (a1 : GPen) (a2 : List Int) : St := ⟨(up (up (up u0 4 (pt 40)) 2 (pt 24)) 1 (dL a2)), (up (up h0 40 ⟨0, some (.box ((dI 0) :: ((dI 0) :: ((dI 0) :: []))))⟩) 24 ⟨0, some (.box ((dI a1.Flags) :: ((dI a1.Fore) :: ((dI a1.Back) :: []))))⟩)⟩
def f132_j1 (a1 : GPen) (a2 : List Int) : Option (GPen × Int) := (bif (decide (32 < (a2.length : Int))) then (some (a1, 2)) else (f132_j2 a1 a2 ))
theorem f132_j1_ok {d : Nat} (hd : 5 ≤ d) (a1 : GPen) (a2 : List Int) {r : GPen × Int} {Q : PQ} (hQ : FQ (f132_Q r) Q)  (hS : f132_j1 a1 a2 = some r) {st : St} (he : keepSt [1, 2, 4] [(24, .id 24), (40, .id 40)] [] st = f132_j1_J a1 a2) : ZR (lev codes baseL (d - 1)) Q c132_12 [] st := by
 refine zrKeep he ?_
 unfold f132_j1 at hS
 refine zrSeq (zrSeq (zrReg (zL 2 2 ?_)))
 refine sB 29 3 (.cmpI .gtr (tm 28) (ki 32)) hS (fun hS => ?_) (fun hS => ?_)
 ·refine zE (zkSeq (zT (zrSeq (zrReg (zL 3 3 (zE (zkSeq ?_)))))))
  exact zrRet (zkSeqR (zkNil (endQ hS hQ (fR (f132_out a1 2)))))
 ·refine zE (zkSeq (zF ?_))
  exact zrSkip (zkSeq (f132_j2_ok hd a1 a2 hQ  hS (by kernel_rfl)))
def f132_j0_J (a1 : GPen) (a2 : List Int) : St := ⟨(up (up (up u0 4 (pt 40)) 2 (pt 24)) 1 (dL a2)), (up (up h0 40 ⟨0, some (.box ((dI 0) :: ((dI 0) :: ((dI 0) :: []))))⟩) 24 ⟨0, some (.box ((dI a1.Flags) :: ((dI a1.Fore) :: ((dI a1.Back) :: []))))⟩)⟩
def f132_j0 (a1 : GPen) (a2 : List Int) : Option (GPen × Int) := (bif (decide ((a2.length : Int) = 0)) then (some (a1, 1)) else ((f59v2 a2).bind fun z112 => (bif z112 then (some (a1, 1)) else (f132_j1 a1 a2 ))))
theorem f132_j0_ok {d : Nat} (hd : 5 ≤ d) (a1 : GPen) (a2 : List Int) {r : GPen × Int} {Q : PQ} (hQ : FQ (f132_Q r) Q)  (hS : f132_j0 a1 a2 = some r) {st : St} (he : keepSt [1, 2, 4] [(24, .id 24), (40, .id 40)] [] st = f132_j0_J a1 a2) : ZR (lev codes baseL (d - 1)) Q c132_13 [] st := by
 refine zrKeep he ?_
 unfold f132_j0 at hS
 refine zrSeq (zrSeq (zrReg (zL 2 2 ?_)))
 refine sB 21 3 (ck 20 0) hS (fun hS => ?_) (fun hS => ?_)
 ·refine zL 4 7 (zE (zkSeq (zT (zrSeq (zrReg (zL 3 3 (zE (zkSeq ?_))))))))
  exact zrRet (zkSeqR (zkNil (endQ hS hQ (fR (f132_out a1 1)))))
 ·refine zL 2 5 (bindE hS (fun z112 hz112 hS => zG (some 24) 6 22 false (.call 59 [(tm 23), (.func 150)]) (ev_cA (f59v2_ok (d - 1) (dpt hd rfl) a2 z112 hz112)) (zL 1 7 (zE (zkSeq ?_)))))
  refine sR 25 hS (fun hS => ?_) (fun hS => ?_)
  ·refine zT (zrSeq (zrReg (zL 3 3 (zE (zkSeq ?_)))))
   exact zrRet (zkSeqR (zkNil (endQ hS hQ (fR (f132_out a1 1)))))
  ·exact zF (zrSkip (zkSeq (f132_j1_ok hd a1 a2 hQ  hS (by kernel_rfl))))
def f132 (a1 : GPen) (a2 : List Int) : Option (GPen × Int) := ((f21 a1).bind fun z113 => (bif (!decide (z113 = 0)) then (some (a1, z113)) else (f132_j0 a1 a2 )))
theorem f132_ok (d : Nat) (hd : 5 ≤ d) (a1 : GPen) (a2 : List Int) (r : GPen × Int) (hS : f132 a1 a2 = some r) : lev codes baseL d 132 [(.agg ((dI a1.Flags) :: ((dI a1.Fore) :: ((dI a1.Back) :: [])))), (dL a2)] [] = some ((.tup [(.agg ((dI r.1.Flags) :: ((dI r.1.Fore) :: ((dI r.1.Back) :: [])))), (dI r.2)]), []) := by
 refine lev_go codes132 rfl rfl (Nat.le_trans (Nat.le_of_ble_eq_true rfl) hd) fun Q hQ => ?_
 unfold f132 at hS
 show ZR _ Q c132_b [] _
 replace hQ : FQ (f132_Q r) Q := hQ
 refine zrSeq (zrReg (zL 3 3 (zE (zkSeq (zrSeq (zrSeq (zrReg (zL 1 1 ?_))))))))
 refine bindE hS (fun z113 hz113 hS => zO (some 14) 2 (c1 21 13) (ev_cA (f21_ok (d - 1) (dpt hd rfl) a1 z113 hz113)) (zL 1 3 (zE (zkSeq (zrSeq (zrReg (zL 1 1 ?_)))))))
 refine sB 16 2 (.cmpI .neq (tm 15) (ki 0)) hS (fun hS => ?_) (fun hS => ?_)
 ·refine zE (zkSeq (zT (zrSeq (zrReg (zL 4 4 (zE (zkSeq ?_)))))))
  exact zrRet (zkSeqR (zkNil (endQ hS hQ (fR (f132_out a1 z113)))))
 ·refine zE (zkSeq (zF ?_))
  exact zrSkip (zkSeq (f132_j0_ok hd a1 a2 hQ  hS (by kernel_rfl)))
/- (*farwriter/screen.terminal).other -/
def f102_fin (p7 : Gterminal) : St := ⟨(up (up (up u0 1000003 .un) 1000002 .un) 1000001 .un), (up (up (up (up h0 3 ⟨1, some (go2_Gterminal p7)⟩) 2 ⟨1, some (go1_Gterminal p7)⟩) 1 ⟨1, some (go0_Gterminal p7)⟩) 0 ⟨0, some (.box (bm_Gterminal p7 1 1 2 1 3 1))⟩)⟩
theorem f102_out (p7 : Gterminal) : outR (f102_fin p7) 4 c102.res = some ((.tup []), (gb_Gterminal p7 1 2 3)) := by
 kernel_rfl
def f102_Q (r : Gterminal) (e : PX) (st : St) : Prop := DoneF c102 4 ((.tup []), (gb_Gterminal r 1 2 3)) e st
def f102_j0_J (a1 : GAct) (a2 : Int) (a3 : Int) (a4 : Gterminal) (p10 : Bool) : St := ⟨(up (up (up (up (up (up (up (up (up u0 1000003 .un) 1000002 .un) 1000001 .un) 45 (dB p10)) 14 (dI a1.Code)) 5 (pt 48)) 3 (dI a3)) 2 (dI a2)) 0 (pt 0)), (up (up (up (up (up h0 48 ⟨0, some (.box (bx_GAct a1 (dL a1.Args)))⟩) 3 ⟨1, some (go2_Gterminal a4)⟩) 2 ⟨1, some (go1_Gterminal a4)⟩) 1 ⟨1, some (go0_Gterminal a4)⟩) 0 ⟨0, some (.box (bm_Gterminal a4 1 1 2 1 3 1))⟩)⟩
def f102_j0 (a1 : GAct) (a2 : Int) (a3 : Int) (a4 : Gterminal) (p10 : Bool) : Option (Gterminal) := (bif p10 then none else (bif (decide (a1.Code = 109)) then ((f132 a4.Screen.Pen a1.Args).bind fun z2 => (bif (decide (z2.2 = 0)) then (some (Gterminal.mk ({ a4.Screen with Pen := z2.1 }) a4.sent)) else (some a4))) else none))
theorem f102_j0_ok {d : Nat} (hd : 6 ≤ d) (a1 : GAct) (a2 : Int) (a3 : Int) (a4 : Gterminal) {r : Gterminal} {Q : PQ} (hQ : FQ (f102_Q r) Q) (p10 : Bool) (hS : f102_j0 a1 a2 a3 a4 p10 = some r) {st : St} (he : keepSt [0, 2, 3, 5, 14, 45, 1000001, 1000002, 1000003] [(0, .id 0), (1, .id 1), (2, .id 2), (3, .id 3), (48, .id 48)] [] st = f102_j0_J a1 a2 a3 a4 p10) : ZR (lev codes baseL (d - 1)) Q c102_1 [.blk 0] st := by
 refine zrKeep he ?_
 unfold f102_j0 at hS
 refine sR 45 hS (fun hS => ?_) (fun hS => ?_)
 ·refine zT (zrSeq (zrReg ?_))
  cases hS
 ·refine zF (zrSeq (zrReg ?_))
  refine sB 72 1 (ck 14 109) hS (fun hS => ?_) (fun hS => ?_)
  ·refine zL 1 2 (zE (zkSeq (zT (zrSeq ?_))))
   refine zrRegD (zdR 7 7 (bindE hS (fun z2 hz2 hS => zdO (some 81) 8 none (.call 132 [(tm 78), (tm 80)]) (ev_cA (f132_ok (d - 1) (dpt hd rfl) a4.Screen.Pen a1.Args z2 hz2)) (zdR 6 14 (zdE (zkSeq (zrSeq (zrReg (zL 1 1 ?_)))))))))
   refine sB 85 2 (ck 84 0) hS (fun hS => ?_) (fun hS => ?_)
   ·refine zE (zkSeq (zT (zrReg (zL 6 6 (zE ?_)))))
    exact zkBlk (zkNil (endQ hS hQ (fN (f102_out (Gterminal.mk ({ a4.Screen with Pen := z2.1 }) a4.sent)))))
   ·refine zE (zkSeq (zF ?_))
    exact zrSkip (zkBlk (zkNil (endQ hS hQ (fN (f102_out a4)))))
  ·refine zL 1 2 (zE (zkSeq (zF (zrSeq (zrReg ?_)))))
   cases hS
def f102 (a1 : GAct) (a2 : Int) (a3 : Int) (a4 : Gterminal) : Option (Gterminal) := (bif (decide (a1.Code = 103)) then none else (bif (decide (a1.Code = 104)) then (f102_j0 a1 a2 a3 a4 true) else (bif (decide (a1.Code = 108)) then (f102_j0 a1 a2 a3 a4 true) else (f102_j0 a1 a2 a3 a4 false))))
theorem f102_ok (d : Nat) (hd : 6 ≤ d) (a1 : GAct) (a2 : Int) (a3 : Int) (a4 : Gterminal) (r : Gterminal) (hS : f102 a1 a2 a3 a4 = some r) : lev codes baseL d 102 [(pt 0), (.agg ((dI a1.Kind) :: ((dI a1.Code) :: ((dI a1.Mark) :: ((.d (.str a1.Inter)) :: ((dL a1.Args) :: ((.d (.str a1.Text)) :: []))))))), (dI a2), (dI a3)] (gb_Gterminal a4 1 2 3) = some ((.tup []), (gb_Gterminal r 1 2 3)) := by
 refine lev_go codes102 rfl rfl (Nat.le_trans (Nat.le_of_ble_eq_true rfl) hd) fun Q hQ => ?_
 unfold f102 at hS
 show ZR _ Q c102_b [] _
 replace hQ : FQ (f102_Q r) Q := hQ
 refine zrSeq (zrReg (zL 1 1 (zE (zkSeq (zrSeq (zrReg (zL 2 2 (zE (zkSeq ?_)))))))))
 refine zrBlk (zrSeq (zrReg ?_))
 refine sB 16 1 (ck 14 103) hS (fun hS => ?_) (fun hS => ?_)
 ·refine zL 1 2 (zE (zkSeq (zT (zrSeq (zrReg ?_)))))
  cases hS
 ·refine zL 1 2 (zE (zkSeq (zF (zrSeq (zrSeq (zrReg ?_))))))
  refine sB 46 1 (ck 14 104) hS (fun hS => ?_) (fun hS => ?_)
  ·refine zL 1 2 (zE (zkSeq (zT ?_)))
   exact zrSkip (zkSeq (f102_j0_ok hd a1 a2 a3 a4 hQ true hS (by kernel_rfl)))
  ·refine zL 1 2 (zE (zkSeq (zF (zrReg ?_))))
   refine sB 47 1 (ck 14 108) hS (fun hS => ?_) (fun hS => ?_)
   ·refine zL 1 2 (zE (zkSeq ?_))
    exact f102_j0_ok hd a1 a2 a3 a4 hQ true hS (by kernel_rfl)
   ·refine zL 1 2 (zE (zkSeq ?_))
    exact f102_j0_ok hd a1 a2 a3 a4 hQ false hS (by kernel_rfl)
/- (*farwriter/screen.terminal).sequence -/
def f66_fin (p8 : Gterminal) : St := ⟨(up (up (up u0 1000003 .un) 1000002 .un) 1000001 .un), (up (up (up (up h0 3 ⟨1, some (go2_Gterminal p8)⟩) 2 ⟨1, some (go1_Gterminal p8)⟩) 1 ⟨1, some (go0_Gterminal p8)⟩) 0 ⟨0, some (.box (bm_Gterminal p8 1 1 2 1 3 1))⟩)⟩
theorem f66_out (p8 : Gterminal) : outR (f66_fin p8) 4 c66.res = some ((.tup []), (gb_Gterminal p8 1 2 3)) := by
 kernel_rfl
def f66_Q (r : Gterminal) (e : PX) (st : St) : Prop := DoneF c66 4 ((.tup []), (gb_Gterminal r 1 2 3)) e st
def f66 (a1 : GAct) (a2 : Gterminal) : Option (Gterminal) := ((f98 a1.Args 0).bind fun z9 => ((f99 a1.Args 0 0).bind fun z10 => (bif (decide (a1.Mark = 0)) then ((f100 a1 z9 a2).bind fun z16 => ((chk (decide (z16.1.Screen.Past.length = a2.Screen.Past.length))).bind fun z17 => ((chk (decide (z16.1.Screen.Other.Cells.length = a2.Screen.Other.Cells.length))).bind fun z18 => ((chk (decide (z16.1.Screen.Grid.Cells.length = a2.Screen.Grid.Cells.length))).bind fun z19 => (bif (!z16.2) then ((f101 a1.Code z9 z10 z16.1).bind fun z20 => ((f102 a1 z9 z10 z20).bind fun z21 => (some z21))) else (some z16.1)))))) else none)))
theorem f66_ok (d : Nat) (hd : 7 ≤ d) (a1 : GAct) (a2 : Gterminal) (r : Gterminal) (hS : f66 a1 a2 = some r) : lev codes baseL d 66 [(pt 0), (.agg ((dI a1.Kind) :: ((dI a1.Code) :: ((dI a1.Mark) :: ((.d (.str a1.Inter)) :: ((dL a1.Args) :: ((.d (.str a1.Text)) :: [])))))))] (gb_Gterminal a2 1 2 3) = some ((.tup []), (gb_Gterminal r 1 2 3)) := by
 refine lev_go codes66 rfl rfl (Nat.le_trans (Nat.le_of_ble_eq_true rfl) hd) fun Q hQ => ?_
 unfold f66 at hS
 show ZR _ Q c66_b [] _
 replace hQ : FQ (f66_Q r) Q := hQ
 refine zrSeq (zrReg (zL 1 1 (zE (zkSeq (zrSeq ?_)))))
 refine zrRegD (zdR 2 2 (bindE hS (fun z9 hz9 hS => zdO (some 10) 3 none (.call 98 [(tm 9), (ki 0)]) (ev_cA (f98_ok (d - 1) (dpt hd rfl) a1.Args 0 z9 hz9)) (zdR 2 5 (bindE hS (fun z10 hz10 hS => zdO (some 13) 6 none (.call 99 [(tm 12), (ki 0), (ki 0)]) (ev_cA (f99_ok (d - 1) (dpt hd rfl) a1.Args 0 0 z10 hz10)) (zdR 2 8 (zdE (zkSeq (zrBlk (zrSeq (zrReg (zL 2 2 ?_)))))))))))))
 refine sB 17 3 (ck 16 0) hS (fun hS => ?_) (fun hS => ?_)
 ·refine zL 1 4 (zE (zkSeq (zT (zrSeq (zrReg (zL 3 3 ?_))))))
  refine bindE hS (fun z16 hz16 hS => bindE hS (fun z17 hz17 hS => bindE hS (fun z18 hz18 hS => bindE hS (fun z19 hz19 hS => zO (some 21) 4 (.callr 100 [(tm 18), (tm 19), (tm 20)]) (ev_cX [0, 1, 2, 3] (gb_Gterminal a2 1 2 3) (f100_ok (d - 1) (dpt hd rfl) a1 z9 a2 z16 hz16) (sm_box (cs := (bm_Gterminal a2 1 0 2 0 3 0)) (by kernel_rfl) (sm_own e_GCell (e1 := 49) (k1 := 4) (xs := a2.Screen.Grid.Cells) (ys := z16.1.Screen.Grid.Cells) (by kernel_rfl) hz19 (sm_own e_GCell (e1 := 49) (k1 := 4) (xs := a2.Screen.Other.Cells) (ys := z16.1.Screen.Other.Cells) (by kernel_rfl) hz18 (sm_own e_GLine (e1 := 95) (k1 := 1) (xs := a2.Screen.Past) (ys := z16.1.Screen.Past) (by kernel_rfl) hz17 sm_nil))))) ?_))))
  have lz17 : a2.Screen.Past.length = z16.1.Screen.Past.length := (of_decide_eq_true (chk_t hz17)).symm
  skip
  try delta bm_Gterminal
  try delta bm_GScreen
  try rw [lz17]
  have lz18 : a2.Screen.Other.Cells.length = z16.1.Screen.Other.Cells.length := (of_decide_eq_true (chk_t hz18)).symm
  skip
  try delta bm_Gterminal
  try delta bm_GScreen
  try rw [lz18]
  have lz19 : a2.Screen.Grid.Cells.length = z16.1.Screen.Grid.Cells.length := (of_decide_eq_true (chk_t hz19)).symm
  skip
  try delta bm_Gterminal
  try delta bm_GScreen
  try rw [lz19]
  refine zL 2 6 (sL 23 hS (fun hS => ?_) (fun hS => ?_))
  ·refine zL 5 11 (bindE hS (fun z20 hz20 hS => zG (some 29) 12 23 true (.callr 101 [(tm 24), (tm 26), (tm 27), (tm 28)]) (ev_cR [0, 1, 2, 3] (f101_ok (d - 1) (dpt hd rfl) a1.Code z9 z10 z16.1 z20 hz20)) (zL 2 14 (zE (zkSeq (zT (zrReg (zL 4 4 ?_))))))))
   exact bindE hS (fun z21 hz21 hS => zO (some 36) 5 (.callr 102 [(tm 32), (tm 33), (tm 34), (tm 35)]) (ev_cR [0, 1, 2, 3] (f102_ok (d - 1) (dpt hd rfl) a1 z9 z10 z20 z21 hz21)) (zE (zkBlk (zkNil (endQ hS hQ (fN (f66_out z21)))))))
  ·refine zL 8 14 (zE (zkSeq (zF ?_)))
   exact zrSkip (zkBlk (zkNil (endQ hS hQ (fN (f66_out z16.1)))))
 ·refine zL 1 4 (zE (zkSeq (zF (zrSeq (zrReg (zL 1 1 ?_))))))
  cases hS
/- (*farwriter/screen.terminal).act -/
def f35_fin (p9 : Gterminal) : St := ⟨(up (up (up u0 1000003 .un) 1000002 .un) 1000001 .un), (up (up (up (up h0 3 ⟨1, some (go2_Gterminal p9)⟩) 2 ⟨1, some (go1_Gterminal p9)⟩) 1 ⟨1, some (go0_Gterminal p9)⟩) 0 ⟨0, some (.box (bm_Gterminal p9 1 1 2 1 3 1))⟩)⟩
theorem f35_out (p9 : Gterminal) : outR (f35_fin p9) 4 c35.res = some ((.tup []), (gb_Gterminal p9 1 2 3)) := by
 kernel_rfl
def f35_Q (r : Gterminal) (e : PX) (st : St) : Prop := DoneF c35 4 ((.tup []), (gb_Gterminal r 1 2 3)) e st
def f35_j0_J (a1 : GAct) (a2 : Gterminal) : St := ⟨(up (up (up (up (up u0 1000003 .un) 1000002 .un) 1000001 .un) 3 (pt 32)) 0 (pt 0)), (up (up (up (up (up h0 32 ⟨0, some (.box (bx_GAct a1 (dL a1.Args)))⟩) 3 ⟨1, some (go2_Gterminal a2)⟩) 2 ⟨1, some (go1_Gterminal a2)⟩) 1 ⟨1, some (go0_Gterminal a2)⟩) 0 ⟨0, some (.box (bm_Gterminal a2 1 1 2 1 3 1))⟩)⟩
def f35_j0 (a1 : GAct) (a2 : Gterminal) : Option (Gterminal) := (bif (decide (a1.Kind = 3)) then none else (bif (decide (a1.Kind = 5)) then none else (bif (decide (a1.Kind = 4)) then (bif (decide (a1.Inter = ([] : List UInt8))) then ((f66 a1 a2).bind fun z4 => (some z4)) else (some a2)) else (some a2))))
theorem f35_j0_ok {d : Nat} (hd : 8 ≤ d) (a1 : GAct) (a2 : Gterminal) {r : Gterminal} {Q : PQ} (hQ : FQ (f35_Q r) Q)  (hS : f35_j0 a1 a2 = some r) {st : St} (he : keepSt [0, 3, 1000001, 1000002, 1000003] [(0, .id 0), (1, .id 1), (2, .id 2), (3, .id 3), (32, .id 32)] [] st = f35_j0_J a1 a2) : ZR (lev codes baseL (d - 1)) Q c35_1 [.blk 0] st := by
 refine zrKeep he ?_
 unfold f35_j0 at hS
 refine zrSeq (zrReg (zL 2 2 ?_))
 refine sB 36 3 (ck 35 3) hS (fun hS => ?_) (fun hS => ?_)
 ·refine zL 1 4 (zE (zkSeq (zT (zrReg ?_))))
  cases hS
 ·refine zL 1 4 (zE (zkSeq (zF (zrSeq (zrReg (zL 2 2 ?_))))))
  refine sB 46 3 (ck 45 5) hS (fun hS => ?_) (fun hS => ?_)
  ·refine zL 1 4 (zE (zkSeq (zT (zrSeq (zrReg (zL 1 1 ?_))))))
   cases hS
  ·refine zL 1 4 (zE (zkSeq (zF (zrSeq (zrReg (zL 2 2 ?_))))))
   refine sB 65 3 (ck 64 4) hS (fun hS => ?_) (fun hS => ?_)
   ·refine zL 3 6 (sH 69 7 66 true (.strO .eql (tm 68) (.const (.string ⟨#[]⟩))) hS (fun hS => ?_) (fun hS => ?_))
    ·refine zL 2 9 (zE (zkSeq (zT (zrReg (zL 2 2 ?_)))))
     exact bindE hS (fun z4 hz4 hS => zO (some 73) 3 (.callr 66 [(tm 71), (tm 72)]) (ev_cR [0, 1, 2, 3] (f66_ok (d - 1) (dpt hd rfl) a1 a2 z4 hz4)) (zE (zkBlk (zkNil (endQ hS hQ (fN (f35_out z4)))))))
    ·refine zL 2 9 (zE (zkSeq (zF ?_)))
     exact zrSkip (zkBlk (zkNil (endQ hS hQ (fN (f35_out a2)))))
   ·refine zL 6 9 (zE (zkSeq (zF ?_)))
    exact zrSkip (zkBlk (zkNil (endQ hS hQ (fN (f35_out a2)))))
def f35 (a1 : GAct) (a2 : Gterminal) : Option (Gterminal) := (bif (decide (a1.Kind = 1)) then ((f61 a1.Code a2).bind fun z3 => (some z3)) else (bif (decide (a1.Kind = 2)) then none else (bif (decide (a1.Kind = 3)) then (bif (decide (a1.Inter = ([] : List UInt8))) then none else (f35_j0 a1 a2 )) else (f35_j0 a1 a2 ))))
theorem f35_ok (d : Nat) (hd : 8 ≤ d) (a1 : GAct) (a2 : Gterminal) (r : Gterminal) (hS : f35 a1 a2 = some r) : lev codes baseL d 35 [(pt 0), (.agg ((dI a1.Kind) :: ((dI a1.Code) :: ((dI a1.Mark) :: ((.d (.str a1.Inter)) :: ((dL a1.Args) :: ((.d (.str a1.Text)) :: [])))))))] (gb_Gterminal a2 1 2 3) = some ((.tup []), (gb_Gterminal r 1 2 3)) := by
 refine lev_go codes35 rfl rfl (Nat.le_trans (Nat.le_of_ble_eq_true rfl) hd) fun Q hQ => ?_
 unfold f35 at hS
 show ZR _ Q c35_b [] _
 replace hQ : FQ (f35_Q r) Q := hQ
 refine zrSeq (zrReg (zL 1 1 (zE (zkSeq ?_))))
 refine zrBlk (zrSeq (zrReg (zL 2 2 ?_)))
 refine sB 7 3 (ck 6 1) hS (fun hS => ?_) (fun hS => ?_)
 ·refine zL 1 4 (zE (zkSeq (zT (zrReg (zL 3 3 ?_)))))
  exact bindE hS (fun z3 hz3 hS => zO (some 11) 4 (.callr 61 [(tm 8), (tm 10)]) (ev_cR [0, 1, 2, 3] (f61_ok (d - 1) (dpt hd rfl) a1.Code a2 z3 hz3)) (zE (zkBlk (zkNil (endQ hS hQ (fN (f35_out z3)))))))
 ·refine zL 1 4 (zE (zkSeq (zF (zrSeq (zrReg (zL 2 2 ?_))))))
  refine sB 15 3 (ck 14 2) hS (fun hS => ?_) (fun hS => ?_)
  ·refine zL 1 4 (zE (zkSeq (zT (zrReg ?_))))
   cases hS
  ·refine zL 1 4 (zE (zkSeq (zF (zrSeq (zrReg (zL 2 2 ?_))))))
   refine sB 23 3 (ck 22 3) hS (fun hS => ?_) (fun hS => ?_)
   ·refine zL 3 6 (sH 27 7 24 true (.strO .eql (tm 26) (.const (.string ⟨#[]⟩))) hS (fun hS => ?_) (fun hS => ?_))
    ·refine zL 2 9 (zE (zkSeq (zT (zrReg ?_))))
     cases hS
    ·refine zL 2 9 (zE (zkSeq (zF ?_)))
     exact f35_j0_ok hd a1 a2 hQ  hS (by kernel_rfl)
   ·refine zL 6 9 (zE (zkSeq (zF ?_)))
    exact f35_j0_ok hd a1 a2 hQ  hS (by kernel_rfl)
end
end Go.Proofs.YtbokpgemkkebnaaGreatDoor.Pm
