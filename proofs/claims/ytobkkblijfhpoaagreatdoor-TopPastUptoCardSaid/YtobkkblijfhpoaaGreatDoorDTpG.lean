/- Typed functions, and that the codes are these. Printed by dec.py. -/
import Derived.Test.YtobkkblijfhpoaaGreatDoorDTpF
namespace Go.Proofs.YtobkkblijfhpoaaGreatDoor.Pm
noncomputable section
set_option maxRecDepth 1000000
set_option maxHeartbeats 20000000
set_option linter.unusedVariables false
set_option linter.unusedSimpArgs false
variable {d : Nat} {Q : PQ} {st : St}
/- farwriter/parse.Feed -/
def f160_fin (p40 : GParser) (p41 : List GAct) : St := ⟨(up (up (up u0 6 (dI 0)) 5 (.r (.msl 338 0 0 p41.length))) 4 (pt 40)), (up (up h0 338 ⟨0, some (.own 81 6 (e_GAct.cells p41))⟩) 40 ⟨0, some (.box (q16_ p40))⟩)⟩
theorem f160_out (p40 : GParser) (p41 : List GAct) : outR (f160_fin p40 p41) 0 c160.res = some ((.tup [(.agg (q16_ p40)), (.r (.own 0 81 6 p41.length (e_GAct.cells p41))), (dI 0)]), []) := by
 exact out_of (ids := []) (ids' := [338]) (l := [(.agg (q16_ p40)), (.r (.msl 338 0 0 p41.length)), (dI 0)]) (by kernel_rfl) (by kernel_rfl) (o_tup (o_cons rfl (o_cons (o_own e_GAct (e := 81) (k := 6) (xs := p41) (by kernel_rfl) rfl rfl rfl rfl) (o_cons rfl o_nil))))
def f160_Q (r : GParser × (List GAct)) (e : PX) (st : St) : Prop := DoneF c160 0 ((.tup [(.agg (q16_ r.1)), (.r (.own 0 81 6 r.2.length (e_GAct.cells r.2))), (dI 0)]), []) e st
def f160_j1_J (a1 : GParser) (a2 : List Int) (p81 : Int) (p82 : Int) (p83 : S8) (p84 : S8) (p85 : S8) (p86 : List GAct) : St := ⟨(up (up u0 8 (pt 160)) 4 (pt 40)), (up (up (up h0 339 ⟨0, some (.own 81 6 (e_GAct.cells p86))⟩) 160 ⟨0, some (.box ((dI p81) :: ((dI p82) :: ((.d (.str p83)) :: ((.d (.str p84)) :: ((.d (.str p85)) :: ((.r (.msl 339 0 0 p86.length)) :: [])))))))⟩) 40 q25_)⟩
def f160_j1 (a1 : GParser) (a2 : List Int) (p81 : Int) (p82 : Int) (p83 : S8) (p84 : S8) (p85 : S8) (p86 : List GAct) : Option (GParser × (List GAct)) := (some ((GParser.mk p81 p82 p83 p84 p85), p86))
theorem f160_j1_ok (hd : 4 ≤ d) (a1 : GParser) (a2 : List Int) {r : GParser × (List GAct)} (hQ : FQ (f160_Q r) Q) (p81 : Int) (p82 : Int) (p83 : S8) (p84 : S8) (p85 : S8) (p86 : List GAct) (hS : f160_j1 a1 a2 p81 p82 p83 p84 p85 p86 = some r) (he : keepSt [4, 8] [(40, .id 40), (160, .id 160), (339, .id 339)] [] st = f160_j1_J a1 a2 p81 p82 p83 p84 p85 p86) : ZX d Q c160_1 [] st := by
 refine zrKeep he ?_
 unfold f160_j1 at hS
 exact zrSeq (zrRegD (zdR 11 11 (zdE (zkSeq (zrRet (zkNil (endQ hS hQ (fR (f160_out (GParser.mk p81 p82 p83 p84 p85) p86)))))))))
def f160_l2_J (a1 : GParser) (a2 : List Int) (x : Int × Int × S8 × S8 × S8 × (List GAct) × Int) : St := ⟨(up (up (up (up (up u0 22 (dI x.2.2.2.2.2.2)) 21 (dI (a2.length : Int))) 20 (dL a2)) 8 (pt 160)) 4 (pt 40)), (up (up (up h0 339 ⟨0, some (.own 81 6 (e_GAct.cells x.2.2.2.2.2.1))⟩) 160 ⟨0, some (.box ((dI x.1) :: ((dI x.2.1) :: ((.d (.str x.2.2.1)) :: ((.d (.str x.2.2.2.1)) :: ((.d (.str x.2.2.2.2.1)) :: ((.r (.msl 339 0 0 x.2.2.2.2.2.1.length)) :: [])))))))⟩) 40 q25_)⟩
def f160_l2_H (a1 : GParser) (a2 : List Int) (x : Int × Int × S8 × S8 × S8 × (List GAct) × Int) (st : St) : Prop := keepSt [4, 8, 20, 21, 22] [(40, .id 40), (160, .id 160), (339, (.cell 160 5))] [.cell 160 5 339 81 6] st = f160_l2_J a1 a2 x
def f160_l2_e0_J (a1 : GParser) (a2 : List Int) (p75 : Int) (p76 : Int) (p77 : S8) (p78 : S8) (p79 : S8) (p80 : List GAct) : St := ⟨(up (up u0 8 (pt 160)) 4 (pt 40)), (up (up (up h0 339 ⟨0, some (.own 81 6 (e_GAct.cells p80))⟩) 160 ⟨0, some (.box ((dI p75) :: ((dI p76) :: ((.d (.str p77)) :: ((.d (.str p78)) :: ((.d (.str p79)) :: ((.r (.msl 339 0 0 p80.length)) :: [])))))))⟩) 40 q25_)⟩
def f160_l2_X (a1 : GParser) (a2 : List Int) (z : (Int × Int × S8 × S8 × S8 × (List GAct))) (e : PX) (st : St) : Prop := e = .exit 0 ∧ st = f160_l2_e0_J a1 a2 z.1 z.2.1 z.2.2.1 z.2.2.2.1 z.2.2.2.2.1 z.2.2.2.2.2
def f160_l2_j4_J (a1 : GParser) (a2 : List Int) (p103 : Int) (p104 : Int) (p105 : S8) (p106 : S8) (p107 : S8) (p108 : List GAct) (p109 : Int) : St := ⟨(up (up (up (up (up u0 22 (dI p109)) 21 (dI (a2.length : Int))) 20 (dL a2)) 8 (pt 160)) 4 (pt 40)), (up (up (up h0 339 ⟨0, some (.own 81 6 (e_GAct.cells p108))⟩) 160 ⟨0, some (.box ((dI p103) :: ((dI p104) :: ((.d (.str p105)) :: ((.d (.str p106)) :: ((.d (.str p107)) :: ((.r (.msl 339 0 0 p108.length)) :: [])))))))⟩) 40 q25_)⟩
def f160_l2_j4 (a1 : GParser) (a2 : List Int) (p103 : Int) (p104 : Int) (p105 : S8) (p106 : S8) (p107 : S8) (p108 : List GAct) (p109 : Int) : Option ((Int × Int × S8 × S8 × S8 × (List GAct) × Int) ⊕ ((Int × Int × S8 × S8 × S8 × (List GAct)))) := ((idx a2 p109).bind fun z15 => ((f208 z15 p103 p104 p105 p106 p107 p108).bind fun z16 => (some (.inl (z16.1, z16.2.1, z16.2.2.1, z16.2.2.2.1, z16.2.2.2.2.1, z16.2.2.2.2.2, (IntKind.i64.wrap (p109 + 1)))))))
theorem f160_l2_j4_ok (hd : 4 ≤ d) (a1 : GParser) (a2 : List Int) {r : (Int × Int × S8 × S8 × S8 × (List GAct) × Int) ⊕ ((Int × Int × S8 × S8 × S8 × (List GAct)))} (hQ : FQ (finL (f160_l2_H a1 a2) (f160_l2_X a1 a2) r) Q) (p103 : Int) (p104 : Int) (p105 : S8) (p106 : S8) (p107 : S8) (p108 : List GAct) (p109 : Int) (hS : f160_l2_j4 a1 a2 p103 p104 p105 p106 p107 p108 p109 = some r) (he : keepSt [4, 8, 20, 21, 22] [(40, .id 40), (160, .id 160), (339, .id 339)] [] st = f160_l2_j4_J a1 a2 p103 p104 p105 p106 p107 p108 p109) : ZX d Q c160_2 [] st := by
 refine zrKeep he ?_
 unfold f160_l2_j4 at hS
 refine zrSeq (zrBlk (zS ?_))
 refine bindE hS (fun z15 hz15 hS => zO (v := (.rptr (eI.enc z15 ++ (eI.cells (a2.drop ((p109 : Int).toNat + 1)))))) (ups := []) (some 24) 1 (.ixS 3 1 (tm 20) (tm 22)) (ev_ixS eI (kk := .i64) (xs := a2) (j := p109) (by kernel_rfl) (by kernel_rfl) hz15 rfl (by intro h; cases h)) (zL 2 3 (zK (zrReg (zL 2 2 ?_)))))
 refine bindE hS (fun z16 hz16 hS => zO (some 28) 3 (.callr 208 [(tm 26), (tm 27)]) (ev_cR [160, 339] (f208_ok (d - 1) (dpt hd rfl) z15 p103 p104 p105 p106 p107 p108 z16 hz16)) (zE (zkBlk (zkSeq (zrReg (zL 2 2 (zE ?_)))))))
 exact zkNil (eN1 hS hQ)
def f160_l2_j3_J (a1 : GParser) (a2 : List Int) (p95 : Int) (p96 : Int) (p97 : S8) (p98 : S8) (p99 : S8) (p100 : List GAct) (p101 : Int) (p102 : Bool) : St := ⟨(up (up (up (up (up (up u0 23 (dB p102)) 22 (dI p101)) 21 (dI (a2.length : Int))) 20 (dL a2)) 8 (pt 160)) 4 (pt 40)), (up (up (up h0 339 ⟨0, some (.own 81 6 (e_GAct.cells p100))⟩) 160 ⟨0, some (.box ((dI p95) :: ((dI p96) :: ((.d (.str p97)) :: ((.d (.str p98)) :: ((.d (.str p99)) :: ((.r (.msl 339 0 0 p100.length)) :: [])))))))⟩) 40 q25_)⟩
def f160_l2_j3 (a1 : GParser) (a2 : List Int) (p95 : Int) (p96 : Int) (p97 : S8) (p98 : S8) (p99 : S8) (p100 : List GAct) (p101 : Int) (p102 : Bool) : Option ((Int × Int × S8 × S8 × S8 × (List GAct) × Int) ⊕ ((Int × Int × S8 × S8 × S8 × (List GAct)))) := (bif p102 then (f160_l2_j4 a1 a2 p95 p96 p97 p98 p99 p100 p101) else (some (.inr (p95, p96, p97, p98, p99, p100))))
theorem f160_l2_j3_ok (hd : 4 ≤ d) (a1 : GParser) (a2 : List Int) {r : (Int × Int × S8 × S8 × S8 × (List GAct) × Int) ⊕ ((Int × Int × S8 × S8 × S8 × (List GAct)))} (hQ : FQ (finL (f160_l2_H a1 a2) (f160_l2_X a1 a2) r) Q) (p95 : Int) (p96 : Int) (p97 : S8) (p98 : S8) (p99 : S8) (p100 : List GAct) (p101 : Int) (p102 : Bool) (hS : f160_l2_j3 a1 a2 p95 p96 p97 p98 p99 p100 p101 p102 = some r) (he : keepSt [4, 8, 20, 21, 22, 23] [(40, .id 40), (160, .id 160), (339, .id 339)] [] st = f160_l2_j3_J a1 a2 p95 p96 p97 p98 p99 p100 p101 p102) : ZX d Q c160_3 [] st := by
 refine zrKeep he ?_
 unfold f160_l2_j3 at hS
 refine zrSeq (sR 23 hS (fun hS => ?_) (fun hS => ?_))
 ·exact zT (zrSkip (zkSeq (f160_l2_j4_ok hd a1 a2 hQ p95 p96 p97 p98 p99 p100 p101 hS (by kernel_rfl))))
 ·exact zF (zrKeep (J := f160_l2_e0_J a1 a2 p95 p96 p97 p98 p99 p100) (by kernel_rfl) (zrExit (zkSeqX (zkNil (eX0 hS hQ)))))
def f160_l2 (a1 : GParser) (a2 : List Int) (x : Int × Int × S8 × S8 × S8 × (List GAct) × Int) : Option ((Int × Int × S8 × S8 × S8 × (List GAct) × Int) ⊕ ((Int × Int × S8 × S8 × S8 × (List GAct)))) := (bif (decide (x.2.2.2.2.2.2 < (a2.length : Int))) then (f160_l2_j3 a1 a2 x.1 x.2.1 x.2.2.1 x.2.2.2.1 x.2.2.2.2.1 x.2.2.2.2.2.1 x.2.2.2.2.2.2 true) else (f160_l2_j3 a1 a2 x.1 x.2.1 x.2.2.1 x.2.2.2.1 x.2.2.2.2.1 x.2.2.2.2.2.1 x.2.2.2.2.2.2 false))
theorem f160_l2_ok (hd : 4 ≤ d) (a1 : GParser) (a2 : List Int) {r : (Int × Int × S8 × S8 × S8 × (List GAct) × Int) ⊕ ((Int × Int × S8 × S8 × S8 × (List GAct)))} (hQ : FQ (finL (f160_l2_H a1 a2) (f160_l2_X a1 a2) r) Q) {x : Int × Int × S8 × S8 × S8 × (List GAct) × Int} (hS : f160_l2 a1 a2 x = some r) (he : f160_l2_H a1 a2 x st) : ZX d Q c160_4 [] st := by
 refine zrKeep he ?_
 unfold f160_l2 at hS
 refine zS ?_
 refine sB 23 1 (.cmpI .lss (tm 22) (tm 21)) hS (fun hS => ?_) (fun hS => ?_)
 ·refine zK ?_
  exact f160_l2_j3_ok hd a1 a2 hQ x.1 x.2.1 x.2.2.1 x.2.2.2.1 x.2.2.2.2.1 x.2.2.2.2.2.1 x.2.2.2.2.2.2 true hS (by kernel_rfl)
 ·refine zK ?_
  exact f160_l2_j3_ok hd a1 a2 hQ x.1 x.2.1 x.2.2.1 x.2.2.2.1 x.2.2.2.2.1 x.2.2.2.2.2.1 x.2.2.2.2.2.2 false hS (by kernel_rfl)
def f160_j0_J (a1 : GParser) (a2 : List Int) : St := ⟨(up (up (up u0 4 (pt 40)) 2 (pt 24)) 1 (dL a2)), (up (up h0 40 q25_) 24 ⟨0, some (.box (q16_ a1))⟩)⟩
def f160_j0 (a1 : GParser) (a2 : List Int) : Option (GParser × (List GAct)) := ((loopO (f160_l2 a1 a2) (a1.State, a1.Mark, a1.Inter, a1.Args, a1.Text, [], 0)).bind fun z17 => (f160_j1 a1 a2 z17.1 z17.2.1 z17.2.2.1 z17.2.2.2.1 z17.2.2.2.2.1 z17.2.2.2.2.2))
theorem f160_j0_ok (hd : 4 ≤ d) (a1 : GParser) (a2 : List Int) {r : GParser × (List GAct)} (hQ : FQ (f160_Q r) Q)  (hS : f160_j0 a1 a2 = some r) (he : keepSt [1, 2, 4] [(24, .id 24), (40, .id 40)] [] st = f160_j0_J a1 a2) : ZX d Q c160_5 [] st := by
 refine zrKeep he ?_
 unfold f160_j0 at hS
 refine zS (zL 4 4 (zK (zrSeq (zS (zL 3 3 (zK ?_))))))
 refine zrBlk (bindE hS (fun z17 hz17 hS => zrLoop (f160_l2_H a1 a2) (f160_l2_X a1 a2) (fun x st r Q h0 hS hQ => f160_l2_ok hd a1 a2 hQ hS h0) (x := (a1.State, a1.Mark, a1.Inter, a1.Args, a1.Text, [], 0)) (z := z17) (by show keepSt _ _ _ _ = _; kernel_rfl) hz17 ?_))
 intro e st' _ hX
 obtain ⟨rfl, rfl⟩ : _ ∧ _ := hX
 exact zkBlkX (zkSeq (f160_j1_ok hd a1 a2 hQ z17.1 z17.2.1 z17.2.2.1 z17.2.2.2.1 z17.2.2.2.2.1 z17.2.2.2.2.2 hS (by kernel_rfl)))
def f160 (a1 : GParser) (a2 : List Int) : Option (GParser × (List GAct)) := ((f54 a1).bind fun z18 => (f160_j0 a1 a2 ))
theorem f160_ok (d : Nat) (hd : 4 ≤ d) (a1 : GParser) (a2 : List Int) (r : GParser × (List GAct)) (hS : f160 a1 a2 = some r) : lev codes baseL d 160 [(.agg (q16_ a1)), (dL a2)] [] = some ((.tup [(.agg (q16_ r.1)), (.r (.own 0 81 6 r.2.length (e_GAct.cells r.2))), (dI 0)]), []) := by
 refine lvG hd (fun Q hQ => ?_) codes160
 unfold f160 at hS
 show ZR _ Q c160_b [] _
 replace hQ : FQ (f160_Q r) Q := hQ
 refine zS (zL 4 4 (zK (zrSeq (zS (zL 1 1 ?_)))))
 refine bindE hS (fun z18 hz18 hS => zO (some 12) 2 (c1 54 11) (ev_cA (f54_ok (d - 1) (dpt hd rfl) a1 z18 hz18)) (zL 1 3 (zK (zS (zL 2 2 (zK (zF ?_)))))))
 exact zrSkip (zkSeq (f160_j0_ok hd a1 a2 hQ  hS (by kernel_rfl)))
/- slices.IndexFunc[[]int,int] -/
def f263_fin  : St := ⟨(up u0 4 (dI (-1))), h0⟩
theorem f263_out  : outR (f263_fin ) 0 c263.res = some ((dI (-1)), []) := by
 kernel_rfl
def f263_Q (r : Unit) (e : PX) (st : St) : Prop := DoneF c263 0 ((dI (-1)), []) e st
def f263 (a1 : List Int) : Option (Unit) := (bif (decide (0 < (a1.length : Int))) then none else (some ()))
theorem f263_ok (d : Nat) (hd : 1 ≤ d) (a1 : List Int) (r : Unit) (hS : f263 a1 = some r) : lev codes baseL d 263 [(dL a1), (.fn 245 [])] [] = some ((dI (-1)), []) := by
 refine lvG hd (fun Q hQ => ?_) codes263
 unfold f263 at hS
 show ZR _ Q c263_b [] _
 replace hQ : FQ (f263_Q r) Q := hQ
 refine zS (zL 1 1 (zK (zrSeq (zS (zL 3 3 (zK ?_))))))
 refine zrBlk (zrLoop1 (zS ?_))
 refine sB 9 1 (.cmpI .lss (tm 8) (tm 7)) hS (fun hS => ?_) (fun hS => ?_)
 ·cases hS
 ·refine zK (zrSeq (zF ?_))
  refine zrExit (zkSeqX (zkSeqX (zkBlkX (zkSeq (zS (zL 1 1 (zK ?_)))))))
  exact zrRet (zkNil (endQ hS hQ (fR (f263_out ))))
/- slices.ContainsFunc[[]int,int] -/
def f232_fin  : St := ⟨(up u0 4 (dB false)), h0⟩
theorem f232_out  : outR (f232_fin ) 0 c232.res = some ((dB false), []) := by
 kernel_rfl
def f232_Q (r : Unit) (e : PX) (st : St) : Prop := DoneF c232 0 ((dB false), []) e st
def f232 (a1 : List Int) : Option (Unit) := ((f263 a1).bind fun z2 => (some ()))
theorem f232_ok (d : Nat) (hd : 2 ≤ d) (a1 : List Int) (r : Unit) (hS : f232 a1 = some r) : lev codes baseL d 232 [(dL a1), (.fn 245 [])] [] = some ((dB false), []) := by
 refine lvG hd (fun Q hQ => ?_) codes232
 unfold f232 at hS
 show ZR _ Q c232_b [] _
 replace hQ : FQ (f232_Q r) Q := hQ
 refine zS (zL 1 1 (zK (zS (zL 2 2 ?_))))
 refine bindE hS (fun z2 hz2 hS => zO (some 7) 3 (.call 263 [(tm 5), (tm 6)]) (ev_cA (f263_ok (d - 1) (dpt hd rfl) a1 z2 hz2)) (zL 2 5 (zK ?_)))
 exact zrRet (zkNil (endQ hS hQ (fR (f232_out ))))
/- farwriter/screen.actions -/
def f209_fin  : St := ⟨(up u0 2 (dI 0)), h0⟩
theorem f209_out  : outR (f209_fin ) 0 c209.res = some ((dI 0), []) := by
 kernel_rfl
def f209_Q (r : Unit) (e : PX) (st : St) : Prop := DoneF c209 0 ((dI 0), []) e st
def f209_l0_J (a1 : List GAct) (x : Int) : St := ⟨(up (up (up u0 7 (dI x)) 6 (dI (a1.length : Int))) 5 (dE e_GAct a1)), h0⟩
def f209_l0_H (a1 : List GAct) (x : Int) (st : St) : Prop := keepSt [5, 6, 7] [] [] st = f209_l0_J a1 x
def f209_l0_e0_J (a1 : List GAct) : St := ⟨u0, h0⟩
def f209_l0_X (a1 : List GAct) (z : Unit) (e : PX) (st : St) : Prop := e = .exit 0 ∧ st = f209_l0_e0_J a1
def f209_l0_j2_J (a1 : List GAct) (p12 : Int) : St := ⟨(up (up (up u0 7 (dI p12)) 6 (dI (a1.length : Int))) 5 (dE e_GAct a1)), h0⟩
def f209_l0_j2 (a1 : List GAct) (p12 : Int) : Option (Int ⊕ Unit) := ((idx a1 p12).bind fun z7 => (bif (decide (32 < (z7.Args.length : Int))) then none else (bif (decide (256 < (z7.Text.length : Int))) then none else ((f232 z7.Args).bind fun z8 => (some (.inl (IntKind.i64.wrap (p12 + 1))))))))
theorem f209_l0_j2_ok (hd : 3 ≤ d) (a1 : List GAct) {r : Int ⊕ Unit} (hQ : FQ (finL (f209_l0_H a1) (f209_l0_X a1) r) Q) (p12 : Int) (hS : f209_l0_j2 a1 p12 = some r) (he : keepSt [5, 6, 7] [] [] st = f209_l0_j2_J a1 p12) : ZX d Q c209_1 [] st := by
 refine zrKeep he ?_
 unfold f209_l0_j2 at hS
 refine zrSeq (zrBlk (zS ?_))
 refine bindE hS (fun z7 hz7 hS => zO (v := (.rptr (e_GAct.enc z7 ++ (e_GAct.cells (a1.drop ((p12 : Int).toNat + 1)))))) (ups := []) (some 9) 1 (.ixS 81 6 (tm 5) (tm 7)) (ev_ixS e_GAct (kk := .i64) (xs := a1) (j := p12) (by kernel_rfl) (by kernel_rfl) hz7 rfl (by intro h; cases h)) (zL 3 4 (zK (zS (zL 3 3 ?_)))))
 refine sB 14 4 (.cmpI .gtr (tm 13) (ki 32)) hS (fun hS => ?_) (fun hS => ?_)
 ·cases hS
 ·refine zL 4 8 (sH 19 9 15 false (.cmpI .gtr (tm 18) (ki 256)) hS (fun hS => ?_) (fun hS => ?_))
  ·cases hS
  ·refine zL 4 13 (bindE hS (fun z8 hz8 hS => zG (some 24) 14 21 false (.call 232 [(tm 23), (.func 245)]) (ev_cA (f232_ok (d - 1) (dpt hd rfl) z7.Args z8 hz8)) (zL 1 15 (zK (zF ?_)))))
   refine zrSkip (zkBlk (zkSeq (zrReg (zL 2 2 (zE ?_)))))
   exact zkNil (eN1 hS hQ)
def f209_l0_j1_J (a1 : List GAct) (p10 : Int) (p11 : Bool) : St := ⟨(up (up (up (up u0 8 (dB p11)) 7 (dI p10)) 6 (dI (a1.length : Int))) 5 (dE e_GAct a1)), h0⟩
def f209_l0_j1 (a1 : List GAct) (p10 : Int) (p11 : Bool) : Option (Int ⊕ Unit) := (bif p11 then (f209_l0_j2 a1 p10) else (some (.inr ())))
theorem f209_l0_j1_ok (hd : 3 ≤ d) (a1 : List GAct) {r : Int ⊕ Unit} (hQ : FQ (finL (f209_l0_H a1) (f209_l0_X a1) r) Q) (p10 : Int) (p11 : Bool) (hS : f209_l0_j1 a1 p10 p11 = some r) (he : keepSt [5, 6, 7, 8] [] [] st = f209_l0_j1_J a1 p10 p11) : ZX d Q c209_2 [] st := by
 refine zrKeep he ?_
 unfold f209_l0_j1 at hS
 refine zrSeq (sR 8 hS (fun hS => ?_) (fun hS => ?_))
 ·exact zT (zrSkip (zkSeq (f209_l0_j2_ok hd a1 hQ p10 hS (by kernel_rfl))))
 ·exact zF (zrKeep (J := f209_l0_e0_J a1) (by kernel_rfl) (zrExit (zkSeqX (zkNil (eX0 hS hQ)))))
def f209_l0 (a1 : List GAct) (x : Int) : Option (Int ⊕ Unit) := (bif (decide (x < (a1.length : Int))) then (f209_l0_j1 a1 x true) else (f209_l0_j1 a1 x false))
theorem f209_l0_ok (hd : 3 ≤ d) (a1 : List GAct) {r : Int ⊕ Unit} (hQ : FQ (finL (f209_l0_H a1) (f209_l0_X a1) r) Q) {x : Int} (hS : f209_l0 a1 x = some r) (he : f209_l0_H a1 x st) : ZX d Q c209_3 [] st := by
 refine zrKeep he ?_
 unfold f209_l0 at hS
 refine zS ?_
 refine sB 8 1 (.cmpI .lss (tm 7) (tm 6)) hS (fun hS => ?_) (fun hS => ?_)
 ·refine zK ?_
  exact f209_l0_j1_ok hd a1 hQ x true hS (by kernel_rfl)
 ·refine zK ?_
  exact f209_l0_j1_ok hd a1 hQ x false hS (by kernel_rfl)
def f209 (a1 : List GAct) : Option (Unit) := ((loopO (f209_l0 a1) 0).bind fun z9 => (some ()))
theorem f209_ok (d : Nat) (hd : 3 ≤ d) (a1 : List GAct) (r : Unit) (hS : f209 a1 = some r) : lev codes baseL d 209 [(dE e_GAct a1)] [] = some ((dI 0), []) := by
 refine lvG hd (fun Q hQ => ?_) codes209
 unfold f209 at hS
 show ZR _ Q c209_b [] _
 replace hQ : FQ (f209_Q r) Q := hQ
 refine zS (zL 1 1 (zK (zrSeq (zS (zL 3 3 (zK ?_))))))
 refine zrBlk (bindE hS (fun z9 hz9 hS => zrLoop (f209_l0_H a1) (f209_l0_X a1) (fun x st r Q h0 hS hQ => f209_l0_ok hd a1 hQ hS h0) (x := 0) (z := z9) (by show keepSt _ _ _ _ = _; kernel_rfl) hz9 ?_))
 intro e st' _ hX
 obtain ⟨rfl, rfl⟩ : _ ∧ _ := hX
 refine zkBlkX (zkSeq (zS (zL 1 1 (zK ?_))))
 exact zrRet (zkNil (endQ hS hQ (fR (f209_out ))))
/- farwriter/page.of -/
def f298_fin (p1 : Int) : St := ⟨(up u0 4 (dI p1)), h0⟩
theorem f298_out (p1 : Int) : outR (f298_fin p1) 0 c298.res = some ((dI p1), []) := by
 kernel_rfl
def f298_Q (r : Int) (e : PX) (st : St) : Prop := DoneF c298 0 ((dI r), []) e st
def f298 (a1 : Int) (a2 : UInt8) : Option (Int) := (bif (decide (a1 = 2)) then none else (bif (decide (127 < (a2.toNat : Int))) then none else (bif (decide (a1 = 4)) then none else (bif (decide (a1 = 3)) then none else (some (a2.toNat : Int))))))
theorem f298_ok (d : Nat) (hd : 1 ≤ d) (a1 : Int) (a2 : UInt8) (r : Int) (hS : f298 a1 a2 = some r) : lev codes baseL d 298 [(dI a1), (.d (.int .u8 (a2.toNat : Int)))] [] = some ((dI r), []) := by
 refine lvG hd (fun Q hQ => ?_) codes298
 unfold f298 at hS
 show ZR _ Q c298_b [] _
 replace hQ : FQ (f298_Q r) Q := hQ
 refine zS (zL 1 1 (zK (zS (zL 3 3 (zK (zrSeq ?_))))))
 refine zrBlk (zS (zL 1 1 ?_))
 refine sB 9 2 (ck 8 2) hS (fun hS => ?_) (fun hS => ?_)
 ·cases hS
 ·refine zL 1 3 (zK (zF (zS (zL 1 1 ?_))))
  refine sB 14 2 (.cmpI .gtr (tm 13) (.const (.int .u8 127))) hS (fun hS => ?_) (fun hS => ?_)
  ·cases hS
  ·refine zL 1 3 (zK (zF (zS (zL 1 1 ?_))))
   refine sB 17 2 (ck 16 4) hS (fun hS => ?_) (fun hS => ?_)
   ·cases hS
   ·refine zL 5 7 (zK (zF (zS (zL 1 1 ?_))))
    refine sB 24 2 (ck 23 3) hS (fun hS => ?_) (fun hS => ?_)
    ·cases hS
    ·refine zL 9 11 (zK (zF ?_))
     refine zrSkip (zkBlk (zkSeq (zS (zL 1 1 ?_))))
     refine zO (v := (dI (a2.toNat : Int))) (ups := []) (some 38) 2 (.cvI .i64 (tm 37)) (ev_cv (kk := .u8) (a := (a2.toNat : Int)) (by kernel_rfl) (cv_i64 _)) (zL 1 3 (zK ?_))
     exact zrRet (zkNil (endQ hS hQ (fR (f298_out (a2.toNat : Int)))))
/- farwriter/page.Rune -/
def f271_fin (p1 : Int) (p2 : Int) : St := ⟨(up (up u0 5 (dI p2)) 4 (dI p1)), h0⟩
theorem f271_out (p1 : Int) (p2 : Int) : outR (f271_fin p1 p2) 0 c271.res = some ((.tup [(dI p1), (dI p2)]), []) := by
 kernel_rfl
def f271_Q (r : Int × Int) (e : PX) (st : St) : Prop := DoneF c271 0 ((.tup [(dI r.1), (dI r.2)]), []) e st
def f271 (a1 : Int) (a2 : UInt8) : Option (Int × Int) := ((f99 a1).bind fun z3 => (bif (!z3) then (some (0, 6)) else ((f298 a1 a2).bind fun z4 => (some (z4, 0)))))
theorem f271_ok (d : Nat) (hd : 2 ≤ d) (a1 : Int) (a2 : UInt8) (r : Int × Int) (hS : f271 a1 a2 = some r) : lev codes baseL d 271 [(dI a1), (.d (.int .u8 (a2.toNat : Int)))] [] = some ((.tup [(dI r.1), (dI r.2)]), []) := by
 refine lvG hd (fun Q hQ => ?_) codes271
 unfold f271 at hS
 show ZR _ Q c271_b [] _
 replace hQ : FQ (f271_Q r) Q := hQ
 refine zS (zL 2 2 (zK (zrSeq (zS (zL 1 1 ?_)))))
 refine bindE hS (fun z3 hz3 hS => zO (some 7) 2 (c1 99 6) (ev_cA (f99_ok (d - 1) (dpt hd rfl) a1 z3 hz3)) (zL 1 3 (zK ?_)))
 refine sR 8 hS (fun hS => ?_) (fun hS => ?_)
 ·refine zT (zS (zL 2 2 (zK ?_)))
  exact zrRet (zkSeqR (zkNil (endQ hS hQ (fR (f271_out 0 6)))))
 ·refine zF (zrSkip (zkSeq (zS (zL 2 2 ?_))))
  refine bindE hS (fun z4 hz4 hS => zO (some 11) 3 (.call 298 [(tm 9), (tm 10)]) (ev_cA (f298_ok (d - 1) (dpt hd rfl) a1 a2 z4 hz4)) (zL 2 5 (zK ?_)))
  exact zrRet (zkNil (endQ hS hQ (fR (f271_out z4 0))))
/- (*farwriter/screen.terminal).is -/
def f274_fin (p2 : Bool) : St := ⟨(up u0 4 (dB p2)), h0⟩
theorem f274_out (p2 : Bool) : outR (f274_fin p2) 0 c274.res = some ((dB p2), []) := by
 kernel_rfl
def f274_Q (r : Bool) (e : PX) (st : St) : Prop := DoneF c274 0 ((dB r), []) e st
def f274 (a1 : Gterminal) (a2 : List PD) (a3 : Int) : Option (Bool) := (bif (!decide ((bitI .and .i64 a1.Screen.Modes a3) = 0)) then (some true) else (some false))
theorem f274_ok (d : Nat) (hd : 1 ≤ d) (a1 : Gterminal) (a2 : List PD) (a3 : Int) (r : Bool) (hS : f274 a1 a2 a3 = some r) : lev codes baseL d 274 [(.rptr (e_UGterminal.enc a1 ++ a2)), (dI a3)] [] = some ((dB r), []) := by
 refine lvG hd (fun Q hQ => ?_) codes274
 unfold f274 at hS
 show ZR _ Q c274_b [] _
 replace hQ : FQ (f274_Q r) Q := hQ
 refine zS (zL 1 1 (zK (zS (zL 7 7 ?_))))
 refine sB 12 8 (.cmpI .neq (tm 11) (ki 0)) hS (fun hS => ?_) (fun hS => ?_)
 ·refine zL 1 9 (zK ?_)
  exact zrRet (zkNil (endQ hS hQ (fR (f274_out true))))
 ·refine zL 1 9 (zK ?_)
  exact zrRet (zkNil (endQ hS hQ (fR (f274_out false))))
/- (*farwriter/screen.terminal).clear -/
def f276_fin (p1 : GPen) : St := ⟨(up u0 2 (pt 24)), (up h0 24 (q21_ p1))⟩
theorem f276_out (p1 : GPen) : outR (f276_fin p1) 0 c276.res = some ((q24_ p1), []) := by
 kernel_rfl
def f276_Q (r : GPen) (e : PX) (st : St) : Prop := DoneF c276 0 ((q24_ r), []) e st
def f276 (a1 : Gterminal) (a2 : List PD) : Option (GPen) := (some (GPen.mk 0 0 a1.Screen.Pen.Back))
theorem f276_ok (d : Nat) (hd : 1 ≤ d) (a1 : Gterminal) (a2 : List PD) (r : GPen) (hS : f276 a1 a2 = some r) : lev codes baseL d 276 [(.rptr (e_UGterminal.enc a1 ++ a2))] [] = some ((q24_ r), []) := by
 refine lvG hd (fun Q hQ => ?_) codes276
 unfold f276 at hS
 show ZR _ Q c276_b [] _
 replace hQ : FQ (f276_Q r) Q := hQ
 refine zS (zL 1 1 (zK (zS (zL 8 8 (zK ?_)))))
 exact zrRet (zkNil (endQ hS hQ (fR (f276_out (GPen.mk 0 0 a1.Screen.Pen.Back)))))
/- farwriter/grid.row -/
def f38v1_fin (p1 : List GCell) (p2 : Nat) (p3 : Nat) : St := ⟨(up (up u0 2000000 .un) 4 (.r (.msl 0 0 p2 p3))), (up h0 0 ⟨0, some (.own 100 4 (e_GCell.cells p1))⟩)⟩
theorem f38v1_out (p1 : List GCell) (p2 : Nat) (p3 : Nat) : outR (f38v1_fin p1 p2 p3) 1 c38.res = some ((.r (.msl 0 0 p2 p3)), [(.own 100 4 (e_GCell.cells p1))]) := by
 kernel_rfl
def f38v1_Q (r : (List GCell) × Nat × Nat) (e : PX) (st : St) : Prop := DoneF c38 1 ((.r (.msl 0 0 r.2.1 r.2.2)), [(.own 100 4 (e_GCell.cells r.1)), .box []]) e st
def f38v1 (a1 : Int) (a2 : Int) (a3 : Int) (a4 : List GCell) : Option ((List GCell) × Nat × Nat) := ((chk (decide (0 ≤ (IntKind.i64.wrap (a3 * a1))) && decide ((IntKind.i64.wrap (a3 * a1)) ≤ (IntKind.i64.wrap ((IntKind.i64.wrap (a3 + 1)) * a1))) && decide ((IntKind.i64.wrap ((IntKind.i64.wrap (a3 + 1)) * a1)) ≤ (a4.length : Int)))).bind fun z2 => (some (a4, (((IntKind.i64.wrap (a3 * a1)) : Int).toNat), (((IntKind.i64.wrap ((IntKind.i64.wrap (a3 + 1)) * a1)) : Int).toNat - ((IntKind.i64.wrap (a3 * a1)) : Int).toNat))))
theorem f38v1_ok (d : Nat) (hd : 1 ≤ d) (a1 : Int) (a2 : Int) (a3 : Int) (a4 : List GCell) (r : (List GCell) × Nat × Nat) (hS : f38v1 a1 a2 a3 a4 = some r) : lev codes baseL d 38 [(.agg ((dI a1) :: ((dI a2) :: ((.r (.msl 0 0 0 a4.length)) :: [])))), (dI a3)] [(.own 100 4 (e_GCell.cells a4))] = some ((.r (.msl 0 0 r.2.1 r.2.2)), [(.own 100 4 (e_GCell.cells r.1)), .box []]) := by
 refine lvG hd (fun Q hQ => ?_) codes38
 unfold f38v1 at hS
 show ZR _ Q c38_b [] _
 replace hQ : FQ (f38v1_Q r) Q := hQ
 refine zS (zL 2 2 (zK (zS (zL 11 11 ?_))))
 refine bindE hS (fun z2 hz2 hS => zO (v := (.r (.msl 0 0 (((IntKind.i64.wrap (a3 * a1)) : Int).toNat) (((IntKind.i64.wrap ((IntKind.i64.wrap (a3 + 1)) * a1)) : Int).toNat - ((IntKind.i64.wrap (a3 * a1)) : Int).toNat)))) (ups := []) (some 16) 12 (.slS 100 4 (tm 6) (.some (tm 10)) (.some (tm 15))) (ev_slM (b := 0) (g := 0) (e := 100) (a := (IntKind.i64.wrap (a3 * a1))) (c := (IntKind.i64.wrap ((IntKind.i64.wrap (a3 + 1)) * a1))) (l := 0) (n := a4.length) (l' := (((IntKind.i64.wrap (a3 * a1)) : Int).toNat)) (n' := (((IntKind.i64.wrap ((IntKind.i64.wrap (a3 + 1)) * a1)) : Int).toNat - ((IntKind.i64.wrap (a3 * a1)) : Int).toNat)) (cs := e_GCell.cells a4) (by kernel_rfl) (by kernel_rfl) (bnd_s _ (kk := .i64) (j := (IntKind.i64.wrap (a3 * a1))) (by kernel_rfl)) (bnd_s _ (kk := .i64) (j := (IntKind.i64.wrap ((IntKind.i64.wrap (a3 + 1)) * a1))) (by kernel_rfl)) hz2 (by simp) rfl) (zL 1 13 (zK ?_)))
 exact zrRet (zkNil (endQ hS hQ (fRetX (by kernel_rfl) (by kernel_rfl : finSt c38.fin _ = f38v1_fin a4 (((IntKind.i64.wrap (a3 * a1)) : Int).toNat) (((IntKind.i64.wrap ((IntKind.i64.wrap (a3 + 1)) * a1)) : Int).toNat - ((IntKind.i64.wrap (a3 * a1)) : Int).toNat)) (by kernel_rfl) (f38v1_out a4 (((IntKind.i64.wrap (a3 * a1)) : Int).toNat) (((IntKind.i64.wrap ((IntKind.i64.wrap (a3 + 1)) * a1)) : Int).toNat - ((IntKind.i64.wrap (a3 * a1)) : Int).toNat)))))
/- farwriter/grid.repair -/
def f170_fin (p14 : List GCell) : St := ⟨(up u0 2000000 .un), (up h0 0 ⟨0, some (.own 100 4 (e_GCell.cells p14))⟩)⟩
theorem f170_out (p14 : List GCell) : outR (f170_fin p14) 1 c170.res = some ((.tup []), [(.own 100 4 (e_GCell.cells p14))]) := by
 kernel_rfl
def f170_Q (r : (List GCell)) (e : PX) (st : St) : Prop := DoneF c170 1 ((.tup []), [(.own 100 4 (e_GCell.cells r)), .box []]) e st
def f170_l0_J (a1 : Nat) (a2 : Nat) (a3 : List GCell) (x : (List GCell) × Int) : St := ⟨(up (up (up (up u0 8 (dI x.2)) 7 (dI (a2 : Int))) 2 (.r (.msl 48 0 0 x.1.length))) 0 (.r (.msl 0 0 a1 a2))), (up (up h0 48 ⟨0, some (.own 100 4 (e_GCell.cells x.1))⟩) 0 ⟨0, some (.own 100 4 (e_GCell.cells a3))⟩)⟩
def f170_l0_H (a1 : Nat) (a2 : Nat) (a3 : List GCell) (x : (List GCell) × Int) (st : St) : Prop := keepSt [0, 2, 7, 8] [(0, .id 0), (48, .id 48)] [] st = f170_l0_J a1 a2 a3 x
def f170_l0_e0_J (a1 : Nat) (a2 : Nat) (a3 : List GCell) : St := ⟨u0, (up h0 0 ⟨0, some (.own 100 4 (e_GCell.cells a3))⟩)⟩
def f170_l0_X (a1 : Nat) (a2 : Nat) (a3 : List GCell) (z : Unit) (e : PX) (st : St) : Prop := e = .exit 0 ∧ st = f170_l0_e0_J a1 a2 a3
def f170_l0_j2_J (a1 : Nat) (a2 : Nat) (a3 : List GCell) (p34 : List GCell) (p35 : Int) : St := ⟨(up (up (up (up u0 8 (dI p35)) 7 (dI (a2 : Int))) 2 (.r (.msl 48 0 0 p34.length))) 0 (.r (.msl 0 0 a1 a2))), (up (up h0 48 ⟨0, some (.own 100 4 (e_GCell.cells p34))⟩) 0 ⟨0, some (.own 100 4 (e_GCell.cells a3))⟩)⟩
def f170_l0_j2 (a1 : Nat) (a2 : Nat) (a3 : List GCell) (p34 : List GCell) (p35 : Int) : Option (((List GCell) × Int) ⊕ Unit) := ((f147 p34 p35).bind fun z23 => (bif z23 then ((inR p35 p34.length).bind fun m24 => ((p34[m24]?).bind fun z25 => none)) else (some (.inl (p34, (IntKind.i64.wrap (p35 + 1)))))))
theorem f170_l0_j2_ok (hd : 4 ≤ d) (a1 : Nat) (a2 : Nat) (a3 : List GCell) {r : ((List GCell) × Int) ⊕ Unit} (hQ : FQ (finL (f170_l0_H a1 a2 a3) (f170_l0_X a1 a2 a3) r) Q) (p34 : List GCell) (p35 : Int) (hS : f170_l0_j2 a1 a2 a3 p34 p35 = some r) (he : keepSt [0, 2, 7, 8] [(0, .id 0), (48, .id 48)] [] st = f170_l0_j2_J a1 a2 a3 p34 p35) : ZX d Q c170_1 [] st := by
 refine zrKeep he ?_
 unfold f170_l0_j2 at hS
 refine zrSeq (zrBlk (zS (zL 2 2 (zK (zS (zL 2 2 ?_))))))
 refine bindE hS (fun z23 hz23 hS => zO (some 13) 3 (.call 147 [(tm 11), (tm 12)]) (ev_callB (args := [(.r (.msl 48 0 0 p34.length)), (dI p35)]) (by kernel_rfl) (l_cons (l_own e_GCell (e := 100) (k := 4) (xs := p34) (by kernel_rfl) rfl rfl) (lk l_nil)) (f147_ok (d - 1) (dpt hd rfl) p34 p35 z23 hz23) (by kernel_rfl) (by kernel_rfl)) (zK ?_))
 refine sR 13 hS (fun hS => ?_) (fun hS => ?_)
 ·refine zT (zrReg (zL 4 4 ?_))
  refine bindE hS (fun m24 hm24 hS => zO (v := (.r (.ptr 48 0 ((0 + m24) * 4)))) (ups := []) (some 18) 5 (.ixS 100 4 (tm 16) (tm 17)) (ev_ixM (kk := .i64) (b := 48) (g := 0) (l := 0) (n := p34.length) (j := p35) (cs := e_GCell.cells p34) (by kernel_rfl) (by kernel_rfl) (by kernel_rfl) hm24) (zL 1 6 (bindE hS (fun z25 hz25 hS => zO (v := (q24_ z25.Pen)) (ups := []) (some 20) 7 (lt 3 19) (ev_loadM e_GCell (b := 48) (g := 0) (o := (0 + m24) * 4 + 1) (e := 100) (k := 4) (m := m24) (fo := 1) (xs := p34) (by kernel_rfl) (by kernel_rfl) (by rw [Nat.zero_add]; rfl) hz25 (by kernel_rfl) (by kernel_rfl) (by kernel_rfl)) ?_))))
  cases hS
 ·refine zF (zrSkip (zkBlk (zkSeq (zrReg (zL 2 2 (zE ?_))))))
  exact zkNil (eN1 hS hQ)
def f170_l0_j1_J (a1 : Nat) (a2 : Nat) (a3 : List GCell) (p31 : List GCell) (p32 : Int) (p33 : Bool) : St := ⟨(up (up (up (up (up u0 9 (dB p33)) 8 (dI p32)) 7 (dI (a2 : Int))) 2 (.r (.msl 48 0 0 p31.length))) 0 (.r (.msl 0 0 a1 a2))), (up (up h0 48 ⟨0, some (.own 100 4 (e_GCell.cells p31))⟩) 0 ⟨0, some (.own 100 4 (e_GCell.cells a3))⟩)⟩
def f170_l0_j1 (a1 : Nat) (a2 : Nat) (a3 : List GCell) (p31 : List GCell) (p32 : Int) (p33 : Bool) : Option (((List GCell) × Int) ⊕ Unit) := (bif p33 then (f170_l0_j2 a1 a2 a3 p31 p32) else (some (.inr ())))
theorem f170_l0_j1_ok (hd : 4 ≤ d) (a1 : Nat) (a2 : Nat) (a3 : List GCell) {r : ((List GCell) × Int) ⊕ Unit} (hQ : FQ (finL (f170_l0_H a1 a2 a3) (f170_l0_X a1 a2 a3) r) Q) (p31 : List GCell) (p32 : Int) (p33 : Bool) (hS : f170_l0_j1 a1 a2 a3 p31 p32 p33 = some r) (he : keepSt [0, 2, 7, 8, 9] [(0, .id 0), (48, .id 48)] [] st = f170_l0_j1_J a1 a2 a3 p31 p32 p33) : ZX d Q c170_2 [] st := by
 refine zrKeep he ?_
 unfold f170_l0_j1 at hS
 refine zrSeq (sR 9 hS (fun hS => ?_) (fun hS => ?_))
 ·exact zT (zrSkip (zkSeq (f170_l0_j2_ok hd a1 a2 a3 hQ p31 p32 hS (by kernel_rfl))))
 ·exact zF (zrKeep (J := f170_l0_e0_J a1 a2 a3) (by kernel_rfl) (zrExit (zkSeqX (zkNil (eX0 hS hQ)))))
def f170_l0 (a1 : Nat) (a2 : Nat) (a3 : List GCell) (x : (List GCell) × Int) : Option (((List GCell) × Int) ⊕ Unit) := (bif (decide (x.2 < (a2 : Int))) then (f170_l0_j1 a1 a2 a3 x.1 x.2 true) else (f170_l0_j1 a1 a2 a3 x.1 x.2 false))
theorem f170_l0_ok (hd : 4 ≤ d) (a1 : Nat) (a2 : Nat) (a3 : List GCell) {r : ((List GCell) × Int) ⊕ Unit} (hQ : FQ (finL (f170_l0_H a1 a2 a3) (f170_l0_X a1 a2 a3) r) Q) {x : (List GCell) × Int} (hS : f170_l0 a1 a2 a3 x = some r) (he : f170_l0_H a1 a2 a3 x st) : ZX d Q c170_3 [] st := by
 refine zrKeep he ?_
 unfold f170_l0 at hS
 refine zS ?_
 refine sB 9 1 (.cmpI .lss (tm 8) (tm 7)) hS (fun hS => ?_) (fun hS => ?_)
 ·refine zK ?_
  exact f170_l0_j1_ok hd a1 a2 a3 hQ x.1 x.2 true hS (by kernel_rfl)
 ·refine zK ?_
  exact f170_l0_j1_ok hd a1 a2 a3 hQ x.1 x.2 false hS (by kernel_rfl)
def f170 (a1 : Nat) (a2 : Nat) (a3 : List GCell) : Option ((List GCell)) := ((part? a3 a1 a2).bind fun z12 => ((f91 z12).bind fun z13 => ((loopO (f170_l0 a1 a2 a3) (z13, 0)).bind fun z26 => (some a3))))
theorem f170_ok (d : Nat) (hd : 4 ≤ d) (a1 : Nat) (a2 : Nat) (a3 : List GCell) (r : (List GCell)) (hS : f170 a1 a2 a3 = some r) : lev codes baseL d 170 [(.r (.msl 0 0 a1 a2))] [(.own 100 4 (e_GCell.cells a3))] = some ((.tup []), [(.own 100 4 (e_GCell.cells r)), .box []]) := by
 refine lvG hd (fun Q hQ => ?_) codes170
 unfold f170 at hS
 show ZR _ Q c170_b [] _
 replace hQ : FQ (f170_Q r) Q := hQ
 refine zS (zL 1 1 ?_)
 refine bindE hS (fun z12 hz12 hS => bindE hS (fun z13 hz13 hS => zO (some 5) 2 (c1 91 4) (ev_callB (args := [(.r (.msl 0 0 a1 a2))]) (by kernel_rfl) (l_cons (l_part e_GCell (e := 100) (k := 4) (xs := a3) (by kernel_rfl) rfl hz12) l_nil) (f91_ok (d - 1) (dpt hd rfl) z12 z13 hz13) (by simp only [free_own e_GCell (fun _ => rfl), free_tup, free_agg, free_nl, free_cs, free_int, free_bool, free_str, free_un, free_ni, free_s0, Bool.and_true, Bool.or_true, Bool.and_self]) (by kernel_rfl)) (zL 1 3 (zK (zS (zL 3 3 (zK ?_)))))))
 refine zrBlk (bindE hS (fun z26 hz26 hS => zrLoop (f170_l0_H a1 a2 a3) (f170_l0_X a1 a2 a3) (fun x st r Q h0 hS hQ => f170_l0_ok hd a1 a2 a3 hQ hS h0) (x := (z13, 0)) (z := z26) (by show keepSt _ _ _ _ = _; kernel_rfl) hz26 ?_))
 intro e st' _ hX
 obtain ⟨rfl, rfl⟩ : _ ∧ _ := hX
 exact zkBlkX (zkNil (endQ hS hQ (fNormX (by kernel_rfl) (by kernel_rfl : finSt c170.fin _ = f170_fin a3) (by kernel_rfl) (f170_out a3))))
/- farwriter/grid.PutIn -/
def f277_fin (p1 : List GCell) : St := ⟨(up u0 2000000 .un), (up h0 0 ⟨0, some (.own 100 4 (e_GCell.cells p1))⟩)⟩
theorem f277_out (p1 : List GCell) : outR (f277_fin p1) 1 c277.res = some ((.tup []), [(.own 100 4 (e_GCell.cells p1))]) := by
 kernel_rfl
def f277_Q (r : (List GCell)) (e : PX) (st : St) : Prop := DoneF c277 1 ((.tup []), [(.own 100 4 (e_GCell.cells r)), .box []]) e st
def f277 (a1 : Int) (a2 : Int) (a3 : Int) (a4 : Int) (a5 : Int) (a6 : GPen) (a7 : List GCell) : Option ((List GCell)) := ((f38v1 a1 a2 a3 a7).bind fun z9 => ((chk (decide (z9.1.length = a7.length))).bind fun z10 => ((inR a4 z9.2.2).bind fun m11 => ((z9.1[(z9.2.1 + m11)]?).bind fun z12 => ((some (z9.1.set (z9.2.1 + m11) (GCell.mk a5 a6))).bind fun z13 => ((f146 a5).bind fun z15 => (bif (decide (z15 = 2)) then none else ((f170 z9.2.1 z9.2.2 z13).bind fun z16 => ((chk (decide (z16.length = z13.length))).bind fun z17 => (some z16))))))))))
theorem f277_ok (d : Nat) (hd : 5 ≤ d) (a1 : Int) (a2 : Int) (a3 : Int) (a4 : Int) (a5 : Int) (a6 : GPen) (a7 : List GCell) (r : (List GCell)) (hS : f277 a1 a2 a3 a4 a5 a6 a7 = some r) : lev codes baseL d 277 [(.agg ((dI a1) :: ((dI a2) :: ((.r (.msl 0 0 0 a7.length)) :: [])))), (dI a3), (dI a4), (dI a5), (q24_ a6)] [(.own 100 4 (e_GCell.cells a7))] = some ((.tup []), [(.own 100 4 (e_GCell.cells r)), .box []]) := by
 refine lvG hd (fun Q hQ => ?_) codes277
 unfold f277 at hS
 show ZR _ Q c277_b [] _
 replace hQ : FQ (f277_Q r) Q := hQ
 refine zS (zL 2 2 (zK (zS (zL 2 2 ?_))))
 refine bindE hS (fun z9 hz9 hS => bindE hS (fun z10 hz10 hS => zO (some 13) 3 (.callr 38 [(tm 11), (tm 12)]) (ev_cX [0] [(.own 100 4 (e_GCell.cells a7))] (f38v1_ok (d - 1) (dpt hd rfl) a1 a2 a3 a7 z9 hz9) (sm_own e_GCell (e1 := 100) (k1 := 4) (xs := a7) (ys := z9.1) (by kernel_rfl) hz10 sm_nil)) ?_))
 have lz10 : a7.length = z9.1.length := (of_decide_eq_true (chk_t hz10)).symm
 skip
 try delta bm_GScreen
 try rw [lz10]
 refine zL 1 4 (zK (zS (zL 5 5 ?_)))
 refine bindE hS (fun m11 hm11 hS => zO (v := (.r (.ptr 0 0 ((z9.2.1 + m11) * 4)))) (ups := []) (some 19) 6 (.ixS 100 4 (tm 14) (tm 15)) (ev_ixM (kk := .i64) (b := 0) (g := 0) (l := z9.2.1) (n := z9.2.2) (j := a4) (cs := e_GCell.cells z9.1) (by kernel_rfl) (by kernel_rfl) (by kernel_rfl) hm11) (bindE hS (fun z12 hz12 hS => bindE hS (fun z13 hz13 hS => zO (v := .un) (ups := [(0, ⟨0, some (.own 100 4 (e_GCell.cells (z9.1.set (z9.2.1 + m11) (GCell.mk a5 a6))))⟩)]) none 7 (.store 4 (tm 19) (tm 18)) (ev_storeM e_GCell (b := 0) (g := 0) (o := (z9.2.1 + m11) * 4) (e := 100) (k := 4) (m := (z9.2.1 + m11)) (fo := 0) (xs := z9.1) (z := z12) (z' := (GCell.mk a5 a6)) (by kernel_rfl) (new := ((dI a5) :: ((dI a6.Flags) :: ((dI a6.Fore) :: ((dI a6.Back) :: []))))) (ds := [.int .i64 a5, .int .i64 a6.Flags, .int .i64 a6.Fore, .int .i64 a6.Back]) (by kernel_rfl) (by kernel_rfl) (by kernel_rfl) rfl hz12 (by kernel_rfl) (by kernel_rfl) (by kernel_rfl)) ?_))))
 have ez13 := Option.some.inj hz13
 have lz13 : z9.1.length = z13.length := by rw [← ez13, List.length_set]
 rw [ez13]
 skip
 try delta bm_GScreen
 try rw [lz13]
 refine zK (zrSeq (zS (zL 1 1 ?_)))
 refine bindE hS (fun z15 hz15 hS => zO (some 21) 2 (c1 146 20) (ev_cA (f146_ok (d - 1) (dpt hd rfl) a5 z15 hz15)) (sB 22 3 (ck 21 2) hS (fun hS => ?_) (fun hS => ?_)))
 ·cases hS
 ·refine zK (zF ?_)
  refine zrSkip (zkSeq (zrReg (zL 1 1 ?_)))
  refine bindE hS (fun z16 hz16 hS => bindE hS (fun z17 hz17 hS => zO (some 30) 2 (.callr 170 [(tm 29)]) (ev_cX [0] [(.own 100 4 (e_GCell.cells z13))] (f170_ok (d - 1) (dpt hd rfl) z9.2.1 z9.2.2 z13 z16 hz16) (sm_own e_GCell (e1 := 100) (k1 := 4) (xs := z13) (ys := z16) (by kernel_rfl) hz17 sm_nil)) ?_))
  have lz17 : z13.length = z16.length := (of_decide_eq_true (chk_t hz17)).symm
  skip
  try delta bm_GScreen
  try rw [lz17]
  exact zE (zkNil (endQ hS hQ (fNormX (by kernel_rfl) (by kernel_rfl : finSt c277.fin _ = f277_fin z16) (by kernel_rfl) (f277_out z16))))
/- (*farwriter/screen.terminal).print -/
def f246_fin (p2 : Gterminal) : St := ⟨(up (up (up u0 1000003 .un) 1000002 .un) 1000001 .un), (q10_ p2)⟩
theorem f246_out (p2 : Gterminal) : outR (f246_fin p2) 4 c246.res = some ((.tup []), [(q11_ p2), (go0_GScreen p2.Screen), (go1_GScreen p2.Screen), (go2_GScreen p2.Screen)]) := by
 kernel_rfl
def f246_Q (r : Gterminal) (e : PX) (st : St) : Prop := DoneF c246 4 ((.tup []), [(q11_ r), (go0_GScreen r.Screen), (go1_GScreen r.Screen), (go2_GScreen r.Screen)]) e st
def f246_j4_J (a1 : Int) (a2 : Gterminal) (p11 : Int) (p12 : Int) : St := ⟨(up (up (up (q33_ a2.Screen) 4 (dI p12)) 1 (dI p11)) 0 (pt 0)), (q10_ a2)⟩
def f246_j4 (a1 : Int) (a2 : Gterminal) (p11 : Int) (p12 : Int) : Option (Gterminal) := ((f277 a2.Screen.Grid.Wide a2.Screen.Grid.High a2.Screen.Row a2.Screen.Col p11 a2.Screen.Pen a2.Screen.Grid.Cells).bind fun z15 => ((chk (decide (z15.length = a2.Screen.Grid.Cells.length))).bind fun z16 => (bif (decide ((IntKind.i64.wrap (a2.Screen.Grid.Wide - 1)) < (IntKind.i64.wrap (a2.Screen.Col + p12)))) then none else (some (Gterminal.mk ({ a2.Screen with Grid := (GGrid.mk a2.Screen.Grid.Wide a2.Screen.Grid.High z15), Col := (IntKind.i64.wrap (a2.Screen.Col + p12)) }) a2.sent)))))
theorem f246_j4_ok (hd : 6 ≤ d) (a1 : Int) (a2 : Gterminal) {r : Gterminal} (hQ : FQ (f246_Q r) Q) (p11 : Int) (p12 : Int) (hS : f246_j4 a1 a2 p11 p12 = some r) (he : keepSt [0, 1, 4, 5, 1000001, 1000002, 1000003] [(0, .id 0), (1, .id 1), (2, .id 2), (3, .id 3)] [] st = f246_j4_J a1 a2 p11 p12) : ZX d Q c246_1 [] st := by
 refine zrKeep he ?_
 unfold f246_j4 at hS
 refine zrSeq (zrRegD (zdR 21 21 (bindE hS (fun z15 hz15 hS => bindE hS (fun z16 hz16 hS => zdO (some 125) 22 none (.callr 277 [(tm 108), (tm 113), (tm 118), (tm 119), (tm 124)]) (ev_cX [1] [(go0_GScreen a2.Screen)] (f277_ok (d - 1) (dpt hd rfl) a2.Screen.Grid.Wide a2.Screen.Grid.High a2.Screen.Row a2.Screen.Col p11 a2.Screen.Pen a2.Screen.Grid.Cells z15 hz15) (sm_own e_GCell (e1 := 100) (k1 := 4) (xs := a2.Screen.Grid.Cells) (ys := z15) (by kernel_rfl) hz16 sm_nil)) ?_)))))
 have lz16 : a2.Screen.Grid.Cells.length = z15.length := (of_decide_eq_true (chk_t hz16)).symm
 try delta f246_j4_J
 try delta q2_ q3_ q5_ q6_ q7_ q10_ q11_ q14_ q15_ q19_ q27_ q29_ q34_
 try delta bm_GScreen
 try rw [lz16]
 refine zdE (zkSeq (zS (zL 11 11 (zK (zS (zL 6 6 ?_))))))
 refine sB 142 7 (.cmpI .gtr (tm 140) (tm 141)) hS (fun hS => ?_) (fun hS => ?_)
 ·cases hS
 ·refine zK (zF ?_)
  exact zrSkip (zkNil (endQ hS hQ (fN (f246_out (Gterminal.mk ({ a2.Screen with Grid := (GGrid.mk a2.Screen.Grid.Wide a2.Screen.Grid.High z15), Col := (IntKind.i64.wrap (a2.Screen.Col + p12)) }) a2.sent)))))
def f246_j3_J (a1 : Int) (a2 : Gterminal) (p9 : Int) (p10 : Int) : St := ⟨(up (up (up (q33_ a2.Screen) 4 (dI p10)) 1 (dI p9)) 0 (pt 0)), (q10_ a2)⟩
def f246_j3 (a1 : Int) (a2 : Gterminal) (p9 : Int) (p10 : Int) : Option (Gterminal) := ((f274 a2 [] 1).bind fun z17 => (bif z17 then ((f276 a2 []).bind fun z18 => none) else (f246_j4 a1 a2 p9 p10)))
theorem f246_j3_ok (hd : 6 ≤ d) (a1 : Int) (a2 : Gterminal) {r : Gterminal} (hQ : FQ (f246_Q r) Q) (p9 : Int) (p10 : Int) (hS : f246_j3 a1 a2 p9 p10 = some r) (he : keepSt [0, 1, 4, 5, 1000001, 1000002, 1000003] [(0, .id 0), (1, .id 1), (2, .id 2), (3, .id 3)] [] st = f246_j3_J a1 a2 p9 p10) : ZX d Q c246_2 [] st := by
 refine zrKeep he ?_
 unfold f246_j3 at hS
 refine zrSeq (zS (zL 1 1 ?_))
 refine bindE hS (fun z17 hz17 hS => zO (some 78) 2 (.call 274 [(tm 77), (ki 1)]) (ev_cA (f274_ok (d - 1) (dpt hd rfl) a2 [] 1 z17 hz17)) (zK ?_))
 refine sR 78 hS (fun hS => ?_) (fun hS => ?_)
 ·refine zT (zrRegD (zdR 23 23 (bindE hS (fun z18 hz18 hS => zdO (some 102) 24 none (c1 276 101) (ev_cA (f276_ok (d - 1) (dpt hd rfl) a2 [] z18 hz18)) ?_))))
  cases hS
 ·exact zF (zrSkip (zkSeq (f246_j4_ok hd a1 a2 hQ p9 p10 hS (by kernel_rfl))))
def f246_j2_J (a1 : Int) (a2 : Gterminal) (p7 : Int) (p8 : Int) : St := ⟨(up (up (up (q33_ a2.Screen) 4 (dI p8)) 1 (dI p7)) 0 (pt 0)), (q10_ a2)⟩
def f246_j2 (a1 : Int) (a2 : Gterminal) (p7 : Int) (p8 : Int) : Option (Gterminal) := (bif (decide (p8 = 2)) then none else (f246_j3 a1 a2 p7 p8))
theorem f246_j2_ok (hd : 6 ≤ d) (a1 : Int) (a2 : Gterminal) {r : Gterminal} (hQ : FQ (f246_Q r) Q) (p7 : Int) (p8 : Int) (hS : f246_j2 a1 a2 p7 p8 = some r) (he : keepSt [0, 1, 4, 5, 1000001, 1000002, 1000003] [(0, .id 0), (1, .id 1), (2, .id 2), (3, .id 3)] [] st = f246_j2_J a1 a2 p7 p8) : ZX d Q c246_3 [] st := by
 refine zrKeep he ?_
 unfold f246_j2 at hS
 refine zrSeq (zS (zL 1 1 ?_))
 refine sB 60 2 (ck 59 2) hS (fun hS => ?_) (fun hS => ?_)
 ·cases hS
 ·refine zL 9 11 (zK (zF ?_))
  exact zrSkip (zkSeq (f246_j3_ok hd a1 a2 hQ p7 p8 hS (by kernel_rfl)))
def f246_j1_J (a1 : Int) (a2 : Gterminal) (p5 : Int) (p6 : Int) : St := ⟨(up (up (up (q33_ a2.Screen) 4 (dI p6)) 1 (dI p5)) 0 (pt 0)), (q10_ a2)⟩
def f246_j1 (a1 : Int) (a2 : Gterminal) (p5 : Int) (p6 : Int) : Option (Gterminal) := (bif a2.Screen.Late then none else (f246_j2 a1 a2 p5 p6))
theorem f246_j1_ok (hd : 6 ≤ d) (a1 : Int) (a2 : Gterminal) {r : Gterminal} (hQ : FQ (f246_Q r) Q) (p5 : Int) (p6 : Int) (hS : f246_j1 a1 a2 p5 p6 = some r) (he : keepSt [0, 1, 4, 5, 1000001, 1000002, 1000003] [(0, .id 0), (1, .id 1), (2, .id 2), (3, .id 3)] [] st = f246_j1_J a1 a2 p5 p6) : ZX d Q c246_4 [] st := by
 refine zrKeep he ?_
 unfold f246_j1 at hS
 refine zrSeq (zS (zL 5 5 (zK ?_)))
 refine sR 54 hS (fun hS => ?_) (fun hS => ?_)
 ·refine zT (zS (zL 1 1 ?_))
  cases hS
 ·exact zF (zrSkip (zkSeq (f246_j2_ok hd a1 a2 hQ p5 p6 hS (by kernel_rfl))))
def f246_j0_J (a1 : Int) (a2 : Gterminal) (p4 : Int) : St := ⟨(up (up (up (up (up u0 1000003 .un) 1000002 .un) 1000001 .un) 1 (dI p4)) 0 (pt 0)), (q10_ a2)⟩
def f246_j0 (a1 : Int) (a2 : Gterminal) (p4 : Int) : Option (Gterminal) := ((f146 p4).bind fun z12 => (bif (decide (z12 = 0)) then none else (bif (decide (a2.Screen.Grid.Wide < z12)) then none else (f246_j1 a1 a2 p4 z12))))
theorem f246_j0_ok (hd : 6 ≤ d) (a1 : Int) (a2 : Gterminal) {r : Gterminal} (hQ : FQ (f246_Q r) Q) (p4 : Int) (hS : f246_j0 a1 a2 p4 = some r) (he : keepSt [0, 1, 1000001, 1000002, 1000003] [(0, .id 0), (1, .id 1), (2, .id 2), (3, .id 3)] [] st = f246_j0_J a1 a2 p4) : ZX d Q c246_5 [] st := by
 refine zrKeep he ?_
 unfold f246_j0 at hS
 refine zrSeq (zrRegD (zdR 1 1 (bindE hS (fun z12 hz12 hS => zdO (some 30) 2 none (c1 146 29) (ev_cA (f146_ok (d - 1) (dpt hd rfl) p4 z12 hz12)) (zdR 9 11 (zdE (zkSeq (zrSeq (zS (zL 1 1 ?_))))))))))
 refine sB 39 2 (ck 38 0) hS (fun hS => ?_) (fun hS => ?_)
 ·cases hS
 ·refine zL 8 10 (sH 48 11 40 false (.cmpI .gtr (tm 41) (tm 47)) hS (fun hS => ?_) (fun hS => ?_))
  ·cases hS
  ·refine zL 1 12 (zK (zF ?_))
   exact zrSkip (zkSeq (f246_j1_ok hd a1 a2 hQ p4 z12 hS (by kernel_rfl)))
def f246 (a1 : Int) (a2 : Gterminal) : Option (Gterminal) := (bif (decide (0 ≤ a1)) then (bif (decide (a1 ≤ 127)) then ((inR a2.Screen.Shift 2).bind fun m19 => (bif (decide (m19 = 0)) then ((f271 a2.Screen.Pages.1 (u8 a1)).bind fun z20 => (f246_j0 a1 a2 z20.1)) else ((f271 a2.Screen.Pages.2 (u8 a1)).bind fun z21 => (f246_j0 a1 a2 z21.1)))) else none) else none)
theorem f246_ok (d : Nat) (hd : 6 ≤ d) (a1 : Int) (a2 : Gterminal) (r : Gterminal) (hS : f246 a1 a2 = some r) : lev codes baseL d 246 [(pt 0), (dI a1)] [(q11_ a2), (go0_GScreen a2.Screen), (go1_GScreen a2.Screen), (go2_GScreen a2.Screen)] = some ((.tup []), [(q11_ r), (go0_GScreen r.Screen), (go1_GScreen r.Screen), (go2_GScreen r.Screen)]) := by
 refine lvG hd (fun Q hQ => ?_) codes246
 unfold f246 at hS
 show ZR _ Q c246_b [] _
 replace hQ : FQ (f246_Q r) Q := hQ
 refine zrSeq (zS (zL 1 1 ?_))
 refine sB 7 2 (.cmpI .geq (tm 6) (ki 0)) hS (fun hS => ?_) (fun hS => ?_)
 ·refine zL 2 4 (sH 10 5 8 true (.cmpI .leq (tm 9) (ki 127)) hS (fun hS => ?_) (fun hS => ?_))
  ·refine zL 1 6 (zK (zT ?_))
   refine zrRegD (zdR 9 9 (bindE hS (fun m19 hm19 hS => boolC (decide (m19 = 0)) (fun hcm19 => ?_) (fun hcm19 => ?_))))
   ·replace hS := cond_t hcm19 hS
    exact zdO (v := (.r (.ptr 0 0 16))) (ups := []) (some 22) 10 none (.ixA 2 1 (tm 21) (tm 18)) (ev_ixA0 (kk := .i64) (b := 0) (g := 0) (o := 16) (j := a2.Screen.Shift) (m := m19) (by kernel_rfl) (by kernel_rfl) hm19 hcm19) (zdR 2 12 (zdO (v := (.d (.int .u8 ((u8 a1).toNat : Int)))) (ups := []) (some 25) 13 none (.cvI .u8 (tm 24)) (ev_cv (kk := .i64) (a := a1) (by kernel_rfl) (u8_wrap _)) (bindE hS (fun z20 hz20 hS => zdO (some 26) 14 none (.call 271 [(tm 23), (tm 25)]) (ev_cA (f271_ok (d - 1) (dpt hd rfl) a2.Screen.Pages.1 (u8 a1) z20 hz20)) (zdR 4 18 (zdE (zkSeq (f246_j0_ok hd a1 a2 hQ z20.1 hS (by kernel_rfl)))))))))
   ·replace hS := cond_f hcm19 hS
    exact zdO (v := (.r (.ptr 0 0 17))) (ups := []) (some 22) 10 none (.ixA 2 1 (tm 21) (tm 18)) (ev_ixA1 (kk := .i64) (b := 0) (g := 0) (o := 16) (j := a2.Screen.Shift) (m := m19) (by kernel_rfl) (by kernel_rfl) hm19 hcm19) (zdR 2 12 (zdO (v := (.d (.int .u8 ((u8 a1).toNat : Int)))) (ups := []) (some 25) 13 none (.cvI .u8 (tm 24)) (ev_cv (kk := .i64) (a := a1) (by kernel_rfl) (u8_wrap _)) (bindE hS (fun z21 hz21 hS => zdO (some 26) 14 none (.call 271 [(tm 23), (tm 25)]) (ev_cA (f271_ok (d - 1) (dpt hd rfl) a2.Screen.Pages.2 (u8 a1) z21 hz21)) (zdR 4 18 (zdE (zkSeq (f246_j0_ok hd a1 a2 hQ z21.1 hS (by kernel_rfl)))))))))
  ·cases hS
 ·cases hS
/- farwriter/grid.Row -/
def f300_fin (p1 : List GCell) : St := ⟨(up u0 4 (.r (.msl 72 0 0 p1.length))), (up h0 72 ⟨0, some (.own 100 4 (e_GCell.cells p1))⟩)⟩
theorem f300_out (p1 : List GCell) : outR (f300_fin p1) 0 c300.res = some ((.r (.own 0 100 4 p1.length (e_GCell.cells p1))), []) := by
 exact out_of (ids := []) (ids' := [72]) (l := [(.r (.msl 72 0 0 p1.length))]) (by kernel_rfl) (by kernel_rfl) (o_own e_GCell (e := 100) (k := 4) (xs := p1) (by kernel_rfl) rfl rfl rfl rfl)
def f300_Q (r : (List GCell)) (e : PX) (st : St) : Prop := DoneF c300 0 ((.r (.own 0 100 4 r.length (e_GCell.cells r))), []) e st
def f300 (a1 : GGrid) (a2 : Int) : Option ((List GCell)) := ((f38 a1 a2).bind fun z3 => ((f91 z3).bind fun z4 => (some z4)))
theorem f300_ok (d : Nat) (hd : 2 ≤ d) (a1 : GGrid) (a2 : Int) (r : (List GCell)) (hS : f300 a1 a2 = some r) : lev codes baseL d 300 [(.agg (q20_ a1)), (dI a2)] [] = some ((.r (.own 0 100 4 r.length (e_GCell.cells r))), []) := by
 refine lvG hd (fun Q hQ => ?_) codes300
 unfold f300 at hS
 show ZR _ Q c300_b [] _
 replace hQ : FQ (f300_Q r) Q := hQ
 refine zS (zL 2 2 (zK (zS (zL 2 2 ?_))))
 refine bindE hS (fun z3 hz3 hS => zO (some 7) 3 (.callr 38 [(tm 5), (tm 6)]) (ev_cX [] [] (f38_ok (d - 1) (dpt hd rfl) a1 a2 z3 hz3) sm_nil) (bindE hS (fun z4 hz4 hS => zO (some 8) 4 (c1 91 7) (ev_cA (f91_ok (d - 1) (dpt hd rfl) z3 z4 hz4)) (zL 1 5 (zK ?_)))))
 exact zrRet (zkNil (endQ hS hQ (fR (f300_out z4))))
/- farwriter/grid.ScrollIn$1 -/
def f315_fin (p1 : List GCell) : St := ⟨(up u0 2 (.r (.msl 56 0 0 p1.length))), (up h0 56 ⟨0, some (.own 100 4 (e_GCell.cells p1))⟩)⟩
theorem f315_out (p1 : List GCell) : outR (f315_fin p1) 0 c315.res = some ((.r (.own 0 100 4 p1.length (e_GCell.cells p1))), []) := by
 exact out_of (ids := []) (ids' := [56]) (l := [(.r (.msl 56 0 0 p1.length))]) (by kernel_rfl) (by kernel_rfl) (o_own e_GCell (e := 100) (k := 4) (xs := p1) (by kernel_rfl) rfl rfl rfl rfl)
def f315_Q (r : (List GCell)) (e : PX) (st : St) : Prop := DoneF c315 0 ((.r (.own 0 100 4 r.length (e_GCell.cells r))), []) e st
def f315 (a1 : Int) (a2 : Int) (a3 : GPen) (a4 : List PD) : Option ((List GCell)) := ((f90 a1 1 a3).bind fun z2 => (some z2.2.2))
theorem f315_ok (d : Nat) (hd : 5 ≤ d) (a1 : Int) (a2 : Int) (a3 : GPen) (a4 : List PD) (r : (List GCell)) (hS : f315 a1 a2 a3 a4 = some r) : lev codes baseL d 315 [(.rptr [.int .i64 a1, .int .i64 a2, .un]), (.rptr (e_GPen.enc a3 ++ a4))] [] = some ((.r (.own 0 100 4 r.length (e_GCell.cells r))), []) := by
 refine lvG hd (fun Q hQ => ?_) codes315
 unfold f315 at hS
 show ZR _ Q c315_b [] _
 replace hQ : FQ (f315_Q r) Q := hQ
 refine zS (zL 1 1 (zK (zS (zL 3 3 ?_))))
 refine bindE hS (fun z2 hz2 hS => zO (some 6) 4 (.call 90 [(tm 4), (ki 1), (tm 5)]) (ev_cA (f90_ok (d - 1) (dpt hd rfl) a1 1 a3 z2 hz2)) (zL 2 6 (zK ?_)))
 exact zrRet (zkNil (endQ hS hQ (fR (f315_out z2.2.2))))
/- farwriter/grid.move[[]farwriter/api.Cell] -/
def f314_fin (p41 : Int) (p42 : Int) (p43 : List GCell) (p44 : GPen) (p45 : List (List GCell)) (p46 : List (List GCell)) : St := ⟨(up (up u0 2000000 .un) 6 (.r (.msl 64 0 0 p46.length))), (up (up (up (up (up h0 64 ⟨0, some (.own 32 1 ((eSl e_GCell).cells p46))⟩) 0 ⟨0, some (.own 32 1 ((eSl e_GCell).cells p45))⟩) 2 (q21_ p44)) 3 ⟨0, some (.own 100 4 (e_GCell.cells p43))⟩) 1 ⟨0, some (.box ((dI p41) :: ((dI p42) :: ((.r (.msl 3 0 0 p43.length)) :: []))))⟩)⟩
theorem f314_out (p41 : Int) (p42 : Int) (p43 : List GCell) (p44 : GPen) (p45 : List (List GCell)) (p46 : List (List GCell)) : outR (f314_fin p41 p42 p43 p44 p45 p46) 4 c314.res = some ((.r (.own 0 32 1 p46.length ((eSl e_GCell).cells p46))), [(.own 32 1 ((eSl e_GCell).cells p45)), (.box ((dI p41) :: ((dI p42) :: ((.r (.msl 3 0 0 p43.length)) :: [])))), (.box ((dI p44.Flags) :: ((dI p44.Fore) :: ((dI p44.Back) :: [])))), (.own 100 4 (e_GCell.cells p43))]) := by
 exact out_of (ids := []) (ids' := [64]) (l := [(.r (.msl 64 0 0 p46.length))]) (by kernel_rfl) (by kernel_rfl) (o_own (eSl e_GCell) (e := 32) (k := 1) (xs := p46) (by kernel_rfl) rfl rfl rfl rfl)
def f314_Q (r : Int × Int × (List GCell) × GPen × (List (List GCell)) × (List (List GCell))) (e : PX) (st : St) : Prop := DoneF c314 4 ((.r (.own 0 32 1 r.2.2.2.2.2.length ((eSl e_GCell).cells r.2.2.2.2.2))), [(.own 32 1 ((eSl e_GCell).cells r.2.2.2.2.1)), (.box ((dI r.1) :: ((dI r.2.1) :: ((.r (.msl 3 0 0 r.2.2.1.length)) :: [])))), (.box ((dI r.2.2.2.1.Flags) :: ((dI r.2.2.2.1.Fore) :: ((dI r.2.2.2.1.Back) :: [])))), (.own 100 4 (e_GCell.cells r.2.2.1)), .box []]) e st
def f314_l0_J (a1 : Int) (a2 : List (List GCell)) (a3 : Int) (a4 : Int) (a5 : GPen) (a6 : List GCell) (x : (List (List GCell)) × Int) : St := ⟨(up (up (up (up (up (up u0 12 (dI x.2)) 11 (dI (a2.length : Int))) 7 (.r (.msl 64 0 0 x.1.length))) 2 (.fn 315 [(pt 1), (pt 2)])) 1 (dI a1)) 0 (.r (.msl 0 0 0 a2.length))), (up (up (up (up (up h0 64 ⟨0, some (.own 32 1 ((eSl e_GCell).cells x.1))⟩) 0 ⟨0, some (.own 32 1 ((eSl e_GCell).cells a2))⟩) 2 (q21_ a5)) 3 ⟨0, some (.own 100 4 (e_GCell.cells a6))⟩) 1 ⟨0, some (.box ((dI a3) :: ((dI a4) :: ((.r (.msl 3 0 0 a6.length)) :: []))))⟩)⟩
def f314_l0_H (a1 : Int) (a2 : List (List GCell)) (a3 : Int) (a4 : Int) (a5 : GPen) (a6 : List GCell) (x : (List (List GCell)) × Int) (st : St) : Prop := keepSt [0, 1, 2, 7, 11, 12] [(1, .id 1), (3, .id 3), (2, .id 2), (0, .id 0), (64, .id 64)] [] st = f314_l0_J a1 a2 a3 a4 a5 a6 x
def f314_l0_e0_J (a1 : Int) (a2 : List (List GCell)) (a3 : Int) (a4 : Int) (a5 : GPen) (a6 : List GCell) (p40 : List (List GCell)) : St := ⟨(up u0 7 (.r (.msl 64 0 0 p40.length))), (up (up (up (up (up h0 64 ⟨0, some (.own 32 1 ((eSl e_GCell).cells p40))⟩) 0 ⟨0, some (.own 32 1 ((eSl e_GCell).cells a2))⟩) 2 (q21_ a5)) 3 ⟨0, some (.own 100 4 (e_GCell.cells a6))⟩) 1 ⟨0, some (.box ((dI a3) :: ((dI a4) :: ((.r (.msl 3 0 0 a6.length)) :: []))))⟩)⟩
def f314_l0_X (a1 : Int) (a2 : List (List GCell)) (a3 : Int) (a4 : Int) (a5 : GPen) (a6 : List GCell) (z : ((List (List GCell)))) (e : PX) (st : St) : Prop := e = .exit 0 ∧ st = f314_l0_e0_J a1 a2 a3 a4 a5 a6 z
def f314_l0_j3_J (a1 : Int) (a2 : List (List GCell)) (a3 : Int) (a4 : Int) (a5 : GPen) (a6 : List GCell) (p57 : List (List GCell)) (p58 : Int) : St := ⟨(up (up (up (up (up (up u0 12 (dI p58)) 11 (dI (a2.length : Int))) 7 (.r (.msl 64 0 0 p57.length))) 2 (.fn 315 [(pt 1), (pt 2)])) 1 (dI a1)) 0 (.r (.msl 0 0 0 a2.length))), (up (up (up (up (up h0 64 ⟨0, some (.own 32 1 ((eSl e_GCell).cells p57))⟩) 0 ⟨0, some (.own 32 1 ((eSl e_GCell).cells a2))⟩) 2 (q21_ a5)) 3 ⟨0, some (.own 100 4 (e_GCell.cells a6))⟩) 1 ⟨0, some (.box ((dI a3) :: ((dI a4) :: ((.r (.msl 3 0 0 a6.length)) :: []))))⟩)⟩
def f314_l0_j3 (a1 : Int) (a2 : List (List GCell)) (a3 : Int) (a4 : Int) (a5 : GPen) (a6 : List GCell) (p57 : List (List GCell)) (p58 : Int) : Option (((List (List GCell)) × Int) ⊕ (((List (List GCell))))) := ((f315 a3 a4 a5 []).bind fun z16 => ((app? 24 p57 ([z16] : List (List GCell))).bind fun z17 => (some (.inl (z17, (IntKind.i64.wrap (p58 + 1)))))))
theorem f314_l0_j3_ok (hd : 6 ≤ d) (a1 : Int) (a2 : List (List GCell)) (a3 : Int) (a4 : Int) (a5 : GPen) (a6 : List GCell) {r : ((List (List GCell)) × Int) ⊕ (((List (List GCell))))} (hQ : FQ (finL (f314_l0_H a1 a2 a3 a4 a5 a6) (f314_l0_X a1 a2 a3 a4 a5 a6) r) Q) (p57 : List (List GCell)) (p58 : Int) (hS : f314_l0_j3 a1 a2 a3 a4 a5 a6 p57 p58 = some r) (he : keepSt [0, 1, 2, 7, 11, 12] [(1, .id 1), (3, .id 3), (2, .id 2), (0, .id 0), (64, .id 64)] [] st = f314_l0_j3_J a1 a2 a3 a4 a5 a6 p57 p58) : ZX d Q c314_1 [.blk 1, .seq c314_2] st := by
 refine zrKeep he ?_
 unfold f314_l0_j3 at hS
 refine zrReg (zL 2 2 ?_)
 refine bindE hS (fun z16 hz16 hS => zO (v := (.r (.msl 288 1 0 z16.length))) (ups := [(288, ⟨1, some (.own 100 4 (e_GCell.cells z16))⟩)]) (some 35) 3 (.callv (tm 34) []) (ev_callv (f := 315) (cs := [(pt 1), (pt 2)]) (by kernel_rfl) (args := [(pt 1), (pt 2)]) (l := [(.rptr [.int .i64 a3, .int .i64 a4, .un]), (.rptr (e_GPen.enc a5 ++ []))]) (r := (.r (.own 0 100 4 z16.length (e_GCell.cells z16)))) (by kernel_rfl) (by kernel_rfl) (f315_ok (d - 1) (dpt hd rfl) a3 a4 a5 [] z16 hz16) (by simp only [free_own e_GCell (fun _ => rfl), free_tup, free_agg, free_nl, free_cs, free_int, free_bool, free_str, free_un, free_ni, free_s0, Bool.and_true, Bool.or_true, Bool.and_self]) (by kernel_rfl) (by kernel_rfl)) (zO (v := (.r (.msl 296 1 0 (([z16] : List (List GCell)).length)))) (ups := [(288, ⟨2, none⟩), (296, ⟨1, some (.own 32 1 ((eSl e_GCell).cells ([z16])))⟩)]) (some 36) 4 (.bsl 32 1 1 [(1, (.slice .none 0 0))] [(0, (1, (tm 35)))]) ((by kernel_rfl : peval _ _ 36 (ρof _) (.bsl 32 1 1 [(1, (.slice .none 0 0))] [(0, (1, (.tmp 35)))]) = some ((.r (.msl 296 1 0 (([z16] : List (List GCell)).length))), [(288, ⟨2, none⟩), (296, ⟨1, some (.own 32 1 [.sl z16.length (((e_GCell.cells z16).drop (0 * e_GCell.k)).take (z16.length * e_GCell.k))])⟩)])).trans (by simp only [Enc.frz]; rfl)) (bindE hS (fun z17 hz17 hS => zO (v := (.r (.msl 64 1 0 z17.length))) (ups := [(64, ⟨1, some (.own 32 1 ((eSl e_GCell).cells z17))⟩)]) (some 37) 5 (.app 32 1 24 (tm 33) (tm 36)) (ev_app (eSl e_GCell) (b := 64) (g := 0) (n := p57.length) (xs := p57) (ys := [z16]) ((congrArg (asL _) (by kernel_rfl : ρof _ (.tmp 36) = (.r (.msl 296 1 0 (([z16] : List (List GCell)).length))))).trans (as_whole (eSl e_GCell) (e := 32) (k := 1) (xs := [z16]) (by kernel_rfl) rfl rfl)) rfl (by kernel_rfl) rfl (by kernel_rfl) rfl hz17) (zL 1 6 (zE ?_))))))
 refine zkBlk (zkSeq (zrReg (zL 2 2 (zE ?_))))
 exact zkNil (eN1 hS hQ)
def f314_l0_j2_J (a1 : Int) (a2 : List (List GCell)) (a3 : Int) (a4 : Int) (a5 : GPen) (a6 : List GCell) (p53 : List (List GCell)) (p54 : Int) : St := ⟨(up (up (up (up (up (up u0 12 (dI p54)) 11 (dI (a2.length : Int))) 7 (.r (.msl 64 0 0 p53.length))) 2 (.fn 315 [(pt 1), (pt 2)])) 1 (dI a1)) 0 (.r (.msl 0 0 0 a2.length))), (up (up (up (up (up h0 64 ⟨0, some (.own 32 1 ((eSl e_GCell).cells p53))⟩) 0 ⟨0, some (.own 32 1 ((eSl e_GCell).cells a2))⟩) 2 (q21_ a5)) 3 ⟨0, some (.own 100 4 (e_GCell.cells a6))⟩) 1 ⟨0, some (.box ((dI a3) :: ((dI a4) :: ((.r (.msl 3 0 0 a6.length)) :: []))))⟩)⟩
def f314_l0_j2 (a1 : Int) (a2 : List (List GCell)) (a3 : Int) (a4 : Int) (a5 : GPen) (a6 : List GCell) (p53 : List (List GCell)) (p54 : Int) : Option (((List (List GCell)) × Int) ⊕ (((List (List GCell))))) := (bif (decide (0 ≤ (IntKind.i64.wrap (p54 - a1)))) then (bif (decide ((IntKind.i64.wrap (p54 - a1)) < (a2.length : Int))) then ((inR (IntKind.i64.wrap (p54 - a1)) a2.length).bind fun m18 => ((a2[m18]?).bind fun z19 => ((app? 24 p53 ([z19] : List (List GCell))).bind fun z20 => (some (.inl (z20, (IntKind.i64.wrap (p54 + 1)))))))) else (f314_l0_j3 a1 a2 a3 a4 a5 a6 p53 p54)) else (f314_l0_j3 a1 a2 a3 a4 a5 a6 p53 p54))
theorem f314_l0_j2_ok (hd : 6 ≤ d) (a1 : Int) (a2 : List (List GCell)) (a3 : Int) (a4 : Int) (a5 : GPen) (a6 : List GCell) {r : ((List (List GCell)) × Int) ⊕ (((List (List GCell))))} (hQ : FQ (finL (f314_l0_H a1 a2 a3 a4 a5 a6) (f314_l0_X a1 a2 a3 a4 a5 a6) r) Q) (p53 : List (List GCell)) (p54 : Int) (hS : f314_l0_j2 a1 a2 a3 a4 a5 a6 p53 p54 = some r) (he : keepSt [0, 1, 2, 7, 11, 12] [(1, .id 1), (3, .id 3), (2, .id 2), (0, .id 0), (64, .id 64)] [] st = f314_l0_j2_J a1 a2 a3 a4 a5 a6 p53 p54) : ZX d Q c314_3 [] st := by
 refine zrKeep he ?_
 unfold f314_l0_j2 at hS
 refine zrSeq (zrBlk (zS (zL 2 2 (zK (zS (zL 4 4 (zK (zS (zL 1 1 ?_)))))))))
 refine sB 19 2 (.cmpI .geq (tm 18) (ki 0)) hS (fun hS => ?_) (fun hS => ?_)
 ·refine zL 4 6 (sH 24 7 20 true (.cmpI .lss (tm 21) (tm 23)) hS (fun hS => ?_) (fun hS => ?_))
  ·refine zL 1 8 (zK (zT (zrReg (zL 3 3 ?_))))
   refine bindE hS (fun m18 hm18 hS => zO (v := (.r (.ptr 0 0 ((0 + m18) * 1)))) (ups := []) (some 29) 4 (.ixS 32 1 (tm 27) (tm 28)) (ev_ixM (kk := .i64) (b := 0) (g := 0) (l := 0) (n := a2.length) (j := (IntKind.i64.wrap (p54 - a1))) (cs := (eSl e_GCell).cells a2) (by kernel_rfl) (by kernel_rfl) (by kernel_rfl) hm18) (bindE hS (fun z19 hz19 hS => zO (v := (dE e_GCell z19)) (ups := []) (some 30) 5 (lf 1 29) (ev_loadM (eSl e_GCell) (b := 0) (g := 0) (o := (0 + m18) * 1) (e := 32) (k := 1) (m := m18) (fo := 0) (xs := a2) (by kernel_rfl) (by kernel_rfl) (by rw [Nat.zero_add]; rfl) hz19 (by kernel_rfl) (by kernel_rfl) (by kernel_rfl)) (zL 1 6 (bindE hS (fun z20 hz20 hS => zO (v := (.r (.msl 64 1 0 z20.length))) (ups := [(64, ⟨1, some (.own 32 1 ((eSl e_GCell).cells z20))⟩)]) (some 32) 7 (.app 32 1 24 (tm 26) (tm 31)) (ev_app (eSl e_GCell) (b := 64) (g := 0) (n := p53.length) (xs := p53) (ys := [z19]) ((congrArg (asL _) (by kernel_rfl : ρof _ (.tmp 31) = (.r (.msl 256 1 0 (([z19] : List (List GCell)).length))))).trans (as_whole (eSl e_GCell) (e := 32) (k := 1) (xs := [z19]) (by kernel_rfl) rfl rfl)) rfl (by kernel_rfl) rfl (by kernel_rfl) rfl hz20) (zL 1 8 (zE ?_))))))))
   refine zkBlk (zkSeq (zrReg (zL 2 2 (zE ?_))))
   exact zkNil (eN1 hS hQ)
  ·refine zL 1 8 (zK (zF ?_))
   exact f314_l0_j3_ok hd a1 a2 a3 a4 a5 a6 hQ p53 p54 hS (by kernel_rfl)
 ·refine zL 6 8 (zK (zF ?_))
  exact f314_l0_j3_ok hd a1 a2 a3 a4 a5 a6 hQ p53 p54 hS (by kernel_rfl)
def f314_l0_j1_J (a1 : Int) (a2 : List (List GCell)) (a3 : Int) (a4 : Int) (a5 : GPen) (a6 : List GCell) (p50 : List (List GCell)) (p51 : Int) (p52 : Bool) : St := ⟨(up (up (up (up (up (up (up u0 13 (dB p52)) 12 (dI p51)) 11 (dI (a2.length : Int))) 7 (.r (.msl 64 0 0 p50.length))) 2 (.fn 315 [(pt 1), (pt 2)])) 1 (dI a1)) 0 (.r (.msl 0 0 0 a2.length))), (up (up (up (up (up h0 64 ⟨0, some (.own 32 1 ((eSl e_GCell).cells p50))⟩) 0 ⟨0, some (.own 32 1 ((eSl e_GCell).cells a2))⟩) 2 (q21_ a5)) 3 ⟨0, some (.own 100 4 (e_GCell.cells a6))⟩) 1 ⟨0, some (.box ((dI a3) :: ((dI a4) :: ((.r (.msl 3 0 0 a6.length)) :: []))))⟩)⟩
def f314_l0_j1 (a1 : Int) (a2 : List (List GCell)) (a3 : Int) (a4 : Int) (a5 : GPen) (a6 : List GCell) (p50 : List (List GCell)) (p51 : Int) (p52 : Bool) : Option (((List (List GCell)) × Int) ⊕ (((List (List GCell))))) := (bif p52 then (f314_l0_j2 a1 a2 a3 a4 a5 a6 p50 p51) else (some (.inr p50)))
theorem f314_l0_j1_ok (hd : 6 ≤ d) (a1 : Int) (a2 : List (List GCell)) (a3 : Int) (a4 : Int) (a5 : GPen) (a6 : List GCell) {r : ((List (List GCell)) × Int) ⊕ (((List (List GCell))))} (hQ : FQ (finL (f314_l0_H a1 a2 a3 a4 a5 a6) (f314_l0_X a1 a2 a3 a4 a5 a6) r) Q) (p50 : List (List GCell)) (p51 : Int) (p52 : Bool) (hS : f314_l0_j1 a1 a2 a3 a4 a5 a6 p50 p51 p52 = some r) (he : keepSt [0, 1, 2, 7, 11, 12, 13] [(1, .id 1), (3, .id 3), (2, .id 2), (0, .id 0), (64, .id 64)] [] st = f314_l0_j1_J a1 a2 a3 a4 a5 a6 p50 p51 p52) : ZX d Q c314_4 [] st := by
 refine zrKeep he ?_
 unfold f314_l0_j1 at hS
 refine zrSeq (sR 13 hS (fun hS => ?_) (fun hS => ?_))
 ·exact zT (zrSkip (zkSeq (f314_l0_j2_ok hd a1 a2 a3 a4 a5 a6 hQ p50 p51 hS (by kernel_rfl))))
 ·exact zF (zrKeep (J := f314_l0_e0_J a1 a2 a3 a4 a5 a6 p50) (by kernel_rfl) (zrExit (zkSeqX (zkNil (eX0 hS hQ)))))
def f314_l0 (a1 : Int) (a2 : List (List GCell)) (a3 : Int) (a4 : Int) (a5 : GPen) (a6 : List GCell) (x : (List (List GCell)) × Int) : Option (((List (List GCell)) × Int) ⊕ (((List (List GCell))))) := (bif (decide (x.2 < (a2.length : Int))) then (f314_l0_j1 a1 a2 a3 a4 a5 a6 x.1 x.2 true) else (f314_l0_j1 a1 a2 a3 a4 a5 a6 x.1 x.2 false))
theorem f314_l0_ok (hd : 6 ≤ d) (a1 : Int) (a2 : List (List GCell)) (a3 : Int) (a4 : Int) (a5 : GPen) (a6 : List GCell) {r : ((List (List GCell)) × Int) ⊕ (((List (List GCell))))} (hQ : FQ (finL (f314_l0_H a1 a2 a3 a4 a5 a6) (f314_l0_X a1 a2 a3 a4 a5 a6) r) Q) {x : (List (List GCell)) × Int} (hS : f314_l0 a1 a2 a3 a4 a5 a6 x = some r) (he : f314_l0_H a1 a2 a3 a4 a5 a6 x st) : ZX d Q c314_5 [] st := by
 refine zrKeep he ?_
 unfold f314_l0 at hS
 refine zS ?_
 refine sB 13 1 (.cmpI .lss (tm 12) (tm 11)) hS (fun hS => ?_) (fun hS => ?_)
 ·refine zK ?_
  exact f314_l0_j1_ok hd a1 a2 a3 a4 a5 a6 hQ x.1 x.2 true hS (by kernel_rfl)
 ·refine zK ?_
  exact f314_l0_j1_ok hd a1 a2 a3 a4 a5 a6 hQ x.1 x.2 false hS (by kernel_rfl)
def f314 (a1 : Int) (a2 : List (List GCell)) (a3 : Int) (a4 : Int) (a5 : GPen) (a6 : List GCell) : Option (Int × Int × (List GCell) × GPen × (List (List GCell)) × (List (List GCell))) := ((loopO (f314_l0 a1 a2 a3 a4 a5 a6) ([], 0)).bind fun z21 => (some (a3, a4, a6, a5, a2, z21)))
theorem f314_ok (d : Nat) (hd : 6 ≤ d) (a1 : Int) (a2 : List (List GCell)) (a3 : Int) (a4 : Int) (a5 : GPen) (a6 : List GCell) (r : Int × Int × (List GCell) × GPen × (List (List GCell)) × (List (List GCell))) (hS : f314 a1 a2 a3 a4 a5 a6 = some r) : lev codes baseL d 314 [(.r (.msl 0 0 0 a2.length)), (dI a1), (.fn 315 [(pt 1), (pt 2)])] [(.own 32 1 ((eSl e_GCell).cells a2)), (.box ((dI a3) :: ((dI a4) :: ((.r (.msl 3 0 0 a6.length)) :: [])))), (.box ((dI a5.Flags) :: ((dI a5.Fore) :: ((dI a5.Back) :: [])))), (.own 100 4 (e_GCell.cells a6))] = some ((.r (.own 0 32 1 r.2.2.2.2.2.length ((eSl e_GCell).cells r.2.2.2.2.2))), [(.own 32 1 ((eSl e_GCell).cells r.2.2.2.2.1)), (.box ((dI r.1) :: ((dI r.2.1) :: ((.r (.msl 3 0 0 r.2.2.1.length)) :: [])))), (.box ((dI r.2.2.2.1.Flags) :: ((dI r.2.2.2.1.Fore) :: ((dI r.2.2.2.1.Back) :: [])))), (.own 100 4 (e_GCell.cells r.2.2.1)), .box []]) := by
 refine lvG hd (fun Q hQ => ?_) codes314
 unfold f314 at hS
 show ZR _ Q c314_b [] _
 replace hQ : FQ (f314_Q r) Q := hQ
 refine zS (zL 1 1 (zK (zS (zL 1 1 (zK (zrSeq (zS (zL 3 3 (zK ?_)))))))))
 refine zrBlk (bindE hS (fun z21 hz21 hS => zrLoop (f314_l0_H a1 a2 a3 a4 a5 a6) (f314_l0_X a1 a2 a3 a4 a5 a6) (fun x st r Q h0 hS hQ => f314_l0_ok hd a1 a2 a3 a4 a5 a6 hQ hS h0) (x := ([], 0)) (z := z21) (by show keepSt _ _ _ _ = _; kernel_rfl) hz21 ?_))
 intro e st' _ hX
 obtain ⟨rfl, rfl⟩ : _ ∧ _ := hX
 refine zkBlkX (zkSeq (zS (zL 2 2 (zK ?_))))
 exact zrRet (zkNil (endQ hS hQ (fRetX (by kernel_rfl) (by kernel_rfl : finSt c314.fin _ = f314_fin a3 a4 a6 a5 a2 z21) (by kernel_rfl) (f314_out a3 a4 a6 a5 a2 z21))))
/- farwriter/grid.ScrollIn -/
def f301_fin (p56 : List GCell) : St := ⟨(up u0 2000000 .un), (up h0 0 ⟨0, some (.own 100 4 (e_GCell.cells p56))⟩)⟩
theorem f301_out (p56 : List GCell) : outR (f301_fin p56) 1 c301.res = some ((.tup []), [(.own 100 4 (e_GCell.cells p56))]) := by
 kernel_rfl
def f301_Q (r : (List GCell)) (e : PX) (st : St) : Prop := DoneF c301 1 ((.tup []), [(.own 100 4 (e_GCell.cells r)), .box []]) e st
def f301_l1_J (a1 : Int) (a2 : Int) (a3 : Int) (a4 : Int) (a5 : Int) (a6 : GPen) (a7 : List GCell) (x : (List GCell) × Int × Int × (List (List GCell)) × Int × Int) : St := ⟨(up (up (up (up (up u0 34 (dI x.2.2.2.2.2)) 33 (dI x.2.2.2.2.1)) 32 (.r (.msl 256 0 0 x.2.2.2.1.length))) 5 (pt 48)) 1 (dI a3)), (up (up (up h0 256 ⟨0, some (.own 32 1 ((eSl e_GCell).cells x.2.2.2.1))⟩) 48 ⟨0, some (.box ((dI x.2.1) :: ((dI x.2.2.1) :: ((.r (.msl 0 0 0 x.1.length)) :: []))))⟩) 0 ⟨0, some (.own 100 4 (e_GCell.cells x.1))⟩)⟩
def f301_l1_H (a1 : Int) (a2 : Int) (a3 : Int) (a4 : Int) (a5 : Int) (a6 : GPen) (a7 : List GCell) (x : (List GCell) × Int × Int × (List (List GCell)) × Int × Int) (st : St) : Prop := keepSt [1, 5, 32, 33, 34] [(0, .id 0), (48, .id 48), (256, .id 256)] [] st = f301_l1_J a1 a2 a3 a4 a5 a6 a7 x
def f301_l1_e2_J (a1 : Int) (a2 : Int) (a3 : Int) (a4 : Int) (a5 : Int) (a6 : GPen) (a7 : List GCell) (p96 : List GCell) : St := ⟨u0, (up h0 0 ⟨0, some (.own 100 4 (e_GCell.cells p96))⟩)⟩
def f301_l1_X (a1 : Int) (a2 : Int) (a3 : Int) (a4 : Int) (a5 : Int) (a6 : GPen) (a7 : List GCell) (z : ((List GCell))) (e : PX) (st : St) : Prop := e = .exit 2 ∧ st = f301_l1_e2_J a1 a2 a3 a4 a5 a6 a7 z
def f301_l1_j3_J (a1 : Int) (a2 : Int) (a3 : Int) (a4 : Int) (a5 : Int) (a6 : GPen) (a7 : List GCell) (p111 : List GCell) (p112 : Int) (p113 : Int) (p114 : List (List GCell)) (p115 : Int) (p116 : Int) : St := ⟨(up (up (up (up (up u0 34 (dI p116)) 33 (dI p115)) 32 (.r (.msl 256 0 0 p114.length))) 5 (pt 48)) 1 (dI a3)), (up (up (up h0 256 ⟨0, some (.own 32 1 ((eSl e_GCell).cells p114))⟩) 48 ⟨0, some (.box ((dI p112) :: ((dI p113) :: ((.r (.msl 0 0 0 p111.length)) :: []))))⟩) 0 ⟨0, some (.own 100 4 (e_GCell.cells p111))⟩)⟩
def f301_l1_j3 (a1 : Int) (a2 : Int) (a3 : Int) (a4 : Int) (a5 : Int) (a6 : GPen) (a7 : List GCell) (p111 : List GCell) (p112 : Int) (p113 : Int) (p114 : List (List GCell)) (p115 : Int) (p116 : Int) : Option (((List GCell) × Int × Int × (List (List GCell)) × Int × Int) ⊕ (((List GCell)))) := ((inR p116 p114.length).bind fun m58 => ((p114[m58]?).bind fun z59 => ((f38v1 p112 p113 (IntKind.i64.wrap (a3 + p116)) p111).bind fun z60 => ((chk (decide (z60.1.length = p111.length))).bind fun z61 => ((chk (decide (z60.2.1 + z60.2.2 ≤ z60.1.length))).bind fun z62 => ((some (cpyL z60.1 z60.2.1 z60.2.2 z59)).bind fun z63 => (some (.inl (z63, p112, p113, p114, p115, (IntKind.i64.wrap (p116 + 1)))))))))))
theorem f301_l1_j3_ok (hd : 7 ≤ d) (a1 : Int) (a2 : Int) (a3 : Int) (a4 : Int) (a5 : Int) (a6 : GPen) (a7 : List GCell) {r : ((List GCell) × Int × Int × (List (List GCell)) × Int × Int) ⊕ (((List GCell)))} (hQ : FQ (finL (f301_l1_H a1 a2 a3 a4 a5 a6 a7) (f301_l1_X a1 a2 a3 a4 a5 a6 a7) r) Q) (p111 : List GCell) (p112 : Int) (p113 : Int) (p114 : List (List GCell)) (p115 : Int) (p116 : Int) (hS : f301_l1_j3 a1 a2 a3 a4 a5 a6 a7 p111 p112 p113 p114 p115 p116 = some r) (he : keepSt [1, 5, 32, 33, 34] [(0, .id 0), (48, .id 48), (256, .id 256)] [] st = f301_l1_j3_J a1 a2 a3 a4 a5 a6 a7 p111 p112 p113 p114 p115 p116) : ZX d Q c301_1 [] st := by
 refine zrKeep he ?_
 unfold f301_l1_j3 at hS
 refine zrSeq (zrBlk (zS (zL 1 1 ?_)))
 refine bindE hS (fun m58 hm58 hS => zO (v := (.r (.ptr 256 0 ((0 + m58) * 1)))) (ups := []) (some 37) 2 (.ixS 32 1 (tm 32) (tm 34)) (ev_ixM (kk := .i64) (b := 256) (g := 0) (l := 0) (n := p114.length) (j := p116) (cs := (eSl e_GCell).cells p114) (by kernel_rfl) (by kernel_rfl) (by kernel_rfl) hm58) (bindE hS (fun z59 hz59 hS => zO (v := (dE e_GCell z59)) (ups := []) (some 38) 3 (lf 1 37) (ev_loadM (eSl e_GCell) (b := 256) (g := 0) (o := (0 + m58) * 1) (e := 32) (k := 1) (m := m58) (fo := 0) (xs := p114) (by kernel_rfl) (by kernel_rfl) (by rw [Nat.zero_add]; rfl) hz59 (by kernel_rfl) (by kernel_rfl) (by kernel_rfl)) (zL 2 5 (zK (zrReg (zL 4 4 ?_)))))))
 refine bindE hS (fun z60 hz60 hS => bindE hS (fun z61 hz61 hS => zO (some 43) 5 (.callr 38 [(tm 39), (tm 42)]) (ev_cX [0] [(.own 100 4 (e_GCell.cells p111))] (f38v1_ok (d - 1) (dpt hd rfl) p112 p113 (IntKind.i64.wrap (a3 + p116)) p111 z60 hz60) (sm_own e_GCell (e1 := 100) (k1 := 4) (xs := p111) (ys := z60.1) (by kernel_rfl) hz61 sm_nil)) ?_))
 have lz61 : p111.length = z60.1.length := (of_decide_eq_true (chk_t hz61)).symm
 try delta f301_l1_j3_J
 try delta q2_ q3_ q5_ q6_ q7_ q10_ q11_ q14_ q15_ q19_ q27_ q29_ q34_
 try delta bm_GScreen
 try rw [lz61]
 refine zL 1 6 (bindE hS (fun z62 hz62 hS => bindE hS (fun z63 hz63 hS => zO (v := (dI ((min z59.length z60.2.2 : Nat) : Int))) (ups := [(0, ⟨0, some (.own 100 4 (e_GCell.cells (cpyL z60.1 z60.2.1 z60.2.2 z59)))⟩)]) (some 45) 7 (.cpy 4 (tm 43) (tm 44)) (ev_cpy e_GCell (b := 0) (g := 0) (l := z60.2.1) (n := z60.2.2) (e := 100) (xs := z60.1) (ys := z59) (by kernel_rfl) (by kernel_rfl) rfl ((congrArg (asL _) (by kernel_rfl : ρof _ (.tmp 44) = (dE e_GCell z59))).trans (as_d _ _)) hz62) ?_)))
 have ez63 := Option.some.inj hz63
 have lz63 : z60.1.length = z63.length := by rw [← ez63]; exact (cpyL_len (of_decide_eq_true (chk_t hz62))).symm
 rw [ez63]
 try delta f301_l1_j3_J
 try delta q2_ q3_ q5_ q6_ q7_ q10_ q11_ q14_ q15_ q19_ q27_ q29_ q34_
 try delta bm_GScreen
 try rw [lz63]
 refine zE (zkBlk (zkSeq (zrReg (zL 2 2 (zE ?_)))))
 exact zkNil (eN1 hS hQ)
def f301_l1_j2_J (a1 : Int) (a2 : Int) (a3 : Int) (a4 : Int) (a5 : Int) (a6 : GPen) (a7 : List GCell) (p104 : List GCell) (p105 : Int) (p106 : Int) (p107 : List (List GCell)) (p108 : Int) (p109 : Int) (p110 : Bool) : St := ⟨(up (up (up (up (up (up u0 35 (dB p110)) 34 (dI p109)) 33 (dI p108)) 32 (.r (.msl 256 0 0 p107.length))) 5 (pt 48)) 1 (dI a3)), (up (up (up h0 256 ⟨0, some (.own 32 1 ((eSl e_GCell).cells p107))⟩) 48 ⟨0, some (.box ((dI p105) :: ((dI p106) :: ((.r (.msl 0 0 0 p104.length)) :: []))))⟩) 0 ⟨0, some (.own 100 4 (e_GCell.cells p104))⟩)⟩
def f301_l1_j2 (a1 : Int) (a2 : Int) (a3 : Int) (a4 : Int) (a5 : Int) (a6 : GPen) (a7 : List GCell) (p104 : List GCell) (p105 : Int) (p106 : Int) (p107 : List (List GCell)) (p108 : Int) (p109 : Int) (p110 : Bool) : Option (((List GCell) × Int × Int × (List (List GCell)) × Int × Int) ⊕ (((List GCell)))) := (bif p110 then (f301_l1_j3 a1 a2 a3 a4 a5 a6 a7 p104 p105 p106 p107 p108 p109) else (some (.inr p104)))
theorem f301_l1_j2_ok (hd : 7 ≤ d) (a1 : Int) (a2 : Int) (a3 : Int) (a4 : Int) (a5 : Int) (a6 : GPen) (a7 : List GCell) {r : ((List GCell) × Int × Int × (List (List GCell)) × Int × Int) ⊕ (((List GCell)))} (hQ : FQ (finL (f301_l1_H a1 a2 a3 a4 a5 a6 a7) (f301_l1_X a1 a2 a3 a4 a5 a6 a7) r) Q) (p104 : List GCell) (p105 : Int) (p106 : Int) (p107 : List (List GCell)) (p108 : Int) (p109 : Int) (p110 : Bool) (hS : f301_l1_j2 a1 a2 a3 a4 a5 a6 a7 p104 p105 p106 p107 p108 p109 p110 = some r) (he : keepSt [1, 5, 32, 33, 34, 35] [(0, .id 0), (48, .id 48), (256, .id 256)] [] st = f301_l1_j2_J a1 a2 a3 a4 a5 a6 a7 p104 p105 p106 p107 p108 p109 p110) : ZX d Q c301_2 [] st := by
 refine zrKeep he ?_
 unfold f301_l1_j2 at hS
 refine zrSeq (sR 35 hS (fun hS => ?_) (fun hS => ?_))
 ·exact zT (zrSkip (zkSeq (f301_l1_j3_ok hd a1 a2 a3 a4 a5 a6 a7 hQ p104 p105 p106 p107 p108 p109 hS (by kernel_rfl))))
 ·exact zF (zrKeep (J := f301_l1_e2_J a1 a2 a3 a4 a5 a6 a7 p104) (by kernel_rfl) (zrExit (zkSeqX (zkNil (eX0 hS hQ)))))
def f301_l1 (a1 : Int) (a2 : Int) (a3 : Int) (a4 : Int) (a5 : Int) (a6 : GPen) (a7 : List GCell) (x : (List GCell) × Int × Int × (List (List GCell)) × Int × Int) : Option (((List GCell) × Int × Int × (List (List GCell)) × Int × Int) ⊕ (((List GCell)))) := (bif (decide (x.2.2.2.2.2 < x.2.2.2.2.1)) then (f301_l1_j2 a1 a2 a3 a4 a5 a6 a7 x.1 x.2.1 x.2.2.1 x.2.2.2.1 x.2.2.2.2.1 x.2.2.2.2.2 true) else (f301_l1_j2 a1 a2 a3 a4 a5 a6 a7 x.1 x.2.1 x.2.2.1 x.2.2.2.1 x.2.2.2.2.1 x.2.2.2.2.2 false))
theorem f301_l1_ok (hd : 7 ≤ d) (a1 : Int) (a2 : Int) (a3 : Int) (a4 : Int) (a5 : Int) (a6 : GPen) (a7 : List GCell) {r : ((List GCell) × Int × Int × (List (List GCell)) × Int × Int) ⊕ (((List GCell)))} (hQ : FQ (finL (f301_l1_H a1 a2 a3 a4 a5 a6 a7) (f301_l1_X a1 a2 a3 a4 a5 a6 a7) r) Q) {x : (List GCell) × Int × Int × (List (List GCell)) × Int × Int} (hS : f301_l1 a1 a2 a3 a4 a5 a6 a7 x = some r) (he : f301_l1_H a1 a2 a3 a4 a5 a6 a7 x st) : ZX d Q c301_3 [] st := by
 refine zrKeep he ?_
 unfold f301_l1 at hS
 refine zS ?_
 refine sB 35 1 (.cmpI .lss (tm 34) (tm 33)) hS (fun hS => ?_) (fun hS => ?_)
 ·refine zK ?_
  exact f301_l1_j2_ok hd a1 a2 a3 a4 a5 a6 a7 hQ x.1 x.2.1 x.2.2.1 x.2.2.2.1 x.2.2.2.2.1 x.2.2.2.2.2 true hS (by kernel_rfl)
 ·refine zK ?_
  exact f301_l1_j2_ok hd a1 a2 a3 a4 a5 a6 a7 hQ x.1 x.2.1 x.2.2.1 x.2.2.2.1 x.2.2.2.2.1 x.2.2.2.2.2 false hS (by kernel_rfl)
def f301_j0_J (a1 : Int) (a2 : Int) (a3 : Int) (a4 : Int) (a5 : Int) (a6 : GPen) (a7 : List GCell) (p57 : List GCell) (p58 : List (List GCell)) : St := ⟨(up (up (up (up (up u0 10 (.r (.msl 88 0 0 p58.length))) 9 (pt 80)) 5 (pt 48)) 3 (dI a5)) 1 (dI a3)), (up (up (up (up h0 88 ⟨0, some (.own 32 1 ((eSl e_GCell).cells p58))⟩) 80 (q21_ a6)) 48 ⟨0, some (.box ((dI a1) :: ((dI a2) :: ((.r (.msl 0 0 0 p57.length)) :: []))))⟩) 0 ⟨0, some (.own 100 4 (e_GCell.cells p57))⟩)⟩
def f301_j0 (a1 : Int) (a2 : Int) (a3 : Int) (a4 : Int) (a5 : Int) (a6 : GPen) (a7 : List GCell) (p57 : List GCell) (p58 : List (List GCell)) : Option ((List GCell)) := ((f314 (IntKind.i64.wrap (0 - a5)) p58 a1 a2 a6 p57).bind fun z37 => ((chk (decide (z37.2.2.1.length = p57.length))).bind fun z38 => ((chk (decide (z37.2.2.2.2.1.length = p58.length))).bind fun z39 => ((loopO (f301_l1 a1 a2 a3 a4 a5 a6 a7) (z37.2.2.1, z37.1, z37.2.1, z37.2.2.2.2.2, (z37.2.2.2.2.2.length : Int), 0)).bind fun z64 => (some z64)))))
theorem f301_j0_ok (hd : 7 ≤ d) (a1 : Int) (a2 : Int) (a3 : Int) (a4 : Int) (a5 : Int) (a6 : GPen) (a7 : List GCell) {r : (List GCell)} (hQ : FQ (f301_Q r) Q) (p57 : List GCell) (p58 : List (List GCell)) (hS : f301_j0 a1 a2 a3 a4 a5 a6 a7 p57 p58 = some r) (he : keepSt [1, 3, 5, 9, 10] [(0, .id 0), (48, .id 48), (80, .id 80), (88, .id 88)] [] st = f301_j0_J a1 a2 a3 a4 a5 a6 a7 p57 p58) : ZX d Q c301_4 [] st := by
 refine zrKeep he ?_
 unfold f301_j0 at hS
 refine zS (zL 4 4 ?_)
 refine bindE hS (fun z37 hz37 hS => bindE hS (fun z38 hz38 hS => bindE hS (fun z39 hz39 hS => zO (some 31) 5 (.callr 314 [(tm 27), (tm 29), (tm 30)]) (ev_cX [88, 48, 80, 0] [(.own 32 1 ((eSl e_GCell).cells p58)), (.box ((dI a1) :: ((dI a2) :: ((.r (.msl 0 0 0 p57.length)) :: [])))), (.box ((dI a6.Flags) :: ((dI a6.Fore) :: ((dI a6.Back) :: [])))), (.own 100 4 (e_GCell.cells p57))] (f314_ok (d - 1) (dpt hd rfl) (IntKind.i64.wrap (0 - a5)) p58 a1 a2 a6 p57 z37 hz37) (sm_own (eSl e_GCell) (e1 := 32) (k1 := 1) (xs := p58) (ys := z37.2.2.2.2.1) (by kernel_rfl) hz39 (sm_box (cs := ((dI a1) :: ((dI a2) :: ((.r (.msl 0 0 0 p57.length)) :: [])))) (by kernel_rfl) (sm_box (cs := ((dI a6.Flags) :: ((dI a6.Fore) :: ((dI a6.Back) :: [])))) (by kernel_rfl) (sm_own e_GCell (e1 := 100) (k1 := 4) (xs := p57) (ys := z37.2.2.1) (by kernel_rfl) hz38 sm_nil))))) ?_)))
 have lz38 : p57.length = z37.2.2.1.length := (of_decide_eq_true (chk_t hz38)).symm
 try delta f301_j0_J
 try delta q2_ q3_ q5_ q6_ q7_ q10_ q11_ q14_ q15_ q19_ q27_ q29_ q34_
 try delta bm_GScreen
 try rw [lz38]
 have lz39 : p58.length = z37.2.2.2.2.1.length := (of_decide_eq_true (chk_t hz39)).symm
 try delta f301_j0_J
 try delta q2_ q3_ q5_ q6_ q7_ q10_ q11_ q14_ q15_ q19_ q27_ q29_ q34_
 try delta bm_GScreen
 try rw [lz39]
 refine zL 1 6 (zK (zS (zL 3 3 (zK ?_))))
 refine zrBlk (bindE hS (fun z64 hz64 hS => zrLoop (f301_l1_H a1 a2 a3 a4 a5 a6 a7) (f301_l1_X a1 a2 a3 a4 a5 a6 a7) (fun x st r Q h0 hS hQ => f301_l1_ok hd a1 a2 a3 a4 a5 a6 a7 hQ hS h0) (x := (z37.2.2.1, z37.1, z37.2.1, z37.2.2.2.2.2, (z37.2.2.2.2.2.length : Int), 0)) (z := z64) (by show keepSt _ _ _ _ = _; kernel_rfl) hz64 ?_))
 intro e st' _ hX
 obtain ⟨rfl, rfl⟩ : _ ∧ _ := hX
 exact zkBlkX (zkNil (endQ hS hQ (fNormX (by kernel_rfl) (by kernel_rfl : finSt c301.fin _ = f301_fin z64) (by kernel_rfl) (f301_out z64))))
def f301_l4_J (a1 : Int) (a2 : Int) (a3 : Int) (a4 : Int) (a5 : Int) (a6 : GPen) (a7 : List GCell) (x : (List GCell) × (List (List GCell)) × Int) : St := ⟨(up (up (up (up (up (up (up u0 11 (dI x.2.2)) 10 (.r (.msl 88 0 0 x.2.1.length))) 9 (pt 80)) 5 (pt 48)) 3 (dI a5)) 2 (dI a4)) 1 (dI a3)), (up (up (up (up h0 88 ⟨0, some (.own 32 1 ((eSl e_GCell).cells x.2.1))⟩) 80 (q21_ a6)) 48 ⟨0, some (.box ((dI a1) :: ((dI a2) :: ((.r (.msl 0 0 0 x.1.length)) :: []))))⟩) 0 ⟨0, some (.own 100 4 (e_GCell.cells x.1))⟩)⟩
def f301_l4_H (a1 : Int) (a2 : Int) (a3 : Int) (a4 : Int) (a5 : Int) (a6 : GPen) (a7 : List GCell) (x : (List GCell) × (List (List GCell)) × Int) (st : St) : Prop := keepSt [1, 2, 3, 5, 9, 10, 11] [(0, .id 0), (48, .id 48), (80, .id 80), (88, .id 88)] [] st = f301_l4_J a1 a2 a3 a4 a5 a6 a7 x
def f301_l4_e0_J (a1 : Int) (a2 : Int) (a3 : Int) (a4 : Int) (a5 : Int) (a6 : GPen) (a7 : List GCell) (p16 : List GCell) (p17 : List (List GCell)) : St := ⟨(up (up (up (up (up u0 10 (.r (.msl 88 0 0 p17.length))) 9 (pt 80)) 5 (pt 48)) 3 (dI a5)) 1 (dI a3)), (up (up (up (up h0 88 ⟨0, some (.own 32 1 ((eSl e_GCell).cells p17))⟩) 80 (q21_ a6)) 48 ⟨0, some (.box ((dI a1) :: ((dI a2) :: ((.r (.msl 0 0 0 p16.length)) :: []))))⟩) 0 ⟨0, some (.own 100 4 (e_GCell.cells p16))⟩)⟩
def f301_l4_X (a1 : Int) (a2 : Int) (a3 : Int) (a4 : Int) (a5 : Int) (a6 : GPen) (a7 : List GCell) (z : ((List GCell) × (List (List GCell)))) (e : PX) (st : St) : Prop := e = .exit 0 ∧ st = f301_l4_e0_J a1 a2 a3 a4 a5 a6 a7 z.1 z.2
def f301_l4_j5_J (a1 : Int) (a2 : Int) (a3 : Int) (a4 : Int) (a5 : Int) (a6 : GPen) (a7 : List GCell) (p121 : List GCell) (p122 : List (List GCell)) (p123 : Int) : St := ⟨(up (up (up (up (up (up (up u0 11 (dI p123)) 10 (.r (.msl 88 0 0 p122.length))) 9 (pt 80)) 5 (pt 48)) 3 (dI a5)) 2 (dI a4)) 1 (dI a3)), (up (up (up (up h0 88 ⟨0, some (.own 32 1 ((eSl e_GCell).cells p122))⟩) 80 (q21_ a6)) 48 ⟨0, some (.box ((dI a1) :: ((dI a2) :: ((.r (.msl 0 0 0 p121.length)) :: []))))⟩) 0 ⟨0, some (.own 100 4 (e_GCell.cells p121))⟩)⟩
def f301_l4_j5 (a1 : Int) (a2 : Int) (a3 : Int) (a4 : Int) (a5 : Int) (a6 : GPen) (a7 : List GCell) (p121 : List GCell) (p122 : List (List GCell)) (p123 : Int) : Option (((List GCell) × (List (List GCell)) × Int) ⊕ (((List GCell) × (List (List GCell))))) := ((f38v1 a1 a2 p123 p121).bind fun z65 => ((chk (decide (z65.1.length = p121.length))).bind fun z66 => ((part? z65.1 z65.2.1 z65.2.2).bind fun z67 => ((f91 z67).bind fun z68 => ((app? 24 p122 ([z68] : List (List GCell))).bind fun z69 => (some (.inl (z65.1, z69, (IntKind.i64.wrap (p123 + 1))))))))))
theorem f301_l4_j5_ok (hd : 7 ≤ d) (a1 : Int) (a2 : Int) (a3 : Int) (a4 : Int) (a5 : Int) (a6 : GPen) (a7 : List GCell) {r : ((List GCell) × (List (List GCell)) × Int) ⊕ (((List GCell) × (List (List GCell))))} (hQ : FQ (finL (f301_l4_H a1 a2 a3 a4 a5 a6 a7) (f301_l4_X a1 a2 a3 a4 a5 a6 a7) r) Q) (p121 : List GCell) (p122 : List (List GCell)) (p123 : Int) (hS : f301_l4_j5 a1 a2 a3 a4 a5 a6 a7 p121 p122 p123 = some r) (he : keepSt [1, 2, 3, 5, 9, 10, 11] [(0, .id 0), (48, .id 48), (80, .id 80), (88, .id 88)] [] st = f301_l4_j5_J a1 a2 a3 a4 a5 a6 a7 p121 p122 p123) : ZX d Q c301_5 [] st := by
 refine zrKeep he ?_
 unfold f301_l4_j5 at hS
 refine zrSeq (zrBlk (zrReg (zL 3 3 ?_)))
 refine bindE hS (fun z65 hz65 hS => bindE hS (fun z66 hz66 hS => zO (some 23) 4 (.callr 38 [(tm 21), (tm 22)]) (ev_cX [0] [(.own 100 4 (e_GCell.cells p121))] (f38v1_ok (d - 1) (dpt hd rfl) a1 a2 p123 p121 z65 hz65) (sm_own e_GCell (e1 := 100) (k1 := 4) (xs := p121) (ys := z65.1) (by kernel_rfl) hz66 sm_nil)) ?_))
 have lz66 : p121.length = z65.1.length := (of_decide_eq_true (chk_t hz66)).symm
 try delta f301_l4_j5_J
 try delta q2_ q3_ q5_ q6_ q7_ q10_ q11_ q14_ q15_ q19_ q27_ q29_ q34_
 try delta bm_GScreen
 try rw [lz66]
 refine bindE hS (fun z67 hz67 hS => bindE hS (fun z68 hz68 hS => zO (some 24) 5 (c1 91 23) (ev_callB (args := [(.r (.msl 0 0 z65.2.1 z65.2.2))]) (by kernel_rfl) (l_cons (l_part e_GCell (e := 100) (k := 4) (xs := z65.1) (by kernel_rfl) rfl hz67) l_nil) (f91_ok (d - 1) (dpt hd rfl) z67 z68 hz68) (by simp only [free_own e_GCell (fun _ => rfl), free_tup, free_agg, free_nl, free_cs, free_int, free_bool, free_str, free_un, free_ni, free_s0, Bool.and_true, Bool.or_true, Bool.and_self]) (by kernel_rfl)) (zO (v := (.r (.msl 208 1 0 (([z68] : List (List GCell)).length)))) (ups := [(200, ⟨2, none⟩), (208, ⟨1, some (.own 32 1 ((eSl e_GCell).cells ([z68])))⟩)]) (some 25) 6 (.bsl 32 1 1 [(1, (.slice .none 0 0))] [(0, (1, (tm 24)))]) ((by kernel_rfl : peval _ _ 25 (ρof _) (.bsl 32 1 1 [(1, (.slice .none 0 0))] [(0, (1, (.tmp 24)))]) = some ((.r (.msl 208 1 0 (([z68] : List (List GCell)).length))), [(200, ⟨2, none⟩), (208, ⟨1, some (.own 32 1 [.sl z68.length (((e_GCell.cells z68).drop (0 * e_GCell.k)).take (z68.length * e_GCell.k))])⟩)])).trans (by simp only [Enc.frz]; rfl)) (bindE hS (fun z69 hz69 hS => zO (v := (.r (.msl 88 1 0 z69.length))) (ups := [(88, ⟨1, some (.own 32 1 ((eSl e_GCell).cells z69))⟩)]) (some 26) 7 (.app 32 1 24 (tm 20) (tm 25)) (ev_app (eSl e_GCell) (b := 88) (g := 0) (n := p122.length) (xs := p122) (ys := [z68]) ((congrArg (asL _) (by kernel_rfl : ρof _ (.tmp 25) = (.r (.msl 208 1 0 (([z68] : List (List GCell)).length))))).trans (as_whole (eSl e_GCell) (e := 32) (k := 1) (xs := [z68]) (by kernel_rfl) rfl rfl)) rfl (by kernel_rfl) rfl (by kernel_rfl) rfl hz69) (zL 1 8 (zE ?_)))))))
 refine zkBlk (zkSeq (zrReg (zL 3 3 (zE ?_))))
 exact zkNil (eN1 hS hQ)
def f301_l4 (a1 : Int) (a2 : Int) (a3 : Int) (a4 : Int) (a5 : Int) (a6 : GPen) (a7 : List GCell) (x : (List GCell) × (List (List GCell)) × Int) : Option (((List GCell) × (List (List GCell)) × Int) ⊕ (((List GCell) × (List (List GCell))))) := (bif (decide (x.2.2 < a4)) then (f301_l4_j5 a1 a2 a3 a4 a5 a6 a7 x.1 x.2.1 x.2.2) else (some (.inr (x.1, x.2.1))))
theorem f301_l4_ok (hd : 7 ≤ d) (a1 : Int) (a2 : Int) (a3 : Int) (a4 : Int) (a5 : Int) (a6 : GPen) (a7 : List GCell) {r : ((List GCell) × (List (List GCell)) × Int) ⊕ (((List GCell) × (List (List GCell))))} (hQ : FQ (finL (f301_l4_H a1 a2 a3 a4 a5 a6 a7) (f301_l4_X a1 a2 a3 a4 a5 a6 a7) r) Q) {x : (List GCell) × (List (List GCell)) × Int} (hS : f301_l4 a1 a2 a3 a4 a5 a6 a7 x = some r) (he : f301_l4_H a1 a2 a3 a4 a5 a6 a7 x st) : ZX d Q c301_6 [] st := by
 refine zrKeep he ?_
 unfold f301_l4 at hS
 refine zrSeq (zS (zL 2 2 ?_))
 refine sB 17 3 (.cmpI .lss (tm 15) (tm 16)) hS (fun hS => ?_) (fun hS => ?_)
 ·refine zK (zT ?_)
  exact zrSkip (zkSeq (f301_l4_j5_ok hd a1 a2 a3 a4 a5 a6 a7 hQ x.1 x.2.1 x.2.2 hS (by kernel_rfl)))
 ·refine zK (zF ?_)
  exact zrKeep (J := f301_l4_e0_J a1 a2 a3 a4 a5 a6 a7 x.1 x.2.1) (by kernel_rfl) (zrExit (zkSeqX (zkNil (eX0 hS hQ))))
def f301 (a1 : Int) (a2 : Int) (a3 : Int) (a4 : Int) (a5 : Int) (a6 : GPen) (a7 : List GCell) : Option ((List GCell)) := ((loopO (f301_l4 a1 a2 a3 a4 a5 a6 a7) (a7, [], a3)).bind fun z70 => (f301_j0 a1 a2 a3 a4 a5 a6 a7 z70.1 z70.2))
theorem f301_ok (d : Nat) (hd : 7 ≤ d) (a1 : Int) (a2 : Int) (a3 : Int) (a4 : Int) (a5 : Int) (a6 : GPen) (a7 : List GCell) (r : (List GCell)) (hS : f301 a1 a2 a3 a4 a5 a6 a7 = some r) : lev codes baseL d 301 [(.agg ((dI a1) :: ((dI a2) :: ((.r (.msl 0 0 0 a7.length)) :: [])))), (dI a3), (dI a4), (dI a5), (q24_ a6)] [(.own 100 4 (e_GCell.cells a7))] = some ((.tup []), [(.own 100 4 (e_GCell.cells r)), .box []]) := by
 refine lvG hd (fun Q hQ => ?_) codes301
 unfold f301 at hS
 show ZR _ Q c301_b [] _
 replace hQ : FQ (f301_Q r) Q := hQ
 refine zS (zL 2 2 (zK (zS (zL 1 1 (zK (zrSeq (zS (zL 2 2 (zK ?_)))))))))
 refine zrBlk (bindE hS (fun z70 hz70 hS => zrLoop (f301_l4_H a1 a2 a3 a4 a5 a6 a7) (f301_l4_X a1 a2 a3 a4 a5 a6 a7) (fun x st r Q h0 hS hQ => f301_l4_ok hd a1 a2 a3 a4 a5 a6 a7 hQ hS h0) (x := (a7, [], a3)) (z := z70) (by show keepSt _ _ _ _ = _; kernel_rfl) hz70 ?_))
 intro e st' _ hX
 obtain ⟨rfl, rfl⟩ : _ ∧ _ := hX
 exact zkBlkX (zkSeq (f301_j0_ok hd a1 a2 a3 a4 a5 a6 a7 hQ z70.1 z70.2 hS (by kernel_rfl)))
/- (*farwriter/screen.terminal).index -/
def f273_fin (p4 : Gterminal) : St := ⟨(up (up (up u0 1000003 .un) 1000002 .un) 1000001 .un), (q10_ p4)⟩
theorem f273_out (p4 : Gterminal) : outR (f273_fin p4) 4 c273.res = some ((.tup []), [(q11_ p4), (go0_GScreen p4.Screen), (go1_GScreen p4.Screen), (go2_GScreen p4.Screen)]) := by
 kernel_rfl
def f273_Q (r : Gterminal) (e : PX) (st : St) : Prop := DoneF c273 4 ((.tup []), [(q11_ r), (go0_GScreen r.Screen), (go1_GScreen r.Screen), (go2_GScreen r.Screen)]) e st
def f273_j0_J (a1 : Gterminal) (p6 : Gterminal) : St := ⟨(up (up (up (up u0 1000003 .un) 1000002 .un) 1000001 .un) 0 (pt 0)), (q10_ p6)⟩
def f273_j0 (a1 : Gterminal) (p6 : Gterminal) : Option (Gterminal) := ((f276 p6 []).bind fun z10 => ((f301 p6.Screen.Grid.Wide p6.Screen.Grid.High p6.Screen.Top p6.Screen.Bottom 1 z10 p6.Screen.Grid.Cells).bind fun z11 => ((chk (decide (z11.length = p6.Screen.Grid.Cells.length))).bind fun z12 => (some (Gterminal.mk ({ p6.Screen with Grid := (GGrid.mk p6.Screen.Grid.Wide p6.Screen.Grid.High z11) }) p6.sent)))))
theorem f273_j0_ok (hd : 8 ≤ d) (a1 : Gterminal) {r : Gterminal} (hQ : FQ (f273_Q r) Q) (p6 : Gterminal) (hS : f273_j0 a1 p6 = some r) (he : keepSt [0, 1000001, 1000002, 1000003] [(0, .id 0), (1, .id 1), (2, .id 2), (3, .id 3)] [] st = f273_j0_J a1 p6) : ZX d Q c273_1 [.blk 0] st := by
 refine zrKeep he ?_
 unfold f273_j0 at hS
 refine zrRegD (zdR 16 16 (bindE hS (fun z10 hz10 hS => zdO (some 81) 17 none (c1 276 80) (ev_cA (f276_ok (d - 1) (dpt hd rfl) p6 [] z10 hz10)) (bindE hS (fun z11 hz11 hS => bindE hS (fun z12 hz12 hS => zdO (some 82) 18 none (.callr 301 [(tm 69), (tm 74), (tm 79), (ki 1), (tm 81)]) (ev_cX [1] [(go0_GScreen p6.Screen)] (f301_ok (d - 1) (dpt hd rfl) p6.Screen.Grid.Wide p6.Screen.Grid.High p6.Screen.Top p6.Screen.Bottom 1 z10 p6.Screen.Grid.Cells z11 hz11) (sm_own e_GCell (e1 := 100) (k1 := 4) (xs := p6.Screen.Grid.Cells) (ys := z11) (by kernel_rfl) hz12 sm_nil)) ?_))))))
 have lz12 : p6.Screen.Grid.Cells.length = z11.length := (of_decide_eq_true (chk_t hz12)).symm
 try delta f273_j0_J
 try delta q2_ q3_ q5_ q6_ q7_ q10_ q11_ q14_ q15_ q19_ q27_ q29_ q34_
 try delta bm_GScreen
 try rw [lz12]
 exact zdE (zkBlk (zkNil (endQ hS hQ (fN (f273_out (Gterminal.mk ({ p6.Screen with Grid := (GGrid.mk p6.Screen.Grid.Wide p6.Screen.Grid.High z11) }) p6.sent))))))
def f273 (a1 : Gterminal) : Option (Gterminal) := (bif (decide (a1.Screen.Row = (IntKind.i64.wrap (a1.Screen.Bottom - 1)))) then (bif (decide (a1.Screen.Top = 0)) then ((f274 (Gterminal.mk ({ a1.Screen with Late := false }) a1.sent) [] 256).bind fun z14 => (bif (!z14) then ((f300 a1.Screen.Grid 0).bind fun z15 => ((app? 24 a1.Screen.Past ([(GLine.mk z15)] : List GLine)).bind fun z16 => (bif (decide (40 < (z16.length : Int))) then none else (f273_j0 a1 (Gterminal.mk ({ a1.Screen with Late := false, Past := z16 }) a1.sent))))) else (f273_j0 a1 (Gterminal.mk ({ a1.Screen with Late := false }) a1.sent)))) else none) else (bif (decide (a1.Screen.Row < (IntKind.i64.wrap (a1.Screen.Grid.High - 1)))) then (some (Gterminal.mk ({ a1.Screen with Row := (IntKind.i64.wrap (a1.Screen.Row + 1)), Late := false }) a1.sent)) else none))
theorem f273_ok (d : Nat) (hd : 8 ≤ d) (a1 : Gterminal) (r : Gterminal) (hS : f273 a1 = some r) : lev codes baseL d 273 [(pt 0)] [(q11_ a1), (go0_GScreen a1.Screen), (go1_GScreen a1.Screen), (go2_GScreen a1.Screen)] = some ((.tup []), [(q11_ r), (go0_GScreen r.Screen), (go1_GScreen r.Screen), (go2_GScreen r.Screen)]) := by
 refine lvG hd (fun Q hQ => ?_) codes273
 unfold f273 at hS
 show ZR _ Q c273_b [] _
 replace hQ : FQ (f273_Q r) Q := hQ
 refine zS (zL 5 5 (zK ?_))
 refine zrBlk (zrSeq (zrRegD (zdR 11 11 (sDB 18 12 none (.cmpI .eql (tm 11) (tm 17)) hS (fun hS => ?_) (fun hS => ?_)))))
 ·refine zdR 1 13 (zdE (zkSeq (zT (zrSeq (zS (zL 5 5 ?_))))))
  refine sB 24 6 (ck 23 0) hS (fun hS => ?_) (fun hS => ?_)
  ·refine zL 2 8 (bindE hS (fun z14 hz14 hS => zG (some 27) 9 25 true (.call 274 [(tm 26), (ki 256)]) (ev_cA (f274_ok (d - 1) (dpt hd rfl) (Gterminal.mk ({ a1.Screen with Late := false }) a1.sent) [] 256 z14 hz14)) (zL 2 11 (zK ?_))))
   refine sR 29 hS (fun hS => ?_) (fun hS => ?_)
   ·refine zT (zrSeq ?_)
    refine zrRegD (zdR 11 11 (bindE hS (fun z15 hz15 hS => zdO (some 41) 12 none (.call 300 [(tm 40), (ki 0)]) (ev_callB (args := [(.agg ((dI a1.Screen.Grid.Wide) :: ((dI a1.Screen.Grid.High) :: ((.r (.msl 1 0 0 a1.Screen.Grid.Cells.length)) :: [])))), (dI 0)]) (by kernel_rfl) (l_cons (l_agg (lk (lk (l_cons (l_own e_GCell (e := 100) (k := 4) (xs := a1.Screen.Grid.Cells) (by kernel_rfl) rfl rfl) l_nil)))) (lk l_nil)) (f300_ok (d - 1) (dpt hd rfl) a1.Screen.Grid 0 z15 hz15) (by simp only [free_own e_GCell (fun _ => rfl), free_tup, free_agg, free_nl, free_cs, free_int, free_bool, free_str, free_un, free_ni, free_s0, Bool.and_true, Bool.or_true, Bool.and_self]) (by kernel_rfl)) (zdR 1 13 (zdO (v := (.r (.msl 352 1 0 (([(GLine.mk z15)] : List GLine).length)))) (ups := [(336, ⟨2, none⟩), (352, ⟨1, some (.own 91 1 (e_GLine.cells ([(GLine.mk z15)])))⟩)]) (some 43) 14 none (.bsl 91 1 1 [(1, (.slice .none 0 0))] [(0, (1, (tm 42)))]) ((by kernel_rfl : peval _ _ 43 (ρof _) (.bsl 91 1 1 [(1, (.slice .none 0 0))] [(0, (1, (.tmp 42)))]) = some ((.r (.msl 352 1 0 (([(GLine.mk z15)] : List GLine).length))), [(336, ⟨2, none⟩), (352, ⟨1, some (.own 91 1 [.sl z15.length (((e_GCell.cells z15).drop (0 * e_GCell.k)).take (z15.length * e_GCell.k))])⟩)])).trans (by simp only [Enc.frz]; rfl)) (bindE hS (fun z16 hz16 hS => zdO (v := (.r (.msl 3 1 0 z16.length))) (ups := [(3, ⟨1, some (.own 91 1 (e_GLine.cells z16))⟩)]) (some 44) 15 none (.app 91 1 24 (tm 35) (tm 43)) (ev_app e_GLine (b := 3) (g := 0) (n := a1.Screen.Past.length) (xs := a1.Screen.Past) (ys := [(GLine.mk z15)]) ((congrArg (asL _) (by kernel_rfl : ρof _ (.tmp 43) = (.r (.msl 352 1 0 (([(GLine.mk z15)] : List GLine).length))))).trans (as_whole e_GLine (e := 91) (k := 1) (xs := [(GLine.mk z15)]) (by kernel_rfl) rfl rfl)) rfl (by kernel_rfl) rfl (by kernel_rfl) rfl hz16) (zdR 4 19 (zdE (zkSeq (zS (zL 6 6 ?_))))))))))))
    refine sB 54 7 (.cmpI .gtr (tm 53) (ki 40)) hS (fun hS => ?_) (fun hS => ?_)
    ·cases hS
    ·refine zK (zF ?_)
     exact zrSkip (zkSeq (f273_j0_ok hd a1 hQ (Gterminal.mk ({ a1.Screen with Late := false, Past := z16 }) a1.sent) hS (by kernel_rfl)))
   ·exact zF (zrSkip (zkSeq (f273_j0_ok hd a1 hQ (Gterminal.mk ({ a1.Screen with Late := false }) a1.sent) hS (by kernel_rfl))))
  ·cases hS
 ·refine zdR 1 13 (zdE (zkSeq (zF (zrSeq ?_))))
  refine zrRegD (zdR 12 12 (sDB 96 13 none (.cmpI .lss (tm 88) (tm 95)) hS (fun hS => ?_) (fun hS => ?_)))
  ·refine zdR 1 14 (zdE (zkSeq (zT (zrReg (zL 10 10 (zE ?_))))))
   exact zkBlk (zkNil (endQ hS hQ (fN (f273_out (Gterminal.mk ({ a1.Screen with Row := (IntKind.i64.wrap (a1.Screen.Row + 1)), Late := false }) a1.sent)))))
  ·cases hS
/- farwriter/screen.limit -/
def f299_fin (p1 : Int) : St := ⟨(up u0 6 (dI p1)), h0⟩
theorem f299_out (p1 : Int) : outR (f299_fin p1) 0 c299.res = some ((dI p1), []) := by
 kernel_rfl
def f299_Q (r : Int) (e : PX) (st : St) : Prop := DoneF c299 0 ((dI r), []) e st
def f299 (a1 : Int) (a2 : Int) (a3 : Int) : Option (Int) := (some (if (if a3 < a1 then a3 else a1) > a2 then (if a3 < a1 then a3 else a1) else a2))
theorem f299_ok (d : Nat) (hd : 1 ≤ d) (a1 : Int) (a2 : Int) (a3 : Int) (r : Int) (hS : f299 a1 a2 a3 = some r) : lev codes baseL d 299 [(dI a1), (dI a2), (dI a3)] [] = some ((dI r), []) := by
 refine lvG hd (fun Q hQ => ?_) codes299
 unfold f299 at hS
 show ZR _ Q c299_b [] _
 replace hQ : FQ (f299_Q r) Q := hQ
 refine zS (zL 1 1 (zK (zS (zL 6 6 (zK ?_)))))
 exact zrRet (zkNil (endQ hS hQ (fR (f299_out (if (if a3 < a1 then a3 else a1) > a2 then (if a3 < a1 then a3 else a1) else a2)))))
/- (*farwriter/screen.terminal).column -/
def f272_fin (p1 : Gterminal) : St := ⟨(up u0 2000000 .un), (up (up (up (up h0 3 ⟨0, some (go2_GScreen p1.Screen)⟩) 2 ⟨0, some (go1_GScreen p1.Screen)⟩) 1 ⟨0, some (go0_GScreen p1.Screen)⟩) 0 ⟨0, some (q11_ p1)⟩)⟩
theorem f272_out (p1 : Gterminal) : outR (f272_fin p1) 4 c272.res = some ((.tup []), [(q11_ p1), (go0_GScreen p1.Screen), (go1_GScreen p1.Screen), (go2_GScreen p1.Screen)]) := by
 kernel_rfl
def f272_Q (r : Gterminal) (e : PX) (st : St) : Prop := DoneF c272 4 ((.tup []), [(q11_ r), (go0_GScreen r.Screen), (go1_GScreen r.Screen), (go2_GScreen r.Screen), .box []]) e st
def f272 (a1 : Int) (a2 : Gterminal) : Option (Gterminal) := ((f299 a1 0 (IntKind.i64.wrap (a2.Screen.Grid.Wide - 1))).bind fun z2 => (some (Gterminal.mk ({ a2.Screen with Col := z2, Late := false }) a2.sent)))
theorem f272_ok (d : Nat) (hd : 2 ≤ d) (a1 : Int) (a2 : Gterminal) (r : Gterminal) (hS : f272 a1 a2 = some r) : lev codes baseL d 272 [(pt 0), (dI a1)] [(q11_ a2), (go0_GScreen a2.Screen), (go1_GScreen a2.Screen), (go2_GScreen a2.Screen)] = some ((.tup []), [(q11_ r), (go0_GScreen r.Screen), (go1_GScreen r.Screen), (go2_GScreen r.Screen), .box []]) := by
 refine lvG hd (fun Q hQ => ?_) codes272
 unfold f272 at hS
 show ZR _ Q c272_b [] _
 replace hQ : FQ (f272_Q r) Q := hQ
 refine zS (zL 5 5 (zK (zrReg (zL 9 9 ?_))))
 refine bindE hS (fun z2 hz2 hS => zO (some 17) 10 (.call 299 [(tm 9), (ki 0), (tm 16)]) (ev_cA (f299_ok (d - 1) (dpt hd rfl) a1 0 (IntKind.i64.wrap (a2.Screen.Grid.Wide - 1)) z2 hz2)) (zL 4 14 (zE ?_)))
 exact zkNil (endQ hS hQ (fNormX (by kernel_rfl) (by kernel_rfl : finSt c272.fin _ = f272_fin (Gterminal.mk ({ a2.Screen with Col := z2, Late := false }) a2.sent)) (by kernel_rfl) (f272_out (Gterminal.mk ({ a2.Screen with Col := z2, Late := false }) a2.sent))))
/- (*farwriter/screen.terminal).control -/
def f247_fin (p4 : Gterminal) : St := ⟨(up (up (up u0 1000003 .un) 1000002 .un) 1000001 .un), (q10_ p4)⟩
theorem f247_out (p4 : Gterminal) : outR (f247_fin p4) 4 c247.res = some ((.tup []), [(q11_ p4), (go0_GScreen p4.Screen), (go1_GScreen p4.Screen), (go2_GScreen p4.Screen)]) := by
 kernel_rfl
def f247_Q (r : Gterminal) (e : PX) (st : St) : Prop := DoneF c247 4 ((.tup []), [(q11_ r), (go0_GScreen r.Screen), (go1_GScreen r.Screen), (go2_GScreen r.Screen)]) e st
def f247_j0_J (a1 : Int) (a2 : Gterminal) (p7 : Bool) : St := ⟨(up (up (up (up (up (up u0 1000003 .un) 1000002 .un) 1000001 .un) 42 (dB p7)) 6 (dI a1)) 0 (pt 0)), (q10_ a2)⟩
def f247_j0 (a1 : Int) (a2 : Gterminal) (p7 : Bool) : Option (Gterminal) := (bif p7 then ((f273 a2).bind fun z7 => ((f274 z7 [] 128).bind fun z8 => (bif z8 then none else (some z7)))) else (bif (decide (a1 = 13)) then ((f272 0 a2).bind fun z9 => ((chk (decide (z9.Screen.Past.length = a2.Screen.Past.length))).bind fun z10 => ((chk (decide (z9.Screen.Other.Cells.length = a2.Screen.Other.Cells.length))).bind fun z11 => ((chk (decide (z9.Screen.Grid.Cells.length = a2.Screen.Grid.Cells.length))).bind fun z12 => (some z9))))) else (bif (decide (a1 = 14)) then none else (bif (decide (a1 = 15)) then none else (some a2)))))
theorem f247_j0_ok (hd : 9 ≤ d) (a1 : Int) (a2 : Gterminal) {r : Gterminal} (hQ : FQ (f247_Q r) Q) (p7 : Bool) (hS : f247_j0 a1 a2 p7 = some r) (he : keepSt [0, 6, 42, 1000001, 1000002, 1000003] [(0, .id 0), (1, .id 1), (2, .id 2), (3, .id 3)] [] st = f247_j0_J a1 a2 p7) : ZX d Q c247_1 [.blk 0] st := by
 refine zrKeep he ?_
 unfold f247_j0 at hS
 refine sR 42 hS (fun hS => ?_) (fun hS => ?_)
 ·refine zT (zS (zL 1 1 ?_))
  refine bindE hS (fun z7 hz7 hS => zO (some 47) 2 (.callr 273 [(tm 46)]) (ev_cR [0, 1, 2, 3] (f273_ok (d - 1) (dpt hd rfl) a2 z7 hz7)) (zK (zS (zL 1 1 ?_))))
  refine bindE hS (fun z8 hz8 hS => zO (some 49) 2 (.call 274 [(tm 48), (ki 128)]) (ev_cA (f274_ok (d - 1) (dpt hd rfl) z7 [] 128 z8 hz8)) (zK ?_))
  refine sR 49 hS (fun hS => ?_) (fun hS => ?_)
  ·refine zT (zrReg (zL 1 1 ?_))
   cases hS
  ·exact zF (zrSkip (zkBlk (zkNil (endQ hS hQ (fN (f247_out z7))))))
 ·refine zF (zS ?_)
  refine sB 53 1 (ck 6 13) hS (fun hS => ?_) (fun hS => ?_)
  ·refine zL 1 2 (zK (zT (zrReg (zL 1 1 ?_))))
   refine bindE hS (fun z9 hz9 hS => bindE hS (fun z10 hz10 hS => bindE hS (fun z11 hz11 hS => bindE hS (fun z12 hz12 hS => zO (some 55) 2 (.callr 272 [(tm 54), (ki 0)]) (ev_cX [0, 1, 2, 3] [(.box (bx_Gterminal a2 (.r (.msl 1 1 0 a2.Screen.Grid.Cells.length)) (.r (.msl 2 1 0 a2.Screen.Other.Cells.length)) (.r (.msl 3 1 0 a2.Screen.Past.length)))), (go0_GScreen a2.Screen), (go1_GScreen a2.Screen), (go2_GScreen a2.Screen)] (f272_ok (d - 1) (dpt hd rfl) 0 a2 z9 hz9) (sm_box (cs := ((dI a2.Screen.Grid.Wide) :: ((dI a2.Screen.Grid.High) :: ((.r (.msl 1 1 0 a2.Screen.Grid.Cells.length)) :: ((dI a2.Screen.Row) :: ((dI a2.Screen.Col) :: ((dB a2.Screen.Late) :: ((dI a2.Screen.Top) :: ((dI a2.Screen.Bottom) :: ((dI a2.Screen.Pen.Flags) :: ((dI a2.Screen.Pen.Fore) :: ((dI a2.Screen.Pen.Back) :: ((dI a2.Screen.Modes) :: (((eInt .u64).row 4 a2.Screen.Stops.Bits) ++ ((dI a2.Screen.Pages.1) :: ((dI a2.Screen.Pages.2) :: ((dI a2.Screen.Shift) :: ((dI a2.Screen.Saved.Row) :: ((dI a2.Screen.Saved.Col) :: ((dI a2.Screen.Saved.Pen.Flags) :: ((dI a2.Screen.Saved.Pen.Fore) :: ((dI a2.Screen.Saved.Pen.Back) :: ((dB a2.Screen.Saved.Origin) :: ((dI a2.Screen.Saved.Pages.1) :: ((dI a2.Screen.Saved.Pages.2) :: ((dI a2.Screen.Saved.Shift) :: ((dI a2.Screen.Other.Wide) :: ((dI a2.Screen.Other.High) :: ((.r (.msl 2 1 0 a2.Screen.Other.Cells.length)) :: ((.d (.str a2.Screen.Title)) :: ((.r (.msl 3 1 0 a2.Screen.Past.length)) :: ((.d (.str a2.sent)) :: [])))))))))))))))))))))))))))))))) (by kernel_rfl) (sm_own e_GCell (e1 := 100) (k1 := 4) (xs := a2.Screen.Grid.Cells) (ys := z9.Screen.Grid.Cells) (by kernel_rfl) hz12 (sm_own e_GCell (e1 := 100) (k1 := 4) (xs := a2.Screen.Other.Cells) (ys := z9.Screen.Other.Cells) (by kernel_rfl) hz11 (sm_own e_GLine (e1 := 91) (k1 := 1) (xs := a2.Screen.Past) (ys := z9.Screen.Past) (by kernel_rfl) hz10 sm_nil))))) ?_))))
   have lz10 : a2.Screen.Past.length = z9.Screen.Past.length := (of_decide_eq_true (chk_t hz10)).symm
   try delta f247_j0_J
   try delta q2_ q3_ q5_ q6_ q7_ q10_ q11_ q14_ q15_ q19_ q27_ q29_ q34_
   try delta bm_GScreen
   try rw [lz10]
   have lz11 : a2.Screen.Other.Cells.length = z9.Screen.Other.Cells.length := (of_decide_eq_true (chk_t hz11)).symm
   try delta f247_j0_J
   try delta q2_ q3_ q5_ q6_ q7_ q10_ q11_ q14_ q15_ q19_ q27_ q29_ q34_
   try delta bm_GScreen
   try rw [lz11]
   have lz12 : a2.Screen.Grid.Cells.length = z9.Screen.Grid.Cells.length := (of_decide_eq_true (chk_t hz12)).symm
   try delta f247_j0_J
   try delta q2_ q3_ q5_ q6_ q7_ q10_ q11_ q14_ q15_ q19_ q27_ q29_ q34_
   try delta bm_GScreen
   try rw [lz12]
   exact zE (zkBlk (zkNil (endQ hS hQ (fN (f247_out z9)))))
  ·refine zL 1 2 (zK (zF (zS ?_)))
   refine sB 57 1 (ck 6 14) hS (fun hS => ?_) (fun hS => ?_)
   ·cases hS
   ·refine zL 1 2 (zK (zF (zS ?_)))
    refine sB 63 1 (ck 6 15) hS (fun hS => ?_) (fun hS => ?_)
    ·cases hS
    ·refine zL 1 2 (zK (zF ?_))
     exact zrSkip (zkBlk (zkNil (endQ hS hQ (fN (f247_out a2)))))
def f247 (a1 : Int) (a2 : Gterminal) : Option (Gterminal) := (bif (decide (a1 = 8)) then none else (bif (decide (a1 = 9)) then none else (bif (decide (a1 = 10)) then (f247_j0 a1 a2 true) else (bif (decide (a1 = 11)) then none else (bif (decide (a1 = 12)) then none else (f247_j0 a1 a2 false))))))
theorem f247_ok (d : Nat) (hd : 9 ≤ d) (a1 : Int) (a2 : Gterminal) (r : Gterminal) (hS : f247 a1 a2 = some r) : lev codes baseL d 247 [(pt 0), (dI a1)] [(q11_ a2), (go0_GScreen a2.Screen), (go1_GScreen a2.Screen), (go2_GScreen a2.Screen)] = some ((.tup []), [(q11_ r), (go0_GScreen r.Screen), (go1_GScreen r.Screen), (go2_GScreen r.Screen)]) := by
 refine lvG hd (fun Q hQ => ?_) codes247
 unfold f247 at hS
 show ZR _ Q c247_b [] _
 replace hQ : FQ (f247_Q r) Q := hQ
 refine zS (zL 1 1 (zK ?_))
 refine zrBlk (zS ?_)
 refine sB 8 1 (ck 6 8) hS (fun hS => ?_) (fun hS => ?_)
 ·cases hS
 ·refine zL 1 2 (zK (zF (zS ?_)))
  refine sB 18 1 (ck 6 9) hS (fun hS => ?_) (fun hS => ?_)
  ·cases hS
  ·refine zL 1 2 (zK (zF (zrSeq (zS ?_))))
   refine sB 43 1 (ck 6 10) hS (fun hS => ?_) (fun hS => ?_)
   ·refine zL 1 2 (zK (zT ?_))
    exact zrSkip (zkSeq (f247_j0_ok hd a1 a2 hQ true hS (by kernel_rfl)))
   ·refine zL 1 2 (zK (zF (zS ?_)))
    refine sB 44 1 (ck 6 11) hS (fun hS => ?_) (fun hS => ?_)
    ·cases hS
    ·refine zL 1 2 (zK (zF (zrReg ?_)))
     refine sB 45 1 (ck 6 12) hS (fun hS => ?_) (fun hS => ?_)
     ·cases hS
     ·refine zL 1 2 (zK ?_)
      exact f247_j0_ok hd a1 a2 hQ false hS (by kernel_rfl)
/- (*farwriter/screen.terminal).act -/
def f210_fin (p2 : Gterminal) : St := ⟨(up (up (up u0 1000003 .un) 1000002 .un) 1000001 .un), (q10_ p2)⟩
theorem f210_out (p2 : Gterminal) : outR (f210_fin p2) 4 c210.res = some ((.tup []), [(q11_ p2), (go0_GScreen p2.Screen), (go1_GScreen p2.Screen), (go2_GScreen p2.Screen)]) := by
 kernel_rfl
def f210_Q (r : Gterminal) (e : PX) (st : St) : Prop := DoneF c210 4 ((.tup []), [(q11_ r), (go0_GScreen r.Screen), (go1_GScreen r.Screen), (go2_GScreen r.Screen)]) e st
def f210 (a1 : GAct) (a2 : Gterminal) : Option (Gterminal) := (bif (decide (a1.Kind = 1)) then ((f246 a1.Code a2).bind fun z3 => (some z3)) else (bif (decide (a1.Kind = 2)) then ((f247 a1.Code a2).bind fun z4 => (some z4)) else none))
theorem f210_ok (d : Nat) (hd : 10 ≤ d) (a1 : GAct) (a2 : Gterminal) (r : Gterminal) (hS : f210 a1 a2 = some r) : lev codes baseL d 210 [(pt 0), (.agg ((dI a1.Kind) :: ((dI a1.Code) :: ((dI a1.Mark) :: ((.d (.str a1.Inter)) :: ((dL a1.Args) :: ((.d (.str a1.Text)) :: [])))))))] [(q11_ a2), (go0_GScreen a2.Screen), (go1_GScreen a2.Screen), (go2_GScreen a2.Screen)] = some ((.tup []), [(q11_ r), (go0_GScreen r.Screen), (go1_GScreen r.Screen), (go2_GScreen r.Screen)]) := by
 refine lvG hd (fun Q hQ => ?_) codes210
 unfold f210 at hS
 show ZR _ Q c210_b [] _
 replace hQ : FQ (f210_Q r) Q := hQ
 refine zS (zL 1 1 (zK ?_))
 refine zrBlk (zS (zL 2 2 ?_))
 refine sB 7 3 (ck 6 1) hS (fun hS => ?_) (fun hS => ?_)
 ·refine zL 1 4 (zK (zT (zrReg (zL 3 3 ?_))))
  exact bindE hS (fun z3 hz3 hS => zO (some 11) 4 (.callr 246 [(tm 8), (tm 10)]) (ev_cR [0, 1, 2, 3] (f246_ok (d - 1) (dpt hd rfl) a1.Code a2 z3 hz3)) (zE (zkBlk (zkNil (endQ hS hQ (fN (f210_out z3)))))))
 ·refine zL 1 4 (zK (zF (zS (zL 2 2 ?_))))
  refine sB 15 3 (ck 14 2) hS (fun hS => ?_) (fun hS => ?_)
  ·refine zL 1 4 (zK (zT (zrReg (zL 3 3 ?_))))
   exact bindE hS (fun z4 hz4 hS => zO (some 19) 4 (.callr 247 [(tm 16), (tm 18)]) (ev_cR [0, 1, 2, 3] (f247_ok (d - 1) (dpt hd rfl) a1.Code a2 z4 hz4)) (zE (zkBlk (zkNil (endQ hS hQ (fN (f210_out z4)))))))
  ·cases hS
end
end Go.Proofs.YtobkkblijfhpoaaGreatDoor.Pm
