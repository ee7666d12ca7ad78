/- Typed functions, and that the codes are these. Printed by dec.py. -/
import Derived.Test.YtobkkblijfhpoaaGreatDoorDTwF
namespace Go.Proofs.YtobkkblijfhpoaaGreatDoor.Pm
noncomputable section
set_option maxRecDepth 1000000
set_option maxHeartbeats 20000000
set_option linter.unusedVariables false
/- farwriter/iac.Feed -/
def f102_fin (p54 : GWire) (p55 : List GTok) (p56 : Int) : St := ⟨(up (up (up u0 6 (dI p56)) 5 (.r (.msl 451 0 0 p55.length))) 4 (pt 40)), (up (up h0 451 ⟨0, some (.own 201 4 (e_GTok.cells p55))⟩) 40 ⟨0, some (.box ((dI p54.Mode) :: ((dI p54.Cmd) :: ((dI p54.Opt) :: ((.d (.str p54.Buf)) :: ((dB p54.Over) :: []))))))⟩)⟩
theorem f102_out (p54 : GWire) (p55 : List GTok) (p56 : Int) : outR (f102_fin p54 p55 p56) 0 c102.res = some ((.tup [(.agg ((dI p54.Mode) :: ((dI p54.Cmd) :: ((dI p54.Opt) :: ((.d (.str p54.Buf)) :: ((dB p54.Over) :: [])))))), (.r (.own 0 201 4 p55.length (e_GTok.cells p55))), (dI p56)]), []) := by
 exact out_of (ids := []) (ids' := [451]) (l := [(.agg ((dI p54.Mode) :: ((dI p54.Cmd) :: ((dI p54.Opt) :: ((.d (.str p54.Buf)) :: ((dB p54.Over) :: [])))))), (.r (.msl 451 0 0 p55.length)), (dI p56)]) (by kernel_rfl) (by kernel_rfl) (o_tup (o_cons rfl (o_cons (o_own e_GTok (e := 201) (k := 4) (xs := p55) (by kernel_rfl) rfl rfl rfl rfl) (o_cons rfl o_nil))))
def f102_Q (r : GWire × (List GTok) × Int) (e : PX) (st : St) : Prop := DoneF c102 0 ((.tup [(.agg ((dI r.1.Mode) :: ((dI r.1.Cmd) :: ((dI r.1.Opt) :: ((.d (.str r.1.Buf)) :: ((dB r.1.Over) :: [])))))), (.r (.own 0 201 4 r.2.1.length (e_GTok.cells r.2.1))), (dI r.2.2)]), []) e st
def f102_j1_J (a1 : GWire) (a2 : List UInt8) (p59 : Int) (p60 : Int) (p61 : Int) (p62 : List UInt8) (p63 : Bool) (p64 : List UInt8) (p65 : List UInt8) (p66 : List GTok) : St := ⟨(up (up u0 8 (pt 176)) 4 (pt 40)), (up (up (up (up (up h0 450 ⟨0, some (.own 201 4 (e_GTok.cells p66))⟩) 449 ⟨0, some (.own 5 1 (eU8.cells p65))⟩) 160 ⟨0, some (.own 5 1 (eU8.cells p64))⟩) 176 ⟨0, some (.box (bx_Greceiver (Greceiver.mk (GWire.mk p59 p60 p61 p62 p63) ([]) ([]) ([])) (.r (.msl 160 0 0 p64.length)) (.r (.msl 449 0 0 p65.length)) (.r (.msl 450 0 0 p66.length))))⟩) 40 ⟨0, some (.box ((dI 0) :: ((dI 0) :: ((dI 0) :: ((.d (.str ([]))) :: ((dB false) :: []))))))⟩)⟩
def f102_j1 (a1 : GWire) (a2 : List UInt8) (p59 : Int) (p60 : Int) (p61 : Int) (p62 : List UInt8) (p63 : Bool) (p64 : List UInt8) (p65 : List UInt8) (p66 : List GTok) : Option (GWire × (List GTok) × Int) := ((f157 p59 p60 p61 p62 p63 p64 p65 p66).bind fun z12 => (some ((GWire.mk z12.1 z12.2.1 z12.2.2.1 z12.2.2.2.2.2.1 z12.2.2.2.2.1), z12.2.2.2.2.2.2.2, 0)))
theorem f102_j1_ok {d : Nat} (hd : 5 ≤ d) (a1 : GWire) (a2 : List UInt8) {r : GWire × (List GTok) × Int} {Q : PQ} (hQ : FQ (f102_Q r) Q) (p59 : Int) (p60 : Int) (p61 : Int) (p62 : List UInt8) (p63 : Bool) (p64 : List UInt8) (p65 : List UInt8) (p66 : List GTok) (hS : f102_j1 a1 a2 p59 p60 p61 p62 p63 p64 p65 p66 = some r) {st : St} (he : keepSt [4, 8] [(40, .id 40), (176, .id 176), (160, .id 160), (449, .id 449), (450, .id 450)] [] st = f102_j1_J a1 a2 p59 p60 p61 p62 p63 p64 p65 p66) : ZR (lev codes baseL (d - 1)) Q c102_1 [] st := by
 refine zrKeep he ?_
 unfold f102_j1 at hS
 refine zrSeq (zrReg (zL 1 1 ?_))
 refine bindE hS (fun z12 hz12 hS => zO (some 34) 2 (.callr 157 [(tm 33)]) (ev_cR [176, 160, 449, 450] (f157_ok (d - 1) (dpt hd rfl) p59 p60 p61 p62 p63 p64 p65 p66 z12 hz12)) (zE (zkSeq (zrSeq (zrReg (zL 5 5 ?_))))))
 refine zO (v := (.d (.str z12.2.2.2.2.2.1))) (ups := []) (some 40) 6 (.cvBS (tm 39)) (ev_cvBS (s := z12.2.2.2.2.2.1) ((congrArg (asL _) (by kernel_rfl : ρof _ (.tmp 39) = (.r (.msl 160 1 0 z12.2.2.2.2.2.1.length)))).trans (as_whole eU8 (e := 5) (k := 1) (xs := z12.2.2.2.2.2.1) (by kernel_rfl) rfl rfl)) rfl) (zL 4 10 (zE (zkSeq (zrSeq ?_))))
 exact zrRegD (zdR 11 11 (zdE (zkSeq (zrRet (zkNil (endQ hS hQ (fR (f102_out (GWire.mk z12.1 z12.2.1 z12.2.2.1 z12.2.2.2.2.2.1 z12.2.2.2.2.1) z12.2.2.2.2.2.2.2 0))))))))
def f102_l2_J (a1 : GWire) (a2 : List UInt8) (x : Int × Int × Int × (List UInt8) × Bool × (List UInt8) × (List UInt8) × (List GTok) × Int) : St := ⟨(up (up (up (up (up u0 24 (dI x.2.2.2.2.2.2.2.2)) 23 (dI (a2.length : Int))) 8 (pt 176)) 4 (pt 40)) 1 (.d (.str a2))), (up (up (up (up (up h0 450 ⟨0, some (.own 201 4 (e_GTok.cells x.2.2.2.2.2.2.2.1))⟩) 449 ⟨0, some (.own 5 1 (eU8.cells x.2.2.2.2.2.2.1))⟩) 160 ⟨0, some (.own 5 1 (eU8.cells x.2.2.2.2.2.1))⟩) 176 ⟨0, some (.box (bx_Greceiver (Greceiver.mk (GWire.mk x.1 x.2.1 x.2.2.1 x.2.2.2.1 x.2.2.2.2.1) ([]) ([]) ([])) (.r (.msl 160 0 0 x.2.2.2.2.2.1.length)) (.r (.msl 449 0 0 x.2.2.2.2.2.2.1.length)) (.r (.msl 450 0 0 x.2.2.2.2.2.2.2.1.length))))⟩) 40 ⟨0, some (.box ((dI 0) :: ((dI 0) :: ((dI 0) :: ((.d (.str ([]))) :: ((dB false) :: []))))))⟩)⟩
def f102_l2_H (a1 : GWire) (a2 : List UInt8) (x : Int × Int × Int × (List UInt8) × Bool × (List UInt8) × (List UInt8) × (List GTok) × Int) (st : St) : Prop := keepSt [1, 4, 8, 23, 24] [(40, .id 40), (176, .id 176), (160, .id 160), (449, (.cell 176 6)), (450, (.cell 176 7))] [.cell 176 6 449 5 1, .cell 176 7 450 201 4] st = f102_l2_J a1 a2 x
def f102_l2_e0_J (a1 : GWire) (a2 : List UInt8) (p46 : Int) (p47 : Int) (p48 : Int) (p49 : List UInt8) (p50 : Bool) (p51 : List UInt8) (p52 : List UInt8) (p53 : List GTok) : St := ⟨(up (up u0 8 (pt 176)) 4 (pt 40)), (up (up (up (up (up h0 450 ⟨0, some (.own 201 4 (e_GTok.cells p53))⟩) 449 ⟨0, some (.own 5 1 (eU8.cells p52))⟩) 160 ⟨0, some (.own 5 1 (eU8.cells p51))⟩) 176 ⟨0, some (.box (bx_Greceiver (Greceiver.mk (GWire.mk p46 p47 p48 p49 p50) ([]) ([]) ([])) (.r (.msl 160 0 0 p51.length)) (.r (.msl 449 0 0 p52.length)) (.r (.msl 450 0 0 p53.length))))⟩) 40 ⟨0, some (.box ((dI 0) :: ((dI 0) :: ((dI 0) :: ((.d (.str ([]))) :: ((dB false) :: []))))))⟩)⟩
def f102_l2_X (a1 : GWire) (a2 : List UInt8) (z : (Int × Int × Int × (List UInt8) × Bool × (List UInt8) × (List UInt8) × (List GTok))) (e : PX) (st : St) : Prop := e = .exit 0 ∧ st = f102_l2_e0_J a1 a2 z.1 z.2.1 z.2.2.1 z.2.2.2.1 z.2.2.2.2.1 z.2.2.2.2.2.1 z.2.2.2.2.2.2.1 z.2.2.2.2.2.2.2
def f102_l2_j4_J (a1 : GWire) (a2 : List UInt8) (p87 : Int) (p88 : Int) (p89 : Int) (p90 : List UInt8) (p91 : Bool) (p92 : List UInt8) (p93 : List UInt8) (p94 : List GTok) (p95 : Int) : St := ⟨(up (up (up (up (up u0 24 (dI p95)) 23 (dI (a2.length : Int))) 8 (pt 176)) 4 (pt 40)) 1 (.d (.str a2))), (up (up (up (up (up h0 450 ⟨0, some (.own 201 4 (e_GTok.cells p94))⟩) 449 ⟨0, some (.own 5 1 (eU8.cells p93))⟩) 160 ⟨0, some (.own 5 1 (eU8.cells p92))⟩) 176 ⟨0, some (.box (bx_Greceiver (Greceiver.mk (GWire.mk p87 p88 p89 p90 p91) ([]) ([]) ([])) (.r (.msl 160 0 0 p92.length)) (.r (.msl 449 0 0 p93.length)) (.r (.msl 450 0 0 p94.length))))⟩) 40 ⟨0, some (.box ((dI 0) :: ((dI 0) :: ((dI 0) :: ((.d (.str ([]))) :: ((dB false) :: []))))))⟩)⟩
def f102_l2_j4 (a1 : GWire) (a2 : List UInt8) (p87 : Int) (p88 : Int) (p89 : Int) (p90 : List UInt8) (p91 : Bool) (p92 : List UInt8) (p93 : List UInt8) (p94 : List GTok) (p95 : Int) : Option ((Int × Int × Int × (List UInt8) × Bool × (List UInt8) × (List UInt8) × (List GTok) × Int) ⊕ ((Int × Int × Int × (List UInt8) × Bool × (List UInt8) × (List UInt8) × (List GTok)))) := ((idx a2 p95).bind fun z13 => ((f156 z13 p87 p88 p89 p90 p91 p92 p93 p94).bind fun z14 => (some (.inl (z14.1, z14.2.1, z14.2.2.1, z14.2.2.2.1, z14.2.2.2.2.1, z14.2.2.2.2.2.1, z14.2.2.2.2.2.2.1, z14.2.2.2.2.2.2.2, (IntKind.i64.wrap (p95 + 1)))))))
theorem f102_l2_j4_ok {d : Nat} (hd : 5 ≤ d) (a1 : GWire) (a2 : List UInt8) {r : (Int × Int × Int × (List UInt8) × Bool × (List UInt8) × (List UInt8) × (List GTok) × Int) ⊕ ((Int × Int × Int × (List UInt8) × Bool × (List UInt8) × (List UInt8) × (List GTok)))} {Q : PQ} (hQ : FQ (finL (f102_l2_H a1 a2) (f102_l2_X a1 a2) r) Q) (p87 : Int) (p88 : Int) (p89 : Int) (p90 : List UInt8) (p91 : Bool) (p92 : List UInt8) (p93 : List UInt8) (p94 : List GTok) (p95 : Int) (hS : f102_l2_j4 a1 a2 p87 p88 p89 p90 p91 p92 p93 p94 p95 = some r) {st : St} (he : keepSt [1, 4, 8, 23, 24] [(40, .id 40), (176, .id 176), (160, .id 160), (449, .id 449), (450, .id 450)] [] st = f102_l2_j4_J a1 a2 p87 p88 p89 p90 p91 p92 p93 p94 p95) : ZR (lev codes baseL (d - 1)) Q c102_2 [] st := by
 refine zrKeep he ?_
 unfold f102_l2_j4 at hS
 refine zrSeq (zrBlk (zrSeq (zrReg (zL 2 2 (zE (zkSeq (zrReg (zL 3 3 ?_))))))))
 refine bindE hS (fun z13 hz13 hS => zO (v := (.d (.int .u8 (z13.toNat : Int)))) (ups := []) (some 30) 4 (.ixStr (tm 28) (tm 29)) (ev_ixStr (kk := .i64) (s := a2) (j := p95) (by kernel_rfl) (by kernel_rfl) hz13) (bindE hS (fun z14 hz14 hS => zO (some 31) 5 (.callr 156 [(tm 27), (tm 30)]) (ev_cR [176, 160, 449, 450] (f156_ok (d - 1) (dpt hd rfl) z13 p87 p88 p89 p90 p91 p92 p93 p94 z14 hz14)) (zE (zkBlk (zkSeq (zrReg (zL 2 2 (zE ?_)))))))))
 exact zkNil (eN1 hS hQ)
def f102_l2_j3_J (a1 : GWire) (a2 : List UInt8) (p77 : Int) (p78 : Int) (p79 : Int) (p80 : List UInt8) (p81 : Bool) (p82 : List UInt8) (p83 : List UInt8) (p84 : List GTok) (p85 : Int) (p86 : Bool) : St := ⟨(up (up (up (up (up (up u0 25 (dB p86)) 24 (dI p85)) 23 (dI (a2.length : Int))) 8 (pt 176)) 4 (pt 40)) 1 (.d (.str a2))), (up (up (up (up (up h0 450 ⟨0, some (.own 201 4 (e_GTok.cells p84))⟩) 449 ⟨0, some (.own 5 1 (eU8.cells p83))⟩) 160 ⟨0, some (.own 5 1 (eU8.cells p82))⟩) 176 ⟨0, some (.box (bx_Greceiver (Greceiver.mk (GWire.mk p77 p78 p79 p80 p81) ([]) ([]) ([])) (.r (.msl 160 0 0 p82.length)) (.r (.msl 449 0 0 p83.length)) (.r (.msl 450 0 0 p84.length))))⟩) 40 ⟨0, some (.box ((dI 0) :: ((dI 0) :: ((dI 0) :: ((.d (.str ([]))) :: ((dB false) :: []))))))⟩)⟩
def f102_l2_j3 (a1 : GWire) (a2 : List UInt8) (p77 : Int) (p78 : Int) (p79 : Int) (p80 : List UInt8) (p81 : Bool) (p82 : List UInt8) (p83 : List UInt8) (p84 : List GTok) (p85 : Int) (p86 : Bool) : Option ((Int × Int × Int × (List UInt8) × Bool × (List UInt8) × (List UInt8) × (List GTok) × Int) ⊕ ((Int × Int × Int × (List UInt8) × Bool × (List UInt8) × (List UInt8) × (List GTok)))) := (bif p86 then (f102_l2_j4 a1 a2 p77 p78 p79 p80 p81 p82 p83 p84 p85) else (some (.inr (p77, p78, p79, p80, p81, p82, p83, p84))))
theorem f102_l2_j3_ok {d : Nat} (hd : 5 ≤ d) (a1 : GWire) (a2 : List UInt8) {r : (Int × Int × Int × (List UInt8) × Bool × (List UInt8) × (List UInt8) × (List GTok) × Int) ⊕ ((Int × Int × Int × (List UInt8) × Bool × (List UInt8) × (List UInt8) × (List GTok)))} {Q : PQ} (hQ : FQ (finL (f102_l2_H a1 a2) (f102_l2_X a1 a2) r) Q) (p77 : Int) (p78 : Int) (p79 : Int) (p80 : List UInt8) (p81 : Bool) (p82 : List UInt8) (p83 : List UInt8) (p84 : List GTok) (p85 : Int) (p86 : Bool) (hS : f102_l2_j3 a1 a2 p77 p78 p79 p80 p81 p82 p83 p84 p85 p86 = some r) {st : St} (he : keepSt [1, 4, 8, 23, 24, 25] [(40, .id 40), (176, .id 176), (160, .id 160), (449, .id 449), (450, .id 450)] [] st = f102_l2_j3_J a1 a2 p77 p78 p79 p80 p81 p82 p83 p84 p85 p86) : ZR (lev codes baseL (d - 1)) Q c102_3 [] st := by
 refine zrKeep he ?_
 unfold f102_l2_j3 at hS
 refine zrSeq (sR 25 hS (fun hS => ?_) (fun hS => ?_))
 ·exact zT (zrSkip (zkSeq (f102_l2_j4_ok hd a1 a2 hQ p77 p78 p79 p80 p81 p82 p83 p84 p85 hS (by kernel_rfl))))
 ·exact zF (zrKeep (J := f102_l2_e0_J a1 a2 p77 p78 p79 p80 p81 p82 p83 p84) (by kernel_rfl) (zrExit (zkSeqX (zkNil (eX0 hS hQ)))))
def f102_l2 (a1 : GWire) (a2 : List UInt8) (x : Int × Int × Int × (List UInt8) × Bool × (List UInt8) × (List UInt8) × (List GTok) × Int) : Option ((Int × Int × Int × (List UInt8) × Bool × (List UInt8) × (List UInt8) × (List GTok) × Int) ⊕ ((Int × Int × Int × (List UInt8) × Bool × (List UInt8) × (List UInt8) × (List GTok)))) := (bif (decide (x.2.2.2.2.2.2.2.2 < (a2.length : Int))) then (f102_l2_j3 a1 a2 x.1 x.2.1 x.2.2.1 x.2.2.2.1 x.2.2.2.2.1 x.2.2.2.2.2.1 x.2.2.2.2.2.2.1 x.2.2.2.2.2.2.2.1 x.2.2.2.2.2.2.2.2 true) else (f102_l2_j3 a1 a2 x.1 x.2.1 x.2.2.1 x.2.2.2.1 x.2.2.2.2.1 x.2.2.2.2.2.1 x.2.2.2.2.2.2.1 x.2.2.2.2.2.2.2.1 x.2.2.2.2.2.2.2.2 false))
theorem f102_l2_ok {d : Nat} (hd : 5 ≤ d) (a1 : GWire) (a2 : List UInt8) {r : (Int × Int × Int × (List UInt8) × Bool × (List UInt8) × (List UInt8) × (List GTok) × Int) ⊕ ((Int × Int × Int × (List UInt8) × Bool × (List UInt8) × (List UInt8) × (List GTok)))} {Q : PQ} (hQ : FQ (finL (f102_l2_H a1 a2) (f102_l2_X a1 a2) r) Q) {x : Int × Int × Int × (List UInt8) × Bool × (List UInt8) × (List UInt8) × (List GTok) × Int} (hS : f102_l2 a1 a2 x = some r) {st : St} (he : f102_l2_H a1 a2 x st) : ZR (lev codes baseL (d - 1)) Q c102_4 [] st := by
 refine zrKeep he ?_
 unfold f102_l2 at hS
 refine zrSeq (zrReg ?_)
 refine sB 25 1 (.cmpI .lss (tm 24) (tm 23)) hS (fun hS => ?_) (fun hS => ?_)
 ·refine zE (zkSeq ?_)
  exact f102_l2_j3_ok hd a1 a2 hQ x.1 x.2.1 x.2.2.1 x.2.2.2.1 x.2.2.2.2.1 x.2.2.2.2.2.1 x.2.2.2.2.2.2.1 x.2.2.2.2.2.2.2.1 x.2.2.2.2.2.2.2.2 true hS (by kernel_rfl)
 ·refine zE (zkSeq ?_)
  exact f102_l2_j3_ok hd a1 a2 hQ x.1 x.2.1 x.2.2.1 x.2.2.2.1 x.2.2.2.2.1 x.2.2.2.2.2.1 x.2.2.2.2.2.2.1 x.2.2.2.2.2.2.2.1 x.2.2.2.2.2.2.2.2 false hS (by kernel_rfl)
def f102_j0_J (a1 : GWire) (a2 : List UInt8) : St := ⟨(up (up (up u0 4 (pt 40)) 2 (pt 24)) 1 (.d (.str a2))), (up (up h0 40 ⟨0, some (.box ((dI 0) :: ((dI 0) :: ((dI 0) :: ((.d (.str ([]))) :: ((dB false) :: []))))))⟩) 24 ⟨0, some (.box ((dI a1.Mode) :: ((dI a1.Cmd) :: ((dI a1.Opt) :: ((.d (.str a1.Buf)) :: ((dB a1.Over) :: []))))))⟩)⟩
def f102_j0 (a1 : GWire) (a2 : List UInt8) : Option (GWire × (List GTok) × Int) := ((chk (decide (a1.Buf.length ≤ 140737488355328))).bind fun z11 => ((loopO (f102_l2 a1 a2) (a1.Mode, a1.Cmd, a1.Opt, a1.Buf, a1.Over, a1.Buf, [], [], 0)).bind fun z15 => (f102_j1 a1 a2 z15.1 z15.2.1 z15.2.2.1 z15.2.2.2.1 z15.2.2.2.2.1 z15.2.2.2.2.2.1 z15.2.2.2.2.2.2.1 z15.2.2.2.2.2.2.2)))
theorem f102_j0_ok {d : Nat} (hd : 5 ≤ d) (a1 : GWire) (a2 : List UInt8) {r : GWire × (List GTok) × Int} {Q : PQ} (hQ : FQ (f102_Q r) Q)  (hS : f102_j0 a1 a2 = some r) {st : St} (he : keepSt [1, 2, 4] [(24, .id 24), (40, .id 40)] [] st = f102_j0_J a1 a2) : ZR (lev codes baseL (d - 1)) Q c102_5 [] st := by
 refine zrKeep he ?_
 unfold f102_j0 at hS
 refine zrSeq (zrReg (zL 3 3 ?_))
 refine bindE hS (fun z11 hz11 hS => zO (v := (.r (.msl 160 1 0 a1.Buf.length))) (ups := [(160, ⟨1, some (.own 5 1 (eU8.cells a1.Buf))⟩)]) (some 19) 4 (.cvSO 5 (tm 18)) (ev_cvSO (s := a1.Buf) (by kernel_rfl) hz11) (zL 3 7 (zE (zkSeq (zrSeq (zrSeq (zrReg (zL 3 3 (zE (zkSeq ?_))))))))))
 refine zrBlk (bindE hS (fun z15 hz15 hS => zrLoop (f102_l2_H a1 a2) (f102_l2_X a1 a2) (fun x st r Q h0 hS hQ => f102_l2_ok hd a1 a2 hQ hS h0) (x := (a1.Mode, a1.Cmd, a1.Opt, a1.Buf, a1.Over, a1.Buf, [], [], 0)) (z := z15) (by show keepSt _ _ _ _ = _; kernel_rfl) hz15 ?_))
 intro e st' _ hX
 obtain ⟨rfl, rfl⟩ : _ ∧ _ := hX
 exact zkBlkX (zkSeq (f102_j1_ok hd a1 a2 hQ z15.1 z15.2.1 z15.2.2.1 z15.2.2.2.1 z15.2.2.2.2.1 z15.2.2.2.2.2.1 z15.2.2.2.2.2.2.1 z15.2.2.2.2.2.2.2 hS (by kernel_rfl)))
def f102 (a1 : GWire) (a2 : List UInt8) : Option (GWire × (List GTok) × Int) := ((f52 a1).bind fun z16 => (bif (!decide (z16 = 0)) then (some (a1, [], z16)) else (f102_j0 a1 a2 )))
theorem f102_ok (d : Nat) (hd : 5 ≤ d) (a1 : GWire) (a2 : List UInt8) (r : GWire × (List GTok) × Int) (hS : f102 a1 a2 = some r) : lev codes baseL d 102 [(.agg ((dI a1.Mode) :: ((dI a1.Cmd) :: ((dI a1.Opt) :: ((.d (.str a1.Buf)) :: ((dB a1.Over) :: [])))))), (.d (.str a2))] [] = some ((.tup [(.agg ((dI r.1.Mode) :: ((dI r.1.Cmd) :: ((dI r.1.Opt) :: ((.d (.str r.1.Buf)) :: ((dB r.1.Over) :: [])))))), (.r (.own 0 201 4 r.2.1.length (e_GTok.cells r.2.1))), (dI r.2.2)]), []) := by
 refine lev_go codes102 rfl rfl (Nat.le_trans (Nat.le_of_ble_eq_true rfl) hd) fun Q hQ => ?_
 unfold f102 at hS
 show ZR _ Q c102_b [] _
 replace hQ : FQ (f102_Q r) Q := hQ
 refine zrSeq (zrReg (zL 4 4 (zE (zkSeq (zrSeq (zrSeq (zrReg (zL 1 1 ?_))))))))
 refine bindE hS (fun z16 hz16 hS => zO (some 11) 2 (c1 52 10) (ev_cA (f52_ok (d - 1) (dpt hd rfl) a1 z16 hz16)) (zL 1 3 (zE (zkSeq (zrSeq (zrReg (zL 1 1 ?_)))))))
 refine sB 13 2 (.cmpI .neq (tm 12) (ki 0)) hS (fun hS => ?_) (fun hS => ?_)
 ·refine zE (zkSeq (zT (zrSeq (zrReg (zL 5 5 (zE (zkSeq ?_)))))))
  exact zrRet (zkSeqR (zkNil (endQ hS hQ (fR (f102_out a1 [] z16)))))
 ·refine zE (zkSeq (zF ?_))
  exact zrSkip (zkSeq (f102_j0_ok hd a1 a2 hQ  hS (by kernel_rfl)))
/- farwriter/qneg.Hear -/
def f162_fin (p13 : Int) (p14 : Int) (p15 : Bool) : St := ⟨(up (up (up u0 8 (dB p15)) 7 (dI p14)) 6 (dI p13)), h0⟩
theorem f162_out (p13 : Int) (p14 : Int) (p15 : Bool) : outR (f162_fin p13 p14 p15) 0 c162.res = some ((.tup [(dI p13), (dI p14), (dB p15)]), []) := by
 kernel_rfl
def f162_Q (r : Int × Int × Bool) (e : PX) (st : St) : Prop := DoneF c162 0 ((.tup [(dI r.1), (dI r.2.1), (dB r.2.2)]), []) e st
def f162_j0_J (a1 : Int) (a2 : Bool) (a3 : Bool) : St := ⟨(up u0 0 (dI a1)), h0⟩
def f162_j0 (a1 : Int) (a2 : Bool) (a3 : Bool) : Option (Int × Int × Bool) := (bif (decide (a1 = 1)) then (some (0, 2, false)) else (bif (decide (a1 = 3)) then (some (4, 1, false)) else (bif (decide (a1 = 0)) then (some (0, 0, false)) else (bif (decide (a1 = 2)) then (some (0, 0, false)) else (bif (decide (a1 = 4)) then (some (0, 0, false)) else (bif (decide (a1 = 5)) then (some (0, 0, false)) else (some (a1, 0, false))))))))
theorem f162_j0_ok {d : Nat} (hd : 1 ≤ d) (a1 : Int) (a2 : Bool) (a3 : Bool) {r : Int × Int × Bool} {Q : PQ} (hQ : FQ (f162_Q r) Q)  (hS : f162_j0 a1 a2 a3 = some r) {st : St} (he : keepSt [0] [] [] st = f162_j0_J a1 a2 a3) : ZR (lev codes baseL (d - 1)) Q c162_1 [] st := by
 refine zrKeep he ?_
 unfold f162_j0 at hS
 refine zrSeq (zrSeq (zrReg (zL 1 1 (zE (zkSeq ?_)))))
 refine zrBlk (zrSeq (zrReg ?_))
 refine sB 26 1 (ck 24 1) hS (fun hS => ?_) (fun hS => ?_)
 ·refine zL 1 2 (zE (zkSeq (zT (zrSeq (zrReg (zL 3 3 (zE (zkSeq ?_))))))))
  exact zrRet (zkBlkR (zkSeqR (zkNil (endQ hS hQ (fR (f162_out 0 2 false))))))
 ·refine zL 1 2 (zE (zkSeq (zF (zrSeq (zrReg ?_)))))
  refine sB 28 1 (ck 24 3) hS (fun hS => ?_) (fun hS => ?_)
  ·refine zL 1 2 (zE (zkSeq (zT (zrSeq (zrReg (zL 3 3 (zE (zkSeq ?_))))))))
   exact zrRet (zkBlkR (zkSeqR (zkNil (endQ hS hQ (fR (f162_out 4 1 false))))))
  ·refine zL 1 2 (zE (zkSeq (zF (zrSeq (zrSeq (zrReg ?_))))))
   refine sB 30 1 (ck 24 0) hS (fun hS => ?_) (fun hS => ?_)
   ·refine zL 1 2 (zE (zkSeq (zT ?_)))
    refine zrSkip (zkSeq (zT (zrSeq (zrReg (zL 3 3 (zE (zkSeq ?_)))))))
    exact zrRet (zkBlkR (zkSeqR (zkNil (endQ hS hQ (fR (f162_out 0 0 false))))))
   ·refine zL 1 2 (zE (zkSeq (zF (zrSeq (zrReg ?_)))))
    refine sB 31 1 (ck 24 2) hS (fun hS => ?_) (fun hS => ?_)
    ·refine zL 1 2 (zE (zkSeq (zT ?_)))
     refine zrSkip (zkSeq (zT (zrSeq (zrReg (zL 3 3 (zE (zkSeq ?_)))))))
     exact zrRet (zkBlkR (zkSeqR (zkNil (endQ hS hQ (fR (f162_out 0 0 false))))))
    ·refine zL 1 2 (zE (zkSeq (zF (zrSeq (zrReg ?_)))))
     refine sB 32 1 (ck 24 4) hS (fun hS => ?_) (fun hS => ?_)
     ·refine zL 1 2 (zE (zkSeq (zT ?_)))
      refine zrSkip (zkSeq (zT (zrSeq (zrReg (zL 3 3 (zE (zkSeq ?_)))))))
      exact zrRet (zkBlkR (zkSeqR (zkNil (endQ hS hQ (fR (f162_out 0 0 false))))))
     ·refine zL 1 2 (zE (zkSeq (zF (zrReg ?_))))
      refine sB 33 1 (ck 24 5) hS (fun hS => ?_) (fun hS => ?_)
      ·refine zL 1 2 (zE (zkSeq (zT (zrSeq (zrReg (zL 3 3 (zE (zkSeq ?_))))))))
       exact zrRet (zkBlkR (zkSeqR (zkNil (endQ hS hQ (fR (f162_out 0 0 false))))))
      ·refine zL 1 2 (zE (zkSeq (zF ?_)))
       refine zrSkip (zkBlk (zkSeq (zrSeq (zrReg (zL 4 4 (zE (zkSeq ?_)))))))
       exact zrRet (zkNil (endQ hS hQ (fR (f162_out a1 0 false))))
def f162_j1_J (a1 : Int) (a2 : Bool) (a3 : Bool) (p24 : Bool) : St := ⟨(up (up (up u0 14 (dB p24)) 10 (dI a1)) 0 (dI a1)), h0⟩
def f162_j1 (a1 : Int) (a2 : Bool) (a3 : Bool) (p24 : Bool) : Option (Int × Int × Bool) := (bif p24 then (some (1, 0, false)) else (bif (decide (a1 = 2)) then (some (0, 0, true)) else (bif (decide (a1 = 3)) then (some (1, 0, true)) else (bif (decide (a1 = 5)) then (some (2, 2, false)) else (some (a1, 0, false))))))
theorem f162_j1_ok {d : Nat} (hd : 1 ≤ d) (a1 : Int) (a2 : Bool) (a3 : Bool) {r : Int × Int × Bool} {Q : PQ} (hQ : FQ (f162_Q r) Q) (p24 : Bool) (hS : f162_j1 a1 a2 a3 p24 = some r) {st : St} (he : keepSt [0, 10, 14] [] [] st = f162_j1_J a1 a2 a3 p24) : ZR (lev codes baseL (d - 1)) Q c162_2 [.blk 0, .seq c162_3, .seq c162_1] st := by
 refine zrKeep he ?_
 unfold f162_j1 at hS
 refine sR 14 hS (fun hS => ?_) (fun hS => ?_)
 ·refine zT (zrSeq (zrReg (zL 3 3 (zE (zkSeq ?_)))))
  exact zrRet (zkBlkR (zkSeqR (zkSeqR (zkNil (endQ hS hQ (fR (f162_out 1 0 false)))))))
 ·refine zF (zrSeq (zrReg ?_))
  refine sB 18 1 (ck 10 2) hS (fun hS => ?_) (fun hS => ?_)
  ·refine zL 1 2 (zE (zkSeq (zT (zrSeq (zrReg (zL 3 3 (zE (zkSeq ?_))))))))
   exact zrRet (zkBlkR (zkSeqR (zkSeqR (zkNil (endQ hS hQ (fR (f162_out 0 0 true)))))))
  ·refine zL 1 2 (zE (zkSeq (zF (zrSeq (zrReg ?_)))))
   refine sB 20 1 (ck 10 3) hS (fun hS => ?_) (fun hS => ?_)
   ·refine zL 1 2 (zE (zkSeq (zT (zrSeq (zrReg (zL 3 3 (zE (zkSeq ?_))))))))
    exact zrRet (zkBlkR (zkSeqR (zkSeqR (zkNil (endQ hS hQ (fR (f162_out 1 0 true)))))))
   ·refine zL 1 2 (zE (zkSeq (zF (zrSeq (zrReg ?_)))))
    refine sB 22 1 (ck 10 5) hS (fun hS => ?_) (fun hS => ?_)
    ·refine zL 1 2 (zE (zkSeq (zT (zrSeq (zrReg (zL 3 3 (zE (zkSeq ?_))))))))
     exact zrRet (zkBlkR (zkSeqR (zkSeqR (zkNil (endQ hS hQ (fR (f162_out 2 2 false)))))))
    ·refine zL 1 2 (zE (zkSeq (zF ?_)))
     refine zrSkip (zkBlk (zkSeq (zrSeq (zrReg (zL 4 4 (zE (zkSeq ?_)))))))
     exact zrRet (zkSeqR (zkNil (endQ hS hQ (fR (f162_out a1 0 false)))))
def f162 (a1 : Int) (a2 : Bool) (a3 : Bool) : Option (Int × Int × Bool) := (bif a2 then (bif (decide (a1 = 0)) then (bif a3 then (some (1, 1, false)) else (some (0, 2, false))) else (bif (decide (a1 = 1)) then (f162_j1 a1 a2 a3 true) else (bif (decide (a1 = 4)) then (f162_j1 a1 a2 a3 true) else (f162_j1 a1 a2 a3 false)))) else (f162_j0 a1 a2 a3 ))
theorem f162_ok (d : Nat) (hd : 1 ≤ d) (a1 : Int) (a2 : Bool) (a3 : Bool) (r : Int × Int × Bool) (hS : f162 a1 a2 a3 = some r) : lev codes baseL d 162 [(dI a1), (dB a2), (dB a3)] [] = some ((.tup [(dI r.1), (dI r.2.1), (dB r.2.2)]), []) := by
 refine lev_go codes162 rfl rfl (Nat.le_trans (Nat.le_of_ble_eq_true rfl) hd) fun Q hQ => ?_
 unfold f162 at hS
 show ZR _ Q c162_b [] _
 replace hQ : FQ (f162_Q r) Q := hQ
 refine zrSeq (zrReg (zL 3 3 (zE (zkSeq (zrSeq (zrSeq (zrReg (zL 1 1 (zE (zkSeq ?_))))))))))
 refine sR 9 hS (fun hS => ?_) (fun hS => ?_)
 ·refine zT (zrSeq (zrSeq (zrReg (zL 1 1 (zE (zkSeq ?_))))))
  refine zrBlk (zrSeq (zrReg ?_))
  refine sB 12 1 (ck 10 0) hS (fun hS => ?_) (fun hS => ?_)
  ·refine zL 1 2 (zE (zkSeq (zT (zrSeq (zrSeq (zrReg (zL 1 1 (zE (zkSeq ?_)))))))))
   refine sR 13 hS (fun hS => ?_) (fun hS => ?_)
   ·refine zT (zrSeq (zrReg (zL 3 3 (zE (zkSeq ?_)))))
    exact zrRet (zkSeqR (zkBlkR (zkSeqR (zkSeqR (zkNil (endQ hS hQ (fR (f162_out 1 1 false))))))))
   ·refine zF (zrSkip (zkSeq (zrSeq (zrReg (zL 3 3 (zE (zkSeq ?_)))))))
    exact zrRet (zkBlkR (zkSeqR (zkSeqR (zkNil (endQ hS hQ (fR (f162_out 0 2 false)))))))
  ·refine zL 1 2 (zE (zkSeq (zF (zrSeq (zrSeq (zrReg ?_))))))
   refine sB 15 1 (ck 10 1) hS (fun hS => ?_) (fun hS => ?_)
   ·refine zL 1 2 (zE (zkSeq (zT ?_)))
    exact zrSkip (zkSeq (f162_j1_ok hd a1 a2 a3 hQ true hS (by kernel_rfl)))
   ·refine zL 1 2 (zE (zkSeq (zF (zrReg ?_))))
    refine sB 16 1 (ck 10 4) hS (fun hS => ?_) (fun hS => ?_)
    ·refine zL 1 2 (zE (zkSeq ?_))
     exact f162_j1_ok hd a1 a2 a3 hQ true hS (by kernel_rfl)
    ·refine zL 1 2 (zE (zkSeq ?_))
     exact f162_j1_ok hd a1 a2 a3 hQ false hS (by kernel_rfl)
 ·exact zF (zrSkip (zkSeq (f162_j0_ok hd a1 a2 a3 hQ  hS (by kernel_rfl))))
/- farwriter/qneg.bytes -/
def f120_fin (p3 : List UInt8) : St := ⟨(up u0 6 (.d (.str p3))), h0⟩
theorem f120_out (p3 : List UInt8) : outR (f120_fin p3) 0 c120.res = some ((.d (.str p3)), []) := by
 kernel_rfl
def f120_Q (r : (List UInt8)) (e : PX) (st : St) : Prop := DoneF c120 0 ((.d (.str r)), []) e st
def f120_j1_J (a1 : Bool) (a2 : Int) (a3 : Int) (p6 : Int) : St := ⟨(up (up (up u0 7 (dI p6)) 2 (dI a3)) 1 (dI a2)), h0⟩
def f120_j1 (a1 : Bool) (a2 : Int) (a3 : Int) (p6 : Int) : Option ((List UInt8)) := (some ([255, (u8 (IntKind.i64.wrap ((IntKind.i64.wrap (p6 + a2)) - 1))), (u8 a3)] : List UInt8))
theorem f120_j1_ok {d : Nat} (hd : 1 ≤ d) (a1 : Bool) (a2 : Int) (a3 : Int) {r : (List UInt8)} {Q : PQ} (hQ : FQ (f120_Q r) Q) (p6 : Int) (hS : f120_j1 a1 a2 a3 p6 = some r) {st : St} (he : keepSt [1, 2, 7] [] [] st = f120_j1_J a1 a2 a3 p6) : ZR (lev codes baseL (d - 1)) Q c120_1 [] st := by
 refine zrKeep he ?_
 unfold f120_j1 at hS
 refine zrSeq (zrReg (zL 4 4 ?_))
 refine zO (v := (.d (.int .u8 ((u8 (IntKind.i64.wrap ((IntKind.i64.wrap (p6 + a2)) - 1))).toNat : Int)))) (ups := []) (some 15) 5 (.cvI .u8 (tm 14)) (ev_cv (kk := .i64) (a := (IntKind.i64.wrap ((IntKind.i64.wrap (p6 + a2)) - 1))) (by kernel_rfl) (u8_wrap _)) (zL 1 6 (zO (v := (.d (.int .u8 ((u8 a3).toNat : Int)))) (ups := []) (some 17) 7 (.cvI .u8 (tm 16)) (ev_cv (kk := .i64) (a := a3) (by kernel_rfl) (u8_wrap _)) (zL 1 8 (zO (v := (.d (.str ([255, (u8 (IntKind.i64.wrap ((IntKind.i64.wrap (p6 + a2)) - 1))), (u8 a3)] : List UInt8)))) (ups := []) (some 19) 9 (.cvBS (tm 18)) (ev_cvBS (s := [255, (u8 (IntKind.i64.wrap ((IntKind.i64.wrap (p6 + a2)) - 1))), (u8 a3)]) ((congrArg (asL _) (by kernel_rfl : ρof _ (.tmp 18) = (.r (.msl 152 1 0 (([255, (u8 (IntKind.i64.wrap ((IntKind.i64.wrap (p6 + a2)) - 1))), (u8 a3)] : List UInt8).length))))).trans (as_whole eU8 (e := 5) (k := 1) (xs := [255, (u8 (IntKind.i64.wrap ((IntKind.i64.wrap (p6 + a2)) - 1))), (u8 a3)]) (by kernel_rfl) rfl rfl)) rfl) (zL 1 10 (zE (zkSeq ?_)))))))
 exact zrRet (zkNil (endQ hS hQ (fR (f120_out ([255, (u8 (IntKind.i64.wrap ((IntKind.i64.wrap (p6 + a2)) - 1))), (u8 a3)] : List UInt8)))))
def f120_j0_J (a1 : Bool) (a2 : Int) (a3 : Int) : St := ⟨(up (up (up u0 2 (dI a3)) 1 (dI a2)) 0 (dB a1)), h0⟩
def f120_j0 (a1 : Bool) (a2 : Int) (a3 : Int) : Option ((List UInt8)) := (bif a1 then (f120_j1 a1 a2 a3 251) else (f120_j1 a1 a2 a3 253))
theorem f120_j0_ok {d : Nat} (hd : 1 ≤ d) (a1 : Bool) (a2 : Int) (a3 : Int) {r : (List UInt8)} {Q : PQ} (hQ : FQ (f120_Q r) Q)  (hS : f120_j0 a1 a2 a3 = some r) {st : St} (he : keepSt [0, 1, 2] [] [] st = f120_j0_J a1 a2 a3) : ZR (lev codes baseL (d - 1)) Q c120_2 [] st := by
 refine zrKeep he ?_
 unfold f120_j0 at hS
 refine zrSeq (zrReg (zL 1 1 (zE (zkSeq (zrSeq (zrSeq (zrReg (zL 1 1 (zE (zkSeq ?_))))))))))
 refine sR 10 hS (fun hS => ?_) (fun hS => ?_)
 ·refine zT (zrReg (zL 1 1 (zE (zkSeq ?_))))
  exact f120_j1_ok hd a1 a2 a3 hQ 251 hS (by kernel_rfl)
 ·exact zF (zrSkip (zkSeq (f120_j1_ok hd a1 a2 a3 hQ 253 hS (by kernel_rfl))))
def f120 (a1 : Bool) (a2 : Int) (a3 : Int) : Option ((List UInt8)) := (bif (decide (a2 = 0)) then (some []) else (f120_j0 a1 a2 a3 ))
theorem f120_ok (d : Nat) (hd : 1 ≤ d) (a1 : Bool) (a2 : Int) (a3 : Int) (r : (List UInt8)) (hS : f120 a1 a2 a3 = some r) : lev codes baseL d 120 [(dB a1), (dI a2), (dI a3)] [] = some ((.d (.str r)), []) := by
 refine lev_go codes120 rfl rfl (Nat.le_trans (Nat.le_of_ble_eq_true rfl) hd) fun Q hQ => ?_
 unfold f120 at hS
 show ZR _ Q c120_b [] _
 replace hQ : FQ (f120_Q r) Q := hQ
 refine zrSeq (zrReg (zL 1 1 (zE (zkSeq (zrSeq (zrSeq (zrReg (zL 1 1 ?_))))))))
 refine sB 9 2 (ck 8 0) hS (fun hS => ?_) (fun hS => ?_)
 ·refine zE (zkSeq (zT (zrSeq (zrReg (zL 1 1 (zE (zkSeq ?_)))))))
  exact zrRet (zkSeqR (zkNil (endQ hS hQ (fR (f120_out [])))))
 ·refine zE (zkSeq (zF ?_))
  exact zrSkip (zkSeq (f120_j0_ok hd a1 a2 a3 hQ  hS (by kernel_rfl)))
/- farwriter/qneg.Hears -/
def f104_fin (p9 : GNeg) (p10 : List UInt8) : St := ⟨(up (up u0 5 (.d (.str p10))) 4 (pt 40)), (up h0 40 ⟨0, some (.box ((eU8.row 256 p9.Us) ++ ((eU8.row 256 p9.Him) ++ (((eInt .u64).row 4 p9.UsOk) ++ (((eInt .u64).row 4 p9.HimOk) ++ [])))))⟩)⟩
theorem f104_out (p9 : GNeg) (p10 : List UInt8) : outR (f104_fin p9 p10) 0 c104.res = some ((.tup [(.agg ((eU8.row 256 p9.Us) ++ ((eU8.row 256 p9.Him) ++ (((eInt .u64).row 4 p9.UsOk) ++ (((eInt .u64).row 4 p9.HimOk) ++ []))))), (.d (.str p10))]), []) := by
 kernel_rfl
def f104_Q (r : GNeg × (List UInt8)) (e : PX) (st : St) : Prop := DoneF c104 0 ((.tup [(.agg ((eU8.row 256 r.1.Us) ++ ((eU8.row 256 r.1.Him) ++ (((eInt .u64).row 4 r.1.UsOk) ++ (((eInt .u64).row 4 r.1.HimOk) ++ []))))), (.d (.str r.2))]), []) e st
def f104_j1_J (a1 : GNeg) (a2 : GTok) (p16 : Bool) (p17 : Bool) : St := ⟨(up (up (up (up (up u0 7 (dB p17)) 6 (dB p16)) 4 (pt 40)) 3 (pt 32)) 2 (pt 24)), (up (up (up h0 40 ⟨0, some (.box ((eU8.row 256 (fun _ => 0)) ++ ((eU8.row 256 (fun _ => 0)) ++ (((eInt .u64).row 4 (fun _ => 0)) ++ (((eInt .u64).row 4 (fun _ => 0)) ++ [])))))⟩) 32 ⟨0, some (.box ((dI a2.Kind) :: ((dI a2.Cmd) :: ((dI a2.Opt) :: ((.d (.str a2.Data)) :: [])))))⟩) 24 ⟨0, some (.box ((eU8.row 256 a1.Us) ++ ((eU8.row 256 a1.Him) ++ (((eInt .u64).row 4 a1.UsOk) ++ (((eInt .u64).row 4 a1.HimOk) ++ [])))))⟩)⟩
def f104_j1 (a1 : GNeg) (a2 : GTok) (p16 : Bool) (p17 : Bool) : Option (GNeg × (List UInt8)) := ((inR a2.Opt 256).bind fun m15 => (bif p17 then ((inR a2.Opt 256).bind fun m17 => ((inR (IntKind.i64.wrap (Int.tdiv a2.Opt 64)) 4).bind fun m22 => ((chk (decide (0 ≤ (Int.tmod a2.Opt 64)))).bind fun z23 => (bif (decide ((bitI .and .u64 (Int.fdiv (a1.UsOk m22) (2 ^ (min ((Int.tmod a2.Opt 64) : Int).toNat 64))) 1) = 1)) then ((f162 ((a1.Us m17).toNat : Int) p16 true).bind fun z24 => ((f120 p17 z24.2.1 a2.Opt).bind fun z25 => (some ({ a1 with Us := (upd a1.Us m17 (u8 z24.1)) }, z25)))) else ((f162 ((a1.Us m17).toNat : Int) p16 false).bind fun z26 => ((f120 p17 z26.2.1 a2.Opt).bind fun z27 => (some ({ a1 with Us := (upd a1.Us m17 (u8 z26.1)) }, z27)))))))) else ((inR (IntKind.i64.wrap (Int.tdiv a2.Opt 64)) 4).bind fun m32 => ((chk (decide (0 ≤ (Int.tmod a2.Opt 64)))).bind fun z33 => (bif (decide ((bitI .and .u64 (Int.fdiv (a1.HimOk m32) (2 ^ (min ((Int.tmod a2.Opt 64) : Int).toNat 64))) 1) = 1)) then ((f162 ((a1.Him m15).toNat : Int) p16 true).bind fun z34 => ((f120 p17 z34.2.1 a2.Opt).bind fun z35 => (some ({ a1 with Him := (upd a1.Him m15 (u8 z34.1)) }, z35)))) else ((f162 ((a1.Him m15).toNat : Int) p16 false).bind fun z36 => ((f120 p17 z36.2.1 a2.Opt).bind fun z37 => (some ({ a1 with Him := (upd a1.Him m15 (u8 z36.1)) }, z37)))))))))
theorem f104_j1_ok {d : Nat} (hd : 2 ≤ d) (a1 : GNeg) (a2 : GTok) {r : GNeg × (List UInt8)} {Q : PQ} (hQ : FQ (f104_Q r) Q) (p16 : Bool) (p17 : Bool) (hS : f104_j1 a1 a2 p16 p17 = some r) {st : St} (he : keepSt [2, 3, 4, 6, 7] [(24, .id 24), (32, .id 32), (40, .id 40)] [] st = f104_j1_J a1 a2 p16 p17) : ZR (lev codes baseL (d - 1)) Q c104_1 [] st := by
 refine zrKeep he ?_
 unfold f104_j1 at hS
 refine zrSeq (zrRegD (zdR 3 3 (bindE hS (fun m15 hm15 hS => zdO (v := (.r (.ptr 24 0 (256 + m15 * 1)))) (ups := []) (some 32) 4 none (.ixA 256 1 (tm 31) (tm 30)) (ev_ixA (kk := .i64) (b := 24) (g := 0) (o := 256) (j := a2.Opt) (by kernel_rfl) (by kernel_rfl) hm15) (zdR 5 9 (zdE (zkSeq (zrSeq (zrSeq (zrReg (zL 1 1 (zE (zkSeq ?_)))))))))))))
 refine sR 35 hS (fun hS => ?_) (fun hS => ?_)
 ·refine zT (zrRegD (zdR 3 3 (bindE hS (fun m17 hm17 hS => zdO (v := (.r (.ptr 24 0 (0 + m17 * 1)))) (ups := []) (some 39) 4 none (.ixA 256 1 (tm 38) (tm 37)) (ev_ixA (kk := .i64) (b := 24) (g := 0) (o := 0) (j := a2.Opt) (by kernel_rfl) (by kernel_rfl) hm17) (zdR 4 8 (zdE (zkSeq (zrSeq ?_))))))))
  refine zrRegD (zdR 2 2 (zdO (v := (.d (.int .u8 ((a1.Us m17).toNat : Int)))) (ups := []) (some 45) 3 none (lf 1 44) (ev_loadA eU8 (b := 24) (g := 0) (o := 0 + m17 * 1) (f := a1.Us) (nn := 256) (m := m17) (fo := 0) (pre := []) (post := ((eU8.row 256 a1.Him) ++ (((eInt .u64).row 4 a1.UsOk) ++ (((eInt .u64).row 4 a1.HimOk) ++ [])))) (by kernel_rfl) (by kernel_rfl) (by kernel_rfl) (inR_lt hm17) (by kernel_rfl) (by kernel_rfl) (by kernel_rfl)) (zdO (v := (dI ((a1.Us m17).toNat : Int))) (ups := []) (some 46) 4 none (.cvI .i64 (tm 45)) (ev_cv (kk := .u8) (a := ((a1.Us m17).toNat : Int)) (by kernel_rfl) (cv_i64 _)) (zdR 4 8 (bindE hS (fun m22 hm22 hS => zdO (v := (.r (.ptr 80 1 (0 + m22 * 1)))) (ups := []) (some 51) 9 none (.ixA 4 1 (tm 9) (tm 50)) (ev_ixA (kk := .i64) (b := 80) (g := 1) (o := 0) (j := (IntKind.i64.wrap (Int.tdiv a2.Opt 64))) (by kernel_rfl) (by kernel_rfl) hm22) (zdO (v := (.d (.int .u64 (a1.UsOk m22)))) (ups := []) (some 52) 10 none (lf 1 51) (ev_loadA (eInt .u64) (b := 80) (g := 1) (o := 0 + m22 * 1) (f := a1.UsOk) (nn := 4) (m := m22) (fo := 0) (pre := []) (post := []) (by kernel_rfl) (by kernel_rfl) (by kernel_rfl) (inR_lt hm22) (by kernel_rfl) (by kernel_rfl) (by kernel_rfl)) (zdR 3 13 (bindE hS (fun z23 hz23 hS => zdO (v := (.d (.int .u64 (Int.fdiv (a1.UsOk m22) (2 ^ (min ((Int.tmod a2.Opt 64) : Int).toNat 64)))))) (ups := []) (some 56) 14 none (.sh .shr (tm 52) (tm 55)) (ev_sh (kk := .u64) (k2 := .i64) (a := (a1.UsOk m22)) (c := (Int.tmod a2.Opt 64)) (by kernel_rfl) (by kernel_rfl) (sh_r hz23)) (zdR 1 15 (sDB 58 16 none (.cmpI .eql (tm 57) (.const (.int .u64 1))) hS (fun hS => ?_) (fun hS => ?_)))))))))))))
  ·refine bindE hS (fun z24 hz24 hS => zdO (some 59) 17 none (.call 162 [(tm 46), (tm 47), (tm 58)]) (ev_cA (f162_ok (d - 1) (dpt hd rfl) ((a1.Us m17).toNat : Int) p16 true z24 hz24)) (zdR 7 24 (zdE (zkSeq (zrSeq (zrReg (zL 2 2 ?_)))))))
   refine zO (v := (.d (.int .u8 ((u8 z24.1).toNat : Int)))) (ups := []) (some 65) 3 (.cvI .u8 (tm 64)) (ev_cv (kk := .i64) (a := z24.1) (by kernel_rfl) (u8_wrap _)) (zL 1 4 (zO (v := .un) (ups := [(24, ⟨0, some (.box ((eU8.row 256 (upd a1.Us m17 (u8 z24.1))) ++ ((eU8.row 256 a1.Him) ++ (((eInt .u64).row 4 a1.UsOk) ++ (((eInt .u64).row 4 a1.HimOk) ++ [])))))⟩)]) none 5 (.store 1 (tm 66) (tm 65)) (ev_storeA eU8 (b := 24) (g := 0) (o := 0 + m17 * 1) (f := a1.Us) (nn := 256) (m := m17) (fo := 0) (pre := []) (post := ((eU8.row 256 a1.Him) ++ (((eInt .u64).row 4 a1.UsOk) ++ (((eInt .u64).row 4 a1.HimOk) ++ [])))) (by kernel_rfl) (by kernel_rfl) (by kernel_rfl) (inR_lt hm17) (new := ((.d (.int .u8 ((u8 z24.1).toNat : Int))) :: [])) (ds := [.int .u8 ((u8 z24.1).toNat : Int)]) (z' := (u8 z24.1)) (by kernel_rfl) (by kernel_rfl) (by kernel_rfl) (by kernel_rfl) (by kernel_rfl) (by kernel_rfl)) (zE (zkSeq (zrSeq ?_)))))
   exact zrRegD (zdR 5 5 (bindE hS (fun z25 hz25 hS => zdO (some 72) 6 none (.call 120 [(tm 68), (tm 69), (tm 71)]) (ev_cA (f120_ok (d - 1) (dpt hd rfl) p17 z24.2.1 a2.Opt z25 hz25)) (zdR 2 8 (zdE (zkSeq (zrRet (zkNil (endQ hS hQ (fR (f104_out ({ a1 with Us := (upd a1.Us m17 (u8 z24.1)) }) z25)))))))))))
  ·refine bindE hS (fun z26 hz26 hS => zdO (some 59) 17 none (.call 162 [(tm 46), (tm 47), (tm 58)]) (ev_cA (f162_ok (d - 1) (dpt hd rfl) ((a1.Us m17).toNat : Int) p16 false z26 hz26)) (zdR 7 24 (zdE (zkSeq (zrSeq (zrReg (zL 2 2 ?_)))))))
   refine zO (v := (.d (.int .u8 ((u8 z26.1).toNat : Int)))) (ups := []) (some 65) 3 (.cvI .u8 (tm 64)) (ev_cv (kk := .i64) (a := z26.1) (by kernel_rfl) (u8_wrap _)) (zL 1 4 (zO (v := .un) (ups := [(24, ⟨0, some (.box ((eU8.row 256 (upd a1.Us m17 (u8 z26.1))) ++ ((eU8.row 256 a1.Him) ++ (((eInt .u64).row 4 a1.UsOk) ++ (((eInt .u64).row 4 a1.HimOk) ++ [])))))⟩)]) none 5 (.store 1 (tm 66) (tm 65)) (ev_storeA eU8 (b := 24) (g := 0) (o := 0 + m17 * 1) (f := a1.Us) (nn := 256) (m := m17) (fo := 0) (pre := []) (post := ((eU8.row 256 a1.Him) ++ (((eInt .u64).row 4 a1.UsOk) ++ (((eInt .u64).row 4 a1.HimOk) ++ [])))) (by kernel_rfl) (by kernel_rfl) (by kernel_rfl) (inR_lt hm17) (new := ((.d (.int .u8 ((u8 z26.1).toNat : Int))) :: [])) (ds := [.int .u8 ((u8 z26.1).toNat : Int)]) (z' := (u8 z26.1)) (by kernel_rfl) (by kernel_rfl) (by kernel_rfl) (by kernel_rfl) (by kernel_rfl) (by kernel_rfl)) (zE (zkSeq (zrSeq ?_)))))
   exact zrRegD (zdR 5 5 (bindE hS (fun z27 hz27 hS => zdO (some 72) 6 none (.call 120 [(tm 68), (tm 69), (tm 71)]) (ev_cA (f120_ok (d - 1) (dpt hd rfl) p17 z26.2.1 a2.Opt z27 hz27)) (zdR 2 8 (zdE (zkSeq (zrRet (zkNil (endQ hS hQ (fR (f104_out ({ a1 with Us := (upd a1.Us m17 (u8 z26.1)) }) z27)))))))))))
 ·refine zF (zrSkip (zkSeq (zrSeq ?_)))
  refine zrRegD (zdR 2 2 (zdO (v := (.d (.int .u8 ((a1.Him m15).toNat : Int)))) (ups := []) (some 45) 3 none (lf 1 44) (ev_loadA eU8 (b := 24) (g := 0) (o := 256 + m15 * 1) (f := a1.Him) (nn := 256) (m := m15) (fo := 0) (pre := ((eU8.row 256 a1.Us) ++ [])) (post := (((eInt .u64).row 4 a1.UsOk) ++ (((eInt .u64).row 4 a1.HimOk) ++ []))) (by kernel_rfl) (by kernel_rfl) (by kernel_rfl) (inR_lt hm15) (by kernel_rfl) (by kernel_rfl) (by kernel_rfl)) (zdO (v := (dI ((a1.Him m15).toNat : Int))) (ups := []) (some 46) 4 none (.cvI .i64 (tm 45)) (ev_cv (kk := .u8) (a := ((a1.Him m15).toNat : Int)) (by kernel_rfl) (cv_i64 _)) (zdR 4 8 (bindE hS (fun m32 hm32 hS => zdO (v := (.r (.ptr 80 1 (0 + m32 * 1)))) (ups := []) (some 51) 9 none (.ixA 4 1 (tm 9) (tm 50)) (ev_ixA (kk := .i64) (b := 80) (g := 1) (o := 0) (j := (IntKind.i64.wrap (Int.tdiv a2.Opt 64))) (by kernel_rfl) (by kernel_rfl) hm32) (zdO (v := (.d (.int .u64 (a1.HimOk m32)))) (ups := []) (some 52) 10 none (lf 1 51) (ev_loadA (eInt .u64) (b := 80) (g := 1) (o := 0 + m32 * 1) (f := a1.HimOk) (nn := 4) (m := m32) (fo := 0) (pre := []) (post := []) (by kernel_rfl) (by kernel_rfl) (by kernel_rfl) (inR_lt hm32) (by kernel_rfl) (by kernel_rfl) (by kernel_rfl)) (zdR 3 13 (bindE hS (fun z33 hz33 hS => zdO (v := (.d (.int .u64 (Int.fdiv (a1.HimOk m32) (2 ^ (min ((Int.tmod a2.Opt 64) : Int).toNat 64)))))) (ups := []) (some 56) 14 none (.sh .shr (tm 52) (tm 55)) (ev_sh (kk := .u64) (k2 := .i64) (a := (a1.HimOk m32)) (c := (Int.tmod a2.Opt 64)) (by kernel_rfl) (by kernel_rfl) (sh_r hz33)) (zdR 1 15 (sDB 58 16 none (.cmpI .eql (tm 57) (.const (.int .u64 1))) hS (fun hS => ?_) (fun hS => ?_)))))))))))))
  ·refine bindE hS (fun z34 hz34 hS => zdO (some 59) 17 none (.call 162 [(tm 46), (tm 47), (tm 58)]) (ev_cA (f162_ok (d - 1) (dpt hd rfl) ((a1.Him m15).toNat : Int) p16 true z34 hz34)) (zdR 7 24 (zdE (zkSeq (zrSeq (zrReg (zL 2 2 ?_)))))))
   refine zO (v := (.d (.int .u8 ((u8 z34.1).toNat : Int)))) (ups := []) (some 65) 3 (.cvI .u8 (tm 64)) (ev_cv (kk := .i64) (a := z34.1) (by kernel_rfl) (u8_wrap _)) (zL 1 4 (zO (v := .un) (ups := [(24, ⟨0, some (.box ((eU8.row 256 a1.Us) ++ ((eU8.row 256 (upd a1.Him m15 (u8 z34.1))) ++ (((eInt .u64).row 4 a1.UsOk) ++ (((eInt .u64).row 4 a1.HimOk) ++ [])))))⟩)]) none 5 (.store 1 (tm 66) (tm 65)) (ev_storeA eU8 (b := 24) (g := 0) (o := 256 + m15 * 1) (f := a1.Him) (nn := 256) (m := m15) (fo := 0) (pre := ((eU8.row 256 a1.Us) ++ [])) (post := (((eInt .u64).row 4 a1.UsOk) ++ (((eInt .u64).row 4 a1.HimOk) ++ []))) (by kernel_rfl) (by kernel_rfl) (by kernel_rfl) (inR_lt hm15) (new := ((.d (.int .u8 ((u8 z34.1).toNat : Int))) :: [])) (ds := [.int .u8 ((u8 z34.1).toNat : Int)]) (z' := (u8 z34.1)) (by kernel_rfl) (by kernel_rfl) (by kernel_rfl) (by kernel_rfl) (by kernel_rfl) (by kernel_rfl)) (zE (zkSeq (zrSeq ?_)))))
   exact zrRegD (zdR 5 5 (bindE hS (fun z35 hz35 hS => zdO (some 72) 6 none (.call 120 [(tm 68), (tm 69), (tm 71)]) (ev_cA (f120_ok (d - 1) (dpt hd rfl) p17 z34.2.1 a2.Opt z35 hz35)) (zdR 2 8 (zdE (zkSeq (zrRet (zkNil (endQ hS hQ (fR (f104_out ({ a1 with Him := (upd a1.Him m15 (u8 z34.1)) }) z35)))))))))))
  ·refine bindE hS (fun z36 hz36 hS => zdO (some 59) 17 none (.call 162 [(tm 46), (tm 47), (tm 58)]) (ev_cA (f162_ok (d - 1) (dpt hd rfl) ((a1.Him m15).toNat : Int) p16 false z36 hz36)) (zdR 7 24 (zdE (zkSeq (zrSeq (zrReg (zL 2 2 ?_)))))))
   refine zO (v := (.d (.int .u8 ((u8 z36.1).toNat : Int)))) (ups := []) (some 65) 3 (.cvI .u8 (tm 64)) (ev_cv (kk := .i64) (a := z36.1) (by kernel_rfl) (u8_wrap _)) (zL 1 4 (zO (v := .un) (ups := [(24, ⟨0, some (.box ((eU8.row 256 a1.Us) ++ ((eU8.row 256 (upd a1.Him m15 (u8 z36.1))) ++ (((eInt .u64).row 4 a1.UsOk) ++ (((eInt .u64).row 4 a1.HimOk) ++ [])))))⟩)]) none 5 (.store 1 (tm 66) (tm 65)) (ev_storeA eU8 (b := 24) (g := 0) (o := 256 + m15 * 1) (f := a1.Him) (nn := 256) (m := m15) (fo := 0) (pre := ((eU8.row 256 a1.Us) ++ [])) (post := (((eInt .u64).row 4 a1.UsOk) ++ (((eInt .u64).row 4 a1.HimOk) ++ []))) (by kernel_rfl) (by kernel_rfl) (by kernel_rfl) (inR_lt hm15) (new := ((.d (.int .u8 ((u8 z36.1).toNat : Int))) :: [])) (ds := [.int .u8 ((u8 z36.1).toNat : Int)]) (z' := (u8 z36.1)) (by kernel_rfl) (by kernel_rfl) (by kernel_rfl) (by kernel_rfl) (by kernel_rfl) (by kernel_rfl)) (zE (zkSeq (zrSeq ?_)))))
   exact zrRegD (zdR 5 5 (bindE hS (fun z37 hz37 hS => zdO (some 72) 6 none (.call 120 [(tm 68), (tm 69), (tm 71)]) (ev_cA (f120_ok (d - 1) (dpt hd rfl) p17 z36.2.1 a2.Opt z37 hz37)) (zdR 2 8 (zdE (zkSeq (zrRet (zkNil (endQ hS hQ (fR (f104_out ({ a1 with Him := (upd a1.Him m15 (u8 z36.1)) }) z37)))))))))))
def f104_j0_J (a1 : GNeg) (a2 : GTok) (p12 : Bool) : St := ⟨(up (up (up (up u0 6 (dB p12)) 4 (pt 40)) 3 (pt 32)) 2 (pt 24)), (up (up (up h0 40 ⟨0, some (.box ((eU8.row 256 (fun _ => 0)) ++ ((eU8.row 256 (fun _ => 0)) ++ (((eInt .u64).row 4 (fun _ => 0)) ++ (((eInt .u64).row 4 (fun _ => 0)) ++ [])))))⟩) 32 ⟨0, some (.box ((dI a2.Kind) :: ((dI a2.Cmd) :: ((dI a2.Opt) :: ((.d (.str a2.Data)) :: [])))))⟩) 24 ⟨0, some (.box ((eU8.row 256 a1.Us) ++ ((eU8.row 256 a1.Him) ++ (((eInt .u64).row 4 a1.UsOk) ++ (((eInt .u64).row 4 a1.HimOk) ++ [])))))⟩)⟩
def f104_j0 (a1 : GNeg) (a2 : GTok) (p12 : Bool) : Option (GNeg × (List UInt8)) := (bif (decide (a2.Cmd = 253)) then (f104_j1 a1 a2 p12 true) else (bif (decide (a2.Cmd = 254)) then (f104_j1 a1 a2 p12 true) else (f104_j1 a1 a2 p12 false)))
theorem f104_j0_ok {d : Nat} (hd : 2 ≤ d) (a1 : GNeg) (a2 : GTok) {r : GNeg × (List UInt8)} {Q : PQ} (hQ : FQ (f104_Q r) Q) (p12 : Bool) (hS : f104_j0 a1 a2 p12 = some r) {st : St} (he : keepSt [2, 3, 4, 6] [(24, .id 24), (32, .id 32), (40, .id 40)] [] st = f104_j0_J a1 a2 p12) : ZR (lev codes baseL (d - 1)) Q c104_2 [] st := by
 refine zrKeep he ?_
 unfold f104_j0 at hS
 refine zrSeq (zrReg (zL 2 2 ?_))
 refine sB 23 3 (ck 22 253) hS (fun hS => ?_) (fun hS => ?_)
 ·refine zL 6 9 (zE (zkSeq ?_))
  exact f104_j1_ok hd a1 a2 hQ p12 true hS (by kernel_rfl)
 ·refine zL 3 6 (sH 27 7 24 false (ck 26 254) hS (fun hS => ?_) (fun hS => ?_))
  ·refine zL 2 9 (zE (zkSeq ?_))
   exact f104_j1_ok hd a1 a2 hQ p12 true hS (by kernel_rfl)
  ·refine zL 2 9 (zE (zkSeq ?_))
   exact f104_j1_ok hd a1 a2 hQ p12 false hS (by kernel_rfl)
def f104 (a1 : GNeg) (a2 : GTok) : Option (GNeg × (List UInt8)) := (bif (decide (a2.Cmd = 251)) then (f104_j0 a1 a2 true) else (bif (decide (a2.Cmd = 253)) then (f104_j0 a1 a2 true) else (f104_j0 a1 a2 false)))
theorem f104_ok (d : Nat) (hd : 2 ≤ d) (a1 : GNeg) (a2 : GTok) (r : GNeg × (List UInt8)) (hS : f104 a1 a2 = some r) : lev codes baseL d 104 [(.agg ((eU8.row 256 a1.Us) ++ ((eU8.row 256 a1.Him) ++ (((eInt .u64).row 4 a1.UsOk) ++ (((eInt .u64).row 4 a1.HimOk) ++ []))))), (.agg ((dI a2.Kind) :: ((dI a2.Cmd) :: ((dI a2.Opt) :: ((.d (.str a2.Data)) :: [])))))] [] = some ((.tup [(.agg ((eU8.row 256 r.1.Us) ++ ((eU8.row 256 r.1.Him) ++ (((eInt .u64).row 4 r.1.UsOk) ++ (((eInt .u64).row 4 r.1.HimOk) ++ []))))), (.d (.str r.2))]), []) := by
 refine lev_go codes104 rfl rfl (Nat.le_trans (Nat.le_of_ble_eq_true rfl) hd) fun Q hQ => ?_
 unfold f104 at hS
 show ZR _ Q c104_b [] _
 replace hQ : FQ (f104_Q r) Q := hQ
 refine zrSeq (zrReg (zL 4 4 (zE (zkSeq (zrSeq (zrReg (zL 2 2 ?_)))))))
 refine sB 15 3 (ck 14 251) hS (fun hS => ?_) (fun hS => ?_)
 ·refine zL 6 9 (zE (zkSeq ?_))
  exact f104_j0_ok hd a1 a2 hQ true hS (by kernel_rfl)
 ·refine zL 3 6 (sH 19 7 16 false (ck 18 253) hS (fun hS => ?_) (fun hS => ?_))
  ·refine zL 2 9 (zE (zkSeq ?_))
   exact f104_j0_ok hd a1 a2 hQ true hS (by kernel_rfl)
  ·refine zL 2 9 (zE (zkSeq ?_))
   exact f104_j0_ok hd a1 a2 hQ false hS (by kernel_rfl)
/- (*farwriter/client.worker).us -/
def f67_fin (p2 : Gworker) (p3 : Bool) : St := ⟨(up (up (up (up (up (up u0 1000005 .un) 1000004 .un) 1000003 .un) 1000002 .un) 1000001 .un) 4 (dB p3)), (up (up (up (up (up (up h0 5 ⟨1, some (go4_Gworker p2)⟩) 4 ⟨1, some (go3_Gworker p2)⟩) 3 ⟨1, some (go2_Gworker p2)⟩) 2 ⟨1, some (go1_Gworker p2)⟩) 1 ⟨1, some (go0_Gworker p2)⟩) 0 ⟨0, some (.box (bm_Gworker p2 1 1 2 1 3 1 4 1 5 1))⟩)⟩
theorem f67_out (p2 : Gworker) (p3 : Bool) : outR (f67_fin p2 p3) 6 c67.res = some ((dB p3), (gb_Gworker p2 1 2 3 4 5)) := by
 kernel_rfl
def f67_Q (r : Gworker × Bool) (e : PX) (st : St) : Prop := DoneF c67 6 ((dB r.2), (gb_Gworker r.1 1 2 3 4 5)) e st
def f67 (a1 : Int) (a2 : Gworker) : Option (Gworker × Bool) := ((inR a1 256).bind fun m2 => (bif (decide (((a2.Client.Neg.Us m2).toNat : Int) = 1)) then (some (a2, true)) else (some (a2, false))))
theorem f67_ok (d : Nat) (hd : 1 ≤ d) (a1 : Int) (a2 : Gworker) (r : Gworker × Bool) (hS : f67 a1 a2 = some r) : lev codes baseL d 67 [(pt 0), (dI a1)] (gb_Gworker a2 1 2 3 4 5) = some ((dB r.2), (gb_Gworker r.1 1 2 3 4 5)) := by
 refine lev_go codes67 rfl rfl (Nat.le_trans (Nat.le_of_ble_eq_true rfl) hd) fun Q hQ => ?_
 unfold f67 at hS
 show ZR _ Q c67_b [] _
 replace hQ : FQ (f67_Q r) Q := hQ
 refine zrSeq (zrReg (zL 1 1 (zE (zkSeq (zrSeq (zrReg (zL 6 6 ?_)))))))
 refine bindE hS (fun m2 hm2 hS => zO (v := (.r (.ptr 0 0 (45 + m2 * 1)))) (ups := []) (some 11) 7 (.ixA 256 1 (tm 10) (tm 6)) (ev_ixA (kk := .i64) (b := 0) (g := 0) (o := 45) (j := a1) (by kernel_rfl) (by kernel_rfl) hm2) (zO (v := (.d (.int .u8 ((a2.Client.Neg.Us m2).toNat : Int)))) (ups := []) (some 12) 8 (lf 1 11) (ev_loadA eU8 (b := 0) (g := 0) (o := 45 + m2 * 1) (f := a2.Client.Neg.Us) (nn := 256) (m := m2) (fo := 0) (pre := ((dI a2.Client.Wire.Mode) :: ((dI a2.Client.Wire.Cmd) :: ((dI a2.Client.Wire.Opt) :: ((.d (.str a2.Client.Wire.Buf)) :: ((dB a2.Client.Wire.Over) :: ((dB a2.Client.Cr) :: ((.d (.str a2.Client.Part)) :: ((dI a2.Client.Psr.State) :: ((dI a2.Client.Psr.Mark) :: ((.d (.str a2.Client.Psr.Inter)) :: ((.d (.str a2.Client.Psr.Args)) :: ((.d (.str a2.Client.Psr.Text)) :: (bm_GScreen a2.Client.Screen 1 0 2 0 3 0)))))))))))))) (post := ((eU8.row 256 a2.Client.Neg.Him) ++ (((eInt .u64).row 4 a2.Client.Neg.UsOk) ++ (((eInt .u64).row 4 a2.Client.Neg.HimOk) ++ ((.r (.msl 4 0 0 a2.Client.Sorts.Names.length)) :: ((dI a2.Client.Sorts.At) :: ((.r (.msl 5 0 0 a2.Client.Vars.length)) :: ((eU8.row 19 a2.Client.Keys.Levels) ++ ((eU8.row 19 a2.Client.Keys.Chars) ++ (((eInt .u64).row 4 a2.Client.Mask.Bits) ++ ((.d (.str a2.Client.Editor.Buf)) :: ((dB a2.Client.Editor.Quote) :: ((dB a2.Client.Edit) :: ((.d (.str a2.sent)) :: [])))))))))))))) (by kernel_rfl) (by kernel_rfl) (by kernel_rfl) (inR_lt hm2) (by kernel_rfl) (by kernel_rfl) (by kernel_rfl)) (sB 13 9 (.cmpI .eql (tm 12) (.const (.int .u8 1))) hS (fun hS => ?_) (fun hS => ?_))))
 ·refine zL 1 10 (zE (zkSeq ?_))
  exact zrRet (zkNil (endQ hS hQ (fR (f67_out a2 true))))
 ·refine zL 1 10 (zE (zkSeq ?_))
  exact zrRet (zkNil (endQ hS hQ (fR (f67_out a2 false))))
/- farwriter/about.WriteSize -/
def f117_fin (p1 : List UInt8) : St := ⟨(up (up u0 5 (dI 0)) 4 (.d (.str p1))), h0⟩
theorem f117_out (p1 : List UInt8) : outR (f117_fin p1) 0 c117.res = some ((.tup [(.d (.str p1)), (dI 0)]), []) := by
 kernel_rfl
def f117_Q (r : (List UInt8)) (e : PX) (st : St) : Prop := DoneF c117 0 ((.tup [(.d (.str r)), (dI 0)]), []) e st
def f117_j0_J (a1 : Int) (a2 : Int) : St := ⟨(up (up u0 1 (dI a2)) 0 (dI a1)), h0⟩
def f117_j0 (a1 : Int) (a2 : Int) : Option ((List UInt8)) := (some ([(u8 (Int.fdiv a1 (2 ^ 8))), (u8 a1), (u8 (Int.fdiv a2 (2 ^ 8))), (u8 a2)] : List UInt8))
theorem f117_j0_ok {d : Nat} (hd : 1 ≤ d) (a1 : Int) (a2 : Int) {r : (List UInt8)} {Q : PQ} (hQ : FQ (f117_Q r) Q)  (hS : f117_j0 a1 a2 = some r) {st : St} (he : keepSt [0, 1] [] [] st = f117_j0_J a1 a2) : ZR (lev codes baseL (d - 1)) Q c117_1 [] st := by
 refine zrKeep he ?_
 unfold f117_j0 at hS
 refine zrSeq (zrReg (zL 2 2 ?_))
 refine zO (v := (.d (.int .u8 ((u8 (Int.fdiv a1 (2 ^ 8))).toNat : Int)))) (ups := []) (some 22) 3 (.cvI .u8 (tm 21)) (ev_cv (kk := .i64) (a := (Int.fdiv a1 (2 ^ 8))) (by kernel_rfl) (u8_wrap _)) (zL 1 4 (zO (v := (.d (.int .u8 ((u8 a1).toNat : Int)))) (ups := []) (some 24) 5 (.cvI .u8 (tm 23)) (ev_cv (kk := .i64) (a := a1) (by kernel_rfl) (u8_wrap _)) (zL 2 7 (zO (v := (.d (.int .u8 ((u8 (Int.fdiv a2 (2 ^ 8))).toNat : Int)))) (ups := []) (some 27) 8 (.cvI .u8 (tm 26)) (ev_cv (kk := .i64) (a := (Int.fdiv a2 (2 ^ 8))) (by kernel_rfl) (u8_wrap _)) (zL 1 9 (zO (v := (.d (.int .u8 ((u8 a2).toNat : Int)))) (ups := []) (some 29) 10 (.cvI .u8 (tm 28)) (ev_cv (kk := .i64) (a := a2) (by kernel_rfl) (u8_wrap _)) (zL 1 11 (zO (v := (.d (.str ([(u8 (Int.fdiv a1 (2 ^ 8))), (u8 a1), (u8 (Int.fdiv a2 (2 ^ 8))), (u8 a2)] : List UInt8)))) (ups := []) (some 31) 12 (.cvBS (tm 30)) (ev_cvBS (s := [(u8 (Int.fdiv a1 (2 ^ 8))), (u8 a1), (u8 (Int.fdiv a2 (2 ^ 8))), (u8 a2)]) ((congrArg (asL _) (by kernel_rfl : ρof _ (.tmp 30) = (.r (.msl 248 1 0 (([(u8 (Int.fdiv a1 (2 ^ 8))), (u8 a1), (u8 (Int.fdiv a2 (2 ^ 8))), (u8 a2)] : List UInt8).length))))).trans (as_whole eU8 (e := 5) (k := 1) (xs := [(u8 (Int.fdiv a1 (2 ^ 8))), (u8 a1), (u8 (Int.fdiv a2 (2 ^ 8))), (u8 a2)]) (by kernel_rfl) rfl rfl)) rfl) (zL 2 14 (zE (zkSeq ?_)))))))))))
 exact zrRet (zkNil (endQ hS hQ (fR (f117_out ([(u8 (Int.fdiv a1 (2 ^ 8))), (u8 a1), (u8 (Int.fdiv a2 (2 ^ 8))), (u8 a2)] : List UInt8)))))
def f117 (a1 : Int) (a2 : Int) : Option ((List UInt8)) := (bif (decide (a1 < 0)) then none else (bif (decide (65535 < a1)) then none else (bif (decide (a2 < 0)) then none else (bif (decide (65535 < a2)) then none else (f117_j0 a1 a2 )))))
theorem f117_ok (d : Nat) (hd : 1 ≤ d) (a1 : Int) (a2 : Int) (r : (List UInt8)) (hS : f117 a1 a2 = some r) : lev codes baseL d 117 [(dI a1), (dI a2)] [] = some ((.tup [(.d (.str r)), (dI 0)]), []) := by
 refine lev_go codes117 rfl rfl (Nat.le_trans (Nat.le_of_ble_eq_true rfl) hd) fun Q hQ => ?_
 unfold f117 at hS
 show ZR _ Q c117_b [] _
 replace hQ : FQ (f117_Q r) Q := hQ
 refine zrSeq (zrReg (zL 2 2 (zE (zkSeq (zrSeq (zrSeq (zrReg (zL 1 1 ?_))))))))
 refine sB 7 2 (.cmpI .lss (tm 6) (ki 0)) hS (fun hS => ?_) (fun hS => ?_)
 ·cases hS
 ·refine zL 2 4 (sH 10 5 8 false (.cmpI .gtr (tm 9) (ki 65535)) hS (fun hS => ?_) (fun hS => ?_))
  ·cases hS
  ·refine zL 3 8 (sH 14 9 12 false (.cmpI .lss (tm 13) (ki 0)) hS (fun hS => ?_) (fun hS => ?_))
   ·cases hS
   ·refine zL 3 12 (sH 18 13 16 false (.cmpI .gtr (tm 17) (ki 65535)) hS (fun hS => ?_) (fun hS => ?_))
    ·cases hS
    ·refine zL 1 14 (zE (zkSeq (zF ?_)))
     exact zrSkip (zkSeq (f117_j0_ok hd a1 a2 hQ  hS (by kernel_rfl)))
/- strings.ReplaceAll -/
theorem libReplaceAll_ok (d : Nat) (hd : 0 ≤ d) (a1 : List UInt8) (a2 : List UInt8) (a3 : List UInt8) (r : List UInt8) (hS : libReplaceAll a1 a2 a3 = some r) : lev codes baseL d 14 [(.d (.str a1)), (.d (.str a2)), (.d (.str a3))] [] = some ((.d (.str r)), []) := lib_call (l := libs) rfl rfl rfl (osssS_ hS) d
/- farwriter/iac.Escape -/
def f114_fin (p1 : List UInt8) : St := ⟨(up u0 2 (.d (.str p1))), h0⟩
theorem f114_out (p1 : List UInt8) : outR (f114_fin p1) 0 c114.res = some ((.d (.str p1)), []) := by
 kernel_rfl
def f114_Q (r : (List UInt8)) (e : PX) (st : St) : Prop := DoneF c114 0 ((.d (.str r)), []) e st
def f114 (a1 : List UInt8) : Option ((List UInt8)) := ((libReplaceAll a1 [255] [255, 255]).bind fun z2 => (some z2))
theorem f114_ok (d : Nat) (hd : 1 ≤ d) (a1 : List UInt8) (r : (List UInt8)) (hS : f114 a1 = some r) : lev codes baseL d 114 [(.d (.str a1))] [] = some ((.d (.str r)), []) := by
 refine lev_go codes114 rfl rfl (Nat.le_trans (Nat.le_of_ble_eq_true rfl) hd) fun Q hQ => ?_
 unfold f114 at hS
 show ZR _ Q c114_b [] _
 replace hQ : FQ (f114_Q r) Q := hQ
 refine zrSeq (zrReg (zL 1 1 (zE (zkSeq (zrSeq (zrReg (zL 1 1 ?_)))))))
 refine bindE hS (fun z2 hz2 hS => zO (some 4) 2 (.call 14 [(tm 3), (.const (.string ⟨#[255]⟩)), (.const (.string ⟨#[255, 255]⟩))]) (ev_cA (libReplaceAll_ok (d - 1) (dpt hd rfl) a1 [255] [255, 255] z2 hz2)) (zL 1 3 (zE (zkSeq ?_))))
 exact zrRet (zkNil (endQ hS hQ (fR (f114_out z2))))
/- farwriter/iac.Write -/
def f171_fin (p1 : List UInt8) : St := ⟨(up (up u0 3 (dI 0)) 2 (.d (.str p1))), h0⟩
theorem f171_out (p1 : List UInt8) : outR (f171_fin p1) 0 c171.res = some ((.tup [(.d (.str p1)), (dI 0)]), []) := by
 kernel_rfl
def f171_Q (r : (List UInt8)) (e : PX) (st : St) : Prop := DoneF c171 0 ((.tup [(.d (.str r)), (dI 0)]), []) e st
def f171_j0_J (a1 : GTok) : St := ⟨(up u0 1 (pt 16)), (up h0 16 ⟨0, some (.box ((dI a1.Kind) :: ((dI a1.Cmd) :: ((dI a1.Opt) :: ((.d (.str a1.Data)) :: [])))))⟩)⟩
def f171_j0 (a1 : GTok) : Option ((List UInt8)) := ((f114 a1.Data).bind fun z4 => ((cat? ([255, 250, (u8 a1.Opt)] : List UInt8) z4).bind fun z5 => ((cat? z5 ([255, 240] : List UInt8)).bind fun z6 => (some z6))))
theorem f171_j0_ok {d : Nat} (hd : 2 ≤ d) (a1 : GTok) {r : (List UInt8)} {Q : PQ} (hQ : FQ (f171_Q r) Q)  (hS : f171_j0 a1 = some r) {st : St} (he : keepSt [1] [(16, .id 16)] [] st = f171_j0_J a1) : ZR (lev codes baseL (d - 1)) Q c171_1 [.blk 0, .seq c171_2] st := by
 refine zrKeep he ?_
 unfold f171_j0 at hS
 exact zrSeq (zrRegD (zdR 2 2 (zdO (v := (.d (.int .u8 ((u8 a1.Opt).toNat : Int)))) (ups := []) (some 107) 3 none (.cvI .u8 (tm 106)) (ev_cv (kk := .i64) (a := a1.Opt) (by kernel_rfl) (u8_wrap _)) (zdR 1 4 (zdO (v := (.d (.str ([255, 250, (u8 a1.Opt)] : List UInt8)))) (ups := []) (some 109) 5 none (.cvBS (tm 108)) (ev_cvBS (s := [255, 250, (u8 a1.Opt)]) ((congrArg (asL _) (by kernel_rfl : ρof _ (.tmp 108) = (.r (.msl 872 1 0 (([255, 250, (u8 a1.Opt)] : List UInt8).length))))).trans (as_whole eU8 (e := 5) (k := 1) (xs := [255, 250, (u8 a1.Opt)]) (by kernel_rfl) rfl rfl)) rfl) (zdR 2 7 (bindE hS (fun z4 hz4 hS => zdO (some 112) 8 none (c1 114 111) (ev_cA (f114_ok (d - 1) (dpt hd rfl) a1.Data z4 hz4)) (bindE hS (fun z5 hz5 hS => zdO (v := (.d (.str z5))) (ups := []) (some 113) 9 none (.strO .add (tm 109) (tm 112)) (ev_cat (a := ([255, 250, (u8 a1.Opt)] : List UInt8)) (c := z4) (by kernel_rfl) (by kernel_rfl) hz5) (bindE hS (fun z6 hz6 hS => zdO (v := (.d (.str z6))) (ups := []) (some 114) 10 none (.strO .add (tm 113) (.const (.string ⟨#[255, 240]⟩))) (ev_cat (a := z5) (c := [255, 240]) (by kernel_rfl) (by kernel_rfl) hz6) (zdR 2 12 (zdE (zkSeq (zrRet (zkBlkR (zkSeqR (zkNil (endQ hS hQ (fR (f171_out z6))))))))))))))))))))))
def f171 (a1 : GTok) : Option ((List UInt8)) := (bif (decide (0 ≤ a1.Opt)) then (bif (decide (a1.Opt ≤ 255)) then (bif (decide (a1.Kind = 1)) then none else (bif (decide (a1.Kind = 2)) then none else (bif (decide (a1.Kind = 3)) then none else (bif (decide (a1.Kind = 4)) then (bif (decide (a1.Cmd = 0)) then (bif (decide (4096 < (a1.Data.length : Int))) then none else (f171_j0 a1 )) else none) else none)))) else none) else none)
theorem f171_ok (d : Nat) (hd : 2 ≤ d) (a1 : GTok) (r : (List UInt8)) (hS : f171 a1 = some r) : lev codes baseL d 171 [(.agg ((dI a1.Kind) :: ((dI a1.Cmd) :: ((dI a1.Opt) :: ((.d (.str a1.Data)) :: [])))))] [] = some ((.tup [(.d (.str r)), (dI 0)]), []) := by
 refine lev_go codes171 rfl rfl (Nat.le_trans (Nat.le_of_ble_eq_true rfl) hd) fun Q hQ => ?_
 unfold f171 at hS
 show ZR _ Q c171_b [] _
 replace hQ : FQ (f171_Q r) Q := hQ
 refine zrSeq (zrReg (zL 3 3 (zE (zkSeq (zrSeq (zrReg (zL 5 5 (zE (zkSeq (zrSeq (zrReg (zL 2 2 ?_))))))))))))
 refine sB 11 3 (.cmpI .geq (tm 10) (ki 0)) hS (fun hS => ?_) (fun hS => ?_)
 ·refine zL 3 6 (sH 15 7 12 true (.cmpI .leq (tm 14) (ki 255)) hS (fun hS => ?_) (fun hS => ?_))
  ·refine zL 2 9 (zE (zkSeq (zrSeq ?_)))
   refine zrBlk (zrSeq (zrReg (zL 2 2 ?_)))
   refine sB 20 3 (ck 19 1) hS (fun hS => ?_) (fun hS => ?_)
   ·cases hS
   ·refine zL 11 14 (zE (zkSeq (zF (zrSeq (zrReg (zL 2 2 ?_))))))
    refine sB 37 3 (ck 36 2) hS (fun hS => ?_) (fun hS => ?_)
    ·cases hS
    ·refine zL 11 14 (zE (zkSeq (zF (zrSeq (zrReg (zL 2 2 ?_))))))
     refine sB 62 3 (ck 61 3) hS (fun hS => ?_) (fun hS => ?_)
     ·cases hS
     ·refine zL 19 22 (zE (zkSeq (zF (zrSeq (zrReg (zL 2 2 ?_))))))
      refine sB 92 3 (ck 91 4) hS (fun hS => ?_) (fun hS => ?_)
      ·refine zL 3 6 (sH 96 7 93 true (ck 95 0) hS (fun hS => ?_) (fun hS => ?_))
       ·refine zL 5 12 (zE (zkSeq (zT (zrSeq (zrSeq (zrReg (zL 3 3 ?_)))))))
        refine sB 104 4 (.cmpI .gtr (tm 103) (ki 4096)) hS (fun hS => ?_) (fun hS => ?_)
        ·cases hS
        ·refine zE (zkSeq (zF ?_))
         exact zrSkip (zkSeq (f171_j0_ok hd a1 hQ  hS (by kernel_rfl)))
       ·cases hS
      ·cases hS
  ·cases hS
 ·cases hS
/- (*farwriter/client.worker).sub -/
def f118_fin (p1 : Gworker) : St := ⟨(up (up (up (up (up u0 1000005 .un) 1000004 .un) 1000003 .un) 1000002 .un) 1000001 .un), (up (up (up (up (up (up h0 5 ⟨1, some (go4_Gworker p1)⟩) 4 ⟨1, some (go3_Gworker p1)⟩) 3 ⟨1, some (go2_Gworker p1)⟩) 2 ⟨1, some (go1_Gworker p1)⟩) 1 ⟨1, some (go0_Gworker p1)⟩) 0 ⟨0, some (.box (bm_Gworker p1 1 1 2 1 3 1 4 1 5 1))⟩)⟩
theorem f118_out (p1 : Gworker) : outR (f118_fin p1) 6 c118.res = some ((.tup []), (gb_Gworker p1 1 2 3 4 5)) := by
 kernel_rfl
def f118_Q (r : Gworker) (e : PX) (st : St) : Prop := DoneF c118 6 ((.tup []), (gb_Gworker r 1 2 3 4 5)) e st
def f118 (a1 : Int) (a2 : List UInt8) (a3 : Gworker) : Option (Gworker) := ((f171 (GTok.mk 4 0 a1 a2)).bind fun z3 => ((cat? a3.sent z3).bind fun z4 => (some (Gworker.mk a3.Client z4))))
theorem f118_ok (d : Nat) (hd : 3 ≤ d) (a1 : Int) (a2 : List UInt8) (a3 : Gworker) (r : Gworker) (hS : f118 a1 a2 a3 = some r) : lev codes baseL d 118 [(pt 0), (dI a1), (.d (.str a2))] (gb_Gworker a3 1 2 3 4 5) = some ((.tup []), (gb_Gworker r 1 2 3 4 5)) := by
 refine lev_go codes118 rfl rfl (Nat.le_trans (Nat.le_of_ble_eq_true rfl) hd) fun Q hQ => ?_
 unfold f118 at hS
 show ZR _ Q c118_b [] _
 replace hQ : FQ (f118_Q r) Q := hQ
 refine zrSeq (zrReg (zL 3 3 ?_))
 refine bindE hS (fun z3 hz3 hS => zO (some 12) 4 (c1 171 11) (ev_cA (f171_ok (d - 1) (dpt hd rfl) (GTok.mk 4 0 a1 a2) z3 hz3)) (zL 5 9 (zE (zkSeq (zrReg (zL 5 5 ?_))))))
 refine bindE hS (fun z4 hz4 hS => zO (v := (.d (.str z4))) (ups := []) (some 20) 6 (.strO .add (tm 18) (tm 19)) (ev_cat (a := a3.sent) (c := z3) (by kernel_rfl) (by kernel_rfl) hz4) (zL 3 9 (zE ?_)))
 exact zkNil (endQ hS hQ (fN (f118_out (Gworker.mk a3.Client z4))))
/- (*farwriter/client.worker).size -/
def f68_fin (p1 : Gworker) : St := ⟨(up (up (up (up (up u0 1000005 .un) 1000004 .un) 1000003 .un) 1000002 .un) 1000001 .un), (up (up (up (up (up (up h0 5 ⟨1, some (go4_Gworker p1)⟩) 4 ⟨1, some (go3_Gworker p1)⟩) 3 ⟨1, some (go2_Gworker p1)⟩) 2 ⟨1, some (go1_Gworker p1)⟩) 1 ⟨1, some (go0_Gworker p1)⟩) 0 ⟨0, some (.box (bm_Gworker p1 1 1 2 1 3 1 4 1 5 1))⟩)⟩
theorem f68_out (p1 : Gworker) : outR (f68_fin p1) 6 c68.res = some ((.tup []), (gb_Gworker p1 1 2 3 4 5)) := by
 kernel_rfl
def f68_Q (r : Gworker) (e : PX) (st : St) : Prop := DoneF c68 6 ((.tup []), (gb_Gworker r 1 2 3 4 5)) e st
def f68 (a1 : Gworker) : Option (Gworker) := ((f117 a1.Client.Screen.Grid.Wide a1.Client.Screen.Grid.High).bind fun z3 => ((f118 31 z3 a1).bind fun z4 => (some z4)))
theorem f68_ok (d : Nat) (hd : 4 ≤ d) (a1 : Gworker) (r : Gworker) (hS : f68 a1 = some r) : lev codes baseL d 68 [(pt 0)] (gb_Gworker a1 1 2 3 4 5) = some ((.tup []), (gb_Gworker r 1 2 3 4 5)) := by
 refine lev_go codes68 rfl rfl (Nat.le_trans (Nat.le_of_ble_eq_true rfl) hd) fun Q hQ => ?_
 unfold f68 at hS
 show ZR _ Q c68_b [] _
 replace hQ : FQ (f68_Q r) Q := hQ
 refine zrSeq (zrRegD (zdR 14 14 (bindE hS (fun z3 hz3 hS => zdO (some 19) 15 none (.call 117 [(tm 11), (tm 18)]) (ev_cA (f117_ok (d - 1) (dpt hd rfl) a1.Client.Screen.Grid.Wide a1.Client.Screen.Grid.High z3 hz3)) (zdR 5 20 (zdE (zkSeq (zrReg (zL 2 2 ?_)))))))))
 exact bindE hS (fun z4 hz4 hS => zO (some 24) 3 (.callr 118 [(tm 22), (ki 31), (tm 23)]) (ev_cR [0, 1, 2, 3, 4, 5] (f118_ok (d - 1) (dpt hd rfl) 31 z3 a1 z4 hz4)) (zE (zkNil (endQ hS hQ (fN (f68_out z4))))))
/- (*farwriter/client.worker).negotiate -/
def f70_fin (p3 : Gworker) : St := ⟨(up (up (up (up (up u0 1000005 .un) 1000004 .un) 1000003 .un) 1000002 .un) 1000001 .un), (up (up (up (up (up (up h0 5 ⟨1, some (go4_Gworker p3)⟩) 4 ⟨1, some (go3_Gworker p3)⟩) 3 ⟨1, some (go2_Gworker p3)⟩) 2 ⟨1, some (go1_Gworker p3)⟩) 1 ⟨1, some (go0_Gworker p3)⟩) 0 ⟨0, some (.box (bm_Gworker p3 1 1 2 1 3 1 4 1 5 1))⟩)⟩
theorem f70_out (p3 : Gworker) : outR (f70_fin p3) 6 c70.res = some ((.tup []), (gb_Gworker p3 1 2 3 4 5)) := by
 kernel_rfl
def f70_Q (r : Gworker) (e : PX) (st : St) : Prop := DoneF c70 6 ((.tup []), (gb_Gworker r 1 2 3 4 5)) e st
def f70 (a1 : GNeg) (a2 : List UInt8) (a3 : Gworker) : Option (Gworker) := ((f67 31 a3).bind fun z5 => ((cat? z5.1.sent a2).bind fun z7 => (bif (!z5.2) then ((f67 31 (Gworker.mk ({ z5.1.Client with Neg := a1 }) z7)).bind fun z8 => (bif z8.2 then ((f68 z8.1).bind fun z9 => (some z9)) else (some z8.1))) else (some (Gworker.mk ({ z5.1.Client with Neg := a1 }) z7)))))
theorem f70_ok (d : Nat) (hd : 5 ≤ d) (a1 : GNeg) (a2 : List UInt8) (a3 : Gworker) (r : Gworker) (hS : f70 a1 a2 a3 = some r) : lev codes baseL d 70 [(pt 0), (.agg ((eU8.row 256 a1.Us) ++ ((eU8.row 256 a1.Him) ++ (((eInt .u64).row 4 a1.UsOk) ++ (((eInt .u64).row 4 a1.HimOk) ++ []))))), (.d (.str a2))] (gb_Gworker a3 1 2 3 4 5) = some ((.tup []), (gb_Gworker r 1 2 3 4 5)) := by
 refine lev_go codes70 rfl rfl (Nat.le_trans (Nat.le_of_ble_eq_true rfl) hd) fun Q hQ => ?_
 unfold f70 at hS
 show ZR _ Q c70_b [] _
 replace hQ : FQ (f70_Q r) Q := hQ
 refine zrSeq (zrReg (zL 1 1 (zE (zkSeq (zrSeq (zrReg (zL 1 1 ?_)))))))
 refine bindE hS (fun z5 hz5 hS => zO (some 8) 2 (.callr 67 [(tm 7), (ki 31)]) (ev_cR [0, 1, 2, 3, 4, 5] (f67_ok (d - 1) (dpt hd rfl) 31 a3 z5 hz5)) (zL 1 3 (zE (zkSeq (zrSeq (zrReg (zL 6 6 (zE (zkSeq (zrSeq (zrReg (zL 5 5 ?_))))))))))))
 refine bindE hS (fun z7 hz7 hS => zO (v := (.d (.str z7))) (ups := []) (some 19) 6 (.strO .add (tm 17) (tm 18)) (ev_cat (a := z5.1.sent) (c := a2) (by kernel_rfl) (by kernel_rfl) hz7) (zL 3 9 (zE (zkSeq (zrSeq (zrReg (zL 3 3 ?_)))))))
 refine sL 24 hS (fun hS => ?_) (fun hS => ?_)
 ·refine zL 1 4 (bindE hS (fun z8 hz8 hS => zG (some 26) 5 24 true (.callr 67 [(tm 25), (ki 31)]) (ev_cR [0, 1, 2, 3, 4, 5] (f67_ok (d - 1) (dpt hd rfl) 31 (Gworker.mk ({ z5.1.Client with Neg := a1 }) z7) z8 hz8)) (zL 1 6 (zE (zkSeq ?_)))))
  refine sR 27 hS (fun hS => ?_) (fun hS => ?_)
  ·refine zT (zrReg (zL 1 1 ?_))
   exact bindE hS (fun z9 hz9 hS => zO (some 29) 2 (.callr 68 [(tm 28)]) (ev_cR [0, 1, 2, 3, 4, 5] (f68_ok (d - 1) (dpt hd rfl) z8.1 z9 hz9)) (zE (zkNil (endQ hS hQ (fN (f70_out z9))))))
  ·exact zF (zrSkip (zkNil (endQ hS hQ (fN (f70_out z8.1)))))
 ·refine zL 3 6 (zE (zkSeq (zF ?_)))
  exact zrSkip (zkNil (endQ hS hQ (fN (f70_out (Gworker.mk ({ z5.1.Client with Neg := a1 }) z7)))))
/- (*farwriter/client.worker).option -/
def f105_fin (p4 : Gworker) : St := ⟨(up (up (up (up (up u0 1000005 .un) 1000004 .un) 1000003 .un) 1000002 .un) 1000001 .un), (up (up (up (up (up (up h0 5 ⟨1, some (go4_Gworker p4)⟩) 4 ⟨1, some (go3_Gworker p4)⟩) 3 ⟨1, some (go2_Gworker p4)⟩) 2 ⟨1, some (go1_Gworker p4)⟩) 1 ⟨1, some (go0_Gworker p4)⟩) 0 ⟨0, some (.box (bm_Gworker p4 1 1 2 1 3 1 4 1 5 1))⟩)⟩
theorem f105_out (p4 : Gworker) : outR (f105_fin p4) 6 c105.res = some ((.tup []), (gb_Gworker p4 1 2 3 4 5)) := by
 kernel_rfl
def f105_Q (r : Gworker) (e : PX) (st : St) : Prop := DoneF c105 6 ((.tup []), (gb_Gworker r 1 2 3 4 5)) e st
def f105_j0_J (a1 : GTok) (a2 : Gworker) : St := ⟨(up (up (up (up (up (up (up (up (up u0 1000005 .un) 1000004 .un) 1000003 .un) 1000002 .un) 1000001 .un) 5 (dB false)) 4 (.d (.str ([])))) 3 (pt 32)) 0 (pt 0)), (up (up (up (up (up (up (up h0 32 ⟨0, some (.box ((dI a1.Kind) :: ((dI a1.Cmd) :: ((dI a1.Opt) :: ((.d (.str a1.Data)) :: [])))))⟩) 5 ⟨1, some (go4_Gworker a2)⟩) 4 ⟨1, some (go3_Gworker a2)⟩) 3 ⟨1, some (go2_Gworker a2)⟩) 2 ⟨1, some (go1_Gworker a2)⟩) 1 ⟨1, some (go0_Gworker a2)⟩) 0 ⟨0, some (.box (bm_Gworker a2 1 1 2 1 3 1 4 1 5 1))⟩)⟩
def f105_j0 (a1 : GTok) (a2 : Gworker) : Option (Gworker) := (some a2)
theorem f105_j0_ok {d : Nat} (hd : 1 ≤ d) (a1 : GTok) (a2 : Gworker) {r : Gworker} {Q : PQ} (hQ : FQ (f105_Q r) Q)  (hS : f105_j0 a1 a2 = some r) {st : St} (he : keepSt [0, 3, 4, 5, 1000001, 1000002, 1000003, 1000004, 1000005] [(0, .id 0), (1, .id 1), (2, .id 2), (3, .id 3), (4, .id 4), (5, .id 5), (32, .id 32)] [] st = f105_j0_J a1 a2) : ZR (lev codes baseL (d - 1)) Q c105_1 [] st := by
 refine zrKeep he ?_
 unfold f105_j0 at hS
 refine zrSeq (zrReg (zL 1 1 (zE (zkSeq (zF ?_)))))
 exact zrSkip (zkNil (endQ hS hQ (fN (f105_out a2))))
def f105 (a1 : GTok) (a2 : Gworker) : Option (Gworker) := (bif (decide (a1.Opt = 24)) then none else (bif (decide (a1.Opt = 39)) then none else (bif (decide (a1.Opt = 34)) then none else (f105_j0 a1 a2 ))))
theorem f105_ok (d : Nat) (hd : 1 ≤ d) (a1 : GTok) (a2 : Gworker) (r : Gworker) (hS : f105 a1 a2 = some r) : lev codes baseL d 105 [(pt 0), (.agg ((dI a1.Kind) :: ((dI a1.Cmd) :: ((dI a1.Opt) :: ((.d (.str a1.Data)) :: [])))))] (gb_Gworker a2 1 2 3 4 5) = some ((.tup []), (gb_Gworker r 1 2 3 4 5)) := by
 refine lev_go codes105 rfl rfl (Nat.le_trans (Nat.le_of_ble_eq_true rfl) hd) fun Q hQ => ?_
 unfold f105 at hS
 show ZR _ Q c105_b [] _
 replace hQ : FQ (f105_Q r) Q := hQ
 refine zrSeq (zrReg (zL 1 1 (zE (zkSeq (zrSeq (zrReg (zL 2 2 (zE (zkSeq (zrSeq (zrSeq (zrReg (zL 2 2 (zE (zkSeq ?_)))))))))))))))
 refine zrBlk (zrSeq (zrReg ?_))
 refine sB 14 1 (ck 12 24) hS (fun hS => ?_) (fun hS => ?_)
 ·refine zL 1 2 (zE (zkSeq (zT (zrSeq ?_))))
  refine zrRegD (zdR 7 7 ?_)
  cases hS
 ·refine zL 1 2 (zE (zkSeq (zF (zrSeq (zrReg ?_)))))
  refine sB 36 1 (ck 12 39) hS (fun hS => ?_) (fun hS => ?_)
  ·refine zL 1 2 (zE (zkSeq (zT (zrSeq ?_))))
   refine zrRegD (zdR 7 7 ?_)
   cases hS
  ·refine zL 1 2 (zE (zkSeq (zF (zrSeq (zrReg ?_)))))
   refine sB 52 1 (ck 12 34) hS (fun hS => ?_) (fun hS => ?_)
   ·refine zL 1 2 (zE (zkSeq (zT (zrReg (zL 3 3 ?_)))))
    cases hS
   ·refine zL 1 2 (zE (zkSeq (zF ?_)))
    exact zrSkip (zkBlk (zkSeq (f105_j0_ok hd a1 a2 hQ  hS (by kernel_rfl))))
/- (*farwriter/client.worker).bytes -/
def f60_fin (p83 : Gworker) : St := ⟨(up (up (up (up (up (up u0 1000005 .un) 1000004 .un) 1000003 .un) 1000002 .un) 1000001 .un) 4 (dI 0)), (up (up (up (up (up (up h0 5 ⟨1, some (go4_Gworker p83)⟩) 4 ⟨1, some (go3_Gworker p83)⟩) 3 ⟨1, some (go2_Gworker p83)⟩) 2 ⟨1, some (go1_Gworker p83)⟩) 1 ⟨1, some (go0_Gworker p83)⟩) 0 ⟨0, some (.box (bm_Gworker p83 1 1 2 1 3 1 4 1 5 1))⟩)⟩
theorem f60_out (p83 : Gworker) : outR (f60_fin p83) 6 c60.res = some ((dI 0), (gb_Gworker p83 1 2 3 4 5)) := by
 kernel_rfl
def f60_Q (r : Gworker) (e : PX) (st : St) : Prop := DoneF c60 6 ((dI 0), (gb_Gworker r 1 2 3 4 5)) e st
def f60_l1_J (a1 : List UInt8) (a2 : Gworker) (x : Gworker × (List GTok) × Int × Int) : St := ⟨(up (up (up (up (up (up (up (up (up u0 1000005 .un) 1000004 .un) 1000003 .un) 1000002 .un) 1000001 .un) 31 (dI x.2.2.2)) 30 (dI x.2.2.1)) 29 (.r (.msl 168 0 0 x.2.1.length))) 0 (pt 0)), (up (up (up (up (up (up (up h0 168 ⟨0, some (.own 201 4 (e_GTok.cells x.2.1))⟩) 5 ⟨1, some (go4_Gworker x.1)⟩) 4 ⟨1, some (go3_Gworker x.1)⟩) 3 ⟨1, some (go2_Gworker x.1)⟩) 2 ⟨1, some (go1_Gworker x.1)⟩) 1 ⟨1, some (go0_Gworker x.1)⟩) 0 ⟨0, some (.box (bm_Gworker x.1 1 1 2 1 3 1 4 1 5 1))⟩)⟩
def f60_l1_H (a1 : List UInt8) (a2 : Gworker) (x : Gworker × (List GTok) × Int × Int) (st : St) : Prop := keepSt [0, 29, 30, 31, 1000001, 1000002, 1000003, 1000004, 1000005] [(0, .id 0), (1, .id 1), (2, .id 2), (3, .id 3), (4, .id 4), (5, .id 5), (168, .id 168)] [] st = f60_l1_J a1 a2 x
def f60_l1_e0_J (a1 : List UInt8) (a2 : Gworker) (p165 : Gworker) : St := ⟨(up (up (up (up (up u0 1000005 .un) 1000004 .un) 1000003 .un) 1000002 .un) 1000001 .un), (up (up (up (up (up (up h0 5 ⟨1, some (go4_Gworker p165)⟩) 4 ⟨1, some (go3_Gworker p165)⟩) 3 ⟨1, some (go2_Gworker p165)⟩) 2 ⟨1, some (go1_Gworker p165)⟩) 1 ⟨1, some (go0_Gworker p165)⟩) 0 ⟨0, some (.box (bm_Gworker p165 1 1 2 1 3 1 4 1 5 1))⟩)⟩
def f60_l1_X (a1 : List UInt8) (a2 : Gworker) (z : Gworker) (e : PX) (st : St) : Prop := e = .exit 0 ∧ st = f60_l1_e0_J a1 a2 z
def f60_l1_j3_J (a1 : List UInt8) (a2 : Gworker) (p176 : Gworker) (p177 : List GTok) (p178 : Int) (p179 : Int) : St := ⟨(up (up (up (up (up (up (up (up (up u0 1000005 .un) 1000004 .un) 1000003 .un) 1000002 .un) 1000001 .un) 31 (dI p179)) 30 (dI p178)) 29 (.r (.msl 168 0 0 p177.length))) 0 (pt 0)), (up (up (up (up (up (up (up h0 168 ⟨0, some (.own 201 4 (e_GTok.cells p177))⟩) 5 ⟨1, some (go4_Gworker p176)⟩) 4 ⟨1, some (go3_Gworker p176)⟩) 3 ⟨1, some (go2_Gworker p176)⟩) 2 ⟨1, some (go1_Gworker p176)⟩) 1 ⟨1, some (go0_Gworker p176)⟩) 0 ⟨0, some (.box (bm_Gworker p176 1 1 2 1 3 1 4 1 5 1))⟩)⟩
def f60_l1_j3 (a1 : List UInt8) (a2 : Gworker) (p176 : Gworker) (p177 : List GTok) (p178 : Int) (p179 : Int) : Option ((Gworker × (List GTok) × Int × Int) ⊕ Gworker) := ((inR p179 p177.length).bind fun m39 => ((p177[m39]?).bind fun z40 => (bif (decide (z40.Kind = 1)) then none else (bif (decide (z40.Kind = 2)) then none else (bif (decide (z40.Kind = 3)) then ((f104 p176.Client.Neg z40).bind fun z41 => ((f70 z41.1 z41.2 p176).bind fun z42 => (some (.inl (z42, p177, p178, (IntKind.i64.wrap (p179 + 1))))))) else (bif (decide (z40.Kind = 4)) then ((f67 z40.Opt p176).bind fun z43 => (bif z43.2 then ((f105 z40 z43.1).bind fun z44 => (some (.inl (z44, p177, p178, (IntKind.i64.wrap (p179 + 1)))))) else (some (.inl (z43.1, p177, p178, (IntKind.i64.wrap (p179 + 1))))))) else (some (.inl (p176, p177, p178, (IntKind.i64.wrap (p179 + 1)))))))))))
theorem f60_l1_j3_ok {d : Nat} (hd : 6 ≤ d) (a1 : List UInt8) (a2 : Gworker) {r : (Gworker × (List GTok) × Int × Int) ⊕ Gworker} {Q : PQ} (hQ : FQ (finL (f60_l1_H a1 a2) (f60_l1_X a1 a2) r) Q) (p176 : Gworker) (p177 : List GTok) (p178 : Int) (p179 : Int) (hS : f60_l1_j3 a1 a2 p176 p177 p178 p179 = some r) {st : St} (he : keepSt [0, 29, 30, 31, 1000001, 1000002, 1000003, 1000004, 1000005] [(0, .id 0), (1, .id 1), (2, .id 2), (3, .id 3), (4, .id 4), (5, .id 5), (168, .id 168)] [] st = f60_l1_j3_J a1 a2 p176 p177 p178 p179) : ZR (lev codes baseL (d - 1)) Q c60_1 [] st := by
 refine zrKeep he ?_
 unfold f60_l1_j3 at hS
 refine zrSeq (zrBlk (zrSeq (zrReg ?_)))
 refine bindE hS (fun m39 hm39 hS => zO (v := (.r (.ptr 168 0 ((0 + m39) * 4)))) (ups := []) (some 33) 1 (.ixS 201 4 (tm 29) (tm 31)) (ev_ixM (kk := .i64) (b := 168) (g := 0) (l := 0) (n := p177.length) (j := p179) (cs := e_GTok.cells p177) (by kernel_rfl) (by kernel_rfl) (by kernel_rfl) hm39) (bindE hS (fun z40 hz40 hS => zO (v := (.agg ((dI z40.Kind) :: ((dI z40.Cmd) :: ((dI z40.Opt) :: ((.d (.str z40.Data)) :: [])))))) (ups := []) (some 34) 2 (lt 4 33) (ev_loadM e_GTok (b := 168) (g := 0) (o := (0 + m39) * 4) (e := 201) (k := 4) (m := m39) (fo := 0) (xs := p177) (by kernel_rfl) (by kernel_rfl) (by rw [Nat.zero_add]; rfl) hz40 (by kernel_rfl) (by kernel_rfl) (by kernel_rfl)) (zL 2 4 (zE (zkSeq ?_))))))
 refine zrBlk (zrSeq (zrReg (zL 2 2 ?_)))
 refine sB 38 3 (ck 37 1) hS (fun hS => ?_) (fun hS => ?_)
 ·cases hS
 ·refine zL 1 4 (zE (zkSeq (zF (zrSeq (zrReg (zL 2 2 ?_))))))
  refine sB 46 3 (ck 45 2) hS (fun hS => ?_) (fun hS => ?_)
  ·cases hS
  ·refine zL 6 9 (zE (zkSeq (zF (zrSeq (zrReg (zL 2 2 ?_))))))
   refine sB 57 3 (ck 56 3) hS (fun hS => ?_) (fun hS => ?_)
   ·refine zL 1 4 (zE (zkSeq (zT ?_)))
    refine zrRegD (zdR 7 7 (bindE hS (fun z41 hz41 hS => zdO (some 65) 8 none (.call 104 [(tm 63), (tm 64)]) (ev_cA (f104_ok (d - 1) (dpt hd rfl) p176.Client.Neg z40 z41 hz41)) (zdR 2 10 (bindE hS (fun z42 hz42 hS => zdO (some 68) 11 none (.callr 70 [(tm 58), (tm 66), (tm 67)]) (ev_cR [0, 1, 2, 3, 4, 5] (f70_ok (d - 1) (dpt hd rfl) z41.1 z41.2 p176 z42 hz42)) (zdE (zkBlk (zkBlk (zkSeq (zrReg (zL 2 2 (zE ?_)))))))))))))
    exact zkNil (eN1 hS hQ)
   ·refine zL 1 4 (zE (zkSeq (zF (zrSeq (zrReg (zL 2 2 ?_))))))
    refine sB 72 3 (ck 71 4) hS (fun hS => ?_) (fun hS => ?_)
    ·refine zL 4 7 (bindE hS (fun z43 hz43 hS => zG (some 77) 8 73 true (.callr 67 [(tm 74), (tm 76)]) (ev_cR [0, 1, 2, 3, 4, 5] (f67_ok (d - 1) (dpt hd rfl) z40.Opt p176 z43 hz43)) (zL 2 10 (zE (zkSeq ?_)))))
     refine sR 69 hS (fun hS => ?_) (fun hS => ?_)
     ·refine zT (zrReg (zL 2 2 ?_))
      refine bindE hS (fun z44 hz44 hS => zO (some 81) 3 (.callr 105 [(tm 79), (tm 80)]) (ev_cR [0, 1, 2, 3, 4, 5] (f105_ok (d - 1) (dpt hd rfl) z40 z43.1 z44 hz44)) (zE (zkBlk (zkBlk (zkSeq (zrReg (zL 2 2 (zE ?_))))))))
      exact zkNil (eN1 hS hQ)
     ·refine zF (zrSkip (zkBlk (zkBlk (zkSeq (zrReg (zL 2 2 (zE ?_)))))))
      exact zkNil (eN1 hS hQ)
    ·refine zL 7 10 (zE (zkSeq (zF ?_)))
     refine zrSkip (zkBlk (zkBlk (zkSeq (zrReg (zL 2 2 (zE ?_))))))
     exact zkNil (eN1 hS hQ)
def f60_l1_j2_J (a1 : List UInt8) (a2 : Gworker) (p171 : Gworker) (p172 : List GTok) (p173 : Int) (p174 : Int) (p175 : Bool) : St := ⟨(up (up (up (up (up (up (up (up (up (up u0 1000005 .un) 1000004 .un) 1000003 .un) 1000002 .un) 1000001 .un) 32 (dB p175)) 31 (dI p174)) 30 (dI p173)) 29 (.r (.msl 168 0 0 p172.length))) 0 (pt 0)), (up (up (up (up (up (up (up h0 168 ⟨0, some (.own 201 4 (e_GTok.cells p172))⟩) 5 ⟨1, some (go4_Gworker p171)⟩) 4 ⟨1, some (go3_Gworker p171)⟩) 3 ⟨1, some (go2_Gworker p171)⟩) 2 ⟨1, some (go1_Gworker p171)⟩) 1 ⟨1, some (go0_Gworker p171)⟩) 0 ⟨0, some (.box (bm_Gworker p171 1 1 2 1 3 1 4 1 5 1))⟩)⟩
def f60_l1_j2 (a1 : List UInt8) (a2 : Gworker) (p171 : Gworker) (p172 : List GTok) (p173 : Int) (p174 : Int) (p175 : Bool) : Option ((Gworker × (List GTok) × Int × Int) ⊕ Gworker) := (bif p175 then (f60_l1_j3 a1 a2 p171 p172 p173 p174) else (some (.inr p171)))
theorem f60_l1_j2_ok {d : Nat} (hd : 6 ≤ d) (a1 : List UInt8) (a2 : Gworker) {r : (Gworker × (List GTok) × Int × Int) ⊕ Gworker} {Q : PQ} (hQ : FQ (finL (f60_l1_H a1 a2) (f60_l1_X a1 a2) r) Q) (p171 : Gworker) (p172 : List GTok) (p173 : Int) (p174 : Int) (p175 : Bool) (hS : f60_l1_j2 a1 a2 p171 p172 p173 p174 p175 = some r) {st : St} (he : keepSt [0, 29, 30, 31, 32, 1000001, 1000002, 1000003, 1000004, 1000005] [(0, .id 0), (1, .id 1), (2, .id 2), (3, .id 3), (4, .id 4), (5, .id 5), (168, .id 168)] [] st = f60_l1_j2_J a1 a2 p171 p172 p173 p174 p175) : ZR (lev codes baseL (d - 1)) Q c60_2 [] st := by
 refine zrKeep he ?_
 unfold f60_l1_j2 at hS
 refine zrSeq (sR 32 hS (fun hS => ?_) (fun hS => ?_))
 ·exact zT (zrSkip (zkSeq (f60_l1_j3_ok hd a1 a2 hQ p171 p172 p173 p174 hS (by kernel_rfl))))
 ·exact zF (zrKeep (J := f60_l1_e0_J a1 a2 p171) (by kernel_rfl) (zrExit (zkSeqX (zkNil (eX0 hS hQ)))))
def f60_l1 (a1 : List UInt8) (a2 : Gworker) (x : Gworker × (List GTok) × Int × Int) : Option ((Gworker × (List GTok) × Int × Int) ⊕ Gworker) := (bif (decide (x.2.2.2 < x.2.2.1)) then (f60_l1_j2 a1 a2 x.1 x.2.1 x.2.2.1 x.2.2.2 true) else (f60_l1_j2 a1 a2 x.1 x.2.1 x.2.2.1 x.2.2.2 false))
theorem f60_l1_ok {d : Nat} (hd : 6 ≤ d) (a1 : List UInt8) (a2 : Gworker) {r : (Gworker × (List GTok) × Int × Int) ⊕ Gworker} {Q : PQ} (hQ : FQ (finL (f60_l1_H a1 a2) (f60_l1_X a1 a2) r) Q) {x : Gworker × (List GTok) × Int × Int} (hS : f60_l1 a1 a2 x = some r) {st : St} (he : f60_l1_H a1 a2 x st) : ZR (lev codes baseL (d - 1)) Q c60_3 [] st := by
 refine zrKeep he ?_
 unfold f60_l1 at hS
 refine zrSeq (zrReg ?_)
 refine sB 32 1 (.cmpI .lss (tm 31) (tm 30)) hS (fun hS => ?_) (fun hS => ?_)
 ·refine zE (zkSeq ?_)
  exact f60_l1_j2_ok hd a1 a2 hQ x.1 x.2.1 x.2.2.1 x.2.2.2 true hS (by kernel_rfl)
 ·refine zE (zkSeq ?_)
  exact f60_l1_j2_ok hd a1 a2 hQ x.1 x.2.1 x.2.2.1 x.2.2.2 false hS (by kernel_rfl)
def f60_j0_J (a1 : List UInt8) (a2 : Gworker) : St := ⟨(up (up (up (up (up (up (up u0 1000005 .un) 1000004 .un) 1000003 .un) 1000002 .un) 1000001 .un) 1 (.d (.str a1))) 0 (pt 0)), (up (up (up (up (up (up h0 5 ⟨1, some (go4_Gworker a2)⟩) 4 ⟨1, some (go3_Gworker a2)⟩) 3 ⟨1, some (go2_Gworker a2)⟩) 2 ⟨1, some (go1_Gworker a2)⟩) 1 ⟨1, some (go0_Gworker a2)⟩) 0 ⟨0, some (.box (bm_Gworker a2 1 1 2 1 3 1 4 1 5 1))⟩)⟩
def f60_j0 (a1 : List UInt8) (a2 : Gworker) : Option (Gworker) := ((f102 a2.Client.Wire a1).bind fun z20 => ((loopO (f60_l1 a1 a2) ((Gworker.mk ({ a2.Client with Wire := z20.1 }) a2.sent), z20.2.1, (z20.2.1.length : Int), 0)).bind fun z45 => (some z45)))
theorem f60_j0_ok {d : Nat} (hd : 6 ≤ d) (a1 : List UInt8) (a2 : Gworker) {r : Gworker} {Q : PQ} (hQ : FQ (f60_Q r) Q)  (hS : f60_j0 a1 a2 = some r) {st : St} (he : keepSt [0, 1, 1000001, 1000002, 1000003, 1000004, 1000005] [(0, .id 0), (1, .id 1), (2, .id 2), (3, .id 3), (4, .id 4), (5, .id 5)] [] st = f60_j0_J a1 a2) : ZR (lev codes baseL (d - 1)) Q c60_4 [] st := by
 refine zrKeep he ?_
 unfold f60_j0 at hS
 refine zrSeq (zrReg (zL 6 6 ?_))
 refine bindE hS (fun z20 hz20 hS => zO (some 20) 7 (.call 102 [(tm 18), (tm 19)]) (ev_cA (f102_ok (d - 1) (dpt hd rfl) a2.Client.Wire a1 z20 hz20)) (zL 8 15 (zE (zkSeq (zrSeq (zrReg (zL 6 6 (zE (zkSeq (zrSeq (zrSeq (zrReg (zL 3 3 (zE (zkSeq ?_)))))))))))))))
 refine zrBlk (bindE hS (fun z45 hz45 hS => zrLoop (f60_l1_H a1 a2) (f60_l1_X a1 a2) (fun x st r Q h0 hS hQ => f60_l1_ok hd a1 a2 hQ hS h0) (x := ((Gworker.mk ({ a2.Client with Wire := z20.1 }) a2.sent), z20.2.1, (z20.2.1.length : Int), 0)) (z := z45) (by show keepSt _ _ _ _ = _; kernel_rfl) hz45 ?_))
 intro e st' _ hX
 obtain ⟨rfl, rfl⟩ : _ ∧ _ := hX
 refine zkBlkX (zkSeq (zrSeq (zrReg (zL 1 1 (zE (zkSeq ?_))))))
 exact zrRet (zkNil (endQ hS hQ (fR (f60_out z45))))
def f60 (a1 : List UInt8) (a2 : Gworker) : Option (Gworker) := (bif (decide (4096 < (a1.length : Int))) then none else (f60_j0 a1 a2 ))
theorem f60_ok (d : Nat) (hd : 6 ≤ d) (a1 : List UInt8) (a2 : Gworker) (r : Gworker) (hS : f60 a1 a2 = some r) : lev codes baseL d 60 [(pt 0), (.d (.str a1))] (gb_Gworker a2 1 2 3 4 5) = some ((dI 0), (gb_Gworker r 1 2 3 4 5)) := by
 refine lev_go codes60 rfl rfl (Nat.le_trans (Nat.le_of_ble_eq_true rfl) hd) fun Q hQ => ?_
 unfold f60 at hS
 show ZR _ Q c60_b [] _
 replace hQ : FQ (f60_Q r) Q := hQ
 refine zrSeq (zrReg (zL 1 1 (zE (zkSeq (zrSeq (zrSeq (zrReg (zL 2 2 ?_))))))))
 refine sB 12 3 (.cmpI .gtr (tm 11) (ki 4096)) hS (fun hS => ?_) (fun hS => ?_)
 ·cases hS
 ·refine zE (zkSeq (zF ?_))
  exact zrSkip (zkSeq (f60_j0_ok hd a1 a2 hQ  hS (by kernel_rfl)))
/- farwriter/qneg.Ask -/
def f119_fin (p13 : Int) (p14 : Int) (p15 : Int) : St := ⟨(up (up (up u0 6 (dI p15)) 5 (dI p14)) 4 (dI p13)), h0⟩
theorem f119_out (p13 : Int) (p14 : Int) (p15 : Int) : outR (f119_fin p13 p14 p15) 0 c119.res = some ((.tup [(dI p13), (dI p14), (dI p15)]), []) := by
 kernel_rfl
def f119_Q (r : Int × Int × Int) (e : PX) (st : St) : Prop := DoneF c119 0 ((.tup [(dI r.1), (dI r.2.1), (dI r.2.2)]), []) e st
def f119_j5_J (a1 : Int) (a2 : Bool) : St := ⟨(up (up u0 1 (dB a2)) 0 (dI a1)), h0⟩
def f119_j5 (a1 : Int) (a2 : Bool) : Option (Int × Int × Int) := (bif (!a2) then (bif (decide (a1 = 4)) then (some (5, 0, 0)) else (some (a1, 0, 7))) else (some (a1, 0, 7)))
theorem f119_j5_ok {d : Nat} (hd : 2 ≤ d) (a1 : Int) (a2 : Bool) {r : Int × Int × Int} {Q : PQ} (hQ : FQ (f119_Q r) Q)  (hS : f119_j5 a1 a2 = some r) {st : St} (he : keepSt [0, 1] [] [] st = f119_j5_J a1 a2) : ZR (lev codes baseL (d - 1)) Q c119_1 [.blk 0, .seq c119_2] st := by
 refine zrKeep he ?_
 unfold f119_j5 at hS
 refine zrSeq (zrReg (zL 3 3 ?_))
 refine sL 46 hS (fun hS => ?_) (fun hS => ?_)
 ·refine zL 1 4 (sH 48 5 46 true (ck 47 4) hS (fun hS => ?_) (fun hS => ?_))
  ·refine zL 2 7 (zE (zkSeq (zT (zrSeq (zrReg (zL 3 3 (zE (zkSeq ?_))))))))
   exact zrRet (zkBlkR (zkSeqR (zkNil (endQ hS hQ (fR (f119_out 5 0 0))))))
  ·refine zL 2 7 (zE (zkSeq (zF ?_)))
   refine zrSkip (zkBlk (zkSeq (zrSeq (zrReg (zL 4 4 (zE (zkSeq ?_)))))))
   exact zrRet (zkNil (endQ hS hQ (fR (f119_out a1 0 7))))
 ·refine zL 4 7 (zE (zkSeq (zF ?_)))
  refine zrSkip (zkBlk (zkSeq (zrSeq (zrReg (zL 4 4 (zE (zkSeq ?_)))))))
  exact zrRet (zkNil (endQ hS hQ (fR (f119_out a1 0 7))))
def f119_j4_J (a1 : Int) (a2 : Bool) : St := ⟨(up (up u0 1 (dB a2)) 0 (dI a1)), h0⟩
def f119_j4 (a1 : Int) (a2 : Bool) : Option (Int × Int × Int) := (bif (!a2) then (bif (decide (a1 = 3)) then (some (2, 0, 0)) else (f119_j5 a1 a2 )) else (f119_j5 a1 a2 ))
theorem f119_j4_ok {d : Nat} (hd : 2 ≤ d) (a1 : Int) (a2 : Bool) {r : Int × Int × Int} {Q : PQ} (hQ : FQ (f119_Q r) Q)  (hS : f119_j4 a1 a2 = some r) {st : St} (he : keepSt [0, 1] [] [] st = f119_j4_J a1 a2) : ZR (lev codes baseL (d - 1)) Q c119_3 [.blk 0, .seq c119_2] st := by
 refine zrKeep he ?_
 unfold f119_j4 at hS
 refine zrSeq (zrReg (zL 3 3 ?_))
 refine sL 39 hS (fun hS => ?_) (fun hS => ?_)
 ·refine zL 1 4 (sH 41 5 39 true (ck 40 3) hS (fun hS => ?_) (fun hS => ?_))
  ·refine zL 2 7 (zE (zkSeq (zT (zrSeq (zrReg (zL 3 3 (zE (zkSeq ?_))))))))
   exact zrRet (zkBlkR (zkSeqR (zkNil (endQ hS hQ (fR (f119_out 2 0 0))))))
  ·refine zL 2 7 (zE (zkSeq (zF ?_)))
   exact f119_j5_ok hd a1 a2 hQ  hS (by kernel_rfl)
 ·refine zL 4 7 (zE (zkSeq (zF ?_)))
  exact f119_j5_ok hd a1 a2 hQ  hS (by kernel_rfl)
def f119_j3_J (a1 : Int) (a2 : Bool) : St := ⟨(up (up u0 1 (dB a2)) 0 (dI a1)), h0⟩
def f119_j3 (a1 : Int) (a2 : Bool) : Option (Int × Int × Int) := (bif (!a2) then (bif (decide (a1 = 1)) then (some (2, 2, 0)) else (f119_j4 a1 a2 )) else (f119_j4 a1 a2 ))
theorem f119_j3_ok {d : Nat} (hd : 2 ≤ d) (a1 : Int) (a2 : Bool) {r : Int × Int × Int} {Q : PQ} (hQ : FQ (f119_Q r) Q)  (hS : f119_j3 a1 a2 = some r) {st : St} (he : keepSt [0, 1] [] [] st = f119_j3_J a1 a2) : ZR (lev codes baseL (d - 1)) Q c119_4 [.blk 0, .seq c119_2] st := by
 refine zrKeep he ?_
 unfold f119_j3 at hS
 refine zrSeq (zrReg (zL 3 3 ?_))
 refine sL 32 hS (fun hS => ?_) (fun hS => ?_)
 ·refine zL 1 4 (sH 34 5 32 true (ck 33 1) hS (fun hS => ?_) (fun hS => ?_))
  ·refine zL 2 7 (zE (zkSeq (zT (zrSeq (zrReg (zL 3 3 (zE (zkSeq ?_))))))))
   exact zrRet (zkBlkR (zkSeqR (zkNil (endQ hS hQ (fR (f119_out 2 2 0))))))
  ·refine zL 2 7 (zE (zkSeq (zF ?_)))
   exact f119_j4_ok hd a1 a2 hQ  hS (by kernel_rfl)
 ·refine zL 4 7 (zE (zkSeq (zF ?_)))
  exact f119_j4_ok hd a1 a2 hQ  hS (by kernel_rfl)
def f119_j2_J (a1 : Int) (a2 : Bool) : St := ⟨(up (up u0 1 (dB a2)) 0 (dI a1)), h0⟩
def f119_j2 (a1 : Int) (a2 : Bool) : Option (Int × Int × Int) := (bif a2 then (bif (decide (a1 = 5)) then (some (4, 0, 0)) else (f119_j3 a1 a2 )) else (f119_j3 a1 a2 ))
theorem f119_j2_ok {d : Nat} (hd : 2 ≤ d) (a1 : Int) (a2 : Bool) {r : Int × Int × Int} {Q : PQ} (hQ : FQ (f119_Q r) Q)  (hS : f119_j2 a1 a2 = some r) {st : St} (he : keepSt [0, 1] [] [] st = f119_j2_J a1 a2) : ZR (lev codes baseL (d - 1)) Q c119_5 [.blk 0, .seq c119_2] st := by
 refine zrKeep he ?_
 unfold f119_j2 at hS
 refine zrSeq (zrReg (zL 2 2 ?_))
 refine sL 25 hS (fun hS => ?_) (fun hS => ?_)
 ·refine zL 1 3 (sH 27 4 25 true (ck 26 5) hS (fun hS => ?_) (fun hS => ?_))
  ·refine zL 2 6 (zE (zkSeq (zT (zrSeq (zrReg (zL 3 3 (zE (zkSeq ?_))))))))
   exact zrRet (zkBlkR (zkSeqR (zkNil (endQ hS hQ (fR (f119_out 4 0 0))))))
  ·refine zL 2 6 (zE (zkSeq (zF ?_)))
   exact f119_j3_ok hd a1 a2 hQ  hS (by kernel_rfl)
 ·refine zL 4 6 (zE (zkSeq (zF ?_)))
  exact f119_j3_ok hd a1 a2 hQ  hS (by kernel_rfl)
def f119_j1_J (a1 : Int) (a2 : Bool) : St := ⟨(up (up u0 1 (dB a2)) 0 (dI a1)), h0⟩
def f119_j1 (a1 : Int) (a2 : Bool) : Option (Int × Int × Int) := (bif a2 then (bif (decide (a1 = 2)) then (some (3, 0, 0)) else (f119_j2 a1 a2 )) else (f119_j2 a1 a2 ))
theorem f119_j1_ok {d : Nat} (hd : 2 ≤ d) (a1 : Int) (a2 : Bool) {r : Int × Int × Int} {Q : PQ} (hQ : FQ (f119_Q r) Q)  (hS : f119_j1 a1 a2 = some r) {st : St} (he : keepSt [0, 1] [] [] st = f119_j1_J a1 a2) : ZR (lev codes baseL (d - 1)) Q c119_6 [.blk 0, .seq c119_2] st := by
 refine zrKeep he ?_
 unfold f119_j1 at hS
 refine zrSeq (zrReg (zL 2 2 ?_))
 refine sL 19 hS (fun hS => ?_) (fun hS => ?_)
 ·refine zL 1 3 (sH 21 4 19 true (ck 20 2) hS (fun hS => ?_) (fun hS => ?_))
  ·refine zL 2 6 (zE (zkSeq (zT (zrSeq (zrReg (zL 3 3 (zE (zkSeq ?_))))))))
   exact zrRet (zkBlkR (zkSeqR (zkNil (endQ hS hQ (fR (f119_out 3 0 0))))))
  ·refine zL 2 6 (zE (zkSeq (zF ?_)))
   exact f119_j2_ok hd a1 a2 hQ  hS (by kernel_rfl)
 ·refine zL 4 6 (zE (zkSeq (zF ?_)))
  exact f119_j2_ok hd a1 a2 hQ  hS (by kernel_rfl)
def f119_j0_J (a1 : Int) (a2 : Bool) : St := ⟨(up (up u0 1 (dB a2)) 0 (dI a1)), h0⟩
def f119_j0 (a1 : Int) (a2 : Bool) : Option (Int × Int × Int) := (bif a2 then (bif (decide (a1 = 0)) then (some (4, 1, 0)) else (f119_j1 a1 a2 )) else (f119_j1 a1 a2 ))
theorem f119_j0_ok {d : Nat} (hd : 2 ≤ d) (a1 : Int) (a2 : Bool) {r : Int × Int × Int} {Q : PQ} (hQ : FQ (f119_Q r) Q)  (hS : f119_j0 a1 a2 = some r) {st : St} (he : keepSt [0, 1] [] [] st = f119_j0_J a1 a2) : ZR (lev codes baseL (d - 1)) Q c119_7 [] st := by
 refine zrKeep he ?_
 unfold f119_j0 at hS
 refine zrSeq (zrBlk (zrSeq (zrReg (zL 2 2 ?_))))
 refine sL 13 hS (fun hS => ?_) (fun hS => ?_)
 ·refine zL 1 3 (sH 15 4 13 true (ck 14 0) hS (fun hS => ?_) (fun hS => ?_))
  ·refine zL 2 6 (zE (zkSeq (zT (zrSeq (zrReg (zL 3 3 (zE (zkSeq ?_))))))))
   exact zrRet (zkBlkR (zkSeqR (zkNil (endQ hS hQ (fR (f119_out 4 1 0))))))
  ·refine zL 2 6 (zE (zkSeq (zF ?_)))
   exact f119_j1_ok hd a1 a2 hQ  hS (by kernel_rfl)
 ·refine zL 4 6 (zE (zkSeq (zF ?_)))
  exact f119_j1_ok hd a1 a2 hQ  hS (by kernel_rfl)
def f119 (a1 : Int) (a2 : Bool) : Option (Int × Int × Int) := ((f101 a1).bind fun z3 => (bif (!z3) then (some (a1, 0, 1)) else (f119_j0 a1 a2 )))
theorem f119_ok (d : Nat) (hd : 2 ≤ d) (a1 : Int) (a2 : Bool) (r : Int × Int × Int) (hS : f119 a1 a2 = some r) : lev codes baseL d 119 [(dI a1), (dB a2)] [] = some ((.tup [(dI r.1), (dI r.2.1), (dI r.2.2)]), []) := by
 refine lev_go codes119 rfl rfl (Nat.le_trans (Nat.le_of_ble_eq_true rfl) hd) fun Q hQ => ?_
 unfold f119 at hS
 show ZR _ Q c119_b [] _
 replace hQ : FQ (f119_Q r) Q := hQ
 refine zrSeq (zrReg (zL 3 3 (zE (zkSeq (zrSeq (zrSeq (zrReg (zL 1 1 ?_))))))))
 refine bindE hS (fun z3 hz3 hS => zO (some 8) 2 (c1 101 7) (ev_cA (f101_ok (d - 1) (dpt hd rfl) a1 z3 hz3)) (zL 1 3 (zE (zkSeq ?_))))
 refine sR 9 hS (fun hS => ?_) (fun hS => ?_)
 ·refine zT (zrSeq (zrReg (zL 4 4 (zE (zkSeq ?_)))))
  exact zrRet (zkSeqR (zkNil (endQ hS hQ (fR (f119_out a1 0 1)))))
 ·exact zF (zrSkip (zkSeq (f119_j0_ok hd a1 a2 hQ  hS (by kernel_rfl))))
end
end Go.Proofs.YtobkkblijfhpoaaGreatDoor.Pm
